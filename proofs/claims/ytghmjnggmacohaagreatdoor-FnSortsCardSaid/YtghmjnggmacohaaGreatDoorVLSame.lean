/- Lists compared, edits and lines compared. -/
import Derived.Test.YtghmjnggmacohaaGreatDoorVLFl
namespace Go.Proofs.YtghmjnggmacohaaGreatDoor.L
open Go Go.VM
set_option maxRecDepth 100000
set_option maxHeartbeats 4000000
set_option linter.unusedSimpArgs false
set_option linter.unusedVariables false
open Classical in
noncomputable def spSameSet : VM.Spec := { modes := [.rd, .rd], run := fun | [.lst 2 x', .lst 2 y'] => (decL Range.dec x').bind fun x => (decL Range.dec y').bind fun y => if x.length ≤ 4194304 ∧ y.length ≤ 4194304 then some (.bool (decide (x = y)), []) else none | _ => none, need := [] }
attribute [go_sem] spSameSet
open Classical in
noncomputable def spSameMails : VM.Spec := { modes := [.rd, .rd], run := fun | [.lst 4 x', .lst 4 y'] => (decL Mail.dec x').bind fun x => (decL Mail.dec y').bind fun y => if x.length ≤ 4194304 ∧ y.length ≤ 4194304 then some (.bool (decide (x = y)), []) else none | _ => none, need := [] }
attribute [go_sem] spSameMails
open Classical in
noncomputable def spSameInts : VM.Spec := { modes := [.rd, .rd], run := fun | [.lst 1 x', .lst 1 y'] => (decL dInt x').bind fun x => (decL dInt y').bind fun y => if x.length ≤ 4194304 ∧ y.length ≤ 4194304 then some (.bool (decide (x = y)), []) else none | _ => none, need := [] }
attribute [go_sem] spSameInts
theorem spSameInts_in {ins : List V} {r : V} {outs : List V} (h : spSameInts.run ins = some (r, outs)) : ∃ (x : (List Int)) (y : (List Int)), ins = [.lst 1 ((x).map eInt), .lst 1 ((y).map eInt)] ∧ (x.length ≤ 4194304 ∧ y.length ≤ 4194304) ∧ .bool (decide (x = y)) = r ∧ outs = [] := by
  unfold spSameInts at h
  simp only at h
  split at h
  · rename_i x' y'
    simp only [Option.bind_eq_some_iff] at h
    obtain ⟨x, h_x, y, h_y, h⟩ := h
    split at h
    case isFalse => cases h
    rename_i hc
    simp only [Option.some.injEq, Prod.mk.injEq] at h
    obtain ⟨h1, h2⟩ := h
    have h_x := decL_some (fun _ _ h => dInt_some h) h_x
    subst h_x
    have h_y := decL_some (fun _ _ h => dInt_some h) h_y
    subst h_y
    exact ⟨x, y, rfl, hc, h1, h2.symm⟩
  · cases h
def T_laws_sameInts : Hints := ⟨lk [(6, [])], lk [(4, [0, 1, 5])], lk [(0, [0, 1]), (1, [0, 1, 10]), (2, [4]), (3, [0, 1, 5]), (4, [0, 1, 5, 14]), (6, [0, 1, 5, 25]), (7, [4]), (5, [0, 1, 5]), (8, [4])], lk [], lf []⟩
noncomputable def Phi_laws_sameInts : Tab := lk []
attribute [go_sem] T_laws_sameInts Phi_laws_sameInts
theorem phi_laws_sameInts : ∀ f sp, Phi_laws_sameInts f = some sp → FnOk Tryz.prog f sp ∧ ∀ n ∈ sp.need, n ∈ ([] : List String) := phi_nil
theorem ok_laws_sameInts : FnOk Tryz.prog 25 spSameInts := by
  refine fn_ok (Φ := Phi_laws_sameInts) (T := T_laws_sameInts) phi_laws_sameInts mixed Tryz.func25 rfl rfl rfl (by decide) ?_
  intro ins r outs hr hl
  clear hl
  have hs := spSameInts_in hr
  clear hr
  obtain ⟨x, y, rfl, hc, hr, rfl⟩ := hs
  simp only [spSameInts, Tryz.f25, Go.VM.initS]
  obtain ⟨hx, hy⟩ := hc
  by_cases hl : x.length = y.length
  case neg =>
    have g : ((x.length : Int) == y.length) = false := by rw [beq_eq_false_iff_ne]; omega
    have g' : ((x.length : Int) != y.length) = true := by rw [bne_iff_ne]; omega
    have hne : x ≠ y := fun e => hl (by rw [e])
    simp only [g, g', go_sem]
    repeat' ((first | ((first | apply qa | apply qb | apply qc | apply qd | apply qe | apply qf | apply qg | apply qh | apply qi | apply qj | apply qk) <;> intro hp) | ((first | refine ql rfl rfl (by decide +kernel) ?_ | refine qm _ rfl rfl (by decide +kernel) ?_) <;> have hp := True.intro)) <;> simp only [hp, g, g', go_sem])
    simp only [fin_mk, finV, resL, resV1, resIn, endA, listIn, Option.some_or, Option.none_or, oneOrTup, go_sem]
    rw [← hr]
    simp only [hne, decide_false]
  have hl' : (x.length : Int) = y.length := by omega
  simp only [hl, bne_self_eq_false, go_sem]
  repeat' ((first | ((first | apply qa | apply qb | apply qc | apply qd | apply qe | apply qf | apply qg | apply qh | apply qi | apply qj | apply qk) <;> intro hp) | ((first | refine ql rfl rfl (by decide +kernel) ?_ | refine qm _ rfl rfl (by decide +kernel) ?_) <;> have hp := True.intro)) <;> simp only [hp, hl, bne_self_eq_false, go_sem])
  refine loop_go (fun i : Nat => [(5, .int .i64 (i : Int))]) (fun _ => []) (fun i => x.length - i) (fun i => i ≤ x.length ∧ x.take i = y.take i) 0 ⟨Nat.zero_le _, by simp⟩ rfl rfl ?_
  intro i ⟨hi, he⟩ ih
  rcases Nat.lt_or_ge i x.length with h | h
  · have g1 : (i : Int) < x.length := by omega
    have g1' : (i : Int) < y.length := by omega
    have g2 : (0 : Int) ≤ i := by omega
    have g3 : x[i]? = some x[i] := List.getElem?_eq_getElem h
    have g4 : y[i]? = some (y[i]'(by omega)) := List.getElem?_eq_getElem (by omega)
    have g5 := wrap_succ h (by omega)
    by_cases hv : x[i] = (y[i]'(by omega))
    · simp only [g1, g1', g2, g3, g4, g5, hv, bne_self_eq_false, go_sem]
      repeat' ((first | ((first | apply qa | apply qb | apply qc | apply qd | apply qe | apply qf | apply qg | apply qh | apply qi | apply qj | apply qk) <;> intro hp) | ((first | refine ql rfl rfl (by decide +kernel) ?_ | refine qm _ rfl rfl (by decide +kernel) ?_) <;> have hp := True.intro)) <;> simp only [hp, g1, g1', g2, g3, g4, g5, hv, bne_self_eq_false, go_sem])
      exact ih (i + 1) ⟨h, by rw [List.take_add_one, List.take_add_one, he, g3, g4, hv]⟩ (by omega)
    · have hne : x ≠ y := by rintro rfl; exact hv rfl
      have hv2 : (x[i] != (y[i]'(by omega))) = true := by rw [bne_iff_ne]; exact hv
      simp only [g1, g1', g2, g3, g4, g5, hv2, go_sem]
      repeat' ((first | ((first | apply qa | apply qb | apply qc | apply qd | apply qe | apply qf | apply qg | apply qh | apply qi | apply qj | apply qk) <;> intro hp) | ((first | refine ql rfl rfl (by decide +kernel) ?_ | refine qm _ rfl rfl (by decide +kernel) ?_) <;> have hp := True.intro)) <;> simp only [hp, g1, g1', g2, g3, g4, g5, hv2, go_sem])
      simp only [fin_mk, finV, resL, resV1, resIn, endA, listIn, Option.some_or, Option.none_or, oneOrTup, go_sem]
      rw [← hr]
      simp only [hne, decide_false]
  · have g1 : ¬ (i : Int) < x.length := by omega
    have g1' : ¬ (i : Int) < y.length := by omega
    simp only [g1, g1', go_sem]
    simp only [fin_mk, finV, resL, resV1, resIn, endA, listIn, Option.some_or, Option.none_or, oneOrTup, go_sem]
    rw [← hr]
    rw [List.take_of_length_le h, List.take_of_length_le (by omega)] at he
    simp only [he, decide_true]
def sameE (a b : Edit) : Bool := decide (a = b)
open Classical in
noncomputable def spSameEdit : VM.Spec := { modes := [.rd, .rd], run := fun | [x', y'] => (Edit.dec x').bind fun x => (Edit.dec y').bind fun y => if x.le 4194304 ∧ y.le 4194304 then some (.bool (sameE x y), []) else none | _ => none, need := [] }
attribute [go_sem] spSameEdit
def sameL (a b : Line) : Bool := decide (a = b)
open Classical in
noncomputable def spSameLine : VM.Spec := { modes := [.rd, .rd], run := fun | [x', y'] => (Line.dec x').bind fun x => (Line.dec y').bind fun y => if x.le 4194304 ∧ y.le 4194304 then some (.bool (sameL x y), []) else none | _ => none, need := [] }
attribute [go_sem] spSameLine
end Go.Proofs.YtghmjnggmacohaaGreatDoor.L
