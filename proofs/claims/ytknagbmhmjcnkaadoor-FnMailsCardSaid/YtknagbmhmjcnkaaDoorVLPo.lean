/- Parts of texts. -/
import Derived.Test.YtknagbmhmjcnkaaDoorVLS
namespace Go.Proofs.YtknagbmhmjcnkaaDoor.L
open Go Go.VM
set_option maxRecDepth 100000
set_option maxHeartbeats 4000000
set_option linter.unusedSimpArgs false
set_option linter.unusedVariables false
def partT (t : List UInt8) (a n : Int) : List UInt8 := if 0 ≤ a ∧ a ≤ t.length ∧ 0 ≤ n then (t.drop a.toNat).take n.toNat else []
open Classical in
noncomputable def spPartOf : VM.Spec := { modes := [.rd, .rd, .rd], run := fun | [.str t, .int .i64 a, .int .i64 n] => if t.length ≤ 4194304 then some (.str (partT t a n), []) else none | _ => none, need := [] }
attribute [go_sem] spPartOf
theorem spPartOf_in {ins : List V} {r : V} {outs : List V} (h : spPartOf.run ins = some (r, outs)) : ∃ (t : (List UInt8)) (a : Int) (n : Int), ins = [.str t, .int .i64 a, .int .i64 n] ∧ (t.length ≤ 4194304) ∧ .str (partT t a n) = r ∧ outs = [] := by
  unfold spPartOf at h
  simp only at h
  split at h
  · rename_i t a n
    split at h
    case isFalse => cases h
    rename_i hc
    simp only [Option.some.injEq, Prod.mk.injEq] at h
    obtain ⟨h1, h2⟩ := h
    exact ⟨t, a, n, rfl, hc, h1, h2.symm⟩
  · cases h
def T_impl_PartOf : Hints := ⟨fun _ => none, fun _ => none, fun i => if i = 0 then some [0, 1, 2] else if i = 1 then some [0, 1, 2, 15] else if i = 2 then some [6] else if i = 3 then some [6] else none, fun _ => none⟩
noncomputable def Phi_impl_PartOf : Tab := fun f => if f = 36 then some spWithin else none
attribute [go_sem] T_impl_PartOf Phi_impl_PartOf
theorem phi_impl_PartOf : ∀ f sp, Phi_impl_PartOf f = some sp → FnOk Tryd.prog f sp ∧ ∀ n ∈ sp.need, n ∈ ([] : List String) := by
  intro f sp h
  unfold Phi_impl_PartOf at h
  by_cases e : f = 36
  · rw [if_pos e] at h; cases h; rw [e]; exact ⟨ok_impl_within, (fun n (h : n ∈ ([] : List String)) => (nomatch h))⟩
  rw [if_neg e] at h
  cases h
theorem ok_impl_PartOf : FnOk Tryd.prog 14 spPartOf := by
  refine fn_ok (Φ := Phi_impl_PartOf) (T := T_impl_PartOf) phi_impl_PartOf mixed Tryd.func14 rfl rfl rfl (by decide) ?_
  intro ins r outs hr hl
  clear hl
  have hs := spPartOf_in hr
  clear hr
  obtain ⟨t, a, n, rfl, hc, hr, rfl⟩ := hs
  simp only [spPartOf, Tryd.f14, Go.VM.initS]
  by_cases h : 0 ≤ a ∧ a ≤ t.length ∧ 0 ≤ n
  · rw [partT, if_pos h] at hr
    obtain ⟨h0, h1, h2⟩ := h
    obtain ⟨k, rfl⟩ : ∃ k : Nat, a = k := ⟨a.toNat, by omega⟩
    obtain ⟨m, rfl⟩ : ∃ m : Nat, n = m := ⟨n.toNat, by omega⟩
    simp only [Int.toNat_natCast] at hr
    have hw : within (k : Int) 0 t.length = true := by simp only [within, Bool.and_eq_true, decide_eq_true_eq]; omega
    have g1 : ¬ (m : Int) < 0 := by omega
    have g2 : IntKind.i64.wrap ((t.length : Int) - (k : Int)) = ((t.length - k : Nat) : Int) := (wrap64 (by omega) (by omega)).trans (by omega)
    have e0 : k ≤ t.length := by omega
    by_cases c : ((t.length - k : Nat) : Int) < m
    · have g3 : IntKind.i64.wrap ((k : Int) + ((t.length - k : Nat) : Int)) = ((t.length : Nat) : Int) := (wrap64 (by omega) (by omega)).trans (by omega)
      have e : (t.drop k).take m = t.drop k := List.take_of_length_le (by rw [List.length_drop]; omega)
      rw [e] at hr
      have e5 : (0 : Int) ≤ (t.length : Int) := by omega
      have c2 : ¬ (m : Int) < ((t.length - k : Nat) : Int) := by omega
      have c3 : min (m : Int) ((t.length - k : Nat) : Int) = ((t.length - k : Nat) : Int) := by omega
      simp only [hw, g1, g2, c, c2, c3, e5, g3, h0, e0, Nat.le_refl, List.take_length, go_sem]
      repeat' ((first | ((first | apply qa | apply qb | apply qc | apply qd | apply qe | apply qf | apply qg | apply qh | apply qi | apply qj | apply qk) <;> intro hp) | ((first | refine ql rfl rfl (by decide +kernel) ?_ | refine qm _ rfl rfl (by decide +kernel) ?_ | refine goes_opn rfl ?_ | refine goes_opnD rfl rfl (by decide +kernel) ?_) <;> have hp := True.intro)) <;> simp only [hp, hw, g1, g2, c, c2, c3, e5, g3, h0, e0, Nat.le_refl, List.take_length, go_sem])
      simp only [fin_mk, finV, resL, resV1, resIn, endA, listIn, Option.some_or, Option.none_or, oneOrTup, go_sem]
      rw [← hr]
    · have g3 : IntKind.i64.wrap ((k : Int) + (m : Int)) = ((k + m : Nat) : Int) := (wrap64 (by omega) (by omega)).trans (by omega)
      have e : (t.take (k + m)).drop k = (t.drop k).take m := by rw [List.drop_take]; congr 1; omega
      have e1 : k + m ≤ t.length := by omega
      have e2 : (0 : Int) ≤ ((k + m : Nat) : Int) := by omega
      have e3 : k ≤ k + m := by omega
      have c3 : min (m : Int) ((t.length - k : Nat) : Int) = (m : Int) := by omega
      simp only [hw, g1, g2, c, c3, g3, h0, e0, e, e1, e2, e3, go_sem]
      repeat' ((first | ((first | apply qa | apply qb | apply qc | apply qd | apply qe | apply qf | apply qg | apply qh | apply qi | apply qj | apply qk) <;> intro hp) | ((first | refine ql rfl rfl (by decide +kernel) ?_ | refine qm _ rfl rfl (by decide +kernel) ?_ | refine goes_opn rfl ?_ | refine goes_opnD rfl rfl (by decide +kernel) ?_) <;> have hp := True.intro)) <;> simp only [hp, hw, g1, g2, c, c3, g3, h0, e0, e, e1, e2, e3, go_sem])
      simp only [fin_mk, finV, resL, resV1, resIn, endA, listIn, Option.some_or, Option.none_or, oneOrTup, go_sem]
      rw [← hr]
  · rw [partT, if_neg h] at hr
    cases hw : within a 0 t.length with
    | false =>
      simp only [hw, go_sem]
      repeat' ((first | ((first | apply qa | apply qb | apply qc | apply qd | apply qe | apply qf | apply qg | apply qh | apply qi | apply qj | apply qk) <;> intro hp) | ((first | refine ql rfl rfl (by decide +kernel) ?_ | refine qm _ rfl rfl (by decide +kernel) ?_ | refine goes_opn rfl ?_ | refine goes_opnD rfl rfl (by decide +kernel) ?_) <;> have hp := True.intro)) <;> simp only [hp, hw, go_sem])
      simp only [fin_mk, finV, resL, resV1, resIn, endA, listIn, Option.some_or, Option.none_or, oneOrTup, go_sem]
      rw [← hr]
    | true =>
      have hw' := hw
      simp only [within, Bool.and_eq_true, decide_eq_true_eq] at hw'
      have g1 : n < 0 := by omega
      simp only [hw, g1, go_sem]
      repeat' ((first | ((first | apply qa | apply qb | apply qc | apply qd | apply qe | apply qf | apply qg | apply qh | apply qi | apply qj | apply qk) <;> intro hp) | ((first | refine ql rfl rfl (by decide +kernel) ?_ | refine qm _ rfl rfl (by decide +kernel) ?_ | refine goes_opn rfl ?_ | refine goes_opnD rfl rfl (by decide +kernel) ?_) <;> have hp := True.intro)) <;> simp only [hp, hw, g1, go_sem])
      simp only [fin_mk, finV, resL, resV1, resIn, endA, listIn, Option.some_or, Option.none_or, oneOrTup, go_sem]
      rw [← hr]
def T_spec_PartOf : Hints := ⟨fun _ => none, fun _ => none, fun i => if i = 0 then some [0, 1, 2] else if i = 1 then some [0, 1, 2, 18] else if i = 2 then some [6] else if i = 3 then some [0, 1, 2, 24] else if i = 4 then some [0, 1, 2] else if i = 5 then some [6] else none, fun _ => none⟩
noncomputable def Phi_spec_PartOf : Tab := fun f => none
attribute [go_sem] T_spec_PartOf Phi_spec_PartOf
theorem phi_spec_PartOf : ∀ f sp, Phi_spec_PartOf f = some sp → FnOk Tryd.prog f sp ∧ ∀ n ∈ sp.need, n ∈ ([] : List String) := by
  intro f sp h
  unfold Phi_spec_PartOf at h
  cases h
theorem ok_spec_PartOf : FnOk Tryd.prog 15 spPartOf := by
  refine fn_ok (Φ := Phi_spec_PartOf) (T := T_spec_PartOf) phi_spec_PartOf mixed Tryd.func15 rfl rfl rfl (by decide) ?_
  intro ins r outs hr hl
  clear hl
  have hs := spPartOf_in hr
  clear hr
  obtain ⟨t, a, n, rfl, hc, hr, rfl⟩ := hs
  simp only [spPartOf, Tryd.f15, Go.VM.initS]
  by_cases h : 0 ≤ a ∧ a ≤ t.length ∧ 0 ≤ n
  · rw [partT, if_pos h] at hr
    obtain ⟨h0, h1, h2⟩ := h
    obtain ⟨k, rfl⟩ : ∃ k : Nat, a = k := ⟨a.toNat, by omega⟩
    obtain ⟨m, rfl⟩ : ∃ m : Nat, n = m := ⟨n.toNat, by omega⟩
    simp only [Int.toNat_natCast] at hr
    have g0 : ¬ (k : Int) < 0 := by omega
    have g1 : ¬ (m : Int) < 0 := by omega
    have g4 : ¬ (t.length : Int) < k := by omega
    have g2 : IntKind.i64.wrap ((t.length : Int) - (k : Int)) = ((t.length - k : Nat) : Int) := (wrap64 (by omega) (by omega)).trans (by omega)
    have e0 : k ≤ t.length := by omega
    by_cases c : ((t.length - k : Nat) : Int) < m
    · have g3 : IntKind.i64.wrap ((k : Int) + ((t.length - k : Nat) : Int)) = ((t.length : Nat) : Int) := (wrap64 (by omega) (by omega)).trans (by omega)
      have e : (t.drop k).take m = t.drop k := List.take_of_length_le (by rw [List.length_drop]; omega)
      rw [e] at hr
      have e5 : (0 : Int) ≤ (t.length : Int) := by omega
      simp only [g0, g1, g2, g4, c, e5, g3, h0, e0, Nat.le_refl, List.take_length, go_sem]
      repeat' ((first | ((first | apply qa | apply qb | apply qc | apply qd | apply qe | apply qf | apply qg | apply qh | apply qi | apply qj | apply qk) <;> intro hp) | ((first | refine ql rfl rfl (by decide +kernel) ?_ | refine qm _ rfl rfl (by decide +kernel) ?_ | refine goes_opn rfl ?_ | refine goes_opnD rfl rfl (by decide +kernel) ?_) <;> have hp := True.intro)) <;> simp only [hp, g0, g1, g2, g4, c, e5, g3, h0, e0, Nat.le_refl, List.take_length, go_sem])
      simp only [fin_mk, finV, resL, resV1, resIn, endA, listIn, Option.some_or, Option.none_or, oneOrTup, go_sem]
      rw [← hr]
    · have g3 : IntKind.i64.wrap ((k : Int) + (m : Int)) = ((k + m : Nat) : Int) := (wrap64 (by omega) (by omega)).trans (by omega)
      have e : (t.take (k + m)).drop k = (t.drop k).take m := by rw [List.drop_take]; congr 1; omega
      have e1 : k + m ≤ t.length := by omega
      have e2 : (0 : Int) ≤ ((k + m : Nat) : Int) := by omega
      have e3 : k ≤ k + m := by omega
      simp only [g0, g1, g2, g4, c, g3, h0, e0, e, e1, e2, e3, go_sem]
      repeat' ((first | ((first | apply qa | apply qb | apply qc | apply qd | apply qe | apply qf | apply qg | apply qh | apply qi | apply qj | apply qk) <;> intro hp) | ((first | refine ql rfl rfl (by decide +kernel) ?_ | refine qm _ rfl rfl (by decide +kernel) ?_ | refine goes_opn rfl ?_ | refine goes_opnD rfl rfl (by decide +kernel) ?_) <;> have hp := True.intro)) <;> simp only [hp, g0, g1, g2, g4, c, g3, h0, e0, e, e1, e2, e3, go_sem])
      simp only [fin_mk, finV, resL, resV1, resIn, endA, listIn, Option.some_or, Option.none_or, oneOrTup, go_sem]
      rw [← hr]
  · rw [partT, if_neg h] at hr
    by_cases g0 : a < 0
    · simp only [g0, go_sem]
      repeat' ((first | ((first | apply qa | apply qb | apply qc | apply qd | apply qe | apply qf | apply qg | apply qh | apply qi | apply qj | apply qk) <;> intro hp) | ((first | refine ql rfl rfl (by decide +kernel) ?_ | refine qm _ rfl rfl (by decide +kernel) ?_ | refine goes_opn rfl ?_ | refine goes_opnD rfl rfl (by decide +kernel) ?_) <;> have hp := True.intro)) <;> simp only [hp, g0, go_sem])
      simp only [fin_mk, finV, resL, resV1, resIn, endA, listIn, Option.some_or, Option.none_or, oneOrTup, go_sem]
      rw [← hr]
    · by_cases g1 : n < 0
      · simp only [g0, g1, go_sem]
        repeat' ((first | ((first | apply qa | apply qb | apply qc | apply qd | apply qe | apply qf | apply qg | apply qh | apply qi | apply qj | apply qk) <;> intro hp) | ((first | refine ql rfl rfl (by decide +kernel) ?_ | refine qm _ rfl rfl (by decide +kernel) ?_ | refine goes_opn rfl ?_ | refine goes_opnD rfl rfl (by decide +kernel) ?_) <;> have hp := True.intro)) <;> simp only [hp, g0, g1, go_sem])
        simp only [fin_mk, finV, resL, resV1, resIn, endA, listIn, Option.some_or, Option.none_or, oneOrTup, go_sem]
        rw [← hr]
      · have g4 : (t.length : Int) < a := by omega
        simp only [g0, g1, g4, go_sem]
        repeat' ((first | ((first | apply qa | apply qb | apply qc | apply qd | apply qe | apply qf | apply qg | apply qh | apply qi | apply qj | apply qk) <;> intro hp) | ((first | refine ql rfl rfl (by decide +kernel) ?_ | refine qm _ rfl rfl (by decide +kernel) ?_ | refine goes_opn rfl ?_ | refine goes_opnD rfl rfl (by decide +kernel) ?_) <;> have hp := True.intro)) <;> simp only [hp, g0, g1, g4, go_sem])
        simp only [fin_mk, finV, resL, resV1, resIn, endA, listIn, Option.some_or, Option.none_or, oneOrTup, go_sem]
        rw [← hr]
end Go.Proofs.YtknagbmhmjcnkaaDoor.L
