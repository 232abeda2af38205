/- Stores: what is right of them. -/
import Derived.Test.YtglldabpgobimaaVLF
namespace Go.Proofs.Ytglldabpgobimaa.L
open Go Go.VM
set_option maxRecDepth 100000
set_option maxHeartbeats 4000000
set_option linter.unusedSimpArgs false
set_option linter.unusedVariables false
def storeAtOk (s : Store) (i : Nat) : Bool := boxOk (s.Boxes.getD i default) && (i == 0 || Op.bytesLess (s.Boxes.getD (i - 1) default).Name (s.Boxes.getD i default).Name) && decide ((s.Boxes.getD i default).Valid < s.Valid)
def storeOk (s : Store) : Bool := allN s.Boxes.length (storeAtOk s) && (within s.Boxes.length 1 4 && within s.Valid 2 9999)
open Classical in
noncomputable def spStoreOk : VM.Spec := { modes := [.rd], run := fun | [s'] => (Store.dec s').bind fun s => if s.le 4194304 then some (.bool (storeOk s), []) else none | _ => none, need := [] }
attribute [go_sem] spStoreOk
theorem spStoreOk_in {ins : List V} {r : V} {outs : List V} (h : spStoreOk.run ins = some (r, outs)) : ∃ (s : Store), ins = [Store.enc s] ∧ (s.le 4194304) ∧ .bool (storeOk s) = r ∧ outs = [] := by
  unfold spStoreOk at h
  simp only at h
  split at h
  · rename_i s'
    simp only [Option.bind_eq_some_iff] at h
    obtain ⟨s, h_s, h⟩ := h
    split at h
    case isFalse => cases h
    rename_i hc
    simp only [Option.some.injEq, Prod.mk.injEq] at h
    obtain ⟨h1, h2⟩ := h
    have h_s := Store.dec_some h_s
    subst h_s
    exact ⟨s, rfl, hc, h1, h2.symm⟩
  · cases h
def T_impl_StoreOk : Hints := ⟨fun i => if i = 4 then some [] else none, fun i => if i = 2 then some [1, 6, 7, 8] else none, fun i => if i = 0 then some [1] else if i = 1 then some [1, 6, 7, 8] else if i = 2 then some [1, 6, 7, 8, 9] else if i = 3 then some [1, 3, 4, 6, 7, 8] else if i = 4 then some [1, 6, 7, 8, 38] else if i = 5 then some [2] else if i = 6 then some [1, 6, 7, 8] else if i = 7 then some [2] else none, fun _ => none⟩
noncomputable def Phi_impl_StoreOk : Tab := fun f => if f = 38 then some spBoxOk else if f = 55 then some spWithin else none
attribute [go_sem] T_impl_StoreOk Phi_impl_StoreOk
theorem phi_impl_StoreOk : ∀ f sp, Phi_impl_StoreOk f = some sp → FnOk Try.prog f sp ∧ ∀ n ∈ sp.need, n ∈ ([] : List String) := by
  intro f sp h
  unfold Phi_impl_StoreOk at h
  by_cases e : f = 38
  · rw [if_pos e] at h; cases h; rw [e]; exact ⟨ok_impl_BoxOk, (fun n (h : n ∈ ([] : List String)) => (nomatch h))⟩
  rw [if_neg e] at h
  by_cases e : f = 55
  · rw [if_pos e] at h; cases h; rw [e]; exact ⟨ok_impl_within, (fun n (h : n ∈ ([] : List String)) => (nomatch h))⟩
  rw [if_neg e] at h
  cases h
theorem ok_impl_StoreOk : FnOk Try.prog 81 spStoreOk := by
  refine fn_ok (Φ := Phi_impl_StoreOk) (T := T_impl_StoreOk) phi_impl_StoreOk mixed Try.func81 rfl rfl rfl (by decide) ?_
  intro ins r outs hr hl
  clear hl
  have hs := spStoreOk_in hr
  clear hr
  obtain ⟨s, rfl, hc, hr, rfl⟩ := hs
  simp only [spStoreOk, Try.f81, Go.VM.initS]
  have hl : s.Boxes.length ≤ 4194304 := hc.1
  simp only [go_sem]
  refine loop_go (fun i : Nat => [(8, .int .i64 (i : Int))]) (fun _ => []) (fun i => s.Boxes.length - i) (fun i => i ≤ s.Boxes.length ∧ ∀ j, j < i → storeAtOk s j = true) 0 ⟨Nat.zero_le _, fun j hj => absurd hj (by omega)⟩ rfl rfl ?_
  intro i ⟨hi, ha⟩ ih
  rcases Nat.lt_or_ge i s.Boxes.length with h | h
  · have g1 : (i : Int) < s.Boxes.length := by omega
    have g2 : (0 : Int) ≤ i := by omega
    have g3 : s.Boxes[i]? = some s.Boxes[i] := List.getElem?_eq_getElem h
    have g5 := wrap_succ h (by omega)
    have gb : s.Boxes[i].le 4194304 := hc.2 _ (List.getElem_mem h)
    simp only [g1, g2, g3, go_sem]
    refine goes_valD 38 V.bool (!storeAtOk s i) rfl rfl rfl (by decide +kernel) ?_ ?_
    · intro G hG
      clear ih hr ha
      have e1 : decide (s.Valid ≤ s.Boxes[i].Valid) = !decide (s.Boxes[i].Valid < s.Valid) := by
        rcases Int.lt_or_le s.Boxes[i].Valid s.Valid with p | p <;> simp [p]
      rcases Nat.eq_zero_or_pos i with h0 | h0
      · have k1 : ¬ (0 : Int) < i := by omega
        have g6 : storeAtOk s i = (boxOk s.Boxes[i] && decide (s.Boxes[i].Valid < s.Valid)) := by
          have : (i == 0) = true := by simp [h0]
          simp only [storeAtOk, getD_lt h, this, Bool.true_or, Bool.and_true]
        simp only [g1, g2, g3, k1, gb, e1, go_sem]
        repeat' ((first | ((first | apply qa | apply qb | apply qc | apply qd | apply qe | apply qf | apply qg | apply qh | apply qi | apply qj | apply qk) <;> intro hp) | ((first | refine ql rfl rfl (by decide +kernel) ?_ | refine qm _ rfl rfl (by decide +kernel) ?_ | refine goes_opn rfl ?_ | refine goes_opnD rfl rfl (by decide +kernel) ?_) <;> have hp := True.intro)) <;> simp only [hp, g1, g2, g3, k1, gb, e1, go_sem])
        all_goals ((first | refine hG _ ?_ | (simp only [*] at hG; refine hG _ ?_)); clear hG; rw [g6]; simp_all)
      · have k1 : (0 : Int) < i := by omega
        have k2 := wrap_pred h0 (by omega)
        have k3 : (0 : Int) ≤ ((i - 1 : Nat) : Int) := by omega
        have k4 : ((i - 1 : Nat) : Int) < s.Boxes.length := by omega
        have k5 : s.Boxes[i - 1]? = some (s.Boxes[i - 1]'(by omega)) := List.getElem?_eq_getElem (by omega)
        have g6 : storeAtOk s i = (boxOk s.Boxes[i] && Op.bytesLess (s.Boxes[i - 1]'(by omega)).Name s.Boxes[i].Name && decide (s.Boxes[i].Valid < s.Valid)) := by
          have : (i == 0) = false := by simp; omega
          simp only [storeAtOk, getD_lt h, getD_lt (show i - 1 < s.Boxes.length by omega), this, Bool.false_or]
        simp only [g1, g2, g3, k1, k2, k3, k4, k5, gb, e1, go_sem]
        repeat' ((first | ((first | apply qa | apply qb | apply qc | apply qd | apply qe | apply qf | apply qg | apply qh | apply qi | apply qj | apply qk) <;> intro hp) | ((first | refine ql rfl rfl (by decide +kernel) ?_ | refine qm _ rfl rfl (by decide +kernel) ?_ | refine goes_opn rfl ?_ | refine goes_opnD rfl rfl (by decide +kernel) ?_) <;> have hp := True.intro)) <;> simp only [hp, g1, g2, g3, k1, k2, k3, k4, k5, gb, e1, go_sem])
        all_goals ((first | refine hG _ ?_ | (simp only [*] at hG; refine hG _ ?_)); clear hG k2 k5; rw [g6]; simp_all)
    · simp only [g5, go_sem]
      repeat' ((first | ((first | apply qa | apply qb | apply qc | apply qd | apply qe | apply qf | apply qg | apply qh | apply qi | apply qj | apply qk) <;> intro hp) | ((first | refine ql rfl rfl (by decide +kernel) ?_ | refine qm _ rfl rfl (by decide +kernel) ?_ | refine goes_opn rfl ?_ | refine goes_opnD rfl rfl (by decide +kernel) ?_) <;> have hp := True.intro)) <;> simp only [hp, g5, go_sem])
      · simp only [fin_mk, finV, resL, resV1, resIn, endA, listIn, Option.some_or, Option.none_or, oneOrTup, go_sem]
        rw [← hr]
        rw [storeOk, allN_bad h hp]; rfl
      · exact ih (i + 1) ⟨h, all_succ ha hp⟩ (by omega)
  · have g1 : ¬ (i : Int) < s.Boxes.length := by omega
    have hs : storeOk s = (within s.Boxes.length 1 4 && within s.Valid 2 9999) := by rw [storeOk, allN_all h ha, Bool.true_and]
    simp only [g1, go_sem]
    repeat' ((first | ((first | apply qa | apply qb | apply qc | apply qd | apply qe | apply qf | apply qg | apply qh | apply qi | apply qj | apply qk) <;> intro hp) | ((first | refine ql rfl rfl (by decide +kernel) ?_ | refine qm _ rfl rfl (by decide +kernel) ?_ | refine goes_opn rfl ?_ | refine goes_opnD rfl rfl (by decide +kernel) ?_) <;> have hp := True.intro)) <;> simp only [hp, g1, go_sem])
    all_goals (simp only [fin_mk, finV, resL, resV1, resIn, endA, listIn, Option.some_or, Option.none_or, oneOrTup, go_sem]; rw [← hr])
    all_goals rw [hs]
    all_goals simp_all
def T_spec_StoreOk : Hints := ⟨fun i => if i = 4 then some [] else none, fun i => if i = 2 then some [1, 3] else none, fun i => if i = 0 then some [1] else if i = 1 then some [1, 3] else if i = 2 then some [1, 3, 8] else if i = 4 then some [1, 3, 48] else if i = 5 then some [2] else if i = 3 then some [1, 3] else if i = 6 then some [2] else none, fun _ => none⟩
noncomputable def Phi_spec_StoreOk : Tab := fun f => if f = 44 then some spBoxOk else if f = 46 then some spWithin else none
attribute [go_sem] T_spec_StoreOk Phi_spec_StoreOk
theorem phi_spec_StoreOk : ∀ f sp, Phi_spec_StoreOk f = some sp → FnOk Try.prog f sp ∧ ∀ n ∈ sp.need, n ∈ ([] : List String) := by
  intro f sp h
  unfold Phi_spec_StoreOk at h
  by_cases e : f = 44
  · rw [if_pos e] at h; cases h; rw [e]; exact ⟨ok_spec_BoxOk, (fun n (h : n ∈ ([] : List String)) => (nomatch h))⟩
  rw [if_neg e] at h
  by_cases e : f = 46
  · rw [if_pos e] at h; cases h; rw [e]; exact ⟨ok_spec_l01In, (fun n (h : n ∈ ([] : List String)) => (nomatch h))⟩
  rw [if_neg e] at h
  cases h
theorem ok_spec_StoreOk : FnOk Try.prog 76 spStoreOk := by
  refine fn_ok (Φ := Phi_spec_StoreOk) (T := T_spec_StoreOk) phi_spec_StoreOk mixed Try.func76 rfl rfl rfl (by decide) ?_
  intro ins r outs hr hl
  clear hl
  have hs := spStoreOk_in hr
  clear hr
  obtain ⟨s, rfl, hc, hr, rfl⟩ := hs
  simp only [spStoreOk, Try.f76, Go.VM.initS]
  have hl : s.Boxes.length ≤ 4194304 := hc.1
  simp only [go_sem]
  refine loop_go (fun i : Nat => [(3, .int .i64 (i : Int))]) (fun _ => []) (fun i => s.Boxes.length - i) (fun i => i ≤ s.Boxes.length ∧ ∀ j, j < i → storeAtOk s j = true) 0 ⟨Nat.zero_le _, fun j hj => absurd hj (by omega)⟩ rfl rfl ?_
  intro i ⟨hi, ha⟩ ih
  rcases Nat.lt_or_ge i s.Boxes.length with h | h
  · have g1 : (i : Int) < s.Boxes.length := by omega
    have g2 : (0 : Int) ≤ i := by omega
    have g3 : s.Boxes[i]? = some s.Boxes[i] := List.getElem?_eq_getElem h
    have g5 := wrap_succ h (by omega)
    have gb : s.Boxes[i].le 4194304 := hc.2 _ (List.getElem_mem h)
    simp only [g1, g2, g3, go_sem]
    refine goes_valD 48 V.bool (!storeAtOk s i) rfl rfl rfl (by decide +kernel) ?_ ?_
    · intro G hG
      clear ih hr ha
      have e1 : decide (s.Valid ≤ s.Boxes[i].Valid) = !decide (s.Boxes[i].Valid < s.Valid) := by
        rcases Int.lt_or_le s.Boxes[i].Valid s.Valid with p | p <;> simp [p]
      rcases Nat.eq_zero_or_pos i with h0 | h0
      · have k1 : ¬ (0 : Int) < i := by omega
        have g6 : storeAtOk s i = (boxOk s.Boxes[i] && decide (s.Boxes[i].Valid < s.Valid)) := by
          have : (i == 0) = true := by simp [h0]
          simp only [storeAtOk, getD_lt h, this, Bool.true_or, Bool.and_true]
        simp only [g1, g2, g3, k1, gb, e1, go_sem]
        repeat' ((first | ((first | apply qa | apply qb | apply qc | apply qd | apply qe | apply qf | apply qg | apply qh | apply qi | apply qj | apply qk) <;> intro hp) | ((first | refine ql rfl rfl (by decide +kernel) ?_ | refine qm _ rfl rfl (by decide +kernel) ?_ | refine goes_opn rfl ?_ | refine goes_opnD rfl rfl (by decide +kernel) ?_) <;> have hp := True.intro)) <;> simp only [hp, g1, g2, g3, k1, gb, e1, go_sem])
        all_goals ((first | refine hG _ ?_ | (simp only [*] at hG; refine hG _ ?_)); clear hG; rw [g6]; simp_all)
      · have k1 : (0 : Int) < i := by omega
        have k2 := wrap_pred h0 (by omega)
        have k3 : (0 : Int) ≤ ((i - 1 : Nat) : Int) := by omega
        have k4 : ((i - 1 : Nat) : Int) < s.Boxes.length := by omega
        have k5 : s.Boxes[i - 1]? = some (s.Boxes[i - 1]'(by omega)) := List.getElem?_eq_getElem (by omega)
        have g6 : storeAtOk s i = (boxOk s.Boxes[i] && Op.bytesLess (s.Boxes[i - 1]'(by omega)).Name s.Boxes[i].Name && decide (s.Boxes[i].Valid < s.Valid)) := by
          have : (i == 0) = false := by simp; omega
          simp only [storeAtOk, getD_lt h, getD_lt (show i - 1 < s.Boxes.length by omega), this, Bool.false_or]
        simp only [g1, g2, g3, k1, k2, k3, k4, k5, gb, e1, go_sem]
        repeat' ((first | ((first | apply qa | apply qb | apply qc | apply qd | apply qe | apply qf | apply qg | apply qh | apply qi | apply qj | apply qk) <;> intro hp) | ((first | refine ql rfl rfl (by decide +kernel) ?_ | refine qm _ rfl rfl (by decide +kernel) ?_ | refine goes_opn rfl ?_ | refine goes_opnD rfl rfl (by decide +kernel) ?_) <;> have hp := True.intro)) <;> simp only [hp, g1, g2, g3, k1, k2, k3, k4, k5, gb, e1, go_sem])
        all_goals ((first | refine hG _ ?_ | (simp only [*] at hG; refine hG _ ?_)); clear hG k2 k5; rw [g6]; simp_all)
    · simp only [g5, go_sem]
      repeat' ((first | ((first | apply qa | apply qb | apply qc | apply qd | apply qe | apply qf | apply qg | apply qh | apply qi | apply qj | apply qk) <;> intro hp) | ((first | refine ql rfl rfl (by decide +kernel) ?_ | refine qm _ rfl rfl (by decide +kernel) ?_ | refine goes_opn rfl ?_ | refine goes_opnD rfl rfl (by decide +kernel) ?_) <;> have hp := True.intro)) <;> simp only [hp, g5, go_sem])
      · simp only [fin_mk, finV, resL, resV1, resIn, endA, listIn, Option.some_or, Option.none_or, oneOrTup, go_sem]
        rw [← hr]
        rw [storeOk, allN_bad h hp]; rfl
      · exact ih (i + 1) ⟨h, all_succ ha hp⟩ (by omega)
  · have g1 : ¬ (i : Int) < s.Boxes.length := by omega
    have hs : storeOk s = (within s.Boxes.length 1 4 && within s.Valid 2 9999) := by rw [storeOk, allN_all h ha, Bool.true_and]
    simp only [g1, go_sem]
    repeat' ((first | ((first | apply qa | apply qb | apply qc | apply qd | apply qe | apply qf | apply qg | apply qh | apply qi | apply qj | apply qk) <;> intro hp) | ((first | refine ql rfl rfl (by decide +kernel) ?_ | refine qm _ rfl rfl (by decide +kernel) ?_ | refine goes_opn rfl ?_ | refine goes_opnD rfl rfl (by decide +kernel) ?_) <;> have hp := True.intro)) <;> simp only [hp, g1, go_sem])
    all_goals (simp only [fin_mk, finV, resL, resV1, resIn, endA, listIn, Option.some_or, Option.none_or, oneOrTup, go_sem]; rw [← hr])
    all_goals rw [hs]
    all_goals simp_all
end Go.Proofs.Ytglldabpgobimaa.L
