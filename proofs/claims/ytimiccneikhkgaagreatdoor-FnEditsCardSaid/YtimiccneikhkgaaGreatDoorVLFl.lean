/- Flags that are set, added, taken; numbers in sets; sets of rows of numbers. -/
import Derived.Test.YtimiccneikhkgaaGreatDoorVLSet
namespace Go.Proofs.YtimiccneikhkgaaGreatDoor.L
open Go Go.VM
set_option maxRecDepth 100000
set_option maxHeartbeats 4000000
set_option linter.unusedSimpArgs false
set_option linter.unusedVariables false
def andN (a b : Int) : Int := ((a.toNat &&& b.toNat : Nat) : Int)
theorem and_step : ∀ a b : Fin 32, ∀ j : Fin 5,
    (((IntKind.i64.wrap ((a.val : Int).tdiv ((2 ^ j.val : Nat) : Int))).tmod 2 == 1) = a.val.testBit j.val) ∧
    ((a.val &&& b.val) % 2 ^ (j.val + 1) = (a.val &&& b.val) % 2 ^ j.val + (if (a.val.testBit j.val && b.val.testBit j.val) = true then 2 ^ j.val else 0)) := by decide +kernel
open Classical in
noncomputable def spAnd : VM.Spec := { modes := [.rd, .rd], run := fun | [.int .i64 a, .int .i64 b] => if flagsOk a = true ∧ flagsOk b = true then some (.int .i64 (andN a b), []) else none | _ => none, need := [] }
attribute [go_sem] spAnd
theorem spAnd_in {ins : List V} {r : V} {outs : List V} (h : spAnd.run ins = some (r, outs)) : ∃ (a : Int) (b : Int), ins = [.int .i64 a, .int .i64 b] ∧ (flagsOk a = true ∧ flagsOk b = true) ∧ .int .i64 (andN a b) = r ∧ outs = [] := by
  unfold spAnd at h
  simp only at h
  split at h
  · rename_i a b
    split at h
    case isFalse => cases h
    rename_i hc
    simp only [Option.some.injEq, Prod.mk.injEq] at h
    obtain ⟨h1, h2⟩ := h
    exact ⟨a, b, rfl, hc, h1, h2.symm⟩
  · cases h
def T_spec_l06And : Hints := ⟨fun _ => none, fun i => if i = 3 then some [0, 1, 5, 6] else none, fun i => if i = 0 then some [0, 1] else if i = 1 then some [0, 1, 5] else if i = 2 then some [0, 1, 5, 6] else if i = 3 then some [0, 1, 5, 6, 8] else if i = 5 then some [0, 1, 5, 6, 22] else if i = 6 then some [0, 1, 5, 6] else if i = 4 then some [0, 1, 5, 6] else if i = 7 then some [4] else none, fun _ => none⟩
noncomputable def Phi_spec_l06And : Tab := fun f => none
attribute [go_sem] T_spec_l06And Phi_spec_l06And
theorem phi_spec_l06And : ∀ f sp, Phi_spec_l06And f = some sp → FnOk Tryz.prog f sp ∧ ∀ n ∈ sp.need, n ∈ ([] : List String) := by
  intro f sp h
  unfold Phi_spec_l06And at h
  cases h
theorem ok_spec_l06And : FnOk Tryz.prog 135 spAnd := by
  refine fn_ok (Φ := Phi_spec_l06And) (T := T_spec_l06And) phi_spec_l06And mixed Tryz.func135 rfl rfl rfl (by decide) ?_
  intro ins r outs hr hl
  clear hl
  have hs := spAnd_in hr
  clear hr
  obtain ⟨a, b, rfl, hc, hr, rfl⟩ := hs
  simp only [spAnd, Tryz.f135, Go.VM.initS]
  obtain ⟨ha, hb⟩ := hc
  have ha : 0 ≤ a ∧ a ≤ 31 := by simpa only [flagsOk, within, Bool.and_eq_true, decide_eq_true_eq] using ha
  have hb : 0 ≤ b ∧ b ≤ 31 := by simpa only [flagsOk, within, Bool.and_eq_true, decide_eq_true_eq] using hb
  obtain ⟨x, rfl⟩ : ∃ x : Nat, a = x := ⟨a.toNat, by omega⟩
  obtain ⟨y, rfl⟩ : ∃ y : Nat, b = y := ⟨b.toNat, by omega⟩
  have hx : x < 32 := by omega
  have hy : y < 32 := by omega
  simp only [go_sem]
  repeat' ((first | ((first | apply qa | apply qb | apply qc | apply qd | apply qe | apply qf | apply qg | apply qh | apply qi | apply qj | apply qk) <;> intro hp) | ((first | refine ql rfl rfl (by decide +kernel) ?_ | refine qm _ rfl rfl (by decide +kernel) ?_ | refine goes_opn rfl ?_ | refine goes_opnD rfl rfl (by decide +kernel) ?_) <;> have hp := True.intro)) <;> simp only [hp, go_sem])
  refine loop_go (fun j : Nat => [(5, .int .i64 (((x &&& y) % 2 ^ j : Nat) : Int)), (6, .int .i64 ((2 ^ j : Nat) : Int))]) (fun _ => []) (fun j => 5 - j) (fun j => j ≤ 5) 0 (Nat.zero_le _) (by rw [Nat.pow_zero, Nat.mod_one]; rfl) rfl ?_
  intro j hj ih
  rcases Nat.lt_or_ge j 5 with h | h
  · have hp : 2 ^ j ≤ 16 := by
      have : ∀ j : Fin 5, 2 ^ j.val ≤ 16 := by decide
      exact this ⟨j, h⟩
    have hp0 : 0 < 2 ^ j := Nat.pow_pos (by decide)
    have g1 : ((2 ^ j : Nat) : Int) ≤ 16 := by omega
    have g2 : ¬ ((2 ^ j : Nat) : Int) = 0 := by omega
    have g3 := (and_step ⟨x, hx⟩ ⟨y, hy⟩ ⟨j, h⟩).1
    have g4 := (and_step ⟨y, hy⟩ ⟨x, hx⟩ ⟨j, h⟩).1
    have g5 := (and_step ⟨x, hx⟩ ⟨y, hy⟩ ⟨j, h⟩).2
    simp only at g3 g4 g5
    have g6 : IntKind.i64.wrap (2 * ((2 ^ j : Nat) : Int)) = ((2 ^ (j + 1) : Nat) : Int) := (wrap64 (by omega) (by omega)).trans (by rw [Nat.pow_succ]; omega)
    have hm : (x &&& y) % 2 ^ j < 2 ^ j := Nat.mod_lt _ hp0
    have ih' := ih (j + 1) h (by omega)
    rw [g5] at ih'
    clear ih g5
    cases t1 : x.testBit j with
    | false =>
      rw [t1] at g3 ih'
      simp only [Bool.false_and, Bool.false_eq_true, if_false, Nat.add_zero] at ih'
      simp only [g1, g2, g3, g4, g6, go_sem]
      repeat' ((first | ((first | apply qa | apply qb | apply qc | apply qd | apply qe | apply qf | apply qg | apply qh | apply qi | apply qj | apply qk) <;> intro hp) | ((first | refine ql rfl rfl (by decide +kernel) ?_ | refine qm _ rfl rfl (by decide +kernel) ?_ | refine goes_opn rfl ?_ | refine goes_opnD rfl rfl (by decide +kernel) ?_) <;> have hp := True.intro)) <;> simp only [hp, g1, g2, g3, g4, g6, go_sem])
      exact ih'
    | true =>
      cases t2 : y.testBit j with
      | false =>
        rw [t1] at g3 ih'
        rw [t2] at g4 ih'
        simp only [Bool.and_false, Bool.false_eq_true, if_false, Nat.add_zero] at ih'
        simp only [g1, g2, g3, g4, g6, go_sem]
        repeat' ((first | ((first | apply qa | apply qb | apply qc | apply qd | apply qe | apply qf | apply qg | apply qh | apply qi | apply qj | apply qk) <;> intro hp) | ((first | refine ql rfl rfl (by decide +kernel) ?_ | refine qm _ rfl rfl (by decide +kernel) ?_ | refine goes_opn rfl ?_ | refine goes_opnD rfl rfl (by decide +kernel) ?_) <;> have hp := True.intro)) <;> simp only [hp, g1, g2, g3, g4, g6, go_sem])
        exact ih'
      | true =>
        rw [t1] at g3 ih'
        rw [t2] at g4 ih'
        simp only [Bool.and_true, if_true] at ih'
        have g7 : IntKind.i64.wrap ((((x &&& y) % 2 ^ j : Nat) : Int) + ((2 ^ j : Nat) : Int)) = (((x &&& y) % 2 ^ j + 2 ^ j : Nat) : Int) := (wrap64 (by omega) (by omega)).trans (by omega)
        simp only [g1, g2, g3, g4, g6, g7, go_sem]
        repeat' ((first | ((first | apply qa | apply qb | apply qc | apply qd | apply qe | apply qf | apply qg | apply qh | apply qi | apply qj | apply qk) <;> intro hp) | ((first | refine ql rfl rfl (by decide +kernel) ?_ | refine qm _ rfl rfl (by decide +kernel) ?_ | refine goes_opn rfl ?_ | refine goes_opnD rfl rfl (by decide +kernel) ?_) <;> have hp := True.intro)) <;> simp only [hp, g1, g2, g3, g4, g6, g7, go_sem])
        exact ih'
  · have h5 : j = 5 := by omega
    subst h5
    have g1 : ¬ ((2 ^ 5 : Nat) : Int) ≤ 16 := by decide
    have e : (x &&& y) % 2 ^ 5 = x &&& y := Nat.mod_eq_of_lt (Nat.lt_of_le_of_lt Nat.and_le_left (by omega))
    rw [e]
    simp only [g1, go_sem]
    repeat' ((first | ((first | apply qa | apply qb | apply qc | apply qd | apply qe | apply qf | apply qg | apply qh | apply qi | apply qj | apply qk) <;> intro hp) | ((first | refine ql rfl rfl (by decide +kernel) ?_ | refine qm _ rfl rfl (by decide +kernel) ?_ | refine goes_opn rfl ?_ | refine goes_opnD rfl rfl (by decide +kernel) ?_) <;> have hp := True.intro)) <;> simp only [hp, g1, go_sem])
    simp only [fin_mk, finV, resL, resV1, resIn, endA, listIn, Option.some_or, Option.none_or, oneOrTup, go_sem]
    rw [← hr]
    rfl
open Classical in
noncomputable def spSetHas : VM.Spec := { modes := [.rd, .rd], run := fun | [.lst 2 s', .int .i64 n] => (decL Range.dec s').bind fun s => if s.length ≤ 8388608 then some (.bool (hasR s n), []) else none | _ => none, need := [] }
attribute [go_sem] spSetHas
theorem spSetHas_in {ins : List V} {r : V} {outs : List V} (h : spSetHas.run ins = some (r, outs)) : ∃ (s : (List Range)) (n : Int), ins = [.lst 2 ((s).map Range.enc), .int .i64 n] ∧ (s.length ≤ 8388608) ∧ .bool (hasR s n) = r ∧ outs = [] := by
  unfold spSetHas at h
  simp only at h
  split at h
  · rename_i s' n
    simp only [Option.bind_eq_some_iff] at h
    obtain ⟨s, h_s, h⟩ := h
    split at h
    case isFalse => cases h
    rename_i hc
    simp only [Option.some.injEq, Prod.mk.injEq] at h
    obtain ⟨h1, h2⟩ := h
    have h_s := decL_some (fun _ _ h => Range.dec_some h) h_s
    subst h_s
    exact ⟨s, n, rfl, hc, h1, h2.symm⟩
  · cases h
def T_impl_SetHas : Hints := ⟨fun _ => none, fun i => if i = 2 then some [1, 7, 8, 9] else none, fun i => if i = 0 then some [0, 1] else if i = 1 then some [1, 7, 8, 9] else if i = 2 then some [1, 7, 8, 9, 10] else if i = 3 then some [1, 6, 7, 8, 9] else if i = 4 then some [1, 7, 8, 9, 18] else if i = 5 then some [4] else if i = 6 then some [1, 7, 8, 9] else if i = 7 then some [4] else none, fun _ => none⟩
noncomputable def Phi_impl_SetHas : Tab := fun f => if f = 59 then some spWithin else none
attribute [go_sem] T_impl_SetHas Phi_impl_SetHas
theorem phi_impl_SetHas : ∀ f sp, Phi_impl_SetHas f = some sp → FnOk Tryz.prog f sp ∧ ∀ n ∈ sp.need, n ∈ ([] : List String) := by
  intro f sp h
  unfold Phi_impl_SetHas at h
  by_cases e : f = 59
  · rw [if_pos e] at h; cases h; rw [e]; exact ⟨ok_impl_within, (fun n (h : n ∈ ([] : List String)) => (nomatch h))⟩
  rw [if_neg e] at h
  cases h
theorem ok_impl_SetHas : FnOk Tryz.prog 19 spSetHas := by
  refine fn_ok (Φ := Phi_impl_SetHas) (T := T_impl_SetHas) phi_impl_SetHas mixed Tryz.func19 rfl rfl rfl (by decide) ?_
  intro ins r outs hr hl
  clear hl
  have hs := spSetHas_in hr
  clear hr
  obtain ⟨s, n, rfl, hc, hr, rfl⟩ := hs
  simp only [spSetHas, Tryz.f19, Go.VM.initS]
  simp only [go_sem]
  repeat' ((first | ((first | apply qa | apply qb | apply qc | apply qd | apply qe | apply qf | apply qg | apply qh | apply qi | apply qj | apply qk) <;> intro hp) | ((first | refine ql rfl rfl (by decide +kernel) ?_ | refine qm _ rfl rfl (by decide +kernel) ?_ | refine goes_opn rfl ?_ | refine goes_opnD rfl rfl (by decide +kernel) ?_) <;> have hp := True.intro)) <;> simp only [hp, go_sem])
  refine loop_go (fun i : Nat => [(9, .int .i64 (i : Int))]) (fun _ => []) (fun i => s.length - i) (fun i => i ≤ s.length ∧ (s.take i).any (fun r => decide (r.Lo ≤ n) && decide (n ≤ r.Hi)) = false) 0 ⟨Nat.zero_le _, by simp⟩ rfl rfl ?_
  intro i ⟨hi, ha⟩ ih
  rcases Nat.lt_or_ge i s.length with h | h
  · have g1 : (i : Int) < s.length := by omega
    have g2 : (0 : Int) ≤ i := by omega
    have g3 : s[i]? = some s[i] := List.getElem?_eq_getElem h
    have g5 := wrap_succ h (by omega)
    cases hb : within n s[i].Lo s[i].Hi with
    | true =>
      simp only [g1, g2, g3, g5, hb, go_sem]
      repeat' ((first | ((first | apply qa | apply qb | apply qc | apply qd | apply qe | apply qf | apply qg | apply qh | apply qi | apply qj | apply qk) <;> intro hp) | ((first | refine ql rfl rfl (by decide +kernel) ?_ | refine qm _ rfl rfl (by decide +kernel) ?_ | refine goes_opn rfl ?_ | refine goes_opnD rfl rfl (by decide +kernel) ?_) <;> have hp := True.intro)) <;> simp only [hp, g1, g2, g3, g5, hb, go_sem])
      simp only [fin_mk, finV, resL, resV1, resIn, endA, listIn, Option.some_or, Option.none_or, oneOrTup, go_sem]
      rw [← hr]
      rw [hasR, any_bad h hb]
    | false =>
      have ih' := ih (i + 1) ⟨h, any_take_succ h ha hb⟩ (by omega)
      simp only [g1, g2, g3, g5, hb, go_sem]
      repeat' ((first | ((first | apply qa | apply qb | apply qc | apply qd | apply qe | apply qf | apply qg | apply qh | apply qi | apply qj | apply qk) <;> intro hp) | ((first | refine ql rfl rfl (by decide +kernel) ?_ | refine qm _ rfl rfl (by decide +kernel) ?_ | refine goes_opn rfl ?_ | refine goes_opnD rfl rfl (by decide +kernel) ?_) <;> have hp := True.intro)) <;> simp only [hp, g1, g2, g3, g5, hb, go_sem])
      exact ih'
  · have g1 : ¬ (i : Int) < s.length := by omega
    simp only [g1, go_sem]
    repeat' ((first | ((first | apply qa | apply qb | apply qc | apply qd | apply qe | apply qf | apply qg | apply qh | apply qi | apply qj | apply qk) <;> intro hp) | ((first | refine ql rfl rfl (by decide +kernel) ?_ | refine qm _ rfl rfl (by decide +kernel) ?_ | refine goes_opn rfl ?_ | refine goes_opnD rfl rfl (by decide +kernel) ?_) <;> have hp := True.intro)) <;> simp only [hp, g1, go_sem])
    simp only [fin_mk, finV, resL, resV1, resIn, endA, listIn, Option.some_or, Option.none_or, oneOrTup, go_sem]
    rw [← hr]
    rw [hasR, any_take_end h ha]
def T_spec_SetHas : Hints := ⟨fun _ => none, fun i => if i = 2 then some [0, 1, 5] else none, fun i => if i = 0 then some [0, 1] else if i = 1 then some [0, 1, 5] else if i = 2 then some [0, 1, 5, 9] else if i = 4 then some [0, 1, 5, 27] else if i = 5 then some [4] else if i = 3 then some [0, 1, 5] else if i = 6 then some [4] else none, fun _ => none⟩
noncomputable def Phi_spec_SetHas : Tab := fun f => none
attribute [go_sem] T_spec_SetHas Phi_spec_SetHas
theorem phi_spec_SetHas : ∀ f sp, Phi_spec_SetHas f = some sp → FnOk Tryz.prog f sp ∧ ∀ n ∈ sp.need, n ∈ ([] : List String) := by
  intro f sp h
  unfold Phi_spec_SetHas at h
  cases h
theorem ok_spec_SetHas : FnOk Tryz.prog 140 spSetHas := by
  refine fn_ok (Φ := Phi_spec_SetHas) (T := T_spec_SetHas) phi_spec_SetHas mixed Tryz.func140 rfl rfl rfl (by decide) ?_
  intro ins r outs hr hl
  clear hl
  have hs := spSetHas_in hr
  clear hr
  obtain ⟨s, n, rfl, hc, hr, rfl⟩ := hs
  simp only [spSetHas, Tryz.f140, Go.VM.initS]
  simp only [go_sem]
  repeat' ((first | ((first | apply qa | apply qb | apply qc | apply qd | apply qe | apply qf | apply qg | apply qh | apply qi | apply qj | apply qk) <;> intro hp) | ((first | refine ql rfl rfl (by decide +kernel) ?_ | refine qm _ rfl rfl (by decide +kernel) ?_ | refine goes_opn rfl ?_ | refine goes_opnD rfl rfl (by decide +kernel) ?_) <;> have hp := True.intro)) <;> simp only [hp, go_sem])
  refine loop_go (fun i : Nat => [(5, .int .i64 (i : Int))]) (fun _ => []) (fun i => s.length - i) (fun i => i ≤ s.length ∧ (s.take i).any (fun r => decide (r.Lo ≤ n) && decide (n ≤ r.Hi)) = false) 0 ⟨Nat.zero_le _, by simp⟩ rfl rfl ?_
  intro i ⟨hi, ha⟩ ih
  rcases Nat.lt_or_ge i s.length with h | h
  · have g1 : (i : Int) < s.length := by omega
    have g2 : (0 : Int) ≤ i := by omega
    have g3 : s[i]? = some s[i] := List.getElem?_eq_getElem h
    have g5 := wrap_succ h (by omega)
    by_cases c1 : s[i].Lo ≤ n
    · by_cases c2 : n ≤ s[i].Hi
      · simp only [g1, g2, g3, g5, c1, c2, go_sem]
        repeat' ((first | ((first | apply qa | apply qb | apply qc | apply qd | apply qe | apply qf | apply qg | apply qh | apply qi | apply qj | apply qk) <;> intro hp) | ((first | refine ql rfl rfl (by decide +kernel) ?_ | refine qm _ rfl rfl (by decide +kernel) ?_ | refine goes_opn rfl ?_ | refine goes_opnD rfl rfl (by decide +kernel) ?_) <;> have hp := True.intro)) <;> simp only [hp, g1, g2, g3, g5, c1, c2, go_sem])
        simp only [fin_mk, finV, resL, resV1, resIn, endA, listIn, Option.some_or, Option.none_or, oneOrTup, go_sem]
        rw [← hr]
        rw [hasR, any_bad h (by simp [c1, c2])]
      · have ih' := ih (i + 1) ⟨h, any_take_succ h ha (by simp [c1]; omega)⟩ (by omega)
        simp only [g1, g2, g3, g5, c1, c2, go_sem]
        repeat' ((first | ((first | apply qa | apply qb | apply qc | apply qd | apply qe | apply qf | apply qg | apply qh | apply qi | apply qj | apply qk) <;> intro hp) | ((first | refine ql rfl rfl (by decide +kernel) ?_ | refine qm _ rfl rfl (by decide +kernel) ?_ | refine goes_opn rfl ?_ | refine goes_opnD rfl rfl (by decide +kernel) ?_) <;> have hp := True.intro)) <;> simp only [hp, g1, g2, g3, g5, c1, c2, go_sem])
        exact ih'
    · have ih' := ih (i + 1) ⟨h, any_take_succ h ha (by simp; omega)⟩ (by omega)
      simp only [g1, g2, g3, g5, c1, go_sem]
      repeat' ((first | ((first | apply qa | apply qb | apply qc | apply qd | apply qe | apply qf | apply qg | apply qh | apply qi | apply qj | apply qk) <;> intro hp) | ((first | refine ql rfl rfl (by decide +kernel) ?_ | refine qm _ rfl rfl (by decide +kernel) ?_ | refine goes_opn rfl ?_ | refine goes_opnD rfl rfl (by decide +kernel) ?_) <;> have hp := True.intro)) <;> simp only [hp, g1, g2, g3, g5, c1, go_sem])
      exact ih'
  · have g1 : ¬ (i : Int) < s.length := by omega
    simp only [g1, go_sem]
    repeat' ((first | ((first | apply qa | apply qb | apply qc | apply qd | apply qe | apply qf | apply qg | apply qh | apply qi | apply qj | apply qk) <;> intro hp) | ((first | refine ql rfl rfl (by decide +kernel) ?_ | refine qm _ rfl rfl (by decide +kernel) ?_ | refine goes_opn rfl ?_ | refine goes_opnD rfl rfl (by decide +kernel) ?_) <;> have hp := True.intro)) <;> simp only [hp, g1, go_sem])
    simp only [fin_mk, finV, resL, resV1, resIn, endA, listIn, Option.some_or, Option.none_or, oneOrTup, go_sem]
    rw [← hr]
    rw [hasR, any_take_end h ha]
end Go.Proofs.YtimiccneikhkgaaGreatDoor.L
