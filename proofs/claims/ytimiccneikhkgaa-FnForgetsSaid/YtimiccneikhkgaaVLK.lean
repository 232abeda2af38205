/- Copies of boxes, rows of numbers as sets, flags after a change. -/
import Derived.Test.YtimiccneikhkgaaVLH
import Derived.Test.YtimiccneikhkgaaVLFl
namespace Go.Proofs.Ytimiccneikhkgaa.L
open Go Go.VM
set_option maxRecDepth 100000
set_option maxHeartbeats 4000000
set_option linter.unusedSimpArgs false
set_option linter.unusedVariables false
def flagsAfter (o h n : Int) : Int := if (flagsOk o && flagsOk n) = true then (if h = 1 then n else if h = 2 then o + n - andN o n else if h = 3 then o - andN o n else o) else o
theorem or_some : ∀ a b : Fin 32, (IntKind.i64.wrap (BitVec.ofInt 64 (a.val : Int) ||| BitVec.ofInt 64 (b.val : Int)).toNat = (a.val : Int) + (b.val : Int) - ((a.val &&& b.val : Nat) : Int)) ∧ (IntKind.i64.wrap (BitVec.ofInt 64 (a.val : Int) &&& ~~~ BitVec.ofInt 64 (b.val : Int)).toNat = (a.val : Int) - ((a.val &&& b.val : Nat) : Int)) := by decide +kernel
theorem flags_in {a : Int} (h : flagsOk a = true) : 0 ≤ a ∧ a ≤ 31 := by simpa only [flagsOk, within, Bool.and_eq_true, decide_eq_true_eq] using h
theorem or_impl {a b : Int} (ha : flagsOk a = true) (hb : flagsOk b = true) : (IntKind.i64.wrap (BitVec.ofInt 64 a ||| BitVec.ofInt 64 b).toNat = a + b - andN a b) ∧ (IntKind.i64.wrap (BitVec.ofInt 64 a &&& ~~~ BitVec.ofInt 64 b).toNat = a - andN a b) := by
  have ha := flags_in ha
  have hb := flags_in hb
  obtain ⟨x, rfl⟩ : ∃ x : Nat, a = x := ⟨a.toNat, by omega⟩
  obtain ⟨y, rfl⟩ : ∃ y : Nat, b = y := ⟨b.toNat, by omega⟩
  exact or_some ⟨x, by omega⟩ ⟨y, by omega⟩
theorem andN_in {a b : Int} (ha : flagsOk a = true) (hb : flagsOk b = true) : 0 ≤ andN a b ∧ andN a b ≤ a := by
  have ha := flags_in ha
  have hb := flags_in hb
  have := Nat.and_le_left (n := a.toNat) (m := b.toNat)
  unfold andN
  omega
open Classical in
noncomputable def spFlagsAfter : VM.Spec := { modes := [.rd, .rd, .rd], run := fun | [.int .i64 o, .int .i64 h, .int .i64 n] => some (.int .i64 (flagsAfter o h n), []) | _ => none, need := [] }
attribute [go_sem] spFlagsAfter
theorem spFlagsAfter_in {ins : List V} {r : V} {outs : List V} (h : spFlagsAfter.run ins = some (r, outs)) : ∃ (o : Int) (h : Int) (n : Int), ins = [.int .i64 o, .int .i64 h, .int .i64 n] ∧ .int .i64 (flagsAfter o h n) = r ∧ outs = [] := by
  unfold spFlagsAfter at h
  simp only at h
  split at h
  · rename_i o h n
    simp only [Option.some.injEq, Prod.mk.injEq] at h
    obtain ⟨h1, h2⟩ := h
    exact ⟨o, h, n, rfl, h1, h2.symm⟩
  · cases h
def T_spec_FlagsAfter : Hints := ⟨fun _ => none, fun _ => none, fun i => if i = 0 then some [0, 1, 2] else if i = 1 then some [0, 1, 2, 14] else if i = 2 then some [6] else if i = 3 then some [0, 2, 16] else if i = 4 then some [0, 2, 16, 17] else if i = 5 then some [6] else if i = 6 then some [0, 2, 16, 20] else if i = 7 then some [6] else if i = 8 then some [0, 2, 29] else if i = 9 then some [6] else if i = 10 then some [6] else none, fun _ => none⟩
noncomputable def Phi_spec_FlagsAfter : Tab := fun f => if f = 44 then some spFlagsOk else if f = 57 then some spAnd else none
attribute [go_sem] T_spec_FlagsAfter Phi_spec_FlagsAfter
theorem phi_spec_FlagsAfter : ∀ f sp, Phi_spec_FlagsAfter f = some sp → FnOk Try.prog f sp ∧ ∀ n ∈ sp.need, n ∈ ([] : List String) := by
  intro f sp h
  unfold Phi_spec_FlagsAfter at h
  by_cases e : f = 44
  · rw [if_pos e] at h; cases h; rw [e]; exact ⟨ok_spec_FlagsOk, (fun n (h : n ∈ ([] : List String)) => (nomatch h))⟩
  rw [if_neg e] at h
  by_cases e : f = 57
  · rw [if_pos e] at h; cases h; rw [e]; exact ⟨ok_spec_l06And, (fun n (h : n ∈ ([] : List String)) => (nomatch h))⟩
  rw [if_neg e] at h
  cases h
theorem ok_spec_FlagsAfter : FnOk Try.prog 56 spFlagsAfter := by
  refine fn_ok (Φ := Phi_spec_FlagsAfter) (T := T_spec_FlagsAfter) phi_spec_FlagsAfter mixed Try.func56 rfl rfl rfl (by decide) ?_
  intro ins r outs hr hl
  clear hl
  have hs := spFlagsAfter_in hr
  clear hr
  obtain ⟨o, h, n, rfl, hr, rfl⟩ := hs
  simp only [spFlagsAfter, Try.f56, Go.VM.initS]
  cases f1 : flagsOk o with
  | false =>
    rw [flagsAfter, f1, Bool.false_and, if_neg (by simp)] at hr
    simp only [f1, go_sem]
    repeat' ((first | ((first | apply qa | apply qb | apply qc | apply qd | apply qe | apply qf | apply qg | apply qh | apply qi | apply qj | apply qk) <;> intro hp) | ((first | refine ql rfl rfl (by decide +kernel) ?_ | refine qm _ rfl rfl (by decide +kernel) ?_ | refine goes_opn rfl ?_ | refine goes_opnD rfl rfl (by decide +kernel) ?_) <;> have hp := True.intro)) <;> simp only [hp, f1, go_sem])
    all_goals (simp only [fin_mk, finV, resL, resV1, resIn, endA, listIn, Option.some_or, Option.none_or, oneOrTup, go_sem]; rw [← hr])
  | true =>
    cases f2 : flagsOk n with
    | false =>
      rw [flagsAfter, f1, f2, Bool.true_and, if_neg (by simp)] at hr
      simp only [f1, f2, go_sem]
      repeat' ((first | ((first | apply qa | apply qb | apply qc | apply qd | apply qe | apply qf | apply qg | apply qh | apply qi | apply qj | apply qk) <;> intro hp) | ((first | refine ql rfl rfl (by decide +kernel) ?_ | refine qm _ rfl rfl (by decide +kernel) ?_ | refine goes_opn rfl ?_ | refine goes_opnD rfl rfl (by decide +kernel) ?_) <;> have hp := True.intro)) <;> simp only [hp, f1, f2, go_sem])
      all_goals (simp only [fin_mk, finV, resL, resV1, resIn, endA, listIn, Option.some_or, Option.none_or, oneOrTup, go_sem]; rw [← hr])
    | true =>
      rw [flagsAfter, f1, f2, Bool.true_and, if_pos rfl] at hr
      have b1 := flags_in f1
      have b2 := flags_in f2
      have b3 := andN_in f1 f2
      have w1 : IntKind.i64.wrap (o + n) = o + n := wrap64 (by omega) (by omega)
      have w2 : IntKind.i64.wrap (o + n - andN o n) = o + n - andN o n := wrap64 (by omega) (by omega)
      have w3 : IntKind.i64.wrap (o - andN o n) = o - andN o n := wrap64 (by omega) (by omega)
      by_cases h1 : h = 1
      · subst h1
        rw [if_pos rfl] at hr
        simp only [f1, f2, go_sem]
        repeat' ((first | ((first | apply qa | apply qb | apply qc | apply qd | apply qe | apply qf | apply qg | apply qh | apply qi | apply qj | apply qk) <;> intro hp) | ((first | refine ql rfl rfl (by decide +kernel) ?_ | refine qm _ rfl rfl (by decide +kernel) ?_ | refine goes_opn rfl ?_ | refine goes_opnD rfl rfl (by decide +kernel) ?_) <;> have hp := True.intro)) <;> simp only [hp, f1, f2, go_sem])
        all_goals (simp only [fin_mk, finV, resL, resV1, resIn, endA, listIn, Option.some_or, Option.none_or, oneOrTup, go_sem]; rw [← hr])
      · rw [if_neg h1] at hr
        have e1 : (h == 1) = false := by simpa using h1
        by_cases h2 : h = 2
        · subst h2
          rw [if_pos rfl] at hr
          simp only [f1, f2, e1, w1, w2, go_sem]
          repeat' ((first | ((first | apply qa | apply qb | apply qc | apply qd | apply qe | apply qf | apply qg | apply qh | apply qi | apply qj | apply qk) <;> intro hp) | ((first | refine ql rfl rfl (by decide +kernel) ?_ | refine qm _ rfl rfl (by decide +kernel) ?_ | refine goes_opn rfl ?_ | refine goes_opnD rfl rfl (by decide +kernel) ?_) <;> have hp := True.intro)) <;> simp only [hp, f1, f2, e1, w1, w2, go_sem])
          all_goals (simp only [fin_mk, finV, resL, resV1, resIn, endA, listIn, Option.some_or, Option.none_or, oneOrTup, go_sem]; rw [← hr])
        · rw [if_neg h2] at hr
          have e2 : (h == 2) = false := by simpa using h2
          by_cases h3 : h = 3
          · subst h3
            rw [if_pos rfl] at hr
            simp only [f1, f2, e1, e2, w3, go_sem]
            repeat' ((first | ((first | apply qa | apply qb | apply qc | apply qd | apply qe | apply qf | apply qg | apply qh | apply qi | apply qj | apply qk) <;> intro hp) | ((first | refine ql rfl rfl (by decide +kernel) ?_ | refine qm _ rfl rfl (by decide +kernel) ?_ | refine goes_opn rfl ?_ | refine goes_opnD rfl rfl (by decide +kernel) ?_) <;> have hp := True.intro)) <;> simp only [hp, f1, f2, e1, e2, w3, go_sem])
            all_goals (simp only [fin_mk, finV, resL, resV1, resIn, endA, listIn, Option.some_or, Option.none_or, oneOrTup, go_sem]; rw [← hr])
          · rw [if_neg h3] at hr
            have e3 : (h == 3) = false := by simpa using h3
            simp only [f1, f2, e1, e2, e3, go_sem]
            repeat' ((first | ((first | apply qa | apply qb | apply qc | apply qd | apply qe | apply qf | apply qg | apply qh | apply qi | apply qj | apply qk) <;> intro hp) | ((first | refine ql rfl rfl (by decide +kernel) ?_ | refine qm _ rfl rfl (by decide +kernel) ?_ | refine goes_opn rfl ?_ | refine goes_opnD rfl rfl (by decide +kernel) ?_) <;> have hp := True.intro)) <;> simp only [hp, f1, f2, e1, e2, e3, go_sem])
            all_goals (simp only [fin_mk, finV, resL, resV1, resIn, endA, listIn, Option.some_or, Option.none_or, oneOrTup, go_sem]; rw [← hr])
open Classical in
noncomputable def spSetOfList : VM.Spec := { modes := [.rd], run := fun | [.lst 1 l'] => (decL dInt l').bind fun l => if l.length ≤ 4194304 ∧ l.all (fun x => within x 1 9999) = true then some (.tup [.lst 2 ((scan l).map Range.enc), .bool (setOk (scan l))], []) else none | _ => none, need := [] }
attribute [go_sem] spSetOfList
theorem spSetOfList_in {ins : List V} {r : V} {outs : List V} (h : spSetOfList.run ins = some (r, outs)) : ∃ (l : (List Int)), ins = [.lst 1 ((l).map eInt)] ∧ (l.length ≤ 4194304 ∧ l.all (fun x => within x 1 9999) = true) ∧ .tup [.lst 2 ((scan l).map Range.enc), .bool (setOk (scan l))] = r ∧ outs = [] := by
  unfold spSetOfList at h
  simp only at h
  split at h
  · rename_i l'
    simp only [Option.bind_eq_some_iff] at h
    obtain ⟨l, h_l, h⟩ := h
    split at h
    case isFalse => cases h
    rename_i hc
    simp only [Option.some.injEq, Prod.mk.injEq] at h
    obtain ⟨h1, h2⟩ := h
    have h_l := decL_some (fun _ _ h => dInt_some h) h_l
    subst h_l
    exact ⟨l, rfl, hc, h1, h2.symm⟩
  · cases h
def T_impl_setOfList : Hints := ⟨fun _ => none, fun i => if i = 3 then some [4, 9, 10, 11] else none, fun i => if i = 0 then some [0] else if i = 1 then some [0, 4] else if i = 2 then some [4, 9, 10, 11] else if i = 3 then some [4, 9, 10, 11, 12] else if i = 4 then some [4, 6, 9, 10, 11] else if i = 5 then some [4, 6, 7, 9, 10, 11] else if i = 6 then some [4, 6, 7, 9, 10, 11, 29] else if i = 7 then some [4, 9, 10, 11] else if i = 8 then some [4, 9, 10, 11] else if i = 9 then some [4, 9, 10, 11] else if i = 10 then some [2, 3] else none, fun _ => none⟩
noncomputable def Phi_impl_setOfList : Tab := fun f => if f = 41 then some spSetOk else none
attribute [go_sem] T_impl_setOfList Phi_impl_setOfList
theorem phi_impl_setOfList : ∀ f sp, Phi_impl_setOfList f = some sp → FnOk Try.prog f sp ∧ ∀ n ∈ sp.need, n ∈ ([] : List String) := by
  intro f sp h
  unfold Phi_impl_setOfList at h
  by_cases e : f = 41
  · rw [if_pos e] at h; cases h; rw [e]; exact ⟨ok_impl_SetOk, (fun n (h : n ∈ ([] : List String)) => (nomatch h))⟩
  rw [if_neg e] at h
  cases h
theorem ok_impl_setOfList : FnOk Try.prog 22 spSetOfList := by
  refine fn_ok (Φ := Phi_impl_setOfList) (T := T_impl_setOfList) phi_impl_setOfList mixed Try.func22 rfl rfl rfl (by decide) ?_
  intro ins r outs hr hl
  clear hl
  have hs := spSetOfList_in hr
  clear hr
  obtain ⟨l, rfl, hc, hr, rfl⟩ := hs
  simp only [spSetOfList, Try.f22, Go.VM.initS]
  obtain ⟨hl, ha⟩ := hc
  have hsn : (scan l).length ≤ 4194304 := Nat.le_trans (scan_len l) hl
  simp only [hl, go_sem]
  repeat' ((first | ((first | apply qa | apply qb | apply qc | apply qd | apply qe | apply qf | apply qg | apply qh | apply qi | apply qj | apply qk) <;> intro hp) | ((first | refine ql rfl rfl (by decide +kernel) ?_ | refine qm _ rfl rfl (by decide +kernel) ?_ | refine goes_opn rfl ?_ | refine goes_opnD rfl rfl (by decide +kernel) ?_) <;> have hp := True.intro)) <;> simp only [hp, hl, go_sem])
  refine loop_go (fun i : Nat => [(11, .int .i64 (i : Int))]) (fun i => [(0, ⟨.arr, 2, (scan (l.take i)).map Range.enc⟩)]) (fun i => l.length - i) (fun i => i ≤ l.length) 0 (Nat.zero_le _) rfl rfl ?_
  intro i hi ih
  have hsl : (scan (l.take i)).length ≤ i := Nat.le_trans (scan_len _) (by rw [List.length_take]; omega)
  rcases Nat.lt_or_ge i l.length with h | h
  · have g1 : (i : Int) < l.length := by omega
    have g2 : (0 : Int) ≤ i := by omega
    have g3 : l[i]? = some l[i] := List.getElem?_eq_getElem h
    have g5 := wrap_succ h (by omega)
    have hx : 1 ≤ l[i] ∧ l[i] ≤ 9999 := by
      have := (List.all_eq_true.1 ha) _ (List.getElem_mem h)
      simpa only [within, Bool.and_eq_true, decide_eq_true_eq] using this
    have ih' := ih (i + 1) h (by omega)
    rw [take_succ' h, scan_snoc] at ih'
    clear ih
    generalize hn : l[i] = n at *
    have g6 : IntKind.i64.wrap (n - 1) = n - 1 := wrap64 (by omega) (by omega)
    generalize hO : scan (l.take i) = O at *
    rcases snoc_cases O with rfl | ⟨a, r', rfl⟩
    · rw [push_nil] at ih'
      have b3 : IntKind.i64.wrap (((0 : Nat) : Int) - 1) = -1 := rfl
      simp only [g1, g2, g3, g5, b3, go_sem]
      repeat' ((first | ((first | apply qa | apply qb | apply qc | apply qd | apply qe | apply qf | apply qg | apply qh | apply qi | apply qj | apply qk) <;> intro hp) | ((first | refine ql rfl rfl (by decide +kernel) ?_ | refine qm _ rfl rfl (by decide +kernel) ?_ | refine goes_opn rfl ?_ | refine goes_opnD rfl rfl (by decide +kernel) ?_) <;> have hp := True.intro)) <;> simp only [hp, g1, g2, g3, g5, b3, go_sem])
      exact ih'
    · have hla : a.length + 1 ≤ i := by simpa using hsl
      have b3 : IntKind.i64.wrap (((a.length + 1 : Nat) : Int) - 1) = (a.length : Int) := (wrap64 (by omega) (by omega)).trans (by omega)
      have b4 : (0 : Int) ≤ (a.length : Int) := by omega
      have b5 : (a.length : Int) < ((a.length + 1 : Nat) : Int) := by omega
      have b6 : (List.map Range.enc (a ++ [r']))[a.length]? = some r'.enc := by simp
      have b7 : (List.map Range.enc (a ++ [r'])).set a.length (V.agg [.int .i64 r'.Lo, .int .i64 n]) = List.map Range.enc (a ++ [⟨r'.Lo, n⟩]) := by
        simp [Range.enc]
      have b8 : (List.map Range.enc (a ++ [r'])).length = a.length + 1 := by simp
      have b9 : (a ++ [r']).length = a.length + 1 := by simp
      have b10 : (a.length + 1 + 1) * 16 ≤ 140737488355328 := by omega
      have b11 : a.length + 1 ≤ 9223372036854775806 := by omega
      have b12 : a.length ≤ 9223372036854775805 := by omega
      rw [push_snoc] at ih'
      cases hH : (r'.Hi == n - 1) with
      | true =>
        have hH' : r'.Hi = n - 1 := by simpa using hH
        rw [if_pos hH', ← b7] at ih'
        clear b7
        generalize hX : List.map Range.enc (a ++ [r']) = X at *
        simp only [g1, g2, g3, g5, g6, b3, b4, b5, b6, b8, b9, hH, go_sem]
        repeat' ((first | ((first | apply qa | apply qb | apply qc | apply qd | apply qe | apply qf | apply qg | apply qh | apply qi | apply qj | apply qk) <;> intro hp) | ((first | refine ql rfl rfl (by decide +kernel) ?_ | refine qm _ rfl rfl (by decide +kernel) ?_ | refine goes_opn rfl ?_ | refine goes_opnD rfl rfl (by decide +kernel) ?_) <;> have hp := True.intro)) <;> simp only [hp, g1, g2, g3, g5, g6, b3, b4, b5, b6, b8, b9, hH, go_sem])
        exact ih'
      | false =>
        have hH' : ¬ r'.Hi = n - 1 := by simpa using hH
        rw [if_neg hH', List.map_append, List.map_cons, List.map_nil] at ih'
        clear b7
        generalize hX : List.map Range.enc (a ++ [r']) = X at *
        simp only [g1, g2, g3, g5, g6, b3, b4, b5, b6, b8, b9, b10, b11, b12, hH, go_sem]
        repeat' ((first | ((first | apply qa | apply qb | apply qc | apply qd | apply qe | apply qf | apply qg | apply qh | apply qi | apply qj | apply qk) <;> intro hp) | ((first | refine ql rfl rfl (by decide +kernel) ?_ | refine qm _ rfl rfl (by decide +kernel) ?_ | refine goes_opn rfl ?_ | refine goes_opnD rfl rfl (by decide +kernel) ?_) <;> have hp := True.intro)) <;> simp only [hp, g1, g2, g3, g5, g6, b3, b4, b5, b6, b8, b9, b10, b11, b12, hH, go_sem])
        all_goals first | exact ih' | (clear ih'; omega)
  · have g1 : ¬ (i : Int) < l.length := by omega
    rw [List.take_of_length_le h]
    simp only [g1, hsn, go_sem]
    repeat' ((first | ((first | apply qa | apply qb | apply qc | apply qd | apply qe | apply qf | apply qg | apply qh | apply qi | apply qj | apply qk) <;> intro hp) | ((first | refine ql rfl rfl (by decide +kernel) ?_ | refine qm _ rfl rfl (by decide +kernel) ?_ | refine goes_opn rfl ?_ | refine goes_opnD rfl rfl (by decide +kernel) ?_) <;> have hp := True.intro)) <;> simp only [hp, g1, hsn, go_sem])
    all_goals (simp only [fin_mk, finV, resL, resV1, resIn, endA, listIn, Option.some_or, Option.none_or, oneOrTup, go_sem]; rw [← hr])
end Go.Proofs.Ytimiccneikhkgaa.L
