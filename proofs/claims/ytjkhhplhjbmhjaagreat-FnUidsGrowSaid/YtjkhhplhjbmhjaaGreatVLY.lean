/- Contracts of functions, and the facts that they need. No condition. -/
import Derived.Test.YtjkhhplhjbmhjaaGreatVLH
import Derived.Test.YtjkhhplhjbmhjaaGreatVLG


namespace Go.Proofs.YtjkhhplhjbmhjaaGreat.L
open Go Go.VM
set_option maxRecDepth 100000
set_option maxHeartbeats 4000000
set_option linter.unusedSimpArgs false
set_option linter.unusedVariables false
def flagsAfter (o h n : Int) : Int := if (flagsOk o && flagsOk n) = true then (if h = 1 then n else if h = 2 then o + n - andN o n else if h = 3 then o - andN o n else o) else o
theorem or_some : ∀ a b : Fin 32, (IntKind.i64.wrap (BitVec.ofInt 64 (a.val : Int) ||| BitVec.ofInt 64 (b.val : Int)).toNat = (a.val : Int) + (b.val : Int) - ((a.val &&& b.val : Nat) : Int)) ∧ (IntKind.i64.wrap (BitVec.ofInt 64 (a.val : Int) &&& ~~~ BitVec.ofInt 64 (b.val : Int)).toNat = (a.val : Int) - ((a.val &&& b.val : Nat) : Int)) := by decide +kernel
theorem flags_in {a : Int} (h : flagsOk a = true) : 0 ≤ a ∧ a ≤ 31 := by simpa only [flagsOk, within, Bool.and_eq_true, decide_eq_true_eq] using h
theorem or_impl {a b : Int} (ha : flagsOk a = true) (hb : flagsOk b = true) : (IntKind.i64.wrap (BitVec.ofInt 64 a ||| BitVec.ofInt 64 b).toNat = a + b - andN a b) ∧ (IntKind.i64.wrap (BitVec.ofInt 64 a &&& ~~~ BitVec.ofInt 64 b).toNat = a - andN a b) := by
  have ha := flags_in ha
  have hb := flags_in hb
  obtain ⟨x, rfl⟩ : ∃ x : Nat, a = x := ⟨a.toNat, by omega⟩
  obtain ⟨y, rfl⟩ : ∃ y : Nat, b = y := ⟨b.toNat, by omega⟩
  exact or_some ⟨x, by omega⟩ ⟨y, by omega⟩
theorem andN_in {a b : Int} (ha : flagsOk a = true) (hb : flagsOk b = true) : 0 ≤ andN a b ∧ andN a b ≤ a := by
  have ha := flags_in ha
  have hb := flags_in hb
  have := Nat.and_le_left (n := a.toNat) (m := b.toNat)
  unfold andN
  omega
open Classical in
noncomputable def spFlagsAfter : VM.Spec := { modes := [.rd, .rd, .rd], run := fun | [.int .i64 o, .int .i64 h, .int .i64 n] => some (.int .i64 (flagsAfter o h n), []) | _ => none, need := [] }
attribute [go_sem] spFlagsAfter
theorem spFlagsAfter_in {ins : List V} {r : V} {outs : List V} (h : spFlagsAfter.run ins = some (r, outs)) : ∃ (o : Int) (h : Int) (n : Int), ins = [.int .i64 o, .int .i64 h, .int .i64 n] ∧ .int .i64 (flagsAfter o h n) = r ∧ outs = [] := by
  unfold spFlagsAfter at h
  simp only at h
  split at h
  · rename_i o h n
    simp only [Option.some.injEq, Prod.mk.injEq] at h
    obtain ⟨h1, h2⟩ := h
    exact ⟨o, h, n, rfl, h1, h2.symm⟩
  · cases h
def T_impl_FlagsAfter : Hints := ⟨lk [], lk [], lk [(0, [0, 1, 2]), (1, [0, 1, 2, 14]), (2, [6]), (3, [0, 2, 16]), (4, [0, 2, 16, 17]), (5, [6]), (6, [0, 2, 16, 20]), (7, [6]), (8, [0, 2, 25]), (9, [6]), (10, [6])], lk []⟩
noncomputable def Phi_impl_FlagsAfter : Tab := lk [(65, spFlagsOk)]
attribute [go_sem] T_impl_FlagsAfter Phi_impl_FlagsAfter
theorem phi_impl_FlagsAfter : ∀ f sp, Phi_impl_FlagsAfter f = some sp → FnOk Tryz.prog f sp ∧ ∀ n ∈ sp.need, n ∈ ([] : List String) := phi_cons ok_impl_FlagsOk (n0 rfl) (phi_nil)
theorem ok_impl_FlagsAfter : FnOk Tryz.prog 114 spFlagsAfter := by
  refine fn_ok (Φ := Phi_impl_FlagsAfter) (T := T_impl_FlagsAfter) phi_impl_FlagsAfter mixed Tryz.func114 rfl rfl rfl (by decide) ?_
  intro ins r outs hr hl
  clear hl
  have hs := spFlagsAfter_in hr
  clear hr
  obtain ⟨o, h, n, rfl, hr, rfl⟩ := hs
  simp only [spFlagsAfter, Tryz.f114, Go.VM.initS]
  cases f1 : flagsOk o with
  | false =>
    rw [flagsAfter, f1, Bool.false_and, if_neg (by simp)] at hr
    simp only [f1, go_sem]
    repeat' ((first | apply qa | apply qb | apply qc | apply qd | apply qe | apply qf | apply qg | apply qh | apply qi | apply qj | apply qk) <;> intro hp <;> simp only [hp, f1, go_sem])
    all_goals (simp only [fin_mk, finV, resL, resV1, resIn, endA, listIn, Option.some_or, Option.none_or, oneOrTup, go_sem]; rw [← hr])
  | true =>
    cases f2 : flagsOk n with
    | false =>
      rw [flagsAfter, f1, f2, Bool.true_and, if_neg (by simp)] at hr
      simp only [f1, f2, go_sem]
      repeat' ((first | apply qa | apply qb | apply qc | apply qd | apply qe | apply qf | apply qg | apply qh | apply qi | apply qj | apply qk) <;> intro hp <;> simp only [hp, f1, f2, go_sem])
      all_goals (simp only [fin_mk, finV, resL, resV1, resIn, endA, listIn, Option.some_or, Option.none_or, oneOrTup, go_sem]; rw [← hr])
    | true =>
      rw [flagsAfter, f1, f2, Bool.true_and, if_pos rfl] at hr
      by_cases h1 : h = 1
      · subst h1
        rw [if_pos rfl] at hr
        simp only [f1, f2, go_sem]
        repeat' ((first | apply qa | apply qb | apply qc | apply qd | apply qe | apply qf | apply qg | apply qh | apply qi | apply qj | apply qk) <;> intro hp <;> simp only [hp, f1, f2, go_sem])
        all_goals (simp only [fin_mk, finV, resL, resV1, resIn, endA, listIn, Option.some_or, Option.none_or, oneOrTup, go_sem]; rw [← hr])
      · rw [if_neg h1] at hr
        have e1 : (h == 1) = false := by simpa using h1
        by_cases h2 : h = 2
        · subst h2
          rw [if_pos rfl] at hr
          have q := (or_impl f1 f2).1
          rw [← q] at hr
          simp only [f1, f2, e1, go_sem]
          repeat' ((first | apply qa | apply qb | apply qc | apply qd | apply qe | apply qf | apply qg | apply qh | apply qi | apply qj | apply qk) <;> intro hp <;> simp only [hp, f1, f2, e1, go_sem])
          all_goals (simp only [fin_mk, finV, resL, resV1, resIn, endA, listIn, Option.some_or, Option.none_or, oneOrTup, go_sem]; rw [← hr])
          all_goals rfl
        · rw [if_neg h2] at hr
          have e2 : (h == 2) = false := by simpa using h2
          by_cases h3 : h = 3
          · subst h3
            rw [if_pos rfl] at hr
            have q := (or_impl f1 f2).2
            rw [← q] at hr
            simp only [f1, f2, e1, e2, go_sem]
            repeat' ((first | apply qa | apply qb | apply qc | apply qd | apply qe | apply qf | apply qg | apply qh | apply qi | apply qj | apply qk) <;> intro hp <;> simp only [hp, f1, f2, e1, e2, go_sem])
            all_goals (simp only [fin_mk, finV, resL, resV1, resIn, endA, listIn, Option.some_or, Option.none_or, oneOrTup, go_sem]; rw [← hr])
            all_goals rfl
          · rw [if_neg h3] at hr
            have e3 : (h == 3) = false := by simpa using h3
            simp only [f1, f2, e1, e2, e3, go_sem]
            repeat' ((first | apply qa | apply qb | apply qc | apply qd | apply qe | apply qf | apply qg | apply qh | apply qi | apply qj | apply qk) <;> intro hp <;> simp only [hp, f1, f2, e1, e2, e3, go_sem])
            all_goals (simp only [fin_mk, finV, resL, resV1, resIn, endA, listIn, Option.some_or, Option.none_or, oneOrTup, go_sem]; rw [← hr])
def T_spec_FlagsAfter : Hints := ⟨lk [], lk [], lk [(0, [0, 1, 2]), (1, [0, 1, 2, 14]), (2, [6]), (3, [0, 2, 16]), (4, [0, 2, 16, 17]), (5, [6]), (6, [0, 2, 16, 20]), (7, [6]), (8, [0, 2, 29]), (9, [6]), (10, [6])], lk []⟩
noncomputable def Phi_spec_FlagsAfter : Tab := lk [(88, spFlagsOk), (129, spAnd)]
attribute [go_sem] T_spec_FlagsAfter Phi_spec_FlagsAfter
theorem phi_spec_FlagsAfter : ∀ f sp, Phi_spec_FlagsAfter f = some sp → FnOk Tryz.prog f sp ∧ ∀ n ∈ sp.need, n ∈ ([] : List String) := phi_cons ok_spec_FlagsOk (n0 rfl) (phi_cons ok_spec_l06And (n0 rfl) (phi_nil))
theorem ok_spec_FlagsAfter : FnOk Tryz.prog 128 spFlagsAfter := by
  refine fn_ok (Φ := Phi_spec_FlagsAfter) (T := T_spec_FlagsAfter) phi_spec_FlagsAfter mixed Tryz.func128 rfl rfl rfl (by decide) ?_
  intro ins r outs hr hl
  clear hl
  have hs := spFlagsAfter_in hr
  clear hr
  obtain ⟨o, h, n, rfl, hr, rfl⟩ := hs
  simp only [spFlagsAfter, Tryz.f128, Go.VM.initS]
  cases f1 : flagsOk o with
  | false =>
    rw [flagsAfter, f1, Bool.false_and, if_neg (by simp)] at hr
    simp only [f1, go_sem]
    repeat' ((first | apply qa | apply qb | apply qc | apply qd | apply qe | apply qf | apply qg | apply qh | apply qi | apply qj | apply qk) <;> intro hp <;> simp only [hp, f1, go_sem])
    all_goals (simp only [fin_mk, finV, resL, resV1, resIn, endA, listIn, Option.some_or, Option.none_or, oneOrTup, go_sem]; rw [← hr])
  | true =>
    cases f2 : flagsOk n with
    | false =>
      rw [flagsAfter, f1, f2, Bool.true_and, if_neg (by simp)] at hr
      simp only [f1, f2, go_sem]
      repeat' ((first | apply qa | apply qb | apply qc | apply qd | apply qe | apply qf | apply qg | apply qh | apply qi | apply qj | apply qk) <;> intro hp <;> simp only [hp, f1, f2, go_sem])
      all_goals (simp only [fin_mk, finV, resL, resV1, resIn, endA, listIn, Option.some_or, Option.none_or, oneOrTup, go_sem]; rw [← hr])
    | true =>
      rw [flagsAfter, f1, f2, Bool.true_and, if_pos rfl] at hr
      have b1 := flags_in f1
      have b2 := flags_in f2
      have b3 := andN_in f1 f2
      have w1 : IntKind.i64.wrap (o + n) = o + n := wrap64 (by omega) (by omega)
      have w2 : IntKind.i64.wrap (o + n - andN o n) = o + n - andN o n := wrap64 (by omega) (by omega)
      have w3 : IntKind.i64.wrap (o - andN o n) = o - andN o n := wrap64 (by omega) (by omega)
      by_cases h1 : h = 1
      · subst h1
        rw [if_pos rfl] at hr
        simp only [f1, f2, go_sem]
        repeat' ((first | apply qa | apply qb | apply qc | apply qd | apply qe | apply qf | apply qg | apply qh | apply qi | apply qj | apply qk) <;> intro hp <;> simp only [hp, f1, f2, go_sem])
        all_goals (simp only [fin_mk, finV, resL, resV1, resIn, endA, listIn, Option.some_or, Option.none_or, oneOrTup, go_sem]; rw [← hr])
      · rw [if_neg h1] at hr
        have e1 : (h == 1) = false := by simpa using h1
        by_cases h2 : h = 2
        · subst h2
          rw [if_pos rfl] at hr
          simp only [f1, f2, e1, w1, w2, go_sem]
          repeat' ((first | apply qa | apply qb | apply qc | apply qd | apply qe | apply qf | apply qg | apply qh | apply qi | apply qj | apply qk) <;> intro hp <;> simp only [hp, f1, f2, e1, w1, w2, go_sem])
          all_goals (simp only [fin_mk, finV, resL, resV1, resIn, endA, listIn, Option.some_or, Option.none_or, oneOrTup, go_sem]; rw [← hr])
        · rw [if_neg h2] at hr
          have e2 : (h == 2) = false := by simpa using h2
          by_cases h3 : h = 3
          · subst h3
            rw [if_pos rfl] at hr
            simp only [f1, f2, e1, e2, w3, go_sem]
            repeat' ((first | apply qa | apply qb | apply qc | apply qd | apply qe | apply qf | apply qg | apply qh | apply qi | apply qj | apply qk) <;> intro hp <;> simp only [hp, f1, f2, e1, e2, w3, go_sem])
            all_goals (simp only [fin_mk, finV, resL, resV1, resIn, endA, listIn, Option.some_or, Option.none_or, oneOrTup, go_sem]; rw [← hr])
          · rw [if_neg h3] at hr
            have e3 : (h == 3) = false := by simpa using h3
            simp only [f1, f2, e1, e2, e3, go_sem]
            repeat' ((first | apply qa | apply qb | apply qc | apply qd | apply qe | apply qf | apply qg | apply qh | apply qi | apply qj | apply qk) <;> intro hp <;> simp only [hp, f1, f2, e1, e2, e3, go_sem])
            all_goals (simp only [fin_mk, finV, resL, resV1, resIn, endA, listIn, Option.some_or, Option.none_or, oneOrTup, go_sem]; rw [← hr])
open Classical in
noncomputable def spSetOfList : VM.Spec := { modes := [.rd], run := fun | [.lst 1 l'] => (decL dInt l').bind fun l => if l.length ≤ 4194304 ∧ l.all (fun x => within x 1 9999) = true then some (.tup [.lst 2 ((scan l).map Range.enc), .bool (setOk (scan l))], []) else none | _ => none, need := [] }
attribute [go_sem] spSetOfList
theorem spSetOfList_in {ins : List V} {r : V} {outs : List V} (h : spSetOfList.run ins = some (r, outs)) : ∃ (l : (List Int)), ins = [.lst 1 ((l).map eInt)] ∧ (l.length ≤ 4194304 ∧ l.all (fun x => within x 1 9999) = true) ∧ .tup [.lst 2 ((scan l).map Range.enc), .bool (setOk (scan l))] = r ∧ outs = [] := by
  unfold spSetOfList at h
  simp only at h
  split at h
  · rename_i l'
    simp only [Option.bind_eq_some_iff] at h
    obtain ⟨l, h_l, h⟩ := h
    split at h
    case isFalse => cases h
    rename_i hc
    simp only [Option.some.injEq, Prod.mk.injEq] at h
    obtain ⟨h1, h2⟩ := h
    have h_l := decL_some (fun _ _ h => dInt_some h) h_l
    subst h_l
    exact ⟨l, rfl, hc, h1, h2.symm⟩
  · cases h
def T_impl_setOfList : Hints := ⟨lk [], lk [(3, [4, 9, 10, 11])], lk [(0, [0]), (1, [0, 4]), (2, [4, 9, 10, 11]), (3, [4, 9, 10, 11, 12]), (4, [4, 6, 9, 10, 11]), (5, [4, 6, 7, 9, 10, 11]), (6, [4, 6, 7, 9, 10, 11, 29]), (7, [4, 9, 10, 11]), (8, [4, 9, 10, 11]), (9, [4, 9, 10, 11]), (10, [2, 3])], lk []⟩
noncomputable def Phi_impl_setOfList : Tab := lk [(64, spSetOk)]
attribute [go_sem] T_impl_setOfList Phi_impl_setOfList
theorem phi_impl_setOfList : ∀ f sp, Phi_impl_setOfList f = some sp → FnOk Tryz.prog f sp ∧ ∀ n ∈ sp.need, n ∈ ([] : List String) := phi_cons ok_impl_SetOk (n0 rfl) (phi_nil)
theorem ok_impl_setOfList : FnOk Tryz.prog 115 spSetOfList := by
  refine fn_ok (Φ := Phi_impl_setOfList) (T := T_impl_setOfList) phi_impl_setOfList mixed Tryz.func115 rfl rfl rfl (by decide) ?_
  intro ins r outs hr hl
  clear hl
  have hs := spSetOfList_in hr
  clear hr
  obtain ⟨l, rfl, hc, hr, rfl⟩ := hs
  simp only [spSetOfList, Tryz.f115, Go.VM.initS]
  obtain ⟨hl, ha⟩ := hc
  have hsn : (scan l).length ≤ 4194304 := Nat.le_trans (scan_len l) hl
  simp only [hl, go_sem]
  repeat' ((first | apply qa | apply qb | apply qc | apply qd | apply qe | apply qf | apply qg | apply qh | apply qi | apply qj | apply qk) <;> intro hp <;> simp only [hp, hl, go_sem])
  refine loop_go (fun i : Nat => [(11, .int .i64 (i : Int))]) (fun i => [(0, ⟨.arr, 2, (scan (l.take i)).map Range.enc⟩)]) (fun i => l.length - i) (fun i => i ≤ l.length) 0 (Nat.zero_le _) rfl rfl ?_
  intro i hi ih
  have hsl : (scan (l.take i)).length ≤ i := Nat.le_trans (scan_len _) (by rw [List.length_take]; omega)
  rcases Nat.lt_or_ge i l.length with h | h
  · have g1 : (i : Int) < l.length := by omega
    have g2 : (0 : Int) ≤ i := by omega
    have g3 : l[i]? = some l[i] := List.getElem?_eq_getElem h
    have g5 := wrap_succ h (by omega)
    have hx : 1 ≤ l[i] ∧ l[i] ≤ 9999 := by
      have := (List.all_eq_true.1 ha) _ (List.getElem_mem h)
      simpa only [within, Bool.and_eq_true, decide_eq_true_eq] using this
    have ih' := ih (i + 1) h (by omega)
    rw [take_succ' h, scan_snoc] at ih'
    clear ih
    generalize hn : l[i] = n at *
    have g6 : IntKind.i64.wrap (n - 1) = n - 1 := wrap64 (by omega) (by omega)
    generalize hO : scan (l.take i) = O at *
    rcases snoc_cases O with rfl | ⟨a, r', rfl⟩
    · rw [push_nil] at ih'
      have b3 : IntKind.i64.wrap (((0 : Nat) : Int) - 1) = -1 := rfl
      simp only [g1, g2, g3, g5, b3, go_sem]
      repeat' ((first | apply qa | apply qb | apply qc | apply qd | apply qe | apply qf | apply qg | apply qh | apply qi | apply qj | apply qk) <;> intro hp <;> simp only [hp, g1, g2, g3, g5, b3, go_sem])
      exact ih'
    · have hla : a.length + 1 ≤ i := by simpa using hsl
      have b3 : IntKind.i64.wrap (((a.length + 1 : Nat) : Int) - 1) = (a.length : Int) := (wrap64 (by omega) (by omega)).trans (by omega)
      have b4 : (0 : Int) ≤ (a.length : Int) := by omega
      have b5 : (a.length : Int) < ((a.length + 1 : Nat) : Int) := by omega
      have b6 : (List.map Range.enc (a ++ [r']))[a.length]? = some r'.enc := by simp
      have b7 : (List.map Range.enc (a ++ [r'])).set a.length (V.agg [.int .i64 r'.Lo, .int .i64 n]) = List.map Range.enc (a ++ [⟨r'.Lo, n⟩]) := by
        simp [Range.enc]
      have b8 : (List.map Range.enc (a ++ [r'])).length = a.length + 1 := by simp
      have b9 : (a ++ [r']).length = a.length + 1 := by simp
      have b10 : (a.length + 1 + 1) * 16 ≤ 140737488355328 := by omega
      have b11 : a.length + 1 ≤ 9223372036854775806 := by omega
      have b12 : a.length ≤ 9223372036854775805 := by omega
      rw [push_snoc] at ih'
      cases hH : (r'.Hi == n - 1) with
      | true =>
        have hH' : r'.Hi = n - 1 := by simpa using hH
        rw [if_pos hH', ← b7] at ih'
        clear b7
        generalize hX : List.map Range.enc (a ++ [r']) = X at *
        simp only [g1, g2, g3, g5, g6, b3, b4, b5, b6, b8, b9, hH, go_sem]
        repeat' ((first | apply qa | apply qb | apply qc | apply qd | apply qe | apply qf | apply qg | apply qh | apply qi | apply qj | apply qk) <;> intro hp <;> simp only [hp, g1, g2, g3, g5, g6, b3, b4, b5, b6, b8, b9, hH, go_sem])
        exact ih'
      | false =>
        have hH' : ¬ r'.Hi = n - 1 := by simpa using hH
        rw [if_neg hH', List.map_append, List.map_cons, List.map_nil] at ih'
        clear b7
        generalize hX : List.map Range.enc (a ++ [r']) = X at *
        simp only [g1, g2, g3, g5, g6, b3, b4, b5, b6, b8, b9, b10, b11, b12, hH, go_sem]
        repeat' ((first | apply qa | apply qb | apply qc | apply qd | apply qe | apply qf | apply qg | apply qh | apply qi | apply qj | apply qk) <;> intro hp <;> simp only [hp, g1, g2, g3, g5, g6, b3, b4, b5, b6, b8, b9, b10, b11, b12, hH, go_sem])
        all_goals first | exact ih' | (clear ih'; omega)
  · have g1 : ¬ (i : Int) < l.length := by omega
    rw [List.take_of_length_le h]
    simp only [g1, hsn, go_sem]
    repeat' ((first | apply qa | apply qb | apply qc | apply qd | apply qe | apply qf | apply qg | apply qh | apply qi | apply qj | apply qk) <;> intro hp <;> simp only [hp, g1, hsn, go_sem])
    all_goals (simp only [fin_mk, finV, resL, resV1, resIn, endA, listIn, Option.some_or, Option.none_or, oneOrTup, go_sem]; rw [← hr])
end Go.Proofs.YtjkhhplhjbmhjaaGreat.L

namespace Go.Proofs.YtjkhhplhjbmhjaaGreat.L
open Go Go.VM
set_option maxRecDepth 100000
set_option maxHeartbeats 4000000
set_option linter.unusedSimpArgs false
set_option linter.unusedVariables false
theorem asc_of_adj : ∀ {l : List Int}, (∀ i, (h : i + 1 < l.length) → l[i] < l[i + 1]) → l.Pairwise (· < ·)
  | [], _ => List.Pairwise.nil
  | [x], _ => List.pairwise_singleton _ _
  | x :: y :: t, h => by
    have h1 : (y :: t).Pairwise (· < ·) := asc_of_adj fun i hi => by
      have := h (i + 1) (by simpa using hi)
      simpa using this
    have h2 : x < y := by simpa using h 0 (by simp)
    refine List.Pairwise.cons (fun z hz => ?_) h1
    rcases List.mem_cons.1 hz with rfl | hz
    · exact h2
    · exact Int.lt_trans h2 ((List.pairwise_cons.1 h1).1 z hz)
theorem mailAt_of {b : Box} (h : boxOk b = true) {i : Nat} (hi : i < b.Mails.length) : mailAtOk b i = true := by
  simp only [boxOk, mailsOk, Bool.and_eq_true] at h
  exact allN_get h.1.2.1 hi
theorem mail_in {b : Box} (h : boxOk b = true) {i : Nat} (hi : i < b.Mails.length) : 1 ≤ b.Mails[i].Uid ∧ b.Mails[i].Uid ≤ 9998 ∧ flagsOk b.Mails[i].Flags = true := by
  have h1 := mailAt_of h hi
  have h2 := numsOk_next (boxOk_parts h).1
  simp only [mailAtOk, Bool.and_eq_true, within, decide_eq_true_eq, List.getD_eq_getElem?_getD, List.getElem?_eq_getElem hi, Option.getD_some] at h1
  exact ⟨h1.1.1.1.1.1, by omega, h1.1.1.2⟩
theorem uids_asc {b : Box} (h : boxOk b = true) : Asc (b.Mails.map (·.Uid)) 9999 := by
  refine ⟨asc_of_adj fun i hi => ?_, fun x hx => ?_⟩
  · rw [List.length_map] at hi
    have h1 := mailAt_of h hi
    simp only [mailAtOk, Bool.and_eq_true, Bool.or_eq_true, decide_eq_true_eq, List.getD_eq_getElem?_getD, List.getElem?_eq_getElem hi, Option.getD_some, Nat.add_sub_cancel, List.getElem?_eq_getElem (show i < b.Mails.length by omega)] at h1
    have h2 := h1.1.1.1.2
    simp only [List.getElem_map]
    rcases h2 with h2 | h2
    · simp at h2
    · exact h2
  · obtain ⟨m, hm, rfl⟩ := List.mem_map.1 hx
    obtain ⟨i, hi, rfl⟩ := List.mem_iff_getElem.1 hm
    have := mail_in h hi
    omega
theorem filter_asc {b : Box} (h : boxOk b = true) (p : Mail → Bool) : Asc ((b.Mails.filter p).map (·.Uid)) 9999 := by
  have hs : ((b.Mails.filter p).map (·.Uid)).Sublist (b.Mails.map (·.Uid)) := List.Sublist.map _ List.filter_sublist
  have ha := uids_asc h
  exact ⟨ha.1.sublist hs, fun x hx => ha.2 x (hs.subset hx)⟩
theorem asc_all {l : List Int} (h : Asc l 9999) : l.all (fun x => within x 1 9999) = true := by
  rw [List.all_eq_true]
  intro x hx
  have := h.2 x hx
  simp only [within, Bool.and_eq_true, decide_eq_true_eq]; omega
theorem uids_len (l : List Mail) (p : Mail → Bool) (i : Nat) : (((l.take i).filter p).map (·.Uid)).length ≤ l.length := by
  rw [List.length_map]
  have h1 := List.length_filter_le p (l.take i)
  have h2 : (l.take i).length ≤ l.length := by rw [List.length_take]; omega
  omega
theorem setOf_nil' : setOf [] = [] := by
  have : (nums 9999).filter (fun n => decide (n ∈ ([] : List Int))) = [] := List.filter_eq_nil_iff.2 (fun _ _ => by simp)
  rw [setOf, this]; rfl
end Go.Proofs.YtjkhhplhjbmhjaaGreat.L

namespace Go.Proofs.YtjkhhplhjbmhjaaGreat.L
open Go Go.VM
set_option maxRecDepth 100000
set_option maxHeartbeats 4000000
set_option linter.unusedSimpArgs false
set_option linter.unusedVariables false
def goneI (s : List Range) (m : Mail) : Bool := hasR s m.Uid && (IntKind.i64.wrap (BitVec.ofInt 64 m.Flags &&& BitVec.ofInt 64 8).toNat != 0)
open Classical in
noncomputable def spGone : VM.Spec := { modes := [.rd, .rd], run := fun | [m', .rptr (.lst 2 u')] => (Mail.dec m').bind fun m => (decL Range.dec u').bind fun u => if u.length ≤ 4194304 then some (.bool (goneI u m), []) else none | _ => none, need := [] }
attribute [go_sem] spGone
theorem spGone_in {ins : List V} {r : V} {outs : List V} (h : spGone.run ins = some (r, outs)) : ∃ (m : Mail) (u : (List Range)), ins = [Mail.enc m, .rptr (.lst 2 ((u).map Range.enc))] ∧ (u.length ≤ 4194304) ∧ .bool (goneI u m) = r ∧ outs = [] := by
  unfold spGone at h
  simp only at h
  split at h
  · rename_i m' u'
    simp only [Option.bind_eq_some_iff] at h
    obtain ⟨m, h_m, u, h_u, h⟩ := h
    split at h
    case isFalse => cases h
    rename_i hc
    simp only [Option.some.injEq, Prod.mk.injEq] at h
    obtain ⟨h1, h2⟩ := h
    have h_m := Mail.dec_some h_m
    subst h_m
    have h_u := decL_some (fun _ _ h => Range.dec_some h) h_u
    subst h_u
    exact ⟨m, u, rfl, hc, h1, h2.symm⟩
  · cases h
def T_impl_Expunge_1 : Hints := ⟨lk [], lk [], lk [(0, [1, 2]), (1, [3])], lk []⟩
noncomputable def Phi_impl_Expunge_1 : Tab := lk [(70, spSetHas)]
attribute [go_sem] T_impl_Expunge_1 Phi_impl_Expunge_1
theorem phi_impl_Expunge_1 : ∀ f sp, Phi_impl_Expunge_1 f = some sp → FnOk Tryz.prog f sp ∧ ∀ n ∈ sp.need, n ∈ ([] : List String) := phi_cons ok_impl_SetHas (n0 rfl) (phi_nil)
theorem ok_impl_Expunge_1 : FnOk Tryz.prog 116 spGone := by
  refine fn_ok (Φ := Phi_impl_Expunge_1) (T := T_impl_Expunge_1) phi_impl_Expunge_1 mixed Tryz.func116 rfl rfl rfl (by decide) ?_
  intro ins r outs hr hl
  clear hl
  have hs := spGone_in hr
  clear hr
  obtain ⟨m, u, rfl, hc, hr, rfl⟩ := hs
  simp only [spGone, Tryz.f116, Go.VM.initS]
  have h1 : u.length ≤ 8388608 := by omega
  cases hh : hasR u m.Uid with
  | false =>
    simp only [h1, hh, go_sem]
    repeat' ((first | apply qa | apply qb | apply qc | apply qd | apply qe | apply qf | apply qg | apply qh | apply qi | apply qj | apply qk) <;> intro hp <;> simp only [hp, h1, hh, go_sem])
    simp only [fin_mk, finV, resL, resV1, resIn, endA, listIn, Option.some_or, Option.none_or, oneOrTup, go_sem]
    rw [← hr]
    rw [goneI, hh]; rfl
  | true =>
    simp only [h1, hh, go_sem]
    repeat' ((first | apply qa | apply qb | apply qc | apply qd | apply qe | apply qf | apply qg | apply qh | apply qi | apply qj | apply qk) <;> intro hp <;> simp only [hp, h1, hh, go_sem])
    simp only [fin_mk, finV, resL, resV1, resIn, endA, listIn, Option.some_or, Option.none_or, oneOrTup, go_sem]
    rw [← hr]
    rw [goneI, hh]; rfl
open Classical in
noncomputable def spLeast : VM.Spec := { modes := [.rd, .rd], run := fun | [t', .rptr (.int .i64 u)] => (Tomb.dec t').bind fun t => some (.bool ((t.Mod == u)), []) | _ => none, need := [] }
attribute [go_sem] spLeast
theorem spLeast_in {ins : List V} {r : V} {outs : List V} (h : spLeast.run ins = some (r, outs)) : ∃ (t : Tomb) (u : Int), ins = [Tomb.enc t, .rptr (.int .i64 u)] ∧ .bool ((t.Mod == u)) = r ∧ outs = [] := by
  unfold spLeast at h
  simp only at h
  split at h
  · rename_i t' u
    simp only [Option.bind_eq_some_iff] at h
    obtain ⟨t, h_t, h⟩ := h
    simp only [Option.some.injEq, Prod.mk.injEq] at h
    obtain ⟨h1, h2⟩ := h
    have h_t := Tomb.dec_some h_t
    subst h_t
    exact ⟨t, u, rfl, h1, h2.symm⟩
  · cases h
def T_impl_Expunge_2 : Hints := ⟨lk [], lk [], lk [(0, [1, 2]), (1, [3])], lk []⟩
noncomputable def Phi_impl_Expunge_2 : Tab := lk []
attribute [go_sem] T_impl_Expunge_2 Phi_impl_Expunge_2
theorem phi_impl_Expunge_2 : ∀ f sp, Phi_impl_Expunge_2 f = some sp → FnOk Tryz.prog f sp ∧ ∀ n ∈ sp.need, n ∈ ([] : List String) := phi_nil
theorem ok_impl_Expunge_2 : FnOk Tryz.prog 119 spLeast := by
  refine fn_ok (Φ := Phi_impl_Expunge_2) (T := T_impl_Expunge_2) phi_impl_Expunge_2 mixed Tryz.func119 rfl rfl rfl (by decide) ?_
  intro ins r outs hr hl
  clear hl
  have hs := spLeast_in hr
  clear hr
  obtain ⟨t, u, rfl, hr, rfl⟩ := hs
  simp only [spLeast, Tryz.f119, Go.VM.initS]
  simp only [go_sem]
  repeat' ((first | apply qa | apply qb | apply qc | apply qd | apply qe | apply qf | apply qg | apply qh | apply qi | apply qj | apply qk) <;> intro hp <;> simp only [hp, go_sem])
  simp only [fin_mk, finV, resL, resV1, resIn, endA, listIn, Option.some_or, Option.none_or, oneOrTup, go_sem]
  rw [← hr]
open Classical in
noncomputable def spIdxGone : VM.Spec := { modes := [.rd, .rd], run := fun | [.lst 4 l', .fn 116 [.rptr (.lst 2 u')]] => (decL Mail.dec l').bind fun l => (decL Range.dec u').bind fun u => if l.length ≤ 4194304 ∧ u.length ≤ 4194304 then some (.int .i64 (idxL (fun x : Mail => goneI u x) l), []) else none | _ => none, need := [] }
attribute [go_sem] spIdxGone
theorem spIdxGone_in {ins : List V} {r : V} {outs : List V} (h : spIdxGone.run ins = some (r, outs)) : ∃ (l : (List Mail)) (u : (List Range)), ins = [.lst 4 ((l).map Mail.enc), .fn 116 [.rptr (.lst 2 ((u).map Range.enc))]] ∧ (l.length ≤ 4194304 ∧ u.length ≤ 4194304) ∧ .int .i64 (idxL (fun x : Mail => goneI u x) l) = r ∧ outs = [] := by
  unfold spIdxGone at h
  simp only at h
  split at h
  · rename_i l' u'
    simp only [Option.bind_eq_some_iff] at h
    obtain ⟨l, h_l, u, h_u, h⟩ := h
    split at h
    case isFalse => cases h
    rename_i hc
    simp only [Option.some.injEq, Prod.mk.injEq] at h
    obtain ⟨h1, h2⟩ := h
    have h_l := decL_some (fun _ _ h => Mail.dec_some h) h_l
    subst h_l
    have h_u := decL_some (fun _ _ h => Range.dec_some h) h_u
    subst h_u
    exact ⟨l, u, rfl, hc, h1, h2.symm⟩
  · cases h
def T_slices_IndexFunc_loop_example_g00247_impl_Mail_loop_example_g00247_impl_Mail_gone : Hints := ⟨lk [], lk [(2, [0, 1, 7, 8])], lk [(0, [0, 1]), (1, [0, 1, 7, 8]), (2, [0, 1, 7, 8, 9]), (3, [0, 1, 5, 7, 8]), (4, [0, 1, 5, 7, 8, 16]), (5, [4]), (6, [0, 1, 7, 8]), (7, [4])], lk []⟩
noncomputable def Phi_slices_IndexFunc_loop_example_g00247_impl_Mail_loop_example_g00247_impl_Mail_gone : Tab := lk [(116, spGone)]
attribute [go_sem] T_slices_IndexFunc_loop_example_g00247_impl_Mail_loop_example_g00247_impl_Mail_gone Phi_slices_IndexFunc_loop_example_g00247_impl_Mail_loop_example_g00247_impl_Mail_gone
theorem phi_slices_IndexFunc_loop_example_g00247_impl_Mail_loop_example_g00247_impl_Mail_gone : ∀ f sp, Phi_slices_IndexFunc_loop_example_g00247_impl_Mail_loop_example_g00247_impl_Mail_gone f = some sp → FnOk Tryz.prog f sp ∧ ∀ n ∈ sp.need, n ∈ ([] : List String) := phi_cons ok_impl_Expunge_1 (n0 rfl) (phi_nil)
theorem ok_slices_IndexFunc_loop_example_g00247_impl_Mail_loop_example_g00247_impl_Mail_gone : FnOk Tryz.prog 120 spIdxGone := by
  refine fn_ok (Φ := Phi_slices_IndexFunc_loop_example_g00247_impl_Mail_loop_example_g00247_impl_Mail_gone) (T := T_slices_IndexFunc_loop_example_g00247_impl_Mail_loop_example_g00247_impl_Mail_gone) phi_slices_IndexFunc_loop_example_g00247_impl_Mail_loop_example_g00247_impl_Mail_gone mixed Tryz.func120 rfl rfl rfl (by decide) ?_
  intro ins r outs hr hl
  clear hl
  have hs := spIdxGone_in hr
  clear hr
  obtain ⟨l, u, rfl, hc, hr, rfl⟩ := hs
  simp only [spIdxGone, Tryz.f120, Go.VM.initS]
  obtain ⟨hc, hu⟩ := hc
  simp only [go_sem]
  refine loop_go (fun i : Nat => [(8, .int .i64 (i : Int))]) (fun _ => []) (fun i => l.length - i) (fun i => i ≤ l.length ∧ ∀ j (hj : j < i) (hl : j < l.length), (fun x : Mail => goneI u x) l[j] = false) 0 ⟨Nat.zero_le _, fun j hj => absurd hj (by omega)⟩ rfl rfl ?_
  intro i ⟨hi, ha⟩ ih
  rcases Nat.lt_or_ge i l.length with h | h
  · have g1 : (i : Int) < l.length := by omega
    have g2 : (0 : Int) ≤ i := by omega
    have g3 : l[i]? = some l[i] := List.getElem?_eq_getElem h
    have g5 := wrap_succ h (by omega)
    cases hb : goneI u l[i] with
    | true =>
      simp only [g1, g2, g3, g5, hb, hu, go_sem]
      repeat' ((first | apply qa | apply qb | apply qc | apply qd | apply qe | apply qf | apply qg | apply qh | apply qi | apply qj | apply qk) <;> intro hp <;> simp only [hp, g1, g2, g3, g5, hb, hu, go_sem])
      simp only [fin_mk, finV, resL, resV1, resIn, endA, listIn, Option.some_or, Option.none_or, oneOrTup, go_sem]
      rw [← hr]
      rw [idxL_hit h (fun j hj => ha j hj (by omega)) hb]
    | false =>
      simp only [g1, g2, g3, g5, hb, hu, go_sem]
      repeat' ((first | apply qa | apply qb | apply qc | apply qd | apply qe | apply qf | apply qg | apply qh | apply qi | apply qj | apply qk) <;> intro hp <;> simp only [hp, g1, g2, g3, g5, hb, hu, go_sem])
      refine ih (i + 1) ⟨h, fun j hj hl => ?_⟩ (by omega)
      rcases Nat.lt_or_ge j i with h1 | h1
      · exact ha j h1 hl
      · have : j = i := by omega
        subst this; exact hb
  · have g1 : ¬ (i : Int) < l.length := by omega
    simp only [g1, go_sem]
    simp only [fin_mk, finV, resL, resV1, resIn, endA, listIn, Option.some_or, Option.none_or, oneOrTup, go_sem]
    rw [← hr]
    rw [idxL_miss fun j hj => ha j (by omega) hj]
open Classical in
noncomputable def spDelGone : VM.Spec := { modes := [.use, .rd], run := fun | [.lst 4 l', .fn 116 [.rptr (.lst 2 u')]] => (decL Mail.dec l').bind fun l => (decL Range.dec u').bind fun u => if l.length ≤ 4194304 ∧ u.length ≤ 4194304 then some (.lst 4 ((l.filter (fun x : Mail => !goneI u x)).map Mail.enc), []) else none | _ => none, need := [] }
attribute [go_sem] spDelGone
theorem spDelGone_in {ins : List V} {r : V} {outs : List V} (h : spDelGone.run ins = some (r, outs)) : ∃ (l : (List Mail)) (u : (List Range)), ins = [.lst 4 ((l).map Mail.enc), .fn 116 [.rptr (.lst 2 ((u).map Range.enc))]] ∧ (l.length ≤ 4194304 ∧ u.length ≤ 4194304) ∧ .lst 4 ((l.filter (fun x : Mail => !goneI u x)).map Mail.enc) = r ∧ outs = [] := by
  unfold spDelGone at h
  simp only at h
  split at h
  · rename_i l' u'
    simp only [Option.bind_eq_some_iff] at h
    obtain ⟨l, h_l, u, h_u, h⟩ := h
    split at h
    case isFalse => cases h
    rename_i hc
    simp only [Option.some.injEq, Prod.mk.injEq] at h
    obtain ⟨h1, h2⟩ := h
    have h_l := decL_some (fun _ _ h => Mail.dec_some h) h_l
    subst h_l
    have h_u := decL_some (fun _ _ h => Range.dec_some h) h_u
    subst h_u
    exact ⟨l, u, rfl, hc, h1, h2.symm⟩
  · cases h
def T_slices_DeleteFunc_loop_example_g00247_impl_Mail_loop_example_g00247_impl_Mail_gone : Hints := ⟨lk [], lk [(5, [0, 1, 5, 6])], lk [(0, [0, 1]), (1, [0, 1, 5]), (2, [0, 1, 5, 12]), (3, [4]), (4, [0, 1, 5, 6]), (5, [0, 1, 5, 6, 19]), (7, [0, 1, 5, 6, 7]), (8, [0, 1, 5, 6, 7, 29]), (9, [0, 1, 5, 6]), (10, [0, 1, 5, 6]), (6, [0, 1, 5, 6]), (11, [0, 5]), (12, [4])], lk []⟩
noncomputable def Phi_slices_DeleteFunc_loop_example_g00247_impl_Mail_loop_example_g00247_impl_Mail_gone : Tab := lk [(120, spIdxGone), (116, spGone)]
attribute [go_sem] T_slices_DeleteFunc_loop_example_g00247_impl_Mail_loop_example_g00247_impl_Mail_gone Phi_slices_DeleteFunc_loop_example_g00247_impl_Mail_loop_example_g00247_impl_Mail_gone
theorem phi_slices_DeleteFunc_loop_example_g00247_impl_Mail_loop_example_g00247_impl_Mail_gone : ∀ f sp, Phi_slices_DeleteFunc_loop_example_g00247_impl_Mail_loop_example_g00247_impl_Mail_gone f = some sp → FnOk Tryz.prog f sp ∧ ∀ n ∈ sp.need, n ∈ ([] : List String) := phi_cons ok_slices_IndexFunc_loop_example_g00247_impl_Mail_loop_example_g00247_impl_Mail_gone (n0 rfl) (phi_cons ok_impl_Expunge_1 (n0 rfl) (phi_nil))
theorem ok_slices_DeleteFunc_loop_example_g00247_impl_Mail_loop_example_g00247_impl_Mail_gone : FnOk Tryz.prog 117 spDelGone := by
  refine fn_ok (Φ := Phi_slices_DeleteFunc_loop_example_g00247_impl_Mail_loop_example_g00247_impl_Mail_gone) (T := T_slices_DeleteFunc_loop_example_g00247_impl_Mail_loop_example_g00247_impl_Mail_gone) phi_slices_DeleteFunc_loop_example_g00247_impl_Mail_loop_example_g00247_impl_Mail_gone mixed Tryz.func117 rfl rfl rfl (by decide) ?_
  intro ins r outs hr hl
  clear hl
  have hs := spDelGone_in hr
  clear hr
  obtain ⟨l, u, rfl, hc, hr, rfl⟩ := hs
  simp only [spDelGone, Tryz.f117, Go.VM.initS]
  obtain ⟨hc, hu⟩ := hc
  have hge := idxL_ge (fun x : Mail => goneI u x) l
  by_cases h0 : idxL (fun x : Mail => goneI u x) l = -1
  · have e0 : (idxL (fun x : Mail => goneI u x) l == -1) = true := by rw [h0]; rfl
    simp only [hc, e0, hu, and_self, go_sem]
    repeat' ((first | apply qa | apply qb | apply qc | apply qd | apply qe | apply qf | apply qg | apply qh | apply qi | apply qj | apply qk) <;> intro hp <;> simp only [hp, hc, e0, hu, and_self, go_sem])
    simp only [fin_mk, finV, resL, resV1, resIn, endA, listIn, Option.some_or, Option.none_or, oneOrTup, go_sem]
    rw [← hr]
    rw [List.filter_eq_self.2 fun x hx => ?_]
    have := idxL_any (fun x : Mail => goneI u x) l
    rw [h0] at this
    have h1 : l.any (fun x : Mail => goneI u x) = false := by rw [← this]; rfl
    have h2 := (List.any_eq_false.1 h1) x hx
    simpa using h2
  have e0 : (idxL (fun x : Mail => goneI u x) l == -1) = false := by rw [beq_eq_false_iff_ne]; exact h0
  obtain ⟨i0, hi0⟩ : ∃ i0 : Nat, idxL (fun x : Mail => goneI u x) l = i0 := ⟨(idxL (fun x : Mail => goneI u x) l).toNat, by omega⟩
  have hlt : i0 < l.length := by omega
  have w1 : IntKind.i64.wrap ((i0 : Int) + 1) = ((i0 + 1 : Nat) : Int) := wrap_succ hlt (by omega)
  rw [hi0] at e0
  simp only [hc, hi0, e0, w1, hu, and_self, go_sem]
  repeat' ((first | apply qa | apply qb | apply qc | apply qd | apply qe | apply qf | apply qg | apply qh | apply qi | apply qj | apply qk) <;> intro hp <;> simp only [hp, hc, hi0, e0, w1, hu, and_self, go_sem])
  obtain ⟨hpre, hat⟩ := idxL_at hi0
  have hk0 : (l.take (i0 + 1)).filter (fun x : Mail => !goneI u x) = l.take i0 := by
    rw [take_succ' hlt, List.filter_append, List.filter_eq_self.2 fun x hx => ?_]
    · have : (fun x : Mail => !goneI u x) l[i0] = false := by simpa using hat
      simp only at this
      rw [List.filter_cons, this]; simp
    · have := hpre x hx
      simpa using this
  refine loop_go (fun p : Nat × List Mail => [(5, .int .i64 (((l.take p.1).filter (fun x : Mail => !goneI u x)).length : Int)), (6, .int .i64 (p.1 : Int))]) (fun p => [(0, ⟨.arr, 4, p.2.map Mail.enc⟩)]) (fun p => l.length - p.1)
    (fun p => p.1 ≤ l.length ∧ i0 < p.1 ∧ p.2.length = l.length ∧ p.2.take ((l.take p.1).filter (fun x : Mail => !goneI u x)).length = (l.take p.1).filter (fun x : Mail => !goneI u x) ∧ p.2.drop p.1 = l.drop p.1) (i0 + 1, l) ⟨hlt, by simp, rfl, by simp only [hk0, List.length_take, Nat.min_eq_left (Nat.le_of_lt hlt)], rfl⟩ ?_ rfl ?_
  · simp only [hk0, List.length_take, Nat.min_eq_left (Nat.le_of_lt hlt)]; rfl
  rintro ⟨j, gl⟩ ⟨hj, hij, hgl, htk, hdr⟩ ih
  simp only at hj hij hgl htk hdr ih
  have hkl : ((l.take j).filter (fun x : Mail => !goneI u x)).length < j := by
    have h1 : (l.take j).filter (fun x : Mail => !goneI u x) = (l.take i0).filter (fun x : Mail => !goneI u x) ++ ((l.take j).drop i0).filter (fun x : Mail => !goneI u x) := by
      rw [← List.filter_append]
      congr 1
      have := List.take_append_drop i0 (l.take j)
      rw [List.take_take, Nat.min_eq_left (by omega)] at this
      exact this.symm
    have h2 : (l.take j).drop i0 = l[i0] :: (l.take j).drop (i0 + 1) := by
      rw [List.drop_eq_getElem_cons (by rw [List.length_take]; omega), List.getElem_take]
    rw [h1, h2]
    have h3 : (fun x : Mail => !goneI u x) l[i0] = false := by simpa using hat
    simp only at h3
    rw [List.filter_cons, h3]
    simp only [Bool.false_eq_true, if_false, List.length_append]
    have h4 := List.length_filter_le (fun x : Mail => !goneI u x) (l.take i0)
    have h5 := List.length_filter_le (fun x : Mail => !goneI u x) ((l.take j).drop (i0 + 1))
    rw [List.length_take] at h4
    rw [List.length_drop, List.length_take] at h5
    omega
  generalize hK : ((l.take j).filter (fun x : Mail => !goneI u x)) = K at *
  rcases Nat.lt_or_ge j l.length with h | h
  · have g1 : (j : Int) < l.length := by omega
    have g2 : (0 : Int) ≤ j := by omega
    have gj : gl[j]? = some l[j] := by
      have := congrArg (fun x => x[0]?) hdr
      simp only [List.getElem?_drop, Nat.add_zero] at this
      rw [this]; exact List.getElem?_eq_getElem h
    have g5 := wrap_succ h (by omega)
    have g6 : (K.length : Int) < l.length := by omega
    have g7 : (0 : Int) ≤ K.length := by omega
    have g8 := wrap_succ (show K.length < l.length by omega) (by omega)
    have g9 : gl[K.length]? = some (gl[K.length]'(by omega)) := List.getElem?_eq_getElem (by omega)
    cases hp : goneI u l[j] with
    | true =>
      have hf : (l.take (j + 1)).filter (fun x : Mail => !goneI u x) = K := by
        rw [filter_succ h, hK, if_neg (by simpa using hp), List.append_nil]
      have ih' := ih (j + 1, gl) ⟨h, by simp only; omega, hgl, by simp only [hf]; exact htk, by simp only; rw [← List.drop_drop, hdr, List.drop_drop]⟩ (by simp only; omega)
      simp only [hf] at ih'
      simp only [g1, g2, gj, g5, hgl, hp, hu, go_sem]
      repeat' ((first | apply qa | apply qb | apply qc | apply qd | apply qe | apply qf | apply qg | apply qh | apply qi | apply qj | apply qk) <;> intro hp <;> simp only [hp, g1, g2, gj, g5, hgl, hp, hu, go_sem])
      exact ih'
    | false =>
      have hf : (l.take (j + 1)).filter (fun x : Mail => !goneI u x) = K ++ [l[j]] := by
        rw [filter_succ h, hK, if_pos (by simpa using hp)]
      have ih' := ih (j + 1, gl.set K.length l[j]) ⟨h, by simp only; omega, by simpa using hgl,
        by simp only [hf, List.length_append, List.length_singleton]; rw [List.take_add_one, List.getElem?_set_self (by omega), List.take_set_of_le (Nat.le_refl _), htk]; rfl,
        by simp only; rw [List.drop_set_of_lt (by omega), ← List.drop_drop, hdr, List.drop_drop]⟩ (by simp only; omega)
      simp only [hf, List.length_append, List.length_singleton, List.map_set] at ih'
      simp only [g1, g2, gj, g5, g6, g7, g8, g9, hgl, hp, Nat.zero_lt_succ, hu, go_sem]
      repeat' ((first | apply qa | apply qb | apply qc | apply qd | apply qe | apply qf | apply qg | apply qh | apply qi | apply qj | apply qk) <;> intro hp <;> simp only [hp, g1, g2, gj, g5, g6, g7, g8, g9, hgl, hp, Nat.zero_lt_succ, hu, go_sem])
      exact ih'
  · have g1 : ¬ (j : Int) < l.length := by omega
    have hend : K = l.filter (fun x : Mail => !goneI u x) := by rw [← hK, List.take_of_length_le h]
    have g6 : K.length < l.length := by omega
    have g6' : K.length ≤ l.length := by omega
    have g7 : (0 : Int) ≤ K.length := by omega
    have g8 : K.length + (l.length - K.length) ≤ l.length := by omega
    have g9 : (layV (gl.map Mail.enc) K.length (l.length - K.length) (.agg [.int .i64 0, .int .i64 0, .int .i64 0, .str []])).length = l.length := by rw [layV_len (by rw [List.length_map]; omega), List.length_map, hgl]
    have ge : (layV (gl.map Mail.enc) K.length (l.length - K.length) (.agg [.int .i64 0, .int .i64 0, .int .i64 0, .str []])).take K.length = K.map Mail.enc := by
      rw [layV, List.append_assoc, List.take_append_of_le_length (by simp; omega), List.take_take, Nat.min_self, take_map, htk]
    have g10 : 0 < l.length := by omega
    simp only [g1, hgl, g6, g6', g7, g8, g9, g10, Nat.sub_zero, Nat.zero_le, Nat.le_refl, go_sem]
    repeat' ((first | apply qa | apply qb | apply qc | apply qd | apply qe | apply qf | apply qg | apply qh | apply qi | apply qj | apply qk) <;> intro hp <;> simp only [hp, g1, hgl, g6, g6', g7, g8, g9, g10, Nat.sub_zero, Nat.zero_le, Nat.le_refl, go_sem])
    simp only [fin_mk, finV, resL, resV1, resIn, endA, listIn, Option.some_or, Option.none_or, oneOrTup, go_sem]
    rw [← hr, ← hend, ge, if_pos ⟨by rw [g9]; omega, by first | (rw [g9]; exact g10) | exact Or.inr trivial⟩]; rfl
open Classical in
noncomputable def spIdxLeast : VM.Spec := { modes := [.rd, .rd], run := fun | [.lst 2 l', .fn 119 [.rptr (.int .i64 u)]] => (decL Tomb.dec l').bind fun l => if l.length ≤ 4194304 then some (.int .i64 (idxL (fun x : Tomb => (x.Mod == u)) l), []) else none | _ => none, need := [] }
attribute [go_sem] spIdxLeast
theorem spIdxLeast_in {ins : List V} {r : V} {outs : List V} (h : spIdxLeast.run ins = some (r, outs)) : ∃ (l : (List Tomb)) (u : Int), ins = [.lst 2 ((l).map Tomb.enc), .fn 119 [.rptr (.int .i64 u)]] ∧ (l.length ≤ 4194304) ∧ .int .i64 (idxL (fun x : Tomb => (x.Mod == u)) l) = r ∧ outs = [] := by
  unfold spIdxLeast at h
  simp only at h
  split at h
  · rename_i l' u
    simp only [Option.bind_eq_some_iff] at h
    obtain ⟨l, h_l, h⟩ := h
    split at h
    case isFalse => cases h
    rename_i hc
    simp only [Option.some.injEq, Prod.mk.injEq] at h
    obtain ⟨h1, h2⟩ := h
    have h_l := decL_some (fun _ _ h => Tomb.dec_some h) h_l
    subst h_l
    exact ⟨l, u, rfl, hc, h1, h2.symm⟩
  · cases h
def T_slices_IndexFunc_loop_example_g00247_impl_Tomb_loop_example_g00247_impl_Tomb_least : Hints := ⟨lk [], lk [(2, [0, 1, 7, 8])], lk [(0, [0, 1]), (1, [0, 1, 7, 8]), (2, [0, 1, 7, 8, 9]), (3, [0, 1, 5, 7, 8]), (4, [0, 1, 5, 7, 8, 16]), (5, [4]), (6, [0, 1, 7, 8]), (7, [4])], lk []⟩
noncomputable def Phi_slices_IndexFunc_loop_example_g00247_impl_Tomb_loop_example_g00247_impl_Tomb_least : Tab := lk [(119, spLeast)]
attribute [go_sem] T_slices_IndexFunc_loop_example_g00247_impl_Tomb_loop_example_g00247_impl_Tomb_least Phi_slices_IndexFunc_loop_example_g00247_impl_Tomb_loop_example_g00247_impl_Tomb_least
theorem phi_slices_IndexFunc_loop_example_g00247_impl_Tomb_loop_example_g00247_impl_Tomb_least : ∀ f sp, Phi_slices_IndexFunc_loop_example_g00247_impl_Tomb_loop_example_g00247_impl_Tomb_least f = some sp → FnOk Tryz.prog f sp ∧ ∀ n ∈ sp.need, n ∈ ([] : List String) := phi_cons ok_impl_Expunge_2 (n0 rfl) (phi_nil)
theorem ok_slices_IndexFunc_loop_example_g00247_impl_Tomb_loop_example_g00247_impl_Tomb_least : FnOk Tryz.prog 137 spIdxLeast := by
  refine fn_ok (Φ := Phi_slices_IndexFunc_loop_example_g00247_impl_Tomb_loop_example_g00247_impl_Tomb_least) (T := T_slices_IndexFunc_loop_example_g00247_impl_Tomb_loop_example_g00247_impl_Tomb_least) phi_slices_IndexFunc_loop_example_g00247_impl_Tomb_loop_example_g00247_impl_Tomb_least mixed Tryz.func137 rfl rfl rfl (by decide) ?_
  intro ins r outs hr hl
  clear hl
  have hs := spIdxLeast_in hr
  clear hr
  obtain ⟨l, u, rfl, hc, hr, rfl⟩ := hs
  simp only [spIdxLeast, Tryz.f137, Go.VM.initS]
  simp only [go_sem]
  refine loop_go (fun i : Nat => [(8, .int .i64 (i : Int))]) (fun _ => []) (fun i => l.length - i) (fun i => i ≤ l.length ∧ ∀ j (hj : j < i) (hl : j < l.length), (fun x : Tomb => (x.Mod == u)) l[j] = false) 0 ⟨Nat.zero_le _, fun j hj => absurd hj (by omega)⟩ rfl rfl ?_
  intro i ⟨hi, ha⟩ ih
  rcases Nat.lt_or_ge i l.length with h | h
  · have g1 : (i : Int) < l.length := by omega
    have g2 : (0 : Int) ≤ i := by omega
    have g3 : l[i]? = some l[i] := List.getElem?_eq_getElem h
    have g5 := wrap_succ h (by omega)
    cases hb : (l[i].Mod == u) with
    | true =>
      simp only [g1, g2, g3, g5, hb, go_sem]
      repeat' ((first | apply qa | apply qb | apply qc | apply qd | apply qe | apply qf | apply qg | apply qh | apply qi | apply qj | apply qk) <;> intro hp <;> simp only [hp, g1, g2, g3, g5, hb, go_sem])
      simp only [fin_mk, finV, resL, resV1, resIn, endA, listIn, Option.some_or, Option.none_or, oneOrTup, go_sem]
      rw [← hr]
      rw [idxL_hit h (fun j hj => ha j hj (by omega)) hb]
    | false =>
      simp only [g1, g2, g3, g5, hb, go_sem]
      repeat' ((first | apply qa | apply qb | apply qc | apply qd | apply qe | apply qf | apply qg | apply qh | apply qi | apply qj | apply qk) <;> intro hp <;> simp only [hp, g1, g2, g3, g5, hb, go_sem])
      refine ih (i + 1) ⟨h, fun j hj hl => ?_⟩ (by omega)
      rcases Nat.lt_or_ge j i with h1 | h1
      · exact ha j h1 hl
      · have : j = i := by omega
        subst this; exact hb
  · have g1 : ¬ (i : Int) < l.length := by omega
    simp only [g1, go_sem]
    simp only [fin_mk, finV, resL, resV1, resIn, endA, listIn, Option.some_or, Option.none_or, oneOrTup, go_sem]
    rw [← hr]
    rw [idxL_miss fun j hj => ha j (by omega) hj]
open Classical in
noncomputable def spDelLeast : VM.Spec := { modes := [.use, .rd], run := fun | [.lst 2 l', .fn 119 [.rptr (.int .i64 u)]] => (decL Tomb.dec l').bind fun l => if l.length ≤ 4194304 then some (.lst 2 ((l.filter (fun x : Tomb => !(x.Mod == u))).map Tomb.enc), []) else none | _ => none, need := [] }
attribute [go_sem] spDelLeast
theorem spDelLeast_in {ins : List V} {r : V} {outs : List V} (h : spDelLeast.run ins = some (r, outs)) : ∃ (l : (List Tomb)) (u : Int), ins = [.lst 2 ((l).map Tomb.enc), .fn 119 [.rptr (.int .i64 u)]] ∧ (l.length ≤ 4194304) ∧ .lst 2 ((l.filter (fun x : Tomb => !(x.Mod == u))).map Tomb.enc) = r ∧ outs = [] := by
  unfold spDelLeast at h
  simp only at h
  split at h
  · rename_i l' u
    simp only [Option.bind_eq_some_iff] at h
    obtain ⟨l, h_l, h⟩ := h
    split at h
    case isFalse => cases h
    rename_i hc
    simp only [Option.some.injEq, Prod.mk.injEq] at h
    obtain ⟨h1, h2⟩ := h
    have h_l := decL_some (fun _ _ h => Tomb.dec_some h) h_l
    subst h_l
    exact ⟨l, u, rfl, hc, h1, h2.symm⟩
  · cases h
def T_slices_DeleteFunc_loop_example_g00247_impl_Tomb_loop_example_g00247_impl_Tomb_least : Hints := ⟨lk [], lk [(5, [0, 1, 5, 6])], lk [(0, [0, 1]), (1, [0, 1, 5]), (2, [0, 1, 5, 12]), (3, [4]), (4, [0, 1, 5, 6]), (5, [0, 1, 5, 6, 19]), (7, [0, 1, 5, 6, 7]), (8, [0, 1, 5, 6, 7, 29]), (9, [0, 1, 5, 6]), (10, [0, 1, 5, 6]), (6, [0, 1, 5, 6]), (11, [0, 5]), (12, [4])], lk []⟩
noncomputable def Phi_slices_DeleteFunc_loop_example_g00247_impl_Tomb_loop_example_g00247_impl_Tomb_least : Tab := lk [(137, spIdxLeast), (119, spLeast)]
attribute [go_sem] T_slices_DeleteFunc_loop_example_g00247_impl_Tomb_loop_example_g00247_impl_Tomb_least Phi_slices_DeleteFunc_loop_example_g00247_impl_Tomb_loop_example_g00247_impl_Tomb_least
theorem phi_slices_DeleteFunc_loop_example_g00247_impl_Tomb_loop_example_g00247_impl_Tomb_least : ∀ f sp, Phi_slices_DeleteFunc_loop_example_g00247_impl_Tomb_loop_example_g00247_impl_Tomb_least f = some sp → FnOk Tryz.prog f sp ∧ ∀ n ∈ sp.need, n ∈ ([] : List String) := phi_cons ok_slices_IndexFunc_loop_example_g00247_impl_Tomb_loop_example_g00247_impl_Tomb_least (n0 rfl) (phi_cons ok_impl_Expunge_2 (n0 rfl) (phi_nil))
theorem ok_slices_DeleteFunc_loop_example_g00247_impl_Tomb_loop_example_g00247_impl_Tomb_least : FnOk Tryz.prog 118 spDelLeast := by
  refine fn_ok (Φ := Phi_slices_DeleteFunc_loop_example_g00247_impl_Tomb_loop_example_g00247_impl_Tomb_least) (T := T_slices_DeleteFunc_loop_example_g00247_impl_Tomb_loop_example_g00247_impl_Tomb_least) phi_slices_DeleteFunc_loop_example_g00247_impl_Tomb_loop_example_g00247_impl_Tomb_least mixed Tryz.func118 rfl rfl rfl (by decide) ?_
  intro ins r outs hr hl
  clear hl
  have hs := spDelLeast_in hr
  clear hr
  obtain ⟨l, u, rfl, hc, hr, rfl⟩ := hs
  simp only [spDelLeast, Tryz.f118, Go.VM.initS]
  have hge := idxL_ge (fun x : Tomb => (x.Mod == u)) l
  by_cases h0 : idxL (fun x : Tomb => (x.Mod == u)) l = -1
  · have e0 : (idxL (fun x : Tomb => (x.Mod == u)) l == -1) = true := by rw [h0]; rfl
    simp only [hc, e0, and_self, go_sem]
    repeat' ((first | apply qa | apply qb | apply qc | apply qd | apply qe | apply qf | apply qg | apply qh | apply qi | apply qj | apply qk) <;> intro hp <;> simp only [hp, hc, e0, and_self, go_sem])
    simp only [fin_mk, finV, resL, resV1, resIn, endA, listIn, Option.some_or, Option.none_or, oneOrTup, go_sem]
    rw [← hr]
    rw [List.filter_eq_self.2 fun x hx => ?_]
    have := idxL_any (fun x : Tomb => (x.Mod == u)) l
    rw [h0] at this
    have h1 : l.any (fun x : Tomb => (x.Mod == u)) = false := by rw [← this]; rfl
    have h2 := (List.any_eq_false.1 h1) x hx
    simpa using h2
  have e0 : (idxL (fun x : Tomb => (x.Mod == u)) l == -1) = false := by rw [beq_eq_false_iff_ne]; exact h0
  obtain ⟨i0, hi0⟩ : ∃ i0 : Nat, idxL (fun x : Tomb => (x.Mod == u)) l = i0 := ⟨(idxL (fun x : Tomb => (x.Mod == u)) l).toNat, by omega⟩
  have hlt : i0 < l.length := by omega
  have w1 : IntKind.i64.wrap ((i0 : Int) + 1) = ((i0 + 1 : Nat) : Int) := wrap_succ hlt (by omega)
  rw [hi0] at e0
  simp only [hc, hi0, e0, w1, and_self, go_sem]
  repeat' ((first | apply qa | apply qb | apply qc | apply qd | apply qe | apply qf | apply qg | apply qh | apply qi | apply qj | apply qk) <;> intro hp <;> simp only [hp, hc, hi0, e0, w1, and_self, go_sem])
  obtain ⟨hpre, hat⟩ := idxL_at hi0
  have hk0 : (l.take (i0 + 1)).filter (fun x : Tomb => !(x.Mod == u)) = l.take i0 := by
    rw [take_succ' hlt, List.filter_append, List.filter_eq_self.2 fun x hx => ?_]
    · have : (fun x : Tomb => !(x.Mod == u)) l[i0] = false := by simpa using hat
      simp only at this
      rw [List.filter_cons, this]; simp
    · have := hpre x hx
      simpa using this
  refine loop_go (fun p : Nat × List Tomb => [(5, .int .i64 (((l.take p.1).filter (fun x : Tomb => !(x.Mod == u))).length : Int)), (6, .int .i64 (p.1 : Int))]) (fun p => [(0, ⟨.arr, 2, p.2.map Tomb.enc⟩)]) (fun p => l.length - p.1)
    (fun p => p.1 ≤ l.length ∧ i0 < p.1 ∧ p.2.length = l.length ∧ p.2.take ((l.take p.1).filter (fun x : Tomb => !(x.Mod == u))).length = (l.take p.1).filter (fun x : Tomb => !(x.Mod == u)) ∧ p.2.drop p.1 = l.drop p.1) (i0 + 1, l) ⟨hlt, by simp, rfl, by simp only [hk0, List.length_take, Nat.min_eq_left (Nat.le_of_lt hlt)], rfl⟩ ?_ rfl ?_
  · simp only [hk0, List.length_take, Nat.min_eq_left (Nat.le_of_lt hlt)]; rfl
  rintro ⟨j, gl⟩ ⟨hj, hij, hgl, htk, hdr⟩ ih
  simp only at hj hij hgl htk hdr ih
  have hkl : ((l.take j).filter (fun x : Tomb => !(x.Mod == u))).length < j := by
    have h1 : (l.take j).filter (fun x : Tomb => !(x.Mod == u)) = (l.take i0).filter (fun x : Tomb => !(x.Mod == u)) ++ ((l.take j).drop i0).filter (fun x : Tomb => !(x.Mod == u)) := by
      rw [← List.filter_append]
      congr 1
      have := List.take_append_drop i0 (l.take j)
      rw [List.take_take, Nat.min_eq_left (by omega)] at this
      exact this.symm
    have h2 : (l.take j).drop i0 = l[i0] :: (l.take j).drop (i0 + 1) := by
      rw [List.drop_eq_getElem_cons (by rw [List.length_take]; omega), List.getElem_take]
    rw [h1, h2]
    have h3 : (fun x : Tomb => !(x.Mod == u)) l[i0] = false := by simpa using hat
    simp only at h3
    rw [List.filter_cons, h3]
    simp only [Bool.false_eq_true, if_false, List.length_append]
    have h4 := List.length_filter_le (fun x : Tomb => !(x.Mod == u)) (l.take i0)
    have h5 := List.length_filter_le (fun x : Tomb => !(x.Mod == u)) ((l.take j).drop (i0 + 1))
    rw [List.length_take] at h4
    rw [List.length_drop, List.length_take] at h5
    omega
  generalize hK : ((l.take j).filter (fun x : Tomb => !(x.Mod == u))) = K at *
  rcases Nat.lt_or_ge j l.length with h | h
  · have g1 : (j : Int) < l.length := by omega
    have g2 : (0 : Int) ≤ j := by omega
    have gj : gl[j]? = some l[j] := by
      have := congrArg (fun x => x[0]?) hdr
      simp only [List.getElem?_drop, Nat.add_zero] at this
      rw [this]; exact List.getElem?_eq_getElem h
    have g5 := wrap_succ h (by omega)
    have g6 : (K.length : Int) < l.length := by omega
    have g7 : (0 : Int) ≤ K.length := by omega
    have g8 := wrap_succ (show K.length < l.length by omega) (by omega)
    have g9 : gl[K.length]? = some (gl[K.length]'(by omega)) := List.getElem?_eq_getElem (by omega)
    cases hp : (l[j].Mod == u) with
    | true =>
      have hf : (l.take (j + 1)).filter (fun x : Tomb => !(x.Mod == u)) = K := by
        rw [filter_succ h, hK, if_neg (by simpa using hp), List.append_nil]
      have ih' := ih (j + 1, gl) ⟨h, by simp only; omega, hgl, by simp only [hf]; exact htk, by simp only; rw [← List.drop_drop, hdr, List.drop_drop]⟩ (by simp only; omega)
      simp only [hf] at ih'
      simp only [g1, g2, gj, g5, hgl, hp, go_sem]
      repeat' ((first | apply qa | apply qb | apply qc | apply qd | apply qe | apply qf | apply qg | apply qh | apply qi | apply qj | apply qk) <;> intro hp <;> simp only [hp, g1, g2, gj, g5, hgl, hp, go_sem])
      exact ih'
    | false =>
      have hf : (l.take (j + 1)).filter (fun x : Tomb => !(x.Mod == u)) = K ++ [l[j]] := by
        rw [filter_succ h, hK, if_pos (by simpa using hp)]
      have ih' := ih (j + 1, gl.set K.length l[j]) ⟨h, by simp only; omega, by simpa using hgl,
        by simp only [hf, List.length_append, List.length_singleton]; rw [List.take_add_one, List.getElem?_set_self (by omega), List.take_set_of_le (Nat.le_refl _), htk]; rfl,
        by simp only; rw [List.drop_set_of_lt (by omega), ← List.drop_drop, hdr, List.drop_drop]⟩ (by simp only; omega)
      simp only [hf, List.length_append, List.length_singleton, List.map_set] at ih'
      simp only [g1, g2, gj, g5, g6, g7, g8, g9, hgl, hp, Nat.zero_lt_succ, go_sem]
      repeat' ((first | apply qa | apply qb | apply qc | apply qd | apply qe | apply qf | apply qg | apply qh | apply qi | apply qj | apply qk) <;> intro hp <;> simp only [hp, g1, g2, gj, g5, g6, g7, g8, g9, hgl, hp, Nat.zero_lt_succ, go_sem])
      exact ih'
  · have g1 : ¬ (j : Int) < l.length := by omega
    have hend : K = l.filter (fun x : Tomb => !(x.Mod == u)) := by rw [← hK, List.take_of_length_le h]
    have g6 : K.length < l.length := by omega
    have g6' : K.length ≤ l.length := by omega
    have g7 : (0 : Int) ≤ K.length := by omega
    have g8 : K.length + (l.length - K.length) ≤ l.length := by omega
    have g9 : (layV (gl.map Tomb.enc) K.length (l.length - K.length) (.agg [.int .i64 0, .int .i64 0])).length = l.length := by rw [layV_len (by rw [List.length_map]; omega), List.length_map, hgl]
    have ge : (layV (gl.map Tomb.enc) K.length (l.length - K.length) (.agg [.int .i64 0, .int .i64 0])).take K.length = K.map Tomb.enc := by
      rw [layV, List.append_assoc, List.take_append_of_le_length (by simp; omega), List.take_take, Nat.min_self, take_map, htk]
    have g10 : 0 < l.length := by omega
    simp only [g1, hgl, g6, g6', g7, g8, g9, g10, Nat.sub_zero, Nat.zero_le, Nat.le_refl, go_sem]
    repeat' ((first | apply qa | apply qb | apply qc | apply qd | apply qe | apply qf | apply qg | apply qh | apply qi | apply qj | apply qk) <;> intro hp <;> simp only [hp, g1, hgl, g6, g6', g7, g8, g9, g10, Nat.sub_zero, Nat.zero_le, Nat.le_refl, go_sem])
    simp only [fin_mk, finV, resL, resV1, resIn, endA, listIn, Option.some_or, Option.none_or, oneOrTup, go_sem]
    rw [← hr, ← hend, ge, if_pos ⟨by rw [g9]; omega, by first | (rw [g9]; exact g10) | exact Or.inr trivial⟩]; rfl
end Go.Proofs.YtjkhhplhjbmhjaaGreat.L

namespace Go.Proofs.YtjkhhplhjbmhjaaGreat.L
open Go Go.VM
set_option maxRecDepth 100000
set_option maxHeartbeats 4000000
set_option linter.unusedSimpArgs false
set_option linter.unusedVariables false
theorem and8_some : ∀ a : Fin 32, (IntKind.i64.wrap (BitVec.ofInt 64 (a.val : Int) &&& BitVec.ofInt 64 8).toNat != 0) = decide ((0 : Int) < ((a.val &&& 8 : Nat) : Int)) := by decide +kernel
theorem and8 {a : Int} (h : flagsOk a = true) : (IntKind.i64.wrap (BitVec.ofInt 64 a &&& BitVec.ofInt 64 8).toNat != 0) = decide (0 < andN a 8) := by
  have ha := flags_in h
  obtain ⟨x, rfl⟩ : ∃ x : Nat, a = x := ⟨a.toNat, by omega⟩
  exact and8_some ⟨x, by omega⟩
theorem goneI_eq {s : List Range} {m : Mail} (h : flagsOk m.Flags = true) : goneI s m = (hasR s m.Uid && decide (0 < andN m.Flags 8)) := by rw [goneI, and8 h]
def goneU (l : List Mail) (s : List Range) : List Int := (l.filter (goneI s)).map (·.Uid)
def addTs (l : List Mail) (s : List Range) (md : Int) : List Tomb := (l.filter (goneI s)).map fun m => ⟨m.Uid, md⟩
theorem goneU_succ {l : List Mail} {s : List Range} {i : Nat} (h : i < l.length) : goneU (l.take (i + 1)) s = goneU (l.take i) s ++ (if goneI s l[i] = true then [l[i].Uid] else []) := by
  rw [goneU, filter_succ h, List.map_append]; congr 1; split <;> rfl
theorem addTs_succ {l : List Mail} {s : List Range} {md : Int} {i : Nat} (h : i < l.length) : addTs (l.take (i + 1)) s md = addTs (l.take i) s md ++ (if goneI s l[i] = true then [⟨l[i].Uid, md⟩] else []) := by
  rw [addTs, filter_succ h, List.map_append]; congr 1; split <;> rfl
theorem goneU_len (l : List Mail) (s : List Range) : (goneU l s).length ≤ l.length := by rw [goneU, List.length_map]; exact List.length_filter_le _ _
theorem addTs_len (l : List Mail) (s : List Range) (md : Int) : (addTs l s md).length ≤ l.length := by rw [addTs, List.length_map]; exact List.length_filter_le _ _
theorem trim_lt (t : Tomb) (l : List Tomb) : ((t :: l).filter fun x => !(x.Mod == t.Mod)).length < (t :: l).length := by
  have := List.length_filter_le (fun x : Tomb => !(x.Mod == t.Mod)) l
  rw [List.filter_cons]
  simp only [beq_self_eq_true, Bool.not_true, Bool.false_eq_true, if_false, List.length_cons]
  omega
def trimT : List Tomb → Int → List Tomb × Int
  | [], h => ([], h)
  | t :: l, h => if 40 < (t :: l).length then trimT ((t :: l).filter fun x => !(x.Mod == t.Mod)) t.Mod else (t :: l, h)
termination_by l => l.length
decreasing_by exact trim_lt t l
theorem trimT_end {l : List Tomb} {h : Int} (hl : ¬ 40 < l.length) : trimT l h = (l, h) := by
  cases l with
  | nil => rw [trimT]
  | cons t l => rw [trimT, if_neg hl]
theorem trimT_step {t : Tomb} {l : List Tomb} {h : Int} (hl : 40 < (t :: l).length) : trimT (t :: l) h = trimT ((t :: l).filter fun x => !(x.Mod == t.Mod)) t.Mod := by rw [trimT, if_pos hl]
theorem trimT_len : ∀ (n : Nat) (l : List Tomb) (h : Int), l.length ≤ n → (trimT l h).1.length ≤ l.length
  | n, [], h, _ => by rw [trimT]; exact Nat.le_refl _
  | 0, t :: l, h, hn => by simp at hn
  | n + 1, t :: l, h, hn => by
    by_cases hl : 40 < (t :: l).length
    · have h1 := trim_lt t l
      have h2 := trimT_len n ((t :: l).filter fun x => !(x.Mod == t.Mod)) t.Mod (by omega)
      rw [trimT_step hl]; omega
    · rw [trimT_end hl]; exact Nat.le_refl _
def exMails (b : Box) (s : List Range) : List Mail := b.Mails.filter fun m => !goneI s m
def exTombs (b : Box) (s : List Range) : List Tomb × Int := trimT (b.Tombs ++ addTs b.Mails s (b.Mod + 1)) b.Horizon
def exOut (b : Box) (s : List Range) : Box := ⟨b.Name, b.Valid, b.Next, b.Mod + 1, exMails b s, (exTombs b s).1, (exTombs b s).2⟩
def exGood (b : Box) (s : List Range) : Bool := boxOk b && setOk s && !(goneU b.Mails s).isEmpty && boxOk (exOut b s)
def expunge (b : Box) (s : List Range) : Box := if exGood b s = true then exOut b s else b
def exGone (b : Box) (s : List Range) : List Range := if exGood b s = true then setOf (goneU b.Mails s) else []
theorem exOut_le {b : Box} {s : List Range} {md : Int} {ts : List Tomb} {hz : Int} (h : b.le 4194304) (ht : ts.length ≤ 4194304) : Box.le 4194304 ⟨b.Name, b.Valid, b.Next, md, exMails b s, ts, hz⟩ := by
  refine ⟨h.1, ⟨Nat.le_trans (List.length_filter_le _ _) h.2.1.1, fun m hm => h.2.1.2 m (List.mem_filter.1 hm).1⟩, ⟨ht, fun _ _ => trivial⟩⟩
theorem expunge_le {b : Box} {s : List Range} (h : b.le 4194304) : (expunge b s).le 4194304 := by
  unfold expunge
  split
  · rename_i hg
    simp only [exGood, Bool.and_eq_true] at hg
    have hp := boxOk_parts hg.1.1.1
    refine exOut_le h (Nat.le_trans (trimT_len _ _ _ (Nat.le_refl _)) ?_)
    have := addTs_len b.Mails s (b.Mod + 1)
    rw [List.length_append]; omega
  · exact h
theorem exGone_len (b : Box) (s : List Range) : (exGone b s).length ≤ 4194304 := by
  unfold exGone
  split
  · rename_i hg
    simp only [exGood, Bool.and_eq_true] at hg
    have hp := boxOk_parts hg.1.1.1
    have := goneU_len b.Mails s
    have := setOf_len (goneU b.Mails s)
    omega
  · simp
open Classical in
noncomputable def spExpunge : VM.Spec := { modes := [.rd, .rd], run := fun | [b', .lst 2 s'] => (Box.dec b').bind fun b => (decL Range.dec s').bind fun s => if b.le 4194304 ∧ s.length ≤ 4194304 then some (.tup [Box.enc (expunge b s), .lst 2 ((exGone b s).map Range.enc)], []) else none | _ => none, need := [] }
attribute [go_sem] spExpunge
theorem spExpunge_in {ins : List V} {r : V} {outs : List V} (h : spExpunge.run ins = some (r, outs)) : ∃ (b : Box) (s : (List Range)), ins = [Box.enc b, .lst 2 ((s).map Range.enc)] ∧ (b.le 4194304 ∧ s.length ≤ 4194304) ∧ .tup [Box.enc (expunge b s), .lst 2 ((exGone b s).map Range.enc)] = r ∧ outs = [] := by
  unfold spExpunge at h
  simp only at h
  split at h
  · rename_i b' s'
    simp only [Option.bind_eq_some_iff] at h
    obtain ⟨b, h_b, s, h_s, h⟩ := h
    split at h
    case isFalse => cases h
    rename_i hc
    simp only [Option.some.injEq, Prod.mk.injEq] at h
    obtain ⟨h1, h2⟩ := h
    have h_b := Box.dec_some h_b
    subst h_b
    have h_s := decL_some (fun _ _ h => Range.dec_some h) h_s
    subst h_s
    exact ⟨b, s, rfl, hc, h1, h2.symm⟩
  · cases h
def T_impl_Expunge : Hints := ⟨lk [], lk [(7, [2, 4, 6, 7, 8, 29, 30, 31]), (17, [2, 4, 7, 8])], lk [(0, [2, 3, 4]), (1, [2, 3, 4, 21]), (2, [4, 5]), (3, [2, 4, 6]), (4, [2, 4, 6, 7]), (5, [2, 4, 6, 7, 8]), (6, [2, 4, 6, 7, 8, 29, 30, 31]), (7, [2, 4, 6, 7, 8, 29, 30, 31, 32]), (8, [2, 4, 6, 7, 8, 10, 29, 30, 31]), (9, [2, 4, 6, 7, 8, 10, 29, 30, 31, 37]), (10, [2, 4, 6, 7, 8, 10, 29, 30, 31]), (11, [2, 4, 6, 7, 8, 29, 30, 31]), (12, [2, 4, 6, 7, 8, 29, 30, 31]), (13, [2, 4, 6, 7, 8, 57]), (14, [4, 5]), (15, [2, 4, 7, 8]), (16, [2, 4, 7, 8]), (17, [2, 4, 7, 8, 72]), (18, [2, 4, 7, 8, 11]), (19, [2, 4, 7, 8, 11]), (20, [2, 4, 7, 8]), (21, [2, 4, 7, 8, 87]), (22, [4, 5]), (23, [4, 7, 12]), (24, [4, 5])], lk []⟩
noncomputable def Phi_impl_Expunge : Tab := lk [(34, spBoxOk), (64, spSetOk), (33, spCopyBox), (116, spGone), (117, spDelGone), (119, spLeast), (118, spDelLeast), (115, spSetOfList)]
attribute [go_sem] T_impl_Expunge Phi_impl_Expunge
theorem phi_impl_Expunge : ∀ f sp, Phi_impl_Expunge f = some sp → FnOk Tryz.prog f sp ∧ ∀ n ∈ sp.need, n ∈ ([] : List String) := phi_cons ok_impl_BoxOk (n0 rfl) (phi_cons ok_impl_SetOk (n0 rfl) (phi_cons ok_impl_copyBox (n0 rfl) (phi_cons ok_impl_Expunge_1 (n0 rfl) (phi_cons ok_slices_DeleteFunc_loop_example_g00247_impl_Mail_loop_example_g00247_impl_Mail_gone (n0 rfl) (phi_cons ok_impl_Expunge_2 (n0 rfl) (phi_cons ok_slices_DeleteFunc_loop_example_g00247_impl_Tomb_loop_example_g00247_impl_Tomb_least (n0 rfl) (phi_cons ok_impl_setOfList (n0 rfl) (phi_nil))))))))
theorem ok_impl_Expunge : FnOk Tryz.prog 73 spExpunge := by
  refine fn_ok (Φ := Phi_impl_Expunge) (T := T_impl_Expunge) phi_impl_Expunge mixed Tryz.func73 rfl rfl rfl (by decide) ?_
  intro ins r outs hr hl
  clear hl
  have hs := spExpunge_in hr
  clear hr
  obtain ⟨b, s, rfl, hc, hr, rfl⟩ := hs
  simp only [spExpunge, Tryz.f73, Go.VM.initS]
  obtain ⟨hc, hs⟩ := hc
  cases k1 : boxOk b with
  | false =>
    have hg : exGood b s = false := by simp [exGood, k1]
    simp only [hc, hs, k1, go_sem]
    repeat' ((first | apply qa | apply qb | apply qc | apply qd | apply qe | apply qf | apply qg | apply qh | apply qi | apply qj | apply qk) <;> intro hp <;> simp only [hp, hc, hs, k1, go_sem])
    simp only [fin_mk, finV, resL, resV1, resIn, endA, listIn, Option.some_or, Option.none_or, oneOrTup, go_sem]
    rw [← hr]
    simp only [expunge, exGone, hg, Bool.false_eq_true, if_false]; rfl
  | true =>
  cases k2 : setOk s with
  | false =>
    have hg : exGood b s = false := by simp [exGood, k2]
    simp only [hc, hs, k1, k2, go_sem]
    repeat' ((first | apply qa | apply qb | apply qc | apply qd | apply qe | apply qf | apply qg | apply qh | apply qi | apply qj | apply qk) <;> intro hp <;> simp only [hp, hc, hs, k1, k2, go_sem])
    simp only [fin_mk, finV, resL, resV1, resIn, endA, listIn, Option.some_or, Option.none_or, oneOrTup, go_sem]
    rw [← hr]
    simp only [expunge, exGone, hg, Bool.false_eq_true, if_false]; rfl
  | true =>
  have hp := boxOk_parts k1
  have hml := hp.2.1
  have htl := hp.2.2.1
  have hn := numsOk_next hp.1
  have w1 : IntKind.i64.wrap (b.Mod + 1) = b.Mod + 1 := wrap64 (by omega) (by omega)
  simp only [hc, hs, k1, k2, go_sem]
  repeat' ((first | apply qa | apply qb | apply qc | apply qd | apply qe | apply qf | apply qg | apply qh | apply qi | apply qj | apply qk) <;> intro hp <;> simp only [hp, hc, hs, k1, k2, go_sem])
  refine loop_go (fun p : Nat × List Int × List Tomb => [(31, .int .i64 (p.1 : Int))]) (fun p => [(4, ⟨.arr, 1, p.2.1.map eInt⟩), (6, ⟨.arr, 2, p.2.2.map Tomb.enc⟩)]) (fun p => b.Mails.length - p.1)
    (fun p => p.1 ≤ b.Mails.length ∧ p.2.1 = goneU (b.Mails.take p.1) s ∧ p.2.2 = b.Tombs ++ addTs (b.Mails.take p.1) s (b.Mod + 1)) (0, [], b.Tombs) ⟨Nat.zero_le _, rfl, by simp [addTs]⟩ rfl rfl ?_
  rintro ⟨i, U, Ts⟩ ⟨hi, hU, hT⟩ ih
  simp only at hi hU hT ih
  have lU : U.length ≤ 30 := by
    have := goneU_len (b.Mails.take i) s
    rw [← hU, List.length_take] at this; omega
  have lT : Ts.length ≤ 70 := by
    have := addTs_len (b.Mails.take i) s (b.Mod + 1)
    rw [hT, List.length_append]
    rw [List.length_take] at this; omega
  rcases Nat.lt_or_ge i b.Mails.length with h | h
  · have g1 : (i : Int) < b.Mails.length := by omega
    have g2 : (0 : Int) ≤ i := by omega
    have g3 : b.Mails[i]? = some b.Mails[i] := List.getElem?_eq_getElem h
    have g5 := wrap_succ h (by omega)
    have u1 : (U.length + 1) * 8 ≤ 140737488355328 := by omega
    have u2 : U.length + 1 ≤ 9223372036854775807 := by omega
    have t1 : (Ts.length + 1) * 16 ≤ 140737488355328 := by omega
    have t2 : Ts.length + 1 ≤ 9223372036854775807 := by omega
    cases hq : goneI s b.Mails[i] with
    | true =>
      have ih' := ih (i + 1, U ++ [b.Mails[i].Uid], Ts ++ [⟨b.Mails[i].Uid, b.Mod + 1⟩]) ⟨h, by rw [goneU_succ h, ← hU, if_pos hq], by rw [addTs_succ h, ← List.append_assoc, ← hT, if_pos hq]⟩ (by simp only; omega)
      simp only [List.map_append] at ih'
      simp only [g1, g2, g3, g5, hq, hs, u1, u2, t1, t2, w1, go_sem]
      repeat' ((first | apply qa | apply qb | apply qc | apply qd | apply qe | apply qf | apply qg | apply qh | apply qi | apply qj | apply qk) <;> intro hp <;> simp only [hp, g1, g2, g3, g5, hq, hs, u1, u2, t1, t2, w1, go_sem])
      exact ih'
    | false =>
      have ih' := ih (i + 1, U, Ts) ⟨h, by rw [goneU_succ h, ← hU, if_neg (by rw [hq]; simp), List.append_nil], by rw [addTs_succ h, ← List.append_assoc, ← hT, if_neg (by rw [hq]; simp), List.append_nil]⟩ (by simp only; omega)
      simp only [g1, g2, g3, g5, hq, hs, go_sem]
      repeat' ((first | apply qa | apply qb | apply qc | apply qd | apply qe | apply qf | apply qg | apply qh | apply qi | apply qj | apply qk) <;> intro hp <;> simp only [hp, g1, g2, g3, g5, hq, hs, go_sem])
      exact ih'
  · have g1 : ¬ (i : Int) < b.Mails.length := by omega
    rw [List.take_of_length_le h] at hU hT
    clear ih
    by_cases hz : U = []
    · have e1 : ((U.length : Int) == 0) = true := by rw [hz]; rfl
      have hg : exGood b s = false := by simp [exGood, ← hU, hz]
      simp only [g1, e1, hc, go_sem]
      repeat' ((first | apply qa | apply qb | apply qc | apply qd | apply qe | apply qf | apply qg | apply qh | apply qi | apply qj | apply qk) <;> intro hp <;> simp only [hp, g1, e1, hc, go_sem])
      simp only [fin_mk, finV, resL, resV1, resIn, endA, listIn, Option.some_or, Option.none_or, oneOrTup, go_sem]
      rw [← hr]
      simp only [expunge, exGone, hg, Bool.false_eq_true, if_false]; rfl
    have e1 : ((U.length : Int) == 0) = false := by
      rw [beq_eq_false_iff_ne]
      intro h0
      exact hz (List.eq_nil_of_length_eq_zero (by omega))
    have dm : b.Mails.length ≤ 4194304 := by omega
    simp only [g1, e1, dm, hs, w1, and_self, go_sem]
    repeat' ((first | apply qa | apply qb | apply qc | apply qd | apply qe | apply qf | apply qg | apply qh | apply qi | apply qj | apply qk) <;> intro hp <;> simp only [hp, g1, e1, dm, hs, w1, and_self, go_sem])
    have hU1 : (goneU b.Mails s).isEmpty = false := by rw [← hU]; cases U <;> simp_all
    refine loop_go (fun p : List Tomb × Int => []) (fun p => [(2, ⟨.box, 7, [.agg [.str b.Name, .int .i64 b.Valid, .int .i64 b.Next, .int .i64 (b.Mod + 1), .own 4, .own 5, .int .i64 p.2]]⟩), (5, ⟨.arr, 2, p.1.map Tomb.enc⟩)])
      (fun p => p.1.length) (fun p => trimT p.1 p.2 = exTombs b s ∧ p.1.length ≤ 70) (Ts, b.Horizon) ⟨by rw [hT]; rfl, lT⟩ rfl rfl ?_
    rintro ⟨ts, hz2⟩ ⟨htr, htl2⟩ ih
    simp only at htr htl2 ih
    by_cases hl : 40 < ts.length
    · cases ts with
      | nil => simp at hl
      | cons t0 rest =>
        have h1 : (40 : Int) < (t0 :: rest).length := by omega
        have h2 : (t0 :: rest)[0]? = some t0 := rfl
        have h3 : 0 < (t0 :: rest).length := by omega
        have h3' : (0 : Int) < (t0 :: rest).length := by omega
        have h4 : (t0 :: rest).length ≤ 4194304 := by omega
        have hlt := trim_lt t0 rest
        have ih' := ih (((t0 :: rest).filter fun x => !(x.Mod == t0.Mod)), t0.Mod) ⟨by rw [← htr, trimT_step hl], by simp only; omega⟩ (by simp only; omega)
        generalize hL : t0 :: rest = L at *
        simp only [h1, h2, h3, h3', h4, Int.le_refl, go_sem]
        repeat' ((first | apply qa | apply qb | apply qc | apply qd | apply qe | apply qf | apply qg | apply qh | apply qi | apply qj | apply qk) <;> intro hp <;> simp only [hp, h1, h2, h3, h3', h4, Int.le_refl, go_sem])
        exact ih'
    · have h1 : ¬ (40 : Int) < ts.length := by omega
      rw [trimT_end hl] at htr
      clear ih
      have hle : Box.le 4194304 ⟨b.Name, b.Valid, b.Next, b.Mod + 1, b.Mails.filter (fun x => !goneI s x), ts, hz2⟩ := exOut_le hc (by omega)
      have hbo : boxOk ⟨b.Name, b.Valid, b.Next, b.Mod + 1, b.Mails.filter (fun x => !goneI s x), ts, hz2⟩ = boxOk (exOut b s) := by rw [exOut, ← htr]; rfl
      cases k3 : boxOk (exOut b s) with
      | false =>
        have hg : exGood b s = false := by simp [exGood, k3]
        simp only [h1, hle, hbo, k3, hc, go_sem]
        repeat' ((first | apply qa | apply qb | apply qc | apply qd | apply qe | apply qf | apply qg | apply qh | apply qi | apply qj | apply qk) <;> intro hp <;> simp only [hp, h1, hle, hbo, k3, hc, go_sem])
        simp only [fin_mk, finV, resL, resV1, resIn, endA, listIn, Option.some_or, Option.none_or, oneOrTup, go_sem]
        rw [← hr]
        simp only [expunge, exGone, hg, Bool.false_eq_true, if_false]; rfl
      | true =>
        have hg : exGood b s = true := by simp [exGood, k1, k2, k3, hU1]
        have hA : Asc U 9999 := by rw [hU]; exact filter_asc k1 _
        have hall := asc_all hA
        have lU' : U.length ≤ 4194304 := by omega
        have hset : setOf (goneU b.Mails s) = scan U := by rw [← hU, setOf_asc hA]
        simp only [h1, hle, hbo, k3, hall, lU', and_self, go_sem]
        repeat' ((first | apply qa | apply qb | apply qc | apply qd | apply qe | apply qf | apply qg | apply qh | apply qi | apply qj | apply qk) <;> intro hp <;> simp only [hp, h1, hle, hbo, k3, hall, lU', and_self, go_sem])
        simp only [fin_mk, finV, resL, resV1, resIn, endA, listIn, Option.some_or, Option.none_or, oneOrTup, go_sem]
        rw [← hr]
        simp only [expunge, exGone, hg, if_true, hset]
        rw [exOut, ← htr]; rfl
theorem drop_eq {m : Int} : ∀ {l : List Tomb}, l.Pairwise (fun x y => x.Mod ≤ y.Mod) → (∀ x ∈ l, m ≤ x.Mod) → l.filter (fun x => !(x.Mod == m)) = l.dropWhile fun x => decide (x.Mod ≤ m)
  | [], _, _ => rfl
  | x :: l, hp, hm => by
    rw [List.pairwise_cons] at hp
    have hx := hm x (by simp)
    by_cases e : x.Mod = m
    · have e1 : (x.Mod == m) = true := by rw [e]; exact beq_self_eq_true _
      have e2 : decide (x.Mod ≤ m) = true := by rw [decide_eq_true_eq]; omega
      rw [List.filter_cons, List.dropWhile_cons, e1, e2]
      simp only [Bool.not_true, Bool.false_eq_true, if_false, if_true]
      exact drop_eq hp.2 fun y hy => hm y (by simp [hy])
    · have e2 : decide (x.Mod ≤ m) = false := by rw [decide_eq_false_iff_not]; omega
      rw [List.dropWhile_cons, e2]
      simp only [Bool.false_eq_true, if_false]
      rw [List.filter_eq_self]
      intro y hy
      have : m < y.Mod := by
        rcases List.mem_cons.1 hy with rfl | hy
        · omega
        · have := hp.1 y hy; omega
      have e3 : (y.Mod == m) = false := by rw [beq_eq_false_iff_ne]; omega
      rw [e3]; rfl
theorem tomb_of {b : Box} (h : boxOk b = true) {i : Nat} (hi : i < b.Tombs.length) : tombAtOk b i = true := by
  simp only [boxOk, tombsOk, Bool.and_eq_true] at h
  exact allN_get h.2.1 hi
theorem sorted_of_adj : ∀ {l : List Int}, (∀ i, (h : i + 1 < l.length) → l[i] ≤ l[i + 1]) → l.Pairwise (· ≤ ·)
  | [], _ => List.Pairwise.nil
  | [x], _ => List.pairwise_singleton _ _
  | x :: y :: t, h => by
    have h1 : (y :: t).Pairwise (· ≤ ·) := sorted_of_adj fun i hi => by
      have := h (i + 1) (by simpa using hi)
      simpa using this
    have h2 : x ≤ y := by simpa using h 0 (by simp)
    refine List.Pairwise.cons (fun z hz => ?_) h1
    rcases List.mem_cons.1 hz with rfl | hz
    · exact h2
    · exact Int.le_trans h2 ((List.pairwise_cons.1 h1).1 z hz)
theorem tombs_sorted {b : Box} (h : boxOk b = true) : b.Tombs.Pairwise (fun x y => x.Mod ≤ y.Mod) ∧ ∀ x ∈ b.Tombs, x.Mod ≤ b.Mod := by
  constructor
  · have h1 : (b.Tombs.map (·.Mod)).Pairwise (· ≤ ·) := sorted_of_adj fun i hi => by
      rw [List.length_map] at hi
      have h2 := tomb_of h hi
      simp only [tombAtOk, tombOrd, Bool.and_eq_true, Bool.or_eq_true, Bool.not_eq_true', Bool.or_eq_false_iff, decide_eq_false_iff_not, List.getD_eq_getElem?_getD, List.getElem?_eq_getElem hi, Option.getD_some, Nat.add_sub_cancel, List.getElem?_eq_getElem (show i < b.Tombs.length by omega)] at h2
      simp only [List.getElem_map]
      rcases h2.2 with h3 | h3
      · simp at h3
      · omega
    rwa [List.pairwise_map] at h1
  · intro x hx
    obtain ⟨i, hi, rfl⟩ := List.mem_iff_getElem.1 hx
    have h2 := tomb_of h hi
    simp only [tombAtOk, tombIn, Bool.and_eq_true, within, decide_eq_true_eq, List.getD_eq_getElem?_getD, List.getElem?_eq_getElem hi, Option.getD_some] at h2
    exact h2.1.1.1.2.2
theorem added_sorted {b : Box} {s : List Range} (h : boxOk b = true) : (b.Tombs ++ addTs b.Mails s (b.Mod + 1)).Pairwise (fun x y => x.Mod ≤ y.Mod) := by
  obtain ⟨h1, h2⟩ := tombs_sorted h
  have h3 : ∀ x ∈ addTs b.Mails s (b.Mod + 1), x.Mod = b.Mod + 1 := by
    intro x hx
    obtain ⟨m, _, rfl⟩ := List.mem_map.1 hx
    rfl
  refine List.pairwise_append.2 ⟨h1, ?_, fun x hx y hy => ?_⟩
  · refine List.Pairwise.imp_of_mem (R := fun _ _ => True) (fun {x y} hx hy _ => ?_) (List.pairwise_of_forall fun _ _ => trivial)
    rw [h3 x hx, h3 y hy]; exact Int.le_refl _
  · have := h2 x hx
    rw [h3 y hy]; omega
theorem setOf_len0 {S : List Int} (h : Asc S 9999) : ((setOf S).length = 0) ↔ S = [] := by
  constructor
  · intro h0
    cases S with
    | nil => rfl
    | cons x l =>
      exfalso
      have hx := h.2 x (by simp)
      have := setOf_has (x :: l) x (by omega)
      rw [List.eq_nil_of_length_eq_zero h0] at this
      simp [hasR] at this
  · rintro rfl; rw [setOf_nil']; rfl
def T_spec_Expunge : Hints := ⟨lk [(20, [])], lk [(9, [1, 2, 4, 6, 7, 8, 9]), (18, [4, 6, 7, 8]), (20, [4, 6, 7, 8])], lk [(0, [1, 2, 4]), (1, [1, 2, 4, 6]), (2, [1, 2, 4, 6, 7]), (3, [1, 2, 4, 6, 7, 21]), (4, [4, 5]), (5, [1, 2, 4, 6, 7, 8]), (6, [1, 2, 4, 6, 7, 8]), (7, [1, 2, 4, 6, 7, 8]), (8, [1, 2, 4, 6, 7, 8, 9]), (9, [1, 2, 4, 6, 7, 8, 9, 36]), (11, [1, 2, 4, 6, 7, 8, 9, 10]), (12, [1, 2, 4, 6, 7, 8, 9, 10, 53]), (13, [1, 2, 4, 6, 7, 8, 9, 10]), (14, [1, 2, 4, 6, 7, 8, 9]), (15, [1, 2, 4, 6, 7, 8, 9]), (10, [1, 2, 4, 6, 7, 8, 9]), (16, [4, 6, 7, 8, 81]), (17, [4, 5]), (18, [4, 6, 7, 8, 87]), (19, [4, 6, 7, 8]), (20, [4, 6, 7, 8, 107]), (21, [4, 6, 7, 8]), (22, [4, 6, 7, 8, 116]), (23, [4, 5]), (24, [4, 5])], lk []⟩
noncomputable def Phi_spec_Expunge : Tab := lk [(83, spBoxOk), (87, spSetOk), (90, spCopyBox), (92, spSetHas), (129, spAnd), (110, spSetAdd)]
attribute [go_sem] T_spec_Expunge Phi_spec_Expunge
theorem phi_spec_Expunge : ∀ f sp, Phi_spec_Expunge f = some sp → FnOk Tryz.prog f sp ∧ ∀ n ∈ sp.need, n ∈ ([] : List String) := phi_cons ok_spec_BoxOk (n0 rfl) (phi_cons ok_spec_SetOk (n0 rfl) (phi_cons ok_spec_l08Copy (n0 rfl) (phi_cons ok_spec_SetHas (n0 rfl) (phi_cons ok_spec_l06And (n0 rfl) (phi_cons ok_spec_SetAdd (n0 rfl) (phi_nil))))))
theorem ok_spec_Expunge : FnOk Tryz.prog 96 spExpunge := by
  refine fn_ok (Φ := Phi_spec_Expunge) (T := T_spec_Expunge) phi_spec_Expunge mixed Tryz.func96 rfl rfl rfl (by decide) ?_
  intro ins r outs hr hl
  clear hl
  have hs := spExpunge_in hr
  clear hr
  obtain ⟨b, s, rfl, hc, hr, rfl⟩ := hs
  simp only [spExpunge, Tryz.f96, Go.VM.initS]
  obtain ⟨hc, hs⟩ := hc
  cases k1 : boxOk b with
  | false =>
    have hg : exGood b s = false := by simp [exGood, k1]
    simp only [hc, hs, k1, go_sem]
    repeat' ((first | ((first | apply qa | apply qb | apply qc | apply qd | apply qe | apply qf | apply qg | apply qh | apply qi | apply qj | apply qk) <;> intro hp) | ((first | refine ql rfl rfl (by decide +kernel) ?_ | refine qm _ rfl rfl (by decide +kernel) ?_) <;> have hp := True.intro)) <;> simp only [hp, hc, hs, k1, go_sem])
    simp only [fin_mk, finV, resL, resV1, resIn, endA, listIn, Option.some_or, Option.none_or, oneOrTup, go_sem]
    rw [← hr]
    simp only [expunge, exGone, hg, Bool.false_eq_true, if_false]; rfl
  | true =>
  cases k2 : setOk s with
  | false =>
    have hg : exGood b s = false := by simp [exGood, k2]
    simp only [hc, hs, k1, k2, go_sem]
    repeat' ((first | ((first | apply qa | apply qb | apply qc | apply qd | apply qe | apply qf | apply qg | apply qh | apply qi | apply qj | apply qk) <;> intro hp) | ((first | refine ql rfl rfl (by decide +kernel) ?_ | refine qm _ rfl rfl (by decide +kernel) ?_) <;> have hp := True.intro)) <;> simp only [hp, hc, hs, k1, k2, go_sem])
    simp only [fin_mk, finV, resL, resV1, resIn, endA, listIn, Option.some_or, Option.none_or, oneOrTup, go_sem]
    rw [← hr]
    simp only [expunge, exGone, hg, Bool.false_eq_true, if_false]; rfl
  | true =>
  have hp := boxOk_parts k1
  have hml := hp.2.1
  have htl := hp.2.2.1
  have hn := numsOk_next hp.1
  have w1 : IntKind.i64.wrap (b.Mod + 1) = b.Mod + 1 := wrap64 (by omega) (by omega)
  have f8 : flagsOk 8 = true := by decide
  have hs8 : s.length ≤ 8388608 := by omega
  simp only [hc, hs, k1, k2, w1, go_sem]
  repeat' ((first | ((first | apply qa | apply qb | apply qc | apply qd | apply qe | apply qf | apply qg | apply qh | apply qi | apply qj | apply qk) <;> intro hp) | ((first | refine ql rfl rfl (by decide +kernel) ?_ | refine qm _ rfl rfl (by decide +kernel) ?_) <;> have hp := True.intro)) <;> simp only [hp, hc, hs, k1, k2, w1, go_sem])
  refine loop_go (fun p : Nat × List Int × List Tomb × List Mail => [(9, .int .i64 (p.1 : Int))]) (fun p => [(3, ⟨.arr, 2, (setOf p.2.1).map Range.enc⟩), (7, ⟨.arr, 4, p.2.2.2.map Mail.enc⟩), (8, ⟨.arr, 2, p.2.2.1.map Tomb.enc⟩)]) (fun p => b.Mails.length - p.1)
    (fun p => p.1 ≤ b.Mails.length ∧ p.2.1 = goneU (b.Mails.take p.1) s ∧ p.2.2.1 = b.Tombs ++ addTs (b.Mails.take p.1) s (b.Mod + 1) ∧ p.2.2.2 = (b.Mails.take p.1).filter fun m => !goneI s m) (0, [], b.Tombs, []) ⟨Nat.zero_le _, rfl, by simp [addTs], rfl⟩ rfl (by rw [setOf_nil']; rfl) ?_
  rintro ⟨i, U, Ts, Ms⟩ ⟨hi, hU, hT, hM⟩ ih
  simp only at hi hU hT hM ih
  have lU : U.length ≤ i := by
    have := goneU_len (b.Mails.take i) s
    rw [← hU, List.length_take] at this; omega
  have lT : Ts.length ≤ 70 := by
    have := addTs_len (b.Mails.take i) s (b.Mod + 1)
    rw [hT, List.length_append]
    rw [List.length_take] at this; omega
  have lM : Ms.length ≤ 30 := by
    have := List.length_filter_le (fun m => !goneI s m) (b.Mails.take i)
    rw [← hM, List.length_take] at this; omega
  have lS := setOf_len U
  rcases Nat.lt_or_ge i b.Mails.length with h | h
  · have g1 : (i : Int) < b.Mails.length := by omega
    have g2 : (0 : Int) ≤ i := by omega
    have g3 : b.Mails[i]? = some b.Mails[i] := List.getElem?_eq_getElem h
    have g5 := wrap_succ h (by omega)
    have u1 : (setOf U).length ≤ 4194304 := by omega
    have t1 : (Ts.length + 1) * 16 ≤ 140737488355328 := by omega
    have t2 : Ts.length + 1 ≤ 9223372036854775807 := by omega
    have m1 : (Ms.length + 1) * 40 ≤ 140737488355328 := by omega
    have m2 : Ms.length + 1 ≤ 9223372036854775807 := by omega
    have hin := mail_in k1 h
    have hG := goneI_eq (s := s) hin.2.2
    cases hq : goneI s b.Mails[i] with
    | true =>
      rw [hq, eq_comm, Bool.and_eq_true, decide_eq_true_eq] at hG
      obtain ⟨q1, q2⟩ := hG
      have hadd := setAdd_one (S := U) (u := b.Mails[i].Uid) (by omega) (by omega)
      have ih' := ih (i + 1, U ++ [b.Mails[i].Uid], Ts ++ [⟨b.Mails[i].Uid, b.Mod + 1⟩], Ms) ⟨h, by rw [goneU_succ h, ← hU, if_pos hq], by rw [addTs_succ h, ← List.append_assoc, ← hT, if_pos hq], by rw [filter_succ h, ← hM, if_neg (by rw [hq]; simp), List.append_nil]⟩ (by simp only; omega)
      simp only [List.map_append] at ih'
      simp only [g1, g2, g3, g5, hs8, q1, q2, f8, hin.2.2, u1, hadd.2, t1, t2, and_self, go_sem]
      repeat' ((first | ((first | apply qa | apply qb | apply qc | apply qd | apply qe | apply qf | apply qg | apply qh | apply qi | apply qj | apply qk) <;> intro hp) | ((first | refine ql rfl rfl (by decide +kernel) ?_ | refine qm _ rfl rfl (by decide +kernel) ?_) <;> have hp := True.intro)) <;> simp only [hp, g1, g2, g3, g5, hs8, q1, q2, f8, hin.2.2, u1, hadd.2, t1, t2, and_self, go_sem])
      exact ih'
    | false =>
      have ih' := ih (i + 1, U, Ts, Ms ++ [b.Mails[i]]) ⟨h, by rw [goneU_succ h, ← hU, if_neg (by rw [hq]; simp), List.append_nil], by rw [addTs_succ h, ← List.append_assoc, ← hT, if_neg (by rw [hq]; simp), List.append_nil], by rw [filter_succ h, ← hM, if_pos (by rw [hq]; rfl)]⟩ (by simp only; omega)
      simp only [List.map_append] at ih'
      rw [hq] at hG
      cases q1 : hasR s b.Mails[i].Uid with
      | false =>
        simp only [g1, g2, g3, g5, hs8, q1, m1, m2, go_sem]
        repeat' ((first | ((first | apply qa | apply qb | apply qc | apply qd | apply qe | apply qf | apply qg | apply qh | apply qi | apply qj | apply qk) <;> intro hp) | ((first | refine ql rfl rfl (by decide +kernel) ?_ | refine qm _ rfl rfl (by decide +kernel) ?_) <;> have hp := True.intro)) <;> simp only [hp, g1, g2, g3, g5, hs8, q1, m1, m2, go_sem])
        exact ih'
      | true =>
        rw [q1, Bool.true_and, eq_comm, decide_eq_false_iff_not] at hG
        simp only [g1, g2, g3, g5, hs8, q1, hG, f8, hin.2.2, m1, m2, and_self, go_sem]
        repeat' ((first | ((first | apply qa | apply qb | apply qc | apply qd | apply qe | apply qf | apply qg | apply qh | apply qi | apply qj | apply qk) <;> intro hp) | ((first | refine ql rfl rfl (by decide +kernel) ?_ | refine qm _ rfl rfl (by decide +kernel) ?_) <;> have hp := True.intro)) <;> simp only [hp, g1, g2, g3, g5, hs8, q1, hG, f8, hin.2.2, m1, m2, and_self, go_sem])
        exact ih'
  · have g1 : ¬ (i : Int) < b.Mails.length := by omega
    rw [List.take_of_length_le h] at hU hT hM
    clear ih
    have hA : Asc U 9999 := by rw [hU]; exact filter_asc k1 _
    by_cases hz : U = []
    · have e1 : (((setOf U).length : Int) == 0) = true := by rw [hz, setOf_nil']; rfl
      have hg : exGood b s = false := by simp [exGood, ← hU, hz]
      simp only [g1, e1, go_sem]
      repeat' ((first | ((first | apply qa | apply qb | apply qc | apply qd | apply qe | apply qf | apply qg | apply qh | apply qi | apply qj | apply qk) <;> intro hp) | ((first | refine ql rfl rfl (by decide +kernel) ?_ | refine qm _ rfl rfl (by decide +kernel) ?_) <;> have hp := True.intro)) <;> simp only [hp, g1, e1, go_sem])
      simp only [fin_mk, finV, resL, resV1, resIn, endA, listIn, Option.some_or, Option.none_or, oneOrTup, go_sem]
      rw [← hr]
      simp only [expunge, exGone, hg, Bool.false_eq_true, if_false, hz, setOf_nil']; rfl
    have e1 : (((setOf U).length : Int) == 0) = false := by
      rw [beq_eq_false_iff_ne]
      intro h0
      exact hz ((setOf_len0 hA).1 (by omega))
    have hU1 : (goneU b.Mails s).isEmpty = false := by rw [← hU]; cases U <;> simp_all
    simp only [g1, e1, go_sem]
    repeat' ((first | ((first | apply qa | apply qb | apply qc | apply qd | apply qe | apply qf | apply qg | apply qh | apply qi | apply qj | apply qk) <;> intro hp) | ((first | refine ql rfl rfl (by decide +kernel) ?_ | refine qm _ rfl rfl (by decide +kernel) ?_) <;> have hp := True.intro)) <;> simp only [hp, g1, e1, go_sem])
    refine loop_go (fun p : List Tomb × Int => []) (fun p => [(3, ⟨.box, 7, [.agg [.str b.Name, .int .i64 b.Valid, .int .i64 b.Next, .int .i64 (b.Mod + 1), .own 6, .own 7, .int .i64 p.2]]⟩), (7, ⟨.arr, 2, p.1.map Tomb.enc⟩)])
      (fun p => p.1.length) (fun p => trimT p.1 p.2 = exTombs b s ∧ p.1.length ≤ 70 ∧ p.1.Pairwise (fun x y => x.Mod ≤ y.Mod)) (Ts, b.Horizon) ⟨by rw [hT]; rfl, lT, by rw [hT]; exact added_sorted k1⟩ rfl rfl ?_
    rintro ⟨ts, hz2⟩ ⟨htr, htl2, hpw⟩ ih
    simp only at htr htl2 hpw ih
    by_cases hl : 40 < ts.length
    · cases ts with
      | nil => simp at hl
      | cons t0 rest =>
        have h1 : (40 : Int) < (t0 :: rest).length := by omega
        have h2 : (t0 :: rest)[0]? = some t0 := rfl
        have h3' : (0 : Int) < (t0 :: rest).length := by omega
        have hlt := trim_lt t0 rest
        have hD := drop_eq (m := t0.Mod) hpw fun x hx => by
          rcases List.mem_cons.1 hx with rfl | hx
          · exact Int.le_refl _
          · exact (List.pairwise_cons.1 hpw).1 x hx
        have ih' := ih (((t0 :: rest).filter fun x => !(x.Mod == t0.Mod)), t0.Mod) ⟨by rw [← htr, trimT_step hl], by simp only; omega, hpw.sublist List.filter_sublist⟩ (by simp only; omega)
        clear ih
        generalize hL : t0 :: rest = L at *
        simp only [h1, h2, h3', Int.le_refl, go_sem]
        repeat' ((first | ((first | apply qa | apply qb | apply qc | apply qd | apply qe | apply qf | apply qg | apply qh | apply qi | apply qj | apply qk) <;> intro hp) | ((first | refine ql rfl rfl (by decide +kernel) ?_ | refine qm _ rfl rfl (by decide +kernel) ?_) <;> have hp := True.intro)) <;> simp only [hp, h1, h2, h3', Int.le_refl, go_sem])
        refine loop_go (fun q : List Tomb => []) (fun q => [(7, ⟨.arr, 2, q.map Tomb.enc⟩)]) (fun q => q.length) (fun q => q.dropWhile (fun x => decide (x.Mod ≤ t0.Mod)) = L.dropWhile (fun x => decide (x.Mod ≤ t0.Mod)) ∧ q.length ≤ 70) L ⟨rfl, htl2⟩ rfl rfl ?_
        rintro q ⟨hq, hql⟩ ih2
        rw [hD, ← hq] at ih'
        cases q with
        | nil =>
          have n1 : ¬ (0 : Int) < ([] : List Tomb).length := by simp
          rw [List.dropWhile_nil] at ih'
          generalize hR : ([] : List Tomb) = Q at *
          simp only [n1, go_sem]
          repeat' ((first | ((first | apply qa | apply qb | apply qc | apply qd | apply qe | apply qf | apply qg | apply qh | apply qi | apply qj | apply qk) <;> intro hp) | ((first | refine ql rfl rfl (by decide +kernel) ?_ | refine qm _ rfl rfl (by decide +kernel) ?_) <;> have hp := True.intro)) <;> simp only [hp, n1, go_sem])
          exact ih'
        | cons x r =>
          have p1 : (0 : Int) < (x :: r).length := by simp only [List.length_cons]; omega
          have p2 : (x :: r)[0]? = some x := rfl
          by_cases hx : x.Mod ≤ t0.Mod
          · have e2 : decide (x.Mod ≤ t0.Mod) = true := by rw [decide_eq_true_eq]; exact hx
            have ih2' := ih2 r ⟨by rw [← hq, List.dropWhile_cons, e2, if_pos rfl], by simp only [List.length_cons] at hql; omega⟩ (by simp only [List.length_cons]; omega)
            have p3 : (x :: r).drop 1 = r := rfl
            have p4 : (x :: r).length - 1 = r.length := rfl
            have p5 : r.length * 16 ≤ 140737488355328 := by simp only [List.length_cons] at hql; omega
            have p6 : r.length ≤ 9223372036854775807 := by simp only [List.length_cons] at hql; omega
            have p7 : 1 ≤ (x :: r).length := by simp only [List.length_cons]; omega
            have p8 : (x :: r).length ≤ 70 := hql
            have p9 : 1 + r.length = (x :: r).length := by simp only [List.length_cons]; omega
            generalize hR : x :: r = Q at *
            simp only [p1, p2, hx, p3, p4, p5, p6, p7, p9, List.take_length, Int.le_refl, Nat.le_refl, go_sem]
            repeat' ((first | ((first | apply qa | apply qb | apply qc | apply qd | apply qe | apply qf | apply qg | apply qh | apply qi | apply qj | apply qk) <;> intro hp) | ((first | refine ql rfl rfl (by decide +kernel) ?_ | refine qm _ rfl rfl (by decide +kernel) ?_) <;> have hp := True.intro)) <;> simp only [hp, p1, p2, hx, p3, p4, p5, p6, p7, p9, List.take_length, Int.le_refl, Nat.le_refl, go_sem])
            exact ih2'
          · have e2 : decide (x.Mod ≤ t0.Mod) = false := by rw [decide_eq_false_iff_not]; exact hx
            rw [List.dropWhile_cons, e2, if_neg (by simp)] at ih'
            generalize hR : x :: r = Q at *
            simp only [p1, p2, hx, Int.le_refl, go_sem]
            repeat' ((first | ((first | apply qa | apply qb | apply qc | apply qd | apply qe | apply qf | apply qg | apply qh | apply qi | apply qj | apply qk) <;> intro hp) | ((first | refine ql rfl rfl (by decide +kernel) ?_ | refine qm _ rfl rfl (by decide +kernel) ?_) <;> have hp := True.intro)) <;> simp only [hp, p1, p2, hx, Int.le_refl, go_sem])
            exact ih'
    · have h1 : ¬ (40 : Int) < ts.length := by omega
      rw [trimT_end hl] at htr
      clear ih
      have hle : Box.le 4194304 ⟨b.Name, b.Valid, b.Next, b.Mod + 1, Ms, ts, hz2⟩ := by rw [hM]; exact exOut_le hc (by omega)
      have hbo : boxOk ⟨b.Name, b.Valid, b.Next, b.Mod + 1, Ms, ts, hz2⟩ = boxOk (exOut b s) := by rw [exOut, ← htr, hM]; rfl
      cases k3 : boxOk (exOut b s) with
      | false =>
        have hg : exGood b s = false := by simp [exGood, k3]
        simp only [h1, hle, hbo, k3, go_sem]
        repeat' ((first | ((first | apply qa | apply qb | apply qc | apply qd | apply qe | apply qf | apply qg | apply qh | apply qi | apply qj | apply qk) <;> intro hp) | ((first | refine ql rfl rfl (by decide +kernel) ?_ | refine qm _ rfl rfl (by decide +kernel) ?_) <;> have hp := True.intro)) <;> simp only [hp, h1, hle, hbo, k3, go_sem])
        simp only [fin_mk, finV, resL, resV1, resIn, endA, listIn, Option.some_or, Option.none_or, oneOrTup, go_sem]
        rw [← hr]
        simp only [expunge, exGone, hg, Bool.false_eq_true, if_false]; rfl
      | true =>
        have hg : exGood b s = true := by simp [exGood, k1, k2, k3, hU1]
        simp only [h1, hle, hbo, k3, go_sem]
        repeat' ((first | ((first | apply qa | apply qb | apply qc | apply qd | apply qe | apply qf | apply qg | apply qh | apply qi | apply qj | apply qk) <;> intro hp) | ((first | refine ql rfl rfl (by decide +kernel) ?_ | refine qm _ rfl rfl (by decide +kernel) ?_) <;> have hp := True.intro)) <;> simp only [hp, h1, hle, hbo, k3, go_sem])
        simp only [fin_mk, finV, resL, resV1, resIn, endA, listIn, Option.some_or, Option.none_or, oneOrTup, go_sem]
        rw [← hr]
        simp only [expunge, exGone, hg, if_true, ← hU]
        rw [exOut, ← htr, exMails, ← hM]; rfl
end Go.Proofs.YtjkhhplhjbmhjaaGreat.L

