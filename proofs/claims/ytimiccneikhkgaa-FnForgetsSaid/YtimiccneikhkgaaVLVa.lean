/- Numbers of tombs that are told. -/
import Derived.Test.YtimiccneikhkgaaVLU
import Derived.Test.YtimiccneikhkgaaVLVp
import Derived.Test.YtimiccneikhkgaaVLSo
import Derived.Test.YtimiccneikhkgaaVLShelf
namespace Go.Proofs.Ytimiccneikhkgaa.L
open Go Go.VM
set_option maxRecDepth 100000
set_option maxHeartbeats 4000000
set_option linter.unusedSimpArgs false
set_option linter.unusedVariables false
theorem ok_slices_Sort_int_int : FnOk Try.prog 21 spSort :=
  sort_ok Try.func21 rfl rfl Try.slices_Sort_int Try.slices_Sort_int_none
theorem sortI_asc {l : List Int} (hn : l.Pairwise (· ≠ ·)) (hr : ∀ x ∈ l, 1 ≤ x ∧ x ≤ 9999) : Asc (sortI l) 9999 := by
  have hp : (sortI l).Perm l := List.mergeSort_perm _ _
  have hs : (sortI l).Pairwise (fun x y => x ≤ y) := by
    have := List.pairwise_mergeSort (le := fun x y : Int => decide (x ≤ y)) (fun a b c h1 h2 => by simp only [decide_eq_true_eq] at *; omega) (fun a b => by simp only [Bool.or_eq_true, decide_eq_true_eq]; omega) l
    exact this.imp fun h => by simpa using h
  have hn' : (sortI l).Pairwise (· ≠ ·) := hp.symm.pairwise hn fun {x y} h => Ne.symm h
  exact ⟨(hs.and hn').imp fun {x y} h => by omega, fun x hx => hr x (hp.mem_iff.1 hx)⟩
theorem setOf_sort (l : List Int) : setOf (sortI l) = setOf l := by
  have hp : (sortI l).Perm l := List.mergeSort_perm _ _
  unfold setOf
  congr 1
  refine List.filter_congr fun n _ => ?_
  simp only [hp.mem_iff]
open Classical in
noncomputable def spVanished : VM.Spec := { modes := [.rd, .rd], run := fun | [b', .int .i64 since] => (Box.dec b').bind fun b => if b.le 4194304 then some (.tup [.lst 2 ((vanished b since).map Range.enc), .bool (vanOk b since)], []) else none | _ => none, need := [] }
attribute [go_sem] spVanished
theorem spVanished_in {ins : List V} {r : V} {outs : List V} (h : spVanished.run ins = some (r, outs)) : ∃ (b : Box) (since : Int), ins = [Box.enc b, .int .i64 since] ∧ (b.le 4194304) ∧ .tup [.lst 2 ((vanished b since).map Range.enc), .bool (vanOk b since)] = r ∧ outs = [] := by
  unfold spVanished at h
  simp only at h
  split at h
  · rename_i b' since
    simp only [Option.bind_eq_some_iff] at h
    obtain ⟨b, h_b, h⟩ := h
    split at h
    case isFalse => cases h
    rename_i hc
    simp only [Option.some.injEq, Prod.mk.injEq] at h
    obtain ⟨h1, h2⟩ := h
    have h_b := Box.dec_some h_b
    subst h_b
    exact ⟨b, since, rfl, hc, h1, h2.symm⟩
  · cases h
def T_impl_Vanished : Hints := ⟨fun _ => none, fun i => if i = 5 then some [1, 6, 20, 21, 22] else none, fun i => if i = 0 then some [1, 2] else if i = 1 then some [1, 2, 17] else if i = 2 then some [4, 5] else if i = 3 then some [1, 2, 6] else if i = 4 then some [1, 6, 20, 21, 22] else if i = 5 then some [1, 6, 20, 21, 22, 23] else if i = 6 then some [1, 6, 8, 20, 21, 22] else if i = 7 then some [1, 6, 8, 20, 21, 22, 29] else if i = 8 then some [1, 6, 20, 21, 22] else if i = 9 then some [1, 6, 20, 21, 22] else if i = 10 then some [6] else if i = 11 then some [4, 5] else none, fun _ => none⟩
noncomputable def Phi_impl_Vanished : Tab := fun f => if f = 10 then some spBoxOk else if f = 21 then some spSort else if f = 22 then some spSetOfList else none
attribute [go_sem] T_impl_Vanished Phi_impl_Vanished
theorem phi_impl_Vanished : ∀ f sp, Phi_impl_Vanished f = some sp → FnOk Try.prog f sp ∧ ∀ n ∈ sp.need, n ∈ ([] : List String) := by
  intro f sp h
  unfold Phi_impl_Vanished at h
  by_cases e : f = 10
  · rw [if_pos e] at h; cases h; rw [e]; exact ⟨ok_impl_BoxOk, (fun n (h : n ∈ ([] : List String)) => (nomatch h))⟩
  rw [if_neg e] at h
  by_cases e : f = 21
  · rw [if_pos e] at h; cases h; rw [e]; exact ⟨ok_slices_Sort_int_int, (fun n (h : n ∈ ([] : List String)) => (nomatch h))⟩
  rw [if_neg e] at h
  by_cases e : f = 22
  · rw [if_pos e] at h; cases h; rw [e]; exact ⟨ok_impl_setOfList, (fun n (h : n ∈ ([] : List String)) => (nomatch h))⟩
  rw [if_neg e] at h
  cases h
theorem ok_impl_Vanished : FnOk Try.prog 8 spVanished := by
  refine fn_ok (Φ := Phi_impl_Vanished) (T := T_impl_Vanished) phi_impl_Vanished mixed Try.func8 rfl rfl rfl (by decide) ?_
  intro ins r outs hr hl
  clear hl
  have hs := spVanished_in hr
  clear hr
  obtain ⟨b, since, rfl, hc, hr, rfl⟩ := hs
  simp only [spVanished, Try.f8, Go.VM.initS]
  cases k1 : boxOk b with
  | false =>
    have hg : vanOk b since = false := by simp [vanOk, k1]
    simp only [hc, k1, go_sem]
    repeat' ((first | ((first | apply qa | apply qb | apply qc | apply qd | apply qe | apply qf | apply qg | apply qh | apply qi | apply qj | apply qk) <;> intro hp) | ((first | refine ql rfl rfl (by decide +kernel) ?_ | refine qm _ rfl rfl (by decide +kernel) ?_ | refine goes_opn rfl ?_ | refine goes_opnD rfl rfl (by decide +kernel) ?_) <;> have hp := True.intro)) <;> simp only [hp, hc, k1, go_sem])
    simp only [fin_mk, finV, resL, resV1, resIn, endA, listIn, Option.some_or, Option.none_or, oneOrTup, go_sem]
    rw [← hr]
    simp only [vanished, hg, Bool.false_eq_true, if_false]; rfl
  | true =>
  by_cases k2 : since < b.Horizon
  · have hg : vanOk b since = false := by simp [vanOk, k2]
    simp only [hc, k1, k2, go_sem]
    repeat' ((first | ((first | apply qa | apply qb | apply qc | apply qd | apply qe | apply qf | apply qg | apply qh | apply qi | apply qj | apply qk) <;> intro hp) | ((first | refine ql rfl rfl (by decide +kernel) ?_ | refine qm _ rfl rfl (by decide +kernel) ?_ | refine goes_opn rfl ?_ | refine goes_opnD rfl rfl (by decide +kernel) ?_) <;> have hp := True.intro)) <;> simp only [hp, hc, k1, k2, go_sem])
    simp only [fin_mk, finV, resL, resV1, resIn, endA, listIn, Option.some_or, Option.none_or, oneOrTup, go_sem]
    rw [← hr]
    simp only [vanished, hg, Bool.false_eq_true, if_false]; rfl
  have hg : vanOk b since = true := by simp [vanOk, k1, k2]
  have hp := boxOk_parts k1
  have htl := hp.2.2.1
  simp only [hc, k1, k2, go_sem]
  repeat' ((first | ((first | apply qa | apply qb | apply qc | apply qd | apply qe | apply qf | apply qg | apply qh | apply qi | apply qj | apply qk) <;> intro hp) | ((first | refine ql rfl rfl (by decide +kernel) ?_ | refine qm _ rfl rfl (by decide +kernel) ?_ | refine goes_opn rfl ?_ | refine goes_opnD rfl rfl (by decide +kernel) ?_) <;> have hp := True.intro)) <;> simp only [hp, hc, k1, k2, go_sem])
  refine loop_go (fun p : Nat × List Int => [(22, .int .i64 (p.1 : Int))]) (fun p => [(0, ⟨.arr, 1, p.2.map eInt⟩)]) (fun p => b.Tombs.length - p.1) (fun p => p.1 ≤ b.Tombs.length ∧ p.2 = vanU (b.Tombs.take p.1) since) (0, []) ⟨Nat.zero_le _, rfl⟩ rfl rfl ?_
  rintro ⟨i, U⟩ ⟨hi, hU⟩ ih
  simp only at hi hU ih
  have lU : U.length ≤ i := by
    have := vanU_len (b.Tombs.take i) since
    rw [← hU, List.length_take] at this; omega
  rcases Nat.lt_or_ge i b.Tombs.length with h | h
  · have g1 : (i : Int) < b.Tombs.length := by omega
    have g2 : (0 : Int) ≤ i := by omega
    have g3 : b.Tombs[i]? = some b.Tombs[i] := List.getElem?_eq_getElem h
    have g5 := wrap_succ h (by omega)
    have u1 : (U.length + 1) * 8 ≤ 140737488355328 := by omega
    have u2 : U.length + 1 ≤ 9223372036854775807 := by omega
    by_cases hq : since < b.Tombs[i].Mod
    · have ih' := ih (i + 1, U ++ [b.Tombs[i].Uid]) ⟨h, by rw [vanU_succ h, ← hU, if_pos hq]⟩ (by simp only; omega)
      simp only [List.map_append] at ih'
      simp only [g1, g2, g3, g5, hq, u1, u2, go_sem]
      repeat' ((first | ((first | apply qa | apply qb | apply qc | apply qd | apply qe | apply qf | apply qg | apply qh | apply qi | apply qj | apply qk) <;> intro hp) | ((first | refine ql rfl rfl (by decide +kernel) ?_ | refine qm _ rfl rfl (by decide +kernel) ?_ | refine goes_opn rfl ?_ | refine goes_opnD rfl rfl (by decide +kernel) ?_) <;> have hp := True.intro)) <;> simp only [hp, g1, g2, g3, g5, hq, u1, u2, go_sem])
      exact ih'
    · have ih' := ih (i + 1, U) ⟨h, by rw [vanU_succ h, ← hU, if_neg hq, List.append_nil]⟩ (by simp only; omega)
      simp only [g1, g2, g3, g5, hq, go_sem]
      repeat' ((first | ((first | apply qa | apply qb | apply qc | apply qd | apply qe | apply qf | apply qg | apply qh | apply qi | apply qj | apply qk) <;> intro hp) | ((first | refine ql rfl rfl (by decide +kernel) ?_ | refine qm _ rfl rfl (by decide +kernel) ?_ | refine goes_opn rfl ?_ | refine goes_opnD rfl rfl (by decide +kernel) ?_) <;> have hp := True.intro)) <;> simp only [hp, g1, g2, g3, g5, hq, go_sem])
      exact ih'
  · have g1 : ¬ (i : Int) < b.Tombs.length := by omega
    rw [List.take_of_length_le h] at hU
    clear ih
    obtain ⟨v1, v2⟩ := vanU_in k1 since
    have hA : Asc (sortI U) 9999 := by rw [hU]; exact sortI_asc v1 v2
    have hall := asc_all hA
    have l1 : U.length ≤ 4194304 := by omega
    have l2 : (sortI U).length ≤ 4194304 := by rw [sortI_len]; exact l1
    have e1 : scan (sortI U) = setOf (vanU b.Tombs since) := by rw [← setOf_asc hA, setOf_sort, hU]
    have e2 : setOk (setOf (vanU b.Tombs since)) = true := setOf_ok (by rw [← hU]; omega)
    simp only [g1, hall, l1, l2, e1, e2, and_self, go_sem]
    repeat' ((first | ((first | apply qa | apply qb | apply qc | apply qd | apply qe | apply qf | apply qg | apply qh | apply qi | apply qj | apply qk) <;> intro hp) | ((first | refine ql rfl rfl (by decide +kernel) ?_ | refine qm _ rfl rfl (by decide +kernel) ?_ | refine goes_opn rfl ?_ | refine goes_opnD rfl rfl (by decide +kernel) ?_) <;> have hp := True.intro)) <;> simp only [hp, g1, hall, l1, l2, e1, e2, and_self, go_sem])
    simp only [fin_mk, finV, resL, resV1, resIn, endA, listIn, Option.some_or, Option.none_or, oneOrTup, go_sem]
    rw [← hr]
    simp only [vanished, hg, if_true]
def T_spec_Vanished : Hints := ⟨fun i => if i = 8 then some [] else none, fun i => if i = 5 then some [1, 2, 6, 7] else none, fun i => if i = 0 then some [1, 2] else if i = 1 then some [1, 2, 6] else if i = 2 then some [1, 2, 6, 17] else if i = 3 then some [4, 5] else if i = 4 then some [1, 2, 6, 7] else if i = 5 then some [1, 2, 6, 7, 23] else if i = 7 then some [1, 2, 6, 7, 33] else if i = 8 then some [1, 2, 6, 7] else if i = 6 then some [1, 2, 6, 7] else if i = 9 then some [4, 5] else none, fun _ => none⟩
noncomputable def Phi_spec_Vanished : Tab := fun f => if f = 23 then some spBoxOk else if f = 24 then some spSetAdd else none
attribute [go_sem] T_spec_Vanished Phi_spec_Vanished
theorem phi_spec_Vanished : ∀ f sp, Phi_spec_Vanished f = some sp → FnOk Try.prog f sp ∧ ∀ n ∈ sp.need, n ∈ ([] : List String) := by
  intro f sp h
  unfold Phi_spec_Vanished at h
  by_cases e : f = 23
  · rw [if_pos e] at h; cases h; rw [e]; exact ⟨ok_spec_BoxOk, (fun n (h : n ∈ ([] : List String)) => (nomatch h))⟩
  rw [if_neg e] at h
  by_cases e : f = 24
  · rw [if_pos e] at h; cases h; rw [e]; exact ⟨ok_spec_SetAdd, (fun n (h : n ∈ ([] : List String)) => (nomatch h))⟩
  rw [if_neg e] at h
  cases h
theorem ok_spec_Vanished : FnOk Try.prog 9 spVanished := by
  refine fn_ok (Φ := Phi_spec_Vanished) (T := T_spec_Vanished) phi_spec_Vanished mixed Try.func9 rfl rfl rfl (by decide) ?_
  intro ins r outs hr hl
  clear hl
  have hs := spVanished_in hr
  clear hr
  obtain ⟨b, since, rfl, hc, hr, rfl⟩ := hs
  simp only [spVanished, Try.f9, Go.VM.initS]
  cases k1 : boxOk b with
  | false =>
    have hg : vanOk b since = false := by simp [vanOk, k1]
    simp only [hc, k1, go_sem]
    repeat' ((first | ((first | apply qa | apply qb | apply qc | apply qd | apply qe | apply qf | apply qg | apply qh | apply qi | apply qj | apply qk) <;> intro hp) | ((first | refine ql rfl rfl (by decide +kernel) ?_ | refine qm _ rfl rfl (by decide +kernel) ?_ | refine goes_opn rfl ?_ | refine goes_opnD rfl rfl (by decide +kernel) ?_) <;> have hp := True.intro)) <;> simp only [hp, hc, k1, go_sem])
    simp only [fin_mk, finV, resL, resV1, resIn, endA, listIn, Option.some_or, Option.none_or, oneOrTup, go_sem]
    rw [← hr]
    simp only [vanished, hg, Bool.false_eq_true, if_false]; rfl
  | true =>
  by_cases k2 : since < b.Horizon
  · have hg : vanOk b since = false := by simp [vanOk, k2]
    simp only [hc, k1, k2, go_sem]
    repeat' ((first | ((first | apply qa | apply qb | apply qc | apply qd | apply qe | apply qf | apply qg | apply qh | apply qi | apply qj | apply qk) <;> intro hp) | ((first | refine ql rfl rfl (by decide +kernel) ?_ | refine qm _ rfl rfl (by decide +kernel) ?_ | refine goes_opn rfl ?_ | refine goes_opnD rfl rfl (by decide +kernel) ?_) <;> have hp := True.intro)) <;> simp only [hp, hc, k1, k2, go_sem])
    simp only [fin_mk, finV, resL, resV1, resIn, endA, listIn, Option.some_or, Option.none_or, oneOrTup, go_sem]
    rw [← hr]
    simp only [vanished, hg, Bool.false_eq_true, if_false]; rfl
  have hg : vanOk b since = true := by simp [vanOk, k1, k2]
  have hp := boxOk_parts k1
  have htl := hp.2.2.1
  simp only [hc, k1, k2, go_sem]
  repeat' ((first | ((first | apply qa | apply qb | apply qc | apply qd | apply qe | apply qf | apply qg | apply qh | apply qi | apply qj | apply qk) <;> intro hp) | ((first | refine ql rfl rfl (by decide +kernel) ?_ | refine qm _ rfl rfl (by decide +kernel) ?_ | refine goes_opn rfl ?_ | refine goes_opnD rfl rfl (by decide +kernel) ?_) <;> have hp := True.intro)) <;> simp only [hp, hc, k1, k2, go_sem])
  refine loop_go (fun p : Nat × List Int => [(7, .int .i64 (p.1 : Int))]) (fun p => [(1, ⟨.arr, 2, (setOf p.2).map Range.enc⟩)]) (fun p => b.Tombs.length - p.1) (fun p => p.1 ≤ b.Tombs.length ∧ p.2 = vanU (b.Tombs.take p.1) since) (0, []) ⟨Nat.zero_le _, rfl⟩ rfl (by rw [setOf_nil']; rfl) ?_
  rintro ⟨i, U⟩ ⟨hi, hU⟩ ih
  simp only at hi hU ih
  have lU : U.length ≤ i := by
    have := vanU_len (b.Tombs.take i) since
    rw [← hU, List.length_take] at this; omega
  have lS := setOf_len U
  rcases Nat.lt_or_ge i b.Tombs.length with h | h
  · have g1 : (i : Int) < b.Tombs.length := by omega
    have g2 : (0 : Int) ≤ i := by omega
    have g3 : b.Tombs[i]? = some b.Tombs[i] := List.getElem?_eq_getElem h
    have g5 := wrap_succ h (by omega)
    have u1 : (setOf U).length ≤ 4194304 := by omega
    by_cases hq : since < b.Tombs[i].Mod
    · have ht := tomb_at k1 h
      have hadd := setAdd_one (S := U) (u := b.Tombs[i].Uid) ⟨ht.1, ht.2.1⟩ (by omega)
      have ih' := ih (i + 1, U ++ [b.Tombs[i].Uid]) ⟨h, by rw [vanU_succ h, ← hU, if_pos hq]⟩ (by simp only; omega)
      simp only [g1, g2, g3, g5, hq, u1, hadd.2, go_sem]
      repeat' ((first | ((first | apply qa | apply qb | apply qc | apply qd | apply qe | apply qf | apply qg | apply qh | apply qi | apply qj | apply qk) <;> intro hp) | ((first | refine ql rfl rfl (by decide +kernel) ?_ | refine qm _ rfl rfl (by decide +kernel) ?_ | refine goes_opn rfl ?_ | refine goes_opnD rfl rfl (by decide +kernel) ?_) <;> have hp := True.intro)) <;> simp only [hp, g1, g2, g3, g5, hq, u1, hadd.2, go_sem])
      exact ih'
    · have ih' := ih (i + 1, U) ⟨h, by rw [vanU_succ h, ← hU, if_neg hq, List.append_nil]⟩ (by simp only; omega)
      simp only [g1, g2, g3, g5, hq, go_sem]
      repeat' ((first | ((first | apply qa | apply qb | apply qc | apply qd | apply qe | apply qf | apply qg | apply qh | apply qi | apply qj | apply qk) <;> intro hp) | ((first | refine ql rfl rfl (by decide +kernel) ?_ | refine qm _ rfl rfl (by decide +kernel) ?_ | refine goes_opn rfl ?_ | refine goes_opnD rfl rfl (by decide +kernel) ?_) <;> have hp := True.intro)) <;> simp only [hp, g1, g2, g3, g5, hq, go_sem])
      exact ih'
  · have g1 : ¬ (i : Int) < b.Tombs.length := by omega
    rw [List.take_of_length_le h] at hU
    simp only [g1, go_sem]
    repeat' ((first | ((first | apply qa | apply qb | apply qc | apply qd | apply qe | apply qf | apply qg | apply qh | apply qi | apply qj | apply qk) <;> intro hp) | ((first | refine ql rfl rfl (by decide +kernel) ?_ | refine qm _ rfl rfl (by decide +kernel) ?_ | refine goes_opn rfl ?_ | refine goes_opnD rfl rfl (by decide +kernel) ?_) <;> have hp := True.intro)) <;> simp only [hp, g1, go_sem])
    simp only [fin_mk, finV, resL, resV1, resIn, endA, listIn, Option.some_or, Option.none_or, oneOrTup, go_sem]
    rw [← hr]
    simp only [vanished, hg, if_true, hU]
end Go.Proofs.Ytimiccneikhkgaa.L
