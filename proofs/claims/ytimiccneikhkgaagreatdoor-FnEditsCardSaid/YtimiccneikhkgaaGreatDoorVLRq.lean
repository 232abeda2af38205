/- ReadEdit. -/
import Derived.Test.YtimiccneikhkgaaGreatDoorVLRp
namespace Go.Proofs.YtimiccneikhkgaaGreatDoor.L
open Go Go.VM
set_option maxRecDepth 100000
set_option maxHeartbeats 8000000
set_option linter.unusedSimpArgs false
set_option linter.unusedVariables false
theorem setR_le (l : List Range) : (setR l).length ≤ 4194304 := by
  unfold setR
  refine Nat.le_trans (scan_len _) (Nat.le_trans (List.length_filter_le _ _) ?_)
  simp [nums]
theorem readSet_len (t : List UInt8) (last : Int) : (readSet t last).length ≤ 4194304 := by
  unfold readSet
  split
  · split
    · exact setR_le _
    · simp
  · simp
theorem readEd_le {t : List UInt8} {last : Int} (h : t.length ≤ 4194304) : (readEd t last).le 4194304 := by
  have i0 : rdI ⟨t, 0, false⟩ := ⟨Int.le_refl 0, by simp only; omega, h⟩
  have i1 := rdOne_in i0
  have i2 := rdShort_in (c := (rE1 t).2) i1.1
  have i3 := rdShort_in (c := (rE2 t).2) i2.1
  have i4 := rdShort_in (c := (rE3 t).2) i3.1
  have i5 := rdOne_in (c := (rE4 t).2) i4.1
  have i6 := rdOne_in (c := (rE5 t).2) i5.1
  have i7 := rdVar_in (c := (rE6 t).2) i6.1
  have i8 := rdShort_in (c := (rE7 t).2) i7.1
  have t1 : (rE1 t).2.text = t := i1.2.1
  have t2 : (rE2 t).2.text = t := i2.2.1.trans t1
  have t3 : (rE3 t).2.text = t := i3.2.1.trans t2
  have t4 : (rE4 t).2.text = t := i4.2.1.trans t3
  have t5 : (rE5 t).2.text = t := i5.2.1.trans t4
  have t6 : (rE6 t).2.text = t := i6.2.1.trans t5
  have t7 : (rE7 t).2.text = t := i7.2.1.trans t6
  have l2 : (rE2 t).1.length ≤ 4194304 := Nat.le_trans i2.2.2 (by rw [t1]; exact h)
  have l3 : (rE3 t).1.length ≤ 4194304 := Nat.le_trans i3.2.2 (by rw [t2]; exact h)
  have l8 : (rE8 t).1.length ≤ 4194304 := Nat.le_trans i8.2.2 (by rw [t7]; exact h)
  refine ⟨l2, l3, ⟨?_, fun _ _ => trivial⟩, l8⟩
  simp only [readEd]
  split
  · simp
  · exact readSet_len _ _
theorem editZero_le : editZero.le 4194304 := ⟨by simp [editZero, leS], by simp [editZero, leS], ⟨by simp [editZero], fun _ _ => trivial⟩, by simp [editZero, leS]⟩
theorem readE_le {t : List UInt8} (h : t.length ≤ 4194304) : (readE t).le 4194304 := by
  unfold readE
  split
  · exact readEd_le h
  · exact editZero_le
open Classical in
noncomputable def spReadEdit : VM.Spec := { modes := [.rd], run := fun | [.str t] => if t.length ≤ 4194304 then some (.tup [Edit.enc (readE t), .bool (readB t)], []) else none | _ => none, need := ["internal/bytealg.MaxLen", "internal/strconv.uint64pow10"] }
attribute [go_sem] spReadEdit
theorem spReadEdit_in {ins : List V} {r : V} {outs : List V} (h : spReadEdit.run ins = some (r, outs)) : ∃ (t : (List UInt8)), ins = [.str t] ∧ (t.length ≤ 4194304) ∧ .tup [Edit.enc (readE t), .bool (readB t)] = r ∧ outs = [] := by
  unfold spReadEdit at h
  simp only at h
  split at h
  · rename_i t
    split at h
    case isFalse => cases h
    rename_i hc
    simp only [Option.some.injEq, Prod.mk.injEq] at h
    obtain ⟨h1, h2⟩ := h
    exact ⟨t, rfl, hc, h1, h2.symm⟩
  · cases h
def T_impl_ReadEdit : Hints := ⟨fun _ => none, fun _ => none, fun i => if i = 0 then some [0, 2] else if i = 1 then some [0, 2, 4] else if i = 2 then some [0, 2, 4, 5] else if i = 3 then some [0, 2, 4, 5] else if i = 4 then some [0, 2, 4, 5] else if i = 5 then some [0, 2, 4, 5] else if i = 6 then some [0, 2, 4, 5, 6] else if i = 7 then some [0, 2, 4, 5, 6] else if i = 8 then some [0, 2, 4, 5, 6] else if i = 9 then some [0, 2, 4, 5, 6] else if i = 10 then some [0, 2, 4, 5, 6] else if i = 11 then some [0, 2, 4, 5, 6, 38] else if i = 12 then some [0, 2, 4, 5] else if i = 13 then some [0, 2, 4, 5, 7, 8] else if i = 14 then some [2, 5, 62] else if i = 15 then some [2, 3] else if i = 16 then some [2, 3] else none, fun _ => none⟩
noncomputable def Phi_impl_ReadEdit : Tab := fun f => if f = 42 then some spOne else if f = 43 then some spShortR else if f = 44 then some spVarR else if f = 45 then some spReadSet else if f = 8 then some spEditText else none
attribute [go_sem] T_impl_ReadEdit Phi_impl_ReadEdit
theorem phi_impl_ReadEdit : ∀ f sp, Phi_impl_ReadEdit f = some sp → FnOk Tryz.prog f sp ∧ ∀ n ∈ sp.need, n ∈ (["internal/bytealg.MaxLen", "internal/strconv.uint64pow10"] : List String) := by
  intro f sp h
  unfold Phi_impl_ReadEdit at h
  by_cases e : f = 42
  · rw [if_pos e] at h; cases h; rw [e]; exact ⟨ok_impl_reader_one, (fun n (h : n ∈ ([] : List String)) => (nomatch h))⟩
  rw [if_neg e] at h
  by_cases e : f = 43
  · rw [if_pos e] at h; cases h; rw [e]; exact ⟨ok_impl_reader_short, (fun n (h : n ∈ ([] : List String)) => (nomatch h))⟩
  rw [if_neg e] at h
  by_cases e : f = 44
  · rw [if_pos e] at h; cases h; rw [e]; exact ⟨ok_impl_reader_number, (fun n (h : n ∈ ([] : List String)) => (nomatch h))⟩
  rw [if_neg e] at h
  by_cases e : f = 45
  · rw [if_pos e] at h; cases h; rw [e]; exact ⟨ok_impl_ReadSet, (fun n (h : n ∈ (["internal/bytealg.MaxLen"] : List String)) => by simp only [List.mem_cons, List.not_mem_nil, or_false] at h; rcases h with rfl <;> simp)⟩
  rw [if_neg e] at h
  by_cases e : f = 8
  · rw [if_pos e] at h; cases h; rw [e]; exact ⟨ok_impl_EditText, (fun n (h : n ∈ (["internal/strconv.uint64pow10"] : List String)) => by simp only [List.mem_cons, List.not_mem_nil, or_false] at h; rcases h with rfl <;> simp)⟩
  rw [if_neg e] at h
  cases h
theorem ok_impl_ReadEdit : FnOk Tryz.prog 9 spReadEdit := by
  refine fn_ok (Φ := Phi_impl_ReadEdit) (T := T_impl_ReadEdit) phi_impl_ReadEdit mixed Tryz.func9 rfl rfl rfl (by decide) ?_
  intro ins r outs hr hl
  clear hl
  have hs := spReadEdit_in hr
  clear hr
  obtain ⟨t, rfl, hc, hr, rfl⟩ := hs
  simp only [spReadEdit, Tryz.f9, Go.VM.initS]
  have i0 : rdI ⟨t, 0, false⟩ := ⟨Int.le_refl 0, by simp only; omega, hc⟩
  obtain ⟨⟨v1, c1⟩, e1⟩ : ∃ x, rE1 t = x := ⟨_, rfl⟩
  have f1 : rdOne ⟨t, 0, false⟩ = (v1, c1) := e1
  have j1 := rdOne_in i0
  rw [f1] at j1
  obtain ⟨⟨v2, c2⟩, e2⟩ : ∃ x, rE2 t = x := ⟨_, rfl⟩
  have f2 : rdShort c1 = (v2, c2) := by rw [← e2, rE2, e1]
  have j2 := rdShort_in j1.1
  rw [f2] at j2
  obtain ⟨⟨v3, c3⟩, e3⟩ : ∃ x, rE3 t = x := ⟨_, rfl⟩
  have f3 : rdShort c2 = (v3, c3) := by rw [← e3, rE3, e2]
  have j3 := rdShort_in j2.1
  rw [f3] at j3
  obtain ⟨⟨v4, c4⟩, e4⟩ : ∃ x, rE4 t = x := ⟨_, rfl⟩
  have f4 : rdShort c3 = (v4, c4) := by rw [← e4, rE4, e3]
  have j4 := rdShort_in j3.1
  rw [f4] at j4
  obtain ⟨⟨v5, c5⟩, e5⟩ : ∃ x, rE5 t = x := ⟨_, rfl⟩
  have f5 : rdOne c4 = (v5, c5) := by rw [← e5, rE5, e4]
  have j5 := rdOne_in j4.1
  rw [f5] at j5
  obtain ⟨⟨v6, c6⟩, e6⟩ : ∃ x, rE6 t = x := ⟨_, rfl⟩
  have f6 : rdOne c5 = (v6, c6) := by rw [← e6, rE6, e5]
  have j6 := rdOne_in j5.1
  rw [f6] at j6
  obtain ⟨⟨v7, c7⟩, e7⟩ : ∃ x, rE7 t = x := ⟨_, rfl⟩
  have f7 : rdVar c6 = (v7, c7) := by rw [← e7, rE7, e6]
  have j7 := rdVar_in j6.1
  rw [f7] at j7
  obtain ⟨⟨v8, c8⟩, e8⟩ : ∃ x, rE8 t = x := ⟨_, rfl⟩
  have f8 : rdShort c7 = (v8, c8) := by rw [← e8, rE8, e7]
  have j8 := rdShort_in j7.1
  rw [f8] at j8
  have hle := fun l => readEd_le (last := l) hc
  simp only at j1 j2 j3 j4 j5 j6 j7 j8
  have x1 : c1.text = t := j1.2.1
  have x2 : c2.text = t := j2.2.1.trans x1
  have x3 : c3.text = t := j3.2.1.trans x2
  have x4 : c4.text = t := j4.2.1.trans x3
  have x5 : c5.text = t := j5.2.1.trans x4
  have x6 : c6.text = t := j6.2.1.trans x5
  have x7 : c7.text = t := j7.2.1.trans x6
  have x8 : c8.text = t := j8.2.1.trans x7
  have y4 : v4.length ≤ 4194304 := Nat.le_trans j4.2.2 (by rw [x3]; exact hc)
  have gw : IntKind.i64.wrap (v7 - 1) = v7 - 1 := wrap64 (by omega) (by omega)
  have hE : ∀ l, readEd t l = ⟨v1, v2, v3, if (v4 == []) = true then [] else readSet v4 l, v5, v6, v7 - 1, v8⟩ := fun l => by simp only [readEd, e1, e2, e3, e4, e5, e6, e7, e8]
  cases h4 : (v4 == []) with
  | true =>
    have h4n : (v4 != []) = false := by rw [bne, h4]; rfl
    have hEl := hle 9999
    simp only [readE, readB, hE, e8, h4, if_true] at hr hEl
    cases hb : c8.bad with
    | true =>
      simp only [hb, Bool.not_true, Bool.false_and, Bool.false_eq_true, if_false] at hr
      simp only [i0, f1, j1.1, f2, j2.1, f3, j3.1, f4, j4.1, f5, j5.1, f6, j6.1, f7, j7.1, f8, j8.1, gw, y4, hEl, h4n, hb, go_sem]
      repeat' ((first | ((first | apply qa | apply qb | apply qc | apply qd | apply qe | apply qf | apply qg | apply qh | apply qi | apply qj | apply qk) <;> intro hp) | ((first | refine ql rfl rfl (by decide +kernel) ?_ | refine qm _ rfl rfl (by decide +kernel) ?_ | refine goes_opn rfl ?_ | refine goes_opnD rfl rfl (by decide +kernel) ?_) <;> have hp := True.intro)) <;> simp only [hp, i0, f1, j1.1, f2, j2.1, f3, j3.1, f4, j4.1, f5, j5.1, f6, j6.1, f7, j7.1, f8, j8.1, gw, y4, hEl, h4n, hb, go_sem])
      all_goals (simp only [fin_mk, finV, resL, resV1, resIn, endA, listIn, Option.some_or, Option.none_or, oneOrTup, go_sem]; rw [← hr]; first | rfl | simp [editZero])
    | false =>
      cases ho : editOk ⟨v1, v2, v3, [], v5, v6, v7 - 1, v8⟩ with
      | false =>
        simp only [hb, ho, Bool.not_false, Bool.true_and, Bool.false_and, Bool.false_eq_true, if_false] at hr
        simp only [i0, f1, j1.1, f2, j2.1, f3, j3.1, f4, j4.1, f5, j5.1, f6, j6.1, f7, j7.1, f8, j8.1, gw, y4, hEl, h4n, hb, ho, go_sem]
        repeat' ((first | ((first | apply qa | apply qb | apply qc | apply qd | apply qe | apply qf | apply qg | apply qh | apply qi | apply qj | apply qk) <;> intro hp) | ((first | refine ql rfl rfl (by decide +kernel) ?_ | refine qm _ rfl rfl (by decide +kernel) ?_ | refine goes_opn rfl ?_ | refine goes_opnD rfl rfl (by decide +kernel) ?_) <;> have hp := True.intro)) <;> simp only [hp, i0, f1, j1.1, f2, j2.1, f3, j3.1, f4, j4.1, f5, j5.1, f6, j6.1, f7, j7.1, f8, j8.1, gw, y4, hEl, h4n, hb, ho, go_sem])
        all_goals (simp only [fin_mk, finV, resL, resV1, resIn, endA, listIn, Option.some_or, Option.none_or, oneOrTup, go_sem]; rw [← hr]; first | rfl | simp [editZero])
      | true =>
        cases ht : (editText ⟨v1, v2, v3, [], v5, v6, v7 - 1, v8⟩ == t) with
        | false =>
          have htn : (editText ⟨v1, v2, v3, [], v5, v6, v7 - 1, v8⟩ != t) = true := by rw [bne, ht]; rfl
          simp only [hb, ho, ht, Bool.not_false, Bool.true_and, Bool.false_eq_true, if_false] at hr
          simp only [i0, f1, j1.1, f2, j2.1, f3, j3.1, f4, j4.1, f5, j5.1, f6, j6.1, f7, j7.1, f8, j8.1, gw, y4, hEl, h4n, hb, ho, htn, go_sem]
          repeat' ((first | ((first | apply qa | apply qb | apply qc | apply qd | apply qe | apply qf | apply qg | apply qh | apply qi | apply qj | apply qk) <;> intro hp) | ((first | refine ql rfl rfl (by decide +kernel) ?_ | refine qm _ rfl rfl (by decide +kernel) ?_ | refine goes_opn rfl ?_ | refine goes_opnD rfl rfl (by decide +kernel) ?_) <;> have hp := True.intro)) <;> simp only [hp, i0, f1, j1.1, f2, j2.1, f3, j3.1, f4, j4.1, f5, j5.1, f6, j6.1, f7, j7.1, f8, j8.1, gw, y4, hEl, h4n, hb, ho, htn, go_sem])
          all_goals (simp only [fin_mk, finV, resL, resV1, resIn, endA, listIn, Option.some_or, Option.none_or, oneOrTup, go_sem]; rw [← hr]; first | rfl | simp [editZero])
        | true =>
          have htn : (editText ⟨v1, v2, v3, [], v5, v6, v7 - 1, v8⟩ != t) = false := by rw [bne, ht]; rfl
          simp only [hb, ho, ht, Bool.not_false, Bool.true_and, if_true] at hr
          simp only [i0, f1, j1.1, f2, j2.1, f3, j3.1, f4, j4.1, f5, j5.1, f6, j6.1, f7, j7.1, f8, j8.1, gw, y4, hEl, h4n, hb, ho, htn, go_sem]
          repeat' ((first | ((first | apply qa | apply qb | apply qc | apply qd | apply qe | apply qf | apply qg | apply qh | apply qi | apply qj | apply qk) <;> intro hp) | ((first | refine ql rfl rfl (by decide +kernel) ?_ | refine qm _ rfl rfl (by decide +kernel) ?_ | refine goes_opn rfl ?_ | refine goes_opnD rfl rfl (by decide +kernel) ?_) <;> have hp := True.intro)) <;> simp only [hp, i0, f1, j1.1, f2, j2.1, f3, j3.1, f4, j4.1, f5, j5.1, f6, j6.1, f7, j7.1, f8, j8.1, gw, y4, hEl, h4n, hb, ho, htn, go_sem])
          all_goals (simp only [fin_mk, finV, resL, resV1, resIn, endA, listIn, Option.some_or, Option.none_or, oneOrTup, go_sem]; rw [← hr]; first | rfl | simp)
  | false =>
    have h4n : (v4 != []) = true := by rw [bne, h4]; rfl
    have hEl := hle 9999
    simp only [readE, readB, hE, e8, h4, Bool.false_eq_true, if_false] at hr hEl
    cases hb : c8.bad with
    | true =>
      simp only [hb, Bool.not_true, Bool.false_and, Bool.false_eq_true, if_false] at hr
      simp only [i0, f1, j1.1, f2, j2.1, f3, j3.1, f4, j4.1, f5, j5.1, f6, j6.1, f7, j7.1, f8, j8.1, gw, y4, hEl, h4n, hb, go_sem]
      repeat' ((first | ((first | apply qa | apply qb | apply qc | apply qd | apply qe | apply qf | apply qg | apply qh | apply qi | apply qj | apply qk) <;> intro hp) | ((first | refine ql rfl rfl (by decide +kernel) ?_ | refine qm _ rfl rfl (by decide +kernel) ?_ | refine goes_opn rfl ?_ | refine goes_opnD rfl rfl (by decide +kernel) ?_) <;> have hp := True.intro)) <;> simp only [hp, i0, f1, j1.1, f2, j2.1, f3, j3.1, f4, j4.1, f5, j5.1, f6, j6.1, f7, j7.1, f8, j8.1, gw, y4, hEl, h4n, hb, go_sem])
      all_goals (simp only [fin_mk, finV, resL, resV1, resIn, endA, listIn, Option.some_or, Option.none_or, oneOrTup, go_sem]; rw [← hr]; first | rfl | simp [editZero])
    | false =>
      cases ho : editOk ⟨v1, v2, v3, readSet v4 9999, v5, v6, v7 - 1, v8⟩ with
      | false =>
        simp only [hb, ho, Bool.not_false, Bool.true_and, Bool.false_and, Bool.false_eq_true, if_false] at hr
        simp only [i0, f1, j1.1, f2, j2.1, f3, j3.1, f4, j4.1, f5, j5.1, f6, j6.1, f7, j7.1, f8, j8.1, gw, y4, hEl, h4n, hb, ho, go_sem]
        repeat' ((first | ((first | apply qa | apply qb | apply qc | apply qd | apply qe | apply qf | apply qg | apply qh | apply qi | apply qj | apply qk) <;> intro hp) | ((first | refine ql rfl rfl (by decide +kernel) ?_ | refine qm _ rfl rfl (by decide +kernel) ?_ | refine goes_opn rfl ?_ | refine goes_opnD rfl rfl (by decide +kernel) ?_) <;> have hp := True.intro)) <;> simp only [hp, i0, f1, j1.1, f2, j2.1, f3, j3.1, f4, j4.1, f5, j5.1, f6, j6.1, f7, j7.1, f8, j8.1, gw, y4, hEl, h4n, hb, ho, go_sem])
        all_goals (simp only [fin_mk, finV, resL, resV1, resIn, endA, listIn, Option.some_or, Option.none_or, oneOrTup, go_sem]; rw [← hr]; first | rfl | simp [editZero])
      | true =>
        cases ht : (editText ⟨v1, v2, v3, readSet v4 9999, v5, v6, v7 - 1, v8⟩ == t) with
        | false =>
          have htn : (editText ⟨v1, v2, v3, readSet v4 9999, v5, v6, v7 - 1, v8⟩ != t) = true := by rw [bne, ht]; rfl
          simp only [hb, ho, ht, Bool.not_false, Bool.true_and, Bool.false_eq_true, if_false] at hr
          simp only [i0, f1, j1.1, f2, j2.1, f3, j3.1, f4, j4.1, f5, j5.1, f6, j6.1, f7, j7.1, f8, j8.1, gw, y4, hEl, h4n, hb, ho, htn, go_sem]
          repeat' ((first | ((first | apply qa | apply qb | apply qc | apply qd | apply qe | apply qf | apply qg | apply qh | apply qi | apply qj | apply qk) <;> intro hp) | ((first | refine ql rfl rfl (by decide +kernel) ?_ | refine qm _ rfl rfl (by decide +kernel) ?_ | refine goes_opn rfl ?_ | refine goes_opnD rfl rfl (by decide +kernel) ?_) <;> have hp := True.intro)) <;> simp only [hp, i0, f1, j1.1, f2, j2.1, f3, j3.1, f4, j4.1, f5, j5.1, f6, j6.1, f7, j7.1, f8, j8.1, gw, y4, hEl, h4n, hb, ho, htn, go_sem])
          all_goals (simp only [fin_mk, finV, resL, resV1, resIn, endA, listIn, Option.some_or, Option.none_or, oneOrTup, go_sem]; rw [← hr]; first | rfl | simp [editZero])
        | true =>
          have htn : (editText ⟨v1, v2, v3, readSet v4 9999, v5, v6, v7 - 1, v8⟩ != t) = false := by rw [bne, ht]; rfl
          simp only [hb, ho, ht, Bool.not_false, Bool.true_and, if_true] at hr
          simp only [i0, f1, j1.1, f2, j2.1, f3, j3.1, f4, j4.1, f5, j5.1, f6, j6.1, f7, j7.1, f8, j8.1, gw, y4, hEl, h4n, hb, ho, htn, go_sem]
          repeat' ((first | ((first | apply qa | apply qb | apply qc | apply qd | apply qe | apply qf | apply qg | apply qh | apply qi | apply qj | apply qk) <;> intro hp) | ((first | refine ql rfl rfl (by decide +kernel) ?_ | refine qm _ rfl rfl (by decide +kernel) ?_ | refine goes_opn rfl ?_ | refine goes_opnD rfl rfl (by decide +kernel) ?_) <;> have hp := True.intro)) <;> simp only [hp, i0, f1, j1.1, f2, j2.1, f3, j3.1, f4, j4.1, f5, j5.1, f6, j6.1, f7, j7.1, f8, j8.1, gw, y4, hEl, h4n, hb, ho, htn, go_sem])
          all_goals (simp only [fin_mk, finV, resL, resV1, resIn, endA, listIn, Option.some_or, Option.none_or, oneOrTup, go_sem]; rw [← hr]; first | rfl | simp)
def T_spec_ReadEdit : Hints := ⟨fun _ => none, fun _ => none, fun i => if i = 0 then some [0, 2] else if i = 1 then some [0, 2, 4] else if i = 2 then some [0, 2, 4, 5] else if i = 3 then some [0, 2, 4, 5] else if i = 4 then some [0, 2, 4, 5] else if i = 5 then some [0, 2, 4, 5, 6] else if i = 6 then some [0, 2, 4, 5, 6] else if i = 7 then some [0, 2, 4, 5, 6] else if i = 8 then some [0, 2, 4, 5, 6] else if i = 9 then some [0, 2, 4, 5, 6] else if i = 10 then some [0, 2, 4, 5, 6, 39] else if i = 11 then some [0, 2, 4, 5, 7, 8] else if i = 12 then some [0, 2, 4, 5, 7, 46] else if i = 13 then some [2, 3] else if i = 14 then some [0, 2, 4, 5] else if i = 15 then some [0, 2, 4, 5, 9, 10] else if i = 16 then some [2, 5, 67] else if i = 17 then some [2, 3] else if i = 18 then some [2, 3] else none, fun _ => none⟩
noncomputable def Phi_spec_ReadEdit : Tab := fun f => if f = 49 then some spOne else if f = 50 then some spShortR else if f = 51 then some spVarR else if f = 52 then some spReadSet else if f = 47 then some spEditText else none
attribute [go_sem] T_spec_ReadEdit Phi_spec_ReadEdit
theorem phi_spec_ReadEdit : ∀ f sp, Phi_spec_ReadEdit f = some sp → FnOk Tryz.prog f sp ∧ ∀ n ∈ sp.need, n ∈ (["internal/bytealg.MaxLen", "internal/strconv.uint64pow10"] : List String) := by
  intro f sp h
  unfold Phi_spec_ReadEdit at h
  by_cases e : f = 49
  · rw [if_pos e] at h; cases h; rw [e]; exact ⟨ok_spec_l10Byte, (fun n (h : n ∈ ([] : List String)) => (nomatch h))⟩
  rw [if_neg e] at h
  by_cases e : f = 50
  · rw [if_pos e] at h; cases h; rw [e]; exact ⟨ok_spec_l10ReadShort, (fun n (h : n ∈ ([] : List String)) => (nomatch h))⟩
  rw [if_neg e] at h
  by_cases e : f = 51
  · rw [if_pos e] at h; cases h; rw [e]; exact ⟨ok_spec_l10Var, (fun n (h : n ∈ ([] : List String)) => (nomatch h))⟩
  rw [if_neg e] at h
  by_cases e : f = 52
  · rw [if_pos e] at h; cases h; rw [e]; exact ⟨ok_spec_ReadSet, (fun n (h : n ∈ (["internal/bytealg.MaxLen"] : List String)) => by simp only [List.mem_cons, List.not_mem_nil, or_false] at h; rcases h with rfl <;> simp)⟩
  rw [if_neg e] at h
  by_cases e : f = 47
  · rw [if_pos e] at h; cases h; rw [e]; exact ⟨ok_spec_EditText, (fun n (h : n ∈ (["internal/strconv.uint64pow10"] : List String)) => by simp only [List.mem_cons, List.not_mem_nil, or_false] at h; rcases h with rfl <;> simp)⟩
  rw [if_neg e] at h
  cases h
theorem ok_spec_ReadEdit : FnOk Tryz.prog 11 spReadEdit := by
  refine fn_ok (Φ := Phi_spec_ReadEdit) (T := T_spec_ReadEdit) phi_spec_ReadEdit mixed Tryz.func11 rfl rfl rfl (by decide) ?_
  intro ins r outs hr hl
  clear hl
  have hs := spReadEdit_in hr
  clear hr
  obtain ⟨t, rfl, hc, hr, rfl⟩ := hs
  simp only [spReadEdit, Tryz.f11, Go.VM.initS]
  have i0 : rdI ⟨t, 0, false⟩ := ⟨Int.le_refl 0, by simp only; omega, hc⟩
  obtain ⟨⟨v1, c1⟩, e1⟩ : ∃ x, rE1 t = x := ⟨_, rfl⟩
  have f1 : rdOne ⟨t, 0, false⟩ = (v1, c1) := e1
  have j1 := rdOne_in i0
  rw [f1] at j1
  obtain ⟨⟨v2, c2⟩, e2⟩ : ∃ x, rE2 t = x := ⟨_, rfl⟩
  have f2 : rdShort c1 = (v2, c2) := by rw [← e2, rE2, e1]
  have j2 := rdShort_in j1.1
  rw [f2] at j2
  obtain ⟨⟨v3, c3⟩, e3⟩ : ∃ x, rE3 t = x := ⟨_, rfl⟩
  have f3 : rdShort c2 = (v3, c3) := by rw [← e3, rE3, e2]
  have j3 := rdShort_in j2.1
  rw [f3] at j3
  obtain ⟨⟨v4, c4⟩, e4⟩ : ∃ x, rE4 t = x := ⟨_, rfl⟩
  have f4 : rdShort c3 = (v4, c4) := by rw [← e4, rE4, e3]
  have j4 := rdShort_in j3.1
  rw [f4] at j4
  obtain ⟨⟨v5, c5⟩, e5⟩ : ∃ x, rE5 t = x := ⟨_, rfl⟩
  have f5 : rdOne c4 = (v5, c5) := by rw [← e5, rE5, e4]
  have j5 := rdOne_in j4.1
  rw [f5] at j5
  obtain ⟨⟨v6, c6⟩, e6⟩ : ∃ x, rE6 t = x := ⟨_, rfl⟩
  have f6 : rdOne c5 = (v6, c6) := by rw [← e6, rE6, e5]
  have j6 := rdOne_in j5.1
  rw [f6] at j6
  obtain ⟨⟨v7, c7⟩, e7⟩ : ∃ x, rE7 t = x := ⟨_, rfl⟩
  have f7 : rdVar c6 = (v7, c7) := by rw [← e7, rE7, e6]
  have j7 := rdVar_in j6.1
  rw [f7] at j7
  obtain ⟨⟨v8, c8⟩, e8⟩ : ∃ x, rE8 t = x := ⟨_, rfl⟩
  have f8 : rdShort c7 = (v8, c8) := by rw [← e8, rE8, e7]
  have j8 := rdShort_in j7.1
  rw [f8] at j8
  have hle := fun l => readEd_le (last := l) hc
  simp only at j1 j2 j3 j4 j5 j6 j7 j8
  have x1 : c1.text = t := j1.2.1
  have x2 : c2.text = t := j2.2.1.trans x1
  have x3 : c3.text = t := j3.2.1.trans x2
  have x4 : c4.text = t := j4.2.1.trans x3
  have x5 : c5.text = t := j5.2.1.trans x4
  have x6 : c6.text = t := j6.2.1.trans x5
  have x7 : c7.text = t := j7.2.1.trans x6
  have x8 : c8.text = t := j8.2.1.trans x7
  have y4 : v4.length ≤ 4194304 := Nat.le_trans j4.2.2 (by rw [x3]; exact hc)
  have gw : IntKind.i64.wrap (v7 - 1) = v7 - 1 := wrap64 (by omega) (by omega)
  have hE : ∀ l, readEd t l = ⟨v1, v2, v3, if (v4 == []) = true then [] else readSet v4 l, v5, v6, v7 - 1, v8⟩ := fun l => by simp only [readEd, e1, e2, e3, e4, e5, e6, e7, e8]
  cases h4 : (v4 == []) with
  | true =>
    have h4n : (v4 != []) = false := by rw [bne, h4]; rfl
    have hEl := hle 9999
    simp only [readE, readB, hE, e8, h4, if_true] at hr hEl
    cases hb : c8.bad with
    | true =>
      simp only [hb, Bool.not_true, Bool.false_and, Bool.false_eq_true, if_false] at hr
      simp only [i0, f1, j1.1, f2, j2.1, f3, j3.1, f4, j4.1, f5, j5.1, f6, j6.1, f7, j7.1, f8, j8.1, gw, y4, hEl, h4n, hb, go_sem]
      repeat' ((first | ((first | apply qa | apply qb | apply qc | apply qd | apply qe | apply qf | apply qg | apply qh | apply qi | apply qj | apply qk) <;> intro hp) | ((first | refine ql rfl rfl (by decide +kernel) ?_ | refine qm _ rfl rfl (by decide +kernel) ?_ | refine goes_opn rfl ?_ | refine goes_opnD rfl rfl (by decide +kernel) ?_) <;> have hp := True.intro)) <;> simp only [hp, i0, f1, j1.1, f2, j2.1, f3, j3.1, f4, j4.1, f5, j5.1, f6, j6.1, f7, j7.1, f8, j8.1, gw, y4, hEl, h4n, hb, go_sem])
      all_goals (simp only [fin_mk, finV, resL, resV1, resIn, endA, listIn, Option.some_or, Option.none_or, oneOrTup, go_sem]; rw [← hr]; first | rfl | simp [editZero])
    | false =>
      cases ho : editOk ⟨v1, v2, v3, [], v5, v6, v7 - 1, v8⟩ with
      | false =>
        simp only [hb, ho, Bool.not_false, Bool.true_and, Bool.false_and, Bool.false_eq_true, if_false] at hr
        simp only [i0, f1, j1.1, f2, j2.1, f3, j3.1, f4, j4.1, f5, j5.1, f6, j6.1, f7, j7.1, f8, j8.1, gw, y4, hEl, h4n, hb, ho, go_sem]
        repeat' ((first | ((first | apply qa | apply qb | apply qc | apply qd | apply qe | apply qf | apply qg | apply qh | apply qi | apply qj | apply qk) <;> intro hp) | ((first | refine ql rfl rfl (by decide +kernel) ?_ | refine qm _ rfl rfl (by decide +kernel) ?_ | refine goes_opn rfl ?_ | refine goes_opnD rfl rfl (by decide +kernel) ?_) <;> have hp := True.intro)) <;> simp only [hp, i0, f1, j1.1, f2, j2.1, f3, j3.1, f4, j4.1, f5, j5.1, f6, j6.1, f7, j7.1, f8, j8.1, gw, y4, hEl, h4n, hb, ho, go_sem])
        all_goals (simp only [fin_mk, finV, resL, resV1, resIn, endA, listIn, Option.some_or, Option.none_or, oneOrTup, go_sem]; rw [← hr]; first | rfl | simp [editZero])
      | true =>
        cases ht : (editText ⟨v1, v2, v3, [], v5, v6, v7 - 1, v8⟩ == t) with
        | false =>
          have htn : (editText ⟨v1, v2, v3, [], v5, v6, v7 - 1, v8⟩ != t) = true := by rw [bne, ht]; rfl
          simp only [hb, ho, ht, Bool.not_false, Bool.true_and, Bool.false_eq_true, if_false] at hr
          simp only [i0, f1, j1.1, f2, j2.1, f3, j3.1, f4, j4.1, f5, j5.1, f6, j6.1, f7, j7.1, f8, j8.1, gw, y4, hEl, h4n, hb, ho, htn, go_sem]
          repeat' ((first | ((first | apply qa | apply qb | apply qc | apply qd | apply qe | apply qf | apply qg | apply qh | apply qi | apply qj | apply qk) <;> intro hp) | ((first | refine ql rfl rfl (by decide +kernel) ?_ | refine qm _ rfl rfl (by decide +kernel) ?_ | refine goes_opn rfl ?_ | refine goes_opnD rfl rfl (by decide +kernel) ?_) <;> have hp := True.intro)) <;> simp only [hp, i0, f1, j1.1, f2, j2.1, f3, j3.1, f4, j4.1, f5, j5.1, f6, j6.1, f7, j7.1, f8, j8.1, gw, y4, hEl, h4n, hb, ho, htn, go_sem])
          all_goals (simp only [fin_mk, finV, resL, resV1, resIn, endA, listIn, Option.some_or, Option.none_or, oneOrTup, go_sem]; rw [← hr]; first | rfl | simp [editZero])
        | true =>
          have htn : (editText ⟨v1, v2, v3, [], v5, v6, v7 - 1, v8⟩ != t) = false := by rw [bne, ht]; rfl
          simp only [hb, ho, ht, Bool.not_false, Bool.true_and, if_true] at hr
          simp only [i0, f1, j1.1, f2, j2.1, f3, j3.1, f4, j4.1, f5, j5.1, f6, j6.1, f7, j7.1, f8, j8.1, gw, y4, hEl, h4n, hb, ho, htn, go_sem]
          repeat' ((first | ((first | apply qa | apply qb | apply qc | apply qd | apply qe | apply qf | apply qg | apply qh | apply qi | apply qj | apply qk) <;> intro hp) | ((first | refine ql rfl rfl (by decide +kernel) ?_ | refine qm _ rfl rfl (by decide +kernel) ?_ | refine goes_opn rfl ?_ | refine goes_opnD rfl rfl (by decide +kernel) ?_) <;> have hp := True.intro)) <;> simp only [hp, i0, f1, j1.1, f2, j2.1, f3, j3.1, f4, j4.1, f5, j5.1, f6, j6.1, f7, j7.1, f8, j8.1, gw, y4, hEl, h4n, hb, ho, htn, go_sem])
          all_goals (simp only [fin_mk, finV, resL, resV1, resIn, endA, listIn, Option.some_or, Option.none_or, oneOrTup, go_sem]; rw [← hr]; first | rfl | simp)
  | false =>
    have h4n : (v4 != []) = true := by rw [bne, h4]; rfl
    have hone := readB_one t (by rw [e4]; exact h4)
    have hr' : V.tup [(if readB t = true then readEd t 1 else editZero).enc, .bool (readB t)] = r := by
      rw [← hr, readE]
      cases hq : readB t with
      | true => rw [if_pos rfl, if_pos rfl, hone.2 hq]
      | false => rfl
    clear hr
    have hr := hr'
    clear hr'
    rw [← hone.1] at hr
    clear hone
    have hEl := hle 1
    simp only [hE, e4, e8, h4, Bool.false_eq_true, if_false] at hr hEl
    cases hk : readOk v4 1 with
    | false =>
      simp only [hk, Bool.false_and, Bool.false_eq_true, if_false] at hr
      simp only [i0, f1, j1.1, f2, j2.1, f3, j3.1, f4, j4.1, f5, j5.1, f6, j6.1, f7, j7.1, f8, j8.1, gw, y4, h4n, hk, go_sem]
      repeat' ((first | ((first | apply qa | apply qb | apply qc | apply qd | apply qe | apply qf | apply qg | apply qh | apply qi | apply qj | apply qk) <;> intro hp) | ((first | refine ql rfl rfl (by decide +kernel) ?_ | refine qm _ rfl rfl (by decide +kernel) ?_ | refine goes_opn rfl ?_ | refine goes_opnD rfl rfl (by decide +kernel) ?_) <;> have hp := True.intro)) <;> simp only [hp, i0, f1, j1.1, f2, j2.1, f3, j3.1, f4, j4.1, f5, j5.1, f6, j6.1, f7, j7.1, f8, j8.1, gw, y4, h4n, hk, go_sem])
      all_goals (simp only [fin_mk, finV, resL, resV1, resIn, endA, listIn, Option.some_or, Option.none_or, oneOrTup, go_sem]; rw [← hr]; first | rfl | simp [editZero])
    | true =>
      simp only [hk, Bool.true_and] at hr
      cases hb : c8.bad with
      | true =>
        simp only [hb, Bool.not_true, Bool.false_and, Bool.false_eq_true, if_false] at hr
        simp only [i0, f1, j1.1, f2, j2.1, f3, j3.1, f4, j4.1, f5, j5.1, f6, j6.1, f7, j7.1, f8, j8.1, gw, y4, hEl, h4n, hk, hb, go_sem]
        repeat' ((first | ((first | apply qa | apply qb | apply qc | apply qd | apply qe | apply qf | apply qg | apply qh | apply qi | apply qj | apply qk) <;> intro hp) | ((first | refine ql rfl rfl (by decide +kernel) ?_ | refine qm _ rfl rfl (by decide +kernel) ?_ | refine goes_opn rfl ?_ | refine goes_opnD rfl rfl (by decide +kernel) ?_) <;> have hp := True.intro)) <;> simp only [hp, i0, f1, j1.1, f2, j2.1, f3, j3.1, f4, j4.1, f5, j5.1, f6, j6.1, f7, j7.1, f8, j8.1, gw, y4, hEl, h4n, hk, hb, go_sem])
        all_goals (simp only [fin_mk, finV, resL, resV1, resIn, endA, listIn, Option.some_or, Option.none_or, oneOrTup, go_sem]; rw [← hr]; first | rfl | simp [editZero])
      | false =>
        cases ho : editOk ⟨v1, v2, v3, readSet v4 1, v5, v6, v7 - 1, v8⟩ with
        | false =>
          simp only [hb, ho, Bool.not_false, Bool.true_and, Bool.false_and, Bool.false_eq_true, if_false] at hr
          simp only [i0, f1, j1.1, f2, j2.1, f3, j3.1, f4, j4.1, f5, j5.1, f6, j6.1, f7, j7.1, f8, j8.1, gw, y4, hEl, h4n, hk, hb, ho, go_sem]
          repeat' ((first | ((first | apply qa | apply qb | apply qc | apply qd | apply qe | apply qf | apply qg | apply qh | apply qi | apply qj | apply qk) <;> intro hp) | ((first | refine ql rfl rfl (by decide +kernel) ?_ | refine qm _ rfl rfl (by decide +kernel) ?_ | refine goes_opn rfl ?_ | refine goes_opnD rfl rfl (by decide +kernel) ?_) <;> have hp := True.intro)) <;> simp only [hp, i0, f1, j1.1, f2, j2.1, f3, j3.1, f4, j4.1, f5, j5.1, f6, j6.1, f7, j7.1, f8, j8.1, gw, y4, hEl, h4n, hk, hb, ho, go_sem])
          all_goals (simp only [fin_mk, finV, resL, resV1, resIn, endA, listIn, Option.some_or, Option.none_or, oneOrTup, go_sem]; rw [← hr]; first | rfl | simp [editZero])
        | true =>
          cases ht : (editText ⟨v1, v2, v3, readSet v4 1, v5, v6, v7 - 1, v8⟩ == t) with
          | false =>
            have htn : (editText ⟨v1, v2, v3, readSet v4 1, v5, v6, v7 - 1, v8⟩ != t) = true := by rw [bne, ht]; rfl
            simp only [hb, ho, ht, Bool.not_false, Bool.true_and, Bool.false_eq_true, if_false] at hr
            simp only [i0, f1, j1.1, f2, j2.1, f3, j3.1, f4, j4.1, f5, j5.1, f6, j6.1, f7, j7.1, f8, j8.1, gw, y4, hEl, h4n, hk, hb, ho, htn, go_sem]
            repeat' ((first | ((first | apply qa | apply qb | apply qc | apply qd | apply qe | apply qf | apply qg | apply qh | apply qi | apply qj | apply qk) <;> intro hp) | ((first | refine ql rfl rfl (by decide +kernel) ?_ | refine qm _ rfl rfl (by decide +kernel) ?_ | refine goes_opn rfl ?_ | refine goes_opnD rfl rfl (by decide +kernel) ?_) <;> have hp := True.intro)) <;> simp only [hp, i0, f1, j1.1, f2, j2.1, f3, j3.1, f4, j4.1, f5, j5.1, f6, j6.1, f7, j7.1, f8, j8.1, gw, y4, hEl, h4n, hk, hb, ho, htn, go_sem])
            all_goals (simp only [fin_mk, finV, resL, resV1, resIn, endA, listIn, Option.some_or, Option.none_or, oneOrTup, go_sem]; rw [← hr]; first | rfl | simp [editZero])
          | true =>
            have htn : (editText ⟨v1, v2, v3, readSet v4 1, v5, v6, v7 - 1, v8⟩ != t) = false := by rw [bne, ht]; rfl
            simp only [hb, ho, ht, Bool.not_false, Bool.true_and, if_true] at hr
            simp only [i0, f1, j1.1, f2, j2.1, f3, j3.1, f4, j4.1, f5, j5.1, f6, j6.1, f7, j7.1, f8, j8.1, gw, y4, hEl, h4n, hk, hb, ho, htn, go_sem]
            repeat' ((first | ((first | apply qa | apply qb | apply qc | apply qd | apply qe | apply qf | apply qg | apply qh | apply qi | apply qj | apply qk) <;> intro hp) | ((first | refine ql rfl rfl (by decide +kernel) ?_ | refine qm _ rfl rfl (by decide +kernel) ?_ | refine goes_opn rfl ?_ | refine goes_opnD rfl rfl (by decide +kernel) ?_) <;> have hp := True.intro)) <;> simp only [hp, i0, f1, j1.1, f2, j2.1, f3, j3.1, f4, j4.1, f5, j5.1, f6, j6.1, f7, j7.1, f8, j8.1, gw, y4, hEl, h4n, hk, hb, ho, htn, go_sem])
            all_goals (simp only [fin_mk, finV, resL, resV1, resIn, endA, listIn, Option.some_or, Option.none_or, oneOrTup, go_sem]; rw [← hr]; first | rfl | simp)
end Go.Proofs.YtimiccneikhkgaaGreatDoor.L
