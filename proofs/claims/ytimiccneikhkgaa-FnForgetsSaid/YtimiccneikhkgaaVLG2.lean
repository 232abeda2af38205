/- Boxes: tombs that are forgotten. -/
import Derived.Test.YtimiccneikhkgaaVLG
namespace Go.Proofs.Ytimiccneikhkgaa.L
open Go Go.VM
set_option maxRecDepth 100000
set_option maxHeartbeats 4000000
set_option linter.unusedSimpArgs false
set_option linter.unusedVariables false
def forgetGood (b : Box) (upto : Int) : Bool := boxOk b && within upto 0 b.Mod
def forgetOut (b : Box) (upto : Int) : Box := ⟨b.Name, b.Valid, b.Next, b.Mod, b.Mails, b.Tombs.filter (fun x => !decide (x.Mod ≤ upto)), if b.Horizon < upto then upto else b.Horizon⟩
def forgetTombs (b : Box) (upto : Int) : Box := if forgetGood b upto = true then forgetOut b upto else b
theorem forgetTombs_le {b : Box} {upto : Int} {n : Nat} (h : b.le n) : (forgetTombs b upto).le n := by
  unfold forgetTombs
  split
  · refine ⟨h.1, h.2.1, ⟨Nat.le_trans (List.length_filter_le _ _) h.2.2.1, fun t ht => ?_⟩⟩
    exact h.2.2.2 t ((List.mem_filter.1 ht).1)
  · exact h
open Classical in
noncomputable def spForgetTombs : VM.Spec := { modes := [.rd, .rd], run := fun | [b', .int .i64 upto] => (Box.dec b').bind fun b => if b.le 4194304 then some (Box.enc (forgetTombs b upto), []) else none | _ => none, need := [] }
attribute [go_sem] spForgetTombs
theorem spForgetTombs_in {ins : List V} {r : V} {outs : List V} (h : spForgetTombs.run ins = some (r, outs)) : ∃ (b : Box) (upto : Int), ins = [Box.enc b, .int .i64 upto] ∧ (b.le 4194304) ∧ Box.enc (forgetTombs b upto) = r ∧ outs = [] := by
  unfold spForgetTombs at h
  simp only at h
  split at h
  · rename_i b' upto
    simp only [Option.bind_eq_some_iff] at h
    obtain ⟨b, h_b, h⟩ := h
    split at h
    case isFalse => cases h
    rename_i hc
    simp only [Option.some.injEq, Prod.mk.injEq] at h
    obtain ⟨h1, h2⟩ := h
    have h_b := Box.dec_some h_b
    subst h_b
    exact ⟨b, upto, rfl, hc, h1, h2.symm⟩
  · cases h
def T_impl_ForgetTombs : Hints := ⟨fun _ => none, fun _ => none, fun i => if i = 0 then some [2, 3, 4] else if i = 1 then some [2, 3, 4, 5] else if i = 2 then some [2, 3, 4, 5, 17] else if i = 3 then some [4] else if i = 4 then some [2, 3, 4, 5] else if i = 5 then some [4, 5] else if i = 6 then some [4] else none, fun _ => none⟩
noncomputable def Phi_impl_ForgetTombs : Tab := fun f => if f = 17 then some spCopyBox else if f = 10 then some spBoxOk else if f = 18 then some spWithin else if f = 19 then some spDelForgotten else if f = 20 then some spForgotten else none
attribute [go_sem] T_impl_ForgetTombs Phi_impl_ForgetTombs
theorem phi_impl_ForgetTombs : ∀ f sp, Phi_impl_ForgetTombs f = some sp → FnOk Try.prog f sp ∧ ∀ n ∈ sp.need, n ∈ ([] : List String) := by
  intro f sp h
  unfold Phi_impl_ForgetTombs at h
  by_cases e : f = 17
  · rw [if_pos e] at h; cases h; rw [e]; exact ⟨ok_impl_copyBox, (fun n (h : n ∈ ([] : List String)) => (nomatch h))⟩
  rw [if_neg e] at h
  by_cases e : f = 10
  · rw [if_pos e] at h; cases h; rw [e]; exact ⟨ok_impl_BoxOk, (fun n (h : n ∈ ([] : List String)) => (nomatch h))⟩
  rw [if_neg e] at h
  by_cases e : f = 18
  · rw [if_pos e] at h; cases h; rw [e]; exact ⟨ok_impl_within, (fun n (h : n ∈ ([] : List String)) => (nomatch h))⟩
  rw [if_neg e] at h
  by_cases e : f = 19
  · rw [if_pos e] at h; cases h; rw [e]; exact ⟨ok_slices_DeleteFunc_loop_example_g00247_impl_Tomb_loop_example_g00247_impl_Tomb_forget, (fun n (h : n ∈ ([] : List String)) => (nomatch h))⟩
  rw [if_neg e] at h
  by_cases e : f = 20
  · rw [if_pos e] at h; cases h; rw [e]; exact ⟨ok_impl_ForgetTombs_1, (fun n (h : n ∈ ([] : List String)) => (nomatch h))⟩
  rw [if_neg e] at h
  cases h
theorem ok_impl_ForgetTombs : FnOk Try.prog 7 spForgetTombs := by
  refine fn_ok (Φ := Phi_impl_ForgetTombs) (T := T_impl_ForgetTombs) phi_impl_ForgetTombs mixed Try.func7 rfl rfl rfl (by decide) ?_
  intro ins r outs hr hl
  clear hl
  have hs := spForgetTombs_in hr
  clear hr
  obtain ⟨b, upto, rfl, hc, hr, rfl⟩ := hs
  simp only [spForgetTombs, Try.f7, Go.VM.initS]
  have ht : b.Tombs.length ≤ 4194304 := hc.2.2.1
  cases hk : forgetGood b upto with
  | false =>
    cases hb : boxOk b with
    | false =>
      simp only [hc, hb, go_sem]
      repeat' ((first | ((first | apply qa | apply qb | apply qc | apply qd | apply qe | apply qf | apply qg | apply qh | apply qi | apply qj | apply qk) <;> intro hp) | ((first | refine ql rfl rfl (by decide +kernel) ?_ | refine qm _ rfl rfl (by decide +kernel) ?_ | refine goes_opn rfl ?_ | refine goes_opnD rfl rfl (by decide +kernel) ?_) <;> have hp := True.intro)) <;> simp only [hp, hc, hb, go_sem])
      simp only [fin_mk, finV, resL, resV1, resIn, endA, listIn, Option.some_or, Option.none_or, oneOrTup, go_sem]
      rw [← hr]
      rw [forgetTombs, hk]; rfl
    | true =>
      have hw : within upto 0 b.Mod = false := by simpa [forgetGood, hb] using hk
      simp only [hc, hb, hw, go_sem]
      repeat' ((first | ((first | apply qa | apply qb | apply qc | apply qd | apply qe | apply qf | apply qg | apply qh | apply qi | apply qj | apply qk) <;> intro hp) | ((first | refine ql rfl rfl (by decide +kernel) ?_ | refine qm _ rfl rfl (by decide +kernel) ?_ | refine goes_opn rfl ?_ | refine goes_opnD rfl rfl (by decide +kernel) ?_) <;> have hp := True.intro)) <;> simp only [hp, hc, hb, hw, go_sem])
      simp only [fin_mk, finV, resL, resV1, resIn, endA, listIn, Option.some_or, Option.none_or, oneOrTup, go_sem]
      rw [← hr]
      rw [forgetTombs, hk]; rfl
  | true =>
    obtain ⟨hb, hw⟩ : boxOk b = true ∧ within upto 0 b.Mod = true := by simpa [forgetGood] using hk
    rcases Int.lt_or_le b.Horizon upto with q | q
    · simp only [hc, hb, hw, ht, q, go_sem]
      repeat' ((first | ((first | apply qa | apply qb | apply qc | apply qd | apply qe | apply qf | apply qg | apply qh | apply qi | apply qj | apply qk) <;> intro hp) | ((first | refine ql rfl rfl (by decide +kernel) ?_ | refine qm _ rfl rfl (by decide +kernel) ?_ | refine goes_opn rfl ?_ | refine goes_opnD rfl rfl (by decide +kernel) ?_) <;> have hp := True.intro)) <;> simp only [hp, hc, hb, hw, ht, q, go_sem])
      simp only [fin_mk, finV, resL, resV1, resIn, endA, listIn, Option.some_or, Option.none_or, oneOrTup, go_sem]
      rw [← hr]
      rw [forgetTombs, hk]
      simp only [forgetOut, if_pos q, Box.enc]; rfl
    · have q' : ¬ b.Horizon < upto := by omega
      simp only [hc, hb, hw, ht, q', go_sem]
      repeat' ((first | ((first | apply qa | apply qb | apply qc | apply qd | apply qe | apply qf | apply qg | apply qh | apply qi | apply qj | apply qk) <;> intro hp) | ((first | refine ql rfl rfl (by decide +kernel) ?_ | refine qm _ rfl rfl (by decide +kernel) ?_ | refine goes_opn rfl ?_ | refine goes_opnD rfl rfl (by decide +kernel) ?_) <;> have hp := True.intro)) <;> simp only [hp, hc, hb, hw, ht, q', go_sem])
      simp only [fin_mk, finV, resL, resV1, resIn, endA, listIn, Option.some_or, Option.none_or, oneOrTup, go_sem]
      rw [← hr]
      rw [forgetTombs, hk]
      simp only [forgetOut, if_neg q', Box.enc]; rfl
def T_spec_ForgetTombs : Hints := ⟨fun i => if i = 9 then some [(0, 7), (1, 7)] else none, fun i => if i = 6 then some [1, 2, 4, 5, 6] else none, fun i => if i = 0 then some [1, 2, 4] else if i = 1 then some [1, 2, 4, 5] else if i = 2 then some [1, 2, 4, 5, 18] else if i = 3 then some [4] else if i = 4 then some [1, 2, 4, 5] else if i = 5 then some [1, 2, 4, 5, 6] else if i = 6 then some [1, 2, 4, 5, 6, 26] else if i = 8 then some [1, 2, 4, 5, 6, 36] else if i = 9 then some [1, 2, 4, 5, 6] else if i = 7 then some [1, 2, 4, 5, 6] else if i = 10 then some [1, 4, 5, 50] else if i = 11 then some [4, 5] else if i = 12 then some [4] else none, fun _ => none⟩
noncomputable def Phi_spec_ForgetTombs : Tab := fun f => if f = 53 then some spCopyBox else if f = 23 then some spBoxOk else if f = 43 then some spWithin else none
attribute [go_sem] T_spec_ForgetTombs Phi_spec_ForgetTombs
theorem phi_spec_ForgetTombs : ∀ f sp, Phi_spec_ForgetTombs f = some sp → FnOk Try.prog f sp ∧ ∀ n ∈ sp.need, n ∈ ([] : List String) := by
  intro f sp h
  unfold Phi_spec_ForgetTombs at h
  by_cases e : f = 53
  · rw [if_pos e] at h; cases h; rw [e]; exact ⟨ok_spec_l08Copy, (fun n (h : n ∈ ([] : List String)) => (nomatch h))⟩
  rw [if_neg e] at h
  by_cases e : f = 23
  · rw [if_pos e] at h; cases h; rw [e]; exact ⟨ok_spec_BoxOk, (fun n (h : n ∈ ([] : List String)) => (nomatch h))⟩
  rw [if_neg e] at h
  by_cases e : f = 43
  · rw [if_pos e] at h; cases h; rw [e]; exact ⟨ok_spec_l01In, (fun n (h : n ∈ ([] : List String)) => (nomatch h))⟩
  rw [if_neg e] at h
  cases h
theorem ok_spec_ForgetTombs : FnOk Try.prog 37 spForgetTombs := by
  refine fn_ok (Φ := Phi_spec_ForgetTombs) (T := T_spec_ForgetTombs) phi_spec_ForgetTombs mixed Try.func37 rfl rfl rfl (by decide) ?_
  intro ins r outs hr hl
  clear hl
  have hs := spForgetTombs_in hr
  clear hr
  obtain ⟨b, upto, rfl, hc, hr, rfl⟩ := hs
  simp only [spForgetTombs, Try.f37, Go.VM.initS]
  have ht : b.Tombs.length ≤ 4194304 := hc.2.2.1
  cases hk : forgetGood b upto with
  | false =>
    cases hb : boxOk b with
    | false =>
      simp only [hc, hb, go_sem]
      repeat' ((first | ((first | apply qa | apply qb | apply qc | apply qd | apply qe | apply qf | apply qg | apply qh | apply qi | apply qj | apply qk) <;> intro hp) | ((first | refine ql rfl rfl (by decide +kernel) ?_ | refine qm _ rfl rfl (by decide +kernel) ?_ | refine goes_opn rfl ?_ | refine goes_opnD rfl rfl (by decide +kernel) ?_) <;> have hp := True.intro)) <;> simp only [hp, hc, hb, go_sem])
      simp only [fin_mk, finV, resL, resV1, resIn, endA, listIn, Option.some_or, Option.none_or, oneOrTup, go_sem]
      rw [← hr]
      rw [forgetTombs, hk]; rfl
    | true =>
      have hw : within upto 0 b.Mod = false := by simpa [forgetGood, hb] using hk
      simp only [hc, hb, hw, go_sem]
      repeat' ((first | ((first | apply qa | apply qb | apply qc | apply qd | apply qe | apply qf | apply qg | apply qh | apply qi | apply qj | apply qk) <;> intro hp) | ((first | refine ql rfl rfl (by decide +kernel) ?_ | refine qm _ rfl rfl (by decide +kernel) ?_ | refine goes_opn rfl ?_ | refine goes_opnD rfl rfl (by decide +kernel) ?_) <;> have hp := True.intro)) <;> simp only [hp, hc, hb, hw, go_sem])
      simp only [fin_mk, finV, resL, resV1, resIn, endA, listIn, Option.some_or, Option.none_or, oneOrTup, go_sem]
      rw [← hr]
      rw [forgetTombs, hk]; rfl
  | true =>
    obtain ⟨hb, hw⟩ : boxOk b = true ∧ within upto 0 b.Mod = true := by simpa [forgetGood] using hk
    simp only [hc, hb, hw, go_sem]
    have hfe : ∀ i, ((b.Tombs.take i).filter (fun x => !decide (x.Mod ≤ upto))).length ≤ b.Tombs.length := fun i => filter_take_len b.Tombs _ i
    refine loop_go (fun i : Nat => [(6, .int .i64 (i : Int))]) (fun i => [(4, ⟨.arr, 2, ((b.Tombs.take i).filter (fun x => !decide (x.Mod ≤ upto))).map Tomb.enc⟩)]) (fun i => b.Tombs.length - i) (fun i => i ≤ b.Tombs.length) 0 (Nat.zero_le _) rfl rfl ?_
    intro i hi ih
    rcases Nat.lt_or_ge i b.Tombs.length with h | h
    · have g1 : (i : Int) < b.Tombs.length := by omega
      have g2 : (0 : Int) ≤ i := by omega
      have g3 : b.Tombs[i]? = some b.Tombs[i] := List.getElem?_eq_getElem h
      have g5 := wrap_succ h (by omega)
      have hn := hfe i
      have g6 : (((b.Tombs.take i).filter (fun x => !decide (x.Mod ≤ upto))).length + 1) * 16 ≤ 140737488355328 := by omega
      have g7 : ((b.Tombs.take i).filter (fun x => !decide (x.Mod ≤ upto))).length + 1 ≤ 9223372036854775807 := by omega
      rcases Int.lt_or_le upto b.Tombs[i].Mod with q | q
      · have ih' := ih (i + 1) h (by omega)
        rw [filter_succ h, if_pos (by simp only [Bool.not_eq_true', decide_eq_false_iff_not]; omega), List.map_append] at ih'
        simp only [g1, g2, g3, g5, g6, g7, q, go_sem]
        repeat' ((first | ((first | apply qa | apply qb | apply qc | apply qd | apply qe | apply qf | apply qg | apply qh | apply qi | apply qj | apply qk) <;> intro hp) | ((first | refine ql rfl rfl (by decide +kernel) ?_ | refine qm _ rfl rfl (by decide +kernel) ?_ | refine goes_opn rfl ?_ | refine goes_opnD rfl rfl (by decide +kernel) ?_) <;> have hp := True.intro)) <;> simp only [hp, g1, g2, g3, g5, g6, g7, q, go_sem])
        exact ih'
      · have q' : ¬ upto < b.Tombs[i].Mod := by omega
        have ih' := ih (i + 1) h (by omega)
        rw [filter_succ h, if_neg (by simp only [Bool.not_eq_true', decide_eq_false_iff_not]; omega), List.append_nil] at ih'
        simp only [g1, g2, g3, g5, g6, g7, q', go_sem]
        repeat' ((first | ((first | apply qa | apply qb | apply qc | apply qd | apply qe | apply qf | apply qg | apply qh | apply qi | apply qj | apply qk) <;> intro hp) | ((first | refine ql rfl rfl (by decide +kernel) ?_ | refine qm _ rfl rfl (by decide +kernel) ?_ | refine goes_opn rfl ?_ | refine goes_opnD rfl rfl (by decide +kernel) ?_) <;> have hp := True.intro)) <;> simp only [hp, g1, g2, g3, g5, g6, g7, q', go_sem])
        exact ih'
    · have g1 : ¬ (i : Int) < b.Tombs.length := by omega
      rcases Int.lt_or_le b.Horizon upto with q | q
      · simp only [g1, q, go_sem]
        repeat' ((first | ((first | apply qa | apply qb | apply qc | apply qd | apply qe | apply qf | apply qg | apply qh | apply qi | apply qj | apply qk) <;> intro hp) | ((first | refine ql rfl rfl (by decide +kernel) ?_ | refine qm _ rfl rfl (by decide +kernel) ?_ | refine goes_opn rfl ?_ | refine goes_opnD rfl rfl (by decide +kernel) ?_) <;> have hp := True.intro)) <;> simp only [hp, g1, q, go_sem])
        simp only [fin_mk, finV, resL, resV1, resIn, endA, listIn, Option.some_or, Option.none_or, oneOrTup, go_sem]
        rw [← hr]
        rw [forgetTombs, hk]
        simp only [forgetOut, if_pos q, Box.enc, List.take_of_length_le h]; rfl
      · have q' : ¬ b.Horizon < upto := by omega
        simp only [g1, q', go_sem]
        repeat' ((first | ((first | apply qa | apply qb | apply qc | apply qd | apply qe | apply qf | apply qg | apply qh | apply qi | apply qj | apply qk) <;> intro hp) | ((first | refine ql rfl rfl (by decide +kernel) ?_ | refine qm _ rfl rfl (by decide +kernel) ?_ | refine goes_opn rfl ?_ | refine goes_opnD rfl rfl (by decide +kernel) ?_) <;> have hp := True.intro)) <;> simp only [hp, g1, q', go_sem])
        simp only [fin_mk, finV, resL, resV1, resIn, endA, listIn, Option.some_or, Option.none_or, oneOrTup, go_sem]
        rw [← hr]
        rw [forgetTombs, hk]
        simp only [forgetOut, if_neg q', Box.enc, List.take_of_length_le h]; rfl
end Go.Proofs.Ytimiccneikhkgaa.L
