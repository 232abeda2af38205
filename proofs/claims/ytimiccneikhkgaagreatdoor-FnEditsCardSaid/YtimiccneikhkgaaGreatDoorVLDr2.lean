/- Drawn mails. -/
import Derived.Test.YtimiccneikhkgaaGreatDoorVLDr1
namespace Go.Proofs.YtimiccneikhkgaaGreatDoor.L
open Go Go.VM
set_option maxRecDepth 100000
set_option maxHeartbeats 4000000
set_option linter.unusedSimpArgs false
set_option linter.unusedVariables false
/-! ### a drawn mail -/
def mA (c : Cur) := pickO c [[32, 104, 101, 108, 108, 111], [32, 82, 101, 58, 32, 104, 101, 108, 108, 111], [32, 111, 116, 104, 101, 114], [32, 102, 119, 100, 58, 32, 82, 69, 58, 32, 32, 72, 101, 108, 108, 111, 32], [], [32, 110, 101, 119, 115]]
def mB (c : Cur) := belO (mA c).2 2
def mC (c : Cur) := pickO (mB c).2 [[97, 110, 110], [98, 111, 98]]
def mS (c : Cur) : List UInt8 := if ((mB c).1 == 0) = true then [83, 117, 98, 106, 101, 99, 116, 58] ++ (mA c).1 ++ [10] ++ [70, 114, 111, 109, 58, 32] ++ (mC c).1 ++ [10] else [83, 117, 98, 106, 101, 99, 116, 58] ++ (mA c).1 ++ [10]
def mD (c : Cur) : Cur := if ((mB c).1 == 0) = true then (mC c).2 else (mB c).2
def mE (c : Cur) := belO (mD c) 6
def mF (c : Cur) := pickO (mE c).2 [[116, 101, 120, 116], [98, 111, 100, 121, 32, 111, 102, 32, 105, 116, 10], [], [97, 10, 10, 98]]
def mailO (c : Cur) : List UInt8 × Cur := if ((mE c).1 == 0) = true then (mS c, (mE c).2) else (mS c ++ [10] ++ (mF c).1, (mF c).2)
theorem subs_len : ∀ x ∈ ([[32, 104, 101, 108, 108, 111], [32, 82, 101, 58, 32, 104, 101, 108, 108, 111], [32, 111, 116, 104, 101, 114], [32, 102, 119, 100, 58, 32, 82, 69, 58, 32, 32, 72, 101, 108, 108, 111, 32], [], [32, 110, 101, 119, 115]] : List (List UInt8)), x.length ≤ 17 := by decide
theorem froms_len : ∀ x ∈ ([[97, 110, 110], [98, 111, 98]] : List (List UInt8)), x.length ≤ 17 := by decide
theorem bods_len : ∀ x ∈ ([[116, 101, 120, 116], [98, 111, 100, 121, 32, 111, 102, 32, 105, 116, 10], [], [97, 10, 10, 98]] : List (List UInt8)), x.length ≤ 17 := by decide
open Classical in
noncomputable def spMail : VM.Spec := { modes := [.ptr], run := fun | [.rptr (c')] => (Cur.dec c').bind fun c => if curI c then some (.str ((mailO c).1), [.rptr (Cur.enc ((mailO c).2))]) else none | _ => none, need := [] }
attribute [go_sem] spMail
theorem spMail_in {ins : List V} {r : V} {outs : List V} (h : spMail.run ins = some (r, outs)) : ∃ (c : Cur), ins = [.rptr (Cur.enc c)] ∧ (curI c) ∧ .str ((mailO c).1) = r ∧ outs = [.rptr (Cur.enc ((mailO c).2))] := by
  unfold spMail at h
  simp only at h
  split at h
  · rename_i c'
    simp only [Option.bind_eq_some_iff] at h
    obtain ⟨c, h_c, h⟩ := h
    split at h
    case isFalse => cases h
    rename_i hc
    simp only [Option.some.injEq, Prod.mk.injEq] at h
    obtain ⟨h1, h2⟩ := h
    have h_c := Cur.dec_some h_c
    subst h_c
    exact ⟨c, rfl, hc, h1, h2.symm⟩
  · cases h
def T_spec_l07Mail : Hints := ⟨fun _ => none, fun _ => none, fun i => if i = 0 then some [0] else if i = 1 then some [0, 3] else if i = 2 then some [0, 3, 10] else if i = 3 then some [0, 3] else if i = 4 then some [0, 3, 19] else if i = 5 then some [2] else if i = 6 then some [2] else none, fun _ => none⟩
noncomputable def Phi_spec_l07Mail : Tab := fun f => if f = 119 then some spPick else if f = 125 then some spOnce else none
attribute [go_sem] T_spec_l07Mail Phi_spec_l07Mail
theorem phi_spec_l07Mail : ∀ f sp, Phi_spec_l07Mail f = some sp → FnOk Tryz.prog f sp ∧ ∀ n ∈ sp.need, n ∈ ([] : List String) := by
  intro f sp h
  unfold Phi_spec_l07Mail at h
  by_cases e : f = 119
  · rw [if_pos e] at h; cases h; rw [e]; exact ⟨ok_spec_l01Pick, (fun n (h : n ∈ ([] : List String)) => (nomatch h))⟩
  rw [if_neg e] at h
  by_cases e : f = 125
  · rw [if_pos e] at h; cases h; rw [e]; exact ⟨ok_spec_l01Once, (fun n (h : n ∈ ([] : List String)) => (nomatch h))⟩
  rw [if_neg e] at h
  cases h
theorem ok_spec_l07Mail : FnOk Tryz.prog 121 spMail := by
  refine fn_ok (Φ := Phi_spec_l07Mail) (T := T_spec_l07Mail) phi_spec_l07Mail mixed Tryz.func121 rfl rfl rfl (by decide) ?_
  intro ins r outs hr hl
  clear hl
  have hs := spMail_in hr
  clear hr
  obtain ⟨c, rfl, hc, hr, rfl⟩ := hs
  simp only [spMail, Tryz.f121, Go.VM.initS]
  have ja := pickO_in (l := [[32, 104, 101, 108, 108, 111], [32, 82, 101, 58, 32, 104, 101, 108, 108, 111], [32, 111, 116, 104, 101, 114], [32, 102, 119, 100, 58, 32, 82, 69, 58, 32, 32, 72, 101, 108, 108, 111, 32], [], [32, 110, 101, 119, 115]]) hc (by decide)
  have la := subs_len _ ja.2
  obtain ⟨⟨va, ca⟩, ea⟩ : ∃ x, pickO c [[32, 104, 101, 108, 108, 111], [32, 82, 101, 58, 32, 104, 101, 108, 108, 111], [32, 111, 116, 104, 101, 114], [32, 102, 119, 100, 58, 32, 82, 69, 58, 32, 32, 72, 101, 108, 108, 111, 32], [], [32, 110, 101, 119, 115]] = x := ⟨_, rfl⟩
  rw [ea] at ja la
  have fa : mA c = (va, ca) := ea
  have jb := belO_in (n := 2) ja.1
  obtain ⟨⟨vb, cb⟩, eb⟩ : ∃ x, belO ca 2 = x := ⟨_, rfl⟩
  rw [eb] at jb
  have fb : mB c = (vb, cb) := by rw [mB, fa]; exact eb
  have jc := pickO_in (l := [[97, 110, 110], [98, 111, 98]]) jb.1 (by decide)
  have lc := froms_len _ jc.2
  obtain ⟨⟨vc, cc⟩, ec⟩ : ∃ x, pickO cb [[97, 110, 110], [98, 111, 98]] = x := ⟨_, rfl⟩
  rw [ec] at jc lc
  have fc : mC c = (vc, cc) := by rw [mC, fb]; exact ec
  simp only at ja jb jc la lc
  cases hb : (vb == 0) with
  | true =>
    have fS : mS c = [83, 117, 98, 106, 101, 99, 116, 58] ++ va ++ [10] ++ [70, 114, 111, 109, 58, 32] ++ vc ++ [10] := by simp only [mS, fa, fb, fc, hb, Bool.false_eq_true, if_true, if_false]
    have fD : mD c = cc := by simp only [mD, fb, fc, hb, Bool.false_eq_true, if_true, if_false]
    have je := belO_in (n := 6) jc.1
    obtain ⟨⟨ve, ce⟩, ee⟩ : ∃ x, belO cc 6 = x := ⟨_, rfl⟩
    rw [ee] at je
    have fe : mE c = (ve, ce) := by rw [mE, fD]; exact ee
    have jf := pickO_in (l := [[116, 101, 120, 116], [98, 111, 100, 121, 32, 111, 102, 32, 105, 116, 10], [], [97, 10, 10, 98]]) je.1 (by decide)
    have lf := bods_len _ jf.2
    obtain ⟨⟨vf, cf⟩, ef⟩ : ∃ x, pickO ce [[116, 101, 120, 116], [98, 111, 100, 121, 32, 111, 102, 32, 105, 116, 10], [], [97, 10, 10, 98]] = x := ⟨_, rfl⟩
    rw [ef] at jf lf
    have ff : mF c = (vf, cf) := by rw [mF, fe]; exact ef
    simp only at je jf lf
    cases he : (ve == 0) with
    | true =>
      have e : mailO c = ([83, 117, 98, 106, 101, 99, 116, 58] ++ va ++ [10] ++ [70, 114, 111, 109, 58, 32] ++ vc ++ [10], ce) := by simp only [mailO, fe, fS, he, if_true]
      rw [e] at hr
      simp only [hc, ea, ja.1, eb, jb.1, ec, jc.1, ee, je.1, hb, he, List.length_append, List.append_assoc, go_sem]
      repeat' ((first | ((first | apply qa | apply qb | apply qc | apply qd | apply qe | apply qf | apply qg | apply qh | apply qi | apply qj | apply qk) <;> intro hp) | ((first | refine ql rfl rfl (by decide +kernel) ?_ | refine qm _ rfl rfl (by decide +kernel) ?_ | refine goes_opn rfl ?_ | refine goes_opnD rfl rfl (by decide +kernel) ?_) <;> have hp := True.intro)) <;> simp only [hp, hc, ea, ja.1, eb, jb.1, ec, jc.1, ee, je.1, hb, he, List.length_append, List.append_assoc, go_sem])
      all_goals first | (clear hr; omega) | skip
      all_goals (simp only [fin_mk, finV, resL, resV1, resIn, endA, listIn, Option.some_or, Option.none_or, oneOrTup, go_sem]; rw [← hr]; simp only [e, List.append_assoc, List.cons_append, List.nil_append])
    | false =>
      have e : mailO c = ([83, 117, 98, 106, 101, 99, 116, 58] ++ va ++ [10] ++ [70, 114, 111, 109, 58, 32] ++ vc ++ [10] ++ [10] ++ vf, cf) := by simp only [mailO, fe, ff, fS, he, Bool.false_eq_true, if_false]
      rw [e] at hr
      simp only [hc, ea, ja.1, eb, jb.1, ec, jc.1, ee, je.1, ef, jf.1, hb, he, List.length_append, List.append_assoc, go_sem]
      repeat' ((first | ((first | apply qa | apply qb | apply qc | apply qd | apply qe | apply qf | apply qg | apply qh | apply qi | apply qj | apply qk) <;> intro hp) | ((first | refine ql rfl rfl (by decide +kernel) ?_ | refine qm _ rfl rfl (by decide +kernel) ?_ | refine goes_opn rfl ?_ | refine goes_opnD rfl rfl (by decide +kernel) ?_) <;> have hp := True.intro)) <;> simp only [hp, hc, ea, ja.1, eb, jb.1, ec, jc.1, ee, je.1, ef, jf.1, hb, he, List.length_append, List.append_assoc, go_sem])
      all_goals first | (clear hr; omega) | skip
      all_goals (simp only [fin_mk, finV, resL, resV1, resIn, endA, listIn, Option.some_or, Option.none_or, oneOrTup, go_sem]; rw [← hr]; simp only [e, List.append_assoc, List.cons_append, List.nil_append])
  | false =>
    have fS : mS c = [83, 117, 98, 106, 101, 99, 116, 58] ++ va ++ [10] := by simp only [mS, fa, fb, fc, hb, Bool.false_eq_true, if_true, if_false]
    have fD : mD c = cb := by simp only [mD, fb, fc, hb, Bool.false_eq_true, if_true, if_false]
    have je := belO_in (n := 6) jb.1
    obtain ⟨⟨ve, ce⟩, ee⟩ : ∃ x, belO cb 6 = x := ⟨_, rfl⟩
    rw [ee] at je
    have fe : mE c = (ve, ce) := by rw [mE, fD]; exact ee
    have jf := pickO_in (l := [[116, 101, 120, 116], [98, 111, 100, 121, 32, 111, 102, 32, 105, 116, 10], [], [97, 10, 10, 98]]) je.1 (by decide)
    have lf := bods_len _ jf.2
    obtain ⟨⟨vf, cf⟩, ef⟩ : ∃ x, pickO ce [[116, 101, 120, 116], [98, 111, 100, 121, 32, 111, 102, 32, 105, 116, 10], [], [97, 10, 10, 98]] = x := ⟨_, rfl⟩
    rw [ef] at jf lf
    have ff : mF c = (vf, cf) := by rw [mF, fe]; exact ef
    simp only at je jf lf
    cases he : (ve == 0) with
    | true =>
      have e : mailO c = ([83, 117, 98, 106, 101, 99, 116, 58] ++ va ++ [10], ce) := by simp only [mailO, fe, fS, he, if_true]
      rw [e] at hr
      simp only [hc, ea, ja.1, eb, jb.1, ec, jc.1, ee, je.1, hb, he, List.length_append, List.append_assoc, go_sem]
      repeat' ((first | ((first | apply qa | apply qb | apply qc | apply qd | apply qe | apply qf | apply qg | apply qh | apply qi | apply qj | apply qk) <;> intro hp) | ((first | refine ql rfl rfl (by decide +kernel) ?_ | refine qm _ rfl rfl (by decide +kernel) ?_ | refine goes_opn rfl ?_ | refine goes_opnD rfl rfl (by decide +kernel) ?_) <;> have hp := True.intro)) <;> simp only [hp, hc, ea, ja.1, eb, jb.1, ec, jc.1, ee, je.1, hb, he, List.length_append, List.append_assoc, go_sem])
      all_goals first | (clear hr; omega) | skip
      all_goals (simp only [fin_mk, finV, resL, resV1, resIn, endA, listIn, Option.some_or, Option.none_or, oneOrTup, go_sem]; rw [← hr]; simp only [e, List.append_assoc, List.cons_append, List.nil_append])
    | false =>
      have e : mailO c = ([83, 117, 98, 106, 101, 99, 116, 58] ++ va ++ [10] ++ [10] ++ vf, cf) := by simp only [mailO, fe, ff, fS, he, Bool.false_eq_true, if_false]
      rw [e] at hr
      simp only [hc, ea, ja.1, eb, jb.1, ec, jc.1, ee, je.1, ef, jf.1, hb, he, List.length_append, List.append_assoc, go_sem]
      repeat' ((first | ((first | apply qa | apply qb | apply qc | apply qd | apply qe | apply qf | apply qg | apply qh | apply qi | apply qj | apply qk) <;> intro hp) | ((first | refine ql rfl rfl (by decide +kernel) ?_ | refine qm _ rfl rfl (by decide +kernel) ?_ | refine goes_opn rfl ?_ | refine goes_opnD rfl rfl (by decide +kernel) ?_) <;> have hp := True.intro)) <;> simp only [hp, hc, ea, ja.1, eb, jb.1, ec, jc.1, ee, je.1, ef, jf.1, hb, he, List.length_append, List.append_assoc, go_sem])
      all_goals first | (clear hr; omega) | skip
      all_goals (simp only [fin_mk, finV, resL, resV1, resIn, endA, listIn, Option.some_or, Option.none_or, oneOrTup, go_sem]; rw [← hr]; simp only [e, List.append_assoc, List.cons_append, List.nil_append])
theorem mailO_len {c : Cur} (h : curI c) : (mailO c).1.length ≤ 200 ∧ curI (mailO c).2 := by
  have ja := pickO_in (c := c) (l := [[32, 104, 101, 108, 108, 111], [32, 82, 101, 58, 32, 104, 101, 108, 108, 111], [32, 111, 116, 104, 101, 114], [32, 102, 119, 100, 58, 32, 82, 69, 58, 32, 32, 72, 101, 108, 108, 111, 32], [], [32, 110, 101, 119, 115]]) h (by decide)
  have la := subs_len _ ja.2
  have jb := belO_in (c := (mA c).2) (n := 2) ja.1
  have jc := pickO_in (c := (mB c).2) (l := [[97, 110, 110], [98, 111, 98]]) jb.1 (by decide)
  have lc := froms_len _ jc.2
  have jd : curI (mD c) := by unfold mD; split; exact jc.1; exact jb.1
  have je := belO_in (n := 6) jd
  have jf := pickO_in (c := (mE c).2) (l := [[116, 101, 120, 116], [98, 111, 100, 121, 32, 111, 102, 32, 105, 116, 10], [], [97, 10, 10, 98]]) je.1 (by decide)
  have lf := bods_len _ jf.2
  have la' : (mA c).1.length ≤ 17 := la
  have lc' : (mC c).1.length ≤ 17 := lc
  have lf' : (mF c).1.length ≤ 17 := lf
  have ls : (mS c).length ≤ 80 := by unfold mS; split <;> simp only [List.length_append, List.length_cons, List.length_nil] <;> omega
  unfold mailO
  split
  · exact ⟨by simp only; omega, je.1⟩
  · exact ⟨by simp only [List.length_append, List.length_cons, List.length_nil]; omega, jf.1⟩
end Go.Proofs.YtimiccneikhkgaaGreatDoor.L
