/- Draws out of lists, drawn mails. -/
import Derived.Test.YtknagbmhmjcnkaaDoorVLDr
namespace Go.Proofs.YtknagbmhmjcnkaaDoor.L
open Go Go.VM
set_option maxRecDepth 100000
set_option maxHeartbeats 4000000
set_option linter.unusedSimpArgs false
set_option linter.unusedVariables false
def pickO (c : Cur) (l : List (List UInt8)) : List UInt8 × Cur := (l.getD (belO c l.length).1.toNat [], (belO c l.length).2)
theorem pickO_in {c : Cur} {l : List (List UInt8)} (h : curI c) (hl : 0 < l.length) : curI (pickO c l).2 ∧ (pickO c l).1 ∈ l := by
  have h1 := belO_in (n := (l.length : Int)) h
  have h2 := h1.2.2 (by omega)
  refine ⟨h1.1, ?_⟩
  have h3 : (belO c l.length).1.toNat < l.length := by omega
  rw [pickO]
  simp only [getD_lt h3]
  exact List.getElem_mem h3
open Classical in
noncomputable def spOnce : VM.Spec := { modes := [.ptr, .rd], run := fun | [.rptr (c'), .int .i64 n] => (Cur.dec c').bind fun c => if curI c then some (.bool (((belO c n).1 == 0)), [.rptr (Cur.enc ((belO c n).2))]) else none | _ => none, need := [] }
attribute [go_sem] spOnce
theorem spOnce_in {ins : List V} {r : V} {outs : List V} (h : spOnce.run ins = some (r, outs)) : ∃ (c : Cur) (n : Int), ins = [.rptr (Cur.enc c), .int .i64 n] ∧ (curI c) ∧ .bool (((belO c n).1 == 0)) = r ∧ outs = [.rptr (Cur.enc ((belO c n).2))] := by
  unfold spOnce at h
  simp only at h
  split at h
  · rename_i c' n
    simp only [Option.bind_eq_some_iff] at h
    obtain ⟨c, h_c, h⟩ := h
    split at h
    case isFalse => cases h
    rename_i hc
    simp only [Option.some.injEq, Prod.mk.injEq] at h
    obtain ⟨h1, h2⟩ := h
    have h_c := Cur.dec_some h_c
    subst h_c
    exact ⟨c, n, rfl, hc, h1, h2.symm⟩
  · cases h
def T_spec_l01Once : Hints := ⟨fun _ => none, fun _ => none, fun i => if i = 0 then some [0, 1] else if i = 1 then some [4] else none, fun _ => none⟩
noncomputable def Phi_spec_l01Once : Tab := fun f => if f = 26 then some spBelow else none
attribute [go_sem] T_spec_l01Once Phi_spec_l01Once
theorem phi_spec_l01Once : ∀ f sp, Phi_spec_l01Once f = some sp → FnOk Tryd.prog f sp ∧ ∀ n ∈ sp.need, n ∈ ([] : List String) := by
  intro f sp h
  unfold Phi_spec_l01Once at h
  by_cases e : f = 26
  · rw [if_pos e] at h; cases h; rw [e]; exact ⟨ok_spec_l01Below, (fun n (h : n ∈ ([] : List String)) => (nomatch h))⟩
  rw [if_neg e] at h
  cases h
theorem ok_spec_l01Once : FnOk Tryd.prog 51 spOnce := by
  refine fn_ok (Φ := Phi_spec_l01Once) (T := T_spec_l01Once) phi_spec_l01Once mixed Tryd.func51 rfl rfl rfl (by decide) ?_
  intro ins r outs hr hl
  clear hl
  have hs := spOnce_in hr
  clear hr
  obtain ⟨c, n, rfl, hc, hr, rfl⟩ := hs
  simp only [spOnce, Tryd.f51, Go.VM.initS]
  simp only [hc, go_sem]
  repeat' ((first | ((first | apply qa | apply qb | apply qc | apply qd | apply qe | apply qf | apply qg | apply qh | apply qi | apply qj | apply qk) <;> intro hp) | ((first | refine ql rfl rfl (by decide +kernel) ?_ | refine qm _ rfl rfl (by decide +kernel) ?_ | refine goes_opn rfl ?_ | refine goes_opnD rfl rfl (by decide +kernel) ?_) <;> have hp := True.intro)) <;> simp only [hp, hc, go_sem])
  simp only [fin_mk, finV, resL, resV1, resIn, endA, listIn, Option.some_or, Option.none_or, oneOrTup, go_sem]
  rw [← hr]
open Classical in
noncomputable def spPick : VM.Spec := { modes := [.ptr, .use], run := fun | [.rptr (c'), .lst 1 l'] => (Cur.dec c').bind fun c => (decL dStr l').bind fun l => if curI c ∧ 0 < l.length ∧ l.length ≤ 4194304 then some (.str ((pickO c l).1), [.rptr (Cur.enc ((pickO c l).2))]) else none | _ => none, need := [] }
attribute [go_sem] spPick
theorem spPick_in {ins : List V} {r : V} {outs : List V} (h : spPick.run ins = some (r, outs)) : ∃ (c : Cur) (l : (List (List UInt8))), ins = [.rptr (Cur.enc c), .lst 1 ((l).map eStr)] ∧ (curI c ∧ 0 < l.length ∧ l.length ≤ 4194304) ∧ .str ((pickO c l).1) = r ∧ outs = [.rptr (Cur.enc ((pickO c l).2))] := by
  unfold spPick at h
  simp only at h
  split at h
  · rename_i c' l'
    simp only [Option.bind_eq_some_iff] at h
    obtain ⟨c, h_c, l, h_l, h⟩ := h
    split at h
    case isFalse => cases h
    rename_i hc
    simp only [Option.some.injEq, Prod.mk.injEq] at h
    obtain ⟨h1, h2⟩ := h
    have h_c := Cur.dec_some h_c
    subst h_c
    have h_l := decL_some (fun _ _ h => dStr_some h) h_l
    subst h_l
    exact ⟨c, l, rfl, hc, h1, h2.symm⟩
  · cases h
def T_spec_l01Pick : Hints := ⟨fun _ => none, fun _ => none, fun i => if i = 0 then some [0, 1] else if i = 1 then some [4] else none, fun _ => none⟩
noncomputable def Phi_spec_l01Pick : Tab := fun f => if f = 26 then some spBelow else none
attribute [go_sem] T_spec_l01Pick Phi_spec_l01Pick
theorem phi_spec_l01Pick : ∀ f sp, Phi_spec_l01Pick f = some sp → FnOk Tryd.prog f sp ∧ ∀ n ∈ sp.need, n ∈ ([] : List String) := by
  intro f sp h
  unfold Phi_spec_l01Pick at h
  by_cases e : f = 26
  · rw [if_pos e] at h; cases h; rw [e]; exact ⟨ok_spec_l01Below, (fun n (h : n ∈ ([] : List String)) => (nomatch h))⟩
  rw [if_neg e] at h
  cases h
theorem ok_spec_l01Pick : FnOk Tryd.prog 38 spPick := by
  refine fn_ok (Φ := Phi_spec_l01Pick) (T := T_spec_l01Pick) phi_spec_l01Pick mixed Tryd.func38 rfl rfl rfl (by decide) ?_
  intro ins r outs hr hl
  clear hl
  have hs := spPick_in hr
  clear hr
  obtain ⟨c, l, rfl, hc, hr, rfl⟩ := hs
  simp only [spPick, Tryd.f38, Go.VM.initS]
  obtain ⟨hc, hl, hl2⟩ := hc
  have h1 := belO_in (n := (l.length : Int)) hc
  have h2 := h1.2.2 (by omega)
  obtain ⟨⟨v, d⟩, e⟩ : ∃ x, belO c l.length = x := ⟨_, rfl⟩
  rw [e] at h1 h2
  simp only at h1 h2
  obtain ⟨k, rfl⟩ : ∃ k : Nat, v = k := ⟨v.toNat, by omega⟩
  have g2 : k < l.length := by omega
  have e2 : pickO c l = (l[k], d) := by rw [pickO, e]; simp only [Int.toNat_natCast, getD_lt g2]
  rw [e2] at hr
  have g1 : (0 : Int) ≤ k := by omega
  have g3 : l[k]? = some l[k] := List.getElem?_eq_getElem g2
  have g4 : (k : Int) < l.length := by omega
  simp only [hc, e, g1, g3, g4, go_sem]
  repeat' ((first | ((first | apply qa | apply qb | apply qc | apply qd | apply qe | apply qf | apply qg | apply qh | apply qi | apply qj | apply qk) <;> intro hp) | ((first | refine ql rfl rfl (by decide +kernel) ?_ | refine qm _ rfl rfl (by decide +kernel) ?_ | refine goes_opn rfl ?_ | refine goes_opnD rfl rfl (by decide +kernel) ?_) <;> have hp := True.intro)) <;> simp only [hp, hc, e, g1, g3, g4, go_sem])
  simp only [fin_mk, finV, resL, resV1, resIn, endA, listIn, Option.some_or, Option.none_or, oneOrTup, go_sem]
  rw [← hr]
  first | rfl | (simp only [e2]; rfl) | simp only [e2]
/-! ### a drawn mail -/
def mA (c : Cur) := pickO c [[32, 104, 101, 108, 108, 111], [32, 82, 101, 58, 32, 104, 101, 108, 108, 111], [32, 111, 116, 104, 101, 114], [32, 102, 119, 100, 58, 32, 82, 69, 58, 32, 32, 72, 101, 108, 108, 111, 32], [], [32, 110, 101, 119, 115]]
def mB (c : Cur) := belO (mA c).2 2
def mC (c : Cur) := pickO (mB c).2 [[97, 110, 110], [98, 111, 98]]
def mS (c : Cur) : List UInt8 := if ((mB c).1 == 0) = true then [83, 117, 98, 106, 101, 99, 116, 58] ++ (mA c).1 ++ [10] ++ [70, 114, 111, 109, 58, 32] ++ (mC c).1 ++ [10] else [83, 117, 98, 106, 101, 99, 116, 58] ++ (mA c).1 ++ [10]
def mD (c : Cur) : Cur := if ((mB c).1 == 0) = true then (mC c).2 else (mB c).2
def mE (c : Cur) := belO (mD c) 6
def mF (c : Cur) := pickO (mE c).2 [[116, 101, 120, 116], [98, 111, 100, 121, 32, 111, 102, 32, 105, 116, 10], [], [97, 10, 10, 98]]
def mailO (c : Cur) : List UInt8 × Cur := if ((mE c).1 == 0) = true then (mS c, (mE c).2) else (mS c ++ [10] ++ (mF c).1, (mF c).2)
theorem subs_len : ∀ x ∈ ([[32, 104, 101, 108, 108, 111], [32, 82, 101, 58, 32, 104, 101, 108, 108, 111], [32, 111, 116, 104, 101, 114], [32, 102, 119, 100, 58, 32, 82, 69, 58, 32, 32, 72, 101, 108, 108, 111, 32], [], [32, 110, 101, 119, 115]] : List (List UInt8)), x.length ≤ 17 := by decide
theorem froms_len : ∀ x ∈ ([[97, 110, 110], [98, 111, 98]] : List (List UInt8)), x.length ≤ 17 := by decide
theorem bods_len : ∀ x ∈ ([[116, 101, 120, 116], [98, 111, 100, 121, 32, 111, 102, 32, 105, 116, 10], [], [97, 10, 10, 98]] : List (List UInt8)), x.length ≤ 17 := by decide
open Classical in
noncomputable def spMail : VM.Spec := { modes := [.ptr], run := fun | [.rptr (c')] => (Cur.dec c').bind fun c => if curI c then some (.str ((mailO c).1), [.rptr (Cur.enc ((mailO c).2))]) else none | _ => none, need := [] }
attribute [go_sem] spMail
theorem spMail_in {ins : List V} {r : V} {outs : List V} (h : spMail.run ins = some (r, outs)) : ∃ (c : Cur), ins = [.rptr (Cur.enc c)] ∧ (curI c) ∧ .str ((mailO c).1) = r ∧ outs = [.rptr (Cur.enc ((mailO c).2))] := by
  unfold spMail at h
  simp only at h
  split at h
  · rename_i c'
    simp only [Option.bind_eq_some_iff] at h
    obtain ⟨c, h_c, h⟩ := h
    split at h
    case isFalse => cases h
    rename_i hc
    simp only [Option.some.injEq, Prod.mk.injEq] at h
    obtain ⟨h1, h2⟩ := h
    have h_c := Cur.dec_some h_c
    subst h_c
    exact ⟨c, rfl, hc, h1, h2.symm⟩
  · cases h
def T_spec_l07Mail : Hints := ⟨fun _ => none, fun _ => none, fun i => if i = 0 then some [0] else if i = 1 then some [0, 3] else if i = 2 then some [0, 3, 10] else if i = 3 then some [0, 3] else if i = 4 then some [0, 3, 19] else if i = 5 then some [2] else if i = 6 then some [2] else none, fun _ => none⟩
noncomputable def Phi_spec_l07Mail : Tab := fun f => if f = 38 then some spPick else if f = 51 then some spOnce else none
attribute [go_sem] T_spec_l07Mail Phi_spec_l07Mail
theorem phi_spec_l07Mail : ∀ f sp, Phi_spec_l07Mail f = some sp → FnOk Tryd.prog f sp ∧ ∀ n ∈ sp.need, n ∈ ([] : List String) := by
  intro f sp h
  unfold Phi_spec_l07Mail at h
  by_cases e : f = 38
  · rw [if_pos e] at h; cases h; rw [e]; exact ⟨ok_spec_l01Pick, (fun n (h : n ∈ ([] : List String)) => (nomatch h))⟩
  rw [if_neg e] at h
  by_cases e : f = 51
  · rw [if_pos e] at h; cases h; rw [e]; exact ⟨ok_spec_l01Once, (fun n (h : n ∈ ([] : List String)) => (nomatch h))⟩
  rw [if_neg e] at h
  cases h
theorem ok_spec_l07Mail : FnOk Tryd.prog 30 spMail := by
  refine fn_ok (Φ := Phi_spec_l07Mail) (T := T_spec_l07Mail) phi_spec_l07Mail mixed Tryd.func30 rfl rfl rfl (by decide) ?_
  intro ins r outs hr hl
  clear hl
  have hs := spMail_in hr
  clear hr
  obtain ⟨c, rfl, hc, hr, rfl⟩ := hs
  simp only [spMail, Tryd.f30, Go.VM.initS]
  have ja := pickO_in (l := [[32, 104, 101, 108, 108, 111], [32, 82, 101, 58, 32, 104, 101, 108, 108, 111], [32, 111, 116, 104, 101, 114], [32, 102, 119, 100, 58, 32, 82, 69, 58, 32, 32, 72, 101, 108, 108, 111, 32], [], [32, 110, 101, 119, 115]]) hc (by decide)
  have la := subs_len _ ja.2
  obtain ⟨⟨va, ca⟩, ea⟩ : ∃ x, pickO c [[32, 104, 101, 108, 108, 111], [32, 82, 101, 58, 32, 104, 101, 108, 108, 111], [32, 111, 116, 104, 101, 114], [32, 102, 119, 100, 58, 32, 82, 69, 58, 32, 32, 72, 101, 108, 108, 111, 32], [], [32, 110, 101, 119, 115]] = x := ⟨_, rfl⟩
  rw [ea] at ja la
  have fa : mA c = (va, ca) := ea
  have jb := belO_in (n := 2) ja.1
  obtain ⟨⟨vb, cb⟩, eb⟩ : ∃ x, belO ca 2 = x := ⟨_, rfl⟩
  rw [eb] at jb
  have fb : mB c = (vb, cb) := by rw [mB, fa]; exact eb
  have jc := pickO_in (l := [[97, 110, 110], [98, 111, 98]]) jb.1 (by decide)
  have lc := froms_len _ jc.2
  obtain ⟨⟨vc, cc⟩, ec⟩ : ∃ x, pickO cb [[97, 110, 110], [98, 111, 98]] = x := ⟨_, rfl⟩
  rw [ec] at jc lc
  have fc : mC c = (vc, cc) := by rw [mC, fb]; exact ec
  simp only at ja jb jc la lc
  cases hb : (vb == 0) with
  | true =>
    have fS : mS c = [83, 117, 98, 106, 101, 99, 116, 58] ++ va ++ [10] ++ [70, 114, 111, 109, 58, 32] ++ vc ++ [10] := by simp only [mS, fa, fb, fc, hb, Bool.false_eq_true, if_true, if_false]
    have fD : mD c = cc := by simp only [mD, fb, fc, hb, Bool.false_eq_true, if_true, if_false]
    have je := belO_in (n := 6) jc.1
    obtain ⟨⟨ve, ce⟩, ee⟩ : ∃ x, belO cc 6 = x := ⟨_, rfl⟩
    rw [ee] at je
    have fe : mE c = (ve, ce) := by rw [mE, fD]; exact ee
    have jf := pickO_in (l := [[116, 101, 120, 116], [98, 111, 100, 121, 32, 111, 102, 32, 105, 116, 10], [], [97, 10, 10, 98]]) je.1 (by decide)
    have lf := bods_len _ jf.2
    obtain ⟨⟨vf, cf⟩, ef⟩ : ∃ x, pickO ce [[116, 101, 120, 116], [98, 111, 100, 121, 32, 111, 102, 32, 105, 116, 10], [], [97, 10, 10, 98]] = x := ⟨_, rfl⟩
    rw [ef] at jf lf
    have ff : mF c = (vf, cf) := by rw [mF, fe]; exact ef
    simp only at je jf lf
    cases he : (ve == 0) with
    | true =>
      have e : mailO c = ([83, 117, 98, 106, 101, 99, 116, 58] ++ va ++ [10] ++ [70, 114, 111, 109, 58, 32] ++ vc ++ [10], ce) := by simp only [mailO, fe, fS, he, if_true]
      rw [e] at hr
      simp only [hc, ea, ja.1, eb, jb.1, ec, jc.1, ee, je.1, hb, he, List.length_append, List.append_assoc, go_sem]
      repeat' ((first | ((first | apply qa | apply qb | apply qc | apply qd | apply qe | apply qf | apply qg | apply qh | apply qi | apply qj | apply qk) <;> intro hp) | ((first | refine ql rfl rfl (by decide +kernel) ?_ | refine qm _ rfl rfl (by decide +kernel) ?_ | refine goes_opn rfl ?_ | refine goes_opnD rfl rfl (by decide +kernel) ?_) <;> have hp := True.intro)) <;> simp only [hp, hc, ea, ja.1, eb, jb.1, ec, jc.1, ee, je.1, hb, he, List.length_append, List.append_assoc, go_sem])
      all_goals first | (clear hr; omega) | skip
      all_goals (simp only [fin_mk, finV, resL, resV1, resIn, endA, listIn, Option.some_or, Option.none_or, oneOrTup, go_sem]; rw [← hr]; simp only [e, List.append_assoc, List.cons_append, List.nil_append])
    | false =>
      have e : mailO c = ([83, 117, 98, 106, 101, 99, 116, 58] ++ va ++ [10] ++ [70, 114, 111, 109, 58, 32] ++ vc ++ [10] ++ [10] ++ vf, cf) := by simp only [mailO, fe, ff, fS, he, Bool.false_eq_true, if_false]
      rw [e] at hr
      simp only [hc, ea, ja.1, eb, jb.1, ec, jc.1, ee, je.1, ef, jf.1, hb, he, List.length_append, List.append_assoc, go_sem]
      repeat' ((first | ((first | apply qa | apply qb | apply qc | apply qd | apply qe | apply qf | apply qg | apply qh | apply qi | apply qj | apply qk) <;> intro hp) | ((first | refine ql rfl rfl (by decide +kernel) ?_ | refine qm _ rfl rfl (by decide +kernel) ?_ | refine goes_opn rfl ?_ | refine goes_opnD rfl rfl (by decide +kernel) ?_) <;> have hp := True.intro)) <;> simp only [hp, hc, ea, ja.1, eb, jb.1, ec, jc.1, ee, je.1, ef, jf.1, hb, he, List.length_append, List.append_assoc, go_sem])
      all_goals first | (clear hr; omega) | skip
      all_goals (simp only [fin_mk, finV, resL, resV1, resIn, endA, listIn, Option.some_or, Option.none_or, oneOrTup, go_sem]; rw [← hr]; simp only [e, List.append_assoc, List.cons_append, List.nil_append])
  | false =>
    have fS : mS c = [83, 117, 98, 106, 101, 99, 116, 58] ++ va ++ [10] := by simp only [mS, fa, fb, fc, hb, Bool.false_eq_true, if_true, if_false]
    have fD : mD c = cb := by simp only [mD, fb, fc, hb, Bool.false_eq_true, if_true, if_false]
    have je := belO_in (n := 6) jb.1
    obtain ⟨⟨ve, ce⟩, ee⟩ : ∃ x, belO cb 6 = x := ⟨_, rfl⟩
    rw [ee] at je
    have fe : mE c = (ve, ce) := by rw [mE, fD]; exact ee
    have jf := pickO_in (l := [[116, 101, 120, 116], [98, 111, 100, 121, 32, 111, 102, 32, 105, 116, 10], [], [97, 10, 10, 98]]) je.1 (by decide)
    have lf := bods_len _ jf.2
    obtain ⟨⟨vf, cf⟩, ef⟩ : ∃ x, pickO ce [[116, 101, 120, 116], [98, 111, 100, 121, 32, 111, 102, 32, 105, 116, 10], [], [97, 10, 10, 98]] = x := ⟨_, rfl⟩
    rw [ef] at jf lf
    have ff : mF c = (vf, cf) := by rw [mF, fe]; exact ef
    simp only at je jf lf
    cases he : (ve == 0) with
    | true =>
      have e : mailO c = ([83, 117, 98, 106, 101, 99, 116, 58] ++ va ++ [10], ce) := by simp only [mailO, fe, fS, he, if_true]
      rw [e] at hr
      simp only [hc, ea, ja.1, eb, jb.1, ec, jc.1, ee, je.1, hb, he, List.length_append, List.append_assoc, go_sem]
      repeat' ((first | ((first | apply qa | apply qb | apply qc | apply qd | apply qe | apply qf | apply qg | apply qh | apply qi | apply qj | apply qk) <;> intro hp) | ((first | refine ql rfl rfl (by decide +kernel) ?_ | refine qm _ rfl rfl (by decide +kernel) ?_ | refine goes_opn rfl ?_ | refine goes_opnD rfl rfl (by decide +kernel) ?_) <;> have hp := True.intro)) <;> simp only [hp, hc, ea, ja.1, eb, jb.1, ec, jc.1, ee, je.1, hb, he, List.length_append, List.append_assoc, go_sem])
      all_goals first | (clear hr; omega) | skip
      all_goals (simp only [fin_mk, finV, resL, resV1, resIn, endA, listIn, Option.some_or, Option.none_or, oneOrTup, go_sem]; rw [← hr]; simp only [e, List.append_assoc, List.cons_append, List.nil_append])
    | false =>
      have e : mailO c = ([83, 117, 98, 106, 101, 99, 116, 58] ++ va ++ [10] ++ [10] ++ vf, cf) := by simp only [mailO, fe, ff, fS, he, Bool.false_eq_true, if_false]
      rw [e] at hr
      simp only [hc, ea, ja.1, eb, jb.1, ec, jc.1, ee, je.1, ef, jf.1, hb, he, List.length_append, List.append_assoc, go_sem]
      repeat' ((first | ((first | apply qa | apply qb | apply qc | apply qd | apply qe | apply qf | apply qg | apply qh | apply qi | apply qj | apply qk) <;> intro hp) | ((first | refine ql rfl rfl (by decide +kernel) ?_ | refine qm _ rfl rfl (by decide +kernel) ?_ | refine goes_opn rfl ?_ | refine goes_opnD rfl rfl (by decide +kernel) ?_) <;> have hp := True.intro)) <;> simp only [hp, hc, ea, ja.1, eb, jb.1, ec, jc.1, ee, je.1, ef, jf.1, hb, he, List.length_append, List.append_assoc, go_sem])
      all_goals first | (clear hr; omega) | skip
      all_goals (simp only [fin_mk, finV, resL, resV1, resIn, endA, listIn, Option.some_or, Option.none_or, oneOrTup, go_sem]; rw [← hr]; simp only [e, List.append_assoc, List.cons_append, List.nil_append])
end Go.Proofs.YtknagbmhmjcnkaaDoor.L
