/- Contracts of functions, and the facts that they need. No condition. -/
import Derived.Test.YtjkhhplhjbmhjaaGreatVLDr1
import Derived.Test.YtjkhhplhjbmhjaaGreatVLG

import Derived.Test.YtjkhhplhjbmhjaaGreatVLH


namespace Go.Proofs.YtjkhhplhjbmhjaaGreat.L
open Go Go.VM
set_option maxRecDepth 100000
set_option maxHeartbeats 4000000
set_option linter.unusedSimpArgs false
set_option linter.unusedVariables false
/-! ### a drawn mail -/
def mA (c : Cur) := pickO c [[32, 104, 101, 108, 108, 111], [32, 82, 101, 58, 32, 104, 101, 108, 108, 111], [32, 111, 116, 104, 101, 114], [32, 102, 119, 100, 58, 32, 82, 69, 58, 32, 32, 72, 101, 108, 108, 111, 32], [], [32, 110, 101, 119, 115]]
def mB (c : Cur) := belO (mA c).2 2
def mC (c : Cur) := pickO (mB c).2 [[97, 110, 110], [98, 111, 98]]
def mS (c : Cur) : List UInt8 := if ((mB c).1 == 0) = true then [83, 117, 98, 106, 101, 99, 116, 58] ++ (mA c).1 ++ [10] ++ [70, 114, 111, 109, 58, 32] ++ (mC c).1 ++ [10] else [83, 117, 98, 106, 101, 99, 116, 58] ++ (mA c).1 ++ [10]
def mD (c : Cur) : Cur := if ((mB c).1 == 0) = true then (mC c).2 else (mB c).2
def mE (c : Cur) := belO (mD c) 6
def mF (c : Cur) := pickO (mE c).2 [[116, 101, 120, 116], [98, 111, 100, 121, 32, 111, 102, 32, 105, 116, 10], [], [97, 10, 10, 98]]
def mailO (c : Cur) : List UInt8 × Cur := if ((mE c).1 == 0) = true then (mS c, (mE c).2) else (mS c ++ [10] ++ (mF c).1, (mF c).2)
theorem subs_len : ∀ x ∈ ([[32, 104, 101, 108, 108, 111], [32, 82, 101, 58, 32, 104, 101, 108, 108, 111], [32, 111, 116, 104, 101, 114], [32, 102, 119, 100, 58, 32, 82, 69, 58, 32, 32, 72, 101, 108, 108, 111, 32], [], [32, 110, 101, 119, 115]] : List (List UInt8)), x.length ≤ 17 := by decide
theorem froms_len : ∀ x ∈ ([[97, 110, 110], [98, 111, 98]] : List (List UInt8)), x.length ≤ 17 := by decide
theorem bods_len : ∀ x ∈ ([[116, 101, 120, 116], [98, 111, 100, 121, 32, 111, 102, 32, 105, 116, 10], [], [97, 10, 10, 98]] : List (List UInt8)), x.length ≤ 17 := by decide
open Classical in
noncomputable def spMail : VM.Spec := { modes := [.ptr], run := fun | [.rptr (c')] => (Cur.dec c').bind fun c => if curI c then some (.str ((mailO c).1), [.rptr (Cur.enc ((mailO c).2))]) else none | _ => none, need := [] }
attribute [go_sem] spMail
theorem spMail_in {ins : List V} {r : V} {outs : List V} (h : spMail.run ins = some (r, outs)) : ∃ (c : Cur), ins = [.rptr (Cur.enc c)] ∧ (curI c) ∧ .str ((mailO c).1) = r ∧ outs = [.rptr (Cur.enc ((mailO c).2))] := by
  unfold spMail at h
  simp only at h
  split at h
  · rename_i c'
    simp only [Option.bind_eq_some_iff] at h
    obtain ⟨c, h_c, h⟩ := h
    split at h
    case isFalse => cases h
    rename_i hc
    simp only [Option.some.injEq, Prod.mk.injEq] at h
    obtain ⟨h1, h2⟩ := h
    have h_c := Cur.dec_some h_c
    subst h_c
    exact ⟨c, rfl, hc, h1, h2.symm⟩
  · cases h
def T_spec_l07Mail : Hints := ⟨lk [], lk [], lk [(0, [0]), (1, [0, 3]), (2, [0, 3, 10]), (3, [0, 3]), (4, [0, 3, 19]), (5, [2]), (6, [2])], lk []⟩
noncomputable def Phi_spec_l07Mail : Tab := lk [(57, spPick), (109, spOnce)]
attribute [go_sem] T_spec_l07Mail Phi_spec_l07Mail
theorem phi_spec_l07Mail : ∀ f sp, Phi_spec_l07Mail f = some sp → FnOk Tryz.prog f sp ∧ ∀ n ∈ sp.need, n ∈ ([] : List String) := phi_cons ok_spec_l01Pick (n0 rfl) (phi_cons ok_spec_l01Once (n0 rfl) (phi_nil))
theorem ok_spec_l07Mail : FnOk Tryz.prog 58 spMail := by
  refine fn_ok (Φ := Phi_spec_l07Mail) (T := T_spec_l07Mail) phi_spec_l07Mail mixed Tryz.func58 rfl rfl rfl (by decide) ?_
  intro ins r outs hr hl
  clear hl
  have hs := spMail_in hr
  clear hr
  obtain ⟨c, rfl, hc, hr, rfl⟩ := hs
  simp only [spMail, Tryz.f58, Go.VM.initS]
  have ja := pickO_in (l := [[32, 104, 101, 108, 108, 111], [32, 82, 101, 58, 32, 104, 101, 108, 108, 111], [32, 111, 116, 104, 101, 114], [32, 102, 119, 100, 58, 32, 82, 69, 58, 32, 32, 72, 101, 108, 108, 111, 32], [], [32, 110, 101, 119, 115]]) hc (by decide)
  have la := subs_len _ ja.2
  obtain ⟨⟨va, ca⟩, ea⟩ : ∃ x, pickO c [[32, 104, 101, 108, 108, 111], [32, 82, 101, 58, 32, 104, 101, 108, 108, 111], [32, 111, 116, 104, 101, 114], [32, 102, 119, 100, 58, 32, 82, 69, 58, 32, 32, 72, 101, 108, 108, 111, 32], [], [32, 110, 101, 119, 115]] = x := ⟨_, rfl⟩
  rw [ea] at ja la
  have fa : mA c = (va, ca) := ea
  have jb := belO_in (n := 2) ja.1
  obtain ⟨⟨vb, cb⟩, eb⟩ : ∃ x, belO ca 2 = x := ⟨_, rfl⟩
  rw [eb] at jb
  have fb : mB c = (vb, cb) := by rw [mB, fa]; exact eb
  have jc := pickO_in (l := [[97, 110, 110], [98, 111, 98]]) jb.1 (by decide)
  have lc := froms_len _ jc.2
  obtain ⟨⟨vc, cc⟩, ec⟩ : ∃ x, pickO cb [[97, 110, 110], [98, 111, 98]] = x := ⟨_, rfl⟩
  rw [ec] at jc lc
  have fc : mC c = (vc, cc) := by rw [mC, fb]; exact ec
  simp only at ja jb jc la lc
  cases hb : (vb == 0) with
  | true =>
    have fS : mS c = [83, 117, 98, 106, 101, 99, 116, 58] ++ va ++ [10] ++ [70, 114, 111, 109, 58, 32] ++ vc ++ [10] := by simp only [mS, fa, fb, fc, hb, Bool.false_eq_true, if_true, if_false]
    have fD : mD c = cc := by simp only [mD, fb, fc, hb, Bool.false_eq_true, if_true, if_false]
    have je := belO_in (n := 6) jc.1
    obtain ⟨⟨ve, ce⟩, ee⟩ : ∃ x, belO cc 6 = x := ⟨_, rfl⟩
    rw [ee] at je
    have fe : mE c = (ve, ce) := by rw [mE, fD]; exact ee
    have jf := pickO_in (l := [[116, 101, 120, 116], [98, 111, 100, 121, 32, 111, 102, 32, 105, 116, 10], [], [97, 10, 10, 98]]) je.1 (by decide)
    have lf := bods_len _ jf.2
    obtain ⟨⟨vf, cf⟩, ef⟩ : ∃ x, pickO ce [[116, 101, 120, 116], [98, 111, 100, 121, 32, 111, 102, 32, 105, 116, 10], [], [97, 10, 10, 98]] = x := ⟨_, rfl⟩
    rw [ef] at jf lf
    have ff : mF c = (vf, cf) := by rw [mF, fe]; exact ef
    simp only at je jf lf
    cases he : (ve == 0) with
    | true =>
      have e : mailO c = ([83, 117, 98, 106, 101, 99, 116, 58] ++ va ++ [10] ++ [70, 114, 111, 109, 58, 32] ++ vc ++ [10], ce) := by simp only [mailO, fe, fS, he, if_true]
      rw [e] at hr
      simp only [hc, ea, ja.1, eb, jb.1, ec, jc.1, ee, je.1, hb, he, List.length_append, List.append_assoc, go_sem]
      repeat' ((first | apply qa | apply qb | apply qc | apply qd | apply qe | apply qf | apply qg | apply qh | apply qi | apply qj | apply qk) <;> intro hp <;> simp only [hp, hc, ea, ja.1, eb, jb.1, ec, jc.1, ee, je.1, hb, he, List.length_append, List.append_assoc, go_sem])
      all_goals first | (clear hr; omega) | skip
      all_goals (simp only [fin_mk, finV, resL, resV1, resIn, endA, listIn, Option.some_or, Option.none_or, oneOrTup, go_sem]; rw [← hr]; simp only [e, List.append_assoc, List.cons_append, List.nil_append])
    | false =>
      have e : mailO c = ([83, 117, 98, 106, 101, 99, 116, 58] ++ va ++ [10] ++ [70, 114, 111, 109, 58, 32] ++ vc ++ [10] ++ [10] ++ vf, cf) := by simp only [mailO, fe, ff, fS, he, Bool.false_eq_true, if_false]
      rw [e] at hr
      simp only [hc, ea, ja.1, eb, jb.1, ec, jc.1, ee, je.1, ef, jf.1, hb, he, List.length_append, List.append_assoc, go_sem]
      repeat' ((first | apply qa | apply qb | apply qc | apply qd | apply qe | apply qf | apply qg | apply qh | apply qi | apply qj | apply qk) <;> intro hp <;> simp only [hp, hc, ea, ja.1, eb, jb.1, ec, jc.1, ee, je.1, ef, jf.1, hb, he, List.length_append, List.append_assoc, go_sem])
      all_goals first | (clear hr; omega) | skip
      all_goals (simp only [fin_mk, finV, resL, resV1, resIn, endA, listIn, Option.some_or, Option.none_or, oneOrTup, go_sem]; rw [← hr]; simp only [e, List.append_assoc, List.cons_append, List.nil_append])
  | false =>
    have fS : mS c = [83, 117, 98, 106, 101, 99, 116, 58] ++ va ++ [10] := by simp only [mS, fa, fb, fc, hb, Bool.false_eq_true, if_true, if_false]
    have fD : mD c = cb := by simp only [mD, fb, fc, hb, Bool.false_eq_true, if_true, if_false]
    have je := belO_in (n := 6) jb.1
    obtain ⟨⟨ve, ce⟩, ee⟩ : ∃ x, belO cb 6 = x := ⟨_, rfl⟩
    rw [ee] at je
    have fe : mE c = (ve, ce) := by rw [mE, fD]; exact ee
    have jf := pickO_in (l := [[116, 101, 120, 116], [98, 111, 100, 121, 32, 111, 102, 32, 105, 116, 10], [], [97, 10, 10, 98]]) je.1 (by decide)
    have lf := bods_len _ jf.2
    obtain ⟨⟨vf, cf⟩, ef⟩ : ∃ x, pickO ce [[116, 101, 120, 116], [98, 111, 100, 121, 32, 111, 102, 32, 105, 116, 10], [], [97, 10, 10, 98]] = x := ⟨_, rfl⟩
    rw [ef] at jf lf
    have ff : mF c = (vf, cf) := by rw [mF, fe]; exact ef
    simp only at je jf lf
    cases he : (ve == 0) with
    | true =>
      have e : mailO c = ([83, 117, 98, 106, 101, 99, 116, 58] ++ va ++ [10], ce) := by simp only [mailO, fe, fS, he, if_true]
      rw [e] at hr
      simp only [hc, ea, ja.1, eb, jb.1, ec, jc.1, ee, je.1, hb, he, List.length_append, List.append_assoc, go_sem]
      repeat' ((first | apply qa | apply qb | apply qc | apply qd | apply qe | apply qf | apply qg | apply qh | apply qi | apply qj | apply qk) <;> intro hp <;> simp only [hp, hc, ea, ja.1, eb, jb.1, ec, jc.1, ee, je.1, hb, he, List.length_append, List.append_assoc, go_sem])
      all_goals first | (clear hr; omega) | skip
      all_goals (simp only [fin_mk, finV, resL, resV1, resIn, endA, listIn, Option.some_or, Option.none_or, oneOrTup, go_sem]; rw [← hr]; simp only [e, List.append_assoc, List.cons_append, List.nil_append])
    | false =>
      have e : mailO c = ([83, 117, 98, 106, 101, 99, 116, 58] ++ va ++ [10] ++ [10] ++ vf, cf) := by simp only [mailO, fe, ff, fS, he, Bool.false_eq_true, if_false]
      rw [e] at hr
      simp only [hc, ea, ja.1, eb, jb.1, ec, jc.1, ee, je.1, ef, jf.1, hb, he, List.length_append, List.append_assoc, go_sem]
      repeat' ((first | apply qa | apply qb | apply qc | apply qd | apply qe | apply qf | apply qg | apply qh | apply qi | apply qj | apply qk) <;> intro hp <;> simp only [hp, hc, ea, ja.1, eb, jb.1, ec, jc.1, ee, je.1, ef, jf.1, hb, he, List.length_append, List.append_assoc, go_sem])
      all_goals first | (clear hr; omega) | skip
      all_goals (simp only [fin_mk, finV, resL, resV1, resIn, endA, listIn, Option.some_or, Option.none_or, oneOrTup, go_sem]; rw [← hr]; simp only [e, List.append_assoc, List.cons_append, List.nil_append])
theorem mailO_len {c : Cur} (h : curI c) : (mailO c).1.length ≤ 200 ∧ curI (mailO c).2 := by
  have ja := pickO_in (c := c) (l := [[32, 104, 101, 108, 108, 111], [32, 82, 101, 58, 32, 104, 101, 108, 108, 111], [32, 111, 116, 104, 101, 114], [32, 102, 119, 100, 58, 32, 82, 69, 58, 32, 32, 72, 101, 108, 108, 111, 32], [], [32, 110, 101, 119, 115]]) h (by decide)
  have la := subs_len _ ja.2
  have jb := belO_in (c := (mA c).2) (n := 2) ja.1
  have jc := pickO_in (c := (mB c).2) (l := [[97, 110, 110], [98, 111, 98]]) jb.1 (by decide)
  have lc := froms_len _ jc.2
  have jd : curI (mD c) := by unfold mD; split; exact jc.1; exact jb.1
  have je := belO_in (n := 6) jd
  have jf := pickO_in (c := (mE c).2) (l := [[116, 101, 120, 116], [98, 111, 100, 121, 32, 111, 102, 32, 105, 116, 10], [], [97, 10, 10, 98]]) je.1 (by decide)
  have lf := bods_len _ jf.2
  have la' : (mA c).1.length ≤ 17 := la
  have lc' : (mC c).1.length ≤ 17 := lc
  have lf' : (mF c).1.length ≤ 17 := lf
  have ls : (mS c).length ≤ 80 := by unfold mS; split <;> simp only [List.length_append, List.length_cons, List.length_nil] <;> omega
  unfold mailO
  split
  · exact ⟨by simp only; omega, je.1⟩
  · exact ⟨by simp only [List.length_append, List.length_cons, List.length_nil]; omega, jf.1⟩
end Go.Proofs.YtjkhhplhjbmhjaaGreat.L

namespace Go.Proofs.YtjkhhplhjbmhjaaGreat.L
open Go Go.VM
set_option maxRecDepth 100000
set_option maxHeartbeats 4000000
set_option linter.unusedSimpArgs false
set_option linter.unusedVariables false
theorem setAdd_len (s : List Range) (lo hi : Int) (h : s.length ≤ 40) : (setAdd s lo hi).length ≤ 40 := by
  unfold setAdd
  split
  · rename_i hk
    simp only [setAddOk, setOk, Bool.and_eq_true, decide_eq_true_eq] at hk
    exact hk.2.2
  · exact h
def drawL : Nat → Nat → Cur → List Range → List Range × Cur
  | 0, _, c, s => (s, c)
  | f + 1, i, c, s => if (i : Int) < (belO c 5).1 then drawL f (i + 1) (belO (belO (belO c 5).2 14).2 4).2 (setAdd s (1 + (belO (belO c 5).2 14).1) (1 + (belO (belO c 5).2 14).1 + (belO (belO (belO c 5).2 14).2 4).1)) else (s, (belO c 5).2)
theorem drawL_in : ∀ (f i : Nat) {c : Cur} {s : List Range}, curI c → s.length ≤ 40 → (drawL f i c s).1.length ≤ 40 ∧ curI (drawL f i c s).2
  | 0, i, c, s, hc, hs => ⟨hs, hc⟩
  | f + 1, i, c, s, hc, hs => by
    have h1 := belO_in (n := 5) hc
    have h2 := belO_in (n := 14) h1.1
    have h3 := belO_in (n := 4) h2.1
    rw [drawL]
    split
    · exact drawL_in f (i + 1) h3.1 (setAdd_len _ _ _ hs)
    · exact ⟨hs, h1.1⟩
def drawO (c : Cur) : List Range × Cur := if ((belO (drawL 6 0 c []).2 10).1 == 0) = true then (setAdd (drawL 6 0 c []).1 9998 9999, (belO (drawL 6 0 c []).2 10).2) else ((drawL 6 0 c []).1, (belO (drawL 6 0 c []).2 10).2)
theorem drawO_in {c : Cur} (h : curI c) : (drawO c).1.length ≤ 40 ∧ curI (drawO c).2 := by
  have h1 := drawL_in 6 0 (s := []) h (by simp)
  have h2 := belO_in (n := 10) h1.2
  unfold drawO
  split
  · exact ⟨setAdd_len _ _ _ h1.1, h2.1⟩
  · exact ⟨h1.1, h2.1⟩
open Classical in
noncomputable def spDraw : VM.Spec := { modes := [.ptr], run := fun | [.rptr (c')] => (Cur.dec c').bind fun c => if curI c then some (.lst 2 (((drawO c).1).map Range.enc), [.rptr (Cur.enc ((drawO c).2))]) else none | _ => none, need := [] }
attribute [go_sem] spDraw
theorem spDraw_in {ins : List V} {r : V} {outs : List V} (h : spDraw.run ins = some (r, outs)) : ∃ (c : Cur), ins = [.rptr (Cur.enc c)] ∧ (curI c) ∧ .lst 2 (((drawO c).1).map Range.enc) = r ∧ outs = [.rptr (Cur.enc ((drawO c).2))] := by
  unfold spDraw at h
  simp only at h
  split at h
  · rename_i c'
    simp only [Option.bind_eq_some_iff] at h
    obtain ⟨c, h_c, h⟩ := h
    split at h
    case isFalse => cases h
    rename_i hc
    simp only [Option.some.injEq, Prod.mk.injEq] at h
    obtain ⟨h1, h2⟩ := h
    have h_c := Cur.dec_some h_c
    subst h_c
    exact ⟨c, rfl, hc, h1, h2.symm⟩
  · cases h
def T_spec_l05Draw : Hints := ⟨lk [], lk [(3, [0, 3, 4])], lk [(0, [0]), (1, [0, 3]), (2, [0, 3, 4]), (3, [0, 3, 4, 10]), (5, [0, 3, 4, 5]), (6, [0, 3, 4]), (4, [0, 3, 4]), (7, [3, 27]), (8, [3]), (9, [2])], lk []⟩
noncomputable def Phi_spec_l05Draw : Tab := lk [(55, spBelow), (109, spOnce), (110, spSetAdd)]
attribute [go_sem] T_spec_l05Draw Phi_spec_l05Draw
theorem phi_spec_l05Draw : ∀ f sp, Phi_spec_l05Draw f = some sp → FnOk Tryz.prog f sp ∧ ∀ n ∈ sp.need, n ∈ ([] : List String) := phi_cons ok_spec_l01Below (n0 rfl) (phi_cons ok_spec_l01Once (n0 rfl) (phi_cons ok_spec_SetAdd (n0 rfl) (phi_nil)))
theorem ok_spec_l05Draw : FnOk Tryz.prog 59 spDraw := by
  refine fn_ok (Φ := Phi_spec_l05Draw) (T := T_spec_l05Draw) phi_spec_l05Draw mixed Tryz.func59 rfl rfl rfl (by decide) ?_
  intro ins r outs hr hl
  clear hl
  have hs := spDraw_in hr
  clear hr
  obtain ⟨c, rfl, hc, hr, rfl⟩ := hs
  simp only [spDraw, Tryz.f59, Go.VM.initS]
  have hRi := drawL_in 6 0 (s := []) hc (by simp)
  obtain ⟨⟨RS, RC⟩, hR⟩ : ∃ R, drawL 6 0 c [] = R := ⟨_, rfl⟩
  rw [hR] at hRi
  simp only at hRi
  obtain ⟨⟨vt, ct⟩, et⟩ : ∃ x, belO RC 10 = x := ⟨_, rfl⟩
  have hO : drawO c = if (vt == 0) = true then (setAdd RS 9998 9999, ct) else (RS, ct) := by simp only [drawO, hR, et]
  rw [hO] at hr
  have hRl : RS.length ≤ 4194304 := by omega
  simp only [hO, go_sem]
  repeat' ((first | apply qa | apply qb | apply qc | apply qd | apply qe | apply qf | apply qg | apply qh | apply qi | apply qj | apply qk) <;> intro hp <;> simp only [hp, hO, go_sem])
  refine loop_go (fun p : Nat × Cur × List Range => [(4, .int .i64 (p.1 : Int))]) (fun p => [(0, ⟨.box, 3, [p.2.1.enc]⟩), (1, ⟨.arr, 2, p.2.2.map Range.enc⟩)]) (fun p => 6 - p.1) (fun p => p.1 ≤ 4 ∧ curI p.2.1 ∧ p.2.2.length ≤ 40 ∧ drawL (6 - p.1) p.1 p.2.1 p.2.2 = (RS, RC)) (0, c, []) ⟨by omega, hc, by simp, hR⟩ rfl rfl ?_
  rintro ⟨i, d, a⟩ ⟨hi, hd, hl, he⟩ ih
  simp only at hi hd hl he ih
  have h1 := belO_in (n := 5) hd
  have h2 := belO_in (n := 14) h1.1
  have h3 := belO_in (n := 4) h2.1
  rw [show 6 - i = (6 - (i + 1)) + 1 by omega, drawL] at he
  obtain ⟨⟨v1, c1⟩, e1⟩ : ∃ x, belO d 5 = x := ⟨_, rfl⟩
  rw [e1] at h1 h2 h3 he
  simp only at h1 h2 h3 he
  obtain ⟨⟨v2, c2⟩, e2⟩ : ∃ x, belO c1 14 = x := ⟨_, rfl⟩
  rw [e2] at h2 h3 he
  simp only at h2 h3 he
  obtain ⟨⟨v3, c3⟩, e3⟩ : ∃ x, belO c2 4 = x := ⟨_, rfl⟩
  rw [e3] at h3 he
  simp only at h3 he
  by_cases g1 : (i : Int) < v1
  · rw [if_pos g1] at he
    have hv := h1.2.2 (by decide)
    have hv2 := h2.2.2 (by decide)
    have hv3 := h3.2.2 (by decide)
    have ih' := ih (i + 1, c3, _) ⟨by omega, h3.1, setAdd_len _ _ _ hl, he⟩ (by simp only; omega)
    simp only at ih'
    have g5 : IntKind.i64.wrap ((i : Int) + 1) = ((i + 1 : Nat) : Int) := wrap_succ (n := 10) (by omega) (by omega)
    have g6 : IntKind.i64.wrap (1 + v2) = 1 + v2 := wrap64 (by omega) (by omega)
    have g7 : IntKind.i64.wrap (1 + v2 + v3) = 1 + v2 + v3 := wrap64 (by omega) (by omega)
    have g8 : a.length ≤ 4194304 := by omega
    simp only [hd, h1.1, h2.1, h3.1, e1, e2, e3, g1, g5, g6, g7, g8, go_sem]
    repeat' ((first | apply qa | apply qb | apply qc | apply qd | apply qe | apply qf | apply qg | apply qh | apply qi | apply qj | apply qk) <;> intro hp <;> simp only [hp, hd, h1.1, h2.1, h3.1, e1, e2, e3, g1, g5, g6, g7, g8, go_sem])
    exact ih'
  · rw [if_neg g1] at he
    simp only [Prod.mk.injEq] at he
    obtain ⟨rfl, rfl⟩ := he
    cases h0 : (vt == 0) with
    | true =>
      simp only [h0, if_true] at hr
      simp only [hd, hRi.2, e1, g1, et, h0, hRl, if_true, go_sem]
      repeat' ((first | apply qa | apply qb | apply qc | apply qd | apply qe | apply qf | apply qg | apply qh | apply qi | apply qj | apply qk) <;> intro hp <;> simp only [hp, hd, hRi.2, e1, g1, et, h0, hRl, if_true, go_sem])
      simp only [fin_mk, finV, resL, resV1, resIn, endA, listIn, Option.some_or, Option.none_or, oneOrTup, go_sem]
      rw [← hr]
    | false =>
      simp only [h0, Bool.false_eq_true, if_false] at hr
      simp only [hd, hRi.2, e1, g1, et, h0, hRl, go_sem]
      repeat' ((first | apply qa | apply qb | apply qc | apply qd | apply qe | apply qf | apply qg | apply qh | apply qi | apply qj | apply qk) <;> intro hp <;> simp only [hp, hd, hRi.2, e1, g1, et, h0, hRl, go_sem])
      simp only [fin_mk, finV, resL, resV1, resIn, endA, listIn, Option.some_or, Option.none_or, oneOrTup, go_sem]
      rw [← hr]
end Go.Proofs.YtjkhhplhjbmhjaaGreat.L

namespace Go.Proofs.YtjkhhplhjbmhjaaGreat.L
open Go Go.VM
set_option maxRecDepth 100000
set_option maxHeartbeats 4000000
set_option linter.unusedSimpArgs false
set_option linter.unusedVariables false
def edKinds : List Int := [1, 3, 3, 3, 3, 4, 4, 4, 5, 5, 6, 7, 2, 8]
def edBoxes : List (List UInt8) := [[105, 110, 98, 111, 120], [105, 110, 98, 111, 120], [105, 110, 98, 111, 120], [119, 111, 114, 107], [111, 108, 100]]
def edMade : List (List UInt8) := [[119, 111, 114, 107], [111, 108, 100], [97]]
def edTos : List (List UInt8) := [[119, 111, 114, 107], [111, 108, 100], [105, 110, 98, 111, 120]]
def edF3 : List Int := [0, 1, 8, 4, 9]
def edF4 : List Int := [1, 8, 8, 4, 31]
def edS4 : List Int := [-1, -1, 3, 9]
def edIn (c : Cur) := pickO (pickI c edKinds).2 edBoxes
def edM (c : Cur) := pickO (edIn c).2 edMade
def edA1 (c : Cur) := pickI (edIn c).2 edF3
def edA2 (c : Cur) := mailO (edA1 c).2
def edF_1 (c : Cur) := drawO (edIn c).2
def edF_2 (c : Cur) := belO (edF_1 c).2 3
def edF_3 (c : Cur) := pickI (edF_2 c).2 edF4
def edF_4 (c : Cur) := pickI (edF_3 c).2 edS4
def edN (c : Cur) := belO (edIn c).2 9
def edT (c : Cur) := pickO (edF_1 c).2 edTos
def editD (c : Cur) : Edit × Cur :=
  if (pickI c edKinds).1 = 1 then (⟨1, (edM c).1, [], [], 0, 0, 0, []⟩, (edM c).2) else
  if (pickI c edKinds).1 = 2 then (⟨2, (edM c).1, [], [], 0, 0, 0, []⟩, (edM c).2) else
  if (pickI c edKinds).1 = 3 then (⟨3, (edIn c).1, [], [], 0, (edA1 c).1, 0, (edA2 c).1⟩, (edA2 c).2) else
  if (pickI c edKinds).1 = 4 then (⟨4, (edIn c).1, [], (edF_1 c).1, 1 + (edF_2 c).1, (edF_3 c).1, (edF_4 c).1, []⟩, (edF_4 c).2) else
  if (pickI c edKinds).1 = 5 then (⟨5, (edIn c).1, [], [⟨1, 9999⟩], 0, 0, 0, []⟩, (edIn c).2) else
  if (pickI c edKinds).1 = 6 then (⟨6, (edIn c).1, (edT c).1, (edF_1 c).1, 0, 0, 0, []⟩, (edT c).2) else
  if (pickI c edKinds).1 = 7 then (⟨7, (edIn c).1, (edT c).1, (edF_1 c).1, 0, 0, 0, []⟩, (edT c).2) else
  (⟨8, (edIn c).1, [], [], 0, 0, (edN c).1, []⟩, (edN c).2)
theorem nameLe_boxes : ∀ x ∈ edBoxes, x.length ≤ 8 := by decide
theorem nameLe_made : ∀ x ∈ edMade, x.length ≤ 8 := by decide
theorem nameLe_tos : ∀ x ∈ edTos, x.length ≤ 8 := by decide
def edSmall (e : Edit) : Prop := e.Box.length ≤ 8 ∧ e.To.length ≤ 8 ∧ e.Set.length ≤ 40 ∧ e.Text.length ≤ 200
theorem edSmall.le {e : Edit} (h : edSmall e) : e.le 4194304 := by
  obtain ⟨h1, h2, h3, h4⟩ := h
  exact ⟨by show e.Box.length ≤ _; omega, by show e.To.length ≤ _; omega, ⟨by omega, fun _ _ => trivial⟩, by show e.Text.length ≤ _; omega⟩
theorem editD_in {c : Cur} (h : curI c) : edSmall (editD c).1 ∧ curI (editD c).2 := by
  have h1 := pickI_in (l := edKinds) h (by decide)
  have h2 := pickO_in (l := edBoxes) h1.1 (by decide)
  have h3 := pickO_in (l := edMade) (c := (edIn c).2) h2.1 (by decide)
  have h4 := pickI_in (l := edF3) (c := (edIn c).2) h2.1 (by decide)
  have h5 := mailO_len (c := (edA1 c).2) h4.1
  have h6 := drawO_in (c := (edIn c).2) h2.1
  have h7 := belO_in (c := (edF_1 c).2) (n := 3) h6.2
  have h8 := pickI_in (l := edF4) (c := (edF_2 c).2) h7.1 (by decide)
  have h9 := pickI_in (l := edS4) (c := (edF_3 c).2) h8.1 (by decide)
  have h10 := belO_in (c := (edIn c).2) (n := 9) h2.1
  have h11 := pickO_in (l := edTos) (c := (edF_1 c).2) h6.2 (by decide)
  have b2 : (edIn c).1.length ≤ 8 := nameLe_boxes _ h2.2
  have b3 : (edM c).1.length ≤ 8 := nameLe_made _ h3.2
  have b11 : (edT c).1.length ≤ 8 := nameLe_tos _ h11.2
  have b5 : (edA2 c).1.length ≤ 200 := h5.1
  have b6 : (edF_1 c).1.length ≤ 40 := h6.1
  unfold editD
  repeat' split
  · exact ⟨⟨b3, by simp, by simp, by simp⟩, h3.1⟩
  · exact ⟨⟨b3, by simp, by simp, by simp⟩, h3.1⟩
  · exact ⟨⟨b2, by simp, by simp, b5⟩, h5.2⟩
  · exact ⟨⟨b2, by simp, b6, by simp⟩, h9.1⟩
  · exact ⟨⟨b2, by simp, by simp, by simp⟩, h2.1⟩
  · exact ⟨⟨b2, b11, b6, by simp⟩, h11.1⟩
  · exact ⟨⟨b2, b11, b6, by simp⟩, h11.1⟩
  · exact ⟨⟨b2, by simp, by simp, by simp⟩, h10.1⟩
open Classical in
noncomputable def spEditD : VM.Spec := { modes := [.ptr], run := fun | [.rptr (c')] => (Cur.dec c').bind fun c => if curI c then some (Edit.enc ((editD c).1), [.rptr (Cur.enc ((editD c).2))]) else none | _ => none, need := [] }
attribute [go_sem] spEditD
theorem spEditD_in {ins : List V} {r : V} {outs : List V} (h : spEditD.run ins = some (r, outs)) : ∃ (c : Cur), ins = [.rptr (Cur.enc c)] ∧ (curI c) ∧ Edit.enc ((editD c).1) = r ∧ outs = [.rptr (Cur.enc ((editD c).2))] := by
  unfold spEditD at h
  simp only at h
  split at h
  · rename_i c'
    simp only [Option.bind_eq_some_iff] at h
    obtain ⟨c, h_c, h⟩ := h
    split at h
    case isFalse => cases h
    rename_i hc
    simp only [Option.some.injEq, Prod.mk.injEq] at h
    obtain ⟨h1, h2⟩ := h
    have h_c := Cur.dec_some h_c
    subst h_c
    exact ⟨c, rfl, hc, h1, h2.symm⟩
  · cases h
def T_spec_l10Edit : Hints := ⟨lk [], lk [], lk [(0, [0, 2]), (1, [0, 2, 3]), (2, [0, 2, 3, 18]), (3, [0, 2, 3]), (4, [0, 2, 3, 24]), (5, [0, 2, 3, 24, 25]), (6, [0, 2, 3]), (7, [2, 3]), (8, [0, 2, 3, 24, 34]), (9, [0, 2, 3]), (10, [0, 2, 3]), (11, [0, 2, 3]), (12, [2, 3]), (13, [0, 2, 3, 24, 51]), (14, [2, 3]), (15, [0, 2, 3, 24, 56]), (16, [0, 2, 3, 24, 56]), (17, [0, 2, 3]), (18, [2, 3]), (19, [0, 2, 3, 66]), (20, [2, 3]), (21, [2])], lk []⟩
noncomputable def Phi_spec_l10Edit : Tab := lk [(56, spPickI), (57, spPick), (58, spMail), (59, spDraw), (55, spBelow)]
attribute [go_sem] T_spec_l10Edit Phi_spec_l10Edit
theorem phi_spec_l10Edit : ∀ f sp, Phi_spec_l10Edit f = some sp → FnOk Tryz.prog f sp ∧ ∀ n ∈ sp.need, n ∈ ([] : List String) := phi_cons ok_spec_l01PickInt (n0 rfl) (phi_cons ok_spec_l01Pick (n0 rfl) (phi_cons ok_spec_l07Mail (n0 rfl) (phi_cons ok_spec_l05Draw (n0 rfl) (phi_cons ok_spec_l01Below (n0 rfl) (phi_nil)))))
theorem ok_spec_l10Edit : FnOk Tryz.prog 23 spEditD := by
  refine fn_ok (Φ := Phi_spec_l10Edit) (T := T_spec_l10Edit) phi_spec_l10Edit mixed Tryz.func23 rfl rfl rfl (by decide) ?_
  intro ins r outs hr hl
  clear hl
  have hs := spEditD_in hr
  clear hr
  obtain ⟨c, rfl, hc, hr, rfl⟩ := hs
  simp only [spEditD, Tryz.f23, Go.VM.initS]
  have h1 := pickI_in (l := edKinds) hc (by decide)
  have h2 := pickO_in (l := edBoxes) h1.1 (by decide)
  have h3 := pickO_in (l := edMade) (c := (edIn c).2) h2.1 (by decide)
  have h4 := pickI_in (l := edF3) (c := (edIn c).2) h2.1 (by decide)
  have h5 := mailO_len (c := (edA1 c).2) h4.1
  have h6 := drawO_in (c := (edIn c).2) h2.1
  have h7 := belO_in (c := (edF_1 c).2) (n := 3) h6.2
  have h8 := pickI_in (l := edF4) (c := (edF_2 c).2) h7.1 (by decide)
  have h9 := pickI_in (l := edS4) (c := (edF_3 c).2) h8.1 (by decide)
  have h10 := belO_in (c := (edIn c).2) (n := 9) h2.1
  have h11 := pickO_in (l := edTos) (c := (edF_1 c).2) h6.2 (by decide)
  obtain ⟨⟨k, c1⟩, e1⟩ : ∃ x, pickI c edKinds = x := ⟨_, rfl⟩
  have e1' : pickI c [1, 3, 3, 3, 3, 4, 4, 4, 5, 5, 6, 7, 2, 8] = (k, c1) := e1
  have hk : k ∈ edKinds := by have := h1.2; rw [e1] at this; exact this
  obtain ⟨⟨b, c2⟩, e2⟩ : ∃ x, edIn c = x := ⟨_, rfl⟩
  have e2' : pickO c1 [[105, 110, 98, 111, 120], [105, 110, 98, 111, 120], [105, 110, 98, 111, 120], [119, 111, 114, 107], [111, 108, 100]] = (b, c2) := by have := e2; rw [edIn, e1] at this; exact this
  rw [e1] at h1
  rw [e2] at h3 h4 h6 h10
  have h2' : curI c2 := by have := h2.1; rw [e1] at this; change curI (pickO c1 [[105, 110, 98, 111, 120], [105, 110, 98, 111, 120], [105, 110, 98, 111, 120], [119, 111, 114, 107], [111, 108, 100]]).2 at this; rw [e2'] at this; exact this
  have h1' : curI c1 := h1.1
  have hk : k = 1 ∨ k = 2 ∨ k = 3 ∨ k = 4 ∨ k = 5 ∨ k = 6 ∨ k = 7 ∨ k = 8 := by simp only [edKinds, List.mem_cons, List.not_mem_nil, or_false] at hk; omega
  rcases hk with hk | hk | hk | hk | hk | hk | hk | hk
  · subst hk
    obtain ⟨⟨m, c3⟩, e3⟩ : ∃ x, edM c = x := ⟨_, rfl⟩
    have e3' : pickO c2 [[119, 111, 114, 107], [111, 108, 100], [97]] = (m, c3) := by have := e3; rw [edM, e2] at this; exact this
    have e : editD c = (⟨1, m, [], [], 0, 0, 0, []⟩, c3) := by simp only [editD, e1, Int.reduceEq, if_true, if_false, e3]
    rw [e] at hr
    simp only [hc, h1', h2', e1', e2', e3', go_sem]
    repeat' ((first | apply qa | apply qb | apply qc | apply qd | apply qe | apply qf | apply qg | apply qh | apply qi | apply qj | apply qk) <;> intro hp <;> simp only [hp, hc, h1', h2', e1', e2', e3', go_sem])
    simp only [fin_mk, finV, resL, resV1, resIn, endA, listIn, Option.some_or, Option.none_or, oneOrTup, go_sem]
    rw [← hr]
    first | rfl | (simp only [e]; rfl) | simp only [e]
  · subst hk
    obtain ⟨⟨m, c3⟩, e3⟩ : ∃ x, edM c = x := ⟨_, rfl⟩
    have e3' : pickO c2 [[119, 111, 114, 107], [111, 108, 100], [97]] = (m, c3) := by have := e3; rw [edM, e2] at this; exact this
    have e : editD c = (⟨2, m, [], [], 0, 0, 0, []⟩, c3) := by simp only [editD, e1, Int.reduceEq, if_true, if_false, e3]
    rw [e] at hr
    simp only [hc, h1', h2', e1', e2', e3', go_sem]
    repeat' ((first | apply qa | apply qb | apply qc | apply qd | apply qe | apply qf | apply qg | apply qh | apply qi | apply qj | apply qk) <;> intro hp <;> simp only [hp, hc, h1', h2', e1', e2', e3', go_sem])
    simp only [fin_mk, finV, resL, resV1, resIn, endA, listIn, Option.some_or, Option.none_or, oneOrTup, go_sem]
    rw [← hr]
    first | rfl | (simp only [e]; rfl) | simp only [e]
  · subst hk
    obtain ⟨⟨f, c3⟩, e3⟩ : ∃ x, edA1 c = x := ⟨_, rfl⟩
    have e3' : pickI c2 [0, 1, 8, 4, 9] = (f, c3) := by have := e3; rw [edA1, e2] at this; exact this
    obtain ⟨⟨m, c4⟩, e4⟩ : ∃ x, edA2 c = x := ⟨_, rfl⟩
    have e4' : mailO c3 = (m, c4) := by have := e4; rw [edA2, e3] at this; exact this
    have h3' : curI c3 := by have := h4.1; change curI (pickI c2 [0, 1, 8, 4, 9]).2 at this; rw [e3'] at this; exact this
    have e : editD c = (⟨3, b, [], [], 0, f, 0, m⟩, c4) := by simp only [editD, e1, Int.reduceEq, if_true, if_false, e2, e3, e4]
    rw [e] at hr
    simp only [hc, h1', h2', e1', e2', e3', e4', h3', go_sem]
    repeat' ((first | apply qa | apply qb | apply qc | apply qd | apply qe | apply qf | apply qg | apply qh | apply qi | apply qj | apply qk) <;> intro hp <;> simp only [hp, hc, h1', h2', e1', e2', e3', e4', h3', go_sem])
    simp only [fin_mk, finV, resL, resV1, resIn, endA, listIn, Option.some_or, Option.none_or, oneOrTup, go_sem]
    rw [← hr]
    first | rfl | (simp only [e]; rfl) | simp only [e]
  · subst hk
    obtain ⟨⟨s, c3⟩, e3⟩ : ∃ x, edF_1 c = x := ⟨_, rfl⟩
    have e3' : drawO c2 = (s, c3) := by have := e3; rw [edF_1, e2] at this; exact this
    obtain ⟨⟨w, c4⟩, e4⟩ : ∃ x, edF_2 c = x := ⟨_, rfl⟩
    have e4' : belO c3 3 = (w, c4) := by have := e4; rw [edF_2, e3] at this; exact this
    obtain ⟨⟨f, c5⟩, e5⟩ : ∃ x, edF_3 c = x := ⟨_, rfl⟩
    have e5' : pickI c4 [1, 8, 8, 4, 31] = (f, c5) := by have := e5; rw [edF_3, e4] at this; exact this
    obtain ⟨⟨n, c6⟩, e6⟩ : ∃ x, edF_4 c = x := ⟨_, rfl⟩
    have e6' : pickI c5 [-1, -1, 3, 9] = (n, c6) := by have := e6; rw [edF_4, e5] at this; exact this
    have h3' : curI c3 := by have := h6.2; rw [e3'] at this; exact this
    rw [e3] at h7
    have h4' : curI c4 := by have := h7.1; rw [e4'] at this; exact this
    have w1 : IntKind.i64.wrap (1 + w) = 1 + w := by have := h7.2; rw [e4'] at this; simp only at this; have := this.2 (by decide); exact wrap64 (by omega) (by omega)
    rw [e4] at h8
    have h5' : curI c5 := by have := h8.1; change curI (pickI c4 [1, 8, 8, 4, 31]).2 at this; rw [e5'] at this; exact this
    have e : editD c = (⟨4, b, [], s, 1 + w, f, n, []⟩, c6) := by simp only [editD, e1, Int.reduceEq, if_true, if_false, e2, e3, e4, e5, e6]
    rw [e] at hr
    simp only [hc, h1', h2', e1', e2', e3', e4', e5', e6', h3', h4', h5', w1, go_sem]
    repeat' ((first | apply qa | apply qb | apply qc | apply qd | apply qe | apply qf | apply qg | apply qh | apply qi | apply qj | apply qk) <;> intro hp <;> simp only [hp, hc, h1', h2', e1', e2', e3', e4', e5', e6', h3', h4', h5', w1, go_sem])
    simp only [fin_mk, finV, resL, resV1, resIn, endA, listIn, Option.some_or, Option.none_or, oneOrTup, go_sem]
    rw [← hr]
    first | rfl | (simp only [e]; rfl) | simp only [e]
  · subst hk
    have e : editD c = (⟨5, b, [], [⟨1, 9999⟩], 0, 0, 0, []⟩, c2) := by simp only [editD, e1, Int.reduceEq, if_true, if_false, e2]
    rw [e] at hr
    simp only [hc, h1', h2', e1', e2', List.map_cons, List.map_nil, go_sem]
    repeat' ((first | apply qa | apply qb | apply qc | apply qd | apply qe | apply qf | apply qg | apply qh | apply qi | apply qj | apply qk) <;> intro hp <;> simp only [hp, hc, h1', h2', e1', e2', List.map_cons, List.map_nil, go_sem])
    simp only [fin_mk, finV, resL, resV1, resIn, endA, listIn, Option.some_or, Option.none_or, oneOrTup, go_sem]
    rw [← hr]
    first | rfl | (simp only [e]; rfl) | simp only [e]
  · subst hk
    obtain ⟨⟨s, c3⟩, e3⟩ : ∃ x, edF_1 c = x := ⟨_, rfl⟩
    have e3' : drawO c2 = (s, c3) := by have := e3; rw [edF_1, e2] at this; exact this
    obtain ⟨⟨m, c4⟩, e4⟩ : ∃ x, edT c = x := ⟨_, rfl⟩
    have e4' : pickO c3 [[119, 111, 114, 107], [111, 108, 100], [105, 110, 98, 111, 120]] = (m, c4) := by have := e4; rw [edT, e3] at this; exact this
    have h3' : curI c3 := by have := h6.2; rw [e3'] at this; exact this
    have e : editD c = (⟨6, b, m, s, 0, 0, 0, []⟩, c4) := by simp only [editD, e1, Int.reduceEq, if_true, if_false, e2, e3, e4]
    rw [e] at hr
    simp only [hc, h1', h2', e1', e2', e3', e4', h3', go_sem]
    repeat' ((first | apply qa | apply qb | apply qc | apply qd | apply qe | apply qf | apply qg | apply qh | apply qi | apply qj | apply qk) <;> intro hp <;> simp only [hp, hc, h1', h2', e1', e2', e3', e4', h3', go_sem])
    simp only [fin_mk, finV, resL, resV1, resIn, endA, listIn, Option.some_or, Option.none_or, oneOrTup, go_sem]
    rw [← hr]
    first | rfl | (simp only [e]; rfl) | simp only [e]
  · subst hk
    obtain ⟨⟨s, c3⟩, e3⟩ : ∃ x, edF_1 c = x := ⟨_, rfl⟩
    have e3' : drawO c2 = (s, c3) := by have := e3; rw [edF_1, e2] at this; exact this
    obtain ⟨⟨m, c4⟩, e4⟩ : ∃ x, edT c = x := ⟨_, rfl⟩
    have e4' : pickO c3 [[119, 111, 114, 107], [111, 108, 100], [105, 110, 98, 111, 120]] = (m, c4) := by have := e4; rw [edT, e3] at this; exact this
    have h3' : curI c3 := by have := h6.2; rw [e3'] at this; exact this
    have e : editD c = (⟨7, b, m, s, 0, 0, 0, []⟩, c4) := by simp only [editD, e1, Int.reduceEq, if_true, if_false, e2, e3, e4]
    rw [e] at hr
    simp only [hc, h1', h2', e1', e2', e3', e4', h3', go_sem]
    repeat' ((first | apply qa | apply qb | apply qc | apply qd | apply qe | apply qf | apply qg | apply qh | apply qi | apply qj | apply qk) <;> intro hp <;> simp only [hp, hc, h1', h2', e1', e2', e3', e4', h3', go_sem])
    simp only [fin_mk, finV, resL, resV1, resIn, endA, listIn, Option.some_or, Option.none_or, oneOrTup, go_sem]
    rw [← hr]
    first | rfl | (simp only [e]; rfl) | simp only [e]
  · subst hk
    obtain ⟨⟨n, c3⟩, e3⟩ : ∃ x, edN c = x := ⟨_, rfl⟩
    have e3' : belO c2 9 = (n, c3) := by have := e3; rw [edN, e2] at this; exact this
    have e : editD c = (⟨8, b, [], [], 0, 0, n, []⟩, c3) := by simp only [editD, e1, Int.reduceEq, if_true, if_false, e2, e3]
    rw [e] at hr
    simp only [hc, h1', h2', e1', e2', e3', go_sem]
    repeat' ((first | apply qa | apply qb | apply qc | apply qd | apply qe | apply qf | apply qg | apply qh | apply qi | apply qj | apply qk) <;> intro hp <;> simp only [hp, hc, h1', h2', e1', e2', e3', go_sem])
    simp only [fin_mk, finV, resL, resV1, resIn, endA, listIn, Option.some_or, Option.none_or, oneOrTup, go_sem]
    rw [← hr]
    first | rfl | (simp only [e]; rfl) | simp only [e]
def edAny (c : Cur) : Edit × Cur :=
  let k := belO c 14
  let y := belO k.2 60
  let x := editD y.2
  if k.1 = 0 then ({ x.1 with Kind := y.1.tmod 10 }, x.2) else
  if k.1 = 1 then ({ x.1 with Box := ([[], [65]] : List (List UInt8)).getD (y.1.tmod 2).toNat [] }, x.2) else
  if k.1 = 2 then ({ x.1 with Since := ([-2, -1, 100000, 100001] : List Int).getD (y.1.tmod 4).toNat 0 }, x.2) else
  if k.1 = 3 then ({ x.1 with How := y.1.tmod 5 }, x.2) else
  if k.1 = 4 then ({ x.1 with Bits := y.1 }, x.2) else
  if k.1 = 5 then ({ x.1 with Text := ([[120], [97, 0]] : List (List UInt8)).getD (y.1.tmod 2).toNat [] }, x.2) else x
theorem getD_all {α : Type} {p : α → Prop} {l : List α} {d : α} (h : ∀ x ∈ l, p x) (hd : p d) (i : Nat) : p (l.getD i d) := by
  rcases Nat.lt_or_ge i l.length with hi | hi
  · rw [getD_lt hi]; exact h _ (List.getElem_mem hi)
  · rw [List.getD_eq_getElem?_getD, List.getElem?_eq_none hi]; exact hd
theorem edAny_in {c : Cur} (h : curI c) : edSmall (edAny c).1 ∧ curI (edAny c).2 := by
  have h1 := belO_in (n := 14) h
  have h2 := belO_in (n := 60) h1.1
  obtain ⟨⟨s1, s2, s3, s4⟩, h3⟩ := editD_in h2.1
  have g1 := getD_all (p := fun x : List UInt8 => x.length ≤ 8) (l := [[], [65]]) (d := []) (by decide) (by decide)
  have g2 := getD_all (p := fun x : List UInt8 => x.length ≤ 200) (l := [[120], [97, 0]]) (d := []) (by decide) (by decide)
  unfold edAny
  simp only
  repeat' split
  all_goals first
    | exact ⟨⟨s1, s2, s3, s4⟩, h3⟩
    | exact ⟨⟨g1 _, s2, s3, s4⟩, h3⟩
    | exact ⟨⟨s1, s2, s3, g2 _⟩, h3⟩
open Classical in
noncomputable def spEdAny : VM.Spec := { modes := [.ptr], run := fun | [.rptr (c')] => (Cur.dec c').bind fun c => if curI c then some (Edit.enc ((edAny c).1), [.rptr (Cur.enc ((edAny c).2))]) else none | _ => none, need := [] }
attribute [go_sem] spEdAny
theorem spEdAny_in {ins : List V} {r : V} {outs : List V} (h : spEdAny.run ins = some (r, outs)) : ∃ (c : Cur), ins = [.rptr (Cur.enc c)] ∧ (curI c) ∧ Edit.enc ((edAny c).1) = r ∧ outs = [.rptr (Cur.enc ((edAny c).2))] := by
  unfold spEdAny at h
  simp only at h
  split at h
  · rename_i c'
    simp only [Option.bind_eq_some_iff] at h
    obtain ⟨c, h_c, h⟩ := h
    split at h
    case isFalse => cases h
    rename_i hc
    simp only [Option.some.injEq, Prod.mk.injEq] at h
    obtain ⟨h1, h2⟩ := h
    have h_c := Cur.dec_some h_c
    subst h_c
    exact ⟨c, rfl, hc, h1, h2.symm⟩
  · cases h
open Classical in
noncomputable def spDrawEdit : VM.Spec := { modes := [.rd], run := fun | [.lst 1 code'] => (decL dU8 code').bind fun code => if code.length ≤ 4194304 then some (Edit.enc ((editD (cur0 code)).1), []) else none | _ => none, need := [] }
attribute [go_sem] spDrawEdit
theorem spDrawEdit_in {ins : List V} {r : V} {outs : List V} (h : spDrawEdit.run ins = some (r, outs)) : ∃ (code : (List Int)), ins = [.lst 1 ((code).map eU8)] ∧ (code.length ≤ 4194304) ∧ Edit.enc ((editD (cur0 code)).1) = r ∧ outs = [] := by
  unfold spDrawEdit at h
  simp only at h
  split at h
  · rename_i code'
    simp only [Option.bind_eq_some_iff] at h
    obtain ⟨code, h_code, h⟩ := h
    split at h
    case isFalse => cases h
    rename_i hc
    simp only [Option.some.injEq, Prod.mk.injEq] at h
    obtain ⟨h1, h2⟩ := h
    have h_code := decL_some (fun _ _ h => dU8_some h) h_code
    subst h_code
    exact ⟨code, rfl, hc, h1, h2.symm⟩
  · cases h
def T_spec_DrawEdit : Hints := ⟨lk [], lk [], lk [(0, [0, 2]), (1, [2])], lk []⟩
noncomputable def Phi_spec_DrawEdit : Tab := lk [(22, spNew), (23, spEditD)]
attribute [go_sem] T_spec_DrawEdit Phi_spec_DrawEdit
theorem phi_spec_DrawEdit : ∀ f sp, Phi_spec_DrawEdit f = some sp → FnOk Tryz.prog f sp ∧ ∀ n ∈ sp.need, n ∈ ([] : List String) := phi_cons ok_spec_l01New (n0 rfl) (phi_cons ok_spec_l10Edit (n0 rfl) (phi_nil))
theorem ok_spec_DrawEdit : FnOk Tryz.prog 7 spDrawEdit := by
  refine fn_ok (Φ := Phi_spec_DrawEdit) (T := T_spec_DrawEdit) phi_spec_DrawEdit mixed Tryz.func7 rfl rfl rfl (by decide) ?_
  intro ins r outs hr hl
  clear hl
  have hs := spDrawEdit_in hr
  clear hr
  obtain ⟨code, rfl, hc, hr, rfl⟩ := hs
  simp only [spDrawEdit, Tryz.f7, Go.VM.initS]
  have i0 := cur0_in hc
  simp only [hc, i0, go_sem]
  repeat' ((first | apply qa | apply qb | apply qc | apply qd | apply qe | apply qf | apply qg | apply qh | apply qi | apply qj | apply qk) <;> intro hp <;> simp only [hp, hc, i0, go_sem])
  simp only [fin_mk, finV, resL, resV1, resIn, endA, listIn, Option.some_or, Option.none_or, oneOrTup, go_sem]
  rw [← hr]
  first | rfl | skip
open Classical in
noncomputable def spDrawEditText : VM.Spec := { modes := [.rd], run := fun | [.lst 1 code'] => (decL dU8 code').bind fun code => if code.length ≤ 4194304 then some (Edit.enc ((edAny (cur0 code)).1), []) else none | _ => none, need := [] }
attribute [go_sem] spDrawEditText
theorem spDrawEditText_in {ins : List V} {r : V} {outs : List V} (h : spDrawEditText.run ins = some (r, outs)) : ∃ (code : (List Int)), ins = [.lst 1 ((code).map eU8)] ∧ (code.length ≤ 4194304) ∧ Edit.enc ((edAny (cur0 code)).1) = r ∧ outs = [] := by
  unfold spDrawEditText at h
  simp only at h
  split at h
  · rename_i code'
    simp only [Option.bind_eq_some_iff] at h
    obtain ⟨code, h_code, h⟩ := h
    split at h
    case isFalse => cases h
    rename_i hc
    simp only [Option.some.injEq, Prod.mk.injEq] at h
    obtain ⟨h1, h2⟩ := h
    have h_code := decL_some (fun _ _ h => dU8_some h) h_code
    subst h_code
    exact ⟨code, rfl, hc, h1, h2.symm⟩
  · cases h
end Go.Proofs.YtjkhhplhjbmhjaaGreat.L

namespace Go.Proofs.YtjkhhplhjbmhjaaGreat.L
open Go Go.VM
set_option maxRecDepth 100000
set_option maxHeartbeats 4000000
set_option linter.unusedSimpArgs false
set_option linter.unusedVariables false
def inboxName : List UInt8 := [105, 110, 98, 111, 120]
def storeNew : Store := ⟨[boxNew inboxName 1], 2⟩
theorem storeNew_le : storeNew.le 4194304 := by
  show leL Box.le 4194304 _
  refine ⟨by simp [storeNew], fun x hx => ?_⟩
  have : x = boxNew inboxName 1 := by simpa [storeNew] using hx
  subst this
  exact boxNew_le (by decide)
open Classical in
noncomputable def spStoreNew : VM.Spec := { modes := [], run := fun | [] => some (Store.enc storeNew, []) | _ => none, need := [] }
attribute [go_sem] spStoreNew
theorem spStoreNew_in {ins : List V} {r : V} {outs : List V} (h : spStoreNew.run ins = some (r, outs)) : ins = [] ∧ Store.enc storeNew = r ∧ outs = [] := by
  unfold spStoreNew at h
  simp only at h
  split at h
  · simp only [Option.some.injEq, Prod.mk.injEq] at h
    obtain ⟨h1, h2⟩ := h
    exact ⟨rfl, h1, h2.symm⟩
  · cases h
def T_spec_StoreNew : Hints := ⟨lk [], lk [], lk [(0, [0]), (1, [0, 1]), (2, [0])], lk []⟩
noncomputable def Phi_spec_StoreNew : Tab := lk [(91, spBoxNew)]
attribute [go_sem] T_spec_StoreNew Phi_spec_StoreNew
theorem phi_spec_StoreNew : ∀ f sp, Phi_spec_StoreNew f = some sp → FnOk Tryz.prog f sp ∧ ∀ n ∈ sp.need, n ∈ ([] : List String) := phi_cons ok_spec_BoxNew (n0 rfl) (phi_nil)
theorem ok_spec_StoreNew : FnOk Tryz.prog 54 spStoreNew := by
  refine fn_ok (Φ := Phi_spec_StoreNew) (T := T_spec_StoreNew) phi_spec_StoreNew mixed Tryz.func54 rfl rfl rfl (by decide) ?_
  intro ins r outs hr hl
  clear hl
  have hs := spStoreNew_in hr
  clear hr
  obtain ⟨rfl, hr, rfl⟩ := hs
  simp only [spStoreNew, Tryz.f54, Go.VM.initS]
  simp only [go_sem]
  repeat' ((first | apply qa | apply qb | apply qc | apply qd | apply qe | apply qf | apply qg | apply qh | apply qi | apply qj | apply qk) <;> intro hp <;> simp only [hp, go_sem])
  simp only [fin_mk, finV, resL, resV1, resIn, endA, listIn, Option.some_or, Option.none_or, oneOrTup, go_sem]
  rw [← hr]
  rfl
end Go.Proofs.YtjkhhplhjbmhjaaGreat.L

namespace Go.Proofs.YtjkhhplhjbmhjaaGreat.L
open Go Go.VM
set_option maxRecDepth 100000
set_option maxHeartbeats 4000000
set_option linter.unusedSimpArgs false
set_option linter.unusedVariables false
def storeL : Nat → Nat → Cur → Store → Store × Cur
  | 0, _, c, s => (s, c)
  | f + 1, i, c, s => if (i : Int) < 3 + (belO c 20).1 then storeL f (i + 1) (editD (belO c 20).2).2 (applyS s (editD (belO c 20).2).1).1 else (s, (belO c 20).2)
theorem storeL_in : ∀ (f i : Nat) {c : Cur} {s : Store}, curI c → StoreP s → s.le 4194304 → StoreP (storeL f i c s).1 ∧ (storeL f i c s).1.le 4194304 ∧ curI (storeL f i c s).2
  | 0, i, c, s, hc, hs, hl => ⟨hs, hl, hc⟩
  | f + 1, i, c, s, hc, hs, hl => by
    have h1 := belO_in (n := 20) hc
    have h2 := editD_in h1.1
    rw [storeL]
    split
    · exact storeL_in f (i + 1) h2.2 (apply_ok hs).1 (applyS_le hl h2.1.le)
    · exact ⟨hs, hl, h1.1⟩
theorem storeNew_ok : StoreP storeNew := by
  obtain ⟨e, hk⟩ := fresh_ok (name := inboxName) (v := 1) (by decide) (by decide) (by decide)
  refine ⟨fun b hb => ?_, fun i hi => by simp [storeNew] at hi, by decide, by decide⟩
  have : b = boxNew inboxName 1 := by simpa [storeNew] using hb
  subst this
  rw [e]; exact ⟨hk, by decide⟩
def drawStore (code : List Int) : Store := (storeL 24 0 (cur0 code) storeNew).1
open Classical in
noncomputable def spStoreD : VM.Spec := { modes := [.ptr], run := fun | [.rptr (c')] => (Cur.dec c').bind fun c => if curI c then some (Store.enc ((storeL 24 0 c storeNew).1), [.rptr (Cur.enc ((storeL 24 0 c storeNew).2))]) else none | _ => none, need := [] }
attribute [go_sem] spStoreD
theorem spStoreD_in {ins : List V} {r : V} {outs : List V} (h : spStoreD.run ins = some (r, outs)) : ∃ (c : Cur), ins = [.rptr (Cur.enc c)] ∧ (curI c) ∧ Store.enc ((storeL 24 0 c storeNew).1) = r ∧ outs = [.rptr (Cur.enc ((storeL 24 0 c storeNew).2))] := by
  unfold spStoreD at h
  simp only at h
  split at h
  · rename_i c'
    simp only [Option.bind_eq_some_iff] at h
    obtain ⟨c, h_c, h⟩ := h
    split at h
    case isFalse => cases h
    rename_i hc
    simp only [Option.some.injEq, Prod.mk.injEq] at h
    obtain ⟨h1, h2⟩ := h
    have h_c := Cur.dec_some h_c
    subst h_c
    exact ⟨c, rfl, hc, h1, h2.symm⟩
  · cases h
def T_spec_l09Store : Hints := ⟨lk [(5, [(0, 2)])], lk [(3, [0, 2, 3, 4])], lk [(0, [0, 2]), (1, [0, 2, 3]), (2, [0, 2, 3, 4]), (3, [0, 2, 3, 4, 10]), (5, [0, 2, 3, 4]), (4, [0, 2, 3, 4]), (6, [2])], lk []⟩
noncomputable def Phi_spec_l09Store : Tab := lk [(54, spStoreNew), (55, spBelow), (23, spEditD), (13, spApply)]
attribute [go_sem] T_spec_l09Store Phi_spec_l09Store
theorem phi_spec_l09Store : ∀ f sp, Phi_spec_l09Store f = some sp → FnOk Tryz.prog f sp ∧ ∀ n ∈ sp.need, n ∈ ([] : List String) := phi_cons ok_spec_StoreNew (n0 rfl) (phi_cons ok_spec_l01Below (n0 rfl) (phi_cons ok_spec_l10Edit (n0 rfl) (phi_cons ok_spec_Apply (n0 rfl) (phi_nil))))
theorem ok_spec_l09Store : FnOk Tryz.prog 21 spStoreD := by
  refine fn_ok (Φ := Phi_spec_l09Store) (T := T_spec_l09Store) phi_spec_l09Store mixed Tryz.func21 rfl rfl rfl (by decide) ?_
  intro ins r outs hr hl
  clear hl
  have hs := spStoreD_in hr
  clear hr
  obtain ⟨c, rfl, hc, hr, rfl⟩ := hs
  simp only [spStoreD, Tryz.f21, Go.VM.initS]
  obtain ⟨⟨RS, RC⟩, hR⟩ : ∃ R, storeL 24 0 c storeNew = R := ⟨_, rfl⟩
  rw [hR] at hr
  have hn := storeNew_le
  obtain ⟨S0, hS0⟩ : ∃ x, storeNew = x := ⟨_, rfl⟩
  rw [hS0] at hR hn
  simp only [hR, hS0, go_sem]
  repeat' ((first | ((first | apply qa | apply qb | apply qc | apply qd | apply qe | apply qf | apply qg | apply qh | apply qi | apply qj | apply qk) <;> intro hp) | ((first | refine ql rfl rfl (by decide +kernel) ?_ | refine qm _ rfl rfl (by decide +kernel) ?_) <;> have hp := True.intro)) <;> simp only [hp, hR, hS0, go_sem])
  refine loop_go (fun p : Nat × Cur × Store => [(4, .int .i64 (p.1 : Int))]) (fun p => [(0, ⟨.box, 3, [p.2.1.enc]⟩), (2, ⟨.box, 2, [.agg [.own 3, .int .i64 p.2.2.Valid]]⟩), (3, ⟨.arr, 7, p.2.2.Boxes.map Box.enc⟩)]) (fun p => 24 - p.1) (fun p => p.1 ≤ 23 ∧ curI p.2.1 ∧ p.2.2.le 4194304 ∧ storeL (24 - p.1) p.1 p.2.1 p.2.2 = (RS, RC)) (0, c, S0) ⟨by omega, hc, hn, hR⟩ rfl rfl ?_
  rintro ⟨i, d, s⟩ ⟨hi, hd, hl, he⟩ ih
  simp only at hi hd hl he ih
  have h1 := belO_in (n := 20) hd
  obtain ⟨⟨k, d1⟩, e1⟩ : ∃ x, belO d 20 = x := ⟨_, rfl⟩
  rw [e1] at h1
  simp only at h1
  have h2 := editD_in h1.1
  have h2l := h2.1.le
  obtain ⟨⟨E, d2⟩, e2⟩ : ∃ x, editD d1 = x := ⟨_, rfl⟩
  rw [e2] at h2 h2l
  simp only at h2 h2l
  have hk := h1.2.2 (by decide)
  have w1 : IntKind.i64.wrap (3 + k) = 3 + k := wrap64 (by omega) (by omega)
  have g5 : IntKind.i64.wrap ((i : Int) + 1) = ((i + 1 : Nat) : Int) := (wrap64 (by omega) (by omega)).trans (by omega)
  rw [show 24 - i = (24 - (i + 1)) + 1 by omega, storeL, e1] at he
  simp only [e2] at he
  by_cases hlt : (i : Int) < 3 + k
  · rw [if_pos hlt] at he
    have hle := applyS_le hl h2l
    have ih' := ih (i + 1, d2, (applyS s E).1) ⟨by simp only; omega, h2.2, hle, he⟩ (by simp only; omega)
    clear ih
    simp only [hd, e1, h1.1, w1, hlt, e2, h2.2, h2l, hl, g5, go_sem]
    repeat' ((first | ((first | apply qa | apply qb | apply qc | apply qd | apply qe | apply qf | apply qg | apply qh | apply qi | apply qj | apply qk) <;> intro hp) | ((first | refine ql rfl rfl (by decide +kernel) ?_ | refine qm _ rfl rfl (by decide +kernel) ?_) <;> have hp := True.intro)) <;> simp only [hp, hd, e1, h1.1, w1, hlt, e2, h2.2, h2l, hl, g5, go_sem])
    exact ih'
  · rw [if_neg hlt] at he
    obtain ⟨rfl, rfl⟩ := Prod.mk.inj he
    clear ih
    simp only [hd, e1, h1.1, w1, hlt, go_sem]
    repeat' ((first | ((first | apply qa | apply qb | apply qc | apply qd | apply qe | apply qf | apply qg | apply qh | apply qi | apply qj | apply qk) <;> intro hp) | ((first | refine ql rfl rfl (by decide +kernel) ?_ | refine qm _ rfl rfl (by decide +kernel) ?_) <;> have hp := True.intro)) <;> simp only [hp, hd, e1, h1.1, w1, hlt, go_sem])
    simp only [fin_mk, finV, resL, resV1, resIn, endA, listIn, Option.some_or, Option.none_or, oneOrTup, go_sem]
    rw [← hr]
    rfl
open Classical in
noncomputable def spDrawStore : VM.Spec := { modes := [.rd], run := fun | [.lst 1 code'] => (decL dU8 code').bind fun code => if code.length ≤ 4194304 then some (Store.enc (drawStore code), []) else none | _ => none, need := [] }
attribute [go_sem] spDrawStore
theorem spDrawStore_in {ins : List V} {r : V} {outs : List V} (h : spDrawStore.run ins = some (r, outs)) : ∃ (code : (List Int)), ins = [.lst 1 ((code).map eU8)] ∧ (code.length ≤ 4194304) ∧ Store.enc (drawStore code) = r ∧ outs = [] := by
  unfold spDrawStore at h
  simp only at h
  split at h
  · rename_i code'
    simp only [Option.bind_eq_some_iff] at h
    obtain ⟨code, h_code, h⟩ := h
    split at h
    case isFalse => cases h
    rename_i hc
    simp only [Option.some.injEq, Prod.mk.injEq] at h
    obtain ⟨h1, h2⟩ := h
    have h_code := decL_some (fun _ _ h => dU8_some h) h_code
    subst h_code
    exact ⟨code, rfl, hc, h1, h2.symm⟩
  · cases h
def T_spec_DrawStore : Hints := ⟨lk [], lk [], lk [(0, [0, 2]), (1, [2])], lk []⟩
noncomputable def Phi_spec_DrawStore : Tab := lk [(22, spNew), (21, spStoreD)]
attribute [go_sem] T_spec_DrawStore Phi_spec_DrawStore
theorem phi_spec_DrawStore : ∀ f sp, Phi_spec_DrawStore f = some sp → FnOk Tryz.prog f sp ∧ ∀ n ∈ sp.need, n ∈ ([] : List String) := phi_cons ok_spec_l01New (n0 rfl) (phi_cons ok_spec_l09Store (n0 rfl) (phi_nil))
theorem ok_spec_DrawStore : FnOk Tryz.prog 6 spDrawStore := by
  refine fn_ok (Φ := Phi_spec_DrawStore) (T := T_spec_DrawStore) phi_spec_DrawStore mixed Tryz.func6 rfl rfl rfl (by decide) ?_
  intro ins r outs hr hl
  clear hl
  have hs := spDrawStore_in hr
  clear hr
  obtain ⟨code, rfl, hc, hr, rfl⟩ := hs
  simp only [spDrawStore, Tryz.f6, Go.VM.initS]
  have i0 := cur0_in hc
  rw [drawStore] at hr
  simp only [hc, i0, go_sem]
  repeat' ((first | apply qa | apply qb | apply qc | apply qd | apply qe | apply qf | apply qg | apply qh | apply qi | apply qj | apply qk) <;> intro hp <;> simp only [hp, hc, i0, go_sem])
  simp only [fin_mk, finV, resL, resV1, resIn, endA, listIn, Option.some_or, Option.none_or, oneOrTup, go_sem]
  rw [← hr]
  rfl
end Go.Proofs.YtjkhhplhjbmhjaaGreat.L

