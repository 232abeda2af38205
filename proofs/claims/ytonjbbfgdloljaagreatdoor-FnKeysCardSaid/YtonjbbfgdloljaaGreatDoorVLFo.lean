/- Contracts of functions, and the facts that they need. No condition. -/
import Derived.Test.YtonjbbfgdloljaaGreatDoorVLS
import Derived.Test.YtonjbbfgdloljaaGreatDoorVLRs
import Derived.Test.YtonjbbfgdloljaaGreatDoorVLKz

namespace Go.Proofs.YtonjbbfgdloljaaGreatDoor.L
open Go Go.VM
set_option maxRecDepth 100000
set_option maxHeartbeats 4000000
set_option linter.unusedSimpArgs false
set_option linter.unusedVariables false
/-! ### a drawn mail -/
def mA (c : Cur) := pickO c [[32, 104, 101, 108, 108, 111], [32, 82, 101, 58, 32, 104, 101, 108, 108, 111], [32, 111, 116, 104, 101, 114], [32, 102, 119, 100, 58, 32, 82, 69, 58, 32, 32, 72, 101, 108, 108, 111, 32], [], [32, 110, 101, 119, 115]]
def mB (c : Cur) := belO (mA c).2 2
def mC (c : Cur) := pickO (mB c).2 [[97, 110, 110], [98, 111, 98]]
def mS (c : Cur) : List UInt8 := if ((mB c).1 == 0) = true then [83, 117, 98, 106, 101, 99, 116, 58] ++ (mA c).1 ++ [10] ++ [70, 114, 111, 109, 58, 32] ++ (mC c).1 ++ [10] else [83, 117, 98, 106, 101, 99, 116, 58] ++ (mA c).1 ++ [10]
def mD (c : Cur) : Cur := if ((mB c).1 == 0) = true then (mC c).2 else (mB c).2
def mE (c : Cur) := belO (mD c) 6
def mF (c : Cur) := pickO (mE c).2 [[116, 101, 120, 116], [98, 111, 100, 121, 32, 111, 102, 32, 105, 116, 10], [], [97, 10, 10, 98]]
def mailO (c : Cur) : List UInt8 × Cur := if ((mE c).1 == 0) = true then (mS c, (mE c).2) else (mS c ++ [10] ++ (mF c).1, (mF c).2)
theorem subs_len : ∀ x ∈ ([[32, 104, 101, 108, 108, 111], [32, 82, 101, 58, 32, 104, 101, 108, 108, 111], [32, 111, 116, 104, 101, 114], [32, 102, 119, 100, 58, 32, 82, 69, 58, 32, 32, 72, 101, 108, 108, 111, 32], [], [32, 110, 101, 119, 115]] : List (List UInt8)), x.length ≤ 17 := by decide
theorem froms_len : ∀ x ∈ ([[97, 110, 110], [98, 111, 98]] : List (List UInt8)), x.length ≤ 17 := by decide
theorem bods_len : ∀ x ∈ ([[116, 101, 120, 116], [98, 111, 100, 121, 32, 111, 102, 32, 105, 116, 10], [], [97, 10, 10, 98]] : List (List UInt8)), x.length ≤ 17 := by decide
open Classical in
noncomputable def spMail : VM.Spec := { modes := [.ptr], run := fun | [.rptr (c')] => (Cur.dec c').bind fun c => if curI c then some (.str ((mailO c).1), [.rptr (Cur.enc ((mailO c).2))]) else none | _ => none, need := [] }
attribute [go_sem] spMail
theorem spMail_in {ins : List V} {r : V} {outs : List V} (h : spMail.run ins = some (r, outs)) : ∃ (c : Cur), ins = [.rptr (Cur.enc c)] ∧ (curI c) ∧ .str ((mailO c).1) = r ∧ outs = [.rptr (Cur.enc ((mailO c).2))] := by
  unfold spMail at h
  simp only at h
  split at h
  · rename_i c'
    simp only [Option.bind_eq_some_iff] at h
    obtain ⟨c, h_c, h⟩ := h
    split at h
    case isFalse => cases h
    rename_i hc
    simp only [Option.some.injEq, Prod.mk.injEq] at h
    obtain ⟨h1, h2⟩ := h
    have h_c := Cur.dec_some h_c
    subst h_c
    exact ⟨c, rfl, hc, h1, h2.symm⟩
  · cases h
def T_spec_l07Mail : Hints := ⟨lk [], lk [], lk [(0, [0]), (1, [0, 3]), (2, [0, 3, 10]), (3, [0, 3]), (4, [0, 3, 19]), (5, [2]), (6, [2])], lk []⟩
noncomputable def Phi_spec_l07Mail : Tab := lk [(32, spPick), (95, spOnce)]
attribute [go_sem] T_spec_l07Mail Phi_spec_l07Mail
theorem phi_spec_l07Mail : ∀ f sp, Phi_spec_l07Mail f = some sp → FnOk Tryz.prog f sp ∧ ∀ n ∈ sp.need, n ∈ ([] : List String) := phi_cons ok_spec_l01Pick (n0 rfl) (phi_cons ok_spec_l01Once (n0 rfl) (phi_nil))
theorem ok_spec_l07Mail : FnOk Tryz.prog 91 spMail := by
  refine fn_ok (Φ := Phi_spec_l07Mail) (T := T_spec_l07Mail) phi_spec_l07Mail mixed Tryz.func91 rfl rfl rfl (by decide) ?_
  intro ins r outs hr hl
  clear hl
  have hs := spMail_in hr
  clear hr
  obtain ⟨c, rfl, hc, hr, rfl⟩ := hs
  simp only [spMail, Tryz.f91, Go.VM.initS]
  have ja := pickO_in (l := [[32, 104, 101, 108, 108, 111], [32, 82, 101, 58, 32, 104, 101, 108, 108, 111], [32, 111, 116, 104, 101, 114], [32, 102, 119, 100, 58, 32, 82, 69, 58, 32, 32, 72, 101, 108, 108, 111, 32], [], [32, 110, 101, 119, 115]]) hc (by decide)
  have la := subs_len _ ja.2
  obtain ⟨⟨va, ca⟩, ea⟩ : ∃ x, pickO c [[32, 104, 101, 108, 108, 111], [32, 82, 101, 58, 32, 104, 101, 108, 108, 111], [32, 111, 116, 104, 101, 114], [32, 102, 119, 100, 58, 32, 82, 69, 58, 32, 32, 72, 101, 108, 108, 111, 32], [], [32, 110, 101, 119, 115]] = x := ⟨_, rfl⟩
  rw [ea] at ja la
  have fa : mA c = (va, ca) := ea
  have jb := belO_in (n := 2) ja.1
  obtain ⟨⟨vb, cb⟩, eb⟩ : ∃ x, belO ca 2 = x := ⟨_, rfl⟩
  rw [eb] at jb
  have fb : mB c = (vb, cb) := by rw [mB, fa]; exact eb
  have jc := pickO_in (l := [[97, 110, 110], [98, 111, 98]]) jb.1 (by decide)
  have lc := froms_len _ jc.2
  obtain ⟨⟨vc, cc⟩, ec⟩ : ∃ x, pickO cb [[97, 110, 110], [98, 111, 98]] = x := ⟨_, rfl⟩
  rw [ec] at jc lc
  have fc : mC c = (vc, cc) := by rw [mC, fb]; exact ec
  simp only at ja jb jc la lc
  cases hb : (vb == 0) with
  | true =>
    have fS : mS c = [83, 117, 98, 106, 101, 99, 116, 58] ++ va ++ [10] ++ [70, 114, 111, 109, 58, 32] ++ vc ++ [10] := by simp only [mS, fa, fb, fc, hb, Bool.false_eq_true, if_true, if_false]
    have fD : mD c = cc := by simp only [mD, fb, fc, hb, Bool.false_eq_true, if_true, if_false]
    have je := belO_in (n := 6) jc.1
    obtain ⟨⟨ve, ce⟩, ee⟩ : ∃ x, belO cc 6 = x := ⟨_, rfl⟩
    rw [ee] at je
    have fe : mE c = (ve, ce) := by rw [mE, fD]; exact ee
    have jf := pickO_in (l := [[116, 101, 120, 116], [98, 111, 100, 121, 32, 111, 102, 32, 105, 116, 10], [], [97, 10, 10, 98]]) je.1 (by decide)
    have lf := bods_len _ jf.2
    obtain ⟨⟨vf, cf⟩, ef⟩ : ∃ x, pickO ce [[116, 101, 120, 116], [98, 111, 100, 121, 32, 111, 102, 32, 105, 116, 10], [], [97, 10, 10, 98]] = x := ⟨_, rfl⟩
    rw [ef] at jf lf
    have ff : mF c = (vf, cf) := by rw [mF, fe]; exact ef
    simp only at je jf lf
    cases he : (ve == 0) with
    | true =>
      have e : mailO c = ([83, 117, 98, 106, 101, 99, 116, 58] ++ va ++ [10] ++ [70, 114, 111, 109, 58, 32] ++ vc ++ [10], ce) := by simp only [mailO, fe, fS, he, if_true]
      rw [e] at hr
      simp only [hc, ea, ja.1, eb, jb.1, ec, jc.1, ee, je.1, hb, he, List.length_append, List.append_assoc, go_sem]
      repeat' ((first | apply qa | apply qb | apply qc | apply qd | apply qe | apply qf | apply qg | apply qh | apply qi | apply qj | apply qk) <;> intro hp <;> simp only [hp, hc, ea, ja.1, eb, jb.1, ec, jc.1, ee, je.1, hb, he, List.length_append, List.append_assoc, go_sem])
      all_goals first | (clear hr; omega) | skip
      all_goals (simp only [fin_mk, finV, resL, resV1, resIn, endA, listIn, Option.some_or, Option.none_or, oneOrTup, go_sem]; rw [← hr]; simp only [e, List.append_assoc, List.cons_append, List.nil_append])
    | false =>
      have e : mailO c = ([83, 117, 98, 106, 101, 99, 116, 58] ++ va ++ [10] ++ [70, 114, 111, 109, 58, 32] ++ vc ++ [10] ++ [10] ++ vf, cf) := by simp only [mailO, fe, ff, fS, he, Bool.false_eq_true, if_false]
      rw [e] at hr
      simp only [hc, ea, ja.1, eb, jb.1, ec, jc.1, ee, je.1, ef, jf.1, hb, he, List.length_append, List.append_assoc, go_sem]
      repeat' ((first | apply qa | apply qb | apply qc | apply qd | apply qe | apply qf | apply qg | apply qh | apply qi | apply qj | apply qk) <;> intro hp <;> simp only [hp, hc, ea, ja.1, eb, jb.1, ec, jc.1, ee, je.1, ef, jf.1, hb, he, List.length_append, List.append_assoc, go_sem])
      all_goals first | (clear hr; omega) | skip
      all_goals (simp only [fin_mk, finV, resL, resV1, resIn, endA, listIn, Option.some_or, Option.none_or, oneOrTup, go_sem]; rw [← hr]; simp only [e, List.append_assoc, List.cons_append, List.nil_append])
  | false =>
    have fS : mS c = [83, 117, 98, 106, 101, 99, 116, 58] ++ va ++ [10] := by simp only [mS, fa, fb, fc, hb, Bool.false_eq_true, if_true, if_false]
    have fD : mD c = cb := by simp only [mD, fb, fc, hb, Bool.false_eq_true, if_true, if_false]
    have je := belO_in (n := 6) jb.1
    obtain ⟨⟨ve, ce⟩, ee⟩ : ∃ x, belO cb 6 = x := ⟨_, rfl⟩
    rw [ee] at je
    have fe : mE c = (ve, ce) := by rw [mE, fD]; exact ee
    have jf := pickO_in (l := [[116, 101, 120, 116], [98, 111, 100, 121, 32, 111, 102, 32, 105, 116, 10], [], [97, 10, 10, 98]]) je.1 (by decide)
    have lf := bods_len _ jf.2
    obtain ⟨⟨vf, cf⟩, ef⟩ : ∃ x, pickO ce [[116, 101, 120, 116], [98, 111, 100, 121, 32, 111, 102, 32, 105, 116, 10], [], [97, 10, 10, 98]] = x := ⟨_, rfl⟩
    rw [ef] at jf lf
    have ff : mF c = (vf, cf) := by rw [mF, fe]; exact ef
    simp only at je jf lf
    cases he : (ve == 0) with
    | true =>
      have e : mailO c = ([83, 117, 98, 106, 101, 99, 116, 58] ++ va ++ [10], ce) := by simp only [mailO, fe, fS, he, if_true]
      rw [e] at hr
      simp only [hc, ea, ja.1, eb, jb.1, ec, jc.1, ee, je.1, hb, he, List.length_append, List.append_assoc, go_sem]
      repeat' ((first | apply qa | apply qb | apply qc | apply qd | apply qe | apply qf | apply qg | apply qh | apply qi | apply qj | apply qk) <;> intro hp <;> simp only [hp, hc, ea, ja.1, eb, jb.1, ec, jc.1, ee, je.1, hb, he, List.length_append, List.append_assoc, go_sem])
      all_goals first | (clear hr; omega) | skip
      all_goals (simp only [fin_mk, finV, resL, resV1, resIn, endA, listIn, Option.some_or, Option.none_or, oneOrTup, go_sem]; rw [← hr]; simp only [e, List.append_assoc, List.cons_append, List.nil_append])
    | false =>
      have e : mailO c = ([83, 117, 98, 106, 101, 99, 116, 58] ++ va ++ [10] ++ [10] ++ vf, cf) := by simp only [mailO, fe, ff, fS, he, Bool.false_eq_true, if_false]
      rw [e] at hr
      simp only [hc, ea, ja.1, eb, jb.1, ec, jc.1, ee, je.1, ef, jf.1, hb, he, List.length_append, List.append_assoc, go_sem]
      repeat' ((first | apply qa | apply qb | apply qc | apply qd | apply qe | apply qf | apply qg | apply qh | apply qi | apply qj | apply qk) <;> intro hp <;> simp only [hp, hc, ea, ja.1, eb, jb.1, ec, jc.1, ee, je.1, ef, jf.1, hb, he, List.length_append, List.append_assoc, go_sem])
      all_goals first | (clear hr; omega) | skip
      all_goals (simp only [fin_mk, finV, resL, resV1, resIn, endA, listIn, Option.some_or, Option.none_or, oneOrTup, go_sem]; rw [← hr]; simp only [e, List.append_assoc, List.cons_append, List.nil_append])
theorem mailO_len {c : Cur} (h : curI c) : (mailO c).1.length ≤ 200 ∧ curI (mailO c).2 := by
  have ja := pickO_in (c := c) (l := [[32, 104, 101, 108, 108, 111], [32, 82, 101, 58, 32, 104, 101, 108, 108, 111], [32, 111, 116, 104, 101, 114], [32, 102, 119, 100, 58, 32, 82, 69, 58, 32, 32, 72, 101, 108, 108, 111, 32], [], [32, 110, 101, 119, 115]]) h (by decide)
  have la := subs_len _ ja.2
  have jb := belO_in (c := (mA c).2) (n := 2) ja.1
  have jc := pickO_in (c := (mB c).2) (l := [[97, 110, 110], [98, 111, 98]]) jb.1 (by decide)
  have lc := froms_len _ jc.2
  have jd : curI (mD c) := by unfold mD; split; exact jc.1; exact jb.1
  have je := belO_in (n := 6) jd
  have jf := pickO_in (c := (mE c).2) (l := [[116, 101, 120, 116], [98, 111, 100, 121, 32, 111, 102, 32, 105, 116, 10], [], [97, 10, 10, 98]]) je.1 (by decide)
  have lf := bods_len _ jf.2
  have la' : (mA c).1.length ≤ 17 := la
  have lc' : (mC c).1.length ≤ 17 := lc
  have lf' : (mF c).1.length ≤ 17 := lf
  have ls : (mS c).length ≤ 80 := by unfold mS; split <;> simp only [List.length_append, List.length_cons, List.length_nil] <;> omega
  unfold mailO
  split
  · exact ⟨by simp only; omega, je.1⟩
  · exact ⟨by simp only [List.length_append, List.length_cons, List.length_nil]; omega, jf.1⟩
end Go.Proofs.YtonjbbfgdloljaaGreatDoor.L

namespace Go.Proofs.YtonjbbfgdloljaaGreatDoor.L
open Go Go.VM
set_option maxRecDepth 100000
set_option maxHeartbeats 4000000
set_option linter.unusedSimpArgs false
set_option linter.unusedVariables false
theorem setAdd_len (s : List Range) (lo hi : Int) (h : s.length ≤ 40) : (setAdd s lo hi).length ≤ 40 := by
  unfold setAdd
  split
  · rename_i hk
    simp only [setAddOk, setOk, Bool.and_eq_true, decide_eq_true_eq] at hk
    exact hk.2.2
  · exact h
def drawL : Nat → Nat → Cur → List Range → List Range × Cur
  | 0, _, c, s => (s, c)
  | f + 1, i, c, s => if (i : Int) < (belO c 5).1 then drawL f (i + 1) (belO (belO (belO c 5).2 14).2 4).2 (setAdd s (1 + (belO (belO c 5).2 14).1) (1 + (belO (belO c 5).2 14).1 + (belO (belO (belO c 5).2 14).2 4).1)) else (s, (belO c 5).2)
theorem drawL_in : ∀ (f i : Nat) {c : Cur} {s : List Range}, curI c → s.length ≤ 40 → (drawL f i c s).1.length ≤ 40 ∧ curI (drawL f i c s).2
  | 0, i, c, s, hc, hs => ⟨hs, hc⟩
  | f + 1, i, c, s, hc, hs => by
    have h1 := belO_in (n := 5) hc
    have h2 := belO_in (n := 14) h1.1
    have h3 := belO_in (n := 4) h2.1
    rw [drawL]
    split
    · exact drawL_in f (i + 1) h3.1 (setAdd_len _ _ _ hs)
    · exact ⟨hs, h1.1⟩
def drawO (c : Cur) : List Range × Cur := if ((belO (drawL 6 0 c []).2 10).1 == 0) = true then (setAdd (drawL 6 0 c []).1 9998 9999, (belO (drawL 6 0 c []).2 10).2) else ((drawL 6 0 c []).1, (belO (drawL 6 0 c []).2 10).2)
theorem drawO_in {c : Cur} (h : curI c) : (drawO c).1.length ≤ 40 ∧ curI (drawO c).2 := by
  have h1 := drawL_in 6 0 (s := []) h (by simp)
  have h2 := belO_in (n := 10) h1.2
  unfold drawO
  split
  · exact ⟨setAdd_len _ _ _ h1.1, h2.1⟩
  · exact ⟨h1.1, h2.1⟩
open Classical in
noncomputable def spDraw : VM.Spec := { modes := [.ptr], run := fun | [.rptr (c')] => (Cur.dec c').bind fun c => if curI c then some (.lst 2 (((drawO c).1).map Range.enc), [.rptr (Cur.enc ((drawO c).2))]) else none | _ => none, need := [] }
attribute [go_sem] spDraw
theorem spDraw_in {ins : List V} {r : V} {outs : List V} (h : spDraw.run ins = some (r, outs)) : ∃ (c : Cur), ins = [.rptr (Cur.enc c)] ∧ (curI c) ∧ .lst 2 (((drawO c).1).map Range.enc) = r ∧ outs = [.rptr (Cur.enc ((drawO c).2))] := by
  unfold spDraw at h
  simp only at h
  split at h
  · rename_i c'
    simp only [Option.bind_eq_some_iff] at h
    obtain ⟨c, h_c, h⟩ := h
    split at h
    case isFalse => cases h
    rename_i hc
    simp only [Option.some.injEq, Prod.mk.injEq] at h
    obtain ⟨h1, h2⟩ := h
    have h_c := Cur.dec_some h_c
    subst h_c
    exact ⟨c, rfl, hc, h1, h2.symm⟩
  · cases h
def T_spec_l05Draw : Hints := ⟨lk [], lk [(3, [0, 3, 4])], lk [(0, [0]), (1, [0, 3]), (2, [0, 3, 4]), (3, [0, 3, 4, 10]), (5, [0, 3, 4, 5]), (6, [0, 3, 4]), (4, [0, 3, 4]), (7, [3, 27]), (8, [3]), (9, [2])], lk []⟩
noncomputable def Phi_spec_l05Draw : Tab := lk [(31, spBelow), (95, spOnce), (110, spSetAdd)]
attribute [go_sem] T_spec_l05Draw Phi_spec_l05Draw
theorem phi_spec_l05Draw : ∀ f sp, Phi_spec_l05Draw f = some sp → FnOk Tryz.prog f sp ∧ ∀ n ∈ sp.need, n ∈ ([] : List String) := phi_cons ok_spec_l01Below (n0 rfl) (phi_cons ok_spec_l01Once (n0 rfl) (phi_cons ok_spec_SetAdd (n0 rfl) (phi_nil)))
theorem ok_spec_l05Draw : FnOk Tryz.prog 93 spDraw := by
  refine fn_ok (Φ := Phi_spec_l05Draw) (T := T_spec_l05Draw) phi_spec_l05Draw mixed Tryz.func93 rfl rfl rfl (by decide) ?_
  intro ins r outs hr hl
  clear hl
  have hs := spDraw_in hr
  clear hr
  obtain ⟨c, rfl, hc, hr, rfl⟩ := hs
  simp only [spDraw, Tryz.f93, Go.VM.initS]
  have hRi := drawL_in 6 0 (s := []) hc (by simp)
  obtain ⟨⟨RS, RC⟩, hR⟩ : ∃ R, drawL 6 0 c [] = R := ⟨_, rfl⟩
  rw [hR] at hRi
  simp only at hRi
  obtain ⟨⟨vt, ct⟩, et⟩ : ∃ x, belO RC 10 = x := ⟨_, rfl⟩
  have hO : drawO c = if (vt == 0) = true then (setAdd RS 9998 9999, ct) else (RS, ct) := by simp only [drawO, hR, et]
  rw [hO] at hr
  have hRl : RS.length ≤ 4194304 := by omega
  simp only [hO, go_sem]
  repeat' ((first | apply qa | apply qb | apply qc | apply qd | apply qe | apply qf | apply qg | apply qh | apply qi | apply qj | apply qk) <;> intro hp <;> simp only [hp, hO, go_sem])
  refine loop_go (fun p : Nat × Cur × List Range => [(4, .int .i64 (p.1 : Int))]) (fun p => [(0, ⟨.box, 3, [p.2.1.enc]⟩), (1, ⟨.arr, 2, p.2.2.map Range.enc⟩)]) (fun p => 6 - p.1) (fun p => p.1 ≤ 4 ∧ curI p.2.1 ∧ p.2.2.length ≤ 40 ∧ drawL (6 - p.1) p.1 p.2.1 p.2.2 = (RS, RC)) (0, c, []) ⟨by omega, hc, by simp, hR⟩ rfl rfl ?_
  rintro ⟨i, d, a⟩ ⟨hi, hd, hl, he⟩ ih
  simp only at hi hd hl he ih
  have h1 := belO_in (n := 5) hd
  have h2 := belO_in (n := 14) h1.1
  have h3 := belO_in (n := 4) h2.1
  rw [show 6 - i = (6 - (i + 1)) + 1 by omega, drawL] at he
  obtain ⟨⟨v1, c1⟩, e1⟩ : ∃ x, belO d 5 = x := ⟨_, rfl⟩
  rw [e1] at h1 h2 h3 he
  simp only at h1 h2 h3 he
  obtain ⟨⟨v2, c2⟩, e2⟩ : ∃ x, belO c1 14 = x := ⟨_, rfl⟩
  rw [e2] at h2 h3 he
  simp only at h2 h3 he
  obtain ⟨⟨v3, c3⟩, e3⟩ : ∃ x, belO c2 4 = x := ⟨_, rfl⟩
  rw [e3] at h3 he
  simp only at h3 he
  by_cases g1 : (i : Int) < v1
  · rw [if_pos g1] at he
    have hv := h1.2.2 (by decide)
    have hv2 := h2.2.2 (by decide)
    have hv3 := h3.2.2 (by decide)
    have ih' := ih (i + 1, c3, _) ⟨by omega, h3.1, setAdd_len _ _ _ hl, he⟩ (by simp only; omega)
    simp only at ih'
    have g5 : IntKind.i64.wrap ((i : Int) + 1) = ((i + 1 : Nat) : Int) := wrap_succ (n := 10) (by omega) (by omega)
    have g6 : IntKind.i64.wrap (1 + v2) = 1 + v2 := wrap64 (by omega) (by omega)
    have g7 : IntKind.i64.wrap (1 + v2 + v3) = 1 + v2 + v3 := wrap64 (by omega) (by omega)
    have g8 : a.length ≤ 4194304 := by omega
    simp only [hd, h1.1, h2.1, h3.1, e1, e2, e3, g1, g5, g6, g7, g8, go_sem]
    repeat' ((first | apply qa | apply qb | apply qc | apply qd | apply qe | apply qf | apply qg | apply qh | apply qi | apply qj | apply qk) <;> intro hp <;> simp only [hp, hd, h1.1, h2.1, h3.1, e1, e2, e3, g1, g5, g6, g7, g8, go_sem])
    exact ih'
  · rw [if_neg g1] at he
    simp only [Prod.mk.injEq] at he
    obtain ⟨rfl, rfl⟩ := he
    cases h0 : (vt == 0) with
    | true =>
      simp only [h0, if_true] at hr
      simp only [hd, hRi.2, e1, g1, et, h0, hRl, if_true, go_sem]
      repeat' ((first | apply qa | apply qb | apply qc | apply qd | apply qe | apply qf | apply qg | apply qh | apply qi | apply qj | apply qk) <;> intro hp <;> simp only [hp, hd, hRi.2, e1, g1, et, h0, hRl, if_true, go_sem])
      simp only [fin_mk, finV, resL, resV1, resIn, endA, listIn, Option.some_or, Option.none_or, oneOrTup, go_sem]
      rw [← hr]
    | false =>
      simp only [h0, Bool.false_eq_true, if_false] at hr
      simp only [hd, hRi.2, e1, g1, et, h0, hRl, go_sem]
      repeat' ((first | apply qa | apply qb | apply qc | apply qd | apply qe | apply qf | apply qg | apply qh | apply qi | apply qj | apply qk) <;> intro hp <;> simp only [hp, hd, hRi.2, e1, g1, et, h0, hRl, go_sem])
      simp only [fin_mk, finV, resL, resV1, resIn, endA, listIn, Option.some_or, Option.none_or, oneOrTup, go_sem]
      rw [← hr]
end Go.Proofs.YtonjbbfgdloljaaGreatDoor.L

namespace Go.Proofs.YtonjbbfgdloljaaGreatDoor.L
open Go Go.VM
set_option maxRecDepth 100000
set_option maxHeartbeats 4000000
set_option linter.unusedSimpArgs false
set_option linter.unusedVariables false
def lateM (s : List Range) (since : Int) (m : Mail) : Bool := hasR s m.Uid && (decide (0 ≤ since) && decide (since < m.Mod))
def chM (s : List Range) (how bits since : Int) (m : Mail) : Bool := hasR s m.Uid && !(decide (0 ≤ since) && decide (since < m.Mod)) && (flagsAfter m.Flags how bits != m.Flags)
def newM (s : List Range) (how bits since md : Int) (m : Mail) : Mail := if chM s how bits since m = true then ⟨m.Uid, flagsAfter m.Flags how bits, md + 1, m.Text⟩ else m
def doneL (b : List Mail) (s : List Range) (how bits since : Int) : List Int := (b.filter (chM s how bits since)).map (·.Uid)
def lateL (b : List Mail) (s : List Range) (since : Int) : List Int := (b.filter (lateM s since)).map (·.Uid)
def setOut (b : Box) (s : List Range) (how bits since : Int) : Box := ⟨b.Name, b.Valid, b.Next, if doneL b.Mails s how bits since = [] then b.Mod else b.Mod + 1, b.Mails.map (newM s how bits since b.Mod), b.Tombs, b.Horizon⟩
def setIn (b : Box) (s : List Range) (how bits : Int) : Bool := boxOk b && setOk s && within how 1 3 && flagsOk bits
def setGood (b : Box) (s : List Range) (how bits since : Int) : Bool := setIn b s how bits && boxOk (setOut b s how bits since)
def setFlags (b : Box) (s : List Range) (how bits since : Int) : Box := if setGood b s how bits since = true then setOut b s how bits since else b
def setDone (b : Box) (s : List Range) (how bits since : Int) : List Range := if setGood b s how bits since = true then setOf (doneL b.Mails s how bits since) else []
def setLate (b : Box) (s : List Range) (how bits since : Int) : List Range := if setGood b s how bits since = true then setOf (lateL b.Mails s since) else []
theorem map_at {α : Type} {f : α → α} {l : List α} {i : Nat} (h : i < l.length) : (l.take i).map f ++ l.drop i = (l.take i).map f ++ l[i] :: l.drop (i + 1) := by
  rw [List.drop_eq_getElem_cons h]
theorem map_get {α : Type} {f : α → α} {l : List α} {i : Nat} (h : i < l.length) : ((l.take i).map f ++ l.drop i)[i]? = some l[i] := by
  rw [map_at h, List.getElem?_append_right (by rw [List.length_map, List.length_take]; omega), List.length_map, List.length_take, Nat.min_eq_left (by omega), Nat.sub_self]; rfl
theorem map_set {α : Type} {f : α → α} {l : List α} {i : Nat} (h : i < l.length) : ((l.take i).map f ++ l.drop i).set i (f l[i]) = (l.take (i + 1)).map f ++ l.drop (i + 1) := by
  rw [map_at h, List.set_append_right _ _ (by rw [List.length_map, List.length_take]; omega), List.length_map, List.length_take, Nat.min_eq_left (by omega), Nat.sub_self, take_succ' h, List.set_cons_zero, List.map_append, List.append_assoc]
  rfl
theorem map_same {α : Type} {f : α → α} {l : List α} {i : Nat} (h : i < l.length) (hf : f l[i] = l[i]) : (l.take i).map f ++ l.drop i = (l.take (i + 1)).map f ++ l.drop (i + 1) := by
  rw [map_at h, take_succ' h, List.map_append, List.append_assoc, List.map_cons, List.map_nil, hf]
  rfl
theorem doneL_succ {l : List Mail} {s : List Range} {how bits since : Int} {i : Nat} (h : i < l.length) : doneL (l.take (i + 1)) s how bits since = doneL (l.take i) s how bits since ++ (if chM s how bits since l[i] = true then [l[i].Uid] else []) := by
  unfold doneL
  rw [filter_succ h, List.map_append]
  congr 1
  split <;> simp
theorem lateL_succ {l : List Mail} {s : List Range} {since : Int} {i : Nat} (h : i < l.length) : lateL (l.take (i + 1)) s since = lateL (l.take i) s since ++ (if lateM s since l[i] = true then [l[i].Uid] else []) := by
  unfold lateL
  rw [filter_succ h, List.map_append]
  congr 1
  split <;> simp
theorem newM_le {b : Box} (hc : b.le 4194304) (s : List Range) (how bits since md : Int) : Box.le 4194304 ⟨b.Name, b.Valid, b.Next, md, b.Mails.map (newM s how bits since b.Mod), b.Tombs, b.Horizon⟩ := by
  refine ⟨hc.1, ⟨by rw [List.length_map]; exact hc.2.1.1, fun m hm => ?_⟩, hc.2.2⟩
  obtain ⟨x, hx, rfl⟩ := List.mem_map.1 hm
  unfold newM
  split
  · exact hc.2.1.2 x hx
  · exact hc.2.1.2 x hx
open Classical in
noncomputable def spSetFlags : VM.Spec := { modes := [.rd, .rd, .rd, .rd, .rd], run := fun | [b', .lst 2 s', .int .i64 how, .int .i64 bits, .int .i64 since] => (Box.dec b').bind fun b => (decL Range.dec s').bind fun s => if b.le 4194304 ∧ s.length ≤ 4194304 then some (.tup [Box.enc (setFlags b s how bits since), .lst 2 ((setDone b s how bits since).map Range.enc), .lst 2 ((setLate b s how bits since).map Range.enc)], []) else none | _ => none, need := [] }
attribute [go_sem] spSetFlags
theorem spSetFlags_in {ins : List V} {r : V} {outs : List V} (h : spSetFlags.run ins = some (r, outs)) : ∃ (b : Box) (s : (List Range)) (how : Int) (bits : Int) (since : Int), ins = [Box.enc b, .lst 2 ((s).map Range.enc), .int .i64 how, .int .i64 bits, .int .i64 since] ∧ (b.le 4194304 ∧ s.length ≤ 4194304) ∧ .tup [Box.enc (setFlags b s how bits since), .lst 2 ((setDone b s how bits since).map Range.enc), .lst 2 ((setLate b s how bits since).map Range.enc)] = r ∧ outs = [] := by
  unfold spSetFlags at h
  simp only at h
  split at h
  · rename_i b' s' how bits since
    simp only [Option.bind_eq_some_iff] at h
    obtain ⟨b, h_b, s, h_s, h⟩ := h
    split at h
    case isFalse => cases h
    rename_i hc
    simp only [Option.some.injEq, Prod.mk.injEq] at h
    obtain ⟨h1, h2⟩ := h
    have h_b := Box.dec_some h_b
    subst h_b
    have h_s := decL_some (fun _ _ h => Range.dec_some h) h_s
    subst h_s
    exact ⟨b, s, how, bits, since, rfl, hc, h1, h2.symm⟩
  · cases h
def T_spec_SetFlags : Hints := ⟨lk [(15, [])], lk [(8, [1, 2, 3, 4, 5, 10, 13, 14, 15, 16, 17])], lk [(0, [1, 2, 3, 4, 5, 10]), (1, [1, 2, 3, 4, 5, 10, 13]), (2, [1, 2, 3, 4, 5, 10, 13, 14]), (3, [1, 2, 3, 4, 5, 10, 13, 14, 15]), (4, [1, 2, 3, 4, 5, 10, 13, 14, 15, 40]), (5, [10, 11, 12]), (6, [1, 2, 3, 4, 5, 10, 13, 14, 15, 16]), (7, [1, 2, 3, 4, 5, 10, 13, 14, 15, 16, 17]), (8, [1, 2, 3, 4, 5, 10, 13, 14, 15, 16, 17, 50]), (10, [1, 2, 3, 4, 5, 10, 13, 14, 15, 16, 17, 18]), (11, [1, 2, 3, 4, 5, 10, 13, 14, 15, 16, 17, 18, 62]), (12, [1, 2, 3, 4, 5, 10, 13, 14, 15, 16, 17, 18, 70]), (13, [1, 2, 3, 4, 5, 10, 13, 14, 15, 16, 17]), (14, [1, 2, 3, 4, 5, 10, 13, 14, 15, 16, 17, 18]), (15, [1, 2, 3, 4, 5, 10, 13, 14, 15, 16, 17, 18, 94]), (16, [1, 2, 3, 4, 5, 10, 13, 14, 15, 16, 17, 18]), (17, [1, 2, 3, 4, 5, 10, 13, 14, 15, 16, 17, 18]), (18, [1, 2, 3, 4, 5, 10, 13, 14, 15, 16, 17, 18]), (19, [1, 2, 3, 4, 5, 10, 13, 14, 15, 16, 17]), (9, [1, 2, 3, 4, 5, 10, 13, 14, 15, 16, 17]), (20, [10, 13, 14, 15, 16, 119]), (21, [10, 11, 12]), (22, [10, 11, 12])], lk []⟩
noncomputable def Phi_spec_SetFlags : Tab := lk [(97, spCopyBox), (123, spBoxOk), (39, spSetOk), (38, spWithin), (40, spFlagsOk), (70, spSetHas), (124, spFlagsAfter), (110, spSetAdd)]
attribute [go_sem] T_spec_SetFlags Phi_spec_SetFlags
theorem phi_spec_SetFlags : ∀ f sp, Phi_spec_SetFlags f = some sp → FnOk Tryz.prog f sp ∧ ∀ n ∈ sp.need, n ∈ ([] : List String) := phi_cons ok_spec_l08Copy (n0 rfl) (phi_cons ok_spec_BoxOk (n0 rfl) (phi_cons ok_spec_SetOk (n0 rfl) (phi_cons ok_spec_l01In (n0 rfl) (phi_cons ok_spec_FlagsOk (n0 rfl) (phi_cons ok_spec_SetHas (n0 rfl) (phi_cons ok_spec_FlagsAfter (n0 rfl) (phi_cons ok_spec_SetAdd (n0 rfl) (phi_nil))))))))
theorem ok_spec_SetFlags : FnOk Tryz.prog 92 spSetFlags := by
  refine fn_ok (Φ := Phi_spec_SetFlags) (T := T_spec_SetFlags) phi_spec_SetFlags mixed Tryz.func92 rfl rfl rfl (by decide) ?_
  intro ins r outs hr hl
  clear hl
  have hs := spSetFlags_in hr
  clear hr
  obtain ⟨b, s, how, bits, since, rfl, hc, hr, rfl⟩ := hs
  simp only [spSetFlags, Tryz.f92, Go.VM.initS]
  obtain ⟨hc, hs⟩ := hc
  have hs8 : s.length ≤ 8388608 := by omega
  cases hk : boxOk b with
  | false =>
    have hg : setGood b s how bits since = false := by simp [setGood, setIn, hk]
    simp only [setFlags, setDone, setLate, hg, Bool.false_eq_true, if_false] at hr
    simp only [hc, hs, hk, go_sem]
    repeat' ((first | ((first | apply qa | apply qb | apply qc | apply qd | apply qe | apply qf | apply qg | apply qh | apply qi | apply qj | apply qk) <;> intro hp) | ((first | refine ql rfl rfl (by decide +kernel) ?_ | refine qm _ rfl rfl (by decide +kernel) ?_) <;> have hp := True.intro)) <;> simp only [hp, hc, hs, hk, go_sem])
    all_goals (simp only [fin_mk, finV, resL, resV1, resIn, endA, listIn, Option.some_or, Option.none_or, oneOrTup, go_sem]; rw [← hr])
    all_goals rfl
  | true =>
  cases hk2 : setOk s with
  | false =>
    have hg : setGood b s how bits since = false := by simp [setGood, setIn, hk2]
    simp only [setFlags, setDone, setLate, hg, Bool.false_eq_true, if_false] at hr
    simp only [hc, hs, hk, hk2, go_sem]
    repeat' ((first | ((first | apply qa | apply qb | apply qc | apply qd | apply qe | apply qf | apply qg | apply qh | apply qi | apply qj | apply qk) <;> intro hp) | ((first | refine ql rfl rfl (by decide +kernel) ?_ | refine qm _ rfl rfl (by decide +kernel) ?_) <;> have hp := True.intro)) <;> simp only [hp, hc, hs, hk, hk2, go_sem])
    all_goals (simp only [fin_mk, finV, resL, resV1, resIn, endA, listIn, Option.some_or, Option.none_or, oneOrTup, go_sem]; rw [← hr])
    all_goals rfl
  | true =>
  cases hk3 : within how 1 3 with
  | false =>
    have hg : setGood b s how bits since = false := by simp [setGood, setIn, hk3]
    simp only [setFlags, setDone, setLate, hg, Bool.false_eq_true, if_false] at hr
    simp only [hc, hs, hk, hk2, hk3, go_sem]
    repeat' ((first | ((first | apply qa | apply qb | apply qc | apply qd | apply qe | apply qf | apply qg | apply qh | apply qi | apply qj | apply qk) <;> intro hp) | ((first | refine ql rfl rfl (by decide +kernel) ?_ | refine qm _ rfl rfl (by decide +kernel) ?_) <;> have hp := True.intro)) <;> simp only [hp, hc, hs, hk, hk2, hk3, go_sem])
    all_goals (simp only [fin_mk, finV, resL, resV1, resIn, endA, listIn, Option.some_or, Option.none_or, oneOrTup, go_sem]; rw [← hr])
    all_goals rfl
  | true =>
  cases hk4 : flagsOk bits with
  | false =>
    have hg : setGood b s how bits since = false := by simp [setGood, setIn, hk4]
    simp only [setFlags, setDone, setLate, hg, Bool.false_eq_true, if_false] at hr
    simp only [hc, hs, hk, hk2, hk3, hk4, go_sem]
    repeat' ((first | ((first | apply qa | apply qb | apply qc | apply qd | apply qe | apply qf | apply qg | apply qh | apply qi | apply qj | apply qk) <;> intro hp) | ((first | refine ql rfl rfl (by decide +kernel) ?_ | refine qm _ rfl rfl (by decide +kernel) ?_) <;> have hp := True.intro)) <;> simp only [hp, hc, hs, hk, hk2, hk3, hk4, go_sem])
    all_goals (simp only [fin_mk, finV, resL, resV1, resIn, endA, listIn, Option.some_or, Option.none_or, oneOrTup, go_sem]; rw [← hr])
    all_goals rfl
  | true =>
    have hp := boxOk_parts hk
    have hn := numsOk_next hp.1
    have hn0 : 1 ≤ b.Mod ∧ b.Mod ≤ 100000 := by have := hp.1; simp only [numsOk, within, Bool.and_eq_true, decide_eq_true_eq] at this; omega
    have hml : b.Mails.length ≤ 30 := hp.2.1
    have w1 : IntKind.i64.wrap (b.Mod + 1) = b.Mod + 1 := wrap64 (by omega) (by omega)
    clear hp hn
    simp only [hc, hs, hk, hk2, hk3, hk4, hs8, go_sem]
    repeat' ((first | ((first | apply qa | apply qb | apply qc | apply qd | apply qe | apply qf | apply qg | apply qh | apply qi | apply qj | apply qk) <;> intro hp) | ((first | refine ql rfl rfl (by decide +kernel) ?_ | refine qm _ rfl rfl (by decide +kernel) ?_) <;> have hp := True.intro)) <;> simp only [hp, hc, hs, hk, hk2, hk3, hk4, hs8, go_sem])
    refine loop_go (fun i : Nat => [(17, .int .i64 (i : Int))]) (fun i => [(3, ⟨.arr, 2, (setOf (doneL (b.Mails.take i) s how bits since)).map Range.enc⟩), (4, ⟨.arr, 2, (setOf (lateL (b.Mails.take i) s since)).map Range.enc⟩), (5, ⟨.box, 7, [.agg [.str b.Name, .int .i64 b.Valid, .int .i64 b.Next, .int .i64 (if doneL (b.Mails.take i) s how bits since = [] then b.Mod else b.Mod + 1), .own 8, .own 9, .int .i64 b.Horizon]]⟩), (8, ⟨.arr, 4, ((b.Mails.take i).map (newM s how bits since b.Mod) ++ b.Mails.drop i).map Mail.enc⟩)]) (fun i => b.Mails.length - i) (fun i => i ≤ b.Mails.length) 0 (Nat.zero_le _) rfl (by simp only [show doneL (List.take 0 b.Mails) s how bits since = [] from rfl, show lateL (List.take 0 b.Mails) s since = [] from rfl, setOf_nil', if_true]; rfl) ?_
    intro i hi ih
    have hD : (doneL (b.Mails.take i) s how bits since).length ≤ b.Mails.length := uids_len b.Mails (chM s how bits since) i
    have hL : (lateL (b.Mails.take i) s since).length ≤ b.Mails.length := uids_len b.Mails (lateM s since) i
    rcases Nat.lt_or_ge i b.Mails.length with h | h
    · have g1 : (i : Int) < b.Mails.length := by omega
      have g2 : (0 : Int) ≤ i := by omega
      have g3 : b.Mails[i]? = some b.Mails[i] := List.getElem?_eq_getElem h
      have g5 := wrap_succ h (by omega)
      have ih' := ih (i + 1) h (by omega)
      clear ih
      rw [doneL_succ h, lateL_succ h] at ih'
      have e0 := map_get (f := newM s how bits since b.Mod) h
      have e1 := map_set (f := newM s how bits since b.Mod) h
      have e2 := map_same (f := newM s how bits since b.Mod) h
      have hin := mail_in hk h
      have hXl : ((b.Mails.take i).map (newM s how bits since b.Mod) ++ b.Mails.drop i).length = b.Mails.length := by simp; omega
      generalize hmm : b.Mails[i] = m at *
      generalize hM : (b.Mails.take i).map (newM s how bits since b.Mod) ++ b.Mails.drop i = M at *
      generalize hM' : (b.Mails.take (i + 1)).map (newM s how bits since b.Mod) ++ b.Mails.drop (i + 1) = M' at *
      generalize hDD : doneL (b.Mails.take i) s how bits since = D at *
      generalize hLL : lateL (b.Mails.take i) s since = L at *
      have g4 : (i : Int) < M.length := by omega
      have b1 := setAdd_one (S := D) (u := m.Uid) (by omega) (by omega)
      have b2 := setAdd_one (S := L) (u := m.Uid) (by omega) (by omega)
      have b3 : (setOf D).length ≤ 4194304 := Nat.le_trans (setOf_len D) (by omega)
      have b4 : (setOf L).length ≤ 4194304 := Nat.le_trans (setOf_len L) (by omega)
      have b5 := b1.1
      have b6 := b1.2
      have b7 := b2.1
      have b8 := b2.2
      clear b1 b2
      cases c1 : hasR s m.Uid with
      | false =>
        have q1 : chM s how bits since m = false := by simp [chM, c1]
        have q2 : lateM s since m = false := by simp [lateM, c1]
        have q3 := e2 (by simp [newM, q1])
        rw [q1, q2, ← q3] at ih'
        simp only [Bool.false_eq_true, if_false, List.append_nil] at ih'
        clear e1 e2
        simp only [g1, g2, g3, g4, g5, w1, e0, hXl, hs8, c1, go_sem]
        repeat' ((first | ((first | apply qa | apply qb | apply qc | apply qd | apply qe | apply qf | apply qg | apply qh | apply qi | apply qj | apply qk) <;> intro hp) | ((first | refine ql rfl rfl (by decide +kernel) ?_ | refine qm _ rfl rfl (by decide +kernel) ?_) <;> have hp := True.intro)) <;> simp only [hp, g1, g2, g3, g4, g5, w1, e0, hXl, hs8, c1, go_sem])
        all_goals exact ih'
      | true =>
        by_cases k1 : 0 ≤ since
        · by_cases k2 : since < m.Mod
          · have q1 : chM s how bits since m = false := by simp [chM, c1, k1, k2]
            have q2 : lateM s since m = true := by simp [lateM, c1, k1, k2]
            have q3 := e2 (by simp [newM, q1])
            rw [q1, q2, ← q3] at ih'
            simp only [Bool.false_eq_true, if_false, if_true, List.append_nil, List.map_append, List.map_cons, List.map_nil] at ih'
            clear e1 e2
            simp only [g1, g2, g3, g4, g5, w1, e0, hXl, hs8, c1, k1, k2, b3, b4, b5, b6, b7, b8, go_sem]
            repeat' ((first | ((first | apply qa | apply qb | apply qc | apply qd | apply qe | apply qf | apply qg | apply qh | apply qi | apply qj | apply qk) <;> intro hp) | ((first | refine ql rfl rfl (by decide +kernel) ?_ | refine qm _ rfl rfl (by decide +kernel) ?_) <;> have hp := True.intro)) <;> simp only [hp, g1, g2, g3, g4, g5, w1, e0, hXl, hs8, c1, k1, k2, b3, b4, b5, b6, b7, b8, go_sem])
            all_goals first | exact ih' | (clear ih'; omega)
          · have hno : (decide (0 ≤ since) && decide (since < m.Mod)) = false := by simp [k2]
            have q2 : lateM s since m = false := by simp [lateM, c1, hno]
            rw [q2] at ih'
            cases c3 : (flagsAfter m.Flags how bits != m.Flags) with
            | false =>
              have q1 : chM s how bits since m = false := by simp [chM, c1, hno, c3]
              have q3 := e2 (by simp [newM, q1])
              rw [q1, ← q3] at ih'
              simp only [Bool.false_eq_true, if_false, List.append_nil] at ih'
              clear e1 e2
              simp only [g1, g2, g3, g4, g5, w1, e0, hXl, hs8, c1, c3, k1, k2, go_sem]
              repeat' ((first | ((first | apply qa | apply qb | apply qc | apply qd | apply qe | apply qf | apply qg | apply qh | apply qi | apply qj | apply qk) <;> intro hp) | ((first | refine ql rfl rfl (by decide +kernel) ?_ | refine qm _ rfl rfl (by decide +kernel) ?_) <;> have hp := True.intro)) <;> simp only [hp, g1, g2, g3, g4, g5, w1, e0, hXl, hs8, c1, c3, k1, k2, go_sem])
              all_goals exact ih'
            | true =>
              have q1 : chM s how bits since m = true := by simp only [chM, c1, hno, c3]; rfl
              have q4 : newM s how bits since b.Mod m = ⟨m.Uid, flagsAfter m.Flags how bits, b.Mod + 1, m.Text⟩ := by simp only [newM, q1, if_true]
              rw [q4] at e1
              rw [q1, ← e1] at ih'
              simp only [Bool.false_eq_true, if_false, if_true, List.append_nil, List.map_append, List.map_cons, List.map_nil, List.map_set, Mail.enc, List.append_eq_nil_iff, reduceCtorEq, and_false] at ih'
              clear e1 e2
              generalize hF : flagsAfter m.Flags how bits = F at *
              have hgs : ∀ y : V, ((List.map Mail.enc M).set i y)[i]? = some y := fun y => List.getElem?_set_self (by rw [List.length_map]; omega)
              simp only [g1, g2, g3, g4, g5, w1, e0, hXl, hs8, c1, c3, k1, k2, b3, b4, b5, b6, b7, b8, hF, hgs, List.set_set, go_sem]
              repeat' ((first | ((first | apply qa | apply qb | apply qc | apply qd | apply qe | apply qf | apply qg | apply qh | apply qi | apply qj | apply qk) <;> intro hp) | ((first | refine ql rfl rfl (by decide +kernel) ?_ | refine qm _ rfl rfl (by decide +kernel) ?_) <;> have hp := True.intro)) <;> simp only [hp, g1, g2, g3, g4, g5, w1, e0, hXl, hs8, c1, c3, k1, k2, b3, b4, b5, b6, b7, b8, hF, hgs, List.set_set, go_sem])
              all_goals first | exact ih' | (clear ih'; omega)
        · have hno : (decide (0 ≤ since) && decide (since < m.Mod)) = false := by simp [k1]
          have q2 : lateM s since m = false := by simp [lateM, c1, hno]
          rw [q2] at ih'
          cases c3 : (flagsAfter m.Flags how bits != m.Flags) with
          | false =>
            have q1 : chM s how bits since m = false := by simp [chM, c1, hno, c3]
            have q3 := e2 (by simp [newM, q1])
            rw [q1, ← q3] at ih'
            simp only [Bool.false_eq_true, if_false, List.append_nil] at ih'
            clear e1 e2
            simp only [g1, g2, g3, g4, g5, w1, e0, hXl, hs8, c1, c3, k1, go_sem]
            repeat' ((first | ((first | apply qa | apply qb | apply qc | apply qd | apply qe | apply qf | apply qg | apply qh | apply qi | apply qj | apply qk) <;> intro hp) | ((first | refine ql rfl rfl (by decide +kernel) ?_ | refine qm _ rfl rfl (by decide +kernel) ?_) <;> have hp := True.intro)) <;> simp only [hp, g1, g2, g3, g4, g5, w1, e0, hXl, hs8, c1, c3, k1, go_sem])
            all_goals exact ih'
          | true =>
            have q1 : chM s how bits since m = true := by simp only [chM, c1, hno, c3]; rfl
            have q4 : newM s how bits since b.Mod m = ⟨m.Uid, flagsAfter m.Flags how bits, b.Mod + 1, m.Text⟩ := by simp only [newM, q1, if_true]
            rw [q4] at e1
            rw [q1, ← e1] at ih'
            simp only [Bool.false_eq_true, if_false, if_true, List.append_nil, List.map_append, List.map_cons, List.map_nil, List.map_set, Mail.enc, List.append_eq_nil_iff, reduceCtorEq, and_false] at ih'
            clear e1 e2
            generalize hF : flagsAfter m.Flags how bits = F at *
            have hgs : ∀ y : V, ((List.map Mail.enc M).set i y)[i]? = some y := fun y => List.getElem?_set_self (by rw [List.length_map]; omega)
            simp only [g1, g2, g3, g4, g5, w1, e0, hXl, hs8, c1, c3, k1, b3, b4, b5, b6, b7, b8, hF, hgs, List.set_set, go_sem]
            repeat' ((first | ((first | apply qa | apply qb | apply qc | apply qd | apply qe | apply qf | apply qg | apply qh | apply qi | apply qj | apply qk) <;> intro hp) | ((first | refine ql rfl rfl (by decide +kernel) ?_ | refine qm _ rfl rfl (by decide +kernel) ?_) <;> have hp := True.intro)) <;> simp only [hp, g1, g2, g3, g4, g5, w1, e0, hXl, hs8, c1, c3, k1, b3, b4, b5, b6, b7, b8, hF, hgs, List.set_set, go_sem])
            all_goals first | exact ih' | (clear ih'; omega)
    · have g1 : ¬ (i : Int) < b.Mails.length := by omega
      rw [List.take_of_length_le h] at hD hL ⊢
      rw [List.drop_of_length_le h, List.append_nil]
      have hMl : (b.Mails.map (newM s how bits since b.Mod)).length = b.Mails.length := List.length_map _
      have hle := newM_le hc s how bits since
      have hO : setOut b s how bits since = ⟨b.Name, b.Valid, b.Next, if doneL b.Mails s how bits since = [] then b.Mod else b.Mod + 1, b.Mails.map (newM s how bits since b.Mod), b.Tombs, b.Horizon⟩ := rfl
      have hG : setGood b s how bits since = boxOk (setOut b s how bits since) := by rw [setGood, setIn, hk, hk2, hk3, hk4]; rfl
      simp only [setFlags, setDone, setLate, hG] at hr
      clear hG ih
      rw [hO] at hr
      generalize hMM : b.Mails.map (newM s how bits since b.Mod) = M at *
      generalize hDD : doneL b.Mails s how bits since = D at *
      generalize hLL : lateL b.Mails s since = L at *
      have g2 : ¬ (i : Int) < M.length := by omega
      by_cases hd : D = []
      · rw [if_pos hd] at hr ⊢
        
        cases hB : boxOk ⟨b.Name, b.Valid, b.Next, b.Mod, M, b.Tombs, b.Horizon⟩ with
        | false =>
          rw [hB] at hr
          simp only [Bool.false_eq_true, if_false] at hr
          simp only [g1, g2, hMl, hle, hB, hc, w1, go_sem]
          repeat' ((first | ((first | apply qa | apply qb | apply qc | apply qd | apply qe | apply qf | apply qg | apply qh | apply qi | apply qj | apply qk) <;> intro hp) | ((first | refine ql rfl rfl (by decide +kernel) ?_ | refine qm _ rfl rfl (by decide +kernel) ?_) <;> have hp := True.intro)) <;> simp only [hp, g1, g2, hMl, hle, hB, hc, w1, go_sem])
          all_goals (simp only [fin_mk, finV, resL, resV1, resIn, endA, listIn, Option.some_or, Option.none_or, oneOrTup, go_sem]; rw [← hr])
          all_goals rfl
        | true =>
          rw [hB] at hr
          simp only [if_true] at hr
          
          simp only [g1, g2, hMl, hle, hB, hc, w1, go_sem]
          
          repeat' ((first | ((first | apply qa | apply qb | apply qc | apply qd | apply qe | apply qf | apply qg | apply qh | apply qi | apply qj | apply qk) <;> intro hp) | ((first | refine ql rfl rfl (by decide +kernel) ?_ | refine qm _ rfl rfl (by decide +kernel) ?_) <;> have hp := True.intro)) <;> simp only [hp, g1, g2, hMl, hle, hB, hc, w1, go_sem])
          all_goals (simp only [fin_mk, finV, resL, resV1, resIn, endA, listIn, Option.some_or, Option.none_or, oneOrTup, go_sem]; rw [← hr])
          all_goals rfl
      · rw [if_neg hd] at hr ⊢
        
        cases hB : boxOk ⟨b.Name, b.Valid, b.Next, b.Mod + 1, M, b.Tombs, b.Horizon⟩ with
        | false =>
          rw [hB] at hr
          simp only [Bool.false_eq_true, if_false] at hr
          simp only [g1, g2, hMl, hle, hB, hc, w1, go_sem]
          repeat' ((first | ((first | apply qa | apply qb | apply qc | apply qd | apply qe | apply qf | apply qg | apply qh | apply qi | apply qj | apply qk) <;> intro hp) | ((first | refine ql rfl rfl (by decide +kernel) ?_ | refine qm _ rfl rfl (by decide +kernel) ?_) <;> have hp := True.intro)) <;> simp only [hp, g1, g2, hMl, hle, hB, hc, w1, go_sem])
          all_goals (simp only [fin_mk, finV, resL, resV1, resIn, endA, listIn, Option.some_or, Option.none_or, oneOrTup, go_sem]; rw [← hr])
          all_goals rfl
        | true =>
          rw [hB] at hr
          simp only [if_true] at hr
          
          simp only [g1, g2, hMl, hle, hB, hc, w1, go_sem]
          
          repeat' ((first | ((first | apply qa | apply qb | apply qc | apply qd | apply qe | apply qf | apply qg | apply qh | apply qi | apply qj | apply qk) <;> intro hp) | ((first | refine ql rfl rfl (by decide +kernel) ?_ | refine qm _ rfl rfl (by decide +kernel) ?_) <;> have hp := True.intro)) <;> simp only [hp, g1, g2, hMl, hle, hB, hc, w1, go_sem])
          all_goals (simp only [fin_mk, finV, resL, resV1, resIn, endA, listIn, Option.some_or, Option.none_or, oneOrTup, go_sem]; rw [← hr])
          all_goals rfl
end Go.Proofs.YtonjbbfgdloljaaGreatDoor.L

namespace Go.Proofs.YtonjbbfgdloljaaGreatDoor.L
open Go Go.VM
set_option maxRecDepth 100000
set_option maxHeartbeats 4000000
set_option linter.unusedSimpArgs false
set_option linter.unusedVariables false
def vanU (l : List Tomb) (since : Int) : List Int := (l.filter fun t => decide (since < t.Mod)).map (·.Uid)
theorem tomb_at {b : Box} (h : boxOk b = true) {i : Nat} (hi : i < b.Tombs.length) : 1 ≤ b.Tombs[i].Uid ∧ b.Tombs[i].Uid ≤ 9999 ∧ hasTomb (b.Tombs.take i) b.Tombs[i].Uid = false := by
  have hn := numsOk_next (boxOk_parts h).1
  simp only [boxOk, tombsOk, Bool.and_eq_true] at h
  have h2 := allN_get h.2.1 hi
  simp only [tombAtOk, tombIn, Bool.and_eq_true, within, decide_eq_true_eq, List.getD_eq_getElem?_getD, List.getElem?_eq_getElem hi, Option.getD_some, Bool.not_eq_true'] at h2
  exact ⟨h2.1.1.1.1.1, by omega, h2.1.1.2⟩
theorem tombs_ne {b : Box} (h : boxOk b = true) : (b.Tombs.map (·.Uid)).Pairwise (· ≠ ·) := by
  rw [List.pairwise_map, List.pairwise_iff_getElem]
  intro i j hi hj hij e
  have h2 := (tomb_at h hj).2.2
  rw [hasTomb, List.any_eq_false] at h2
  have := h2 b.Tombs[i] (List.mem_take_iff_getElem.2 ⟨i, by omega, rfl⟩)
  apply this
  rw [beq_iff_eq]; exact e
def vanOk (b : Box) (since : Int) : Bool := boxOk b && !decide (since < b.Horizon)
def vanished (b : Box) (since : Int) : List Range := if vanOk b since = true then setOf (vanU b.Tombs since) else []
end Go.Proofs.YtonjbbfgdloljaaGreatDoor.L

namespace Go.Proofs.YtonjbbfgdloljaaGreatDoor.L
open Go Go.VM
set_option maxRecDepth 100000
set_option maxHeartbeats 4000000
set_option linter.unusedSimpArgs false
set_option linter.unusedVariables false
open Classical in
noncomputable def spForgotten : VM.Spec := { modes := [.rd, .rd], run := fun | [t', .rptr (.int .i64 u)] => (Tomb.dec t').bind fun t => some (.bool (decide (t.Mod ≤ u)), []) | _ => none, need := [] }
attribute [go_sem] spForgotten
end Go.Proofs.YtonjbbfgdloljaaGreatDoor.L

namespace Go.Proofs.YtonjbbfgdloljaaGreatDoor.L
open Go Go.VM
set_option maxRecDepth 100000
set_option maxHeartbeats 4000000
set_option linter.unusedSimpArgs false
set_option linter.unusedVariables false
def goneI (s : List Range) (m : Mail) : Bool := hasR s m.Uid && (IntKind.i64.wrap (BitVec.ofInt 64 m.Flags &&& BitVec.ofInt 64 8).toNat != 0)
open Classical in
noncomputable def spGone : VM.Spec := { modes := [.rd, .rd], run := fun | [m', .rptr (.lst 2 u')] => (Mail.dec m').bind fun m => (decL Range.dec u').bind fun u => if u.length ≤ 4194304 then some (.bool (goneI u m), []) else none | _ => none, need := [] }
attribute [go_sem] spGone
open Classical in
noncomputable def spLeast : VM.Spec := { modes := [.rd, .rd], run := fun | [t', .rptr (.int .i64 u)] => (Tomb.dec t').bind fun t => some (.bool ((t.Mod == u)), []) | _ => none, need := [] }
attribute [go_sem] spLeast
end Go.Proofs.YtonjbbfgdloljaaGreatDoor.L

namespace Go.Proofs.YtonjbbfgdloljaaGreatDoor.L
open Go Go.VM
set_option maxRecDepth 100000
set_option maxHeartbeats 4000000
set_option linter.unusedSimpArgs false
set_option linter.unusedVariables false
theorem and8_some : ∀ a : Fin 32, (IntKind.i64.wrap (BitVec.ofInt 64 (a.val : Int) &&& BitVec.ofInt 64 8).toNat != 0) = decide ((0 : Int) < ((a.val &&& 8 : Nat) : Int)) := by decide +kernel
theorem and8 {a : Int} (h : flagsOk a = true) : (IntKind.i64.wrap (BitVec.ofInt 64 a &&& BitVec.ofInt 64 8).toNat != 0) = decide (0 < andN a 8) := by
  have ha := flags_in h
  obtain ⟨x, rfl⟩ : ∃ x : Nat, a = x := ⟨a.toNat, by omega⟩
  exact and8_some ⟨x, by omega⟩
theorem goneI_eq {s : List Range} {m : Mail} (h : flagsOk m.Flags = true) : goneI s m = (hasR s m.Uid && decide (0 < andN m.Flags 8)) := by rw [goneI, and8 h]
def goneU (l : List Mail) (s : List Range) : List Int := (l.filter (goneI s)).map (·.Uid)
def addTs (l : List Mail) (s : List Range) (md : Int) : List Tomb := (l.filter (goneI s)).map fun m => ⟨m.Uid, md⟩
theorem goneU_succ {l : List Mail} {s : List Range} {i : Nat} (h : i < l.length) : goneU (l.take (i + 1)) s = goneU (l.take i) s ++ (if goneI s l[i] = true then [l[i].Uid] else []) := by
  rw [goneU, filter_succ h, List.map_append]; congr 1; split <;> rfl
theorem addTs_succ {l : List Mail} {s : List Range} {md : Int} {i : Nat} (h : i < l.length) : addTs (l.take (i + 1)) s md = addTs (l.take i) s md ++ (if goneI s l[i] = true then [⟨l[i].Uid, md⟩] else []) := by
  rw [addTs, filter_succ h, List.map_append]; congr 1; split <;> rfl
theorem goneU_len (l : List Mail) (s : List Range) : (goneU l s).length ≤ l.length := by rw [goneU, List.length_map]; exact List.length_filter_le _ _
theorem addTs_len (l : List Mail) (s : List Range) (md : Int) : (addTs l s md).length ≤ l.length := by rw [addTs, List.length_map]; exact List.length_filter_le _ _
theorem trim_lt (t : Tomb) (l : List Tomb) : ((t :: l).filter fun x => !(x.Mod == t.Mod)).length < (t :: l).length := by
  have := List.length_filter_le (fun x : Tomb => !(x.Mod == t.Mod)) l
  rw [List.filter_cons]
  simp only [beq_self_eq_true, Bool.not_true, Bool.false_eq_true, if_false, List.length_cons]
  omega
def trimT : List Tomb → Int → List Tomb × Int
  | [], h => ([], h)
  | t :: l, h => if 40 < (t :: l).length then trimT ((t :: l).filter fun x => !(x.Mod == t.Mod)) t.Mod else (t :: l, h)
termination_by l => l.length
decreasing_by exact trim_lt t l
theorem trimT_end {l : List Tomb} {h : Int} (hl : ¬ 40 < l.length) : trimT l h = (l, h) := by
  cases l with
  | nil => rw [trimT]
  | cons t l => rw [trimT, if_neg hl]
theorem trimT_step {t : Tomb} {l : List Tomb} {h : Int} (hl : 40 < (t :: l).length) : trimT (t :: l) h = trimT ((t :: l).filter fun x => !(x.Mod == t.Mod)) t.Mod := by rw [trimT, if_pos hl]
def exMails (b : Box) (s : List Range) : List Mail := b.Mails.filter fun m => !goneI s m
def exTombs (b : Box) (s : List Range) : List Tomb × Int := trimT (b.Tombs ++ addTs b.Mails s (b.Mod + 1)) b.Horizon
def exOut (b : Box) (s : List Range) : Box := ⟨b.Name, b.Valid, b.Next, b.Mod + 1, exMails b s, (exTombs b s).1, (exTombs b s).2⟩
def exGood (b : Box) (s : List Range) : Bool := boxOk b && setOk s && !(goneU b.Mails s).isEmpty && boxOk (exOut b s)
def expunge (b : Box) (s : List Range) : Box := if exGood b s = true then exOut b s else b
def exGone (b : Box) (s : List Range) : List Range := if exGood b s = true then setOf (goneU b.Mails s) else []
theorem exOut_le {b : Box} {s : List Range} {md : Int} {ts : List Tomb} {hz : Int} (h : b.le 4194304) (ht : ts.length ≤ 4194304) : Box.le 4194304 ⟨b.Name, b.Valid, b.Next, md, exMails b s, ts, hz⟩ := by
  refine ⟨h.1, ⟨Nat.le_trans (List.length_filter_le _ _) h.2.1.1, fun m hm => h.2.1.2 m (List.mem_filter.1 hm).1⟩, ⟨ht, fun _ _ => trivial⟩⟩
open Classical in
noncomputable def spExpunge : VM.Spec := { modes := [.rd, .rd], run := fun | [b', .lst 2 s'] => (Box.dec b').bind fun b => (decL Range.dec s').bind fun s => if b.le 4194304 ∧ s.length ≤ 4194304 then some (.tup [Box.enc (expunge b s), .lst 2 ((exGone b s).map Range.enc)], []) else none | _ => none, need := [] }
attribute [go_sem] spExpunge
theorem spExpunge_in {ins : List V} {r : V} {outs : List V} (h : spExpunge.run ins = some (r, outs)) : ∃ (b : Box) (s : (List Range)), ins = [Box.enc b, .lst 2 ((s).map Range.enc)] ∧ (b.le 4194304 ∧ s.length ≤ 4194304) ∧ .tup [Box.enc (expunge b s), .lst 2 ((exGone b s).map Range.enc)] = r ∧ outs = [] := by
  unfold spExpunge at h
  simp only at h
  split at h
  · rename_i b' s'
    simp only [Option.bind_eq_some_iff] at h
    obtain ⟨b, h_b, s, h_s, h⟩ := h
    split at h
    case isFalse => cases h
    rename_i hc
    simp only [Option.some.injEq, Prod.mk.injEq] at h
    obtain ⟨h1, h2⟩ := h
    have h_b := Box.dec_some h_b
    subst h_b
    have h_s := decL_some (fun _ _ h => Range.dec_some h) h_s
    subst h_s
    exact ⟨b, s, rfl, hc, h1, h2.symm⟩
  · cases h
theorem drop_eq {m : Int} : ∀ {l : List Tomb}, l.Pairwise (fun x y => x.Mod ≤ y.Mod) → (∀ x ∈ l, m ≤ x.Mod) → l.filter (fun x => !(x.Mod == m)) = l.dropWhile fun x => decide (x.Mod ≤ m)
  | [], _, _ => rfl
  | x :: l, hp, hm => by
    rw [List.pairwise_cons] at hp
    have hx := hm x (by simp)
    by_cases e : x.Mod = m
    · have e1 : (x.Mod == m) = true := by rw [e]; exact beq_self_eq_true _
      have e2 : decide (x.Mod ≤ m) = true := by rw [decide_eq_true_eq]; omega
      rw [List.filter_cons, List.dropWhile_cons, e1, e2]
      simp only [Bool.not_true, Bool.false_eq_true, if_false, if_true]
      exact drop_eq hp.2 fun y hy => hm y (by simp [hy])
    · have e2 : decide (x.Mod ≤ m) = false := by rw [decide_eq_false_iff_not]; omega
      rw [List.dropWhile_cons, e2]
      simp only [Bool.false_eq_true, if_false]
      rw [List.filter_eq_self]
      intro y hy
      have : m < y.Mod := by
        rcases List.mem_cons.1 hy with rfl | hy
        · omega
        · have := hp.1 y hy; omega
      have e3 : (y.Mod == m) = false := by rw [beq_eq_false_iff_ne]; omega
      rw [e3]; rfl
theorem tomb_of {b : Box} (h : boxOk b = true) {i : Nat} (hi : i < b.Tombs.length) : tombAtOk b i = true := by
  simp only [boxOk, tombsOk, Bool.and_eq_true] at h
  exact allN_get h.2.1 hi
theorem sorted_of_adj : ∀ {l : List Int}, (∀ i, (h : i + 1 < l.length) → l[i] ≤ l[i + 1]) → l.Pairwise (· ≤ ·)
  | [], _ => List.Pairwise.nil
  | [x], _ => List.pairwise_singleton _ _
  | x :: y :: t, h => by
    have h1 : (y :: t).Pairwise (· ≤ ·) := sorted_of_adj fun i hi => by
      have := h (i + 1) (by simpa using hi)
      simpa using this
    have h2 : x ≤ y := by simpa using h 0 (by simp)
    refine List.Pairwise.cons (fun z hz => ?_) h1
    rcases List.mem_cons.1 hz with rfl | hz
    · exact h2
    · exact Int.le_trans h2 ((List.pairwise_cons.1 h1).1 z hz)
theorem tombs_sorted {b : Box} (h : boxOk b = true) : b.Tombs.Pairwise (fun x y => x.Mod ≤ y.Mod) ∧ ∀ x ∈ b.Tombs, x.Mod ≤ b.Mod := by
  constructor
  · have h1 : (b.Tombs.map (·.Mod)).Pairwise (· ≤ ·) := sorted_of_adj fun i hi => by
      rw [List.length_map] at hi
      have h2 := tomb_of h hi
      simp only [tombAtOk, tombOrd, Bool.and_eq_true, Bool.or_eq_true, Bool.not_eq_true', Bool.or_eq_false_iff, decide_eq_false_iff_not, List.getD_eq_getElem?_getD, List.getElem?_eq_getElem hi, Option.getD_some, Nat.add_sub_cancel, List.getElem?_eq_getElem (show i < b.Tombs.length by omega)] at h2
      simp only [List.getElem_map]
      rcases h2.2 with h3 | h3
      · simp at h3
      · omega
    rwa [List.pairwise_map] at h1
  · intro x hx
    obtain ⟨i, hi, rfl⟩ := List.mem_iff_getElem.1 hx
    have h2 := tomb_of h hi
    simp only [tombAtOk, tombIn, Bool.and_eq_true, within, decide_eq_true_eq, List.getD_eq_getElem?_getD, List.getElem?_eq_getElem hi, Option.getD_some] at h2
    exact h2.1.1.1.2.2
theorem added_sorted {b : Box} {s : List Range} (h : boxOk b = true) : (b.Tombs ++ addTs b.Mails s (b.Mod + 1)).Pairwise (fun x y => x.Mod ≤ y.Mod) := by
  obtain ⟨h1, h2⟩ := tombs_sorted h
  have h3 : ∀ x ∈ addTs b.Mails s (b.Mod + 1), x.Mod = b.Mod + 1 := by
    intro x hx
    obtain ⟨m, _, rfl⟩ := List.mem_map.1 hx
    rfl
  refine List.pairwise_append.2 ⟨h1, ?_, fun x hx y hy => ?_⟩
  · refine List.Pairwise.imp_of_mem (R := fun _ _ => True) (fun {x y} hx hy _ => ?_) (List.pairwise_of_forall fun _ _ => trivial)
    rw [h3 x hx, h3 y hy]; exact Int.le_refl _
  · have := h2 x hx
    rw [h3 y hy]; omega
theorem setOf_len0 {S : List Int} (h : Asc S 9999) : ((setOf S).length = 0) ↔ S = [] := by
  constructor
  · intro h0
    cases S with
    | nil => rfl
    | cons x l =>
      exfalso
      have hx := h.2 x (by simp)
      have := setOf_has (x :: l) x (by omega)
      rw [List.eq_nil_of_length_eq_zero h0] at this
      simp [hasR] at this
  · rintro rfl; rw [setOf_nil']; rfl
def T_spec_Expunge : Hints := ⟨lk [(20, [])], lk [(9, [1, 2, 4, 6, 7, 8, 9]), (18, [4, 6, 7, 8]), (20, [4, 6, 7, 8])], lk [(0, [1, 2, 4]), (1, [1, 2, 4, 6]), (2, [1, 2, 4, 6, 7]), (3, [1, 2, 4, 6, 7, 21]), (4, [4, 5]), (5, [1, 2, 4, 6, 7, 8]), (6, [1, 2, 4, 6, 7, 8]), (7, [1, 2, 4, 6, 7, 8]), (8, [1, 2, 4, 6, 7, 8, 9]), (9, [1, 2, 4, 6, 7, 8, 9, 36]), (11, [1, 2, 4, 6, 7, 8, 9, 10]), (12, [1, 2, 4, 6, 7, 8, 9, 10, 53]), (13, [1, 2, 4, 6, 7, 8, 9, 10]), (14, [1, 2, 4, 6, 7, 8, 9]), (15, [1, 2, 4, 6, 7, 8, 9]), (10, [1, 2, 4, 6, 7, 8, 9]), (16, [4, 6, 7, 8, 81]), (17, [4, 5]), (18, [4, 6, 7, 8, 87]), (19, [4, 6, 7, 8]), (20, [4, 6, 7, 8, 107]), (21, [4, 6, 7, 8]), (22, [4, 6, 7, 8, 116]), (23, [4, 5]), (24, [4, 5])], lk []⟩
noncomputable def Phi_spec_Expunge : Tab := lk [(123, spBoxOk), (39, spSetOk), (97, spCopyBox), (70, spSetHas), (65, spAnd), (110, spSetAdd)]
attribute [go_sem] T_spec_Expunge Phi_spec_Expunge
theorem phi_spec_Expunge : ∀ f sp, Phi_spec_Expunge f = some sp → FnOk Tryz.prog f sp ∧ ∀ n ∈ sp.need, n ∈ ([] : List String) := phi_cons ok_spec_BoxOk (n0 rfl) (phi_cons ok_spec_SetOk (n0 rfl) (phi_cons ok_spec_l08Copy (n0 rfl) (phi_cons ok_spec_SetHas (n0 rfl) (phi_cons ok_spec_l06And (n0 rfl) (phi_cons ok_spec_SetAdd (n0 rfl) (phi_nil))))))
theorem ok_spec_Expunge : FnOk Tryz.prog 94 spExpunge := by
  refine fn_ok (Φ := Phi_spec_Expunge) (T := T_spec_Expunge) phi_spec_Expunge mixed Tryz.func94 rfl rfl rfl (by decide) ?_
  intro ins r outs hr hl
  clear hl
  have hs := spExpunge_in hr
  clear hr
  obtain ⟨b, s, rfl, hc, hr, rfl⟩ := hs
  simp only [spExpunge, Tryz.f94, Go.VM.initS]
  obtain ⟨hc, hs⟩ := hc
  cases k1 : boxOk b with
  | false =>
    have hg : exGood b s = false := by simp [exGood, k1]
    simp only [hc, hs, k1, go_sem]
    repeat' ((first | ((first | apply qa | apply qb | apply qc | apply qd | apply qe | apply qf | apply qg | apply qh | apply qi | apply qj | apply qk) <;> intro hp) | ((first | refine ql rfl rfl (by decide +kernel) ?_ | refine qm _ rfl rfl (by decide +kernel) ?_) <;> have hp := True.intro)) <;> simp only [hp, hc, hs, k1, go_sem])
    simp only [fin_mk, finV, resL, resV1, resIn, endA, listIn, Option.some_or, Option.none_or, oneOrTup, go_sem]
    rw [← hr]
    simp only [expunge, exGone, hg, Bool.false_eq_true, if_false]; rfl
  | true =>
  cases k2 : setOk s with
  | false =>
    have hg : exGood b s = false := by simp [exGood, k2]
    simp only [hc, hs, k1, k2, go_sem]
    repeat' ((first | ((first | apply qa | apply qb | apply qc | apply qd | apply qe | apply qf | apply qg | apply qh | apply qi | apply qj | apply qk) <;> intro hp) | ((first | refine ql rfl rfl (by decide +kernel) ?_ | refine qm _ rfl rfl (by decide +kernel) ?_) <;> have hp := True.intro)) <;> simp only [hp, hc, hs, k1, k2, go_sem])
    simp only [fin_mk, finV, resL, resV1, resIn, endA, listIn, Option.some_or, Option.none_or, oneOrTup, go_sem]
    rw [← hr]
    simp only [expunge, exGone, hg, Bool.false_eq_true, if_false]; rfl
  | true =>
  have hp := boxOk_parts k1
  have hml := hp.2.1
  have htl := hp.2.2.1
  have hn := numsOk_next hp.1
  have w1 : IntKind.i64.wrap (b.Mod + 1) = b.Mod + 1 := wrap64 (by omega) (by omega)
  have f8 : flagsOk 8 = true := by decide
  have hs8 : s.length ≤ 8388608 := by omega
  simp only [hc, hs, k1, k2, w1, go_sem]
  repeat' ((first | ((first | apply qa | apply qb | apply qc | apply qd | apply qe | apply qf | apply qg | apply qh | apply qi | apply qj | apply qk) <;> intro hp) | ((first | refine ql rfl rfl (by decide +kernel) ?_ | refine qm _ rfl rfl (by decide +kernel) ?_) <;> have hp := True.intro)) <;> simp only [hp, hc, hs, k1, k2, w1, go_sem])
  refine loop_go (fun p : Nat × List Int × List Tomb × List Mail => [(9, .int .i64 (p.1 : Int))]) (fun p => [(3, ⟨.arr, 2, (setOf p.2.1).map Range.enc⟩), (7, ⟨.arr, 4, p.2.2.2.map Mail.enc⟩), (8, ⟨.arr, 2, p.2.2.1.map Tomb.enc⟩)]) (fun p => b.Mails.length - p.1)
    (fun p => p.1 ≤ b.Mails.length ∧ p.2.1 = goneU (b.Mails.take p.1) s ∧ p.2.2.1 = b.Tombs ++ addTs (b.Mails.take p.1) s (b.Mod + 1) ∧ p.2.2.2 = (b.Mails.take p.1).filter fun m => !goneI s m) (0, [], b.Tombs, []) ⟨Nat.zero_le _, rfl, by simp [addTs], rfl⟩ rfl (by rw [setOf_nil']; rfl) ?_
  rintro ⟨i, U, Ts, Ms⟩ ⟨hi, hU, hT, hM⟩ ih
  simp only at hi hU hT hM ih
  have lU : U.length ≤ i := by
    have := goneU_len (b.Mails.take i) s
    rw [← hU, List.length_take] at this; omega
  have lT : Ts.length ≤ 70 := by
    have := addTs_len (b.Mails.take i) s (b.Mod + 1)
    rw [hT, List.length_append]
    rw [List.length_take] at this; omega
  have lM : Ms.length ≤ 30 := by
    have := List.length_filter_le (fun m => !goneI s m) (b.Mails.take i)
    rw [← hM, List.length_take] at this; omega
  have lS := setOf_len U
  rcases Nat.lt_or_ge i b.Mails.length with h | h
  · have g1 : (i : Int) < b.Mails.length := by omega
    have g2 : (0 : Int) ≤ i := by omega
    have g3 : b.Mails[i]? = some b.Mails[i] := List.getElem?_eq_getElem h
    have g5 := wrap_succ h (by omega)
    have u1 : (setOf U).length ≤ 4194304 := by omega
    have t1 : (Ts.length + 1) * 16 ≤ 140737488355328 := by omega
    have t2 : Ts.length + 1 ≤ 9223372036854775807 := by omega
    have m1 : (Ms.length + 1) * 40 ≤ 140737488355328 := by omega
    have m2 : Ms.length + 1 ≤ 9223372036854775807 := by omega
    have hin := mail_in k1 h
    have hG := goneI_eq (s := s) hin.2.2
    cases hq : goneI s b.Mails[i] with
    | true =>
      rw [hq, eq_comm, Bool.and_eq_true, decide_eq_true_eq] at hG
      obtain ⟨q1, q2⟩ := hG
      have hadd := setAdd_one (S := U) (u := b.Mails[i].Uid) (by omega) (by omega)
      have ih' := ih (i + 1, U ++ [b.Mails[i].Uid], Ts ++ [⟨b.Mails[i].Uid, b.Mod + 1⟩], Ms) ⟨h, by rw [goneU_succ h, ← hU, if_pos hq], by rw [addTs_succ h, ← List.append_assoc, ← hT, if_pos hq], by rw [filter_succ h, ← hM, if_neg (by rw [hq]; simp), List.append_nil]⟩ (by simp only; omega)
      simp only [List.map_append] at ih'
      simp only [g1, g2, g3, g5, hs8, q1, q2, f8, hin.2.2, u1, hadd.2, t1, t2, and_self, go_sem]
      repeat' ((first | ((first | apply qa | apply qb | apply qc | apply qd | apply qe | apply qf | apply qg | apply qh | apply qi | apply qj | apply qk) <;> intro hp) | ((first | refine ql rfl rfl (by decide +kernel) ?_ | refine qm _ rfl rfl (by decide +kernel) ?_) <;> have hp := True.intro)) <;> simp only [hp, g1, g2, g3, g5, hs8, q1, q2, f8, hin.2.2, u1, hadd.2, t1, t2, and_self, go_sem])
      exact ih'
    | false =>
      have ih' := ih (i + 1, U, Ts, Ms ++ [b.Mails[i]]) ⟨h, by rw [goneU_succ h, ← hU, if_neg (by rw [hq]; simp), List.append_nil], by rw [addTs_succ h, ← List.append_assoc, ← hT, if_neg (by rw [hq]; simp), List.append_nil], by rw [filter_succ h, ← hM, if_pos (by rw [hq]; rfl)]⟩ (by simp only; omega)
      simp only [List.map_append] at ih'
      rw [hq] at hG
      cases q1 : hasR s b.Mails[i].Uid with
      | false =>
        simp only [g1, g2, g3, g5, hs8, q1, m1, m2, go_sem]
        repeat' ((first | ((first | apply qa | apply qb | apply qc | apply qd | apply qe | apply qf | apply qg | apply qh | apply qi | apply qj | apply qk) <;> intro hp) | ((first | refine ql rfl rfl (by decide +kernel) ?_ | refine qm _ rfl rfl (by decide +kernel) ?_) <;> have hp := True.intro)) <;> simp only [hp, g1, g2, g3, g5, hs8, q1, m1, m2, go_sem])
        exact ih'
      | true =>
        rw [q1, Bool.true_and, eq_comm, decide_eq_false_iff_not] at hG
        simp only [g1, g2, g3, g5, hs8, q1, hG, f8, hin.2.2, m1, m2, and_self, go_sem]
        repeat' ((first | ((first | apply qa | apply qb | apply qc | apply qd | apply qe | apply qf | apply qg | apply qh | apply qi | apply qj | apply qk) <;> intro hp) | ((first | refine ql rfl rfl (by decide +kernel) ?_ | refine qm _ rfl rfl (by decide +kernel) ?_) <;> have hp := True.intro)) <;> simp only [hp, g1, g2, g3, g5, hs8, q1, hG, f8, hin.2.2, m1, m2, and_self, go_sem])
        exact ih'
  · have g1 : ¬ (i : Int) < b.Mails.length := by omega
    rw [List.take_of_length_le h] at hU hT hM
    clear ih
    have hA : Asc U 9999 := by rw [hU]; exact filter_asc k1 _
    by_cases hz : U = []
    · have e1 : (((setOf U).length : Int) == 0) = true := by rw [hz, setOf_nil']; rfl
      have hg : exGood b s = false := by simp [exGood, ← hU, hz]
      simp only [g1, e1, go_sem]
      repeat' ((first | ((first | apply qa | apply qb | apply qc | apply qd | apply qe | apply qf | apply qg | apply qh | apply qi | apply qj | apply qk) <;> intro hp) | ((first | refine ql rfl rfl (by decide +kernel) ?_ | refine qm _ rfl rfl (by decide +kernel) ?_) <;> have hp := True.intro)) <;> simp only [hp, g1, e1, go_sem])
      simp only [fin_mk, finV, resL, resV1, resIn, endA, listIn, Option.some_or, Option.none_or, oneOrTup, go_sem]
      rw [← hr]
      simp only [expunge, exGone, hg, Bool.false_eq_true, if_false, hz, setOf_nil']; rfl
    have e1 : (((setOf U).length : Int) == 0) = false := by
      rw [beq_eq_false_iff_ne]
      intro h0
      exact hz ((setOf_len0 hA).1 (by omega))
    have hU1 : (goneU b.Mails s).isEmpty = false := by rw [← hU]; cases U <;> simp_all
    simp only [g1, e1, go_sem]
    repeat' ((first | ((first | apply qa | apply qb | apply qc | apply qd | apply qe | apply qf | apply qg | apply qh | apply qi | apply qj | apply qk) <;> intro hp) | ((first | refine ql rfl rfl (by decide +kernel) ?_ | refine qm _ rfl rfl (by decide +kernel) ?_) <;> have hp := True.intro)) <;> simp only [hp, g1, e1, go_sem])
    refine loop_go (fun p : List Tomb × Int => []) (fun p => [(3, ⟨.box, 7, [.agg [.str b.Name, .int .i64 b.Valid, .int .i64 b.Next, .int .i64 (b.Mod + 1), .own 6, .own 7, .int .i64 p.2]]⟩), (7, ⟨.arr, 2, p.1.map Tomb.enc⟩)])
      (fun p => p.1.length) (fun p => trimT p.1 p.2 = exTombs b s ∧ p.1.length ≤ 70 ∧ p.1.Pairwise (fun x y => x.Mod ≤ y.Mod)) (Ts, b.Horizon) ⟨by rw [hT]; rfl, lT, by rw [hT]; exact added_sorted k1⟩ rfl rfl ?_
    rintro ⟨ts, hz2⟩ ⟨htr, htl2, hpw⟩ ih
    simp only at htr htl2 hpw ih
    by_cases hl : 40 < ts.length
    · cases ts with
      | nil => simp at hl
      | cons t0 rest =>
        have h1 : (40 : Int) < (t0 :: rest).length := by omega
        have h2 : (t0 :: rest)[0]? = some t0 := rfl
        have h3' : (0 : Int) < (t0 :: rest).length := by omega
        have hlt := trim_lt t0 rest
        have hD := drop_eq (m := t0.Mod) hpw fun x hx => by
          rcases List.mem_cons.1 hx with rfl | hx
          · exact Int.le_refl _
          · exact (List.pairwise_cons.1 hpw).1 x hx
        have ih' := ih (((t0 :: rest).filter fun x => !(x.Mod == t0.Mod)), t0.Mod) ⟨by rw [← htr, trimT_step hl], by simp only; omega, hpw.sublist List.filter_sublist⟩ (by simp only; omega)
        clear ih
        generalize hL : t0 :: rest = L at *
        simp only [h1, h2, h3', Int.le_refl, go_sem]
        repeat' ((first | ((first | apply qa | apply qb | apply qc | apply qd | apply qe | apply qf | apply qg | apply qh | apply qi | apply qj | apply qk) <;> intro hp) | ((first | refine ql rfl rfl (by decide +kernel) ?_ | refine qm _ rfl rfl (by decide +kernel) ?_) <;> have hp := True.intro)) <;> simp only [hp, h1, h2, h3', Int.le_refl, go_sem])
        refine loop_go (fun q : List Tomb => []) (fun q => [(7, ⟨.arr, 2, q.map Tomb.enc⟩)]) (fun q => q.length) (fun q => q.dropWhile (fun x => decide (x.Mod ≤ t0.Mod)) = L.dropWhile (fun x => decide (x.Mod ≤ t0.Mod)) ∧ q.length ≤ 70) L ⟨rfl, htl2⟩ rfl rfl ?_
        rintro q ⟨hq, hql⟩ ih2
        rw [hD, ← hq] at ih'
        cases q with
        | nil =>
          have n1 : ¬ (0 : Int) < ([] : List Tomb).length := by simp
          rw [List.dropWhile_nil] at ih'
          generalize hR : ([] : List Tomb) = Q at *
          simp only [n1, go_sem]
          repeat' ((first | ((first | apply qa | apply qb | apply qc | apply qd | apply qe | apply qf | apply qg | apply qh | apply qi | apply qj | apply qk) <;> intro hp) | ((first | refine ql rfl rfl (by decide +kernel) ?_ | refine qm _ rfl rfl (by decide +kernel) ?_) <;> have hp := True.intro)) <;> simp only [hp, n1, go_sem])
          exact ih'
        | cons x r =>
          have p1 : (0 : Int) < (x :: r).length := by simp only [List.length_cons]; omega
          have p2 : (x :: r)[0]? = some x := rfl
          by_cases hx : x.Mod ≤ t0.Mod
          · have e2 : decide (x.Mod ≤ t0.Mod) = true := by rw [decide_eq_true_eq]; exact hx
            have ih2' := ih2 r ⟨by rw [← hq, List.dropWhile_cons, e2, if_pos rfl], by simp only [List.length_cons] at hql; omega⟩ (by simp only [List.length_cons]; omega)
            have p3 : (x :: r).drop 1 = r := rfl
            have p4 : (x :: r).length - 1 = r.length := rfl
            have p5 : r.length * 16 ≤ 140737488355328 := by simp only [List.length_cons] at hql; omega
            have p6 : r.length ≤ 9223372036854775807 := by simp only [List.length_cons] at hql; omega
            have p7 : 1 ≤ (x :: r).length := by simp only [List.length_cons]; omega
            have p8 : (x :: r).length ≤ 70 := hql
            have p9 : 1 + r.length = (x :: r).length := by simp only [List.length_cons]; omega
            generalize hR : x :: r = Q at *
            simp only [p1, p2, hx, p3, p4, p5, p6, p7, p9, List.take_length, Int.le_refl, Nat.le_refl, go_sem]
            repeat' ((first | ((first | apply qa | apply qb | apply qc | apply qd | apply qe | apply qf | apply qg | apply qh | apply qi | apply qj | apply qk) <;> intro hp) | ((first | refine ql rfl rfl (by decide +kernel) ?_ | refine qm _ rfl rfl (by decide +kernel) ?_) <;> have hp := True.intro)) <;> simp only [hp, p1, p2, hx, p3, p4, p5, p6, p7, p9, List.take_length, Int.le_refl, Nat.le_refl, go_sem])
            exact ih2'
          · have e2 : decide (x.Mod ≤ t0.Mod) = false := by rw [decide_eq_false_iff_not]; exact hx
            rw [List.dropWhile_cons, e2, if_neg (by simp)] at ih'
            generalize hR : x :: r = Q at *
            simp only [p1, p2, hx, Int.le_refl, go_sem]
            repeat' ((first | ((first | apply qa | apply qb | apply qc | apply qd | apply qe | apply qf | apply qg | apply qh | apply qi | apply qj | apply qk) <;> intro hp) | ((first | refine ql rfl rfl (by decide +kernel) ?_ | refine qm _ rfl rfl (by decide +kernel) ?_) <;> have hp := True.intro)) <;> simp only [hp, p1, p2, hx, Int.le_refl, go_sem])
            exact ih'
    · have h1 : ¬ (40 : Int) < ts.length := by omega
      rw [trimT_end hl] at htr
      clear ih
      have hle : Box.le 4194304 ⟨b.Name, b.Valid, b.Next, b.Mod + 1, Ms, ts, hz2⟩ := by rw [hM]; exact exOut_le hc (by omega)
      have hbo : boxOk ⟨b.Name, b.Valid, b.Next, b.Mod + 1, Ms, ts, hz2⟩ = boxOk (exOut b s) := by rw [exOut, ← htr, hM]; rfl
      cases k3 : boxOk (exOut b s) with
      | false =>
        have hg : exGood b s = false := by simp [exGood, k3]
        simp only [h1, hle, hbo, k3, go_sem]
        repeat' ((first | ((first | apply qa | apply qb | apply qc | apply qd | apply qe | apply qf | apply qg | apply qh | apply qi | apply qj | apply qk) <;> intro hp) | ((first | refine ql rfl rfl (by decide +kernel) ?_ | refine qm _ rfl rfl (by decide +kernel) ?_) <;> have hp := True.intro)) <;> simp only [hp, h1, hle, hbo, k3, go_sem])
        simp only [fin_mk, finV, resL, resV1, resIn, endA, listIn, Option.some_or, Option.none_or, oneOrTup, go_sem]
        rw [← hr]
        simp only [expunge, exGone, hg, Bool.false_eq_true, if_false]; rfl
      | true =>
        have hg : exGood b s = true := by simp [exGood, k1, k2, k3, hU1]
        simp only [h1, hle, hbo, k3, go_sem]
        repeat' ((first | ((first | apply qa | apply qb | apply qc | apply qd | apply qe | apply qf | apply qg | apply qh | apply qi | apply qj | apply qk) <;> intro hp) | ((first | refine ql rfl rfl (by decide +kernel) ?_ | refine qm _ rfl rfl (by decide +kernel) ?_) <;> have hp := True.intro)) <;> simp only [hp, h1, hle, hbo, k3, go_sem])
        simp only [fin_mk, finV, resL, resV1, resIn, endA, listIn, Option.some_or, Option.none_or, oneOrTup, go_sem]
        rw [← hr]
        simp only [expunge, exGone, hg, if_true, ← hU]
        rw [exOut, ← htr, exMails, ← hM]; rfl
end Go.Proofs.YtonjbbfgdloljaaGreatDoor.L

namespace Go.Proofs.YtonjbbfgdloljaaGreatDoor.L
open Go Go.VM
set_option maxRecDepth 100000
set_option maxHeartbeats 4000000
set_option linter.unusedSimpArgs false
set_option linter.unusedVariables false
def forgetGood (b : Box) (upto : Int) : Bool := boxOk b && within upto 0 b.Mod
def forgetOut (b : Box) (upto : Int) : Box := ⟨b.Name, b.Valid, b.Next, b.Mod, b.Mails, b.Tombs.filter (fun x => !decide (x.Mod ≤ upto)), if b.Horizon < upto then upto else b.Horizon⟩
def forgetTombs (b : Box) (upto : Int) : Box := if forgetGood b upto = true then forgetOut b upto else b
open Classical in
noncomputable def spForgetTombs : VM.Spec := { modes := [.rd, .rd], run := fun | [b', .int .i64 upto] => (Box.dec b').bind fun b => if b.le 4194304 then some (Box.enc (forgetTombs b upto), []) else none | _ => none, need := [] }
attribute [go_sem] spForgetTombs
theorem spForgetTombs_in {ins : List V} {r : V} {outs : List V} (h : spForgetTombs.run ins = some (r, outs)) : ∃ (b : Box) (upto : Int), ins = [Box.enc b, .int .i64 upto] ∧ (b.le 4194304) ∧ Box.enc (forgetTombs b upto) = r ∧ outs = [] := by
  unfold spForgetTombs at h
  simp only at h
  split at h
  · rename_i b' upto
    simp only [Option.bind_eq_some_iff] at h
    obtain ⟨b, h_b, h⟩ := h
    split at h
    case isFalse => cases h
    rename_i hc
    simp only [Option.some.injEq, Prod.mk.injEq] at h
    obtain ⟨h1, h2⟩ := h
    have h_b := Box.dec_some h_b
    subst h_b
    exact ⟨b, upto, rfl, hc, h1, h2.symm⟩
  · cases h
def T_spec_ForgetTombs : Hints := ⟨lk [(9, [(0, 7), (1, 7)])], lk [(6, [1, 2, 4, 5, 6])], lk [(0, [1, 2, 4]), (1, [1, 2, 4, 5]), (2, [1, 2, 4, 5, 18]), (3, [4]), (4, [1, 2, 4, 5]), (5, [1, 2, 4, 5, 6]), (6, [1, 2, 4, 5, 6, 26]), (8, [1, 2, 4, 5, 6, 36]), (9, [1, 2, 4, 5, 6]), (7, [1, 2, 4, 5, 6]), (10, [1, 4, 5, 50]), (11, [4, 5]), (12, [4])], lk []⟩
noncomputable def Phi_spec_ForgetTombs : Tab := lk [(97, spCopyBox), (123, spBoxOk), (38, spWithin)]
attribute [go_sem] T_spec_ForgetTombs Phi_spec_ForgetTombs
theorem phi_spec_ForgetTombs : ∀ f sp, Phi_spec_ForgetTombs f = some sp → FnOk Tryz.prog f sp ∧ ∀ n ∈ sp.need, n ∈ ([] : List String) := phi_cons ok_spec_l08Copy (n0 rfl) (phi_cons ok_spec_BoxOk (n0 rfl) (phi_cons ok_spec_l01In (n0 rfl) (phi_nil)))
theorem ok_spec_ForgetTombs : FnOk Tryz.prog 96 spForgetTombs := by
  refine fn_ok (Φ := Phi_spec_ForgetTombs) (T := T_spec_ForgetTombs) phi_spec_ForgetTombs mixed Tryz.func96 rfl rfl rfl (by decide) ?_
  intro ins r outs hr hl
  clear hl
  have hs := spForgetTombs_in hr
  clear hr
  obtain ⟨b, upto, rfl, hc, hr, rfl⟩ := hs
  simp only [spForgetTombs, Tryz.f96, Go.VM.initS]
  have ht : b.Tombs.length ≤ 4194304 := hc.2.2.1
  cases hk : forgetGood b upto with
  | false =>
    cases hb : boxOk b with
    | false =>
      simp only [hc, hb, go_sem]
      repeat' ((first | ((first | apply qa | apply qb | apply qc | apply qd | apply qe | apply qf | apply qg | apply qh | apply qi | apply qj | apply qk) <;> intro hp) | ((first | refine ql rfl rfl (by decide +kernel) ?_ | refine qm _ rfl rfl (by decide +kernel) ?_) <;> have hp := True.intro)) <;> simp only [hp, hc, hb, go_sem])
      simp only [fin_mk, finV, resL, resV1, resIn, endA, listIn, Option.some_or, Option.none_or, oneOrTup, go_sem]
      rw [← hr]
      rw [forgetTombs, hk]; rfl
    | true =>
      have hw : within upto 0 b.Mod = false := by simpa [forgetGood, hb] using hk
      simp only [hc, hb, hw, go_sem]
      repeat' ((first | ((first | apply qa | apply qb | apply qc | apply qd | apply qe | apply qf | apply qg | apply qh | apply qi | apply qj | apply qk) <;> intro hp) | ((first | refine ql rfl rfl (by decide +kernel) ?_ | refine qm _ rfl rfl (by decide +kernel) ?_) <;> have hp := True.intro)) <;> simp only [hp, hc, hb, hw, go_sem])
      simp only [fin_mk, finV, resL, resV1, resIn, endA, listIn, Option.some_or, Option.none_or, oneOrTup, go_sem]
      rw [← hr]
      rw [forgetTombs, hk]; rfl
  | true =>
    obtain ⟨hb, hw⟩ : boxOk b = true ∧ within upto 0 b.Mod = true := by simpa [forgetGood] using hk
    simp only [hc, hb, hw, go_sem]
    have hfe : ∀ i, ((b.Tombs.take i).filter (fun x => !decide (x.Mod ≤ upto))).length ≤ b.Tombs.length := fun i => filter_take_len b.Tombs _ i
    refine loop_go (fun i : Nat => [(6, .int .i64 (i : Int))]) (fun i => [(4, ⟨.arr, 2, ((b.Tombs.take i).filter (fun x => !decide (x.Mod ≤ upto))).map Tomb.enc⟩)]) (fun i => b.Tombs.length - i) (fun i => i ≤ b.Tombs.length) 0 (Nat.zero_le _) rfl rfl ?_
    intro i hi ih
    rcases Nat.lt_or_ge i b.Tombs.length with h | h
    · have g1 : (i : Int) < b.Tombs.length := by omega
      have g2 : (0 : Int) ≤ i := by omega
      have g3 : b.Tombs[i]? = some b.Tombs[i] := List.getElem?_eq_getElem h
      have g5 := wrap_succ h (by omega)
      have hn := hfe i
      have g6 : (((b.Tombs.take i).filter (fun x => !decide (x.Mod ≤ upto))).length + 1) * 16 ≤ 140737488355328 := by omega
      have g7 : ((b.Tombs.take i).filter (fun x => !decide (x.Mod ≤ upto))).length + 1 ≤ 9223372036854775807 := by omega
      rcases Int.lt_or_le upto b.Tombs[i].Mod with q | q
      · have ih' := ih (i + 1) h (by omega)
        rw [filter_succ h, if_pos (by simp only [Bool.not_eq_true', decide_eq_false_iff_not]; omega), List.map_append] at ih'
        simp only [g1, g2, g3, g5, g6, g7, q, go_sem]
        repeat' ((first | ((first | apply qa | apply qb | apply qc | apply qd | apply qe | apply qf | apply qg | apply qh | apply qi | apply qj | apply qk) <;> intro hp) | ((first | refine ql rfl rfl (by decide +kernel) ?_ | refine qm _ rfl rfl (by decide +kernel) ?_) <;> have hp := True.intro)) <;> simp only [hp, g1, g2, g3, g5, g6, g7, q, go_sem])
        exact ih'
      · have q' : ¬ upto < b.Tombs[i].Mod := by omega
        have ih' := ih (i + 1) h (by omega)
        rw [filter_succ h, if_neg (by simp only [Bool.not_eq_true', decide_eq_false_iff_not]; omega), List.append_nil] at ih'
        simp only [g1, g2, g3, g5, g6, g7, q', go_sem]
        repeat' ((first | ((first | apply qa | apply qb | apply qc | apply qd | apply qe | apply qf | apply qg | apply qh | apply qi | apply qj | apply qk) <;> intro hp) | ((first | refine ql rfl rfl (by decide +kernel) ?_ | refine qm _ rfl rfl (by decide +kernel) ?_) <;> have hp := True.intro)) <;> simp only [hp, g1, g2, g3, g5, g6, g7, q', go_sem])
        exact ih'
    · have g1 : ¬ (i : Int) < b.Tombs.length := by omega
      rcases Int.lt_or_le b.Horizon upto with q | q
      · simp only [g1, q, go_sem]
        repeat' ((first | ((first | apply qa | apply qb | apply qc | apply qd | apply qe | apply qf | apply qg | apply qh | apply qi | apply qj | apply qk) <;> intro hp) | ((first | refine ql rfl rfl (by decide +kernel) ?_ | refine qm _ rfl rfl (by decide +kernel) ?_) <;> have hp := True.intro)) <;> simp only [hp, g1, q, go_sem])
        simp only [fin_mk, finV, resL, resV1, resIn, endA, listIn, Option.some_or, Option.none_or, oneOrTup, go_sem]
        rw [← hr]
        rw [forgetTombs, hk]
        simp only [forgetOut, if_pos q, Box.enc, List.take_of_length_le h]; rfl
      · have q' : ¬ b.Horizon < upto := by omega
        simp only [g1, q', go_sem]
        repeat' ((first | ((first | apply qa | apply qb | apply qc | apply qd | apply qe | apply qf | apply qg | apply qh | apply qi | apply qj | apply qk) <;> intro hp) | ((first | refine ql rfl rfl (by decide +kernel) ?_ | refine qm _ rfl rfl (by decide +kernel) ?_) <;> have hp := True.intro)) <;> simp only [hp, g1, q', go_sem])
        simp only [fin_mk, finV, resL, resV1, resIn, endA, listIn, Option.some_or, Option.none_or, oneOrTup, go_sem]
        rw [← hr]
        rw [forgetTombs, hk]
        simp only [forgetOut, if_neg q', Box.enc, List.take_of_length_le h]; rfl
end Go.Proofs.YtonjbbfgdloljaaGreatDoor.L

namespace Go.Proofs.YtonjbbfgdloljaaGreatDoor.L
open Go Go.VM
set_option maxRecDepth 100000
set_option maxHeartbeats 4000000
set_option linter.unusedSimpArgs false
set_option linter.unusedVariables false
theorem pw_of_adj {α : Type} {R : α → α → Prop} (tr : ∀ a b c, R a b → R b c → R a c) : ∀ {l : List α}, (∀ i, (h : i + 1 < l.length) → R l[i] l[i + 1]) → l.Pairwise R
  | [], _ => List.Pairwise.nil
  | [x], _ => List.pairwise_singleton _ _
  | x :: y :: t, h => by
    have h1 : (y :: t).Pairwise R := pw_of_adj tr fun i hi => by
      have := h (i + 1) (by simpa using hi)
      simpa using this
    have h2 : R x y := by simpa using h 0 (by simp)
    refine List.Pairwise.cons (fun z hz => ?_) h1
    rcases List.mem_cons.1 hz with rfl | hz
    · exact h2
    · exact tr _ _ _ h2 ((List.pairwise_cons.1 h1).1 z hz)
def tombLt (x y : Tomb) : Prop := x.Mod < y.Mod ∨ (x.Mod = y.Mod ∧ x.Uid < y.Uid)
def tombHere (b : Box) (t : Tomb) : Prop := within t.Uid 1 (b.Next - 1) = true ∧ within t.Mod (b.Horizon + 1) b.Mod = true ∧ hasMail b.Mails t.Uid = false
theorem tombs_facts {b : Box} (h : boxOk b = true) : (∀ t ∈ b.Tombs, tombHere b t) ∧ b.Tombs.Pairwise tombLt := by
  constructor
  · intro x hx
    obtain ⟨i, hi, rfl⟩ := List.mem_iff_getElem.1 hx
    have h2 := tomb_of h hi
    simp only [tombAtOk, tombIn, Bool.and_eq_true, List.getD_eq_getElem?_getD, List.getElem?_eq_getElem hi, Option.getD_some, Bool.not_eq_true'] at h2
    exact ⟨h2.1.1.1.1, h2.1.1.1.2, h2.1.2⟩
  · refine pw_of_adj (fun a b c h1 h2 => by unfold tombLt at *; omega) fun i hi => ?_
    have h2 := tomb_of h hi
    simp only [tombAtOk, tombOrd, Bool.and_eq_true, Bool.or_eq_true, Bool.not_eq_true', Bool.or_eq_false_iff, decide_eq_false_iff_not, List.getD_eq_getElem?_getD, List.getElem?_eq_getElem hi, Option.getD_some, Nat.add_sub_cancel, List.getElem?_eq_getElem (show i < b.Tombs.length by omega), Bool.and_eq_false_iff, beq_eq_false_iff_ne] at h2
    rcases h2.2 with h3 | ⟨h3, h4⟩
    · simp at h3
    · unfold tombLt
      rcases h4 with h4 | h4 <;> omega
theorem tombs_back {b : Box} (h1 : ∀ t ∈ b.Tombs, tombHere b t) (h2 : b.Tombs.Pairwise tombLt) (h3 : (b.Tombs.map (·.Uid)).Pairwise (· ≠ ·)) (h4 : b.Tombs.length ≤ 40) : tombsOk b = true := by
  simp only [tombsOk, Bool.and_eq_true, decide_eq_true_eq]
  refine ⟨allN_all (Nat.le_refl _) fun i hi => ?_, h4⟩
  obtain ⟨a1, a2, a3⟩ := h1 _ (List.getElem_mem hi)
  rw [List.pairwise_map] at h3
  simp only [tombAtOk, tombIn, tombOrd, getD_lt hi, a1, a2, a3, Bool.true_and, Bool.not_false, Bool.and_true, Bool.and_eq_true, Bool.not_eq_true', Bool.or_eq_true, beq_iff_eq]
  refine ⟨?_, ?_⟩
  · rw [hasTomb, List.any_eq_false]
    intro x hx
    obtain ⟨j, hj, rfl⟩ := List.mem_take_iff_getElem.1 hx
    have := List.pairwise_iff_getElem.1 h3 j i (by omega) hi (by omega)
    simpa using this
  · rcases Nat.eq_zero_or_pos i with h0 | h0
    · exact .inl h0
    · right
      have := List.pairwise_iff_getElem.1 h2 (i - 1) i (by omega) hi (by omega)
      rw [getD_lt (show i - 1 < b.Tombs.length by omega)]
      unfold tombLt at this
      rw [Bool.or_eq_false_iff, decide_eq_false_iff_not, Bool.and_eq_false_iff, beq_eq_false_iff_ne, decide_eq_false_iff_not]
      omega
theorem forgetOut_ok {b : Box} {u : Int} (h : boxOk b = true) (h0 : 0 ≤ u) (h1 : u ≤ b.Mod) : boxOk (forgetOut b u) = true := by
  have hf := tombs_facts h
  have hn := tombs_ne h
  have hp := boxOk_parts h
  have hnn := numsOk_next hp.1
  obtain ⟨H, eH, hH0, hH1, hH2⟩ : ∃ H, (if b.Horizon < u then u else b.Horizon) = H ∧ 0 ≤ H ∧ H ≤ b.Mod ∧ (H = u ∨ (H = b.Horizon ∧ u ≤ H)) := ⟨_, rfl, by split <;> omega, by split <;> omega, by split <;> omega⟩
  have eO : forgetOut b u = ⟨b.Name, b.Valid, b.Next, b.Mod, b.Mails, b.Tombs.filter (fun x => !decide (x.Mod ≤ u)), H⟩ := by rw [forgetOut, eH]
  rw [eO]
  simp only [boxOk, Bool.and_eq_true] at h ⊢
  obtain ⟨⟨⟨k1, k2⟩, k3⟩, k4⟩ := h
  refine ⟨⟨⟨k1, ?_⟩, k3⟩, ?_⟩
  · simp only [numsOk, Bool.and_eq_true, within, decide_eq_true_eq] at k2 ⊢
    exact ⟨k2.1, hH0, hH1⟩
  · refine tombs_back (fun t ht => ?_) (hf.2.filter _) (hn.sublist (List.Sublist.map _ List.filter_sublist)) (Nat.le_trans (List.length_filter_le _ _) hp.2.2.1)
    obtain ⟨m1, m2⟩ := List.mem_filter.1 ht
    obtain ⟨a1, a2, a3⟩ := hf.1 t m1
    refine ⟨a1, ?_, a3⟩
    simp only [Bool.not_eq_true', decide_eq_false_iff_not] at m2
    simp only [within, Bool.and_eq_true, decide_eq_true_eq] at a2 ⊢
    omega
theorem forgetTombs_ok {b : Box} {u : Int} (h : boxOk b = true) : boxOk (forgetTombs b u) = true := by
  unfold forgetTombs
  split
  · rename_i hg
    simp only [forgetGood, Bool.and_eq_true, within, decide_eq_true_eq] at hg
    exact forgetOut_ok h hg.2.1 hg.2.2
  · exact h
end Go.Proofs.YtonjbbfgdloljaaGreatDoor.L

