/- Contracts of functions, and the facts that they need. No condition. -/
import Derived.Test.YtonjbbfgdloljaaGreatDoorVLFo

import Derived.Test.YtonjbbfgdloljaaGreatDoorVLKz


import Derived.Test.YtonjbbfgdloljaaGreatDoorVLM

import Derived.Test.YtonjbbfgdloljaaGreatDoorVLRd
import Derived.Test.YtonjbbfgdloljaaGreatDoorVLShelf
import Derived.Lib.AtoiAll
import Derived.Lib.AtoiErrMem

import Derived.Test.YtonjbbfgdloljaaGreatDoorVLS

namespace Go.Proofs.YtonjbbfgdloljaaGreatDoor.L
open Go Go.VM
set_option maxRecDepth 100000
set_option maxHeartbeats 4000000
set_option linter.unusedSimpArgs false
set_option linter.unusedVariables false
def boxA (c : Cur) (b : Box) : Box × Cur := (addMail b (belO c 32).1 (mailO (belO c 32).2).1, (mailO (belO c 32).2).2)
def boxB (c : Cur) (b : Box) : Box × Cur := (setFlags b (drawO c).1 (1 + (belO (drawO c).2 3).1) (belO (belO (drawO c).2 3).2 32).1 (-1), (belO (belO (drawO c).2 3).2 32).2)
def boxC (c : Cur) (b : Box) : Box × Cur := (expunge b (drawO c).1, (drawO c).2)
def boxD (c : Cur) (b : Box) : Box × Cur := if ((belO c 3).1 == 0) = true then (forgetTombs b (belO (belO c 3).2 (b.Mod + 1)).1, (belO (belO c 3).2 (b.Mod + 1)).2) else (b, (belO c 3).2)
def boxStep (c : Cur) (b : Box) : Box × Cur :=
  if (belO c 6).1 ≤ 2 then boxA (belO c 6).2 b else if (belO c 6).1 = 3 then boxB (belO c 6).2 b else if (belO c 6).1 = 4 then boxC (belO c 6).2 b else boxD (belO c 6).2 b
theorem addMail_ok {b : Box} {f : Int} {t : List UInt8} (h : boxOk b = true) : boxOk (addMail b f t) = true := by
  unfold addMail
  split
  · rename_i hg; simp only [addGood, Bool.and_eq_true] at hg; exact hg.2
  · exact h
theorem setFlags_ok {b : Box} {s : List Range} {w f n : Int} (h : boxOk b = true) : boxOk (setFlags b s w f n) = true := by
  unfold setFlags
  split
  · rename_i hg; simp only [setGood, Bool.and_eq_true] at hg; exact hg.2
  · exact h
theorem expunge_ok {b : Box} {s : List Range} (h : boxOk b = true) : boxOk (expunge b s) = true := by
  unfold expunge
  split
  · rename_i hg; simp only [exGood, Bool.and_eq_true] at hg; exact hg.2
  · exact h
theorem box_le {b : Box} (h : boxOk b = true) : b.le 4194304 := by
  obtain ⟨h1, h2, h3, h4, h5⟩ := boxOk_parts h
  exact ⟨by show b.Name.length ≤ _; omega, ⟨by omega, fun m hm => by have := h5 m hm; show m.Text.length ≤ _; omega⟩, ⟨by omega, fun _ _ => trivial⟩⟩
theorem boxStep_in {c : Cur} {b : Box} (hc : curI c) (hb : boxOk b = true) : boxOk (boxStep c b).1 = true ∧ curI (boxStep c b).2 := by
  have h1 := belO_in (n := 6) hc
  have a1 := belO_in (n := 32) h1.1
  have a2 := mailO_len a1.1
  have d1 := drawO_in h1.1
  have d2 := belO_in (n := 3) d1.2
  have d3 := belO_in (n := 32) d2.1
  have f1 := belO_in (n := 3) h1.1
  have f2 := belO_in (n := b.Mod + 1) f1.1
  unfold boxStep
  split
  · exact ⟨addMail_ok hb, a2.2⟩
  · split
    · exact ⟨setFlags_ok hb, d3.1⟩
    · split
      · exact ⟨expunge_ok hb, d1.2⟩
      · unfold boxD
        split
        · exact ⟨forgetTombs_ok hb, f2.1⟩
        · exact ⟨hb, f1.1⟩
def boxL : Nat → Nat → Cur → Box → Box × Cur
  | 0, _, c, b => (b, c)
  | f + 1, i, c, b => if (i : Int) < 2 + (belO c 16).1 then boxL f (i + 1) (boxStep (belO c 16).2 b).2 (boxStep (belO c 16).2 b).1 else (b, (belO c 16).2)
theorem boxL_in : ∀ (f i : Nat) {c : Cur} {b : Box}, curI c → boxOk b = true → boxOk (boxL f i c b).1 = true ∧ curI (boxL f i c b).2
  | 0, i, c, b, hc, hb => ⟨hb, hc⟩
  | f + 1, i, c, b, hc, hb => by
    have h1 := belO_in (n := 16) hc
    have h2 := boxStep_in h1.1 hb
    rw [boxL]
    split
    · exact boxL_in f (i + 1) h2.2 h2.1
    · exact ⟨hb, h1.1⟩
def boxNames : List (List UInt8) := [[105, 110, 98, 111, 120], [119, 111, 114, 107], [111, 108, 100]]
def box8 (c : Cur) : Box × Cur := boxL 18 0 (belO (pickO c boxNames).2 5).2 (boxNew (pickO c boxNames).1 (1 + (belO (pickO c boxNames).2 5).1))
theorem boxFresh_ok {n : List UInt8} {v : Int} (hn : n ∈ boxNames) (h0 : 0 ≤ v) (h1 : v < 5) : boxOk (boxFresh n (1 + v)) = true ∧ boxNew n (1 + v) = boxFresh n (1 + v) := by
  have k : boxOk (boxFresh n (1 + v)) = true := by
    obtain ⟨m, rfl⟩ : ∃ m : Nat, v = m := ⟨v.toNat, by omega⟩
    have : ∀ n ∈ boxNames, ∀ m : Fin 5, boxOk (boxFresh n (1 + (m.val : Int))) = true := by decide +kernel
    exact this n hn ⟨m, by omega⟩
  exact ⟨k, by rw [boxNew, if_pos k]⟩
theorem box8_in {c : Cur} (h : curI c) : boxOk (box8 c).1 = true ∧ curI (box8 c).2 := by
  have h1 := pickO_in (l := boxNames) h (by decide)
  have h2 := belO_in (n := 5) h1.1
  have h3 := boxFresh_ok h1.2 h2.2.1 (h2.2.2 (by decide))
  exact boxL_in 18 0 h2.1 (by rw [h3.2]; exact h3.1)
open Classical in
noncomputable def spBox8 : VM.Spec := { modes := [.ptr], run := fun | [.rptr (c')] => (Cur.dec c').bind fun c => if curI c then some (Box.enc ((box8 c).1), [.rptr (Cur.enc ((box8 c).2))]) else none | _ => none, need := [] }
attribute [go_sem] spBox8
theorem spBox8_in {ins : List V} {r : V} {outs : List V} (h : spBox8.run ins = some (r, outs)) : ∃ (c : Cur), ins = [.rptr (Cur.enc c)] ∧ (curI c) ∧ Box.enc ((box8 c).1) = r ∧ outs = [.rptr (Cur.enc ((box8 c).2))] := by
  unfold spBox8 at h
  simp only at h
  split at h
  · rename_i c'
    simp only [Option.bind_eq_some_iff] at h
    obtain ⟨c, h_c, h⟩ := h
    split at h
    case isFalse => cases h
    rename_i hc
    simp only [Option.some.injEq, Prod.mk.injEq] at h
    obtain ⟨h1, h2⟩ := h
    have h_c := Cur.dec_some h_c
    subst h_c
    exact ⟨c, rfl, hc, h1, h2.symm⟩
  · cases h
def T_spec_l08Box : Hints := ⟨lk [(11, [(0, 2), (0, 4)]), (13, [(0, 2), (0, 4), (0, 7)]), (15, [(0, 2)]), (7, [(0, 5)])], lk [(3, [0, 2, 3, 5])], lk [(0, [0, 2]), (1, [0, 2, 3]), (2, [0, 2, 3, 5]), (3, [0, 2, 3, 5, 20]), (5, [0, 2, 3, 5, 24]), (8, [0, 2, 3, 5, 24, 34]), (9, [0, 2, 3, 5, 24, 34]), (10, [0, 2, 3, 5, 24, 34]), (11, [0, 2, 3, 5]), (12, [0, 2, 3, 5, 24, 47]), (13, [0, 2, 3, 5]), (14, [0, 2, 3, 5, 62]), (15, [0, 2, 3, 5]), (6, [0, 2, 3, 5, 26]), (7, [0, 2, 3, 5]), (4, [0, 2, 3, 5]), (16, [2])], lk []⟩
noncomputable def Phi_spec_l08Box : Tab := lk [(32, spPick), (31, spBelow), (89, spBoxNew), (90, spAddMail), (91, spMail), (92, spSetFlags), (93, spDraw), (94, spExpunge), (95, spOnce), (96, spForgetTombs)]
attribute [go_sem] T_spec_l08Box Phi_spec_l08Box
theorem phi_spec_l08Box : ∀ f sp, Phi_spec_l08Box f = some sp → FnOk Tryz.prog f sp ∧ ∀ n ∈ sp.need, n ∈ ([] : List String) := phi_cons ok_spec_l01Pick (n0 rfl) (phi_cons ok_spec_l01Below (n0 rfl) (phi_cons ok_spec_BoxNew (n0 rfl) (phi_cons ok_spec_AddMail (n0 rfl) (phi_cons ok_spec_l07Mail (n0 rfl) (phi_cons ok_spec_SetFlags (n0 rfl) (phi_cons ok_spec_l05Draw (n0 rfl) (phi_cons ok_spec_Expunge (n0 rfl) (phi_cons ok_spec_l01Once (n0 rfl) (phi_cons ok_spec_ForgetTombs (n0 rfl) (phi_nil))))))))))
theorem ok_spec_l08Box : FnOk Tryz.prog 53 spBox8 := by
  refine fn_ok (Φ := Phi_spec_l08Box) (T := T_spec_l08Box) phi_spec_l08Box mixed Tryz.func53 rfl rfl rfl (by decide) ?_
  intro ins r outs hr hl
  clear hl
  have hs := spBox8_in hr
  clear hr
  obtain ⟨c, rfl, hc, hr, rfl⟩ := hs
  simp only [spBox8, Tryz.f53, Go.VM.initS]
  have h1 := pickO_in (l := boxNames) hc (by decide)
  obtain ⟨⟨nm, c1⟩, e1⟩ : ∃ x, pickO c boxNames = x := ⟨_, rfl⟩
  have e1' : pickO c [[105, 110, 98, 111, 120], [119, 111, 114, 107], [111, 108, 100]] = (nm, c1) := e1
  rw [e1] at h1
  have h2 := belO_in (n := 5) h1.1
  obtain ⟨⟨v, c2⟩, e2⟩ : ∃ x, belO c1 5 = x := ⟨_, rfl⟩
  simp only at h1 h2
  rw [e2] at h2
  simp only at h2
  have hv := h2.2.2 (by decide)
  have h3 := boxFresh_ok h1.2 h2.2.1 hv
  have w1 : IntKind.i64.wrap (1 + v) = 1 + v := wrap64 (by omega) (by omega)
  have nl : nm.length ≤ 4194304 := by
    have : ∀ x ∈ boxNames, x.length ≤ 8 := by decide
    have := this _ h1.2
    omega
  obtain ⟨B0, hB0⟩ : ∃ B0, boxNew nm (1 + v) = B0 := ⟨_, rfl⟩
  have kB0 : boxOk B0 = true := by rw [← hB0, h3.2]; exact h3.1
  obtain ⟨⟨RB, RC⟩, hR⟩ : ∃ R, boxL 18 0 c2 B0 = R := ⟨_, rfl⟩
  have e : box8 c = (RB, RC) := by rw [box8, e1, e2, hB0, hR]
  rw [e] at hr
  have lB0 := box_le kB0
  simp only [hc, e, e1', h1.1, e2, w1, nl, hB0, go_sem]
  repeat' ((first | ((first | apply qa | apply qb | apply qc | apply qd | apply qe | apply qf | apply qg | apply qh | apply qi | apply qj | apply qk) <;> intro hp) | ((first | refine ql rfl rfl (by decide +kernel) ?_ | refine qm _ rfl rfl (by decide +kernel) ?_) <;> have hp := True.intro)) <;> simp only [hp, hc, e, e1', h1.1, e2, w1, nl, hB0, go_sem])
  refine loop_go (fun p : Nat × Cur × Box => [(5, .int .i64 (p.1 : Int))]) (fun p => [(0, ⟨.box, 3, [p.2.1.enc]⟩), (2, ⟨.box, 7, [.agg [.str p.2.2.Name, .int .i64 p.2.2.Valid, .int .i64 p.2.2.Next, .int .i64 p.2.2.Mod, .own 3, .own 4, .int .i64 p.2.2.Horizon]]⟩), (3, ⟨.arr, 4, p.2.2.Mails.map Mail.enc⟩), (4, ⟨.arr, 2, p.2.2.Tombs.map Tomb.enc⟩)]) (fun p => 18 - p.1) (fun p => p.1 ≤ 17 ∧ curI p.2.1 ∧ boxOk p.2.2 = true ∧ boxL (18 - p.1) p.1 p.2.1 p.2.2 = (RB, RC)) (0, c2, B0) ⟨by omega, h2.1, kB0, hR⟩ rfl rfl ?_
  rintro ⟨i, d, b⟩ ⟨hi, hd, hb, he⟩ ih
  simp only at hi hd hb he ih
  have bl := box_le hb
  have nb := numsOk_next (boxOk_parts hb).1
  have g0 := belO_in (n := 16) hd
  obtain ⟨⟨v0, d0⟩, e0⟩ : ∃ x, belO d 16 = x := ⟨_, rfl⟩
  rw [e0] at g0
  simp only at g0
  have gv := g0.2.2 (by decide)
  have w0 : IntKind.i64.wrap (2 + v0) = 2 + v0 := wrap64 (by omega) (by omega)
  rw [show 18 - i = (18 - (i + 1)) + 1 by omega, boxL, e0] at he
  simp only at he
  by_cases gi : (i : Int) < 2 + v0
  · rw [if_pos gi] at he
    have g5 : IntKind.i64.wrap ((i : Int) + 1) = ((i + 1 : Nat) : Int) := wrap_succ (n := 100) (by omega) (by omega)
    have k1 := belO_in (n := 6) g0.1
    obtain ⟨⟨k, d1⟩, e6⟩ : ∃ x, belO d0 6 = x := ⟨_, rfl⟩
    rw [e6] at k1
    simp only at k1
    have kv := k1.2.2 (by decide)
    have hk : k = 0 ∨ k = 1 ∨ k = 2 ∨ k = 3 ∨ k = 4 ∨ k = 5 := by omega
    rcases hk with rfl | rfl | rfl | rfl | rfl | rfl
    · have j1 := belO_in (n := 32) k1.1
      obtain ⟨⟨f, d2⟩, a1⟩ : ∃ x, belO d1 32 = x := ⟨_, rfl⟩
      rw [a1] at j1
      simp only at j1
      have j2 := mailO_len j1.1
      obtain ⟨⟨t, d3⟩, a2⟩ : ∃ x, mailO d2 = x := ⟨_, rfl⟩
      rw [a2] at j2
      simp only at j2
      have hst : boxStep d0 b = (addMail b f t, d3) := by simp only [boxStep, boxA, e6, a1, a2, Int.reduceLE, if_true]
      have tl : t.length ≤ 4194304 := by omega
      have ih' := ih (i + 1, d3, addMail b f t) ⟨by omega, j2.2, addMail_ok hb, by rw [hst] at he; exact he⟩ (by simp only; omega)
      simp only at ih'
      simp only [hd, e0, g0.1, gi, w0, g5, e6, k1.1, a1, j1.1, a2, bl, tl, go_sem]
      repeat' ((first | ((first | apply qa | apply qb | apply qc | apply qd | apply qe | apply qf | apply qg | apply qh | apply qi | apply qj | apply qk) <;> intro hp) | ((first | refine ql rfl rfl (by decide +kernel) ?_ | refine qm _ rfl rfl (by decide +kernel) ?_) <;> have hp := True.intro)) <;> simp only [hp, hd, e0, g0.1, gi, w0, g5, e6, k1.1, a1, j1.1, a2, bl, tl, go_sem])
      all_goals exact ih'
    · have j1 := belO_in (n := 32) k1.1
      obtain ⟨⟨f, d2⟩, a1⟩ : ∃ x, belO d1 32 = x := ⟨_, rfl⟩
      rw [a1] at j1
      simp only at j1
      have j2 := mailO_len j1.1
      obtain ⟨⟨t, d3⟩, a2⟩ : ∃ x, mailO d2 = x := ⟨_, rfl⟩
      rw [a2] at j2
      simp only at j2
      have hst : boxStep d0 b = (addMail b f t, d3) := by simp only [boxStep, boxA, e6, a1, a2, Int.reduceLE, if_true]
      have tl : t.length ≤ 4194304 := by omega
      have ih' := ih (i + 1, d3, addMail b f t) ⟨by omega, j2.2, addMail_ok hb, by rw [hst] at he; exact he⟩ (by simp only; omega)
      simp only at ih'
      simp only [hd, e0, g0.1, gi, w0, g5, e6, k1.1, a1, j1.1, a2, bl, tl, go_sem]
      repeat' ((first | ((first | apply qa | apply qb | apply qc | apply qd | apply qe | apply qf | apply qg | apply qh | apply qi | apply qj | apply qk) <;> intro hp) | ((first | refine ql rfl rfl (by decide +kernel) ?_ | refine qm _ rfl rfl (by decide +kernel) ?_) <;> have hp := True.intro)) <;> simp only [hp, hd, e0, g0.1, gi, w0, g5, e6, k1.1, a1, j1.1, a2, bl, tl, go_sem])
      all_goals exact ih'
    · have j1 := belO_in (n := 32) k1.1
      obtain ⟨⟨f, d2⟩, a1⟩ : ∃ x, belO d1 32 = x := ⟨_, rfl⟩
      rw [a1] at j1
      simp only at j1
      have j2 := mailO_len j1.1
      obtain ⟨⟨t, d3⟩, a2⟩ : ∃ x, mailO d2 = x := ⟨_, rfl⟩
      rw [a2] at j2
      simp only at j2
      have hst : boxStep d0 b = (addMail b f t, d3) := by simp only [boxStep, boxA, e6, a1, a2, Int.reduceLE, if_true]
      have tl : t.length ≤ 4194304 := by omega
      have ih' := ih (i + 1, d3, addMail b f t) ⟨by omega, j2.2, addMail_ok hb, by rw [hst] at he; exact he⟩ (by simp only; omega)
      simp only at ih'
      simp only [hd, e0, g0.1, gi, w0, g5, e6, k1.1, a1, j1.1, a2, bl, tl, go_sem]
      repeat' ((first | ((first | apply qa | apply qb | apply qc | apply qd | apply qe | apply qf | apply qg | apply qh | apply qi | apply qj | apply qk) <;> intro hp) | ((first | refine ql rfl rfl (by decide +kernel) ?_ | refine qm _ rfl rfl (by decide +kernel) ?_) <;> have hp := True.intro)) <;> simp only [hp, hd, e0, g0.1, gi, w0, g5, e6, k1.1, a1, j1.1, a2, bl, tl, go_sem])
      all_goals exact ih'
    · have j1 := drawO_in k1.1
      obtain ⟨⟨s, d2⟩, a1⟩ : ∃ x, drawO d1 = x := ⟨_, rfl⟩
      rw [a1] at j1
      simp only at j1
      have j2 := belO_in (n := 3) j1.2
      obtain ⟨⟨h, d3⟩, a2⟩ : ∃ x, belO d2 3 = x := ⟨_, rfl⟩
      rw [a2] at j2
      simp only at j2
      have hv3 := j2.2.2 (by decide)
      have j3 := belO_in (n := 32) j2.1
      obtain ⟨⟨f, d4⟩, a3⟩ : ∃ x, belO d3 32 = x := ⟨_, rfl⟩
      rw [a3] at j3
      simp only at j3
      have w3 : IntKind.i64.wrap (1 + h) = 1 + h := wrap64 (by omega) (by omega)
      have hst : boxStep d0 b = (setFlags b s (1 + h) f (-1), d4) := by
        simp only [boxStep, boxB, e6, a1, a2, a3]
        rfl
      have sl : s.length ≤ 4194304 := by omega
      have ih' := ih (i + 1, d4, setFlags b s (1 + h) f (-1)) ⟨by omega, j3.1, setFlags_ok hb, by rw [hst] at he; exact he⟩ (by simp only; omega)
      simp only at ih'
      simp only [hd, e0, g0.1, gi, w0, g5, e6, k1.1, a1, j1.2, a2, j2.1, a3, w3, bl, sl, go_sem]
      repeat' ((first | ((first | apply qa | apply qb | apply qc | apply qd | apply qe | apply qf | apply qg | apply qh | apply qi | apply qj | apply qk) <;> intro hp) | ((first | refine ql rfl rfl (by decide +kernel) ?_ | refine qm _ rfl rfl (by decide +kernel) ?_) <;> have hp := True.intro)) <;> simp only [hp, hd, e0, g0.1, gi, w0, g5, e6, k1.1, a1, j1.2, a2, j2.1, a3, w3, bl, sl, go_sem])
      all_goals exact ih'
    · have j1 := drawO_in k1.1
      obtain ⟨⟨s, d2⟩, a1⟩ : ∃ x, drawO d1 = x := ⟨_, rfl⟩
      rw [a1] at j1
      simp only at j1
      have hst : boxStep d0 b = (expunge b s, d2) := by
        simp only [boxStep, boxC, e6, a1]
        rfl
      have sl : s.length ≤ 4194304 := by omega
      have ih' := ih (i + 1, d2, expunge b s) ⟨by omega, j1.2, expunge_ok hb, by rw [hst] at he; exact he⟩ (by simp only; omega)
      simp only at ih'
      simp only [hd, e0, g0.1, gi, w0, g5, e6, k1.1, a1, j1.2, bl, sl, go_sem]
      repeat' ((first | ((first | apply qa | apply qb | apply qc | apply qd | apply qe | apply qf | apply qg | apply qh | apply qi | apply qj | apply qk) <;> intro hp) | ((first | refine ql rfl rfl (by decide +kernel) ?_ | refine qm _ rfl rfl (by decide +kernel) ?_) <;> have hp := True.intro)) <;> simp only [hp, hd, e0, g0.1, gi, w0, g5, e6, k1.1, a1, j1.2, bl, sl, go_sem])
      all_goals exact ih'
    · have j1 := belO_in (n := 3) k1.1
      obtain ⟨⟨o, d2⟩, a1⟩ : ∃ x, belO d1 3 = x := ⟨_, rfl⟩
      rw [a1] at j1
      simp only at j1
      cases ho : (o == 0) with
      | true =>
        have w4 : IntKind.i64.wrap (b.Mod + 1) = b.Mod + 1 := wrap64 (by omega) (by omega)
        have j2 := belO_in (n := b.Mod + 1) j1.1
        obtain ⟨⟨u, d3⟩, a2⟩ : ∃ x, belO d2 (b.Mod + 1) = x := ⟨_, rfl⟩
        rw [a2] at j2
        simp only at j2
        have hst : boxStep d0 b = (forgetTombs b u, d3) := by
          simp only [boxStep, boxD, e6, a1, ho, a2]
          rfl
        have ih' := ih (i + 1, d3, forgetTombs b u) ⟨by omega, j2.1, forgetTombs_ok hb, by rw [hst] at he; exact he⟩ (by simp only; omega)
        simp only at ih'
        simp only [hd, e0, g0.1, gi, w0, g5, e6, k1.1, a1, j1.1, ho, a2, w4, bl, go_sem]
        repeat' ((first | ((first | apply qa | apply qb | apply qc | apply qd | apply qe | apply qf | apply qg | apply qh | apply qi | apply qj | apply qk) <;> intro hp) | ((first | refine ql rfl rfl (by decide +kernel) ?_ | refine qm _ rfl rfl (by decide +kernel) ?_) <;> have hp := True.intro)) <;> simp only [hp, hd, e0, g0.1, gi, w0, g5, e6, k1.1, a1, j1.1, ho, a2, w4, bl, go_sem])
        all_goals exact ih'
      | false =>
        have hst : boxStep d0 b = (b, d2) := by
          simp only [boxStep, boxD, e6, a1, ho]
          rfl
        have ih' := ih (i + 1, d2, b) ⟨by omega, j1.1, hb, by rw [hst] at he; exact he⟩ (by simp only; omega)
        simp only at ih'
        simp only [hd, e0, g0.1, gi, w0, g5, e6, k1.1, a1, j1.1, ho, bl, go_sem]
        repeat' ((first | ((first | apply qa | apply qb | apply qc | apply qd | apply qe | apply qf | apply qg | apply qh | apply qi | apply qj | apply qk) <;> intro hp) | ((first | refine ql rfl rfl (by decide +kernel) ?_ | refine qm _ rfl rfl (by decide +kernel) ?_) <;> have hp := True.intro)) <;> simp only [hp, hd, e0, g0.1, gi, w0, g5, e6, k1.1, a1, j1.1, ho, bl, go_sem])
        all_goals exact ih'
  · rw [if_neg gi] at he
    simp only [Prod.mk.injEq] at he
    obtain ⟨rfl, rfl⟩ := he
    simp only [hd, e0, g0.1, gi, w0, go_sem]
    repeat' ((first | ((first | apply qa | apply qb | apply qc | apply qd | apply qe | apply qf | apply qg | apply qh | apply qi | apply qj | apply qk) <;> intro hp) | ((first | refine ql rfl rfl (by decide +kernel) ?_ | refine qm _ rfl rfl (by decide +kernel) ?_) <;> have hp := True.intro)) <;> simp only [hp, hd, e0, g0.1, gi, w0, go_sem])
    simp only [fin_mk, finV, resL, resV1, resIn, endA, listIn, Option.some_or, Option.none_or, oneOrTup, go_sem]
    rw [← hr]
    first | rfl | (simp only [e]; rfl)
open Classical in
noncomputable def spDrawBox : VM.Spec := { modes := [.rd], run := fun | [.lst 1 code'] => (decL dU8 code').bind fun code => if code.length ≤ 4194304 then some (Box.enc ((box8 (cur0 code)).1), []) else none | _ => none, need := [] }
attribute [go_sem] spDrawBox
theorem spDrawBox_in {ins : List V} {r : V} {outs : List V} (h : spDrawBox.run ins = some (r, outs)) : ∃ (code : (List Int)), ins = [.lst 1 ((code).map eU8)] ∧ (code.length ≤ 4194304) ∧ Box.enc ((box8 (cur0 code)).1) = r ∧ outs = [] := by
  unfold spDrawBox at h
  simp only at h
  split at h
  · rename_i code'
    simp only [Option.bind_eq_some_iff] at h
    obtain ⟨code, h_code, h⟩ := h
    split at h
    case isFalse => cases h
    rename_i hc
    simp only [Option.some.injEq, Prod.mk.injEq] at h
    obtain ⟨h1, h2⟩ := h
    have h_code := decL_some (fun _ _ h => dU8_some h) h_code
    subst h_code
    exact ⟨code, rfl, hc, h1, h2.symm⟩
  · cases h
def T_spec_DrawBox : Hints := ⟨lk [], lk [], lk [(0, [0, 2]), (1, [2])], lk []⟩
noncomputable def Phi_spec_DrawBox : Tab := lk [(26, spNew), (53, spBox8)]
attribute [go_sem] T_spec_DrawBox Phi_spec_DrawBox
theorem phi_spec_DrawBox : ∀ f sp, Phi_spec_DrawBox f = some sp → FnOk Tryz.prog f sp ∧ ∀ n ∈ sp.need, n ∈ ([] : List String) := phi_cons ok_spec_l01New (n0 rfl) (phi_cons ok_spec_l08Box (n0 rfl) (phi_nil))
theorem ok_spec_DrawBox : FnOk Tryz.prog 18 spDrawBox := by
  refine fn_ok (Φ := Phi_spec_DrawBox) (T := T_spec_DrawBox) phi_spec_DrawBox mixed Tryz.func18 rfl rfl rfl (by decide) ?_
  intro ins r outs hr hl
  clear hl
  have hs := spDrawBox_in hr
  clear hr
  obtain ⟨code, rfl, hc, hr, rfl⟩ := hs
  simp only [spDrawBox, Tryz.f18, Go.VM.initS]
  have i0 := cur0_in hc
  simp only [hc, i0, go_sem]
  repeat' ((first | apply qa | apply qb | apply qc | apply qd | apply qe | apply qf | apply qg | apply qh | apply qi | apply qj | apply qk) <;> intro hp <;> simp only [hp, hc, i0, go_sem])
  simp only [fin_mk, finV, resL, resV1, resIn, endA, listIn, Option.some_or, Option.none_or, oneOrTup, go_sem]
  rw [← hr]
  first | rfl | skip
end Go.Proofs.YtonjbbfgdloljaaGreatDoor.L

namespace Go.Proofs.YtonjbbfgdloljaaGreatDoor.L
open Go Go.VM
set_option maxRecDepth 100000
set_option maxHeartbeats 4000000
set_option linter.unusedSimpArgs false
set_option linter.unusedVariables false
def rkM : List (List UInt8) := [[119, 104, 97, 116], [115, 117, 98, 106, 101, 99, 116], [117, 105, 100], [117, 110], [109, 111, 100, 115, 101, 113], [117, 110, 97, 108, 108]]
def rkC (code : List Int) : Int × Cur := belO (cur0 code) 8
def rkW (code : List Int) : List (List UInt8) × Cur := wordsL 4 0 (rkC code).2 []
def drawRK (code : List Int) : List (List UInt8) :=
  if ((rkC code).1 == 0) = true then (rkW code).1 ++ [(pickO (rkW code).2 rkM).1]
  else if ((rkC code).1 == 1) = true then []
  else if ((rkC code).1 == 2) = true then (rkW code).1 ++ List.replicate (8 - (rkW code).1.length) [97, 108, 108]
  else (rkW code).1
theorem drawRK_in {code : List Int} (h : code.length ≤ 4194304) : (drawRK code).length ≤ 20 ∧ wordSmall (drawRK code) := by
  have h1 := belO_in (n := 8) (cur0_in h)
  have h2 := wordsL_in 4 0 (a := []) (c := (rkC code).2) h1.1 (by simp) (fun x hx => by cases hx)
  have h3 := pickO_in (l := rkM) (c := (rkW code).2) h2.2.2 (by decide)
  have h4 : (rkW code).1.length ≤ 8 := h2.1
  have h5 : ∀ x ∈ rkM, x.length ≤ 20 := by decide
  unfold drawRK
  repeat' split
  · refine ⟨by rw [List.length_append, List.length_singleton]; omega, fun x hx => ?_⟩
    rcases List.mem_append.1 hx with hx | hx
    · exact h2.2.1 x hx
    · rw [List.mem_singleton] at hx; subst hx; exact h5 _ h3.2
  · exact ⟨by simp, fun x hx => by cases hx⟩
  · refine ⟨by rw [List.length_append, List.length_replicate]; omega, fun x hx => ?_⟩
    rcases List.mem_append.1 hx with hx | hx
    · exact h2.2.1 x hx
    · rw [List.eq_of_mem_replicate hx]; decide
  · exact ⟨by omega, h2.2.1⟩
def keyW (c : Cur) : List (List UInt8) × Cur := wordsL 4 0 c []
def keyO (c : Cur) : Int × Cur := belO (keyW c).2 10
def keyD (c : Cur) : Key × Cur :=
  if ((keyO c).1 == 0) = true then (⟨(belO (keyO c).2 9).1, (belO (belO (keyO c).2 9).2 40).1, []⟩, (belO (belO (keyO c).2 9).2 40).2)
  else ((readKeys (keyW c).1).1.getD 0 ⟨0, 0, []⟩, (keyO c).2)
theorem keyD_in {c : Cur} (h : curI c) : keyFits 20 (keyD c).1 ∧ curI (keyD c).2 := by
  have h1 := wordsL_in 4 0 (a := []) (c := c) h (by simp) (fun x hx => by cases hx)
  have h2 := belO_in (n := 10) (c := (keyW c).2) h1.2.2
  have h3 := belO_in (n := 9) (c := (keyO c).2) h2.1
  have h4 := belO_in (n := 40) h3.1
  have h5 := readKeys_in (ws := (keyW c).1) (n := 20) h1.2.1
  have h6 : 1 ≤ (readKeys (keyW c).1).1.length := words_keys h
  unfold keyD
  split
  · exact ⟨by simp [keyFits], h4.1⟩
  · refine ⟨?_, h2.1⟩
    have : (readKeys (keyW c).1).1.getD 0 ⟨0, 0, []⟩ = (readKeys (keyW c).1).1[0] := by rw [List.getD_eq_getElem?_getD, List.getElem?_eq_getElem (by omega)]; rfl
    rw [this]
    exact h5.2 _ (List.getElem_mem _)
def anyN (x : Int) : List UInt8 := if x.tmod 3 = 0 then [] else if x.tmod 3 = 1 then [65] else [116, 111, 111, 108, 111, 110, 103, 110, 97, 109, 101]
def anyM (x : Int) : Int := if x.tmod 4 = 0 then 0 else if x.tmod 4 = 1 then 1 else if x.tmod 4 = 2 then 100000 else 100001
def setU (l : List Mail) (i : Nat) (u : Int) : List Mail := l.modify i fun m => ⟨u, m.Flags, m.Mod, m.Text⟩
def anyK (c : Cur) : Int × Cur := belO c 16
def anyX (c : Cur) : Int × Cur := belO (anyK c).2 60
def anyBx (c : Cur) : Box × Cur := box8 (anyX c).2
def chgB (k x : Int) (b : Box) : Box :=
  if k = 0 then ⟨anyN x, b.Valid, b.Next, b.Mod, b.Mails, b.Tombs, b.Horizon⟩
  else if k = 1 then ⟨b.Name, b.Valid, x.tmod 9, b.Mod, b.Mails, b.Tombs, b.Horizon⟩
  else if k = 2 then ⟨b.Name, b.Valid, b.Next, anyM x, b.Mails, b.Tombs, b.Horizon⟩
  else if k = 3 then (if 0 < b.Mails.length then ⟨b.Name, b.Valid, b.Next, b.Mod, setU b.Mails (x.tmod b.Mails.length).toNat (x.tmod 12), b.Tombs, b.Horizon⟩ else b)
  else if k = 4 then ⟨b.Name, b.Valid, b.Next, b.Mod, b.Mails, b.Tombs ++ [⟨x.tmod 12, x.tmod 20⟩], b.Horizon⟩
  else if k = 5 then ⟨b.Name, b.Valid, b.Next, b.Mod, b.Mails, b.Tombs, x.tmod 20⟩
  else if k = 6 then ⟨b.Name, b.Valid, 9999 - x.tmod 2, b.Mod, b.Mails, b.Tombs, b.Horizon⟩
  else b
def anyB (c : Cur) : Box × Cur := (chgB (anyK c).1 (anyX c).1 (anyBx c).1, (anyBx c).2)
theorem anyN_len (x : Int) : (anyN x).length ≤ 11 := by
  unfold anyN
  split
  · decide
  split
  · decide
  · decide
theorem setU_mem {l : List Mail} {i : Nat} {u : Int} {m : Mail} (h : m ∈ setU l i u) : ∃ m' ∈ l, m.Text = m'.Text := by
  unfold setU at h
  obtain ⟨j, hj, rfl⟩ := List.mem_iff_getElem.1 h
  have hj' : j < l.length := by rw [List.length_modify] at hj; exact hj
  refine ⟨l[j], List.getElem_mem hj', ?_⟩
  rw [List.getElem_modify]
  split <;> rfl
theorem chgB_mails {k x : Int} {b : Box} : (chgB k x b).Mails.length = b.Mails.length ∧ ∀ m ∈ (chgB k x b).Mails, ∃ m' ∈ b.Mails, m.Text = m'.Text := by
  unfold chgB
  repeat' split
  all_goals first
    | exact ⟨rfl, fun m hm => ⟨m, hm, rfl⟩⟩
    | exact ⟨by show (setU _ _ _).length = _; unfold setU; rw [List.length_modify], fun m hm => setU_mem hm⟩
def drawMm (code : List Int) : Mail × Key :=
  let k := keyD (cur0 code)
  let b := anyB k.2
  if b.1.Mails.length = 0 then (⟨1, 0, 0, [115, 117, 98, 106, 101, 99, 116, 58, 32, 120]⟩, k.1) else (b.1.Mails.getD (belO b.2 b.1.Mails.length).1.toNat ⟨0, 0, 0, []⟩, k.1)
theorem anyB_in {c : Cur} (h : curI c) : (anyB c).1.le 4194304 ∧ curI (anyB c).2 := by
  have h1 := belO_in (n := 16) h
  have h2 := belO_in (n := 60) (c := (anyK c).2) h1.1
  have h3 := box8_in (c := (anyX c).2) h2.1
  have hb : (anyBx c).1.le 4194304 := box_le h3.1
  have hp := (boxOk_parts h3.1)
  refine ⟨?_, h3.2⟩
  obtain ⟨m1, m2⟩ := chgB_mails (k := (anyK c).1) (x := (anyX c).1) (b := (anyBx c).1)
  have hm : leL Mail.le 4194304 (chgB (anyK c).1 (anyX c).1 (anyBx c).1).Mails := by
    refine ⟨by rw [m1]; exact hb.2.1.1, fun m hm => ?_⟩
    obtain ⟨m', h4, h5⟩ := m2 m hm
    have h6 : m'.Text.length ≤ 4194304 := hb.2.1.2 m' h4
    show m.Text.length ≤ 4194304
    rw [h5]; exact h6
  have hn : (chgB (anyK c).1 (anyX c).1 (anyBx c).1).Name.length ≤ 4194304 := by
    have h7 : (anyBx c).1.Name.length ≤ 4194304 := hb.1
    unfold chgB
    repeat' split
    all_goals first | exact h7 | exact Nat.le_trans (anyN_len _) (by decide)
  have ht : leL Tomb.le 4194304 (chgB (anyK c).1 (anyX c).1 (anyBx c).1).Tombs := by
    have h8 : (anyBx c).1.Tombs.length ≤ 40 := hp.2.2.1
    refine ⟨?_, fun _ _ => trivial⟩
    unfold chgB
    repeat' split
    all_goals (try simp only [List.length_append, List.length_singleton])
    all_goals omega
  exact ⟨hn, hm, ht⟩
theorem drawMm_le {code : List Int} (h : code.length ≤ 4194304) : (drawMm code).1.Text.length ≤ 4194304 ∧ (drawMm code).2.Text.length ≤ 4194304 := by
  have h1 := keyD_in (cur0_in h)
  have h2 := anyB_in h1.2
  have hk : (keyD (cur0 code)).1.Text.length ≤ 4194304 := Nat.le_trans h1.1 (by decide)
  unfold drawMm
  simp only
  split
  · exact ⟨by simp, hk⟩
  · rename_i hl
    refine ⟨?_, hk⟩
    have h3 := belO_in (n := ((anyB (keyD (cur0 code)).2).1.Mails.length : Int)) h2.2
    have h4 := h3.2.2 (by omega)
    have h5 : (belO (anyB (keyD (cur0 code)).2).2 (anyB (keyD (cur0 code)).2).1.Mails.length).1.toNat < (anyB (keyD (cur0 code)).2).1.Mails.length := by omega
    rw [List.getD_eq_getElem?_getD, List.getElem?_eq_getElem h5]
    exact h2.1.2.1.2 _ (List.getElem_mem h5)
end Go.Proofs.YtonjbbfgdloljaaGreatDoor.L

namespace Go.Proofs.YtonjbbfgdloljaaGreatDoor.L
open Go Go.VM
set_option maxRecDepth 100000
set_option maxHeartbeats 4000000
set_option linter.unusedSimpArgs false
set_option linter.unusedVariables false
def T_impl_SetSize : Hints := ⟨lk [], lk [(5, [3, 9, 10, 11])], lk [(0, [0]), (1, [0, 8]), (2, [2]), (3, [0, 3]), (4, [3, 9, 10, 11]), (5, [3, 9, 10, 11, 12]), (6, [3, 5, 9, 10, 11]), (7, [3, 9, 10, 11]), (8, [3, 9, 10, 11]), (9, [2])], lk []⟩
noncomputable def Phi_impl_SetSize : Tab := lk [(45, spSetOk)]
attribute [go_sem] T_impl_SetSize Phi_impl_SetSize
theorem phi_impl_SetSize : ∀ f sp, Phi_impl_SetSize f = some sp → FnOk Tryz.prog f sp ∧ ∀ n ∈ sp.need, n ∈ ([] : List String) := phi_cons ok_impl_SetOk (n0 rfl) (phi_nil)
theorem ok_impl_SetSize : FnOk Tryz.prog 21 spSetSize := by
  refine fn_ok (Φ := Phi_impl_SetSize) (T := T_impl_SetSize) phi_impl_SetSize mixed Tryz.func21 rfl rfl rfl (by decide) ?_
  intro ins r outs hr hl
  clear hl
  have hs := spSetSize_in hr
  clear hr
  obtain ⟨s, rfl, hc, hr, rfl⟩ := hs
  simp only [spSetSize, Tryz.f21, Go.VM.initS]
  cases k : setOk s with
  | false =>
    simp only [hc, k, go_sem]
    repeat' ((first | apply qa | apply qb | apply qc | apply qd | apply qe | apply qf | apply qg | apply qh | apply qi | apply qj | apply qk) <;> intro hp <;> simp only [hp, hc, k, go_sem])
    simp only [fin_mk, finV, resL, resV1, resIn, endA, listIn, Option.some_or, Option.none_or, oneOrTup, go_sem]
    rw [← hr]
    simp only [setSize, k, Bool.false_eq_true, if_false]
  | true =>
  have hl : s.length ≤ 40 := by simp only [setOk, Bool.and_eq_true, decide_eq_true_eq] at k; exact k.2
  simp only [hc, k, go_sem]
  repeat' ((first | apply qa | apply qb | apply qc | apply qd | apply qe | apply qf | apply qg | apply qh | apply qi | apply qj | apply qk) <;> intro hp <;> simp only [hp, hc, k, go_sem])
  refine loop_go (fun p : Nat × Int => [(3, .int .i64 p.2), (11, .int .i64 (p.1 : Int))]) (fun _ => []) (fun p => s.length - p.1) (fun p => p.1 ≤ s.length ∧ p.2 = sizeL (s.take p.1) ∧ 0 ≤ p.2 ∧ p.2 ≤ 9999 * p.1) (0, 0) ⟨Nat.zero_le _, rfl, by simp, by simp⟩ rfl rfl ?_
  rintro ⟨i, n⟩ ⟨hi, hn, h0, h1⟩ ih
  simp only at hi hn h0 h1 ih
  rcases Nat.lt_or_ge i s.length with h | h
  · have g1 : (i : Int) < s.length := by omega
    have g2 : (0 : Int) ≤ i := by omega
    have g3 : s[i]? = some s[i] := List.getElem?_eq_getElem h
    have g5 := wrap_succ h (by omega)
    obtain ⟨a1, a2, a3⟩ := size_at k h
    have w1 : IntKind.i64.wrap (s[i].Hi - s[i].Lo) = s[i].Hi - s[i].Lo := wrap64 (by omega) (by omega)
    have w2 : IntKind.i64.wrap (s[i].Hi - s[i].Lo + 1) = s[i].Hi - s[i].Lo + 1 := wrap64 (by omega) (by omega)
    have w3 : IntKind.i64.wrap (n + (s[i].Hi - s[i].Lo + 1)) = n + s[i].Hi - s[i].Lo + 1 := (wrap64 (by omega) (by omega)).trans (by omega)
    have ih' := ih (i + 1, n + s[i].Hi - s[i].Lo + 1) ⟨h, by rw [take_succ' h, sizeL_snoc, hn], by simp only; omega, by simp only; omega⟩ (by simp only; omega)
    simp only [g1, g2, g3, g5, w1, w2, w3, go_sem]
    repeat' ((first | apply qa | apply qb | apply qc | apply qd | apply qe | apply qf | apply qg | apply qh | apply qi | apply qj | apply qk) <;> intro hp <;> simp only [hp, g1, g2, g3, g5, w1, w2, w3, go_sem])
    exact ih'
  · have g1 : ¬ (i : Int) < s.length := by omega
    simp only [g1, go_sem]
    repeat' ((first | apply qa | apply qb | apply qc | apply qd | apply qe | apply qf | apply qg | apply qh | apply qi | apply qj | apply qk) <;> intro hp <;> simp only [hp, g1, go_sem])
    simp only [fin_mk, finV, resL, resV1, resIn, endA, listIn, Option.some_or, Option.none_or, oneOrTup, go_sem]
    rw [← hr]
    rw [setSize, if_pos k, hn, List.take_of_length_le h]
open Classical in
noncomputable def spDrawReadKeys : VM.Spec := { modes := [.rd], run := fun | [.lst 1 code'] => (decL dU8 code').bind fun code => if code.length ≤ 4194304 then some (.lst 1 ((drawRK code).map eStr), []) else none | _ => none, need := [] }
attribute [go_sem] spDrawReadKeys
theorem spDrawReadKeys_in {ins : List V} {r : V} {outs : List V} (h : spDrawReadKeys.run ins = some (r, outs)) : ∃ (code : (List Int)), ins = [.lst 1 ((code).map eU8)] ∧ (code.length ≤ 4194304) ∧ .lst 1 ((drawRK code).map eStr) = r ∧ outs = [] := by
  unfold spDrawReadKeys at h
  simp only at h
  split at h
  · rename_i code'
    simp only [Option.bind_eq_some_iff] at h
    obtain ⟨code, h_code, h⟩ := h
    split at h
    case isFalse => cases h
    rename_i hc
    simp only [Option.some.injEq, Prod.mk.injEq] at h
    obtain ⟨h1, h2⟩ := h
    have h_code := decL_some (fun _ _ h => dU8_some h) h_code
    subst h_code
    exact ⟨code, rfl, hc, h1, h2.symm⟩
  · cases h
def T_spec_DrawReadKeys : Hints := ⟨lk [], lk [(10, [5])], lk [(0, [0]), (1, [3]), (2, [3, 4]), (3, [3, 4, 5]), (4, [3, 5, 12]), (5, [3, 5, 12, 13]), (6, [2]), (7, [5, 12, 21]), (8, [2]), (9, [5, 24]), (10, [5, 28]), (11, [5]), (12, [2])], lk []⟩
noncomputable def Phi_spec_DrawReadKeys : Tab := lk [(26, spNew), (31, spBelow), (32, spPick), (47, spWords)]
attribute [go_sem] T_spec_DrawReadKeys Phi_spec_DrawReadKeys
theorem phi_spec_DrawReadKeys : ∀ f sp, Phi_spec_DrawReadKeys f = some sp → FnOk Tryz.prog f sp ∧ ∀ n ∈ sp.need, n ∈ ([] : List String) := phi_cons ok_spec_l01New (n0 rfl) (phi_cons ok_spec_l01Below (n0 rfl) (phi_cons ok_spec_l01Pick (n0 rfl) (phi_cons ok_spec_l12Words (n0 rfl) (phi_nil))))
theorem ok_spec_DrawReadKeys : FnOk Tryz.prog 15 spDrawReadKeys := by
  refine fn_ok (Φ := Phi_spec_DrawReadKeys) (T := T_spec_DrawReadKeys) phi_spec_DrawReadKeys mixed Tryz.func15 rfl rfl rfl (by decide) ?_
  intro ins r outs hr hl
  clear hl
  have hs := spDrawReadKeys_in hr
  clear hr
  obtain ⟨code, rfl, hc, hr, rfl⟩ := hs
  simp only [spDrawReadKeys, Tryz.f15, Go.VM.initS]
  have i0 := cur0_in hc
  have i1 := belO_in (n := 8) i0
  obtain ⟨⟨k, c1⟩, e1⟩ : ∃ x, belO (cur0 code) 8 = x := ⟨_, rfl⟩
  rw [e1] at i1
  simp only at i1
  have i2 := wordsL_in 4 0 (a := []) (c := c1) i1.1 (by simp) (fun x hx => by cases hx)
  obtain ⟨⟨ws, c2⟩, e2⟩ : ∃ x, wordsL 4 0 c1 [] = x := ⟨_, rfl⟩
  rw [e2] at i2
  simp only at i2
  have i3 := pickO_in (c := c2) (l := rkM) i2.2.2 (by decide)
  obtain ⟨⟨x, c3⟩, e3⟩ : ∃ x, pickO c2 rkM = x := ⟨_, rfl⟩
  rw [e3] at i3
  simp only at i3
  have f1 : rkC code = (k, c1) := e1
  have f2 : rkW code = (ws, c2) := by rw [rkW, f1]; exact e2
  have e3' := e3
  rw [rkM] at e3'
  have l1 : ws.length ≤ 8 := i2.1
  have q1 : ws.length + 1 ≤ 9223372036854775807 := by omega
  have q2 : ws.length ≤ 9223372036854775806 := by omega
  have q4 : (ws.length + 1) * 16 ≤ 140737488355328 := by omega
  cases k0 : (k == 0) with
  | true =>
    have e : drawRK code = ws ++ [x] := by simp only [drawRK, f1, f2, k0, e3, if_true]
    rw [e] at hr
    simp only [hc, i0, e1, i1.1, e2, i2.2.2, e3', k0, q1, q2, q4, go_sem]
    repeat' ((first | apply qa | apply qb | apply qc | apply qd | apply qe | apply qf | apply qg | apply qh | apply qi | apply qj | apply qk) <;> intro hp <;> simp only [hp, hc, i0, e1, i1.1, e2, i2.2.2, e3', k0, q1, q2, q4, go_sem])
    all_goals first | omega | skip
    all_goals (simp only [fin_mk, finV, resL, resV1, resIn, endA, listIn, Option.some_or, Option.none_or, oneOrTup, go_sem]; rw [← hr])
    all_goals (simp; rfl)
  | false =>
  cases k1 : (k == 1) with
  | true =>
    have e : drawRK code = [] := by simp only [drawRK, f1, k0, k1, Bool.false_eq_true, if_false, if_true]
    rw [e] at hr
    simp only [hc, i0, e1, i1.1, e2, k0, k1, go_sem]
    repeat' ((first | apply qa | apply qb | apply qc | apply qd | apply qe | apply qf | apply qg | apply qh | apply qi | apply qj | apply qk) <;> intro hp <;> simp only [hp, hc, i0, e1, i1.1, e2, k0, k1, go_sem])
    simp only [fin_mk, finV, resL, resV1, resIn, endA, listIn, Option.some_or, Option.none_or, oneOrTup, go_sem]
    rw [← hr]
    rfl
  | false =>
  cases k2 : (k == 2) with
  | false =>
    have e : drawRK code = ws := by simp only [drawRK, f1, f2, k0, k1, k2, Bool.false_eq_true, if_false]
    rw [e] at hr
    simp only [hc, i0, e1, i1.1, e2, k0, k1, k2, go_sem]
    repeat' ((first | apply qa | apply qb | apply qc | apply qd | apply qe | apply qf | apply qg | apply qh | apply qi | apply qj | apply qk) <;> intro hp <;> simp only [hp, hc, i0, e1, i1.1, e2, k0, k1, k2, go_sem])
    simp only [fin_mk, finV, resL, resV1, resIn, endA, listIn, Option.some_or, Option.none_or, oneOrTup, go_sem]
    rw [← hr]
  | true =>
    have e : drawRK code = ws ++ List.replicate (8 - ws.length) [97, 108, 108] := by simp only [drawRK, f1, f2, k0, k1, k2, Bool.false_eq_true, if_false, if_true]
    rw [e] at hr
    simp only [hc, i0, e1, i1.1, e2, k0, k1, k2, go_sem]
    repeat' ((first | apply qa | apply qb | apply qc | apply qd | apply qe | apply qf | apply qg | apply qh | apply qi | apply qj | apply qk) <;> intro hp <;> simp only [hp, hc, i0, e1, i1.1, e2, k0, k1, k2, go_sem])
    refine loop_go (fun p : List (List UInt8) => []) (fun p => [(0, ⟨.arr, 1, p.map eStr⟩)]) (fun p => 8 - p.length) (fun p => p.length ≤ 8 ∧ p ++ List.replicate (8 - p.length) [97, 108, 108] = ws ++ List.replicate (8 - ws.length) [97, 108, 108]) ws ⟨l1, rfl⟩ rfl rfl ?_
    rintro p ⟨hp1, hp2⟩ ih
    by_cases h : p.length < 8
    · have g1 : (p.length : Int) < 8 := by omega
      have z1 : p.length + 1 ≤ 9223372036854775807 := by omega
      have z2 : p.length ≤ 9223372036854775806 := by omega
      have z4 : (p.length + 1) * 16 ≤ 140737488355328 := by omega
      have ih' := ih (p ++ [[97, 108, 108]]) ⟨by simp; omega, by rw [← hp2, List.append_assoc, List.length_append, List.length_singleton, show 8 - p.length = (8 - (p.length + 1)) + 1 by omega, List.replicate_succ]; rfl⟩ (by simp; omega)
      simp only [List.map_append, List.map_cons, List.map_nil] at ih'
      clear ih
      simp only [g1, z1, z2, z4, go_sem]
      repeat' ((first | apply qa | apply qb | apply qc | apply qd | apply qe | apply qf | apply qg | apply qh | apply qi | apply qj | apply qk) <;> intro hp <;> simp only [hp, g1, z1, z2, z4, go_sem])
      all_goals first | exact ih' | (clear ih'; omega)
    · have g1 : ¬ (p.length : Int) < 8 := by omega
      have hp3 : 8 - p.length = 0 := by omega
      rw [hp3, List.replicate_zero, List.append_nil] at hp2
      clear ih
      simp only [g1, go_sem]
      repeat' ((first | apply qa | apply qb | apply qc | apply qd | apply qe | apply qf | apply qg | apply qh | apply qi | apply qj | apply qk) <;> intro hp <;> simp only [hp, g1, go_sem])
      simp only [fin_mk, finV, resL, resV1, resIn, endA, listIn, Option.some_or, Option.none_or, oneOrTup, go_sem]
      rw [← hr]
      rw [hp2]
open Classical in
noncomputable def spKeyD : VM.Spec := { modes := [.ptr], run := fun | [.rptr (c')] => (Cur.dec c').bind fun c => if curI c then some (Key.enc ((keyD c).1), [.rptr (Cur.enc ((keyD c).2))]) else none | _ => none, need := ["internal/bytealg.MaxLen"] }
attribute [go_sem] spKeyD
theorem spKeyD_in {ins : List V} {r : V} {outs : List V} (h : spKeyD.run ins = some (r, outs)) : ∃ (c : Cur), ins = [.rptr (Cur.enc c)] ∧ (curI c) ∧ Key.enc ((keyD c).1) = r ∧ outs = [.rptr (Cur.enc ((keyD c).2))] := by
  unfold spKeyD at h
  simp only at h
  split at h
  · rename_i c'
    simp only [Option.bind_eq_some_iff] at h
    obtain ⟨c, h_c, h⟩ := h
    split at h
    case isFalse => cases h
    rename_i hc
    simp only [Option.some.injEq, Prod.mk.injEq] at h
    obtain ⟨h1, h2⟩ := h
    have h_c := Cur.dec_some h_c
    subst h_c
    exact ⟨c, rfl, hc, h1, h2.symm⟩
  · cases h
def T_spec_l12Key : Hints := ⟨lk [], lk [], lk [(0, [0, 2]), (1, [0, 2, 3]), (2, [0, 2, 3, 12]), (3, [2]), (4, [2])], lk []⟩
noncomputable def Phi_spec_l12Key : Tab := lk [(47, spWords), (17, spReadKeys), (95, spOnce), (31, spBelow)]
attribute [go_sem] T_spec_l12Key Phi_spec_l12Key
theorem phi_spec_l12Key : ∀ f sp, Phi_spec_l12Key f = some sp → FnOk Tryz.prog f sp ∧ ∀ n ∈ sp.need, n ∈ (["internal/bytealg.MaxLen"] : List String) := phi_cons ok_spec_l12Words (n0 rfl) (phi_cons ok_spec_ReadKeys (fun n (h : n ∈ (["internal/bytealg.MaxLen"] : List String)) => by simp only [List.mem_cons, List.not_mem_nil, or_false] at h; rcases h with rfl <;> simp) (phi_cons ok_spec_l01Once (n0 rfl) (phi_cons ok_spec_l01Below (n0 rfl) (phi_nil))))
theorem ok_spec_l12Key : FnOk Tryz.prog 55 spKeyD := by
  refine fn_ok (Φ := Phi_spec_l12Key) (T := T_spec_l12Key) phi_spec_l12Key mixed Tryz.func55 rfl rfl rfl (by decide) ?_
  intro ins r outs hr hl
  clear hl
  have hs := spKeyD_in hr
  clear hr
  obtain ⟨c, rfl, hc, hr, rfl⟩ := hs
  simp only [spKeyD, Tryz.f55, Go.VM.initS]
  have h1 := wordsL_in 4 0 (a := []) (c := c) hc (by simp) (fun x hx => by cases hx)
  have h6 : 1 ≤ (readKeys (wordsL 4 0 c []).1).1.length := words_keys hc
  have d0 : keyW c = wordsL 4 0 c [] := rfl
  obtain ⟨⟨ws, c1⟩, e1⟩ : ∃ x, wordsL 4 0 c [] = x := ⟨_, rfl⟩
  rw [e1] at h1 h6 d0
  simp only at h1 h6
  have h5 := readKeys_in (ws := ws) (n := 20) h1.2.1
  have h2 := belO_in (n := 10) (c := c1) h1.2.2
  obtain ⟨⟨o, c2⟩, e2⟩ : ∃ x, belO c1 10 = x := ⟨_, rfl⟩
  rw [e2] at h2
  simp only at h2
  have d1 : keyO c = (o, c2) := by rw [keyO, d0]; exact e2
  have h3 := belO_in (n := 9) (c := c2) h2.1
  obtain ⟨⟨a, c3⟩, e3⟩ : ∃ x, belO c2 9 = x := ⟨_, rfl⟩
  rw [e3] at h3
  simp only at h3
  obtain ⟨⟨b, c4⟩, e4⟩ : ∃ x, belO c3 40 = x := ⟨_, rfl⟩
  obtain ⟨L, eL⟩ : ∃ L, (readKeys ws).1 = L := ⟨_, rfl⟩
  rw [eL] at h5 h6
  have lw : ws.length ≤ 4194304 := by omega
  have lw2 : ∀ w ∈ ws, w.length ≤ 4194304 := fun w hw => by have := h1.2.1 w hw; omega
  have lw3 := eq_true lw2
  have g0 : L[0]? = some L[0] := List.getElem?_eq_getElem (by omega)
  have g1 : (0 : Int) < L.length := by omega
  have g2 : 0 < L.length := by omega
  cases ho : (o == 0) with
  | true =>
    have e : keyD c = (⟨a, b, []⟩, c4) := by simp only [keyD, d1, ho, if_true, e3, e4]
    rw [e] at hr ⊢
    simp only [hc, e1, lw, lw3, eL, h1.2.2, e2, ho, h2.1, e3, h3.1, e4, go_sem]
    repeat' ((first | apply qa | apply qb | apply qc | apply qd | apply qe | apply qf | apply qg | apply qh | apply qi | apply qj | apply qk) <;> intro hp <;> simp only [hp, hc, e1, lw, lw3, eL, h1.2.2, e2, ho, h2.1, e3, h3.1, e4, go_sem])
    all_goals (simp only [fin_mk, finV, resL, resV1, resIn, endA, listIn, Option.some_or, Option.none_or, oneOrTup, go_sem]; rw [← hr])
    all_goals first | rfl | skip
  | false =>
    have e : keyD c = (L[0], c2) := by
      have : L.getD 0 ⟨0, 0, []⟩ = L[0] := by rw [List.getD_eq_getElem?_getD, g0]; rfl
      simp only [keyD, d1, d0, ho, Bool.false_eq_true, if_false, eL, this]
    rw [e] at hr ⊢
    simp only [hc, e1, lw, lw3, eL, h1.2.2, e2, ho, g0, g1, g2, go_sem]
    repeat' ((first | apply qa | apply qb | apply qc | apply qd | apply qe | apply qf | apply qg | apply qh | apply qi | apply qj | apply qk) <;> intro hp <;> simp only [hp, hc, e1, lw, lw3, eL, h1.2.2, e2, ho, g0, g1, g2, go_sem])
    all_goals (simp only [fin_mk, finV, resL, resV1, resIn, endA, listIn, Option.some_or, Option.none_or, oneOrTup, go_sem]; rw [← hr])
    all_goals first | rfl | skip
end Go.Proofs.YtonjbbfgdloljaaGreatDoor.L

namespace Go.Proofs.YtonjbbfgdloljaaGreatDoor.L
open Go Go.VM
set_option maxRecDepth 100000
set_option maxHeartbeats 4000000
set_option linter.unusedSimpArgs false
set_option linter.unusedVariables false
theorem setU_enc {l : List Mail} {j : Nat} {u : Int} (h : j < l.length) : (setU l j u).map Mail.enc = (l.map Mail.enc).set j (.agg [.int .i64 u, .int .i64 l[j].Flags, .int .i64 l[j].Mod, .str l[j].Text]) := by
  unfold setU
  apply List.ext_getElem
  · simp
  · intro n h1 h2
    simp only [List.getElem_map, List.getElem_modify, List.getElem_set]
    split
    · rename_i e; subst e; rfl
    · rfl
open Classical in
noncomputable def spAnyB : VM.Spec := { modes := [.ptr], run := fun | [.rptr (c')] => (Cur.dec c').bind fun c => if curI c then some (Box.enc ((anyB c).1), [.rptr (Cur.enc ((anyB c).2))]) else none | _ => none, need := [] }
attribute [go_sem] spAnyB
theorem spAnyB_in {ins : List V} {r : V} {outs : List V} (h : spAnyB.run ins = some (r, outs)) : ∃ (c : Cur), ins = [.rptr (Cur.enc c)] ∧ (curI c) ∧ Box.enc ((anyB c).1) = r ∧ outs = [.rptr (Cur.enc ((anyB c).2))] := by
  unfold spAnyB at h
  simp only at h
  split at h
  · rename_i c'
    simp only [Option.bind_eq_some_iff] at h
    obtain ⟨c, h_c, h⟩ := h
    split at h
    case isFalse => cases h
    rename_i hc
    simp only [Option.some.injEq, Prod.mk.injEq] at h
    obtain ⟨h1, h2⟩ := h
    have h_c := Cur.dec_some h_c
    subst h_c
    exact ⟨c, rfl, hc, h1, h2.symm⟩
  · cases h
def T_spec_l08Any : Hints := ⟨lk [(13, [])], lk [], lk [(0, [0, 2]), (1, [0, 2, 3]), (2, [0, 2, 3, 4]), (3, [2, 3, 4, 5]), (4, [2, 4, 5, 13]), (5, [2, 4, 5, 13, 14]), (6, [2, 5]), (7, [2, 4, 5, 13, 22]), (8, [2, 5]), (9, [2, 4, 5, 13, 27]), (10, [2, 5]), (11, [2, 4, 5, 13, 35]), (12, [2, 4, 5, 40]), (13, [2, 5]), (14, [2, 4, 5, 13, 52]), (15, [2, 5]), (16, [2, 4, 5, 13, 64]), (17, [2, 5]), (18, [2, 4, 5, 69]), (19, [2, 5]), (20, [2])], lk []⟩
noncomputable def Phi_spec_l08Any : Tab := lk [(31, spBelow), (53, spBox8), (97, spCopyBox)]
attribute [go_sem] T_spec_l08Any Phi_spec_l08Any
theorem phi_spec_l08Any : ∀ f sp, Phi_spec_l08Any f = some sp → FnOk Tryz.prog f sp ∧ ∀ n ∈ sp.need, n ∈ ([] : List String) := phi_cons ok_spec_l01Below (n0 rfl) (phi_cons ok_spec_l08Box (n0 rfl) (phi_cons ok_spec_l08Copy (n0 rfl) (phi_nil)))
theorem ok_spec_l08Any : FnOk Tryz.prog 56 spAnyB := by
  refine fn_ok (Φ := Phi_spec_l08Any) (T := T_spec_l08Any) phi_spec_l08Any mixed Tryz.func56 rfl rfl rfl (by decide) ?_
  intro ins r outs hr hl
  clear hl
  have hs := spAnyB_in hr
  clear hr
  obtain ⟨c, rfl, hc, hr, rfl⟩ := hs
  simp only [spAnyB, Tryz.f56, Go.VM.initS]
  have h1 := belO_in (n := 16) hc
  obtain ⟨⟨k, c1⟩, e1⟩ : ∃ x, belO c 16 = x := ⟨_, rfl⟩
  rw [e1] at h1
  simp only at h1
  have h2 := belO_in (n := 60) (c := c1) h1.1
  obtain ⟨⟨x, c2⟩, e2⟩ : ∃ y, belO c1 60 = y := ⟨_, rfl⟩
  rw [e2] at h2
  simp only at h2
  have h3 := box8_in (c := c2) h2.1
  obtain ⟨⟨b, c3⟩, e3⟩ : ∃ y, box8 c2 = y := ⟨_, rfl⟩
  rw [e3] at h3
  simp only at h3
  have hb := box_le h3.1
  have d1 : anyK c = (k, c1) := e1
  have d2 : anyX c = (x, c2) := by rw [anyX, d1]; exact e2
  have d3 : anyBx c = (b, c3) := by rw [anyBx, d2]; exact e3
  have e : anyB c = (chgB k x b, c3) := by rw [anyB, d1, d2, d3]
  rw [e] at hr ⊢
  have hx0 := h2.2.1
  have hx1 := h2.2.2 (by decide)
  have hk0 := h1.2.1
  have hml : b.Mails.length ≤ 30 := (boxOk_parts h3.1).2.1
  have htl : b.Tombs.length ≤ 40 := (boxOk_parts h3.1).2.2.1
  clear e
  have hk' : k = 0 ∨ k = 1 ∨ k = 2 ∨ k = 3 ∨ k = 4 ∨ k = 5 ∨ k = 6 ∨ 7 ≤ k := by omega
  rcases hk' with rfl | rfl | rfl | rfl | rfl | rfl | rfl | hk7
  · have e : chgB 0 x b = ⟨anyN x, b.Valid, b.Next, b.Mod, b.Mails, b.Tombs, b.Horizon⟩ := by simp only [chgB, if_true]
    rw [e] at hr
    have y0 : (0 : Int) < ((3 : Nat) : Int) := by decide
    have y1 : (1 : Int) < ((3 : Nat) : Int) := by decide
    have y2 : (2 : Int) < ((3 : Nat) : Int) := by decide
    have hx3 : x.tmod 3 = 0 ∨ x.tmod 3 = 1 ∨ x.tmod 3 = 2 := by rw [Int.tmod_eq_emod_of_nonneg hx0]; omega
    rcases hx3 with m | m | m
    all_goals (simp only [anyN, m, if_true, Int.reduceEq, if_false] at hr)
    · simp only [hc, e1, h1.1, e2, h2.1, e3, hb, m, y0, y1, y2, go_sem]
      repeat' ((first | ((first | apply qa | apply qb | apply qc | apply qd | apply qe | apply qf | apply qg | apply qh | apply qi | apply qj | apply qk) <;> intro hp) | ((first | refine ql rfl rfl (by decide +kernel) ?_ | refine qm _ rfl rfl (by decide +kernel) ?_) <;> have hp := True.intro)) <;> simp only [hp, hc, e1, h1.1, e2, h2.1, e3, hb, m, y0, y1, y2, go_sem])
      all_goals (simp only [fin_mk, finV, resL, resV1, resIn, endA, listIn, Option.some_or, Option.none_or, oneOrTup, go_sem]; rw [← hr])
      all_goals rfl
    · simp only [hc, e1, h1.1, e2, h2.1, e3, hb, m, y0, y1, y2, go_sem]
      repeat' ((first | ((first | apply qa | apply qb | apply qc | apply qd | apply qe | apply qf | apply qg | apply qh | apply qi | apply qj | apply qk) <;> intro hp) | ((first | refine ql rfl rfl (by decide +kernel) ?_ | refine qm _ rfl rfl (by decide +kernel) ?_) <;> have hp := True.intro)) <;> simp only [hp, hc, e1, h1.1, e2, h2.1, e3, hb, m, y0, y1, y2, go_sem])
      all_goals (simp only [fin_mk, finV, resL, resV1, resIn, endA, listIn, Option.some_or, Option.none_or, oneOrTup, go_sem]; rw [← hr])
      all_goals rfl
    · simp only [hc, e1, h1.1, e2, h2.1, e3, hb, m, y0, y1, y2, go_sem]
      repeat' ((first | ((first | apply qa | apply qb | apply qc | apply qd | apply qe | apply qf | apply qg | apply qh | apply qi | apply qj | apply qk) <;> intro hp) | ((first | refine ql rfl rfl (by decide +kernel) ?_ | refine qm _ rfl rfl (by decide +kernel) ?_) <;> have hp := True.intro)) <;> simp only [hp, hc, e1, h1.1, e2, h2.1, e3, hb, m, y0, y1, y2, go_sem])
      all_goals (simp only [fin_mk, finV, resL, resV1, resIn, endA, listIn, Option.some_or, Option.none_or, oneOrTup, go_sem]; rw [← hr])
      all_goals rfl
  · have e : chgB 1 x b = ⟨b.Name, b.Valid, x.tmod 9, b.Mod, b.Mails, b.Tombs, b.Horizon⟩ := by simp only [chgB, if_true, Int.reduceEq, if_false]
    rw [e] at hr
    simp only [hc, e1, h1.1, e2, h2.1, e3, hb, go_sem]
    repeat' ((first | ((first | apply qa | apply qb | apply qc | apply qd | apply qe | apply qf | apply qg | apply qh | apply qi | apply qj | apply qk) <;> intro hp) | ((first | refine ql rfl rfl (by decide +kernel) ?_ | refine qm _ rfl rfl (by decide +kernel) ?_) <;> have hp := True.intro)) <;> simp only [hp, hc, e1, h1.1, e2, h2.1, e3, hb, go_sem])
    all_goals (simp only [fin_mk, finV, resL, resV1, resIn, endA, listIn, Option.some_or, Option.none_or, oneOrTup, go_sem]; rw [← hr])
    all_goals rfl
  · have e : chgB 2 x b = ⟨b.Name, b.Valid, b.Next, anyM x, b.Mails, b.Tombs, b.Horizon⟩ := by simp only [chgB, if_true, Int.reduceEq, if_false]
    rw [e] at hr
    have y0 : (0 : Int) < ((4 : Nat) : Int) := by decide
    have y1 : (1 : Int) < ((4 : Nat) : Int) := by decide
    have y2 : (2 : Int) < ((4 : Nat) : Int) := by decide
    have y3 : (3 : Int) < ((4 : Nat) : Int) := by decide
    have hx3 : x.tmod 4 = 0 ∨ x.tmod 4 = 1 ∨ x.tmod 4 = 2 ∨ x.tmod 4 = 3 := by rw [Int.tmod_eq_emod_of_nonneg hx0]; omega
    rcases hx3 with m | m | m | m
    all_goals (simp only [anyM, m, if_true, Int.reduceEq, if_false] at hr)
    · simp only [hc, e1, h1.1, e2, h2.1, e3, hb, m, y0, y1, y2, y3, go_sem]
      repeat' ((first | ((first | apply qa | apply qb | apply qc | apply qd | apply qe | apply qf | apply qg | apply qh | apply qi | apply qj | apply qk) <;> intro hp) | ((first | refine ql rfl rfl (by decide +kernel) ?_ | refine qm _ rfl rfl (by decide +kernel) ?_) <;> have hp := True.intro)) <;> simp only [hp, hc, e1, h1.1, e2, h2.1, e3, hb, m, y0, y1, y2, y3, go_sem])
      all_goals (simp only [fin_mk, finV, resL, resV1, resIn, endA, listIn, Option.some_or, Option.none_or, oneOrTup, go_sem]; rw [← hr])
      all_goals rfl
    · simp only [hc, e1, h1.1, e2, h2.1, e3, hb, m, y0, y1, y2, y3, go_sem]
      repeat' ((first | ((first | apply qa | apply qb | apply qc | apply qd | apply qe | apply qf | apply qg | apply qh | apply qi | apply qj | apply qk) <;> intro hp) | ((first | refine ql rfl rfl (by decide +kernel) ?_ | refine qm _ rfl rfl (by decide +kernel) ?_) <;> have hp := True.intro)) <;> simp only [hp, hc, e1, h1.1, e2, h2.1, e3, hb, m, y0, y1, y2, y3, go_sem])
      all_goals (simp only [fin_mk, finV, resL, resV1, resIn, endA, listIn, Option.some_or, Option.none_or, oneOrTup, go_sem]; rw [← hr])
      all_goals rfl
    · simp only [hc, e1, h1.1, e2, h2.1, e3, hb, m, y0, y1, y2, y3, go_sem]
      repeat' ((first | ((first | apply qa | apply qb | apply qc | apply qd | apply qe | apply qf | apply qg | apply qh | apply qi | apply qj | apply qk) <;> intro hp) | ((first | refine ql rfl rfl (by decide +kernel) ?_ | refine qm _ rfl rfl (by decide +kernel) ?_) <;> have hp := True.intro)) <;> simp only [hp, hc, e1, h1.1, e2, h2.1, e3, hb, m, y0, y1, y2, y3, go_sem])
      all_goals (simp only [fin_mk, finV, resL, resV1, resIn, endA, listIn, Option.some_or, Option.none_or, oneOrTup, go_sem]; rw [← hr])
      all_goals rfl
    · simp only [hc, e1, h1.1, e2, h2.1, e3, hb, m, y0, y1, y2, y3, go_sem]
      repeat' ((first | ((first | apply qa | apply qb | apply qc | apply qd | apply qe | apply qf | apply qg | apply qh | apply qi | apply qj | apply qk) <;> intro hp) | ((first | refine ql rfl rfl (by decide +kernel) ?_ | refine qm _ rfl rfl (by decide +kernel) ?_) <;> have hp := True.intro)) <;> simp only [hp, hc, e1, h1.1, e2, h2.1, e3, hb, m, y0, y1, y2, y3, go_sem])
      all_goals (simp only [fin_mk, finV, resL, resV1, resIn, endA, listIn, Option.some_or, Option.none_or, oneOrTup, go_sem]; rw [← hr])
      all_goals rfl
  · by_cases hl : 0 < b.Mails.length
    · have e : chgB 3 x b = ⟨b.Name, b.Valid, b.Next, b.Mod, setU b.Mails (x.tmod b.Mails.length).toNat (x.tmod 12), b.Tombs, b.Horizon⟩ := by simp only [chgB, if_true, Int.reduceEq, if_false, hl]
      obtain ⟨j, hj, hj2⟩ : ∃ j : Nat, x.tmod (b.Mails.length : Int) = j ∧ j < b.Mails.length := by
        have e1 := Int.emod_nonneg x (show (b.Mails.length : Int) ≠ 0 by omega)
        have e2 := Int.emod_lt_of_pos x (show (0 : Int) < b.Mails.length by omega)
        rw [Int.tmod_eq_emod_of_nonneg hx0]
        exact ⟨(x % (b.Mails.length : Int)).toNat, by omega, by omega⟩
      rw [hj, Int.toNat_natCast] at e
      rw [e] at hr
      have g0 : (0 : Int) < b.Mails.length := by omega
      have g1 : (j : Int) < b.Mails.length := by omega
      have g2 : (0 : Int) ≤ j := by omega
      have g3 : b.Mails[j]? = some b.Mails[j] := List.getElem?_eq_getElem hj2
      have n0 : ¬ (b.Mails.length : Int) = 0 := by omega
      have su := setU_enc (u := x.tmod 12) hj2
      simp only [hc, e1, h1.1, e2, h2.1, e3, hb, hj, hj2, g0, g1, g2, g3, n0, go_sem]
      repeat' ((first | ((first | apply qa | apply qb | apply qc | apply qd | apply qe | apply qf | apply qg | apply qh | apply qi | apply qj | apply qk) <;> intro hp) | ((first | refine ql rfl rfl (by decide +kernel) ?_ | refine qm _ rfl rfl (by decide +kernel) ?_) <;> have hp := True.intro)) <;> simp only [hp, hc, e1, h1.1, e2, h2.1, e3, hb, hj, hj2, g0, g1, g2, g3, n0, go_sem])
      all_goals (simp only [fin_mk, finV, resL, resV1, resIn, endA, listIn, Option.some_or, Option.none_or, oneOrTup, go_sem]; rw [← hr])
      all_goals (simp only [Box.enc, su])
    · have e : chgB 3 x b = b := by simp only [chgB, if_true, Int.reduceEq, if_false, hl]
      rw [e] at hr
      have g0 : ¬ (0 : Int) < b.Mails.length := by omega
      simp only [hc, e1, h1.1, e2, h2.1, e3, hb, g0, go_sem]
      repeat' ((first | ((first | apply qa | apply qb | apply qc | apply qd | apply qe | apply qf | apply qg | apply qh | apply qi | apply qj | apply qk) <;> intro hp) | ((first | refine ql rfl rfl (by decide +kernel) ?_ | refine qm _ rfl rfl (by decide +kernel) ?_) <;> have hp := True.intro)) <;> simp only [hp, hc, e1, h1.1, e2, h2.1, e3, hb, g0, go_sem])
      all_goals (simp only [fin_mk, finV, resL, resV1, resIn, endA, listIn, Option.some_or, Option.none_or, oneOrTup, go_sem]; rw [← hr])
      all_goals rfl
  · have e : chgB 4 x b = ⟨b.Name, b.Valid, b.Next, b.Mod, b.Mails, b.Tombs ++ [⟨x.tmod 12, x.tmod 20⟩], b.Horizon⟩ := by simp only [chgB, if_true, Int.reduceEq, if_false]
    rw [e] at hr
    have q2 : b.Tombs.length ≤ 9223372036854775806 := by omega
    have q4 : (b.Tombs.length + 1) * 16 ≤ 140737488355328 := by omega
    have q5 : b.Tombs.length + 1 ≤ 9223372036854775807 := by omega
    simp only [hc, e1, h1.1, e2, h2.1, e3, hb, q2, q4, q5, go_sem]
    repeat' ((first | ((first | apply qa | apply qb | apply qc | apply qd | apply qe | apply qf | apply qg | apply qh | apply qi | apply qj | apply qk) <;> intro hp) | ((first | refine ql rfl rfl (by decide +kernel) ?_ | refine qm _ rfl rfl (by decide +kernel) ?_) <;> have hp := True.intro)) <;> simp only [hp, hc, e1, h1.1, e2, h2.1, e3, hb, q2, q4, q5, go_sem])
    all_goals first | omega | skip
    all_goals (simp only [fin_mk, finV, resL, resV1, resIn, endA, listIn, Option.some_or, Option.none_or, oneOrTup, go_sem]; rw [← hr])
    all_goals (simp only [Box.enc, List.map_append, List.map_cons, List.map_nil]; rfl)
  · have e : chgB 5 x b = ⟨b.Name, b.Valid, b.Next, b.Mod, b.Mails, b.Tombs, x.tmod 20⟩ := by simp only [chgB, if_true, Int.reduceEq, if_false]
    rw [e] at hr
    simp only [hc, e1, h1.1, e2, h2.1, e3, hb, go_sem]
    repeat' ((first | ((first | apply qa | apply qb | apply qc | apply qd | apply qe | apply qf | apply qg | apply qh | apply qi | apply qj | apply qk) <;> intro hp) | ((first | refine ql rfl rfl (by decide +kernel) ?_ | refine qm _ rfl rfl (by decide +kernel) ?_) <;> have hp := True.intro)) <;> simp only [hp, hc, e1, h1.1, e2, h2.1, e3, hb, go_sem])
    all_goals (simp only [fin_mk, finV, resL, resV1, resIn, endA, listIn, Option.some_or, Option.none_or, oneOrTup, go_sem]; rw [← hr])
    all_goals rfl
  · have e : chgB 6 x b = ⟨b.Name, b.Valid, 9999 - x.tmod 2, b.Mod, b.Mails, b.Tombs, b.Horizon⟩ := by simp only [chgB, if_true, Int.reduceEq, if_false]
    rw [e] at hr
    have w : IntKind.i64.wrap (9999 - x.tmod 2) = 9999 - x.tmod 2 := by rw [Int.tmod_eq_emod_of_nonneg hx0]; exact wrap64 (by omega) (by omega)
    simp only [hc, e1, h1.1, e2, h2.1, e3, hb, w, go_sem]
    repeat' ((first | ((first | apply qa | apply qb | apply qc | apply qd | apply qe | apply qf | apply qg | apply qh | apply qi | apply qj | apply qk) <;> intro hp) | ((first | refine ql rfl rfl (by decide +kernel) ?_ | refine qm _ rfl rfl (by decide +kernel) ?_) <;> have hp := True.intro)) <;> simp only [hp, hc, e1, h1.1, e2, h2.1, e3, hb, w, go_sem])
    all_goals (simp only [fin_mk, finV, resL, resV1, resIn, endA, listIn, Option.some_or, Option.none_or, oneOrTup, go_sem]; rw [← hr])
    all_goals rfl
  · have z0 : (k == 0) = false := by rw [beq_eq_false_iff_ne]; omega
    have z1 : (k == 1) = false := by rw [beq_eq_false_iff_ne]; omega
    have z2 : (k == 2) = false := by rw [beq_eq_false_iff_ne]; omega
    have z3 : (k == 3) = false := by rw [beq_eq_false_iff_ne]; omega
    have z4 : (k == 4) = false := by rw [beq_eq_false_iff_ne]; omega
    have z5 : (k == 5) = false := by rw [beq_eq_false_iff_ne]; omega
    have z6 : (k == 6) = false := by rw [beq_eq_false_iff_ne]; omega
    have e : chgB k x b = b := by
      rw [beq_eq_false_iff_ne] at z0 z1 z2 z3 z4 z5 z6
      simp only [chgB, z0, z1, z2, z3, z4, z5, z6, if_false]
    rw [e] at hr
    simp only [hc, e1, h1.1, e2, h2.1, e3, hb, z0, z1, z2, z3, z4, z5, z6, go_sem]
    repeat' ((first | ((first | apply qa | apply qb | apply qc | apply qd | apply qe | apply qf | apply qg | apply qh | apply qi | apply qj | apply qk) <;> intro hp) | ((first | refine ql rfl rfl (by decide +kernel) ?_ | refine qm _ rfl rfl (by decide +kernel) ?_) <;> have hp := True.intro)) <;> simp only [hp, hc, e1, h1.1, e2, h2.1, e3, hb, z0, z1, z2, z3, z4, z5, z6, go_sem])
    all_goals (simp only [fin_mk, finV, resL, resV1, resIn, endA, listIn, Option.some_or, Option.none_or, oneOrTup, go_sem]; rw [← hr])
    all_goals rfl
open Classical in
noncomputable def spDrawMm : VM.Spec := { modes := [.rd], run := fun | [.lst 1 code'] => (decL dU8 code').bind fun code => if code.length ≤ 4194304 then some (.tup [Mail.enc ((drawMm code).1), Key.enc ((drawMm code).2)], []) else none | _ => none, need := ["internal/bytealg.MaxLen"] }
attribute [go_sem] spDrawMm
theorem spDrawMm_in {ins : List V} {r : V} {outs : List V} (h : spDrawMm.run ins = some (r, outs)) : ∃ (code : (List Int)), ins = [.lst 1 ((code).map eU8)] ∧ (code.length ≤ 4194304) ∧ .tup [Mail.enc ((drawMm code).1), Key.enc ((drawMm code).2)] = r ∧ outs = [] := by
  unfold spDrawMm at h
  simp only at h
  split at h
  · rename_i code'
    simp only [Option.bind_eq_some_iff] at h
    obtain ⟨code, h_code, h⟩ := h
    split at h
    case isFalse => cases h
    rename_i hc
    simp only [Option.some.injEq, Prod.mk.injEq] at h
    obtain ⟨h1, h2⟩ := h
    have h_code := decL_some (fun _ _ h => dU8_some h) h_code
    subst h_code
    exact ⟨code, rfl, hc, h1, h2.symm⟩
  · cases h
def T_spec_DrawMatches : Hints := ⟨lk [(5, [(1, 2)]), (6, [(0, 6), (1, 6), (6, 9), (9, 10)])], lk [], lk [(0, [0, 2, 3]), (1, [2, 3, 4]), (2, [2, 3, 4, 5]), (3, [2, 3, 4, 5, 6]), (4, [2, 3, 4, 5, 6, 16]), (5, [2, 3]), (6, [2, 3])], lk []⟩
noncomputable def Phi_spec_DrawMatches : Tab := lk [(26, spNew), (55, spKeyD), (56, spAnyB), (31, spBelow)]
attribute [go_sem] T_spec_DrawMatches Phi_spec_DrawMatches
theorem phi_spec_DrawMatches : ∀ f sp, Phi_spec_DrawMatches f = some sp → FnOk Tryz.prog f sp ∧ ∀ n ∈ sp.need, n ∈ (["internal/bytealg.MaxLen"] : List String) := phi_cons ok_spec_l01New (n0 rfl) (phi_cons ok_spec_l12Key (fun n (h : n ∈ (["internal/bytealg.MaxLen"] : List String)) => by simp only [List.mem_cons, List.not_mem_nil, or_false] at h; rcases h with rfl <;> simp) (phi_cons ok_spec_l08Any (n0 rfl) (phi_cons ok_spec_l01Below (n0 rfl) (phi_nil))))
theorem ok_spec_DrawMatches : FnOk Tryz.prog 20 spDrawMm := by
  refine fn_ok (Φ := Phi_spec_DrawMatches) (T := T_spec_DrawMatches) phi_spec_DrawMatches mixed Tryz.func20 rfl rfl rfl (by decide) ?_
  intro ins r outs hr hl
  clear hl
  have hs := spDrawMm_in hr
  clear hr
  obtain ⟨code, rfl, hc, hr, rfl⟩ := hs
  simp only [spDrawMm, Tryz.f20, Go.VM.initS]
  have i0 := cur0_in hc
  have h1 := keyD_in i0
  obtain ⟨⟨K, c1⟩, e1⟩ : ∃ x, keyD (cur0 code) = x := ⟨_, rfl⟩
  rw [e1] at h1
  simp only at h1
  have h2 := anyB_in h1.2
  obtain ⟨⟨B, c2⟩, e2⟩ : ∃ x, anyB c1 = x := ⟨_, rfl⟩
  rw [e2] at h2
  simp only at h2
  have hml : B.Mails.length ≤ 4194304 := h2.1.2.1.1
  by_cases hl : B.Mails.length = 0
  · have e : drawMm code = (⟨1, 0, 0, [115, 117, 98, 106, 101, 99, 116, 58, 32, 120]⟩, K) := by simp only [drawMm, e1, e2, hl, if_true]
    rw [e] at hr
    have g : ((B.Mails.length : Int) == 0) = true := by rw [beq_iff_eq]; omega
    simp only [hc, i0, e1, h1.2, e2, g, go_sem]
    repeat' ((first | ((first | apply qa | apply qb | apply qc | apply qd | apply qe | apply qf | apply qg | apply qh | apply qi | apply qj | apply qk) <;> intro hp) | ((first | refine ql rfl rfl (by decide +kernel) ?_ | refine qm _ rfl rfl (by decide +kernel) ?_) <;> have hp := True.intro)) <;> simp only [hp, hc, i0, e1, h1.2, e2, g, go_sem])
    all_goals (simp only [fin_mk, finV, resL, resV1, resIn, endA, listIn, Option.some_or, Option.none_or, oneOrTup, go_sem]; rw [← hr])
    all_goals rfl
  · have h3 := belO_in (n := (B.Mails.length : Int)) h2.2
    obtain ⟨⟨v, c3⟩, e3⟩ : ∃ x, belO c2 (B.Mails.length : Int) = x := ⟨_, rfl⟩
    rw [e3] at h3
    simp only at h3
    have hv := h3.2.2 (by omega)
    obtain ⟨j, rfl⟩ : ∃ j : Nat, v = j := ⟨v.toNat, by have := h3.2.1; omega⟩
    have hj2 : j < B.Mails.length := by omega
    have g3 : B.Mails[j]? = some B.Mails[j] := List.getElem?_eq_getElem hj2
    have e : drawMm code = (B.Mails[j], K) := by
      simp only [drawMm, e1, e2, hl, if_false, e3, Int.toNat_natCast, List.getD_eq_getElem?_getD, g3, Option.getD_some]
    rw [e] at hr
    have g : ((B.Mails.length : Int) == 0) = false := by rw [beq_eq_false_iff_ne]; omega
    have g1 : (j : Int) < B.Mails.length := by omega
    have g2 : (0 : Int) ≤ j := by omega
    simp only [hc, i0, e1, h1.2, e2, h2.2, g, e3, g1, g2, g3, go_sem]
    repeat' ((first | ((first | apply qa | apply qb | apply qc | apply qd | apply qe | apply qf | apply qg | apply qh | apply qi | apply qj | apply qk) <;> intro hp) | ((first | refine ql rfl rfl (by decide +kernel) ?_ | refine qm _ rfl rfl (by decide +kernel) ?_) <;> have hp := True.intro)) <;> simp only [hp, hc, i0, e1, h1.2, e2, h2.2, g, e3, g1, g2, g3, go_sem])
    all_goals (simp only [fin_mk, finV, resL, resV1, resIn, endA, listIn, Option.some_or, Option.none_or, oneOrTup, go_sem]; rw [← hr])
    all_goals rfl
end Go.Proofs.YtonjbbfgdloljaaGreatDoor.L

namespace Go.Proofs.YtonjbbfgdloljaaGreatDoor.L
open Go Go.VM
set_option maxRecDepth 100000
set_option maxHeartbeats 4000000
set_option linter.unusedSimpArgs false
set_option linter.unusedVariables false
theorem parse_digits : ∀ (s : List UInt8) (acc : Nat), s.all digB = true → (acc + 1) * 10 ^ s.length ≤ 100000000000 → Lib.parseUint10 acc s = .ok (acc * 10 ^ s.length + (numV s).toNat)
  | [], acc, _, _ => by simp [Lib.parseUint10, numV]
  | c :: r, acc, hd, hb => by
    rw [List.all_cons, Bool.and_eq_true] at hd
    have hc := digB_iff hd.1
    rw [List.length_cons, Nat.pow_succ] at hb
    have h1 : (acc * 10 + (c.toNat - 48) + 1) * 10 ^ r.length ≤ 100000000000 := by
      refine Nat.le_trans (Nat.mul_le_mul_right _ (show acc * 10 + (c.toNat - 48) + 1 ≤ (acc + 1) * 10 by omega)) ?_
      rw [Nat.mul_assoc, Nat.mul_comm 10]; exact hb
    have hp : 1 ≤ 10 ^ r.length := Nat.one_le_pow _ _ (by omega)
    have h2 : acc * 10 + (c.toNat - 48) + 1 ≤ 100000000000 := Nat.le_trans (Nat.le_mul_of_pos_right _ hp) h1
    rw [Lib.parseUint10, if_pos (by omega), if_neg (by omega), if_neg (by omega), parse_digits r _ hd.2 h1]
    congr 1
    have key : ∀ (l : List UInt8) (n : Int), l.foldl stepV n = n * 10 ^ l.length + l.foldl stepV 0 := by
      intro l
      induction l with
      | nil => intro n; simp
      | cons x l ih =>
        intro n
        rw [List.foldl_cons, List.foldl_cons, ih (stepV n x), ih (stepV 0 x), List.length_cons, Int.pow_succ]
        simp only [stepV]
        rw [Int.add_mul, Int.add_mul]
        have : 10 * n * 10 ^ l.length = n * (10 ^ l.length * 10) := by rw [Int.mul_comm 10 n, Int.mul_assoc, Int.mul_comm 10]
        omega
    have hv := numV_bound r hd.2
    have e : numV (c :: r) = ((c.toNat - 48 : Nat) : Int) * 10 ^ r.length + numV r := by
      rw [numV, List.foldl_cons, key]
      have : stepV 0 c = ((c.toNat - 48 : Nat) : Int) := by simp only [stepV]; omega
      rw [this]; rfl
    have e2 : (numV (c :: r)).toNat = (c.toNat - 48) * 10 ^ r.length + (numV r).toNat := by
      rw [e]
      have : (((c.toNat - 48 : Nat) : Int) * 10 ^ r.length) = (((c.toNat - 48) * 10 ^ r.length : Nat) : Int) := by push_cast; rfl
      rw [this]; omega
    rw [e2, List.length_cons, Nat.pow_succ, Nat.add_mul]
    have : acc * 10 * 10 ^ r.length = acc * (10 ^ r.length * 10) := by rw [Nat.mul_assoc, Nat.mul_comm 10]
    omega
def atoiV (s : List UInt8) : Int := match Lib.atoiAll s with | .ok v => v | .syntax => 0 | .range => Lib.atoiSat s
def atoiBad (s : List UInt8) : Bool := match Lib.atoiAll s with | .ok _ => false | _ => true
theorem atoi_digits {s : List UInt8} (h : s.all digB = true) (hl : s.length ≤ 10) (hne : s ≠ []) : Lib.atoiAll s = .ok (numV s) := by
  cases s with
  | nil => exact absurd rfl hne
  | cons c r =>
    have hc := digB_iff (List.all_eq_true.1 h c (by simp))
    have h1 : ¬ (c.toNat = 43 ∨ c.toNat = 45) := by omega
    have h2 : ¬ c.toNat = 45 := by omega
    have hv := numV_bound (c :: r) h
    have hp : (10 : Nat) ^ (c :: r).length ≤ 10 ^ 10 := Nat.pow_le_pow_right (by omega) hl
    have hq := parse_digits (c :: r) 0 h (by omega)
    have hlt : numV (c :: r) < 10 ^ 10 := by
      have h6 : ((10 : Int) ^ (c :: r).length) = (((10 : Nat) ^ (c :: r).length : Nat) : Int) := by push_cast; rfl
      have h7 := hv.2
      rw [h6] at h7
      generalize (10 : Nat) ^ (c :: r).length = q at *
      omega
    unfold Lib.atoiAll
    simp only [h1, if_false, Lib.parseMag, reduceCtorEq, hq]
    rw [Nat.zero_mul, Nat.zero_add, if_neg (by omega), if_neg (by omega)]
    simp only [h2, if_false]
    congr 1; omega
theorem dec_atoi (s : List UInt8) : (!atoiBad s && (decide (0 ≤ atoiV s) && decide (atoiV s ≤ 1000000000)) && (Lib.itoa (atoiV s) == s)) = decB s ∧ (decB s = true → atoiV s = numV s ∧ atoiBad s = false) := by
  have fwd : decB s = true → Lib.atoiAll s = .ok (numV s) := by
    intro h
    have hl := dec_len h
    simp only [decB, Bool.and_eq_true, decide_eq_true_eq, beq_iff_eq] at h
    refine atoi_digits h.1 hl ?_
    intro e
    have := h.2.2
    rw [e] at this
    exact itoa_ne (Int.le_refl 0) this
  have fwd2 : decB s = true → atoiV s = numV s ∧ atoiBad s = false := by
    intro h
    have := fwd h
    constructor
    · unfold atoiV; rw [this]
    · unfold atoiBad; rw [this]
  refine ⟨?_, fwd2⟩
  rw [Bool.eq_iff_iff]
  constructor
  · intro h
    simp only [Bool.and_eq_true, decide_eq_true_eq, beq_iff_eq] at h
    obtain ⟨⟨_, h1, h2⟩, h3⟩ := h
    obtain ⟨a1, a2⟩ := itoa_read h1
    rw [h3] at a1 a2
    rw [decB, a1, a2, h3]
    simp [h2]
  · intro h
    obtain ⟨e1, e2⟩ := fwd2 h
    have hb := h
    simp only [decB, Bool.and_eq_true, decide_eq_true_eq, beq_iff_eq] at h
    have := (numV_bound s h.1).1
    rw [e1, e2, h.2.2]
    simp [this, h.2.1]
open Classical in
noncomputable def spAtoi : VM.Spec := { modes := [.rd], run := fun | [.str s] => if s.length ≤ 4194304 then some (.tup [.int .i64 (atoiV s), .err (atoiBad s)], []) else none | _ => none, need := ["strconv.ErrSyntax", "strconv.ErrRange"] }
attribute [go_sem] spAtoi
theorem spAtoi_in {ins : List V} {r : V} {outs : List V} (h : spAtoi.run ins = some (r, outs)) : ∃ (s : (List UInt8)), ins = [.str s] ∧ (s.length ≤ 4194304) ∧ .tup [.int .i64 (atoiV s), .err (atoiBad s)] = r ∧ outs = [] := by
  unfold spAtoi at h
  simp only at h
  split at h
  · rename_i s
    split at h
    case isFalse => cases h
    rename_i hc
    simp only [Option.some.injEq, Prod.mk.injEq] at h
    obtain ⟨h1, h2⟩ := h
    exact ⟨s, rfl, hc, h1, h2.symm⟩
  · cases h
theorem ow_two {w : World} {a b : V} {c d : Value} (h1 : OW w a c (fun _ => False)) (h2 : OW w b d (fun _ => False)) : ∃ N, OW w (.tup [a, b]) (.tuple #[c, d]) N ∧ ∀ k, ¬ N k :=
  ⟨_, .tup [a, b] #[c, d] (fun _ _ => False) rfl (fun i x y hx hy => by
    match i with
    | 0 => simp at hx hy; subst hx hy; exact h1
    | 1 => simp at hx hy; subst hx hy; exact h2
    | i + 2 => simp at hx) (fun _ _ _ _ _ h => h.elim), fun k ⟨_, _, h⟩ => h⟩
theorem ok_strconv_Atoi : FnOk Tryz.prog 117 spAtoi := by
  refine fnOk_of_calls (n := 1) Tryz.func117 rfl rfl rfl fun w S ins r outs cs hG hrun ht hS => ?_
  obtain ⟨s, rfl, hl, rfl, rfl⟩ := spAtoi_in hrun
  refine ⟨rfl, ?_⟩
  cases ht with
  | cons h1 t =>
    cases t
    cases h1 with
    | str b _ hb =>
      subst hb
      have hsz : b.size = b.data.toList.length := by rw [Array.length_toList]; rfl
      cases ha : Lib.atoiAll b.data.toList with
      | ok v =>
        refine (Tryz.strconv_Atoi_ok b (by omega) v ha w).mono ?_
        rintro e w' ⟨rfl, hw⟩
        obtain ⟨N, ho, hN⟩ := ow_two (w := w') (.int .i64 v) .errN
        refine ⟨_, N, rfl, ?_, by simpa only [atoiV, atoiBad, ha] using ho, fun k hk => absurd hk (hN k)⟩
        rcases hw with rfl | ⟨t, rfl⟩
        · exact Fr.refl _ _
        · exact fr_of_below (Lib.bytesWorld_below w _ _)
      | «syntax» =>
        obtain ⟨tp, p, hv⟩ := hG.errS (by simp [spAtoi])
        refine (Tryz.strconv_Atoi_syntax_var b (by omega) ha tp p w hv).mono ?_
        rintro e w' ⟨M, rfl, _, _, hbl⟩
        obtain ⟨N, ho, hN⟩ := ow_two (w := w') (.int .i64 0) (.errS _ _)
        exact ⟨_, N, rfl, fr_of_below hbl, by simpa only [atoiV, atoiBad, ha] using ho, fun k hk => absurd hk (hN k)⟩
      | range =>
        obtain ⟨tp, p, hv⟩ := hG.errR (by simp [spAtoi])
        refine (Tryz.strconv_Atoi_range_var b (by omega) ha tp p w hv).mono ?_
        rintro e w' ⟨M, rfl, _, _, hbl⟩
        obtain ⟨N, ho, hN⟩ := ow_two (w := w') (.int .i64 (Lib.atoiSat b.data.toList)) (.errS _ _)
        exact ⟨_, N, rfl, fr_of_below hbl, by simpa only [atoiV, atoiBad, ha] using ho, fun k hk => absurd hk (hN k)⟩
open Classical in
noncomputable def spReadDecI : VM.Spec := { modes := [.rd], run := fun | [.str s] => if s.length ≤ 4194304 then some (.tup [.int .i64 (decN s), .bool (decB s)], []) else none | _ => none, need := ["internal/strconv.uint64pow10", "strconv.ErrSyntax", "strconv.ErrRange"] }
attribute [go_sem] spReadDecI
theorem spReadDecI_in {ins : List V} {r : V} {outs : List V} (h : spReadDecI.run ins = some (r, outs)) : ∃ (s : (List UInt8)), ins = [.str s] ∧ (s.length ≤ 4194304) ∧ .tup [.int .i64 (decN s), .bool (decB s)] = r ∧ outs = [] := by
  unfold spReadDecI at h
  simp only at h
  split at h
  · rename_i s
    split at h
    case isFalse => cases h
    rename_i hc
    simp only [Option.some.injEq, Prod.mk.injEq] at h
    obtain ⟨h1, h2⟩ := h
    exact ⟨s, rfl, hc, h1, h2.symm⟩
  · cases h
def T_impl_ReadDecimal : Hints := ⟨lk [], lk [], lk [(0, [0]), (1, [0, 4, 5]), (2, [4, 23]), (3, [2, 3]), (4, [2, 3])], lk []⟩
noncomputable def Phi_impl_ReadDecimal : Tab := lk [(117, spAtoi), (41, spWithin), (27, spDecimal)]
attribute [go_sem] T_impl_ReadDecimal Phi_impl_ReadDecimal
theorem phi_impl_ReadDecimal : ∀ f sp, Phi_impl_ReadDecimal f = some sp → FnOk Tryz.prog f sp ∧ ∀ n ∈ sp.need, n ∈ (["internal/strconv.uint64pow10", "strconv.ErrSyntax", "strconv.ErrRange"] : List String) := phi_cons ok_strconv_Atoi (fun n (h : n ∈ (["strconv.ErrSyntax", "strconv.ErrRange"] : List String)) => by simp only [List.mem_cons, List.not_mem_nil, or_false] at h; rcases h with rfl | rfl <;> simp) (phi_cons ok_impl_within (n0 rfl) (phi_cons ok_impl_Decimal (fun n (h : n ∈ (["internal/strconv.uint64pow10"] : List String)) => by simp only [List.mem_cons, List.not_mem_nil, or_false] at h; rcases h with rfl <;> simp) (phi_nil)))
theorem ok_impl_ReadDecimal : FnOk Tryz.prog 77 spReadDecI := by
  refine fn_ok (Φ := Phi_impl_ReadDecimal) (T := T_impl_ReadDecimal) phi_impl_ReadDecimal mixed Tryz.func77 rfl rfl rfl (by decide) ?_
  intro ins r outs hr hl
  clear hl
  have hs := spReadDecI_in hr
  clear hr
  obtain ⟨s, rfl, hc, hr, rfl⟩ := hs
  simp only [spReadDecI, Tryz.f77, Go.VM.initS]
  obtain ⟨ha, hb⟩ := dec_atoi s
  cases h1 : atoiBad s with
  | true =>
    have e1 : decB s = false := by rw [← ha, h1]; rfl
    have e2 : decN s = 0 := by rw [decN, e1]; rfl
    rw [e1, e2] at hr
    simp only [hc, h1, go_sem]
    repeat' ((first | apply qa | apply qb | apply qc | apply qd | apply qe | apply qf | apply qg | apply qh | apply qi | apply qj | apply qk) <;> intro hp <;> simp only [hp, hc, h1, go_sem])
    all_goals (simp only [fin_mk, finV, resL, resV1, resIn, endA, listIn, Option.some_or, Option.none_or, oneOrTup, go_sem]; rw [← hr])
  | false =>
    cases h2 : within (atoiV s) 0 1000000000 with
    | false =>
      have h2' : (decide (0 ≤ atoiV s) && decide (atoiV s ≤ 1000000000)) = false := h2
      have e1 : decB s = false := by rw [← ha, h1, h2']; rfl
      have e2 : decN s = 0 := by rw [decN, e1]; rfl
      rw [e1, e2] at hr
      simp only [hc, h1, h2, go_sem]
      repeat' ((first | apply qa | apply qb | apply qc | apply qd | apply qe | apply qf | apply qg | apply qh | apply qi | apply qj | apply qk) <;> intro hp <;> simp only [hp, hc, h1, h2, go_sem])
      all_goals (simp only [fin_mk, finV, resL, resV1, resIn, endA, listIn, Option.some_or, Option.none_or, oneOrTup, go_sem]; rw [← hr])
    | true =>
      have h2' : (decide (0 ≤ atoiV s) && decide (atoiV s ≤ 1000000000)) = true := h2
      have h3 := h2'
      simp only [Bool.and_eq_true, decide_eq_true_eq] at h3
      cases h4 : (Lib.itoa (atoiV s) == s) with
      | false =>
        have e1 : decB s = false := by rw [← ha, h1, h2', h4]; rfl
        have e2 : decN s = 0 := by rw [decN, e1]; rfl
        have h5 : (Lib.itoa (atoiV s) != s) = true := by rw [bne, h4]; rfl
        rw [e1, e2] at hr
        simp only [hc, h1, h2, h3.1, h3.2, h4, h5, go_sem]
        repeat' ((first | apply qa | apply qb | apply qc | apply qd | apply qe | apply qf | apply qg | apply qh | apply qi | apply qj | apply qk) <;> intro hp <;> simp only [hp, hc, h1, h2, h3.1, h3.2, h4, h5, go_sem])
        all_goals (simp only [fin_mk, finV, resL, resV1, resIn, endA, listIn, Option.some_or, Option.none_or, oneOrTup, go_sem]; rw [← hr])
      | true =>
        have e1 : decB s = true := by rw [← ha, h1, h2', h4]; rfl
        have e2 : decN s = atoiV s := by rw [decN, e1, if_pos rfl, (hb e1).1]
        have h5 : (Lib.itoa (atoiV s) != s) = false := by rw [bne, h4]; rfl
        rw [e1, e2] at hr
        simp only [hc, h1, h2, h3.1, h3.2, h4, h5, go_sem]
        repeat' ((first | apply qa | apply qb | apply qc | apply qd | apply qe | apply qf | apply qg | apply qh | apply qi | apply qj | apply qk) <;> intro hp <;> simp only [hp, hc, h1, h2, h3.1, h3.2, h4, h5, go_sem])
        all_goals (simp only [fin_mk, finV, resL, resV1, resIn, endA, listIn, Option.some_or, Option.none_or, oneOrTup, go_sem]; rw [← hr])
end Go.Proofs.YtonjbbfgdloljaaGreatDoor.L

namespace Go.Proofs.YtonjbbfgdloljaaGreatDoor.L
open Go Go.VM
set_option maxRecDepth 100000
set_option maxHeartbeats 4000000
set_option linter.unusedSimpArgs false
set_option linter.unusedVariables false
def flagKeyV (w : List UInt8) : Key := if 0 < bitN w then ⟨2, bitN w, []⟩ else if unB w = true then ⟨3, bitN (w.drop 2), []⟩ else ⟨0, 0, []⟩
theorem unB_cut (w : List UInt8) : unB w = (([117, 110] : List UInt8).isPrefixOf w && decide (0 < bitN (cutPrefix w [117, 110]))) := by
  match w with
  | [] => decide
  | [a] =>
    have : (([117, 110] : List UInt8).isPrefixOf [a]) = false := by simp [List.isPrefixOf]
    rw [this, unB]; simp
  | [a, b] =>
    have h0 : bitN [] = 0 := by decide
    have h1 : unB [a, b] = false := by simp [unB]
    rw [h1, cutPrefix]
    cases hp : ([117, 110] : List UInt8).isPrefixOf [a, b] with
    | false => rfl
    | true => rw [if_pos rfl]; simp [h0]
  | a :: b :: c :: r =>
    have hl : decide ((2 : Int) < (((a :: b :: c :: r).length : Nat) : Int)) = true := by simp; omega
    have hq : ((a :: b :: c :: r).take 2 == [117, 110]) = ([117, 110] : List UInt8).isPrefixOf (a :: b :: c :: r) := by
      rw [Bool.eq_iff_iff]
      simp only [List.take_succ_cons, List.take_zero, beq_iff_eq, List.isPrefixOf, Bool.and_true, Bool.and_eq_true, List.cons.injEq, and_true]
      exact ⟨fun h => ⟨h.1.symm, h.2.symm⟩, fun h => ⟨h.1.symm, h.2.symm⟩⟩
    rw [unB, hl, hq, cutPrefix, Bool.true_and]
    cases hp : ([117, 110] : List UInt8).isPrefixOf (a :: b :: c :: r) with
    | false => rfl
    | true => rw [if_pos rfl]; rfl
def wordKeyV (w m : List UInt8) : Key × Bool :=
  if (w == [115, 117, 98, 106, 101, 99, 116]) = true then (⟨4, 0, m⟩, within m.length 1 20) else
  if (w == [116, 101, 120, 116]) = true then (⟨5, 0, m⟩, within m.length 1 20) else
  if (w == [117, 105, 100]) = true then (⟨6, 0, m⟩, readOk m 9999) else
  if (w == [109, 111, 100, 115, 101, 113]) = true then (⟨7, decN m, []⟩, decB m && decide (decN m ≤ 100000)) else (⟨0, 0, []⟩, false)
theorem keyTwo_eq (w m : List UInt8) : keyTwo w m = if (wordKeyV w m).2 = true then some (wordKeyV w m).1 else none := by
  unfold keyTwo wordKeyV
  split
  · rfl
  split
  · rfl
  split
  · rfl
  split
  · simp only [Bool.and_eq_true, decide_eq_true_eq]
  · rfl
theorem keyOne_eq {w : List UInt8} (h : (w == [97, 108, 108]) = false) : keyOne w = if (flagKeyV w).Kind = 0 then none else some (flagKeyV w) := by
  unfold keyOne flagKeyV
  rw [if_neg (by rw [h]; simp)]
  split
  · rfl
  split
  · rfl
  · rfl
def keysI : Nat → List (List UInt8) → List Key → Option (List Key)
  | 0, _, _ => none
  | _ + 1, [], out => some out
  | f + 1, w :: r, out => match keyOne w with
    | some k => keysI f r (out ++ [k])
    | none => match r with
      | [] => none
      | m :: r' => match keyTwo w m with
        | some k => keysI f r' (out ++ [k])
        | none => none
theorem keysI_ge : ∀ (f : Nat) (ws : List (List UInt8)) (out ks : List Key), keysI f ws out = some ks → out.length ≤ ks.length
  | 0, _, _, _, h => by cases h
  | f + 1, [], out, ks, h => by simp only [keysI, Option.some.injEq] at h; rw [h]; exact Nat.le_refl _
  | f + 1, w :: r, out, ks, h => by
    simp only [keysI] at h
    split at h
    · have := keysI_ge f _ _ ks h
      simp at this; omega
    · split at h
      · cases h
      · split at h
        · have := keysI_ge f _ _ ks h
          simp at this; omega
        · cases h
def cap6 : Option (List Key) → Option (List Key)
  | some ks => if ks.length ≤ 6 then some ks else none
  | none => none
theorem cap6_gt {f : Nat} {ws : List (List UInt8)} {out : List Key} (h : 6 < out.length) : cap6 (keysI f ws out) = none := by
  cases hk : keysI f ws out with
  | none => rfl
  | some ks => rw [cap6, if_neg]; have := keysI_ge f ws out ks hk; omega
theorem keysL_cap : ∀ (f : Nat) (ws : List (List UInt8)) (out : List Key), ws.length < f → out.length ≤ 6 → keysL ws out = cap6 (keysI f ws out)
  | 0, _, _, h, _ => by omega
  | f + 1, [], out, _, h6 => by rw [keysL, keysI, cap6, if_pos h6]
  | f + 1, w :: r, out, h, h6 => by
    simp only [List.length_cons] at h
    simp only [keysI]
    cases h1 : keyOne w with
    | some k =>
      simp only
      by_cases hlt : out.length < 6
      · rw [keysL_one h1 hlt]
        exact keysL_cap f r _ (by omega) (by simp; omega)
      · rw [keysL_full h1 hlt, cap6_gt (by simp; omega)]
    | none =>
      cases r with
      | nil => rw [keysL_end h1]; rfl
      | cons m r =>
        simp only [List.length_cons] at h
        simp only
        cases h2 : keyTwo w m with
        | none => rw [keysL_two_full h1 (.inl h2)]; rfl
        | some k =>
          simp only
          by_cases hlt : out.length < 6
          · rw [keysL_two h1 h2 hlt]
            exact keysL_cap f r _ (by omega) (by simp; omega)
          · rw [keysL_two_full h1 (.inr hlt), cap6_gt (by simp; omega)]
theorem readKeys_i {ws : List (List UInt8)} {f : Nat} (h : ws.length < f) : readKeys ws = match keysI f ws [] with
    | some ks => if 1 ≤ ks.length ∧ ks.length ≤ 6 then (ks, true) else ([], false)
    | none => ([], false) := by
  rw [readKeys, keysL_cap f ws [] h (by simp)]
  cases hk : keysI f ws [] with
  | none => rfl
  | some ks =>
    simp only [cap6]
    by_cases h6 : ks.length ≤ 6
    · rw [if_pos h6]
      by_cases h0 : 1 ≤ ks.length
      · rw [if_pos ⟨h0, h6⟩]; simp; omega
      · have : ks = [] := List.eq_nil_of_length_eq_zero (by omega)
        subst this; rfl
    · rw [if_neg h6, if_neg (by omega)]
def T_impl_flagOf : Hints := ⟨lk [], lk [(2, [0, 5, 6, 7])], lk [(0, [0]), (1, [0, 5, 6, 7]), (2, [0, 5, 6, 7, 8]), (3, [0, 3, 4, 5, 6, 7]), (4, [0, 3, 5, 6, 7, 14]), (5, [2]), (6, [0, 5, 6, 7]), (7, [2])], lk []⟩
noncomputable def Phi_impl_flagOf : Tab := lk [(74, spFlagNames)]
attribute [go_sem] T_impl_flagOf Phi_impl_flagOf
theorem phi_impl_flagOf : ∀ f sp, Phi_impl_flagOf f = some sp → FnOk Tryz.prog f sp ∧ ∀ n ∈ sp.need, n ∈ ([] : List String) := phi_cons ok_impl_flagNames (n0 rfl) (phi_nil)
theorem ok_impl_flagOf : FnOk Tryz.prog 86 spBit := by
  refine fn_ok (Φ := Phi_impl_flagOf) (T := T_impl_flagOf) phi_impl_flagOf mixed Tryz.func86 rfl rfl rfl (by decide) ?_
  intro ins r outs hr hl
  clear hl
  have hs := spBit_in hr
  clear hr
  obtain ⟨w, rfl, hc, hr, rfl⟩ := hs
  simp only [spBit, Tryz.f86, Go.VM.initS]
  simp only [go_sem]
  repeat' ((first | apply qa | apply qb | apply qc | apply qd | apply qe | apply qf | apply qg | apply qh | apply qi | apply qj | apply qk) <;> intro hp <;> simp only [hp, go_sem])
  refine loop_go (fun i : Nat => [(7, .int .i64 (i : Int))]) (fun _ => []) (fun i => 5 - i) (fun i => i ≤ 5 ∧ bitF (5 - i) i w = bitN w) 0 ⟨by omega, rfl⟩ rfl rfl ?_
  rintro i ⟨hi, he⟩ ih
  rcases Nat.lt_or_ge i 5 with h | h
  · have hfl : flagNames.length = 5 := rfl
    have g1 : (i : Int) < flagNames.length := by omega
    have g2 : (0 : Int) ≤ i := by omega
    have g3 : flagNames[i]? = some (flagNames.getD i []) := flag_names ⟨i, h⟩
    have g5 := wrap_succ h (by omega)
    have hp : 2 ^ i ≤ 2 ^ 4 := Nat.pow_le_pow_right (by omega) (by omega)
    have g7 : ¬ (i : Int) < 0 := by omega
    have g6 : IntKind.i64.wrap (1 * 2 ^ (min i 64)) = ((2 ^ i : Nat) : Int) := by
      rw [Nat.min_eq_left (show i ≤ 64 by omega), Int.one_mul]
      have : (2 : Int) ^ i = ((2 ^ i : Nat) : Int) := by push_cast; rfl
      have hw : ∀ q : Nat, q ≤ 16 → IntKind.i64.wrap (q : Int) = q := fun q hq => wrap64 (by omega) (by omega)
      rw [this]
      exact hw _ (Nat.le_trans hp (by decide))
    rw [show 5 - i = (5 - (i + 1)) + 1 by omega, bitF] at he
    generalize flagNames.getD i [] = nm at *
    generalize flagNames = NM at *
    cases hq : (nm == w) with
    | true =>
      rw [if_pos hq] at he
      rw [← he] at hr
      simp only [g1, g2, g3, g5, g6, g7, hq, go_sem]
      repeat' ((first | apply qa | apply qb | apply qc | apply qd | apply qe | apply qf | apply qg | apply qh | apply qi | apply qj | apply qk) <;> intro hp <;> simp only [hp, g1, g2, g3, g5, g6, g7, hq, go_sem])
      simp only [fin_mk, finV, resL, resV1, resIn, endA, listIn, Option.some_or, Option.none_or, oneOrTup, go_sem]
      rw [← hr]
    | false =>
      rw [if_neg (by rw [hq]; simp)] at he
      simp only [g1, g2, g3, g5, hq, go_sem]
      repeat' ((first | apply qa | apply qb | apply qc | apply qd | apply qe | apply qf | apply qg | apply qh | apply qi | apply qj | apply qk) <;> intro hp <;> simp only [hp, g1, g2, g3, g5, hq, go_sem])
      exact ih (i + 1) ⟨h, he⟩ (by omega)
  · have h5 : i = 5 := by omega
    subst h5
    have g1 : ¬ ((5 : Nat) : Int) < flagNames.length := by decide
    have he' : (0 : Int) = bitN w := he
    rw [← he'] at hr
    generalize flagNames = NM at *
    simp only [g1, go_sem]
    repeat' ((first | apply qa | apply qb | apply qc | apply qd | apply qe | apply qf | apply qg | apply qh | apply qi | apply qj | apply qk) <;> intro hp <;> simp only [hp, g1, go_sem])
    simp only [fin_mk, finV, resL, resV1, resIn, endA, listIn, Option.some_or, Option.none_or, oneOrTup, go_sem]
    rw [← hr]
open Classical in
noncomputable def spFlagKey : VM.Spec := { modes := [.rd], run := fun | [.str w] => if w.length ≤ 4194304 then some (Key.enc (flagKeyV w), []) else none | _ => none, need := [] }
attribute [go_sem] spFlagKey
theorem spFlagKey_in {ins : List V} {r : V} {outs : List V} (h : spFlagKey.run ins = some (r, outs)) : ∃ (w : (List UInt8)), ins = [.str w] ∧ (w.length ≤ 4194304) ∧ Key.enc (flagKeyV w) = r ∧ outs = [] := by
  unfold spFlagKey at h
  simp only at h
  split at h
  · rename_i w
    split at h
    case isFalse => cases h
    rename_i hc
    simp only [Option.some.injEq, Prod.mk.injEq] at h
    obtain ⟨h1, h2⟩ := h
    exact ⟨w, rfl, hc, h1, h2.symm⟩
  · cases h
def T_impl_flagKey : Hints := ⟨lk [], lk [], lk [(0, [0, 2]), (1, [0, 2, 3]), (2, [0, 2, 3, 9]), (3, [2]), (4, [2, 4, 5]), (5, [2, 3, 5]), (6, [2, 3, 23]), (7, [2]), (8, [2])], lk []⟩
noncomputable def Phi_impl_flagKey : Tab := lk [(86, spBit), (76, spCutPrefix)]
attribute [go_sem] T_impl_flagKey Phi_impl_flagKey
theorem phi_impl_flagKey : ∀ f sp, Phi_impl_flagKey f = some sp → FnOk Tryz.prog f sp ∧ ∀ n ∈ sp.need, n ∈ ([] : List String) := phi_cons ok_impl_flagOf (n0 rfl) (phi_cons ok_strings_CutPrefix (n0 rfl) (phi_nil))
theorem ok_impl_flagKey : FnOk Tryz.prog 48 spFlagKey := by
  refine fn_ok (Φ := Phi_impl_flagKey) (T := T_impl_flagKey) phi_impl_flagKey mixed Tryz.func48 rfl rfl rfl (by decide) ?_
  intro ins r outs hr hl
  clear hl
  have hs := spFlagKey_in hr
  clear hr
  obtain ⟨w, rfl, hc, hr, rfl⟩ := hs
  simp only [spFlagKey, Tryz.f48, Go.VM.initS]
  have hl : w.length ≤ 1099511627776 := by omega
  have h2 : ([117, 110] : List UInt8).length ≤ 1099511627776 := by decide
  have hcl : (cutPrefix w [117, 110]).length ≤ 4194304 := by
    unfold cutPrefix; split
    · rw [List.length_drop]; omega
    · exact hc
  have hu := unB_cut w
  by_cases c2 : 0 < bitN w
  · simp only [hc, hl, h2, hcl, c2, go_sem]
    repeat' ((first | apply qa | apply qb | apply qc | apply qd | apply qe | apply qf | apply qg | apply qh | apply qi | apply qj | apply qk) <;> intro hp <;> simp only [hp, hc, hl, h2, hcl, c2, go_sem])
    simp only [fin_mk, finV, resL, resV1, resIn, endA, listIn, Option.some_or, Option.none_or, oneOrTup, go_sem]
    rw [← hr]
    rw [flagKeyV, if_pos c2]; rfl
  cases c3 : ([117, 110] : List UInt8).isPrefixOf w with
  | false =>
    rw [c3, Bool.false_and] at hu
    simp only [hc, hl, h2, hcl, c2, c3, go_sem]
    repeat' ((first | apply qa | apply qb | apply qc | apply qd | apply qe | apply qf | apply qg | apply qh | apply qi | apply qj | apply qk) <;> intro hp <;> simp only [hp, hc, hl, h2, hcl, c2, c3, go_sem])
    all_goals (simp only [fin_mk, finV, resL, resV1, resIn, endA, listIn, Option.some_or, Option.none_or, oneOrTup, go_sem]; rw [← hr])
    all_goals (rw [flagKeyV, if_neg c2, if_neg (by rw [hu]; simp)]; rfl)
  | true =>
    rw [c3, Bool.true_and] at hu
    by_cases c4 : 0 < bitN (cutPrefix w [117, 110])
    · rw [decide_eq_true c4] at hu
      simp only [hc, hl, h2, hcl, c2, c3, c4, go_sem]
      repeat' ((first | apply qa | apply qb | apply qc | apply qd | apply qe | apply qf | apply qg | apply qh | apply qi | apply qj | apply qk) <;> intro hp <;> simp only [hp, hc, hl, h2, hcl, c2, c3, c4, go_sem])
      simp only [fin_mk, finV, resL, resV1, resIn, endA, listIn, Option.some_or, Option.none_or, oneOrTup, go_sem]
      rw [← hr]
      have e : cutPrefix w [117, 110] = w.drop 2 := by rw [cutPrefix, if_pos c3]; rfl
      rw [flagKeyV, if_neg c2, if_pos hu, e]; rfl
    · rw [decide_eq_false c4] at hu
      simp only [hc, hl, h2, hcl, c2, c3, c4, go_sem]
      repeat' ((first | apply qa | apply qb | apply qc | apply qd | apply qe | apply qf | apply qg | apply qh | apply qi | apply qj | apply qk) <;> intro hp <;> simp only [hp, hc, hl, h2, hcl, c2, c3, c4, go_sem])
      all_goals (simp only [fin_mk, finV, resL, resV1, resIn, endA, listIn, Option.some_or, Option.none_or, oneOrTup, go_sem]; rw [← hr])
      all_goals (rw [flagKeyV, if_neg c2, if_neg (by rw [hu]; simp)]; rfl)
open Classical in
noncomputable def spWordKey : VM.Spec := { modes := [.rd, .rd], run := fun | [.str w, .str m] => if w.length ≤ 4194304 ∧ m.length ≤ 4194304 then some (.tup [Key.enc ((wordKeyV w m).1), .bool ((wordKeyV w m).2)], []) else none | _ => none, need := ["internal/bytealg.MaxLen", "internal/strconv.uint64pow10", "strconv.ErrSyntax", "strconv.ErrRange"] }
attribute [go_sem] spWordKey
theorem spWordKey_in {ins : List V} {r : V} {outs : List V} (h : spWordKey.run ins = some (r, outs)) : ∃ (w : (List UInt8)) (m : (List UInt8)), ins = [.str w, .str m] ∧ (w.length ≤ 4194304 ∧ m.length ≤ 4194304) ∧ .tup [Key.enc ((wordKeyV w m).1), .bool ((wordKeyV w m).2)] = r ∧ outs = [] := by
  unfold spWordKey at h
  simp only at h
  split at h
  · rename_i w m
    split at h
    case isFalse => cases h
    rename_i hc
    simp only [Option.some.injEq, Prod.mk.injEq] at h
    obtain ⟨h1, h2⟩ := h
    exact ⟨w, m, rfl, hc, h1, h2.symm⟩
  · cases h
def T_impl_wordKey : Hints := ⟨lk [], lk [], lk [(0, [0, 1, 4]), (1, [1, 4, 10]), (2, [1, 4, 10, 11]), (3, [4, 5]), (4, [1, 4, 10, 18]), (5, [4, 5]), (6, [1, 4, 10, 25]), (7, [1, 4, 7]), (8, [4, 5]), (9, [1, 4, 35]), (10, [4, 8, 9]), (11, [4, 5]), (12, [4, 5])], lk []⟩
noncomputable def Phi_impl_wordKey : Tab := lk [(41, spWithin), (63, spReadSet), (77, spReadDecI)]
attribute [go_sem] T_impl_wordKey Phi_impl_wordKey
theorem phi_impl_wordKey : ∀ f sp, Phi_impl_wordKey f = some sp → FnOk Tryz.prog f sp ∧ ∀ n ∈ sp.need, n ∈ (["internal/bytealg.MaxLen", "internal/strconv.uint64pow10", "strconv.ErrSyntax", "strconv.ErrRange"] : List String) := phi_cons ok_impl_within (n0 rfl) (phi_cons ok_impl_ReadSet (fun n (h : n ∈ (["internal/bytealg.MaxLen"] : List String)) => by simp only [List.mem_cons, List.not_mem_nil, or_false] at h; rcases h with rfl <;> simp) (phi_cons ok_impl_ReadDecimal (fun n (h : n ∈ (["internal/strconv.uint64pow10", "strconv.ErrSyntax", "strconv.ErrRange"] : List String)) => by simp only [List.mem_cons, List.not_mem_nil, or_false] at h; rcases h with rfl | rfl | rfl <;> simp) (phi_nil)))
theorem ok_impl_wordKey : FnOk Tryz.prog 49 spWordKey := by
  refine fn_ok (Φ := Phi_impl_wordKey) (T := T_impl_wordKey) phi_impl_wordKey mixed Tryz.func49 rfl rfl rfl (by decide) ?_
  intro ins r outs hr hl
  clear hl
  have hs := spWordKey_in hr
  clear hr
  obtain ⟨w, m, rfl, hc, hr, rfl⟩ := hs
  simp only [spWordKey, Tryz.f49, Go.VM.initS]
  obtain ⟨hw, hm⟩ := hc
  cases k1 : (w == [115, 117, 98, 106, 101, 99, 116]) with
  | true =>
    simp only [hw, hm, k1, go_sem]
    repeat' ((first | apply qa | apply qb | apply qc | apply qd | apply qe | apply qf | apply qg | apply qh | apply qi | apply qj | apply qk) <;> intro hp <;> simp only [hp, hw, hm, k1, go_sem])
    simp only [fin_mk, finV, resL, resV1, resIn, endA, listIn, Option.some_or, Option.none_or, oneOrTup, go_sem]
    rw [← hr]
    rw [wordKeyV, if_pos k1]; rfl
  | false =>
  cases k2 : (w == [116, 101, 120, 116]) with
  | true =>
    simp only [hw, hm, k1, k2, go_sem]
    repeat' ((first | apply qa | apply qb | apply qc | apply qd | apply qe | apply qf | apply qg | apply qh | apply qi | apply qj | apply qk) <;> intro hp <;> simp only [hp, hw, hm, k1, k2, go_sem])
    simp only [fin_mk, finV, resL, resV1, resIn, endA, listIn, Option.some_or, Option.none_or, oneOrTup, go_sem]
    rw [← hr]
    rw [wordKeyV, if_neg (by rw [k1]; simp), if_pos k2]; rfl
  | false =>
  cases k3 : (w == [117, 105, 100]) with
  | true =>
    simp only [hw, hm, k1, k2, k3, go_sem]
    repeat' ((first | apply qa | apply qb | apply qc | apply qd | apply qe | apply qf | apply qg | apply qh | apply qi | apply qj | apply qk) <;> intro hp <;> simp only [hp, hw, hm, k1, k2, k3, go_sem])
    simp only [fin_mk, finV, resL, resV1, resIn, endA, listIn, Option.some_or, Option.none_or, oneOrTup, go_sem]
    rw [← hr]
    rw [wordKeyV, if_neg (by rw [k1]; simp), if_neg (by rw [k2]; simp), if_pos k3]; rfl
  | false =>
  cases k4 : (w == [109, 111, 100, 115, 101, 113]) with
  | true =>
    have hk : wordKeyV w m = (⟨7, decN m, []⟩, decB m && decide (decN m ≤ 100000)) := by rw [wordKeyV, if_neg (by rw [k1]; simp), if_neg (by rw [k2]; simp), if_neg (by rw [k3]; simp), if_pos k4]
    cases d1 : decB m with
    | false =>
      rw [d1, Bool.false_and] at hk
      simp only [hw, hm, k1, k2, k3, k4, d1, go_sem]
      repeat' ((first | apply qa | apply qb | apply qc | apply qd | apply qe | apply qf | apply qg | apply qh | apply qi | apply qj | apply qk) <;> intro hp <;> simp only [hp, hw, hm, k1, k2, k3, k4, d1, go_sem])
      all_goals (simp only [fin_mk, finV, resL, resV1, resIn, endA, listIn, Option.some_or, Option.none_or, oneOrTup, go_sem]; rw [← hr])
      all_goals (rw [hk]; rfl)
    | true =>
      rw [d1, Bool.true_and] at hk
      simp only [hw, hm, k1, k2, k3, k4, d1, go_sem]
      repeat' ((first | apply qa | apply qb | apply qc | apply qd | apply qe | apply qf | apply qg | apply qh | apply qi | apply qj | apply qk) <;> intro hp <;> simp only [hp, hw, hm, k1, k2, k3, k4, d1, go_sem])
      all_goals (simp only [fin_mk, finV, resL, resV1, resIn, endA, listIn, Option.some_or, Option.none_or, oneOrTup, go_sem]; rw [← hr])
      all_goals (rw [hk]; first | rfl | simp_all)
  | false =>
    simp only [hw, hm, k1, k2, k3, k4, go_sem]
    repeat' ((first | apply qa | apply qb | apply qc | apply qd | apply qe | apply qf | apply qg | apply qh | apply qi | apply qj | apply qk) <;> intro hp <;> simp only [hp, hw, hm, k1, k2, k3, k4, go_sem])
    simp only [fin_mk, finV, resL, resV1, resIn, endA, listIn, Option.some_or, Option.none_or, oneOrTup, go_sem]
    rw [← hr]
    rw [wordKeyV, if_neg (by rw [k1]; simp), if_neg (by rw [k2]; simp), if_neg (by rw [k3]; simp), if_neg (by rw [k4]; simp)]; rfl
open Classical in
noncomputable def spReadKeysI : VM.Spec := { modes := [.rd], run := fun | [.lst 1 ws'] => (decL dStr ws').bind fun ws => if ws.length ≤ 4194304 ∧ ∀ w ∈ ws, w.length ≤ 4194304 then some (.tup [.lst 3 (((readKeys ws).1).map Key.enc), .bool ((readKeys ws).2)], []) else none | _ => none, need := ["internal/bytealg.MaxLen", "internal/strconv.uint64pow10", "strconv.ErrSyntax", "strconv.ErrRange"] }
attribute [go_sem] spReadKeysI
theorem spReadKeysI_in {ins : List V} {r : V} {outs : List V} (h : spReadKeysI.run ins = some (r, outs)) : ∃ (ws : (List (List UInt8))), ins = [.lst 1 ((ws).map eStr)] ∧ (ws.length ≤ 4194304 ∧ ∀ w ∈ ws, w.length ≤ 4194304) ∧ .tup [.lst 3 (((readKeys ws).1).map Key.enc), .bool ((readKeys ws).2)] = r ∧ outs = [] := by
  unfold spReadKeysI at h
  simp only at h
  split at h
  · rename_i ws'
    simp only [Option.bind_eq_some_iff] at h
    obtain ⟨ws, h_ws, h⟩ := h
    split at h
    case isFalse => cases h
    rename_i hc
    simp only [Option.some.injEq, Prod.mk.injEq] at h
    obtain ⟨h1, h2⟩ := h
    have h_ws := decL_some (fun _ _ h => dStr_some h) h_ws
    subst h_ws
    exact ⟨ws, rfl, hc, h1, h2.symm⟩
  · cases h
def T_impl_ReadKeys : Hints := ⟨lk [(10, [(1, 10), (2, 10), (4, 10), (5, 10), (6, 10)])], lk [(2, [0, 4])], lk [(0, [0]), (1, [0, 4]), (2, [0, 4, 12]), (3, [0, 4, 5]), (4, [0, 4, 5, 20]), (5, [0, 4, 5]), (6, [0, 4, 5, 6]), (7, [0, 4, 5, 6, 24]), (8, [0, 4, 5, 27]), (9, [2, 3]), (10, [0, 4, 5, 7, 8]), (11, [0, 4, 5, 7, 39]), (12, [2, 3]), (13, [0, 4, 5, 6]), (14, [0, 4, 6]), (15, [0, 4]), (16, [4, 51]), (17, [2, 3]), (18, [2, 3])], lk []⟩
noncomputable def Phi_impl_ReadKeys : Tab := lk [(48, spFlagKey), (49, spWordKey), (41, spWithin)]
attribute [go_sem] T_impl_ReadKeys Phi_impl_ReadKeys
theorem phi_impl_ReadKeys : ∀ f sp, Phi_impl_ReadKeys f = some sp → FnOk Tryz.prog f sp ∧ ∀ n ∈ sp.need, n ∈ (["internal/bytealg.MaxLen", "internal/strconv.uint64pow10", "strconv.ErrSyntax", "strconv.ErrRange"] : List String) := phi_cons ok_impl_flagKey (n0 rfl) (phi_cons ok_impl_wordKey (fun n (h : n ∈ (["internal/bytealg.MaxLen", "internal/strconv.uint64pow10", "strconv.ErrSyntax", "strconv.ErrRange"] : List String)) => by simp only [List.mem_cons, List.not_mem_nil, or_false] at h; rcases h with rfl | rfl | rfl | rfl <;> simp) (phi_cons ok_impl_within (n0 rfl) (phi_nil)))
theorem ok_impl_ReadKeys : FnOk Tryz.prog 16 spReadKeysI := by
  refine fn_ok (Φ := Phi_impl_ReadKeys) (T := T_impl_ReadKeys) phi_impl_ReadKeys mixed Tryz.func16 rfl rfl rfl (by decide) ?_
  intro ins r outs hr hl
  clear hl
  have hs := spReadKeysI_in hr
  clear hr
  obtain ⟨ws, rfl, hc, hr, rfl⟩ := hs
  simp only [spReadKeysI, Tryz.f16, Go.VM.initS]
  obtain ⟨hl, hw⟩ := hc
  simp only [hl, go_sem]
  repeat' ((first | ((first | apply qa | apply qb | apply qc | apply qd | apply qe | apply qf | apply qg | apply qh | apply qi | apply qj | apply qk) <;> intro hp) | ((first | refine ql rfl rfl (by decide +kernel) ?_ | refine qm _ rfl rfl (by decide +kernel) ?_) <;> have hp := True.intro)) <;> simp only [hp, hl, go_sem])
  have hR := readKeys_i (ws := ws) (f := ws.length + 1) (by omega)
  refine loop_go (fun p : Nat × List Key => [(0, .lst 1 ((ws.drop p.1).map eStr))]) (fun p => [(0, ⟨.arr, 3, p.2.map Key.enc⟩)]) (fun p => ws.length - p.1) (fun p => p.1 ≤ ws.length ∧ p.2.length ≤ p.1 ∧ ∃ f, ws.length - p.1 < f ∧ keysI f (ws.drop p.1) p.2 = keysI (ws.length + 1) ws []) (0, []) ⟨Nat.zero_le _, Nat.le_refl _, ws.length + 1, by simp, rfl⟩ rfl rfl ?_
  rintro ⟨i, out⟩ ⟨hi, ho, f, hf, he⟩ ih
  simp only at hi ho hf he ih
  rcases Nat.lt_or_ge i ws.length with h | h
  case inr =>
    have hd0 : ws.drop i = [] := List.drop_of_length_le h
    have g1 : ¬ (0 : Int) < (((ws.drop i).length : Nat) : Int) := by rw [hd0]; decide
    obtain ⟨f, rfl⟩ : ∃ g, f = g + 1 := ⟨f - 1, by omega⟩
    rw [hd0, keysI] at he
    rw [← he] at hR
    simp only at hR
    cases q : within out.length 1 6 with
    | true =>
      have q2 : 1 ≤ out.length ∧ out.length ≤ 6 := by
        simp only [within, Bool.and_eq_true, decide_eq_true_eq] at q; omega
      rw [if_pos q2] at hR
      rw [hR] at hr
      clear ih
      simp only [g1, q, go_sem]
      repeat' ((first | ((first | apply qa | apply qb | apply qc | apply qd | apply qe | apply qf | apply qg | apply qh | apply qi | apply qj | apply qk) <;> intro hp) | ((first | refine ql rfl rfl (by decide +kernel) ?_ | refine qm _ rfl rfl (by decide +kernel) ?_) <;> have hp := True.intro)) <;> simp only [hp, g1, q, go_sem])
      simp only [fin_mk, finV, resL, resV1, resIn, endA, listIn, Option.some_or, Option.none_or, oneOrTup, go_sem]
      rw [← hr]
    | false =>
      have q2 : ¬ (1 ≤ out.length ∧ out.length ≤ 6) := by
        intro hq2
        simp only [within, Bool.and_eq_false_iff, decide_eq_false_iff_not] at q; omega
      rw [if_neg q2] at hR
      rw [hR] at hr
      clear ih
      simp only [g1, q, go_sem]
      repeat' ((first | ((first | apply qa | apply qb | apply qc | apply qd | apply qe | apply qf | apply qg | apply qh | apply qi | apply qj | apply qk) <;> intro hp) | ((first | refine ql rfl rfl (by decide +kernel) ?_ | refine qm _ rfl rfl (by decide +kernel) ?_) <;> have hp := True.intro)) <;> simp only [hp, g1, q, go_sem])
      simp only [fin_mk, finV, resL, resV1, resIn, endA, listIn, Option.some_or, Option.none_or, oneOrTup, go_sem]
      rw [← hr]
      rfl
  obtain ⟨w, hwd⟩ : ∃ w, ws[i] = w := ⟨_, rfl⟩
  have hd : ws.drop i = w :: ws.drop (i + 1) := by rw [List.drop_eq_getElem_cons h, hwd]
  have hlen : (ws.drop i).length = ws.length - i := List.length_drop
  have g1 : (0 : Int) < (((ws.drop i).length : Nat) : Int) := by omega
  have g3 : (ws.drop i)[0]? = some w := by rw [hd]; rfl
  have g4 : 1 ≤ (ws.drop i).length := by omega
  have wl : w.length ≤ 4194304 := by rw [← hwd]; exact hw _ (List.getElem_mem h)
  have o1 : (out.length + 1) * 32 ≤ 140737488355328 := by omega
  have o2 : out.length + 1 ≤ 9223372036854775807 := by omega
  have dd1 : (ws.drop i).drop 1 = ws.drop (i + 1) := by rw [List.drop_drop]
  obtain ⟨f, rfl⟩ : ∃ g, f = g + 1 := ⟨f - 1, by omega⟩
  rw [hd] at he
  simp only [keysI] at he
  have one : ∀ k, keyOne w = some k → _ := fun k hk => ih (i + 1, out ++ [k]) ⟨h, by simp; omega, f, by simp only; omega, by rw [hk] at he; exact he⟩ (by simp only; omega)
  cases c1 : (w == [97, 108, 108]) with
  | true =>
    have ih' := one _ (by rw [keyOne, if_pos c1])
    simp only [List.map_append, List.map_cons, List.map_nil] at ih'
    clear ih one
    simp only [g1, g3, g4, wl, o1, o2, dd1, List.take_length, Nat.le_refl, c1, go_sem]
    repeat' ((first | ((first | apply qa | apply qb | apply qc | apply qd | apply qe | apply qf | apply qg | apply qh | apply qi | apply qj | apply qk) <;> intro hp) | ((first | refine ql rfl rfl (by decide +kernel) ?_ | refine qm _ rfl rfl (by decide +kernel) ?_) <;> have hp := True.intro)) <;> simp only [hp, g1, g3, g4, wl, o1, o2, dd1, List.take_length, Nat.le_refl, c1, go_sem])
    exact ih'
  | false =>
  have hk1 := keyOne_eq c1
  by_cases c2 : (flagKeyV w).Kind = 0
  case neg =>
    have e2 : ((flagKeyV w).Kind == 0) = false := beq_eq_false_iff_ne.2 c2
    have ih' := one _ (by rw [hk1, if_neg c2])
    simp only [List.map_append, List.map_cons, List.map_nil] at ih'
    clear ih one
    simp only [g1, g3, g4, wl, o1, o2, dd1, List.take_length, Nat.le_refl, c1, e2, go_sem]
    repeat' ((first | ((first | apply qa | apply qb | apply qc | apply qd | apply qe | apply qf | apply qg | apply qh | apply qi | apply qj | apply qk) <;> intro hp) | ((first | refine ql rfl rfl (by decide +kernel) ?_ | refine qm _ rfl rfl (by decide +kernel) ?_) <;> have hp := True.intro)) <;> simp only [hp, g1, g3, g4, wl, o1, o2, dd1, List.take_length, Nat.le_refl, c1, e2, go_sem])
    exact ih'
  rw [if_pos c2] at hk1
  have e2 : ((flagKeyV w).Kind == 0) = true := by rw [c2]; rfl
  rw [hk1] at he
  simp only at he
  rcases Nat.lt_or_ge (i + 1) ws.length with hm | hm
  case inr =>
    have hd1 : ws.drop (i + 1) = [] := List.drop_of_length_le hm
    have m1 : ((((ws.drop i).length : Nat) : Int) == 1) = true := by rw [hlen, show ws.length - i = 1 by omega]; rfl
    rw [hd1] at he
    simp only at he
    rw [← he] at hR
    simp only at hR
    rw [hR] at hr
    clear ih one
    simp only [g1, g3, g4, wl, o1, o2, dd1, List.take_length, Nat.le_refl, c1, e2, m1, go_sem]
    repeat' ((first | ((first | apply qa | apply qb | apply qc | apply qd | apply qe | apply qf | apply qg | apply qh | apply qi | apply qj | apply qk) <;> intro hp) | ((first | refine ql rfl rfl (by decide +kernel) ?_ | refine qm _ rfl rfl (by decide +kernel) ?_) <;> have hp := True.intro)) <;> simp only [hp, g1, g3, g4, wl, o1, o2, dd1, List.take_length, Nat.le_refl, c1, e2, m1, go_sem])
    simp only [fin_mk, finV, resL, resV1, resIn, endA, listIn, Option.some_or, Option.none_or, oneOrTup, go_sem]
    rw [← hr]
    rfl
  obtain ⟨m, hmd⟩ : ∃ m, ws[i + 1] = m := ⟨_, rfl⟩
  have hd1 : ws.drop (i + 1) = m :: ws.drop (i + 2) := by rw [List.drop_eq_getElem_cons hm, hmd]
  have m1 : ((((ws.drop i).length : Nat) : Int) == 1) = false := beq_eq_false_iff_ne.2 (by omega)
  have m3 : (ws.drop i)[1]? = some m := by rw [hd, hd1]; rfl
  have m4 : 2 ≤ (ws.drop i).length := by omega
  have m5 : (1 : Int) < (((ws.drop i).length : Nat) : Int) := by omega
  have ml : m.length ≤ 4194304 := by rw [← hmd]; exact hw _ (List.getElem_mem hm)
  have dd2 : (ws.drop i).drop 2 = ws.drop (i + 2) := by rw [List.drop_drop]
  rw [hd1] at he
  simp only at he
  rw [keyTwo_eq] at he
  cases t : (wordKeyV w m).2 with
  | false =>
    rw [t, if_neg (by simp)] at he
    simp only at he
    rw [← he] at hR
    simp only at hR
    rw [hR] at hr
    clear ih one
    simp only [g1, g3, g4, wl, o1, o2, dd1, List.take_length, Nat.le_refl, c1, e2, m1, m3, m4, m5, ml, t, go_sem]
    repeat' ((first | ((first | apply qa | apply qb | apply qc | apply qd | apply qe | apply qf | apply qg | apply qh | apply qi | apply qj | apply qk) <;> intro hp) | ((first | refine ql rfl rfl (by decide +kernel) ?_ | refine qm _ rfl rfl (by decide +kernel) ?_) <;> have hp := True.intro)) <;> simp only [hp, g1, g3, g4, wl, o1, o2, dd1, List.take_length, Nat.le_refl, c1, e2, m1, m3, m4, m5, ml, t, go_sem])
    simp only [fin_mk, finV, resL, resV1, resIn, endA, listIn, Option.some_or, Option.none_or, oneOrTup, go_sem]
    rw [← hr]
    rfl
  | true =>
    rw [t, if_pos rfl] at he
    simp only at he
    have ih' := ih (i + 2, out ++ [(wordKeyV w m).1]) ⟨by simp only; omega, by simp; omega, f, by simp only; omega, he⟩ (by simp only; omega)
    simp only [List.map_append, List.map_cons, List.map_nil] at ih'
    clear ih one
    simp only [g1, g3, g4, wl, o1, o2, dd2, List.take_length, Nat.le_refl, c1, e2, m1, m3, m4, m5, ml, t, go_sem]
    repeat' ((first | ((first | apply qa | apply qb | apply qc | apply qd | apply qe | apply qf | apply qg | apply qh | apply qi | apply qj | apply qk) <;> intro hp) | ((first | refine ql rfl rfl (by decide +kernel) ?_ | refine qm _ rfl rfl (by decide +kernel) ?_) <;> have hp := True.intro)) <;> simp only [hp, g1, g3, g4, wl, o1, o2, dd2, List.take_length, Nat.le_refl, c1, e2, m1, m3, m4, m5, ml, t, go_sem])
    exact ih'
end Go.Proofs.YtonjbbfgdloljaaGreatDoor.L

