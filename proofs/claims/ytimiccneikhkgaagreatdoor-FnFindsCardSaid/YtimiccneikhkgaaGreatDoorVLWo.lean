/- Contracts of functions, and the facts that they need. No condition. -/
import Derived.Test.YtimiccneikhkgaaGreatDoorVLFo

import Derived.Test.YtimiccneikhkgaaGreatDoorVLU


import Derived.Test.YtimiccneikhkgaaGreatDoorVLDr


namespace Go.Proofs.YtimiccneikhkgaaGreatDoor.L
open Go Go.VM
set_option maxRecDepth 100000
set_option maxHeartbeats 4000000
set_option linter.unusedSimpArgs false
set_option linter.unusedVariables false
def boxA (c : Cur) (b : Box) : Box × Cur := (addMail b (belO c 32).1 (mailO (belO c 32).2).1, (mailO (belO c 32).2).2)
def boxB (c : Cur) (b : Box) : Box × Cur := (setFlags b (drawO c).1 (1 + (belO (drawO c).2 3).1) (belO (belO (drawO c).2 3).2 32).1 (-1), (belO (belO (drawO c).2 3).2 32).2)
def boxC (c : Cur) (b : Box) : Box × Cur := (expunge b (drawO c).1, (drawO c).2)
def boxD (c : Cur) (b : Box) : Box × Cur := if ((belO c 3).1 == 0) = true then (forgetTombs b (belO (belO c 3).2 (b.Mod + 1)).1, (belO (belO c 3).2 (b.Mod + 1)).2) else (b, (belO c 3).2)
def boxStep (c : Cur) (b : Box) : Box × Cur :=
  if (belO c 6).1 ≤ 2 then boxA (belO c 6).2 b else if (belO c 6).1 = 3 then boxB (belO c 6).2 b else if (belO c 6).1 = 4 then boxC (belO c 6).2 b else boxD (belO c 6).2 b
theorem addMail_ok {b : Box} {f : Int} {t : List UInt8} (h : boxOk b = true) : boxOk (addMail b f t) = true := by
  unfold addMail
  split
  · rename_i hg; simp only [addGood, Bool.and_eq_true] at hg; exact hg.2
  · exact h
theorem setFlags_ok {b : Box} {s : List Range} {w f n : Int} (h : boxOk b = true) : boxOk (setFlags b s w f n) = true := by
  unfold setFlags
  split
  · rename_i hg; simp only [setGood, Bool.and_eq_true] at hg; exact hg.2
  · exact h
theorem expunge_ok {b : Box} {s : List Range} (h : boxOk b = true) : boxOk (expunge b s) = true := by
  unfold expunge
  split
  · rename_i hg; simp only [exGood, Bool.and_eq_true] at hg; exact hg.2
  · exact h
theorem box_le {b : Box} (h : boxOk b = true) : b.le 4194304 := by
  obtain ⟨h1, h2, h3, h4, h5⟩ := boxOk_parts h
  exact ⟨by show b.Name.length ≤ _; omega, ⟨by omega, fun m hm => by have := h5 m hm; show m.Text.length ≤ _; omega⟩, ⟨by omega, fun _ _ => trivial⟩⟩
theorem boxStep_in {c : Cur} {b : Box} (hc : curI c) (hb : boxOk b = true) : boxOk (boxStep c b).1 = true ∧ curI (boxStep c b).2 := by
  have h1 := belO_in (n := 6) hc
  have a1 := belO_in (n := 32) h1.1
  have a2 := mailO_len a1.1
  have d1 := drawO_in h1.1
  have d2 := belO_in (n := 3) d1.2
  have d3 := belO_in (n := 32) d2.1
  have f1 := belO_in (n := 3) h1.1
  have f2 := belO_in (n := b.Mod + 1) f1.1
  unfold boxStep
  split
  · exact ⟨addMail_ok hb, a2.2⟩
  · split
    · exact ⟨setFlags_ok hb, d3.1⟩
    · split
      · exact ⟨expunge_ok hb, d1.2⟩
      · unfold boxD
        split
        · exact ⟨forgetTombs_ok hb, f2.1⟩
        · exact ⟨hb, f1.1⟩
def boxL : Nat → Nat → Cur → Box → Box × Cur
  | 0, _, c, b => (b, c)
  | f + 1, i, c, b => if (i : Int) < 2 + (belO c 16).1 then boxL f (i + 1) (boxStep (belO c 16).2 b).2 (boxStep (belO c 16).2 b).1 else (b, (belO c 16).2)
theorem boxL_in : ∀ (f i : Nat) {c : Cur} {b : Box}, curI c → boxOk b = true → boxOk (boxL f i c b).1 = true ∧ curI (boxL f i c b).2
  | 0, i, c, b, hc, hb => ⟨hb, hc⟩
  | f + 1, i, c, b, hc, hb => by
    have h1 := belO_in (n := 16) hc
    have h2 := boxStep_in h1.1 hb
    rw [boxL]
    split
    · exact boxL_in f (i + 1) h2.2 h2.1
    · exact ⟨hb, h1.1⟩
def boxNames : List (List UInt8) := [[105, 110, 98, 111, 120], [119, 111, 114, 107], [111, 108, 100]]
def box8 (c : Cur) : Box × Cur := boxL 18 0 (belO (pickO c boxNames).2 5).2 (boxNew (pickO c boxNames).1 (1 + (belO (pickO c boxNames).2 5).1))
theorem boxFresh_ok {n : List UInt8} {v : Int} (hn : n ∈ boxNames) (h0 : 0 ≤ v) (h1 : v < 5) : boxOk (boxFresh n (1 + v)) = true ∧ boxNew n (1 + v) = boxFresh n (1 + v) := by
  have k : boxOk (boxFresh n (1 + v)) = true := by
    obtain ⟨m, rfl⟩ : ∃ m : Nat, v = m := ⟨v.toNat, by omega⟩
    have : ∀ n ∈ boxNames, ∀ m : Fin 5, boxOk (boxFresh n (1 + (m.val : Int))) = true := by decide +kernel
    exact this n hn ⟨m, by omega⟩
  exact ⟨k, by rw [boxNew, if_pos k]⟩
theorem box8_in {c : Cur} (h : curI c) : boxOk (box8 c).1 = true ∧ curI (box8 c).2 := by
  have h1 := pickO_in (l := boxNames) h (by decide)
  have h2 := belO_in (n := 5) h1.1
  have h3 := boxFresh_ok h1.2 h2.2.1 (h2.2.2 (by decide))
  exact boxL_in 18 0 h2.1 (by rw [h3.2]; exact h3.1)
open Classical in
noncomputable def spBox8 : VM.Spec := { modes := [.ptr], run := fun | [.rptr (c')] => (Cur.dec c').bind fun c => if curI c then some (Box.enc ((box8 c).1), [.rptr (Cur.enc ((box8 c).2))]) else none | _ => none, need := [] }
attribute [go_sem] spBox8
theorem spBox8_in {ins : List V} {r : V} {outs : List V} (h : spBox8.run ins = some (r, outs)) : ∃ (c : Cur), ins = [.rptr (Cur.enc c)] ∧ (curI c) ∧ Box.enc ((box8 c).1) = r ∧ outs = [.rptr (Cur.enc ((box8 c).2))] := by
  unfold spBox8 at h
  simp only at h
  split at h
  · rename_i c'
    simp only [Option.bind_eq_some_iff] at h
    obtain ⟨c, h_c, h⟩ := h
    split at h
    case isFalse => cases h
    rename_i hc
    simp only [Option.some.injEq, Prod.mk.injEq] at h
    obtain ⟨h1, h2⟩ := h
    have h_c := Cur.dec_some h_c
    subst h_c
    exact ⟨c, rfl, hc, h1, h2.symm⟩
  · cases h
def T_spec_l08Box : Hints := ⟨fun i => if i = 11 then some [(0, 2), (0, 4)] else if i = 13 then some [(0, 2), (0, 4), (0, 7)] else if i = 15 then some [(0, 2)] else if i = 7 then some [(0, 5)] else none, fun i => if i = 3 then some [0, 2, 3, 5] else none, fun i => if i = 0 then some [0, 2] else if i = 1 then some [0, 2, 3] else if i = 2 then some [0, 2, 3, 5] else if i = 3 then some [0, 2, 3, 5, 20] else if i = 5 then some [0, 2, 3, 5, 24] else if i = 8 then some [0, 2, 3, 5, 24, 34] else if i = 9 then some [0, 2, 3, 5, 24, 34] else if i = 10 then some [0, 2, 3, 5, 24, 34] else if i = 11 then some [0, 2, 3, 5] else if i = 12 then some [0, 2, 3, 5, 24, 47] else if i = 13 then some [0, 2, 3, 5] else if i = 14 then some [0, 2, 3, 5, 62] else if i = 15 then some [0, 2, 3, 5] else if i = 6 then some [0, 2, 3, 5, 26] else if i = 7 then some [0, 2, 3, 5] else if i = 4 then some [0, 2, 3, 5] else if i = 16 then some [2] else none, fun _ => none⟩
noncomputable def Phi_spec_l08Box : Tab := fun f => if f = 119 then some spPick else if f = 46 then some spBelow else if f = 118 then some spBoxNew else if f = 120 then some spAddMail else if f = 121 then some spMail else if f = 122 then some spSetFlags else if f = 123 then some spDraw else if f = 124 then some spExpunge else if f = 125 then some spOnce else if f = 126 then some spForgetTombs else none
attribute [go_sem] T_spec_l08Box Phi_spec_l08Box
theorem phi_spec_l08Box : ∀ f sp, Phi_spec_l08Box f = some sp → FnOk Tryz.prog f sp ∧ ∀ n ∈ sp.need, n ∈ ([] : List String) := by
  intro f sp h
  unfold Phi_spec_l08Box at h
  by_cases e : f = 119
  · rw [if_pos e] at h; cases h; rw [e]; exact ⟨ok_spec_l01Pick, (fun n (h : n ∈ ([] : List String)) => (nomatch h))⟩
  rw [if_neg e] at h
  by_cases e : f = 46
  · rw [if_pos e] at h; cases h; rw [e]; exact ⟨ok_spec_l01Below, (fun n (h : n ∈ ([] : List String)) => (nomatch h))⟩
  rw [if_neg e] at h
  by_cases e : f = 118
  · rw [if_pos e] at h; cases h; rw [e]; exact ⟨ok_spec_BoxNew, (fun n (h : n ∈ ([] : List String)) => (nomatch h))⟩
  rw [if_neg e] at h
  by_cases e : f = 120
  · rw [if_pos e] at h; cases h; rw [e]; exact ⟨ok_spec_AddMail, (fun n (h : n ∈ ([] : List String)) => (nomatch h))⟩
  rw [if_neg e] at h
  by_cases e : f = 121
  · rw [if_pos e] at h; cases h; rw [e]; exact ⟨ok_spec_l07Mail, (fun n (h : n ∈ ([] : List String)) => (nomatch h))⟩
  rw [if_neg e] at h
  by_cases e : f = 122
  · rw [if_pos e] at h; cases h; rw [e]; exact ⟨ok_spec_SetFlags, (fun n (h : n ∈ ([] : List String)) => (nomatch h))⟩
  rw [if_neg e] at h
  by_cases e : f = 123
  · rw [if_pos e] at h; cases h; rw [e]; exact ⟨ok_spec_l05Draw, (fun n (h : n ∈ ([] : List String)) => (nomatch h))⟩
  rw [if_neg e] at h
  by_cases e : f = 124
  · rw [if_pos e] at h; cases h; rw [e]; exact ⟨ok_spec_Expunge, (fun n (h : n ∈ ([] : List String)) => (nomatch h))⟩
  rw [if_neg e] at h
  by_cases e : f = 125
  · rw [if_pos e] at h; cases h; rw [e]; exact ⟨ok_spec_l01Once, (fun n (h : n ∈ ([] : List String)) => (nomatch h))⟩
  rw [if_neg e] at h
  by_cases e : f = 126
  · rw [if_pos e] at h; cases h; rw [e]; exact ⟨ok_spec_ForgetTombs, (fun n (h : n ∈ ([] : List String)) => (nomatch h))⟩
  rw [if_neg e] at h
  cases h
theorem ok_spec_l08Box : FnOk Tryz.prog 67 spBox8 := by
  refine fn_ok (Φ := Phi_spec_l08Box) (T := T_spec_l08Box) phi_spec_l08Box mixed Tryz.func67 rfl rfl rfl (by decide) ?_
  intro ins r outs hr hl
  clear hl
  have hs := spBox8_in hr
  clear hr
  obtain ⟨c, rfl, hc, hr, rfl⟩ := hs
  simp only [spBox8, Tryz.f67, Go.VM.initS]
  have h1 := pickO_in (l := boxNames) hc (by decide)
  obtain ⟨⟨nm, c1⟩, e1⟩ : ∃ x, pickO c boxNames = x := ⟨_, rfl⟩
  have e1' : pickO c [[105, 110, 98, 111, 120], [119, 111, 114, 107], [111, 108, 100]] = (nm, c1) := e1
  rw [e1] at h1
  have h2 := belO_in (n := 5) h1.1
  obtain ⟨⟨v, c2⟩, e2⟩ : ∃ x, belO c1 5 = x := ⟨_, rfl⟩
  simp only at h1 h2
  rw [e2] at h2
  simp only at h2
  have hv := h2.2.2 (by decide)
  have h3 := boxFresh_ok h1.2 h2.2.1 hv
  have w1 : IntKind.i64.wrap (1 + v) = 1 + v := wrap64 (by omega) (by omega)
  have nl : nm.length ≤ 4194304 := by
    have : ∀ x ∈ boxNames, x.length ≤ 8 := by decide
    have := this _ h1.2
    omega
  obtain ⟨B0, hB0⟩ : ∃ B0, boxNew nm (1 + v) = B0 := ⟨_, rfl⟩
  have kB0 : boxOk B0 = true := by rw [← hB0, h3.2]; exact h3.1
  obtain ⟨⟨RB, RC⟩, hR⟩ : ∃ R, boxL 18 0 c2 B0 = R := ⟨_, rfl⟩
  have e : box8 c = (RB, RC) := by rw [box8, e1, e2, hB0, hR]
  rw [e] at hr
  have lB0 := box_le kB0
  simp only [hc, e, e1', h1.1, e2, w1, nl, hB0, go_sem]
  repeat' ((first | ((first | apply qa | apply qb | apply qc | apply qd | apply qe | apply qf | apply qg | apply qh | apply qi | apply qj | apply qk) <;> intro hp) | ((first | refine ql rfl rfl (by decide +kernel) ?_ | refine qm _ rfl rfl (by decide +kernel) ?_) <;> have hp := True.intro)) <;> simp only [hp, hc, e, e1', h1.1, e2, w1, nl, hB0, go_sem])
  refine loop_go (fun p : Nat × Cur × Box => [(5, .int .i64 (p.1 : Int))]) (fun p => [(0, ⟨.box, 3, [p.2.1.enc]⟩), (2, ⟨.box, 7, [.agg [.str p.2.2.Name, .int .i64 p.2.2.Valid, .int .i64 p.2.2.Next, .int .i64 p.2.2.Mod, .own 3, .own 4, .int .i64 p.2.2.Horizon]]⟩), (3, ⟨.arr, 4, p.2.2.Mails.map Mail.enc⟩), (4, ⟨.arr, 2, p.2.2.Tombs.map Tomb.enc⟩)]) (fun p => 18 - p.1) (fun p => p.1 ≤ 17 ∧ curI p.2.1 ∧ boxOk p.2.2 = true ∧ boxL (18 - p.1) p.1 p.2.1 p.2.2 = (RB, RC)) (0, c2, B0) ⟨by omega, h2.1, kB0, hR⟩ rfl rfl ?_
  rintro ⟨i, d, b⟩ ⟨hi, hd, hb, he⟩ ih
  simp only at hi hd hb he ih
  have bl := box_le hb
  have nb := numsOk_next (boxOk_parts hb).1
  have g0 := belO_in (n := 16) hd
  obtain ⟨⟨v0, d0⟩, e0⟩ : ∃ x, belO d 16 = x := ⟨_, rfl⟩
  rw [e0] at g0
  simp only at g0
  have gv := g0.2.2 (by decide)
  have w0 : IntKind.i64.wrap (2 + v0) = 2 + v0 := wrap64 (by omega) (by omega)
  rw [show 18 - i = (18 - (i + 1)) + 1 by omega, boxL, e0] at he
  simp only at he
  by_cases gi : (i : Int) < 2 + v0
  · rw [if_pos gi] at he
    have g5 : IntKind.i64.wrap ((i : Int) + 1) = ((i + 1 : Nat) : Int) := wrap_succ (n := 100) (by omega) (by omega)
    have k1 := belO_in (n := 6) g0.1
    obtain ⟨⟨k, d1⟩, e6⟩ : ∃ x, belO d0 6 = x := ⟨_, rfl⟩
    rw [e6] at k1
    simp only at k1
    have kv := k1.2.2 (by decide)
    have hk : k = 0 ∨ k = 1 ∨ k = 2 ∨ k = 3 ∨ k = 4 ∨ k = 5 := by omega
    rcases hk with rfl | rfl | rfl | rfl | rfl | rfl
    · have j1 := belO_in (n := 32) k1.1
      obtain ⟨⟨f, d2⟩, a1⟩ : ∃ x, belO d1 32 = x := ⟨_, rfl⟩
      rw [a1] at j1
      simp only at j1
      have j2 := mailO_len j1.1
      obtain ⟨⟨t, d3⟩, a2⟩ : ∃ x, mailO d2 = x := ⟨_, rfl⟩
      rw [a2] at j2
      simp only at j2
      have hst : boxStep d0 b = (addMail b f t, d3) := by simp only [boxStep, boxA, e6, a1, a2, Int.reduceLE, if_true]
      have tl : t.length ≤ 4194304 := by omega
      have ih' := ih (i + 1, d3, addMail b f t) ⟨by omega, j2.2, addMail_ok hb, by rw [hst] at he; exact he⟩ (by simp only; omega)
      simp only at ih'
      simp only [hd, e0, g0.1, gi, w0, g5, e6, k1.1, a1, j1.1, a2, bl, tl, go_sem]
      repeat' ((first | ((first | apply qa | apply qb | apply qc | apply qd | apply qe | apply qf | apply qg | apply qh | apply qi | apply qj | apply qk) <;> intro hp) | ((first | refine ql rfl rfl (by decide +kernel) ?_ | refine qm _ rfl rfl (by decide +kernel) ?_) <;> have hp := True.intro)) <;> simp only [hp, hd, e0, g0.1, gi, w0, g5, e6, k1.1, a1, j1.1, a2, bl, tl, go_sem])
      all_goals exact ih'
    · have j1 := belO_in (n := 32) k1.1
      obtain ⟨⟨f, d2⟩, a1⟩ : ∃ x, belO d1 32 = x := ⟨_, rfl⟩
      rw [a1] at j1
      simp only at j1
      have j2 := mailO_len j1.1
      obtain ⟨⟨t, d3⟩, a2⟩ : ∃ x, mailO d2 = x := ⟨_, rfl⟩
      rw [a2] at j2
      simp only at j2
      have hst : boxStep d0 b = (addMail b f t, d3) := by simp only [boxStep, boxA, e6, a1, a2, Int.reduceLE, if_true]
      have tl : t.length ≤ 4194304 := by omega
      have ih' := ih (i + 1, d3, addMail b f t) ⟨by omega, j2.2, addMail_ok hb, by rw [hst] at he; exact he⟩ (by simp only; omega)
      simp only at ih'
      simp only [hd, e0, g0.1, gi, w0, g5, e6, k1.1, a1, j1.1, a2, bl, tl, go_sem]
      repeat' ((first | ((first | apply qa | apply qb | apply qc | apply qd | apply qe | apply qf | apply qg | apply qh | apply qi | apply qj | apply qk) <;> intro hp) | ((first | refine ql rfl rfl (by decide +kernel) ?_ | refine qm _ rfl rfl (by decide +kernel) ?_) <;> have hp := True.intro)) <;> simp only [hp, hd, e0, g0.1, gi, w0, g5, e6, k1.1, a1, j1.1, a2, bl, tl, go_sem])
      all_goals exact ih'
    · have j1 := belO_in (n := 32) k1.1
      obtain ⟨⟨f, d2⟩, a1⟩ : ∃ x, belO d1 32 = x := ⟨_, rfl⟩
      rw [a1] at j1
      simp only at j1
      have j2 := mailO_len j1.1
      obtain ⟨⟨t, d3⟩, a2⟩ : ∃ x, mailO d2 = x := ⟨_, rfl⟩
      rw [a2] at j2
      simp only at j2
      have hst : boxStep d0 b = (addMail b f t, d3) := by simp only [boxStep, boxA, e6, a1, a2, Int.reduceLE, if_true]
      have tl : t.length ≤ 4194304 := by omega
      have ih' := ih (i + 1, d3, addMail b f t) ⟨by omega, j2.2, addMail_ok hb, by rw [hst] at he; exact he⟩ (by simp only; omega)
      simp only at ih'
      simp only [hd, e0, g0.1, gi, w0, g5, e6, k1.1, a1, j1.1, a2, bl, tl, go_sem]
      repeat' ((first | ((first | apply qa | apply qb | apply qc | apply qd | apply qe | apply qf | apply qg | apply qh | apply qi | apply qj | apply qk) <;> intro hp) | ((first | refine ql rfl rfl (by decide +kernel) ?_ | refine qm _ rfl rfl (by decide +kernel) ?_) <;> have hp := True.intro)) <;> simp only [hp, hd, e0, g0.1, gi, w0, g5, e6, k1.1, a1, j1.1, a2, bl, tl, go_sem])
      all_goals exact ih'
    · have j1 := drawO_in k1.1
      obtain ⟨⟨s, d2⟩, a1⟩ : ∃ x, drawO d1 = x := ⟨_, rfl⟩
      rw [a1] at j1
      simp only at j1
      have j2 := belO_in (n := 3) j1.2
      obtain ⟨⟨h, d3⟩, a2⟩ : ∃ x, belO d2 3 = x := ⟨_, rfl⟩
      rw [a2] at j2
      simp only at j2
      have hv3 := j2.2.2 (by decide)
      have j3 := belO_in (n := 32) j2.1
      obtain ⟨⟨f, d4⟩, a3⟩ : ∃ x, belO d3 32 = x := ⟨_, rfl⟩
      rw [a3] at j3
      simp only at j3
      have w3 : IntKind.i64.wrap (1 + h) = 1 + h := wrap64 (by omega) (by omega)
      have hst : boxStep d0 b = (setFlags b s (1 + h) f (-1), d4) := by
        simp only [boxStep, boxB, e6, a1, a2, a3]
        rfl
      have sl : s.length ≤ 4194304 := by omega
      have ih' := ih (i + 1, d4, setFlags b s (1 + h) f (-1)) ⟨by omega, j3.1, setFlags_ok hb, by rw [hst] at he; exact he⟩ (by simp only; omega)
      simp only at ih'
      simp only [hd, e0, g0.1, gi, w0, g5, e6, k1.1, a1, j1.2, a2, j2.1, a3, w3, bl, sl, go_sem]
      repeat' ((first | ((first | apply qa | apply qb | apply qc | apply qd | apply qe | apply qf | apply qg | apply qh | apply qi | apply qj | apply qk) <;> intro hp) | ((first | refine ql rfl rfl (by decide +kernel) ?_ | refine qm _ rfl rfl (by decide +kernel) ?_) <;> have hp := True.intro)) <;> simp only [hp, hd, e0, g0.1, gi, w0, g5, e6, k1.1, a1, j1.2, a2, j2.1, a3, w3, bl, sl, go_sem])
      all_goals exact ih'
    · have j1 := drawO_in k1.1
      obtain ⟨⟨s, d2⟩, a1⟩ : ∃ x, drawO d1 = x := ⟨_, rfl⟩
      rw [a1] at j1
      simp only at j1
      have hst : boxStep d0 b = (expunge b s, d2) := by
        simp only [boxStep, boxC, e6, a1]
        rfl
      have sl : s.length ≤ 4194304 := by omega
      have ih' := ih (i + 1, d2, expunge b s) ⟨by omega, j1.2, expunge_ok hb, by rw [hst] at he; exact he⟩ (by simp only; omega)
      simp only at ih'
      simp only [hd, e0, g0.1, gi, w0, g5, e6, k1.1, a1, j1.2, bl, sl, go_sem]
      repeat' ((first | ((first | apply qa | apply qb | apply qc | apply qd | apply qe | apply qf | apply qg | apply qh | apply qi | apply qj | apply qk) <;> intro hp) | ((first | refine ql rfl rfl (by decide +kernel) ?_ | refine qm _ rfl rfl (by decide +kernel) ?_) <;> have hp := True.intro)) <;> simp only [hp, hd, e0, g0.1, gi, w0, g5, e6, k1.1, a1, j1.2, bl, sl, go_sem])
      all_goals exact ih'
    · have j1 := belO_in (n := 3) k1.1
      obtain ⟨⟨o, d2⟩, a1⟩ : ∃ x, belO d1 3 = x := ⟨_, rfl⟩
      rw [a1] at j1
      simp only at j1
      cases ho : (o == 0) with
      | true =>
        have w4 : IntKind.i64.wrap (b.Mod + 1) = b.Mod + 1 := wrap64 (by omega) (by omega)
        have j2 := belO_in (n := b.Mod + 1) j1.1
        obtain ⟨⟨u, d3⟩, a2⟩ : ∃ x, belO d2 (b.Mod + 1) = x := ⟨_, rfl⟩
        rw [a2] at j2
        simp only at j2
        have hst : boxStep d0 b = (forgetTombs b u, d3) := by
          simp only [boxStep, boxD, e6, a1, ho, a2]
          rfl
        have ih' := ih (i + 1, d3, forgetTombs b u) ⟨by omega, j2.1, forgetTombs_ok hb, by rw [hst] at he; exact he⟩ (by simp only; omega)
        simp only at ih'
        simp only [hd, e0, g0.1, gi, w0, g5, e6, k1.1, a1, j1.1, ho, a2, w4, bl, go_sem]
        repeat' ((first | ((first | apply qa | apply qb | apply qc | apply qd | apply qe | apply qf | apply qg | apply qh | apply qi | apply qj | apply qk) <;> intro hp) | ((first | refine ql rfl rfl (by decide +kernel) ?_ | refine qm _ rfl rfl (by decide +kernel) ?_) <;> have hp := True.intro)) <;> simp only [hp, hd, e0, g0.1, gi, w0, g5, e6, k1.1, a1, j1.1, ho, a2, w4, bl, go_sem])
        all_goals exact ih'
      | false =>
        have hst : boxStep d0 b = (b, d2) := by
          simp only [boxStep, boxD, e6, a1, ho]
          rfl
        have ih' := ih (i + 1, d2, b) ⟨by omega, j1.1, hb, by rw [hst] at he; exact he⟩ (by simp only; omega)
        simp only at ih'
        simp only [hd, e0, g0.1, gi, w0, g5, e6, k1.1, a1, j1.1, ho, bl, go_sem]
        repeat' ((first | ((first | apply qa | apply qb | apply qc | apply qd | apply qe | apply qf | apply qg | apply qh | apply qi | apply qj | apply qk) <;> intro hp) | ((first | refine ql rfl rfl (by decide +kernel) ?_ | refine qm _ rfl rfl (by decide +kernel) ?_) <;> have hp := True.intro)) <;> simp only [hp, hd, e0, g0.1, gi, w0, g5, e6, k1.1, a1, j1.1, ho, bl, go_sem])
        all_goals exact ih'
  · rw [if_neg gi] at he
    simp only [Prod.mk.injEq] at he
    obtain ⟨rfl, rfl⟩ := he
    simp only [hd, e0, g0.1, gi, w0, go_sem]
    repeat' ((first | ((first | apply qa | apply qb | apply qc | apply qd | apply qe | apply qf | apply qg | apply qh | apply qi | apply qj | apply qk) <;> intro hp) | ((first | refine ql rfl rfl (by decide +kernel) ?_ | refine qm _ rfl rfl (by decide +kernel) ?_) <;> have hp := True.intro)) <;> simp only [hp, hd, e0, g0.1, gi, w0, go_sem])
    simp only [fin_mk, finV, resL, resV1, resIn, endA, listIn, Option.some_or, Option.none_or, oneOrTup, go_sem]
    rw [← hr]
    first | rfl | (simp only [e]; rfl)
open Classical in
noncomputable def spDrawBox : VM.Spec := { modes := [.rd], run := fun | [.lst 1 code'] => (decL dU8 code').bind fun code => if code.length ≤ 4194304 then some (Box.enc ((box8 (cur0 code)).1), []) else none | _ => none, need := [] }
attribute [go_sem] spDrawBox
theorem spDrawBox_in {ins : List V} {r : V} {outs : List V} (h : spDrawBox.run ins = some (r, outs)) : ∃ (code : (List Int)), ins = [.lst 1 ((code).map eU8)] ∧ (code.length ≤ 4194304) ∧ Box.enc ((box8 (cur0 code)).1) = r ∧ outs = [] := by
  unfold spDrawBox at h
  simp only at h
  split at h
  · rename_i code'
    simp only [Option.bind_eq_some_iff] at h
    obtain ⟨code, h_code, h⟩ := h
    split at h
    case isFalse => cases h
    rename_i hc
    simp only [Option.some.injEq, Prod.mk.injEq] at h
    obtain ⟨h1, h2⟩ := h
    have h_code := decL_some (fun _ _ h => dU8_some h) h_code
    subst h_code
    exact ⟨code, rfl, hc, h1, h2.symm⟩
  · cases h
def T_spec_DrawBox : Hints := ⟨fun _ => none, fun _ => none, fun i => if i = 0 then some [0, 2] else if i = 1 then some [2] else none, fun _ => none⟩
noncomputable def Phi_spec_DrawBox : Tab := fun f => if f = 38 then some spNew else if f = 67 then some spBox8 else none
attribute [go_sem] T_spec_DrawBox Phi_spec_DrawBox
theorem phi_spec_DrawBox : ∀ f sp, Phi_spec_DrawBox f = some sp → FnOk Tryz.prog f sp ∧ ∀ n ∈ sp.need, n ∈ ([] : List String) := by
  intro f sp h
  unfold Phi_spec_DrawBox at h
  by_cases e : f = 38
  · rw [if_pos e] at h; cases h; rw [e]; exact ⟨ok_spec_l01New, (fun n (h : n ∈ ([] : List String)) => (nomatch h))⟩
  rw [if_neg e] at h
  by_cases e : f = 67
  · rw [if_pos e] at h; cases h; rw [e]; exact ⟨ok_spec_l08Box, (fun n (h : n ∈ ([] : List String)) => (nomatch h))⟩
  rw [if_neg e] at h
  cases h
theorem ok_spec_DrawBox : FnOk Tryz.prog 15 spDrawBox := by
  refine fn_ok (Φ := Phi_spec_DrawBox) (T := T_spec_DrawBox) phi_spec_DrawBox mixed Tryz.func15 rfl rfl rfl (by decide) ?_
  intro ins r outs hr hl
  clear hl
  have hs := spDrawBox_in hr
  clear hr
  obtain ⟨code, rfl, hc, hr, rfl⟩ := hs
  simp only [spDrawBox, Tryz.f15, Go.VM.initS]
  have i0 := cur0_in hc
  simp only [hc, i0, go_sem]
  repeat' ((first | apply qa | apply qb | apply qc | apply qd | apply qe | apply qf | apply qg | apply qh | apply qi | apply qj | apply qk) <;> intro hp <;> simp only [hp, hc, i0, go_sem])
  simp only [fin_mk, finV, resL, resV1, resIn, endA, listIn, Option.some_or, Option.none_or, oneOrTup, go_sem]
  rw [← hr]
  first | rfl | skip
end Go.Proofs.YtimiccneikhkgaaGreatDoor.L

namespace Go.Proofs.YtimiccneikhkgaaGreatDoor.L
open Go Go.VM
set_option maxRecDepth 100000
set_option maxHeartbeats 4000000
set_option linter.unusedSimpArgs false
set_option linter.unusedVariables false
def decB (s : List UInt8) : Bool := s.all digB && (decide (numV s ≤ 1000000000) && Lib.itoa (numV s) == s)
def decN (s : List UInt8) : Int := if decB s = true then numV s else 0
theorem dec_len {s : List UInt8} (h : decB s = true) : s.length ≤ 10 := by
  simp only [decB, Bool.and_eq_true, decide_eq_true_eq, beq_iff_eq] at h
  have := numV_bound s h.1
  rw [← h.2.2]
  exact itoa10 this.1 h.2.1
theorem dec_back {n : Int} (h0 : 0 ≤ n) (h : n ≤ 1000000000) : decB (Lib.itoa n) = true ∧ decN (Lib.itoa n) = n := by
  obtain ⟨a1, a2⟩ := itoa_read h0
  have hb : decB (Lib.itoa n) = true := by
    rw [decB, a1, a2]; simp [h]
  exact ⟨hb, by rw [decN, if_pos hb, a2]⟩
open Classical in
noncomputable def spDecS : VM.Spec := { modes := [.rd], run := fun | [.int .i64 n] => if 0 ≤ n ∧ n ≤ 1000000000 then some (.str (Lib.itoa n), []) else none | _ => none, need := [] }
attribute [go_sem] spDecS
theorem spDecS_in {ins : List V} {r : V} {outs : List V} (h : spDecS.run ins = some (r, outs)) : ∃ (n : Int), ins = [.int .i64 n] ∧ (0 ≤ n ∧ n ≤ 1000000000) ∧ .str (Lib.itoa n) = r ∧ outs = [] := by
  unfold spDecS at h
  simp only at h
  split at h
  · rename_i n
    split at h
    case isFalse => cases h
    rename_i hc
    simp only [Option.some.injEq, Prod.mk.injEq] at h
    obtain ⟨h1, h2⟩ := h
    exact ⟨n, rfl, hc, h1, h2.symm⟩
  · cases h
def T_spec_Decimal_s : Hints := ⟨fun _ => none, fun i => if i = 5 then some [0, 3, 4] else none, fun i => if i = 0 then some [0] else if i = 1 then some [0, 7] else if i = 2 then some [2] else if i = 3 then some [0, 3] else if i = 4 then some [0, 3, 4] else if i = 5 then some [0, 3, 4, 11] else if i = 6 then some [0, 3, 4, 5] else if i = 7 then some [0, 3, 4, 5, 15] else if i = 8 then some [0, 3, 4, 5] else if i = 9 then some [0, 3, 4] else if i = 10 then some [0, 3, 4] else if i = 11 then some [4, 26] else if i = 12 then some [2] else if i = 13 then some [2] else none, fun _ => none⟩
noncomputable def Phi_spec_Decimal_s : Tab := fun f => if f = 187 then some spFigure else none
attribute [go_sem] T_spec_Decimal_s Phi_spec_Decimal_s
theorem phi_spec_Decimal_s : ∀ f sp, Phi_spec_Decimal_s f = some sp → FnOk Tryz.prog f sp ∧ ∀ n ∈ sp.need, n ∈ ([] : List String) := by
  intro f sp h
  unfold Phi_spec_Decimal_s at h
  by_cases e : f = 187
  · rw [if_pos e] at h; cases h; rw [e]; exact ⟨ok_spec_l01Figure, (fun n (h : n ∈ ([] : List String)) => (nomatch h))⟩
  rw [if_neg e] at h
  cases h
theorem ok_spec_Decimal_s : FnOk Tryz.prog 161 spDecS := by
  refine fn_ok (Φ := Phi_spec_Decimal_s) (T := T_spec_Decimal_s) phi_spec_Decimal_s mixed Tryz.func161 rfl rfl rfl (by decide) ?_
  intro ins r outs hr hl
  clear hl
  have hs := spDecS_in hr
  clear hr
  obtain ⟨n, rfl, hc, hr, rfl⟩ := hs
  simp only [spDecS, Tryz.f161, Go.VM.initS]
  obtain ⟨h0, h1⟩ := hc
  obtain ⟨k, rfl⟩ : ∃ k : Nat, n = k := ⟨n.toNat, by omega⟩
  by_cases hz : k = 0
  · subst hz
    have e : (((0 : Nat) : Int) == 0) = true := rfl
    simp only [e, go_sem]
    repeat' ((first | apply qa | apply qb | apply qc | apply qd | apply qe | apply qf | apply qg | apply qh | apply qi | apply qj | apply qk) <;> intro hp <;> simp only [hp, e, go_sem])
    simp only [fin_mk, finV, resL, resV1, resIn, endA, listIn, Option.some_or, Option.none_or, oneOrTup, go_sem]
    rw [← hr]
    have h2 : Lib.itoa ((0 : Nat) : Int) = [48] := by
      rw [Lib.itoa, if_neg (by decide)]
      show Lib.decDigits 0 = _
      rw [Lib.decDigits]; rfl
    rw [h2]
  · have e : ((k : Int) == 0) = false := beq_eq_false_iff_ne.2 (by omega)
    have e2 : ¬ (k : Int) < 0 := by omega
    have hI : Lib.itoa (k : Int) = dig k := by rw [Lib.itoa, if_neg e2, dig, if_neg hz]; rfl
    rw [hI] at hr
    simp only [e, e2, go_sem]
    repeat' ((first | apply qa | apply qb | apply qc | apply qd | apply qe | apply qf | apply qg | apply qh | apply qi | apply qj | apply qk) <;> intro hp <;> simp only [hp, e, e2, go_sem])
    refine loop_go (fun p : List UInt8 × Nat => [(0, .int .i64 (p.2 : Int)), (4, .str p.1)]) (fun _ => []) (fun p => p.2) (fun p => dig p.2 ++ p.1 = dig k ∧ p.2 ≤ k) ([], k) ⟨by simp, Nat.le_refl _⟩ rfl rfl ?_
    rintro ⟨s, m⟩ ⟨he, hm⟩ ih
    simp only at he hm ih
    have hlen : s.length ≤ k := by
      have h2 := congrArg List.length he
      have h3 := dig_len k
      simp only [List.length_append] at h2; omega
    by_cases hm0 : m = 0
    · subst hm0
      have g1 : (((0 : Nat) : Int) != 0) = false := rfl
      simp only [g1, go_sem]
      repeat' ((first | apply qa | apply qb | apply qc | apply qd | apply qe | apply qf | apply qg | apply qh | apply qi | apply qj | apply qk) <;> intro hp <;> simp only [hp, g1, go_sem])
      simp only [fin_mk, finV, resL, resV1, resIn, endA, listIn, Option.some_or, Option.none_or, oneOrTup, go_sem]
      rw [← hr]
      rw [← he]; rfl
    · have g1 : ((m : Int) != 0) = true := by simp; omega
      have g2 : (m : Int).tmod 10 = ((m % 10 : Nat) : Int) := tmod_nat m 10
      have g3 : ¬ (((m % 10 : Nat) : Int)) < 0 := by omega
      have g4 : (0 : Int) ≤ ((m % 10 : Nat) : Int) := by omega
      have g5 : ((m % 10 : Nat) : Int) < 10 := by omega
      have g6 : (m : Int).tdiv 10 = ((m / 10 : Nat) : Int) := tdiv_nat m 10
      have g7 : IntKind.i64.wrap ((m / 10 : Nat) : Int) = ((m / 10 : Nat) : Int) := wrap64 (by omega) (by omega)
      have g8 : [V.int .u8 (48 + ((m % 10 : Nat) : Int))] = bytesV [UInt8.ofNat (48 + m % 10)] := by
        have h4 : (UInt8.ofNat (48 + m % 10)).toNat = 48 + m % 10 := UInt8.toNat_ofNat_of_lt' (by show 48 + m % 10 < 256; omega)
        rw [bytesV, List.map_cons, List.map_nil, h4]; rfl
      have g9 : 1 + s.length ≤ 9223372036854775807 := by omega
      have ih' := ih (UInt8.ofNat (48 + m % 10) :: s, m / 10) ⟨by rw [← he, dig_step hm0, List.append_assoc]; rfl, by omega⟩ (by simp only; omega)
      simp only at ih'
      simp only [g1, g2, g3, g4, g5, g6, g7, g8, g9, go_sem]
      repeat' ((first | apply qa | apply qb | apply qc | apply qd | apply qe | apply qf | apply qg | apply qh | apply qi | apply qj | apply qk) <;> intro hp <;> simp only [hp, g1, g2, g3, g4, g5, g6, g7, g8, g9, go_sem])
      exact ih'
open Classical in
noncomputable def spReadDec : VM.Spec := { modes := [.rd], run := fun | [.str s] => if s.length ≤ 4194304 then some (.tup [.int .i64 (decN s), .bool (decB s)], []) else none | _ => none, need := [] }
attribute [go_sem] spReadDec
theorem spReadDec_in {ins : List V} {r : V} {outs : List V} (h : spReadDec.run ins = some (r, outs)) : ∃ (s : (List UInt8)), ins = [.str s] ∧ (s.length ≤ 4194304) ∧ .tup [.int .i64 (decN s), .bool (decB s)] = r ∧ outs = [] := by
  unfold spReadDec at h
  simp only at h
  split at h
  · rename_i s
    split at h
    case isFalse => cases h
    rename_i hc
    simp only [Option.some.injEq, Prod.mk.injEq] at h
    obtain ⟨h1, h2⟩ := h
    exact ⟨s, rfl, hc, h1, h2.symm⟩
  · cases h
def T_spec_ReadDecimal : Hints := ⟨fun _ => none, fun i => if i = 5 then some [0, 4, 5] else none, fun i => if i = 0 then some [0] else if i = 1 then some [0, 8] else if i = 2 then some [2, 3] else if i = 3 then some [0, 4] else if i = 4 then some [0, 4, 5] else if i = 5 then some [0, 4, 5, 12] else if i = 7 then some [0, 4, 5, 24] else if i = 8 then some [2, 3] else if i = 9 then some [0, 4, 5] else if i = 6 then some [0, 4, 5] else if i = 10 then some [4, 40] else if i = 11 then some [2, 3] else if i = 12 then some [2, 3] else none, fun _ => none⟩
noncomputable def Phi_spec_ReadDecimal : Tab := fun f => if f = 161 then some spDecS else none
attribute [go_sem] T_spec_ReadDecimal Phi_spec_ReadDecimal
theorem phi_spec_ReadDecimal : ∀ f sp, Phi_spec_ReadDecimal f = some sp → FnOk Tryz.prog f sp ∧ ∀ n ∈ sp.need, n ∈ ([] : List String) := by
  intro f sp h
  unfold Phi_spec_ReadDecimal at h
  by_cases e : f = 161
  · rw [if_pos e] at h; cases h; rw [e]; exact ⟨ok_spec_Decimal_s, (fun n (h : n ∈ ([] : List String)) => (nomatch h))⟩
  rw [if_neg e] at h
  cases h
theorem ok_spec_ReadDecimal : FnOk Tryz.prog 128 spReadDec := by
  refine fn_ok (Φ := Phi_spec_ReadDecimal) (T := T_spec_ReadDecimal) phi_spec_ReadDecimal mixed Tryz.func128 rfl rfl rfl (by decide) ?_
  intro ins r outs hr hl
  clear hl
  have hs := spReadDec_in hr
  clear hr
  obtain ⟨s, rfl, hc, hr, rfl⟩ := hs
  simp only [spReadDec, Tryz.f128, Go.VM.initS]
  have no : decB s = false → decN s = 0 := fun e => by rw [decN, e]; rfl
  by_cases h10 : (10 : Int) < s.length
  · have e1 : decB s = false := by
      cases hq : decB s with
      | false => rfl
      | true => have := dec_len hq; omega
    rw [e1, no e1] at hr
    simp only [h10, go_sem]
    repeat' ((first | apply qa | apply qb | apply qc | apply qd | apply qe | apply qf | apply qg | apply qh | apply qi | apply qj | apply qk) <;> intro hp <;> simp only [hp, h10, go_sem])
    simp only [fin_mk, finV, resL, resV1, resIn, endA, listIn, Option.some_or, Option.none_or, oneOrTup, go_sem]
    rw [← hr]
  simp only [h10, go_sem]
  repeat' ((first | apply qa | apply qb | apply qc | apply qd | apply qe | apply qf | apply qg | apply qh | apply qi | apply qj | apply qk) <;> intro hp <;> simp only [hp, h10, go_sem])
  refine loop_go (fun i : Nat => [(4, .int .i64 (numV (s.take i))), (5, .int .i64 (i : Int))]) (fun _ => []) (fun i => s.length - i) (fun i => i ≤ s.length ∧ (s.take i).all digB = true) 0 ⟨Nat.zero_le _, by simp⟩ rfl rfl ?_
  rintro i ⟨hi, ha⟩ ih
  have hb := numV_bound _ ha
  rcases Nat.lt_or_ge i s.length with h | h
  · have g1 : (i : Int) < s.length := by omega
    have g2 : (0 : Int) ≤ i := by omega
    have g3 : s[i]? = some s[i] := List.getElem?_eq_getElem h
    have g5 := wrap_succ h (by omega)
    have hp : (10 : Int) ^ (s.take i).length ≤ 10000000000 := by
      have : (s.take i).length ≤ 10 := by rw [List.length_take]; omega
      have h2 : (10 : Nat) ^ (s.take i).length ≤ 10 ^ 10 := Nat.pow_le_pow_right (by omega) this
      have h3 : (((10 : Nat) ^ (s.take i).length : Nat) : Int) ≤ ((10 ^ 10 : Nat) : Int) := by exact_mod_cast h2
      simpa using h3
    have hx := s[i].toNat_lt
    by_cases d1 : (s[i].toNat : Int) < 48
    · have e1 : decB s = false := by
        have : digB s[i] = false := by simp only [digB, within, Bool.and_eq_false_iff, decide_eq_false_iff_not]; omega
        have hs : s.all digB = false := by rw [List.all_eq_false]; exact ⟨_, List.getElem_mem h, by simp [this]⟩
        rw [decB, hs]; rfl
      rw [e1, no e1] at hr
      simp only [g1, g2, g3, g5, d1, go_sem]
      repeat' ((first | apply qa | apply qb | apply qc | apply qd | apply qe | apply qf | apply qg | apply qh | apply qi | apply qj | apply qk) <;> intro hp <;> simp only [hp, g1, g2, g3, g5, d1, go_sem])
      simp only [fin_mk, finV, resL, resV1, resIn, endA, listIn, Option.some_or, Option.none_or, oneOrTup, go_sem]
      rw [← hr]
    by_cases d2 : (57 : Int) < s[i].toNat
    · have e1 : decB s = false := by
        have : digB s[i] = false := by simp only [digB, within, Bool.and_eq_false_iff, decide_eq_false_iff_not]; omega
        have hs : s.all digB = false := by rw [List.all_eq_false]; exact ⟨_, List.getElem_mem h, by simp [this]⟩
        rw [decB, hs]; rfl
      rw [e1, no e1] at hr
      simp only [g1, g2, g3, g5, d1, d2, go_sem]
      repeat' ((first | apply qa | apply qb | apply qc | apply qd | apply qe | apply qf | apply qg | apply qh | apply qi | apply qj | apply qk) <;> intro hp <;> simp only [hp, g1, g2, g3, g5, d1, d2, go_sem])
      simp only [fin_mk, finV, resL, resV1, resIn, endA, listIn, Option.some_or, Option.none_or, oneOrTup, go_sem]
      rw [← hr]
    have hd : digB s[i] = true := by simp only [digB, within, Bool.and_eq_true, decide_eq_true_eq]; omega
    have hn : numV (s.take (i + 1)) = 10 * numV (s.take i) + s[i].toNat - 48 := by
      rw [take_succ' h, numV_snoc, stepV]; omega
    have w0 : IntKind.i64.wrap (s[i].toNat : Int) = s[i].toNat := wrap64 (by omega) (by omega)
    have w1 : IntKind.i64.wrap (10 * numV (s.take i)) = 10 * numV (s.take i) := wrap64 (by omega) (by omega)
    have w2 : IntKind.i64.wrap (10 * numV (s.take i) + s[i].toNat) = 10 * numV (s.take i) + s[i].toNat := wrap64 (by omega) (by omega)
    have w3 : IntKind.i64.wrap (10 * numV (s.take i) + s[i].toNat - 48) = 10 * numV (s.take i) + s[i].toNat - 48 := wrap64 (by omega) (by omega)
    have ih' := ih (i + 1) ⟨h, by rw [take_succ' h, List.all_append, ha]; simp only [List.all_cons, List.all_nil, hd]; rfl⟩ (by omega)
    simp only [hn] at ih'
    simp only [g1, g2, g3, g5, d1, d2, w0, w1, w2, w3, go_sem]
    repeat' ((first | apply qa | apply qb | apply qc | apply qd | apply qe | apply qf | apply qg | apply qh | apply qi | apply qj | apply qk) <;> intro hp <;> simp only [hp, g1, g2, g3, g5, d1, d2, w0, w1, w2, w3, go_sem])
    exact ih'
  · have g1 : ¬ (i : Int) < s.length := by omega
    rw [List.take_of_length_le h] at ha hb
    have ht : s.take i = s := List.take_of_length_le h
    rw [ht]
    by_cases h9 : (1000000000 : Int) < numV s
    · have e1 : decB s = false := by rw [decB, decide_eq_false (by omega)]; simp
      rw [e1, no e1] at hr
      simp only [g1, h9, go_sem]
      repeat' ((first | apply qa | apply qb | apply qc | apply qd | apply qe | apply qf | apply qg | apply qh | apply qi | apply qj | apply qk) <;> intro hp <;> simp only [hp, g1, h9, go_sem])
      simp only [fin_mk, finV, resL, resV1, resIn, endA, listIn, Option.some_or, Option.none_or, oneOrTup, go_sem]
      rw [← hr]
    have h91 : numV s ≤ 1000000000 := by omega
    cases h4 : (Lib.itoa (numV s) == s) with
    | false =>
      have e1 : decB s = false := by rw [decB, h4]; simp
      have h5 : (Lib.itoa (numV s) != s) = true := by rw [bne, h4]; rfl
      rw [e1, no e1] at hr
      simp only [g1, h9, h91, hb.1, h4, h5, go_sem]
      repeat' ((first | apply qa | apply qb | apply qc | apply qd | apply qe | apply qf | apply qg | apply qh | apply qi | apply qj | apply qk) <;> intro hp <;> simp only [hp, g1, h9, h91, hb.1, h4, h5, go_sem])
      simp only [fin_mk, finV, resL, resV1, resIn, endA, listIn, Option.some_or, Option.none_or, oneOrTup, go_sem]
      rw [← hr]
    | true =>
      have e1 : decB s = true := by rw [decB, ha, h4, decide_eq_true h91]; rfl
      have e2 : decN s = numV s := by rw [decN, e1]; rfl
      have h5 : (Lib.itoa (numV s) != s) = false := by rw [bne, h4]; rfl
      rw [e1, e2] at hr
      simp only [g1, h9, h91, hb.1, h4, h5, go_sem]
      repeat' ((first | apply qa | apply qb | apply qc | apply qd | apply qe | apply qf | apply qg | apply qh | apply qi | apply qj | apply qk) <;> intro hp <;> simp only [hp, g1, h9, h91, hb.1, h4, h5, go_sem])
      simp only [fin_mk, finV, resL, resV1, resIn, endA, listIn, Option.some_or, Option.none_or, oneOrTup, go_sem]
      rw [← hr]
end Go.Proofs.YtimiccneikhkgaaGreatDoor.L

namespace Go.Proofs.YtimiccneikhkgaaGreatDoor.L
open Go Go.VM
set_option maxRecDepth 100000
set_option maxHeartbeats 4000000
set_option linter.unusedSimpArgs false
set_option linter.unusedVariables false
def bitF : Nat → Nat → List UInt8 → Int
  | 0, _, _ => 0
  | f + 1, i, w => if (flagNames.getD i [] == w) = true then ((2 ^ i : Nat) : Int) else bitF f (i + 1) w
def bitN (w : List UInt8) : Int := bitF 5 0 w
theorem bitF_in : ∀ (f i : Nat) (w : List UInt8), f + i ≤ 5 → 0 ≤ bitF f i w ∧ bitF f i w ≤ 16
  | 0, _, _, _ => by simp [bitF]
  | f + 1, i, w, h => by
    rw [bitF]
    split
    · have h2 : 2 ^ i ≤ 2 ^ 4 := Nat.pow_le_pow_right (by omega) (by omega)
      generalize 2 ^ i = q at *
      omega
    · exact bitF_in f (i + 1) w (by omega)
theorem bitN_in (w : List UInt8) : 0 ≤ bitN w ∧ bitN w ≤ 16 := bitF_in 5 0 w (by omega)
open Classical in
noncomputable def spBit : VM.Spec := { modes := [.rd], run := fun | [.str w] => if w.length ≤ 4194304 then some (.int .i64 (bitN w), []) else none | _ => none, need := [] }
attribute [go_sem] spBit
theorem spBit_in {ins : List V} {r : V} {outs : List V} (h : spBit.run ins = some (r, outs)) : ∃ (w : (List UInt8)), ins = [.str w] ∧ (w.length ≤ 4194304) ∧ .int .i64 (bitN w) = r ∧ outs = [] := by
  unfold spBit at h
  simp only at h
  split at h
  · rename_i w
    split at h
    case isFalse => cases h
    rename_i hc
    simp only [Option.some.injEq, Prod.mk.injEq] at h
    obtain ⟨h1, h2⟩ := h
    exact ⟨w, rfl, hc, h1, h2.symm⟩
  · cases h
def T_spec_l06Bit : Hints := ⟨fun _ => none, fun i => if i = 4 then some [0, 3, 4, 5] else none, fun i => if i = 0 then some [0] else if i = 1 then some [0, 3] else if i = 2 then some [0, 3, 4] else if i = 3 then some [0, 3, 4, 5] else if i = 4 then some [0, 3, 4, 5, 10] else if i = 6 then some [0, 3, 4, 5, 18] else if i = 7 then some [2] else if i = 8 then some [0, 3, 4, 5] else if i = 5 then some [0, 3, 4, 5] else if i = 9 then some [2] else none, fun _ => none⟩
noncomputable def Phi_spec_l06Bit : Tab := fun f => if f = 166 then some spFlagNames else none
attribute [go_sem] T_spec_l06Bit Phi_spec_l06Bit
theorem phi_spec_l06Bit : ∀ f sp, Phi_spec_l06Bit f = some sp → FnOk Tryz.prog f sp ∧ ∀ n ∈ sp.need, n ∈ ([] : List String) := by
  intro f sp h
  unfold Phi_spec_l06Bit at h
  by_cases e : f = 166
  · rw [if_pos e] at h; cases h; rw [e]; exact ⟨ok_spec_l06Names, (fun n (h : n ∈ ([] : List String)) => (nomatch h))⟩
  rw [if_neg e] at h
  cases h
theorem ok_spec_l06Bit : FnOk Tryz.prog 127 spBit := by
  refine fn_ok (Φ := Phi_spec_l06Bit) (T := T_spec_l06Bit) phi_spec_l06Bit mixed Tryz.func127 rfl rfl rfl (by decide) ?_
  intro ins r outs hr hl
  clear hl
  have hs := spBit_in hr
  clear hr
  obtain ⟨w, rfl, hc, hr, rfl⟩ := hs
  simp only [spBit, Tryz.f127, Go.VM.initS]
  have p0 : ((1 : Int)) = ((2 ^ 0 : Nat) : Int) := rfl
  simp only [go_sem]
  repeat' ((first | apply qa | apply qb | apply qc | apply qd | apply qe | apply qf | apply qg | apply qh | apply qi | apply qj | apply qk) <;> intro hp <;> simp only [hp, go_sem])
  refine loop_go (fun i : Nat => [(4, .int .i64 ((2 ^ i : Nat) : Int)), (5, .int .i64 (i : Int))]) (fun _ => []) (fun i => 5 - i) (fun i => i ≤ 5 ∧ bitF (5 - i) i w = bitN w) 0 ⟨by omega, rfl⟩ rfl rfl ?_
  rintro i ⟨hi, he⟩ ih
  rcases Nat.lt_or_ge i 5 with h | h
  · have hfl : flagNames.length = 5 := rfl
    have g1 : (i : Int) < flagNames.length := by omega
    have g2 : (0 : Int) ≤ i := by omega
    have g3 : flagNames[i]? = some (flagNames.getD i []) := flag_names ⟨i, h⟩
    have g5 := wrap_succ h (by omega)
    have hp : 2 ^ i ≤ 2 ^ 4 := Nat.pow_le_pow_right (by omega) (by omega)
    have g6 : IntKind.i64.wrap (2 * ((2 ^ i : Nat) : Int)) = ((2 ^ (i + 1) : Nat) : Int) := by
      rw [Nat.pow_succ]
      generalize 2 ^ i = q at *
      rw [wrap64 (by omega) (by omega)]; omega
    rw [show 5 - i = (5 - (i + 1)) + 1 by omega, bitF] at he
    generalize flagNames.getD i [] = nm at *
    generalize flagNames = NM at *
    cases hq : (nm == w) with
    | true =>
      rw [if_pos hq] at he
      rw [← he] at hr
      simp only [g1, g2, g3, g5, hq, go_sem]
      repeat' ((first | apply qa | apply qb | apply qc | apply qd | apply qe | apply qf | apply qg | apply qh | apply qi | apply qj | apply qk) <;> intro hp <;> simp only [hp, g1, g2, g3, g5, hq, go_sem])
      simp only [fin_mk, finV, resL, resV1, resIn, endA, listIn, Option.some_or, Option.none_or, oneOrTup, go_sem]
      rw [← hr]
    | false =>
      rw [if_neg (by rw [hq]; simp)] at he
      simp only [g1, g2, g3, g5, g6, hq, go_sem]
      repeat' ((first | apply qa | apply qb | apply qc | apply qd | apply qe | apply qf | apply qg | apply qh | apply qi | apply qj | apply qk) <;> intro hp <;> simp only [hp, g1, g2, g3, g5, g6, hq, go_sem])
      exact ih (i + 1) ⟨h, he⟩ (by omega)
  · have h5 : i = 5 := by omega
    subst h5
    have g1 : ¬ ((5 : Nat) : Int) < flagNames.length := by decide
    have he' : (0 : Int) = bitN w := he
    rw [← he'] at hr
    generalize flagNames = NM at *
    simp only [g1, go_sem]
    repeat' ((first | apply qa | apply qb | apply qc | apply qd | apply qe | apply qf | apply qg | apply qh | apply qi | apply qj | apply qk) <;> intro hp <;> simp only [hp, g1, go_sem])
    simp only [fin_mk, finV, resL, resV1, resIn, endA, listIn, Option.some_or, Option.none_or, oneOrTup, go_sem]
    rw [← hr]
def unB (w : List UInt8) : Bool := (decide ((2 : Int) < (w.length : Int)) && (w.take 2 == [117, 110])) && decide (0 < bitN (w.drop 2))
def keyOne (w : List UInt8) : Option Key :=
  if (w == [97, 108, 108]) = true then some ⟨1, 0, []⟩ else
  if 0 < bitN w then some ⟨2, bitN w, []⟩ else
  if unB w = true then some ⟨3, bitN (w.drop 2), []⟩ else none
def keyTwo (w m : List UInt8) : Option Key :=
  if (w == [115, 117, 98, 106, 101, 99, 116]) = true then (if within m.length 1 20 = true then some ⟨4, 0, m⟩ else none) else
  if (w == [116, 101, 120, 116]) = true then (if within m.length 1 20 = true then some ⟨5, 0, m⟩ else none) else
  if (w == [117, 105, 100]) = true then (if readOk m 9999 = true then some ⟨6, 0, m⟩ else none) else
  if (w == [109, 111, 100, 115, 101, 113]) = true then (if decB m = true ∧ decN m ≤ 100000 then some ⟨7, decN m, []⟩ else none) else none
def keysL : List (List UInt8) → List Key → Option (List Key)
  | [], out => some out
  | [w], out => match keyOne w with
    | some k => if out.length < 6 then some (out ++ [k]) else none
    | none => none
  | w :: m :: ws, out => match keyOne w with
    | some k => if out.length < 6 then keysL (m :: ws) (out ++ [k]) else none
    | none => match keyTwo w m with
      | some k => if out.length < 6 then keysL ws (out ++ [k]) else none
      | none => none
theorem keysL_len : ∀ (ws : List (List UInt8)) (out ks : List Key), out.length ≤ 6 → keysL ws out = some ks → ks.length ≤ 6
  | [], out, ks, h, e => by simp only [keysL, Option.some.injEq] at e; rw [← e]; exact h
  | [w], out, ks, h, e => by
    simp only [keysL] at e
    split at e
    · split at e
      · cases e; simp; omega
      · cases e
    · cases e
  | w :: m :: ws, out, ks, h, e => by
    simp only [keysL] at e
    split at e
    · split at e
      · exact keysL_len (m :: ws) _ ks (by simp; omega) e
      · cases e
    · split at e
      · split at e
        · exact keysL_len ws _ ks (by simp; omega) e
        · cases e
      · cases e
def keyFits (n : Nat) (k : Key) : Prop := k.Text.length ≤ n
theorem keyOne_fits {w : List UInt8} {k : Key} {n : Nat} (h : keyOne w = some k) : keyFits n k := by
  unfold keyOne at h
  repeat' split at h
  all_goals first | (cases h; simp [keyFits]) | cases h
theorem keyTwo_fits {w m : List UInt8} {k : Key} {n : Nat} (hm : m.length ≤ n) (h : keyTwo w m = some k) : keyFits n k := by
  unfold keyTwo at h
  repeat' split at h
  all_goals first | (cases h; simp only [keyFits, List.length_nil]; omega) | cases h
theorem keysL_fits {n : Nat} : ∀ (ws : List (List UInt8)) (out ks : List Key), (∀ w ∈ ws, w.length ≤ n) → (∀ k ∈ out, keyFits n k) → keysL ws out = some ks → ∀ k ∈ ks, keyFits n k
  | [], out, ks, _, h, e => by simp only [keysL, Option.some.injEq] at e; rw [← e]; exact h
  | [w], out, ks, hw, h, e => by
    simp only [keysL] at e
    split at e
    · rename_i k hk
      split at e
      · cases e
        intro x hx
        rcases List.mem_append.1 hx with hx | hx
        · exact h x hx
        · simp only [List.mem_singleton] at hx; subst hx; exact keyOne_fits hk
      · cases e
    · cases e
  | w :: m :: ws, out, ks, hw, h, e => by
    simp only [keysL] at e
    have snoc : ∀ k, keyFits n k → ∀ x ∈ out ++ [k], keyFits n x := fun k hk x hx => by
      rcases List.mem_append.1 hx with hx | hx
      · exact h x hx
      · simp only [List.mem_singleton] at hx; subst hx; exact hk
    split at e
    · rename_i k hk
      split at e
      · exact keysL_fits (m :: ws) _ ks (fun x hx => hw x (by simp only [List.mem_cons] at hx ⊢; exact .inr hx)) (snoc k (keyOne_fits hk)) e
      · cases e
    · split at e
      · rename_i k hk
        split at e
        · exact keysL_fits ws _ ks (fun x hx => hw x (by simp [hx])) (snoc k (keyTwo_fits (hw m (by simp)) hk)) e
        · cases e
      · cases e
def readKeys (ws : List (List UInt8)) : List Key × Bool := match keysL ws [] with
  | some ks => (ks, decide (0 < ks.length))
  | none => ([], false)
theorem readKeys_in {ws : List (List UInt8)} {n : Nat} (h : ∀ w ∈ ws, w.length ≤ n) : (readKeys ws).1.length ≤ 6 ∧ ∀ k ∈ (readKeys ws).1, keyFits n k := by
  unfold readKeys
  cases hk : keysL ws [] with
  | none => simp
  | some ks => exact ⟨keysL_len ws [] ks (by simp) hk, keysL_fits ws [] ks h (by simp) hk⟩
theorem keysL_one {w : List UInt8} {ws : List (List UInt8)} {out : List Key} {k : Key} (h : keyOne w = some k) (h6 : out.length < 6) : keysL (w :: ws) out = keysL ws (out ++ [k]) := by
  cases ws with
  | nil => simp only [keysL, h, if_pos h6]
  | cons m ws => simp only [keysL, h, if_pos h6]
theorem keysL_full {w : List UInt8} {ws : List (List UInt8)} {out : List Key} {k : Key} (h : keyOne w = some k) (h6 : ¬ out.length < 6) : keysL (w :: ws) out = none := by
  cases ws with
  | nil => simp only [keysL, h, if_neg h6]
  | cons m ws => simp only [keysL, h, if_neg h6]
theorem keysL_two {w m : List UInt8} {ws : List (List UInt8)} {out : List Key} {k : Key} (h : keyOne w = none) (h2 : keyTwo w m = some k) (h6 : out.length < 6) : keysL (w :: m :: ws) out = keysL ws (out ++ [k]) := by
  simp only [keysL, h, h2, if_pos h6]
theorem keysL_two_full {w m : List UInt8} {ws : List (List UInt8)} {out : List Key} (h : keyOne w = none) (h2 : keyTwo w m = none ∨ ¬ out.length < 6) : keysL (w :: m :: ws) out = none := by
  simp only [keysL, h]
  cases hk : keyTwo w m with
  | none => rfl
  | some k =>
    rcases h2 with h2 | h2
    · rw [hk] at h2; cases h2
    · simp only [if_neg h2]
theorem keysL_end {w : List UInt8} {out : List Key} (h : keyOne w = none) : keysL [w] out = none := by
  simp only [keysL, h]
open Classical in
noncomputable def spReadKeys : VM.Spec := { modes := [.rd], run := fun | [.lst 1 ws'] => (decL dStr ws').bind fun ws => if ws.length ≤ 4194304 ∧ ∀ w ∈ ws, w.length ≤ 4194304 then some (.tup [.lst 3 (((readKeys ws).1).map Key.enc), .bool ((readKeys ws).2)], []) else none | _ => none, need := ["internal/bytealg.MaxLen"] }
attribute [go_sem] spReadKeys
theorem spReadKeys_in {ins : List V} {r : V} {outs : List V} (h : spReadKeys.run ins = some (r, outs)) : ∃ (ws : (List (List UInt8))), ins = [.lst 1 ((ws).map eStr)] ∧ (ws.length ≤ 4194304 ∧ ∀ w ∈ ws, w.length ≤ 4194304) ∧ .tup [.lst 3 (((readKeys ws).1).map Key.enc), .bool ((readKeys ws).2)] = r ∧ outs = [] := by
  unfold spReadKeys at h
  simp only at h
  split at h
  · rename_i ws'
    simp only [Option.bind_eq_some_iff] at h
    obtain ⟨ws, h_ws, h⟩ := h
    split at h
    case isFalse => cases h
    rename_i hc
    simp only [Option.some.injEq, Prod.mk.injEq] at h
    obtain ⟨h1, h2⟩ := h
    have h_ws := decL_some (fun _ _ h => dStr_some h) h_ws
    subst h_ws
    exact ⟨ws, rfl, hc, h1, h2.symm⟩
  · cases h
def T_spec_ReadKeys : Hints := ⟨fun i => if i = 17 then some [] else none, fun i => if i = 4 then some [0, 4, 5, 6] else none, fun i => if i = 0 then some [0] else if i = 1 then some [0, 4] else if i = 2 then some [0, 4, 5] else if i = 3 then some [0, 4, 5, 6] else if i = 4 then some [0, 4, 5, 6, 18] else if i = 6 then some [0, 4, 5, 6, 7] else if i = 7 then some [0, 4, 5, 6, 7, 8] else if i = 8 then some [0, 4, 5, 6, 7, 8, 29] else if i = 9 then some [0, 4, 5, 6, 7, 8] else if i = 10 then some [0, 4, 5, 6, 7, 8, 9] else if i = 11 then some [0, 4, 5, 6, 7, 8, 9, 10] else if i = 13 then some [0, 4, 5, 6, 7, 8, 9, 10, 36] else if i = 14 then some [0, 4, 5, 6, 9, 10] else if i = 15 then some [0, 4, 5, 6, 7, 8, 9, 10, 40] else if i = 16 then some [0, 4, 5, 6, 9, 10] else if i = 17 then some [0, 4, 5, 6, 7, 8, 9, 10, 47] else if i = 18 then some [0, 4, 5, 6, 9, 10] else if i = 19 then some [0, 4, 5, 6, 7, 8, 9, 66] else if i = 20 then some [0, 4, 5, 6, 7, 8, 9] else if i = 21 then some [0, 4, 5, 6, 8, 9, 76] else if i = 22 then some [0, 4, 5, 6, 8, 9] else if i = 23 then some [0, 4, 5, 6, 9, 10] else if i = 24 then some [0, 4, 5, 6, 9, 10] else if i = 25 then some [0, 4, 5, 6, 7, 8, 9, 83] else if i = 26 then some [0, 4, 5, 6, 8, 9] else if i = 27 then some [0, 4, 5, 6, 9, 10] else if i = 28 then some [0, 4, 5, 6, 9, 10] else if i = 29 then some [0, 4, 5, 6, 8, 9, 95] else if i = 30 then some [0, 4, 5, 6, 9, 11, 12] else if i = 31 then some [0, 4, 5, 6, 9, 11, 12] else if i = 32 then some [0, 4, 5, 6, 9, 10] else if i = 33 then some [0, 4, 5, 6, 9, 10] else if i = 12 then some [0, 4, 5, 6, 9, 10] else if i = 34 then some [0, 4, 5, 6, 9, 124] else if i = 35 then some [2, 3] else if i = 36 then some [0, 4, 5, 6] else if i = 5 then some [0, 4, 5, 6] else if i = 37 then some [2, 3] else none, fun _ => none⟩
noncomputable def Phi_spec_ReadKeys : Tab := fun f => if f = 127 then some spBit else if f = 53 then some spWithin else if f = 52 then some spReadSet else if f = 128 then some spReadDec else none
attribute [go_sem] T_spec_ReadKeys Phi_spec_ReadKeys
theorem phi_spec_ReadKeys : ∀ f sp, Phi_spec_ReadKeys f = some sp → FnOk Tryz.prog f sp ∧ ∀ n ∈ sp.need, n ∈ (["internal/bytealg.MaxLen"] : List String) := by
  intro f sp h
  unfold Phi_spec_ReadKeys at h
  by_cases e : f = 127
  · rw [if_pos e] at h; cases h; rw [e]; exact ⟨ok_spec_l06Bit, (fun n (h : n ∈ ([] : List String)) => (nomatch h))⟩
  rw [if_neg e] at h
  by_cases e : f = 53
  · rw [if_pos e] at h; cases h; rw [e]; exact ⟨ok_spec_l01In, (fun n (h : n ∈ ([] : List String)) => (nomatch h))⟩
  rw [if_neg e] at h
  by_cases e : f = 52
  · rw [if_pos e] at h; cases h; rw [e]; exact ⟨ok_spec_ReadSet, (fun n (h : n ∈ (["internal/bytealg.MaxLen"] : List String)) => by simp only [List.mem_cons, List.not_mem_nil, or_false] at h; rcases h with rfl <;> simp)⟩
  rw [if_neg e] at h
  by_cases e : f = 128
  · rw [if_pos e] at h; cases h; rw [e]; exact ⟨ok_spec_ReadDecimal, (fun n (h : n ∈ ([] : List String)) => (nomatch h))⟩
  rw [if_neg e] at h
  cases h
theorem ok_spec_ReadKeys : FnOk Tryz.prog 68 spReadKeys := by
  refine fn_ok (Φ := Phi_spec_ReadKeys) (T := T_spec_ReadKeys) phi_spec_ReadKeys mixed Tryz.func68 rfl rfl rfl (by decide) ?_
  intro ins r outs hr hl
  clear hl
  have hs := spReadKeys_in hr
  clear hr
  obtain ⟨ws, rfl, hc, hr, rfl⟩ := hs
  simp only [spReadKeys, Tryz.f68, Go.VM.initS]
  obtain ⟨hl, hw⟩ := hc
  simp only [hl, go_sem]
  repeat' ((first | apply qa | apply qb | apply qc | apply qd | apply qe | apply qf | apply qg | apply qh | apply qi | apply qj | apply qk) <;> intro hp <;> simp only [hp, hl, go_sem])
  refine loop_go (fun p : Nat × List Key => [(6, .int .i64 (p.1 : Int))]) (fun p => [(1, ⟨.arr, 3, p.2.map Key.enc⟩)]) (fun p => ws.length - p.1) (fun p => p.1 ≤ ws.length ∧ p.2.length ≤ 6 ∧ keysL (ws.drop p.1) p.2 = keysL ws []) (0, []) ⟨Nat.zero_le _, by simp, rfl⟩ rfl rfl ?_
  rintro ⟨i, out⟩ ⟨hi, ho, he⟩ ih
  simp only at hi ho he ih
  rcases Nat.lt_or_ge i ws.length with h | h
  case inr =>
    have g1 : ¬ (i : Int) < ws.length := by omega
    rw [List.drop_of_length_le h, keysL] at he
    have e1 : readKeys ws = (out, decide (0 < out.length)) := by rw [readKeys, ← he]
    rw [e1] at hr
    have e2 : decide ((0 : Int) < (out.length : Int)) = decide (0 < out.length) := by rw [Bool.eq_iff_iff]; simp
    simp only [g1, e2, go_sem]
    repeat' ((first | apply qa | apply qb | apply qc | apply qd | apply qe | apply qf | apply qg | apply qh | apply qi | apply qj | apply qk) <;> intro hp <;> simp only [hp, g1, e2, go_sem])
    simp only [fin_mk, finV, resL, resV1, resIn, endA, listIn, Option.some_or, Option.none_or, oneOrTup, go_sem]
    rw [← hr]
  obtain ⟨w, hwd⟩ : ∃ w, ws[i] = w := ⟨_, rfl⟩
  have g1 : (i : Int) < ws.length := by omega
  have g2 : (0 : Int) ≤ i := by omega
  have g3 : ws[i]? = some w := by rw [List.getElem?_eq_getElem h, hwd]
  have g5 : IntKind.i64.wrap ((i : Int) + 1) = ((i + 1 : Nat) : Int) := (wrap64 (by omega) (by omega)).trans (by omega)
  have g5' : IntKind.i64.wrap (((i + 1 : Nat) : Int) + 1) = ((i + 2 : Nat) : Int) := (wrap64 (by omega) (by omega)).trans (by omega)
  have wl : w.length ≤ 4194304 := by rw [← hwd]; exact hw _ (List.getElem_mem h)
  have wl2 : (w.drop 2).length ≤ 4194304 := by rw [List.length_drop]; omega
  have hd : ws.drop i = w :: ws.drop (i + 1) := by rw [List.drop_eq_getElem_cons h, hwd]
  have o1 : (out.length + 1) * 32 ≤ 140737488355328 := by omega
  have o2 : out.length ≤ 9223372036854775806 := by omega
  have hbw := bitN_in w
  have hbd := bitN_in (w.drop 2)
  have fail : keysL ws [] = none → readKeys ws = ([], false) := fun e => by rw [readKeys, e]
  have n1 : ¬ ((ws.length : Nat) : Int) ≤ (i : Int) := by omega
  have v2 : (2 : Int) ≤ 9223372036854775807 := by decide
  have v3 : (0 : Int) ≤ 2 := by decide
  rcases Nat.lt_or_ge (i + 1) ws.length with hm | hm
  · obtain ⟨m, hmd⟩ : ∃ m, ws[i + 1] = m := ⟨_, rfl⟩
    have m1 : ((i + 1 : Nat) : Int) < ws.length := by omega
    have m2 : (0 : Int) ≤ ((i + 1 : Nat) : Int) := by omega
    have m3 : ws[i + 1]? = some m := by rw [List.getElem?_eq_getElem hm, hmd]
    have ml : m.length ≤ 4194304 := by rw [← hmd]; exact hw _ (List.getElem_mem hm)
    have n2 : ¬ ((ws.length : Nat) : Int) ≤ ((i + 1 : Nat) : Int) := by omega
    have hd2 : ws.drop (i + 1) = m :: ws.drop (i + 2) := by rw [List.drop_eq_getElem_cons hm, hmd]
    cases c1 : (w == [97, 108, 108]) with
    | true =>
      have hk1 : keyOne w = some ⟨1, 0, []⟩ := by rw [keyOne, if_pos c1]
      have ih' : out.length < 6 → _ := fun h6 => ih (i + 1, out ++ [⟨1, 0, []⟩]) ⟨h, by simp; omega, by rw [← he, hd, keysL_one hk1 h6]⟩ (by simp only; omega)
      simp only [List.map_append, List.map_cons, List.map_nil] at ih'
      have bad : ¬ out.length < 6 → readKeys ws = ([], false) := fun h6 => fail (by rw [← he, hd]; exact keysL_full hk1 h6)
      simp only [g1, g2, g3, g5, g5', wl, wl2, o1, o2, v2, v3, n1, List.take_length, Nat.le_refl, m1, m2, m3, ml, c1, go_sem]
      repeat' ((first | apply qa | apply qb | apply qc | apply qd | apply qe | apply qf | apply qg | apply qh | apply qi | apply qj | apply qk) <;> intro hp <;> simp only [hp, g1, g2, g3, g5, g5', wl, wl2, o1, o2, v2, v3, n1, List.take_length, Nat.le_refl, m1, m2, m3, ml, c1, go_sem])
      all_goals first
        | exact ih' (by omega)
        | (clear ih'; omega)
        | (clear ih'; have e1 := bad (by omega); rw [e1] at hr; simp only [fin_mk, finV, resL, resV1, resIn, endA, listIn, Option.some_or, Option.none_or, oneOrTup, go_sem]; rw [← hr]; rfl)
    | false =>
    by_cases c2 : 0 < bitN w
    · have hk1 : keyOne w = some ⟨2, bitN w, []⟩ := by rw [keyOne, if_neg (by rw [c1]; simp), if_pos c2]
      have ih' : out.length < 6 → _ := fun h6 => ih (i + 1, out ++ [⟨2, bitN w, []⟩]) ⟨h, by simp; omega, by rw [← he, hd, keysL_one hk1 h6]⟩ (by simp only; omega)
      simp only [List.map_append, List.map_cons, List.map_nil] at ih'
      have bad : ¬ out.length < 6 → readKeys ws = ([], false) := fun h6 => fail (by rw [← he, hd]; exact keysL_full hk1 h6)
      simp only [g1, g2, g3, g5, g5', wl, wl2, o1, o2, v2, v3, n1, List.take_length, Nat.le_refl, m1, m2, m3, ml, c1, c2, go_sem]
      repeat' ((first | apply qa | apply qb | apply qc | apply qd | apply qe | apply qf | apply qg | apply qh | apply qi | apply qj | apply qk) <;> intro hp <;> simp only [hp, g1, g2, g3, g5, g5', wl, wl2, o1, o2, v2, v3, n1, List.take_length, Nat.le_refl, m1, m2, m3, ml, c1, c2, go_sem])
      all_goals first
        | exact ih' (by omega)
        | (clear ih'; omega)
        | (clear ih'; have e1 := bad (by omega); rw [e1] at hr; simp only [fin_mk, finV, resL, resV1, resIn, endA, listIn, Option.some_or, Option.none_or, oneOrTup, go_sem]; rw [← hr]; rfl)
    simp only [g1, g2, g3, g5, g5', wl, wl2, o1, o2, v2, v3, n1, List.take_length, Nat.le_refl, m1, m2, m3, ml, c1, c2, go_sem]
    repeat' ((first | apply qa | apply qb | apply qc | apply qd | apply qe | apply qf | apply qg | apply qh | apply qi | apply qj | apply qk) <;> intro hp <;> simp only [hp, g1, g2, g3, g5, g5', wl, wl2, o1, o2, v2, v3, n1, List.take_length, Nat.le_refl, m1, m2, m3, ml, c1, c2, go_sem])
    refine goes_val 47 V.bool (unB w) rfl rfl ?_ ?_
    · intro G hG
      clear ih he fail hd2 hd hr
      by_cases t2 : (2 : Int) < (w.length : Int)
      · have t3 : 2 ≤ w.length := by omega
        cases t4 : (w.take 2 == [117, 110]) with
        | true =>
          have hu : unB w = decide (0 < bitN (w.drop 2)) := by rw [unB, t4, decide_eq_true t2]; rfl
          rw [hu] at hG
          simp only [g1, g2, g3, g5, g5', wl, wl2, o1, o2, v2, v3, n1, List.take_length, Nat.le_refl, m1, m2, m3, ml, c1, c2, t2, t3, t4, go_sem]
          repeat' ((first | apply qa | apply qb | apply qc | apply qd | apply qe | apply qf | apply qg | apply qh | apply qi | apply qj | apply qk) <;> intro hp <;> simp only [hp, g1, g2, g3, g5, g5', wl, wl2, o1, o2, v2, v3, n1, List.take_length, Nat.le_refl, m1, m2, m3, ml, c1, c2, t2, t3, t4, go_sem])
          all_goals exact hG _ (by first | rfl | (symm; assumption) | simp_all)
        | false =>
          have hu : unB w = false := by rw [unB, t4]; simp
          rw [hu] at hG
          simp only [g1, g2, g3, g5, g5', wl, wl2, o1, o2, v2, v3, n1, List.take_length, Nat.le_refl, m1, m2, m3, ml, c1, c2, t2, t3, t4, go_sem]
          repeat' ((first | apply qa | apply qb | apply qc | apply qd | apply qe | apply qf | apply qg | apply qh | apply qi | apply qj | apply qk) <;> intro hp <;> simp only [hp, g1, g2, g3, g5, g5', wl, wl2, o1, o2, v2, v3, n1, List.take_length, Nat.le_refl, m1, m2, m3, ml, c1, c2, t2, t3, t4, go_sem])
          all_goals exact hG _ rfl
      · have hu : unB w = false := by rw [unB, decide_eq_false t2]; rfl
        rw [hu] at hG
        simp only [g1, g2, g3, g5, g5', wl, wl2, o1, o2, v2, v3, n1, List.take_length, Nat.le_refl, m1, m2, m3, ml, c1, c2, t2, go_sem]
        repeat' ((first | apply qa | apply qb | apply qc | apply qd | apply qe | apply qf | apply qg | apply qh | apply qi | apply qj | apply qk) <;> intro hp <;> simp only [hp, g1, g2, g3, g5, g5', wl, wl2, o1, o2, v2, v3, n1, List.take_length, Nat.le_refl, m1, m2, m3, ml, c1, c2, t2, go_sem])
        all_goals exact hG _ rfl
    cases c3 : unB w with
    | true =>
      have c3' := c3
      simp only [unB, Bool.and_eq_true, decide_eq_true_eq] at c3'
      have hk1 : keyOne w = some ⟨3, bitN (w.drop 2), []⟩ := by rw [keyOne, if_neg (by rw [c1]; simp), if_neg c2, if_pos c3]
      have ih' : out.length < 6 → _ := fun h6 => ih (i + 1, out ++ [⟨3, bitN (w.drop 2), []⟩]) ⟨h, by simp; omega, by rw [← he, hd, keysL_one hk1 h6]⟩ (by simp only; omega)
      simp only [List.map_append, List.map_cons, List.map_nil] at ih'
      have bad : ¬ out.length < 6 → readKeys ws = ([], false) := fun h6 => fail (by rw [← he, hd]; exact keysL_full hk1 h6)
      simp only [g1, g2, g3, g5, g5', wl, wl2, o1, o2, v2, v3, n1, List.take_length, Nat.le_refl, m1, m2, m3, ml, c1, c2, c3, c3'.1.1, c3'.2, go_sem]
      repeat' ((first | apply qa | apply qb | apply qc | apply qd | apply qe | apply qf | apply qg | apply qh | apply qi | apply qj | apply qk) <;> intro hp <;> simp only [hp, g1, g2, g3, g5, g5', wl, wl2, o1, o2, v2, v3, n1, List.take_length, Nat.le_refl, m1, m2, m3, ml, c1, c2, c3, c3'.1.1, c3'.2, go_sem])
      all_goals first
        | exact ih' (by omega)
        | (clear ih'; omega)
        | (clear ih'; have e1 := bad (by omega); rw [e1] at hr; simp only [fin_mk, finV, resL, resV1, resIn, endA, listIn, Option.some_or, Option.none_or, oneOrTup, go_sem]; rw [← hr]; rfl)
    | false =>
    have hk1 : keyOne w = none := by rw [keyOne, if_neg (by rw [c1]; simp), if_neg c2, if_neg (by rw [c3]; simp)]
    cases k1 : (w == [115, 117, 98, 106, 101, 99, 116]) with
    | true =>
      have kk : (w == [116, 101, 120, 116]) = false := by rw [eq_of_beq k1]; decide
      cases q : within m.length 1 20 with
      | true =>
        have hk2 : keyTwo w m = some ⟨4, 0, m⟩ := by rw [keyTwo, if_pos k1, if_pos q]
        have ih' : out.length < 6 → _ := fun h6 => ih (i + 2, out ++ [⟨4, 0, m⟩]) ⟨hm, by simp; omega, by rw [← he, hd, hd2, keysL_two hk1 hk2 h6]⟩ (by simp only; omega)
        simp only [List.map_append, List.map_cons, List.map_nil] at ih'
        have bad : ¬ out.length < 6 → readKeys ws = ([], false) := fun h6 => fail (by rw [← he, hd, hd2]; exact keysL_two_full hk1 (.inr h6))
        simp only [g1, g2, g3, g5, g5', wl, wl2, o1, o2, v2, v3, n1, List.take_length, Nat.le_refl, m1, m2, m3, ml, c1, c2, c3, k1, n2, q, kk, go_sem]
        repeat' ((first | apply qa | apply qb | apply qc | apply qd | apply qe | apply qf | apply qg | apply qh | apply qi | apply qj | apply qk) <;> intro hp <;> simp only [hp, g1, g2, g3, g5, g5', wl, wl2, o1, o2, v2, v3, n1, List.take_length, Nat.le_refl, m1, m2, m3, ml, c1, c2, c3, k1, n2, q, kk, go_sem])
        all_goals first
          | exact ih' (by omega)
          | (clear ih'; omega)
          | (clear ih'; have e1 := bad (by omega); rw [e1] at hr; simp only [fin_mk, finV, resL, resV1, resIn, endA, listIn, Option.some_or, Option.none_or, oneOrTup, go_sem]; rw [← hr]; rfl)
      | false =>
        have e1 := fail (by rw [← he, hd, hd2]; exact keysL_two_full hk1 (.inl (by rw [keyTwo, if_pos k1, if_neg (by rw [q]; simp)])))
        rw [e1] at hr
        simp only [g1, g2, g3, g5, g5', wl, wl2, o1, o2, v2, v3, n1, List.take_length, Nat.le_refl, m1, m2, m3, ml, c1, c2, c3, k1, n2, q, kk, go_sem]
        repeat' ((first | apply qa | apply qb | apply qc | apply qd | apply qe | apply qf | apply qg | apply qh | apply qi | apply qj | apply qk) <;> intro hp <;> simp only [hp, g1, g2, g3, g5, g5', wl, wl2, o1, o2, v2, v3, n1, List.take_length, Nat.le_refl, m1, m2, m3, ml, c1, c2, c3, k1, n2, q, kk, go_sem])
        all_goals (simp only [fin_mk, finV, resL, resV1, resIn, endA, listIn, Option.some_or, Option.none_or, oneOrTup, go_sem]; rw [← hr]; rfl)
    | false =>
    cases k2 : (w == [116, 101, 120, 116]) with
    | true =>
      cases q : within m.length 1 20 with
      | true =>
        have hk2 : keyTwo w m = some ⟨5, 0, m⟩ := by rw [keyTwo, if_neg (by rw [k1]; simp), if_pos k2, if_pos q]
        have ih' : out.length < 6 → _ := fun h6 => ih (i + 2, out ++ [⟨5, 0, m⟩]) ⟨hm, by simp; omega, by rw [← he, hd, hd2, keysL_two hk1 hk2 h6]⟩ (by simp only; omega)
        simp only [List.map_append, List.map_cons, List.map_nil] at ih'
        have bad : ¬ out.length < 6 → readKeys ws = ([], false) := fun h6 => fail (by rw [← he, hd, hd2]; exact keysL_two_full hk1 (.inr h6))
        simp only [g1, g2, g3, g5, g5', wl, wl2, o1, o2, v2, v3, n1, List.take_length, Nat.le_refl, m1, m2, m3, ml, c1, c2, c3, k1, k2, n2, q, go_sem]
        repeat' ((first | apply qa | apply qb | apply qc | apply qd | apply qe | apply qf | apply qg | apply qh | apply qi | apply qj | apply qk) <;> intro hp <;> simp only [hp, g1, g2, g3, g5, g5', wl, wl2, o1, o2, v2, v3, n1, List.take_length, Nat.le_refl, m1, m2, m3, ml, c1, c2, c3, k1, k2, n2, q, go_sem])
        all_goals first
          | exact ih' (by omega)
          | (clear ih'; omega)
          | (clear ih'; have e1 := bad (by omega); rw [e1] at hr; simp only [fin_mk, finV, resL, resV1, resIn, endA, listIn, Option.some_or, Option.none_or, oneOrTup, go_sem]; rw [← hr]; rfl)
      | false =>
        have e1 := fail (by rw [← he, hd, hd2]; exact keysL_two_full hk1 (.inl (by rw [keyTwo, if_neg (by rw [k1]; simp), if_pos k2, if_neg (by rw [q]; simp)])))
        rw [e1] at hr
        simp only [g1, g2, g3, g5, g5', wl, wl2, o1, o2, v2, v3, n1, List.take_length, Nat.le_refl, m1, m2, m3, ml, c1, c2, c3, k1, k2, n2, q, go_sem]
        repeat' ((first | apply qa | apply qb | apply qc | apply qd | apply qe | apply qf | apply qg | apply qh | apply qi | apply qj | apply qk) <;> intro hp <;> simp only [hp, g1, g2, g3, g5, g5', wl, wl2, o1, o2, v2, v3, n1, List.take_length, Nat.le_refl, m1, m2, m3, ml, c1, c2, c3, k1, k2, n2, q, go_sem])
        all_goals (simp only [fin_mk, finV, resL, resV1, resIn, endA, listIn, Option.some_or, Option.none_or, oneOrTup, go_sem]; rw [← hr]; rfl)
    | false =>
    cases k3 : (w == [117, 105, 100]) with
    | true =>
      cases q : readOk m 9999 with
      | true =>
        have hk2 : keyTwo w m = some ⟨6, 0, m⟩ := by rw [keyTwo, if_neg (by rw [k1]; simp), if_neg (by rw [k2]; simp), if_pos k3, if_pos q]
        have ih' : out.length < 6 → _ := fun h6 => ih (i + 2, out ++ [⟨6, 0, m⟩]) ⟨hm, by simp; omega, by rw [← he, hd, hd2, keysL_two hk1 hk2 h6]⟩ (by simp only; omega)
        simp only [List.map_append, List.map_cons, List.map_nil] at ih'
        have bad : ¬ out.length < 6 → readKeys ws = ([], false) := fun h6 => fail (by rw [← he, hd, hd2]; exact keysL_two_full hk1 (.inr h6))
        simp only [g1, g2, g3, g5, g5', wl, wl2, o1, o2, v2, v3, n1, List.take_length, Nat.le_refl, m1, m2, m3, ml, c1, c2, c3, k1, k2, k3, n2, q, go_sem]
        repeat' ((first | apply qa | apply qb | apply qc | apply qd | apply qe | apply qf | apply qg | apply qh | apply qi | apply qj | apply qk) <;> intro hp <;> simp only [hp, g1, g2, g3, g5, g5', wl, wl2, o1, o2, v2, v3, n1, List.take_length, Nat.le_refl, m1, m2, m3, ml, c1, c2, c3, k1, k2, k3, n2, q, go_sem])
        all_goals first
          | exact ih' (by omega)
          | (clear ih'; omega)
          | (clear ih'; have e1 := bad (by omega); rw [e1] at hr; simp only [fin_mk, finV, resL, resV1, resIn, endA, listIn, Option.some_or, Option.none_or, oneOrTup, go_sem]; rw [← hr]; rfl)
      | false =>
        have e1 := fail (by rw [← he, hd, hd2]; exact keysL_two_full hk1 (.inl (by rw [keyTwo, if_neg (by rw [k1]; simp), if_neg (by rw [k2]; simp), if_pos k3, if_neg (by rw [q]; simp)])))
        rw [e1] at hr
        simp only [g1, g2, g3, g5, g5', wl, wl2, o1, o2, v2, v3, n1, List.take_length, Nat.le_refl, m1, m2, m3, ml, c1, c2, c3, k1, k2, k3, n2, q, go_sem]
        repeat' ((first | apply qa | apply qb | apply qc | apply qd | apply qe | apply qf | apply qg | apply qh | apply qi | apply qj | apply qk) <;> intro hp <;> simp only [hp, g1, g2, g3, g5, g5', wl, wl2, o1, o2, v2, v3, n1, List.take_length, Nat.le_refl, m1, m2, m3, ml, c1, c2, c3, k1, k2, k3, n2, q, go_sem])
        all_goals (simp only [fin_mk, finV, resL, resV1, resIn, endA, listIn, Option.some_or, Option.none_or, oneOrTup, go_sem]; rw [← hr]; rfl)
    | false =>
    cases k4 : (w == [109, 111, 100, 115, 101, 113]) with
    | true =>
      cases q : decB m with
      | false =>
        have e1 := fail (by rw [← he, hd, hd2]; exact keysL_two_full hk1 (.inl (by rw [keyTwo, if_neg (by rw [k1]; simp), if_neg (by rw [k2]; simp), if_neg (by rw [k3]; simp), if_pos k4, if_neg (by rw [q]; simp)])))
        rw [e1] at hr
        simp only [g1, g2, g3, g5, g5', wl, wl2, o1, o2, v2, v3, n1, List.take_length, Nat.le_refl, m1, m2, m3, ml, c1, c2, c3, k1, k2, k3, k4, n2, q, go_sem]
        repeat' ((first | apply qa | apply qb | apply qc | apply qd | apply qe | apply qf | apply qg | apply qh | apply qi | apply qj | apply qk) <;> intro hp <;> simp only [hp, g1, g2, g3, g5, g5', wl, wl2, o1, o2, v2, v3, n1, List.take_length, Nat.le_refl, m1, m2, m3, ml, c1, c2, c3, k1, k2, k3, k4, n2, q, go_sem])
        all_goals (simp only [fin_mk, finV, resL, resV1, resIn, endA, listIn, Option.some_or, Option.none_or, oneOrTup, go_sem]; rw [← hr]; rfl)
      | true =>
      by_cases q2 : decN m ≤ 100000
      · have hk2 : keyTwo w m = some ⟨7, decN m, []⟩ := by rw [keyTwo, if_neg (by rw [k1]; simp), if_neg (by rw [k2]; simp), if_neg (by rw [k3]; simp), if_pos k4, if_pos ⟨q, q2⟩]
        have ih' : out.length < 6 → _ := fun h6 => ih (i + 2, out ++ [⟨7, decN m, []⟩]) ⟨hm, by simp; omega, by rw [← he, hd, hd2, keysL_two hk1 hk2 h6]⟩ (by simp only; omega)
        simp only [List.map_append, List.map_cons, List.map_nil] at ih'
        have bad : ¬ out.length < 6 → readKeys ws = ([], false) := fun h6 => fail (by rw [← he, hd, hd2]; exact keysL_two_full hk1 (.inr h6))
        simp only [g1, g2, g3, g5, g5', wl, wl2, o1, o2, v2, v3, n1, List.take_length, Nat.le_refl, m1, m2, m3, ml, c1, c2, c3, k1, k2, k3, k4, n2, q, q2, go_sem]
        repeat' ((first | apply qa | apply qb | apply qc | apply qd | apply qe | apply qf | apply qg | apply qh | apply qi | apply qj | apply qk) <;> intro hp <;> simp only [hp, g1, g2, g3, g5, g5', wl, wl2, o1, o2, v2, v3, n1, List.take_length, Nat.le_refl, m1, m2, m3, ml, c1, c2, c3, k1, k2, k3, k4, n2, q, q2, go_sem])
        all_goals first
          | exact ih' (by omega)
          | (clear ih'; omega)
          | (clear ih'; have e1 := bad (by omega); rw [e1] at hr; simp only [fin_mk, finV, resL, resV1, resIn, endA, listIn, Option.some_or, Option.none_or, oneOrTup, go_sem]; rw [← hr]; rfl)
      · have e1 := fail (by rw [← he, hd, hd2]; exact keysL_two_full hk1 (.inl (by rw [keyTwo, if_neg (by rw [k1]; simp), if_neg (by rw [k2]; simp), if_neg (by rw [k3]; simp), if_pos k4, if_neg (fun e => q2 e.2)])))
        rw [e1] at hr
        simp only [g1, g2, g3, g5, g5', wl, wl2, o1, o2, v2, v3, n1, List.take_length, Nat.le_refl, m1, m2, m3, ml, c1, c2, c3, k1, k2, k3, k4, n2, q, q2, go_sem]
        repeat' ((first | apply qa | apply qb | apply qc | apply qd | apply qe | apply qf | apply qg | apply qh | apply qi | apply qj | apply qk) <;> intro hp <;> simp only [hp, g1, g2, g3, g5, g5', wl, wl2, o1, o2, v2, v3, n1, List.take_length, Nat.le_refl, m1, m2, m3, ml, c1, c2, c3, k1, k2, k3, k4, n2, q, q2, go_sem])
        all_goals (simp only [fin_mk, finV, resL, resV1, resIn, endA, listIn, Option.some_or, Option.none_or, oneOrTup, go_sem]; rw [← hr]; rfl)
    | false =>
    have e1 := fail (by rw [← he, hd, hd2]; exact keysL_two_full hk1 (.inl (by rw [keyTwo, if_neg (by rw [k1]; simp), if_neg (by rw [k2]; simp), if_neg (by rw [k3]; simp), if_neg (by rw [k4]; simp)])))
    rw [e1] at hr
    simp only [g1, g2, g3, g5, g5', wl, wl2, o1, o2, v2, v3, n1, List.take_length, Nat.le_refl, m1, m2, m3, ml, c1, c2, c3, k1, k2, k3, k4, go_sem]
    repeat' ((first | apply qa | apply qb | apply qc | apply qd | apply qe | apply qf | apply qg | apply qh | apply qi | apply qj | apply qk) <;> intro hp <;> simp only [hp, g1, g2, g3, g5, g5', wl, wl2, o1, o2, v2, v3, n1, List.take_length, Nat.le_refl, m1, m2, m3, ml, c1, c2, c3, k1, k2, k3, k4, go_sem])
    all_goals (simp only [fin_mk, finV, resL, resV1, resIn, endA, listIn, Option.some_or, Option.none_or, oneOrTup, go_sem]; rw [← hr]; rfl)
  · have m1 : ¬ ((i + 1 : Nat) : Int) < ws.length := by omega
    have hd2 : ws.drop (i + 1) = [] := List.drop_of_length_le hm
    have z0 : (([] : List UInt8).length) ≤ 4194304 := by simp
    cases c1 : (w == [97, 108, 108]) with
    | true =>
      have hk1 : keyOne w = some ⟨1, 0, []⟩ := by rw [keyOne, if_pos c1]
      have ih' : out.length < 6 → _ := fun h6 => ih (i + 1, out ++ [⟨1, 0, []⟩]) ⟨h, by simp; omega, by rw [← he, hd, keysL_one hk1 h6]⟩ (by simp only; omega)
      simp only [List.map_append, List.map_cons, List.map_nil] at ih'
      have bad : ¬ out.length < 6 → readKeys ws = ([], false) := fun h6 => fail (by rw [← he, hd]; exact keysL_full hk1 h6)
      simp only [g1, g2, g3, g5, g5', wl, wl2, o1, o2, v2, v3, n1, List.take_length, Nat.le_refl, m1, c1, go_sem]
      repeat' ((first | apply qa | apply qb | apply qc | apply qd | apply qe | apply qf | apply qg | apply qh | apply qi | apply qj | apply qk) <;> intro hp <;> simp only [hp, g1, g2, g3, g5, g5', wl, wl2, o1, o2, v2, v3, n1, List.take_length, Nat.le_refl, m1, c1, go_sem])
      all_goals first
        | exact ih' (by omega)
        | (clear ih'; omega)
        | (clear ih'; have e1 := bad (by omega); rw [e1] at hr; simp only [fin_mk, finV, resL, resV1, resIn, endA, listIn, Option.some_or, Option.none_or, oneOrTup, go_sem]; rw [← hr]; rfl)
    | false =>
    by_cases c2 : 0 < bitN w
    · have hk1 : keyOne w = some ⟨2, bitN w, []⟩ := by rw [keyOne, if_neg (by rw [c1]; simp), if_pos c2]
      have ih' : out.length < 6 → _ := fun h6 => ih (i + 1, out ++ [⟨2, bitN w, []⟩]) ⟨h, by simp; omega, by rw [← he, hd, keysL_one hk1 h6]⟩ (by simp only; omega)
      simp only [List.map_append, List.map_cons, List.map_nil] at ih'
      have bad : ¬ out.length < 6 → readKeys ws = ([], false) := fun h6 => fail (by rw [← he, hd]; exact keysL_full hk1 h6)
      simp only [g1, g2, g3, g5, g5', wl, wl2, o1, o2, v2, v3, n1, List.take_length, Nat.le_refl, m1, c1, c2, go_sem]
      repeat' ((first | apply qa | apply qb | apply qc | apply qd | apply qe | apply qf | apply qg | apply qh | apply qi | apply qj | apply qk) <;> intro hp <;> simp only [hp, g1, g2, g3, g5, g5', wl, wl2, o1, o2, v2, v3, n1, List.take_length, Nat.le_refl, m1, c1, c2, go_sem])
      all_goals first
        | exact ih' (by omega)
        | (clear ih'; omega)
        | (clear ih'; have e1 := bad (by omega); rw [e1] at hr; simp only [fin_mk, finV, resL, resV1, resIn, endA, listIn, Option.some_or, Option.none_or, oneOrTup, go_sem]; rw [← hr]; rfl)
    simp only [g1, g2, g3, g5, g5', wl, wl2, o1, o2, v2, v3, n1, List.take_length, Nat.le_refl, m1, c1, c2, go_sem]
    repeat' ((first | apply qa | apply qb | apply qc | apply qd | apply qe | apply qf | apply qg | apply qh | apply qi | apply qj | apply qk) <;> intro hp <;> simp only [hp, g1, g2, g3, g5, g5', wl, wl2, o1, o2, v2, v3, n1, List.take_length, Nat.le_refl, m1, c1, c2, go_sem])
    refine goes_val 47 V.bool (unB w) rfl rfl ?_ ?_
    · intro G hG
      clear ih he fail hd2 hd hr
      by_cases t2 : (2 : Int) < (w.length : Int)
      · have t3 : 2 ≤ w.length := by omega
        cases t4 : (w.take 2 == [117, 110]) with
        | true =>
          have hu : unB w = decide (0 < bitN (w.drop 2)) := by rw [unB, t4, decide_eq_true t2]; rfl
          rw [hu] at hG
          simp only [g1, g2, g3, g5, g5', wl, wl2, o1, o2, v2, v3, n1, List.take_length, Nat.le_refl, m1, c1, c2, t2, t3, t4, go_sem]
          repeat' ((first | apply qa | apply qb | apply qc | apply qd | apply qe | apply qf | apply qg | apply qh | apply qi | apply qj | apply qk) <;> intro hp <;> simp only [hp, g1, g2, g3, g5, g5', wl, wl2, o1, o2, v2, v3, n1, List.take_length, Nat.le_refl, m1, c1, c2, t2, t3, t4, go_sem])
          all_goals exact hG _ (by first | rfl | (symm; assumption) | simp_all)
        | false =>
          have hu : unB w = false := by rw [unB, t4]; simp
          rw [hu] at hG
          simp only [g1, g2, g3, g5, g5', wl, wl2, o1, o2, v2, v3, n1, List.take_length, Nat.le_refl, m1, c1, c2, t2, t3, t4, go_sem]
          repeat' ((first | apply qa | apply qb | apply qc | apply qd | apply qe | apply qf | apply qg | apply qh | apply qi | apply qj | apply qk) <;> intro hp <;> simp only [hp, g1, g2, g3, g5, g5', wl, wl2, o1, o2, v2, v3, n1, List.take_length, Nat.le_refl, m1, c1, c2, t2, t3, t4, go_sem])
          all_goals exact hG _ rfl
      · have hu : unB w = false := by rw [unB, decide_eq_false t2]; rfl
        rw [hu] at hG
        simp only [g1, g2, g3, g5, g5', wl, wl2, o1, o2, v2, v3, n1, List.take_length, Nat.le_refl, m1, c1, c2, t2, go_sem]
        repeat' ((first | apply qa | apply qb | apply qc | apply qd | apply qe | apply qf | apply qg | apply qh | apply qi | apply qj | apply qk) <;> intro hp <;> simp only [hp, g1, g2, g3, g5, g5', wl, wl2, o1, o2, v2, v3, n1, List.take_length, Nat.le_refl, m1, c1, c2, t2, go_sem])
        all_goals exact hG _ rfl
    cases c3 : unB w with
    | true =>
      have c3' := c3
      simp only [unB, Bool.and_eq_true, decide_eq_true_eq] at c3'
      have hk1 : keyOne w = some ⟨3, bitN (w.drop 2), []⟩ := by rw [keyOne, if_neg (by rw [c1]; simp), if_neg c2, if_pos c3]
      have ih' : out.length < 6 → _ := fun h6 => ih (i + 1, out ++ [⟨3, bitN (w.drop 2), []⟩]) ⟨h, by simp; omega, by rw [← he, hd, keysL_one hk1 h6]⟩ (by simp only; omega)
      simp only [List.map_append, List.map_cons, List.map_nil] at ih'
      have bad : ¬ out.length < 6 → readKeys ws = ([], false) := fun h6 => fail (by rw [← he, hd]; exact keysL_full hk1 h6)
      simp only [g1, g2, g3, g5, g5', wl, wl2, o1, o2, v2, v3, n1, List.take_length, Nat.le_refl, m1, c1, c2, c3, c3'.1.1, c3'.2, go_sem]
      repeat' ((first | apply qa | apply qb | apply qc | apply qd | apply qe | apply qf | apply qg | apply qh | apply qi | apply qj | apply qk) <;> intro hp <;> simp only [hp, g1, g2, g3, g5, g5', wl, wl2, o1, o2, v2, v3, n1, List.take_length, Nat.le_refl, m1, c1, c2, c3, c3'.1.1, c3'.2, go_sem])
      all_goals first
        | exact ih' (by omega)
        | (clear ih'; omega)
        | (clear ih'; have e1 := bad (by omega); rw [e1] at hr; simp only [fin_mk, finV, resL, resV1, resIn, endA, listIn, Option.some_or, Option.none_or, oneOrTup, go_sem]; rw [← hr]; rfl)
    | false =>
    have hk1 : keyOne w = none := by rw [keyOne, if_neg (by rw [c1]; simp), if_neg c2, if_neg (by rw [c3]; simp)]
    have e1 := fail (by rw [← he, hd, hd2]; exact keysL_end hk1)
    rw [e1] at hr
    have m4 : ((ws.length : Nat) : Int) ≤ ((i + 1 : Nat) : Int) := by omega
    have dB0 : decB [] = false := by
      cases hq : decB [] with
      | false => rfl
      | true =>
        simp only [decB, Bool.and_eq_true, beq_iff_eq] at hq
        exact absurd hq.2.2 (itoa_ne (Int.le_refl 0))
    have dN0 : decN [] = 0 := by rw [decN, dB0]; rfl
    have r0 : within ((([] : List UInt8).length : Nat) : Int) 1 20 = false := by decide
    cases k1 : (w == [115, 117, 98, 106, 101, 99, 116]) with
    | true =>
      have kk : (w == [116, 101, 120, 116]) = false := by rw [eq_of_beq k1]; decide
      simp only [g1, g2, g3, g5, g5', wl, wl2, o1, o2, v2, v3, n1, List.take_length, Nat.le_refl, m1, c1, c2, c3, k1, kk, m4, z0, go_sem]
      repeat' ((first | apply qa | apply qb | apply qc | apply qd | apply qe | apply qf | apply qg | apply qh | apply qi | apply qj | apply qk) <;> intro hp <;> simp only [hp, g1, g2, g3, g5, g5', wl, wl2, o1, o2, v2, v3, n1, List.take_length, Nat.le_refl, m1, c1, c2, c3, k1, kk, m4, z0, go_sem])
      all_goals (simp only [fin_mk, finV, resL, resV1, resIn, endA, listIn, Option.some_or, Option.none_or, oneOrTup, go_sem]; rw [← hr]; rfl)
    | false =>
    cases k2 : (w == [116, 101, 120, 116]) with
    | true =>
      simp only [g1, g2, g3, g5, g5', wl, wl2, o1, o2, v2, v3, n1, List.take_length, Nat.le_refl, m1, c1, c2, c3, k1, k2, m4, z0, go_sem]
      repeat' ((first | apply qa | apply qb | apply qc | apply qd | apply qe | apply qf | apply qg | apply qh | apply qi | apply qj | apply qk) <;> intro hp <;> simp only [hp, g1, g2, g3, g5, g5', wl, wl2, o1, o2, v2, v3, n1, List.take_length, Nat.le_refl, m1, c1, c2, c3, k1, k2, m4, z0, go_sem])
      all_goals (simp only [fin_mk, finV, resL, resV1, resIn, endA, listIn, Option.some_or, Option.none_or, oneOrTup, go_sem]; rw [← hr]; rfl)
    | false =>
    cases k3 : (w == [117, 105, 100]) with
    | true =>
      simp only [g1, g2, g3, g5, g5', wl, wl2, o1, o2, v2, v3, n1, List.take_length, Nat.le_refl, m1, c1, c2, c3, k1, k2, k3, m4, z0, go_sem]
      repeat' ((first | apply qa | apply qb | apply qc | apply qd | apply qe | apply qf | apply qg | apply qh | apply qi | apply qj | apply qk) <;> intro hp <;> simp only [hp, g1, g2, g3, g5, g5', wl, wl2, o1, o2, v2, v3, n1, List.take_length, Nat.le_refl, m1, c1, c2, c3, k1, k2, k3, m4, z0, go_sem])
      all_goals (simp only [fin_mk, finV, resL, resV1, resIn, endA, listIn, Option.some_or, Option.none_or, oneOrTup, go_sem]; rw [← hr]; rfl)
    | false =>
    cases k4 : (w == [109, 111, 100, 115, 101, 113]) with
    | true =>
      simp only [g1, g2, g3, g5, g5', wl, wl2, o1, o2, v2, v3, n1, List.take_length, Nat.le_refl, m1, c1, c2, c3, k1, k2, k3, k4, m4, z0, dB0, dN0, go_sem]
      repeat' ((first | apply qa | apply qb | apply qc | apply qd | apply qe | apply qf | apply qg | apply qh | apply qi | apply qj | apply qk) <;> intro hp <;> simp only [hp, g1, g2, g3, g5, g5', wl, wl2, o1, o2, v2, v3, n1, List.take_length, Nat.le_refl, m1, c1, c2, c3, k1, k2, k3, k4, m4, z0, dB0, dN0, go_sem])
      all_goals (simp only [fin_mk, finV, resL, resV1, resIn, endA, listIn, Option.some_or, Option.none_or, oneOrTup, go_sem]; rw [← hr]; rfl)
    | false =>
    simp only [g1, g2, g3, g5, g5', wl, wl2, o1, o2, v2, v3, n1, List.take_length, Nat.le_refl, m1, c1, c2, c3, k1, k2, k3, k4, m4, z0, go_sem]
    repeat' ((first | apply qa | apply qb | apply qc | apply qd | apply qe | apply qf | apply qg | apply qh | apply qi | apply qj | apply qk) <;> intro hp <;> simp only [hp, g1, g2, g3, g5, g5', wl, wl2, o1, o2, v2, v3, n1, List.take_length, Nat.le_refl, m1, c1, c2, c3, k1, k2, k3, k4, m4, z0, go_sem])
    all_goals (simp only [fin_mk, finV, resL, resV1, resIn, endA, listIn, Option.some_or, Option.none_or, oneOrTup, go_sem]; rw [← hr]; rfl)
end Go.Proofs.YtimiccneikhkgaaGreatDoor.L

namespace Go.Proofs.YtimiccneikhkgaaGreatDoor.L
open Go Go.VM
set_option maxRecDepth 100000
set_option maxHeartbeats 4000000
set_option linter.unusedSimpArgs false
set_option linter.unusedVariables false
def wK0 : List (List UInt8) := [[97, 108, 108], [115, 101, 101, 110], [117, 110, 115, 101, 101, 110], [100, 101, 108, 101, 116, 101, 100], [117, 110, 100, 101, 108, 101, 116, 101, 100], [102, 108, 97, 103, 103, 101, 100], [117, 110, 100, 114, 97, 102, 116]]
def wK1 : List (List UInt8) := [[104, 101, 108, 108, 111], [72, 69, 76, 76, 79], [111], [110, 111, 110, 101]]
def wK2 : List (List UInt8) := [[98, 111, 100, 121], [65, 110, 110], [120]]
def wK3 : List (List UInt8) := [[49, 58, 51], [50], [42], [52, 58, 42]]
def wK4 : List (List UInt8) := [[48], [52], [57]]
def wK5 : List (List UInt8) := [[115, 101, 101, 110], [117, 110, 102, 108, 97, 103, 103, 101, 100]]
def wAdd (c : Cur) (k : Int) : List (List UInt8) × Cur :=
  if k = 0 then ([(pickO c wK0).1], (pickO c wK0).2) else
  if k = 1 then ([[115, 117, 98, 106, 101, 99, 116], (pickO c wK1).1], (pickO c wK1).2) else
  if k = 2 then ([[116, 101, 120, 116], (pickO c wK2).1], (pickO c wK2).2) else
  if k = 3 then ([[117, 105, 100], (pickO c wK3).1], (pickO c wK3).2) else
  if k = 4 then ([[109, 111, 100, 115, 101, 113], (pickO c wK4).1], (pickO c wK4).2) else
  ([(pickO c wK5).1], (pickO c wK5).2)
def wordSmall (l : List (List UInt8)) : Prop := ∀ x ∈ l, x.length ≤ 20
theorem wAdd_in {c : Cur} {k : Int} (h : curI c) : (wAdd c k).1.length ≤ 2 ∧ wordSmall (wAdd c k).1 ∧ curI (wAdd c k).2 := by
  have h0 := pickO_in (l := wK0) h (by decide)
  have l0 : (pickO c wK0).1.length ≤ 20 := by
    have : ∀ x ∈ wK0, x.length ≤ 20 := by decide
    exact this _ h0.2
  have h1 := pickO_in (l := wK1) h (by decide)
  have l1 : (pickO c wK1).1.length ≤ 20 := by
    have : ∀ x ∈ wK1, x.length ≤ 20 := by decide
    exact this _ h1.2
  have h2 := pickO_in (l := wK2) h (by decide)
  have l2 : (pickO c wK2).1.length ≤ 20 := by
    have : ∀ x ∈ wK2, x.length ≤ 20 := by decide
    exact this _ h2.2
  have h3 := pickO_in (l := wK3) h (by decide)
  have l3 : (pickO c wK3).1.length ≤ 20 := by
    have : ∀ x ∈ wK3, x.length ≤ 20 := by decide
    exact this _ h3.2
  have h4 := pickO_in (l := wK4) h (by decide)
  have l4 : (pickO c wK4).1.length ≤ 20 := by
    have : ∀ x ∈ wK4, x.length ≤ 20 := by decide
    exact this _ h4.2
  have h5 := pickO_in (l := wK5) h (by decide)
  have l5 : (pickO c wK5).1.length ≤ 20 := by
    have : ∀ x ∈ wK5, x.length ≤ 20 := by decide
    exact this _ h5.2
  unfold wAdd
  repeat' split
  · exact ⟨by simp, fun x hx => by simp only [List.mem_singleton] at hx; subst hx; exact l0, h0.1⟩
  · exact ⟨by simp, fun x hx => by simp only [List.mem_cons, List.not_mem_nil, or_false] at hx; (rcases hx with rfl | rfl <;> first | exact l1 | exact (by decide)), h1.1⟩
  · exact ⟨by simp, fun x hx => by simp only [List.mem_cons, List.not_mem_nil, or_false] at hx; (rcases hx with rfl | rfl <;> first | exact l2 | exact (by decide)), h2.1⟩
  · exact ⟨by simp, fun x hx => by simp only [List.mem_cons, List.not_mem_nil, or_false] at hx; (rcases hx with rfl | rfl <;> first | exact l3 | exact (by decide)), h3.1⟩
  · exact ⟨by simp, fun x hx => by simp only [List.mem_cons, List.not_mem_nil, or_false] at hx; (rcases hx with rfl | rfl <;> first | exact l4 | exact (by decide)), h4.1⟩
  · exact ⟨by simp, fun x hx => by simp only [List.mem_singleton] at hx; subst hx; exact l5, h5.1⟩
def wordsL : Nat → Nat → Cur → List (List UInt8) → List (List UInt8) × Cur
  | 0, _, c, a => (a, c)
  | f + 1, i, c, a => if (i : Int) < 1 + (belO c 3).1 then wordsL f (i + 1) (wAdd (belO (belO c 3).2 6).2 (belO (belO c 3).2 6).1).2 (a ++ (wAdd (belO (belO c 3).2 6).2 (belO (belO c 3).2 6).1).1) else (a, (belO c 3).2)
theorem wordsL_in : ∀ (f i : Nat) {c : Cur} {a : List (List UInt8)}, curI c → a.length ≤ 2 * i → wordSmall a → (wordsL f i c a).1.length ≤ 2 * (i + f) ∧ wordSmall (wordsL f i c a).1 ∧ curI (wordsL f i c a).2
  | 0, i, c, a, hc, ha, hs => ⟨by simp only [wordsL]; omega, hs, hc⟩
  | f + 1, i, c, a, hc, ha, hs => by
    have h1 := belO_in (n := 3) hc
    have h2 := belO_in (n := 6) h1.1
    have h3 := wAdd_in (k := (belO (belO c 3).2 6).1) h2.1
    rw [wordsL]
    split
    · have := wordsL_in f (i + 1) (a := a ++ (wAdd (belO (belO c 3).2 6).2 (belO (belO c 3).2 6).1).1) h3.2.2 (by rw [List.length_append]; omega) (fun x hx => by
        rcases List.mem_append.1 hx with hx | hx
        · exact hs x hx
        · exact h3.2.1 x hx)
      exact ⟨by omega, this.2⟩
    · exact ⟨by simp only; omega, hs, h1.1⟩
open Classical in
noncomputable def spWords : VM.Spec := { modes := [.ptr], run := fun | [.rptr (c')] => (Cur.dec c').bind fun c => if curI c then some (.lst 1 (((wordsL 4 0 c []).1).map eStr), [.rptr (Cur.enc ((wordsL 4 0 c []).2))]) else none | _ => none, need := [] }
attribute [go_sem] spWords
theorem spWords_in {ins : List V} {r : V} {outs : List V} (h : spWords.run ins = some (r, outs)) : ∃ (c : Cur), ins = [.rptr (Cur.enc c)] ∧ (curI c) ∧ .lst 1 (((wordsL 4 0 c []).1).map eStr) = r ∧ outs = [.rptr (Cur.enc ((wordsL 4 0 c []).2))] := by
  unfold spWords at h
  simp only at h
  split at h
  · rename_i c'
    simp only [Option.bind_eq_some_iff] at h
    obtain ⟨c, h_c, h⟩ := h
    split at h
    case isFalse => cases h
    rename_i hc
    simp only [Option.some.injEq, Prod.mk.injEq] at h
    obtain ⟨h1, h2⟩ := h
    have h_c := Cur.dec_some h_c
    subst h_c
    exact ⟨c, rfl, hc, h1, h2.symm⟩
  · cases h
def T_spec_l12Words : Hints := ⟨fun _ => none, fun i => if i = 3 then some [0, 3, 4] else none, fun i => if i = 0 then some [0] else if i = 1 then some [0, 3] else if i = 2 then some [0, 3, 4] else if i = 3 then some [0, 3, 4, 10] else if i = 5 then some [0, 3, 4, 14] else if i = 7 then some [0, 3, 4, 14, 21] else if i = 8 then some [0, 3, 4] else if i = 9 then some [0, 3, 4, 14, 29] else if i = 10 then some [0, 3, 4] else if i = 11 then some [0, 3, 4, 14, 37] else if i = 12 then some [0, 3, 4] else if i = 13 then some [0, 3, 4, 14, 45] else if i = 14 then some [0, 3, 4] else if i = 15 then some [0, 3, 4, 53] else if i = 16 then some [0, 3, 4] else if i = 6 then some [0, 3, 4] else if i = 4 then some [0, 3, 4] else if i = 17 then some [2] else none, fun _ => none⟩
noncomputable def Phi_spec_l12Words : Tab := fun f => if f = 46 then some spBelow else if f = 119 then some spPick else none
attribute [go_sem] T_spec_l12Words Phi_spec_l12Words
theorem phi_spec_l12Words : ∀ f sp, Phi_spec_l12Words f = some sp → FnOk Tryz.prog f sp ∧ ∀ n ∈ sp.need, n ∈ ([] : List String) := by
  intro f sp h
  unfold Phi_spec_l12Words at h
  by_cases e : f = 46
  · rw [if_pos e] at h; cases h; rw [e]; exact ⟨ok_spec_l01Below, (fun n (h : n ∈ ([] : List String)) => (nomatch h))⟩
  rw [if_neg e] at h
  by_cases e : f = 119
  · rw [if_pos e] at h; cases h; rw [e]; exact ⟨ok_spec_l01Pick, (fun n (h : n ∈ ([] : List String)) => (nomatch h))⟩
  rw [if_neg e] at h
  cases h
theorem ok_spec_l12Words : FnOk Tryz.prog 69 spWords := by
  refine fn_ok (Φ := Phi_spec_l12Words) (T := T_spec_l12Words) phi_spec_l12Words mixed Tryz.func69 rfl rfl rfl (by decide) ?_
  intro ins r outs hr hl
  clear hl
  have hs := spWords_in hr
  clear hr
  obtain ⟨c, rfl, hc, hr, rfl⟩ := hs
  simp only [spWords, Tryz.f69, Go.VM.initS]
  obtain ⟨⟨RS, RC⟩, hR⟩ : ∃ R, wordsL 4 0 c [] = R := ⟨_, rfl⟩
  rw [hR] at hr
  simp only [hR, go_sem]
  repeat' ((first | apply qa | apply qb | apply qc | apply qd | apply qe | apply qf | apply qg | apply qh | apply qi | apply qj | apply qk) <;> intro hp <;> simp only [hp, hR, go_sem])
  refine loop_go (fun p : Nat × Cur × List (List UInt8) => [(4, .int .i64 (p.1 : Int))]) (fun p => [(0, ⟨.box, 3, [p.2.1.enc]⟩), (1, ⟨.arr, 1, p.2.2.map eStr⟩)]) (fun p => 4 - p.1) (fun p => p.1 ≤ 3 ∧ curI p.2.1 ∧ p.2.2.length ≤ 2 * p.1 ∧ wordsL (4 - p.1) p.1 p.2.1 p.2.2 = (RS, RC)) (0, c, []) ⟨by omega, hc, by simp, hR⟩ rfl rfl ?_
  rintro ⟨i, d, a⟩ ⟨hi, hd, hl, he⟩ ih
  simp only at hi hd hl he ih
  have h1 := belO_in (n := 3) hd
  rw [show 4 - i = (4 - (i + 1)) + 1 by omega, wordsL] at he
  obtain ⟨⟨v1, c1⟩, e1⟩ : ∃ x, belO d 3 = x := ⟨_, rfl⟩
  rw [e1] at h1 he
  simp only at h1 he
  have hv := h1.2.2 (by decide)
  have w1 : IntKind.i64.wrap (1 + v1) = 1 + v1 := wrap64 (by omega) (by omega)
  by_cases g1 : (i : Int) < 1 + v1
  · rw [if_pos g1] at he
    have h2 := belO_in (n := 6) h1.1
    obtain ⟨⟨k, c2⟩, e2⟩ : ∃ x, belO c1 6 = x := ⟨_, rfl⟩
    rw [e2] at h2 he
    simp only at h2 he
    have hk := h2.2.2 (by decide)
    have h3 := wAdd_in (k := k) h2.1
    have g5 : IntKind.i64.wrap ((i : Int) + 1) = ((i + 1 : Nat) : Int) := wrap_succ (n := 10) (by omega) (by omega)
    have ih' := ih (i + 1, (wAdd c2 k).2, a ++ (wAdd c2 k).1) ⟨by omega, h3.2.2, by rw [List.length_append]; omega, he⟩ (by simp only; omega)
    simp only at ih'
    have q1 : a.length + 1 ≤ 9223372036854775807 := by omega
    have q2 : a.length ≤ 9223372036854775806 := by omega
    have q3 : a.length ≤ 9223372036854775805 := by omega
    have q4 : (a.length + 1) * 16 ≤ 140737488355328 := by omega
    have q5 : (a.length + 1 + 1) * 16 ≤ 140737488355328 := by omega
    have q6 : a.length + 1 + 1 ≤ 9223372036854775807 := by omega
    have hk' : k = 0 ∨ k = 1 ∨ k = 2 ∨ k = 3 ∨ k = 4 ∨ k = 5 := by omega
    rcases hk' with rfl | rfl | rfl | rfl | rfl | rfl
    · obtain ⟨⟨x, d2⟩, e3⟩ : ∃ y, pickO c2 wK0 = y := ⟨_, rfl⟩
      have e3' : pickO c2 [[97, 108, 108], [115, 101, 101, 110], [117, 110, 115, 101, 101, 110], [100, 101, 108, 101, 116, 101, 100], [117, 110, 100, 101, 108, 101, 116, 101, 100], [102, 108, 97, 103, 103, 101, 100], [117, 110, 100, 114, 97, 102, 116]] = (x, d2) := e3
      have hst : wAdd c2 0 = ([x], d2) := by simp only [wAdd, Int.reduceEq, if_true, if_false, e3]
      rw [hst] at ih'
      simp only [List.map_append, List.map_cons, List.map_nil] at ih'
      simp only [hd, e1, h1.1, g1, w1, g5, e2, h2.1, e3', q1, q2, q3, q4, q5, q6, go_sem]
      repeat' ((first | apply qa | apply qb | apply qc | apply qd | apply qe | apply qf | apply qg | apply qh | apply qi | apply qj | apply qk) <;> intro hp <;> simp only [hp, hd, e1, h1.1, g1, w1, g5, e2, h2.1, e3', q1, q2, q3, q4, q5, q6, go_sem])
      all_goals first | exact ih' | (clear ih'; omega)
    · obtain ⟨⟨x, d2⟩, e3⟩ : ∃ y, pickO c2 wK1 = y := ⟨_, rfl⟩
      have e3' : pickO c2 [[104, 101, 108, 108, 111], [72, 69, 76, 76, 79], [111], [110, 111, 110, 101]] = (x, d2) := e3
      have hst : wAdd c2 1 = ([[115, 117, 98, 106, 101, 99, 116], x], d2) := by simp only [wAdd, Int.reduceEq, if_true, if_false, e3]
      rw [hst] at ih'
      simp only [List.map_append, List.map_cons, List.map_nil] at ih'
      simp only [hd, e1, h1.1, g1, w1, g5, e2, h2.1, e3', q1, q2, q3, q4, q5, q6, go_sem]
      repeat' ((first | apply qa | apply qb | apply qc | apply qd | apply qe | apply qf | apply qg | apply qh | apply qi | apply qj | apply qk) <;> intro hp <;> simp only [hp, hd, e1, h1.1, g1, w1, g5, e2, h2.1, e3', q1, q2, q3, q4, q5, q6, go_sem])
      all_goals first | exact ih' | (clear ih'; omega)
    · obtain ⟨⟨x, d2⟩, e3⟩ : ∃ y, pickO c2 wK2 = y := ⟨_, rfl⟩
      have e3' : pickO c2 [[98, 111, 100, 121], [65, 110, 110], [120]] = (x, d2) := e3
      have hst : wAdd c2 2 = ([[116, 101, 120, 116], x], d2) := by simp only [wAdd, Int.reduceEq, if_true, if_false, e3]
      rw [hst] at ih'
      simp only [List.map_append, List.map_cons, List.map_nil] at ih'
      simp only [hd, e1, h1.1, g1, w1, g5, e2, h2.1, e3', q1, q2, q3, q4, q5, q6, go_sem]
      repeat' ((first | apply qa | apply qb | apply qc | apply qd | apply qe | apply qf | apply qg | apply qh | apply qi | apply qj | apply qk) <;> intro hp <;> simp only [hp, hd, e1, h1.1, g1, w1, g5, e2, h2.1, e3', q1, q2, q3, q4, q5, q6, go_sem])
      all_goals first | exact ih' | (clear ih'; omega)
    · obtain ⟨⟨x, d2⟩, e3⟩ : ∃ y, pickO c2 wK3 = y := ⟨_, rfl⟩
      have e3' : pickO c2 [[49, 58, 51], [50], [42], [52, 58, 42]] = (x, d2) := e3
      have hst : wAdd c2 3 = ([[117, 105, 100], x], d2) := by simp only [wAdd, Int.reduceEq, if_true, if_false, e3]
      rw [hst] at ih'
      simp only [List.map_append, List.map_cons, List.map_nil] at ih'
      simp only [hd, e1, h1.1, g1, w1, g5, e2, h2.1, e3', q1, q2, q3, q4, q5, q6, go_sem]
      repeat' ((first | apply qa | apply qb | apply qc | apply qd | apply qe | apply qf | apply qg | apply qh | apply qi | apply qj | apply qk) <;> intro hp <;> simp only [hp, hd, e1, h1.1, g1, w1, g5, e2, h2.1, e3', q1, q2, q3, q4, q5, q6, go_sem])
      all_goals first | exact ih' | (clear ih'; omega)
    · obtain ⟨⟨x, d2⟩, e3⟩ : ∃ y, pickO c2 wK4 = y := ⟨_, rfl⟩
      have e3' : pickO c2 [[48], [52], [57]] = (x, d2) := e3
      have hst : wAdd c2 4 = ([[109, 111, 100, 115, 101, 113], x], d2) := by simp only [wAdd, Int.reduceEq, if_true, if_false, e3]
      rw [hst] at ih'
      simp only [List.map_append, List.map_cons, List.map_nil] at ih'
      simp only [hd, e1, h1.1, g1, w1, g5, e2, h2.1, e3', q1, q2, q3, q4, q5, q6, go_sem]
      repeat' ((first | apply qa | apply qb | apply qc | apply qd | apply qe | apply qf | apply qg | apply qh | apply qi | apply qj | apply qk) <;> intro hp <;> simp only [hp, hd, e1, h1.1, g1, w1, g5, e2, h2.1, e3', q1, q2, q3, q4, q5, q6, go_sem])
      all_goals first | exact ih' | (clear ih'; omega)
    · obtain ⟨⟨x, d2⟩, e3⟩ : ∃ y, pickO c2 wK5 = y := ⟨_, rfl⟩
      have e3' : pickO c2 [[115, 101, 101, 110], [117, 110, 102, 108, 97, 103, 103, 101, 100]] = (x, d2) := e3
      have hst : wAdd c2 5 = ([x], d2) := by simp only [wAdd, Int.reduceEq, if_true, if_false, e3]
      rw [hst] at ih'
      simp only [List.map_append, List.map_cons, List.map_nil] at ih'
      simp only [hd, e1, h1.1, g1, w1, g5, e2, h2.1, e3', q1, q2, q3, q4, q5, q6, go_sem]
      repeat' ((first | apply qa | apply qb | apply qc | apply qd | apply qe | apply qf | apply qg | apply qh | apply qi | apply qj | apply qk) <;> intro hp <;> simp only [hp, hd, e1, h1.1, g1, w1, g5, e2, h2.1, e3', q1, q2, q3, q4, q5, q6, go_sem])
      all_goals first | exact ih' | (clear ih'; omega)
  · rw [if_neg g1] at he
    simp only [Prod.mk.injEq] at he
    obtain ⟨rfl, rfl⟩ := he
    simp only [hd, e1, h1.1, g1, w1, go_sem]
    repeat' ((first | apply qa | apply qb | apply qc | apply qd | apply qe | apply qf | apply qg | apply qh | apply qi | apply qj | apply qk) <;> intro hp <;> simp only [hp, hd, e1, h1.1, g1, w1, go_sem])
    simp only [fin_mk, finV, resL, resV1, resIn, endA, listIn, Option.some_or, Option.none_or, oneOrTup, go_sem]
    rw [← hr]
def drawKeys (code : List Int) : List Key := (readKeys (wordsL 4 0 (cur0 code) []).1).1
theorem drawKeys_in {code : List Int} (h : code.length ≤ 4194304) : (drawKeys code).length ≤ 6 ∧ ∀ k ∈ drawKeys code, keyFits 20 k :=
  readKeys_in (wordsL_in 4 0 (a := []) (cur0_in h) (by simp) (fun x hx => by cases hx)).2.1
open Classical in
noncomputable def spDrawKeys : VM.Spec := { modes := [.rd], run := fun | [.lst 1 code'] => (decL dU8 code').bind fun code => if code.length ≤ 4194304 then some (.lst 3 ((drawKeys code).map Key.enc), []) else none | _ => none, need := ["internal/bytealg.MaxLen"] }
attribute [go_sem] spDrawKeys
theorem spDrawKeys_in {ins : List V} {r : V} {outs : List V} (h : spDrawKeys.run ins = some (r, outs)) : ∃ (code : (List Int)), ins = [.lst 1 ((code).map eU8)] ∧ (code.length ≤ 4194304) ∧ .lst 3 ((drawKeys code).map Key.enc) = r ∧ outs = [] := by
  unfold spDrawKeys at h
  simp only at h
  split at h
  · rename_i code'
    simp only [Option.bind_eq_some_iff] at h
    obtain ⟨code, h_code, h⟩ := h
    split at h
    case isFalse => cases h
    rename_i hc
    simp only [Option.some.injEq, Prod.mk.injEq] at h
    obtain ⟨h1, h2⟩ := h
    have h_code := decL_some (fun _ _ h => dU8_some h) h_code
    subst h_code
    exact ⟨code, rfl, hc, h1, h2.symm⟩
  · cases h
def T_spec_DrawKeys : Hints := ⟨fun _ => none, fun _ => none, fun i => if i = 0 then some [0] else if i = 1 then some [3] else if i = 2 then some [2] else none, fun _ => none⟩
noncomputable def Phi_spec_DrawKeys : Tab := fun f => if f = 38 then some spNew else if f = 69 then some spWords else if f = 68 then some spReadKeys else none
attribute [go_sem] T_spec_DrawKeys Phi_spec_DrawKeys
theorem phi_spec_DrawKeys : ∀ f sp, Phi_spec_DrawKeys f = some sp → FnOk Tryz.prog f sp ∧ ∀ n ∈ sp.need, n ∈ (["internal/bytealg.MaxLen"] : List String) := by
  intro f sp h
  unfold Phi_spec_DrawKeys at h
  by_cases e : f = 38
  · rw [if_pos e] at h; cases h; rw [e]; exact ⟨ok_spec_l01New, (fun n (h : n ∈ ([] : List String)) => (nomatch h))⟩
  rw [if_neg e] at h
  by_cases e : f = 69
  · rw [if_pos e] at h; cases h; rw [e]; exact ⟨ok_spec_l12Words, (fun n (h : n ∈ ([] : List String)) => (nomatch h))⟩
  rw [if_neg e] at h
  by_cases e : f = 68
  · rw [if_pos e] at h; cases h; rw [e]; exact ⟨ok_spec_ReadKeys, (fun n (h : n ∈ (["internal/bytealg.MaxLen"] : List String)) => by simp only [List.mem_cons, List.not_mem_nil, or_false] at h; rcases h with rfl <;> simp)⟩
  rw [if_neg e] at h
  cases h
theorem ok_spec_DrawKeys : FnOk Tryz.prog 16 spDrawKeys := by
  refine fn_ok (Φ := Phi_spec_DrawKeys) (T := T_spec_DrawKeys) phi_spec_DrawKeys mixed Tryz.func16 rfl rfl rfl (by decide) ?_
  intro ins r outs hr hl
  clear hl
  have hs := spDrawKeys_in hr
  clear hr
  obtain ⟨code, rfl, hc, hr, rfl⟩ := hs
  simp only [spDrawKeys, Tryz.f16, Go.VM.initS]
  have i0 := cur0_in hc
  have iw := wordsL_in 4 0 (a := []) i0 (by simp) (fun x hx => by cases hx)
  have lw : (wordsL 4 0 (cur0 code) []).1.length ≤ 4194304 := by omega
  have lw2 : ∀ w ∈ (wordsL 4 0 (cur0 code) []).1, w.length ≤ 4194304 := fun w hw => by have := iw.2.1 w hw; omega
  have lw3 := eq_true lw2
  simp only [hc, i0, lw, lw3, go_sem]
  repeat' ((first | apply qa | apply qb | apply qc | apply qd | apply qe | apply qf | apply qg | apply qh | apply qi | apply qj | apply qk) <;> intro hp <;> simp only [hp, hc, i0, lw, lw3, go_sem])
  simp only [fin_mk, finV, resL, resV1, resIn, endA, listIn, Option.some_or, Option.none_or, oneOrTup, go_sem]
  rw [← hr]
  rfl
end Go.Proofs.YtimiccneikhkgaaGreatDoor.L

