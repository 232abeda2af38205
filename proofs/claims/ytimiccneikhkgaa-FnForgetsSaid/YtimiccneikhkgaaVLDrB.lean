/- Drawn boxes. -/
import Derived.Test.YtimiccneikhkgaaVLDr2
import Derived.Test.YtimiccneikhkgaaVLDr6
import Derived.Test.YtimiccneikhkgaaVLH
import Derived.Test.YtimiccneikhkgaaVLSF
import Derived.Test.YtimiccneikhkgaaVLFo
namespace Go.Proofs.Ytimiccneikhkgaa.L
open Go Go.VM
set_option maxRecDepth 100000
set_option maxHeartbeats 4000000
set_option linter.unusedSimpArgs false
set_option linter.unusedVariables false
def boxA (c : Cur) (b : Box) : Box × Cur := (addMail b (belO c 32).1 (mailO (belO c 32).2).1, (mailO (belO c 32).2).2)
def boxB (c : Cur) (b : Box) : Box × Cur := (setFlags b (drawO c).1 (1 + (belO (drawO c).2 3).1) (belO (belO (drawO c).2 3).2 32).1 (-1), (belO (belO (drawO c).2 3).2 32).2)
def boxC (c : Cur) (b : Box) : Box × Cur := (expunge b (drawO c).1, (drawO c).2)
def boxD (c : Cur) (b : Box) : Box × Cur := if ((belO c 3).1 == 0) = true then (forgetTombs b (belO (belO c 3).2 (b.Mod + 1)).1, (belO (belO c 3).2 (b.Mod + 1)).2) else (b, (belO c 3).2)
def boxStep (c : Cur) (b : Box) : Box × Cur :=
  if (belO c 6).1 ≤ 2 then boxA (belO c 6).2 b else if (belO c 6).1 = 3 then boxB (belO c 6).2 b else if (belO c 6).1 = 4 then boxC (belO c 6).2 b else boxD (belO c 6).2 b
theorem addMail_ok {b : Box} {f : Int} {t : List UInt8} (h : boxOk b = true) : boxOk (addMail b f t) = true := by
  unfold addMail
  split
  · rename_i hg; simp only [addGood, Bool.and_eq_true] at hg; exact hg.2
  · exact h
theorem setFlags_ok {b : Box} {s : List Range} {w f n : Int} (h : boxOk b = true) : boxOk (setFlags b s w f n) = true := by
  unfold setFlags
  split
  · rename_i hg; simp only [setGood, Bool.and_eq_true] at hg; exact hg.2
  · exact h
theorem expunge_ok {b : Box} {s : List Range} (h : boxOk b = true) : boxOk (expunge b s) = true := by
  unfold expunge
  split
  · rename_i hg; simp only [exGood, Bool.and_eq_true] at hg; exact hg.2
  · exact h
theorem box_le {b : Box} (h : boxOk b = true) : b.le 4194304 := by
  obtain ⟨h1, h2, h3, h4, h5⟩ := boxOk_parts h
  exact ⟨by show b.Name.length ≤ _; omega, ⟨by omega, fun m hm => by have := h5 m hm; show m.Text.length ≤ _; omega⟩, ⟨by omega, fun _ _ => trivial⟩⟩
theorem boxStep_in {c : Cur} {b : Box} (hc : curI c) (hb : boxOk b = true) : boxOk (boxStep c b).1 = true ∧ curI (boxStep c b).2 := by
  have h1 := belO_in (n := 6) hc
  have a1 := belO_in (n := 32) h1.1
  have a2 := mailO_len a1.1
  have d1 := drawO_in h1.1
  have d2 := belO_in (n := 3) d1.2
  have d3 := belO_in (n := 32) d2.1
  have f1 := belO_in (n := 3) h1.1
  have f2 := belO_in (n := b.Mod + 1) f1.1
  unfold boxStep
  split
  · exact ⟨addMail_ok hb, a2.2⟩
  · split
    · exact ⟨setFlags_ok hb, d3.1⟩
    · split
      · exact ⟨expunge_ok hb, d1.2⟩
      · unfold boxD
        split
        · exact ⟨forgetTombs_ok hb, f2.1⟩
        · exact ⟨hb, f1.1⟩
def boxL : Nat → Nat → Cur → Box → Box × Cur
  | 0, _, c, b => (b, c)
  | f + 1, i, c, b => if (i : Int) < 2 + (belO c 16).1 then boxL f (i + 1) (boxStep (belO c 16).2 b).2 (boxStep (belO c 16).2 b).1 else (b, (belO c 16).2)
theorem boxL_in : ∀ (f i : Nat) {c : Cur} {b : Box}, curI c → boxOk b = true → boxOk (boxL f i c b).1 = true ∧ curI (boxL f i c b).2
  | 0, i, c, b, hc, hb => ⟨hb, hc⟩
  | f + 1, i, c, b, hc, hb => by
    have h1 := belO_in (n := 16) hc
    have h2 := boxStep_in h1.1 hb
    rw [boxL]
    split
    · exact boxL_in f (i + 1) h2.2 h2.1
    · exact ⟨hb, h1.1⟩
def boxNames : List (List UInt8) := [[105, 110, 98, 111, 120], [119, 111, 114, 107], [111, 108, 100]]
def box8 (c : Cur) : Box × Cur := boxL 18 0 (belO (pickO c boxNames).2 5).2 (boxNew (pickO c boxNames).1 (1 + (belO (pickO c boxNames).2 5).1))
theorem boxFresh_ok {n : List UInt8} {v : Int} (hn : n ∈ boxNames) (h0 : 0 ≤ v) (h1 : v < 5) : boxOk (boxFresh n (1 + v)) = true ∧ boxNew n (1 + v) = boxFresh n (1 + v) := by
  have k : boxOk (boxFresh n (1 + v)) = true := by
    obtain ⟨m, rfl⟩ : ∃ m : Nat, v = m := ⟨v.toNat, by omega⟩
    have : ∀ n ∈ boxNames, ∀ m : Fin 5, boxOk (boxFresh n (1 + (m.val : Int))) = true := by decide +kernel
    exact this n hn ⟨m, by omega⟩
  exact ⟨k, by rw [boxNew, if_pos k]⟩
theorem box8_in {c : Cur} (h : curI c) : boxOk (box8 c).1 = true ∧ curI (box8 c).2 := by
  have h1 := pickO_in (l := boxNames) h (by decide)
  have h2 := belO_in (n := 5) h1.1
  have h3 := boxFresh_ok h1.2 h2.2.1 (h2.2.2 (by decide))
  exact boxL_in 18 0 h2.1 (by rw [h3.2]; exact h3.1)
open Classical in
noncomputable def spBox8 : VM.Spec := { modes := [.ptr], run := fun | [.rptr (c')] => (Cur.dec c').bind fun c => if curI c then some (Box.enc ((box8 c).1), [.rptr (Cur.enc ((box8 c).2))]) else none | _ => none, need := [] }
attribute [go_sem] spBox8
theorem spBox8_in {ins : List V} {r : V} {outs : List V} (h : spBox8.run ins = some (r, outs)) : ∃ (c : Cur), ins = [.rptr (Cur.enc c)] ∧ (curI c) ∧ Box.enc ((box8 c).1) = r ∧ outs = [.rptr (Cur.enc ((box8 c).2))] := by
  unfold spBox8 at h
  simp only at h
  split at h
  · rename_i c'
    simp only [Option.bind_eq_some_iff] at h
    obtain ⟨c, h_c, h⟩ := h
    split at h
    case isFalse => cases h
    rename_i hc
    simp only [Option.some.injEq, Prod.mk.injEq] at h
    obtain ⟨h1, h2⟩ := h
    have h_c := Cur.dec_some h_c
    subst h_c
    exact ⟨c, rfl, hc, h1, h2.symm⟩
  · cases h
def T_spec_l08Box : Hints := ⟨fun i => if i = 11 then some [(0, 2), (0, 4)] else if i = 13 then some [(0, 2), (0, 4), (0, 7)] else if i = 15 then some [(0, 2)] else if i = 7 then some [(0, 5)] else none, fun i => if i = 3 then some [0, 2, 3, 5] else none, fun i => if i = 0 then some [0, 2] else if i = 1 then some [0, 2, 3] else if i = 2 then some [0, 2, 3, 5] else if i = 3 then some [0, 2, 3, 5, 20] else if i = 5 then some [0, 2, 3, 5, 24] else if i = 8 then some [0, 2, 3, 5, 24, 34] else if i = 9 then some [0, 2, 3, 5, 24, 34] else if i = 10 then some [0, 2, 3, 5, 24, 34] else if i = 11 then some [0, 2, 3, 5] else if i = 12 then some [0, 2, 3, 5, 24, 47] else if i = 13 then some [0, 2, 3, 5] else if i = 14 then some [0, 2, 3, 5, 62] else if i = 15 then some [0, 2, 3, 5] else if i = 6 then some [0, 2, 3, 5, 26] else if i = 7 then some [0, 2, 3, 5] else if i = 4 then some [0, 2, 3, 5] else if i = 16 then some [2] else none, fun _ => none⟩
noncomputable def Phi_spec_l08Box : Tab := fun f => if f = 30 then some spPick else if f = 16 then some spBelow else if f = 29 then some spBoxNew else if f = 31 then some spAddMail else if f = 32 then some spMail else if f = 33 then some spSetFlags else if f = 34 then some spDraw else if f = 35 then some spExpunge else if f = 36 then some spOnce else if f = 37 then some spForgetTombs else none
attribute [go_sem] T_spec_l08Box Phi_spec_l08Box
theorem phi_spec_l08Box : ∀ f sp, Phi_spec_l08Box f = some sp → FnOk Try.prog f sp ∧ ∀ n ∈ sp.need, n ∈ ([] : List String) := by
  intro f sp h
  unfold Phi_spec_l08Box at h
  by_cases e : f = 30
  · rw [if_pos e] at h; cases h; rw [e]; exact ⟨ok_spec_l01Pick, (fun n (h : n ∈ ([] : List String)) => (nomatch h))⟩
  rw [if_neg e] at h
  by_cases e : f = 16
  · rw [if_pos e] at h; cases h; rw [e]; exact ⟨ok_spec_l01Below, (fun n (h : n ∈ ([] : List String)) => (nomatch h))⟩
  rw [if_neg e] at h
  by_cases e : f = 29
  · rw [if_pos e] at h; cases h; rw [e]; exact ⟨ok_spec_BoxNew, (fun n (h : n ∈ ([] : List String)) => (nomatch h))⟩
  rw [if_neg e] at h
  by_cases e : f = 31
  · rw [if_pos e] at h; cases h; rw [e]; exact ⟨ok_spec_AddMail, (fun n (h : n ∈ ([] : List String)) => (nomatch h))⟩
  rw [if_neg e] at h
  by_cases e : f = 32
  · rw [if_pos e] at h; cases h; rw [e]; exact ⟨ok_spec_l07Mail, (fun n (h : n ∈ ([] : List String)) => (nomatch h))⟩
  rw [if_neg e] at h
  by_cases e : f = 33
  · rw [if_pos e] at h; cases h; rw [e]; exact ⟨ok_spec_SetFlags, (fun n (h : n ∈ ([] : List String)) => (nomatch h))⟩
  rw [if_neg e] at h
  by_cases e : f = 34
  · rw [if_pos e] at h; cases h; rw [e]; exact ⟨ok_spec_l05Draw, (fun n (h : n ∈ ([] : List String)) => (nomatch h))⟩
  rw [if_neg e] at h
  by_cases e : f = 35
  · rw [if_pos e] at h; cases h; rw [e]; exact ⟨ok_spec_Expunge, (fun n (h : n ∈ ([] : List String)) => (nomatch h))⟩
  rw [if_neg e] at h
  by_cases e : f = 36
  · rw [if_pos e] at h; cases h; rw [e]; exact ⟨ok_spec_l01Once, (fun n (h : n ∈ ([] : List String)) => (nomatch h))⟩
  rw [if_neg e] at h
  by_cases e : f = 37
  · rw [if_pos e] at h; cases h; rw [e]; exact ⟨ok_spec_ForgetTombs, (fun n (h : n ∈ ([] : List String)) => (nomatch h))⟩
  rw [if_neg e] at h
  cases h
theorem ok_spec_l08Box : FnOk Try.prog 13 spBox8 := by
  refine fn_ok (Φ := Phi_spec_l08Box) (T := T_spec_l08Box) phi_spec_l08Box mixed Try.func13 rfl rfl rfl (by decide) ?_
  intro ins r outs hr hl
  clear hl
  have hs := spBox8_in hr
  clear hr
  obtain ⟨c, rfl, hc, hr, rfl⟩ := hs
  simp only [spBox8, Try.f13, Go.VM.initS]
  have h1 := pickO_in (l := boxNames) hc (by decide)
  obtain ⟨⟨nm, c1⟩, e1⟩ : ∃ x, pickO c boxNames = x := ⟨_, rfl⟩
  have e1' : pickO c [[105, 110, 98, 111, 120], [119, 111, 114, 107], [111, 108, 100]] = (nm, c1) := e1
  rw [e1] at h1
  have h2 := belO_in (n := 5) h1.1
  obtain ⟨⟨v, c2⟩, e2⟩ : ∃ x, belO c1 5 = x := ⟨_, rfl⟩
  simp only at h1 h2
  rw [e2] at h2
  simp only at h2
  have hv := h2.2.2 (by decide)
  have h3 := boxFresh_ok h1.2 h2.2.1 hv
  have w1 : IntKind.i64.wrap (1 + v) = 1 + v := wrap64 (by omega) (by omega)
  have nl : nm.length ≤ 4194304 := by
    have : ∀ x ∈ boxNames, x.length ≤ 8 := by decide
    have := this _ h1.2
    omega
  obtain ⟨B0, hB0⟩ : ∃ B0, boxNew nm (1 + v) = B0 := ⟨_, rfl⟩
  have kB0 : boxOk B0 = true := by rw [← hB0, h3.2]; exact h3.1
  obtain ⟨⟨RB, RC⟩, hR⟩ : ∃ R, boxL 18 0 c2 B0 = R := ⟨_, rfl⟩
  have e : box8 c = (RB, RC) := by rw [box8, e1, e2, hB0, hR]
  rw [e] at hr
  have lB0 := box_le kB0
  simp only [hc, e, e1', h1.1, e2, w1, nl, hB0, go_sem]
  repeat' ((first | ((first | apply qa | apply qb | apply qc | apply qd | apply qe | apply qf | apply qg | apply qh | apply qi | apply qj | apply qk) <;> intro hp) | ((first | refine ql rfl rfl (by decide +kernel) ?_ | refine qm _ rfl rfl (by decide +kernel) ?_ | refine goes_opn rfl ?_ | refine goes_opnD rfl rfl (by decide +kernel) ?_) <;> have hp := True.intro)) <;> simp only [hp, hc, e, e1', h1.1, e2, w1, nl, hB0, go_sem])
  refine loop_go (fun p : Nat × Cur × Box => [(5, .int .i64 (p.1 : Int))]) (fun p => [(0, ⟨.box, 3, [p.2.1.enc]⟩), (2, ⟨.box, 7, [.agg [.str p.2.2.Name, .int .i64 p.2.2.Valid, .int .i64 p.2.2.Next, .int .i64 p.2.2.Mod, .own 3, .own 4, .int .i64 p.2.2.Horizon]]⟩), (3, ⟨.arr, 4, p.2.2.Mails.map Mail.enc⟩), (4, ⟨.arr, 2, p.2.2.Tombs.map Tomb.enc⟩)]) (fun p => 18 - p.1) (fun p => p.1 ≤ 17 ∧ curI p.2.1 ∧ boxOk p.2.2 = true ∧ boxL (18 - p.1) p.1 p.2.1 p.2.2 = (RB, RC)) (0, c2, B0) ⟨by omega, h2.1, kB0, hR⟩ rfl rfl ?_
  rintro ⟨i, d, b⟩ ⟨hi, hd, hb, he⟩ ih
  simp only at hi hd hb he ih
  have bl := box_le hb
  have nb := numsOk_next (boxOk_parts hb).1
  have g0 := belO_in (n := 16) hd
  obtain ⟨⟨v0, d0⟩, e0⟩ : ∃ x, belO d 16 = x := ⟨_, rfl⟩
  rw [e0] at g0
  simp only at g0
  have gv := g0.2.2 (by decide)
  have w0 : IntKind.i64.wrap (2 + v0) = 2 + v0 := wrap64 (by omega) (by omega)
  rw [show 18 - i = (18 - (i + 1)) + 1 by omega, boxL, e0] at he
  simp only at he
  by_cases gi : (i : Int) < 2 + v0
  · rw [if_pos gi] at he
    have g5 : IntKind.i64.wrap ((i : Int) + 1) = ((i + 1 : Nat) : Int) := wrap_succ (n := 100) (by omega) (by omega)
    have k1 := belO_in (n := 6) g0.1
    obtain ⟨⟨k, d1⟩, e6⟩ : ∃ x, belO d0 6 = x := ⟨_, rfl⟩
    rw [e6] at k1
    simp only at k1
    have kv := k1.2.2 (by decide)
    have hk : k = 0 ∨ k = 1 ∨ k = 2 ∨ k = 3 ∨ k = 4 ∨ k = 5 := by omega
    rcases hk with rfl | rfl | rfl | rfl | rfl | rfl
    · have j1 := belO_in (n := 32) k1.1
      obtain ⟨⟨f, d2⟩, a1⟩ : ∃ x, belO d1 32 = x := ⟨_, rfl⟩
      rw [a1] at j1
      simp only at j1
      have j2 := mailO_len j1.1
      obtain ⟨⟨t, d3⟩, a2⟩ : ∃ x, mailO d2 = x := ⟨_, rfl⟩
      rw [a2] at j2
      simp only at j2
      have hst : boxStep d0 b = (addMail b f t, d3) := by simp only [boxStep, boxA, e6, a1, a2, Int.reduceLE, if_true]
      have tl : t.length ≤ 4194304 := by omega
      have ih' := ih (i + 1, d3, addMail b f t) ⟨by omega, j2.2, addMail_ok hb, by rw [hst] at he; exact he⟩ (by simp only; omega)
      simp only at ih'
      simp only [hd, e0, g0.1, gi, w0, g5, e6, k1.1, a1, j1.1, a2, bl, tl, go_sem]
      repeat' ((first | ((first | apply qa | apply qb | apply qc | apply qd | apply qe | apply qf | apply qg | apply qh | apply qi | apply qj | apply qk) <;> intro hp) | ((first | refine ql rfl rfl (by decide +kernel) ?_ | refine qm _ rfl rfl (by decide +kernel) ?_ | refine goes_opn rfl ?_ | refine goes_opnD rfl rfl (by decide +kernel) ?_) <;> have hp := True.intro)) <;> simp only [hp, hd, e0, g0.1, gi, w0, g5, e6, k1.1, a1, j1.1, a2, bl, tl, go_sem])
      all_goals exact ih'
    · have j1 := belO_in (n := 32) k1.1
      obtain ⟨⟨f, d2⟩, a1⟩ : ∃ x, belO d1 32 = x := ⟨_, rfl⟩
      rw [a1] at j1
      simp only at j1
      have j2 := mailO_len j1.1
      obtain ⟨⟨t, d3⟩, a2⟩ : ∃ x, mailO d2 = x := ⟨_, rfl⟩
      rw [a2] at j2
      simp only at j2
      have hst : boxStep d0 b = (addMail b f t, d3) := by simp only [boxStep, boxA, e6, a1, a2, Int.reduceLE, if_true]
      have tl : t.length ≤ 4194304 := by omega
      have ih' := ih (i + 1, d3, addMail b f t) ⟨by omega, j2.2, addMail_ok hb, by rw [hst] at he; exact he⟩ (by simp only; omega)
      simp only at ih'
      simp only [hd, e0, g0.1, gi, w0, g5, e6, k1.1, a1, j1.1, a2, bl, tl, go_sem]
      repeat' ((first | ((first | apply qa | apply qb | apply qc | apply qd | apply qe | apply qf | apply qg | apply qh | apply qi | apply qj | apply qk) <;> intro hp) | ((first | refine ql rfl rfl (by decide +kernel) ?_ | refine qm _ rfl rfl (by decide +kernel) ?_ | refine goes_opn rfl ?_ | refine goes_opnD rfl rfl (by decide +kernel) ?_) <;> have hp := True.intro)) <;> simp only [hp, hd, e0, g0.1, gi, w0, g5, e6, k1.1, a1, j1.1, a2, bl, tl, go_sem])
      all_goals exact ih'
    · have j1 := belO_in (n := 32) k1.1
      obtain ⟨⟨f, d2⟩, a1⟩ : ∃ x, belO d1 32 = x := ⟨_, rfl⟩
      rw [a1] at j1
      simp only at j1
      have j2 := mailO_len j1.1
      obtain ⟨⟨t, d3⟩, a2⟩ : ∃ x, mailO d2 = x := ⟨_, rfl⟩
      rw [a2] at j2
      simp only at j2
      have hst : boxStep d0 b = (addMail b f t, d3) := by simp only [boxStep, boxA, e6, a1, a2, Int.reduceLE, if_true]
      have tl : t.length ≤ 4194304 := by omega
      have ih' := ih (i + 1, d3, addMail b f t) ⟨by omega, j2.2, addMail_ok hb, by rw [hst] at he; exact he⟩ (by simp only; omega)
      simp only at ih'
      simp only [hd, e0, g0.1, gi, w0, g5, e6, k1.1, a1, j1.1, a2, bl, tl, go_sem]
      repeat' ((first | ((first | apply qa | apply qb | apply qc | apply qd | apply qe | apply qf | apply qg | apply qh | apply qi | apply qj | apply qk) <;> intro hp) | ((first | refine ql rfl rfl (by decide +kernel) ?_ | refine qm _ rfl rfl (by decide +kernel) ?_ | refine goes_opn rfl ?_ | refine goes_opnD rfl rfl (by decide +kernel) ?_) <;> have hp := True.intro)) <;> simp only [hp, hd, e0, g0.1, gi, w0, g5, e6, k1.1, a1, j1.1, a2, bl, tl, go_sem])
      all_goals exact ih'
    · have j1 := drawO_in k1.1
      obtain ⟨⟨s, d2⟩, a1⟩ : ∃ x, drawO d1 = x := ⟨_, rfl⟩
      rw [a1] at j1
      simp only at j1
      have j2 := belO_in (n := 3) j1.2
      obtain ⟨⟨h, d3⟩, a2⟩ : ∃ x, belO d2 3 = x := ⟨_, rfl⟩
      rw [a2] at j2
      simp only at j2
      have hv3 := j2.2.2 (by decide)
      have j3 := belO_in (n := 32) j2.1
      obtain ⟨⟨f, d4⟩, a3⟩ : ∃ x, belO d3 32 = x := ⟨_, rfl⟩
      rw [a3] at j3
      simp only at j3
      have w3 : IntKind.i64.wrap (1 + h) = 1 + h := wrap64 (by omega) (by omega)
      have hst : boxStep d0 b = (setFlags b s (1 + h) f (-1), d4) := by
        simp only [boxStep, boxB, e6, a1, a2, a3]
        rfl
      have sl : s.length ≤ 4194304 := by omega
      have ih' := ih (i + 1, d4, setFlags b s (1 + h) f (-1)) ⟨by omega, j3.1, setFlags_ok hb, by rw [hst] at he; exact he⟩ (by simp only; omega)
      simp only at ih'
      simp only [hd, e0, g0.1, gi, w0, g5, e6, k1.1, a1, j1.2, a2, j2.1, a3, w3, bl, sl, go_sem]
      repeat' ((first | ((first | apply qa | apply qb | apply qc | apply qd | apply qe | apply qf | apply qg | apply qh | apply qi | apply qj | apply qk) <;> intro hp) | ((first | refine ql rfl rfl (by decide +kernel) ?_ | refine qm _ rfl rfl (by decide +kernel) ?_ | refine goes_opn rfl ?_ | refine goes_opnD rfl rfl (by decide +kernel) ?_) <;> have hp := True.intro)) <;> simp only [hp, hd, e0, g0.1, gi, w0, g5, e6, k1.1, a1, j1.2, a2, j2.1, a3, w3, bl, sl, go_sem])
      all_goals exact ih'
    · have j1 := drawO_in k1.1
      obtain ⟨⟨s, d2⟩, a1⟩ : ∃ x, drawO d1 = x := ⟨_, rfl⟩
      rw [a1] at j1
      simp only at j1
      have hst : boxStep d0 b = (expunge b s, d2) := by
        simp only [boxStep, boxC, e6, a1]
        rfl
      have sl : s.length ≤ 4194304 := by omega
      have ih' := ih (i + 1, d2, expunge b s) ⟨by omega, j1.2, expunge_ok hb, by rw [hst] at he; exact he⟩ (by simp only; omega)
      simp only at ih'
      simp only [hd, e0, g0.1, gi, w0, g5, e6, k1.1, a1, j1.2, bl, sl, go_sem]
      repeat' ((first | ((first | apply qa | apply qb | apply qc | apply qd | apply qe | apply qf | apply qg | apply qh | apply qi | apply qj | apply qk) <;> intro hp) | ((first | refine ql rfl rfl (by decide +kernel) ?_ | refine qm _ rfl rfl (by decide +kernel) ?_ | refine goes_opn rfl ?_ | refine goes_opnD rfl rfl (by decide +kernel) ?_) <;> have hp := True.intro)) <;> simp only [hp, hd, e0, g0.1, gi, w0, g5, e6, k1.1, a1, j1.2, bl, sl, go_sem])
      all_goals exact ih'
    · have j1 := belO_in (n := 3) k1.1
      obtain ⟨⟨o, d2⟩, a1⟩ : ∃ x, belO d1 3 = x := ⟨_, rfl⟩
      rw [a1] at j1
      simp only at j1
      cases ho : (o == 0) with
      | true =>
        have w4 : IntKind.i64.wrap (b.Mod + 1) = b.Mod + 1 := wrap64 (by omega) (by omega)
        have j2 := belO_in (n := b.Mod + 1) j1.1
        obtain ⟨⟨u, d3⟩, a2⟩ : ∃ x, belO d2 (b.Mod + 1) = x := ⟨_, rfl⟩
        rw [a2] at j2
        simp only at j2
        have hst : boxStep d0 b = (forgetTombs b u, d3) := by
          simp only [boxStep, boxD, e6, a1, ho, a2]
          rfl
        have ih' := ih (i + 1, d3, forgetTombs b u) ⟨by omega, j2.1, forgetTombs_ok hb, by rw [hst] at he; exact he⟩ (by simp only; omega)
        simp only at ih'
        simp only [hd, e0, g0.1, gi, w0, g5, e6, k1.1, a1, j1.1, ho, a2, w4, bl, go_sem]
        repeat' ((first | ((first | apply qa | apply qb | apply qc | apply qd | apply qe | apply qf | apply qg | apply qh | apply qi | apply qj | apply qk) <;> intro hp) | ((first | refine ql rfl rfl (by decide +kernel) ?_ | refine qm _ rfl rfl (by decide +kernel) ?_ | refine goes_opn rfl ?_ | refine goes_opnD rfl rfl (by decide +kernel) ?_) <;> have hp := True.intro)) <;> simp only [hp, hd, e0, g0.1, gi, w0, g5, e6, k1.1, a1, j1.1, ho, a2, w4, bl, go_sem])
        all_goals exact ih'
      | false =>
        have hst : boxStep d0 b = (b, d2) := by
          simp only [boxStep, boxD, e6, a1, ho]
          rfl
        have ih' := ih (i + 1, d2, b) ⟨by omega, j1.1, hb, by rw [hst] at he; exact he⟩ (by simp only; omega)
        simp only at ih'
        simp only [hd, e0, g0.1, gi, w0, g5, e6, k1.1, a1, j1.1, ho, bl, go_sem]
        repeat' ((first | ((first | apply qa | apply qb | apply qc | apply qd | apply qe | apply qf | apply qg | apply qh | apply qi | apply qj | apply qk) <;> intro hp) | ((first | refine ql rfl rfl (by decide +kernel) ?_ | refine qm _ rfl rfl (by decide +kernel) ?_ | refine goes_opn rfl ?_ | refine goes_opnD rfl rfl (by decide +kernel) ?_) <;> have hp := True.intro)) <;> simp only [hp, hd, e0, g0.1, gi, w0, g5, e6, k1.1, a1, j1.1, ho, bl, go_sem])
        all_goals exact ih'
  · rw [if_neg gi] at he
    simp only [Prod.mk.injEq] at he
    obtain ⟨rfl, rfl⟩ := he
    simp only [hd, e0, g0.1, gi, w0, go_sem]
    repeat' ((first | ((first | apply qa | apply qb | apply qc | apply qd | apply qe | apply qf | apply qg | apply qh | apply qi | apply qj | apply qk) <;> intro hp) | ((first | refine ql rfl rfl (by decide +kernel) ?_ | refine qm _ rfl rfl (by decide +kernel) ?_ | refine goes_opn rfl ?_ | refine goes_opnD rfl rfl (by decide +kernel) ?_) <;> have hp := True.intro)) <;> simp only [hp, hd, e0, g0.1, gi, w0, go_sem])
    simp only [fin_mk, finV, resL, resV1, resIn, endA, listIn, Option.some_or, Option.none_or, oneOrTup, go_sem]
    rw [← hr]
    first | rfl | (simp only [e]; rfl)
open Classical in
noncomputable def spDrawBox : VM.Spec := { modes := [.rd], run := fun | [.lst 1 code'] => (decL dU8 code').bind fun code => if code.length ≤ 4194304 then some (Box.enc ((box8 (cur0 code)).1), []) else none | _ => none, need := [] }
attribute [go_sem] spDrawBox
theorem spDrawBox_in {ins : List V} {r : V} {outs : List V} (h : spDrawBox.run ins = some (r, outs)) : ∃ (code : (List Int)), ins = [.lst 1 ((code).map eU8)] ∧ (code.length ≤ 4194304) ∧ Box.enc ((box8 (cur0 code)).1) = r ∧ outs = [] := by
  unfold spDrawBox at h
  simp only at h
  split at h
  · rename_i code'
    simp only [Option.bind_eq_some_iff] at h
    obtain ⟨code, h_code, h⟩ := h
    split at h
    case isFalse => cases h
    rename_i hc
    simp only [Option.some.injEq, Prod.mk.injEq] at h
    obtain ⟨h1, h2⟩ := h
    have h_code := decL_some (fun _ _ h => dU8_some h) h_code
    subst h_code
    exact ⟨code, rfl, hc, h1, h2.symm⟩
  · cases h
def T_spec_DrawBox : Hints := ⟨fun _ => none, fun _ => none, fun i => if i = 0 then some [0, 2] else if i = 1 then some [2] else none, fun _ => none⟩
noncomputable def Phi_spec_DrawBox : Tab := fun f => if f = 14 then some spNew else if f = 13 then some spBox8 else none
attribute [go_sem] T_spec_DrawBox Phi_spec_DrawBox
theorem phi_spec_DrawBox : ∀ f sp, Phi_spec_DrawBox f = some sp → FnOk Try.prog f sp ∧ ∀ n ∈ sp.need, n ∈ ([] : List String) := by
  intro f sp h
  unfold Phi_spec_DrawBox at h
  by_cases e : f = 14
  · rw [if_pos e] at h; cases h; rw [e]; exact ⟨ok_spec_l01New, (fun n (h : n ∈ ([] : List String)) => (nomatch h))⟩
  rw [if_neg e] at h
  by_cases e : f = 13
  · rw [if_pos e] at h; cases h; rw [e]; exact ⟨ok_spec_l08Box, (fun n (h : n ∈ ([] : List String)) => (nomatch h))⟩
  rw [if_neg e] at h
  cases h
theorem ok_spec_DrawBox : FnOk Try.prog 5 spDrawBox := by
  refine fn_ok (Φ := Phi_spec_DrawBox) (T := T_spec_DrawBox) phi_spec_DrawBox mixed Try.func5 rfl rfl rfl (by decide) ?_
  intro ins r outs hr hl
  clear hl
  have hs := spDrawBox_in hr
  clear hr
  obtain ⟨code, rfl, hc, hr, rfl⟩ := hs
  simp only [spDrawBox, Try.f5, Go.VM.initS]
  have i0 := cur0_in hc
  simp only [hc, i0, go_sem]
  repeat' ((first | ((first | apply qa | apply qb | apply qc | apply qd | apply qe | apply qf | apply qg | apply qh | apply qi | apply qj | apply qk) <;> intro hp) | ((first | refine ql rfl rfl (by decide +kernel) ?_ | refine qm _ rfl rfl (by decide +kernel) ?_ | refine goes_opn rfl ?_ | refine goes_opnD rfl rfl (by decide +kernel) ?_) <;> have hp := True.intro)) <;> simp only [hp, hc, i0, go_sem])
  simp only [fin_mk, finV, resL, resV1, resIn, endA, listIn, Option.some_or, Option.none_or, oneOrTup, go_sem]
  rw [← hr]
  first | rfl | skip
end Go.Proofs.Ytimiccneikhkgaa.L
