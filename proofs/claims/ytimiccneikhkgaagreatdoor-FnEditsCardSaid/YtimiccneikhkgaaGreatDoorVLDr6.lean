/- Drawn sets. -/
import Derived.Test.YtimiccneikhkgaaGreatDoorVLSet
import Derived.Test.YtimiccneikhkgaaGreatDoorVLDr1
namespace Go.Proofs.YtimiccneikhkgaaGreatDoor.L
open Go Go.VM
set_option maxRecDepth 100000
set_option maxHeartbeats 4000000
set_option linter.unusedSimpArgs false
set_option linter.unusedVariables false
theorem setAdd_len (s : List Range) (lo hi : Int) (h : s.length ≤ 40) : (setAdd s lo hi).length ≤ 40 := by
  unfold setAdd
  split
  · rename_i hk
    simp only [setAddOk, setOk, Bool.and_eq_true, decide_eq_true_eq] at hk
    exact hk.2.2
  · exact h
def drawL : Nat → Nat → Cur → List Range → List Range × Cur
  | 0, _, c, s => (s, c)
  | f + 1, i, c, s => if (i : Int) < (belO c 5).1 then drawL f (i + 1) (belO (belO (belO c 5).2 14).2 4).2 (setAdd s (1 + (belO (belO c 5).2 14).1) (1 + (belO (belO c 5).2 14).1 + (belO (belO (belO c 5).2 14).2 4).1)) else (s, (belO c 5).2)
theorem drawL_in : ∀ (f i : Nat) {c : Cur} {s : List Range}, curI c → s.length ≤ 40 → (drawL f i c s).1.length ≤ 40 ∧ curI (drawL f i c s).2
  | 0, i, c, s, hc, hs => ⟨hs, hc⟩
  | f + 1, i, c, s, hc, hs => by
    have h1 := belO_in (n := 5) hc
    have h2 := belO_in (n := 14) h1.1
    have h3 := belO_in (n := 4) h2.1
    rw [drawL]
    split
    · exact drawL_in f (i + 1) h3.1 (setAdd_len _ _ _ hs)
    · exact ⟨hs, h1.1⟩
def drawO (c : Cur) : List Range × Cur := if ((belO (drawL 6 0 c []).2 10).1 == 0) = true then (setAdd (drawL 6 0 c []).1 9998 9999, (belO (drawL 6 0 c []).2 10).2) else ((drawL 6 0 c []).1, (belO (drawL 6 0 c []).2 10).2)
theorem drawO_in {c : Cur} (h : curI c) : (drawO c).1.length ≤ 40 ∧ curI (drawO c).2 := by
  have h1 := drawL_in 6 0 (s := []) h (by simp)
  have h2 := belO_in (n := 10) h1.2
  unfold drawO
  split
  · exact ⟨setAdd_len _ _ _ h1.1, h2.1⟩
  · exact ⟨h1.1, h2.1⟩
open Classical in
noncomputable def spDraw : VM.Spec := { modes := [.ptr], run := fun | [.rptr (c')] => (Cur.dec c').bind fun c => if curI c then some (.lst 2 (((drawO c).1).map Range.enc), [.rptr (Cur.enc ((drawO c).2))]) else none | _ => none, need := [] }
attribute [go_sem] spDraw
theorem spDraw_in {ins : List V} {r : V} {outs : List V} (h : spDraw.run ins = some (r, outs)) : ∃ (c : Cur), ins = [.rptr (Cur.enc c)] ∧ (curI c) ∧ .lst 2 (((drawO c).1).map Range.enc) = r ∧ outs = [.rptr (Cur.enc ((drawO c).2))] := by
  unfold spDraw at h
  simp only at h
  split at h
  · rename_i c'
    simp only [Option.bind_eq_some_iff] at h
    obtain ⟨c, h_c, h⟩ := h
    split at h
    case isFalse => cases h
    rename_i hc
    simp only [Option.some.injEq, Prod.mk.injEq] at h
    obtain ⟨h1, h2⟩ := h
    have h_c := Cur.dec_some h_c
    subst h_c
    exact ⟨c, rfl, hc, h1, h2.symm⟩
  · cases h
def T_spec_l05Draw : Hints := ⟨fun _ => none, fun i => if i = 3 then some [0, 3, 4] else none, fun i => if i = 0 then some [0] else if i = 1 then some [0, 3] else if i = 2 then some [0, 3, 4] else if i = 3 then some [0, 3, 4, 10] else if i = 5 then some [0, 3, 4, 5] else if i = 6 then some [0, 3, 4] else if i = 4 then some [0, 3, 4] else if i = 7 then some [3, 27] else if i = 8 then some [3] else if i = 9 then some [2] else none, fun _ => none⟩
noncomputable def Phi_spec_l05Draw : Tab := fun f => if f = 46 then some spBelow else if f = 125 then some spOnce else if f = 80 then some spSetAdd else none
attribute [go_sem] T_spec_l05Draw Phi_spec_l05Draw
theorem phi_spec_l05Draw : ∀ f sp, Phi_spec_l05Draw f = some sp → FnOk Tryz.prog f sp ∧ ∀ n ∈ sp.need, n ∈ ([] : List String) := by
  intro f sp h
  unfold Phi_spec_l05Draw at h
  by_cases e : f = 46
  · rw [if_pos e] at h; cases h; rw [e]; exact ⟨ok_spec_l01Below, (fun n (h : n ∈ ([] : List String)) => (nomatch h))⟩
  rw [if_neg e] at h
  by_cases e : f = 125
  · rw [if_pos e] at h; cases h; rw [e]; exact ⟨ok_spec_l01Once, (fun n (h : n ∈ ([] : List String)) => (nomatch h))⟩
  rw [if_neg e] at h
  by_cases e : f = 80
  · rw [if_pos e] at h; cases h; rw [e]; exact ⟨ok_spec_SetAdd, (fun n (h : n ∈ ([] : List String)) => (nomatch h))⟩
  rw [if_neg e] at h
  cases h
theorem ok_spec_l05Draw : FnOk Tryz.prog 123 spDraw := by
  refine fn_ok (Φ := Phi_spec_l05Draw) (T := T_spec_l05Draw) phi_spec_l05Draw mixed Tryz.func123 rfl rfl rfl (by decide) ?_
  intro ins r outs hr hl
  clear hl
  have hs := spDraw_in hr
  clear hr
  obtain ⟨c, rfl, hc, hr, rfl⟩ := hs
  simp only [spDraw, Tryz.f123, Go.VM.initS]
  have hRi := drawL_in 6 0 (s := []) hc (by simp)
  obtain ⟨⟨RS, RC⟩, hR⟩ : ∃ R, drawL 6 0 c [] = R := ⟨_, rfl⟩
  rw [hR] at hRi
  simp only at hRi
  obtain ⟨⟨vt, ct⟩, et⟩ : ∃ x, belO RC 10 = x := ⟨_, rfl⟩
  have hO : drawO c = if (vt == 0) = true then (setAdd RS 9998 9999, ct) else (RS, ct) := by simp only [drawO, hR, et]
  rw [hO] at hr
  have hRl : RS.length ≤ 4194304 := by omega
  simp only [hO, go_sem]
  repeat' ((first | ((first | apply qa | apply qb | apply qc | apply qd | apply qe | apply qf | apply qg | apply qh | apply qi | apply qj | apply qk) <;> intro hp) | ((first | refine ql rfl rfl (by decide +kernel) ?_ | refine qm _ rfl rfl (by decide +kernel) ?_ | refine goes_opn rfl ?_ | refine goes_opnD rfl rfl (by decide +kernel) ?_) <;> have hp := True.intro)) <;> simp only [hp, hO, go_sem])
  refine loop_go (fun p : Nat × Cur × List Range => [(4, .int .i64 (p.1 : Int))]) (fun p => [(0, ⟨.box, 3, [p.2.1.enc]⟩), (1, ⟨.arr, 2, p.2.2.map Range.enc⟩)]) (fun p => 6 - p.1) (fun p => p.1 ≤ 4 ∧ curI p.2.1 ∧ p.2.2.length ≤ 40 ∧ drawL (6 - p.1) p.1 p.2.1 p.2.2 = (RS, RC)) (0, c, []) ⟨by omega, hc, by simp, hR⟩ rfl rfl ?_
  rintro ⟨i, d, a⟩ ⟨hi, hd, hl, he⟩ ih
  simp only at hi hd hl he ih
  have h1 := belO_in (n := 5) hd
  have h2 := belO_in (n := 14) h1.1
  have h3 := belO_in (n := 4) h2.1
  rw [show 6 - i = (6 - (i + 1)) + 1 by omega, drawL] at he
  obtain ⟨⟨v1, c1⟩, e1⟩ : ∃ x, belO d 5 = x := ⟨_, rfl⟩
  rw [e1] at h1 h2 h3 he
  simp only at h1 h2 h3 he
  obtain ⟨⟨v2, c2⟩, e2⟩ : ∃ x, belO c1 14 = x := ⟨_, rfl⟩
  rw [e2] at h2 h3 he
  simp only at h2 h3 he
  obtain ⟨⟨v3, c3⟩, e3⟩ : ∃ x, belO c2 4 = x := ⟨_, rfl⟩
  rw [e3] at h3 he
  simp only at h3 he
  by_cases g1 : (i : Int) < v1
  · rw [if_pos g1] at he
    have hv := h1.2.2 (by decide)
    have hv2 := h2.2.2 (by decide)
    have hv3 := h3.2.2 (by decide)
    have ih' := ih (i + 1, c3, _) ⟨by omega, h3.1, setAdd_len _ _ _ hl, he⟩ (by simp only; omega)
    simp only at ih'
    have g5 : IntKind.i64.wrap ((i : Int) + 1) = ((i + 1 : Nat) : Int) := wrap_succ (n := 10) (by omega) (by omega)
    have g6 : IntKind.i64.wrap (1 + v2) = 1 + v2 := wrap64 (by omega) (by omega)
    have g7 : IntKind.i64.wrap (1 + v2 + v3) = 1 + v2 + v3 := wrap64 (by omega) (by omega)
    have g8 : a.length ≤ 4194304 := by omega
    simp only [hd, h1.1, h2.1, h3.1, e1, e2, e3, g1, g5, g6, g7, g8, go_sem]
    repeat' ((first | ((first | apply qa | apply qb | apply qc | apply qd | apply qe | apply qf | apply qg | apply qh | apply qi | apply qj | apply qk) <;> intro hp) | ((first | refine ql rfl rfl (by decide +kernel) ?_ | refine qm _ rfl rfl (by decide +kernel) ?_ | refine goes_opn rfl ?_ | refine goes_opnD rfl rfl (by decide +kernel) ?_) <;> have hp := True.intro)) <;> simp only [hp, hd, h1.1, h2.1, h3.1, e1, e2, e3, g1, g5, g6, g7, g8, go_sem])
    exact ih'
  · rw [if_neg g1] at he
    simp only [Prod.mk.injEq] at he
    obtain ⟨rfl, rfl⟩ := he
    cases h0 : (vt == 0) with
    | true =>
      simp only [h0, if_true] at hr
      simp only [hd, hRi.2, e1, g1, et, h0, hRl, if_true, go_sem]
      repeat' ((first | ((first | apply qa | apply qb | apply qc | apply qd | apply qe | apply qf | apply qg | apply qh | apply qi | apply qj | apply qk) <;> intro hp) | ((first | refine ql rfl rfl (by decide +kernel) ?_ | refine qm _ rfl rfl (by decide +kernel) ?_ | refine goes_opn rfl ?_ | refine goes_opnD rfl rfl (by decide +kernel) ?_) <;> have hp := True.intro)) <;> simp only [hp, hd, hRi.2, e1, g1, et, h0, hRl, if_true, go_sem])
      simp only [fin_mk, finV, resL, resV1, resIn, endA, listIn, Option.some_or, Option.none_or, oneOrTup, go_sem]
      rw [← hr]
    | false =>
      simp only [h0, Bool.false_eq_true, if_false] at hr
      simp only [hd, hRi.2, e1, g1, et, h0, hRl, go_sem]
      repeat' ((first | ((first | apply qa | apply qb | apply qc | apply qd | apply qe | apply qf | apply qg | apply qh | apply qi | apply qj | apply qk) <;> intro hp) | ((first | refine ql rfl rfl (by decide +kernel) ?_ | refine qm _ rfl rfl (by decide +kernel) ?_ | refine goes_opn rfl ?_ | refine goes_opnD rfl rfl (by decide +kernel) ?_) <;> have hp := True.intro)) <;> simp only [hp, hd, hRi.2, e1, g1, et, h0, hRl, go_sem])
      simp only [fin_mk, finV, resL, resV1, resIn, endA, listIn, Option.some_or, Option.none_or, oneOrTup, go_sem]
      rw [← hr]
end Go.Proofs.YtimiccneikhkgaaGreatDoor.L
