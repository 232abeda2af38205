/- Drawn mirrors of a box. -/
import Derived.Test.YtknagbmhmjcnkaaVLDr
namespace Go.Proofs.Ytknagbmhmjcnkaa.L
open Go Go.VM
set_option maxRecDepth 100000
set_option maxHeartbeats 4000000
set_option linter.unusedSimpArgs false
set_option linter.unusedVariables false
def seensL : Nat → Nat → Cur → List Seen → List Seen × Cur
  | 0, _, c, a => (a, c)
  | f + 1, i, c, a => if (i : Int) < (belO c 7).1 then seensL f (i + 1) (belO (belO (belO c 7).2 32).2 9).2 (a ++ [⟨((i + 1 : Nat) : Int), (belO (belO c 7).2 32).1, 1 + (belO (belO (belO c 7).2 32).2 9).1⟩]) else (a, (belO c 7).2)
theorem seensL_in : ∀ (f i : Nat) {c : Cur} {a : List Seen}, curI c → a.length ≤ i → i ≤ 6 → (seensL f i c a).1.length ≤ 7 ∧ curI (seensL f i c a).2
  | 0, i, c, a, hc, ha, hi => ⟨by simp only [seensL]; omega, hc⟩
  | f + 1, i, c, a, hc, ha, hi => by
    have h1 := belO_in (n := 7) hc
    have h2 := belO_in (n := 32) h1.1
    have h3 := belO_in (n := 9) h2.1
    rw [seensL]
    split
    · rename_i hl
      have := h1.2.2 (by decide)
      exact seensL_in f (i + 1) h3.1 (by simp; omega) (by omega)
    · exact ⟨by simp only; omega, h1.1⟩
open Classical in
noncomputable def spSeens : VM.Spec := { modes := [.ptr], run := fun | [.rptr (c')] => (Cur.dec c').bind fun c => if curI c then some (.lst 3 (((seensL 8 0 c []).1).map Seen.enc), [.rptr (Cur.enc ((seensL 8 0 c []).2))]) else none | _ => none, need := [] }
attribute [go_sem] spSeens
theorem spSeens_in {ins : List V} {r : V} {outs : List V} (h : spSeens.run ins = some (r, outs)) : ∃ (c : Cur), ins = [.rptr (Cur.enc c)] ∧ (curI c) ∧ .lst 3 (((seensL 8 0 c []).1).map Seen.enc) = r ∧ outs = [.rptr (Cur.enc ((seensL 8 0 c []).2))] := by
  unfold spSeens at h
  simp only at h
  split at h
  · rename_i c'
    simp only [Option.bind_eq_some_iff] at h
    obtain ⟨c, h_c, h⟩ := h
    split at h
    case isFalse => cases h
    rename_i hc
    simp only [Option.some.injEq, Prod.mk.injEq] at h
    obtain ⟨h1, h2⟩ := h
    have h_c := Cur.dec_some h_c
    subst h_c
    exact ⟨c, rfl, hc, h1, h2.symm⟩
  · cases h
def T_spec_l13Seens : Hints := ⟨fun _ => none, fun i => if i = 3 then some [0, 3, 4] else none, fun i => if i = 0 then some [0] else if i = 1 then some [0, 3] else if i = 2 then some [0, 3, 4] else if i = 3 then some [0, 3, 4, 9] else if i = 5 then some [0, 3, 4] else if i = 4 then some [0, 3, 4] else if i = 6 then some [2] else none, fun _ => none⟩
noncomputable def Phi_spec_l13Seens : Tab := fun f => if f = 14 then some spBelow else none
attribute [go_sem] T_spec_l13Seens Phi_spec_l13Seens
theorem phi_spec_l13Seens : ∀ f sp, Phi_spec_l13Seens f = some sp → FnOk Try.prog f sp ∧ ∀ n ∈ sp.need, n ∈ ([] : List String) := by
  intro f sp h
  unfold Phi_spec_l13Seens at h
  by_cases e : f = 14
  · rw [if_pos e] at h; cases h; rw [e]; exact ⟨ok_spec_l01Below, (fun n (h : n ∈ ([] : List String)) => (nomatch h))⟩
  rw [if_neg e] at h
  cases h
theorem ok_spec_l13Seens : FnOk Try.prog 12 spSeens := by
  refine fn_ok (Φ := Phi_spec_l13Seens) (T := T_spec_l13Seens) phi_spec_l13Seens mixed Try.func12 rfl rfl rfl (by decide) ?_
  intro ins r outs hr hl
  clear hl
  have hs := spSeens_in hr
  clear hr
  obtain ⟨c, rfl, hc, hr, rfl⟩ := hs
  simp only [spSeens, Try.f12, Go.VM.initS]
  obtain ⟨R, hR⟩ : ∃ R, seensL 8 0 c [] = R := ⟨_, rfl⟩
  rw [hR] at hr
  simp only [hR, go_sem]
  repeat' ((first | ((first | apply qa | apply qb | apply qc | apply qd | apply qe | apply qf | apply qg | apply qh | apply qi | apply qj | apply qk) <;> intro hp) | ((first | refine ql rfl rfl (by decide +kernel) ?_ | refine qm _ rfl rfl (by decide +kernel) ?_ | refine goes_opn rfl ?_ | refine goes_opnD rfl rfl (by decide +kernel) ?_) <;> have hp := True.intro)) <;> simp only [hp, hR, go_sem])
  refine loop_go (fun p : Nat × Cur × List Seen => [(4, .int .i64 (p.1 : Int))]) (fun p => [(0, ⟨.box, 3, [p.2.1.enc]⟩), (1, ⟨.arr, 3, p.2.2.map Seen.enc⟩)]) (fun p => 8 - p.1) (fun p => p.1 ≤ 6 ∧ curI p.2.1 ∧ p.2.2.length = p.1 ∧ seensL (8 - p.1) p.1 p.2.1 p.2.2 = R) (0, c, []) ⟨by omega, hc, rfl, hR⟩ rfl rfl ?_
  rintro ⟨i, d, a⟩ ⟨hi, hd, hl, he⟩ ih
  simp only at hi hd hl he ih
  have h1 := belO_in (n := 7) hd
  have h2 := belO_in (n := 32) h1.1
  have h3 := belO_in (n := 9) h2.1
  rw [show 8 - i = (8 - (i + 1)) + 1 by omega, seensL] at he
  obtain ⟨⟨v1, c1⟩, e1⟩ : ∃ x, belO d 7 = x := ⟨_, rfl⟩
  rw [e1] at h1 h2 h3 he
  simp only at h1 h2 h3 he
  obtain ⟨⟨v2, c2⟩, e2⟩ : ∃ x, belO c1 32 = x := ⟨_, rfl⟩
  rw [e2] at h2 h3 he
  simp only at h2 h3 he
  obtain ⟨⟨v3, c3⟩, e3⟩ : ∃ x, belO c2 9 = x := ⟨_, rfl⟩
  rw [e3] at h3 he
  simp only at h3 he
  by_cases g1 : (i : Int) < v1
  · rw [if_pos g1] at he
    have hv := h1.2.2 (by decide)
    have ih' := ih (i + 1, c3, _) ⟨by omega, h3.1, by simp [hl], he⟩ (by simp only; omega)
    simp only [List.map_append, List.map_cons, List.map_nil] at ih'
    have g5 : IntKind.i64.wrap ((i : Int) + 1) = ((i + 1 : Nat) : Int) := wrap_succ (n := 10) (by omega) (by omega)
    have hv3 := h3.2.2 (by decide)
    have g6 : IntKind.i64.wrap (1 + v3) = 1 + v3 := wrap64 (by omega) (by omega)
    have g7 : (a.length + 1) * 24 ≤ 140737488355328 := by omega
    have g8 : a.length ≤ 9223372036854775806 := by omega
    simp only [hd, h1.1, h2.1, h3.1, e1, e2, e3, g1, g5, g6, g7, g8, go_sem]
    repeat' ((first | ((first | apply qa | apply qb | apply qc | apply qd | apply qe | apply qf | apply qg | apply qh | apply qi | apply qj | apply qk) <;> intro hp) | ((first | refine ql rfl rfl (by decide +kernel) ?_ | refine qm _ rfl rfl (by decide +kernel) ?_ | refine goes_opn rfl ?_ | refine goes_opnD rfl rfl (by decide +kernel) ?_) <;> have hp := True.intro)) <;> simp only [hp, hd, h1.1, h2.1, h3.1, e1, e2, e3, g1, g5, g6, g7, g8, go_sem])
    all_goals first | exact ih' | (clear ih'; omega)
  · rw [if_neg g1] at he
    simp only [hd, e1, g1, go_sem]
    repeat' ((first | ((first | apply qa | apply qb | apply qc | apply qd | apply qe | apply qf | apply qg | apply qh | apply qi | apply qj | apply qk) <;> intro hp) | ((first | refine ql rfl rfl (by decide +kernel) ?_ | refine qm _ rfl rfl (by decide +kernel) ?_ | refine goes_opn rfl ?_ | refine goes_opnD rfl rfl (by decide +kernel) ?_) <;> have hp := True.intro)) <;> simp only [hp, hd, e1, g1, go_sem])
    simp only [fin_mk, finV, resL, resV1, resIn, endA, listIn, Option.some_or, Option.none_or, oneOrTup, go_sem]
    rw [← hr]
    rw [← he]
end Go.Proofs.Ytknagbmhmjcnkaa.L
