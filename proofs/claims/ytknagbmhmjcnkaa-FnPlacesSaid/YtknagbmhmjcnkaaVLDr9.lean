/- Drawn numbers out of lists; sets drawn, right or not. -/
import Derived.Test.YtknagbmhmjcnkaaVLDr7
namespace Go.Proofs.Ytknagbmhmjcnkaa.L
open Go Go.VM
set_option maxRecDepth 100000
set_option maxHeartbeats 4000000
set_option linter.unusedSimpArgs false
set_option linter.unusedVariables false
def pickI (c : Cur) (l : List Int) : Int × Cur := (l.getD (belO c l.length).1.toNat 0, (belO c l.length).2)
theorem pickI_in {c : Cur} {l : List Int} (h : curI c) (hl : 0 < l.length) : curI (pickI c l).2 ∧ (pickI c l).1 ∈ l := by
  have h1 := belO_in (n := (l.length : Int)) h
  have h2 := h1.2.2 (by omega)
  refine ⟨h1.1, ?_⟩
  have h3 : (belO c l.length).1.toNat < l.length := by omega
  rw [pickI]
  simp only [getD_lt h3]
  exact List.getElem_mem h3
open Classical in
noncomputable def spPickI : VM.Spec := { modes := [.ptr, .use], run := fun | [.rptr (c'), .lst 1 l'] => (Cur.dec c').bind fun c => (decL dInt l').bind fun l => if curI c ∧ 0 < l.length ∧ l.length ≤ 4194304 then some (.int .i64 ((pickI c l).1), [.rptr (Cur.enc ((pickI c l).2))]) else none | _ => none, need := [] }
attribute [go_sem] spPickI
theorem spPickI_in {ins : List V} {r : V} {outs : List V} (h : spPickI.run ins = some (r, outs)) : ∃ (c : Cur) (l : (List Int)), ins = [.rptr (Cur.enc c), .lst 1 ((l).map eInt)] ∧ (curI c ∧ 0 < l.length ∧ l.length ≤ 4194304) ∧ .int .i64 ((pickI c l).1) = r ∧ outs = [.rptr (Cur.enc ((pickI c l).2))] := by
  unfold spPickI at h
  simp only at h
  split at h
  · rename_i c' l'
    simp only [Option.bind_eq_some_iff] at h
    obtain ⟨c, h_c, l, h_l, h⟩ := h
    split at h
    case isFalse => cases h
    rename_i hc
    simp only [Option.some.injEq, Prod.mk.injEq] at h
    obtain ⟨h1, h2⟩ := h
    have h_c := Cur.dec_some h_c
    subst h_c
    have h_l := decL_some (fun _ _ h => dInt_some h) h_l
    subst h_l
    exact ⟨c, l, rfl, hc, h1, h2.symm⟩
  · cases h
def T_spec_l01PickInt : Hints := ⟨fun _ => none, fun _ => none, fun i => if i = 0 then some [0, 1] else if i = 1 then some [4] else none, fun _ => none⟩
noncomputable def Phi_spec_l01PickInt : Tab := fun f => if f = 14 then some spBelow else none
attribute [go_sem] T_spec_l01PickInt Phi_spec_l01PickInt
theorem phi_spec_l01PickInt : ∀ f sp, Phi_spec_l01PickInt f = some sp → FnOk Try.prog f sp ∧ ∀ n ∈ sp.need, n ∈ ([] : List String) := by
  intro f sp h
  unfold Phi_spec_l01PickInt at h
  by_cases e : f = 14
  · rw [if_pos e] at h; cases h; rw [e]; exact ⟨ok_spec_l01Below, (fun n (h : n ∈ ([] : List String)) => (nomatch h))⟩
  rw [if_neg e] at h
  cases h
theorem ok_spec_l01PickInt : FnOk Try.prog 24 spPickI := by
  refine fn_ok (Φ := Phi_spec_l01PickInt) (T := T_spec_l01PickInt) phi_spec_l01PickInt mixed Try.func24 rfl rfl rfl (by decide) ?_
  intro ins r outs hr hl
  clear hl
  have hs := spPickI_in hr
  clear hr
  obtain ⟨c, l, rfl, hc, hr, rfl⟩ := hs
  simp only [spPickI, Try.f24, Go.VM.initS]
  obtain ⟨hc, hl, hl2⟩ := hc
  have h1 := belO_in (n := (l.length : Int)) hc
  have h2 := h1.2.2 (by omega)
  obtain ⟨⟨v, d⟩, e⟩ : ∃ x, belO c l.length = x := ⟨_, rfl⟩
  rw [e] at h1 h2
  simp only at h1 h2
  obtain ⟨k, rfl⟩ : ∃ k : Nat, v = k := ⟨v.toNat, by omega⟩
  have g2 : k < l.length := by omega
  have e2 : pickI c l = (l[k], d) := by rw [pickI, e]; simp only [Int.toNat_natCast, getD_lt g2]
  rw [e2] at hr
  have g1 : (0 : Int) ≤ k := by omega
  have g3 : l[k]? = some l[k] := List.getElem?_eq_getElem g2
  have g4 : (k : Int) < l.length := by omega
  simp only [hc, e, g1, g3, g4, go_sem]
  repeat' ((first | ((first | apply qa | apply qb | apply qc | apply qd | apply qe | apply qf | apply qg | apply qh | apply qi | apply qj | apply qk) <;> intro hp) | ((first | refine ql rfl rfl (by decide +kernel) ?_ | refine qm _ rfl rfl (by decide +kernel) ?_ | refine goes_opn rfl ?_ | refine goes_opnD rfl rfl (by decide +kernel) ?_) <;> have hp := True.intro)) <;> simp only [hp, hc, e, g1, g3, g4, go_sem])
  simp only [fin_mk, finV, resL, resV1, resIn, endA, listIn, Option.some_or, Option.none_or, oneOrTup, go_sem]
  rw [← hr]
  first | rfl | (simp only [e2]; rfl) | simp only [e2]
def fillL : Nat → Nat → Cur → List Range → List Range × Cur
  | 0, _, c, s => (s, c)
  | f + 1, i, c, s => if (s.length : Int) < 40 + (belO c 2).1 then fillL f (i + 1) (belO c 2).2 (s ++ [⟨100 + 3 * (i : Int), 101 + 3 * (i : Int)⟩]) else (s, (belO c 2).2)
theorem fillL_in : ∀ (f i : Nat) {c : Cur} {s : List Range}, curI c → s.length ≤ 41 → (fillL f i c s).1.length ≤ 41 ∧ curI (fillL f i c s).2
  | 0, i, c, s, hc, hs => ⟨hs, hc⟩
  | f + 1, i, c, s, hc, hs => by
    have h1 := belO_in (n := 2) hc
    have h2 := h1.2.2 (by decide)
    rw [fillL]
    split
    · exact fillL_in f (i + 1) h1.1 (by simp; omega)
    · exact ⟨hs, h1.1⟩
def anyS (c : Cur) : List Range × Cur :=
  let d := drawO c
  let k := belO d.2 10
  if k.1 = 0 then (d.1 ++ [⟨(pickI k.2 [0, 5, 9998]).1, (pickI (pickI k.2 [0, 5, 9998]).2 [4, 9999, 10000]).1⟩], (pickI (pickI k.2 [0, 5, 9998]).2 [4, 9999, 10000]).2) else
  if k.1 = 1 then (⟨1, 1⟩ :: d.1, k.2) else
  if k.1 = 2 then fillL 42 0 k.2 d.1 else (d.1, k.2)
theorem anyS_in {c : Cur} (h : curI c) : (anyS c).1.length ≤ 41 ∧ curI (anyS c).2 := by
  have h1 := drawO_in h
  have h2 := belO_in (n := 10) h1.2
  have h3 := pickI_in (l := [0, 5, 9998]) h2.1 (by decide)
  have h4 := pickI_in (l := [4, 9999, 10000]) h3.1 (by decide)
  unfold anyS
  simp only
  split
  · exact ⟨by simp; omega, h4.1⟩
  · split
    · exact ⟨by simp; omega, h2.1⟩
    · split
      · exact fillL_in _ _ h2.1 (by omega)
      · exact ⟨by simp only; omega, h2.1⟩
open Classical in
noncomputable def spAnyS : VM.Spec := { modes := [.ptr], run := fun | [.rptr (c')] => (Cur.dec c').bind fun c => if curI c then some (.lst 2 (((anyS c).1).map Range.enc), [.rptr (Cur.enc ((anyS c).2))]) else none | _ => none, need := [] }
attribute [go_sem] spAnyS
theorem spAnyS_in {ins : List V} {r : V} {outs : List V} (h : spAnyS.run ins = some (r, outs)) : ∃ (c : Cur), ins = [.rptr (Cur.enc c)] ∧ (curI c) ∧ .lst 2 (((anyS c).1).map Range.enc) = r ∧ outs = [.rptr (Cur.enc ((anyS c).2))] := by
  unfold spAnyS at h
  simp only at h
  split at h
  · rename_i c'
    simp only [Option.bind_eq_some_iff] at h
    obtain ⟨c, h_c, h⟩ := h
    split at h
    case isFalse => cases h
    rename_i hc
    simp only [Option.some.injEq, Prod.mk.injEq] at h
    obtain ⟨h1, h2⟩ := h
    have h_c := Cur.dec_some h_c
    subst h_c
    exact ⟨c, rfl, hc, h1, h2.symm⟩
  · cases h
def T_spec_l05Any : Hints := ⟨fun _ => none, fun i => if i = 9 then some [0, 3, 4] else none, fun i => if i = 0 then some [0] else if i = 1 then some [0, 3] else if i = 2 then some [0, 3, 10] else if i = 3 then some [0, 3, 10, 11] else if i = 4 then some [3] else if i = 5 then some [0, 3, 10, 23] else if i = 6 then some [3] else if i = 7 then some [0, 3, 29] else if i = 8 then some [0, 3, 4] else if i = 9 then some [0, 3, 4, 36] else if i = 11 then some [0, 3, 4] else if i = 10 then some [0, 3, 4] else if i = 12 then some [2] else none, fun _ => none⟩
noncomputable def Phi_spec_l05Any : Tab := fun f => if f = 22 then some spDraw else if f = 14 then some spBelow else if f = 24 then some spPickI else none
attribute [go_sem] T_spec_l05Any Phi_spec_l05Any
theorem phi_spec_l05Any : ∀ f sp, Phi_spec_l05Any f = some sp → FnOk Try.prog f sp ∧ ∀ n ∈ sp.need, n ∈ ([] : List String) := by
  intro f sp h
  unfold Phi_spec_l05Any at h
  by_cases e : f = 22
  · rw [if_pos e] at h; cases h; rw [e]; exact ⟨ok_spec_l05Draw, (fun n (h : n ∈ ([] : List String)) => (nomatch h))⟩
  rw [if_neg e] at h
  by_cases e : f = 14
  · rw [if_pos e] at h; cases h; rw [e]; exact ⟨ok_spec_l01Below, (fun n (h : n ∈ ([] : List String)) => (nomatch h))⟩
  rw [if_neg e] at h
  by_cases e : f = 24
  · rw [if_pos e] at h; cases h; rw [e]; exact ⟨ok_spec_l01PickInt, (fun n (h : n ∈ ([] : List String)) => (nomatch h))⟩
  rw [if_neg e] at h
  cases h
theorem ok_spec_l05Any : FnOk Try.prog 20 spAnyS := by
  refine fn_ok (Φ := Phi_spec_l05Any) (T := T_spec_l05Any) phi_spec_l05Any mixed Try.func20 rfl rfl rfl (by decide) ?_
  intro ins r outs hr hl
  clear hl
  have hs := spAnyS_in hr
  clear hr
  obtain ⟨c, rfl, hc, hr, rfl⟩ := hs
  simp only [spAnyS, Try.f20, Go.VM.initS]
  have h1 := drawO_in hc
  obtain ⟨⟨S, d⟩, eS⟩ : ∃ x, drawO c = x := ⟨_, rfl⟩
  rw [eS] at h1
  have h2 := belO_in (n := 10) h1.2
  obtain ⟨⟨v, k⟩, ev⟩ : ∃ x, belO d 10 = x := ⟨_, rfl⟩
  simp only at h1 h2
  rw [ev] at h2
  have h3 := pickI_in (l := [0, 5, 9998]) h2.1 (by decide)
  obtain ⟨⟨x, k2⟩, ex⟩ : ∃ x, pickI k [0, 5, 9998] = x := ⟨_, rfl⟩
  simp only at h2 h3
  rw [ex] at h3
  have h4 := pickI_in (l := [4, 9999, 10000]) h3.1 (by decide)
  obtain ⟨⟨y, k3⟩, ey⟩ : ∃ x, pickI k2 [4, 9999, 10000] = x := ⟨_, rfl⟩
  simp only at h3 h4
  rw [ey] at h4
  simp only at h4
  have q1 : S.length + 1 ≤ 9223372036854775807 := by omega
  have q2 : (S.length + 1) * 16 ≤ 140737488355328 := by omega
  have q3 : S.length * 16 ≤ 140737488355328 := by omega
  have q4 : S.length ≤ 9223372036854775806 := by omega
  have q6 : (1 + S.length) * 16 ≤ 140737488355328 := by omega
  have q7 : 1 + S.length ≤ 9223372036854775807 := by omega
  have q5 : S.length ≤ 9223372036854775807 := by omega
  by_cases k0 : v = 0
  · subst k0
    have e : anyS c = (S ++ [⟨x, y⟩], k3) := by simp [anyS, eS, ev, ex, ey]
    rw [e] at hr
    simp only [hc, eS, ev, ex, ey, h1.2, h2.1, h3.1, h4.1, q1, q2, q3, q4, q5, q6, q7, go_sem]
    repeat' ((first | ((first | apply qa | apply qb | apply qc | apply qd | apply qe | apply qf | apply qg | apply qh | apply qi | apply qj | apply qk) <;> intro hp) | ((first | refine ql rfl rfl (by decide +kernel) ?_ | refine qm _ rfl rfl (by decide +kernel) ?_ | refine goes_opn rfl ?_ | refine goes_opnD rfl rfl (by decide +kernel) ?_) <;> have hp := True.intro)) <;> simp only [hp, hc, eS, ev, ex, ey, h1.2, h2.1, h3.1, h4.1, q1, q2, q3, q4, q5, q6, q7, go_sem])
    simp only [fin_mk, finV, resL, resV1, resIn, endA, listIn, Option.some_or, Option.none_or, oneOrTup, go_sem]
    rw [← hr]
    first | rfl | (simp only [e, List.map_append]; rfl) | simp only [e, List.map_append]
  · by_cases k1 : v = 1
    · subst k1
      have e : anyS c = (⟨1, 1⟩ :: S, k) := by simp [anyS, eS, ev]
      rw [e] at hr
      simp only [hc, eS, ev, h1.2, h2.1, q1, q2, q3, q4, q5, q6, q7, go_sem]
      repeat' ((first | ((first | apply qa | apply qb | apply qc | apply qd | apply qe | apply qf | apply qg | apply qh | apply qi | apply qj | apply qk) <;> intro hp) | ((first | refine ql rfl rfl (by decide +kernel) ?_ | refine qm _ rfl rfl (by decide +kernel) ?_ | refine goes_opn rfl ?_ | refine goes_opnD rfl rfl (by decide +kernel) ?_) <;> have hp := True.intro)) <;> simp only [hp, hc, eS, ev, h1.2, h2.1, q1, q2, q3, q4, q5, q6, q7, go_sem])
      simp only [fin_mk, finV, resL, resV1, resIn, endA, listIn, Option.some_or, Option.none_or, oneOrTup, go_sem]
      rw [← hr]
      first | rfl | (simp only [e]; rfl) | simp only [e]
    · have n0 : (v == 0) = false := beq_eq_false_iff_ne.2 k0
      have n1 : (v == 1) = false := beq_eq_false_iff_ne.2 k1
      by_cases k2' : v = 2
      · subst k2'
        obtain ⟨⟨RS, RC⟩, hR⟩ : ∃ R, fillL 42 0 k S = R := ⟨_, rfl⟩
        have e : anyS c = (RS, RC) := by simp [anyS, eS, ev, hR]
        rw [e] at hr
        have n2 : ((2 : Int) == 0) = false := by decide
        have n3 : ((2 : Int) == 1) = false := by decide
        simp only [hc, e, eS, ev, h1.2, h2.1, n2, n3, q1, q2, q3, q4, q5, q6, q7, go_sem]
        repeat' ((first | ((first | apply qa | apply qb | apply qc | apply qd | apply qe | apply qf | apply qg | apply qh | apply qi | apply qj | apply qk) <;> intro hp) | ((first | refine ql rfl rfl (by decide +kernel) ?_ | refine qm _ rfl rfl (by decide +kernel) ?_ | refine goes_opn rfl ?_ | refine goes_opnD rfl rfl (by decide +kernel) ?_) <;> have hp := True.intro)) <;> simp only [hp, hc, e, eS, ev, h1.2, h2.1, n2, n3, q1, q2, q3, q4, q5, q6, q7, go_sem])
        refine loop_go (fun p : Nat × Cur × List Range => [(4, .int .i64 (p.1 : Int))]) (fun p => [(0, ⟨.box, 3, [p.2.1.enc]⟩), (1, ⟨.arr, 2, p.2.2.map Range.enc⟩)]) (fun p => 42 - p.1) (fun p => p.1 ≤ 41 ∧ curI p.2.1 ∧ p.2.2.length = S.length + p.1 ∧ p.2.2.length ≤ 41 ∧ fillL (42 - p.1) p.1 p.2.1 p.2.2 = (RS, RC)) (0, k, S) ⟨by omega, h2.1, rfl, by simp only; omega, hR⟩ rfl rfl ?_
        rintro ⟨i, d', a⟩ ⟨hi, hd, hl, hl2, he⟩ ih
        simp only at hi hd hl hl2 he ih
        have g1 := belO_in (n := 2) hd
        have gv := g1.2.2 (by decide)
        rw [show 42 - i = (42 - (i + 1)) + 1 by omega, fillL] at he
        obtain ⟨⟨v1, c1⟩, e1⟩ : ∃ x, belO d' 2 = x := ⟨_, rfl⟩
        rw [e1] at g1 gv he
        simp only at g1 gv he
        have w0 : IntKind.i64.wrap (40 + v1) = 40 + v1 := wrap64 (by omega) (by omega)
        by_cases g : (a.length : Int) < 40 + v1
        · rw [if_pos g] at he
          have ih' := ih (i + 1, c1, _) ⟨by omega, g1.1, by simp; omega, by simp; omega, he⟩ (by simp only; omega)
          simp only [List.map_append, List.map_cons, List.map_nil] at ih'
          have g5 : IntKind.i64.wrap ((i : Int) + 1) = ((i + 1 : Nat) : Int) := wrap_succ (n := 100) (by omega) (by omega)
          have w1 : IntKind.i64.wrap (3 * (i : Int)) = 3 * (i : Int) := wrap64 (by omega) (by omega)
          have w2 : IntKind.i64.wrap (100 + 3 * (i : Int)) = 100 + 3 * (i : Int) := wrap64 (by omega) (by omega)
          have w3 : IntKind.i64.wrap (101 + 3 * (i : Int)) = 101 + 3 * (i : Int) := wrap64 (by omega) (by omega)
          have r1 : (a.length + 1) * 16 ≤ 140737488355328 := by omega
          have r2 : a.length ≤ 9223372036854775806 := by omega
          simp only [hd, g1.1, e1, g, g5, w0, w1, w2, w3, r1, r2, go_sem]
          repeat' ((first | ((first | apply qa | apply qb | apply qc | apply qd | apply qe | apply qf | apply qg | apply qh | apply qi | apply qj | apply qk) <;> intro hp) | ((first | refine ql rfl rfl (by decide +kernel) ?_ | refine qm _ rfl rfl (by decide +kernel) ?_ | refine goes_opn rfl ?_ | refine goes_opnD rfl rfl (by decide +kernel) ?_) <;> have hp := True.intro)) <;> simp only [hp, hd, g1.1, e1, g, g5, w0, w1, w2, w3, r1, r2, go_sem])
          all_goals first | exact ih' | (clear ih'; omega)
        · rw [if_neg g] at he
          simp only [Prod.mk.injEq] at he
          obtain ⟨rfl, rfl⟩ := he
          simp only [hd, e1, g, w0, go_sem]
          repeat' ((first | ((first | apply qa | apply qb | apply qc | apply qd | apply qe | apply qf | apply qg | apply qh | apply qi | apply qj | apply qk) <;> intro hp) | ((first | refine ql rfl rfl (by decide +kernel) ?_ | refine qm _ rfl rfl (by decide +kernel) ?_ | refine goes_opn rfl ?_ | refine goes_opnD rfl rfl (by decide +kernel) ?_) <;> have hp := True.intro)) <;> simp only [hp, hd, e1, g, w0, go_sem])
          simp only [fin_mk, finV, resL, resV1, resIn, endA, listIn, Option.some_or, Option.none_or, oneOrTup, go_sem]
          rw [← hr]
      · have n2 : (v == 2) = false := beq_eq_false_iff_ne.2 k2'
        have e : anyS c = (S, k) := by simp [anyS, eS, ev, k0, k1, k2']
        rw [e] at hr
        simp only [hc, eS, ev, h1.2, h2.1, n0, n1, n2, q1, q2, q3, q4, q5, q6, q7, go_sem]
        repeat' ((first | ((first | apply qa | apply qb | apply qc | apply qd | apply qe | apply qf | apply qg | apply qh | apply qi | apply qj | apply qk) <;> intro hp) | ((first | refine ql rfl rfl (by decide +kernel) ?_ | refine qm _ rfl rfl (by decide +kernel) ?_ | refine goes_opn rfl ?_ | refine goes_opnD rfl rfl (by decide +kernel) ?_) <;> have hp := True.intro)) <;> simp only [hp, hc, eS, ev, h1.2, h2.1, n0, n1, n2, q1, q2, q3, q4, q5, q6, q7, go_sem])
        simp only [fin_mk, finV, resL, resV1, resIn, endA, listIn, Option.some_or, Option.none_or, oneOrTup, go_sem]
        rw [← hr]
        first | rfl | (simp only [e]; rfl) | simp only [e]
end Go.Proofs.Ytknagbmhmjcnkaa.L
