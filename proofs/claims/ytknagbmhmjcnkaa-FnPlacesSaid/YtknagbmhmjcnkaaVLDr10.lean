/- Lines drawn, right or not; what TakeLine is tried at; lists of what is seen compared. -/
import Derived.Test.YtknagbmhmjcnkaaVLDr9
namespace Go.Proofs.Ytknagbmhmjcnkaa.L
open Go Go.VM
set_option maxRecDepth 100000
set_option maxHeartbeats 4000000
set_option linter.unusedSimpArgs false
set_option linter.unusedVariables false
theorem lineD_in {c : Cur} (h : curI c) : (lineD c).1.Set.length ≤ 41 ∧ curI (lineD c).2 := by
  have h1 := belO_in (n := 9) h
  have hD := drawO_in h1.1
  have a1 := belO_in (n := 9) h1.1
  have b1 := belO_in (n := 5) h1.1
  have b2 := belO_in (n := 20) b1.1
  have b3 := belO_in (n := 32) b2.1
  have b4 := belO_in (n := 30) b3.1
  have d2 := belO_in (n := 30) b1.1
  have d3 := belO_in (n := 2) d2.1
  have s := setAdd_len (drawO (belO c 9).2).1 3 4 hD.1
  unfold lineD
  simp only
  repeat' split
  all_goals first
    | exact ⟨by simp, a1.1⟩ | exact ⟨by simp, b4.1⟩ | exact ⟨by simp, d3.1⟩ | exact ⟨by simp, h1.1⟩
    | exact ⟨by simp only; omega, hD.2⟩
def lineA (c : Cur) : Line × Cur :=
  let k := belO c 12
  let y := belO k.2 60
  let x := lineD y.2
  if k.1 = 0 then ({ x.1 with Kind := y.1.tmod 11 }, x.2) else
  if k.1 = 1 then ({ x.1 with Num := ([-1, 0, 30, 31, 10000] : List Int).getD (y.1.tmod 5).toNat 0 }, x.2) else
  if k.1 = 2 then ({ x.1 with Uid := y.1 }, x.2) else
  if k.1 = 3 then ({ x.1 with All := true }, x.2) else
  if k.1 = 4 then ({ x.1 with Set := (anyS x.2).1 }, (anyS x.2).2) else x
theorem lineA_in {c : Cur} (h : curI c) : (lineA c).1.Set.length ≤ 41 ∧ curI (lineA c).2 := by
  have h1 := belO_in (n := 12) h
  have h2 := belO_in (n := 60) h1.1
  have h3 := lineD_in h2.1
  have h4 := anyS_in h3.2
  unfold lineA
  simp only
  repeat' split
  all_goals first | exact h3 | exact h4
open Classical in
noncomputable def spLineA : VM.Spec := { modes := [.ptr], run := fun | [.rptr (c')] => (Cur.dec c').bind fun c => if curI c then some (Line.enc ((lineA c).1), [.rptr (Cur.enc ((lineA c).2))]) else none | _ => none, need := [] }
attribute [go_sem] spLineA
theorem spLineA_in {ins : List V} {r : V} {outs : List V} (h : spLineA.run ins = some (r, outs)) : ∃ (c : Cur), ins = [.rptr (Cur.enc c)] ∧ (curI c) ∧ Line.enc ((lineA c).1) = r ∧ outs = [.rptr (Cur.enc ((lineA c).2))] := by
  unfold spLineA at h
  simp only at h
  split at h
  · rename_i c'
    simp only [Option.bind_eq_some_iff] at h
    obtain ⟨c, h_c, h⟩ := h
    split at h
    case isFalse => cases h
    rename_i hc
    simp only [Option.some.injEq, Prod.mk.injEq] at h
    obtain ⟨h1, h2⟩ := h
    have h_c := Cur.dec_some h_c
    subst h_c
    exact ⟨c, rfl, hc, h1, h2.symm⟩
  · cases h
def T_spec_l13Any : Hints := ⟨fun _ => none, fun _ => none, fun i => if i = 0 then some [0, 2] else if i = 1 then some [0, 2, 3] else if i = 2 then some [0, 2, 3, 4] else if i = 3 then some [0, 2, 3, 4, 5] else if i = 4 then some [0, 2, 4, 5, 12] else if i = 5 then some [0, 2, 4, 5, 12, 13] else if i = 6 then some [2, 5] else if i = 7 then some [0, 2, 4, 5, 12, 18] else if i = 8 then some [2, 5] else if i = 9 then some [0, 2, 4, 5, 12, 26] else if i = 10 then some [2, 5] else if i = 11 then some [0, 2, 5, 12, 30] else if i = 12 then some [2, 5] else if i = 13 then some [0, 2, 5, 33] else if i = 14 then some [2, 5] else if i = 15 then some [2] else none, fun _ => none⟩
noncomputable def Phi_spec_l13Any : Tab := fun f => if f = 14 then some spBelow else if f = 19 then some spLineD else if f = 20 then some spAnyS else none
attribute [go_sem] T_spec_l13Any Phi_spec_l13Any
theorem phi_spec_l13Any : ∀ f sp, Phi_spec_l13Any f = some sp → FnOk Try.prog f sp ∧ ∀ n ∈ sp.need, n ∈ ([] : List String) := by
  intro f sp h
  unfold Phi_spec_l13Any at h
  by_cases e : f = 14
  · rw [if_pos e] at h; cases h; rw [e]; exact ⟨ok_spec_l01Below, (fun n (h : n ∈ ([] : List String)) => (nomatch h))⟩
  rw [if_neg e] at h
  by_cases e : f = 19
  · rw [if_pos e] at h; cases h; rw [e]; exact ⟨ok_spec_l13Line, (fun n (h : n ∈ ([] : List String)) => (nomatch h))⟩
  rw [if_neg e] at h
  by_cases e : f = 20
  · rw [if_pos e] at h; cases h; rw [e]; exact ⟨ok_spec_l05Any, (fun n (h : n ∈ ([] : List String)) => (nomatch h))⟩
  rw [if_neg e] at h
  cases h
theorem ok_spec_l13Any : FnOk Try.prog 11 spLineA := by
  refine fn_ok (Φ := Phi_spec_l13Any) (T := T_spec_l13Any) phi_spec_l13Any mixed Try.func11 rfl rfl rfl (by decide) ?_
  intro ins r outs hr hl
  clear hl
  have hs := spLineA_in hr
  clear hr
  obtain ⟨c, rfl, hc, hr, rfl⟩ := hs
  simp only [spLineA, Try.f11, Go.VM.initS]
  have h1 := belO_in (n := 12) hc
  obtain ⟨⟨k, c1⟩, e1⟩ : ∃ x, belO c 12 = x := ⟨_, rfl⟩
  rw [e1] at h1
  have h2 := belO_in (n := 60) h1.1
  obtain ⟨⟨y, c2⟩, e2⟩ : ∃ x, belO c1 60 = x := ⟨_, rfl⟩
  simp only at h1 h2
  rw [e2] at h2
  have h3 := lineD_in h2.1
  obtain ⟨⟨X, c3⟩, e3⟩ : ∃ x, lineD c2 = x := ⟨_, rfl⟩
  simp only at h2 h3
  rw [e3] at h3
  simp only at h3
  have h4 := anyS_in h3.2
  obtain ⟨K, N, U, F, M, S, A⟩ := X
  by_cases k0 : k = 0
  · subst k0
    have e : lineA c = (⟨y.tmod 11, N, U, F, M, S, A⟩, c3) := by simp [lineA, e1, e2, e3]
    rw [e] at hr
    simp only [hc, e1, e2, e3, h1.1, h2.1, h3.2, go_sem]
    repeat' ((first | ((first | apply qa | apply qb | apply qc | apply qd | apply qe | apply qf | apply qg | apply qh | apply qi | apply qj | apply qk) <;> intro hp) | ((first | refine ql rfl rfl (by decide +kernel) ?_ | refine qm _ rfl rfl (by decide +kernel) ?_ | refine goes_opn rfl ?_ | refine goes_opnD rfl rfl (by decide +kernel) ?_) <;> have hp := True.intro)) <;> simp only [hp, hc, e1, e2, e3, h1.1, h2.1, h3.2, go_sem])
    simp only [fin_mk, finV, resL, resV1, resIn, endA, listIn, Option.some_or, Option.none_or, oneOrTup, go_sem]
    rw [← hr]
    first | rfl | (simp only [e]; rfl) | simp only [e]
  by_cases k1 : k = 1
  · subst k1
    have e : lineA c = (⟨K, ([-1, 0, 30, 31, 10000] : List Int).getD (y.tmod 5).toNat 0, U, F, M, S, A⟩, c3) := by simp [lineA, e1, e2, e3]
    have m1 := Int.tmod_nonneg 5 h2.2.1
    have m2 := Int.tmod_lt_of_pos y (show (0 : Int) < 5 by decide)
    have m3 : (y.tmod 5).toNat < ([-1, 0, 30, 31, 10000] : List Int).length := by simp only [List.length_cons, List.length_nil]; omega
    obtain ⟨j, hj⟩ : ∃ j : Nat, y.tmod 5 = j := ⟨(y.tmod 5).toNat, by omega⟩
    rw [e] at hr
    rw [hj] at m1 m2 m3 hr e
    simp only [Int.toNat_natCast] at m3 hr e
    have m4 : ([-1, 0, 30, 31, 10000] : List Int)[j]? = some (([-1, 0, 30, 31, 10000] : List Int).getD j 0) := by rw [getD_lt m3]; exact List.getElem?_eq_getElem m3
    obtain ⟨N', hN⟩ : ∃ N', ([-1, 0, 30, 31, 10000] : List Int).getD j 0 = N' := ⟨_, rfl⟩
    rw [hN] at m4 hr e
    have m5 : ([V.int .i64 (-1), V.int .i64 0, V.int .i64 30, V.int .i64 31, V.int .i64 10000] : List V)[j]? = some (V.int .i64 N') := by
      have : ([V.int .i64 (-1), V.int .i64 0, V.int .i64 30, V.int .i64 31, V.int .i64 10000] : List V) = ([-1, 0, 30, 31, 10000] : List Int).map eInt := rfl
      rw [this, List.getElem?_map, m4]; rfl
    have m6 : (j : Int) < ((5 : Nat) : Int) := m2
    simp only [hc, e1, e2, e3, h1.1, h2.1, h3.2, hj, m1, m2, m5, m6, go_sem]
    repeat' ((first | ((first | apply qa | apply qb | apply qc | apply qd | apply qe | apply qf | apply qg | apply qh | apply qi | apply qj | apply qk) <;> intro hp) | ((first | refine ql rfl rfl (by decide +kernel) ?_ | refine qm _ rfl rfl (by decide +kernel) ?_ | refine goes_opn rfl ?_ | refine goes_opnD rfl rfl (by decide +kernel) ?_) <;> have hp := True.intro)) <;> simp only [hp, hc, e1, e2, e3, h1.1, h2.1, h3.2, hj, m1, m2, m5, m6, go_sem])
    simp only [fin_mk, finV, resL, resV1, resIn, endA, listIn, Option.some_or, Option.none_or, oneOrTup, go_sem]
    rw [← hr]
    first | rfl | (simp only [e]; rfl) | simp only [e]
  by_cases k2 : k = 2
  · subst k2
    have e : lineA c = (⟨K, N, y, F, M, S, A⟩, c3) := by simp [lineA, e1, e2, e3]
    rw [e] at hr
    simp only [hc, e1, e2, e3, h1.1, h2.1, h3.2, go_sem]
    repeat' ((first | ((first | apply qa | apply qb | apply qc | apply qd | apply qe | apply qf | apply qg | apply qh | apply qi | apply qj | apply qk) <;> intro hp) | ((first | refine ql rfl rfl (by decide +kernel) ?_ | refine qm _ rfl rfl (by decide +kernel) ?_ | refine goes_opn rfl ?_ | refine goes_opnD rfl rfl (by decide +kernel) ?_) <;> have hp := True.intro)) <;> simp only [hp, hc, e1, e2, e3, h1.1, h2.1, h3.2, go_sem])
    simp only [fin_mk, finV, resL, resV1, resIn, endA, listIn, Option.some_or, Option.none_or, oneOrTup, go_sem]
    rw [← hr]
    first | rfl | (simp only [e]; rfl) | simp only [e]
  by_cases k3 : k = 3
  · subst k3
    have e : lineA c = (⟨K, N, U, F, M, S, true⟩, c3) := by simp [lineA, e1, e2, e3]
    rw [e] at hr
    simp only [hc, e1, e2, e3, h1.1, h2.1, h3.2, go_sem]
    repeat' ((first | ((first | apply qa | apply qb | apply qc | apply qd | apply qe | apply qf | apply qg | apply qh | apply qi | apply qj | apply qk) <;> intro hp) | ((first | refine ql rfl rfl (by decide +kernel) ?_ | refine qm _ rfl rfl (by decide +kernel) ?_ | refine goes_opn rfl ?_ | refine goes_opnD rfl rfl (by decide +kernel) ?_) <;> have hp := True.intro)) <;> simp only [hp, hc, e1, e2, e3, h1.1, h2.1, h3.2, go_sem])
    simp only [fin_mk, finV, resL, resV1, resIn, endA, listIn, Option.some_or, Option.none_or, oneOrTup, go_sem]
    rw [← hr]
    first | rfl | (simp only [e]; rfl) | simp only [e]
  by_cases k4 : k = 4
  · subst k4
    have e : lineA c = (⟨K, N, U, F, M, (anyS c3).1, A⟩, (anyS c3).2) := by simp [lineA, e1, e2, e3]
    rw [e] at hr
    simp only [hc, e1, e2, e3, h1.1, h2.1, h3.2, h4.2, go_sem]
    repeat' ((first | ((first | apply qa | apply qb | apply qc | apply qd | apply qe | apply qf | apply qg | apply qh | apply qi | apply qj | apply qk) <;> intro hp) | ((first | refine ql rfl rfl (by decide +kernel) ?_ | refine qm _ rfl rfl (by decide +kernel) ?_ | refine goes_opn rfl ?_ | refine goes_opnD rfl rfl (by decide +kernel) ?_) <;> have hp := True.intro)) <;> simp only [hp, hc, e1, e2, e3, h1.1, h2.1, h3.2, h4.2, go_sem])
    simp only [fin_mk, finV, resL, resV1, resIn, endA, listIn, Option.some_or, Option.none_or, oneOrTup, go_sem]
    rw [← hr]
    first | rfl | (simp only [e]; rfl) | simp only [e]
  have n0 : (k == 0) = false := beq_eq_false_iff_ne.2 k0
  have n1 : (k == 1) = false := beq_eq_false_iff_ne.2 k1
  have n2 : (k == 2) = false := beq_eq_false_iff_ne.2 k2
  have n3 : (k == 3) = false := beq_eq_false_iff_ne.2 k3
  have n4 : (k == 4) = false := beq_eq_false_iff_ne.2 k4
  have e : lineA c = (⟨K, N, U, F, M, S, A⟩, c3) := by simp [lineA, e1, e2, e3, k0, k1, k2, k3, k4]
  rw [e] at hr
  simp only [hc, e1, e2, e3, h1.1, h2.1, h3.2, n0, n1, n2, n3, n4, go_sem]
  repeat' ((first | ((first | apply qa | apply qb | apply qc | apply qd | apply qe | apply qf | apply qg | apply qh | apply qi | apply qj | apply qk) <;> intro hp) | ((first | refine ql rfl rfl (by decide +kernel) ?_ | refine qm _ rfl rfl (by decide +kernel) ?_ | refine goes_opn rfl ?_ | refine goes_opnD rfl rfl (by decide +kernel) ?_) <;> have hp := True.intro)) <;> simp only [hp, hc, e1, e2, e3, h1.1, h2.1, h3.2, n0, n1, n2, n3, n4, go_sem])
  simp only [fin_mk, finV, resL, resV1, resIn, endA, listIn, Option.some_or, Option.none_or, oneOrTup, go_sem]
  rw [← hr]
  first | rfl | (simp only [e]; rfl) | simp only [e]
open Classical in
noncomputable def spDrawTakeLine : VM.Spec := { modes := [.rd], run := fun | [.lst 1 code'] => (decL dU8 code').bind fun code => if code.length ≤ 4194304 then some (.tup [.lst 3 (((seensL 8 0 (lineA (cur0 code)).2 []).1).map Seen.enc), Line.enc ((lineA (cur0 code)).1)], []) else none | _ => none, need := [] }
attribute [go_sem] spDrawTakeLine
theorem spDrawTakeLine_in {ins : List V} {r : V} {outs : List V} (h : spDrawTakeLine.run ins = some (r, outs)) : ∃ (code : (List Int)), ins = [.lst 1 ((code).map eU8)] ∧ (code.length ≤ 4194304) ∧ .tup [.lst 3 (((seensL 8 0 (lineA (cur0 code)).2 []).1).map Seen.enc), Line.enc ((lineA (cur0 code)).1)] = r ∧ outs = [] := by
  unfold spDrawTakeLine at h
  simp only at h
  split at h
  · rename_i code'
    simp only [Option.bind_eq_some_iff] at h
    obtain ⟨code, h_code, h⟩ := h
    split at h
    case isFalse => cases h
    rename_i hc
    simp only [Option.some.injEq, Prod.mk.injEq] at h
    obtain ⟨h1, h2⟩ := h
    have h_code := decL_some (fun _ _ h => dU8_some h) h_code
    subst h_code
    exact ⟨code, rfl, hc, h1, h2.symm⟩
  · cases h
def T_spec_DrawTakeLine : Hints := ⟨fun i => if i = 3 then some [(1, 2)] else none, fun _ => none, fun i => if i = 0 then some [0, 3] else if i = 1 then some [3, 4] else if i = 2 then some [3, 4, 5] else if i = 3 then some [2, 3] else none, fun _ => none⟩
noncomputable def Phi_spec_DrawTakeLine : Tab := fun f => if f = 10 then some spNew else if f = 11 then some spLineA else if f = 12 then some spSeens else none
attribute [go_sem] T_spec_DrawTakeLine Phi_spec_DrawTakeLine
theorem phi_spec_DrawTakeLine : ∀ f sp, Phi_spec_DrawTakeLine f = some sp → FnOk Try.prog f sp ∧ ∀ n ∈ sp.need, n ∈ ([] : List String) := by
  intro f sp h
  unfold Phi_spec_DrawTakeLine at h
  by_cases e : f = 10
  · rw [if_pos e] at h; cases h; rw [e]; exact ⟨ok_spec_l01New, (fun n (h : n ∈ ([] : List String)) => (nomatch h))⟩
  rw [if_neg e] at h
  by_cases e : f = 11
  · rw [if_pos e] at h; cases h; rw [e]; exact ⟨ok_spec_l13Any, (fun n (h : n ∈ ([] : List String)) => (nomatch h))⟩
  rw [if_neg e] at h
  by_cases e : f = 12
  · rw [if_pos e] at h; cases h; rw [e]; exact ⟨ok_spec_l13Seens, (fun n (h : n ∈ ([] : List String)) => (nomatch h))⟩
  rw [if_neg e] at h
  cases h
theorem ok_spec_DrawTakeLine : FnOk Try.prog 5 spDrawTakeLine := by
  refine fn_ok (Φ := Phi_spec_DrawTakeLine) (T := T_spec_DrawTakeLine) phi_spec_DrawTakeLine mixed Try.func5 rfl rfl rfl (by decide) ?_
  intro ins r outs hr hl
  clear hl
  have hs := spDrawTakeLine_in hr
  clear hr
  obtain ⟨code, rfl, hc, hr, rfl⟩ := hs
  simp only [spDrawTakeLine, Try.f5, Go.VM.initS]
  have i0 := cur0_in hc
  have i1 := (lineA_in i0).2
  simp only [hc, i0, i1, go_sem]
  repeat' ((first | ((first | apply qa | apply qb | apply qc | apply qd | apply qe | apply qf | apply qg | apply qh | apply qi | apply qj | apply qk) <;> intro hp) | ((first | refine ql rfl rfl (by decide +kernel) ?_ | refine qm _ rfl rfl (by decide +kernel) ?_ | refine goes_opn rfl ?_ | refine goes_opnD rfl rfl (by decide +kernel) ?_) <;> have hp := True.intro)) <;> simp only [hp, hc, i0, i1, go_sem])
  simp only [fin_mk, finV, resL, resV1, resIn, endA, listIn, Option.some_or, Option.none_or, oneOrTup, go_sem]
  rw [← hr]
  rfl
theorem seen_beq (a b : Seen) : (a.Uid == b.Uid && (a.Flags == b.Flags && a.Mod == b.Mod)) = decide (a = b) := by
  cases a; cases b; rw [Bool.eq_iff_iff]; simp
open Classical in
noncomputable def spSameSeens : VM.Spec := { modes := [.rd, .rd], run := fun | [.lst 3 x', .lst 3 y'] => (decL Seen.dec x').bind fun x => (decL Seen.dec y').bind fun y => if x.length ≤ 4194304 ∧ y.length ≤ 4194304 then some (.bool (decide (x = y)), []) else none | _ => none, need := [] }
attribute [go_sem] spSameSeens
theorem spSameSeens_in {ins : List V} {r : V} {outs : List V} (h : spSameSeens.run ins = some (r, outs)) : ∃ (x : (List Seen)) (y : (List Seen)), ins = [.lst 3 ((x).map Seen.enc), .lst 3 ((y).map Seen.enc)] ∧ (x.length ≤ 4194304 ∧ y.length ≤ 4194304) ∧ .bool (decide (x = y)) = r ∧ outs = [] := by
  unfold spSameSeens at h
  simp only at h
  split at h
  · rename_i x' y'
    simp only [Option.bind_eq_some_iff] at h
    obtain ⟨x, h_x, y, h_y, h⟩ := h
    split at h
    case isFalse => cases h
    rename_i hc
    simp only [Option.some.injEq, Prod.mk.injEq] at h
    obtain ⟨h1, h2⟩ := h
    have h_x := decL_some (fun _ _ h => Seen.dec_some h) h_x
    subst h_x
    have h_y := decL_some (fun _ _ h => Seen.dec_some h) h_y
    subst h_y
    exact ⟨x, y, rfl, hc, h1, h2.symm⟩
  · cases h
def T_laws_sameSeens : Hints := ⟨fun i => if i = 6 then some [] else none, fun i => if i = 4 then some [0, 1, 5] else none, fun i => if i = 0 then some [0, 1] else if i = 1 then some [0, 1, 10] else if i = 2 then some [4] else if i = 3 then some [0, 1, 5] else if i = 4 then some [0, 1, 5, 14] else if i = 6 then some [0, 1, 5, 25] else if i = 7 then some [4] else if i = 5 then some [0, 1, 5] else if i = 8 then some [4] else none, fun _ => none⟩
noncomputable def Phi_laws_sameSeens : Tab := fun f => none
attribute [go_sem] T_laws_sameSeens Phi_laws_sameSeens
theorem phi_laws_sameSeens : ∀ f sp, Phi_laws_sameSeens f = some sp → FnOk Try.prog f sp ∧ ∀ n ∈ sp.need, n ∈ ([] : List String) := by
  intro f sp h
  unfold Phi_laws_sameSeens at h
  cases h
theorem ok_laws_sameSeens : FnOk Try.prog 8 spSameSeens := by
  refine fn_ok (Φ := Phi_laws_sameSeens) (T := T_laws_sameSeens) phi_laws_sameSeens mixed Try.func8 rfl rfl rfl (by decide) ?_
  intro ins r outs hr hl
  clear hl
  have hs := spSameSeens_in hr
  clear hr
  obtain ⟨x, y, rfl, hc, hr, rfl⟩ := hs
  simp only [spSameSeens, Try.f8, Go.VM.initS]
  obtain ⟨hx, hy⟩ := hc
  by_cases hl : x.length = y.length
  case neg =>
    have g : ((x.length : Int) == y.length) = false := by rw [beq_eq_false_iff_ne]; omega
    have g' : ((x.length : Int) != y.length) = true := by rw [bne_iff_ne]; omega
    have hne : x ≠ y := fun e => hl (by rw [e])
    simp only [g, g', go_sem]
    repeat' ((first | ((first | apply qa | apply qb | apply qc | apply qd | apply qe | apply qf | apply qg | apply qh | apply qi | apply qj | apply qk) <;> intro hp) | ((first | refine ql rfl rfl (by decide +kernel) ?_ | refine qm _ rfl rfl (by decide +kernel) ?_ | refine goes_opn rfl ?_ | refine goes_opnD rfl rfl (by decide +kernel) ?_) <;> have hp := True.intro)) <;> simp only [hp, g, g', go_sem])
    simp only [fin_mk, finV, resL, resV1, resIn, endA, listIn, Option.some_or, Option.none_or, oneOrTup, go_sem]
    rw [← hr]
    simp only [hne, decide_false]
  have hl' : (x.length : Int) = y.length := by omega
  simp only [hl, bne_self_eq_false, go_sem]
  repeat' ((first | ((first | apply qa | apply qb | apply qc | apply qd | apply qe | apply qf | apply qg | apply qh | apply qi | apply qj | apply qk) <;> intro hp) | ((first | refine ql rfl rfl (by decide +kernel) ?_ | refine qm _ rfl rfl (by decide +kernel) ?_ | refine goes_opn rfl ?_ | refine goes_opnD rfl rfl (by decide +kernel) ?_) <;> have hp := True.intro)) <;> simp only [hp, hl, bne_self_eq_false, go_sem])
  refine loop_go (fun i : Nat => [(5, .int .i64 (i : Int))]) (fun _ => []) (fun i => x.length - i) (fun i => i ≤ x.length ∧ x.take i = y.take i) 0 ⟨Nat.zero_le _, by simp⟩ rfl rfl ?_
  intro i ⟨hi, he⟩ ih
  rcases Nat.lt_or_ge i x.length with h | h
  · have g1 : (i : Int) < x.length := by omega
    have g1' : (i : Int) < y.length := by omega
    have g2 : (0 : Int) ≤ i := by omega
    have g3 : x[i]? = some x[i] := List.getElem?_eq_getElem h
    have g4 : y[i]? = some (y[i]'(by omega)) := List.getElem?_eq_getElem (by omega)
    have g5 := wrap_succ h (by omega)
    by_cases hv : x[i] = (y[i]'(by omega))
    · simp only [g1, g1', g2, g3, g4, g5, hv, bne_self_eq_false, Bool.or_false, go_sem]
      repeat' ((first | ((first | apply qa | apply qb | apply qc | apply qd | apply qe | apply qf | apply qg | apply qh | apply qi | apply qj | apply qk) <;> intro hp) | ((first | refine ql rfl rfl (by decide +kernel) ?_ | refine qm _ rfl rfl (by decide +kernel) ?_ | refine goes_opn rfl ?_ | refine goes_opnD rfl rfl (by decide +kernel) ?_) <;> have hp := True.intro)) <;> simp only [hp, g1, g1', g2, g3, g4, g5, hv, bne_self_eq_false, Bool.or_false, go_sem])
      exact ih (i + 1) ⟨h, by rw [List.take_add_one, List.take_add_one, he, g3, g4, hv]⟩ (by omega)
    · have hne : x ≠ y := by rintro rfl; exact hv rfl
      have hv2 := seen_beq x[i] (y[i]'(by omega))
      rw [decide_eq_false hv] at hv2
      simp only [g1, g1', g2, g3, g4, g5, hv2, go_sem]
      repeat' ((first | ((first | apply qa | apply qb | apply qc | apply qd | apply qe | apply qf | apply qg | apply qh | apply qi | apply qj | apply qk) <;> intro hp) | ((first | refine ql rfl rfl (by decide +kernel) ?_ | refine qm _ rfl rfl (by decide +kernel) ?_ | refine goes_opn rfl ?_ | refine goes_opnD rfl rfl (by decide +kernel) ?_) <;> have hp := True.intro)) <;> simp only [hp, g1, g1', g2, g3, g4, g5, hv2, go_sem])
      simp only [fin_mk, finV, resL, resV1, resIn, endA, listIn, Option.some_or, Option.none_or, oneOrTup, go_sem]
      rw [← hr]
      simp only [hne, decide_false]
  · have g1 : ¬ (i : Int) < x.length := by omega
    have g1' : ¬ (i : Int) < y.length := by omega
    simp only [g1, g1', go_sem]
    simp only [fin_mk, finV, resL, resV1, resIn, endA, listIn, Option.some_or, Option.none_or, oneOrTup, go_sem]
    rw [← hr]
    rw [List.take_of_length_le h, List.take_of_length_le (by omega)] at he
    simp only [he, decide_true]
end Go.Proofs.Ytknagbmhmjcnkaa.L
