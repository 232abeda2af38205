/- Drawn numbers out of lists, drawn mails, drawn parts. -/
import Derived.Test.YtknagbmhmjcnkaaDoorVLDr3
namespace Go.Proofs.YtknagbmhmjcnkaaDoor.L
open Go Go.VM
set_option maxRecDepth 100000
set_option maxHeartbeats 4000000
set_option linter.unusedSimpArgs false
set_option linter.unusedVariables false
def pickI (c : Cur) (l : List Int) : Int × Cur := (l.getD (belO c l.length).1.toNat 0, (belO c l.length).2)
theorem pickI_in {c : Cur} {l : List Int} (h : curI c) (hl : 0 < l.length) : curI (pickI c l).2 ∧ (pickI c l).1 ∈ l := by
  have h1 := belO_in (n := (l.length : Int)) h
  have h2 := h1.2.2 (by omega)
  refine ⟨h1.1, ?_⟩
  have h3 : (belO c l.length).1.toNat < l.length := by omega
  rw [pickI]
  simp only [getD_lt h3]
  exact List.getElem_mem h3
open Classical in
noncomputable def spPickI : VM.Spec := { modes := [.ptr, .use], run := fun | [.rptr (c'), .lst 1 l'] => (Cur.dec c').bind fun c => (decL dInt l').bind fun l => if curI c ∧ 0 < l.length ∧ l.length ≤ 4194304 then some (.int .i64 ((pickI c l).1), [.rptr (Cur.enc ((pickI c l).2))]) else none | _ => none, need := [] }
attribute [go_sem] spPickI
theorem spPickI_in {ins : List V} {r : V} {outs : List V} (h : spPickI.run ins = some (r, outs)) : ∃ (c : Cur) (l : (List Int)), ins = [.rptr (Cur.enc c), .lst 1 ((l).map eInt)] ∧ (curI c ∧ 0 < l.length ∧ l.length ≤ 4194304) ∧ .int .i64 ((pickI c l).1) = r ∧ outs = [.rptr (Cur.enc ((pickI c l).2))] := by
  unfold spPickI at h
  simp only at h
  split at h
  · rename_i c' l'
    simp only [Option.bind_eq_some_iff] at h
    obtain ⟨c, h_c, l, h_l, h⟩ := h
    split at h
    case isFalse => cases h
    rename_i hc
    simp only [Option.some.injEq, Prod.mk.injEq] at h
    obtain ⟨h1, h2⟩ := h
    have h_c := Cur.dec_some h_c
    subst h_c
    have h_l := decL_some (fun _ _ h => dInt_some h) h_l
    subst h_l
    exact ⟨c, l, rfl, hc, h1, h2.symm⟩
  · cases h
def T_spec_l01PickInt : Hints := ⟨fun _ => none, fun _ => none, fun i => if i = 0 then some [0, 1] else if i = 1 then some [4] else none, fun _ => none⟩
noncomputable def Phi_spec_l01PickInt : Tab := fun f => if f = 26 then some spBelow else none
attribute [go_sem] T_spec_l01PickInt Phi_spec_l01PickInt
theorem phi_spec_l01PickInt : ∀ f sp, Phi_spec_l01PickInt f = some sp → FnOk Tryd.prog f sp ∧ ∀ n ∈ sp.need, n ∈ ([] : List String) := by
  intro f sp h
  unfold Phi_spec_l01PickInt at h
  by_cases e : f = 26
  · rw [if_pos e] at h; cases h; rw [e]; exact ⟨ok_spec_l01Below, (fun n (h : n ∈ ([] : List String)) => (nomatch h))⟩
  rw [if_neg e] at h
  cases h
theorem ok_spec_l01PickInt : FnOk Tryd.prog 34 spPickI := by
  refine fn_ok (Φ := Phi_spec_l01PickInt) (T := T_spec_l01PickInt) phi_spec_l01PickInt mixed Tryd.func34 rfl rfl rfl (by decide) ?_
  intro ins r outs hr hl
  clear hl
  have hs := spPickI_in hr
  clear hr
  obtain ⟨c, l, rfl, hc, hr, rfl⟩ := hs
  simp only [spPickI, Tryd.f34, Go.VM.initS]
  obtain ⟨hc, hl, hl2⟩ := hc
  have h1 := belO_in (n := (l.length : Int)) hc
  have h2 := h1.2.2 (by omega)
  obtain ⟨⟨v, d⟩, e⟩ : ∃ x, belO c l.length = x := ⟨_, rfl⟩
  rw [e] at h1 h2
  simp only at h1 h2
  obtain ⟨k, rfl⟩ : ∃ k : Nat, v = k := ⟨v.toNat, by omega⟩
  have g2 : k < l.length := by omega
  have e2 : pickI c l = (l[k], d) := by rw [pickI, e]; simp only [Int.toNat_natCast, getD_lt g2]
  rw [e2] at hr
  have g1 : (0 : Int) ≤ k := by omega
  have g3 : l[k]? = some l[k] := List.getElem?_eq_getElem g2
  have g4 : (k : Int) < l.length := by omega
  simp only [hc, e, g1, g3, g4, go_sem]
  repeat' ((first | ((first | apply qa | apply qb | apply qc | apply qd | apply qe | apply qf | apply qg | apply qh | apply qi | apply qj | apply qk) <;> intro hp) | ((first | refine ql rfl rfl (by decide +kernel) ?_ | refine qm _ rfl rfl (by decide +kernel) ?_ | refine goes_opn rfl ?_ | refine goes_opnD rfl rfl (by decide +kernel) ?_) <;> have hp := True.intro)) <;> simp only [hp, hc, e, g1, g3, g4, go_sem])
  simp only [fin_mk, finV, resL, resV1, resIn, endA, listIn, Option.some_or, Option.none_or, oneOrTup, go_sem]
  rw [← hr]
  first | rfl | (simp only [e2]; rfl) | simp only [e2]
def placeO (c : Cur) : Int × Cur := if ((belO c 15).1 == 0) = true then pickI (belO c 15).2 [-1, 9, 10, 9223372036854775807, -9223372036854775808] else belO (belO c 15).2 9
theorem placeO_in {c : Cur} (h : curI c) : curI (placeO c).2 := by
  have h1 := (belO_in (n := 15) h).1
  unfold placeO
  split
  · exact (pickI_in h1 (by decide)).1
  · exact (belO_in h1).1
open Classical in
noncomputable def spPlace : VM.Spec := { modes := [.ptr, .rd], run := fun | [.rptr (c'), .int .i64 n] => (Cur.dec c').bind fun c => if curI c ∧ n = 9 then some (.int .i64 ((placeO c).1), [.rptr (Cur.enc ((placeO c).2))]) else none | _ => none, need := [] }
attribute [go_sem] spPlace
theorem spPlace_in {ins : List V} {r : V} {outs : List V} (h : spPlace.run ins = some (r, outs)) : ∃ (c : Cur) (n : Int), ins = [.rptr (Cur.enc c), .int .i64 n] ∧ (curI c ∧ n = 9) ∧ .int .i64 ((placeO c).1) = r ∧ outs = [.rptr (Cur.enc ((placeO c).2))] := by
  unfold spPlace at h
  simp only at h
  split at h
  · rename_i c' n
    simp only [Option.bind_eq_some_iff] at h
    obtain ⟨c, h_c, h⟩ := h
    split at h
    case isFalse => cases h
    rename_i hc
    simp only [Option.some.injEq, Prod.mk.injEq] at h
    obtain ⟨h1, h2⟩ := h
    have h_c := Cur.dec_some h_c
    subst h_c
    exact ⟨c, n, rfl, hc, h1, h2.symm⟩
  · cases h
def T_spec_l01Place : Hints := ⟨fun _ => none, fun _ => none, fun i => if i = 0 then some [0, 1] else if i = 1 then some [0, 1, 6] else if i = 2 then some [4] else if i = 3 then some [4] else none, fun _ => none⟩
noncomputable def Phi_spec_l01Place : Tab := fun f => if f = 51 then some spOnce else if f = 34 then some spPickI else if f = 26 then some spBelow else none
attribute [go_sem] T_spec_l01Place Phi_spec_l01Place
theorem phi_spec_l01Place : ∀ f sp, Phi_spec_l01Place f = some sp → FnOk Tryd.prog f sp ∧ ∀ n ∈ sp.need, n ∈ ([] : List String) := by
  intro f sp h
  unfold Phi_spec_l01Place at h
  by_cases e : f = 51
  · rw [if_pos e] at h; cases h; rw [e]; exact ⟨ok_spec_l01Once, (fun n (h : n ∈ ([] : List String)) => (nomatch h))⟩
  rw [if_neg e] at h
  by_cases e : f = 34
  · rw [if_pos e] at h; cases h; rw [e]; exact ⟨ok_spec_l01PickInt, (fun n (h : n ∈ ([] : List String)) => (nomatch h))⟩
  rw [if_neg e] at h
  by_cases e : f = 26
  · rw [if_pos e] at h; cases h; rw [e]; exact ⟨ok_spec_l01Below, (fun n (h : n ∈ ([] : List String)) => (nomatch h))⟩
  rw [if_neg e] at h
  cases h
theorem ok_spec_l01Place : FnOk Tryd.prog 33 spPlace := by
  refine fn_ok (Φ := Phi_spec_l01Place) (T := T_spec_l01Place) phi_spec_l01Place mixed Tryd.func33 rfl rfl rfl (by decide) ?_
  intro ins r outs hr hl
  clear hl
  have hs := spPlace_in hr
  clear hr
  obtain ⟨c, n, rfl, hc, hr, rfl⟩ := hs
  simp only [spPlace, Tryd.f33, Go.VM.initS]
  obtain ⟨hc, rfl⟩ := hc
  have ja := belO_in (n := 15) hc
  obtain ⟨⟨va, ca⟩, ea⟩ : ∃ x, belO c 15 = x := ⟨_, rfl⟩
  rw [ea] at ja
  simp only at ja
  have w : IntKind.i64.wrap ((9 : Int) + 1) = 10 := by decide
  have w2 : IntKind.i64.wrap 10 = 10 := by decide
  cases h0 : (va == 0) with
  | true =>
    have e : placeO c = pickI ca [-1, 9, 10, 9223372036854775807, -9223372036854775808] := by simp only [placeO, ea, h0, if_true]
    rw [e] at hr
    simp only [hc, ea, ja.1, h0, w, w2, go_sem]
    repeat' ((first | ((first | apply qa | apply qb | apply qc | apply qd | apply qe | apply qf | apply qg | apply qh | apply qi | apply qj | apply qk) <;> intro hp) | ((first | refine ql rfl rfl (by decide +kernel) ?_ | refine qm _ rfl rfl (by decide +kernel) ?_ | refine goes_opn rfl ?_ | refine goes_opnD rfl rfl (by decide +kernel) ?_) <;> have hp := True.intro)) <;> simp only [hp, hc, ea, ja.1, h0, w, w2, go_sem])
    simp only [fin_mk, finV, resL, resV1, resIn, endA, listIn, Option.some_or, Option.none_or, oneOrTup, go_sem]
    rw [← hr]
    simp only [e]
  | false =>
    have e : placeO c = belO ca 9 := by simp only [placeO, ea, h0, Bool.false_eq_true, if_false]
    rw [e] at hr
    simp only [hc, ea, ja.1, h0, go_sem]
    repeat' ((first | ((first | apply qa | apply qb | apply qc | apply qd | apply qe | apply qf | apply qg | apply qh | apply qi | apply qj | apply qk) <;> intro hp) | ((first | refine ql rfl rfl (by decide +kernel) ?_ | refine qm _ rfl rfl (by decide +kernel) ?_ | refine goes_opn rfl ?_ | refine goes_opnD rfl rfl (by decide +kernel) ?_) <;> have hp := True.intro)) <;> simp only [hp, hc, ea, ja.1, h0, go_sem])
    simp only [fin_mk, finV, resL, resV1, resIn, endA, listIn, Option.some_or, Option.none_or, oneOrTup, go_sem]
    rw [← hr]
    simp only [e]
open Classical in
noncomputable def spDrawMail : VM.Spec := { modes := [.rd], run := fun | [.lst 1 code'] => (decL dU8 code').bind fun code => if code.length ≤ 4194304 then some (.str ((mailO (cur0 code)).1), []) else none | _ => none, need := [] }
attribute [go_sem] spDrawMail
theorem spDrawMail_in {ins : List V} {r : V} {outs : List V} (h : spDrawMail.run ins = some (r, outs)) : ∃ (code : (List Int)), ins = [.lst 1 ((code).map eU8)] ∧ (code.length ≤ 4194304) ∧ .str ((mailO (cur0 code)).1) = r ∧ outs = [] := by
  unfold spDrawMail at h
  simp only at h
  split at h
  · rename_i code'
    simp only [Option.bind_eq_some_iff] at h
    obtain ⟨code, h_code, h⟩ := h
    split at h
    case isFalse => cases h
    rename_i hc
    simp only [Option.some.injEq, Prod.mk.injEq] at h
    obtain ⟨h1, h2⟩ := h
    have h_code := decL_some (fun _ _ h => dU8_some h) h_code
    subst h_code
    exact ⟨code, rfl, hc, h1, h2.symm⟩
  · cases h
def T_spec_DrawMail : Hints := ⟨fun _ => none, fun _ => none, fun i => if i = 0 then some [0] else if i = 1 then some [2] else none, fun _ => none⟩
noncomputable def Phi_spec_DrawMail : Tab := fun f => if f = 24 then some spNew else if f = 30 then some spMail else none
attribute [go_sem] T_spec_DrawMail Phi_spec_DrawMail
theorem phi_spec_DrawMail : ∀ f sp, Phi_spec_DrawMail f = some sp → FnOk Tryd.prog f sp ∧ ∀ n ∈ sp.need, n ∈ ([] : List String) := by
  intro f sp h
  unfold Phi_spec_DrawMail at h
  by_cases e : f = 24
  · rw [if_pos e] at h; cases h; rw [e]; exact ⟨ok_spec_l01New, (fun n (h : n ∈ ([] : List String)) => (nomatch h))⟩
  rw [if_neg e] at h
  by_cases e : f = 30
  · rw [if_pos e] at h; cases h; rw [e]; exact ⟨ok_spec_l07Mail, (fun n (h : n ∈ ([] : List String)) => (nomatch h))⟩
  rw [if_neg e] at h
  cases h
theorem ok_spec_DrawMail : FnOk Tryd.prog 9 spDrawMail := by
  refine fn_ok (Φ := Phi_spec_DrawMail) (T := T_spec_DrawMail) phi_spec_DrawMail mixed Tryd.func9 rfl rfl rfl (by decide) ?_
  intro ins r outs hr hl
  clear hl
  have hs := spDrawMail_in hr
  clear hr
  obtain ⟨code, rfl, hc, hr, rfl⟩ := hs
  simp only [spDrawMail, Tryd.f9, Go.VM.initS]
  have i0 := cur0_in hc
  simp only [hc, i0, go_sem]
  repeat' ((first | ((first | apply qa | apply qb | apply qc | apply qd | apply qe | apply qf | apply qg | apply qh | apply qi | apply qj | apply qk) <;> intro hp) | ((first | refine ql rfl rfl (by decide +kernel) ?_ | refine qm _ rfl rfl (by decide +kernel) ?_ | refine goes_opn rfl ?_ | refine goes_opnD rfl rfl (by decide +kernel) ?_) <;> have hp := True.intro)) <;> simp only [hp, hc, i0, go_sem])
  simp only [fin_mk, finV, resL, resV1, resIn, endA, listIn, Option.some_or, Option.none_or, oneOrTup, go_sem]
  rw [← hr]
def partC (code : List Int) : Int × Cur := pickI (placeO (cur0 code)).2 [0, 1, 5, 300, -1, 9223372036854775807]
open Classical in
noncomputable def spDrawPart : VM.Spec := { modes := [.rd], run := fun | [.lst 1 code'] => (decL dU8 code').bind fun code => if code.length ≤ 4194304 then some (.tup [.str ((anyO (partC code).2).1), .int .i64 ((placeO (cur0 code)).1), .int .i64 ((partC code).1)], []) else none | _ => none, need := [] }
attribute [go_sem] spDrawPart
theorem spDrawPart_in {ins : List V} {r : V} {outs : List V} (h : spDrawPart.run ins = some (r, outs)) : ∃ (code : (List Int)), ins = [.lst 1 ((code).map eU8)] ∧ (code.length ≤ 4194304) ∧ .tup [.str ((anyO (partC code).2).1), .int .i64 ((placeO (cur0 code)).1), .int .i64 ((partC code).1)] = r ∧ outs = [] := by
  unfold spDrawPart at h
  simp only at h
  split at h
  · rename_i code'
    simp only [Option.bind_eq_some_iff] at h
    obtain ⟨code, h_code, h⟩ := h
    split at h
    case isFalse => cases h
    rename_i hc
    simp only [Option.some.injEq, Prod.mk.injEq] at h
    obtain ⟨h1, h2⟩ := h
    have h_code := decL_some (fun _ _ h => dU8_some h) h_code
    subst h_code
    exact ⟨code, rfl, hc, h1, h2.symm⟩
  · cases h
def T_spec_DrawPartOf : Hints := ⟨fun _ => none, fun _ => none, fun i => if i = 0 then some [0] else if i = 1 then some [5] else if i = 2 then some [5, 6] else if i = 3 then some [5, 6, 7] else if i = 4 then some [2, 3, 4] else none, fun _ => none⟩
noncomputable def Phi_spec_DrawPartOf : Tab := fun f => if f = 24 then some spNew else if f = 33 then some spPlace else if f = 34 then some spPickI else if f = 35 then some spAny else none
attribute [go_sem] T_spec_DrawPartOf Phi_spec_DrawPartOf
theorem phi_spec_DrawPartOf : ∀ f sp, Phi_spec_DrawPartOf f = some sp → FnOk Tryd.prog f sp ∧ ∀ n ∈ sp.need, n ∈ ([] : List String) := by
  intro f sp h
  unfold Phi_spec_DrawPartOf at h
  by_cases e : f = 24
  · rw [if_pos e] at h; cases h; rw [e]; exact ⟨ok_spec_l01New, (fun n (h : n ∈ ([] : List String)) => (nomatch h))⟩
  rw [if_neg e] at h
  by_cases e : f = 33
  · rw [if_pos e] at h; cases h; rw [e]; exact ⟨ok_spec_l01Place, (fun n (h : n ∈ ([] : List String)) => (nomatch h))⟩
  rw [if_neg e] at h
  by_cases e : f = 34
  · rw [if_pos e] at h; cases h; rw [e]; exact ⟨ok_spec_l01PickInt, (fun n (h : n ∈ ([] : List String)) => (nomatch h))⟩
  rw [if_neg e] at h
  by_cases e : f = 35
  · rw [if_pos e] at h; cases h; rw [e]; exact ⟨ok_spec_l07Any, (fun n (h : n ∈ ([] : List String)) => (nomatch h))⟩
  rw [if_neg e] at h
  cases h
theorem ok_spec_DrawPartOf : FnOk Tryd.prog 12 spDrawPart := by
  refine fn_ok (Φ := Phi_spec_DrawPartOf) (T := T_spec_DrawPartOf) phi_spec_DrawPartOf mixed Tryd.func12 rfl rfl rfl (by decide) ?_
  intro ins r outs hr hl
  clear hl
  have hs := spDrawPart_in hr
  clear hr
  obtain ⟨code, rfl, hc, hr, rfl⟩ := hs
  simp only [spDrawPart, Tryd.f12, Go.VM.initS]
  have i0 := cur0_in hc
  have i1 := placeO_in i0
  have i2 := (pickI_in (l := [0, 1, 5, 300, -1, 9223372036854775807]) i1 (by decide)).1
  simp only [partC] at hr
  simp only [hc, i0, i1, i2, go_sem]
  repeat' ((first | ((first | apply qa | apply qb | apply qc | apply qd | apply qe | apply qf | apply qg | apply qh | apply qi | apply qj | apply qk) <;> intro hp) | ((first | refine ql rfl rfl (by decide +kernel) ?_ | refine qm _ rfl rfl (by decide +kernel) ?_ | refine goes_opn rfl ?_ | refine goes_opnD rfl rfl (by decide +kernel) ?_) <;> have hp := True.intro)) <;> simp only [hp, hc, i0, i1, i2, go_sem])
  simp only [fin_mk, finV, resL, resV1, resIn, endA, listIn, Option.some_or, Option.none_or, oneOrTup, go_sem]
  rw [← hr]
end Go.Proofs.YtknagbmhmjcnkaaDoor.L
