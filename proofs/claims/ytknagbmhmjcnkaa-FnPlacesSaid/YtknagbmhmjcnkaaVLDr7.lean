/- Drawn lines. -/
import Derived.Test.YtknagbmhmjcnkaaVLDr6
import Derived.Test.YtknagbmhmjcnkaaVLDr5
namespace Go.Proofs.Ytknagbmhmjcnkaa.L
open Go Go.VM
set_option maxRecDepth 100000
set_option maxHeartbeats 4000000
set_option linter.unusedSimpArgs false
set_option linter.unusedVariables false
def lineD (c : Cur) : Line × Cur :=
  let k := belO c 9
  if k.1 = 0 ∨ k.1 = 1 ∨ k.1 = 7 then (⟨1 + k.1, 1 + (belO k.2 9).1, 0, 0, 0, [], false⟩, (belO k.2 9).2) else
  if k.1 = 2 then (⟨3, 1 + (belO k.2 5).1, 1 + (belO (belO k.2 5).2 20).1, (belO (belO (belO k.2 5).2 20).2 32).1, 1 + (belO (belO (belO (belO k.2 5).2 20).2 32).2 30).1, [], false⟩, (belO (belO (belO (belO k.2 5).2 20).2 32).2 30).2) else
  if k.1 = 4 then (⟨5, 1 + (belO k.2 5).1, 0, 0, 1 + (belO (belO k.2 5).2 30).1, [], (belO (belO (belO k.2 5).2 30).2 2).1 == 0⟩, (belO (belO (belO k.2 5).2 30).2 2).2) else
  if k.1 = 5 then (⟨6, 0, 0, 0, 0, (drawO k.2).1, false⟩, (drawO k.2).2) else
  if k.1 = 3 then (⟨4, 0, 0, 0, 0, setAdd (drawO k.2).1 3 4, false⟩, (drawO k.2).2) else
  (⟨1 + k.1, 0, 0, 0, 0, [], false⟩, k.2)
open Classical in
noncomputable def spLineD : VM.Spec := { modes := [.ptr], run := fun | [.rptr (c')] => (Cur.dec c').bind fun c => if curI c then some (Line.enc ((lineD c).1), [.rptr (Cur.enc ((lineD c).2))]) else none | _ => none, need := [] }
attribute [go_sem] spLineD
theorem spLineD_in {ins : List V} {r : V} {outs : List V} (h : spLineD.run ins = some (r, outs)) : ∃ (c : Cur), ins = [.rptr (Cur.enc c)] ∧ (curI c) ∧ Line.enc ((lineD c).1) = r ∧ outs = [.rptr (Cur.enc ((lineD c).2))] := by
  unfold spLineD at h
  simp only at h
  split at h
  · rename_i c'
    simp only [Option.bind_eq_some_iff] at h
    obtain ⟨c, h_c, h⟩ := h
    split at h
    case isFalse => cases h
    rename_i hc
    simp only [Option.some.injEq, Prod.mk.injEq] at h
    obtain ⟨h1, h2⟩ := h
    have h_c := Cur.dec_some h_c
    subst h_c
    exact ⟨c, rfl, hc, h1, h2.symm⟩
  · cases h
def T_spec_l13Line : Hints := ⟨fun _ => none, fun _ => none, fun i => if i = 0 then some [0, 2] else if i = 1 then some [0, 2, 3] else if i = 2 then some [0, 2, 3, 9] else if i = 3 then some [0, 2, 3, 9, 10] else if i = 4 then some [0, 2, 3, 9, 10] else if i = 5 then some [0, 2, 3, 9, 10] else if i = 6 then some [2, 3] else if i = 7 then some [0, 2, 3, 9, 18] else if i = 8 then some [0, 2, 3] else if i = 9 then some [0, 2, 3] else if i = 10 then some [0, 2, 3] else if i = 11 then some [2, 3] else if i = 12 then some [0, 2, 3, 9, 35] else if i = 13 then some [0, 2, 3] else if i = 14 then some [0, 2, 3] else if i = 15 then some [2, 3] else if i = 16 then some [0, 2, 3, 9, 48] else if i = 17 then some [2, 3] else if i = 18 then some [0, 2, 3, 53] else if i = 19 then some [2, 3] else if i = 20 then some [2] else none, fun _ => none⟩
noncomputable def Phi_spec_l13Line : Tab := fun f => if f = 14 then some spBelow else if f = 21 then some spOnce else if f = 22 then some spDraw else if f = 23 then some spSetAdd else none
attribute [go_sem] T_spec_l13Line Phi_spec_l13Line
theorem phi_spec_l13Line : ∀ f sp, Phi_spec_l13Line f = some sp → FnOk Try.prog f sp ∧ ∀ n ∈ sp.need, n ∈ ([] : List String) := by
  intro f sp h
  unfold Phi_spec_l13Line at h
  by_cases e : f = 14
  · rw [if_pos e] at h; cases h; rw [e]; exact ⟨ok_spec_l01Below, (fun n (h : n ∈ ([] : List String)) => (nomatch h))⟩
  rw [if_neg e] at h
  by_cases e : f = 21
  · rw [if_pos e] at h; cases h; rw [e]; exact ⟨ok_spec_l01Once, (fun n (h : n ∈ ([] : List String)) => (nomatch h))⟩
  rw [if_neg e] at h
  by_cases e : f = 22
  · rw [if_pos e] at h; cases h; rw [e]; exact ⟨ok_spec_l05Draw, (fun n (h : n ∈ ([] : List String)) => (nomatch h))⟩
  rw [if_neg e] at h
  by_cases e : f = 23
  · rw [if_pos e] at h; cases h; rw [e]; exact ⟨ok_spec_SetAdd, (fun n (h : n ∈ ([] : List String)) => (nomatch h))⟩
  rw [if_neg e] at h
  cases h
theorem ok_spec_l13Line : FnOk Try.prog 19 spLineD := by
  refine fn_ok (Φ := Phi_spec_l13Line) (T := T_spec_l13Line) phi_spec_l13Line mixed Try.func19 rfl rfl rfl (by decide) ?_
  intro ins r outs hr hl
  clear hl
  have hs := spLineD_in hr
  clear hr
  obtain ⟨c, rfl, hc, hr, rfl⟩ := hs
  simp only [spLineD, Try.f19, Go.VM.initS]
  have h1 := belO_in (n := 9) hc
  have hv := h1.2.2 (by decide)
  have hDl := drawO_in h1.1
  have hDl2 : (drawO (belO c 9).2).1.length ≤ 4194304 := by omega
  have a1 := belO_in (n := 9) h1.1
  have b1 := belO_in (n := 5) h1.1
  have b2 := belO_in (n := 20) b1.1
  have b3 := belO_in (n := 32) b2.1
  have b4 := belO_in (n := 30) b3.1
  have d2 := belO_in (n := 30) b1.1
  have d3 := belO_in (n := 2) d2.1
  have a9 := a1.2.2 (by decide)
  have b5 := b1.2.2 (by decide)
  have b20 := b2.2.2 (by decide)
  have b30 := b4.2.2 (by decide)
  have d30 := d2.2.2 (by decide)
  have w0 : IntKind.i64.wrap (1 + (belO c 9).1) = 1 + (belO c 9).1 := wrap64 (by omega) (by omega)
  have w1 : IntKind.i64.wrap (1 + (belO (belO c 9).2 9).1) = 1 + (belO (belO c 9).2 9).1 := wrap64 (by omega) (by omega)
  have w2 : IntKind.i64.wrap (1 + (belO (belO c 9).2 5).1) = 1 + (belO (belO c 9).2 5).1 := wrap64 (by omega) (by omega)
  have w3 : IntKind.i64.wrap (1 + (belO (belO (belO c 9).2 5).2 20).1) = 1 + (belO (belO (belO c 9).2 5).2 20).1 := wrap64 (by omega) (by omega)
  have w4 : IntKind.i64.wrap (1 + (belO (belO (belO (belO (belO c 9).2 5).2 20).2 32).2 30).1) = 1 + (belO (belO (belO (belO (belO c 9).2 5).2 20).2 32).2 30).1 := wrap64 (by omega) (by omega)
  have w5 : IntKind.i64.wrap (1 + (belO (belO (belO c 9).2 5).2 30).1) = 1 + (belO (belO (belO c 9).2 5).2 30).1 := wrap64 (by omega) (by omega)
  have hk : (belO c 9).1 = 0 ∨ (belO c 9).1 = 1 ∨ (belO c 9).1 = 7 ∨ (belO c 9).1 = 2 ∨ (belO c 9).1 = 4 ∨ (belO c 9).1 = 5 ∨ (belO c 9).1 = 3 ∨ (belO c 9).1 = 6 ∨ (belO c 9).1 = 8 := by omega
  rcases hk with hk | hk | hk | hk | hk | hk | hk | hk | hk
  · have e : lineD c = (⟨1, 1 + (belO (belO c 9).2 9).1, 0, 0, 0, [], false⟩, (belO (belO c 9).2 9).2) := by
      unfold lineD
      simp [hk]
    rw [e] at hr
    have w00 : IntKind.i64.wrap (1 + (belO c 9).1) = 1 := by rw [w0, hk]; rfl
    simp only [hc, h1.1, a1.1, b1.1, b2.1, b3.1, b4.1, d2.1, d3.1, hDl.2, hDl2, w00, w1, w2, w3, w4, w5, go_sem]
    repeat' ((first | ((first | apply qa | apply qb | apply qc | apply qd | apply qe | apply qf | apply qg | apply qh | apply qi | apply qj | apply qk) <;> intro hp) | ((first | refine ql rfl rfl (by decide +kernel) ?_ | refine qm _ rfl rfl (by decide +kernel) ?_ | refine goes_opn rfl ?_ | refine goes_opnD rfl rfl (by decide +kernel) ?_) <;> have hp := True.intro)) <;> simp only [hp, hc, h1.1, a1.1, b1.1, b2.1, b3.1, b4.1, d2.1, d3.1, hDl.2, hDl2, w00, w1, w2, w3, w4, w5, go_sem])
    simp only [fin_mk, finV, resL, resV1, resIn, endA, listIn, Option.some_or, Option.none_or, oneOrTup, go_sem]
    rw [← hr]
    simp only [e]; rfl
  · have e : lineD c = (⟨2, 1 + (belO (belO c 9).2 9).1, 0, 0, 0, [], false⟩, (belO (belO c 9).2 9).2) := by
      unfold lineD
      simp [hk]
    rw [e] at hr
    have w00 : IntKind.i64.wrap (1 + (belO c 9).1) = 2 := by rw [w0, hk]; rfl
    simp only [hc, h1.1, a1.1, b1.1, b2.1, b3.1, b4.1, d2.1, d3.1, hDl.2, hDl2, w00, w1, w2, w3, w4, w5, go_sem]
    repeat' ((first | ((first | apply qa | apply qb | apply qc | apply qd | apply qe | apply qf | apply qg | apply qh | apply qi | apply qj | apply qk) <;> intro hp) | ((first | refine ql rfl rfl (by decide +kernel) ?_ | refine qm _ rfl rfl (by decide +kernel) ?_ | refine goes_opn rfl ?_ | refine goes_opnD rfl rfl (by decide +kernel) ?_) <;> have hp := True.intro)) <;> simp only [hp, hc, h1.1, a1.1, b1.1, b2.1, b3.1, b4.1, d2.1, d3.1, hDl.2, hDl2, w00, w1, w2, w3, w4, w5, go_sem])
    simp only [fin_mk, finV, resL, resV1, resIn, endA, listIn, Option.some_or, Option.none_or, oneOrTup, go_sem]
    rw [← hr]
    simp only [e]; rfl
  · have e : lineD c = (⟨8, 1 + (belO (belO c 9).2 9).1, 0, 0, 0, [], false⟩, (belO (belO c 9).2 9).2) := by
      unfold lineD
      simp [hk]
    rw [e] at hr
    have w00 : IntKind.i64.wrap (1 + (belO c 9).1) = 8 := by rw [w0, hk]; rfl
    simp only [hc, h1.1, a1.1, b1.1, b2.1, b3.1, b4.1, d2.1, d3.1, hDl.2, hDl2, w00, w1, w2, w3, w4, w5, go_sem]
    repeat' ((first | ((first | apply qa | apply qb | apply qc | apply qd | apply qe | apply qf | apply qg | apply qh | apply qi | apply qj | apply qk) <;> intro hp) | ((first | refine ql rfl rfl (by decide +kernel) ?_ | refine qm _ rfl rfl (by decide +kernel) ?_ | refine goes_opn rfl ?_ | refine goes_opnD rfl rfl (by decide +kernel) ?_) <;> have hp := True.intro)) <;> simp only [hp, hc, h1.1, a1.1, b1.1, b2.1, b3.1, b4.1, d2.1, d3.1, hDl.2, hDl2, w00, w1, w2, w3, w4, w5, go_sem])
    simp only [fin_mk, finV, resL, resV1, resIn, endA, listIn, Option.some_or, Option.none_or, oneOrTup, go_sem]
    rw [← hr]
    simp only [e]; rfl
  · have e : lineD c = (⟨3, 1 + (belO (belO c 9).2 5).1, 1 + (belO (belO (belO c 9).2 5).2 20).1, (belO (belO (belO (belO c 9).2 5).2 20).2 32).1, 1 + (belO (belO (belO (belO (belO c 9).2 5).2 20).2 32).2 30).1, [], false⟩, (belO (belO (belO (belO (belO c 9).2 5).2 20).2 32).2 30).2) := by
      unfold lineD
      simp [hk]
    rw [e] at hr
    have w00 : IntKind.i64.wrap (1 + (belO c 9).1) = 3 := by rw [w0, hk]; rfl
    simp only [hc, h1.1, a1.1, b1.1, b2.1, b3.1, b4.1, d2.1, d3.1, hDl.2, hDl2, w00, w1, w2, w3, w4, w5, go_sem]
    repeat' ((first | ((first | apply qa | apply qb | apply qc | apply qd | apply qe | apply qf | apply qg | apply qh | apply qi | apply qj | apply qk) <;> intro hp) | ((first | refine ql rfl rfl (by decide +kernel) ?_ | refine qm _ rfl rfl (by decide +kernel) ?_ | refine goes_opn rfl ?_ | refine goes_opnD rfl rfl (by decide +kernel) ?_) <;> have hp := True.intro)) <;> simp only [hp, hc, h1.1, a1.1, b1.1, b2.1, b3.1, b4.1, d2.1, d3.1, hDl.2, hDl2, w00, w1, w2, w3, w4, w5, go_sem])
    simp only [fin_mk, finV, resL, resV1, resIn, endA, listIn, Option.some_or, Option.none_or, oneOrTup, go_sem]
    rw [← hr]
    simp only [e]; rfl
  · have e : lineD c = (⟨5, 1 + (belO (belO c 9).2 5).1, 0, 0, 1 + (belO (belO (belO c 9).2 5).2 30).1, [], (belO (belO (belO (belO c 9).2 5).2 30).2 2).1 == 0⟩, (belO (belO (belO (belO c 9).2 5).2 30).2 2).2) := by
      unfold lineD
      simp [hk]
    rw [e] at hr
    have w00 : IntKind.i64.wrap (1 + (belO c 9).1) = 5 := by rw [w0, hk]; rfl
    simp only [hc, h1.1, a1.1, b1.1, b2.1, b3.1, b4.1, d2.1, d3.1, hDl.2, hDl2, w00, w1, w2, w3, w4, w5, go_sem]
    repeat' ((first | ((first | apply qa | apply qb | apply qc | apply qd | apply qe | apply qf | apply qg | apply qh | apply qi | apply qj | apply qk) <;> intro hp) | ((first | refine ql rfl rfl (by decide +kernel) ?_ | refine qm _ rfl rfl (by decide +kernel) ?_ | refine goes_opn rfl ?_ | refine goes_opnD rfl rfl (by decide +kernel) ?_) <;> have hp := True.intro)) <;> simp only [hp, hc, h1.1, a1.1, b1.1, b2.1, b3.1, b4.1, d2.1, d3.1, hDl.2, hDl2, w00, w1, w2, w3, w4, w5, go_sem])
    simp only [fin_mk, finV, resL, resV1, resIn, endA, listIn, Option.some_or, Option.none_or, oneOrTup, go_sem]
    rw [← hr]
    simp only [e]; rfl
  · have e : lineD c = (⟨6, 0, 0, 0, 0, (drawO (belO c 9).2).1, false⟩, (drawO (belO c 9).2).2) := by
      unfold lineD
      simp [hk]
    rw [e] at hr
    have w00 : IntKind.i64.wrap (1 + (belO c 9).1) = 6 := by rw [w0, hk]; rfl
    simp only [hc, h1.1, a1.1, b1.1, b2.1, b3.1, b4.1, d2.1, d3.1, hDl.2, hDl2, w00, w1, w2, w3, w4, w5, go_sem]
    repeat' ((first | ((first | apply qa | apply qb | apply qc | apply qd | apply qe | apply qf | apply qg | apply qh | apply qi | apply qj | apply qk) <;> intro hp) | ((first | refine ql rfl rfl (by decide +kernel) ?_ | refine qm _ rfl rfl (by decide +kernel) ?_ | refine goes_opn rfl ?_ | refine goes_opnD rfl rfl (by decide +kernel) ?_) <;> have hp := True.intro)) <;> simp only [hp, hc, h1.1, a1.1, b1.1, b2.1, b3.1, b4.1, d2.1, d3.1, hDl.2, hDl2, w00, w1, w2, w3, w4, w5, go_sem])
    simp only [fin_mk, finV, resL, resV1, resIn, endA, listIn, Option.some_or, Option.none_or, oneOrTup, go_sem]
    rw [← hr]
    simp only [e]; rfl
  · have e : lineD c = (⟨4, 0, 0, 0, 0, setAdd (drawO (belO c 9).2).1 3 4, false⟩, (drawO (belO c 9).2).2) := by
      unfold lineD
      simp [hk]
    rw [e] at hr
    have w00 : IntKind.i64.wrap (1 + (belO c 9).1) = 4 := by rw [w0, hk]; rfl
    simp only [hc, h1.1, a1.1, b1.1, b2.1, b3.1, b4.1, d2.1, d3.1, hDl.2, hDl2, w00, w1, w2, w3, w4, w5, go_sem]
    repeat' ((first | ((first | apply qa | apply qb | apply qc | apply qd | apply qe | apply qf | apply qg | apply qh | apply qi | apply qj | apply qk) <;> intro hp) | ((first | refine ql rfl rfl (by decide +kernel) ?_ | refine qm _ rfl rfl (by decide +kernel) ?_ | refine goes_opn rfl ?_ | refine goes_opnD rfl rfl (by decide +kernel) ?_) <;> have hp := True.intro)) <;> simp only [hp, hc, h1.1, a1.1, b1.1, b2.1, b3.1, b4.1, d2.1, d3.1, hDl.2, hDl2, w00, w1, w2, w3, w4, w5, go_sem])
    simp only [fin_mk, finV, resL, resV1, resIn, endA, listIn, Option.some_or, Option.none_or, oneOrTup, go_sem]
    rw [← hr]
    simp only [e]; rfl
  · have e : lineD c = (⟨7, 0, 0, 0, 0, [], false⟩, (belO c 9).2) := by
      unfold lineD
      simp [hk]
    rw [e] at hr
    have w00 : IntKind.i64.wrap (1 + (belO c 9).1) = 7 := by rw [w0, hk]; rfl
    simp only [hc, h1.1, a1.1, b1.1, b2.1, b3.1, b4.1, d2.1, d3.1, hDl.2, hDl2, w00, w1, w2, w3, w4, w5, go_sem]
    repeat' ((first | ((first | apply qa | apply qb | apply qc | apply qd | apply qe | apply qf | apply qg | apply qh | apply qi | apply qj | apply qk) <;> intro hp) | ((first | refine ql rfl rfl (by decide +kernel) ?_ | refine qm _ rfl rfl (by decide +kernel) ?_ | refine goes_opn rfl ?_ | refine goes_opnD rfl rfl (by decide +kernel) ?_) <;> have hp := True.intro)) <;> simp only [hp, hc, h1.1, a1.1, b1.1, b2.1, b3.1, b4.1, d2.1, d3.1, hDl.2, hDl2, w00, w1, w2, w3, w4, w5, go_sem])
    simp only [fin_mk, finV, resL, resV1, resIn, endA, listIn, Option.some_or, Option.none_or, oneOrTup, go_sem]
    rw [← hr]
    simp only [e]; rfl
  · have e : lineD c = (⟨9, 0, 0, 0, 0, [], false⟩, (belO c 9).2) := by
      unfold lineD
      simp [hk]
    rw [e] at hr
    have w00 : IntKind.i64.wrap (1 + (belO c 9).1) = 9 := by rw [w0, hk]; rfl
    simp only [hc, h1.1, a1.1, b1.1, b2.1, b3.1, b4.1, d2.1, d3.1, hDl.2, hDl2, w00, w1, w2, w3, w4, w5, go_sem]
    repeat' ((first | ((first | apply qa | apply qb | apply qc | apply qd | apply qe | apply qf | apply qg | apply qh | apply qi | apply qj | apply qk) <;> intro hp) | ((first | refine ql rfl rfl (by decide +kernel) ?_ | refine qm _ rfl rfl (by decide +kernel) ?_ | refine goes_opn rfl ?_ | refine goes_opnD rfl rfl (by decide +kernel) ?_) <;> have hp := True.intro)) <;> simp only [hp, hc, h1.1, a1.1, b1.1, b2.1, b3.1, b4.1, d2.1, d3.1, hDl.2, hDl2, w00, w1, w2, w3, w4, w5, go_sem])
    simp only [fin_mk, finV, resL, resV1, resIn, endA, listIn, Option.some_or, Option.none_or, oneOrTup, go_sem]
    rw [← hr]
    simp only [e]; rfl
end Go.Proofs.Ytknagbmhmjcnkaa.L
