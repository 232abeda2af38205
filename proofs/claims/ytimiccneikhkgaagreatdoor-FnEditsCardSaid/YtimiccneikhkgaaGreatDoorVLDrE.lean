/- Drawn edits. -/
import Derived.Test.YtimiccneikhkgaaGreatDoorVLDr2
import Derived.Test.YtimiccneikhkgaaGreatDoorVLDr6
import Derived.Test.YtimiccneikhkgaaGreatDoorVLE
namespace Go.Proofs.YtimiccneikhkgaaGreatDoor.L
open Go Go.VM
set_option maxRecDepth 100000
set_option maxHeartbeats 4000000
set_option linter.unusedSimpArgs false
set_option linter.unusedVariables false
def edKinds : List Int := [1, 3, 3, 3, 3, 4, 4, 4, 5, 5, 6, 7, 2, 8]
def edBoxes : List (List UInt8) := [[105, 110, 98, 111, 120], [105, 110, 98, 111, 120], [105, 110, 98, 111, 120], [119, 111, 114, 107], [111, 108, 100]]
def edMade : List (List UInt8) := [[119, 111, 114, 107], [111, 108, 100], [97]]
def edTos : List (List UInt8) := [[119, 111, 114, 107], [111, 108, 100], [105, 110, 98, 111, 120]]
def edF3 : List Int := [0, 1, 8, 4, 9]
def edF4 : List Int := [1, 8, 8, 4, 31]
def edS4 : List Int := [-1, -1, 3, 9]
def edIn (c : Cur) := pickO (pickI c edKinds).2 edBoxes
def edM (c : Cur) := pickO (edIn c).2 edMade
def edA1 (c : Cur) := pickI (edIn c).2 edF3
def edA2 (c : Cur) := mailO (edA1 c).2
def edF_1 (c : Cur) := drawO (edIn c).2
def edF_2 (c : Cur) := belO (edF_1 c).2 3
def edF_3 (c : Cur) := pickI (edF_2 c).2 edF4
def edF_4 (c : Cur) := pickI (edF_3 c).2 edS4
def edN (c : Cur) := belO (edIn c).2 9
def edT (c : Cur) := pickO (edF_1 c).2 edTos
def editD (c : Cur) : Edit × Cur :=
  if (pickI c edKinds).1 = 1 then (⟨1, (edM c).1, [], [], 0, 0, 0, []⟩, (edM c).2) else
  if (pickI c edKinds).1 = 2 then (⟨2, (edM c).1, [], [], 0, 0, 0, []⟩, (edM c).2) else
  if (pickI c edKinds).1 = 3 then (⟨3, (edIn c).1, [], [], 0, (edA1 c).1, 0, (edA2 c).1⟩, (edA2 c).2) else
  if (pickI c edKinds).1 = 4 then (⟨4, (edIn c).1, [], (edF_1 c).1, 1 + (edF_2 c).1, (edF_3 c).1, (edF_4 c).1, []⟩, (edF_4 c).2) else
  if (pickI c edKinds).1 = 5 then (⟨5, (edIn c).1, [], [⟨1, 9999⟩], 0, 0, 0, []⟩, (edIn c).2) else
  if (pickI c edKinds).1 = 6 then (⟨6, (edIn c).1, (edT c).1, (edF_1 c).1, 0, 0, 0, []⟩, (edT c).2) else
  if (pickI c edKinds).1 = 7 then (⟨7, (edIn c).1, (edT c).1, (edF_1 c).1, 0, 0, 0, []⟩, (edT c).2) else
  (⟨8, (edIn c).1, [], [], 0, 0, (edN c).1, []⟩, (edN c).2)
theorem nameLe_boxes : ∀ x ∈ edBoxes, x.length ≤ 8 := by decide
theorem nameLe_made : ∀ x ∈ edMade, x.length ≤ 8 := by decide
theorem nameLe_tos : ∀ x ∈ edTos, x.length ≤ 8 := by decide
/-- A small edit: all its parts fit. -/
def edSmall (e : Edit) : Prop := e.Box.length ≤ 8 ∧ e.To.length ≤ 8 ∧ e.Set.length ≤ 40 ∧ e.Text.length ≤ 200
theorem edSmall.le {e : Edit} (h : edSmall e) : e.le 4194304 := by
  obtain ⟨h1, h2, h3, h4⟩ := h
  exact ⟨by show e.Box.length ≤ _; omega, by show e.To.length ≤ _; omega, ⟨by omega, fun _ _ => trivial⟩, by show e.Text.length ≤ _; omega⟩
theorem editD_in {c : Cur} (h : curI c) : edSmall (editD c).1 ∧ curI (editD c).2 := by
  have h1 := pickI_in (l := edKinds) h (by decide)
  have h2 := pickO_in (l := edBoxes) h1.1 (by decide)
  have h3 := pickO_in (l := edMade) (c := (edIn c).2) h2.1 (by decide)
  have h4 := pickI_in (l := edF3) (c := (edIn c).2) h2.1 (by decide)
  have h5 := mailO_len (c := (edA1 c).2) h4.1
  have h6 := drawO_in (c := (edIn c).2) h2.1
  have h7 := belO_in (c := (edF_1 c).2) (n := 3) h6.2
  have h8 := pickI_in (l := edF4) (c := (edF_2 c).2) h7.1 (by decide)
  have h9 := pickI_in (l := edS4) (c := (edF_3 c).2) h8.1 (by decide)
  have h10 := belO_in (c := (edIn c).2) (n := 9) h2.1
  have h11 := pickO_in (l := edTos) (c := (edF_1 c).2) h6.2 (by decide)
  have b2 : (edIn c).1.length ≤ 8 := nameLe_boxes _ h2.2
  have b3 : (edM c).1.length ≤ 8 := nameLe_made _ h3.2
  have b11 : (edT c).1.length ≤ 8 := nameLe_tos _ h11.2
  have b5 : (edA2 c).1.length ≤ 200 := h5.1
  have b6 : (edF_1 c).1.length ≤ 40 := h6.1
  unfold editD
  repeat' split
  · exact ⟨⟨b3, by simp, by simp, by simp⟩, h3.1⟩
  · exact ⟨⟨b3, by simp, by simp, by simp⟩, h3.1⟩
  · exact ⟨⟨b2, by simp, by simp, b5⟩, h5.2⟩
  · exact ⟨⟨b2, by simp, b6, by simp⟩, h9.1⟩
  · exact ⟨⟨b2, by simp, by simp, by simp⟩, h2.1⟩
  · exact ⟨⟨b2, b11, b6, by simp⟩, h11.1⟩
  · exact ⟨⟨b2, b11, b6, by simp⟩, h11.1⟩
  · exact ⟨⟨b2, by simp, by simp, by simp⟩, h10.1⟩
open Classical in
noncomputable def spEditD : VM.Spec := { modes := [.ptr], run := fun | [.rptr (c')] => (Cur.dec c').bind fun c => if curI c then some (Edit.enc ((editD c).1), [.rptr (Cur.enc ((editD c).2))]) else none | _ => none, need := [] }
attribute [go_sem] spEditD
theorem spEditD_in {ins : List V} {r : V} {outs : List V} (h : spEditD.run ins = some (r, outs)) : ∃ (c : Cur), ins = [.rptr (Cur.enc c)] ∧ (curI c) ∧ Edit.enc ((editD c).1) = r ∧ outs = [.rptr (Cur.enc ((editD c).2))] := by
  unfold spEditD at h
  simp only at h
  split at h
  · rename_i c'
    simp only [Option.bind_eq_some_iff] at h
    obtain ⟨c, h_c, h⟩ := h
    split at h
    case isFalse => cases h
    rename_i hc
    simp only [Option.some.injEq, Prod.mk.injEq] at h
    obtain ⟨h1, h2⟩ := h
    have h_c := Cur.dec_some h_c
    subst h_c
    exact ⟨c, rfl, hc, h1, h2.symm⟩
  · cases h
def T_spec_l10Edit : Hints := ⟨fun _ => none, fun _ => none, fun i => if i = 0 then some [0, 2] else if i = 1 then some [0, 2, 3] else if i = 2 then some [0, 2, 3, 18] else if i = 3 then some [0, 2, 3] else if i = 4 then some [0, 2, 3, 24] else if i = 5 then some [0, 2, 3, 24, 25] else if i = 6 then some [0, 2, 3] else if i = 7 then some [2, 3] else if i = 8 then some [0, 2, 3, 24, 34] else if i = 9 then some [0, 2, 3] else if i = 10 then some [0, 2, 3] else if i = 11 then some [0, 2, 3] else if i = 12 then some [2, 3] else if i = 13 then some [0, 2, 3, 24, 51] else if i = 14 then some [2, 3] else if i = 15 then some [0, 2, 3, 24, 56] else if i = 16 then some [0, 2, 3, 24, 56] else if i = 17 then some [0, 2, 3] else if i = 18 then some [2, 3] else if i = 19 then some [0, 2, 3, 66] else if i = 20 then some [2, 3] else if i = 21 then some [2] else none, fun _ => none⟩
noncomputable def Phi_spec_l10Edit : Tab := fun f => if f = 154 then some spPickI else if f = 119 then some spPick else if f = 121 then some spMail else if f = 123 then some spDraw else if f = 46 then some spBelow else none
attribute [go_sem] T_spec_l10Edit Phi_spec_l10Edit
theorem phi_spec_l10Edit : ∀ f sp, Phi_spec_l10Edit f = some sp → FnOk Tryz.prog f sp ∧ ∀ n ∈ sp.need, n ∈ ([] : List String) := by
  intro f sp h
  unfold Phi_spec_l10Edit at h
  by_cases e : f = 154
  · rw [if_pos e] at h; cases h; rw [e]; exact ⟨ok_spec_l01PickInt, (fun n (h : n ∈ ([] : List String)) => (nomatch h))⟩
  rw [if_neg e] at h
  by_cases e : f = 119
  · rw [if_pos e] at h; cases h; rw [e]; exact ⟨ok_spec_l01Pick, (fun n (h : n ∈ ([] : List String)) => (nomatch h))⟩
  rw [if_neg e] at h
  by_cases e : f = 121
  · rw [if_pos e] at h; cases h; rw [e]; exact ⟨ok_spec_l07Mail, (fun n (h : n ∈ ([] : List String)) => (nomatch h))⟩
  rw [if_neg e] at h
  by_cases e : f = 123
  · rw [if_pos e] at h; cases h; rw [e]; exact ⟨ok_spec_l05Draw, (fun n (h : n ∈ ([] : List String)) => (nomatch h))⟩
  rw [if_neg e] at h
  by_cases e : f = 46
  · rw [if_pos e] at h; cases h; rw [e]; exact ⟨ok_spec_l01Below, (fun n (h : n ∈ ([] : List String)) => (nomatch h))⟩
  rw [if_neg e] at h
  cases h
theorem ok_spec_l10Edit : FnOk Tryz.prog 97 spEditD := by
  refine fn_ok (Φ := Phi_spec_l10Edit) (T := T_spec_l10Edit) phi_spec_l10Edit mixed Tryz.func97 rfl rfl rfl (by decide) ?_
  intro ins r outs hr hl
  clear hl
  have hs := spEditD_in hr
  clear hr
  obtain ⟨c, rfl, hc, hr, rfl⟩ := hs
  simp only [spEditD, Tryz.f97, Go.VM.initS]
  have h1 := pickI_in (l := edKinds) hc (by decide)
  have h2 := pickO_in (l := edBoxes) h1.1 (by decide)
  have h3 := pickO_in (l := edMade) (c := (edIn c).2) h2.1 (by decide)
  have h4 := pickI_in (l := edF3) (c := (edIn c).2) h2.1 (by decide)
  have h5 := mailO_len (c := (edA1 c).2) h4.1
  have h6 := drawO_in (c := (edIn c).2) h2.1
  have h7 := belO_in (c := (edF_1 c).2) (n := 3) h6.2
  have h8 := pickI_in (l := edF4) (c := (edF_2 c).2) h7.1 (by decide)
  have h9 := pickI_in (l := edS4) (c := (edF_3 c).2) h8.1 (by decide)
  have h10 := belO_in (c := (edIn c).2) (n := 9) h2.1
  have h11 := pickO_in (l := edTos) (c := (edF_1 c).2) h6.2 (by decide)
  obtain ⟨⟨k, c1⟩, e1⟩ : ∃ x, pickI c edKinds = x := ⟨_, rfl⟩
  have e1' : pickI c [1, 3, 3, 3, 3, 4, 4, 4, 5, 5, 6, 7, 2, 8] = (k, c1) := e1
  have hk : k ∈ edKinds := by have := h1.2; rw [e1] at this; exact this
  obtain ⟨⟨b, c2⟩, e2⟩ : ∃ x, edIn c = x := ⟨_, rfl⟩
  have e2' : pickO c1 [[105, 110, 98, 111, 120], [105, 110, 98, 111, 120], [105, 110, 98, 111, 120], [119, 111, 114, 107], [111, 108, 100]] = (b, c2) := by have := e2; rw [edIn, e1] at this; exact this
  rw [e1] at h1
  rw [e2] at h3 h4 h6 h10
  have h2' : curI c2 := by have := h2.1; rw [e1] at this; change curI (pickO c1 [[105, 110, 98, 111, 120], [105, 110, 98, 111, 120], [105, 110, 98, 111, 120], [119, 111, 114, 107], [111, 108, 100]]).2 at this; rw [e2'] at this; exact this
  have h1' : curI c1 := h1.1
  have hk : k = 1 ∨ k = 2 ∨ k = 3 ∨ k = 4 ∨ k = 5 ∨ k = 6 ∨ k = 7 ∨ k = 8 := by simp only [edKinds, List.mem_cons, List.not_mem_nil, or_false] at hk; omega
  rcases hk with hk | hk | hk | hk | hk | hk | hk | hk
  · subst hk
    obtain ⟨⟨m, c3⟩, e3⟩ : ∃ x, edM c = x := ⟨_, rfl⟩
    have e3' : pickO c2 [[119, 111, 114, 107], [111, 108, 100], [97]] = (m, c3) := by have := e3; rw [edM, e2] at this; exact this
    have e : editD c = (⟨1, m, [], [], 0, 0, 0, []⟩, c3) := by simp only [editD, e1, Int.reduceEq, if_true, if_false, e3]
    rw [e] at hr
    simp only [hc, h1', h2', e1', e2', e3', go_sem]
    repeat' ((first | ((first | apply qa | apply qb | apply qc | apply qd | apply qe | apply qf | apply qg | apply qh | apply qi | apply qj | apply qk) <;> intro hp) | ((first | refine ql rfl rfl (by decide +kernel) ?_ | refine qm _ rfl rfl (by decide +kernel) ?_ | refine goes_opn rfl ?_ | refine goes_opnD rfl rfl (by decide +kernel) ?_) <;> have hp := True.intro)) <;> simp only [hp, hc, h1', h2', e1', e2', e3', go_sem])
    simp only [fin_mk, finV, resL, resV1, resIn, endA, listIn, Option.some_or, Option.none_or, oneOrTup, go_sem]
    rw [← hr]
    first | rfl | (simp only [e]; rfl) | simp only [e]
  · subst hk
    obtain ⟨⟨m, c3⟩, e3⟩ : ∃ x, edM c = x := ⟨_, rfl⟩
    have e3' : pickO c2 [[119, 111, 114, 107], [111, 108, 100], [97]] = (m, c3) := by have := e3; rw [edM, e2] at this; exact this
    have e : editD c = (⟨2, m, [], [], 0, 0, 0, []⟩, c3) := by simp only [editD, e1, Int.reduceEq, if_true, if_false, e3]
    rw [e] at hr
    simp only [hc, h1', h2', e1', e2', e3', go_sem]
    repeat' ((first | ((first | apply qa | apply qb | apply qc | apply qd | apply qe | apply qf | apply qg | apply qh | apply qi | apply qj | apply qk) <;> intro hp) | ((first | refine ql rfl rfl (by decide +kernel) ?_ | refine qm _ rfl rfl (by decide +kernel) ?_ | refine goes_opn rfl ?_ | refine goes_opnD rfl rfl (by decide +kernel) ?_) <;> have hp := True.intro)) <;> simp only [hp, hc, h1', h2', e1', e2', e3', go_sem])
    simp only [fin_mk, finV, resL, resV1, resIn, endA, listIn, Option.some_or, Option.none_or, oneOrTup, go_sem]
    rw [← hr]
    first | rfl | (simp only [e]; rfl) | simp only [e]
  · subst hk
    obtain ⟨⟨f, c3⟩, e3⟩ : ∃ x, edA1 c = x := ⟨_, rfl⟩
    have e3' : pickI c2 [0, 1, 8, 4, 9] = (f, c3) := by have := e3; rw [edA1, e2] at this; exact this
    obtain ⟨⟨m, c4⟩, e4⟩ : ∃ x, edA2 c = x := ⟨_, rfl⟩
    have e4' : mailO c3 = (m, c4) := by have := e4; rw [edA2, e3] at this; exact this
    have h3' : curI c3 := by have := h4.1; change curI (pickI c2 [0, 1, 8, 4, 9]).2 at this; rw [e3'] at this; exact this
    have e : editD c = (⟨3, b, [], [], 0, f, 0, m⟩, c4) := by simp only [editD, e1, Int.reduceEq, if_true, if_false, e2, e3, e4]
    rw [e] at hr
    simp only [hc, h1', h2', e1', e2', e3', e4', h3', go_sem]
    repeat' ((first | ((first | apply qa | apply qb | apply qc | apply qd | apply qe | apply qf | apply qg | apply qh | apply qi | apply qj | apply qk) <;> intro hp) | ((first | refine ql rfl rfl (by decide +kernel) ?_ | refine qm _ rfl rfl (by decide +kernel) ?_ | refine goes_opn rfl ?_ | refine goes_opnD rfl rfl (by decide +kernel) ?_) <;> have hp := True.intro)) <;> simp only [hp, hc, h1', h2', e1', e2', e3', e4', h3', go_sem])
    simp only [fin_mk, finV, resL, resV1, resIn, endA, listIn, Option.some_or, Option.none_or, oneOrTup, go_sem]
    rw [← hr]
    first | rfl | (simp only [e]; rfl) | simp only [e]
  · subst hk
    obtain ⟨⟨s, c3⟩, e3⟩ : ∃ x, edF_1 c = x := ⟨_, rfl⟩
    have e3' : drawO c2 = (s, c3) := by have := e3; rw [edF_1, e2] at this; exact this
    obtain ⟨⟨w, c4⟩, e4⟩ : ∃ x, edF_2 c = x := ⟨_, rfl⟩
    have e4' : belO c3 3 = (w, c4) := by have := e4; rw [edF_2, e3] at this; exact this
    obtain ⟨⟨f, c5⟩, e5⟩ : ∃ x, edF_3 c = x := ⟨_, rfl⟩
    have e5' : pickI c4 [1, 8, 8, 4, 31] = (f, c5) := by have := e5; rw [edF_3, e4] at this; exact this
    obtain ⟨⟨n, c6⟩, e6⟩ : ∃ x, edF_4 c = x := ⟨_, rfl⟩
    have e6' : pickI c5 [-1, -1, 3, 9] = (n, c6) := by have := e6; rw [edF_4, e5] at this; exact this
    have h3' : curI c3 := by have := h6.2; rw [e3'] at this; exact this
    rw [e3] at h7
    have h4' : curI c4 := by have := h7.1; rw [e4'] at this; exact this
    have w1 : IntKind.i64.wrap (1 + w) = 1 + w := by have := h7.2; rw [e4'] at this; simp only at this; have := this.2 (by decide); exact wrap64 (by omega) (by omega)
    rw [e4] at h8
    have h5' : curI c5 := by have := h8.1; change curI (pickI c4 [1, 8, 8, 4, 31]).2 at this; rw [e5'] at this; exact this
    have e : editD c = (⟨4, b, [], s, 1 + w, f, n, []⟩, c6) := by simp only [editD, e1, Int.reduceEq, if_true, if_false, e2, e3, e4, e5, e6]
    rw [e] at hr
    simp only [hc, h1', h2', e1', e2', e3', e4', e5', e6', h3', h4', h5', w1, go_sem]
    repeat' ((first | ((first | apply qa | apply qb | apply qc | apply qd | apply qe | apply qf | apply qg | apply qh | apply qi | apply qj | apply qk) <;> intro hp) | ((first | refine ql rfl rfl (by decide +kernel) ?_ | refine qm _ rfl rfl (by decide +kernel) ?_ | refine goes_opn rfl ?_ | refine goes_opnD rfl rfl (by decide +kernel) ?_) <;> have hp := True.intro)) <;> simp only [hp, hc, h1', h2', e1', e2', e3', e4', e5', e6', h3', h4', h5', w1, go_sem])
    simp only [fin_mk, finV, resL, resV1, resIn, endA, listIn, Option.some_or, Option.none_or, oneOrTup, go_sem]
    rw [← hr]
    first | rfl | (simp only [e]; rfl) | simp only [e]
  · subst hk
    have e : editD c = (⟨5, b, [], [⟨1, 9999⟩], 0, 0, 0, []⟩, c2) := by simp only [editD, e1, Int.reduceEq, if_true, if_false, e2]
    rw [e] at hr
    simp only [hc, h1', h2', e1', e2', List.map_cons, List.map_nil, go_sem]
    repeat' ((first | ((first | apply qa | apply qb | apply qc | apply qd | apply qe | apply qf | apply qg | apply qh | apply qi | apply qj | apply qk) <;> intro hp) | ((first | refine ql rfl rfl (by decide +kernel) ?_ | refine qm _ rfl rfl (by decide +kernel) ?_ | refine goes_opn rfl ?_ | refine goes_opnD rfl rfl (by decide +kernel) ?_) <;> have hp := True.intro)) <;> simp only [hp, hc, h1', h2', e1', e2', List.map_cons, List.map_nil, go_sem])
    simp only [fin_mk, finV, resL, resV1, resIn, endA, listIn, Option.some_or, Option.none_or, oneOrTup, go_sem]
    rw [← hr]
    first | rfl | (simp only [e]; rfl) | simp only [e]
  · subst hk
    obtain ⟨⟨s, c3⟩, e3⟩ : ∃ x, edF_1 c = x := ⟨_, rfl⟩
    have e3' : drawO c2 = (s, c3) := by have := e3; rw [edF_1, e2] at this; exact this
    obtain ⟨⟨m, c4⟩, e4⟩ : ∃ x, edT c = x := ⟨_, rfl⟩
    have e4' : pickO c3 [[119, 111, 114, 107], [111, 108, 100], [105, 110, 98, 111, 120]] = (m, c4) := by have := e4; rw [edT, e3] at this; exact this
    have h3' : curI c3 := by have := h6.2; rw [e3'] at this; exact this
    have e : editD c = (⟨6, b, m, s, 0, 0, 0, []⟩, c4) := by simp only [editD, e1, Int.reduceEq, if_true, if_false, e2, e3, e4]
    rw [e] at hr
    simp only [hc, h1', h2', e1', e2', e3', e4', h3', go_sem]
    repeat' ((first | ((first | apply qa | apply qb | apply qc | apply qd | apply qe | apply qf | apply qg | apply qh | apply qi | apply qj | apply qk) <;> intro hp) | ((first | refine ql rfl rfl (by decide +kernel) ?_ | refine qm _ rfl rfl (by decide +kernel) ?_ | refine goes_opn rfl ?_ | refine goes_opnD rfl rfl (by decide +kernel) ?_) <;> have hp := True.intro)) <;> simp only [hp, hc, h1', h2', e1', e2', e3', e4', h3', go_sem])
    simp only [fin_mk, finV, resL, resV1, resIn, endA, listIn, Option.some_or, Option.none_or, oneOrTup, go_sem]
    rw [← hr]
    first | rfl | (simp only [e]; rfl) | simp only [e]
  · subst hk
    obtain ⟨⟨s, c3⟩, e3⟩ : ∃ x, edF_1 c = x := ⟨_, rfl⟩
    have e3' : drawO c2 = (s, c3) := by have := e3; rw [edF_1, e2] at this; exact this
    obtain ⟨⟨m, c4⟩, e4⟩ : ∃ x, edT c = x := ⟨_, rfl⟩
    have e4' : pickO c3 [[119, 111, 114, 107], [111, 108, 100], [105, 110, 98, 111, 120]] = (m, c4) := by have := e4; rw [edT, e3] at this; exact this
    have h3' : curI c3 := by have := h6.2; rw [e3'] at this; exact this
    have e : editD c = (⟨7, b, m, s, 0, 0, 0, []⟩, c4) := by simp only [editD, e1, Int.reduceEq, if_true, if_false, e2, e3, e4]
    rw [e] at hr
    simp only [hc, h1', h2', e1', e2', e3', e4', h3', go_sem]
    repeat' ((first | ((first | apply qa | apply qb | apply qc | apply qd | apply qe | apply qf | apply qg | apply qh | apply qi | apply qj | apply qk) <;> intro hp) | ((first | refine ql rfl rfl (by decide +kernel) ?_ | refine qm _ rfl rfl (by decide +kernel) ?_ | refine goes_opn rfl ?_ | refine goes_opnD rfl rfl (by decide +kernel) ?_) <;> have hp := True.intro)) <;> simp only [hp, hc, h1', h2', e1', e2', e3', e4', h3', go_sem])
    simp only [fin_mk, finV, resL, resV1, resIn, endA, listIn, Option.some_or, Option.none_or, oneOrTup, go_sem]
    rw [← hr]
    first | rfl | (simp only [e]; rfl) | simp only [e]
  · subst hk
    obtain ⟨⟨n, c3⟩, e3⟩ : ∃ x, edN c = x := ⟨_, rfl⟩
    have e3' : belO c2 9 = (n, c3) := by have := e3; rw [edN, e2] at this; exact this
    have e : editD c = (⟨8, b, [], [], 0, 0, n, []⟩, c3) := by simp only [editD, e1, Int.reduceEq, if_true, if_false, e2, e3]
    rw [e] at hr
    simp only [hc, h1', h2', e1', e2', e3', go_sem]
    repeat' ((first | ((first | apply qa | apply qb | apply qc | apply qd | apply qe | apply qf | apply qg | apply qh | apply qi | apply qj | apply qk) <;> intro hp) | ((first | refine ql rfl rfl (by decide +kernel) ?_ | refine qm _ rfl rfl (by decide +kernel) ?_ | refine goes_opn rfl ?_ | refine goes_opnD rfl rfl (by decide +kernel) ?_) <;> have hp := True.intro)) <;> simp only [hp, hc, h1', h2', e1', e2', e3', go_sem])
    simp only [fin_mk, finV, resL, resV1, resIn, endA, listIn, Option.some_or, Option.none_or, oneOrTup, go_sem]
    rw [← hr]
    first | rfl | (simp only [e]; rfl) | simp only [e]
def edAny (c : Cur) : Edit × Cur :=
  let k := belO c 14
  let y := belO k.2 60
  let x := editD y.2
  if k.1 = 0 then ({ x.1 with Kind := y.1.tmod 10 }, x.2) else
  if k.1 = 1 then ({ x.1 with Box := ([[], [65]] : List (List UInt8)).getD (y.1.tmod 2).toNat [] }, x.2) else
  if k.1 = 2 then ({ x.1 with Since := ([-2, -1, 100000, 100001] : List Int).getD (y.1.tmod 4).toNat 0 }, x.2) else
  if k.1 = 3 then ({ x.1 with How := y.1.tmod 5 }, x.2) else
  if k.1 = 4 then ({ x.1 with Bits := y.1 }, x.2) else
  if k.1 = 5 then ({ x.1 with Text := ([[120], [97, 0]] : List (List UInt8)).getD (y.1.tmod 2).toNat [] }, x.2) else x
theorem getD_all {α : Type} {p : α → Prop} {l : List α} {d : α} (h : ∀ x ∈ l, p x) (hd : p d) (i : Nat) : p (l.getD i d) := by
  rcases Nat.lt_or_ge i l.length with hi | hi
  · rw [getD_lt hi]; exact h _ (List.getElem_mem hi)
  · rw [List.getD_eq_getElem?_getD, List.getElem?_eq_none hi]; exact hd
theorem edAny_in {c : Cur} (h : curI c) : edSmall (edAny c).1 ∧ curI (edAny c).2 := by
  have h1 := belO_in (n := 14) h
  have h2 := belO_in (n := 60) h1.1
  obtain ⟨⟨s1, s2, s3, s4⟩, h3⟩ := editD_in h2.1
  have g1 := getD_all (p := fun x : List UInt8 => x.length ≤ 8) (l := [[], [65]]) (d := []) (by decide) (by decide)
  have g2 := getD_all (p := fun x : List UInt8 => x.length ≤ 200) (l := [[120], [97, 0]]) (d := []) (by decide) (by decide)
  unfold edAny
  simp only
  repeat' split
  all_goals first
    | exact ⟨⟨s1, s2, s3, s4⟩, h3⟩
    | exact ⟨⟨g1 _, s2, s3, s4⟩, h3⟩
    | exact ⟨⟨s1, s2, s3, g2 _⟩, h3⟩
open Classical in
noncomputable def spEdAny : VM.Spec := { modes := [.ptr], run := fun | [.rptr (c')] => (Cur.dec c').bind fun c => if curI c then some (Edit.enc ((edAny c).1), [.rptr (Cur.enc ((edAny c).2))]) else none | _ => none, need := [] }
attribute [go_sem] spEdAny
theorem spEdAny_in {ins : List V} {r : V} {outs : List V} (h : spEdAny.run ins = some (r, outs)) : ∃ (c : Cur), ins = [.rptr (Cur.enc c)] ∧ (curI c) ∧ Edit.enc ((edAny c).1) = r ∧ outs = [.rptr (Cur.enc ((edAny c).2))] := by
  unfold spEdAny at h
  simp only at h
  split at h
  · rename_i c'
    simp only [Option.bind_eq_some_iff] at h
    obtain ⟨c, h_c, h⟩ := h
    split at h
    case isFalse => cases h
    rename_i hc
    simp only [Option.some.injEq, Prod.mk.injEq] at h
    obtain ⟨h1, h2⟩ := h
    have h_c := Cur.dec_some h_c
    subst h_c
    exact ⟨c, rfl, hc, h1, h2.symm⟩
  · cases h
def T_spec_l10Any : Hints := ⟨fun _ => none, fun _ => none, fun i => if i = 0 then some [0, 2] else if i = 1 then some [0, 2, 3] else if i = 2 then some [0, 2, 3, 4] else if i = 3 then some [2, 3, 4, 5] else if i = 4 then some [2, 4, 5, 12] else if i = 5 then some [2, 4, 5, 12, 13] else if i = 6 then some [2, 5] else if i = 7 then some [2, 4, 5, 12, 18] else if i = 8 then some [2, 5] else if i = 9 then some [2, 4, 5, 12, 26] else if i = 10 then some [2, 5] else if i = 11 then some [2, 4, 5, 12, 34] else if i = 12 then some [2, 5] else if i = 13 then some [2, 4, 5, 12, 39] else if i = 14 then some [2, 5] else if i = 15 then some [2, 4, 5, 43] else if i = 16 then some [2, 5] else if i = 17 then some [2] else none, fun _ => none⟩
noncomputable def Phi_spec_l10Any : Tab := fun f => if f = 46 then some spBelow else if f = 97 then some spEditD else none
attribute [go_sem] T_spec_l10Any Phi_spec_l10Any
theorem phi_spec_l10Any : ∀ f sp, Phi_spec_l10Any f = some sp → FnOk Tryz.prog f sp ∧ ∀ n ∈ sp.need, n ∈ ([] : List String) := by
  intro f sp h
  unfold Phi_spec_l10Any at h
  by_cases e : f = 46
  · rw [if_pos e] at h; cases h; rw [e]; exact ⟨ok_spec_l01Below, (fun n (h : n ∈ ([] : List String)) => (nomatch h))⟩
  rw [if_neg e] at h
  by_cases e : f = 97
  · rw [if_pos e] at h; cases h; rw [e]; exact ⟨ok_spec_l10Edit, (fun n (h : n ∈ ([] : List String)) => (nomatch h))⟩
  rw [if_neg e] at h
  cases h
theorem ok_spec_l10Any : FnOk Tryz.prog 37 spEdAny := by
  refine fn_ok (Φ := Phi_spec_l10Any) (T := T_spec_l10Any) phi_spec_l10Any mixed Tryz.func37 rfl rfl rfl (by decide) ?_
  intro ins r outs hr hl
  clear hl
  have hs := spEdAny_in hr
  clear hr
  obtain ⟨c, rfl, hc, hr, rfl⟩ := hs
  simp only [spEdAny, Tryz.f37, Go.VM.initS]
  have h1 := belO_in (n := 14) hc
  obtain ⟨⟨k, c1⟩, e1⟩ : ∃ x, belO c 14 = x := ⟨_, rfl⟩
  rw [e1] at h1
  have h2 := belO_in (n := 60) h1.1
  obtain ⟨⟨y, c2⟩, e2⟩ : ∃ x, belO c1 60 = x := ⟨_, rfl⟩
  simp only at h1 h2
  rw [e2] at h2
  have h3 := editD_in h2.1
  obtain ⟨⟨X, c3⟩, e3⟩ : ∃ x, editD c2 = x := ⟨_, rfl⟩
  simp only at h2 h3
  rw [e3] at h3
  simp only at h3
  obtain ⟨K, B, T, S, W, F, N, U⟩ := X
  by_cases k0 : k = 0
  · subst k0
    have e : edAny c = (⟨y.tmod 10, B, T, S, W, F, N, U⟩, c3) := by simp only [edAny, e1, e2, e3, Int.reduceEq, if_true, if_false]
    rw [e] at hr
    simp only [hc, e1, e2, e3, h1.1, h2.1, h3.2, go_sem]
    repeat' ((first | ((first | apply qa | apply qb | apply qc | apply qd | apply qe | apply qf | apply qg | apply qh | apply qi | apply qj | apply qk) <;> intro hp) | ((first | refine ql rfl rfl (by decide +kernel) ?_ | refine qm _ rfl rfl (by decide +kernel) ?_ | refine goes_opn rfl ?_ | refine goes_opnD rfl rfl (by decide +kernel) ?_) <;> have hp := True.intro)) <;> simp only [hp, hc, e1, e2, e3, h1.1, h2.1, h3.2, go_sem])
    simp only [fin_mk, finV, resL, resV1, resIn, endA, listIn, Option.some_or, Option.none_or, oneOrTup, go_sem]
    rw [← hr]
    first | rfl | (simp only [e]; rfl) | simp only [e]
  by_cases k1 : k = 1
  · subst k1
    have m1 := Int.tmod_nonneg 2 h2.2.1
    have m2 := Int.tmod_lt_of_pos y (show (0 : Int) < 2 by decide)
    obtain ⟨j, hj⟩ : ∃ j : Nat, y.tmod 2 = j := ⟨(y.tmod 2).toNat, by omega⟩
    have m3 : j < ([[], [65]] : List (List UInt8)).length := by simp only [List.length_cons, List.length_nil]; omega
    obtain ⟨V', hV⟩ : ∃ V', ([[], [65]] : List (List UInt8)).getD j [] = V' := ⟨_, rfl⟩
    have e : edAny c = (⟨K, V', T, S, W, F, N, U⟩, c3) := by simp only [edAny, e1, e2, e3, hj, Int.toNat_natCast, hV, Int.reduceEq, if_true, if_false]
    rw [e] at hr
    rw [hj] at m1 m2
    have m4 : ([[], [65]] : List (List UInt8))[j]? = some V' := by rw [← hV, getD_lt m3]; exact List.getElem?_eq_getElem m3
    have m5 : (([[], [65]] : List (List UInt8)).map eStr)[j]? = some (eStr V') := by rw [List.getElem?_map, m4]; rfl
    simp only [List.map_cons, List.map_nil, eStr] at m5
    have m6 : (j : Int) < ((2 : Nat) : Int) := m2
    simp only [hc, e1, e2, e3, h1.1, h2.1, h3.2, hj, m1, m2, m5, m6, go_sem]
    repeat' ((first | ((first | apply qa | apply qb | apply qc | apply qd | apply qe | apply qf | apply qg | apply qh | apply qi | apply qj | apply qk) <;> intro hp) | ((first | refine ql rfl rfl (by decide +kernel) ?_ | refine qm _ rfl rfl (by decide +kernel) ?_ | refine goes_opn rfl ?_ | refine goes_opnD rfl rfl (by decide +kernel) ?_) <;> have hp := True.intro)) <;> simp only [hp, hc, e1, e2, e3, h1.1, h2.1, h3.2, hj, m1, m2, m5, m6, go_sem])
    simp only [fin_mk, finV, resL, resV1, resIn, endA, listIn, Option.some_or, Option.none_or, oneOrTup, go_sem]
    rw [← hr]
    first | rfl | (simp only [e]; rfl) | simp only [e]
  by_cases k2 : k = 2
  · subst k2
    have m1 := Int.tmod_nonneg 4 h2.2.1
    have m2 := Int.tmod_lt_of_pos y (show (0 : Int) < 4 by decide)
    obtain ⟨j, hj⟩ : ∃ j : Nat, y.tmod 4 = j := ⟨(y.tmod 4).toNat, by omega⟩
    have m3 : j < ([-2, -1, 100000, 100001] : List Int).length := by simp only [List.length_cons, List.length_nil]; omega
    obtain ⟨V', hV⟩ : ∃ V', ([-2, -1, 100000, 100001] : List Int).getD j 0 = V' := ⟨_, rfl⟩
    have e : edAny c = (⟨K, B, T, S, W, F, V', U⟩, c3) := by simp only [edAny, e1, e2, e3, hj, Int.toNat_natCast, hV, Int.reduceEq, if_true, if_false]
    rw [e] at hr
    rw [hj] at m1 m2
    have m4 : ([-2, -1, 100000, 100001] : List Int)[j]? = some V' := by rw [← hV, getD_lt m3]; exact List.getElem?_eq_getElem m3
    have m5 : (([-2, -1, 100000, 100001] : List Int).map eInt)[j]? = some (eInt V') := by rw [List.getElem?_map, m4]; rfl
    simp only [List.map_cons, List.map_nil, eInt] at m5
    have m6 : (j : Int) < ((4 : Nat) : Int) := m2
    simp only [hc, e1, e2, e3, h1.1, h2.1, h3.2, hj, m1, m2, m5, m6, go_sem]
    repeat' ((first | ((first | apply qa | apply qb | apply qc | apply qd | apply qe | apply qf | apply qg | apply qh | apply qi | apply qj | apply qk) <;> intro hp) | ((first | refine ql rfl rfl (by decide +kernel) ?_ | refine qm _ rfl rfl (by decide +kernel) ?_ | refine goes_opn rfl ?_ | refine goes_opnD rfl rfl (by decide +kernel) ?_) <;> have hp := True.intro)) <;> simp only [hp, hc, e1, e2, e3, h1.1, h2.1, h3.2, hj, m1, m2, m5, m6, go_sem])
    simp only [fin_mk, finV, resL, resV1, resIn, endA, listIn, Option.some_or, Option.none_or, oneOrTup, go_sem]
    rw [← hr]
    first | rfl | (simp only [e]; rfl) | simp only [e]
  by_cases k3 : k = 3
  · subst k3
    have e : edAny c = (⟨K, B, T, S, y.tmod 5, F, N, U⟩, c3) := by simp only [edAny, e1, e2, e3, Int.reduceEq, if_true, if_false]
    rw [e] at hr
    simp only [hc, e1, e2, e3, h1.1, h2.1, h3.2, go_sem]
    repeat' ((first | ((first | apply qa | apply qb | apply qc | apply qd | apply qe | apply qf | apply qg | apply qh | apply qi | apply qj | apply qk) <;> intro hp) | ((first | refine ql rfl rfl (by decide +kernel) ?_ | refine qm _ rfl rfl (by decide +kernel) ?_ | refine goes_opn rfl ?_ | refine goes_opnD rfl rfl (by decide +kernel) ?_) <;> have hp := True.intro)) <;> simp only [hp, hc, e1, e2, e3, h1.1, h2.1, h3.2, go_sem])
    simp only [fin_mk, finV, resL, resV1, resIn, endA, listIn, Option.some_or, Option.none_or, oneOrTup, go_sem]
    rw [← hr]
    first | rfl | (simp only [e]; rfl) | simp only [e]
  by_cases k4 : k = 4
  · subst k4
    have e : edAny c = (⟨K, B, T, S, W, y, N, U⟩, c3) := by simp only [edAny, e1, e2, e3, Int.reduceEq, if_true, if_false]
    rw [e] at hr
    simp only [hc, e1, e2, e3, h1.1, h2.1, h3.2, go_sem]
    repeat' ((first | ((first | apply qa | apply qb | apply qc | apply qd | apply qe | apply qf | apply qg | apply qh | apply qi | apply qj | apply qk) <;> intro hp) | ((first | refine ql rfl rfl (by decide +kernel) ?_ | refine qm _ rfl rfl (by decide +kernel) ?_ | refine goes_opn rfl ?_ | refine goes_opnD rfl rfl (by decide +kernel) ?_) <;> have hp := True.intro)) <;> simp only [hp, hc, e1, e2, e3, h1.1, h2.1, h3.2, go_sem])
    simp only [fin_mk, finV, resL, resV1, resIn, endA, listIn, Option.some_or, Option.none_or, oneOrTup, go_sem]
    rw [← hr]
    first | rfl | (simp only [e]; rfl) | simp only [e]
  by_cases k5 : k = 5
  · subst k5
    have m1 := Int.tmod_nonneg 2 h2.2.1
    have m2 := Int.tmod_lt_of_pos y (show (0 : Int) < 2 by decide)
    obtain ⟨j, hj⟩ : ∃ j : Nat, y.tmod 2 = j := ⟨(y.tmod 2).toNat, by omega⟩
    have m3 : j < ([[120], [97, 0]] : List (List UInt8)).length := by simp only [List.length_cons, List.length_nil]; omega
    obtain ⟨V', hV⟩ : ∃ V', ([[120], [97, 0]] : List (List UInt8)).getD j [] = V' := ⟨_, rfl⟩
    have e : edAny c = (⟨K, B, T, S, W, F, N, V'⟩, c3) := by simp only [edAny, e1, e2, e3, hj, Int.toNat_natCast, hV, Int.reduceEq, if_true, if_false]
    rw [e] at hr
    rw [hj] at m1 m2
    have m4 : ([[120], [97, 0]] : List (List UInt8))[j]? = some V' := by rw [← hV, getD_lt m3]; exact List.getElem?_eq_getElem m3
    have m5 : (([[120], [97, 0]] : List (List UInt8)).map eStr)[j]? = some (eStr V') := by rw [List.getElem?_map, m4]; rfl
    simp only [List.map_cons, List.map_nil, eStr] at m5
    have m6 : (j : Int) < ((2 : Nat) : Int) := m2
    simp only [hc, e1, e2, e3, h1.1, h2.1, h3.2, hj, m1, m2, m5, m6, go_sem]
    repeat' ((first | ((first | apply qa | apply qb | apply qc | apply qd | apply qe | apply qf | apply qg | apply qh | apply qi | apply qj | apply qk) <;> intro hp) | ((first | refine ql rfl rfl (by decide +kernel) ?_ | refine qm _ rfl rfl (by decide +kernel) ?_ | refine goes_opn rfl ?_ | refine goes_opnD rfl rfl (by decide +kernel) ?_) <;> have hp := True.intro)) <;> simp only [hp, hc, e1, e2, e3, h1.1, h2.1, h3.2, hj, m1, m2, m5, m6, go_sem])
    simp only [fin_mk, finV, resL, resV1, resIn, endA, listIn, Option.some_or, Option.none_or, oneOrTup, go_sem]
    rw [← hr]
    first | rfl | (simp only [e]; rfl) | simp only [e]
  have n0 : (k == 0) = false := beq_eq_false_iff_ne.2 k0
  have n1 : (k == 1) = false := beq_eq_false_iff_ne.2 k1
  have n2 : (k == 2) = false := beq_eq_false_iff_ne.2 k2
  have n3 : (k == 3) = false := beq_eq_false_iff_ne.2 k3
  have n4 : (k == 4) = false := beq_eq_false_iff_ne.2 k4
  have n5 : (k == 5) = false := beq_eq_false_iff_ne.2 k5
  have e : edAny c = (⟨K, B, T, S, W, F, N, U⟩, c3) := by simp only [edAny, e1, e2, e3, k0, k1, k2, k3, k4, k5, if_false]
  rw [e] at hr
  simp only [hc, e1, e2, e3, h1.1, h2.1, h3.2, n0, n1, n2, n3, n4, n5, go_sem]
  repeat' ((first | ((first | apply qa | apply qb | apply qc | apply qd | apply qe | apply qf | apply qg | apply qh | apply qi | apply qj | apply qk) <;> intro hp) | ((first | refine ql rfl rfl (by decide +kernel) ?_ | refine qm _ rfl rfl (by decide +kernel) ?_ | refine goes_opn rfl ?_ | refine goes_opnD rfl rfl (by decide +kernel) ?_) <;> have hp := True.intro)) <;> simp only [hp, hc, e1, e2, e3, h1.1, h2.1, h3.2, n0, n1, n2, n3, n4, n5, go_sem])
  simp only [fin_mk, finV, resL, resV1, resIn, endA, listIn, Option.some_or, Option.none_or, oneOrTup, go_sem]
  rw [← hr]
  first | rfl | (simp only [e]; rfl) | simp only [e]
open Classical in
noncomputable def spDrawEdit : VM.Spec := { modes := [.rd], run := fun | [.lst 1 code'] => (decL dU8 code').bind fun code => if code.length ≤ 4194304 then some (Edit.enc ((editD (cur0 code)).1), []) else none | _ => none, need := [] }
attribute [go_sem] spDrawEdit
theorem spDrawEdit_in {ins : List V} {r : V} {outs : List V} (h : spDrawEdit.run ins = some (r, outs)) : ∃ (code : (List Int)), ins = [.lst 1 ((code).map eU8)] ∧ (code.length ≤ 4194304) ∧ Edit.enc ((editD (cur0 code)).1) = r ∧ outs = [] := by
  unfold spDrawEdit at h
  simp only at h
  split at h
  · rename_i code'
    simp only [Option.bind_eq_some_iff] at h
    obtain ⟨code, h_code, h⟩ := h
    split at h
    case isFalse => cases h
    rename_i hc
    simp only [Option.some.injEq, Prod.mk.injEq] at h
    obtain ⟨h1, h2⟩ := h
    have h_code := decL_some (fun _ _ h => dU8_some h) h_code
    subst h_code
    exact ⟨code, rfl, hc, h1, h2.symm⟩
  · cases h
open Classical in
noncomputable def spDrawEditText : VM.Spec := { modes := [.rd], run := fun | [.lst 1 code'] => (decL dU8 code').bind fun code => if code.length ≤ 4194304 then some (Edit.enc ((edAny (cur0 code)).1), []) else none | _ => none, need := [] }
attribute [go_sem] spDrawEditText
theorem spDrawEditText_in {ins : List V} {r : V} {outs : List V} (h : spDrawEditText.run ins = some (r, outs)) : ∃ (code : (List Int)), ins = [.lst 1 ((code).map eU8)] ∧ (code.length ≤ 4194304) ∧ Edit.enc ((edAny (cur0 code)).1) = r ∧ outs = [] := by
  unfold spDrawEditText at h
  simp only at h
  split at h
  · rename_i code'
    simp only [Option.bind_eq_some_iff] at h
    obtain ⟨code, h_code, h⟩ := h
    split at h
    case isFalse => cases h
    rename_i hc
    simp only [Option.some.injEq, Prod.mk.injEq] at h
    obtain ⟨h1, h2⟩ := h
    have h_code := decL_some (fun _ _ h => dU8_some h) h_code
    subst h_code
    exact ⟨code, rfl, hc, h1, h2.symm⟩
  · cases h
def T_spec_DrawEditText : Hints := ⟨fun _ => none, fun _ => none, fun i => if i = 0 then some [0, 2] else if i = 1 then some [2] else none, fun _ => none⟩
noncomputable def Phi_spec_DrawEditText : Tab := fun f => if f = 38 then some spNew else if f = 37 then some spEdAny else none
attribute [go_sem] T_spec_DrawEditText Phi_spec_DrawEditText
theorem phi_spec_DrawEditText : ∀ f sp, Phi_spec_DrawEditText f = some sp → FnOk Tryz.prog f sp ∧ ∀ n ∈ sp.need, n ∈ ([] : List String) := by
  intro f sp h
  unfold Phi_spec_DrawEditText at h
  by_cases e : f = 38
  · rw [if_pos e] at h; cases h; rw [e]; exact ⟨ok_spec_l01New, (fun n (h : n ∈ ([] : List String)) => (nomatch h))⟩
  rw [if_neg e] at h
  by_cases e : f = 37
  · rw [if_pos e] at h; cases h; rw [e]; exact ⟨ok_spec_l10Any, (fun n (h : n ∈ ([] : List String)) => (nomatch h))⟩
  rw [if_neg e] at h
  cases h
theorem ok_spec_DrawEditText : FnOk Tryz.prog 7 spDrawEditText := by
  refine fn_ok (Φ := Phi_spec_DrawEditText) (T := T_spec_DrawEditText) phi_spec_DrawEditText mixed Tryz.func7 rfl rfl rfl (by decide) ?_
  intro ins r outs hr hl
  clear hl
  have hs := spDrawEditText_in hr
  clear hr
  obtain ⟨code, rfl, hc, hr, rfl⟩ := hs
  simp only [spDrawEditText, Tryz.f7, Go.VM.initS]
  have i0 := cur0_in hc
  simp only [hc, i0, go_sem]
  repeat' ((first | ((first | apply qa | apply qb | apply qc | apply qd | apply qe | apply qf | apply qg | apply qh | apply qi | apply qj | apply qk) <;> intro hp) | ((first | refine ql rfl rfl (by decide +kernel) ?_ | refine qm _ rfl rfl (by decide +kernel) ?_ | refine goes_opn rfl ?_ | refine goes_opnD rfl rfl (by decide +kernel) ?_) <;> have hp := True.intro)) <;> simp only [hp, hc, i0, go_sem])
  simp only [fin_mk, finV, resL, resV1, resIn, endA, listIn, Option.some_or, Option.none_or, oneOrTup, go_sem]
  rw [← hr]
  first | rfl | skip
end Go.Proofs.YtimiccneikhkgaaGreatDoor.L
