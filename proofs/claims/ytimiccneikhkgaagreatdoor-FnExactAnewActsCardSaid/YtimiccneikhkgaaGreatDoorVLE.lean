/- Edits: what is right of them. -/
import Derived.Test.YtimiccneikhkgaaGreatDoorVLC
namespace Go.Proofs.YtimiccneikhkgaaGreatDoor.L
open Go Go.VM
set_option maxRecDepth 100000
set_option maxHeartbeats 4000000
set_option linter.unusedSimpArgs false
set_option linter.unusedVariables false
def usesTo (k : Int) : Bool := k == 6 || k == 7
def sinceOk (x : Edit) : Bool := if x.Kind == 4 then within x.Since (-1) 100000 else if x.Kind == 8 then within x.Since 0 100000 else x.Since == 0
def eTo (x : Edit) : Bool := (x.To == [] && !usesTo x.Kind) || (usesTo x.Kind && boxName x.To)
def eSet (x : Edit) : Bool := x.Set.isEmpty || (within x.Kind 4 7 && setOk x.Set)
def eHow (x : Edit) : Bool := (x.How == 0 && !(x.Kind == 4)) || (x.Kind == 4 && within x.How 1 3)
def eBits (x : Edit) : Bool := x.Bits == 0 || ((x.Kind == 3 || x.Kind == 4) && flagsOk x.Bits)
def eText (x : Edit) : Bool := (x.Text == [] && !(x.Kind == 3)) || (x.Kind == 3 && mailOk x.Text)
def editOk (x : Edit) : Bool := (within x.Kind 1 8 && boxName x.Box && sinceOk x) && (eTo x && eSet x && eHow x && eBits x && eText x)
open Classical in
noncomputable def spUsesTo : VM.Spec := { modes := [.rd], run := fun | [.int .i64 k] => some (.bool (usesTo k), []) | _ => none, need := [] }
attribute [go_sem] spUsesTo
theorem spUsesTo_in {ins : List V} {r : V} {outs : List V} (h : spUsesTo.run ins = some (r, outs)) : ∃ (k : Int), ins = [.int .i64 k] ∧ .bool (usesTo k) = r ∧ outs = [] := by
  unfold spUsesTo at h
  simp only at h
  split at h
  · rename_i k
    simp only [Option.some.injEq, Prod.mk.injEq] at h
    obtain ⟨h1, h2⟩ := h
    exact ⟨k, rfl, h1, h2.symm⟩
  · cases h
def T_impl_usesTo : Hints := ⟨fun _ => none, fun _ => none, fun i => if i = 0 then some [0] else if i = 1 then some [2] else none, fun _ => none⟩
noncomputable def Phi_impl_usesTo : Tab := fun f => none
attribute [go_sem] T_impl_usesTo Phi_impl_usesTo
theorem phi_impl_usesTo : ∀ f sp, Phi_impl_usesTo f = some sp → FnOk Tryz.prog f sp ∧ ∀ n ∈ sp.need, n ∈ ([] : List String) := by
  intro f sp h
  unfold Phi_impl_usesTo at h
  cases h
theorem ok_impl_usesTo : FnOk Tryz.prog 62 spUsesTo := by
  refine fn_ok (Φ := Phi_impl_usesTo) (T := T_impl_usesTo) phi_impl_usesTo mixed Tryz.func62 rfl rfl rfl (by decide) ?_
  intro ins r outs hr hl
  clear hl
  have hs := spUsesTo_in hr
  clear hr
  obtain ⟨k, rfl, hr, rfl⟩ := hs
  simp only [spUsesTo, Tryz.f62, Go.VM.initS]
  simp only [go_sem]
  repeat' ((first | ((first | apply qa | apply qb | apply qc | apply qd | apply qe | apply qf | apply qg | apply qh | apply qi | apply qj | apply qk) <;> intro hp) | ((first | refine ql rfl rfl (by decide +kernel) ?_ | refine qm _ rfl rfl (by decide +kernel) ?_ | refine goes_opn rfl ?_ | refine goes_opnD rfl rfl (by decide +kernel) ?_) <;> have hp := True.intro)) <;> simp only [hp, go_sem])
  all_goals (simp only [fin_mk, finV, resL, resV1, resIn, endA, listIn, Option.some_or, Option.none_or, oneOrTup, go_sem]; rw [← hr])
  all_goals (clear hr; simp_all [usesTo])
open Classical in
noncomputable def spUsesSet : VM.Spec := { modes := [.rd], run := fun | [.int .i64 k] => some (.bool (within k 4 7), []) | _ => none, need := [] }
attribute [go_sem] spUsesSet
theorem spUsesSet_in {ins : List V} {r : V} {outs : List V} (h : spUsesSet.run ins = some (r, outs)) : ∃ (k : Int), ins = [.int .i64 k] ∧ .bool (within k 4 7) = r ∧ outs = [] := by
  unfold spUsesSet at h
  simp only at h
  split at h
  · rename_i k
    simp only [Option.some.injEq, Prod.mk.injEq] at h
    obtain ⟨h1, h2⟩ := h
    exact ⟨k, rfl, h1, h2.symm⟩
  · cases h
def T_impl_usesSet : Hints := ⟨fun _ => none, fun _ => none, fun i => if i = 0 then some [0] else if i = 1 then some [2] else none, fun _ => none⟩
noncomputable def Phi_impl_usesSet : Tab := fun f => if f = 59 then some spWithin else none
attribute [go_sem] T_impl_usesSet Phi_impl_usesSet
theorem phi_impl_usesSet : ∀ f sp, Phi_impl_usesSet f = some sp → FnOk Tryz.prog f sp ∧ ∀ n ∈ sp.need, n ∈ ([] : List String) := by
  intro f sp h
  unfold Phi_impl_usesSet at h
  by_cases e : f = 59
  · rw [if_pos e] at h; cases h; rw [e]; exact ⟨ok_impl_within, (fun n (h : n ∈ ([] : List String)) => (nomatch h))⟩
  rw [if_neg e] at h
  cases h
theorem ok_impl_usesSet : FnOk Tryz.prog 63 spUsesSet := by
  refine fn_ok (Φ := Phi_impl_usesSet) (T := T_impl_usesSet) phi_impl_usesSet mixed Tryz.func63 rfl rfl rfl (by decide) ?_
  intro ins r outs hr hl
  clear hl
  have hs := spUsesSet_in hr
  clear hr
  obtain ⟨k, rfl, hr, rfl⟩ := hs
  simp only [spUsesSet, Tryz.f63, Go.VM.initS]
  simp only [go_sem]
  simp only [fin_mk, finV, resL, resV1, resIn, endA, listIn, Option.some_or, Option.none_or, oneOrTup, go_sem]
  rw [← hr]
open Classical in
noncomputable def spSinceOk : VM.Spec := { modes := [.rd], run := fun | [x'] => (Edit.dec x').bind fun x => some (.bool (sinceOk x), []) | _ => none, need := [] }
attribute [go_sem] spSinceOk
theorem spSinceOk_in {ins : List V} {r : V} {outs : List V} (h : spSinceOk.run ins = some (r, outs)) : ∃ (x : Edit), ins = [Edit.enc x] ∧ .bool (sinceOk x) = r ∧ outs = [] := by
  unfold spSinceOk at h
  simp only at h
  split at h
  · rename_i x'
    simp only [Option.bind_eq_some_iff] at h
    obtain ⟨x, h_x, h⟩ := h
    simp only [Option.some.injEq, Prod.mk.injEq] at h
    obtain ⟨h1, h2⟩ := h
    have h_x := Edit.dec_some h_x
    subst h_x
    exact ⟨x, rfl, h1, h2.symm⟩
  · cases h
def T_impl_sinceOk : Hints := ⟨fun _ => none, fun _ => none, fun i => if i = 0 then some [1] else if i = 1 then some [1, 4] else if i = 2 then some [1, 4, 5] else if i = 3 then some [2] else if i = 4 then some [1, 10] else if i = 5 then some [2] else if i = 6 then some [2] else none, fun _ => none⟩
noncomputable def Phi_impl_sinceOk : Tab := fun f => if f = 59 then some spWithin else none
attribute [go_sem] T_impl_sinceOk Phi_impl_sinceOk
theorem phi_impl_sinceOk : ∀ f sp, Phi_impl_sinceOk f = some sp → FnOk Tryz.prog f sp ∧ ∀ n ∈ sp.need, n ∈ ([] : List String) := by
  intro f sp h
  unfold Phi_impl_sinceOk at h
  by_cases e : f = 59
  · rw [if_pos e] at h; cases h; rw [e]; exact ⟨ok_impl_within, (fun n (h : n ∈ ([] : List String)) => (nomatch h))⟩
  rw [if_neg e] at h
  cases h
theorem ok_impl_sinceOk : FnOk Tryz.prog 61 spSinceOk := by
  refine fn_ok (Φ := Phi_impl_sinceOk) (T := T_impl_sinceOk) phi_impl_sinceOk mixed Tryz.func61 rfl rfl rfl (by decide) ?_
  intro ins r outs hr hl
  clear hl
  have hs := spSinceOk_in hr
  clear hr
  obtain ⟨x, rfl, hr, rfl⟩ := hs
  simp only [spSinceOk, Tryz.f61, Go.VM.initS]
  simp only [go_sem]
  repeat' ((first | ((first | apply qa | apply qb | apply qc | apply qd | apply qe | apply qf | apply qg | apply qh | apply qi | apply qj | apply qk) <;> intro hp) | ((first | refine ql rfl rfl (by decide +kernel) ?_ | refine qm _ rfl rfl (by decide +kernel) ?_ | refine goes_opn rfl ?_ | refine goes_opnD rfl rfl (by decide +kernel) ?_) <;> have hp := True.intro)) <;> simp only [hp, go_sem])
  all_goals (simp only [fin_mk, finV, resL, resV1, resIn, endA, listIn, Option.some_or, Option.none_or, oneOrTup, go_sem]; rw [← hr])
  all_goals simp_all [sinceOk]
open Classical in
noncomputable def spEditOk : VM.Spec := { modes := [.rd], run := fun | [x'] => (Edit.dec x').bind fun x => if x.le 4194304 then some (.bool (editOk x), []) else none | _ => none, need := [] }
attribute [go_sem] spEditOk
theorem spEditOk_in {ins : List V} {r : V} {outs : List V} (h : spEditOk.run ins = some (r, outs)) : ∃ (x : Edit), ins = [Edit.enc x] ∧ (x.le 4194304) ∧ .bool (editOk x) = r ∧ outs = [] := by
  unfold spEditOk at h
  simp only at h
  split at h
  · rename_i x'
    simp only [Option.bind_eq_some_iff] at h
    obtain ⟨x, h_x, h⟩ := h
    split at h
    case isFalse => cases h
    rename_i hc
    simp only [Option.some.injEq, Prod.mk.injEq] at h
    obtain ⟨h1, h2⟩ := h
    have h_x := Edit.dec_some h_x
    subst h_x
    exact ⟨x, rfl, hc, h1, h2.symm⟩
  · cases h
def T_impl_EditOk : Hints := ⟨fun i => if i = 1 then some [] else if i = 3 then some [] else if i = 4 then some [] else if i = 5 then some [] else if i = 6 then some [] else if i = 7 then some [] else if i = 8 then some [] else none, fun _ => none, fun i => if i = 0 then some [1] else if i = 1 then some [1, 22] else if i = 2 then some [2] else if i = 3 then some [1, 3] else if i = 4 then some [1, 3, 4] else if i = 5 then some [1, 3, 4, 5] else if i = 6 then some [1, 3, 4, 5, 6] else if i = 7 then some [3, 4, 5, 6, 7] else if i = 8 then some [2] else none, fun _ => none⟩
noncomputable def Phi_impl_EditOk : Tab := fun f => if f = 59 then some spWithin else if f = 60 then some spBoxName else if f = 61 then some spSinceOk else if f = 62 then some spUsesTo else if f = 63 then some spUsesSet else if f = 64 then some spSetOk else if f = 65 then some spFlagsOk else if f = 66 then some spMailOk else none
attribute [go_sem] T_impl_EditOk Phi_impl_EditOk
theorem phi_impl_EditOk : ∀ f sp, Phi_impl_EditOk f = some sp → FnOk Tryz.prog f sp ∧ ∀ n ∈ sp.need, n ∈ ([] : List String) := by
  intro f sp h
  unfold Phi_impl_EditOk at h
  by_cases e : f = 59
  · rw [if_pos e] at h; cases h; rw [e]; exact ⟨ok_impl_within, (fun n (h : n ∈ ([] : List String)) => (nomatch h))⟩
  rw [if_neg e] at h
  by_cases e : f = 60
  · rw [if_pos e] at h; cases h; rw [e]; exact ⟨ok_impl_BoxName, (fun n (h : n ∈ ([] : List String)) => (nomatch h))⟩
  rw [if_neg e] at h
  by_cases e : f = 61
  · rw [if_pos e] at h; cases h; rw [e]; exact ⟨ok_impl_sinceOk, (fun n (h : n ∈ ([] : List String)) => (nomatch h))⟩
  rw [if_neg e] at h
  by_cases e : f = 62
  · rw [if_pos e] at h; cases h; rw [e]; exact ⟨ok_impl_usesTo, (fun n (h : n ∈ ([] : List String)) => (nomatch h))⟩
  rw [if_neg e] at h
  by_cases e : f = 63
  · rw [if_pos e] at h; cases h; rw [e]; exact ⟨ok_impl_usesSet, (fun n (h : n ∈ ([] : List String)) => (nomatch h))⟩
  rw [if_neg e] at h
  by_cases e : f = 64
  · rw [if_pos e] at h; cases h; rw [e]; exact ⟨ok_impl_SetOk, (fun n (h : n ∈ ([] : List String)) => (nomatch h))⟩
  rw [if_neg e] at h
  by_cases e : f = 65
  · rw [if_pos e] at h; cases h; rw [e]; exact ⟨ok_impl_FlagsOk, (fun n (h : n ∈ ([] : List String)) => (nomatch h))⟩
  rw [if_neg e] at h
  by_cases e : f = 66
  · rw [if_pos e] at h; cases h; rw [e]; exact ⟨ok_impl_MailOk, (fun n (h : n ∈ ([] : List String)) => (nomatch h))⟩
  rw [if_neg e] at h
  cases h
theorem ok_impl_EditOk : FnOk Tryz.prog 13 spEditOk := by
  refine fn_ok (Φ := Phi_impl_EditOk) (T := T_impl_EditOk) phi_impl_EditOk mixed Tryz.func13 rfl rfl rfl (by decide) ?_
  intro ins r outs hr hl
  clear hl
  have hs := spEditOk_in hr
  clear hr
  obtain ⟨x, rfl, hc, hr, rfl⟩ := hs
  simp only [spEditOk, Tryz.f13, Go.VM.initS]
  have hb : x.Box.length ≤ 1099511627776 := Nat.le_trans hc.1 (by decide)
  have ht : x.To.length ≤ 1099511627776 := Nat.le_trans hc.2.1 (by decide)
  have hs : x.Set.length ≤ 4194304 := hc.2.2.1.1
  have hx : x.Text.length ≤ 4194304 := hc.2.2.2
  have l1 : ((x.Set.length : Int) == 0) = x.Set.isEmpty := by cases x.Set <;> simp <;> omega
  have hE : editOk x = ((within x.Kind 1 8 && boxName x.Box && sinceOk x) && (eTo x && eSet x && eHow x && eBits x && eText x)) := rfl
  rw [hE] at hr
  clear hE
  simp only [go_sem]
  refine goes_val 22 V.bool (!(within x.Kind 1 8 && boxName x.Box && sinceOk x)) rfl rfl ?_ ?_
  · intro G hG
    simp only [hb, go_sem]
    repeat' ((first | ((first | apply qa | apply qb | apply qc | apply qd | apply qe | apply qf | apply qg | apply qh | apply qi | apply qj | apply qk) <;> intro hp) | ((first | refine ql rfl rfl (by decide +kernel) ?_ | refine qm _ rfl rfl (by decide +kernel) ?_ | refine goes_opn rfl ?_ | refine goes_opnD rfl rfl (by decide +kernel) ?_) <;> have hp := True.intro)) <;> simp only [hp, hb, go_sem])
    all_goals ((first | refine hG _ ?_ | (simp only [*] at hG; refine hG _ ?_)); clear hG; simp_all)
  simp only [go_sem]
  repeat' ((first | ((first | apply qa | apply qb | apply qc | apply qd | apply qe | apply qf | apply qg | apply qh | apply qi | apply qj | apply qk) <;> intro hp) | ((first | refine ql rfl rfl (by decide +kernel) ?_ | refine qm _ rfl rfl (by decide +kernel) ?_ | refine goes_opn rfl ?_ | refine goes_opnD rfl rfl (by decide +kernel) ?_) <;> have hp := True.intro)) <;> simp only [hp, go_sem])
  · simp only [fin_mk, finV, resL, resV1, resIn, endA, listIn, Option.some_or, Option.none_or, oneOrTup, go_sem]
    rw [← hr]
    rw [hp]
    rfl
  refine goes_val 3 V.bool (eTo x) rfl rfl ?_ ?_
  · intro G hG
    simp only [ht, go_sem]
    repeat' ((first | ((first | apply qa | apply qb | apply qc | apply qd | apply qe | apply qf | apply qg | apply qh | apply qi | apply qj | apply qk) <;> intro hp) | ((first | refine ql rfl rfl (by decide +kernel) ?_ | refine qm _ rfl rfl (by decide +kernel) ?_ | refine goes_opn rfl ?_ | refine goes_opnD rfl rfl (by decide +kernel) ?_) <;> have hp := True.intro)) <;> simp only [hp, ht, go_sem])
    all_goals ((first | refine hG _ ?_ | (simp only [*] at hG; refine hG _ ?_)); clear hG; simp_all [eTo])
  simp only [go_sem]
  refine goes_val 4 V.bool (eSet x) rfl rfl ?_ ?_
  · intro G hG
    simp only [hs, l1, go_sem]
    repeat' ((first | ((first | apply qa | apply qb | apply qc | apply qd | apply qe | apply qf | apply qg | apply qh | apply qi | apply qj | apply qk) <;> intro hp) | ((first | refine ql rfl rfl (by decide +kernel) ?_ | refine qm _ rfl rfl (by decide +kernel) ?_ | refine goes_opn rfl ?_ | refine goes_opnD rfl rfl (by decide +kernel) ?_) <;> have hp := True.intro)) <;> simp only [hp, hs, l1, go_sem])
    all_goals ((first | refine hG _ ?_ | (simp only [*] at hG; refine hG _ ?_)); clear hG; simp_all [eSet])
  simp only [go_sem]
  refine goes_val 5 V.bool (eHow x) rfl rfl ?_ ?_
  · intro G hG
    simp only [go_sem]
    repeat' ((first | ((first | apply qa | apply qb | apply qc | apply qd | apply qe | apply qf | apply qg | apply qh | apply qi | apply qj | apply qk) <;> intro hp) | ((first | refine ql rfl rfl (by decide +kernel) ?_ | refine qm _ rfl rfl (by decide +kernel) ?_ | refine goes_opn rfl ?_ | refine goes_opnD rfl rfl (by decide +kernel) ?_) <;> have hp := True.intro)) <;> simp only [hp, go_sem])
    all_goals ((first | refine hG _ ?_ | (simp only [*] at hG; refine hG _ ?_)); clear hG; simp_all [eHow])
  simp only [go_sem]
  refine goes_val 6 V.bool (eBits x) rfl rfl ?_ ?_
  · intro G hG
    simp only [go_sem]
    repeat' ((first | ((first | apply qa | apply qb | apply qc | apply qd | apply qe | apply qf | apply qg | apply qh | apply qi | apply qj | apply qk) <;> intro hp) | ((first | refine ql rfl rfl (by decide +kernel) ?_ | refine qm _ rfl rfl (by decide +kernel) ?_ | refine goes_opn rfl ?_ | refine goes_opnD rfl rfl (by decide +kernel) ?_) <;> have hp := True.intro)) <;> simp only [hp, go_sem])
    all_goals ((first | refine hG _ ?_ | (simp only [*] at hG; refine hG _ ?_)); clear hG; simp_all [eBits])
  simp only [go_sem]
  refine goes_val 7 V.bool (eText x) rfl rfl ?_ ?_
  · intro G hG
    simp only [hx, go_sem]
    repeat' ((first | ((first | apply qa | apply qb | apply qc | apply qd | apply qe | apply qf | apply qg | apply qh | apply qi | apply qj | apply qk) <;> intro hp) | ((first | refine ql rfl rfl (by decide +kernel) ?_ | refine qm _ rfl rfl (by decide +kernel) ?_ | refine goes_opn rfl ?_ | refine goes_opnD rfl rfl (by decide +kernel) ?_) <;> have hp := True.intro)) <;> simp only [hp, hx, go_sem])
    all_goals ((first | refine hG _ ?_ | (simp only [*] at hG; refine hG _ ?_)); clear hG; simp_all [eText])
  simp only [go_sem]
  refine goes_val 2 V.bool (eTo x && eSet x && eHow x && eBits x && eText x) rfl rfl ?_ ?_
  · intro G hG
    simp only [go_sem]
    repeat' ((first | ((first | apply qa | apply qb | apply qc | apply qd | apply qe | apply qf | apply qg | apply qh | apply qi | apply qj | apply qk) <;> intro hp) | ((first | refine ql rfl rfl (by decide +kernel) ?_ | refine qm _ rfl rfl (by decide +kernel) ?_ | refine goes_opn rfl ?_ | refine goes_opnD rfl rfl (by decide +kernel) ?_) <;> have hp := True.intro)) <;> simp only [hp, go_sem])
    all_goals ((first | refine hG _ ?_ | (simp only [*] at hG; refine hG _ ?_)); clear hG; simp_all)
  simp only [go_sem]
  simp only [fin_mk, finV, resL, resV1, resIn, endA, listIn, Option.some_or, Option.none_or, oneOrTup, go_sem]
  rw [← hr]
  rw [hp, Bool.true_and]
def uSet (k : Int) : Bool := usesTo k || k == 4 || k == 5
def editUses (x : Edit) : Bool := (usesTo x.Kind || x.To == []) && (uSet x.Kind || x.Set.isEmpty) && (x.Kind == 4 || x.How == 0) && ((x.Kind == 4 || x.Kind == 3) || x.Bits == 0) && ((x.Kind == 4 || x.Kind == 8) || x.Since == 0) && (x.Kind == 3 || x.Text == [])
open Classical in
noncomputable def spEditUses : VM.Spec := { modes := [.rd], run := fun | [x'] => (Edit.dec x').bind fun x => some (.bool (editUses x), []) | _ => none, need := [] }
attribute [go_sem] spEditUses
theorem spEditUses_in {ins : List V} {r : V} {outs : List V} (h : spEditUses.run ins = some (r, outs)) : ∃ (x : Edit), ins = [Edit.enc x] ∧ .bool (editUses x) = r ∧ outs = [] := by
  unfold spEditUses at h
  simp only at h
  split at h
  · rename_i x'
    simp only [Option.bind_eq_some_iff] at h
    obtain ⟨x, h_x, h⟩ := h
    simp only [Option.some.injEq, Prod.mk.injEq] at h
    obtain ⟨h1, h2⟩ := h
    have h_x := Edit.dec_some h_x
    subst h_x
    exact ⟨x, rfl, h1, h2.symm⟩
  · cases h
def T_spec_l10Uses : Hints := ⟨fun i => if i = 1 then some [] else if i = 2 then some [] else if i = 5 then some [] else if i = 6 then some [] else none, fun _ => none, fun i => if i = 0 then some [1] else if i = 1 then some [1, 3] else if i = 2 then some [1, 3, 4] else if i = 3 then some [1, 3, 4, 5] else if i = 4 then some [1, 3, 4, 5, 6] else if i = 5 then some [1, 3, 4, 5, 6, 7] else if i = 6 then some [2] else none, fun _ => none⟩
noncomputable def Phi_spec_l10Uses : Tab := fun f => none
attribute [go_sem] T_spec_l10Uses Phi_spec_l10Uses
theorem phi_spec_l10Uses : ∀ f sp, Phi_spec_l10Uses f = some sp → FnOk Tryz.prog f sp ∧ ∀ n ∈ sp.need, n ∈ ([] : List String) := by
  intro f sp h
  unfold Phi_spec_l10Uses at h
  cases h
theorem ok_spec_l10Uses : FnOk Tryz.prog 55 spEditUses := by
  refine fn_ok (Φ := Phi_spec_l10Uses) (T := T_spec_l10Uses) phi_spec_l10Uses mixed Tryz.func55 rfl rfl rfl (by decide) ?_
  intro ins r outs hr hl
  clear hl
  have hs := spEditUses_in hr
  clear hr
  obtain ⟨x, rfl, hr, rfl⟩ := hs
  simp only [spEditUses, Tryz.f55, Go.VM.initS]
  have l1 : ((x.Set.length : Int) == 0) = x.Set.isEmpty := by cases x.Set <;> simp <;> omega
  simp only [go_sem]
  refine goes_val 3 V.bool (usesTo x.Kind) rfl rfl ?_ ?_
  · intro G hG
    simp only [go_sem]
    repeat' ((first | ((first | apply qa | apply qb | apply qc | apply qd | apply qe | apply qf | apply qg | apply qh | apply qi | apply qj | apply qk) <;> intro hp) | ((first | refine ql rfl rfl (by decide +kernel) ?_ | refine qm _ rfl rfl (by decide +kernel) ?_ | refine goes_opn rfl ?_ | refine goes_opnD rfl rfl (by decide +kernel) ?_) <;> have hp := True.intro)) <;> simp only [hp, go_sem])
    all_goals ((first | refine hG _ ?_ | (simp only [*] at hG; refine hG _ ?_)); clear hG; simp_all [usesTo])
  simp only [go_sem]
  refine goes_val 4 V.bool (uSet x.Kind) rfl rfl ?_ ?_
  · intro G hG
    simp only [go_sem]
    repeat' ((first | ((first | apply qa | apply qb | apply qc | apply qd | apply qe | apply qf | apply qg | apply qh | apply qi | apply qj | apply qk) <;> intro hp) | ((first | refine ql rfl rfl (by decide +kernel) ?_ | refine qm _ rfl rfl (by decide +kernel) ?_ | refine goes_opn rfl ?_ | refine goes_opnD rfl rfl (by decide +kernel) ?_) <;> have hp := True.intro)) <;> simp only [hp, go_sem])
    all_goals ((first | refine hG _ ?_ | (simp only [*] at hG; refine hG _ ?_)); clear hG; simp_all [uSet])
  simp only [go_sem]
  refine goes_val 7 V.bool (x.Kind == 4 || x.Kind == 8) rfl rfl ?_ ?_
  · intro G hG
    simp only [go_sem]
    repeat' ((first | ((first | apply qa | apply qb | apply qc | apply qd | apply qe | apply qf | apply qg | apply qh | apply qi | apply qj | apply qk) <;> intro hp) | ((first | refine ql rfl rfl (by decide +kernel) ?_ | refine qm _ rfl rfl (by decide +kernel) ?_ | refine goes_opn rfl ?_ | refine goes_opnD rfl rfl (by decide +kernel) ?_) <;> have hp := True.intro)) <;> simp only [hp, go_sem])
    all_goals ((first | refine hG _ ?_ | (simp only [*] at hG; refine hG _ ?_)); clear hG; simp_all)
  simp only [go_sem]
  refine goes_val 2 V.bool (editUses x) rfl rfl ?_ ?_
  · intro G hG
    simp only [l1, go_sem]
    repeat' ((first | ((first | apply qa | apply qb | apply qc | apply qd | apply qe | apply qf | apply qg | apply qh | apply qi | apply qj | apply qk) <;> intro hp) | ((first | refine ql rfl rfl (by decide +kernel) ?_ | refine qm _ rfl rfl (by decide +kernel) ?_ | refine goes_opn rfl ?_ | refine goes_opnD rfl rfl (by decide +kernel) ?_) <;> have hp := True.intro)) <;> simp only [hp, l1, go_sem])
    all_goals ((first | refine hG _ ?_ | (simp only [*] at hG; refine hG _ ?_)); clear hG; simp_all [editUses])
  simp only [go_sem]
  simp only [fin_mk, finV, resL, resV1, resIn, endA, listIn, Option.some_or, Option.none_or, oneOrTup, go_sem]
  rw [← hr]
def editKind (x : Edit) : Bool := if x.Kind == 6 then boxName x.To else if x.Kind == 7 then boxName x.To else if x.Kind == 4 then within x.How 1 3 && within x.Since (-1) 100000 else if x.Kind == 8 then within x.Since 0 100000 else if x.Kind == 3 then mailOk x.Text else true
theorem editOk_eq (x : Edit) : editOk x = ((within x.Kind 1 8 && boxName x.Box && editUses x && setOk x.Set && flagsOk x.Bits) && editKind x) := by
  cases hk : within x.Kind 1 8 with
  | false => simp [editOk, hk]
  | true =>
    have hk' : x.Kind = 1 ∨ x.Kind = 2 ∨ x.Kind = 3 ∨ x.Kind = 4 ∨ x.Kind = 5 ∨ x.Kind = 6 ∨ x.Kind = 7 ∨ x.Kind = 8 := by
      simp only [within, Bool.and_eq_true, decide_eq_true_eq] at hk; omega
    obtain ⟨K, B, T, S, H, I, N, X⟩ := x
    simp only at hk'
    have hS : S.isEmpty = true → setOk S = true := by cases S <;> simp; rfl
    have hI : (I == 0) = true → flagsOk I = true := by intro h; have : I = 0 := by simpa using h
                                                       subst this; rfl
    rcases hk' with rfl | rfl | rfl | rfl | rfl | rfl | rfl | rfl <;>
      simp only [editOk, editUses, editKind, eTo, eSet, eHow, eBits, eText, sinceOk, usesTo, uSet, within, Int.reduceBEq, Int.reduceLE, decide_true, decide_false, Bool.or_false, Bool.false_or, Bool.true_or, Bool.or_true, Bool.not_true, Bool.not_false, Bool.and_true, Bool.true_and, Bool.and_false, Bool.false_and, Bool.or_self, Bool.false_eq_true, if_true, if_false] <;>
      (generalize hb : boxName B = b1; generalize ht : boxName T = b2; generalize (T == []) = b3; generalize S.isEmpty = b4 at *; generalize setOk S = b5 at *; generalize (H == 0) = b6; generalize (I == 0) = b7 at *; generalize flagsOk I = b8 at *; generalize (N == 0) = b9; generalize (X == []) = b10; clear hb ht hk; revert hS hI; cases b4 <;> cases b5 <;> cases b7 <;> cases b8 <;> simp <;> cases b1 <;> cases b6 <;> simp <;> cases b9 <;> cases b10 <;> simp <;> cases b3 <;> simp <;> rw [Bool.and_comm])
def T_spec_EditOk : Hints := ⟨fun i => if i = 1 then some [] else if i = 8 then some [] else none, fun _ => none, fun i => if i = 0 then some [1] else if i = 1 then some [1, 29] else if i = 2 then some [2] else if i = 3 then some [1, 31] else if i = 4 then some [1, 31, 32] else if i = 5 then some [1, 31, 32] else if i = 6 then some [2] else if i = 7 then some [1, 31, 38] else if i = 8 then some [2] else if i = 9 then some [1, 31, 48] else if i = 10 then some [2] else if i = 11 then some [1, 53] else if i = 12 then some [2] else if i = 13 then some [2] else none, fun _ => none⟩
noncomputable def Phi_spec_EditOk : Tab := fun f => if f = 53 then some spWithin else if f = 54 then some spBoxName else if f = 55 then some spEditUses else if f = 56 then some spSetOk else if f = 57 then some spFlagsOk else if f = 58 then some spMailOk else none
attribute [go_sem] T_spec_EditOk Phi_spec_EditOk
theorem phi_spec_EditOk : ∀ f sp, Phi_spec_EditOk f = some sp → FnOk Tryz.prog f sp ∧ ∀ n ∈ sp.need, n ∈ ([] : List String) := by
  intro f sp h
  unfold Phi_spec_EditOk at h
  by_cases e : f = 53
  · rw [if_pos e] at h; cases h; rw [e]; exact ⟨ok_spec_l01In, (fun n (h : n ∈ ([] : List String)) => (nomatch h))⟩
  rw [if_neg e] at h
  by_cases e : f = 54
  · rw [if_pos e] at h; cases h; rw [e]; exact ⟨ok_spec_BoxName, (fun n (h : n ∈ ([] : List String)) => (nomatch h))⟩
  rw [if_neg e] at h
  by_cases e : f = 55
  · rw [if_pos e] at h; cases h; rw [e]; exact ⟨ok_spec_l10Uses, (fun n (h : n ∈ ([] : List String)) => (nomatch h))⟩
  rw [if_neg e] at h
  by_cases e : f = 56
  · rw [if_pos e] at h; cases h; rw [e]; exact ⟨ok_spec_SetOk, (fun n (h : n ∈ ([] : List String)) => (nomatch h))⟩
  rw [if_neg e] at h
  by_cases e : f = 57
  · rw [if_pos e] at h; cases h; rw [e]; exact ⟨ok_spec_FlagsOk, (fun n (h : n ∈ ([] : List String)) => (nomatch h))⟩
  rw [if_neg e] at h
  by_cases e : f = 58
  · rw [if_pos e] at h; cases h; rw [e]; exact ⟨ok_spec_MailOk, (fun n (h : n ∈ ([] : List String)) => (nomatch h))⟩
  rw [if_neg e] at h
  cases h
theorem ok_spec_EditOk : FnOk Tryz.prog 12 spEditOk := by
  refine fn_ok (Φ := Phi_spec_EditOk) (T := T_spec_EditOk) phi_spec_EditOk mixed Tryz.func12 rfl rfl rfl (by decide) ?_
  intro ins r outs hr hl
  clear hl
  have hs := spEditOk_in hr
  clear hr
  obtain ⟨x, rfl, hc, hr, rfl⟩ := hs
  simp only [spEditOk, Tryz.f12, Go.VM.initS]
  have hb : x.Box.length ≤ 1099511627776 := Nat.le_trans hc.1 (by decide)
  have ht : x.To.length ≤ 1099511627776 := Nat.le_trans hc.2.1 (by decide)
  have hs : x.Set.length ≤ 4194304 := hc.2.2.1.1
  have hx : x.Text.length ≤ 4194304 := hc.2.2.2
  rw [editOk_eq] at hr
  simp only [go_sem]
  refine goes_val 29 V.bool (!(within x.Kind 1 8 && boxName x.Box && editUses x && setOk x.Set && flagsOk x.Bits)) rfl rfl ?_ ?_
  · intro G hG
    simp only [hb, hs, go_sem]
    repeat' ((first | ((first | apply qa | apply qb | apply qc | apply qd | apply qe | apply qf | apply qg | apply qh | apply qi | apply qj | apply qk) <;> intro hp) | ((first | refine ql rfl rfl (by decide +kernel) ?_ | refine qm _ rfl rfl (by decide +kernel) ?_ | refine goes_opn rfl ?_ | refine goes_opnD rfl rfl (by decide +kernel) ?_) <;> have hp := True.intro)) <;> simp only [hp, hb, hs, go_sem])
    all_goals ((first | refine hG _ ?_ | (simp only [*] at hG; refine hG _ ?_)); clear hG; simp_all)
  simp only [ht, hx, go_sem]
  repeat' ((first | ((first | apply qa | apply qb | apply qc | apply qd | apply qe | apply qf | apply qg | apply qh | apply qi | apply qj | apply qk) <;> intro hp) | ((first | refine ql rfl rfl (by decide +kernel) ?_ | refine qm _ rfl rfl (by decide +kernel) ?_ | refine goes_opn rfl ?_ | refine goes_opnD rfl rfl (by decide +kernel) ?_) <;> have hp := True.intro)) <;> simp only [hp, ht, hx, go_sem])
  · simp only [fin_mk, finV, resL, resV1, resIn, endA, listIn, Option.some_or, Option.none_or, oneOrTup, go_sem]
    rw [← hr]
    rw [hp, Bool.false_and]
  all_goals first
    | (refine fin_mk.2 ?_; simp only [fin_mk, finV, resL, resV1, resIn, endA, listIn, Option.some_or, Option.none_or, oneOrTup, go_sem]; rw [← hr]; simp_all [editKind]; done)
    | skip
  refine goes_val 2 V.bool (within x.How 1 3 && within x.Since (-1) 100000) rfl rfl ?_ ?_
  · intro G hG
    simp only [go_sem]
    repeat' ((first | ((first | apply qa | apply qb | apply qc | apply qd | apply qe | apply qf | apply qg | apply qh | apply qi | apply qj | apply qk) <;> intro hp) | ((first | refine ql rfl rfl (by decide +kernel) ?_ | refine qm _ rfl rfl (by decide +kernel) ?_ | refine goes_opn rfl ?_ | refine goes_opnD rfl rfl (by decide +kernel) ?_) <;> have hp := True.intro)) <;> simp only [hp, go_sem])
    all_goals ((first | refine hG _ ?_ | (simp only [*] at hG; refine hG _ ?_)); clear hG; simp_all)
  simp only [go_sem]
  simp only [fin_mk, finV, resL, resV1, resIn, endA, listIn, Option.some_or, Option.none_or, oneOrTup, go_sem]
  rw [← hr]
  simp_all [editKind]
end Go.Proofs.YtimiccneikhkgaaGreatDoor.L
