/- The law FnExactMoveMails: the two functions that it calls answer alike, so it answers true. No condition. -/
import Derived.Test.YtglldabpgobimaaVLB
import Derived.Test.YtglldabpgobimaaVLMv
import Derived.Test.YtglldabpgobimaaRows
import Derived.KernelRfl
namespace Go.Proofs.Ytglldabpgobimaa.VMoveMails
open Go Go.VM Go.Proofs.Ytglldabpgobimaa.L
set_option maxRecDepth 100000
set_option maxHeartbeats 4000000
set_option linter.unusedSimpArgs false
set_option linter.unusedVariables false
theorem wf_Mail {n : Nat} {v : V} (h : WfV Try.prog (n + 2) 120 v) : ∃ x : Mail, v = x.enc ∧ x.le 4611686018427387904 := by
  obtain ⟨l, rfl, hl, hf⟩ := wf_fields Try.underlying120 h
  match l, hl with
  | [f0, f1, f2, f3], _ =>
    obtain ⟨f0, rfl, _⟩ := wf_int Try.underlying3 (hf 0 _ f0 rfl rfl)
    obtain ⟨f1, rfl, _⟩ := wf_int Try.underlying3 (hf 1 _ f1 rfl rfl)
    obtain ⟨f2, rfl, _⟩ := wf_int Try.underlying3 (hf 2 _ f2 rfl rfl)
    obtain ⟨f3, rfl, c3⟩ := wf_string Try.underlying9 (hf 3 _ f3 rfl rfl)
    have c3 : f3.length ≤ 4611686018427387904 := by unfold reachBytes at c3; omega
    exact ⟨⟨f0, f1, f2, f3⟩, by simp [Mail.enc], c3⟩
theorem wf_Tomb {n : Nat} {v : V} (h : WfV Try.prog (n + 2) 125 v) : ∃ x : Tomb, v = x.enc ∧ x.le 4611686018427387904 := by
  obtain ⟨l, rfl, hl, hf⟩ := wf_fields Try.underlying125 h
  match l, hl with
  | [f0, f1], _ =>
    obtain ⟨f0, rfl, _⟩ := wf_int Try.underlying3 (hf 0 _ f0 rfl rfl)
    obtain ⟨f1, rfl, _⟩ := wf_int Try.underlying3 (hf 1 _ f1 rfl rfl)
    exact ⟨⟨f0, f1⟩, by simp [Tomb.enc], trivial⟩
theorem wf_Box {n : Nat} {v : V} (h : WfV Try.prog (n + 4) 25 v) : ∃ x : Box, v = x.enc ∧ x.le 4611686018427387904 := by
  obtain ⟨l, rfl, hl, hf⟩ := wf_fields Try.underlying25 h
  match l, hl with
  | [f0, f1, f2, f3, f4, f5, f6], _ =>
    obtain ⟨f0, rfl, c0⟩ := wf_string Try.underlying9 (hf 0 _ f0 rfl rfl)
    have c0 : f0.length ≤ 4611686018427387904 := by unfold reachBytes at c0; omega
    obtain ⟨f1, rfl, _⟩ := wf_int Try.underlying3 (hf 1 _ f1 rfl rfl)
    obtain ⟨f2, rfl, _⟩ := wf_int Try.underlying3 (hf 2 _ f2 rfl rfl)
    obtain ⟨f3, rfl, _⟩ := wf_int Try.underlying3 (hf 3 _ f3 rfl rfl)
    obtain ⟨f4, rfl, c4, _, e4⟩ := wf_slice Try.underlying22 (hf 4 _ f4 rfl rfl)
    rw [Ty.bytes_120] at c4
    have c4 : f4.length ≤ 4611686018427387904 := by unfold reachBytes at c4; omega
    obtain ⟨f4, rfl, d4⟩ := list_enc (e := Mail.enc) (R := Mail.le 4611686018427387904) fun v hv => wf_Mail (e4 v hv)
    rw [List.length_map] at c4
    obtain ⟨f5, rfl, c5, _, e5⟩ := wf_slice Try.underlying23 (hf 5 _ f5 rfl rfl)
    rw [Ty.bytes_125] at c5
    have c5 : f5.length ≤ 4611686018427387904 := by unfold reachBytes at c5; omega
    obtain ⟨f5, rfl, d5⟩ := list_enc (e := Tomb.enc) (R := Tomb.le 4611686018427387904) fun v hv => wf_Tomb (e5 v hv)
    rw [List.length_map] at c5
    obtain ⟨f6, rfl, _⟩ := wf_int Try.underlying3 (hf 6 _ f6 rfl rfl)
    exact ⟨⟨f0, f1, f2, f3, f4, f5, f6⟩, by simp [Box.enc, Ty.cells_120, Ty.cells_125], ⟨c0, ⟨c4, d4⟩, ⟨c5, d5⟩⟩⟩
theorem wf_Store {n : Nat} {v : V} (h : WfV Try.prog (n + 6) 51 v) : ∃ x : Store, v = x.enc ∧ x.le 4611686018427387904 := by
  obtain ⟨l, rfl, hl, hf⟩ := wf_fields Try.underlying51 h
  match l, hl with
  | [f0, f1], _ =>
    obtain ⟨f0, rfl, c0, _, e0⟩ := wf_slice Try.underlying49 (hf 0 _ f0 rfl rfl)
    rw [Ty.bytes_25] at c0
    have c0 : f0.length ≤ 4611686018427387904 := by unfold reachBytes at c0; omega
    obtain ⟨f0, rfl, d0⟩ := list_enc (e := Box.enc) (R := Box.le 4611686018427387904) fun v hv => wf_Box (e0 v hv)
    rw [List.length_map] at c0
    obtain ⟨f1, rfl, _⟩ := wf_int Try.underlying3 (hf 1 _ f1 rfl rfl)
    exact ⟨⟨f0, f1⟩, by simp [Store.enc, Ty.cells_25], ⟨c0, d0⟩⟩
theorem wf_Range {n : Nat} {v : V} (h : WfV Try.prog (n + 2) 86 v) : ∃ x : Range, v = x.enc ∧ x.le 4611686018427387904 := by
  obtain ⟨l, rfl, hl, hf⟩ := wf_fields Try.underlying86 h
  match l, hl with
  | [f0, f1], _ =>
    obtain ⟨f0, rfl, _⟩ := wf_int Try.underlying3 (hf 0 _ f0 rfl rfl)
    obtain ⟨f1, rfl, _⟩ := wf_int Try.underlying3 (hf 1 _ f1 rfl rfl)
    exact ⟨⟨f0, f1⟩, by simp [Range.enc], trivial⟩
open Classical in
noncomputable def spLaw : VM.Spec := { modes := [.rd, .rd, .rd, .rd], run := fun | [aS', .str aFrom, .lst 2 aSet', .str aTo] => (Store.dec aS').bind fun aS => (decL Range.dec aSet').bind fun aSet => if aS.le 4611686018427387904 ∧ aFrom.length ≤ 4611686018427387904 ∧ leL Range.le 4611686018427387904 aSet ∧ aTo.length ≤ 4611686018427387904 then some (.bool true, []) else none | _ => none, need := [] }
attribute [go_sem] spLaw
theorem spLaw_in {ins : List V} {r : V} {outs : List V} (h : spLaw.run ins = some (r, outs)) : ∃ (aS : Store) (aFrom : (List UInt8)) (aSet : (List Range)) (aTo : (List UInt8)), ins = [Store.enc aS, .str aFrom, .lst 2 ((aSet).map Range.enc), .str aTo] ∧ (aS.le 4611686018427387904 ∧ aFrom.length ≤ 4611686018427387904 ∧ leL Range.le 4611686018427387904 aSet ∧ aTo.length ≤ 4611686018427387904) ∧ .bool true = r ∧ outs = [] := by
  unfold spLaw at h
  simp only at h
  split at h
  · rename_i aS' aFrom aSet' aTo
    simp only [Option.bind_eq_some_iff] at h
    obtain ⟨aS, h_aS, aSet, h_aSet, h⟩ := h
    split at h
    case isFalse => cases h
    rename_i hc
    simp only [Option.some.injEq, Prod.mk.injEq] at h
    obtain ⟨h1, h2⟩ := h
    have h_aS := Store.dec_some h_aS
    subst h_aS
    have h_aSet := decL_some (fun _ _ h => Range.dec_some h) h_aSet
    subst h_aSet
    exact ⟨aS, aFrom, aSet, aTo, rfl, hc, h1, h2.symm⟩
  · cases h
def T_laws_FnExactMoveMails : Hints := ⟨fun i => if i = 18 then some [(0, 2)] else none, fun _ => none, fun i => if i = 0 then some [1, 2, 3, 4] else if i = 1 then some [1, 2, 3, 4, 23] else if i = 2 then some [8] else if i = 3 then some [1, 2, 3, 4, 26] else if i = 4 then some [8] else if i = 5 then some [1, 2, 3, 4, 9] else if i = 6 then some [1, 2, 3, 4, 9] else if i = 7 then some [1, 2, 3, 4, 9, 31] else if i = 8 then some [8] else if i = 9 then some [1, 2, 3, 4, 9] else if i = 10 then some [1, 2, 3, 4, 36] else if i = 11 then some [8] else if i = 12 then some [1, 2, 3, 4, 10, 11] else if i = 13 then some [1, 2, 3, 4, 10, 11, 12] else if i = 14 then some [1, 2, 3, 4, 10, 11, 12, 13] else if i = 15 then some [1, 2, 3, 4, 10, 11, 12, 13, 14, 15] else if i = 16 then some [1, 2, 3, 4, 10, 11, 12, 13, 14, 15, 67] else if i = 17 then some [8] else if i = 18 then some [1, 2, 3, 4, 10, 11, 12, 13, 14, 15, 72] else if i = 19 then some [8] else if i = 20 then some [1, 2, 3, 4, 10, 11, 12, 13, 14, 15, 77] else if i = 21 then some [8] else if i = 22 then some [1, 2, 3, 4, 10, 11, 12, 13, 14, 15, 16] else if i = 23 then some [1, 2, 3, 4, 10, 11, 13, 14, 15, 16] else if i = 24 then some [1, 2, 3, 4, 10, 11, 14, 15, 16] else if i = 25 then some [1, 2, 3, 4, 10, 11, 14, 96] else if i = 26 then some [8] else if i = 27 then some [1, 2, 3, 4, 10, 11, 14, 17] else if i = 28 then some [1, 2, 3, 4, 10, 11, 14, 17] else if i = 29 then some [1, 2, 3, 4, 10, 11, 14, 17, 18] else if i = 30 then some [1, 2, 3, 4, 10, 11, 14, 17, 18] else if i = 31 then some [1, 2, 3, 4, 10, 11, 14, 17, 18, 104] else if i = 32 then some [8] else if i = 33 then some [1, 2, 3, 4, 10, 11, 14, 17, 107] else if i = 34 then some [8] else if i = 35 then some [10, 11, 14, 17, 19, 20] else if i = 36 then some [14, 17, 126] else if i = 37 then some [8] else if i = 38 then some [14, 17, 18] else if i = 39 then some [17, 18] else if i = 40 then some [17, 18, 131] else if i = 41 then some [8] else if i = 42 then some [134] else if i = 43 then some [8] else if i = 44 then some [8] else none, fun _ => none⟩
noncomputable def Phi_laws_FnExactMoveMails : Tab := fun f => if f = 25 then some spSzStore else if f = 27 then some spToStore else if f = 29 then some spEqStore else if f = 30 then some spMarkStore else if f = 10 then some spSzRangeS else if f = 13 then some spToRangeS else if f = 16 then some spEqRangeS else if f = 18 then some spMarkRangeS else if f = 31 then some spHeldStore else if f = 32 then some spMoveMails else if f = 33 then some spMoveMails else none
attribute [go_sem] T_laws_FnExactMoveMails Phi_laws_FnExactMoveMails
theorem phi_laws_FnExactMoveMails : ∀ f sp, Phi_laws_FnExactMoveMails f = some sp → FnOk Try.prog f sp ∧ ∀ n ∈ sp.need, n ∈ ([] : List String) := by
  intro f sp h
  unfold Phi_laws_FnExactMoveMails at h
  by_cases e : f = 25
  · rw [if_pos e] at h; cases h; rw [e]; exact ⟨ok_laws_szStore, (fun n (h : n ∈ ([] : List String)) => (nomatch h))⟩
  rw [if_neg e] at h
  by_cases e : f = 27
  · rw [if_pos e] at h; cases h; rw [e]; exact ⟨ok_laws_toStore, (fun n (h : n ∈ ([] : List String)) => (nomatch h))⟩
  rw [if_neg e] at h
  by_cases e : f = 29
  · rw [if_pos e] at h; cases h; rw [e]; exact ⟨ok_laws_eqStore, (fun n (h : n ∈ ([] : List String)) => (nomatch h))⟩
  rw [if_neg e] at h
  by_cases e : f = 30
  · rw [if_pos e] at h; cases h; rw [e]; exact ⟨ok_laws_markStore, (fun n (h : n ∈ ([] : List String)) => (nomatch h))⟩
  rw [if_neg e] at h
  by_cases e : f = 10
  · rw [if_pos e] at h; cases h; rw [e]; exact ⟨ok_laws_szRangeS, (fun n (h : n ∈ ([] : List String)) => (nomatch h))⟩
  rw [if_neg e] at h
  by_cases e : f = 13
  · rw [if_pos e] at h; cases h; rw [e]; exact ⟨ok_laws_toRangeS, (fun n (h : n ∈ ([] : List String)) => (nomatch h))⟩
  rw [if_neg e] at h
  by_cases e : f = 16
  · rw [if_pos e] at h; cases h; rw [e]; exact ⟨ok_laws_eqRangeS, (fun n (h : n ∈ ([] : List String)) => (nomatch h))⟩
  rw [if_neg e] at h
  by_cases e : f = 18
  · rw [if_pos e] at h; cases h; rw [e]; exact ⟨ok_laws_markRangeS, (fun n (h : n ∈ ([] : List String)) => (nomatch h))⟩
  rw [if_neg e] at h
  by_cases e : f = 31
  · rw [if_pos e] at h; cases h; rw [e]; exact ⟨ok_laws_heldStore, (fun n (h : n ∈ ([] : List String)) => (nomatch h))⟩
  rw [if_neg e] at h
  by_cases e : f = 32
  · rw [if_pos e] at h; cases h; rw [e]; exact ⟨ok_spec_MoveMails, (fun n (h : n ∈ ([] : List String)) => (nomatch h))⟩
  rw [if_neg e] at h
  by_cases e : f = 33
  · rw [if_pos e] at h; cases h; rw [e]; exact ⟨ok_impl_MoveMails, (fun n (h : n ∈ ([] : List String)) => (nomatch h))⟩
  rw [if_neg e] at h
  cases h
theorem ok_laws_FnExactMoveMails : FnOk Try.prog 7 spLaw := by
  refine fn_ok (Φ := Phi_laws_FnExactMoveMails) (T := T_laws_FnExactMoveMails) phi_laws_FnExactMoveMails mixed Try.func7 rfl rfl rfl (by decide) ?_
  intro ins r outs hr hl
  clear hl
  have hs := spLaw_in hr
  clear hr
  obtain ⟨aS, aFrom, aSet, aTo, rfl, hc, hr, rfl⟩ := hs
  simp only [spLaw, Try.f7, Go.VM.initS]
  obtain ⟨w0, w1, w2, w3⟩ := hc
  by_cases s1 : (1048576 : Int) < aFrom.length
  · simp only [s1, go_sem]
    repeat' ((first | ((first | apply qa | apply qb | apply qc | apply qd | apply qe | apply qf | apply qg | apply qh | apply qi | apply qj | apply qk) <;> intro hp) | ((first | refine ql rfl rfl (by decide +kernel) ?_ | refine qm _ rfl rfl (by decide +kernel) ?_ | refine goes_opn rfl ?_ | refine goes_opnD rfl rfl (by decide +kernel) ?_) <;> have hp := True.intro)) <;> simp only [hp, s1, go_sem])
    simp only [fin_mk, finV, resL, resV1, resIn, endA, listIn, Option.some_or, Option.none_or, oneOrTup, go_sem]
    rw [← hr]
  have b1 : aFrom.length ≤ 4194304 := by omega
  by_cases s3 : (1048576 : Int) < aTo.length
  · simp only [s1, b1, s3, go_sem]
    repeat' ((first | ((first | apply qa | apply qb | apply qc | apply qd | apply qe | apply qf | apply qg | apply qh | apply qi | apply qj | apply qk) <;> intro hp) | ((first | refine ql rfl rfl (by decide +kernel) ?_ | refine qm _ rfl rfl (by decide +kernel) ?_ | refine goes_opn rfl ?_ | refine goes_opnD rfl rfl (by decide +kernel) ?_) <;> have hp := True.intro)) <;> simp only [hp, s1, b1, s3, go_sem])
    simp only [fin_mk, finV, resL, resV1, resIn, endA, listIn, Option.some_or, Option.none_or, oneOrTup, go_sem]
    rw [← hr]
  have b3 : aTo.length ≤ 4194304 := by omega
  have z0 : Store.sz aS (1048576) = -1 ∨ (0 ≤ Store.sz aS (1048576) ∧ Store.sz aS (1048576) ≤ 1048576 ∧ _) := Store.sz_ok aS (1048576) 1048576 (by decide) (by decide)
  rcases z0 with z0 | ⟨z0, y0, x0⟩
  · simp only [s1, b1, s3, b3, w0, z0, go_sem]
    repeat' ((first | ((first | apply qa | apply qb | apply qc | apply qd | apply qe | apply qf | apply qg | apply qh | apply qi | apply qj | apply qk) <;> intro hp) | ((first | refine ql rfl rfl (by decide +kernel) ?_ | refine qm _ rfl rfl (by decide +kernel) ?_ | refine goes_opn rfl ?_ | refine goes_opnD rfl rfl (by decide +kernel) ?_) <;> have hp := True.intro)) <;> simp only [hp, s1, b1, s3, b3, w0, z0, go_sem])
    simp only [fin_mk, finV, resL, resV1, resIn, endA, listIn, Option.some_or, Option.none_or, oneOrTup, go_sem]
    rw [← hr]
  have n0 : ¬ (Store.sz aS (1048576)) < 0 := Int.not_lt.2 z0
  have u0 : (Store.sz aS (1048576)) ≤ 4611686018427387904 := by omega
  have v0 : (Store.sz aS (1048576)) ≤ ((1048576 : Nat) : Int) := by omega
  have l0 : aS.le 4194304 := Store.le_mono _ _ _ (by decide) x0
  have w2' : aSet.length ≤ 4611686018427387904 := w2.1
  have z2 : szF aSet (Store.sz aS (1048576)) = -1 ∨ (0 ≤ szF aSet (Store.sz aS (1048576)) ∧ szF aSet (Store.sz aS (1048576)) ≤ Store.sz aS (1048576) ∧ _) := szF_ok (p := Range.le) (fun b x => trivial) aSet (Store.sz aS (1048576)) 1048576 z0 v0
  rcases z2 with z2 | ⟨z2, y2, x2⟩
  · simp only [s1, b1, s3, b3, w0, z0, n0, u0, l0, w2', z2, go_sem]
    repeat' ((first | ((first | apply qa | apply qb | apply qc | apply qd | apply qe | apply qf | apply qg | apply qh | apply qi | apply qj | apply qk) <;> intro hp) | ((first | refine ql rfl rfl (by decide +kernel) ?_ | refine qm _ rfl rfl (by decide +kernel) ?_ | refine goes_opn rfl ?_ | refine goes_opnD rfl rfl (by decide +kernel) ?_) <;> have hp := True.intro)) <;> simp only [hp, s1, b1, s3, b3, w0, z0, n0, u0, l0, w2', z2, go_sem])
    simp only [fin_mk, finV, resL, resV1, resIn, endA, listIn, Option.some_or, Option.none_or, oneOrTup, go_sem]
    rw [← hr]
  have n2 : ¬ (szF aSet (Store.sz aS (1048576))) < 0 := Int.not_lt.2 z2
  have u2 : (szF aSet (Store.sz aS (1048576))) ≤ 4611686018427387904 := by omega
  have v2 : (szF aSet (Store.sz aS (1048576))) ≤ ((1048576 : Nat) : Int) := by omega
  have l2' : leL Range.le 4194304 aSet := leL.mono Range.le_mono (by decide) x2
  have l2 : aSet.length ≤ 4194304 := l2'.1
  have q0 : (0 : Int) ≤ 1 := by decide
  have r0 : (moveMails aS aFrom aSet aTo).le 4194304 := moveMails_le l0
  have r0_Boxes : (moveMails aS aFrom aSet aTo).Boxes.length ≤ 4194304 := r0.1
  have l0_Boxes : aS.Boxes.length ≤ 4194304 := l0.1
  have xL0 : leL Box.ln 4194304 (aS).Boxes := boxes_ln l0
  have xM0 : (aS).Boxes.length ≤ 4194304 := xL0.1
  have xe0 : (markL meBox (aS).Boxes (1)).2 ≤ 1 + 25165829 * (aS).Boxes.length := markBoxS_up xL0 _
  have xg0 : 1 ≤ (markL meBox (aS).Boxes (1)).2 := markBoxS_le _ _
  have xp0 : 0 ≤ (markL meBox (aS).Boxes (1)).2 := by omega
  have xn0 : ¬ (markL meBox (aS).Boxes (1)).2 < 0 := by omega
  have xb0 : (markL meBox (aS).Boxes (1)).2 ≤ 288230376151711744 := by omega
  have xc0 : (markL meBox (aS).Boxes (1)).2 ≤ 1152921504606846976 := by omega
  have xd0 : (markL meBox (aS).Boxes (1)).2 ≤ 144115188075855872 := by omega
  have xe1 : (markL meRange (aSet) ((markL meBox (aS).Boxes (1)).2)).2 = (markL meBox (aS).Boxes (1)).2 + (2 : Nat) * (aSet).length := markL_k meRange_k _ _
  have xp1 : 0 ≤ (markL meRange (aSet) ((markL meBox (aS).Boxes (1)).2)).2 := by omega
  have xn1 : ¬ (markL meRange (aSet) ((markL meBox (aS).Boxes (1)).2)).2 < 0 := by omega
  have xb1 : (markL meRange (aSet) ((markL meBox (aS).Boxes (1)).2)).2 ≤ 288230376151711744 := by omega
  have xc1 : (markL meRange (aSet) ((markL meBox (aS).Boxes (1)).2)).2 ≤ 1152921504606846976 := by omega
  have xd1 : (markL meRange (aSet) ((markL meBox (aS).Boxes (1)).2)).2 ≤ 144115188075855872 := by omega
  have mL2 : leL Box.ln 4194304 (moveMails aS aFrom aSet aTo).Boxes := boxes_ln r0
  have mM2 : (moveMails aS aFrom aSet aTo).Boxes.length ≤ 4194304 := mL2.1
  have me2 : (markL meBox (moveMails aS aFrom aSet aTo).Boxes (1)).2 ≤ 1 + 25165829 * (moveMails aS aFrom aSet aTo).Boxes.length := markBoxS_up mL2 _
  have mg2 : 1 ≤ (markL meBox (moveMails aS aFrom aSet aTo).Boxes (1)).2 := markBoxS_le _ _
  have mH2 : leL Box.ln 4194304 (markL meBox (moveMails aS aFrom aSet aTo).Boxes (1)).1 := boxes_lnm mL2
  have mp2 : 0 ≤ (markL meBox (moveMails aS aFrom aSet aTo).Boxes (1)).2 := by omega
  have mn2 : ¬ (markL meBox (moveMails aS aFrom aSet aTo).Boxes (1)).2 < 0 := by omega
  have mb2 : (markL meBox (moveMails aS aFrom aSet aTo).Boxes (1)).2 ≤ 288230376151711744 := by omega
  have mc2 : (markL meBox (moveMails aS aFrom aSet aTo).Boxes (1)).2 ≤ 1152921504606846976 := by omega
  have md2 : (markL meBox (moveMails aS aFrom aSet aTo).Boxes (1)).2 ≤ 144115188075855872 := by omega
  simp only [s1, b1, s3, b3, w0, z0, n0, u0, l0, l2', w2', z2, n2, u2, l2, r0, r0_Boxes, l0_Boxes, xL0, xp0, xn0, xb0, xc0, xd0, xp1, xn1, xb1, xc1, xd1, mL2, mH2, markL_again meBox_again, mp2, mn2, mb2, mc2, md2, q0, Option.getD_some, bne_self_eq_false, go_sem]
  repeat' ((first | ((first | apply qa | apply qb | apply qc | apply qd | apply qe | apply qf | apply qg | apply qh | apply qi | apply qj | apply qk) <;> intro hp) | ((first | refine ql rfl rfl (by decide +kernel) ?_ | refine qm _ rfl rfl (by decide +kernel) ?_ | refine goes_opn rfl ?_ | refine goes_opnD rfl rfl (by decide +kernel) ?_) <;> have hp := True.intro)) <;> simp only [hp, s1, b1, s3, b3, w0, z0, n0, u0, l0, l2', w2', z2, n2, u2, l2, r0, r0_Boxes, l0_Boxes, xL0, xp0, xn0, xb0, xc0, xd0, xp1, xn1, xb1, xc1, xd1, mL2, mH2, markL_again meBox_again, mp2, mn2, mb2, mc2, md2, q0, Option.getD_some, bne_self_eq_false, go_sem])
  all_goals (simp only [fin_mk, finV, resL, resV1, resIn, endA, listIn, Option.some_or, Option.none_or, oneOrTup, go_sem]; rw [← hr])
set_option maxRecDepth 100000 in
theorem own : ownKnob Try.prog.godebug = none := by kernel_rfl
theorem lifted (os : Os) (started : os.Started) (H : Type) (enc : TypeId × Value → H) :
    ReturnsInHanded {} Try.checked os 7 .any (Rows.fnExactMoveMailsSpec.pre6 enc Try.prog Try.f7 Rows.fnExactMoveMailsRow.domain false) (Rows.fnExactMoveMailsSpec.post enc Try.prog Try.f7 false true false false) :=
  law_of_fn (C := Try.checked) (n := 6) own started (by kernel_rfl) Try.func7 rfl rfl
    (ChangeSpec.witness6 (enc := enc) (C := Try.checked) false ⟨#[], #[.agg #[.slice none 0 0, .int .i64 0], .string ByteArray.empty, .slice none 0 0, .string ByteArray.empty], []⟩ 8 (by kernel_rfl) (by kernel_rfl) (by kernel_rfl) (by kernel_rfl))
    rfl rfl Try.underlying4 (by kernel_rfl) (by
      intro t ht
      simp only [Try.f7, List.mem_cons, List.not_mem_nil, or_false] at ht
      rcases ht with rfl | rfl | rfl | rfl <;> exact ⟨by kernel_rfl, by kernel_rfl, of_decide_eq_true (by kernel_rfl)⟩)
    (by
      intro ds hd
      match ds, hd with
      | [d0, d1, d2, d3], _ => rfl)
    rfl ok_laws_FnExactMoveMails rfl (by
      intro xs hl hw
      match xs, hl with
      | [x0, x1, x2, x3], _ =>
        obtain ⟨x0, rfl, c0⟩ := wf_Store (hw 0 51 x0 rfl rfl)
        obtain ⟨x1, rfl, c1⟩ := wf_string Try.underlying9 (hw 1 9 x1 rfl rfl)
        have c1 : x1.length ≤ 4611686018427387904 := by unfold reachBytes at c1; omega
        obtain ⟨x2, rfl, c2, _, e2⟩ := wf_slice Try.underlying26 (hw 2 26 x2 rfl rfl)
        rw [Ty.bytes_86] at c2
        have c2 : x2.length ≤ 4611686018427387904 := by unfold reachBytes at c2; omega
        obtain ⟨x2, rfl, d2⟩ := list_enc (e := Range.enc) (R := Range.le 4611686018427387904) fun v hv => wf_Range (e2 v hv)
        rw [List.length_map] at c2
        obtain ⟨x3, rfl, c3⟩ := wf_string Try.underlying9 (hw 3 9 x3 rfl rfl)
        have c3 : x3.length ≤ 4611686018427387904 := by unfold reachBytes at c3; omega
        simp only [spLaw, Store.dec_enc, Ty.cells_86, decL_Range, Option.bind_some]
        exact if_pos ⟨c0, c1, ⟨c2, d2⟩, c3⟩)
theorem over : Rows.fnExactMoveMailsRow.holds Try.pinned (OpenSpec.ofChange Rows.fnExactMoveMailsSpec) :=
  OpenClaim.holds_of_wide 7 Try.f7 rfl rfl rfl rfl rfl rfl rfl ⟨rfl, rfl, rfl, rfl, rfl⟩ rfl rfl rfl rfl rfl (by kernel_rfl) Try.func7 (by kernel_rfl)
    (of_decide_eq_true (by kernel_rfl)) (by unfold Func.isWrapper; first | (rw [if_pos (by decide +kernel)]; kernel_rfl) | (rw [if_neg (by decide +kernel)]; exact ⟨rfl, rfl⟩))
    (fun os started H enc _ => lifted os started H enc)
end Go.Proofs.Ytglldabpgobimaa.VMoveMails
namespace Go.Proofs.Ytglldabpgobimaa
theorem fnExactMoveMails_holds : Rows.FnExactMoveMailsSaid := VMoveMails.over
#print axioms fnExactMoveMails_holds
end Go.Proofs.Ytglldabpgobimaa
