/- The law FnExactExpunge: the two functions that it calls answer alike, so it answers true. No condition. -/
import Derived.Test.YtglldabpgobimaaVLB
import Derived.Test.YtglldabpgobimaaVLY
import Derived.Test.YtglldabpgobimaaRows
import Derived.KernelRfl
namespace Go.Proofs.Ytglldabpgobimaa.VExpunge
open Go Go.VM Go.Proofs.Ytglldabpgobimaa.L
set_option maxRecDepth 100000
set_option maxHeartbeats 4000000
set_option linter.unusedSimpArgs false
set_option linter.unusedVariables false
theorem wf_Mail {n : Nat} {v : V} (h : WfV Try.prog (n + 2) 120 v) : ∃ x : Mail, v = x.enc ∧ x.le 4611686018427387904 := by
  obtain ⟨l, rfl, hl, hf⟩ := wf_fields Try.underlying120 h
  match l, hl with
  | [f0, f1, f2, f3], _ =>
    obtain ⟨f0, rfl, _⟩ := wf_int Try.underlying3 (hf 0 _ f0 rfl rfl)
    obtain ⟨f1, rfl, _⟩ := wf_int Try.underlying3 (hf 1 _ f1 rfl rfl)
    obtain ⟨f2, rfl, _⟩ := wf_int Try.underlying3 (hf 2 _ f2 rfl rfl)
    obtain ⟨f3, rfl, c3⟩ := wf_string Try.underlying9 (hf 3 _ f3 rfl rfl)
    have c3 : f3.length ≤ 4611686018427387904 := by unfold reachBytes at c3; omega
    exact ⟨⟨f0, f1, f2, f3⟩, by simp [Mail.enc], c3⟩
theorem wf_Tomb {n : Nat} {v : V} (h : WfV Try.prog (n + 2) 125 v) : ∃ x : Tomb, v = x.enc ∧ x.le 4611686018427387904 := by
  obtain ⟨l, rfl, hl, hf⟩ := wf_fields Try.underlying125 h
  match l, hl with
  | [f0, f1], _ =>
    obtain ⟨f0, rfl, _⟩ := wf_int Try.underlying3 (hf 0 _ f0 rfl rfl)
    obtain ⟨f1, rfl, _⟩ := wf_int Try.underlying3 (hf 1 _ f1 rfl rfl)
    exact ⟨⟨f0, f1⟩, by simp [Tomb.enc], trivial⟩
theorem wf_Box {n : Nat} {v : V} (h : WfV Try.prog (n + 4) 25 v) : ∃ x : Box, v = x.enc ∧ x.le 4611686018427387904 := by
  obtain ⟨l, rfl, hl, hf⟩ := wf_fields Try.underlying25 h
  match l, hl with
  | [f0, f1, f2, f3, f4, f5, f6], _ =>
    obtain ⟨f0, rfl, c0⟩ := wf_string Try.underlying9 (hf 0 _ f0 rfl rfl)
    have c0 : f0.length ≤ 4611686018427387904 := by unfold reachBytes at c0; omega
    obtain ⟨f1, rfl, _⟩ := wf_int Try.underlying3 (hf 1 _ f1 rfl rfl)
    obtain ⟨f2, rfl, _⟩ := wf_int Try.underlying3 (hf 2 _ f2 rfl rfl)
    obtain ⟨f3, rfl, _⟩ := wf_int Try.underlying3 (hf 3 _ f3 rfl rfl)
    obtain ⟨f4, rfl, c4, _, e4⟩ := wf_slice Try.underlying22 (hf 4 _ f4 rfl rfl)
    rw [Ty.bytes_120] at c4
    have c4 : f4.length ≤ 4611686018427387904 := by unfold reachBytes at c4; omega
    obtain ⟨f4, rfl, d4⟩ := list_enc (e := Mail.enc) (R := Mail.le 4611686018427387904) fun v hv => wf_Mail (e4 v hv)
    rw [List.length_map] at c4
    obtain ⟨f5, rfl, c5, _, e5⟩ := wf_slice Try.underlying23 (hf 5 _ f5 rfl rfl)
    rw [Ty.bytes_125] at c5
    have c5 : f5.length ≤ 4611686018427387904 := by unfold reachBytes at c5; omega
    obtain ⟨f5, rfl, d5⟩ := list_enc (e := Tomb.enc) (R := Tomb.le 4611686018427387904) fun v hv => wf_Tomb (e5 v hv)
    rw [List.length_map] at c5
    obtain ⟨f6, rfl, _⟩ := wf_int Try.underlying3 (hf 6 _ f6 rfl rfl)
    exact ⟨⟨f0, f1, f2, f3, f4, f5, f6⟩, by simp [Box.enc, Ty.cells_120, Ty.cells_125], ⟨c0, ⟨c4, d4⟩, ⟨c5, d5⟩⟩⟩
theorem wf_Range {n : Nat} {v : V} (h : WfV Try.prog (n + 2) 86 v) : ∃ x : Range, v = x.enc ∧ x.le 4611686018427387904 := by
  obtain ⟨l, rfl, hl, hf⟩ := wf_fields Try.underlying86 h
  match l, hl with
  | [f0, f1], _ =>
    obtain ⟨f0, rfl, _⟩ := wf_int Try.underlying3 (hf 0 _ f0 rfl rfl)
    obtain ⟨f1, rfl, _⟩ := wf_int Try.underlying3 (hf 1 _ f1 rfl rfl)
    exact ⟨⟨f0, f1⟩, by simp [Range.enc], trivial⟩
open Classical in
noncomputable def spLaw : VM.Spec := { modes := [.rd, .rd], run := fun | [aB', .lst 2 aS'] => (Box.dec aB').bind fun aB => (decL Range.dec aS').bind fun aS => if aB.le 4611686018427387904 ∧ leL Range.le 4611686018427387904 aS then some (.bool true, []) else none | _ => none, need := [] }
attribute [go_sem] spLaw
theorem spLaw_in {ins : List V} {r : V} {outs : List V} (h : spLaw.run ins = some (r, outs)) : ∃ (aB : Box) (aS : (List Range)), ins = [Box.enc aB, .lst 2 ((aS).map Range.enc)] ∧ (aB.le 4611686018427387904 ∧ leL Range.le 4611686018427387904 aS) ∧ .bool true = r ∧ outs = [] := by
  unfold spLaw at h
  simp only at h
  split at h
  · rename_i aB' aS'
    simp only [Option.bind_eq_some_iff] at h
    obtain ⟨aB, h_aB, aS, h_aS, h⟩ := h
    split at h
    case isFalse => cases h
    rename_i hc
    simp only [Option.some.injEq, Prod.mk.injEq] at h
    obtain ⟨h1, h2⟩ := h
    have h_aB := Box.dec_some h_aB
    subst h_aB
    have h_aS := decL_some (fun _ _ h => Range.dec_some h) h_aS
    subst h_aS
    exact ⟨aB, aS, rfl, hc, h1, h2.symm⟩
  · cases h
def T_laws_FnExactExpunge : Hints := ⟨fun i => if i = 14 then some [(0, 2)] else none, fun _ => none, fun i => if i = 0 then some [1, 2] else if i = 1 then some [1, 2, 5] else if i = 2 then some [1, 2, 5] else if i = 3 then some [1, 2, 5, 21] else if i = 4 then some [4] else if i = 5 then some [1, 2, 5] else if i = 6 then some [1, 2, 26] else if i = 7 then some [4] else if i = 8 then some [1, 2, 6, 7] else if i = 9 then some [1, 2, 6, 7, 8] else if i = 10 then some [1, 2, 6, 7, 8, 9] else if i = 11 then some [1, 2, 6, 7, 8, 9, 10, 11] else if i = 12 then some [1, 2, 6, 7, 8, 9, 10, 11, 54] else if i = 13 then some [4] else if i = 14 then some [1, 2, 6, 7, 8, 9, 10, 11, 59] else if i = 15 then some [4] else if i = 16 then some [1, 2, 6, 7, 8, 9, 10, 11, 64] else if i = 17 then some [4] else if i = 18 then some [1, 2, 6, 7, 8, 9, 10, 11, 12] else if i = 19 then some [1, 2, 6, 7, 9, 10, 11, 12] else if i = 20 then some [1, 2, 6, 7, 10, 11, 12] else if i = 21 then some [1, 2, 6, 7, 10, 11, 84] else if i = 22 then some [4] else if i = 23 then some [1, 2, 6, 7, 10, 11, 13] else if i = 24 then some [1, 2, 6, 7, 10, 11, 13] else if i = 25 then some [1, 2, 6, 7, 10, 11, 13] else if i = 26 then some [1, 2, 6, 7, 10, 11, 13, 14] else if i = 27 then some [1, 2, 6, 7, 10, 11, 13, 14] else if i = 28 then some [1, 2, 6, 7, 10, 11, 13, 14, 95] else if i = 29 then some [4] else if i = 30 then some [1, 2, 6, 7, 10, 11, 13, 14] else if i = 31 then some [1, 2, 6, 7, 10, 11, 13, 14, 100] else if i = 32 then some [4] else if i = 33 then some [1, 2, 6, 7, 10, 11, 13, 103] else if i = 34 then some [4] else if i = 35 then some [6, 7, 10, 11, 13, 15, 16] else if i = 36 then some [10, 11, 13, 121] else if i = 37 then some [4] else if i = 38 then some [10, 11, 13, 14] else if i = 39 then some [11, 13, 14] else if i = 40 then some [11, 13, 14, 126] else if i = 41 then some [4] else if i = 42 then some [13, 14] else if i = 43 then some [13, 14, 131] else if i = 44 then some [4] else if i = 45 then some [134] else if i = 46 then some [4] else if i = 47 then some [4] else none, fun _ => none⟩
noncomputable def Phi_laws_FnExactExpunge : Tab := fun f => if f = 9 then some spSzBox else if f = 12 then some spToBox else if f = 15 then some spEqBox else if f = 17 then some spMarkBox else if f = 10 then some spSzRangeS else if f = 13 then some spToRangeS else if f = 16 then some spEqRangeS else if f = 18 then some spMarkRangeS else if f = 19 then some spHeldBox else if f = 20 then some spHeldRangeS else if f = 21 then some spExpunge else if f = 22 then some spExpunge else none
attribute [go_sem] T_laws_FnExactExpunge Phi_laws_FnExactExpunge
theorem phi_laws_FnExactExpunge : ∀ f sp, Phi_laws_FnExactExpunge f = some sp → FnOk Try.prog f sp ∧ ∀ n ∈ sp.need, n ∈ ([] : List String) := by
  intro f sp h
  unfold Phi_laws_FnExactExpunge at h
  by_cases e : f = 9
  · rw [if_pos e] at h; cases h; rw [e]; exact ⟨ok_laws_szBox, (fun n (h : n ∈ ([] : List String)) => (nomatch h))⟩
  rw [if_neg e] at h
  by_cases e : f = 12
  · rw [if_pos e] at h; cases h; rw [e]; exact ⟨ok_laws_toBox, (fun n (h : n ∈ ([] : List String)) => (nomatch h))⟩
  rw [if_neg e] at h
  by_cases e : f = 15
  · rw [if_pos e] at h; cases h; rw [e]; exact ⟨ok_laws_eqBox, (fun n (h : n ∈ ([] : List String)) => (nomatch h))⟩
  rw [if_neg e] at h
  by_cases e : f = 17
  · rw [if_pos e] at h; cases h; rw [e]; exact ⟨ok_laws_markBox, (fun n (h : n ∈ ([] : List String)) => (nomatch h))⟩
  rw [if_neg e] at h
  by_cases e : f = 10
  · rw [if_pos e] at h; cases h; rw [e]; exact ⟨ok_laws_szRangeS, (fun n (h : n ∈ ([] : List String)) => (nomatch h))⟩
  rw [if_neg e] at h
  by_cases e : f = 13
  · rw [if_pos e] at h; cases h; rw [e]; exact ⟨ok_laws_toRangeS, (fun n (h : n ∈ ([] : List String)) => (nomatch h))⟩
  rw [if_neg e] at h
  by_cases e : f = 16
  · rw [if_pos e] at h; cases h; rw [e]; exact ⟨ok_laws_eqRangeS, (fun n (h : n ∈ ([] : List String)) => (nomatch h))⟩
  rw [if_neg e] at h
  by_cases e : f = 18
  · rw [if_pos e] at h; cases h; rw [e]; exact ⟨ok_laws_markRangeS, (fun n (h : n ∈ ([] : List String)) => (nomatch h))⟩
  rw [if_neg e] at h
  by_cases e : f = 19
  · rw [if_pos e] at h; cases h; rw [e]; exact ⟨ok_laws_heldBox, (fun n (h : n ∈ ([] : List String)) => (nomatch h))⟩
  rw [if_neg e] at h
  by_cases e : f = 20
  · rw [if_pos e] at h; cases h; rw [e]; exact ⟨ok_laws_heldRangeS, (fun n (h : n ∈ ([] : List String)) => (nomatch h))⟩
  rw [if_neg e] at h
  by_cases e : f = 21
  · rw [if_pos e] at h; cases h; rw [e]; exact ⟨ok_spec_Expunge, (fun n (h : n ∈ ([] : List String)) => (nomatch h))⟩
  rw [if_neg e] at h
  by_cases e : f = 22
  · rw [if_pos e] at h; cases h; rw [e]; exact ⟨ok_impl_Expunge, (fun n (h : n ∈ ([] : List String)) => (nomatch h))⟩
  rw [if_neg e] at h
  cases h
theorem ok_laws_FnExactExpunge : FnOk Try.prog 4 spLaw := by
  refine fn_ok (Φ := Phi_laws_FnExactExpunge) (T := T_laws_FnExactExpunge) phi_laws_FnExactExpunge mixed Try.func4 rfl rfl rfl (by decide) ?_
  intro ins r outs hr hl
  clear hl
  have hs := spLaw_in hr
  clear hr
  obtain ⟨aB, aS, rfl, hc, hr, rfl⟩ := hs
  simp only [spLaw, Try.f4, Go.VM.initS]
  obtain ⟨w0, w1⟩ := hc
  have z0 : Box.sz aB (1048576) = -1 ∨ (0 ≤ Box.sz aB (1048576) ∧ Box.sz aB (1048576) ≤ 1048576 ∧ _) := Box.sz_ok aB (1048576) 1048576 (by decide) (by decide)
  rcases z0 with z0 | ⟨z0, y0, x0⟩
  · simp only [w0, z0, go_sem]
    repeat' ((first | ((first | apply qa | apply qb | apply qc | apply qd | apply qe | apply qf | apply qg | apply qh | apply qi | apply qj | apply qk) <;> intro hp) | ((first | refine ql rfl rfl (by decide +kernel) ?_ | refine qm _ rfl rfl (by decide +kernel) ?_ | refine goes_opn rfl ?_ | refine goes_opnD rfl rfl (by decide +kernel) ?_) <;> have hp := True.intro)) <;> simp only [hp, w0, z0, go_sem])
    simp only [fin_mk, finV, resL, resV1, resIn, endA, listIn, Option.some_or, Option.none_or, oneOrTup, go_sem]
    rw [← hr]
  have n0 : ¬ (Box.sz aB (1048576)) < 0 := Int.not_lt.2 z0
  have u0 : (Box.sz aB (1048576)) ≤ 4611686018427387904 := by omega
  have v0 : (Box.sz aB (1048576)) ≤ ((1048576 : Nat) : Int) := by omega
  have l0 : aB.le 4194304 := Box.le_mono _ _ _ (by decide) x0
  have w1' : aS.length ≤ 4611686018427387904 := w1.1
  have z1 : szF aS (Box.sz aB (1048576)) = -1 ∨ (0 ≤ szF aS (Box.sz aB (1048576)) ∧ szF aS (Box.sz aB (1048576)) ≤ Box.sz aB (1048576) ∧ _) := szF_ok (p := Range.le) (fun b x => trivial) aS (Box.sz aB (1048576)) 1048576 z0 v0
  rcases z1 with z1 | ⟨z1, y1, x1⟩
  · simp only [w0, z0, n0, u0, l0, w1', z1, go_sem]
    repeat' ((first | ((first | apply qa | apply qb | apply qc | apply qd | apply qe | apply qf | apply qg | apply qh | apply qi | apply qj | apply qk) <;> intro hp) | ((first | refine ql rfl rfl (by decide +kernel) ?_ | refine qm _ rfl rfl (by decide +kernel) ?_ | refine goes_opn rfl ?_ | refine goes_opnD rfl rfl (by decide +kernel) ?_) <;> have hp := True.intro)) <;> simp only [hp, w0, z0, n0, u0, l0, w1', z1, go_sem])
    simp only [fin_mk, finV, resL, resV1, resIn, endA, listIn, Option.some_or, Option.none_or, oneOrTup, go_sem]
    rw [← hr]
  have n1 : ¬ (szF aS (Box.sz aB (1048576))) < 0 := Int.not_lt.2 z1
  have u1 : (szF aS (Box.sz aB (1048576))) ≤ 4611686018427387904 := by omega
  have v1 : (szF aS (Box.sz aB (1048576))) ≤ ((1048576 : Nat) : Int) := by omega
  have l1' : leL Range.le 4194304 aS := leL.mono Range.le_mono (by decide) x1
  have l1 : aS.length ≤ 4194304 := l1'.1
  have q0 : (0 : Int) ≤ 1 := by decide
  have r0 : (expunge aB aS).le 4194304 := expunge_le l0
  have r0_Mails : (expunge aB aS).Mails.length ≤ 4194304 := r0.2.1.1
  have r0_Tombs : (expunge aB aS).Tombs.length ≤ 4194304 := r0.2.2.1
  have r1 : (exGone aB aS).length ≤ 4194304 := exGone_len aB aS
  have l0_Mails : aB.Mails.length ≤ 4194304 := l0.2.1.1
  have l0_Tombs : aB.Tombs.length ≤ 4194304 := l0.2.2.1
  have xe0 : (msBox (aB) (1)).2 = 1 + (4 : Nat) * (aB).Mails.length + (2 : Nat) * (aB).Tombs.length := msBox_k _ _
  have xp0 : 0 ≤ (msBox (aB) (1)).2 := by omega
  have xn0 : ¬ (msBox (aB) (1)).2 < 0 := by omega
  have xb0 : (msBox (aB) (1)).2 ≤ 288230376151711744 := by omega
  have xc0 : (msBox (aB) (1)).2 ≤ 1152921504606846976 := by omega
  have xd0 : (msBox (aB) (1)).2 ≤ 144115188075855872 := by omega
  have xe1 : (markL meRange (aS) ((msBox (aB) (1)).2)).2 = (msBox (aB) (1)).2 + (2 : Nat) * (aS).length := markL_k meRange_k _ _
  have xp1 : 0 ≤ (markL meRange (aS) ((msBox (aB) (1)).2)).2 := by omega
  have xn1 : ¬ (markL meRange (aS) ((msBox (aB) (1)).2)).2 < 0 := by omega
  have xb1 : (markL meRange (aS) ((msBox (aB) (1)).2)).2 ≤ 288230376151711744 := by omega
  have xc1 : (markL meRange (aS) ((msBox (aB) (1)).2)).2 ≤ 1152921504606846976 := by omega
  have xd1 : (markL meRange (aS) ((msBox (aB) (1)).2)).2 ≤ 144115188075855872 := by omega
  have me2 : (msBox (expunge aB aS) (1)).2 = 1 + (4 : Nat) * (expunge aB aS).Mails.length + (2 : Nat) * (expunge aB aS).Tombs.length := msBox_k _ _
  have mp2 : 0 ≤ (msBox (expunge aB aS) (1)).2 := by omega
  have mn2 : ¬ (msBox (expunge aB aS) (1)).2 < 0 := by omega
  have mb2 : (msBox (expunge aB aS) (1)).2 ≤ 288230376151711744 := by omega
  have mc2 : (msBox (expunge aB aS) (1)).2 ≤ 1152921504606846976 := by omega
  have md2 : (msBox (expunge aB aS) (1)).2 ≤ 144115188075855872 := by omega
  have mh2 : hsBox ⟨(expunge aB aS).Name, (expunge aB aS).Valid, (expunge aB aS).Next, (expunge aB aS).Mod, (msBox (expunge aB aS) (1)).1.Mails, (msBox (expunge aB aS) (1)).1.Tombs, (expunge aB aS).Horizon⟩ (1) = some ((msBox (expunge aB aS) (1)).2) := hsBox_marked _ _
  have me3 : (markL meRange (exGone aB aS) ((msBox (expunge aB aS) (1)).2)).2 = (msBox (expunge aB aS) (1)).2 + (2 : Nat) * (exGone aB aS).length := markL_k meRange_k _ _
  have mp3 : 0 ≤ (markL meRange (exGone aB aS) ((msBox (expunge aB aS) (1)).2)).2 := by omega
  have mn3 : ¬ (markL meRange (exGone aB aS) ((msBox (expunge aB aS) (1)).2)).2 < 0 := by omega
  have mb3 : (markL meRange (exGone aB aS) ((msBox (expunge aB aS) (1)).2)).2 ≤ 288230376151711744 := by omega
  have mc3 : (markL meRange (exGone aB aS) ((msBox (expunge aB aS) (1)).2)).2 ≤ 1152921504606846976 := by omega
  have md3 : (markL meRange (exGone aB aS) ((msBox (expunge aB aS) (1)).2)).2 ≤ 144115188075855872 := by omega
  simp only [w0, z0, n0, u0, l0, l1', w1', z1, n1, u1, l1, r0, r0_Mails, r0_Tombs, r1, l0_Mails, l0_Tombs, xp0, xn0, xb0, xc0, xd0, xp1, xn1, xb1, xc1, xd1, mp2, mn2, mb2, mc2, md2, mh2, mp3, mn3, mb3, mc3, md3, held_marked heRange_marked, msBox_Mails, msBox_Tombs, markL_len, q0, Option.getD_some, bne_self_eq_false, go_sem]
  repeat' ((first | ((first | apply qa | apply qb | apply qc | apply qd | apply qe | apply qf | apply qg | apply qh | apply qi | apply qj | apply qk) <;> intro hp) | ((first | refine ql rfl rfl (by decide +kernel) ?_ | refine qm _ rfl rfl (by decide +kernel) ?_ | refine goes_opn rfl ?_ | refine goes_opnD rfl rfl (by decide +kernel) ?_) <;> have hp := True.intro)) <;> simp only [hp, w0, z0, n0, u0, l0, l1', w1', z1, n1, u1, l1, r0, r0_Mails, r0_Tombs, r1, l0_Mails, l0_Tombs, xp0, xn0, xb0, xc0, xd0, xp1, xn1, xb1, xc1, xd1, mp2, mn2, mb2, mc2, md2, mh2, mp3, mn3, mb3, mc3, md3, held_marked heRange_marked, msBox_Mails, msBox_Tombs, markL_len, q0, Option.getD_some, bne_self_eq_false, go_sem])
  all_goals (simp only [fin_mk, finV, resL, resV1, resIn, endA, listIn, Option.some_or, Option.none_or, oneOrTup, go_sem]; rw [← hr])
set_option maxRecDepth 100000 in
theorem own : ownKnob Try.prog.godebug = none := by kernel_rfl
theorem lifted (os : Os) (started : os.Started) (H : Type) (enc : TypeId × Value → H) :
    ReturnsInHanded {} Try.checked os 4 .any (Rows.fnExactExpungeSpec.pre6 enc Try.prog Try.f4 Rows.fnExactExpungeRow.domain false) (Rows.fnExactExpungeSpec.post enc Try.prog Try.f4 false true false false) :=
  law_of_fn (C := Try.checked) (n := 4) own started (by kernel_rfl) Try.func4 rfl rfl
    (ChangeSpec.witness6 (enc := enc) (C := Try.checked) false ⟨#[], #[.agg #[.string ByteArray.empty, .int .i64 0, .int .i64 0, .int .i64 0, .slice none 0 0, .slice none 0 0, .int .i64 0], .slice none 0 0], []⟩ 8 (by kernel_rfl) (by kernel_rfl) (by kernel_rfl) (by kernel_rfl))
    rfl rfl Try.underlying4 (by kernel_rfl) (by
      intro t ht
      simp only [Try.f4, List.mem_cons, List.not_mem_nil, or_false] at ht
      rcases ht with rfl | rfl <;> exact ⟨by kernel_rfl, by kernel_rfl, of_decide_eq_true (by kernel_rfl)⟩)
    (by
      intro ds hd
      match ds, hd with
      | [d0, d1], _ => rfl)
    rfl ok_laws_FnExactExpunge rfl (by
      intro xs hl hw
      match xs, hl with
      | [x0, x1], _ =>
        obtain ⟨x0, rfl, c0⟩ := wf_Box (hw 0 25 x0 rfl rfl)
        obtain ⟨x1, rfl, c1, _, e1⟩ := wf_slice Try.underlying26 (hw 1 26 x1 rfl rfl)
        rw [Ty.bytes_86] at c1
        have c1 : x1.length ≤ 4611686018427387904 := by unfold reachBytes at c1; omega
        obtain ⟨x1, rfl, d1⟩ := list_enc (e := Range.enc) (R := Range.le 4611686018427387904) fun v hv => wf_Range (e1 v hv)
        rw [List.length_map] at c1
        simp only [spLaw, Box.dec_enc, Ty.cells_86, decL_Range, Option.bind_some]
        exact if_pos ⟨c0, ⟨c1, d1⟩⟩)
theorem over : Rows.fnExactExpungeRow.holds Try.pinned (OpenSpec.ofChange Rows.fnExactExpungeSpec) :=
  OpenClaim.holds_of_wide 4 Try.f4 rfl rfl rfl rfl rfl rfl rfl ⟨rfl, rfl, rfl, rfl, rfl⟩ rfl rfl rfl rfl rfl (by kernel_rfl) Try.func4 (by kernel_rfl)
    (of_decide_eq_true (by kernel_rfl)) (by unfold Func.isWrapper; first | (rw [if_pos (by decide +kernel)]; kernel_rfl) | (rw [if_neg (by decide +kernel)]; exact ⟨rfl, rfl⟩))
    (fun os started H enc _ => lifted os started H enc)
end Go.Proofs.Ytglldabpgobimaa.VExpunge
namespace Go.Proofs.Ytglldabpgobimaa
theorem fnExactExpunge_holds : Rows.FnExactExpungeSaid := VExpunge.over
#print axioms fnExactExpunge_holds
end Go.Proofs.Ytglldabpgobimaa
