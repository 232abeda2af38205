/- The law FnExactAnewActs: the two functions that it calls answer alike, so it answers true. No condition. -/
import Derived.Test.YtimiccneikhkgaaGreatDoorVLB
import Derived.Test.YtimiccneikhkgaaGreatDoorVLAn
import Derived.Test.YtimiccneikhkgaaGreatDoorVmDoor
import Derived.Test.YtimiccneikhkgaaGreatDoorTie
import Derived.Test.YtimiccneikhkgaaGreatDoorCards
import Derived.Test.YtimiccneikhkgaaGreatDoorRows
import Derived.KernelRfl
namespace Go.Proofs.YtimiccneikhkgaaGreatDoor.VAnewActs
open Go Go.VM Go.Proofs.YtimiccneikhkgaaGreatDoor.L
set_option maxRecDepth 100000
set_option maxHeartbeats 4000000
set_option linter.unusedSimpArgs false
set_option linter.unusedVariables false
theorem wf_File {n : Nat} {v : V} (h : WfV Tryz.prog (n + 2) 171 v) : ∃ x : File, v = x.enc ∧ x.le 4611686018427387904 := by
  obtain ⟨l, rfl, hl, hf⟩ := wf_fields Tryz.underlying171 h
  match l, hl with
  | [f0, f1, f2], _ =>
    obtain ⟨f0, rfl, c0⟩ := wf_string Tryz.underlying9 (hf 0 _ f0 rfl rfl)
    have c0 : f0.length ≤ 4611686018427387904 := by unfold reachBytes at c0; omega
    obtain ⟨f1, rfl, c1⟩ := wf_string Tryz.underlying9 (hf 1 _ f1 rfl rfl)
    have c1 : f1.length ≤ 4611686018427387904 := by unfold reachBytes at c1; omega
    obtain ⟨f2, rfl, _⟩ := wf_int Tryz.underlying3 (hf 2 _ f2 rfl rfl)
    exact ⟨⟨f0, f1, f2⟩, by simp [File.enc], ⟨c0, c1⟩⟩
theorem wf_Disk {n : Nat} {v : V} (h : WfV Tryz.prog (n + 4) 55 v) : ∃ x : Disk, v = x.enc ∧ x.le 4611686018427387904 := by
  obtain ⟨l, rfl, hl, hf⟩ := wf_fields Tryz.underlying55 h
  match l, hl with
  | [f0], _ =>
    obtain ⟨f0, rfl, c0, _, e0⟩ := wf_slice Tryz.underlying53 (hf 0 _ f0 rfl rfl)
    rw [Ty.bytes_171] at c0
    have c0 : f0.length ≤ 4611686018427387904 := by unfold reachBytes at c0; omega
    obtain ⟨f0, rfl, d0⟩ := list_enc (e := File.enc) (R := File.le 4611686018427387904) fun v hv => wf_File (e0 v hv)
    rw [List.length_map] at c0
    exact ⟨⟨f0⟩, by simp [Disk.enc, Ty.cells_171], ⟨c0, d0⟩⟩
theorem wf_Range {n : Nat} {v : V} (h : WfV Tryz.prog (n + 2) 204 v) : ∃ x : Range, v = x.enc ∧ x.le 4611686018427387904 := by
  obtain ⟨l, rfl, hl, hf⟩ := wf_fields Tryz.underlying204 h
  match l, hl with
  | [f0, f1], _ =>
    obtain ⟨f0, rfl, _⟩ := wf_int Tryz.underlying3 (hf 0 _ f0 rfl rfl)
    obtain ⟨f1, rfl, _⟩ := wf_int Tryz.underlying3 (hf 1 _ f1 rfl rfl)
    exact ⟨⟨f0, f1⟩, by simp [Range.enc], trivial⟩
theorem wf_Edit {n : Nat} {v : V} (h : WfV Tryz.prog (n + 4) 117 v) : ∃ x : Edit, v = x.enc ∧ x.le 4611686018427387904 := by
  obtain ⟨l, rfl, hl, hf⟩ := wf_fields Tryz.underlying117 h
  match l, hl with
  | [f0, f1, f2, f3, f4, f5, f6, f7], _ =>
    obtain ⟨f0, rfl, _⟩ := wf_int Tryz.underlying3 (hf 0 _ f0 rfl rfl)
    obtain ⟨f1, rfl, c1⟩ := wf_string Tryz.underlying9 (hf 1 _ f1 rfl rfl)
    have c1 : f1.length ≤ 4611686018427387904 := by unfold reachBytes at c1; omega
    obtain ⟨f2, rfl, c2⟩ := wf_string Tryz.underlying9 (hf 2 _ f2 rfl rfl)
    have c2 : f2.length ≤ 4611686018427387904 := by unfold reachBytes at c2; omega
    obtain ⟨f3, rfl, c3, _, e3⟩ := wf_slice Tryz.underlying115 (hf 3 _ f3 rfl rfl)
    rw [Ty.bytes_204] at c3
    have c3 : f3.length ≤ 4611686018427387904 := by unfold reachBytes at c3; omega
    obtain ⟨f3, rfl, d3⟩ := list_enc (e := Range.enc) (R := Range.le 4611686018427387904) fun v hv => wf_Range (e3 v hv)
    rw [List.length_map] at c3
    obtain ⟨f4, rfl, _⟩ := wf_int Tryz.underlying3 (hf 4 _ f4 rfl rfl)
    obtain ⟨f5, rfl, _⟩ := wf_int Tryz.underlying3 (hf 5 _ f5 rfl rfl)
    obtain ⟨f6, rfl, _⟩ := wf_int Tryz.underlying3 (hf 6 _ f6 rfl rfl)
    obtain ⟨f7, rfl, c7⟩ := wf_string Tryz.underlying9 (hf 7 _ f7 rfl rfl)
    have c7 : f7.length ≤ 4611686018427387904 := by unfold reachBytes at c7; omega
    exact ⟨⟨f0, f1, f2, f3, f4, f5, f6, f7⟩, by simp [Edit.enc, Ty.cells_204], ⟨c1, c2, ⟨c3, d3⟩, c7⟩⟩
open Classical in
noncomputable def spLaw : VM.Spec := { modes := [.rd, .rd], run := fun | [aD', .lst 8 aList'] => (Disk.dec aD').bind fun aD => (decL Edit.dec aList').bind fun aList => if aD.le 4611686018427387904 ∧ leL Edit.le 4611686018427387904 aList then some (.bool true, []) else none | _ => none, need := ["internal/strconv.uint64pow10"] }
attribute [go_sem] spLaw
theorem spLaw_in {ins : List V} {r : V} {outs : List V} (h : spLaw.run ins = some (r, outs)) : ∃ (aD : Disk) (aList : (List Edit)), ins = [Disk.enc aD, .lst 8 ((aList).map Edit.enc)] ∧ (aD.le 4611686018427387904 ∧ leL Edit.le 4611686018427387904 aList) ∧ .bool true = r ∧ outs = [] := by
  unfold spLaw at h
  simp only at h
  split at h
  · rename_i aD' aList'
    simp only [Option.bind_eq_some_iff] at h
    obtain ⟨aD, h_aD, aList, h_aList, h⟩ := h
    split at h
    case isFalse => cases h
    rename_i hc
    simp only [Option.some.injEq, Prod.mk.injEq] at h
    obtain ⟨h1, h2⟩ := h
    have h_aD := Disk.dec_some h_aD
    subst h_aD
    have h_aList := decL_some (fun _ _ h => Edit.dec_some h) h_aList
    subst h_aList
    exact ⟨aD, aList, rfl, hc, h1, h2.symm⟩
  · cases h
def T_laws_FnExactAnewActs : Hints := ⟨fun i => if i = 14 then some [(0, 2)] else none, fun _ => none, fun i => if i = 0 then some [1, 2] else if i = 1 then some [1, 2, 5] else if i = 2 then some [1, 2, 5] else if i = 3 then some [1, 2, 5, 21] else if i = 4 then some [4] else if i = 5 then some [1, 2, 5] else if i = 6 then some [1, 2, 26] else if i = 7 then some [4] else if i = 8 then some [1, 2, 6, 7] else if i = 9 then some [1, 2, 6, 7, 8] else if i = 10 then some [1, 2, 6, 7, 8, 9] else if i = 11 then some [1, 2, 6, 7, 8, 9, 10, 11] else if i = 12 then some [1, 2, 6, 7, 8, 9, 10, 11, 53] else if i = 13 then some [4] else if i = 14 then some [1, 2, 6, 7, 8, 9, 10, 11, 58] else if i = 15 then some [4] else if i = 16 then some [1, 2, 6, 7, 8, 9, 10, 11, 63] else if i = 17 then some [4] else if i = 18 then some [1, 2, 6, 7, 8, 9, 10, 11, 12] else if i = 19 then some [1, 2, 6, 7, 9, 10, 11, 12] else if i = 20 then some [1, 2, 6, 7, 10, 11, 12] else if i = 21 then some [1, 2, 6, 7, 10, 82] else if i = 22 then some [4] else if i = 23 then some [1, 2, 6, 7, 10, 13] else if i = 24 then some [1, 2, 6, 7, 10, 13] else if i = 25 then some [1, 2, 6, 7, 10, 13, 14] else if i = 26 then some [1, 2, 6, 7, 10, 13, 14] else if i = 27 then some [1, 2, 6, 7, 10, 13, 14, 90] else if i = 28 then some [4] else if i = 29 then some [1, 2, 6, 7, 10, 13, 93] else if i = 30 then some [4] else if i = 31 then some [6, 7, 10, 13, 15, 16] else if i = 32 then some [10, 13, 110] else if i = 33 then some [4] else if i = 34 then some [10, 13, 14] else if i = 35 then some [13, 14] else if i = 36 then some [13, 14, 115] else if i = 37 then some [4] else if i = 38 then some [118] else if i = 39 then some [4] else if i = 40 then some [4] else none, fun _ => none⟩
noncomputable def Phi_laws_FnExactAnewActs : Tab := fun f => if f = 24 then some spSzDisk else if f = 27 then some spToDisk else if f = 31 then some spEqDisk else if f = 33 then some spMarkDisk else if f = 25 then some spSzEditS else if f = 28 then some spToEditS else if f = 32 then some spEqEditS else if f = 34 then some spMarkEditS else if f = 30 then some spEqActS else if f = 35 then some spMarkActS else if f = 36 then some spHeldActS else if f = 26 then some spAnew else if f = 29 then some spAnew else none
attribute [go_sem] T_laws_FnExactAnewActs Phi_laws_FnExactAnewActs
theorem phi_laws_FnExactAnewActs : ∀ f sp, Phi_laws_FnExactAnewActs f = some sp → FnOk Tryz.prog f sp ∧ ∀ n ∈ sp.need, n ∈ (["internal/strconv.uint64pow10"] : List String) := by
  intro f sp h
  unfold Phi_laws_FnExactAnewActs at h
  by_cases e : f = 24
  · rw [if_pos e] at h; cases h; rw [e]; exact ⟨ok_laws_szDisk, (fun n (h : n ∈ ([] : List String)) => (nomatch h))⟩
  rw [if_neg e] at h
  by_cases e : f = 27
  · rw [if_pos e] at h; cases h; rw [e]; exact ⟨ok_laws_toDisk, (fun n (h : n ∈ ([] : List String)) => (nomatch h))⟩
  rw [if_neg e] at h
  by_cases e : f = 31
  · rw [if_pos e] at h; cases h; rw [e]; exact ⟨ok_laws_eqDisk, (fun n (h : n ∈ ([] : List String)) => (nomatch h))⟩
  rw [if_neg e] at h
  by_cases e : f = 33
  · rw [if_pos e] at h; cases h; rw [e]; exact ⟨ok_laws_markDisk, (fun n (h : n ∈ ([] : List String)) => (nomatch h))⟩
  rw [if_neg e] at h
  by_cases e : f = 25
  · rw [if_pos e] at h; cases h; rw [e]; exact ⟨ok_laws_szEditS, (fun n (h : n ∈ ([] : List String)) => (nomatch h))⟩
  rw [if_neg e] at h
  by_cases e : f = 28
  · rw [if_pos e] at h; cases h; rw [e]; exact ⟨ok_laws_toEditS, (fun n (h : n ∈ ([] : List String)) => (nomatch h))⟩
  rw [if_neg e] at h
  by_cases e : f = 32
  · rw [if_pos e] at h; cases h; rw [e]; exact ⟨ok_laws_eqEditS, (fun n (h : n ∈ ([] : List String)) => (nomatch h))⟩
  rw [if_neg e] at h
  by_cases e : f = 34
  · rw [if_pos e] at h; cases h; rw [e]; exact ⟨ok_laws_markEditS, (fun n (h : n ∈ ([] : List String)) => (nomatch h))⟩
  rw [if_neg e] at h
  by_cases e : f = 30
  · rw [if_pos e] at h; cases h; rw [e]; exact ⟨ok_laws_eqActS, (fun n (h : n ∈ ([] : List String)) => (nomatch h))⟩
  rw [if_neg e] at h
  by_cases e : f = 35
  · rw [if_pos e] at h; cases h; rw [e]; exact ⟨ok_laws_markActS, (fun n (h : n ∈ ([] : List String)) => (nomatch h))⟩
  rw [if_neg e] at h
  by_cases e : f = 36
  · rw [if_pos e] at h; cases h; rw [e]; exact ⟨ok_laws_heldActS, (fun n (h : n ∈ ([] : List String)) => (nomatch h))⟩
  rw [if_neg e] at h
  by_cases e : f = 26
  · rw [if_pos e] at h; cases h; rw [e]; exact ⟨ok_spec_AnewActs, (fun n (h : n ∈ (["internal/strconv.uint64pow10"] : List String)) => by simp only [List.mem_cons, List.not_mem_nil, or_false] at h; rcases h with rfl <;> simp)⟩
  rw [if_neg e] at h
  by_cases e : f = 29
  · rw [if_pos e] at h; cases h; rw [e]; exact ⟨ok_impl_AnewActs, (fun n (h : n ∈ (["internal/strconv.uint64pow10"] : List String)) => by simp only [List.mem_cons, List.not_mem_nil, or_false] at h; rcases h with rfl <;> simp)⟩
  rw [if_neg e] at h
  cases h
theorem ok_laws_FnExactAnewActs : FnOk Tryz.prog 5 spLaw := by
  refine fn_ok (Φ := Phi_laws_FnExactAnewActs) (T := T_laws_FnExactAnewActs) phi_laws_FnExactAnewActs mixed Tryz.func5 rfl rfl rfl (by decide) ?_
  intro ins r outs hr hl
  clear hl
  have hs := spLaw_in hr
  clear hr
  obtain ⟨aD, aList, rfl, hc, hr, rfl⟩ := hs
  simp only [spLaw, Tryz.f5, Go.VM.initS]
  obtain ⟨w0, w1⟩ := hc
  have z0 : Disk.sz aD (1048576) = -1 ∨ (0 ≤ Disk.sz aD (1048576) ∧ Disk.sz aD (1048576) ≤ 1048576 ∧ _) := Disk.sz_ok aD (1048576) 1048576 (by decide) (by decide)
  rcases z0 with z0 | ⟨z0, y0, x0⟩
  · simp only [w0, z0, go_sem]
    repeat' ((first | ((first | apply qa | apply qb | apply qc | apply qd | apply qe | apply qf | apply qg | apply qh | apply qi | apply qj | apply qk) <;> intro hp) | ((first | refine ql rfl rfl (by decide +kernel) ?_ | refine qm _ rfl rfl (by decide +kernel) ?_ | refine goes_opn rfl ?_ | refine goes_opnD rfl rfl (by decide +kernel) ?_) <;> have hp := True.intro)) <;> simp only [hp, w0, z0, go_sem])
    simp only [fin_mk, finV, resL, resV1, resIn, endA, listIn, Option.some_or, Option.none_or, oneOrTup, go_sem]
    rw [← hr]
  have n0 : ¬ (Disk.sz aD (1048576)) < 0 := Int.not_lt.2 z0
  have u0 : (Disk.sz aD (1048576)) ≤ 4611686018427387904 := by omega
  have v0 : (Disk.sz aD (1048576)) ≤ ((1048576 : Nat) : Int) := by omega
  have l0 : aD.le 4194304 := Disk.le_mono _ _ _ (by decide) x0
  have z1 : szLL Edit.sz aList (Disk.sz aD (1048576)) = -1 ∨ (0 ≤ szLL Edit.sz aList (Disk.sz aD (1048576)) ∧ szLL Edit.sz aList (Disk.sz aD (1048576)) ≤ Disk.sz aD (1048576) ∧ _) := szLL_ok Edit.sz_ok aList (Disk.sz aD (1048576)) 1048576 z0 v0
  rcases z1 with z1 | ⟨z1, y1, x1⟩
  · simp only [w0, z0, n0, u0, l0, w1, z1, go_sem]
    repeat' ((first | ((first | apply qa | apply qb | apply qc | apply qd | apply qe | apply qf | apply qg | apply qh | apply qi | apply qj | apply qk) <;> intro hp) | ((first | refine ql rfl rfl (by decide +kernel) ?_ | refine qm _ rfl rfl (by decide +kernel) ?_ | refine goes_opn rfl ?_ | refine goes_opnD rfl rfl (by decide +kernel) ?_) <;> have hp := True.intro)) <;> simp only [hp, w0, z0, n0, u0, l0, w1, z1, go_sem])
    simp only [fin_mk, finV, resL, resV1, resIn, endA, listIn, Option.some_or, Option.none_or, oneOrTup, go_sem]
    rw [← hr]
  have n1 : ¬ (szLL Edit.sz aList (Disk.sz aD (1048576))) < 0 := Int.not_lt.2 z1
  have u1 : (szLL Edit.sz aList (Disk.sz aD (1048576))) ≤ 4611686018427387904 := by omega
  have v1 : (szLL Edit.sz aList (Disk.sz aD (1048576))) ≤ ((1048576 : Nat) : Int) := by omega
  have l1 : leL Edit.le 4194304 aList := leL.mono Edit.le_mono (by decide) x1
  have q0 : (0 : Int) ≤ 1 := by decide
  have r0 : (anewActs aD aList).length ≤ 4194304 := anewActs_le aD aList
  have l0_Files : aD.Files.length ≤ 4194304 := l0.1
  have xe0 : (msDisk (aD) (1)).2 = 1 + (3 : Nat) * (aD).Files.length := msDisk_k _ _
  have xp0 : 0 ≤ (msDisk (aD) (1)).2 := by omega
  have xn0 : ¬ (msDisk (aD) (1)).2 < 0 := by omega
  have xb0 : (msDisk (aD) (1)).2 ≤ 288230376151711744 := by omega
  have xc0 : (msDisk (aD) (1)).2 ≤ 1152921504606846976 := by omega
  have xd0 : (msDisk (aD) (1)).2 ≤ 144115188075855872 := by omega
  have xL1 : leL Edit.ln 4194304 (aList) := edits_ln l1
  have xM1 : (aList).length ≤ 4194304 := xL1.1
  have xe1 : (markL meEdit (aList) ((msDisk (aD) (1)).2)).2 ≤ (msDisk (aD) (1)).2 + 8388615 * (aList).length := markEditS_up xL1 _
  have xg1 : (msDisk (aD) (1)).2 ≤ (markL meEdit (aList) ((msDisk (aD) (1)).2)).2 := markEditS_le _ _
  have xp1 : 0 ≤ (markL meEdit (aList) ((msDisk (aD) (1)).2)).2 := by omega
  have xn1 : ¬ (markL meEdit (aList) ((msDisk (aD) (1)).2)).2 < 0 := by omega
  have xb1 : (markL meEdit (aList) ((msDisk (aD) (1)).2)).2 ≤ 288230376151711744 := by omega
  have xc1 : (markL meEdit (aList) ((msDisk (aD) (1)).2)).2 ≤ 1152921504606846976 := by omega
  have xd1 : (markL meEdit (aList) ((msDisk (aD) (1)).2)).2 ≤ 144115188075855872 := by omega
  have me2 : (markL meAct (anewActs aD aList) (1)).2 = 1 + (4 : Nat) * (anewActs aD aList).length := markL_k meAct_k _ _
  have mp2 : 0 ≤ (markL meAct (anewActs aD aList) (1)).2 := by omega
  have mn2 : ¬ (markL meAct (anewActs aD aList) (1)).2 < 0 := by omega
  have mb2 : (markL meAct (anewActs aD aList) (1)).2 ≤ 288230376151711744 := by omega
  have mc2 : (markL meAct (anewActs aD aList) (1)).2 ≤ 1152921504606846976 := by omega
  have md2 : (markL meAct (anewActs aD aList) (1)).2 ≤ 144115188075855872 := by omega
  simp only [w0, z0, n0, u0, l0, w1, z1, n1, u1, l1, r0, l0_Files, xp0, xn0, xb0, xc0, xd0, xL1, xp1, xn1, xb1, xc1, xd1, mp2, mn2, mb2, mc2, md2, held_marked heAct_marked, markL_len, q0, Option.getD_some, bne_self_eq_false, go_sem]
  repeat' ((first | ((first | apply qa | apply qb | apply qc | apply qd | apply qe | apply qf | apply qg | apply qh | apply qi | apply qj | apply qk) <;> intro hp) | ((first | refine ql rfl rfl (by decide +kernel) ?_ | refine qm _ rfl rfl (by decide +kernel) ?_ | refine goes_opn rfl ?_ | refine goes_opnD rfl rfl (by decide +kernel) ?_) <;> have hp := True.intro)) <;> simp only [hp, w0, z0, n0, u0, l0, w1, z1, n1, u1, l1, r0, l0_Files, xp0, xn0, xb0, xc0, xd0, xL1, xp1, xn1, xb1, xc1, xd1, mp2, mn2, mb2, mc2, md2, held_marked heAct_marked, markL_len, q0, Option.getD_some, bne_self_eq_false, go_sem])
  all_goals (simp only [fin_mk, finV, resL, resV1, resIn, endA, listIn, Option.some_or, Option.none_or, oneOrTup, go_sem]; rw [← hr])
set_option maxRecDepth 100000 in
theorem gbase (W : World) (hL : laidMetH Tryz.prog Rows.fnExactAnewActsRow.laid W) (hsh : W.ShapedOpen Tryz.prog) : GBase Tryz.prog spLaw.need W :=
  ⟨fun _ => laid_tab (g := 1) (t := 240) (by kernel_rfl) (by kernel_rfl) Tryz.underlying240 Tryz.underlying233 (by kernel_rfl) (by kernel_rfl) (by rw [MakeChecks.laidMetH_plain _ _ _ (by kernel_rfl)] at hL; exact hL) (by simp only [Rows.fnExactAnewActsRow, List.mem_cons]; first | exact .inl rfl | exact .inr (.inl rfl) | exact .inr (.inr (.inl rfl)) | exact .inr (.inr (.inr (.inl rfl)))),
   fun h => absurd (show "internal/bytealg.MaxLen" ∈ (["internal/strconv.uint64pow10"] : List String) from h) (by simp),
   fun h => absurd (show "strconv.ErrSyntax" ∈ (["internal/strconv.uint64pow10"] : List String) from h) (by simp),
   fun h => absurd (show "strconv.ErrRange" ∈ (["internal/strconv.uint64pow10"] : List String) from h) (by simp)⟩
set_option maxRecDepth 100000 in
theorem own : ownKnob Tryz.prog.godebug = none := by kernel_rfl
theorem lifted (os : Os) (started : os.Started) (H : Type) (enc : TypeId × Value → H) :
    ReturnsInHanded {} Tryz.checked os 5 .any (fun w args => (Rows.fnExactAnewActsSpec.pre enc Tryz.prog Tryz.f5 [] false w args ∧ laidMetH Tryz.prog Rows.fnExactAnewActsRow.laid w) ∧ sizedMet enc Tryz.prog Tryz.f5 (OpenSpec.ofChange Rows.fnExactAnewActsSpec) false w args) (Rows.fnExactAnewActsSpec.post enc Tryz.prog Tryz.f5 false true false false) :=
  laid_of_fn Rows.fnExactAnewActsRow.laid (C := Tryz.checked) (n := 5) own started (by kernel_rfl) Tryz.func5 rfl rfl
    (ChangeSpec.witness_shaped (enc := enc) (C := Tryz.checked) (os := os) (X := fun w _ => laidMetH Tryz.prog Rows.fnExactAnewActsRow.laid w) false (World.laidAll Tryz.prog os Rows.fnExactAnewActsRow.laid) #[.agg #[.slice none 0 0], .slice none 0 0] 8 (World.laidAll_os _ _ _)
      (World.shaped_of_ZipB (by kernel_rfl) (by kernel_rfl)) (by kernel_rfl) (by kernel_rfl) (by kernel_rfl)
      (by rw [MakeChecks.laidMetH_plain _ _ _ (by kernel_rfl)]; exact laidMet_laidAll _ (by kernel_rfl) (by kernel_rfl)))
    rfl rfl Tryz.underlying4 (by kernel_rfl) (by
      intro t ht
      simp only [Tryz.f5, List.mem_cons, List.not_mem_nil, or_false] at ht
      rcases ht with rfl | rfl <;> exact ⟨by kernel_rfl, by kernel_rfl, of_decide_eq_true (by kernel_rfl)⟩)
    (by
      intro ds hd
      match ds, hd with
      | [d0, d1], _ => rfl)
    gbase ok_laws_FnExactAnewActs rfl (by
      intro xs hl hw
      match xs, hl with
      | [x0, x1], _ =>
        obtain ⟨x0, rfl, c0⟩ := wf_Disk (hw 0 55 x0 rfl rfl)
        obtain ⟨x1, rfl, c1, _, e1⟩ := wf_slice Tryz.underlying56 (hw 1 56 x1 rfl rfl)
        rw [Ty.bytes_117] at c1
        have c1 : x1.length ≤ 4611686018427387904 := by unfold reachBytes at c1; omega
        obtain ⟨x1, rfl, d1⟩ := list_enc (e := Edit.enc) (R := Edit.le 4611686018427387904) fun v hv => wf_Edit (e1 v hv)
        rw [List.length_map] at c1
        simp only [spLaw, Disk.dec_enc, Ty.cells_117, decL_Edit, Option.bind_some]
        exact if_pos ⟨c0, ⟨c1, d1⟩⟩)
theorem over : Rows.fnExactAnewActsRow.holds Tryz.pinned (OpenSpec.ofChange Rows.fnExactAnewActsSpec) :=
  OpenClaim.holds_of_wide 5 Tryz.f5 rfl rfl rfl rfl rfl rfl rfl ⟨rfl, rfl, rfl, rfl, rfl⟩ rfl rfl rfl rfl rfl (by kernel_rfl) Tryz.func5 (by kernel_rfl)
    (of_decide_eq_true (by kernel_rfl)) (by unfold Func.isWrapper; first | (rw [if_pos (by decide +kernel)]; kernel_rfl) | (rw [if_neg (by decide +kernel)]; exact ⟨rfl, rfl⟩))
    (fun os started H enc _ => lifted os started H enc)
theorem card : Rows.FnExactAnewActsCardSaid :=
  Claim7.holds_tied_plain_at .later [] [.data, .data, .data] true (true, "374870f9c4487c88fb3ae982972c82d93a2f90c98e4c6f9ceb4cf1ae8d02883b") false over (fun _ h => by cases h) (by kernel_rfl) (fun _ h => by cases h) fnExactAnewActs_row_tie rfl ⟨rfl, rfl⟩ (by kernel_rfl) rfl
    (fun f fn hf hfn => by
      obtain rfl : f = 5 := Option.some.inj ((show Tryz.prog.funcNamed "loop.example/g00247/laws.FnExactAnewActs" = some 5 by kernel_rfl).symm.trans hf) |>.symm
      obtain rfl : fn = Tryz.f5 := (Option.some.inj (Tryz.func5.symm.trans hfn)).symm
      exact ⟨by kernel_rfl, fun j t ht => by
        have hm : t ∈ Tryz.f5.params.toList := Array.mem_toList_iff.2 (Array.mem_of_getElem? ht)
        have hall : (Tryz.f5.params.toList.all fun u => !Tryz.prog.wantsStandIn u) = true := by kernel_rfl
        exact (show Tryz.prog.wantsStandIn t = false by simpa using List.all_eq_true.1 hall t hm)⟩)
    (by kernel_rfl)
end Go.Proofs.YtimiccneikhkgaaGreatDoor.VAnewActs
namespace Go.Proofs.YtimiccneikhkgaaGreatDoor
theorem fnExactAnewActs_holds : Rows.FnExactAnewActsCardSaid := VAnewActs.card
#print axioms fnExactAnewActs_holds
end Go.Proofs.YtimiccneikhkgaaGreatDoor
