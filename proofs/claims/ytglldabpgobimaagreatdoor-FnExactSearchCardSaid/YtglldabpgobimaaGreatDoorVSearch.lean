/- The law FnExactSearch: the two functions that it calls answer alike, so it answers true. No condition. -/
import Derived.Test.YtglldabpgobimaaGreatDoorVLB
import Derived.Test.YtglldabpgobimaaGreatDoorVLSe
import Derived.Test.YtglldabpgobimaaGreatDoorVmDoor
import Derived.Test.YtglldabpgobimaaGreatDoorTie
import Derived.Test.YtglldabpgobimaaGreatDoorCards
import Derived.Test.YtglldabpgobimaaGreatDoorRows
import Derived.KernelRfl
namespace Go.Proofs.YtglldabpgobimaaGreatDoor.VSearch
open Go Go.VM Go.Proofs.YtglldabpgobimaaGreatDoor.L
set_option maxRecDepth 100000
set_option maxHeartbeats 4000000
set_option linter.unusedSimpArgs false
set_option linter.unusedVariables false
theorem wf_Mail {n : Nat} {v : V} (h : WfV Tryz.prog (n + 2) 99 v) : ∃ x : Mail, v = x.enc ∧ x.le 4611686018427387904 := by
  obtain ⟨l, rfl, hl, hf⟩ := wf_fields Tryz.underlying99 h
  match l, hl with
  | [f0, f1, f2, f3], _ =>
    obtain ⟨f0, rfl, _⟩ := wf_int Tryz.underlying3 (hf 0 _ f0 rfl rfl)
    obtain ⟨f1, rfl, _⟩ := wf_int Tryz.underlying3 (hf 1 _ f1 rfl rfl)
    obtain ⟨f2, rfl, _⟩ := wf_int Tryz.underlying3 (hf 2 _ f2 rfl rfl)
    obtain ⟨f3, rfl, c3⟩ := wf_string Tryz.underlying9 (hf 3 _ f3 rfl rfl)
    have c3 : f3.length ≤ 4611686018427387904 := by unfold reachBytes at c3; omega
    exact ⟨⟨f0, f1, f2, f3⟩, by simp [Mail.enc], c3⟩
theorem wf_Tomb {n : Nat} {v : V} (h : WfV Tryz.prog (n + 2) 113 v) : ∃ x : Tomb, v = x.enc ∧ x.le 4611686018427387904 := by
  obtain ⟨l, rfl, hl, hf⟩ := wf_fields Tryz.underlying113 h
  match l, hl with
  | [f0, f1], _ =>
    obtain ⟨f0, rfl, _⟩ := wf_int Tryz.underlying3 (hf 0 _ f0 rfl rfl)
    obtain ⟨f1, rfl, _⟩ := wf_int Tryz.underlying3 (hf 1 _ f1 rfl rfl)
    exact ⟨⟨f0, f1⟩, by simp [Tomb.enc], trivial⟩
theorem wf_Box {n : Nat} {v : V} (h : WfV Tryz.prog (n + 4) 25 v) : ∃ x : Box, v = x.enc ∧ x.le 4611686018427387904 := by
  obtain ⟨l, rfl, hl, hf⟩ := wf_fields Tryz.underlying25 h
  match l, hl with
  | [f0, f1, f2, f3, f4, f5, f6], _ =>
    obtain ⟨f0, rfl, c0⟩ := wf_string Tryz.underlying9 (hf 0 _ f0 rfl rfl)
    have c0 : f0.length ≤ 4611686018427387904 := by unfold reachBytes at c0; omega
    obtain ⟨f1, rfl, _⟩ := wf_int Tryz.underlying3 (hf 1 _ f1 rfl rfl)
    obtain ⟨f2, rfl, _⟩ := wf_int Tryz.underlying3 (hf 2 _ f2 rfl rfl)
    obtain ⟨f3, rfl, _⟩ := wf_int Tryz.underlying3 (hf 3 _ f3 rfl rfl)
    obtain ⟨f4, rfl, c4, _, e4⟩ := wf_slice Tryz.underlying22 (hf 4 _ f4 rfl rfl)
    rw [Ty.bytes_99] at c4
    have c4 : f4.length ≤ 4611686018427387904 := by unfold reachBytes at c4; omega
    obtain ⟨f4, rfl, d4⟩ := list_enc (e := Mail.enc) (R := Mail.le 4611686018427387904) fun v hv => wf_Mail (e4 v hv)
    rw [List.length_map] at c4
    obtain ⟨f5, rfl, c5, _, e5⟩ := wf_slice Tryz.underlying23 (hf 5 _ f5 rfl rfl)
    rw [Ty.bytes_113] at c5
    have c5 : f5.length ≤ 4611686018427387904 := by unfold reachBytes at c5; omega
    obtain ⟨f5, rfl, d5⟩ := list_enc (e := Tomb.enc) (R := Tomb.le 4611686018427387904) fun v hv => wf_Tomb (e5 v hv)
    rw [List.length_map] at c5
    obtain ⟨f6, rfl, _⟩ := wf_int Tryz.underlying3 (hf 6 _ f6 rfl rfl)
    exact ⟨⟨f0, f1, f2, f3, f4, f5, f6⟩, by simp [Box.enc, Ty.cells_99, Ty.cells_113], ⟨c0, ⟨c4, d4⟩, ⟨c5, d5⟩⟩⟩
theorem wf_Key {n : Nat} {v : V} (h : WfV Tryz.prog (n + 2) 64 v) : ∃ x : Key, v = x.enc ∧ x.le 4611686018427387904 := by
  obtain ⟨l, rfl, hl, hf⟩ := wf_fields Tryz.underlying64 h
  match l, hl with
  | [f0, f1, f2], _ =>
    obtain ⟨f0, rfl, _⟩ := wf_int Tryz.underlying3 (hf 0 _ f0 rfl rfl)
    obtain ⟨f1, rfl, _⟩ := wf_int Tryz.underlying3 (hf 1 _ f1 rfl rfl)
    obtain ⟨f2, rfl, c2⟩ := wf_string Tryz.underlying9 (hf 2 _ f2 rfl rfl)
    have c2 : f2.length ≤ 4611686018427387904 := by unfold reachBytes at c2; omega
    exact ⟨⟨f0, f1, f2⟩, by simp [Key.enc], c2⟩
open Classical in
noncomputable def spLaw : VM.Spec := { modes := [.rd, .rd], run := fun | [aB', .lst 3 aKeys'] => (Box.dec aB').bind fun aB => (decL Key.dec aKeys').bind fun aKeys => if aB.le 4611686018427387904 ∧ leL Key.le 4611686018427387904 aKeys then some (.bool true, []) else none | _ => none, need := ["internal/bytealg.MaxLen"] }
theorem spLaw_in {ins : List V} {r : V} {outs : List V} (h : spLaw.run ins = some (r, outs)) : ∃ (aB : Box) (aKeys : (List Key)), ins = [Box.enc aB, .lst 3 ((aKeys).map Key.enc)] ∧ (aB.le 4611686018427387904 ∧ leL Key.le 4611686018427387904 aKeys) ∧ .bool true = r ∧ outs = [] := by
  unfold spLaw at h
  simp only at h
  split at h
  · rename_i aB' aKeys'
    simp only [Option.bind_eq_some_iff] at h
    obtain ⟨aB, h_aB, aKeys, h_aKeys, h⟩ := h
    split at h
    case isFalse => cases h
    rename_i hc
    simp only [Option.some.injEq, Prod.mk.injEq] at h
    obtain ⟨h1, h2⟩ := h
    have h_aB := Box.dec_some h_aB
    subst h_aB
    have h_aKeys := decL_some (fun _ _ h => Key.dec_some h) h_aKeys
    subst h_aKeys
    exact ⟨aB, aKeys, rfl, hc, h1, h2.symm⟩
  · cases h
def T_laws_FnExactSearch : Hints := ⟨fun i => if i = 14 then some [(0, 2)] else none, fun _ => none, fun i => if i = 0 then some [1, 2] else if i = 1 then some [1, 2, 5] else if i = 2 then some [1, 2, 5] else if i = 3 then some [1, 2, 5, 18] else if i = 4 then some [4] else if i = 5 then some [1, 2, 5] else if i = 6 then some [1, 2, 23] else if i = 7 then some [4] else if i = 8 then some [1, 2, 6] else if i = 9 then some [1, 2, 6, 7] else if i = 10 then some [1, 2, 6, 7, 8] else if i = 11 then some [1, 2, 6, 7, 8, 9] else if i = 12 then some [1, 2, 6, 7, 8, 9, 39] else if i = 13 then some [4] else if i = 14 then some [1, 2, 6, 7, 8, 9, 44] else if i = 15 then some [4] else if i = 16 then some [1, 2, 6, 7, 8, 9, 49] else if i = 17 then some [4] else if i = 18 then some [1, 2, 6, 7, 8, 9, 10] else if i = 19 then some [1, 2, 6, 8, 9, 10] else if i = 20 then some [1, 2, 6, 9, 10] else if i = 21 then some [1, 2, 6, 9, 63] else if i = 22 then some [4] else if i = 23 then some [1, 2, 6, 9, 11] else if i = 24 then some [1, 2, 6, 9, 11] else if i = 25 then some [1, 2, 6, 9, 11, 12] else if i = 26 then some [1, 2, 6, 9, 11, 12] else if i = 27 then some [1, 2, 6, 9, 11, 12, 71] else if i = 28 then some [4] else if i = 29 then some [1, 2, 6, 9, 11, 74] else if i = 30 then some [4] else if i = 31 then some [6, 9, 11, 13] else if i = 32 then some [9, 11, 83] else if i = 33 then some [4] else if i = 34 then some [9, 11, 12] else if i = 35 then some [11, 12] else if i = 36 then some [11, 12, 88] else if i = 37 then some [4] else if i = 38 then some [91] else if i = 39 then some [4] else if i = 40 then some [4] else none⟩
noncomputable def Phi_laws_FnExactSearch : Tab := fun f => if f = 6 then some spSzBox else if f = 9 then some spToBox else if f = 13 then some spEqBox else if f = 15 then some spMarkBox else if f = 7 then some spSzKeyS else if f = 10 then some spToKeyS else if f = 14 then some spEqKeyS else if f = 16 then some spMarkKeyS else if f = 12 then some spEqRangeS else if f = 17 then some spMarkRangeS else if f = 18 then some spHeldRangeS else if f = 8 then some spSearch else if f = 11 then some spSearch else none
theorem phi_laws_FnExactSearch : ∀ f sp, Phi_laws_FnExactSearch f = some sp → FnOk Tryz.prog f sp ∧ ∀ n ∈ sp.need, n ∈ (["internal/bytealg.MaxLen"] : List String) := by
  intro f sp h
  unfold Phi_laws_FnExactSearch at h
  by_cases e : f = 6
  · rw [if_pos e] at h; cases h; rw [e]; exact ⟨ok_laws_szBox, (fun n (h : n ∈ ([] : List String)) => (nomatch h))⟩
  rw [if_neg e] at h
  by_cases e : f = 9
  · rw [if_pos e] at h; cases h; rw [e]; exact ⟨ok_laws_toBox, (fun n (h : n ∈ ([] : List String)) => (nomatch h))⟩
  rw [if_neg e] at h
  by_cases e : f = 13
  · rw [if_pos e] at h; cases h; rw [e]; exact ⟨ok_laws_eqBox, (fun n (h : n ∈ ([] : List String)) => (nomatch h))⟩
  rw [if_neg e] at h
  by_cases e : f = 15
  · rw [if_pos e] at h; cases h; rw [e]; exact ⟨ok_laws_markBox, (fun n (h : n ∈ ([] : List String)) => (nomatch h))⟩
  rw [if_neg e] at h
  by_cases e : f = 7
  · rw [if_pos e] at h; cases h; rw [e]; exact ⟨ok_laws_szKeyS, (fun n (h : n ∈ ([] : List String)) => (nomatch h))⟩
  rw [if_neg e] at h
  by_cases e : f = 10
  · rw [if_pos e] at h; cases h; rw [e]; exact ⟨ok_laws_toKeyS, (fun n (h : n ∈ ([] : List String)) => (nomatch h))⟩
  rw [if_neg e] at h
  by_cases e : f = 14
  · rw [if_pos e] at h; cases h; rw [e]; exact ⟨ok_laws_eqKeyS, (fun n (h : n ∈ ([] : List String)) => (nomatch h))⟩
  rw [if_neg e] at h
  by_cases e : f = 16
  · rw [if_pos e] at h; cases h; rw [e]; exact ⟨ok_laws_markKeyS, (fun n (h : n ∈ ([] : List String)) => (nomatch h))⟩
  rw [if_neg e] at h
  by_cases e : f = 12
  · rw [if_pos e] at h; cases h; rw [e]; exact ⟨ok_laws_eqRangeS, (fun n (h : n ∈ ([] : List String)) => (nomatch h))⟩
  rw [if_neg e] at h
  by_cases e : f = 17
  · rw [if_pos e] at h; cases h; rw [e]; exact ⟨ok_laws_markRangeS, (fun n (h : n ∈ ([] : List String)) => (nomatch h))⟩
  rw [if_neg e] at h
  by_cases e : f = 18
  · rw [if_pos e] at h; cases h; rw [e]; exact ⟨ok_laws_heldRangeS, (fun n (h : n ∈ ([] : List String)) => (nomatch h))⟩
  rw [if_neg e] at h
  by_cases e : f = 8
  · rw [if_pos e] at h; cases h; rw [e]; exact ⟨ok_spec_Search, (fun n (h : n ∈ (["internal/bytealg.MaxLen"] : List String)) => by simp only [List.mem_cons, List.not_mem_nil, or_false] at h; rcases h with rfl <;> simp)⟩
  rw [if_neg e] at h
  by_cases e : f = 11
  · rw [if_pos e] at h; cases h; rw [e]; exact ⟨ok_impl_Search, (fun n (h : n ∈ (["internal/bytealg.MaxLen"] : List String)) => by simp only [List.mem_cons, List.not_mem_nil, or_false] at h; rcases h with rfl <;> simp)⟩
  rw [if_neg e] at h
  cases h
theorem ok_laws_FnExactSearch : FnOk Tryz.prog 3 spLaw := by
  refine fn_ok (Φ := Phi_laws_FnExactSearch) (T := T_laws_FnExactSearch) phi_laws_FnExactSearch mixed Tryz.func3 rfl rfl rfl (by decide) ?_
  intro ins r outs hr hl
  clear hl
  have hs := spLaw_in hr
  clear hr
  obtain ⟨aB, aKeys, rfl, hc, hr, rfl⟩ := hs
  simp only [spLaw, Tryz.f3, Go.VM.initS]
  obtain ⟨w0, w1⟩ := hc
  have z0 : Box.sz aB (1048576) = -1 ∨ (0 ≤ Box.sz aB (1048576) ∧ Box.sz aB (1048576) ≤ 1048576 ∧ _) := Box.sz_ok aB (1048576) 1048576 (by decide) (by decide)
  rcases z0 with z0 | ⟨z0, y0, x0⟩
  · simp only [w0, z0, Phi_laws_FnExactSearch, T_laws_FnExactSearch, spEqBox, spEqKeyS, spEqRangeS, spHeldRangeS, spMarkBox, spMarkKeyS, spMarkRangeS, spSearch, spSzBox, spSzKeyS, spToBox, spToKeyS, go_sem]
    repeat' ((first | refine after_iteT.2 ⟨fun hp => ?_, fun hp => ?_⟩ | refine after_iteF.2 ⟨fun hp => ?_, fun hp => ?_⟩ | refine after_ite.2 ⟨fun hp => ?_, fun hp => ?_⟩ | refine grd_not.2 ⟨fun hp => ?_, fun hp => ?_⟩ | refine grd_beq.2 ⟨fun hp => ?_, fun hp => ?_⟩ | refine grd_dec.2 ⟨fun hp => ?_, fun hp => ?_⟩ | refine grd_bool.2 ⟨fun hp => ?_, fun hp => ?_⟩ | refine condG_not.2 ⟨fun hp => ?_, fun hp => ?_⟩ | refine condG_beq.2 ⟨fun hp => ?_, fun hp => ?_⟩ | refine condG_dec.2 ⟨fun hp => ?_, fun hp => ?_⟩ | refine condG_bool.2 ⟨fun hp => ?_, fun hp => ?_⟩ | (refine (goes_draw0 rfl (by decide +kernel)).2 ?_; have hp := True.intro) | (refine (goes_drawM _ rfl (by decide +kernel)).2 ?_; have hp := True.intro)) <;> simp only [hp, w0, z0, Phi_laws_FnExactSearch, T_laws_FnExactSearch, spEqBox, spEqKeyS, spEqRangeS, spHeldRangeS, spMarkBox, spMarkKeyS, spMarkRangeS, spSearch, spSzBox, spSzKeyS, spToBox, spToKeyS, go_sem])
    simp only [fin_mk, finV, resL, resV1, allUse, oneOrTup, List.take, List.drop, List.take_succ_cons, List.take_zero, List.drop_succ_cons, List.drop_zero, Phi_laws_FnExactSearch, T_laws_FnExactSearch, spEqBox, spEqKeyS, spEqRangeS, spHeldRangeS, spMarkBox, spMarkKeyS, spMarkRangeS, spSearch, spSzBox, spSzKeyS, spToBox, spToKeyS, go_sem]
    rw [← hr]
  have n0 : ¬ (Box.sz aB (1048576)) < 0 := Int.not_lt.2 z0
  have u0 : (Box.sz aB (1048576)) ≤ 4611686018427387904 := by omega
  have v0 : (Box.sz aB (1048576)) ≤ ((1048576 : Nat) : Int) := by omega
  have l0 : aB.le 4194304 := Box.le_mono _ _ _ (by decide) x0
  have z1 : szLL Key.sz aKeys (Box.sz aB (1048576)) = -1 ∨ (0 ≤ szLL Key.sz aKeys (Box.sz aB (1048576)) ∧ szLL Key.sz aKeys (Box.sz aB (1048576)) ≤ Box.sz aB (1048576) ∧ _) := szLL_ok Key.sz_ok aKeys (Box.sz aB (1048576)) 1048576 z0 v0
  rcases z1 with z1 | ⟨z1, y1, x1⟩
  · simp only [w0, z0, n0, u0, l0, w1, z1, Phi_laws_FnExactSearch, T_laws_FnExactSearch, spEqBox, spEqKeyS, spEqRangeS, spHeldRangeS, spMarkBox, spMarkKeyS, spMarkRangeS, spSearch, spSzBox, spSzKeyS, spToBox, spToKeyS, go_sem]
    repeat' ((first | refine after_iteT.2 ⟨fun hp => ?_, fun hp => ?_⟩ | refine after_iteF.2 ⟨fun hp => ?_, fun hp => ?_⟩ | refine after_ite.2 ⟨fun hp => ?_, fun hp => ?_⟩ | refine grd_not.2 ⟨fun hp => ?_, fun hp => ?_⟩ | refine grd_beq.2 ⟨fun hp => ?_, fun hp => ?_⟩ | refine grd_dec.2 ⟨fun hp => ?_, fun hp => ?_⟩ | refine grd_bool.2 ⟨fun hp => ?_, fun hp => ?_⟩ | refine condG_not.2 ⟨fun hp => ?_, fun hp => ?_⟩ | refine condG_beq.2 ⟨fun hp => ?_, fun hp => ?_⟩ | refine condG_dec.2 ⟨fun hp => ?_, fun hp => ?_⟩ | refine condG_bool.2 ⟨fun hp => ?_, fun hp => ?_⟩ | (refine (goes_draw0 rfl (by decide +kernel)).2 ?_; have hp := True.intro) | (refine (goes_drawM _ rfl (by decide +kernel)).2 ?_; have hp := True.intro)) <;> simp only [hp, w0, z0, n0, u0, l0, w1, z1, Phi_laws_FnExactSearch, T_laws_FnExactSearch, spEqBox, spEqKeyS, spEqRangeS, spHeldRangeS, spMarkBox, spMarkKeyS, spMarkRangeS, spSearch, spSzBox, spSzKeyS, spToBox, spToKeyS, go_sem])
    simp only [fin_mk, finV, resL, resV1, allUse, oneOrTup, List.take, List.drop, List.take_succ_cons, List.take_zero, List.drop_succ_cons, List.drop_zero, Phi_laws_FnExactSearch, T_laws_FnExactSearch, spEqBox, spEqKeyS, spEqRangeS, spHeldRangeS, spMarkBox, spMarkKeyS, spMarkRangeS, spSearch, spSzBox, spSzKeyS, spToBox, spToKeyS, go_sem]
    rw [← hr]
  have n1 : ¬ (szLL Key.sz aKeys (Box.sz aB (1048576))) < 0 := Int.not_lt.2 z1
  have u1 : (szLL Key.sz aKeys (Box.sz aB (1048576))) ≤ 4611686018427387904 := by omega
  have v1 : (szLL Key.sz aKeys (Box.sz aB (1048576))) ≤ ((1048576 : Nat) : Int) := by omega
  have l1' : leL Key.le 4194304 aKeys := leL.mono Key.le_mono (by decide) x1
  have l1 : aKeys.length ≤ 4194304 := l1'.1
  have q0 : (0 : Int) ≤ 1 := by decide
  have r0 : (search aB aKeys).length ≤ 4194304 := search_le aB aKeys
  have l0_Mails : aB.Mails.length ≤ 4194304 := l0.2.1.1
  have l0_Tombs : aB.Tombs.length ≤ 4194304 := l0.2.2.1
  have xe0 : (msBox (aB) (1)).2 = 1 + (4 : Nat) * (aB).Mails.length + (2 : Nat) * (aB).Tombs.length := msBox_k _ _
  have xp0 : 0 ≤ (msBox (aB) (1)).2 := by omega
  have xn0 : ¬ (msBox (aB) (1)).2 < 0 := by omega
  have xb0 : (msBox (aB) (1)).2 ≤ 288230376151711744 := by omega
  have xc0 : (msBox (aB) (1)).2 ≤ 1152921504606846976 := by omega
  have xe1 : (markL meKey (aKeys) ((msBox (aB) (1)).2)).2 = (msBox (aB) (1)).2 + (3 : Nat) * (aKeys).length := markL_k meKey_k _ _
  have xp1 : 0 ≤ (markL meKey (aKeys) ((msBox (aB) (1)).2)).2 := by omega
  have xn1 : ¬ (markL meKey (aKeys) ((msBox (aB) (1)).2)).2 < 0 := by omega
  have xb1 : (markL meKey (aKeys) ((msBox (aB) (1)).2)).2 ≤ 288230376151711744 := by omega
  have xc1 : (markL meKey (aKeys) ((msBox (aB) (1)).2)).2 ≤ 1152921504606846976 := by omega
  have me2 : (markL meRange (search aB aKeys) (1)).2 = 1 + (2 : Nat) * (search aB aKeys).length := markL_k meRange_k _ _
  have mp2 : 0 ≤ (markL meRange (search aB aKeys) (1)).2 := by omega
  have mn2 : ¬ (markL meRange (search aB aKeys) (1)).2 < 0 := by omega
  have mb2 : (markL meRange (search aB aKeys) (1)).2 ≤ 288230376151711744 := by omega
  have mc2 : (markL meRange (search aB aKeys) (1)).2 ≤ 1152921504606846976 := by omega
  simp only [w0, z0, n0, u0, l0, l1', w1, z1, n1, u1, l1, r0, l0_Mails, l0_Tombs, xp0, xn0, xb0, xc0, xp1, xn1, xb1, xc1, mp2, mn2, mb2, mc2, held_marked heRange_marked, markL_len, q0, Option.getD_some, bne_self_eq_false, Phi_laws_FnExactSearch, T_laws_FnExactSearch, spEqBox, spEqKeyS, spEqRangeS, spHeldRangeS, spMarkBox, spMarkKeyS, spMarkRangeS, spSearch, spSzBox, spSzKeyS, spToBox, spToKeyS, go_sem]
  repeat' ((first | refine after_iteT.2 ⟨fun hp => ?_, fun hp => ?_⟩ | refine after_iteF.2 ⟨fun hp => ?_, fun hp => ?_⟩ | refine after_ite.2 ⟨fun hp => ?_, fun hp => ?_⟩ | refine grd_not.2 ⟨fun hp => ?_, fun hp => ?_⟩ | refine grd_beq.2 ⟨fun hp => ?_, fun hp => ?_⟩ | refine grd_dec.2 ⟨fun hp => ?_, fun hp => ?_⟩ | refine grd_bool.2 ⟨fun hp => ?_, fun hp => ?_⟩ | refine condG_not.2 ⟨fun hp => ?_, fun hp => ?_⟩ | refine condG_beq.2 ⟨fun hp => ?_, fun hp => ?_⟩ | refine condG_dec.2 ⟨fun hp => ?_, fun hp => ?_⟩ | refine condG_bool.2 ⟨fun hp => ?_, fun hp => ?_⟩ | (refine (goes_draw0 rfl (by decide +kernel)).2 ?_; have hp := True.intro) | (refine (goes_drawM _ rfl (by decide +kernel)).2 ?_; have hp := True.intro)) <;> simp only [hp, w0, z0, n0, u0, l0, l1', w1, z1, n1, u1, l1, r0, l0_Mails, l0_Tombs, xp0, xn0, xb0, xc0, xp1, xn1, xb1, xc1, mp2, mn2, mb2, mc2, held_marked heRange_marked, markL_len, q0, Option.getD_some, bne_self_eq_false, Phi_laws_FnExactSearch, T_laws_FnExactSearch, spEqBox, spEqKeyS, spEqRangeS, spHeldRangeS, spMarkBox, spMarkKeyS, spMarkRangeS, spSearch, spSzBox, spSzKeyS, spToBox, spToKeyS, go_sem])
  all_goals (simp only [fin_mk, finV, resL, resV1, allUse, oneOrTup, List.take, List.drop, List.take_succ_cons, List.take_zero, List.drop_succ_cons, List.drop_zero, Phi_laws_FnExactSearch, T_laws_FnExactSearch, spEqBox, spEqKeyS, spEqRangeS, spHeldRangeS, spMarkBox, spMarkKeyS, spMarkRangeS, spSearch, spSzBox, spSzKeyS, spToBox, spToKeyS, go_sem]; rw [← hr])
set_option maxRecDepth 100000 in
theorem gbase (W : World) (hL : laidMetH Tryz.prog Rows.fnExactSearchRow.laid W) (hsh : W.ShapedOpen Tryz.prog) : GBase Tryz.prog spLaw.need W :=
  ⟨fun h => absurd (show "internal/strconv.uint64pow10" ∈ (["internal/bytealg.MaxLen"] : List String) from h) (by simp),
   fun _ => (let ⟨m, hm⟩ := Go.Proofs.cell_of_shapedOpen_int hsh (g := 0) (t := 3) (zero := #[.int .i64 0]) (of_decide_eq_true (by kernel_rfl)) (by kernel_rfl) rfl (by kernel_rfl) (by kernel_rfl) Tryz.underlying3; ⟨0, m, by kernel_rfl, hm⟩),
   fun h => absurd (show "strconv.ErrSyntax" ∈ (["internal/bytealg.MaxLen"] : List String) from h) (by simp),
   fun h => absurd (show "strconv.ErrRange" ∈ (["internal/bytealg.MaxLen"] : List String) from h) (by simp)⟩
set_option maxRecDepth 100000 in
theorem own : ownKnob Tryz.prog.godebug = none := by kernel_rfl
theorem lifted (os : Os) (started : os.Started) (H : Type) (enc : TypeId × Value → H) :
    ReturnsInHanded {} Tryz.checked os 3 .any (fun w args => (Rows.fnExactSearchSpec.pre enc Tryz.prog Tryz.f3 [] false w args ∧ laidMetH Tryz.prog Rows.fnExactSearchRow.laid w) ∧ sizedMet enc Tryz.prog Tryz.f3 (OpenSpec.ofChange Rows.fnExactSearchSpec) false w args) (Rows.fnExactSearchSpec.post enc Tryz.prog Tryz.f3 false true false false) :=
  laid_of_fn Rows.fnExactSearchRow.laid (C := Tryz.checked) (n := 4) own started (by kernel_rfl) Tryz.func3 rfl rfl
    (ChangeSpec.witness_shaped (enc := enc) (C := Tryz.checked) (os := os) (X := fun w _ => laidMetH Tryz.prog Rows.fnExactSearchRow.laid w) false (World.laidAll Tryz.prog os Rows.fnExactSearchRow.laid) #[.agg #[.string ByteArray.empty, .int .i64 0, .int .i64 0, .int .i64 0, .slice none 0 0, .slice none 0 0, .int .i64 0], .slice none 0 0] 8 (World.laidAll_os _ _ _)
      (World.shaped_of_ZipB (by kernel_rfl) (by kernel_rfl)) (by kernel_rfl) (by kernel_rfl) (by kernel_rfl)
      (by rw [MakeChecks.laidMetH_plain _ _ _ (by kernel_rfl)]; exact laidMet_laidAll _ (by kernel_rfl) (by kernel_rfl)))
    rfl rfl Tryz.underlying4 (by kernel_rfl) (by
      intro t ht
      simp only [Tryz.f3, List.mem_cons, List.not_mem_nil, or_false] at ht
      rcases ht with rfl | rfl <;> exact ⟨by kernel_rfl, by kernel_rfl, of_decide_eq_true (by kernel_rfl)⟩)
    (by
      intro ds hd
      match ds, hd with
      | [d0, d1], _ => rfl)
    gbase ok_laws_FnExactSearch rfl (by
      intro xs hl hw
      match xs, hl with
      | [x0, x1], _ =>
        obtain ⟨x0, rfl, c0⟩ := wf_Box (hw 0 25 x0 rfl rfl)
        obtain ⟨x1, rfl, c1, _, e1⟩ := wf_slice Tryz.underlying26 (hw 1 26 x1 rfl rfl)
        rw [Ty.bytes_64] at c1
        have c1 : x1.length ≤ 4611686018427387904 := by unfold reachBytes at c1; omega
        obtain ⟨x1, rfl, d1⟩ := list_enc (e := Key.enc) (R := Key.le 4611686018427387904) fun v hv => wf_Key (e1 v hv)
        rw [List.length_map] at c1
        simp only [spLaw, Box.dec_enc, Ty.cells_64, decL_Key, Option.bind_some]
        exact if_pos ⟨c0, ⟨c1, d1⟩⟩)
theorem over : Rows.fnExactSearchRow.holds Tryz.pinned (OpenSpec.ofChange Rows.fnExactSearchSpec) :=
  OpenClaim.holds_of_wide 3 Tryz.f3 rfl rfl rfl rfl rfl rfl rfl ⟨rfl, rfl, rfl, rfl, rfl⟩ rfl rfl rfl rfl rfl (by kernel_rfl) Tryz.func3 (by kernel_rfl)
    (of_decide_eq_true (by kernel_rfl)) (by unfold Func.isWrapper; first | (rw [if_pos (by decide +kernel)]; kernel_rfl) | (rw [if_neg (by decide +kernel)]; exact ⟨rfl, rfl⟩))
    (fun os started H enc _ => lifted os started H enc)
theorem card : Rows.FnExactSearchCardSaid :=
  Claim7.holds_tied_plain_at .later [] [.data, .pinned] true (true, "35cff9f74b4d87d84af1344dafb510cd0d0e9f6047870a6307e6679e12fe7dbe") true over (fun _ h => by cases h) (by kernel_rfl) (fun _ h => by cases h) fnExactSearch_row_tie rfl ⟨rfl, rfl⟩ (by kernel_rfl) rfl
    (fun f fn hf hfn => by
      obtain rfl : f = 3 := Option.some.inj ((show Tryz.prog.funcNamed "loop.example/g00247/laws.FnExactSearch" = some 3 by kernel_rfl).symm.trans hf) |>.symm
      obtain rfl : fn = Tryz.f3 := (Option.some.inj (Tryz.func3.symm.trans hfn)).symm
      exact ⟨by kernel_rfl, fun j t ht => by
        have hm : t ∈ Tryz.f3.params.toList := Array.mem_toList_iff.2 (Array.mem_of_getElem? ht)
        have hall : (Tryz.f3.params.toList.all fun u => !Tryz.prog.wantsStandIn u) = true := by kernel_rfl
        exact (show Tryz.prog.wantsStandIn t = false by simpa using List.all_eq_true.1 hall t hm)⟩)
    (by kernel_rfl)
end Go.Proofs.YtglldabpgobimaaGreatDoor.VSearch
namespace Go.Proofs.YtglldabpgobimaaGreatDoor
theorem fnExactSearch_holds : Rows.FnExactSearchCardSaid := VSearch.card
#print axioms fnExactSearch_holds
end Go.Proofs.YtglldabpgobimaaGreatDoor
