/- The law FnExactPutBox: the two functions that it calls answer alike, so it answers true. No condition. -/
import Derived.Test.YtgkjjgmjlldfmaaVLB
import Derived.Test.YtgkjjgmjlldfmaaVLN
import Derived.Test.YtgkjjgmjlldfmaaRows
import Derived.KernelRfl
namespace Go.Proofs.Ytgkjjgmjlldfmaa.VPutBox
open Go Go.VM Go.Proofs.Ytgkjjgmjlldfmaa.L
set_option maxRecDepth 100000
set_option maxHeartbeats 4000000
set_option linter.unusedSimpArgs false
set_option linter.unusedVariables false
theorem wf_Mail {n : Nat} {v : V} (h : WfV Try.prog (n + 2) 77 v) : ∃ x : Mail, v = x.enc ∧ x.le 4611686018427387904 := by
  obtain ⟨l, rfl, hl, hf⟩ := wf_fields Try.underlying77 h
  match l, hl with
  | [f0, f1, f2, f3], _ =>
    obtain ⟨f0, rfl, _⟩ := wf_int Try.underlying3 (hf 0 _ f0 rfl rfl)
    obtain ⟨f1, rfl, _⟩ := wf_int Try.underlying3 (hf 1 _ f1 rfl rfl)
    obtain ⟨f2, rfl, _⟩ := wf_int Try.underlying3 (hf 2 _ f2 rfl rfl)
    obtain ⟨f3, rfl, c3⟩ := wf_string Try.underlying9 (hf 3 _ f3 rfl rfl)
    have c3 : f3.length ≤ 4611686018427387904 := by unfold reachBytes at c3; omega
    exact ⟨⟨f0, f1, f2, f3⟩, by simp [Mail.enc], c3⟩
theorem wf_Tomb {n : Nat} {v : V} (h : WfV Try.prog (n + 2) 80 v) : ∃ x : Tomb, v = x.enc ∧ x.le 4611686018427387904 := by
  obtain ⟨l, rfl, hl, hf⟩ := wf_fields Try.underlying80 h
  match l, hl with
  | [f0, f1], _ =>
    obtain ⟨f0, rfl, _⟩ := wf_int Try.underlying3 (hf 0 _ f0 rfl rfl)
    obtain ⟨f1, rfl, _⟩ := wf_int Try.underlying3 (hf 1 _ f1 rfl rfl)
    exact ⟨⟨f0, f1⟩, by simp [Tomb.enc], trivial⟩
theorem wf_Box {n : Nat} {v : V} (h : WfV Try.prog (n + 4) 46 v) : ∃ x : Box, v = x.enc ∧ x.le 4611686018427387904 := by
  obtain ⟨l, rfl, hl, hf⟩ := wf_fields Try.underlying46 h
  match l, hl with
  | [f0, f1, f2, f3, f4, f5, f6], _ =>
    obtain ⟨f0, rfl, c0⟩ := wf_string Try.underlying9 (hf 0 _ f0 rfl rfl)
    have c0 : f0.length ≤ 4611686018427387904 := by unfold reachBytes at c0; omega
    obtain ⟨f1, rfl, _⟩ := wf_int Try.underlying3 (hf 1 _ f1 rfl rfl)
    obtain ⟨f2, rfl, _⟩ := wf_int Try.underlying3 (hf 2 _ f2 rfl rfl)
    obtain ⟨f3, rfl, _⟩ := wf_int Try.underlying3 (hf 3 _ f3 rfl rfl)
    obtain ⟨f4, rfl, c4, _, e4⟩ := wf_slice Try.underlying43 (hf 4 _ f4 rfl rfl)
    rw [Ty.bytes_77] at c4
    have c4 : f4.length ≤ 4611686018427387904 := by unfold reachBytes at c4; omega
    obtain ⟨f4, rfl, d4⟩ := list_enc (e := Mail.enc) (R := Mail.le 4611686018427387904) fun v hv => wf_Mail (e4 v hv)
    rw [List.length_map] at c4
    obtain ⟨f5, rfl, c5, _, e5⟩ := wf_slice Try.underlying44 (hf 5 _ f5 rfl rfl)
    rw [Ty.bytes_80] at c5
    have c5 : f5.length ≤ 4611686018427387904 := by unfold reachBytes at c5; omega
    obtain ⟨f5, rfl, d5⟩ := list_enc (e := Tomb.enc) (R := Tomb.le 4611686018427387904) fun v hv => wf_Tomb (e5 v hv)
    rw [List.length_map] at c5
    obtain ⟨f6, rfl, _⟩ := wf_int Try.underlying3 (hf 6 _ f6 rfl rfl)
    exact ⟨⟨f0, f1, f2, f3, f4, f5, f6⟩, by simp [Box.enc, Ty.cells_77, Ty.cells_80], ⟨c0, ⟨c4, d4⟩, ⟨c5, d5⟩⟩⟩
theorem wf_Store {n : Nat} {v : V} (h : WfV Try.prog (n + 6) 24 v) : ∃ x : Store, v = x.enc ∧ x.le 4611686018427387904 := by
  obtain ⟨l, rfl, hl, hf⟩ := wf_fields Try.underlying24 h
  match l, hl with
  | [f0, f1], _ =>
    obtain ⟨f0, rfl, c0, _, e0⟩ := wf_slice Try.underlying22 (hf 0 _ f0 rfl rfl)
    rw [Ty.bytes_46] at c0
    have c0 : f0.length ≤ 4611686018427387904 := by unfold reachBytes at c0; omega
    obtain ⟨f0, rfl, d0⟩ := list_enc (e := Box.enc) (R := Box.le 4611686018427387904) fun v hv => wf_Box (e0 v hv)
    rw [List.length_map] at c0
    obtain ⟨f1, rfl, _⟩ := wf_int Try.underlying3 (hf 1 _ f1 rfl rfl)
    exact ⟨⟨f0, f1⟩, by simp [Store.enc, Ty.cells_46], ⟨c0, d0⟩⟩
open Classical in
noncomputable def spLaw : VM.Spec := { modes := [.rd, .rd], run := fun | [aS', aB'] => (Store.dec aS').bind fun aS => (Box.dec aB').bind fun aB => if aS.le 4611686018427387904 ∧ aB.le 4611686018427387904 then some (.bool true, []) else none | _ => none, need := [] }
attribute [go_sem] spLaw
theorem spLaw_in {ins : List V} {r : V} {outs : List V} (h : spLaw.run ins = some (r, outs)) : ∃ (aS : Store) (aB : Box), ins = [Store.enc aS, Box.enc aB] ∧ (aS.le 4611686018427387904 ∧ aB.le 4611686018427387904) ∧ .bool true = r ∧ outs = [] := by
  unfold spLaw at h
  simp only at h
  split at h
  · rename_i aS' aB'
    simp only [Option.bind_eq_some_iff] at h
    obtain ⟨aS, h_aS, aB, h_aB, h⟩ := h
    split at h
    case isFalse => cases h
    rename_i hc
    simp only [Option.some.injEq, Prod.mk.injEq] at h
    obtain ⟨h1, h2⟩ := h
    have h_aS := Store.dec_some h_aS
    subst h_aS
    have h_aB := Box.dec_some h_aB
    subst h_aB
    exact ⟨aS, aB, rfl, hc, h1, h2.symm⟩
  · cases h
def T_laws_FnExactPutBox : Hints := ⟨fun i => if i = 8 then some [(1, 2), (0, 5), (1, 5), (2, 5), (3, 5), (4, 5)] else if i = 14 then some [(0, 2)] else if i = 16 then some [(0, 2)] else if i = 31 then some [(1, 2), (0, 5), (1, 5), (2, 5), (3, 5), (4, 5)] else none, fun _ => none, fun i => if i = 0 then some [2, 3] else if i = 1 then some [2, 3, 5] else if i = 2 then some [2, 3, 5] else if i = 3 then some [2, 3, 5, 18] else if i = 4 then some [4] else if i = 5 then some [2, 3, 5] else if i = 6 then some [2, 3, 23] else if i = 7 then some [4] else if i = 8 then some [2, 3, 6] else if i = 9 then some [2, 3, 6, 7] else if i = 10 then some [2, 3, 6, 7, 8] else if i = 11 then some [2, 3, 6, 7, 8, 9] else if i = 12 then some [2, 3, 6, 7, 8, 9, 39] else if i = 13 then some [4] else if i = 14 then some [2, 3, 6, 7, 8, 9, 44] else if i = 15 then some [4] else if i = 16 then some [2, 3, 6, 7, 8, 9, 49] else if i = 17 then some [4] else if i = 18 then some [2, 3, 6, 7, 8, 9, 10] else if i = 19 then some [2, 3, 6, 8, 9, 10] else if i = 20 then some [2, 3, 6, 9, 10] else if i = 21 then some [2, 3, 6, 9, 63] else if i = 22 then some [4] else if i = 23 then some [2, 3, 6, 9, 11] else if i = 24 then some [2, 3, 6, 9, 11] else if i = 25 then some [2, 3, 6, 9, 11, 12] else if i = 26 then some [2, 3, 6, 9, 11, 12] else if i = 27 then some [2, 3, 6, 9, 11, 12, 71] else if i = 28 then some [4] else if i = 29 then some [2, 3, 6, 9, 11, 74] else if i = 30 then some [4] else if i = 31 then some [6, 9, 11, 13] else if i = 32 then some [9, 11, 83] else if i = 33 then some [4] else if i = 34 then some [9, 11, 12] else if i = 35 then some [11, 12] else if i = 36 then some [11, 12, 88] else if i = 37 then some [4] else if i = 38 then some [91] else if i = 39 then some [4] else if i = 40 then some [4] else none, fun _ => none⟩
noncomputable def Phi_laws_FnExactPutBox : Tab := fun f => if f = 6 then some spSzStore else if f = 8 then some spToStore else if f = 11 then some spEqStore else if f = 12 then some spMarkStore else if f = 18 then some spSzBox else if f = 20 then some spToBox else if f = 10 then some spEqBox else if f = 13 then some spMarkBox else if f = 17 then some spHeldStore else if f = 19 then some spPutBox else if f = 21 then some spPutBox else none
attribute [go_sem] T_laws_FnExactPutBox Phi_laws_FnExactPutBox
theorem phi_laws_FnExactPutBox : ∀ f sp, Phi_laws_FnExactPutBox f = some sp → FnOk Try.prog f sp ∧ ∀ n ∈ sp.need, n ∈ ([] : List String) := by
  intro f sp h
  unfold Phi_laws_FnExactPutBox at h
  by_cases e : f = 6
  · rw [if_pos e] at h; cases h; rw [e]; exact ⟨ok_laws_szStore, (fun n (h : n ∈ ([] : List String)) => (nomatch h))⟩
  rw [if_neg e] at h
  by_cases e : f = 8
  · rw [if_pos e] at h; cases h; rw [e]; exact ⟨ok_laws_toStore, (fun n (h : n ∈ ([] : List String)) => (nomatch h))⟩
  rw [if_neg e] at h
  by_cases e : f = 11
  · rw [if_pos e] at h; cases h; rw [e]; exact ⟨ok_laws_eqStore, (fun n (h : n ∈ ([] : List String)) => (nomatch h))⟩
  rw [if_neg e] at h
  by_cases e : f = 12
  · rw [if_pos e] at h; cases h; rw [e]; exact ⟨ok_laws_markStore, (fun n (h : n ∈ ([] : List String)) => (nomatch h))⟩
  rw [if_neg e] at h
  by_cases e : f = 18
  · rw [if_pos e] at h; cases h; rw [e]; exact ⟨ok_laws_szBox, (fun n (h : n ∈ ([] : List String)) => (nomatch h))⟩
  rw [if_neg e] at h
  by_cases e : f = 20
  · rw [if_pos e] at h; cases h; rw [e]; exact ⟨ok_laws_toBox, (fun n (h : n ∈ ([] : List String)) => (nomatch h))⟩
  rw [if_neg e] at h
  by_cases e : f = 10
  · rw [if_pos e] at h; cases h; rw [e]; exact ⟨ok_laws_eqBox, (fun n (h : n ∈ ([] : List String)) => (nomatch h))⟩
  rw [if_neg e] at h
  by_cases e : f = 13
  · rw [if_pos e] at h; cases h; rw [e]; exact ⟨ok_laws_markBox, (fun n (h : n ∈ ([] : List String)) => (nomatch h))⟩
  rw [if_neg e] at h
  by_cases e : f = 17
  · rw [if_pos e] at h; cases h; rw [e]; exact ⟨ok_laws_heldStore, (fun n (h : n ∈ ([] : List String)) => (nomatch h))⟩
  rw [if_neg e] at h
  by_cases e : f = 19
  · rw [if_pos e] at h; cases h; rw [e]; exact ⟨ok_spec_PutBox, (fun n (h : n ∈ ([] : List String)) => (nomatch h))⟩
  rw [if_neg e] at h
  by_cases e : f = 21
  · rw [if_pos e] at h; cases h; rw [e]; exact ⟨ok_impl_PutBox, (fun n (h : n ∈ ([] : List String)) => (nomatch h))⟩
  rw [if_neg e] at h
  cases h
theorem ok_laws_FnExactPutBox : FnOk Try.prog 5 spLaw := by
  refine fn_ok (Φ := Phi_laws_FnExactPutBox) (T := T_laws_FnExactPutBox) phi_laws_FnExactPutBox mixed Try.func5 rfl rfl rfl (by decide) ?_
  intro ins r outs hr hl
  clear hl
  have hs := spLaw_in hr
  clear hr
  obtain ⟨aS, aB, rfl, hc, hr, rfl⟩ := hs
  simp only [spLaw, Try.f5, Go.VM.initS]
  obtain ⟨w0, w1⟩ := hc
  have z0 : Store.sz aS (1048576) = -1 ∨ (0 ≤ Store.sz aS (1048576) ∧ Store.sz aS (1048576) ≤ 1048576 ∧ _) := Store.sz_ok aS (1048576) 1048576 (by decide) (by decide)
  rcases z0 with z0 | ⟨z0, y0, x0⟩
  · simp only [w0, z0, go_sem]
    repeat' ((first | ((first | apply qa | apply qb | apply qc | apply qd | apply qe | apply qf | apply qg | apply qh | apply qi | apply qj | apply qk) <;> intro hp) | ((first | refine ql rfl rfl (by decide +kernel) ?_ | refine qm _ rfl rfl (by decide +kernel) ?_ | refine goes_opn rfl ?_ | refine goes_opnD rfl rfl (by decide +kernel) ?_) <;> have hp := True.intro)) <;> simp only [hp, w0, z0, go_sem])
    simp only [fin_mk, finV, resL, resV1, resIn, endA, listIn, Option.some_or, Option.none_or, oneOrTup, go_sem]
    rw [← hr]
  have n0 : ¬ (Store.sz aS (1048576)) < 0 := Int.not_lt.2 z0
  have u0 : (Store.sz aS (1048576)) ≤ 4611686018427387904 := by omega
  have v0 : (Store.sz aS (1048576)) ≤ ((1048576 : Nat) : Int) := by omega
  have l0 : aS.le 4194304 := Store.le_mono _ _ _ (by decide) x0
  have z1 : Box.sz aB (Store.sz aS (1048576)) = -1 ∨ (0 ≤ Box.sz aB (Store.sz aS (1048576)) ∧ Box.sz aB (Store.sz aS (1048576)) ≤ Store.sz aS (1048576) ∧ _) := Box.sz_ok aB (Store.sz aS (1048576)) 1048576 z0 v0
  rcases z1 with z1 | ⟨z1, y1, x1⟩
  · simp only [w0, z0, n0, u0, l0, w1, z1, go_sem]
    repeat' ((first | ((first | apply qa | apply qb | apply qc | apply qd | apply qe | apply qf | apply qg | apply qh | apply qi | apply qj | apply qk) <;> intro hp) | ((first | refine ql rfl rfl (by decide +kernel) ?_ | refine qm _ rfl rfl (by decide +kernel) ?_ | refine goes_opn rfl ?_ | refine goes_opnD rfl rfl (by decide +kernel) ?_) <;> have hp := True.intro)) <;> simp only [hp, w0, z0, n0, u0, l0, w1, z1, go_sem])
    simp only [fin_mk, finV, resL, resV1, resIn, endA, listIn, Option.some_or, Option.none_or, oneOrTup, go_sem]
    rw [← hr]
  have n1 : ¬ (Box.sz aB (Store.sz aS (1048576))) < 0 := Int.not_lt.2 z1
  have u1 : (Box.sz aB (Store.sz aS (1048576))) ≤ 4611686018427387904 := by omega
  have v1 : (Box.sz aB (Store.sz aS (1048576))) ≤ ((1048576 : Nat) : Int) := by omega
  have l1 : aB.le 4194304 := Box.le_mono _ _ _ (by decide) x1
  have q0 : (0 : Int) ≤ 1 := by decide
  have r0 : (putBox aS aB).le 4194304 := putBox_le l0 l1
  have r0_Boxes : (putBox aS aB).Boxes.length ≤ 4194304 := r0.1
  have l0_Boxes : aS.Boxes.length ≤ 4194304 := l0.1
  have l1_Mails : aB.Mails.length ≤ 4194304 := l1.2.1.1
  have l1_Tombs : aB.Tombs.length ≤ 4194304 := l1.2.2.1
  have xL0 : leL Box.ln 4194304 (aS).Boxes := boxes_ln l0
  have xM0 : (aS).Boxes.length ≤ 4194304 := xL0.1
  have xe0 : (markL meBox (aS).Boxes (1)).2 ≤ 1 + 25165829 * (aS).Boxes.length := markBoxS_up xL0 _
  have xg0 : 1 ≤ (markL meBox (aS).Boxes (1)).2 := markBoxS_le _ _
  have xp0 : 0 ≤ (markL meBox (aS).Boxes (1)).2 := by omega
  have xn0 : ¬ (markL meBox (aS).Boxes (1)).2 < 0 := by omega
  have xb0 : (markL meBox (aS).Boxes (1)).2 ≤ 288230376151711744 := by omega
  have xc0 : (markL meBox (aS).Boxes (1)).2 ≤ 1152921504606846976 := by omega
  have xd0 : (markL meBox (aS).Boxes (1)).2 ≤ 144115188075855872 := by omega
  have xe1 : (msBox (aB) ((markL meBox (aS).Boxes (1)).2)).2 = (markL meBox (aS).Boxes (1)).2 + (4 : Nat) * (aB).Mails.length + (2 : Nat) * (aB).Tombs.length := msBox_k _ _
  have xp1 : 0 ≤ (msBox (aB) ((markL meBox (aS).Boxes (1)).2)).2 := by omega
  have xn1 : ¬ (msBox (aB) ((markL meBox (aS).Boxes (1)).2)).2 < 0 := by omega
  have xb1 : (msBox (aB) ((markL meBox (aS).Boxes (1)).2)).2 ≤ 288230376151711744 := by omega
  have xc1 : (msBox (aB) ((markL meBox (aS).Boxes (1)).2)).2 ≤ 1152921504606846976 := by omega
  have xd1 : (msBox (aB) ((markL meBox (aS).Boxes (1)).2)).2 ≤ 144115188075855872 := by omega
  have mL2 : leL Box.ln 4194304 (putBox aS aB).Boxes := boxes_ln r0
  have mM2 : (putBox aS aB).Boxes.length ≤ 4194304 := mL2.1
  have me2 : (markL meBox (putBox aS aB).Boxes (1)).2 ≤ 1 + 25165829 * (putBox aS aB).Boxes.length := markBoxS_up mL2 _
  have mg2 : 1 ≤ (markL meBox (putBox aS aB).Boxes (1)).2 := markBoxS_le _ _
  have mH2 : leL Box.ln 4194304 (markL meBox (putBox aS aB).Boxes (1)).1 := boxes_lnm mL2
  have mp2 : 0 ≤ (markL meBox (putBox aS aB).Boxes (1)).2 := by omega
  have mn2 : ¬ (markL meBox (putBox aS aB).Boxes (1)).2 < 0 := by omega
  have mb2 : (markL meBox (putBox aS aB).Boxes (1)).2 ≤ 288230376151711744 := by omega
  have mc2 : (markL meBox (putBox aS aB).Boxes (1)).2 ≤ 1152921504606846976 := by omega
  have md2 : (markL meBox (putBox aS aB).Boxes (1)).2 ≤ 144115188075855872 := by omega
  simp only [w0, z0, n0, u0, l0, w1, z1, n1, u1, l1, r0, r0_Boxes, l0_Boxes, l1_Mails, l1_Tombs, xL0, xp0, xn0, xb0, xc0, xd0, xp1, xn1, xb1, xc1, xd1, mL2, mH2, markL_again meBox_again, mp2, mn2, mb2, mc2, md2, q0, Option.getD_some, bne_self_eq_false, go_sem]
  repeat' ((first | ((first | apply qa | apply qb | apply qc | apply qd | apply qe | apply qf | apply qg | apply qh | apply qi | apply qj | apply qk) <;> intro hp) | ((first | refine ql rfl rfl (by decide +kernel) ?_ | refine qm _ rfl rfl (by decide +kernel) ?_ | refine goes_opn rfl ?_ | refine goes_opnD rfl rfl (by decide +kernel) ?_) <;> have hp := True.intro)) <;> simp only [hp, w0, z0, n0, u0, l0, w1, z1, n1, u1, l1, r0, r0_Boxes, l0_Boxes, l1_Mails, l1_Tombs, xL0, xp0, xn0, xb0, xc0, xd0, xp1, xn1, xb1, xc1, xd1, mL2, mH2, markL_again meBox_again, mp2, mn2, mb2, mc2, md2, q0, Option.getD_some, bne_self_eq_false, go_sem])
  all_goals (simp only [fin_mk, finV, resL, resV1, resIn, endA, listIn, Option.some_or, Option.none_or, oneOrTup, go_sem]; rw [← hr])
set_option maxRecDepth 100000 in
theorem own : ownKnob Try.prog.godebug = none := by kernel_rfl
theorem lifted (os : Os) (started : os.Started) (H : Type) (enc : TypeId × Value → H) :
    ReturnsInHanded {} Try.checked os 5 .any (Rows.fnExactPutBoxSpec.pre6 enc Try.prog Try.f5 Rows.fnExactPutBoxRow.domain false) (Rows.fnExactPutBoxSpec.post enc Try.prog Try.f5 false true false false) :=
  law_of_fn (C := Try.checked) (n := 6) own started (by kernel_rfl) Try.func5 rfl rfl
    (ChangeSpec.witness6 (enc := enc) (C := Try.checked) false ⟨#[], #[.agg #[.slice none 0 0, .int .i64 0], .agg #[.string ByteArray.empty, .int .i64 0, .int .i64 0, .int .i64 0, .slice none 0 0, .slice none 0 0, .int .i64 0]], []⟩ 8 (by kernel_rfl) (by kernel_rfl) (by kernel_rfl) (by kernel_rfl))
    rfl rfl Try.underlying4 (by kernel_rfl) (by
      intro t ht
      simp only [Try.f5, List.mem_cons, List.not_mem_nil, or_false] at ht
      rcases ht with rfl | rfl <;> exact ⟨by kernel_rfl, by kernel_rfl, of_decide_eq_true (by kernel_rfl)⟩)
    (by
      intro ds hd
      match ds, hd with
      | [d0, d1], _ => rfl)
    rfl ok_laws_FnExactPutBox rfl (by
      intro xs hl hw
      match xs, hl with
      | [x0, x1], _ =>
        obtain ⟨x0, rfl, c0⟩ := wf_Store (hw 0 24 x0 rfl rfl)
        obtain ⟨x1, rfl, c1⟩ := wf_Box (hw 1 46 x1 rfl rfl)
        simp only [spLaw, Store.dec_enc, Box.dec_enc, Option.bind_some]
        exact if_pos ⟨c0, c1⟩)
theorem over : Rows.fnExactPutBoxRow.holds Try.pinned (OpenSpec.ofChange Rows.fnExactPutBoxSpec) :=
  OpenClaim.holds_of_wide 5 Try.f5 rfl rfl rfl rfl rfl rfl rfl ⟨rfl, rfl, rfl, rfl, rfl⟩ rfl rfl rfl rfl rfl (by kernel_rfl) Try.func5 (by kernel_rfl)
    (of_decide_eq_true (by kernel_rfl)) (by unfold Func.isWrapper; first | (rw [if_pos (by decide +kernel)]; kernel_rfl) | (rw [if_neg (by decide +kernel)]; exact ⟨rfl, rfl⟩))
    (fun os started H enc _ => lifted os started H enc)
end Go.Proofs.Ytgkjjgmjlldfmaa.VPutBox
namespace Go.Proofs.Ytgkjjgmjlldfmaa
theorem fnExactPutBox_holds : Rows.FnExactPutBoxSaid := VPutBox.over
#print axioms fnExactPutBox_holds
end Go.Proofs.Ytgkjjgmjlldfmaa
