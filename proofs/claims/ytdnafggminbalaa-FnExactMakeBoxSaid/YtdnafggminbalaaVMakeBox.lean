/- The law FnExactMakeBox: the two functions that it calls answer alike, so it answers true. No condition. -/
import Derived.Test.YtdnafggminbalaaVLB
import Derived.Test.YtdnafggminbalaaVLMB
import Derived.Test.YtdnafggminbalaaRows
import Derived.KernelRfl
namespace Go.Proofs.Ytdnafggminbalaa.VMakeBox
open Go Go.VM Go.Proofs.Ytdnafggminbalaa.L
set_option maxRecDepth 100000
set_option maxHeartbeats 4000000
set_option linter.unusedSimpArgs false
set_option linter.unusedVariables false
theorem wf_Mail {n : Nat} {v : V} (h : WfV Try.prog (n + 2) 81 v) : ∃ x : Mail, v = x.enc ∧ x.le 4611686018427387904 := by
  obtain ⟨l, rfl, hl, hf⟩ := wf_fields Try.underlying81 h
  match l, hl with
  | [f0, f1, f2, f3], _ =>
    obtain ⟨f0, rfl, _⟩ := wf_int Try.underlying3 (hf 0 _ f0 rfl rfl)
    obtain ⟨f1, rfl, _⟩ := wf_int Try.underlying3 (hf 1 _ f1 rfl rfl)
    obtain ⟨f2, rfl, _⟩ := wf_int Try.underlying3 (hf 2 _ f2 rfl rfl)
    obtain ⟨f3, rfl, c3⟩ := wf_string Try.underlying9 (hf 3 _ f3 rfl rfl)
    have c3 : f3.length ≤ 4611686018427387904 := by unfold reachBytes at c3; omega
    exact ⟨⟨f0, f1, f2, f3⟩, by simp [Mail.enc], c3⟩
theorem wf_Tomb {n : Nat} {v : V} (h : WfV Try.prog (n + 2) 84 v) : ∃ x : Tomb, v = x.enc ∧ x.le 4611686018427387904 := by
  obtain ⟨l, rfl, hl, hf⟩ := wf_fields Try.underlying84 h
  match l, hl with
  | [f0, f1], _ =>
    obtain ⟨f0, rfl, _⟩ := wf_int Try.underlying3 (hf 0 _ f0 rfl rfl)
    obtain ⟨f1, rfl, _⟩ := wf_int Try.underlying3 (hf 1 _ f1 rfl rfl)
    exact ⟨⟨f0, f1⟩, by simp [Tomb.enc], trivial⟩
theorem wf_Box {n : Nat} {v : V} (h : WfV Try.prog (n + 4) 56 v) : ∃ x : Box, v = x.enc ∧ x.le 4611686018427387904 := by
  obtain ⟨l, rfl, hl, hf⟩ := wf_fields Try.underlying56 h
  match l, hl with
  | [f0, f1, f2, f3, f4, f5, f6], _ =>
    obtain ⟨f0, rfl, c0⟩ := wf_string Try.underlying9 (hf 0 _ f0 rfl rfl)
    have c0 : f0.length ≤ 4611686018427387904 := by unfold reachBytes at c0; omega
    obtain ⟨f1, rfl, _⟩ := wf_int Try.underlying3 (hf 1 _ f1 rfl rfl)
    obtain ⟨f2, rfl, _⟩ := wf_int Try.underlying3 (hf 2 _ f2 rfl rfl)
    obtain ⟨f3, rfl, _⟩ := wf_int Try.underlying3 (hf 3 _ f3 rfl rfl)
    obtain ⟨f4, rfl, c4, _, e4⟩ := wf_slice Try.underlying53 (hf 4 _ f4 rfl rfl)
    rw [Ty.bytes_81] at c4
    have c4 : f4.length ≤ 4611686018427387904 := by unfold reachBytes at c4; omega
    obtain ⟨f4, rfl, d4⟩ := list_enc (e := Mail.enc) (R := Mail.le 4611686018427387904) fun v hv => wf_Mail (e4 v hv)
    rw [List.length_map] at c4
    obtain ⟨f5, rfl, c5, _, e5⟩ := wf_slice Try.underlying54 (hf 5 _ f5 rfl rfl)
    rw [Ty.bytes_84] at c5
    have c5 : f5.length ≤ 4611686018427387904 := by unfold reachBytes at c5; omega
    obtain ⟨f5, rfl, d5⟩ := list_enc (e := Tomb.enc) (R := Tomb.le 4611686018427387904) fun v hv => wf_Tomb (e5 v hv)
    rw [List.length_map] at c5
    obtain ⟨f6, rfl, _⟩ := wf_int Try.underlying3 (hf 6 _ f6 rfl rfl)
    exact ⟨⟨f0, f1, f2, f3, f4, f5, f6⟩, by simp [Box.enc, Ty.cells_81, Ty.cells_84], ⟨c0, ⟨c4, d4⟩, ⟨c5, d5⟩⟩⟩
theorem wf_Store {n : Nat} {v : V} (h : WfV Try.prog (n + 6) 24 v) : ∃ x : Store, v = x.enc ∧ x.le 4611686018427387904 := by
  obtain ⟨l, rfl, hl, hf⟩ := wf_fields Try.underlying24 h
  match l, hl with
  | [f0, f1], _ =>
    obtain ⟨f0, rfl, c0, _, e0⟩ := wf_slice Try.underlying22 (hf 0 _ f0 rfl rfl)
    rw [Ty.bytes_56] at c0
    have c0 : f0.length ≤ 4611686018427387904 := by unfold reachBytes at c0; omega
    obtain ⟨f0, rfl, d0⟩ := list_enc (e := Box.enc) (R := Box.le 4611686018427387904) fun v hv => wf_Box (e0 v hv)
    rw [List.length_map] at c0
    obtain ⟨f1, rfl, _⟩ := wf_int Try.underlying3 (hf 1 _ f1 rfl rfl)
    exact ⟨⟨f0, f1⟩, by simp [Store.enc, Ty.cells_56], ⟨c0, d0⟩⟩
open Classical in
noncomputable def spLaw : VM.Spec := { modes := [.rd, .rd], run := fun | [aS', .str aName] => (Store.dec aS').bind fun aS => if aS.le 4611686018427387904 ∧ aName.length ≤ 4611686018427387904 then some (.bool true, []) else none | _ => none, need := [] }
attribute [go_sem] spLaw
theorem spLaw_in {ins : List V} {r : V} {outs : List V} (h : spLaw.run ins = some (r, outs)) : ∃ (aS : Store) (aName : (List UInt8)), ins = [Store.enc aS, .str aName] ∧ (aS.le 4611686018427387904 ∧ aName.length ≤ 4611686018427387904) ∧ .bool true = r ∧ outs = [] := by
  unfold spLaw at h
  simp only at h
  split at h
  · rename_i aS' aName
    simp only [Option.bind_eq_some_iff] at h
    obtain ⟨aS, h_aS, h⟩ := h
    split at h
    case isFalse => cases h
    rename_i hc
    simp only [Option.some.injEq, Prod.mk.injEq] at h
    obtain ⟨h1, h2⟩ := h
    have h_aS := Store.dec_some h_aS
    subst h_aS
    exact ⟨aS, aName, rfl, hc, h1, h2.symm⟩
  · cases h
def T_laws_FnExactMakeBox : Hints := ⟨fun i => if i = 12 then some [(0, 2)] else none, fun _ => none, fun i => if i = 0 then some [1, 2] else if i = 1 then some [1, 2, 18] else if i = 2 then some [4] else if i = 3 then some [1, 2, 5] else if i = 4 then some [1, 2, 5] else if i = 5 then some [1, 2, 23] else if i = 6 then some [4] else if i = 7 then some [1, 2, 6, 7] else if i = 8 then some [1, 2, 6, 7, 8] else if i = 9 then some [1, 2, 6, 7, 8, 9, 10] else if i = 10 then some [1, 2, 6, 7, 8, 9, 10, 47] else if i = 11 then some [4] else if i = 12 then some [1, 2, 6, 7, 8, 9, 10, 52] else if i = 13 then some [4] else if i = 14 then some [1, 2, 6, 7, 8, 9, 10, 11] else if i = 15 then some [1, 2, 6, 7, 9, 10, 11] else if i = 16 then some [1, 2, 6, 7, 9, 68] else if i = 17 then some [4] else if i = 18 then some [1, 2, 6, 7, 9, 12] else if i = 19 then some [1, 2, 6, 7, 9, 12] else if i = 20 then some [1, 2, 6, 7, 9, 12, 13] else if i = 21 then some [1, 2, 6, 7, 9, 12, 13] else if i = 22 then some [1, 2, 6, 7, 9, 12, 13, 76] else if i = 23 then some [4] else if i = 24 then some [1, 2, 6, 7, 9, 12, 79] else if i = 25 then some [4] else if i = 26 then some [6, 7, 9, 12, 14, 15] else if i = 27 then some [9, 12, 95] else if i = 28 then some [4] else if i = 29 then some [9, 12, 13] else if i = 30 then some [12, 13] else if i = 31 then some [12, 13, 100] else if i = 32 then some [4] else if i = 33 then some [103] else if i = 34 then some [4] else if i = 35 then some [4] else none, fun _ => none⟩
noncomputable def Phi_laws_FnExactMakeBox : Tab := fun f => if f = 5 then some spSzStore else if f = 7 then some spToStore else if f = 9 then some spEqStore else if f = 10 then some spMarkStore else if f = 11 then some spHeldStore else if f = 12 then some spMakeBox else if f = 13 then some spMakeBox else none
attribute [go_sem] T_laws_FnExactMakeBox Phi_laws_FnExactMakeBox
theorem phi_laws_FnExactMakeBox : ∀ f sp, Phi_laws_FnExactMakeBox f = some sp → FnOk Try.prog f sp ∧ ∀ n ∈ sp.need, n ∈ ([] : List String) := by
  intro f sp h
  unfold Phi_laws_FnExactMakeBox at h
  by_cases e : f = 5
  · rw [if_pos e] at h; cases h; rw [e]; exact ⟨ok_laws_szStore, (fun n (h : n ∈ ([] : List String)) => (nomatch h))⟩
  rw [if_neg e] at h
  by_cases e : f = 7
  · rw [if_pos e] at h; cases h; rw [e]; exact ⟨ok_laws_toStore, (fun n (h : n ∈ ([] : List String)) => (nomatch h))⟩
  rw [if_neg e] at h
  by_cases e : f = 9
  · rw [if_pos e] at h; cases h; rw [e]; exact ⟨ok_laws_eqStore, (fun n (h : n ∈ ([] : List String)) => (nomatch h))⟩
  rw [if_neg e] at h
  by_cases e : f = 10
  · rw [if_pos e] at h; cases h; rw [e]; exact ⟨ok_laws_markStore, (fun n (h : n ∈ ([] : List String)) => (nomatch h))⟩
  rw [if_neg e] at h
  by_cases e : f = 11
  · rw [if_pos e] at h; cases h; rw [e]; exact ⟨ok_laws_heldStore, (fun n (h : n ∈ ([] : List String)) => (nomatch h))⟩
  rw [if_neg e] at h
  by_cases e : f = 12
  · rw [if_pos e] at h; cases h; rw [e]; exact ⟨ok_spec_MakeBox, (fun n (h : n ∈ ([] : List String)) => (nomatch h))⟩
  rw [if_neg e] at h
  by_cases e : f = 13
  · rw [if_pos e] at h; cases h; rw [e]; exact ⟨ok_impl_MakeBox, (fun n (h : n ∈ ([] : List String)) => (nomatch h))⟩
  rw [if_neg e] at h
  cases h
theorem ok_laws_FnExactMakeBox : FnOk Try.prog 4 spLaw := by
  refine fn_ok (Φ := Phi_laws_FnExactMakeBox) (T := T_laws_FnExactMakeBox) phi_laws_FnExactMakeBox mixed Try.func4 rfl rfl rfl (by decide) ?_
  intro ins r outs hr hl
  clear hl
  have hs := spLaw_in hr
  clear hr
  obtain ⟨aS, aName, rfl, hc, hr, rfl⟩ := hs
  simp only [spLaw, Try.f4, Go.VM.initS]
  obtain ⟨w0, w1⟩ := hc
  by_cases s1 : (1048576 : Int) < aName.length
  · simp only [s1, go_sem]
    repeat' ((first | ((first | apply qa | apply qb | apply qc | apply qd | apply qe | apply qf | apply qg | apply qh | apply qi | apply qj | apply qk) <;> intro hp) | ((first | refine ql rfl rfl (by decide +kernel) ?_ | refine qm _ rfl rfl (by decide +kernel) ?_) <;> have hp := True.intro)) <;> simp only [hp, s1, go_sem])
    simp only [fin_mk, finV, resL, resV1, resIn, endA, listIn, Option.some_or, Option.none_or, oneOrTup, go_sem]
    rw [← hr]
  have b1 : aName.length ≤ 4194304 := by omega
  have z0 : Store.sz aS (1048576) = -1 ∨ (0 ≤ Store.sz aS (1048576) ∧ Store.sz aS (1048576) ≤ 1048576 ∧ _) := Store.sz_ok aS (1048576) 1048576 (by decide) (by decide)
  rcases z0 with z0 | ⟨z0, y0, x0⟩
  · simp only [s1, b1, w0, z0, go_sem]
    repeat' ((first | ((first | apply qa | apply qb | apply qc | apply qd | apply qe | apply qf | apply qg | apply qh | apply qi | apply qj | apply qk) <;> intro hp) | ((first | refine ql rfl rfl (by decide +kernel) ?_ | refine qm _ rfl rfl (by decide +kernel) ?_) <;> have hp := True.intro)) <;> simp only [hp, s1, b1, w0, z0, go_sem])
    simp only [fin_mk, finV, resL, resV1, resIn, endA, listIn, Option.some_or, Option.none_or, oneOrTup, go_sem]
    rw [← hr]
  have n0 : ¬ (Store.sz aS (1048576)) < 0 := Int.not_lt.2 z0
  have u0 : (Store.sz aS (1048576)) ≤ 4611686018427387904 := by omega
  have v0 : (Store.sz aS (1048576)) ≤ ((1048576 : Nat) : Int) := by omega
  have l0 : aS.le 4194304 := Store.le_mono _ _ _ (by decide) x0
  have q0 : (0 : Int) ≤ 1 := by decide
  have r0 : ((makeBox aS aName).1).le 4194304 := makeBox_le l0
  have r0_Boxes : ((makeBox aS aName).1).Boxes.length ≤ 4194304 := r0.1
  have l0_Boxes : aS.Boxes.length ≤ 4194304 := l0.1
  have xL0 : leL Box.ln 4194304 (aS).Boxes := boxes_ln l0
  have xM0 : (aS).Boxes.length ≤ 4194304 := xL0.1
  have xe0 : (markL meBox (aS).Boxes (1)).2 ≤ 1 + 25165829 * (aS).Boxes.length := markBoxS_up xL0 _
  have xg0 : 1 ≤ (markL meBox (aS).Boxes (1)).2 := markBoxS_le _ _
  have xp0 : 0 ≤ (markL meBox (aS).Boxes (1)).2 := by omega
  have xn0 : ¬ (markL meBox (aS).Boxes (1)).2 < 0 := by omega
  have xb0 : (markL meBox (aS).Boxes (1)).2 ≤ 288230376151711744 := by omega
  have xc0 : (markL meBox (aS).Boxes (1)).2 ≤ 1152921504606846976 := by omega
  have xd0 : (markL meBox (aS).Boxes (1)).2 ≤ 144115188075855872 := by omega
  have mL1 : leL Box.ln 4194304 ((makeBox aS aName).1).Boxes := boxes_ln r0
  have mM1 : ((makeBox aS aName).1).Boxes.length ≤ 4194304 := mL1.1
  have me1 : (markL meBox ((makeBox aS aName).1).Boxes (1)).2 ≤ 1 + 25165829 * ((makeBox aS aName).1).Boxes.length := markBoxS_up mL1 _
  have mg1 : 1 ≤ (markL meBox ((makeBox aS aName).1).Boxes (1)).2 := markBoxS_le _ _
  have mH1 : leL Box.ln 4194304 (markL meBox ((makeBox aS aName).1).Boxes (1)).1 := boxes_lnm mL1
  have mp1 : 0 ≤ (markL meBox ((makeBox aS aName).1).Boxes (1)).2 := by omega
  have mn1 : ¬ (markL meBox ((makeBox aS aName).1).Boxes (1)).2 < 0 := by omega
  have mb1 : (markL meBox ((makeBox aS aName).1).Boxes (1)).2 ≤ 288230376151711744 := by omega
  have mc1 : (markL meBox ((makeBox aS aName).1).Boxes (1)).2 ≤ 1152921504606846976 := by omega
  have md1 : (markL meBox ((makeBox aS aName).1).Boxes (1)).2 ≤ 144115188075855872 := by omega
  simp only [s1, b1, w0, z0, n0, u0, l0, r0, r0_Boxes, l0_Boxes, xL0, xp0, xn0, xb0, xc0, xd0, mL1, mH1, markL_again meBox_again, mp1, mn1, mb1, mc1, md1, q0, Option.getD_some, bne_self_eq_false, go_sem]
  repeat' ((first | ((first | apply qa | apply qb | apply qc | apply qd | apply qe | apply qf | apply qg | apply qh | apply qi | apply qj | apply qk) <;> intro hp) | ((first | refine ql rfl rfl (by decide +kernel) ?_ | refine qm _ rfl rfl (by decide +kernel) ?_) <;> have hp := True.intro)) <;> simp only [hp, s1, b1, w0, z0, n0, u0, l0, r0, r0_Boxes, l0_Boxes, xL0, xp0, xn0, xb0, xc0, xd0, mL1, mH1, markL_again meBox_again, mp1, mn1, mb1, mc1, md1, q0, Option.getD_some, bne_self_eq_false, go_sem])
  all_goals (simp only [fin_mk, finV, resL, resV1, resIn, endA, listIn, Option.some_or, Option.none_or, oneOrTup, go_sem]; rw [← hr])
set_option maxRecDepth 100000 in
theorem own : ownKnob Try.prog.godebug = none := by kernel_rfl
theorem lifted (os : Os) (started : os.Started) (H : Type) (enc : TypeId × Value → H) :
    ReturnsInHanded {} Try.checked os 4 .any (Rows.fnExactMakeBoxSpec.pre6 enc Try.prog Try.f4 Rows.fnExactMakeBoxRow.domain false) (Rows.fnExactMakeBoxSpec.post enc Try.prog Try.f4 false true false false) :=
  law_of_fn (C := Try.checked) (n := 6) own started (by kernel_rfl) Try.func4 rfl rfl
    (ChangeSpec.witness6 (enc := enc) (C := Try.checked) false ⟨#[], #[.agg #[.slice none 0 0, .int .i64 0], .string ByteArray.empty], []⟩ 8 (by kernel_rfl) (by kernel_rfl) (by kernel_rfl) (by kernel_rfl))
    rfl rfl Try.underlying4 (by kernel_rfl) (by
      intro t ht
      simp only [Try.f4, List.mem_cons, List.not_mem_nil, or_false] at ht
      rcases ht with rfl | rfl <;> exact ⟨by kernel_rfl, by kernel_rfl, of_decide_eq_true (by kernel_rfl)⟩)
    (by
      intro ds hd
      match ds, hd with
      | [d0, d1], _ => rfl)
    rfl ok_laws_FnExactMakeBox rfl (by
      intro xs hl hw
      match xs, hl with
      | [x0, x1], _ =>
        obtain ⟨x0, rfl, c0⟩ := wf_Store (hw 0 24 x0 rfl rfl)
        obtain ⟨x1, rfl, c1⟩ := wf_string Try.underlying9 (hw 1 9 x1 rfl rfl)
        have c1 : x1.length ≤ 4611686018427387904 := by unfold reachBytes at c1; omega
        simp only [spLaw, Store.dec_enc, Option.bind_some]
        exact if_pos ⟨c0, c1⟩)
theorem over : Rows.fnExactMakeBoxRow.holds Try.pinned (OpenSpec.ofChange Rows.fnExactMakeBoxSpec) :=
  OpenClaim.holds_of_wide 4 Try.f4 rfl rfl rfl rfl rfl rfl rfl ⟨rfl, rfl, rfl, rfl, rfl⟩ rfl rfl rfl rfl rfl (by kernel_rfl) Try.func4 (by kernel_rfl)
    (of_decide_eq_true (by kernel_rfl)) (by unfold Func.isWrapper; first | (rw [if_pos (by decide +kernel)]; kernel_rfl) | (rw [if_neg (by decide +kernel)]; exact ⟨rfl, rfl⟩))
    (fun os started H enc _ => lifted os started H enc)
end Go.Proofs.Ytdnafggminbalaa.VMakeBox
namespace Go.Proofs.Ytdnafggminbalaa
theorem fnExactMakeBox_holds : Rows.FnExactMakeBoxSaid := VMakeBox.over
#print axioms fnExactMakeBox_holds
end Go.Proofs.Ytdnafggminbalaa
