/- The law FnExactVanished: the two functions that it calls answer alike, so it answers true. No condition. -/
import Derived.Test.YtglldabpgobimaaVLB
import Derived.Test.YtglldabpgobimaaVLVa
import Derived.Test.YtglldabpgobimaaRows
import Derived.KernelRfl
namespace Go.Proofs.Ytglldabpgobimaa.VVanished
open Go Go.VM Go.Proofs.Ytglldabpgobimaa.L
set_option maxRecDepth 100000
set_option maxHeartbeats 4000000
set_option linter.unusedSimpArgs false
set_option linter.unusedVariables false
theorem wf_Mail {n : Nat} {v : V} (h : WfV Try.prog (n + 2) 120 v) : ∃ x : Mail, v = x.enc ∧ x.le 4611686018427387904 := by
  obtain ⟨l, rfl, hl, hf⟩ := wf_fields Try.underlying120 h
  match l, hl with
  | [f0, f1, f2, f3], _ =>
    obtain ⟨f0, rfl, _⟩ := wf_int Try.underlying3 (hf 0 _ f0 rfl rfl)
    obtain ⟨f1, rfl, _⟩ := wf_int Try.underlying3 (hf 1 _ f1 rfl rfl)
    obtain ⟨f2, rfl, _⟩ := wf_int Try.underlying3 (hf 2 _ f2 rfl rfl)
    obtain ⟨f3, rfl, c3⟩ := wf_string Try.underlying9 (hf 3 _ f3 rfl rfl)
    have c3 : f3.length ≤ 4611686018427387904 := by unfold reachBytes at c3; omega
    exact ⟨⟨f0, f1, f2, f3⟩, by simp [Mail.enc], c3⟩
theorem wf_Tomb {n : Nat} {v : V} (h : WfV Try.prog (n + 2) 125 v) : ∃ x : Tomb, v = x.enc ∧ x.le 4611686018427387904 := by
  obtain ⟨l, rfl, hl, hf⟩ := wf_fields Try.underlying125 h
  match l, hl with
  | [f0, f1], _ =>
    obtain ⟨f0, rfl, _⟩ := wf_int Try.underlying3 (hf 0 _ f0 rfl rfl)
    obtain ⟨f1, rfl, _⟩ := wf_int Try.underlying3 (hf 1 _ f1 rfl rfl)
    exact ⟨⟨f0, f1⟩, by simp [Tomb.enc], trivial⟩
theorem wf_Box {n : Nat} {v : V} (h : WfV Try.prog (n + 4) 25 v) : ∃ x : Box, v = x.enc ∧ x.le 4611686018427387904 := by
  obtain ⟨l, rfl, hl, hf⟩ := wf_fields Try.underlying25 h
  match l, hl with
  | [f0, f1, f2, f3, f4, f5, f6], _ =>
    obtain ⟨f0, rfl, c0⟩ := wf_string Try.underlying9 (hf 0 _ f0 rfl rfl)
    have c0 : f0.length ≤ 4611686018427387904 := by unfold reachBytes at c0; omega
    obtain ⟨f1, rfl, _⟩ := wf_int Try.underlying3 (hf 1 _ f1 rfl rfl)
    obtain ⟨f2, rfl, _⟩ := wf_int Try.underlying3 (hf 2 _ f2 rfl rfl)
    obtain ⟨f3, rfl, _⟩ := wf_int Try.underlying3 (hf 3 _ f3 rfl rfl)
    obtain ⟨f4, rfl, c4, _, e4⟩ := wf_slice Try.underlying22 (hf 4 _ f4 rfl rfl)
    rw [Ty.bytes_120] at c4
    have c4 : f4.length ≤ 4611686018427387904 := by unfold reachBytes at c4; omega
    obtain ⟨f4, rfl, d4⟩ := list_enc (e := Mail.enc) (R := Mail.le 4611686018427387904) fun v hv => wf_Mail (e4 v hv)
    rw [List.length_map] at c4
    obtain ⟨f5, rfl, c5, _, e5⟩ := wf_slice Try.underlying23 (hf 5 _ f5 rfl rfl)
    rw [Ty.bytes_125] at c5
    have c5 : f5.length ≤ 4611686018427387904 := by unfold reachBytes at c5; omega
    obtain ⟨f5, rfl, d5⟩ := list_enc (e := Tomb.enc) (R := Tomb.le 4611686018427387904) fun v hv => wf_Tomb (e5 v hv)
    rw [List.length_map] at c5
    obtain ⟨f6, rfl, _⟩ := wf_int Try.underlying3 (hf 6 _ f6 rfl rfl)
    exact ⟨⟨f0, f1, f2, f3, f4, f5, f6⟩, by simp [Box.enc, Ty.cells_120, Ty.cells_125], ⟨c0, ⟨c4, d4⟩, ⟨c5, d5⟩⟩⟩
open Classical in
noncomputable def spLaw : VM.Spec := { modes := [.rd, .rd], run := fun | [aB', .int .i64 aSince] => (Box.dec aB').bind fun aB => if aB.le 4611686018427387904 then some (.bool true, []) else none | _ => none, need := [] }
attribute [go_sem] spLaw
theorem spLaw_in {ins : List V} {r : V} {outs : List V} (h : spLaw.run ins = some (r, outs)) : ∃ (aB : Box) (aSince : Int), ins = [Box.enc aB, .int .i64 aSince] ∧ (aB.le 4611686018427387904) ∧ .bool true = r ∧ outs = [] := by
  unfold spLaw at h
  simp only at h
  split at h
  · rename_i aB' aSince
    simp only [Option.bind_eq_some_iff] at h
    obtain ⟨aB, h_aB, h⟩ := h
    split at h
    case isFalse => cases h
    rename_i hc
    simp only [Option.some.injEq, Prod.mk.injEq] at h
    obtain ⟨h1, h2⟩ := h
    have h_aB := Box.dec_some h_aB
    subst h_aB
    exact ⟨aB, aSince, rfl, hc, h1, h2.symm⟩
  · cases h
def T_laws_FnExactVanished : Hints := ⟨fun i => if i = 10 then some [(0, 2)] else none, fun _ => none, fun i => if i = 0 then some [1, 2] else if i = 1 then some [1, 2, 5] else if i = 2 then some [1, 2, 5] else if i = 3 then some [1, 2, 20] else if i = 4 then some [4] else if i = 5 then some [1, 2, 6, 7] else if i = 6 then some [1, 2, 6, 7, 8] else if i = 7 then some [1, 2, 6, 7, 8, 9, 10] else if i = 8 then some [1, 2, 6, 7, 8, 9, 10, 44] else if i = 9 then some [4] else if i = 10 then some [1, 2, 6, 7, 8, 9, 10, 49] else if i = 11 then some [4] else if i = 12 then some [1, 2, 6, 7, 8, 9, 10, 11] else if i = 13 then some [1, 2, 6, 7, 9, 10, 11] else if i = 14 then some [1, 2, 6, 7, 9, 65] else if i = 15 then some [4] else if i = 16 then some [1, 2, 6, 7, 9, 12] else if i = 17 then some [1, 2, 6, 7, 9, 12] else if i = 18 then some [1, 2, 6, 7, 9, 12, 13] else if i = 19 then some [1, 2, 6, 7, 9, 12, 13] else if i = 20 then some [1, 2, 6, 7, 9, 12, 13, 73] else if i = 21 then some [4] else if i = 22 then some [1, 2, 6, 7, 9, 12, 76] else if i = 23 then some [4] else if i = 24 then some [6, 7, 9, 12, 14, 15] else if i = 25 then some [9, 12, 92] else if i = 26 then some [4] else if i = 27 then some [9, 12, 13] else if i = 28 then some [12, 13] else if i = 29 then some [12, 13, 97] else if i = 30 then some [4] else if i = 31 then some [100] else if i = 32 then some [4] else if i = 33 then some [4] else none, fun _ => none⟩
noncomputable def Phi_laws_FnExactVanished : Tab := fun f => if f = 9 then some spSzBox else if f = 12 then some spToBox else if f = 15 then some spEqBox else if f = 17 then some spMarkBox else if f = 16 then some spEqRangeS else if f = 18 then some spMarkRangeS else if f = 20 then some spHeldRangeS else if f = 23 then some spVanished else if f = 24 then some spVanished else none
attribute [go_sem] T_laws_FnExactVanished Phi_laws_FnExactVanished
theorem phi_laws_FnExactVanished : ∀ f sp, Phi_laws_FnExactVanished f = some sp → FnOk Try.prog f sp ∧ ∀ n ∈ sp.need, n ∈ ([] : List String) := by
  intro f sp h
  unfold Phi_laws_FnExactVanished at h
  by_cases e : f = 9
  · rw [if_pos e] at h; cases h; rw [e]; exact ⟨ok_laws_szBox, (fun n (h : n ∈ ([] : List String)) => (nomatch h))⟩
  rw [if_neg e] at h
  by_cases e : f = 12
  · rw [if_pos e] at h; cases h; rw [e]; exact ⟨ok_laws_toBox, (fun n (h : n ∈ ([] : List String)) => (nomatch h))⟩
  rw [if_neg e] at h
  by_cases e : f = 15
  · rw [if_pos e] at h; cases h; rw [e]; exact ⟨ok_laws_eqBox, (fun n (h : n ∈ ([] : List String)) => (nomatch h))⟩
  rw [if_neg e] at h
  by_cases e : f = 17
  · rw [if_pos e] at h; cases h; rw [e]; exact ⟨ok_laws_markBox, (fun n (h : n ∈ ([] : List String)) => (nomatch h))⟩
  rw [if_neg e] at h
  by_cases e : f = 16
  · rw [if_pos e] at h; cases h; rw [e]; exact ⟨ok_laws_eqRangeS, (fun n (h : n ∈ ([] : List String)) => (nomatch h))⟩
  rw [if_neg e] at h
  by_cases e : f = 18
  · rw [if_pos e] at h; cases h; rw [e]; exact ⟨ok_laws_markRangeS, (fun n (h : n ∈ ([] : List String)) => (nomatch h))⟩
  rw [if_neg e] at h
  by_cases e : f = 20
  · rw [if_pos e] at h; cases h; rw [e]; exact ⟨ok_laws_heldRangeS, (fun n (h : n ∈ ([] : List String)) => (nomatch h))⟩
  rw [if_neg e] at h
  by_cases e : f = 23
  · rw [if_pos e] at h; cases h; rw [e]; exact ⟨ok_spec_Vanished, (fun n (h : n ∈ ([] : List String)) => (nomatch h))⟩
  rw [if_neg e] at h
  by_cases e : f = 24
  · rw [if_pos e] at h; cases h; rw [e]; exact ⟨ok_impl_Vanished, (fun n (h : n ∈ ([] : List String)) => (nomatch h))⟩
  rw [if_neg e] at h
  cases h
theorem ok_laws_FnExactVanished : FnOk Try.prog 5 spLaw := by
  refine fn_ok (Φ := Phi_laws_FnExactVanished) (T := T_laws_FnExactVanished) phi_laws_FnExactVanished mixed Try.func5 rfl rfl rfl (by decide) ?_
  intro ins r outs hr hl
  clear hl
  have hs := spLaw_in hr
  clear hr
  obtain ⟨aB, aSince, rfl, hc, hr, rfl⟩ := hs
  simp only [spLaw, Try.f5, Go.VM.initS]
  have w0 := hc
  have z0 : Box.sz aB (1048576) = -1 ∨ (0 ≤ Box.sz aB (1048576) ∧ Box.sz aB (1048576) ≤ 1048576 ∧ _) := Box.sz_ok aB (1048576) 1048576 (by decide) (by decide)
  rcases z0 with z0 | ⟨z0, y0, x0⟩
  · simp only [w0, z0, go_sem]
    repeat' ((first | ((first | apply qa | apply qb | apply qc | apply qd | apply qe | apply qf | apply qg | apply qh | apply qi | apply qj | apply qk) <;> intro hp) | ((first | refine ql rfl rfl (by decide +kernel) ?_ | refine qm _ rfl rfl (by decide +kernel) ?_ | refine goes_opn rfl ?_ | refine goes_opnD rfl rfl (by decide +kernel) ?_) <;> have hp := True.intro)) <;> simp only [hp, w0, z0, go_sem])
    simp only [fin_mk, finV, resL, resV1, resIn, endA, listIn, Option.some_or, Option.none_or, oneOrTup, go_sem]
    rw [← hr]
  have n0 : ¬ (Box.sz aB (1048576)) < 0 := Int.not_lt.2 z0
  have u0 : (Box.sz aB (1048576)) ≤ 4611686018427387904 := by omega
  have v0 : (Box.sz aB (1048576)) ≤ ((1048576 : Nat) : Int) := by omega
  have l0 : aB.le 4194304 := Box.le_mono _ _ _ (by decide) x0
  have q0 : (0 : Int) ≤ 1 := by decide
  have r0 : (vanished aB aSince).length ≤ 4194304 := vanished_len aB aSince
  have l0_Mails : aB.Mails.length ≤ 4194304 := l0.2.1.1
  have l0_Tombs : aB.Tombs.length ≤ 4194304 := l0.2.2.1
  have xe0 : (msBox (aB) (1)).2 = 1 + (4 : Nat) * (aB).Mails.length + (2 : Nat) * (aB).Tombs.length := msBox_k _ _
  have xp0 : 0 ≤ (msBox (aB) (1)).2 := by omega
  have xn0 : ¬ (msBox (aB) (1)).2 < 0 := by omega
  have xb0 : (msBox (aB) (1)).2 ≤ 288230376151711744 := by omega
  have xc0 : (msBox (aB) (1)).2 ≤ 1152921504606846976 := by omega
  have xd0 : (msBox (aB) (1)).2 ≤ 144115188075855872 := by omega
  have me1 : (markL meRange (vanished aB aSince) (1)).2 = 1 + (2 : Nat) * (vanished aB aSince).length := markL_k meRange_k _ _
  have mp1 : 0 ≤ (markL meRange (vanished aB aSince) (1)).2 := by omega
  have mn1 : ¬ (markL meRange (vanished aB aSince) (1)).2 < 0 := by omega
  have mb1 : (markL meRange (vanished aB aSince) (1)).2 ≤ 288230376151711744 := by omega
  have mc1 : (markL meRange (vanished aB aSince) (1)).2 ≤ 1152921504606846976 := by omega
  have md1 : (markL meRange (vanished aB aSince) (1)).2 ≤ 144115188075855872 := by omega
  simp only [w0, z0, n0, u0, l0, r0, l0_Mails, l0_Tombs, xp0, xn0, xb0, xc0, xd0, mp1, mn1, mb1, mc1, md1, held_marked heRange_marked, markL_len, q0, Option.getD_some, bne_self_eq_false, go_sem]
  repeat' ((first | ((first | apply qa | apply qb | apply qc | apply qd | apply qe | apply qf | apply qg | apply qh | apply qi | apply qj | apply qk) <;> intro hp) | ((first | refine ql rfl rfl (by decide +kernel) ?_ | refine qm _ rfl rfl (by decide +kernel) ?_ | refine goes_opn rfl ?_ | refine goes_opnD rfl rfl (by decide +kernel) ?_) <;> have hp := True.intro)) <;> simp only [hp, w0, z0, n0, u0, l0, r0, l0_Mails, l0_Tombs, xp0, xn0, xb0, xc0, xd0, mp1, mn1, mb1, mc1, md1, held_marked heRange_marked, markL_len, q0, Option.getD_some, bne_self_eq_false, go_sem])
  all_goals (simp only [fin_mk, finV, resL, resV1, resIn, endA, listIn, Option.some_or, Option.none_or, oneOrTup, go_sem]; rw [← hr])
set_option maxRecDepth 100000 in
theorem own : ownKnob Try.prog.godebug = none := by kernel_rfl
theorem lifted (os : Os) (started : os.Started) (H : Type) (enc : TypeId × Value → H) :
    ReturnsInHanded {} Try.checked os 5 .any (Rows.fnExactVanishedSpec.pre6 enc Try.prog Try.f5 Rows.fnExactVanishedRow.domain false) (Rows.fnExactVanishedSpec.post enc Try.prog Try.f5 false true false false) :=
  law_of_fn (C := Try.checked) (n := 4) own started (by kernel_rfl) Try.func5 rfl rfl
    (ChangeSpec.witness6 (enc := enc) (C := Try.checked) false ⟨#[], #[.agg #[.string ByteArray.empty, .int .i64 0, .int .i64 0, .int .i64 0, .slice none 0 0, .slice none 0 0, .int .i64 0], .int .i64 0], []⟩ 8 (by kernel_rfl) (by kernel_rfl) (by kernel_rfl) (by kernel_rfl))
    rfl rfl Try.underlying4 (by kernel_rfl) (by
      intro t ht
      simp only [Try.f5, List.mem_cons, List.not_mem_nil, or_false] at ht
      rcases ht with rfl | rfl <;> exact ⟨by kernel_rfl, by kernel_rfl, of_decide_eq_true (by kernel_rfl)⟩)
    (by
      intro ds hd
      match ds, hd with
      | [d0, d1], _ => rfl)
    rfl ok_laws_FnExactVanished rfl (by
      intro xs hl hw
      match xs, hl with
      | [x0, x1], _ =>
        obtain ⟨x0, rfl, c0⟩ := wf_Box (hw 0 25 x0 rfl rfl)
        obtain ⟨x1, rfl, _⟩ := wf_int Try.underlying3 (hw 1 3 x1 rfl rfl)
        simp only [spLaw, Box.dec_enc, Option.bind_some]
        exact if_pos c0)
theorem over : Rows.fnExactVanishedRow.holds Try.pinned (OpenSpec.ofChange Rows.fnExactVanishedSpec) :=
  OpenClaim.holds_of_wide 5 Try.f5 rfl rfl rfl rfl rfl rfl rfl ⟨rfl, rfl, rfl, rfl, rfl⟩ rfl rfl rfl rfl rfl (by kernel_rfl) Try.func5 (by kernel_rfl)
    (of_decide_eq_true (by kernel_rfl)) (by unfold Func.isWrapper; first | (rw [if_pos (by decide +kernel)]; kernel_rfl) | (rw [if_neg (by decide +kernel)]; exact ⟨rfl, rfl⟩))
    (fun os started H enc _ => lifted os started H enc)
end Go.Proofs.Ytglldabpgobimaa.VVanished
namespace Go.Proofs.Ytglldabpgobimaa
theorem fnExactVanished_holds : Rows.FnExactVanishedSaid := VVanished.over
#print axioms fnExactVanished_holds
end Go.Proofs.Ytglldabpgobimaa
