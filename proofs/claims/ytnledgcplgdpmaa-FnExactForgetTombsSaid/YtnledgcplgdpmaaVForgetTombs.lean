/- The law FnExactForgetTombs: the two functions that it calls answer alike, so it answers true. No condition. -/
import Derived.Test.YtnledgcplgdpmaaVLB
import Derived.Test.YtnledgcplgdpmaaVLG2
import Derived.Test.YtnledgcplgdpmaaRows
import Derived.KernelRfl
namespace Go.Proofs.Ytnledgcplgdpmaa.VForgetTombs
open Go Go.VM Go.Proofs.Ytnledgcplgdpmaa.L
set_option maxRecDepth 100000
set_option maxHeartbeats 4000000
set_option linter.unusedSimpArgs false
set_option linter.unusedVariables false
theorem wf_Mail {n : Nat} {v : V} (h : WfV Try.prog (n + 2) 104 v) : ∃ x : Mail, v = x.enc ∧ x.le 4611686018427387904 := by
  obtain ⟨l, rfl, hl, hf⟩ := wf_fields Try.underlying104 h
  match l, hl with
  | [f0, f1, f2, f3], _ =>
    obtain ⟨f0, rfl, _⟩ := wf_int Try.underlying3 (hf 0 _ f0 rfl rfl)
    obtain ⟨f1, rfl, _⟩ := wf_int Try.underlying3 (hf 1 _ f1 rfl rfl)
    obtain ⟨f2, rfl, _⟩ := wf_int Try.underlying3 (hf 2 _ f2 rfl rfl)
    obtain ⟨f3, rfl, c3⟩ := wf_string Try.underlying9 (hf 3 _ f3 rfl rfl)
    have c3 : f3.length ≤ 4611686018427387904 := by unfold reachBytes at c3; omega
    exact ⟨⟨f0, f1, f2, f3⟩, by simp [Mail.enc], c3⟩
theorem wf_Tomb {n : Nat} {v : V} (h : WfV Try.prog (n + 2) 107 v) : ∃ x : Tomb, v = x.enc ∧ x.le 4611686018427387904 := by
  obtain ⟨l, rfl, hl, hf⟩ := wf_fields Try.underlying107 h
  match l, hl with
  | [f0, f1], _ =>
    obtain ⟨f0, rfl, _⟩ := wf_int Try.underlying3 (hf 0 _ f0 rfl rfl)
    obtain ⟨f1, rfl, _⟩ := wf_int Try.underlying3 (hf 1 _ f1 rfl rfl)
    exact ⟨⟨f0, f1⟩, by simp [Tomb.enc], trivial⟩
theorem wf_Box {n : Nat} {v : V} (h : WfV Try.prog (n + 4) 25 v) : ∃ x : Box, v = x.enc ∧ x.le 4611686018427387904 := by
  obtain ⟨l, rfl, hl, hf⟩ := wf_fields Try.underlying25 h
  match l, hl with
  | [f0, f1, f2, f3, f4, f5, f6], _ =>
    obtain ⟨f0, rfl, c0⟩ := wf_string Try.underlying9 (hf 0 _ f0 rfl rfl)
    have c0 : f0.length ≤ 4611686018427387904 := by unfold reachBytes at c0; omega
    obtain ⟨f1, rfl, _⟩ := wf_int Try.underlying3 (hf 1 _ f1 rfl rfl)
    obtain ⟨f2, rfl, _⟩ := wf_int Try.underlying3 (hf 2 _ f2 rfl rfl)
    obtain ⟨f3, rfl, _⟩ := wf_int Try.underlying3 (hf 3 _ f3 rfl rfl)
    obtain ⟨f4, rfl, c4, _, e4⟩ := wf_slice Try.underlying22 (hf 4 _ f4 rfl rfl)
    rw [Ty.bytes_104] at c4
    have c4 : f4.length ≤ 4611686018427387904 := by unfold reachBytes at c4; omega
    obtain ⟨f4, rfl, d4⟩ := list_enc (e := Mail.enc) (R := Mail.le 4611686018427387904) fun v hv => wf_Mail (e4 v hv)
    rw [List.length_map] at c4
    obtain ⟨f5, rfl, c5, _, e5⟩ := wf_slice Try.underlying23 (hf 5 _ f5 rfl rfl)
    rw [Ty.bytes_107] at c5
    have c5 : f5.length ≤ 4611686018427387904 := by unfold reachBytes at c5; omega
    obtain ⟨f5, rfl, d5⟩ := list_enc (e := Tomb.enc) (R := Tomb.le 4611686018427387904) fun v hv => wf_Tomb (e5 v hv)
    rw [List.length_map] at c5
    obtain ⟨f6, rfl, _⟩ := wf_int Try.underlying3 (hf 6 _ f6 rfl rfl)
    exact ⟨⟨f0, f1, f2, f3, f4, f5, f6⟩, by simp [Box.enc, Ty.cells_104, Ty.cells_107], ⟨c0, ⟨c4, d4⟩, ⟨c5, d5⟩⟩⟩
open Classical in
noncomputable def spLaw : VM.Spec := ⟨[.rd, .rd], fun | [aB', .int .i64 aUpto] => (Box.dec aB').bind fun aB => if aB.le 4611686018427387904 then some (.bool true, []) else none | _ => none⟩
theorem spLaw_in {ins : List V} {r : V} {outs : List V} (h : spLaw.run ins = some (r, outs)) : ∃ (aB : Box) (aUpto : Int), ins = [Box.enc aB, .int .i64 aUpto] ∧ (aB.le 4611686018427387904) ∧ .bool true = r ∧ outs = [] := by
  unfold spLaw at h
  simp only at h
  split at h
  · rename_i aB' aUpto
    simp only [Option.bind_eq_some_iff] at h
    obtain ⟨aB, h_aB, h⟩ := h
    split at h
    case isFalse => cases h
    rename_i hc
    simp only [Option.some.injEq, Prod.mk.injEq] at h
    obtain ⟨h1, h2⟩ := h
    have h_aB := Box.dec_some h_aB
    subst h_aB
    exact ⟨aB, aUpto, rfl, hc, h1, h2.symm⟩
  · cases h
def T_laws_FnExactForgetTombs : Hints := ⟨fun i => if i = 10 then some [(0, 2)] else none, fun _ => none, fun i => if i = 0 then some [1, 2] else if i = 1 then some [1, 2, 5] else if i = 2 then some [1, 2, 5] else if i = 3 then some [1, 2, 17] else if i = 4 then some [4] else if i = 5 then some [1, 2, 6] else if i = 6 then some [1, 2, 6, 7] else if i = 7 then some [1, 2, 6, 7, 8] else if i = 8 then some [1, 2, 6, 7, 8, 30] else if i = 9 then some [4] else if i = 10 then some [1, 2, 6, 7, 8, 35] else if i = 11 then some [4] else if i = 12 then some [1, 2, 6, 7, 8, 9] else if i = 13 then some [1, 2, 6, 8, 9] else if i = 14 then some [1, 2, 6, 8, 46] else if i = 15 then some [4] else if i = 16 then some [1, 2, 6, 8, 10] else if i = 17 then some [1, 2, 6, 8, 10] else if i = 18 then some [1, 2, 6, 8, 10, 11] else if i = 19 then some [1, 2, 6, 8, 10, 11] else if i = 20 then some [1, 2, 6, 8, 10, 11, 54] else if i = 21 then some [4] else if i = 22 then some [1, 2, 6, 8, 10, 57] else if i = 23 then some [4] else if i = 24 then some [6, 8, 10, 12] else if i = 25 then some [8, 10, 65] else if i = 26 then some [4] else if i = 27 then some [8, 10, 11] else if i = 28 then some [10, 11] else if i = 29 then some [10, 11, 70] else if i = 30 then some [4] else if i = 31 then some [73] else if i = 32 then some [4] else if i = 33 then some [4] else none⟩
noncomputable def Phi_laws_FnExactForgetTombs : Tab := fun f => if f = 15 then some spSzBox else if f = 17 then some spToBox else if f = 20 then some spEqBox else if f = 21 then some spMarkBox else if f = 33 then some spHeldBox else if f = 49 then some spForgetTombs else if f = 50 then some spForgetTombs else none
theorem phi_laws_FnExactForgetTombs : ∀ f sp, Phi_laws_FnExactForgetTombs f = some sp → FnOk Try.prog f sp := by
  intro f sp h
  unfold Phi_laws_FnExactForgetTombs at h
  split at h
  · rename_i e; cases h; rw [e]; exact ok_laws_szBox
  split at h
  · rename_i e; cases h; rw [e]; exact ok_laws_toBox
  split at h
  · rename_i e; cases h; rw [e]; exact ok_laws_eqBox
  split at h
  · rename_i e; cases h; rw [e]; exact ok_laws_markBox
  split at h
  · rename_i e; cases h; rw [e]; exact ok_laws_heldBox
  split at h
  · rename_i e; cases h; rw [e]; exact ok_spec_ForgetTombs
  split at h
  · rename_i e; cases h; rw [e]; exact ok_impl_ForgetTombs
  cases h
theorem ok_laws_FnExactForgetTombs : FnOk Try.prog 12 spLaw := by
  refine fn_ok (Φ := Phi_laws_FnExactForgetTombs) (T := T_laws_FnExactForgetTombs) phi_laws_FnExactForgetTombs mixed Try.func12 rfl rfl (by decide) ?_
  intro ins r outs hr hl
  clear hl
  have hs := spLaw_in hr
  clear hr
  obtain ⟨aB, aUpto, rfl, hc, hr, rfl⟩ := hs
  simp only [spLaw, Try.f12, Go.VM.initS]
  have w0 := hc
  have z0 : Box.sz aB (1048576) = -1 ∨ (0 ≤ Box.sz aB (1048576) ∧ Box.sz aB (1048576) ≤ 1048576 ∧ _) := Box.sz_ok aB (1048576) 1048576 (by decide) (by decide)
  rcases z0 with z0 | ⟨z0, y0, x0⟩
  · simp only [w0, z0, Phi_laws_FnExactForgetTombs, T_laws_FnExactForgetTombs, spEqBox, spForgetTombs, spHeldBox, spMarkBox, spSzBox, spToBox, go_sem, reduceIte, reduceCtorEq, Nat.reduceEqDiff, Nat.reduceBEq, Nat.reduceBNe, Nat.reduceMul, Nat.reduceAdd, Nat.reduceLT, Nat.reduceLeDiff, Nat.reduceSub, Int.reduceLT, Int.reduceLE, Int.reduceEq, Int.reduceNeg, Int.reduceAdd, Int.reduceSub, Int.reduceToNat, Int.reduceBEq, Int.reduceBNe, Array.reduceGetElem?]
    repeat' ((first | refine after_iteT.2 ⟨fun hp => ?_, fun hp => ?_⟩ | refine after_iteF.2 ⟨fun hp => ?_, fun hp => ?_⟩ | refine after_ite.2 ⟨fun hp => ?_, fun hp => ?_⟩ | refine grd_not.2 ⟨fun hp => ?_, fun hp => ?_⟩ | refine grd_beq.2 ⟨fun hp => ?_, fun hp => ?_⟩ | refine grd_dec.2 ⟨fun hp => ?_, fun hp => ?_⟩ | refine grd_bool.2 ⟨fun hp => ?_, fun hp => ?_⟩ | refine condG_not.2 ⟨fun hp => ?_, fun hp => ?_⟩ | refine condG_beq.2 ⟨fun hp => ?_, fun hp => ?_⟩ | refine condG_dec.2 ⟨fun hp => ?_, fun hp => ?_⟩ | refine condG_bool.2 ⟨fun hp => ?_, fun hp => ?_⟩ | (refine (goes_draw0 rfl (by decide +kernel)).2 ?_; have hp := True.intro) | (refine (goes_drawM _ rfl (by decide +kernel)).2 ?_; have hp := True.intro)) <;> simp only [hp, w0, z0, Phi_laws_FnExactForgetTombs, T_laws_FnExactForgetTombs, spEqBox, spForgetTombs, spHeldBox, spMarkBox, spSzBox, spToBox, go_sem, reduceIte, reduceCtorEq, Nat.reduceEqDiff, Nat.reduceBEq, Nat.reduceBNe, Nat.reduceMul, Nat.reduceAdd, Nat.reduceLT, Nat.reduceLeDiff, Nat.reduceSub, Int.reduceLT, Int.reduceLE, Int.reduceEq, Int.reduceNeg, Int.reduceAdd, Int.reduceSub, Int.reduceToNat, Int.reduceBEq, Int.reduceBNe, Array.reduceGetElem?])
    simp only [fin_mk, finV, resL, resV1, allUse, oneOrTup, List.take, List.drop, List.take_succ_cons, List.take_zero, List.drop_succ_cons, List.drop_zero, Phi_laws_FnExactForgetTombs, T_laws_FnExactForgetTombs, spEqBox, spForgetTombs, spHeldBox, spMarkBox, spSzBox, spToBox, go_sem, reduceIte, reduceCtorEq, Nat.reduceEqDiff, Nat.reduceBEq, Nat.reduceBNe, Nat.reduceMul, Nat.reduceAdd, Nat.reduceLT, Nat.reduceLeDiff, Nat.reduceSub, Int.reduceLT, Int.reduceLE, Int.reduceEq, Int.reduceNeg, Int.reduceAdd, Int.reduceSub, Int.reduceToNat, Int.reduceBEq, Int.reduceBNe, Array.reduceGetElem?]
    rw [← hr]
  have n0 : ¬ (Box.sz aB (1048576)) < 0 := Int.not_lt.2 z0
  have u0 : (Box.sz aB (1048576)) ≤ 4611686018427387904 := by omega
  have v0 : (Box.sz aB (1048576)) ≤ ((1048576 : Nat) : Int) := by omega
  have l0 : aB.le 4194304 := Box.le_mono _ _ _ (by decide) x0
  have q0 : (0 : Int) ≤ 1 := by decide
  have r0 : (forgetTombs aB aUpto).le 4194304 := forgetTombs_le l0
  have r0_Mails : (forgetTombs aB aUpto).Mails.length ≤ 4194304 := r0.2.1.1
  have r0_Tombs : (forgetTombs aB aUpto).Tombs.length ≤ 4194304 := r0.2.2.1
  have l0_Mails : aB.Mails.length ≤ 4194304 := l0.2.1.1
  have l0_Tombs : aB.Tombs.length ≤ 4194304 := l0.2.2.1
  have xe0 : (msBox (aB) (1)).2 = 1 + (4 : Nat) * (aB).Mails.length + (2 : Nat) * (aB).Tombs.length := msBox_k _ _
  have xp0 : 0 ≤ (msBox (aB) (1)).2 := by omega
  have xn0 : ¬ (msBox (aB) (1)).2 < 0 := by omega
  have xb0 : (msBox (aB) (1)).2 ≤ 288230376151711744 := by omega
  have me1 : (msBox (forgetTombs aB aUpto) (1)).2 = 1 + (4 : Nat) * (forgetTombs aB aUpto).Mails.length + (2 : Nat) * (forgetTombs aB aUpto).Tombs.length := msBox_k _ _
  have mp1 : 0 ≤ (msBox (forgetTombs aB aUpto) (1)).2 := by omega
  have mn1 : ¬ (msBox (forgetTombs aB aUpto) (1)).2 < 0 := by omega
  have mb1 : (msBox (forgetTombs aB aUpto) (1)).2 ≤ 288230376151711744 := by omega
  have mh1 : hsBox ⟨(forgetTombs aB aUpto).Name, (forgetTombs aB aUpto).Valid, (forgetTombs aB aUpto).Next, (forgetTombs aB aUpto).Mod, (msBox (forgetTombs aB aUpto) (1)).1.Mails, (msBox (forgetTombs aB aUpto) (1)).1.Tombs, (forgetTombs aB aUpto).Horizon⟩ (1) = some ((msBox (forgetTombs aB aUpto) (1)).2) := hsBox_marked _ _
  simp only [w0, z0, n0, u0, l0, r0, r0_Mails, r0_Tombs, l0_Mails, l0_Tombs, xp0, xn0, xb0, mp1, mn1, mb1, mh1, msBox_Mails, msBox_Tombs, q0, Option.getD_some, bne_self_eq_false, Phi_laws_FnExactForgetTombs, T_laws_FnExactForgetTombs, spEqBox, spForgetTombs, spHeldBox, spMarkBox, spSzBox, spToBox, go_sem, reduceIte, reduceCtorEq, Nat.reduceEqDiff, Nat.reduceBEq, Nat.reduceBNe, Nat.reduceMul, Nat.reduceAdd, Nat.reduceLT, Nat.reduceLeDiff, Nat.reduceSub, Int.reduceLT, Int.reduceLE, Int.reduceEq, Int.reduceNeg, Int.reduceAdd, Int.reduceSub, Int.reduceToNat, Int.reduceBEq, Int.reduceBNe, Array.reduceGetElem?]
  repeat' ((first | refine after_iteT.2 ⟨fun hp => ?_, fun hp => ?_⟩ | refine after_iteF.2 ⟨fun hp => ?_, fun hp => ?_⟩ | refine after_ite.2 ⟨fun hp => ?_, fun hp => ?_⟩ | refine grd_not.2 ⟨fun hp => ?_, fun hp => ?_⟩ | refine grd_beq.2 ⟨fun hp => ?_, fun hp => ?_⟩ | refine grd_dec.2 ⟨fun hp => ?_, fun hp => ?_⟩ | refine grd_bool.2 ⟨fun hp => ?_, fun hp => ?_⟩ | refine condG_not.2 ⟨fun hp => ?_, fun hp => ?_⟩ | refine condG_beq.2 ⟨fun hp => ?_, fun hp => ?_⟩ | refine condG_dec.2 ⟨fun hp => ?_, fun hp => ?_⟩ | refine condG_bool.2 ⟨fun hp => ?_, fun hp => ?_⟩ | (refine (goes_draw0 rfl (by decide +kernel)).2 ?_; have hp := True.intro) | (refine (goes_drawM _ rfl (by decide +kernel)).2 ?_; have hp := True.intro)) <;> simp only [hp, w0, z0, n0, u0, l0, r0, r0_Mails, r0_Tombs, l0_Mails, l0_Tombs, xp0, xn0, xb0, mp1, mn1, mb1, mh1, msBox_Mails, msBox_Tombs, q0, Option.getD_some, bne_self_eq_false, Phi_laws_FnExactForgetTombs, T_laws_FnExactForgetTombs, spEqBox, spForgetTombs, spHeldBox, spMarkBox, spSzBox, spToBox, go_sem, reduceIte, reduceCtorEq, Nat.reduceEqDiff, Nat.reduceBEq, Nat.reduceBNe, Nat.reduceMul, Nat.reduceAdd, Nat.reduceLT, Nat.reduceLeDiff, Nat.reduceSub, Int.reduceLT, Int.reduceLE, Int.reduceEq, Int.reduceNeg, Int.reduceAdd, Int.reduceSub, Int.reduceToNat, Int.reduceBEq, Int.reduceBNe, Array.reduceGetElem?])
  all_goals (simp only [fin_mk, finV, resL, resV1, allUse, oneOrTup, List.take, List.drop, List.take_succ_cons, List.take_zero, List.drop_succ_cons, List.drop_zero, Phi_laws_FnExactForgetTombs, T_laws_FnExactForgetTombs, spEqBox, spForgetTombs, spHeldBox, spMarkBox, spSzBox, spToBox, go_sem, reduceIte, reduceCtorEq, Nat.reduceEqDiff, Nat.reduceBEq, Nat.reduceBNe, Nat.reduceMul, Nat.reduceAdd, Nat.reduceLT, Nat.reduceLeDiff, Nat.reduceSub, Int.reduceLT, Int.reduceLE, Int.reduceEq, Int.reduceNeg, Int.reduceAdd, Int.reduceSub, Int.reduceToNat, Int.reduceBEq, Int.reduceBNe, Array.reduceGetElem?]; rw [← hr])
set_option maxRecDepth 100000 in
theorem own : ownKnob Try.prog.godebug = none := by kernel_rfl
theorem lifted (os : Os) (started : os.Started) (H : Type) (enc : TypeId × Value → H) :
    ReturnsInHanded {} Try.checked os 12 .any (Rows.fnExactForgetTombsSpec.pre6 enc Try.prog Try.f12 Rows.fnExactForgetTombsRow.domain false) (Rows.fnExactForgetTombsSpec.post enc Try.prog Try.f12 false true false false) :=
  law_of_fn (C := Try.checked) (n := 4) own started (by kernel_rfl) Try.func12 rfl rfl
    (ChangeSpec.witness6 (enc := enc) (C := Try.checked) false ⟨#[], #[.agg #[.string ByteArray.empty, .int .i64 0, .int .i64 0, .int .i64 0, .slice none 0 0, .slice none 0 0, .int .i64 0], .int .i64 0], []⟩ 8 (by kernel_rfl) (by kernel_rfl) (by kernel_rfl) (by kernel_rfl))
    rfl rfl Try.underlying4 (by kernel_rfl) (by
      intro t ht
      simp only [Try.f12, List.mem_cons, List.not_mem_nil, or_false] at ht
      rcases ht with rfl | rfl <;> exact ⟨by kernel_rfl, by kernel_rfl, of_decide_eq_true (by kernel_rfl)⟩)
    (by
      intro ds hd
      match ds, hd with
      | [d0, d1], _ => rfl)
    ok_laws_FnExactForgetTombs rfl (by
      intro xs hl hw
      match xs, hl with
      | [x0, x1], _ =>
        obtain ⟨x0, rfl, c0⟩ := wf_Box (hw 0 25 x0 rfl rfl)
        obtain ⟨x1, rfl, _⟩ := wf_int Try.underlying3 (hw 1 3 x1 rfl rfl)
        simp only [spLaw, Box.dec_enc, Option.bind_some]
        exact if_pos c0)
theorem over : Rows.fnExactForgetTombsRow.holds Try.pinned (OpenSpec.ofChange Rows.fnExactForgetTombsSpec) :=
  OpenClaim.holds_of_wide 12 Try.f12 rfl rfl rfl rfl rfl rfl rfl ⟨rfl, rfl, rfl, rfl, rfl⟩ rfl rfl rfl rfl rfl (by kernel_rfl) Try.func12 (by kernel_rfl)
    (of_decide_eq_true (by kernel_rfl)) (by unfold Func.isWrapper; first | (rw [if_pos (by decide +kernel)]; kernel_rfl) | (rw [if_neg (by decide +kernel)]; exact ⟨rfl, rfl⟩))
    (fun os started H enc _ => lifted os started H enc)
end Go.Proofs.Ytnledgcplgdpmaa.VForgetTombs
namespace Go.Proofs.Ytnledgcplgdpmaa
theorem fnExactForgetTombs_holds : Rows.FnExactForgetTombsSaid := VForgetTombs.over
#print axioms fnExactForgetTombs_holds
end Go.Proofs.Ytnledgcplgdpmaa
