/- The law FnExactAddMail: the two functions that it calls answer alike, so it answers true. No condition. -/
import Derived.Test.YtnledgcplgdpmaaVLB
import Derived.Test.YtnledgcplgdpmaaVLH
import Derived.Test.YtnledgcplgdpmaaRows
import Derived.KernelRfl
namespace Go.Proofs.Ytnledgcplgdpmaa.VAddMail
open Go Go.VM Go.Proofs.Ytnledgcplgdpmaa.L
set_option maxRecDepth 100000
set_option maxHeartbeats 4000000
set_option linter.unusedSimpArgs false
set_option linter.unusedVariables false
theorem wf_Mail {n : Nat} {v : V} (h : WfV Try.prog (n + 2) 104 v) : ∃ x : Mail, v = x.enc ∧ x.le 4611686018427387904 := by
  obtain ⟨l, rfl, hl, hf⟩ := wf_fields Try.underlying104 h
  match l, hl with
  | [f0, f1, f2, f3], _ =>
    obtain ⟨f0, rfl, _⟩ := wf_int Try.underlying3 (hf 0 _ f0 rfl rfl)
    obtain ⟨f1, rfl, _⟩ := wf_int Try.underlying3 (hf 1 _ f1 rfl rfl)
    obtain ⟨f2, rfl, _⟩ := wf_int Try.underlying3 (hf 2 _ f2 rfl rfl)
    obtain ⟨f3, rfl, c3⟩ := wf_string Try.underlying9 (hf 3 _ f3 rfl rfl)
    have c3 : f3.length ≤ 4611686018427387904 := by unfold reachBytes at c3; omega
    exact ⟨⟨f0, f1, f2, f3⟩, by simp [Mail.enc], c3⟩
theorem wf_Tomb {n : Nat} {v : V} (h : WfV Try.prog (n + 2) 107 v) : ∃ x : Tomb, v = x.enc ∧ x.le 4611686018427387904 := by
  obtain ⟨l, rfl, hl, hf⟩ := wf_fields Try.underlying107 h
  match l, hl with
  | [f0, f1], _ =>
    obtain ⟨f0, rfl, _⟩ := wf_int Try.underlying3 (hf 0 _ f0 rfl rfl)
    obtain ⟨f1, rfl, _⟩ := wf_int Try.underlying3 (hf 1 _ f1 rfl rfl)
    exact ⟨⟨f0, f1⟩, by simp [Tomb.enc], trivial⟩
theorem wf_Box {n : Nat} {v : V} (h : WfV Try.prog (n + 4) 25 v) : ∃ x : Box, v = x.enc ∧ x.le 4611686018427387904 := by
  obtain ⟨l, rfl, hl, hf⟩ := wf_fields Try.underlying25 h
  match l, hl with
  | [f0, f1, f2, f3, f4, f5, f6], _ =>
    obtain ⟨f0, rfl, c0⟩ := wf_string Try.underlying9 (hf 0 _ f0 rfl rfl)
    have c0 : f0.length ≤ 4611686018427387904 := by unfold reachBytes at c0; omega
    obtain ⟨f1, rfl, _⟩ := wf_int Try.underlying3 (hf 1 _ f1 rfl rfl)
    obtain ⟨f2, rfl, _⟩ := wf_int Try.underlying3 (hf 2 _ f2 rfl rfl)
    obtain ⟨f3, rfl, _⟩ := wf_int Try.underlying3 (hf 3 _ f3 rfl rfl)
    obtain ⟨f4, rfl, c4, _, e4⟩ := wf_slice Try.underlying22 (hf 4 _ f4 rfl rfl)
    rw [Ty.bytes_104] at c4
    have c4 : f4.length ≤ 4611686018427387904 := by unfold reachBytes at c4; omega
    obtain ⟨f4, rfl, d4⟩ := list_enc (e := Mail.enc) (R := Mail.le 4611686018427387904) fun v hv => wf_Mail (e4 v hv)
    rw [List.length_map] at c4
    obtain ⟨f5, rfl, c5, _, e5⟩ := wf_slice Try.underlying23 (hf 5 _ f5 rfl rfl)
    rw [Ty.bytes_107] at c5
    have c5 : f5.length ≤ 4611686018427387904 := by unfold reachBytes at c5; omega
    obtain ⟨f5, rfl, d5⟩ := list_enc (e := Tomb.enc) (R := Tomb.le 4611686018427387904) fun v hv => wf_Tomb (e5 v hv)
    rw [List.length_map] at c5
    obtain ⟨f6, rfl, _⟩ := wf_int Try.underlying3 (hf 6 _ f6 rfl rfl)
    exact ⟨⟨f0, f1, f2, f3, f4, f5, f6⟩, by simp [Box.enc, Ty.cells_104, Ty.cells_107], ⟨c0, ⟨c4, d4⟩, ⟨c5, d5⟩⟩⟩
open Classical in
noncomputable def spLaw : VM.Spec := ⟨[.rd, .rd, .rd], fun | [aB', .int .i64 aFlags, .str aText] => (Box.dec aB').bind fun aB => if aB.le 4611686018427387904 ∧ aText.length ≤ 4611686018427387904 then some (.bool true, []) else none | _ => none⟩
theorem spLaw_in {ins : List V} {r : V} {outs : List V} (h : spLaw.run ins = some (r, outs)) : ∃ (aB : Box) (aFlags : Int) (aText : (List UInt8)), ins = [Box.enc aB, .int .i64 aFlags, .str aText] ∧ (aB.le 4611686018427387904 ∧ aText.length ≤ 4611686018427387904) ∧ .bool true = r ∧ outs = [] := by
  unfold spLaw at h
  simp only at h
  split at h
  · rename_i aB' aFlags aText
    simp only [Option.bind_eq_some_iff] at h
    obtain ⟨aB, h_aB, h⟩ := h
    split at h
    case isFalse => cases h
    rename_i hc
    simp only [Option.some.injEq, Prod.mk.injEq] at h
    obtain ⟨h1, h2⟩ := h
    have h_aB := Box.dec_some h_aB
    subst h_aB
    exact ⟨aB, aFlags, aText, rfl, hc, h1, h2.symm⟩
  · cases h
def T_laws_FnExactAddMail : Hints := ⟨fun i => if i = 12 then some [(0, 2)] else none, fun _ => none, fun i => if i = 0 then some [1, 2, 3] else if i = 1 then some [1, 2, 3, 20] else if i = 2 then some [6] else if i = 3 then some [1, 2, 3, 7] else if i = 4 then some [1, 2, 3, 7] else if i = 5 then some [1, 2, 3, 25] else if i = 6 then some [6] else if i = 7 then some [1, 2, 3, 8, 9] else if i = 8 then some [1, 2, 3, 8, 9, 10] else if i = 9 then some [1, 2, 3, 8, 9, 10, 11, 12] else if i = 10 then some [1, 2, 3, 8, 9, 10, 11, 12, 51] else if i = 11 then some [6] else if i = 12 then some [1, 2, 3, 8, 9, 10, 11, 12, 56] else if i = 13 then some [6] else if i = 14 then some [1, 2, 3, 8, 9, 10, 11, 12, 13] else if i = 15 then some [1, 2, 3, 8, 9, 11, 12, 13] else if i = 16 then some [1, 2, 3, 8, 9, 11, 72] else if i = 17 then some [6] else if i = 18 then some [1, 2, 3, 8, 9, 11, 14] else if i = 19 then some [1, 2, 3, 8, 9, 11, 14] else if i = 20 then some [1, 2, 3, 8, 9, 11, 14, 15] else if i = 21 then some [1, 2, 3, 8, 9, 11, 14, 15] else if i = 22 then some [1, 2, 3, 8, 9, 11, 14, 15, 80] else if i = 23 then some [6] else if i = 24 then some [1, 2, 3, 8, 9, 11, 14, 83] else if i = 25 then some [6] else if i = 26 then some [8, 9, 11, 14, 16, 17] else if i = 27 then some [11, 14, 100] else if i = 28 then some [6] else if i = 29 then some [11, 14, 15] else if i = 30 then some [14, 15] else if i = 31 then some [14, 15, 105] else if i = 32 then some [6] else if i = 33 then some [108] else if i = 34 then some [6] else if i = 35 then some [6] else none⟩
noncomputable def Phi_laws_FnExactAddMail : Tab := fun f => if f = 15 then some spSzBox else if f = 17 then some spToBox else if f = 20 then some spEqBox else if f = 21 then some spMarkBox else if f = 33 then some spHeldBox else if f = 45 then some spAddMail else if f = 46 then some spAddMail else none
theorem phi_laws_FnExactAddMail : ∀ f sp, Phi_laws_FnExactAddMail f = some sp → FnOk Try.prog f sp := by
  intro f sp h
  unfold Phi_laws_FnExactAddMail at h
  split at h
  · rename_i e; cases h; rw [e]; exact ok_laws_szBox
  split at h
  · rename_i e; cases h; rw [e]; exact ok_laws_toBox
  split at h
  · rename_i e; cases h; rw [e]; exact ok_laws_eqBox
  split at h
  · rename_i e; cases h; rw [e]; exact ok_laws_markBox
  split at h
  · rename_i e; cases h; rw [e]; exact ok_laws_heldBox
  split at h
  · rename_i e; cases h; rw [e]; exact ok_spec_AddMail
  split at h
  · rename_i e; cases h; rw [e]; exact ok_impl_AddMail
  cases h
theorem ok_laws_FnExactAddMail : FnOk Try.prog 10 spLaw := by
  refine fn_ok (Φ := Phi_laws_FnExactAddMail) (T := T_laws_FnExactAddMail) phi_laws_FnExactAddMail mixed Try.func10 rfl rfl (by decide) ?_
  intro ins r outs hr hl
  clear hl
  have hs := spLaw_in hr
  clear hr
  obtain ⟨aB, aFlags, aText, rfl, hc, hr, rfl⟩ := hs
  simp only [spLaw, Try.f10, Go.VM.initS]
  obtain ⟨w0, w2⟩ := hc
  by_cases s2 : (1048576 : Int) < aText.length
  · simp only [s2, Phi_laws_FnExactAddMail, T_laws_FnExactAddMail, spAddMail, spEqBox, spHeldBox, spMarkBox, spSzBox, spToBox, go_sem, reduceIte, reduceCtorEq, Nat.reduceEqDiff, Nat.reduceBEq, Nat.reduceBNe, Nat.reduceMul, Nat.reduceAdd, Nat.reduceLT, Nat.reduceLeDiff, Nat.reduceSub, Int.reduceLT, Int.reduceLE, Int.reduceEq, Int.reduceNeg, Int.reduceAdd, Int.reduceSub, Int.reduceToNat, Int.reduceBEq, Int.reduceBNe, Array.reduceGetElem?]
    repeat' ((first | refine after_iteT.2 ⟨fun hp => ?_, fun hp => ?_⟩ | refine after_iteF.2 ⟨fun hp => ?_, fun hp => ?_⟩ | refine after_ite.2 ⟨fun hp => ?_, fun hp => ?_⟩ | refine grd_not.2 ⟨fun hp => ?_, fun hp => ?_⟩ | refine grd_beq.2 ⟨fun hp => ?_, fun hp => ?_⟩ | refine grd_dec.2 ⟨fun hp => ?_, fun hp => ?_⟩ | refine grd_bool.2 ⟨fun hp => ?_, fun hp => ?_⟩ | refine condG_not.2 ⟨fun hp => ?_, fun hp => ?_⟩ | refine condG_beq.2 ⟨fun hp => ?_, fun hp => ?_⟩ | refine condG_dec.2 ⟨fun hp => ?_, fun hp => ?_⟩ | refine condG_bool.2 ⟨fun hp => ?_, fun hp => ?_⟩ | (refine (goes_draw0 rfl (by decide +kernel)).2 ?_; have hp := True.intro) | (refine (goes_drawM _ rfl (by decide +kernel)).2 ?_; have hp := True.intro)) <;> simp only [hp, s2, Phi_laws_FnExactAddMail, T_laws_FnExactAddMail, spAddMail, spEqBox, spHeldBox, spMarkBox, spSzBox, spToBox, go_sem, reduceIte, reduceCtorEq, Nat.reduceEqDiff, Nat.reduceBEq, Nat.reduceBNe, Nat.reduceMul, Nat.reduceAdd, Nat.reduceLT, Nat.reduceLeDiff, Nat.reduceSub, Int.reduceLT, Int.reduceLE, Int.reduceEq, Int.reduceNeg, Int.reduceAdd, Int.reduceSub, Int.reduceToNat, Int.reduceBEq, Int.reduceBNe, Array.reduceGetElem?])
    simp only [fin_mk, finV, resL, resV1, allUse, oneOrTup, List.take, List.drop, List.take_succ_cons, List.take_zero, List.drop_succ_cons, List.drop_zero, Phi_laws_FnExactAddMail, T_laws_FnExactAddMail, spAddMail, spEqBox, spHeldBox, spMarkBox, spSzBox, spToBox, go_sem, reduceIte, reduceCtorEq, Nat.reduceEqDiff, Nat.reduceBEq, Nat.reduceBNe, Nat.reduceMul, Nat.reduceAdd, Nat.reduceLT, Nat.reduceLeDiff, Nat.reduceSub, Int.reduceLT, Int.reduceLE, Int.reduceEq, Int.reduceNeg, Int.reduceAdd, Int.reduceSub, Int.reduceToNat, Int.reduceBEq, Int.reduceBNe, Array.reduceGetElem?]
    rw [← hr]
  have b2 : aText.length ≤ 4194304 := by omega
  have z0 : Box.sz aB (1048576) = -1 ∨ (0 ≤ Box.sz aB (1048576) ∧ Box.sz aB (1048576) ≤ 1048576 ∧ _) := Box.sz_ok aB (1048576) 1048576 (by decide) (by decide)
  rcases z0 with z0 | ⟨z0, y0, x0⟩
  · simp only [s2, b2, w0, z0, Phi_laws_FnExactAddMail, T_laws_FnExactAddMail, spAddMail, spEqBox, spHeldBox, spMarkBox, spSzBox, spToBox, go_sem, reduceIte, reduceCtorEq, Nat.reduceEqDiff, Nat.reduceBEq, Nat.reduceBNe, Nat.reduceMul, Nat.reduceAdd, Nat.reduceLT, Nat.reduceLeDiff, Nat.reduceSub, Int.reduceLT, Int.reduceLE, Int.reduceEq, Int.reduceNeg, Int.reduceAdd, Int.reduceSub, Int.reduceToNat, Int.reduceBEq, Int.reduceBNe, Array.reduceGetElem?]
    repeat' ((first | refine after_iteT.2 ⟨fun hp => ?_, fun hp => ?_⟩ | refine after_iteF.2 ⟨fun hp => ?_, fun hp => ?_⟩ | refine after_ite.2 ⟨fun hp => ?_, fun hp => ?_⟩ | refine grd_not.2 ⟨fun hp => ?_, fun hp => ?_⟩ | refine grd_beq.2 ⟨fun hp => ?_, fun hp => ?_⟩ | refine grd_dec.2 ⟨fun hp => ?_, fun hp => ?_⟩ | refine grd_bool.2 ⟨fun hp => ?_, fun hp => ?_⟩ | refine condG_not.2 ⟨fun hp => ?_, fun hp => ?_⟩ | refine condG_beq.2 ⟨fun hp => ?_, fun hp => ?_⟩ | refine condG_dec.2 ⟨fun hp => ?_, fun hp => ?_⟩ | refine condG_bool.2 ⟨fun hp => ?_, fun hp => ?_⟩ | (refine (goes_draw0 rfl (by decide +kernel)).2 ?_; have hp := True.intro) | (refine (goes_drawM _ rfl (by decide +kernel)).2 ?_; have hp := True.intro)) <;> simp only [hp, s2, b2, w0, z0, Phi_laws_FnExactAddMail, T_laws_FnExactAddMail, spAddMail, spEqBox, spHeldBox, spMarkBox, spSzBox, spToBox, go_sem, reduceIte, reduceCtorEq, Nat.reduceEqDiff, Nat.reduceBEq, Nat.reduceBNe, Nat.reduceMul, Nat.reduceAdd, Nat.reduceLT, Nat.reduceLeDiff, Nat.reduceSub, Int.reduceLT, Int.reduceLE, Int.reduceEq, Int.reduceNeg, Int.reduceAdd, Int.reduceSub, Int.reduceToNat, Int.reduceBEq, Int.reduceBNe, Array.reduceGetElem?])
    simp only [fin_mk, finV, resL, resV1, allUse, oneOrTup, List.take, List.drop, List.take_succ_cons, List.take_zero, List.drop_succ_cons, List.drop_zero, Phi_laws_FnExactAddMail, T_laws_FnExactAddMail, spAddMail, spEqBox, spHeldBox, spMarkBox, spSzBox, spToBox, go_sem, reduceIte, reduceCtorEq, Nat.reduceEqDiff, Nat.reduceBEq, Nat.reduceBNe, Nat.reduceMul, Nat.reduceAdd, Nat.reduceLT, Nat.reduceLeDiff, Nat.reduceSub, Int.reduceLT, Int.reduceLE, Int.reduceEq, Int.reduceNeg, Int.reduceAdd, Int.reduceSub, Int.reduceToNat, Int.reduceBEq, Int.reduceBNe, Array.reduceGetElem?]
    rw [← hr]
  have n0 : ¬ (Box.sz aB (1048576)) < 0 := Int.not_lt.2 z0
  have u0 : (Box.sz aB (1048576)) ≤ 4611686018427387904 := by omega
  have v0 : (Box.sz aB (1048576)) ≤ ((1048576 : Nat) : Int) := by omega
  have l0 : aB.le 4194304 := Box.le_mono _ _ _ (by decide) x0
  have q0 : (0 : Int) ≤ 1 := by decide
  have r0 : (addMail aB aFlags aText).le 4194304 := addMail_le l0 b2
  have r0_Mails : (addMail aB aFlags aText).Mails.length ≤ 4194304 := r0.2.1.1
  have r0_Tombs : (addMail aB aFlags aText).Tombs.length ≤ 4194304 := r0.2.2.1
  have l0_Mails : aB.Mails.length ≤ 4194304 := l0.2.1.1
  have l0_Tombs : aB.Tombs.length ≤ 4194304 := l0.2.2.1
  have xe0 : (msBox (aB) (1)).2 = 1 + (4 : Nat) * (aB).Mails.length + (2 : Nat) * (aB).Tombs.length := msBox_k _ _
  have xp0 : 0 ≤ (msBox (aB) (1)).2 := by omega
  have xn0 : ¬ (msBox (aB) (1)).2 < 0 := by omega
  have xb0 : (msBox (aB) (1)).2 ≤ 288230376151711744 := by omega
  have me1 : (msBox (addMail aB aFlags aText) (1)).2 = 1 + (4 : Nat) * (addMail aB aFlags aText).Mails.length + (2 : Nat) * (addMail aB aFlags aText).Tombs.length := msBox_k _ _
  have mp1 : 0 ≤ (msBox (addMail aB aFlags aText) (1)).2 := by omega
  have mn1 : ¬ (msBox (addMail aB aFlags aText) (1)).2 < 0 := by omega
  have mb1 : (msBox (addMail aB aFlags aText) (1)).2 ≤ 288230376151711744 := by omega
  have mh1 : hsBox ⟨(addMail aB aFlags aText).Name, (addMail aB aFlags aText).Valid, (addMail aB aFlags aText).Next, (addMail aB aFlags aText).Mod, (msBox (addMail aB aFlags aText) (1)).1.Mails, (msBox (addMail aB aFlags aText) (1)).1.Tombs, (addMail aB aFlags aText).Horizon⟩ (1) = some ((msBox (addMail aB aFlags aText) (1)).2) := hsBox_marked _ _
  simp only [s2, b2, w0, z0, n0, u0, l0, r0, r0_Mails, r0_Tombs, l0_Mails, l0_Tombs, xp0, xn0, xb0, mp1, mn1, mb1, mh1, msBox_Mails, msBox_Tombs, q0, Option.getD_some, bne_self_eq_false, Phi_laws_FnExactAddMail, T_laws_FnExactAddMail, spAddMail, spEqBox, spHeldBox, spMarkBox, spSzBox, spToBox, go_sem, reduceIte, reduceCtorEq, Nat.reduceEqDiff, Nat.reduceBEq, Nat.reduceBNe, Nat.reduceMul, Nat.reduceAdd, Nat.reduceLT, Nat.reduceLeDiff, Nat.reduceSub, Int.reduceLT, Int.reduceLE, Int.reduceEq, Int.reduceNeg, Int.reduceAdd, Int.reduceSub, Int.reduceToNat, Int.reduceBEq, Int.reduceBNe, Array.reduceGetElem?]
  repeat' ((first | refine after_iteT.2 ⟨fun hp => ?_, fun hp => ?_⟩ | refine after_iteF.2 ⟨fun hp => ?_, fun hp => ?_⟩ | refine after_ite.2 ⟨fun hp => ?_, fun hp => ?_⟩ | refine grd_not.2 ⟨fun hp => ?_, fun hp => ?_⟩ | refine grd_beq.2 ⟨fun hp => ?_, fun hp => ?_⟩ | refine grd_dec.2 ⟨fun hp => ?_, fun hp => ?_⟩ | refine grd_bool.2 ⟨fun hp => ?_, fun hp => ?_⟩ | refine condG_not.2 ⟨fun hp => ?_, fun hp => ?_⟩ | refine condG_beq.2 ⟨fun hp => ?_, fun hp => ?_⟩ | refine condG_dec.2 ⟨fun hp => ?_, fun hp => ?_⟩ | refine condG_bool.2 ⟨fun hp => ?_, fun hp => ?_⟩ | (refine (goes_draw0 rfl (by decide +kernel)).2 ?_; have hp := True.intro) | (refine (goes_drawM _ rfl (by decide +kernel)).2 ?_; have hp := True.intro)) <;> simp only [hp, s2, b2, w0, z0, n0, u0, l0, r0, r0_Mails, r0_Tombs, l0_Mails, l0_Tombs, xp0, xn0, xb0, mp1, mn1, mb1, mh1, msBox_Mails, msBox_Tombs, q0, Option.getD_some, bne_self_eq_false, Phi_laws_FnExactAddMail, T_laws_FnExactAddMail, spAddMail, spEqBox, spHeldBox, spMarkBox, spSzBox, spToBox, go_sem, reduceIte, reduceCtorEq, Nat.reduceEqDiff, Nat.reduceBEq, Nat.reduceBNe, Nat.reduceMul, Nat.reduceAdd, Nat.reduceLT, Nat.reduceLeDiff, Nat.reduceSub, Int.reduceLT, Int.reduceLE, Int.reduceEq, Int.reduceNeg, Int.reduceAdd, Int.reduceSub, Int.reduceToNat, Int.reduceBEq, Int.reduceBNe, Array.reduceGetElem?])
  all_goals (simp only [fin_mk, finV, resL, resV1, allUse, oneOrTup, List.take, List.drop, List.take_succ_cons, List.take_zero, List.drop_succ_cons, List.drop_zero, Phi_laws_FnExactAddMail, T_laws_FnExactAddMail, spAddMail, spEqBox, spHeldBox, spMarkBox, spSzBox, spToBox, go_sem, reduceIte, reduceCtorEq, Nat.reduceEqDiff, Nat.reduceBEq, Nat.reduceBNe, Nat.reduceMul, Nat.reduceAdd, Nat.reduceLT, Nat.reduceLeDiff, Nat.reduceSub, Int.reduceLT, Int.reduceLE, Int.reduceEq, Int.reduceNeg, Int.reduceAdd, Int.reduceSub, Int.reduceToNat, Int.reduceBEq, Int.reduceBNe, Array.reduceGetElem?]; rw [← hr])
set_option maxRecDepth 100000 in
theorem own : ownKnob Try.prog.godebug = none := by kernel_rfl
theorem lifted (os : Os) (started : os.Started) (H : Type) (enc : TypeId × Value → H) :
    ReturnsInHanded {} Try.checked os 10 .any (Rows.fnExactAddMailSpec.pre6 enc Try.prog Try.f10 Rows.fnExactAddMailRow.domain false) (Rows.fnExactAddMailSpec.post enc Try.prog Try.f10 false true false false) :=
  law_of_fn (C := Try.checked) (n := 4) own started (by kernel_rfl) Try.func10 rfl rfl
    (ChangeSpec.witness6 (enc := enc) (C := Try.checked) false ⟨#[], #[.agg #[.string ByteArray.empty, .int .i64 0, .int .i64 0, .int .i64 0, .slice none 0 0, .slice none 0 0, .int .i64 0], .int .i64 0, .string ByteArray.empty], []⟩ 8 (by kernel_rfl) (by kernel_rfl) (by kernel_rfl) (by kernel_rfl))
    rfl rfl Try.underlying4 (by kernel_rfl) (by
      intro t ht
      simp only [Try.f10, List.mem_cons, List.not_mem_nil, or_false] at ht
      rcases ht with rfl | rfl | rfl <;> exact ⟨by kernel_rfl, by kernel_rfl, of_decide_eq_true (by kernel_rfl)⟩)
    (by
      intro ds hd
      match ds, hd with
      | [d0, d1, d2], _ => rfl)
    ok_laws_FnExactAddMail rfl (by
      intro xs hl hw
      match xs, hl with
      | [x0, x1, x2], _ =>
        obtain ⟨x0, rfl, c0⟩ := wf_Box (hw 0 25 x0 rfl rfl)
        obtain ⟨x1, rfl, _⟩ := wf_int Try.underlying3 (hw 1 3 x1 rfl rfl)
        obtain ⟨x2, rfl, c2⟩ := wf_string Try.underlying9 (hw 2 9 x2 rfl rfl)
        have c2 : x2.length ≤ 4611686018427387904 := by unfold reachBytes at c2; omega
        simp only [spLaw, Box.dec_enc, Option.bind_some]
        exact if_pos ⟨c0, c2⟩)
theorem over : Rows.fnExactAddMailRow.holds Try.pinned (OpenSpec.ofChange Rows.fnExactAddMailSpec) :=
  OpenClaim.holds_of_wide 10 Try.f10 rfl rfl rfl rfl rfl rfl rfl ⟨rfl, rfl, rfl, rfl, rfl⟩ rfl rfl rfl rfl rfl (by kernel_rfl) Try.func10 (by kernel_rfl)
    (of_decide_eq_true (by kernel_rfl)) (by unfold Func.isWrapper; first | (rw [if_pos (by decide +kernel)]; kernel_rfl) | (rw [if_neg (by decide +kernel)]; exact ⟨rfl, rfl⟩))
    (fun os started H enc _ => lifted os started H enc)
end Go.Proofs.Ytnledgcplgdpmaa.VAddMail
namespace Go.Proofs.Ytnledgcplgdpmaa
theorem fnExactAddMail_holds : Rows.FnExactAddMailSaid := VAddMail.over
#print axioms fnExactAddMail_holds
end Go.Proofs.Ytnledgcplgdpmaa
