/- The law FnExactBoxNew: the two functions that it calls answer alike, so it answers true. No condition. -/
import Derived.Test.YtnledgcplgdpmaaVLB
import Derived.Test.YtnledgcplgdpmaaVLH
import Derived.Test.YtnledgcplgdpmaaRows
import Derived.KernelRfl
namespace Go.Proofs.Ytnledgcplgdpmaa.VBoxNew
open Go Go.VM Go.Proofs.Ytnledgcplgdpmaa.L
set_option maxRecDepth 100000
set_option maxHeartbeats 4000000
set_option linter.unusedSimpArgs false
set_option linter.unusedVariables false
open Classical in
noncomputable def spLaw : VM.Spec := ⟨[.rd, .rd], fun | [.str aName, .int .i64 aValid] => if aName.length ≤ 4611686018427387904 then some (.bool true, []) else none | _ => none⟩
theorem spLaw_in {ins : List V} {r : V} {outs : List V} (h : spLaw.run ins = some (r, outs)) : ∃ (aName : (List UInt8)) (aValid : Int), ins = [.str aName, .int .i64 aValid] ∧ (aName.length ≤ 4611686018427387904) ∧ .bool true = r ∧ outs = [] := by
  unfold spLaw at h
  simp only at h
  split at h
  · rename_i aName aValid
    split at h
    case isFalse => cases h
    rename_i hc
    simp only [Option.some.injEq, Prod.mk.injEq] at h
    obtain ⟨h1, h2⟩ := h
    exact ⟨aName, aValid, rfl, hc, h1, h2.symm⟩
  · cases h
def T_laws_FnExactBoxNew : Hints := ⟨fun _ => none, fun _ => none, fun i => if i = 0 then some [0, 1] else if i = 1 then some [0, 1, 15] else if i = 2 then some [4] else if i = 3 then some [0, 1, 5, 6] else if i = 4 then some [0, 1, 5, 6, 7, 8] else if i = 5 then some [0, 1, 5, 6, 7, 36] else if i = 6 then some [4] else if i = 7 then some [0, 1, 5, 6, 7, 9] else if i = 8 then some [0, 1, 5, 6, 7, 9] else if i = 9 then some [0, 1, 5, 6, 7, 9, 10] else if i = 10 then some [0, 1, 5, 6, 7, 9, 10] else if i = 11 then some [0, 1, 5, 6, 7, 9, 10, 44] else if i = 12 then some [4] else if i = 13 then some [0, 1, 5, 6, 7, 9, 47] else if i = 14 then some [4] else if i = 15 then some [5, 6, 7, 9, 11, 12] else if i = 16 then some [7, 9, 62] else if i = 17 then some [4] else if i = 18 then some [7, 9, 10] else if i = 19 then some [9, 10] else if i = 20 then some [9, 10, 67] else if i = 21 then some [4] else if i = 22 then some [70] else if i = 23 then some [4] else if i = 24 then some [4] else none⟩
noncomputable def Phi_laws_FnExactBoxNew : Tab := fun f => if f = 20 then some spEqBox else if f = 21 then some spMarkBox else if f = 33 then some spHeldBox else if f = 31 then some spBoxNew else if f = 32 then some spBoxNew else none
theorem phi_laws_FnExactBoxNew : ∀ f sp, Phi_laws_FnExactBoxNew f = some sp → FnOk Try.prog f sp := by
  intro f sp h
  unfold Phi_laws_FnExactBoxNew at h
  split at h
  · rename_i e; cases h; rw [e]; exact ok_laws_eqBox
  split at h
  · rename_i e; cases h; rw [e]; exact ok_laws_markBox
  split at h
  · rename_i e; cases h; rw [e]; exact ok_laws_heldBox
  split at h
  · rename_i e; cases h; rw [e]; exact ok_spec_BoxNew
  split at h
  · rename_i e; cases h; rw [e]; exact ok_impl_BoxNew
  cases h
theorem ok_laws_FnExactBoxNew : FnOk Try.prog 6 spLaw := by
  refine fn_ok (Φ := Phi_laws_FnExactBoxNew) (T := T_laws_FnExactBoxNew) phi_laws_FnExactBoxNew mixed Try.func6 rfl rfl (by decide) ?_
  intro ins r outs hr hl
  clear hl
  have hs := spLaw_in hr
  clear hr
  obtain ⟨aName, aValid, rfl, hc, hr, rfl⟩ := hs
  simp only [spLaw, Try.f6, Go.VM.initS]
  have w0 := hc
  by_cases s0 : (1048576 : Int) < aName.length
  · simp only [s0, Phi_laws_FnExactBoxNew, T_laws_FnExactBoxNew, spBoxNew, spEqBox, spHeldBox, spMarkBox, go_sem, reduceIte, reduceCtorEq, Nat.reduceEqDiff, Nat.reduceBEq, Nat.reduceBNe, Nat.reduceMul, Nat.reduceAdd, Nat.reduceLT, Nat.reduceLeDiff, Nat.reduceSub, Int.reduceLT, Int.reduceLE, Int.reduceEq, Int.reduceNeg, Int.reduceAdd, Int.reduceSub, Int.reduceToNat, Int.reduceBEq, Int.reduceBNe, Array.reduceGetElem?]
    repeat' ((first | refine after_iteT.2 ⟨fun hp => ?_, fun hp => ?_⟩ | refine after_iteF.2 ⟨fun hp => ?_, fun hp => ?_⟩ | refine after_ite.2 ⟨fun hp => ?_, fun hp => ?_⟩ | refine grd_not.2 ⟨fun hp => ?_, fun hp => ?_⟩ | refine grd_beq.2 ⟨fun hp => ?_, fun hp => ?_⟩ | refine grd_dec.2 ⟨fun hp => ?_, fun hp => ?_⟩ | refine grd_bool.2 ⟨fun hp => ?_, fun hp => ?_⟩ | refine condG_not.2 ⟨fun hp => ?_, fun hp => ?_⟩ | refine condG_beq.2 ⟨fun hp => ?_, fun hp => ?_⟩ | refine condG_dec.2 ⟨fun hp => ?_, fun hp => ?_⟩ | refine condG_bool.2 ⟨fun hp => ?_, fun hp => ?_⟩ | (refine (goes_draw0 rfl (by decide +kernel)).2 ?_; have hp := True.intro) | (refine (goes_drawM _ rfl (by decide +kernel)).2 ?_; have hp := True.intro)) <;> simp only [hp, s0, Phi_laws_FnExactBoxNew, T_laws_FnExactBoxNew, spBoxNew, spEqBox, spHeldBox, spMarkBox, go_sem, reduceIte, reduceCtorEq, Nat.reduceEqDiff, Nat.reduceBEq, Nat.reduceBNe, Nat.reduceMul, Nat.reduceAdd, Nat.reduceLT, Nat.reduceLeDiff, Nat.reduceSub, Int.reduceLT, Int.reduceLE, Int.reduceEq, Int.reduceNeg, Int.reduceAdd, Int.reduceSub, Int.reduceToNat, Int.reduceBEq, Int.reduceBNe, Array.reduceGetElem?])
    simp only [fin_mk, finV, resL, resV1, allUse, oneOrTup, List.take, List.drop, List.take_succ_cons, List.take_zero, List.drop_succ_cons, List.drop_zero, Phi_laws_FnExactBoxNew, T_laws_FnExactBoxNew, spBoxNew, spEqBox, spHeldBox, spMarkBox, go_sem, reduceIte, reduceCtorEq, Nat.reduceEqDiff, Nat.reduceBEq, Nat.reduceBNe, Nat.reduceMul, Nat.reduceAdd, Nat.reduceLT, Nat.reduceLeDiff, Nat.reduceSub, Int.reduceLT, Int.reduceLE, Int.reduceEq, Int.reduceNeg, Int.reduceAdd, Int.reduceSub, Int.reduceToNat, Int.reduceBEq, Int.reduceBNe, Array.reduceGetElem?]
    rw [← hr]
  have b0 : aName.length ≤ 4194304 := by omega
  have q0 : (0 : Int) ≤ 1 := by decide
  have r0 : (boxNew aName aValid).le 4194304 := boxNew_le b0
  have r0_Mails : (boxNew aName aValid).Mails.length ≤ 4194304 := r0.2.1.1
  have r0_Tombs : (boxNew aName aValid).Tombs.length ≤ 4194304 := r0.2.2.1
  have me0 : (msBox (boxNew aName aValid) (1)).2 = 1 + (4 : Nat) * (boxNew aName aValid).Mails.length + (2 : Nat) * (boxNew aName aValid).Tombs.length := msBox_k _ _
  have mp0 : 0 ≤ (msBox (boxNew aName aValid) (1)).2 := by omega
  have mn0 : ¬ (msBox (boxNew aName aValid) (1)).2 < 0 := by omega
  have mb0 : (msBox (boxNew aName aValid) (1)).2 ≤ 288230376151711744 := by omega
  have mh0 : hsBox ⟨(boxNew aName aValid).Name, (boxNew aName aValid).Valid, (boxNew aName aValid).Next, (boxNew aName aValid).Mod, (msBox (boxNew aName aValid) (1)).1.Mails, (msBox (boxNew aName aValid) (1)).1.Tombs, (boxNew aName aValid).Horizon⟩ (1) = some ((msBox (boxNew aName aValid) (1)).2) := hsBox_marked _ _
  simp only [s0, b0, r0, r0_Mails, r0_Tombs, mp0, mn0, mb0, mh0, msBox_Mails, msBox_Tombs, q0, Option.getD_some, bne_self_eq_false, Phi_laws_FnExactBoxNew, T_laws_FnExactBoxNew, spBoxNew, spEqBox, spHeldBox, spMarkBox, go_sem, reduceIte, reduceCtorEq, Nat.reduceEqDiff, Nat.reduceBEq, Nat.reduceBNe, Nat.reduceMul, Nat.reduceAdd, Nat.reduceLT, Nat.reduceLeDiff, Nat.reduceSub, Int.reduceLT, Int.reduceLE, Int.reduceEq, Int.reduceNeg, Int.reduceAdd, Int.reduceSub, Int.reduceToNat, Int.reduceBEq, Int.reduceBNe, Array.reduceGetElem?]
  repeat' ((first | refine after_iteT.2 ⟨fun hp => ?_, fun hp => ?_⟩ | refine after_iteF.2 ⟨fun hp => ?_, fun hp => ?_⟩ | refine after_ite.2 ⟨fun hp => ?_, fun hp => ?_⟩ | refine grd_not.2 ⟨fun hp => ?_, fun hp => ?_⟩ | refine grd_beq.2 ⟨fun hp => ?_, fun hp => ?_⟩ | refine grd_dec.2 ⟨fun hp => ?_, fun hp => ?_⟩ | refine grd_bool.2 ⟨fun hp => ?_, fun hp => ?_⟩ | refine condG_not.2 ⟨fun hp => ?_, fun hp => ?_⟩ | refine condG_beq.2 ⟨fun hp => ?_, fun hp => ?_⟩ | refine condG_dec.2 ⟨fun hp => ?_, fun hp => ?_⟩ | refine condG_bool.2 ⟨fun hp => ?_, fun hp => ?_⟩ | (refine (goes_draw0 rfl (by decide +kernel)).2 ?_; have hp := True.intro) | (refine (goes_drawM _ rfl (by decide +kernel)).2 ?_; have hp := True.intro)) <;> simp only [hp, s0, b0, r0, r0_Mails, r0_Tombs, mp0, mn0, mb0, mh0, msBox_Mails, msBox_Tombs, q0, Option.getD_some, bne_self_eq_false, Phi_laws_FnExactBoxNew, T_laws_FnExactBoxNew, spBoxNew, spEqBox, spHeldBox, spMarkBox, go_sem, reduceIte, reduceCtorEq, Nat.reduceEqDiff, Nat.reduceBEq, Nat.reduceBNe, Nat.reduceMul, Nat.reduceAdd, Nat.reduceLT, Nat.reduceLeDiff, Nat.reduceSub, Int.reduceLT, Int.reduceLE, Int.reduceEq, Int.reduceNeg, Int.reduceAdd, Int.reduceSub, Int.reduceToNat, Int.reduceBEq, Int.reduceBNe, Array.reduceGetElem?])
  all_goals (simp only [fin_mk, finV, resL, resV1, allUse, oneOrTup, List.take, List.drop, List.take_succ_cons, List.take_zero, List.drop_succ_cons, List.drop_zero, Phi_laws_FnExactBoxNew, T_laws_FnExactBoxNew, spBoxNew, spEqBox, spHeldBox, spMarkBox, go_sem, reduceIte, reduceCtorEq, Nat.reduceEqDiff, Nat.reduceBEq, Nat.reduceBNe, Nat.reduceMul, Nat.reduceAdd, Nat.reduceLT, Nat.reduceLeDiff, Nat.reduceSub, Int.reduceLT, Int.reduceLE, Int.reduceEq, Int.reduceNeg, Int.reduceAdd, Int.reduceSub, Int.reduceToNat, Int.reduceBEq, Int.reduceBNe, Array.reduceGetElem?]; rw [← hr])
set_option maxRecDepth 100000 in
theorem own : ownKnob Try.prog.godebug = none := by kernel_rfl
theorem lifted (os : Os) (started : os.Started) (H : Type) (enc : TypeId × Value → H) :
    ReturnsInHanded {} Try.checked os 6 .any (Rows.fnExactBoxNewSpec.pre6 enc Try.prog Try.f6 Rows.fnExactBoxNewRow.domain false) (Rows.fnExactBoxNewSpec.post enc Try.prog Try.f6 false true false false) :=
  law_of_fn (C := Try.checked) (n := 1) own started (by kernel_rfl) Try.func6 rfl rfl
    (ChangeSpec.witness6 (enc := enc) (C := Try.checked) false ⟨#[], #[.string ByteArray.empty, .int .i64 0], []⟩ 8 (by kernel_rfl) (by kernel_rfl) (by kernel_rfl) (by kernel_rfl))
    rfl rfl Try.underlying4 (by kernel_rfl) (by
      intro t ht
      simp only [Try.f6, List.mem_cons, List.not_mem_nil, or_false] at ht
      rcases ht with rfl | rfl <;> exact ⟨by kernel_rfl, by kernel_rfl, of_decide_eq_true (by kernel_rfl)⟩)
    (by
      intro ds hd
      match ds, hd with
      | [d0, d1], _ => rfl)
    ok_laws_FnExactBoxNew rfl (by
      intro xs hl hw
      match xs, hl with
      | [x0, x1], _ =>
        obtain ⟨x0, rfl, c0⟩ := wf_string Try.underlying9 (hw 0 9 x0 rfl rfl)
        have c0 : x0.length ≤ 4611686018427387904 := by unfold reachBytes at c0; omega
        obtain ⟨x1, rfl, _⟩ := wf_int Try.underlying3 (hw 1 3 x1 rfl rfl)
        simp only [spLaw, Option.bind_some]
        exact if_pos c0)
theorem over : Rows.fnExactBoxNewRow.holds Try.pinned (OpenSpec.ofChange Rows.fnExactBoxNewSpec) :=
  OpenClaim.holds_of_wide 6 Try.f6 rfl rfl rfl rfl rfl rfl rfl ⟨rfl, rfl, rfl, rfl, rfl⟩ rfl rfl rfl rfl rfl (by kernel_rfl) Try.func6 (by kernel_rfl)
    (of_decide_eq_true (by kernel_rfl)) (by unfold Func.isWrapper; first | (rw [if_pos (by decide +kernel)]; kernel_rfl) | (rw [if_neg (by decide +kernel)]; exact ⟨rfl, rfl⟩))
    (fun os started H enc _ => lifted os started H enc)
end Go.Proofs.Ytnledgcplgdpmaa.VBoxNew
namespace Go.Proofs.Ytnledgcplgdpmaa
theorem fnExactBoxNew_holds : Rows.FnExactBoxNewSaid := VBoxNew.over
#print axioms fnExactBoxNew_holds
end Go.Proofs.Ytnledgcplgdpmaa
