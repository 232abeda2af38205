/- The law FnExactBaseSubject: the two functions that it calls answer alike, so it answers true. No condition. -/
import Derived.Test.YthokmmknbbghbaaDoorVLS
import Derived.Test.YthokmmknbbghbaaDoorVmDoor
import Derived.Test.YthokmmknbbghbaaDoorTie
import Derived.Test.YthokmmknbbghbaaDoorCards
import Derived.Test.YthokmmknbbghbaaDoorRows
import Derived.KernelRfl
namespace Go.Proofs.YthokmmknbbghbaaDoor.VBaseSubject
open Go Go.VM Go.Proofs.YthokmmknbbghbaaDoor.L
set_option maxRecDepth 100000
set_option maxHeartbeats 4000000
set_option linter.unusedSimpArgs false
set_option linter.unusedVariables false
open Classical in
noncomputable def spLaw : VM.Spec := ⟨[.rd], fun | [.str aS] => if aS.length ≤ 4611686018427387904 then some (.bool true, []) else none | _ => none⟩
theorem spLaw_in {ins : List V} {r : V} {outs : List V} (h : spLaw.run ins = some (r, outs)) : ∃ (aS : (List UInt8)), ins = [.str aS] ∧ (aS.length ≤ 4611686018427387904) ∧ .bool true = r ∧ outs = [] := by
  unfold spLaw at h
  simp only at h
  split at h
  · rename_i aS
    split at h
    case isFalse => cases h
    rename_i hc
    simp only [Option.some.injEq, Prod.mk.injEq] at h
    obtain ⟨h1, h2⟩ := h
    exact ⟨aS, rfl, hc, h1, h2.symm⟩
  · cases h
def T_laws_FnExactBaseSubject : Hints := ⟨fun _ => none, fun _ => none, fun i => if i = 0 then some [0] else if i = 1 then some [0, 7] else if i = 2 then some [2] else if i = 3 then some [0, 3] else if i = 4 then some [3, 4] else if i = 5 then some [14] else if i = 6 then some [2] else if i = 7 then some [2] else none⟩
noncomputable def Phi_laws_FnExactBaseSubject : Tab := fun f => if f = 13 then some spBaseSubject else if f = 14 then some spBaseSubject else none
theorem phi_laws_FnExactBaseSubject : ∀ f sp, Phi_laws_FnExactBaseSubject f = some sp → FnOk Tryd.prog f sp := by
  intro f sp h
  unfold Phi_laws_FnExactBaseSubject at h
  split at h
  · rename_i e; cases h; rw [e]; exact ok_spec_BaseSubject
  split at h
  · rename_i e; cases h; rw [e]; exact ok_impl_BaseSubject
  cases h
theorem ok_laws_FnExactBaseSubject : FnOk Tryd.prog 3 spLaw := by
  refine fn_ok (Φ := Phi_laws_FnExactBaseSubject) (T := T_laws_FnExactBaseSubject) phi_laws_FnExactBaseSubject mixed Tryd.func3 rfl rfl (by decide) ?_
  intro ins r outs hr hl
  clear hl
  have hs := spLaw_in hr
  clear hr
  obtain ⟨aS, rfl, hc, hr, rfl⟩ := hs
  simp only [spLaw, Tryd.f3, Go.VM.initS]
  have w0 := hc
  by_cases s0 : (1048576 : Int) < aS.length
  · simp only [s0, Phi_laws_FnExactBaseSubject, T_laws_FnExactBaseSubject, spBaseSubject, go_sem, reduceIte, reduceCtorEq, Nat.reduceEqDiff, Nat.reduceBEq, Nat.reduceBNe, Nat.reduceMul, Nat.reduceAdd, Nat.reduceLT, Nat.reduceLeDiff, Nat.reduceSub, Int.reduceLT, Int.reduceLE, Int.reduceEq, Int.reduceNeg, Int.reduceAdd, Int.reduceSub, Int.reduceToNat, Int.reduceBEq, Int.reduceBNe, Array.reduceGetElem?]
    repeat' ((first | refine after_iteT.2 ⟨fun hp => ?_, fun hp => ?_⟩ | refine after_iteF.2 ⟨fun hp => ?_, fun hp => ?_⟩ | refine after_ite.2 ⟨fun hp => ?_, fun hp => ?_⟩ | refine grd_not.2 ⟨fun hp => ?_, fun hp => ?_⟩ | refine grd_beq.2 ⟨fun hp => ?_, fun hp => ?_⟩ | refine grd_dec.2 ⟨fun hp => ?_, fun hp => ?_⟩ | refine grd_bool.2 ⟨fun hp => ?_, fun hp => ?_⟩ | refine condG_not.2 ⟨fun hp => ?_, fun hp => ?_⟩ | refine condG_beq.2 ⟨fun hp => ?_, fun hp => ?_⟩ | refine condG_dec.2 ⟨fun hp => ?_, fun hp => ?_⟩ | refine condG_bool.2 ⟨fun hp => ?_, fun hp => ?_⟩ | (refine (goes_draw0 rfl (by decide +kernel)).2 ?_; have hp := True.intro) | (refine (goes_drawM _ rfl (by decide +kernel)).2 ?_; have hp := True.intro)) <;> simp only [hp, s0, Phi_laws_FnExactBaseSubject, T_laws_FnExactBaseSubject, spBaseSubject, go_sem, reduceIte, reduceCtorEq, Nat.reduceEqDiff, Nat.reduceBEq, Nat.reduceBNe, Nat.reduceMul, Nat.reduceAdd, Nat.reduceLT, Nat.reduceLeDiff, Nat.reduceSub, Int.reduceLT, Int.reduceLE, Int.reduceEq, Int.reduceNeg, Int.reduceAdd, Int.reduceSub, Int.reduceToNat, Int.reduceBEq, Int.reduceBNe, Array.reduceGetElem?])
    simp only [fin_mk, finV, resL, resV1, allUse, oneOrTup, List.take, List.drop, List.take_succ_cons, List.take_zero, List.drop_succ_cons, List.drop_zero, Phi_laws_FnExactBaseSubject, T_laws_FnExactBaseSubject, spBaseSubject, go_sem, reduceIte, reduceCtorEq, Nat.reduceEqDiff, Nat.reduceBEq, Nat.reduceBNe, Nat.reduceMul, Nat.reduceAdd, Nat.reduceLT, Nat.reduceLeDiff, Nat.reduceSub, Int.reduceLT, Int.reduceLE, Int.reduceEq, Int.reduceNeg, Int.reduceAdd, Int.reduceSub, Int.reduceToNat, Int.reduceBEq, Int.reduceBNe, Array.reduceGetElem?]
    rw [← hr]
  have b0 : aS.length ≤ 4194304 := by omega
  have bb0 : aS.length ≤ 1099511627776 := by omega
  simp only [bb0, s0, b0, Phi_laws_FnExactBaseSubject, T_laws_FnExactBaseSubject, spBaseSubject, go_sem, reduceIte, reduceCtorEq, Nat.reduceEqDiff, Nat.reduceBEq, Nat.reduceBNe, Nat.reduceMul, Nat.reduceAdd, Nat.reduceLT, Nat.reduceLeDiff, Nat.reduceSub, Int.reduceLT, Int.reduceLE, Int.reduceEq, Int.reduceNeg, Int.reduceAdd, Int.reduceSub, Int.reduceToNat, Int.reduceBEq, Int.reduceBNe, Array.reduceGetElem?]
  repeat' ((first | refine after_iteT.2 ⟨fun hp => ?_, fun hp => ?_⟩ | refine after_iteF.2 ⟨fun hp => ?_, fun hp => ?_⟩ | refine after_ite.2 ⟨fun hp => ?_, fun hp => ?_⟩ | refine grd_not.2 ⟨fun hp => ?_, fun hp => ?_⟩ | refine grd_beq.2 ⟨fun hp => ?_, fun hp => ?_⟩ | refine grd_dec.2 ⟨fun hp => ?_, fun hp => ?_⟩ | refine grd_bool.2 ⟨fun hp => ?_, fun hp => ?_⟩ | refine condG_not.2 ⟨fun hp => ?_, fun hp => ?_⟩ | refine condG_beq.2 ⟨fun hp => ?_, fun hp => ?_⟩ | refine condG_dec.2 ⟨fun hp => ?_, fun hp => ?_⟩ | refine condG_bool.2 ⟨fun hp => ?_, fun hp => ?_⟩ | (refine (goes_draw0 rfl (by decide +kernel)).2 ?_; have hp := True.intro) | (refine (goes_drawM _ rfl (by decide +kernel)).2 ?_; have hp := True.intro)) <;> simp only [hp, bb0, s0, b0, Phi_laws_FnExactBaseSubject, T_laws_FnExactBaseSubject, spBaseSubject, go_sem, reduceIte, reduceCtorEq, Nat.reduceEqDiff, Nat.reduceBEq, Nat.reduceBNe, Nat.reduceMul, Nat.reduceAdd, Nat.reduceLT, Nat.reduceLeDiff, Nat.reduceSub, Int.reduceLT, Int.reduceLE, Int.reduceEq, Int.reduceNeg, Int.reduceAdd, Int.reduceSub, Int.reduceToNat, Int.reduceBEq, Int.reduceBNe, Array.reduceGetElem?])
  all_goals (simp only [fin_mk, finV, resL, resV1, allUse, oneOrTup, List.take, List.drop, List.take_succ_cons, List.take_zero, List.drop_succ_cons, List.drop_zero, Phi_laws_FnExactBaseSubject, T_laws_FnExactBaseSubject, spBaseSubject, go_sem, reduceIte, reduceCtorEq, Nat.reduceEqDiff, Nat.reduceBEq, Nat.reduceBNe, Nat.reduceMul, Nat.reduceAdd, Nat.reduceLT, Nat.reduceLeDiff, Nat.reduceSub, Int.reduceLT, Int.reduceLE, Int.reduceEq, Int.reduceNeg, Int.reduceAdd, Int.reduceSub, Int.reduceToNat, Int.reduceBEq, Int.reduceBNe, Array.reduceGetElem?]; rw [← hr])
set_option maxRecDepth 100000 in
theorem own : ownKnob Tryd.prog.godebug = none := by kernel_rfl
theorem lifted (os : Os) (started : os.Started) (H : Type) (enc : TypeId × Value → H) :
    ReturnsInHanded {} Tryd.checked os 3 .any (fun w args => (Rows.fnExactBaseSubjectSpec.pre enc Tryd.prog Tryd.f3 [] false w args ∧ laidMetH Tryd.prog Rows.fnExactBaseSubjectRow.laid w) ∧ sizedMet enc Tryd.prog Tryd.f3 (OpenSpec.ofChange Rows.fnExactBaseSubjectSpec) false w args) (Rows.fnExactBaseSubjectSpec.post enc Tryd.prog Tryd.f3 false true false false) :=
  laid_of_fn Rows.fnExactBaseSubjectRow.laid (C := Tryd.checked) (n := 1) own started (by kernel_rfl) Tryd.func3 rfl rfl
    (ChangeSpec.witness_shaped (enc := enc) (C := Tryd.checked) (os := os) (X := fun w _ => laidMetH Tryd.prog Rows.fnExactBaseSubjectRow.laid w) false (World.laidAll Tryd.prog os Rows.fnExactBaseSubjectRow.laid) #[.string ByteArray.empty] 8 (World.laidAll_os _ _ _)
      (World.shaped_of_ZipB (by kernel_rfl) (by kernel_rfl)) (by kernel_rfl) (by kernel_rfl) (by kernel_rfl)
      (by rw [MakeChecks.laidMetH_plain _ _ _ (by kernel_rfl)]; exact laidMet_laidAll _ (by kernel_rfl) (by kernel_rfl)))
    rfl rfl Tryd.underlying4 (by kernel_rfl) (by
      intro t ht
      simp only [Tryd.f3, List.mem_cons, List.not_mem_nil, or_false] at ht
      subst ht; exact ⟨by kernel_rfl, by kernel_rfl, of_decide_eq_true (by kernel_rfl)⟩)
    (by
      intro ds hd
      match ds, hd with
      | [d0], _ => rfl)
    ok_laws_FnExactBaseSubject rfl (by
      intro xs hl hw
      match xs, hl with
      | [x0], _ =>
        obtain ⟨x0, rfl, c0⟩ := wf_string Tryd.underlying9 (hw 0 9 x0 rfl rfl)
        have c0 : x0.length ≤ 4611686018427387904 := by unfold reachBytes at c0; omega
        simp only [spLaw, Option.bind_some]
        exact if_pos c0)
theorem over : Rows.fnExactBaseSubjectRow.holds Tryd.pinned (OpenSpec.ofChange Rows.fnExactBaseSubjectSpec) :=
  OpenClaim.holds_of_wide 3 Tryd.f3 rfl rfl rfl rfl rfl rfl rfl ⟨rfl, rfl, rfl, rfl, rfl⟩ rfl rfl rfl rfl rfl (by kernel_rfl) Tryd.func3 (by kernel_rfl)
    (of_decide_eq_true (by kernel_rfl)) (by unfold Func.isWrapper; first | (rw [if_pos (by decide +kernel)]; kernel_rfl) | (rw [if_neg (by decide +kernel)]; exact ⟨rfl, rfl⟩))
    (fun os started H enc _ => lifted os started H enc)
theorem card : Rows.FnExactBaseSubjectCardSaid :=
  Claim7.holds_tied_plain_at .later [] [.data, .pinned] true (true, "0d244fbf734e7a49ab39064b6cddcff7760c76f0cc8a9fbd24f31b4b9582e6bd") true over (fun _ h => by cases h) (by kernel_rfl) (fun _ h => by cases h) fnExactBaseSubject_row_tie rfl ⟨rfl, rfl⟩ (by kernel_rfl) rfl
    (fun f fn hf hfn => by
      obtain rfl : f = 3 := Option.some.inj ((show Tryd.prog.funcNamed "loop.example/g00247/laws.FnExactBaseSubject" = some 3 by kernel_rfl).symm.trans hf) |>.symm
      obtain rfl : fn = Tryd.f3 := (Option.some.inj (Tryd.func3.symm.trans hfn)).symm
      exact ⟨by kernel_rfl, fun j t ht => by
        have hm : t ∈ Tryd.f3.params.toList := Array.mem_toList_iff.2 (Array.mem_of_getElem? ht)
        have hall : (Tryd.f3.params.toList.all fun u => !Tryd.prog.wantsStandIn u) = true := by kernel_rfl
        exact (show Tryd.prog.wantsStandIn t = false by simpa using List.all_eq_true.1 hall t hm)⟩)
    (by kernel_rfl)
end Go.Proofs.YthokmmknbbghbaaDoor.VBaseSubject
namespace Go.Proofs.YthokmmknbbghbaaDoor
theorem fnExactBaseSubject_holds : Rows.FnExactBaseSubjectCardSaid := VBaseSubject.card
#print axioms fnExactBaseSubject_holds
end Go.Proofs.YthokmmknbbghbaaDoor
