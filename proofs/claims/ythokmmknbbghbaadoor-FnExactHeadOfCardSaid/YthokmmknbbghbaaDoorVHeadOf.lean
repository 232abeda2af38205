/- The law FnExactHeadOf: the two functions that it calls answer alike, so it answers true. No condition. -/
import Derived.Test.YthokmmknbbghbaaDoorVLS2
import Derived.Test.YthokmmknbbghbaaDoorVmDoor
import Derived.Test.YthokmmknbbghbaaDoorTie
import Derived.Test.YthokmmknbbghbaaDoorCards
import Derived.Test.YthokmmknbbghbaaDoorRows
import Derived.KernelRfl
namespace Go.Proofs.YthokmmknbbghbaaDoor.VHeadOf
open Go Go.VM Go.Proofs.YthokmmknbbghbaaDoor.L
set_option maxRecDepth 100000
set_option maxHeartbeats 4000000
set_option linter.unusedSimpArgs false
set_option linter.unusedVariables false
open Classical in
noncomputable def spLaw : VM.Spec := { modes := [.rd, .rd], run := fun | [.str aT, .str aName] => if aT.length ≤ 4611686018427387904 ∧ aName.length ≤ 4611686018427387904 then some (.bool true, []) else none | _ => none, need := ["internal/bytealg.MaxLen"] }
theorem spLaw_in {ins : List V} {r : V} {outs : List V} (h : spLaw.run ins = some (r, outs)) : ∃ (aT : (List UInt8)) (aName : (List UInt8)), ins = [.str aT, .str aName] ∧ (aT.length ≤ 4611686018427387904 ∧ aName.length ≤ 4611686018427387904) ∧ .bool true = r ∧ outs = [] := by
  unfold spLaw at h
  simp only at h
  split at h
  · rename_i aT aName
    split at h
    case isFalse => cases h
    rename_i hc
    simp only [Option.some.injEq, Prod.mk.injEq] at h
    obtain ⟨h1, h2⟩ := h
    exact ⟨aT, aName, rfl, hc, h1, h2.symm⟩
  · cases h
def T_laws_FnExactHeadOf : Hints := ⟨fun _ => none, fun _ => none, fun i => if i = 0 then some [0, 1] else if i = 1 then some [0, 1, 11] else if i = 2 then some [4] else if i = 3 then some [0, 1, 14] else if i = 4 then some [4] else if i = 5 then some [0, 1, 5, 6] else if i = 6 then some [5, 6, 7, 8] else if i = 7 then some [34] else if i = 8 then some [4] else if i = 9 then some [4] else none⟩
noncomputable def Phi_laws_FnExactHeadOf : Tab := fun f => if f = 17 then some spHeadOf else if f = 18 then some spHeadOf else none
theorem phi_laws_FnExactHeadOf : ∀ f sp, Phi_laws_FnExactHeadOf f = some sp → FnOk Tryd.prog f sp ∧ ∀ n ∈ sp.need, n ∈ (["internal/bytealg.MaxLen"] : List String) := by
  intro f sp h
  unfold Phi_laws_FnExactHeadOf at h
  split at h
  · rename_i e; cases h; rw [e]; exact ⟨ok_spec_HeadOf, (fun n (h : n ∈ (["internal/bytealg.MaxLen"] : List String)) => by simp only [List.mem_cons, List.not_mem_nil, or_false] at h; rcases h with rfl <;> simp)⟩
  split at h
  · rename_i e; cases h; rw [e]; exact ⟨ok_impl_HeadOf, (fun n (h : n ∈ (["internal/bytealg.MaxLen"] : List String)) => by simp only [List.mem_cons, List.not_mem_nil, or_false] at h; rcases h with rfl <;> simp)⟩
  cases h
theorem ok_laws_FnExactHeadOf : FnOk Tryd.prog 5 spLaw := by
  refine fn_ok (Φ := Phi_laws_FnExactHeadOf) (T := T_laws_FnExactHeadOf) phi_laws_FnExactHeadOf mixed Tryd.func5 rfl rfl rfl (by decide) ?_
  intro ins r outs hr hl
  clear hl
  have hs := spLaw_in hr
  clear hr
  obtain ⟨aT, aName, rfl, hc, hr, rfl⟩ := hs
  simp only [spLaw, Tryd.f5, Go.VM.initS]
  obtain ⟨w0, w1⟩ := hc
  by_cases s0 : (1048576 : Int) < aT.length
  · simp only [s0, Phi_laws_FnExactHeadOf, T_laws_FnExactHeadOf, spHeadOf, go_sem, reduceIte, reduceCtorEq, Nat.reduceEqDiff, Nat.reduceBEq, Nat.reduceBNe, Nat.reduceMul, Nat.reduceAdd, Nat.reduceLT, Nat.reduceLeDiff, Nat.reduceSub, Int.reduceLT, Int.reduceLE, Int.reduceEq, Int.reduceNeg, Int.reduceAdd, Int.reduceSub, Int.reduceToNat, Int.reduceBEq, Int.reduceBNe, Array.reduceGetElem?]
    repeat' ((first | refine after_iteT.2 ⟨fun hp => ?_, fun hp => ?_⟩ | refine after_iteF.2 ⟨fun hp => ?_, fun hp => ?_⟩ | refine after_ite.2 ⟨fun hp => ?_, fun hp => ?_⟩ | refine grd_not.2 ⟨fun hp => ?_, fun hp => ?_⟩ | refine grd_beq.2 ⟨fun hp => ?_, fun hp => ?_⟩ | refine grd_dec.2 ⟨fun hp => ?_, fun hp => ?_⟩ | refine grd_bool.2 ⟨fun hp => ?_, fun hp => ?_⟩ | refine condG_not.2 ⟨fun hp => ?_, fun hp => ?_⟩ | refine condG_beq.2 ⟨fun hp => ?_, fun hp => ?_⟩ | refine condG_dec.2 ⟨fun hp => ?_, fun hp => ?_⟩ | refine condG_bool.2 ⟨fun hp => ?_, fun hp => ?_⟩ | (refine (goes_draw0 rfl (by decide +kernel)).2 ?_; have hp := True.intro) | (refine (goes_drawM _ rfl (by decide +kernel)).2 ?_; have hp := True.intro)) <;> simp only [hp, s0, Phi_laws_FnExactHeadOf, T_laws_FnExactHeadOf, spHeadOf, go_sem, reduceIte, reduceCtorEq, Nat.reduceEqDiff, Nat.reduceBEq, Nat.reduceBNe, Nat.reduceMul, Nat.reduceAdd, Nat.reduceLT, Nat.reduceLeDiff, Nat.reduceSub, Int.reduceLT, Int.reduceLE, Int.reduceEq, Int.reduceNeg, Int.reduceAdd, Int.reduceSub, Int.reduceToNat, Int.reduceBEq, Int.reduceBNe, Array.reduceGetElem?])
    simp only [fin_mk, finV, resL, resV1, allUse, oneOrTup, List.take, List.drop, List.take_succ_cons, List.take_zero, List.drop_succ_cons, List.drop_zero, Phi_laws_FnExactHeadOf, T_laws_FnExactHeadOf, spHeadOf, go_sem, reduceIte, reduceCtorEq, Nat.reduceEqDiff, Nat.reduceBEq, Nat.reduceBNe, Nat.reduceMul, Nat.reduceAdd, Nat.reduceLT, Nat.reduceLeDiff, Nat.reduceSub, Int.reduceLT, Int.reduceLE, Int.reduceEq, Int.reduceNeg, Int.reduceAdd, Int.reduceSub, Int.reduceToNat, Int.reduceBEq, Int.reduceBNe, Array.reduceGetElem?]
    rw [← hr]
  have b0 : aT.length ≤ 4194304 := by omega
  have bb0 : aT.length ≤ 1099511627776 := by omega
  by_cases s1 : (1048576 : Int) < aName.length
  · simp only [bb0, s0, b0, s1, Phi_laws_FnExactHeadOf, T_laws_FnExactHeadOf, spHeadOf, go_sem, reduceIte, reduceCtorEq, Nat.reduceEqDiff, Nat.reduceBEq, Nat.reduceBNe, Nat.reduceMul, Nat.reduceAdd, Nat.reduceLT, Nat.reduceLeDiff, Nat.reduceSub, Int.reduceLT, Int.reduceLE, Int.reduceEq, Int.reduceNeg, Int.reduceAdd, Int.reduceSub, Int.reduceToNat, Int.reduceBEq, Int.reduceBNe, Array.reduceGetElem?]
    repeat' ((first | refine after_iteT.2 ⟨fun hp => ?_, fun hp => ?_⟩ | refine after_iteF.2 ⟨fun hp => ?_, fun hp => ?_⟩ | refine after_ite.2 ⟨fun hp => ?_, fun hp => ?_⟩ | refine grd_not.2 ⟨fun hp => ?_, fun hp => ?_⟩ | refine grd_beq.2 ⟨fun hp => ?_, fun hp => ?_⟩ | refine grd_dec.2 ⟨fun hp => ?_, fun hp => ?_⟩ | refine grd_bool.2 ⟨fun hp => ?_, fun hp => ?_⟩ | refine condG_not.2 ⟨fun hp => ?_, fun hp => ?_⟩ | refine condG_beq.2 ⟨fun hp => ?_, fun hp => ?_⟩ | refine condG_dec.2 ⟨fun hp => ?_, fun hp => ?_⟩ | refine condG_bool.2 ⟨fun hp => ?_, fun hp => ?_⟩ | (refine (goes_draw0 rfl (by decide +kernel)).2 ?_; have hp := True.intro) | (refine (goes_drawM _ rfl (by decide +kernel)).2 ?_; have hp := True.intro)) <;> simp only [hp, bb0, s0, b0, s1, Phi_laws_FnExactHeadOf, T_laws_FnExactHeadOf, spHeadOf, go_sem, reduceIte, reduceCtorEq, Nat.reduceEqDiff, Nat.reduceBEq, Nat.reduceBNe, Nat.reduceMul, Nat.reduceAdd, Nat.reduceLT, Nat.reduceLeDiff, Nat.reduceSub, Int.reduceLT, Int.reduceLE, Int.reduceEq, Int.reduceNeg, Int.reduceAdd, Int.reduceSub, Int.reduceToNat, Int.reduceBEq, Int.reduceBNe, Array.reduceGetElem?])
    simp only [fin_mk, finV, resL, resV1, allUse, oneOrTup, List.take, List.drop, List.take_succ_cons, List.take_zero, List.drop_succ_cons, List.drop_zero, Phi_laws_FnExactHeadOf, T_laws_FnExactHeadOf, spHeadOf, go_sem, reduceIte, reduceCtorEq, Nat.reduceEqDiff, Nat.reduceBEq, Nat.reduceBNe, Nat.reduceMul, Nat.reduceAdd, Nat.reduceLT, Nat.reduceLeDiff, Nat.reduceSub, Int.reduceLT, Int.reduceLE, Int.reduceEq, Int.reduceNeg, Int.reduceAdd, Int.reduceSub, Int.reduceToNat, Int.reduceBEq, Int.reduceBNe, Array.reduceGetElem?]
    rw [← hr]
  have b1 : aName.length ≤ 4194304 := by omega
  have bb1 : aName.length ≤ 1099511627776 := by omega
  simp only [bb0, s0, b0, bb1, s1, b1, Phi_laws_FnExactHeadOf, T_laws_FnExactHeadOf, spHeadOf, go_sem, reduceIte, reduceCtorEq, Nat.reduceEqDiff, Nat.reduceBEq, Nat.reduceBNe, Nat.reduceMul, Nat.reduceAdd, Nat.reduceLT, Nat.reduceLeDiff, Nat.reduceSub, Int.reduceLT, Int.reduceLE, Int.reduceEq, Int.reduceNeg, Int.reduceAdd, Int.reduceSub, Int.reduceToNat, Int.reduceBEq, Int.reduceBNe, Array.reduceGetElem?]
  repeat' ((first | refine after_iteT.2 ⟨fun hp => ?_, fun hp => ?_⟩ | refine after_iteF.2 ⟨fun hp => ?_, fun hp => ?_⟩ | refine after_ite.2 ⟨fun hp => ?_, fun hp => ?_⟩ | refine grd_not.2 ⟨fun hp => ?_, fun hp => ?_⟩ | refine grd_beq.2 ⟨fun hp => ?_, fun hp => ?_⟩ | refine grd_dec.2 ⟨fun hp => ?_, fun hp => ?_⟩ | refine grd_bool.2 ⟨fun hp => ?_, fun hp => ?_⟩ | refine condG_not.2 ⟨fun hp => ?_, fun hp => ?_⟩ | refine condG_beq.2 ⟨fun hp => ?_, fun hp => ?_⟩ | refine condG_dec.2 ⟨fun hp => ?_, fun hp => ?_⟩ | refine condG_bool.2 ⟨fun hp => ?_, fun hp => ?_⟩ | (refine (goes_draw0 rfl (by decide +kernel)).2 ?_; have hp := True.intro) | (refine (goes_drawM _ rfl (by decide +kernel)).2 ?_; have hp := True.intro)) <;> simp only [hp, bb0, s0, b0, bb1, s1, b1, Phi_laws_FnExactHeadOf, T_laws_FnExactHeadOf, spHeadOf, go_sem, reduceIte, reduceCtorEq, Nat.reduceEqDiff, Nat.reduceBEq, Nat.reduceBNe, Nat.reduceMul, Nat.reduceAdd, Nat.reduceLT, Nat.reduceLeDiff, Nat.reduceSub, Int.reduceLT, Int.reduceLE, Int.reduceEq, Int.reduceNeg, Int.reduceAdd, Int.reduceSub, Int.reduceToNat, Int.reduceBEq, Int.reduceBNe, Array.reduceGetElem?])
  all_goals (simp only [fin_mk, finV, resL, resV1, allUse, oneOrTup, List.take, List.drop, List.take_succ_cons, List.take_zero, List.drop_succ_cons, List.drop_zero, Phi_laws_FnExactHeadOf, T_laws_FnExactHeadOf, spHeadOf, go_sem, reduceIte, reduceCtorEq, Nat.reduceEqDiff, Nat.reduceBEq, Nat.reduceBNe, Nat.reduceMul, Nat.reduceAdd, Nat.reduceLT, Nat.reduceLeDiff, Nat.reduceSub, Int.reduceLT, Int.reduceLE, Int.reduceEq, Int.reduceNeg, Int.reduceAdd, Int.reduceSub, Int.reduceToNat, Int.reduceBEq, Int.reduceBNe, Array.reduceGetElem?]; rw [← hr])
set_option maxRecDepth 100000 in
theorem gbase (W : World) (hL : laidMetH Tryd.prog Rows.fnExactHeadOfRow.laid W) (hsh : W.ShapedOpen Tryd.prog) : GBase Tryd.prog spLaw.need W :=
  ⟨fun h => absurd (show "internal/strconv.uint64pow10" ∈ (["internal/bytealg.MaxLen"] : List String) from h) (by simp),
   fun _ => (let ⟨m, hm⟩ := Go.Proofs.cell_of_shapedOpen_int hsh (g := 0) (t := 3) (zero := #[.int .i64 0]) (of_decide_eq_true (by kernel_rfl)) (by kernel_rfl) rfl (by kernel_rfl) (by kernel_rfl) Tryd.underlying3; ⟨0, m, by kernel_rfl, hm⟩),
   fun h => absurd (show "strconv.ErrSyntax" ∈ (["internal/bytealg.MaxLen"] : List String) from h) (by simp),
   fun h => absurd (show "strconv.ErrRange" ∈ (["internal/bytealg.MaxLen"] : List String) from h) (by simp)⟩
set_option maxRecDepth 100000 in
theorem own : ownKnob Tryd.prog.godebug = none := by kernel_rfl
theorem lifted (os : Os) (started : os.Started) (H : Type) (enc : TypeId × Value → H) :
    ReturnsInHanded {} Tryd.checked os 5 .any (fun w args => (Rows.fnExactHeadOfSpec.pre enc Tryd.prog Tryd.f5 [] false w args ∧ laidMetH Tryd.prog Rows.fnExactHeadOfRow.laid w) ∧ sizedMet enc Tryd.prog Tryd.f5 (OpenSpec.ofChange Rows.fnExactHeadOfSpec) false w args) (Rows.fnExactHeadOfSpec.post enc Tryd.prog Tryd.f5 false true false false) :=
  laid_of_fn Rows.fnExactHeadOfRow.laid (C := Tryd.checked) (n := 1) own started (by kernel_rfl) Tryd.func5 rfl rfl
    (ChangeSpec.witness_shaped (enc := enc) (C := Tryd.checked) (os := os) (X := fun w _ => laidMetH Tryd.prog Rows.fnExactHeadOfRow.laid w) false (World.laidAll Tryd.prog os Rows.fnExactHeadOfRow.laid) #[.string ByteArray.empty, .string ByteArray.empty] 8 (World.laidAll_os _ _ _)
      (World.shaped_of_ZipB (by kernel_rfl) (by kernel_rfl)) (by kernel_rfl) (by kernel_rfl) (by kernel_rfl)
      (by rw [MakeChecks.laidMetH_plain _ _ _ (by kernel_rfl)]; exact laidMet_laidAll _ (by kernel_rfl) (by kernel_rfl)))
    rfl rfl Tryd.underlying4 (by kernel_rfl) (by
      intro t ht
      simp only [Tryd.f5, List.mem_cons, List.not_mem_nil, or_false] at ht
      rcases ht with rfl | rfl <;> exact ⟨by kernel_rfl, by kernel_rfl, of_decide_eq_true (by kernel_rfl)⟩)
    (by
      intro ds hd
      match ds, hd with
      | [d0, d1], _ => rfl)
    gbase ok_laws_FnExactHeadOf rfl (by
      intro xs hl hw
      match xs, hl with
      | [x0, x1], _ =>
        obtain ⟨x0, rfl, c0⟩ := wf_string Tryd.underlying9 (hw 0 9 x0 rfl rfl)
        have c0 : x0.length ≤ 4611686018427387904 := by unfold reachBytes at c0; omega
        obtain ⟨x1, rfl, c1⟩ := wf_string Tryd.underlying9 (hw 1 9 x1 rfl rfl)
        have c1 : x1.length ≤ 4611686018427387904 := by unfold reachBytes at c1; omega
        simp only [spLaw, Option.bind_some]
        exact if_pos ⟨c0, c1⟩)
theorem over : Rows.fnExactHeadOfRow.holds Tryd.pinned (OpenSpec.ofChange Rows.fnExactHeadOfSpec) :=
  OpenClaim.holds_of_wide 5 Tryd.f5 rfl rfl rfl rfl rfl rfl rfl ⟨rfl, rfl, rfl, rfl, rfl⟩ rfl rfl rfl rfl rfl (by kernel_rfl) Tryd.func5 (by kernel_rfl)
    (of_decide_eq_true (by kernel_rfl)) (by unfold Func.isWrapper; first | (rw [if_pos (by decide +kernel)]; kernel_rfl) | (rw [if_neg (by decide +kernel)]; exact ⟨rfl, rfl⟩))
    (fun os started H enc _ => lifted os started H enc)
theorem card : Rows.FnExactHeadOfCardSaid :=
  Claim7.holds_tied_plain_at .later [] [.data, .pinned] true (true, "0d244fbf734e7a49ab39064b6cddcff7760c76f0cc8a9fbd24f31b4b9582e6bd") true over (fun _ h => by cases h) (by kernel_rfl) (fun _ h => by cases h) fnExactHeadOf_row_tie rfl ⟨rfl, rfl⟩ (by kernel_rfl) rfl
    (fun f fn hf hfn => by
      obtain rfl : f = 5 := Option.some.inj ((show Tryd.prog.funcNamed "loop.example/g00247/laws.FnExactHeadOf" = some 5 by kernel_rfl).symm.trans hf) |>.symm
      obtain rfl : fn = Tryd.f5 := (Option.some.inj (Tryd.func5.symm.trans hfn)).symm
      exact ⟨by kernel_rfl, fun j t ht => by
        have hm : t ∈ Tryd.f5.params.toList := Array.mem_toList_iff.2 (Array.mem_of_getElem? ht)
        have hall : (Tryd.f5.params.toList.all fun u => !Tryd.prog.wantsStandIn u) = true := by kernel_rfl
        exact (show Tryd.prog.wantsStandIn t = false by simpa using List.all_eq_true.1 hall t hm)⟩)
    (by kernel_rfl)
end Go.Proofs.YthokmmknbbghbaaDoor.VHeadOf
namespace Go.Proofs.YthokmmknbbghbaaDoor
theorem fnExactHeadOf_holds : Rows.FnExactHeadOfCardSaid := VHeadOf.card
#print axioms fnExactHeadOf_holds
end Go.Proofs.YthokmmknbbghbaaDoor
