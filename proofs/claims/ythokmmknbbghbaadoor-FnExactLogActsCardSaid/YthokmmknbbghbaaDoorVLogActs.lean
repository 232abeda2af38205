/- The law FnExactLogActs: the two functions that it calls answer alike, so it answers true. No condition. -/
import Derived.Test.YthokmmknbbghbaaDoorVLB
import Derived.Test.YthokmmknbbghbaaDoorVLL
import Derived.Test.YthokmmknbbghbaaDoorVmDoor
import Derived.Test.YthokmmknbbghbaaDoorTie
import Derived.Test.YthokmmknbbghbaaDoorCards
import Derived.Test.YthokmmknbbghbaaDoorRows
import Derived.KernelRfl
namespace Go.Proofs.YthokmmknbbghbaaDoor.VLogActs
open Go Go.VM Go.Proofs.YthokmmknbbghbaaDoor.L
set_option maxRecDepth 100000
set_option maxHeartbeats 4000000
set_option linter.unusedSimpArgs false
set_option linter.unusedVariables false
theorem wf_Range {n : Nat} {v : V} (h : WfV Tryd.prog (n + 2) 143 v) : ∃ x : Range, v = x.enc ∧ x.le 4611686018427387904 := by
  obtain ⟨l, rfl, hl, hf⟩ := wf_fields Tryd.underlying143 h
  match l, hl with
  | [f0, f1], _ =>
    obtain ⟨f0, rfl, _⟩ := wf_int Tryd.underlying3 (hf 0 _ f0 rfl rfl)
    obtain ⟨f1, rfl, _⟩ := wf_int Tryd.underlying3 (hf 1 _ f1 rfl rfl)
    exact ⟨⟨f0, f1⟩, by simp [Range.enc], trivial⟩
theorem wf_Edit {n : Nat} {v : V} (h : WfV Tryd.prog (n + 4) 40 v) : ∃ x : Edit, v = x.enc ∧ x.le 4611686018427387904 := by
  obtain ⟨l, rfl, hl, hf⟩ := wf_fields Tryd.underlying40 h
  match l, hl with
  | [f0, f1, f2, f3, f4, f5, f6, f7], _ =>
    obtain ⟨f0, rfl, _⟩ := wf_int Tryd.underlying3 (hf 0 _ f0 rfl rfl)
    obtain ⟨f1, rfl, c1⟩ := wf_string Tryd.underlying9 (hf 1 _ f1 rfl rfl)
    have c1 : f1.length ≤ 4611686018427387904 := by unfold reachBytes at c1; omega
    obtain ⟨f2, rfl, c2⟩ := wf_string Tryd.underlying9 (hf 2 _ f2 rfl rfl)
    have c2 : f2.length ≤ 4611686018427387904 := by unfold reachBytes at c2; omega
    obtain ⟨f3, rfl, c3, _, e3⟩ := wf_slice Tryd.underlying38 (hf 3 _ f3 rfl rfl)
    rw [Ty.bytes_143] at c3
    have c3 : f3.length ≤ 4611686018427387904 := by unfold reachBytes at c3; omega
    obtain ⟨f3, rfl, d3⟩ := list_enc (e := Range.enc) (R := Range.le 4611686018427387904) fun v hv => wf_Range (e3 v hv)
    rw [List.length_map] at c3
    obtain ⟨f4, rfl, _⟩ := wf_int Tryd.underlying3 (hf 4 _ f4 rfl rfl)
    obtain ⟨f5, rfl, _⟩ := wf_int Tryd.underlying3 (hf 5 _ f5 rfl rfl)
    obtain ⟨f6, rfl, _⟩ := wf_int Tryd.underlying3 (hf 6 _ f6 rfl rfl)
    obtain ⟨f7, rfl, c7⟩ := wf_string Tryd.underlying9 (hf 7 _ f7 rfl rfl)
    have c7 : f7.length ≤ 4611686018427387904 := by unfold reachBytes at c7; omega
    exact ⟨⟨f0, f1, f2, f3, f4, f5, f6, f7⟩, by simp [Edit.enc, Ty.cells_143], ⟨c1, c2, ⟨c3, d3⟩, c7⟩⟩
open Classical in
noncomputable def spLaw : VM.Spec := { modes := [.rd], run := fun | [aE'] => (Edit.dec aE').bind fun aE => if aE.le 4611686018427387904 then some (.bool true, []) else none | _ => none, need := ["internal/strconv.uint64pow10"] }
theorem spLaw_in {ins : List V} {r : V} {outs : List V} (h : spLaw.run ins = some (r, outs)) : ∃ (aE : Edit), ins = [Edit.enc aE] ∧ (aE.le 4611686018427387904) ∧ .bool true = r ∧ outs = [] := by
  unfold spLaw at h
  simp only at h
  split at h
  · rename_i aE'
    simp only [Option.bind_eq_some_iff] at h
    obtain ⟨aE, h_aE, h⟩ := h
    split at h
    case isFalse => cases h
    rename_i hc
    simp only [Option.some.injEq, Prod.mk.injEq] at h
    obtain ⟨h1, h2⟩ := h
    have h_aE := Edit.dec_some h_aE
    subst h_aE
    exact ⟨aE, rfl, hc, h1, h2.symm⟩
  · cases h
def T_laws_FnExactLogActs : Hints := ⟨fun i => if i = 10 then some [(0, 2)] else none, fun _ => none, fun i => if i = 0 then some [1] else if i = 1 then some [1, 3] else if i = 2 then some [1, 3] else if i = 3 then some [1, 18] else if i = 4 then some [2] else if i = 5 then some [1, 4, 5] else if i = 6 then some [1, 4, 5, 6] else if i = 7 then some [1, 4, 5, 6, 7, 8] else if i = 8 then some [1, 4, 5, 6, 7, 8, 40] else if i = 9 then some [2] else if i = 10 then some [1, 4, 5, 6, 7, 8, 45] else if i = 11 then some [2] else if i = 12 then some [1, 4, 5, 6, 7, 8, 9] else if i = 13 then some [1, 4, 5, 7, 8, 9] else if i = 14 then some [1, 4, 5, 7, 61] else if i = 15 then some [2] else if i = 16 then some [1, 4, 5, 7, 10] else if i = 17 then some [1, 4, 5, 7, 10] else if i = 18 then some [1, 4, 5, 7, 10, 11] else if i = 19 then some [1, 4, 5, 7, 10, 11] else if i = 20 then some [1, 4, 5, 7, 10, 11, 69] else if i = 21 then some [2] else if i = 22 then some [1, 4, 5, 7, 10, 72] else if i = 23 then some [2] else if i = 24 then some [4, 5, 7, 10, 12, 13] else if i = 25 then some [7, 10, 87] else if i = 26 then some [2] else if i = 27 then some [7, 10, 11] else if i = 28 then some [10, 11] else if i = 29 then some [10, 11, 92] else if i = 30 then some [2] else if i = 31 then some [95] else if i = 32 then some [2] else if i = 33 then some [2] else none⟩
noncomputable def Phi_laws_FnExactLogActs : Tab := fun f => if f = 31 then some spSzEdit else if f = 33 then some spToEdit else if f = 35 then some spEqEdit else if f = 44 then some spMarkEdit else if f = 43 then some spEqActS else if f = 45 then some spMarkActS else if f = 46 then some spHeldActS else if f = 41 then some spLogActs else if f = 42 then some spLogActs else none
theorem phi_laws_FnExactLogActs : ∀ f sp, Phi_laws_FnExactLogActs f = some sp → FnOk Tryd.prog f sp ∧ ∀ n ∈ sp.need, n ∈ (["internal/strconv.uint64pow10"] : List String) := by
  intro f sp h
  unfold Phi_laws_FnExactLogActs at h
  split at h
  · rename_i e; cases h; rw [e]; exact ⟨ok_laws_szEdit, (fun n (h : n ∈ ([] : List String)) => (nomatch h))⟩
  split at h
  · rename_i e; cases h; rw [e]; exact ⟨ok_laws_toEdit, (fun n (h : n ∈ ([] : List String)) => (nomatch h))⟩
  split at h
  · rename_i e; cases h; rw [e]; exact ⟨ok_laws_eqEdit, (fun n (h : n ∈ ([] : List String)) => (nomatch h))⟩
  split at h
  · rename_i e; cases h; rw [e]; exact ⟨ok_laws_markEdit, (fun n (h : n ∈ ([] : List String)) => (nomatch h))⟩
  split at h
  · rename_i e; cases h; rw [e]; exact ⟨ok_laws_eqActS, (fun n (h : n ∈ ([] : List String)) => (nomatch h))⟩
  split at h
  · rename_i e; cases h; rw [e]; exact ⟨ok_laws_markActS, (fun n (h : n ∈ ([] : List String)) => (nomatch h))⟩
  split at h
  · rename_i e; cases h; rw [e]; exact ⟨ok_laws_heldActS, (fun n (h : n ∈ ([] : List String)) => (nomatch h))⟩
  split at h
  · rename_i e; cases h; rw [e]; exact ⟨ok_spec_LogActs, (fun n (h : n ∈ (["internal/strconv.uint64pow10"] : List String)) => by simp only [List.mem_cons, List.not_mem_nil, or_false] at h; rcases h with rfl <;> simp)⟩
  split at h
  · rename_i e; cases h; rw [e]; exact ⟨ok_impl_LogActs, (fun n (h : n ∈ (["internal/strconv.uint64pow10"] : List String)) => by simp only [List.mem_cons, List.not_mem_nil, or_false] at h; rcases h with rfl <;> simp)⟩
  cases h
theorem ok_laws_FnExactLogActs : FnOk Tryd.prog 10 spLaw := by
  refine fn_ok (Φ := Phi_laws_FnExactLogActs) (T := T_laws_FnExactLogActs) phi_laws_FnExactLogActs mixed Tryd.func10 rfl rfl rfl (by decide) ?_
  intro ins r outs hr hl
  clear hl
  have hs := spLaw_in hr
  clear hr
  obtain ⟨aE, rfl, hc, hr, rfl⟩ := hs
  simp only [spLaw, Tryd.f10, Go.VM.initS]
  have w0 := hc
  have z0 : Edit.sz aE (1048576) = -1 ∨ (0 ≤ Edit.sz aE (1048576) ∧ Edit.sz aE (1048576) ≤ 1048576 ∧ _) := Edit.sz_ok aE (1048576) 1048576 (by decide) (by decide)
  rcases z0 with z0 | ⟨z0, y0, x0⟩
  · simp only [w0, z0, Phi_laws_FnExactLogActs, T_laws_FnExactLogActs, spEqActS, spEqEdit, spHeldActS, spLogActs, spMarkActS, spMarkEdit, spSzEdit, spToEdit, go_sem, reduceIte, reduceCtorEq, Nat.reduceEqDiff, Nat.reduceBEq, Nat.reduceBNe, Nat.reduceMul, Nat.reduceAdd, Nat.reduceLT, Nat.reduceLeDiff, Nat.reduceSub, Int.reduceLT, Int.reduceLE, Int.reduceEq, Int.reduceNeg, Int.reduceAdd, Int.reduceSub, Int.reduceToNat, Int.reduceBEq, Int.reduceBNe, Array.reduceGetElem?]
    repeat' ((first | refine after_iteT.2 ⟨fun hp => ?_, fun hp => ?_⟩ | refine after_iteF.2 ⟨fun hp => ?_, fun hp => ?_⟩ | refine after_ite.2 ⟨fun hp => ?_, fun hp => ?_⟩ | refine grd_not.2 ⟨fun hp => ?_, fun hp => ?_⟩ | refine grd_beq.2 ⟨fun hp => ?_, fun hp => ?_⟩ | refine grd_dec.2 ⟨fun hp => ?_, fun hp => ?_⟩ | refine grd_bool.2 ⟨fun hp => ?_, fun hp => ?_⟩ | refine condG_not.2 ⟨fun hp => ?_, fun hp => ?_⟩ | refine condG_beq.2 ⟨fun hp => ?_, fun hp => ?_⟩ | refine condG_dec.2 ⟨fun hp => ?_, fun hp => ?_⟩ | refine condG_bool.2 ⟨fun hp => ?_, fun hp => ?_⟩ | (refine (goes_draw0 rfl (by decide +kernel)).2 ?_; have hp := True.intro) | (refine (goes_drawM _ rfl (by decide +kernel)).2 ?_; have hp := True.intro)) <;> simp only [hp, w0, z0, Phi_laws_FnExactLogActs, T_laws_FnExactLogActs, spEqActS, spEqEdit, spHeldActS, spLogActs, spMarkActS, spMarkEdit, spSzEdit, spToEdit, go_sem, reduceIte, reduceCtorEq, Nat.reduceEqDiff, Nat.reduceBEq, Nat.reduceBNe, Nat.reduceMul, Nat.reduceAdd, Nat.reduceLT, Nat.reduceLeDiff, Nat.reduceSub, Int.reduceLT, Int.reduceLE, Int.reduceEq, Int.reduceNeg, Int.reduceAdd, Int.reduceSub, Int.reduceToNat, Int.reduceBEq, Int.reduceBNe, Array.reduceGetElem?])
    simp only [fin_mk, finV, resL, resV1, allUse, oneOrTup, List.take, List.drop, List.take_succ_cons, List.take_zero, List.drop_succ_cons, List.drop_zero, Phi_laws_FnExactLogActs, T_laws_FnExactLogActs, spEqActS, spEqEdit, spHeldActS, spLogActs, spMarkActS, spMarkEdit, spSzEdit, spToEdit, go_sem, reduceIte, reduceCtorEq, Nat.reduceEqDiff, Nat.reduceBEq, Nat.reduceBNe, Nat.reduceMul, Nat.reduceAdd, Nat.reduceLT, Nat.reduceLeDiff, Nat.reduceSub, Int.reduceLT, Int.reduceLE, Int.reduceEq, Int.reduceNeg, Int.reduceAdd, Int.reduceSub, Int.reduceToNat, Int.reduceBEq, Int.reduceBNe, Array.reduceGetElem?]
    rw [← hr]
  have n0 : ¬ (Edit.sz aE (1048576)) < 0 := Int.not_lt.2 z0
  have u0 : (Edit.sz aE (1048576)) ≤ 4611686018427387904 := by omega
  have v0 : (Edit.sz aE (1048576)) ≤ ((1048576 : Nat) : Int) := by omega
  have l0 : aE.le 4194304 := Edit.le_mono _ _ _ (by decide) x0
  have q0 : (0 : Int) ≤ 1 := by decide
  have r0 : (logActs aE).length ≤ 4194304 := logActs_le aE
  have l0_Set : aE.Set.length ≤ 4194304 := l0.2.2.1.1
  have xe0 : (msEdit (aE) (1)).2 = 1 + (2 : Nat) * (aE).Set.length := msEdit_k _ _
  have xp0 : 0 ≤ (msEdit (aE) (1)).2 := by omega
  have xn0 : ¬ (msEdit (aE) (1)).2 < 0 := by omega
  have xb0 : (msEdit (aE) (1)).2 ≤ 288230376151711744 := by omega
  have me1 : (markL meAct (logActs aE) (1)).2 = 1 + (4 : Nat) * (logActs aE).length := markL_k meAct_k _ _
  have mp1 : 0 ≤ (markL meAct (logActs aE) (1)).2 := by omega
  have mn1 : ¬ (markL meAct (logActs aE) (1)).2 < 0 := by omega
  have mb1 : (markL meAct (logActs aE) (1)).2 ≤ 288230376151711744 := by omega
  simp only [w0, z0, n0, u0, l0, r0, l0_Set, xp0, xn0, xb0, mp1, mn1, mb1, held_marked heAct_marked, markL_len, q0, Option.getD_some, bne_self_eq_false, Phi_laws_FnExactLogActs, T_laws_FnExactLogActs, spEqActS, spEqEdit, spHeldActS, spLogActs, spMarkActS, spMarkEdit, spSzEdit, spToEdit, go_sem, reduceIte, reduceCtorEq, Nat.reduceEqDiff, Nat.reduceBEq, Nat.reduceBNe, Nat.reduceMul, Nat.reduceAdd, Nat.reduceLT, Nat.reduceLeDiff, Nat.reduceSub, Int.reduceLT, Int.reduceLE, Int.reduceEq, Int.reduceNeg, Int.reduceAdd, Int.reduceSub, Int.reduceToNat, Int.reduceBEq, Int.reduceBNe, Array.reduceGetElem?]
  repeat' ((first | refine after_iteT.2 ⟨fun hp => ?_, fun hp => ?_⟩ | refine after_iteF.2 ⟨fun hp => ?_, fun hp => ?_⟩ | refine after_ite.2 ⟨fun hp => ?_, fun hp => ?_⟩ | refine grd_not.2 ⟨fun hp => ?_, fun hp => ?_⟩ | refine grd_beq.2 ⟨fun hp => ?_, fun hp => ?_⟩ | refine grd_dec.2 ⟨fun hp => ?_, fun hp => ?_⟩ | refine grd_bool.2 ⟨fun hp => ?_, fun hp => ?_⟩ | refine condG_not.2 ⟨fun hp => ?_, fun hp => ?_⟩ | refine condG_beq.2 ⟨fun hp => ?_, fun hp => ?_⟩ | refine condG_dec.2 ⟨fun hp => ?_, fun hp => ?_⟩ | refine condG_bool.2 ⟨fun hp => ?_, fun hp => ?_⟩ | (refine (goes_draw0 rfl (by decide +kernel)).2 ?_; have hp := True.intro) | (refine (goes_drawM _ rfl (by decide +kernel)).2 ?_; have hp := True.intro)) <;> simp only [hp, w0, z0, n0, u0, l0, r0, l0_Set, xp0, xn0, xb0, mp1, mn1, mb1, held_marked heAct_marked, markL_len, q0, Option.getD_some, bne_self_eq_false, Phi_laws_FnExactLogActs, T_laws_FnExactLogActs, spEqActS, spEqEdit, spHeldActS, spLogActs, spMarkActS, spMarkEdit, spSzEdit, spToEdit, go_sem, reduceIte, reduceCtorEq, Nat.reduceEqDiff, Nat.reduceBEq, Nat.reduceBNe, Nat.reduceMul, Nat.reduceAdd, Nat.reduceLT, Nat.reduceLeDiff, Nat.reduceSub, Int.reduceLT, Int.reduceLE, Int.reduceEq, Int.reduceNeg, Int.reduceAdd, Int.reduceSub, Int.reduceToNat, Int.reduceBEq, Int.reduceBNe, Array.reduceGetElem?])
  all_goals (simp only [fin_mk, finV, resL, resV1, allUse, oneOrTup, List.take, List.drop, List.take_succ_cons, List.take_zero, List.drop_succ_cons, List.drop_zero, Phi_laws_FnExactLogActs, T_laws_FnExactLogActs, spEqActS, spEqEdit, spHeldActS, spLogActs, spMarkActS, spMarkEdit, spSzEdit, spToEdit, go_sem, reduceIte, reduceCtorEq, Nat.reduceEqDiff, Nat.reduceBEq, Nat.reduceBNe, Nat.reduceMul, Nat.reduceAdd, Nat.reduceLT, Nat.reduceLeDiff, Nat.reduceSub, Int.reduceLT, Int.reduceLE, Int.reduceEq, Int.reduceNeg, Int.reduceAdd, Int.reduceSub, Int.reduceToNat, Int.reduceBEq, Int.reduceBNe, Array.reduceGetElem?]; rw [← hr])
set_option maxRecDepth 100000 in
theorem gbase (W : World) (hL : laidMetH Tryd.prog Rows.fnExactLogActsRow.laid W) (hsh : W.ShapedOpen Tryd.prog) : GBase Tryd.prog spLaw.need W :=
  ⟨fun _ => laid_tab (g := 3) (t := 201) (by kernel_rfl) (by kernel_rfl) Tryd.underlying201 Tryd.underlying189 (by kernel_rfl) (by kernel_rfl) (by rw [MakeChecks.laidMetH_plain _ _ _ (by kernel_rfl)] at hL; exact hL) (by simp only [Rows.fnExactLogActsRow, List.mem_cons]; first | exact .inl rfl | exact .inr (.inl rfl) | exact .inr (.inr (.inl rfl)) | exact .inr (.inr (.inr (.inl rfl)))),
   fun h => absurd (show "internal/bytealg.MaxLen" ∈ (["internal/strconv.uint64pow10"] : List String) from h) (by simp),
   fun h => absurd (show "strconv.ErrSyntax" ∈ (["internal/strconv.uint64pow10"] : List String) from h) (by simp),
   fun h => absurd (show "strconv.ErrRange" ∈ (["internal/strconv.uint64pow10"] : List String) from h) (by simp)⟩
set_option maxRecDepth 100000 in
theorem own : ownKnob Tryd.prog.godebug = none := by kernel_rfl
theorem lifted (os : Os) (started : os.Started) (H : Type) (enc : TypeId × Value → H) :
    ReturnsInHanded {} Tryd.checked os 10 .any (fun w args => (Rows.fnExactLogActsSpec.pre enc Tryd.prog Tryd.f10 [] false w args ∧ laidMetH Tryd.prog Rows.fnExactLogActsRow.laid w) ∧ sizedMet enc Tryd.prog Tryd.f10 (OpenSpec.ofChange Rows.fnExactLogActsSpec) false w args) (Rows.fnExactLogActsSpec.post enc Tryd.prog Tryd.f10 false true false false) :=
  laid_of_fn Rows.fnExactLogActsRow.laid (C := Tryd.checked) (n := 4) own started (by kernel_rfl) Tryd.func10 rfl rfl
    (ChangeSpec.witness_shaped (enc := enc) (C := Tryd.checked) (os := os) (X := fun w _ => laidMetH Tryd.prog Rows.fnExactLogActsRow.laid w) false (World.laidAll Tryd.prog os Rows.fnExactLogActsRow.laid) #[.agg #[.int .i64 0, .string ByteArray.empty, .string ByteArray.empty, .slice none 0 0, .int .i64 0, .int .i64 0, .int .i64 0, .string ByteArray.empty]] 8 (World.laidAll_os _ _ _)
      (World.shaped_of_ZipB (by kernel_rfl) (by kernel_rfl)) (by kernel_rfl) (by kernel_rfl) (by kernel_rfl)
      (by rw [MakeChecks.laidMetH_plain _ _ _ (by kernel_rfl)]; exact laidMet_laidAll _ (by kernel_rfl) (by kernel_rfl)))
    rfl rfl Tryd.underlying4 (by kernel_rfl) (by
      intro t ht
      simp only [Tryd.f10, List.mem_cons, List.not_mem_nil, or_false] at ht
      subst ht; exact ⟨by kernel_rfl, by kernel_rfl, of_decide_eq_true (by kernel_rfl)⟩)
    (by
      intro ds hd
      match ds, hd with
      | [d0], _ => rfl)
    gbase ok_laws_FnExactLogActs rfl (by
      intro xs hl hw
      match xs, hl with
      | [x0], _ =>
        obtain ⟨x0, rfl, c0⟩ := wf_Edit (hw 0 40 x0 rfl rfl)
        simp only [spLaw, Edit.dec_enc, Option.bind_some]
        exact if_pos c0)
theorem over : Rows.fnExactLogActsRow.holds Tryd.pinned (OpenSpec.ofChange Rows.fnExactLogActsSpec) :=
  OpenClaim.holds_of_wide 10 Tryd.f10 rfl rfl rfl rfl rfl rfl rfl ⟨rfl, rfl, rfl, rfl, rfl⟩ rfl rfl rfl rfl rfl (by kernel_rfl) Tryd.func10 (by kernel_rfl)
    (of_decide_eq_true (by kernel_rfl)) (by unfold Func.isWrapper; first | (rw [if_pos (by decide +kernel)]; kernel_rfl) | (rw [if_neg (by decide +kernel)]; exact ⟨rfl, rfl⟩))
    (fun os started H enc _ => lifted os started H enc)
theorem card : Rows.FnExactLogActsCardSaid :=
  Claim7.holds_tied_plain_at .later [] [.data, .data, .data] true (true, "0d244fbf734e7a49ab39064b6cddcff7760c76f0cc8a9fbd24f31b4b9582e6bd") true over (fun _ h => by cases h) (by kernel_rfl) (fun _ h => by cases h) fnExactLogActs_row_tie rfl ⟨rfl, rfl⟩ (by kernel_rfl) rfl
    (fun f fn hf hfn => by
      obtain rfl : f = 10 := Option.some.inj ((show Tryd.prog.funcNamed "loop.example/g00247/laws.FnExactLogActs" = some 10 by kernel_rfl).symm.trans hf) |>.symm
      obtain rfl : fn = Tryd.f10 := (Option.some.inj (Tryd.func10.symm.trans hfn)).symm
      exact ⟨by kernel_rfl, fun j t ht => by
        have hm : t ∈ Tryd.f10.params.toList := Array.mem_toList_iff.2 (Array.mem_of_getElem? ht)
        have hall : (Tryd.f10.params.toList.all fun u => !Tryd.prog.wantsStandIn u) = true := by kernel_rfl
        exact (show Tryd.prog.wantsStandIn t = false by simpa using List.all_eq_true.1 hall t hm)⟩)
    (by kernel_rfl)
end Go.Proofs.YthokmmknbbghbaaDoor.VLogActs
namespace Go.Proofs.YthokmmknbbghbaaDoor
theorem fnExactLogActs_holds : Rows.FnExactLogActsCardSaid := VLogActs.card
#print axioms fnExactLogActs_holds
end Go.Proofs.YthokmmknbbghbaaDoor
