/- The law FnExactLineText: the two functions that it calls answer alike, so it answers true. No condition. -/
import Derived.Test.YthokmmknbbghbaaDoorVLB
import Derived.Test.YthokmmknbbghbaaDoorVLT4
import Derived.Test.YthokmmknbbghbaaDoorVmDoor
import Derived.Test.YthokmmknbbghbaaDoorTie
import Derived.Test.YthokmmknbbghbaaDoorCards
import Derived.Test.YthokmmknbbghbaaDoorRows
import Derived.KernelRfl
namespace Go.Proofs.YthokmmknbbghbaaDoor.VLineText
open Go Go.VM Go.Proofs.YthokmmknbbghbaaDoor.L
set_option maxRecDepth 100000
set_option maxHeartbeats 4000000
set_option linter.unusedSimpArgs false
set_option linter.unusedVariables false
theorem wf_Range {n : Nat} {v : V} (h : WfV Tryd.prog (n + 2) 143 v) : ∃ x : Range, v = x.enc ∧ x.le 4611686018427387904 := by
  obtain ⟨l, rfl, hl, hf⟩ := wf_fields Tryd.underlying143 h
  match l, hl with
  | [f0, f1], _ =>
    obtain ⟨f0, rfl, _⟩ := wf_int Tryd.underlying3 (hf 0 _ f0 rfl rfl)
    obtain ⟨f1, rfl, _⟩ := wf_int Tryd.underlying3 (hf 1 _ f1 rfl rfl)
    exact ⟨⟨f0, f1⟩, by simp [Range.enc], trivial⟩
theorem wf_Line {n : Nat} {v : V} (h : WfV Tryd.prog (n + 4) 50 v) : ∃ x : Line, v = x.enc ∧ x.le 4611686018427387904 := by
  obtain ⟨l, rfl, hl, hf⟩ := wf_fields Tryd.underlying50 h
  match l, hl with
  | [f0, f1, f2, f3, f4, f5, f6], _ =>
    obtain ⟨f0, rfl, _⟩ := wf_int Tryd.underlying3 (hf 0 _ f0 rfl rfl)
    obtain ⟨f1, rfl, _⟩ := wf_int Tryd.underlying3 (hf 1 _ f1 rfl rfl)
    obtain ⟨f2, rfl, _⟩ := wf_int Tryd.underlying3 (hf 2 _ f2 rfl rfl)
    obtain ⟨f3, rfl, _⟩ := wf_int Tryd.underlying3 (hf 3 _ f3 rfl rfl)
    obtain ⟨f4, rfl, _⟩ := wf_int Tryd.underlying3 (hf 4 _ f4 rfl rfl)
    obtain ⟨f5, rfl, c5, _, e5⟩ := wf_slice Tryd.underlying38 (hf 5 _ f5 rfl rfl)
    rw [Ty.bytes_143] at c5
    have c5 : f5.length ≤ 4611686018427387904 := by unfold reachBytes at c5; omega
    obtain ⟨f5, rfl, d5⟩ := list_enc (e := Range.enc) (R := Range.le 4611686018427387904) fun v hv => wf_Range (e5 v hv)
    rw [List.length_map] at c5
    obtain ⟨f6, rfl⟩ := wf_bool Tryd.underlying4 (hf 6 _ f6 rfl rfl)
    exact ⟨⟨f0, f1, f2, f3, f4, f5, f6⟩, by simp [Line.enc, Ty.cells_143], ⟨c5, d5⟩⟩
open Classical in
noncomputable def spLaw : VM.Spec := { modes := [.rd], run := fun | [aX'] => (Line.dec aX').bind fun aX => if aX.le 4611686018427387904 then some (.bool true, []) else none | _ => none, need := ["internal/strconv.uint64pow10"] }
theorem spLaw_in {ins : List V} {r : V} {outs : List V} (h : spLaw.run ins = some (r, outs)) : ∃ (aX : Line), ins = [Line.enc aX] ∧ (aX.le 4611686018427387904) ∧ .bool true = r ∧ outs = [] := by
  unfold spLaw at h
  simp only at h
  split at h
  · rename_i aX'
    simp only [Option.bind_eq_some_iff] at h
    obtain ⟨aX, h_aX, h⟩ := h
    split at h
    case isFalse => cases h
    rename_i hc
    simp only [Option.some.injEq, Prod.mk.injEq] at h
    obtain ⟨h1, h2⟩ := h
    have h_aX := Line.dec_some h_aX
    subst h_aX
    exact ⟨aX, rfl, hc, h1, h2.symm⟩
  · cases h
def T_laws_FnExactLineText : Hints := ⟨fun i => if i = 10 then some [(0, 2)] else none, fun _ => none, fun i => if i = 0 then some [1] else if i = 1 then some [1, 3] else if i = 2 then some [1, 3] else if i = 3 then some [1, 13] else if i = 4 then some [2] else if i = 5 then some [1, 4, 5] else if i = 6 then some [1, 4, 5, 6] else if i = 7 then some [1, 4, 5, 6, 7, 8] else if i = 8 then some [1, 6, 34] else if i = 9 then some [2] else if i = 10 then some [39] else if i = 11 then some [2] else if i = 12 then some [2] else none⟩
noncomputable def Phi_laws_FnExactLineText : Tab := fun f => if f = 36 then some spSzLine else if f = 38 then some spToLine else if f = 40 then some spEqLine else if f = 37 then some spLineText else if f = 39 then some spLineText else none
theorem phi_laws_FnExactLineText : ∀ f sp, Phi_laws_FnExactLineText f = some sp → FnOk Tryd.prog f sp ∧ ∀ n ∈ sp.need, n ∈ (["internal/strconv.uint64pow10"] : List String) := by
  intro f sp h
  unfold Phi_laws_FnExactLineText at h
  split at h
  · rename_i e; cases h; rw [e]; exact ⟨ok_laws_szLine, (fun n (h : n ∈ ([] : List String)) => (nomatch h))⟩
  split at h
  · rename_i e; cases h; rw [e]; exact ⟨ok_laws_toLine, (fun n (h : n ∈ ([] : List String)) => (nomatch h))⟩
  split at h
  · rename_i e; cases h; rw [e]; exact ⟨ok_laws_eqLine, (fun n (h : n ∈ ([] : List String)) => (nomatch h))⟩
  split at h
  · rename_i e; cases h; rw [e]; exact ⟨ok_spec_LineText, (fun n (h : n ∈ (["internal/strconv.uint64pow10"] : List String)) => by simp only [List.mem_cons, List.not_mem_nil, or_false] at h; rcases h with rfl <;> simp)⟩
  split at h
  · rename_i e; cases h; rw [e]; exact ⟨ok_impl_LineText, (fun n (h : n ∈ (["internal/strconv.uint64pow10"] : List String)) => by simp only [List.mem_cons, List.not_mem_nil, or_false] at h; rcases h with rfl <;> simp)⟩
  cases h
theorem ok_laws_FnExactLineText : FnOk Tryd.prog 9 spLaw := by
  refine fn_ok (Φ := Phi_laws_FnExactLineText) (T := T_laws_FnExactLineText) phi_laws_FnExactLineText mixed Tryd.func9 rfl rfl rfl (by decide) ?_
  intro ins r outs hr hl
  clear hl
  have hs := spLaw_in hr
  clear hr
  obtain ⟨aX, rfl, hc, hr, rfl⟩ := hs
  simp only [spLaw, Tryd.f9, Go.VM.initS]
  have w0 := hc
  have z0 : Line.sz aX (1048576) = -1 ∨ (0 ≤ Line.sz aX (1048576) ∧ Line.sz aX (1048576) ≤ 1048576 ∧ _) := Line.sz_ok aX (1048576) 1048576 (by decide) (by decide)
  rcases z0 with z0 | ⟨z0, y0, x0⟩
  · simp only [w0, z0, Phi_laws_FnExactLineText, T_laws_FnExactLineText, spEqLine, spLineText, spSzLine, spToLine, go_sem, reduceIte, reduceCtorEq, Nat.reduceEqDiff, Nat.reduceBEq, Nat.reduceBNe, Nat.reduceMul, Nat.reduceAdd, Nat.reduceLT, Nat.reduceLeDiff, Nat.reduceSub, Int.reduceLT, Int.reduceLE, Int.reduceEq, Int.reduceNeg, Int.reduceAdd, Int.reduceSub, Int.reduceToNat, Int.reduceBEq, Int.reduceBNe, Array.reduceGetElem?]
    repeat' ((first | refine after_iteT.2 ⟨fun hp => ?_, fun hp => ?_⟩ | refine after_iteF.2 ⟨fun hp => ?_, fun hp => ?_⟩ | refine after_ite.2 ⟨fun hp => ?_, fun hp => ?_⟩ | refine grd_not.2 ⟨fun hp => ?_, fun hp => ?_⟩ | refine grd_beq.2 ⟨fun hp => ?_, fun hp => ?_⟩ | refine grd_dec.2 ⟨fun hp => ?_, fun hp => ?_⟩ | refine grd_bool.2 ⟨fun hp => ?_, fun hp => ?_⟩ | refine condG_not.2 ⟨fun hp => ?_, fun hp => ?_⟩ | refine condG_beq.2 ⟨fun hp => ?_, fun hp => ?_⟩ | refine condG_dec.2 ⟨fun hp => ?_, fun hp => ?_⟩ | refine condG_bool.2 ⟨fun hp => ?_, fun hp => ?_⟩ | (refine (goes_draw0 rfl (by decide +kernel)).2 ?_; have hp := True.intro) | (refine (goes_drawM _ rfl (by decide +kernel)).2 ?_; have hp := True.intro)) <;> simp only [hp, w0, z0, Phi_laws_FnExactLineText, T_laws_FnExactLineText, spEqLine, spLineText, spSzLine, spToLine, go_sem, reduceIte, reduceCtorEq, Nat.reduceEqDiff, Nat.reduceBEq, Nat.reduceBNe, Nat.reduceMul, Nat.reduceAdd, Nat.reduceLT, Nat.reduceLeDiff, Nat.reduceSub, Int.reduceLT, Int.reduceLE, Int.reduceEq, Int.reduceNeg, Int.reduceAdd, Int.reduceSub, Int.reduceToNat, Int.reduceBEq, Int.reduceBNe, Array.reduceGetElem?])
    simp only [fin_mk, finV, resL, resV1, allUse, oneOrTup, List.take, List.drop, List.take_succ_cons, List.take_zero, List.drop_succ_cons, List.drop_zero, Phi_laws_FnExactLineText, T_laws_FnExactLineText, spEqLine, spLineText, spSzLine, spToLine, go_sem, reduceIte, reduceCtorEq, Nat.reduceEqDiff, Nat.reduceBEq, Nat.reduceBNe, Nat.reduceMul, Nat.reduceAdd, Nat.reduceLT, Nat.reduceLeDiff, Nat.reduceSub, Int.reduceLT, Int.reduceLE, Int.reduceEq, Int.reduceNeg, Int.reduceAdd, Int.reduceSub, Int.reduceToNat, Int.reduceBEq, Int.reduceBNe, Array.reduceGetElem?]
    rw [← hr]
  have n0 : ¬ (Line.sz aX (1048576)) < 0 := Int.not_lt.2 z0
  have u0 : (Line.sz aX (1048576)) ≤ 4611686018427387904 := by omega
  have v0 : (Line.sz aX (1048576)) ≤ ((1048576 : Nat) : Int) := by omega
  have l0 : aX.le 4194304 := Line.le_mono _ _ _ (by decide) x0
  simp only [w0, z0, n0, u0, l0, Phi_laws_FnExactLineText, T_laws_FnExactLineText, spEqLine, spLineText, spSzLine, spToLine, go_sem, reduceIte, reduceCtorEq, Nat.reduceEqDiff, Nat.reduceBEq, Nat.reduceBNe, Nat.reduceMul, Nat.reduceAdd, Nat.reduceLT, Nat.reduceLeDiff, Nat.reduceSub, Int.reduceLT, Int.reduceLE, Int.reduceEq, Int.reduceNeg, Int.reduceAdd, Int.reduceSub, Int.reduceToNat, Int.reduceBEq, Int.reduceBNe, Array.reduceGetElem?]
  repeat' ((first | refine after_iteT.2 ⟨fun hp => ?_, fun hp => ?_⟩ | refine after_iteF.2 ⟨fun hp => ?_, fun hp => ?_⟩ | refine after_ite.2 ⟨fun hp => ?_, fun hp => ?_⟩ | refine grd_not.2 ⟨fun hp => ?_, fun hp => ?_⟩ | refine grd_beq.2 ⟨fun hp => ?_, fun hp => ?_⟩ | refine grd_dec.2 ⟨fun hp => ?_, fun hp => ?_⟩ | refine grd_bool.2 ⟨fun hp => ?_, fun hp => ?_⟩ | refine condG_not.2 ⟨fun hp => ?_, fun hp => ?_⟩ | refine condG_beq.2 ⟨fun hp => ?_, fun hp => ?_⟩ | refine condG_dec.2 ⟨fun hp => ?_, fun hp => ?_⟩ | refine condG_bool.2 ⟨fun hp => ?_, fun hp => ?_⟩ | (refine (goes_draw0 rfl (by decide +kernel)).2 ?_; have hp := True.intro) | (refine (goes_drawM _ rfl (by decide +kernel)).2 ?_; have hp := True.intro)) <;> simp only [hp, w0, z0, n0, u0, l0, Phi_laws_FnExactLineText, T_laws_FnExactLineText, spEqLine, spLineText, spSzLine, spToLine, go_sem, reduceIte, reduceCtorEq, Nat.reduceEqDiff, Nat.reduceBEq, Nat.reduceBNe, Nat.reduceMul, Nat.reduceAdd, Nat.reduceLT, Nat.reduceLeDiff, Nat.reduceSub, Int.reduceLT, Int.reduceLE, Int.reduceEq, Int.reduceNeg, Int.reduceAdd, Int.reduceSub, Int.reduceToNat, Int.reduceBEq, Int.reduceBNe, Array.reduceGetElem?])
  all_goals (simp only [fin_mk, finV, resL, resV1, allUse, oneOrTup, List.take, List.drop, List.take_succ_cons, List.take_zero, List.drop_succ_cons, List.drop_zero, Phi_laws_FnExactLineText, T_laws_FnExactLineText, spEqLine, spLineText, spSzLine, spToLine, go_sem, reduceIte, reduceCtorEq, Nat.reduceEqDiff, Nat.reduceBEq, Nat.reduceBNe, Nat.reduceMul, Nat.reduceAdd, Nat.reduceLT, Nat.reduceLeDiff, Nat.reduceSub, Int.reduceLT, Int.reduceLE, Int.reduceEq, Int.reduceNeg, Int.reduceAdd, Int.reduceSub, Int.reduceToNat, Int.reduceBEq, Int.reduceBNe, Array.reduceGetElem?]; rw [← hr])
set_option maxRecDepth 100000 in
theorem gbase (W : World) (hL : laidMetH Tryd.prog Rows.fnExactLineTextRow.laid W) (hsh : W.ShapedOpen Tryd.prog) : GBase Tryd.prog spLaw.need W :=
  ⟨fun _ => laid_tab (g := 3) (t := 201) (by kernel_rfl) (by kernel_rfl) Tryd.underlying201 Tryd.underlying189 (by kernel_rfl) (by kernel_rfl) (by rw [MakeChecks.laidMetH_plain _ _ _ (by kernel_rfl)] at hL; exact hL) (by simp only [Rows.fnExactLineTextRow, List.mem_cons]; first | exact .inl rfl | exact .inr (.inl rfl) | exact .inr (.inr (.inl rfl)) | exact .inr (.inr (.inr (.inl rfl)))),
   fun h => absurd (show "internal/bytealg.MaxLen" ∈ (["internal/strconv.uint64pow10"] : List String) from h) (by simp),
   fun h => absurd (show "strconv.ErrSyntax" ∈ (["internal/strconv.uint64pow10"] : List String) from h) (by simp),
   fun h => absurd (show "strconv.ErrRange" ∈ (["internal/strconv.uint64pow10"] : List String) from h) (by simp)⟩
set_option maxRecDepth 100000 in
theorem own : ownKnob Tryd.prog.godebug = none := by kernel_rfl
theorem lifted (os : Os) (started : os.Started) (H : Type) (enc : TypeId × Value → H) :
    ReturnsInHanded {} Tryd.checked os 9 .any (fun w args => (Rows.fnExactLineTextSpec.pre enc Tryd.prog Tryd.f9 [] false w args ∧ laidMetH Tryd.prog Rows.fnExactLineTextRow.laid w) ∧ sizedMet enc Tryd.prog Tryd.f9 (OpenSpec.ofChange Rows.fnExactLineTextSpec) false w args) (Rows.fnExactLineTextSpec.post enc Tryd.prog Tryd.f9 false true false false) :=
  laid_of_fn Rows.fnExactLineTextRow.laid (C := Tryd.checked) (n := 4) own started (by kernel_rfl) Tryd.func9 rfl rfl
    (ChangeSpec.witness_shaped (enc := enc) (C := Tryd.checked) (os := os) (X := fun w _ => laidMetH Tryd.prog Rows.fnExactLineTextRow.laid w) false (World.laidAll Tryd.prog os Rows.fnExactLineTextRow.laid) #[.agg #[.int .i64 0, .int .i64 0, .int .i64 0, .int .i64 0, .int .i64 0, .slice none 0 0, .bool false]] 8 (World.laidAll_os _ _ _)
      (World.shaped_of_ZipB (by kernel_rfl) (by kernel_rfl)) (by kernel_rfl) (by kernel_rfl) (by kernel_rfl)
      (by rw [MakeChecks.laidMetH_plain _ _ _ (by kernel_rfl)]; exact laidMet_laidAll _ (by kernel_rfl) (by kernel_rfl)))
    rfl rfl Tryd.underlying4 (by kernel_rfl) (by
      intro t ht
      simp only [Tryd.f9, List.mem_cons, List.not_mem_nil, or_false] at ht
      subst ht; exact ⟨by kernel_rfl, by kernel_rfl, of_decide_eq_true (by kernel_rfl)⟩)
    (by
      intro ds hd
      match ds, hd with
      | [d0], _ => rfl)
    gbase ok_laws_FnExactLineText rfl (by
      intro xs hl hw
      match xs, hl with
      | [x0], _ =>
        obtain ⟨x0, rfl, c0⟩ := wf_Line (hw 0 50 x0 rfl rfl)
        simp only [spLaw, Line.dec_enc, Option.bind_some]
        exact if_pos c0)
theorem over : Rows.fnExactLineTextRow.holds Tryd.pinned (OpenSpec.ofChange Rows.fnExactLineTextSpec) :=
  OpenClaim.holds_of_wide 9 Tryd.f9 rfl rfl rfl rfl rfl rfl rfl ⟨rfl, rfl, rfl, rfl, rfl⟩ rfl rfl rfl rfl rfl (by kernel_rfl) Tryd.func9 (by kernel_rfl)
    (of_decide_eq_true (by kernel_rfl)) (by unfold Func.isWrapper; first | (rw [if_pos (by decide +kernel)]; kernel_rfl) | (rw [if_neg (by decide +kernel)]; exact ⟨rfl, rfl⟩))
    (fun os started H enc _ => lifted os started H enc)
theorem card : Rows.FnExactLineTextCardSaid :=
  Claim7.holds_tied_plain_at .later [] [.data, .data, .data] true (true, "0d244fbf734e7a49ab39064b6cddcff7760c76f0cc8a9fbd24f31b4b9582e6bd") true over (fun _ h => by cases h) (by kernel_rfl) (fun _ h => by cases h) fnExactLineText_row_tie rfl ⟨rfl, rfl⟩ (by kernel_rfl) rfl
    (fun f fn hf hfn => by
      obtain rfl : f = 9 := Option.some.inj ((show Tryd.prog.funcNamed "loop.example/g00247/laws.FnExactLineText" = some 9 by kernel_rfl).symm.trans hf) |>.symm
      obtain rfl : fn = Tryd.f9 := (Option.some.inj (Tryd.func9.symm.trans hfn)).symm
      exact ⟨by kernel_rfl, fun j t ht => by
        have hm : t ∈ Tryd.f9.params.toList := Array.mem_toList_iff.2 (Array.mem_of_getElem? ht)
        have hall : (Tryd.f9.params.toList.all fun u => !Tryd.prog.wantsStandIn u) = true := by kernel_rfl
        exact (show Tryd.prog.wantsStandIn t = false by simpa using List.all_eq_true.1 hall t hm)⟩)
    (by kernel_rfl)
end Go.Proofs.YthokmmknbbghbaaDoor.VLineText
namespace Go.Proofs.YthokmmknbbghbaaDoor
theorem fnExactLineText_holds : Rows.FnExactLineTextCardSaid := VLineText.card
#print axioms fnExactLineText_holds
end Go.Proofs.YthokmmknbbghbaaDoor
