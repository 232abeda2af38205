/- The law FnExactLineOk: the two functions that it calls answer alike, so it answers true. No condition. -/
import Derived.Test.YtihaeilbiihhaaaVLB
import Derived.Test.YtihaeilbiihhaaaVLD
import Derived.Test.YtihaeilbiihhaaaRows
import Derived.KernelRfl
namespace Go.Proofs.Ytihaeilbiihhaaa.VLineOk
open Go Go.VM Go.Proofs.Ytihaeilbiihhaaa.L
set_option maxRecDepth 100000
set_option maxHeartbeats 4000000
set_option linter.unusedSimpArgs false
set_option linter.unusedVariables false
theorem wf_Range {n : Nat} {v : V} (h : WfV Try.prog (n + 2) 83 v) : ∃ x : Range, v = x.enc ∧ x.le 4611686018427387904 := by
  obtain ⟨l, rfl, hl, hf⟩ := wf_fields Try.underlying83 h
  match l, hl with
  | [f0, f1], _ =>
    obtain ⟨f0, rfl, _⟩ := wf_int Try.underlying3 (hf 0 _ f0 rfl rfl)
    obtain ⟨f1, rfl, _⟩ := wf_int Try.underlying3 (hf 1 _ f1 rfl rfl)
    exact ⟨⟨f0, f1⟩, by simp [Range.enc], trivial⟩
theorem wf_Line {n : Nat} {v : V} (h : WfV Try.prog (n + 4) 36 v) : ∃ x : Line, v = x.enc ∧ x.le 4611686018427387904 := by
  obtain ⟨l, rfl, hl, hf⟩ := wf_fields Try.underlying36 h
  match l, hl with
  | [f0, f1, f2, f3, f4, f5, f6], _ =>
    obtain ⟨f0, rfl, _⟩ := wf_int Try.underlying3 (hf 0 _ f0 rfl rfl)
    obtain ⟨f1, rfl, _⟩ := wf_int Try.underlying3 (hf 1 _ f1 rfl rfl)
    obtain ⟨f2, rfl, _⟩ := wf_int Try.underlying3 (hf 2 _ f2 rfl rfl)
    obtain ⟨f3, rfl, _⟩ := wf_int Try.underlying3 (hf 3 _ f3 rfl rfl)
    obtain ⟨f4, rfl, _⟩ := wf_int Try.underlying3 (hf 4 _ f4 rfl rfl)
    obtain ⟨f5, rfl, c5, _, e5⟩ := wf_slice Try.underlying34 (hf 5 _ f5 rfl rfl)
    rw [Ty.bytes_83] at c5
    have c5 : f5.length ≤ 4611686018427387904 := by unfold reachBytes at c5; omega
    obtain ⟨f5, rfl, d5⟩ := list_enc (e := Range.enc) (R := Range.le 4611686018427387904) fun v hv => wf_Range (e5 v hv)
    rw [List.length_map] at c5
    obtain ⟨f6, rfl⟩ := wf_bool Try.underlying4 (hf 6 _ f6 rfl rfl)
    exact ⟨⟨f0, f1, f2, f3, f4, f5, f6⟩, by simp [Line.enc, Ty.cells_83], ⟨c5, d5⟩⟩
open Classical in
noncomputable def spLaw : VM.Spec := ⟨[.rd], fun | [aX'] => (Line.dec aX').bind fun aX => if aX.le 4611686018427387904 then some (.bool true, []) else none | _ => none⟩
theorem spLaw_in {ins : List V} {r : V} {outs : List V} (h : spLaw.run ins = some (r, outs)) : ∃ (aX : Line), ins = [Line.enc aX] ∧ (aX.le 4611686018427387904) ∧ .bool true = r ∧ outs = [] := by
  unfold spLaw at h
  simp only at h
  split at h
  · rename_i aX'
    simp only [Option.bind_eq_some_iff] at h
    obtain ⟨aX, h_aX, h⟩ := h
    split at h
    case isFalse => cases h
    rename_i hc
    simp only [Option.some.injEq, Prod.mk.injEq] at h
    obtain ⟨h1, h2⟩ := h
    have h_aX := Line.dec_some h_aX
    subst h_aX
    exact ⟨aX, rfl, hc, h1, h2.symm⟩
  · cases h
def T_laws_FnExactLineOk : Hints := ⟨fun i => if i = 10 then some [(0, 2)] else none, fun _ => none, fun i => if i = 0 then some [1] else if i = 1 then some [1, 3] else if i = 2 then some [1, 3] else if i = 3 then some [1, 11] else if i = 4 then some [2] else if i = 5 then some [1, 4] else if i = 6 then some [1, 4, 5] else if i = 7 then some [1, 4, 5, 6] else if i = 8 then some [1, 5, 21] else if i = 9 then some [2] else if i = 10 then some [26] else if i = 11 then some [2] else if i = 12 then some [2] else none⟩
noncomputable def Phi_laws_FnExactLineOk : Tab := fun f => if f = 18 then some spSzLine else if f = 20 then some spToLine else if f = 22 then some spEqLine else if f = 34 then some spMarkLine else if f = 19 then some spLineOk else if f = 21 then some spLineOk else none
theorem phi_laws_FnExactLineOk : ∀ f sp, Phi_laws_FnExactLineOk f = some sp → FnOk Try.prog f sp := by
  intro f sp h
  unfold Phi_laws_FnExactLineOk at h
  split at h
  · rename_i e; cases h; rw [e]; exact ok_laws_szLine
  split at h
  · rename_i e; cases h; rw [e]; exact ok_laws_toLine
  split at h
  · rename_i e; cases h; rw [e]; exact ok_laws_eqLine
  split at h
  · rename_i e; cases h; rw [e]; exact ok_laws_markLine
  split at h
  · rename_i e; cases h; rw [e]; exact ok_spec_LineOk
  split at h
  · rename_i e; cases h; rw [e]; exact ok_impl_LineOk
  cases h
theorem ok_laws_FnExactLineOk : FnOk Try.prog 6 spLaw := by
  refine fn_ok (Φ := Phi_laws_FnExactLineOk) (T := T_laws_FnExactLineOk) phi_laws_FnExactLineOk mixed Try.func6 rfl rfl (by decide) ?_
  intro ins r outs hr hl
  clear hl
  have hs := spLaw_in hr
  clear hr
  obtain ⟨aX, rfl, hc, hr, rfl⟩ := hs
  simp only [spLaw, Try.f6, Go.VM.initS]
  have w0 := hc
  have z0 : Line.sz aX (1048576) = -1 ∨ (0 ≤ Line.sz aX (1048576) ∧ Line.sz aX (1048576) ≤ 1048576 ∧ _) := Line.sz_ok aX (1048576) 1048576 (by decide) (by decide)
  rcases z0 with z0 | ⟨z0, y0, x0⟩
  · simp only [w0, z0, Phi_laws_FnExactLineOk, T_laws_FnExactLineOk, spEqLine, spLineOk, spMarkLine, spSzLine, spToLine, go_sem, reduceIte, reduceCtorEq, Nat.reduceEqDiff, Nat.reduceBEq, Nat.reduceBNe, Nat.reduceMul, Nat.reduceAdd, Nat.reduceLT, Nat.reduceLeDiff, Nat.reduceSub, Int.reduceLT, Int.reduceLE, Int.reduceEq, Int.reduceNeg, Int.reduceAdd, Int.reduceSub, Int.reduceToNat, Int.reduceBEq, Int.reduceBNe, Array.reduceGetElem?]
    repeat' ((first | refine after_iteT.2 ⟨fun hp => ?_, fun hp => ?_⟩ | refine after_iteF.2 ⟨fun hp => ?_, fun hp => ?_⟩ | refine after_ite.2 ⟨fun hp => ?_, fun hp => ?_⟩ | refine grd_not.2 ⟨fun hp => ?_, fun hp => ?_⟩ | refine grd_beq.2 ⟨fun hp => ?_, fun hp => ?_⟩ | refine grd_dec.2 ⟨fun hp => ?_, fun hp => ?_⟩ | refine grd_bool.2 ⟨fun hp => ?_, fun hp => ?_⟩ | refine condG_not.2 ⟨fun hp => ?_, fun hp => ?_⟩ | refine condG_beq.2 ⟨fun hp => ?_, fun hp => ?_⟩ | refine condG_dec.2 ⟨fun hp => ?_, fun hp => ?_⟩ | refine condG_bool.2 ⟨fun hp => ?_, fun hp => ?_⟩ | (refine (goes_draw0 rfl (by decide +kernel)).2 ?_; have hp := True.intro) | (refine (goes_drawM _ rfl (by decide +kernel)).2 ?_; have hp := True.intro)) <;> simp only [hp, w0, z0, Phi_laws_FnExactLineOk, T_laws_FnExactLineOk, spEqLine, spLineOk, spMarkLine, spSzLine, spToLine, go_sem, reduceIte, reduceCtorEq, Nat.reduceEqDiff, Nat.reduceBEq, Nat.reduceBNe, Nat.reduceMul, Nat.reduceAdd, Nat.reduceLT, Nat.reduceLeDiff, Nat.reduceSub, Int.reduceLT, Int.reduceLE, Int.reduceEq, Int.reduceNeg, Int.reduceAdd, Int.reduceSub, Int.reduceToNat, Int.reduceBEq, Int.reduceBNe, Array.reduceGetElem?])
    simp only [fin_mk, finV, resL, resV1, allUse, oneOrTup, List.take, List.drop, List.take_succ_cons, List.take_zero, List.drop_succ_cons, List.drop_zero, Phi_laws_FnExactLineOk, T_laws_FnExactLineOk, spEqLine, spLineOk, spMarkLine, spSzLine, spToLine, go_sem, reduceIte, reduceCtorEq, Nat.reduceEqDiff, Nat.reduceBEq, Nat.reduceBNe, Nat.reduceMul, Nat.reduceAdd, Nat.reduceLT, Nat.reduceLeDiff, Nat.reduceSub, Int.reduceLT, Int.reduceLE, Int.reduceEq, Int.reduceNeg, Int.reduceAdd, Int.reduceSub, Int.reduceToNat, Int.reduceBEq, Int.reduceBNe, Array.reduceGetElem?]
    rw [← hr]
  have n0 : ¬ (Line.sz aX (1048576)) < 0 := Int.not_lt.2 z0
  have u0 : (Line.sz aX (1048576)) ≤ 4611686018427387904 := by omega
  have v0 : (Line.sz aX (1048576)) ≤ ((1048576 : Nat) : Int) := by omega
  have l0 : aX.le 4194304 := Line.le_mono _ _ _ (by decide) x0
  simp only [w0, z0, n0, u0, l0, Phi_laws_FnExactLineOk, T_laws_FnExactLineOk, spEqLine, spLineOk, spMarkLine, spSzLine, spToLine, go_sem, reduceIte, reduceCtorEq, Nat.reduceEqDiff, Nat.reduceBEq, Nat.reduceBNe, Nat.reduceMul, Nat.reduceAdd, Nat.reduceLT, Nat.reduceLeDiff, Nat.reduceSub, Int.reduceLT, Int.reduceLE, Int.reduceEq, Int.reduceNeg, Int.reduceAdd, Int.reduceSub, Int.reduceToNat, Int.reduceBEq, Int.reduceBNe, Array.reduceGetElem?]
  repeat' ((first | refine after_iteT.2 ⟨fun hp => ?_, fun hp => ?_⟩ | refine after_iteF.2 ⟨fun hp => ?_, fun hp => ?_⟩ | refine after_ite.2 ⟨fun hp => ?_, fun hp => ?_⟩ | refine grd_not.2 ⟨fun hp => ?_, fun hp => ?_⟩ | refine grd_beq.2 ⟨fun hp => ?_, fun hp => ?_⟩ | refine grd_dec.2 ⟨fun hp => ?_, fun hp => ?_⟩ | refine grd_bool.2 ⟨fun hp => ?_, fun hp => ?_⟩ | refine condG_not.2 ⟨fun hp => ?_, fun hp => ?_⟩ | refine condG_beq.2 ⟨fun hp => ?_, fun hp => ?_⟩ | refine condG_dec.2 ⟨fun hp => ?_, fun hp => ?_⟩ | refine condG_bool.2 ⟨fun hp => ?_, fun hp => ?_⟩ | (refine (goes_draw0 rfl (by decide +kernel)).2 ?_; have hp := True.intro) | (refine (goes_drawM _ rfl (by decide +kernel)).2 ?_; have hp := True.intro)) <;> simp only [hp, w0, z0, n0, u0, l0, Phi_laws_FnExactLineOk, T_laws_FnExactLineOk, spEqLine, spLineOk, spMarkLine, spSzLine, spToLine, go_sem, reduceIte, reduceCtorEq, Nat.reduceEqDiff, Nat.reduceBEq, Nat.reduceBNe, Nat.reduceMul, Nat.reduceAdd, Nat.reduceLT, Nat.reduceLeDiff, Nat.reduceSub, Int.reduceLT, Int.reduceLE, Int.reduceEq, Int.reduceNeg, Int.reduceAdd, Int.reduceSub, Int.reduceToNat, Int.reduceBEq, Int.reduceBNe, Array.reduceGetElem?])
  all_goals (simp only [fin_mk, finV, resL, resV1, allUse, oneOrTup, List.take, List.drop, List.take_succ_cons, List.take_zero, List.drop_succ_cons, List.drop_zero, Phi_laws_FnExactLineOk, T_laws_FnExactLineOk, spEqLine, spLineOk, spMarkLine, spSzLine, spToLine, go_sem, reduceIte, reduceCtorEq, Nat.reduceEqDiff, Nat.reduceBEq, Nat.reduceBNe, Nat.reduceMul, Nat.reduceAdd, Nat.reduceLT, Nat.reduceLeDiff, Nat.reduceSub, Int.reduceLT, Int.reduceLE, Int.reduceEq, Int.reduceNeg, Int.reduceAdd, Int.reduceSub, Int.reduceToNat, Int.reduceBEq, Int.reduceBNe, Array.reduceGetElem?]; rw [← hr])
set_option maxRecDepth 100000 in
theorem own : ownKnob Try.prog.godebug = none := by kernel_rfl
theorem lifted (os : Os) (started : os.Started) (H : Type) (enc : TypeId × Value → H) :
    ReturnsInHanded {} Try.checked os 6 .any (Rows.fnExactLineOkSpec.pre6 enc Try.prog Try.f6 Rows.fnExactLineOkRow.domain false) (Rows.fnExactLineOkSpec.post enc Try.prog Try.f6 false true false false) :=
  law_of_fn (C := Try.checked) (n := 4) own started (by kernel_rfl) Try.func6 rfl rfl
    (ChangeSpec.witness6 (enc := enc) (C := Try.checked) false ⟨#[], #[.agg #[.int .i64 0, .int .i64 0, .int .i64 0, .int .i64 0, .int .i64 0, .slice none 0 0, .bool false]], []⟩ 8 (by kernel_rfl) (by kernel_rfl) (by kernel_rfl) (by kernel_rfl))
    rfl rfl Try.underlying4 (by kernel_rfl) (by
      intro t ht
      simp only [Try.f6, List.mem_cons, List.not_mem_nil, or_false] at ht
      subst ht; exact ⟨by kernel_rfl, by kernel_rfl, of_decide_eq_true (by kernel_rfl)⟩)
    (by
      intro ds hd
      match ds, hd with
      | [d0], _ => rfl)
    ok_laws_FnExactLineOk rfl (by
      intro xs hl hw
      match xs, hl with
      | [x0], _ =>
        obtain ⟨x0, rfl, c0⟩ := wf_Line (hw 0 36 x0 rfl rfl)
        simp only [spLaw, Line.dec_enc, Option.bind_some]
        exact if_pos c0)
theorem over : Rows.fnExactLineOkRow.holds Try.pinned (OpenSpec.ofChange Rows.fnExactLineOkSpec) :=
  OpenClaim.holds_of_wide 6 Try.f6 rfl rfl rfl rfl rfl rfl rfl ⟨rfl, rfl, rfl, rfl, rfl⟩ rfl rfl rfl rfl rfl (by kernel_rfl) Try.func6 (by kernel_rfl)
    (of_decide_eq_true (by kernel_rfl)) (by unfold Func.isWrapper; first | (rw [if_pos (by decide +kernel)]; kernel_rfl) | (rw [if_neg (by decide +kernel)]; exact ⟨rfl, rfl⟩))
    (fun os started H enc _ => lifted os started H enc)
end Go.Proofs.Ytihaeilbiihhaaa.VLineOk
namespace Go.Proofs.Ytihaeilbiihhaaa
theorem fnExactLineOk_holds : Rows.FnExactLineOkSaid := VLineOk.over
#print axioms fnExactLineOk_holds
end Go.Proofs.Ytihaeilbiihhaaa
