/- The law FnExactTakeLine: the two functions that it calls answer alike, so it answers true. No condition. -/
import Derived.Test.YtihaeilbiihhaaaVLB
import Derived.Test.YtihaeilbiihhaaaVLJ
import Derived.Test.YtihaeilbiihhaaaRows
import Derived.KernelRfl
namespace Go.Proofs.Ytihaeilbiihhaaa.VTakeLine
open Go Go.VM Go.Proofs.Ytihaeilbiihhaaa.L
set_option maxRecDepth 100000
set_option maxHeartbeats 4000000
set_option linter.unusedSimpArgs false
set_option linter.unusedVariables false
theorem wf_Seen {n : Nat} {v : V} (h : WfV Try.prog (n + 2) 75 v) : ∃ x : Seen, v = x.enc ∧ x.le 4611686018427387904 := by
  obtain ⟨l, rfl, hl, hf⟩ := wf_fields Try.underlying75 h
  match l, hl with
  | [f0, f1, f2], _ =>
    obtain ⟨f0, rfl, _⟩ := wf_int Try.underlying3 (hf 0 _ f0 rfl rfl)
    obtain ⟨f1, rfl, _⟩ := wf_int Try.underlying3 (hf 1 _ f1 rfl rfl)
    obtain ⟨f2, rfl, _⟩ := wf_int Try.underlying3 (hf 2 _ f2 rfl rfl)
    exact ⟨⟨f0, f1, f2⟩, by simp [Seen.enc], trivial⟩
theorem wf_Range {n : Nat} {v : V} (h : WfV Try.prog (n + 2) 83 v) : ∃ x : Range, v = x.enc ∧ x.le 4611686018427387904 := by
  obtain ⟨l, rfl, hl, hf⟩ := wf_fields Try.underlying83 h
  match l, hl with
  | [f0, f1], _ =>
    obtain ⟨f0, rfl, _⟩ := wf_int Try.underlying3 (hf 0 _ f0 rfl rfl)
    obtain ⟨f1, rfl, _⟩ := wf_int Try.underlying3 (hf 1 _ f1 rfl rfl)
    exact ⟨⟨f0, f1⟩, by simp [Range.enc], trivial⟩
theorem wf_Line {n : Nat} {v : V} (h : WfV Try.prog (n + 4) 36 v) : ∃ x : Line, v = x.enc ∧ x.le 4611686018427387904 := by
  obtain ⟨l, rfl, hl, hf⟩ := wf_fields Try.underlying36 h
  match l, hl with
  | [f0, f1, f2, f3, f4, f5, f6], _ =>
    obtain ⟨f0, rfl, _⟩ := wf_int Try.underlying3 (hf 0 _ f0 rfl rfl)
    obtain ⟨f1, rfl, _⟩ := wf_int Try.underlying3 (hf 1 _ f1 rfl rfl)
    obtain ⟨f2, rfl, _⟩ := wf_int Try.underlying3 (hf 2 _ f2 rfl rfl)
    obtain ⟨f3, rfl, _⟩ := wf_int Try.underlying3 (hf 3 _ f3 rfl rfl)
    obtain ⟨f4, rfl, _⟩ := wf_int Try.underlying3 (hf 4 _ f4 rfl rfl)
    obtain ⟨f5, rfl, c5, _, e5⟩ := wf_slice Try.underlying34 (hf 5 _ f5 rfl rfl)
    rw [Ty.bytes_83] at c5
    have c5 : f5.length ≤ 4611686018427387904 := by unfold reachBytes at c5; omega
    obtain ⟨f5, rfl, d5⟩ := list_enc (e := Range.enc) (R := Range.le 4611686018427387904) fun v hv => wf_Range (e5 v hv)
    rw [List.length_map] at c5
    obtain ⟨f6, rfl⟩ := wf_bool Try.underlying4 (hf 6 _ f6 rfl rfl)
    exact ⟨⟨f0, f1, f2, f3, f4, f5, f6⟩, by simp [Line.enc, Ty.cells_83], ⟨c5, d5⟩⟩
open Classical in
noncomputable def spLaw : VM.Spec := ⟨[.rd, .rd], fun | [.lst 3 aList', aX'] => (decL Seen.dec aList').bind fun aList => (Line.dec aX').bind fun aX => if leL Seen.le 4611686018427387904 aList ∧ aX.le 4611686018427387904 then some (.bool true, []) else none | _ => none⟩
theorem spLaw_in {ins : List V} {r : V} {outs : List V} (h : spLaw.run ins = some (r, outs)) : ∃ (aList : (List Seen)) (aX : Line), ins = [.lst 3 ((aList).map Seen.enc), Line.enc aX] ∧ (leL Seen.le 4611686018427387904 aList ∧ aX.le 4611686018427387904) ∧ .bool true = r ∧ outs = [] := by
  unfold spLaw at h
  simp only at h
  split at h
  · rename_i aList' aX'
    simp only [Option.bind_eq_some_iff] at h
    obtain ⟨aList, h_aList, aX, h_aX, h⟩ := h
    split at h
    case isFalse => cases h
    rename_i hc
    simp only [Option.some.injEq, Prod.mk.injEq] at h
    obtain ⟨h1, h2⟩ := h
    have h_aList := decL_some (fun _ _ h => Seen.dec_some h) h_aList
    subst h_aList
    have h_aX := Line.dec_some h_aX
    subst h_aX
    exact ⟨aList, aX, rfl, hc, h1, h2.symm⟩
  · cases h
def T_laws_FnExactTakeLine : Hints := ⟨fun i => if i = 8 then some [(1, 2)] else if i = 16 then some [(0, 2)] else if i = 31 then some [(1, 2)] else none, fun _ => none, fun i => if i = 0 then some [0, 3] else if i = 1 then some [0, 3, 5] else if i = 2 then some [0, 3, 5] else if i = 3 then some [0, 3, 5, 18] else if i = 4 then some [4] else if i = 5 then some [0, 3, 5] else if i = 6 then some [0, 3, 23] else if i = 7 then some [4] else if i = 8 then some [0, 3, 6] else if i = 9 then some [0, 3, 6, 7] else if i = 10 then some [0, 3, 6, 7, 8] else if i = 11 then some [0, 3, 6, 7, 8, 9] else if i = 12 then some [0, 3, 6, 7, 8, 9, 39] else if i = 13 then some [4] else if i = 14 then some [0, 3, 6, 7, 8, 9, 44] else if i = 15 then some [4] else if i = 16 then some [0, 3, 6, 7, 8, 9, 49] else if i = 17 then some [4] else if i = 18 then some [0, 3, 6, 7, 8, 9, 10] else if i = 19 then some [0, 3, 6, 8, 9, 10] else if i = 20 then some [0, 3, 6, 9, 10] else if i = 21 then some [0, 3, 6, 9, 63] else if i = 22 then some [4] else if i = 23 then some [0, 3, 6, 9, 11] else if i = 24 then some [0, 3, 6, 9, 11] else if i = 25 then some [0, 3, 6, 9, 11, 12] else if i = 26 then some [0, 3, 6, 9, 11, 12] else if i = 27 then some [0, 3, 6, 9, 11, 12, 71] else if i = 28 then some [4] else if i = 29 then some [0, 3, 6, 9, 11, 74] else if i = 30 then some [4] else if i = 31 then some [6, 9, 11, 13] else if i = 32 then some [9, 11, 83] else if i = 33 then some [4] else if i = 34 then some [9, 11, 12] else if i = 35 then some [11, 12] else if i = 36 then some [11, 12, 88] else if i = 37 then some [4] else if i = 38 then some [91] else if i = 39 then some [4] else if i = 40 then some [4] else none⟩
noncomputable def Phi_laws_FnExactTakeLine : Tab := fun f => if f = 28 then some spSzSeenS else if f = 30 then some spToSeenS else if f = 32 then some spEqSeenS else if f = 33 then some spMarkSeenS else if f = 18 then some spSzLine else if f = 20 then some spToLine else if f = 22 then some spEqLine else if f = 34 then some spMarkLine else if f = 35 then some spHeldSeenS else if f = 29 then some spTakeLine else if f = 31 then some spTakeLine else none
theorem phi_laws_FnExactTakeLine : ∀ f sp, Phi_laws_FnExactTakeLine f = some sp → FnOk Try.prog f sp := by
  intro f sp h
  unfold Phi_laws_FnExactTakeLine at h
  split at h
  · rename_i e; cases h; rw [e]; exact ok_laws_szSeenS
  split at h
  · rename_i e; cases h; rw [e]; exact ok_laws_toSeenS
  split at h
  · rename_i e; cases h; rw [e]; exact ok_laws_eqSeenS
  split at h
  · rename_i e; cases h; rw [e]; exact ok_laws_markSeenS
  split at h
  · rename_i e; cases h; rw [e]; exact ok_laws_szLine
  split at h
  · rename_i e; cases h; rw [e]; exact ok_laws_toLine
  split at h
  · rename_i e; cases h; rw [e]; exact ok_laws_eqLine
  split at h
  · rename_i e; cases h; rw [e]; exact ok_laws_markLine
  split at h
  · rename_i e; cases h; rw [e]; exact ok_laws_heldSeenS
  split at h
  · rename_i e; cases h; rw [e]; exact ok_spec_TakeLine
  split at h
  · rename_i e; cases h; rw [e]; exact ok_impl_TakeLine
  cases h
theorem ok_laws_FnExactTakeLine : FnOk Try.prog 8 spLaw := by
  refine fn_ok (Φ := Phi_laws_FnExactTakeLine) (T := T_laws_FnExactTakeLine) phi_laws_FnExactTakeLine mixed Try.func8 rfl rfl (by decide) ?_
  intro ins r outs hr hl
  clear hl
  have hs := spLaw_in hr
  clear hr
  obtain ⟨aList, aX, rfl, hc, hr, rfl⟩ := hs
  simp only [spLaw, Try.f8, Go.VM.initS]
  obtain ⟨w0, w1⟩ := hc
  have w0' : aList.length ≤ 4611686018427387904 := w0.1
  have z0 : szF aList (1048576) = -1 ∨ (0 ≤ szF aList (1048576) ∧ szF aList (1048576) ≤ 1048576 ∧ _) := szF_ok (p := Seen.le) (fun b x => trivial) aList (1048576) 1048576 (by decide) (by decide)
  rcases z0 with z0 | ⟨z0, y0, x0⟩
  · simp only [w0', z0, Phi_laws_FnExactTakeLine, T_laws_FnExactTakeLine, spEqLine, spEqSeenS, spHeldSeenS, spMarkLine, spMarkSeenS, spSzLine, spSzSeenS, spTakeLine, spToLine, spToSeenS, go_sem, reduceIte, reduceCtorEq, Nat.reduceEqDiff, Nat.reduceBEq, Nat.reduceBNe, Nat.reduceMul, Nat.reduceAdd, Nat.reduceLT, Nat.reduceLeDiff, Nat.reduceSub, Int.reduceLT, Int.reduceLE, Int.reduceEq, Int.reduceNeg, Int.reduceAdd, Int.reduceSub, Int.reduceToNat, Int.reduceBEq, Int.reduceBNe, Array.reduceGetElem?]
    repeat' ((first | refine after_iteT.2 ⟨fun hp => ?_, fun hp => ?_⟩ | refine after_iteF.2 ⟨fun hp => ?_, fun hp => ?_⟩ | refine after_ite.2 ⟨fun hp => ?_, fun hp => ?_⟩ | refine grd_not.2 ⟨fun hp => ?_, fun hp => ?_⟩ | refine grd_beq.2 ⟨fun hp => ?_, fun hp => ?_⟩ | refine grd_dec.2 ⟨fun hp => ?_, fun hp => ?_⟩ | refine grd_bool.2 ⟨fun hp => ?_, fun hp => ?_⟩ | refine condG_not.2 ⟨fun hp => ?_, fun hp => ?_⟩ | refine condG_beq.2 ⟨fun hp => ?_, fun hp => ?_⟩ | refine condG_dec.2 ⟨fun hp => ?_, fun hp => ?_⟩ | refine condG_bool.2 ⟨fun hp => ?_, fun hp => ?_⟩ | (refine (goes_draw0 rfl (by decide +kernel)).2 ?_; have hp := True.intro) | (refine (goes_drawM _ rfl (by decide +kernel)).2 ?_; have hp := True.intro)) <;> simp only [hp, w0', z0, Phi_laws_FnExactTakeLine, T_laws_FnExactTakeLine, spEqLine, spEqSeenS, spHeldSeenS, spMarkLine, spMarkSeenS, spSzLine, spSzSeenS, spTakeLine, spToLine, spToSeenS, go_sem, reduceIte, reduceCtorEq, Nat.reduceEqDiff, Nat.reduceBEq, Nat.reduceBNe, Nat.reduceMul, Nat.reduceAdd, Nat.reduceLT, Nat.reduceLeDiff, Nat.reduceSub, Int.reduceLT, Int.reduceLE, Int.reduceEq, Int.reduceNeg, Int.reduceAdd, Int.reduceSub, Int.reduceToNat, Int.reduceBEq, Int.reduceBNe, Array.reduceGetElem?])
    simp only [fin_mk, finV, resL, resV1, allUse, oneOrTup, List.take, List.drop, List.take_succ_cons, List.take_zero, List.drop_succ_cons, List.drop_zero, Phi_laws_FnExactTakeLine, T_laws_FnExactTakeLine, spEqLine, spEqSeenS, spHeldSeenS, spMarkLine, spMarkSeenS, spSzLine, spSzSeenS, spTakeLine, spToLine, spToSeenS, go_sem, reduceIte, reduceCtorEq, Nat.reduceEqDiff, Nat.reduceBEq, Nat.reduceBNe, Nat.reduceMul, Nat.reduceAdd, Nat.reduceLT, Nat.reduceLeDiff, Nat.reduceSub, Int.reduceLT, Int.reduceLE, Int.reduceEq, Int.reduceNeg, Int.reduceAdd, Int.reduceSub, Int.reduceToNat, Int.reduceBEq, Int.reduceBNe, Array.reduceGetElem?]
    rw [← hr]
  have n0 : ¬ (szF aList (1048576)) < 0 := Int.not_lt.2 z0
  have u0 : (szF aList (1048576)) ≤ 4611686018427387904 := by omega
  have v0 : (szF aList (1048576)) ≤ ((1048576 : Nat) : Int) := by omega
  have l0' : leL Seen.le 4194304 aList := leL.mono Seen.le_mono (by decide) x0
  have l0 : aList.length ≤ 4194304 := l0'.1
  have z1 : Line.sz aX (szF aList (1048576)) = -1 ∨ (0 ≤ Line.sz aX (szF aList (1048576)) ∧ Line.sz aX (szF aList (1048576)) ≤ szF aList (1048576) ∧ _) := Line.sz_ok aX (szF aList (1048576)) 1048576 z0 v0
  rcases z1 with z1 | ⟨z1, y1, x1⟩
  · simp only [l0', w0', z0, n0, u0, l0, w1, z1, Phi_laws_FnExactTakeLine, T_laws_FnExactTakeLine, spEqLine, spEqSeenS, spHeldSeenS, spMarkLine, spMarkSeenS, spSzLine, spSzSeenS, spTakeLine, spToLine, spToSeenS, go_sem, reduceIte, reduceCtorEq, Nat.reduceEqDiff, Nat.reduceBEq, Nat.reduceBNe, Nat.reduceMul, Nat.reduceAdd, Nat.reduceLT, Nat.reduceLeDiff, Nat.reduceSub, Int.reduceLT, Int.reduceLE, Int.reduceEq, Int.reduceNeg, Int.reduceAdd, Int.reduceSub, Int.reduceToNat, Int.reduceBEq, Int.reduceBNe, Array.reduceGetElem?]
    repeat' ((first | refine after_iteT.2 ⟨fun hp => ?_, fun hp => ?_⟩ | refine after_iteF.2 ⟨fun hp => ?_, fun hp => ?_⟩ | refine after_ite.2 ⟨fun hp => ?_, fun hp => ?_⟩ | refine grd_not.2 ⟨fun hp => ?_, fun hp => ?_⟩ | refine grd_beq.2 ⟨fun hp => ?_, fun hp => ?_⟩ | refine grd_dec.2 ⟨fun hp => ?_, fun hp => ?_⟩ | refine grd_bool.2 ⟨fun hp => ?_, fun hp => ?_⟩ | refine condG_not.2 ⟨fun hp => ?_, fun hp => ?_⟩ | refine condG_beq.2 ⟨fun hp => ?_, fun hp => ?_⟩ | refine condG_dec.2 ⟨fun hp => ?_, fun hp => ?_⟩ | refine condG_bool.2 ⟨fun hp => ?_, fun hp => ?_⟩ | (refine (goes_draw0 rfl (by decide +kernel)).2 ?_; have hp := True.intro) | (refine (goes_drawM _ rfl (by decide +kernel)).2 ?_; have hp := True.intro)) <;> simp only [hp, l0', w0', z0, n0, u0, l0, w1, z1, Phi_laws_FnExactTakeLine, T_laws_FnExactTakeLine, spEqLine, spEqSeenS, spHeldSeenS, spMarkLine, spMarkSeenS, spSzLine, spSzSeenS, spTakeLine, spToLine, spToSeenS, go_sem, reduceIte, reduceCtorEq, Nat.reduceEqDiff, Nat.reduceBEq, Nat.reduceBNe, Nat.reduceMul, Nat.reduceAdd, Nat.reduceLT, Nat.reduceLeDiff, Nat.reduceSub, Int.reduceLT, Int.reduceLE, Int.reduceEq, Int.reduceNeg, Int.reduceAdd, Int.reduceSub, Int.reduceToNat, Int.reduceBEq, Int.reduceBNe, Array.reduceGetElem?])
    simp only [fin_mk, finV, resL, resV1, allUse, oneOrTup, List.take, List.drop, List.take_succ_cons, List.take_zero, List.drop_succ_cons, List.drop_zero, Phi_laws_FnExactTakeLine, T_laws_FnExactTakeLine, spEqLine, spEqSeenS, spHeldSeenS, spMarkLine, spMarkSeenS, spSzLine, spSzSeenS, spTakeLine, spToLine, spToSeenS, go_sem, reduceIte, reduceCtorEq, Nat.reduceEqDiff, Nat.reduceBEq, Nat.reduceBNe, Nat.reduceMul, Nat.reduceAdd, Nat.reduceLT, Nat.reduceLeDiff, Nat.reduceSub, Int.reduceLT, Int.reduceLE, Int.reduceEq, Int.reduceNeg, Int.reduceAdd, Int.reduceSub, Int.reduceToNat, Int.reduceBEq, Int.reduceBNe, Array.reduceGetElem?]
    rw [← hr]
  have n1 : ¬ (Line.sz aX (szF aList (1048576))) < 0 := Int.not_lt.2 z1
  have u1 : (Line.sz aX (szF aList (1048576))) ≤ 4611686018427387904 := by omega
  have v1 : (Line.sz aX (szF aList (1048576))) ≤ ((1048576 : Nat) : Int) := by omega
  have l1 : aX.le 4194304 := Line.le_mono _ _ _ (by decide) x1
  have q0 : (0 : Int) ≤ 1 := by decide
  have r0 : (takeLine aList aX).length ≤ 4194304 := takeLine_le l0
  have l1_Set : aX.Set.length ≤ 4194304 := l1.1
  have xe0 : (markL meSeen (aList) (1)).2 = 1 + (3 : Nat) * (aList).length := markL_k meSeen_k _ _
  have xp0 : 0 ≤ (markL meSeen (aList) (1)).2 := by omega
  have xn0 : ¬ (markL meSeen (aList) (1)).2 < 0 := by omega
  have xb0 : (markL meSeen (aList) (1)).2 ≤ 288230376151711744 := by omega
  have xe1 : (msLine (aX) ((markL meSeen (aList) (1)).2)).2 = (markL meSeen (aList) (1)).2 + (2 : Nat) * (aX).Set.length := msLine_k _ _
  have xp1 : 0 ≤ (msLine (aX) ((markL meSeen (aList) (1)).2)).2 := by omega
  have xn1 : ¬ (msLine (aX) ((markL meSeen (aList) (1)).2)).2 < 0 := by omega
  have xb1 : (msLine (aX) ((markL meSeen (aList) (1)).2)).2 ≤ 288230376151711744 := by omega
  have me2 : (markL meSeen (takeLine aList aX) (1)).2 = 1 + (3 : Nat) * (takeLine aList aX).length := markL_k meSeen_k _ _
  have mp2 : 0 ≤ (markL meSeen (takeLine aList aX) (1)).2 := by omega
  have mn2 : ¬ (markL meSeen (takeLine aList aX) (1)).2 < 0 := by omega
  have mb2 : (markL meSeen (takeLine aList aX) (1)).2 ≤ 288230376151711744 := by omega
  simp only [l0', w0', z0, n0, u0, l0, w1, z1, n1, u1, l1, r0, l1_Set, xp0, xn0, xb0, xp1, xn1, xb1, mp2, mn2, mb2, held_marked heSeen_marked, markL_len, q0, Option.getD_some, bne_self_eq_false, Phi_laws_FnExactTakeLine, T_laws_FnExactTakeLine, spEqLine, spEqSeenS, spHeldSeenS, spMarkLine, spMarkSeenS, spSzLine, spSzSeenS, spTakeLine, spToLine, spToSeenS, go_sem, reduceIte, reduceCtorEq, Nat.reduceEqDiff, Nat.reduceBEq, Nat.reduceBNe, Nat.reduceMul, Nat.reduceAdd, Nat.reduceLT, Nat.reduceLeDiff, Nat.reduceSub, Int.reduceLT, Int.reduceLE, Int.reduceEq, Int.reduceNeg, Int.reduceAdd, Int.reduceSub, Int.reduceToNat, Int.reduceBEq, Int.reduceBNe, Array.reduceGetElem?]
  repeat' ((first | refine after_iteT.2 ⟨fun hp => ?_, fun hp => ?_⟩ | refine after_iteF.2 ⟨fun hp => ?_, fun hp => ?_⟩ | refine after_ite.2 ⟨fun hp => ?_, fun hp => ?_⟩ | refine grd_not.2 ⟨fun hp => ?_, fun hp => ?_⟩ | refine grd_beq.2 ⟨fun hp => ?_, fun hp => ?_⟩ | refine grd_dec.2 ⟨fun hp => ?_, fun hp => ?_⟩ | refine grd_bool.2 ⟨fun hp => ?_, fun hp => ?_⟩ | refine condG_not.2 ⟨fun hp => ?_, fun hp => ?_⟩ | refine condG_beq.2 ⟨fun hp => ?_, fun hp => ?_⟩ | refine condG_dec.2 ⟨fun hp => ?_, fun hp => ?_⟩ | refine condG_bool.2 ⟨fun hp => ?_, fun hp => ?_⟩ | (refine (goes_draw0 rfl (by decide +kernel)).2 ?_; have hp := True.intro) | (refine (goes_drawM _ rfl (by decide +kernel)).2 ?_; have hp := True.intro)) <;> simp only [hp, l0', w0', z0, n0, u0, l0, w1, z1, n1, u1, l1, r0, l1_Set, xp0, xn0, xb0, xp1, xn1, xb1, mp2, mn2, mb2, held_marked heSeen_marked, markL_len, q0, Option.getD_some, bne_self_eq_false, Phi_laws_FnExactTakeLine, T_laws_FnExactTakeLine, spEqLine, spEqSeenS, spHeldSeenS, spMarkLine, spMarkSeenS, spSzLine, spSzSeenS, spTakeLine, spToLine, spToSeenS, go_sem, reduceIte, reduceCtorEq, Nat.reduceEqDiff, Nat.reduceBEq, Nat.reduceBNe, Nat.reduceMul, Nat.reduceAdd, Nat.reduceLT, Nat.reduceLeDiff, Nat.reduceSub, Int.reduceLT, Int.reduceLE, Int.reduceEq, Int.reduceNeg, Int.reduceAdd, Int.reduceSub, Int.reduceToNat, Int.reduceBEq, Int.reduceBNe, Array.reduceGetElem?])
  all_goals (simp only [fin_mk, finV, resL, resV1, allUse, oneOrTup, List.take, List.drop, List.take_succ_cons, List.take_zero, List.drop_succ_cons, List.drop_zero, Phi_laws_FnExactTakeLine, T_laws_FnExactTakeLine, spEqLine, spEqSeenS, spHeldSeenS, spMarkLine, spMarkSeenS, spSzLine, spSzSeenS, spTakeLine, spToLine, spToSeenS, go_sem, reduceIte, reduceCtorEq, Nat.reduceEqDiff, Nat.reduceBEq, Nat.reduceBNe, Nat.reduceMul, Nat.reduceAdd, Nat.reduceLT, Nat.reduceLeDiff, Nat.reduceSub, Int.reduceLT, Int.reduceLE, Int.reduceEq, Int.reduceNeg, Int.reduceAdd, Int.reduceSub, Int.reduceToNat, Int.reduceBEq, Int.reduceBNe, Array.reduceGetElem?]; rw [← hr])
set_option maxRecDepth 100000 in
theorem own : ownKnob Try.prog.godebug = none := by kernel_rfl
theorem lifted (os : Os) (started : os.Started) (H : Type) (enc : TypeId × Value → H) :
    ReturnsInHanded {} Try.checked os 8 .any (Rows.fnExactTakeLineSpec.pre6 enc Try.prog Try.f8 Rows.fnExactTakeLineRow.domain false) (Rows.fnExactTakeLineSpec.post enc Try.prog Try.f8 false true false false) :=
  law_of_fn (C := Try.checked) (n := 4) own started (by kernel_rfl) Try.func8 rfl rfl
    (ChangeSpec.witness6 (enc := enc) (C := Try.checked) false ⟨#[], #[.slice none 0 0, .agg #[.int .i64 0, .int .i64 0, .int .i64 0, .int .i64 0, .int .i64 0, .slice none 0 0, .bool false]], []⟩ 8 (by kernel_rfl) (by kernel_rfl) (by kernel_rfl) (by kernel_rfl))
    rfl rfl Try.underlying4 (by kernel_rfl) (by
      intro t ht
      simp only [Try.f8, List.mem_cons, List.not_mem_nil, or_false] at ht
      rcases ht with rfl | rfl <;> exact ⟨by kernel_rfl, by kernel_rfl, of_decide_eq_true (by kernel_rfl)⟩)
    (by
      intro ds hd
      match ds, hd with
      | [d0, d1], _ => rfl)
    ok_laws_FnExactTakeLine rfl (by
      intro xs hl hw
      match xs, hl with
      | [x0, x1], _ =>
        obtain ⟨x0, rfl, c0, _, e0⟩ := wf_slice Try.underlying54 (hw 0 54 x0 rfl rfl)
        rw [Ty.bytes_75] at c0
        have c0 : x0.length ≤ 4611686018427387904 := by unfold reachBytes at c0; omega
        obtain ⟨x0, rfl, d0⟩ := list_enc (e := Seen.enc) (R := Seen.le 4611686018427387904) fun v hv => wf_Seen (e0 v hv)
        rw [List.length_map] at c0
        obtain ⟨x1, rfl, c1⟩ := wf_Line (hw 1 36 x1 rfl rfl)
        simp only [spLaw, Line.dec_enc, Ty.cells_75, decL_Seen, Option.bind_some]
        exact if_pos ⟨⟨c0, d0⟩, c1⟩)
theorem over : Rows.fnExactTakeLineRow.holds Try.pinned (OpenSpec.ofChange Rows.fnExactTakeLineSpec) :=
  OpenClaim.holds_of_wide 8 Try.f8 rfl rfl rfl rfl rfl rfl rfl ⟨rfl, rfl, rfl, rfl, rfl⟩ rfl rfl rfl rfl rfl (by kernel_rfl) Try.func8 (by kernel_rfl)
    (of_decide_eq_true (by kernel_rfl)) (by unfold Func.isWrapper; first | (rw [if_pos (by decide +kernel)]; kernel_rfl) | (rw [if_neg (by decide +kernel)]; exact ⟨rfl, rfl⟩))
    (fun os started H enc _ => lifted os started H enc)
end Go.Proofs.Ytihaeilbiihhaaa.VTakeLine
namespace Go.Proofs.Ytihaeilbiihhaaa
theorem fnExactTakeLine_holds : Rows.FnExactTakeLineSaid := VTakeLine.over
#print axioms fnExactTakeLine_holds
end Go.Proofs.Ytihaeilbiihhaaa
