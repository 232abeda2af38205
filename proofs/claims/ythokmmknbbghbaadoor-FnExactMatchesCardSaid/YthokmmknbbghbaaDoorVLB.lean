/- The laws' own functions: what is left of a size, copies, equality, marks. What each computes. -/
import Derived.Test.YthokmmknbbghbaaDoorVLA
namespace Go.Proofs.YthokmmknbbghbaaDoor.L
open Go Go.VM
set_option maxRecDepth 100000
set_option linter.unusedSimpArgs false
set_option linter.unusedVariables false
open Classical in
noncomputable def spMarkText : VM.Spec := { modes := [.rd], run := fun | [.int .i64 k] => if k ≤ 4611686018427387904 then some (.str (markText k), []) else none | _ => none, need := [] }
theorem spMarkText_in {ins : List V} {r : V} {outs : List V} (h : spMarkText.run ins = some (r, outs)) : ∃ (k : Int), ins = [.int .i64 k] ∧ (k ≤ 4611686018427387904) ∧ .str (markText k) = r ∧ outs = [] := by
  unfold spMarkText at h
  simp only at h
  split at h
  · rename_i k
    split at h
    case isFalse => cases h
    rename_i hc
    simp only [Option.some.injEq, Prod.mk.injEq] at h
    obtain ⟨h1, h2⟩ := h
    exact ⟨k, rfl, hc, h1, h2.symm⟩
  · cases h
def T_laws_markText : Hints := ⟨fun _ => none, fun i => if i = 4 then some [0, 3] else none, fun i => if i = 0 then some [0] else if i = 1 then some [0, 5] else if i = 2 then some [2] else if i = 3 then some [0, 3] else if i = 4 then some [0, 3, 7] else if i = 5 then some [0, 3] else if i = 6 then some [0, 3] else if i = 7 then some [2] else none⟩
noncomputable def Phi_laws_markText : Tab := fun f => none
theorem phi_laws_markText : ∀ f sp, Phi_laws_markText f = some sp → FnOk Tryd.prog f sp ∧ ∀ n ∈ sp.need, n ∈ ([] : List String) := by
  intro f sp h
  unfold Phi_laws_markText at h
  cases h
theorem ok_laws_markText : FnOk Tryd.prog 102 spMarkText := by
  refine fn_ok (Φ := Phi_laws_markText) (T := T_laws_markText) phi_laws_markText mixed Tryd.func102 rfl rfl rfl (by decide) ?_
  intro ins r outs hr hl
  clear hl
  have hs := spMarkText_in hr
  clear hr
  obtain ⟨k, rfl, hc, hr, rfl⟩ := hs
  simp only [spMarkText, Tryd.f102, Go.VM.initS]
  by_cases hk : k ≤ 0
  · simp only [hk, Phi_laws_markText, T_laws_markText, go_sem, reduceIte, reduceCtorEq, Nat.reduceEqDiff, Nat.reduceBEq, Nat.reduceBNe, Nat.reduceMul, Nat.reduceAdd, Nat.reduceLT, Nat.reduceLeDiff, Nat.reduceSub, Int.reduceLT, Int.reduceLE, Int.reduceEq, Int.reduceNeg, Int.reduceAdd, Int.reduceSub, Int.reduceToNat, Int.reduceBEq, Int.reduceBNe, Array.reduceGetElem?]
    repeat' ((first | refine after_iteT.2 ⟨fun hp => ?_, fun hp => ?_⟩ | refine after_iteF.2 ⟨fun hp => ?_, fun hp => ?_⟩ | refine after_ite.2 ⟨fun hp => ?_, fun hp => ?_⟩ | refine grd_not.2 ⟨fun hp => ?_, fun hp => ?_⟩ | refine grd_beq.2 ⟨fun hp => ?_, fun hp => ?_⟩ | refine grd_dec.2 ⟨fun hp => ?_, fun hp => ?_⟩ | refine grd_bool.2 ⟨fun hp => ?_, fun hp => ?_⟩ | refine condG_not.2 ⟨fun hp => ?_, fun hp => ?_⟩ | refine condG_beq.2 ⟨fun hp => ?_, fun hp => ?_⟩ | refine condG_dec.2 ⟨fun hp => ?_, fun hp => ?_⟩ | refine condG_bool.2 ⟨fun hp => ?_, fun hp => ?_⟩ | (refine (goes_draw0 rfl (by decide +kernel)).2 ?_; have hp := True.intro) | (refine (goes_drawM _ rfl (by decide +kernel)).2 ?_; have hp := True.intro)) <;> simp only [hp, hk, Phi_laws_markText, T_laws_markText, go_sem, reduceIte, reduceCtorEq, Nat.reduceEqDiff, Nat.reduceBEq, Nat.reduceBNe, Nat.reduceMul, Nat.reduceAdd, Nat.reduceLT, Nat.reduceLeDiff, Nat.reduceSub, Int.reduceLT, Int.reduceLE, Int.reduceEq, Int.reduceNeg, Int.reduceAdd, Int.reduceSub, Int.reduceToNat, Int.reduceBEq, Int.reduceBNe, Array.reduceGetElem?])
    simp only [fin_mk, finV, resL, resV1, allUse, oneOrTup, List.take, List.drop, List.take_succ_cons, List.take_zero, List.drop_succ_cons, List.drop_zero, Phi_laws_markText, T_laws_markText, go_sem, reduceIte, reduceCtorEq, Nat.reduceEqDiff, Nat.reduceBEq, Nat.reduceBNe, Nat.reduceMul, Nat.reduceAdd, Nat.reduceLT, Nat.reduceLeDiff, Nat.reduceSub, Int.reduceLT, Int.reduceLE, Int.reduceEq, Int.reduceNeg, Int.reduceAdd, Int.reduceSub, Int.reduceToNat, Int.reduceBEq, Int.reduceBNe, Array.reduceGetElem?]
    rw [← hr]
    simp only [markText, hk, if_true]
  simp only [hk, Phi_laws_markText, T_laws_markText, go_sem, reduceIte, reduceCtorEq, Nat.reduceEqDiff, Nat.reduceBEq, Nat.reduceBNe, Nat.reduceMul, Nat.reduceAdd, Nat.reduceLT, Nat.reduceLeDiff, Nat.reduceSub, Int.reduceLT, Int.reduceLE, Int.reduceEq, Int.reduceNeg, Int.reduceAdd, Int.reduceSub, Int.reduceToNat, Int.reduceBEq, Int.reduceBNe, Array.reduceGetElem?]
  refine loop_go (fun p : Int × List UInt8 => [(0, .int .i64 p.1), (3, .str p.2)]) (fun _ => []) (fun p => p.1.toNat) (fun p => 0 ≤ p.1 ∧ p.1 + p.2.length ≤ k ∧ markGo p.1 p.2 = markGo k []) (k, []) ⟨by simp only; omega, by simp, rfl⟩ rfl rfl ?_
  rintro ⟨m, out⟩ ⟨h0, h1, h2⟩ ih
  simp only at h0 h1 h2 ih
  by_cases hm : 0 < m
  · have d1 : m.tdiv 10 = m / 10 := Int.tdiv_eq_ediv_of_nonneg h0
    have d2 : m.tmod 10 = m % 10 := Int.tmod_eq_emod_of_nonneg h0
    have w1 : IntKind.i64.wrap (48 + m.tmod 10) = 48 + m.tmod 10 := wrap64 (by omega) (by omega)
    have w2 : IntKind.i64.wrap (m.tdiv 10) = m.tdiv 10 := wrap64 (by omega) (by omega)
    have w3 : IntKind.u8.wrap (48 + m.tmod 10) = 48 + m.tmod 10 := by
      simp only [IntKind.wrap, IntKind.signed, IntKind.bits, Bool.false_and]
      simp; omega
    have u1 : (0 : Int) ≤ 48 + m.tmod 10 := by omega
    have u2 : 48 + m.tmod 10 < 256 := by omega
    have u3 : 1 + out.length ≤ 9223372036854775807 := by omega
    simp only [hm, w1, w2, w3, u1, u2, u3, unBytes, Int.reduceEq, Phi_laws_markText, T_laws_markText, go_sem, reduceIte, reduceCtorEq, Nat.reduceEqDiff, Nat.reduceBEq, Nat.reduceBNe, Nat.reduceMul, Nat.reduceAdd, Nat.reduceLT, Nat.reduceLeDiff, Nat.reduceSub, Int.reduceLT, Int.reduceLE, Int.reduceEq, Int.reduceNeg, Int.reduceAdd, Int.reduceSub, Int.reduceToNat, Int.reduceBEq, Int.reduceBNe, Array.reduceGetElem?]
    refine ih (m.tdiv 10, UInt8.ofNat (48 + m.tmod 10).toNat :: out) ⟨by simp only; omega, by simp only [List.length_cons]; omega, ?_⟩ (by simp only; omega)
    simp only
    rw [← h2]
    conv => rhs; rw [markGo]
    simp [hm]
  · have e : m = 0 := by omega
    subst e
    have u3 : 1 + out.length ≤ 9223372036854775807 := by omega
    simp only [u3, String.reduceToList, Phi_laws_markText, T_laws_markText, go_sem, reduceIte, reduceCtorEq, Nat.reduceEqDiff, Nat.reduceBEq, Nat.reduceBNe, Nat.reduceMul, Nat.reduceAdd, Nat.reduceLT, Nat.reduceLeDiff, Nat.reduceSub, Int.reduceLT, Int.reduceLE, Int.reduceEq, Int.reduceNeg, Int.reduceAdd, Int.reduceSub, Int.reduceToNat, Int.reduceBEq, Int.reduceBNe, Array.reduceGetElem?]
    simp only [fin_mk, finV, resL, resV1, allUse, oneOrTup, List.take, List.drop, List.take_succ_cons, List.take_zero, List.drop_succ_cons, List.drop_zero, Phi_laws_markText, T_laws_markText, go_sem, reduceIte, reduceCtorEq, Nat.reduceEqDiff, Nat.reduceBEq, Nat.reduceBNe, Nat.reduceMul, Nat.reduceAdd, Nat.reduceLT, Nat.reduceLeDiff, Nat.reduceSub, Int.reduceLT, Int.reduceLE, Int.reduceEq, Int.reduceNeg, Int.reduceAdd, Int.reduceSub, Int.reduceToNat, Int.reduceBEq, Int.reduceBNe, Array.reduceGetElem?]
    rw [← hr]
    rw [markGo] at h2
    simp only [markText, hk, if_false, ← h2]
    rfl
open Classical in
noncomputable def spSzMail : VM.Spec := { modes := [.rd, .rd], run := fun | [x', .int .i64 n] => (Mail.dec x').bind fun x => if x.le 4611686018427387904 ∧ 0 ≤ n ∧ n ≤ 4611686018427387904 then some (.int .i64 (Mail.sz x n), []) else none | _ => none, need := [] }
theorem spSzMail_in {ins : List V} {r : V} {outs : List V} (h : spSzMail.run ins = some (r, outs)) : ∃ (x : Mail) (n : Int), ins = [Mail.enc x, .int .i64 n] ∧ (x.le 4611686018427387904 ∧ 0 ≤ n ∧ n ≤ 4611686018427387904) ∧ .int .i64 (Mail.sz x n) = r ∧ outs = [] := by
  unfold spSzMail at h
  simp only at h
  split at h
  · rename_i x' n
    simp only [Option.bind_eq_some_iff] at h
    obtain ⟨x, h_x, h⟩ := h
    split at h
    case isFalse => cases h
    rename_i hc
    simp only [Option.some.injEq, Prod.mk.injEq] at h
    obtain ⟨h1, h2⟩ := h
    have h_x := Mail.dec_some h_x
    subst h_x
    exact ⟨x, n, rfl, hc, h1, h2.symm⟩
  · cases h
def T_laws_szMail : Hints := ⟨fun _ => none, fun _ => none, fun i => if i = 0 then some [1, 2] else if i = 1 then some [1] else if i = 2 then some [1, 11] else if i = 3 then some [4] else if i = 4 then some [4] else none⟩
noncomputable def Phi_laws_szMail : Tab := fun f => none
theorem phi_laws_szMail : ∀ f sp, Phi_laws_szMail f = some sp → FnOk Tryd.prog f sp ∧ ∀ n ∈ sp.need, n ∈ ([] : List String) := by
  intro f sp h
  unfold Phi_laws_szMail at h
  cases h
theorem ok_laws_szMail : FnOk Tryd.prog 47 spSzMail := by
  refine fn_ok (Φ := Phi_laws_szMail) (T := T_laws_szMail) phi_laws_szMail mixed Tryd.func47 rfl rfl rfl (by decide) ?_
  intro ins r outs hr hl
  clear hl
  have hs := spSzMail_in hr
  clear hr
  obtain ⟨x, n, rfl, hc, hr, rfl⟩ := hs
  simp only [spSzMail, Tryd.f47, Go.VM.initS]
  obtain ⟨hc, h0, h1⟩ := hc
  have c0 := hc
  have c0 : x.Text.length ≤ 4611686018427387904 := c0
  have w0 : IntKind.i64.wrap (n - (x.Text.length : Int)) = (n - (x.Text.length : Int)) := wrap64 (by omega) (by omega)
  by_cases b0 : (n - (x.Text.length : Int)) < 0
  · simp only [w0, b0, Phi_laws_szMail, T_laws_szMail, go_sem, reduceIte, reduceCtorEq, Nat.reduceEqDiff, Nat.reduceBEq, Nat.reduceBNe, Nat.reduceMul, Nat.reduceAdd, Nat.reduceLT, Nat.reduceLeDiff, Nat.reduceSub, Int.reduceLT, Int.reduceLE, Int.reduceEq, Int.reduceNeg, Int.reduceAdd, Int.reduceSub, Int.reduceToNat, Int.reduceBEq, Int.reduceBNe, Array.reduceGetElem?]
    repeat' ((first | refine after_iteT.2 ⟨fun hp => ?_, fun hp => ?_⟩ | refine after_iteF.2 ⟨fun hp => ?_, fun hp => ?_⟩ | refine after_ite.2 ⟨fun hp => ?_, fun hp => ?_⟩ | refine grd_not.2 ⟨fun hp => ?_, fun hp => ?_⟩ | refine grd_beq.2 ⟨fun hp => ?_, fun hp => ?_⟩ | refine grd_dec.2 ⟨fun hp => ?_, fun hp => ?_⟩ | refine grd_bool.2 ⟨fun hp => ?_, fun hp => ?_⟩ | refine condG_not.2 ⟨fun hp => ?_, fun hp => ?_⟩ | refine condG_beq.2 ⟨fun hp => ?_, fun hp => ?_⟩ | refine condG_dec.2 ⟨fun hp => ?_, fun hp => ?_⟩ | refine condG_bool.2 ⟨fun hp => ?_, fun hp => ?_⟩ | (refine (goes_draw0 rfl (by decide +kernel)).2 ?_; have hp := True.intro) | (refine (goes_drawM _ rfl (by decide +kernel)).2 ?_; have hp := True.intro)) <;> simp only [hp, w0, b0, Phi_laws_szMail, T_laws_szMail, go_sem, reduceIte, reduceCtorEq, Nat.reduceEqDiff, Nat.reduceBEq, Nat.reduceBNe, Nat.reduceMul, Nat.reduceAdd, Nat.reduceLT, Nat.reduceLeDiff, Nat.reduceSub, Int.reduceLT, Int.reduceLE, Int.reduceEq, Int.reduceNeg, Int.reduceAdd, Int.reduceSub, Int.reduceToNat, Int.reduceBEq, Int.reduceBNe, Array.reduceGetElem?])
    simp only [fin_mk, finV, resL, resV1, allUse, oneOrTup, List.take, List.drop, List.take_succ_cons, List.take_zero, List.drop_succ_cons, List.drop_zero, Phi_laws_szMail, T_laws_szMail, go_sem, reduceIte, reduceCtorEq, Nat.reduceEqDiff, Nat.reduceBEq, Nat.reduceBNe, Nat.reduceMul, Nat.reduceAdd, Nat.reduceLT, Nat.reduceLeDiff, Nat.reduceSub, Int.reduceLT, Int.reduceLE, Int.reduceEq, Int.reduceNeg, Int.reduceAdd, Int.reduceSub, Int.reduceToNat, Int.reduceBEq, Int.reduceBNe, Array.reduceGetElem?]
    rw [← hr]
    simp only [Mail.sz, thenSz, subSz, b0, if_true, if_false, Int.reduceNeg, Int.reduceLT]
  have a0 : 0 ≤ (n - (x.Text.length : Int)) := by omega
  have d0 : (n - (x.Text.length : Int)) ≤ 4611686018427387904 := by omega
  simp only [w0, b0, Phi_laws_szMail, T_laws_szMail, go_sem, reduceIte, reduceCtorEq, Nat.reduceEqDiff, Nat.reduceBEq, Nat.reduceBNe, Nat.reduceMul, Nat.reduceAdd, Nat.reduceLT, Nat.reduceLeDiff, Nat.reduceSub, Int.reduceLT, Int.reduceLE, Int.reduceEq, Int.reduceNeg, Int.reduceAdd, Int.reduceSub, Int.reduceToNat, Int.reduceBEq, Int.reduceBNe, Array.reduceGetElem?]
  repeat' ((first | refine after_iteT.2 ⟨fun hp => ?_, fun hp => ?_⟩ | refine after_iteF.2 ⟨fun hp => ?_, fun hp => ?_⟩ | refine after_ite.2 ⟨fun hp => ?_, fun hp => ?_⟩ | refine grd_not.2 ⟨fun hp => ?_, fun hp => ?_⟩ | refine grd_beq.2 ⟨fun hp => ?_, fun hp => ?_⟩ | refine grd_dec.2 ⟨fun hp => ?_, fun hp => ?_⟩ | refine grd_bool.2 ⟨fun hp => ?_, fun hp => ?_⟩ | refine condG_not.2 ⟨fun hp => ?_, fun hp => ?_⟩ | refine condG_beq.2 ⟨fun hp => ?_, fun hp => ?_⟩ | refine condG_dec.2 ⟨fun hp => ?_, fun hp => ?_⟩ | refine condG_bool.2 ⟨fun hp => ?_, fun hp => ?_⟩ | (refine (goes_draw0 rfl (by decide +kernel)).2 ?_; have hp := True.intro) | (refine (goes_drawM _ rfl (by decide +kernel)).2 ?_; have hp := True.intro)) <;> simp only [hp, w0, b0, Phi_laws_szMail, T_laws_szMail, go_sem, reduceIte, reduceCtorEq, Nat.reduceEqDiff, Nat.reduceBEq, Nat.reduceBNe, Nat.reduceMul, Nat.reduceAdd, Nat.reduceLT, Nat.reduceLeDiff, Nat.reduceSub, Int.reduceLT, Int.reduceLE, Int.reduceEq, Int.reduceNeg, Int.reduceAdd, Int.reduceSub, Int.reduceToNat, Int.reduceBEq, Int.reduceBNe, Array.reduceGetElem?])
  simp only [fin_mk, finV, resL, resV1, allUse, oneOrTup, List.take, List.drop, List.take_succ_cons, List.take_zero, List.drop_succ_cons, List.drop_zero, Phi_laws_szMail, T_laws_szMail, go_sem, reduceIte, reduceCtorEq, Nat.reduceEqDiff, Nat.reduceBEq, Nat.reduceBNe, Nat.reduceMul, Nat.reduceAdd, Nat.reduceLT, Nat.reduceLeDiff, Nat.reduceSub, Int.reduceLT, Int.reduceLE, Int.reduceEq, Int.reduceNeg, Int.reduceAdd, Int.reduceSub, Int.reduceToNat, Int.reduceBEq, Int.reduceBNe, Array.reduceGetElem?]
  rw [← hr]
  simp only [Mail.sz, thenSz, subSz, b0, if_true, if_false]
open Classical in
noncomputable def spToMail : VM.Spec := { modes := [.rd], run := fun | [x'] => (Mail.dec x').bind fun x => some (Mail.enc x, []) | _ => none, need := [] }
theorem spToMail_in {ins : List V} {r : V} {outs : List V} (h : spToMail.run ins = some (r, outs)) : ∃ (x : Mail), ins = [Mail.enc x] ∧ Mail.enc x = r ∧ outs = [] := by
  unfold spToMail at h
  simp only at h
  split at h
  · rename_i x'
    simp only [Option.bind_eq_some_iff] at h
    obtain ⟨x, h_x, h⟩ := h
    simp only [Option.some.injEq, Prod.mk.injEq] at h
    obtain ⟨h1, h2⟩ := h
    have h_x := Mail.dec_some h_x
    subst h_x
    exact ⟨x, rfl, h1, h2.symm⟩
  · cases h
def T_laws_toMail : Hints := ⟨fun _ => none, fun _ => none, fun i => if i = 0 then some [1, 2] else if i = 1 then some [1, 2, 3] else if i = 2 then some [1, 2, 3] else if i = 3 then some [1, 2, 3] else if i = 4 then some [1, 2, 3] else if i = 5 then some [2, 3] else if i = 6 then some [2] else none⟩
noncomputable def Phi_laws_toMail : Tab := fun f => none
theorem phi_laws_toMail : ∀ f sp, Phi_laws_toMail f = some sp → FnOk Tryd.prog f sp ∧ ∀ n ∈ sp.need, n ∈ ([] : List String) := by
  intro f sp h
  unfold Phi_laws_toMail at h
  cases h
theorem ok_laws_toMail : FnOk Tryd.prog 50 spToMail := by
  refine fn_ok (Φ := Phi_laws_toMail) (T := T_laws_toMail) phi_laws_toMail mixed Tryd.func50 rfl rfl rfl (by decide) ?_
  intro ins r outs hr hl
  clear hl
  have hs := spToMail_in hr
  clear hr
  obtain ⟨x, rfl, hr, rfl⟩ := hs
  simp only [spToMail, Tryd.f50, Go.VM.initS]
  simp only [Phi_laws_toMail, T_laws_toMail, go_sem, reduceIte, reduceCtorEq, Nat.reduceEqDiff, Nat.reduceBEq, Nat.reduceBNe, Nat.reduceMul, Nat.reduceAdd, Nat.reduceLT, Nat.reduceLeDiff, Nat.reduceSub, Int.reduceLT, Int.reduceLE, Int.reduceEq, Int.reduceNeg, Int.reduceAdd, Int.reduceSub, Int.reduceToNat, Int.reduceBEq, Int.reduceBNe, Array.reduceGetElem?]
  repeat' ((first | refine after_iteT.2 ⟨fun hp => ?_, fun hp => ?_⟩ | refine after_iteF.2 ⟨fun hp => ?_, fun hp => ?_⟩ | refine after_ite.2 ⟨fun hp => ?_, fun hp => ?_⟩ | refine grd_not.2 ⟨fun hp => ?_, fun hp => ?_⟩ | refine grd_beq.2 ⟨fun hp => ?_, fun hp => ?_⟩ | refine grd_dec.2 ⟨fun hp => ?_, fun hp => ?_⟩ | refine grd_bool.2 ⟨fun hp => ?_, fun hp => ?_⟩ | refine condG_not.2 ⟨fun hp => ?_, fun hp => ?_⟩ | refine condG_beq.2 ⟨fun hp => ?_, fun hp => ?_⟩ | refine condG_dec.2 ⟨fun hp => ?_, fun hp => ?_⟩ | refine condG_bool.2 ⟨fun hp => ?_, fun hp => ?_⟩ | (refine (goes_draw0 rfl (by decide +kernel)).2 ?_; have hp := True.intro) | (refine (goes_drawM _ rfl (by decide +kernel)).2 ?_; have hp := True.intro)) <;> simp only [hp, Phi_laws_toMail, T_laws_toMail, go_sem, reduceIte, reduceCtorEq, Nat.reduceEqDiff, Nat.reduceBEq, Nat.reduceBNe, Nat.reduceMul, Nat.reduceAdd, Nat.reduceLT, Nat.reduceLeDiff, Nat.reduceSub, Int.reduceLT, Int.reduceLE, Int.reduceEq, Int.reduceNeg, Int.reduceAdd, Int.reduceSub, Int.reduceToNat, Int.reduceBEq, Int.reduceBNe, Array.reduceGetElem?])
  simp only [fin_mk, finV, resL, resV1, allUse, oneOrTup, List.take, List.drop, List.take_succ_cons, List.take_zero, List.drop_succ_cons, List.drop_zero, Phi_laws_toMail, T_laws_toMail, go_sem, reduceIte, reduceCtorEq, Nat.reduceEqDiff, Nat.reduceBEq, Nat.reduceBNe, Nat.reduceMul, Nat.reduceAdd, Nat.reduceLT, Nat.reduceLeDiff, Nat.reduceSub, Int.reduceLT, Int.reduceLE, Int.reduceEq, Int.reduceNeg, Int.reduceAdd, Int.reduceSub, Int.reduceToNat, Int.reduceBEq, Int.reduceBNe, Array.reduceGetElem?]
  rw [← hr]
  rfl
open Classical in
noncomputable def spToRange : VM.Spec := { modes := [.rd], run := fun | [x'] => (Range.dec x').bind fun x => some (Range.enc x, []) | _ => none, need := [] }
theorem spToRange_in {ins : List V} {r : V} {outs : List V} (h : spToRange.run ins = some (r, outs)) : ∃ (x : Range), ins = [Range.enc x] ∧ Range.enc x = r ∧ outs = [] := by
  unfold spToRange at h
  simp only at h
  split at h
  · rename_i x'
    simp only [Option.bind_eq_some_iff] at h
    obtain ⟨x, h_x, h⟩ := h
    simp only [Option.some.injEq, Prod.mk.injEq] at h
    obtain ⟨h1, h2⟩ := h
    have h_x := Range.dec_some h_x
    subst h_x
    exact ⟨x, rfl, h1, h2.symm⟩
  · cases h
def T_laws_toRange : Hints := ⟨fun _ => none, fun _ => none, fun i => if i = 0 then some [1, 2] else if i = 1 then some [1, 2, 3] else if i = 2 then some [1, 2, 3] else if i = 3 then some [2, 3] else if i = 4 then some [2] else none⟩
noncomputable def Phi_laws_toRange : Tab := fun f => none
theorem phi_laws_toRange : ∀ f sp, Phi_laws_toRange f = some sp → FnOk Tryd.prog f sp ∧ ∀ n ∈ sp.need, n ∈ ([] : List String) := by
  intro f sp h
  unfold Phi_laws_toRange at h
  cases h
theorem ok_laws_toRange : FnOk Tryd.prog 134 spToRange := by
  refine fn_ok (Φ := Phi_laws_toRange) (T := T_laws_toRange) phi_laws_toRange mixed Tryd.func134 rfl rfl rfl (by decide) ?_
  intro ins r outs hr hl
  clear hl
  have hs := spToRange_in hr
  clear hr
  obtain ⟨x, rfl, hr, rfl⟩ := hs
  simp only [spToRange, Tryd.f134, Go.VM.initS]
  simp only [Phi_laws_toRange, T_laws_toRange, go_sem, reduceIte, reduceCtorEq, Nat.reduceEqDiff, Nat.reduceBEq, Nat.reduceBNe, Nat.reduceMul, Nat.reduceAdd, Nat.reduceLT, Nat.reduceLeDiff, Nat.reduceSub, Int.reduceLT, Int.reduceLE, Int.reduceEq, Int.reduceNeg, Int.reduceAdd, Int.reduceSub, Int.reduceToNat, Int.reduceBEq, Int.reduceBNe, Array.reduceGetElem?]
  repeat' ((first | refine after_iteT.2 ⟨fun hp => ?_, fun hp => ?_⟩ | refine after_iteF.2 ⟨fun hp => ?_, fun hp => ?_⟩ | refine after_ite.2 ⟨fun hp => ?_, fun hp => ?_⟩ | refine grd_not.2 ⟨fun hp => ?_, fun hp => ?_⟩ | refine grd_beq.2 ⟨fun hp => ?_, fun hp => ?_⟩ | refine grd_dec.2 ⟨fun hp => ?_, fun hp => ?_⟩ | refine grd_bool.2 ⟨fun hp => ?_, fun hp => ?_⟩ | refine condG_not.2 ⟨fun hp => ?_, fun hp => ?_⟩ | refine condG_beq.2 ⟨fun hp => ?_, fun hp => ?_⟩ | refine condG_dec.2 ⟨fun hp => ?_, fun hp => ?_⟩ | refine condG_bool.2 ⟨fun hp => ?_, fun hp => ?_⟩ | (refine (goes_draw0 rfl (by decide +kernel)).2 ?_; have hp := True.intro) | (refine (goes_drawM _ rfl (by decide +kernel)).2 ?_; have hp := True.intro)) <;> simp only [hp, Phi_laws_toRange, T_laws_toRange, go_sem, reduceIte, reduceCtorEq, Nat.reduceEqDiff, Nat.reduceBEq, Nat.reduceBNe, Nat.reduceMul, Nat.reduceAdd, Nat.reduceLT, Nat.reduceLeDiff, Nat.reduceSub, Int.reduceLT, Int.reduceLE, Int.reduceEq, Int.reduceNeg, Int.reduceAdd, Int.reduceSub, Int.reduceToNat, Int.reduceBEq, Int.reduceBNe, Array.reduceGetElem?])
  simp only [fin_mk, finV, resL, resV1, allUse, oneOrTup, List.take, List.drop, List.take_succ_cons, List.take_zero, List.drop_succ_cons, List.drop_zero, Phi_laws_toRange, T_laws_toRange, go_sem, reduceIte, reduceCtorEq, Nat.reduceEqDiff, Nat.reduceBEq, Nat.reduceBNe, Nat.reduceMul, Nat.reduceAdd, Nat.reduceLT, Nat.reduceLeDiff, Nat.reduceSub, Int.reduceLT, Int.reduceLE, Int.reduceEq, Int.reduceNeg, Int.reduceAdd, Int.reduceSub, Int.reduceToNat, Int.reduceBEq, Int.reduceBNe, Array.reduceGetElem?]
  rw [← hr]
  rfl
open Classical in
noncomputable def spEqRange : VM.Spec := { modes := [.rd, .rd], run := fun | [x', y'] => (Range.dec x').bind fun x => (Range.dec y').bind fun y => some (.bool (decide (x = y)), []) | _ => none, need := [] }
theorem spEqRange_in {ins : List V} {r : V} {outs : List V} (h : spEqRange.run ins = some (r, outs)) : ∃ (x : Range) (y : Range), ins = [Range.enc x, Range.enc y] ∧ .bool (decide (x = y)) = r ∧ outs = [] := by
  unfold spEqRange at h
  simp only at h
  split at h
  · rename_i x' y'
    simp only [Option.bind_eq_some_iff] at h
    obtain ⟨x, h_x, y, h_y, h⟩ := h
    simp only [Option.some.injEq, Prod.mk.injEq] at h
    obtain ⟨h1, h2⟩ := h
    have h_x := Range.dec_some h_x
    subst h_x
    have h_y := Range.dec_some h_y
    subst h_y
    exact ⟨x, y, rfl, h1, h2.symm⟩
  · cases h
def T_laws_eqRange : Hints := ⟨fun _ => none, fun _ => none, fun i => if i = 0 then some [2, 3] else if i = 1 then some [2, 3, 9] else if i = 2 then some [4] else if i = 3 then some [14] else if i = 4 then some [4] else if i = 5 then some [4] else none⟩
noncomputable def Phi_laws_eqRange : Tab := fun f => none
theorem phi_laws_eqRange : ∀ f sp, Phi_laws_eqRange f = some sp → FnOk Tryd.prog f sp ∧ ∀ n ∈ sp.need, n ∈ ([] : List String) := by
  intro f sp h
  unfold Phi_laws_eqRange at h
  cases h
theorem ok_laws_eqRange : FnOk Tryd.prog 142 spEqRange := by
  refine fn_ok (Φ := Phi_laws_eqRange) (T := T_laws_eqRange) phi_laws_eqRange mixed Tryd.func142 rfl rfl rfl (by decide) ?_
  intro ins r outs hr hl
  clear hl
  have hs := spEqRange_in hr
  clear hr
  obtain ⟨x, y, rfl, hr, rfl⟩ := hs
  simp only [spEqRange, Tryd.f142, Go.VM.initS]
  simp only [and_self, Phi_laws_eqRange, T_laws_eqRange, go_sem, reduceIte, reduceCtorEq, Nat.reduceEqDiff, Nat.reduceBEq, Nat.reduceBNe, Nat.reduceMul, Nat.reduceAdd, Nat.reduceLT, Nat.reduceLeDiff, Nat.reduceSub, Int.reduceLT, Int.reduceLE, Int.reduceEq, Int.reduceNeg, Int.reduceAdd, Int.reduceSub, Int.reduceToNat, Int.reduceBEq, Int.reduceBNe, Array.reduceGetElem?]
  repeat' ((first | refine after_iteT.2 ⟨fun hp => ?_, fun hp => ?_⟩ | refine after_iteF.2 ⟨fun hp => ?_, fun hp => ?_⟩ | refine after_ite.2 ⟨fun hp => ?_, fun hp => ?_⟩ | refine grd_not.2 ⟨fun hp => ?_, fun hp => ?_⟩ | refine grd_beq.2 ⟨fun hp => ?_, fun hp => ?_⟩ | refine grd_dec.2 ⟨fun hp => ?_, fun hp => ?_⟩ | refine grd_bool.2 ⟨fun hp => ?_, fun hp => ?_⟩ | refine condG_not.2 ⟨fun hp => ?_, fun hp => ?_⟩ | refine condG_beq.2 ⟨fun hp => ?_, fun hp => ?_⟩ | refine condG_dec.2 ⟨fun hp => ?_, fun hp => ?_⟩ | refine condG_bool.2 ⟨fun hp => ?_, fun hp => ?_⟩ | (refine (goes_draw0 rfl (by decide +kernel)).2 ?_; have hp := True.intro) | (refine (goes_drawM _ rfl (by decide +kernel)).2 ?_; have hp := True.intro)) <;> simp only [hp, and_self, Phi_laws_eqRange, T_laws_eqRange, go_sem, reduceIte, reduceCtorEq, Nat.reduceEqDiff, Nat.reduceBEq, Nat.reduceBNe, Nat.reduceMul, Nat.reduceAdd, Nat.reduceLT, Nat.reduceLeDiff, Nat.reduceSub, Int.reduceLT, Int.reduceLE, Int.reduceEq, Int.reduceNeg, Int.reduceAdd, Int.reduceSub, Int.reduceToNat, Int.reduceBEq, Int.reduceBNe, Array.reduceGetElem?])
  all_goals (simp only [fin_mk, finV, resL, resV1, allUse, oneOrTup, List.take, List.drop, List.take_succ_cons, List.take_zero, List.drop_succ_cons, List.drop_zero, Phi_laws_eqRange, T_laws_eqRange, go_sem, reduceIte, reduceCtorEq, Nat.reduceEqDiff, Nat.reduceBEq, Nat.reduceBNe, Nat.reduceMul, Nat.reduceAdd, Nat.reduceLT, Nat.reduceLeDiff, Nat.reduceSub, Int.reduceLT, Int.reduceLE, Int.reduceEq, Int.reduceNeg, Int.reduceAdd, Int.reduceSub, Int.reduceToNat, Int.reduceBEq, Int.reduceBNe, Array.reduceGetElem?]; rw [← hr])
  all_goals (cases x; cases y; simp_all)
open Classical in
noncomputable def spSzRangeS : VM.Spec := { modes := [.rd, .rd], run := fun | [.lst 2 l', .int .i64 n] => (decL Range.dec l').bind fun l => if l.length ≤ 4611686018427387904 ∧ 0 ≤ n ∧ n ≤ 4611686018427387904 then some (.int .i64 (szF l n), []) else none | _ => none, need := [] }
theorem spSzRangeS_in {ins : List V} {r : V} {outs : List V} (h : spSzRangeS.run ins = some (r, outs)) : ∃ (l : (List Range)) (n : Int), ins = [.lst 2 ((l).map Range.enc), .int .i64 n] ∧ (l.length ≤ 4611686018427387904 ∧ 0 ≤ n ∧ n ≤ 4611686018427387904) ∧ .int .i64 (szF l n) = r ∧ outs = [] := by
  unfold spSzRangeS at h
  simp only at h
  split at h
  · rename_i l' n
    simp only [Option.bind_eq_some_iff] at h
    obtain ⟨l, h_l, h⟩ := h
    split at h
    case isFalse => cases h
    rename_i hc
    simp only [Option.some.injEq, Prod.mk.injEq] at h
    obtain ⟨h1, h2⟩ := h
    have h_l := decL_some (fun _ _ h => Range.dec_some h) h_l
    subst h_l
    exact ⟨l, n, rfl, hc, h1, h2.symm⟩
  · cases h
def T_laws_szRangeS : Hints := ⟨fun _ => none, fun _ => none, fun i => if i = 0 then some [0, 1] else if i = 1 then some [1] else if i = 2 then some [1, 10] else if i = 3 then some [4] else if i = 4 then some [4] else none⟩
noncomputable def Phi_laws_szRangeS : Tab := fun f => none
theorem phi_laws_szRangeS : ∀ f sp, Phi_laws_szRangeS f = some sp → FnOk Tryd.prog f sp ∧ ∀ n ∈ sp.need, n ∈ ([] : List String) := by
  intro f sp h
  unfold Phi_laws_szRangeS at h
  cases h
theorem ok_laws_szRangeS : FnOk Tryd.prog 81 spSzRangeS := by
  refine fn_ok (Φ := Phi_laws_szRangeS) (T := T_laws_szRangeS) phi_laws_szRangeS mixed Tryd.func81 rfl rfl rfl (by decide) ?_
  intro ins r outs hr hl
  clear hl
  have hs := spSzRangeS_in hr
  clear hr
  obtain ⟨l, n, rfl, hc, hr, rfl⟩ := hs
  simp only [spSzRangeS, Tryd.f81, Go.VM.initS]
  obtain ⟨hc, h0, h1⟩ := hc
  have w : IntKind.i64.wrap (n - (l.length : Int)) = n - l.length := wrap64 (by omega) (by omega)
  simp only [w, Phi_laws_szRangeS, T_laws_szRangeS, go_sem, reduceIte, reduceCtorEq, Nat.reduceEqDiff, Nat.reduceBEq, Nat.reduceBNe, Nat.reduceMul, Nat.reduceAdd, Nat.reduceLT, Nat.reduceLeDiff, Nat.reduceSub, Int.reduceLT, Int.reduceLE, Int.reduceEq, Int.reduceNeg, Int.reduceAdd, Int.reduceSub, Int.reduceToNat, Int.reduceBEq, Int.reduceBNe, Array.reduceGetElem?]
  repeat' ((first | refine after_iteT.2 ⟨fun hp => ?_, fun hp => ?_⟩ | refine after_iteF.2 ⟨fun hp => ?_, fun hp => ?_⟩ | refine after_ite.2 ⟨fun hp => ?_, fun hp => ?_⟩ | refine grd_not.2 ⟨fun hp => ?_, fun hp => ?_⟩ | refine grd_beq.2 ⟨fun hp => ?_, fun hp => ?_⟩ | refine grd_dec.2 ⟨fun hp => ?_, fun hp => ?_⟩ | refine grd_bool.2 ⟨fun hp => ?_, fun hp => ?_⟩ | refine condG_not.2 ⟨fun hp => ?_, fun hp => ?_⟩ | refine condG_beq.2 ⟨fun hp => ?_, fun hp => ?_⟩ | refine condG_dec.2 ⟨fun hp => ?_, fun hp => ?_⟩ | refine condG_bool.2 ⟨fun hp => ?_, fun hp => ?_⟩ | (refine (goes_draw0 rfl (by decide +kernel)).2 ?_; have hp := True.intro) | (refine (goes_drawM _ rfl (by decide +kernel)).2 ?_; have hp := True.intro)) <;> simp only [hp, w, Phi_laws_szRangeS, T_laws_szRangeS, go_sem, reduceIte, reduceCtorEq, Nat.reduceEqDiff, Nat.reduceBEq, Nat.reduceBNe, Nat.reduceMul, Nat.reduceAdd, Nat.reduceLT, Nat.reduceLeDiff, Nat.reduceSub, Int.reduceLT, Int.reduceLE, Int.reduceEq, Int.reduceNeg, Int.reduceAdd, Int.reduceSub, Int.reduceToNat, Int.reduceBEq, Int.reduceBNe, Array.reduceGetElem?])
  all_goals (simp only [fin_mk, finV, resL, resV1, allUse, oneOrTup, List.take, List.drop, List.take_succ_cons, List.take_zero, List.drop_succ_cons, List.drop_zero, Phi_laws_szRangeS, T_laws_szRangeS, go_sem, reduceIte, reduceCtorEq, Nat.reduceEqDiff, Nat.reduceBEq, Nat.reduceBNe, Nat.reduceMul, Nat.reduceAdd, Nat.reduceLT, Nat.reduceLeDiff, Nat.reduceSub, Int.reduceLT, Int.reduceLE, Int.reduceEq, Int.reduceNeg, Int.reduceAdd, Int.reduceSub, Int.reduceToNat, Int.reduceBEq, Int.reduceBNe, Array.reduceGetElem?]; rw [← hr])
  all_goals simp only [szF, subSz, hp, if_true, if_false]
open Classical in
noncomputable def spToRangeS : VM.Spec := { modes := [.rd], run := fun | [.lst 2 l'] => (decL Range.dec l').bind fun l => if l.length ≤ 4194304 then some (.lst 2 ((l).map Range.enc), []) else none | _ => none, need := [] }
theorem spToRangeS_in {ins : List V} {r : V} {outs : List V} (h : spToRangeS.run ins = some (r, outs)) : ∃ (l : (List Range)), ins = [.lst 2 ((l).map Range.enc)] ∧ (l.length ≤ 4194304) ∧ .lst 2 ((l).map Range.enc) = r ∧ outs = [] := by
  unfold spToRangeS at h
  simp only at h
  split at h
  · rename_i l'
    simp only [Option.bind_eq_some_iff] at h
    obtain ⟨l, h_l, h⟩ := h
    split at h
    case isFalse => cases h
    rename_i hc
    simp only [Option.some.injEq, Prod.mk.injEq] at h
    obtain ⟨h1, h2⟩ := h
    have h_l := decL_some (fun _ _ h => Range.dec_some h) h_l
    subst h_l
    exact ⟨l, rfl, hc, h1, h2.symm⟩
  · cases h
def T_laws_toRangeS : Hints := ⟨fun _ => none, fun i => if i = 3 then some [0, 3, 4] else none, fun i => if i = 0 then some [0] else if i = 1 then some [0, 3] else if i = 2 then some [0, 3, 4] else if i = 3 then some [0, 3, 4, 11] else if i = 5 then some [0, 3, 4] else if i = 4 then some [0, 3, 4] else if i = 6 then some [2] else none⟩
noncomputable def Phi_laws_toRangeS : Tab := fun f => if f = 134 then some spToRange else none
theorem phi_laws_toRangeS : ∀ f sp, Phi_laws_toRangeS f = some sp → FnOk Tryd.prog f sp ∧ ∀ n ∈ sp.need, n ∈ ([] : List String) := by
  intro f sp h
  unfold Phi_laws_toRangeS at h
  split at h
  · rename_i e; cases h; rw [e]; exact ⟨ok_laws_toRange, (fun n (h : n ∈ ([] : List String)) => (nomatch h))⟩
  cases h
theorem ok_laws_toRangeS : FnOk Tryd.prog 86 spToRangeS := by
  refine fn_ok (Φ := Phi_laws_toRangeS) (T := T_laws_toRangeS) phi_laws_toRangeS mixed Tryd.func86 rfl rfl rfl (by decide) ?_
  intro ins r outs hr hl
  clear hl
  have hs := spToRangeS_in hr
  clear hr
  obtain ⟨l, rfl, hc, hr, rfl⟩ := hs
  simp only [spToRangeS, Tryd.f86, Go.VM.initS]
  have h1 : (l.length : Int) ≤ 9223372036854775807 := by omega
  have h2 : (l.length : Int) * 16 ≤ 140737488355328 := by omega
  have h3 : (0 : Int) ≤ l.length := by omega
  simp only [h1, h2, h3, Int.cast_ofNat_Int, Phi_laws_toRangeS, T_laws_toRangeS, spToRange, go_sem, reduceIte, reduceCtorEq, Nat.reduceEqDiff, Nat.reduceBEq, Nat.reduceBNe, Nat.reduceMul, Nat.reduceAdd, Nat.reduceLT, Nat.reduceLeDiff, Nat.reduceSub, Int.reduceLT, Int.reduceLE, Int.reduceEq, Int.reduceNeg, Int.reduceAdd, Int.reduceSub, Int.reduceToNat, Int.reduceBEq, Int.reduceBNe, Array.reduceGetElem?]
  refine loop_go (fun p : Nat × List V => [(4, .int .i64 (p.1 : Int))]) (fun p => [(0, ⟨.arr, 2, p.2⟩)]) (fun p => l.length - p.1) (fun p => p.1 ≤ l.length ∧ p.2 = (l.take p.1).map Range.enc ++ List.replicate (l.length - p.1) (.agg [.int .i64 0, .int .i64 0])) (0, List.replicate l.length (.agg [.int .i64 0, .int .i64 0])) ⟨Nat.zero_le _, by simp⟩ rfl rfl ?_
  rintro ⟨i, els⟩ ⟨hi, hels⟩ ih
  simp only at hi hels ih
  have hlen : els.length = l.length := by rw [hels]; simp; omega
  rcases Nat.lt_or_ge i l.length with h | h
  · have g1 : (i : Int) < l.length := by omega
    have g2 : (0 : Int) ≤ i := by omega
    have g3 : l[i]? = some l[i] := List.getElem?_eq_getElem h
    have g4 : els[i]? = some (els[i]'(by omega)) := List.getElem?_eq_getElem (by omega)
    have g5 := wrap_succ h (by omega)
    skip
    simp only [g1, g2, g3, g4, g5, hlen, Phi_laws_toRangeS, T_laws_toRangeS, spToRange, go_sem, reduceIte, reduceCtorEq, Nat.reduceEqDiff, Nat.reduceBEq, Nat.reduceBNe, Nat.reduceMul, Nat.reduceAdd, Nat.reduceLT, Nat.reduceLeDiff, Nat.reduceSub, Int.reduceLT, Int.reduceLE, Int.reduceEq, Int.reduceNeg, Int.reduceAdd, Int.reduceSub, Int.reduceToNat, Int.reduceBEq, Int.reduceBNe, Array.reduceGetElem?]
    repeat' ((first | refine after_iteT.2 ⟨fun hp => ?_, fun hp => ?_⟩ | refine after_iteF.2 ⟨fun hp => ?_, fun hp => ?_⟩ | refine after_ite.2 ⟨fun hp => ?_, fun hp => ?_⟩ | refine grd_not.2 ⟨fun hp => ?_, fun hp => ?_⟩ | refine grd_beq.2 ⟨fun hp => ?_, fun hp => ?_⟩ | refine grd_dec.2 ⟨fun hp => ?_, fun hp => ?_⟩ | refine grd_bool.2 ⟨fun hp => ?_, fun hp => ?_⟩ | refine condG_not.2 ⟨fun hp => ?_, fun hp => ?_⟩ | refine condG_beq.2 ⟨fun hp => ?_, fun hp => ?_⟩ | refine condG_dec.2 ⟨fun hp => ?_, fun hp => ?_⟩ | refine condG_bool.2 ⟨fun hp => ?_, fun hp => ?_⟩ | (refine (goes_draw0 rfl (by decide +kernel)).2 ?_; have hp := True.intro) | (refine (goes_drawM _ rfl (by decide +kernel)).2 ?_; have hp := True.intro)) <;> simp only [hp, g1, g2, g3, g4, g5, hlen, Phi_laws_toRangeS, T_laws_toRangeS, spToRange, go_sem, reduceIte, reduceCtorEq, Nat.reduceEqDiff, Nat.reduceBEq, Nat.reduceBNe, Nat.reduceMul, Nat.reduceAdd, Nat.reduceLT, Nat.reduceLeDiff, Nat.reduceSub, Int.reduceLT, Int.reduceLE, Int.reduceEq, Int.reduceNeg, Int.reduceAdd, Int.reduceSub, Int.reduceToNat, Int.reduceBEq, Int.reduceBNe, Array.reduceGetElem?])
    refine ih (i + 1, els.set i (.agg [.int .i64 l[i].Lo, .int .i64 l[i].Hi])) ⟨h, ?_⟩ (by simp only; omega)
    simp only
    rw [hels]
    exact fill_step _ h rfl
  · have g1 : ¬ (i : Int) < l.length := by omega
    simp only [g1, Phi_laws_toRangeS, T_laws_toRangeS, spToRange, go_sem, reduceIte, reduceCtorEq, Nat.reduceEqDiff, Nat.reduceBEq, Nat.reduceBNe, Nat.reduceMul, Nat.reduceAdd, Nat.reduceLT, Nat.reduceLeDiff, Nat.reduceSub, Int.reduceLT, Int.reduceLE, Int.reduceEq, Int.reduceNeg, Int.reduceAdd, Int.reduceSub, Int.reduceToNat, Int.reduceBEq, Int.reduceBNe, Array.reduceGetElem?]
    simp only [fin_mk, finV, resL, resV1, allUse, oneOrTup, List.take, List.drop, List.take_succ_cons, List.take_zero, List.drop_succ_cons, List.drop_zero, Phi_laws_toRangeS, T_laws_toRangeS, spToRange, go_sem, reduceIte, reduceCtorEq, Nat.reduceEqDiff, Nat.reduceBEq, Nat.reduceBNe, Nat.reduceMul, Nat.reduceAdd, Nat.reduceLT, Nat.reduceLeDiff, Nat.reduceSub, Int.reduceLT, Int.reduceLE, Int.reduceEq, Int.reduceNeg, Int.reduceAdd, Int.reduceSub, Int.reduceToNat, Int.reduceBEq, Int.reduceBNe, Array.reduceGetElem?]
    rw [← hr, hels, List.take_of_length_le h, show l.length - i = 0 by omega]
    simp
open Classical in
noncomputable def spEqRangeS : VM.Spec := { modes := [.rd, .rd], run := fun | [.lst 2 x', .lst 2 y'] => (decL Range.dec x').bind fun x => (decL Range.dec y').bind fun y => if x.length ≤ 4194304 ∧ y.length ≤ 4194304 then some (.bool (decide (x = y)), []) else none | _ => none, need := [] }
theorem spEqRangeS_in {ins : List V} {r : V} {outs : List V} (h : spEqRangeS.run ins = some (r, outs)) : ∃ (x : (List Range)) (y : (List Range)), ins = [.lst 2 ((x).map Range.enc), .lst 2 ((y).map Range.enc)] ∧ (x.length ≤ 4194304 ∧ y.length ≤ 4194304) ∧ .bool (decide (x = y)) = r ∧ outs = [] := by
  unfold spEqRangeS at h
  simp only at h
  split at h
  · rename_i x' y'
    simp only [Option.bind_eq_some_iff] at h
    obtain ⟨x, h_x, y, h_y, h⟩ := h
    split at h
    case isFalse => cases h
    rename_i hc
    simp only [Option.some.injEq, Prod.mk.injEq] at h
    obtain ⟨h1, h2⟩ := h
    have h_x := decL_some (fun _ _ h => Range.dec_some h) h_x
    subst h_x
    have h_y := decL_some (fun _ _ h => Range.dec_some h) h_y
    subst h_y
    exact ⟨x, y, rfl, hc, h1, h2.symm⟩
  · cases h
def T_laws_eqRangeS : Hints := ⟨fun i => if i = 6 then some [] else none, fun i => if i = 4 then some [0, 1, 5] else none, fun i => if i = 0 then some [0, 1] else if i = 1 then some [0, 1, 10] else if i = 2 then some [4] else if i = 3 then some [0, 1, 5] else if i = 4 then some [0, 1, 5, 14] else if i = 6 then some [0, 1, 5, 26] else if i = 7 then some [4] else if i = 5 then some [0, 1, 5] else if i = 8 then some [4] else none⟩
noncomputable def Phi_laws_eqRangeS : Tab := fun f => if f = 142 then some spEqRange else none
theorem phi_laws_eqRangeS : ∀ f sp, Phi_laws_eqRangeS f = some sp → FnOk Tryd.prog f sp ∧ ∀ n ∈ sp.need, n ∈ ([] : List String) := by
  intro f sp h
  unfold Phi_laws_eqRangeS at h
  split at h
  · rename_i e; cases h; rw [e]; exact ⟨ok_laws_eqRange, (fun n (h : n ∈ ([] : List String)) => (nomatch h))⟩
  cases h
theorem ok_laws_eqRangeS : FnOk Tryd.prog 91 spEqRangeS := by
  refine fn_ok (Φ := Phi_laws_eqRangeS) (T := T_laws_eqRangeS) phi_laws_eqRangeS mixed Tryd.func91 rfl rfl rfl (by decide) ?_
  intro ins r outs hr hl
  clear hl
  have hs := spEqRangeS_in hr
  clear hr
  obtain ⟨x, y, rfl, hc, hr, rfl⟩ := hs
  simp only [spEqRangeS, Tryd.f91, Go.VM.initS]
  obtain ⟨hx, hy⟩ := hc
  by_cases hl : x.length = y.length
  case neg =>
    have g : ((x.length : Int) == y.length) = false := by rw [beq_eq_false_iff_ne]; omega
    have g' : ((x.length : Int) != y.length) = true := by rw [bne_iff_ne]; omega
    have hne : x ≠ y := fun e => hl (by rw [e])
    simp only [g, g', Phi_laws_eqRangeS, T_laws_eqRangeS, spEqRange, go_sem, reduceIte, reduceCtorEq, Nat.reduceEqDiff, Nat.reduceBEq, Nat.reduceBNe, Nat.reduceMul, Nat.reduceAdd, Nat.reduceLT, Nat.reduceLeDiff, Nat.reduceSub, Int.reduceLT, Int.reduceLE, Int.reduceEq, Int.reduceNeg, Int.reduceAdd, Int.reduceSub, Int.reduceToNat, Int.reduceBEq, Int.reduceBNe, Array.reduceGetElem?]
    repeat' ((first | refine after_iteT.2 ⟨fun hp => ?_, fun hp => ?_⟩ | refine after_iteF.2 ⟨fun hp => ?_, fun hp => ?_⟩ | refine after_ite.2 ⟨fun hp => ?_, fun hp => ?_⟩ | refine grd_not.2 ⟨fun hp => ?_, fun hp => ?_⟩ | refine grd_beq.2 ⟨fun hp => ?_, fun hp => ?_⟩ | refine grd_dec.2 ⟨fun hp => ?_, fun hp => ?_⟩ | refine grd_bool.2 ⟨fun hp => ?_, fun hp => ?_⟩ | refine condG_not.2 ⟨fun hp => ?_, fun hp => ?_⟩ | refine condG_beq.2 ⟨fun hp => ?_, fun hp => ?_⟩ | refine condG_dec.2 ⟨fun hp => ?_, fun hp => ?_⟩ | refine condG_bool.2 ⟨fun hp => ?_, fun hp => ?_⟩ | (refine (goes_draw0 rfl (by decide +kernel)).2 ?_; have hp := True.intro) | (refine (goes_drawM _ rfl (by decide +kernel)).2 ?_; have hp := True.intro)) <;> simp only [hp, g, g', Phi_laws_eqRangeS, T_laws_eqRangeS, spEqRange, go_sem, reduceIte, reduceCtorEq, Nat.reduceEqDiff, Nat.reduceBEq, Nat.reduceBNe, Nat.reduceMul, Nat.reduceAdd, Nat.reduceLT, Nat.reduceLeDiff, Nat.reduceSub, Int.reduceLT, Int.reduceLE, Int.reduceEq, Int.reduceNeg, Int.reduceAdd, Int.reduceSub, Int.reduceToNat, Int.reduceBEq, Int.reduceBNe, Array.reduceGetElem?])
    simp only [fin_mk, finV, resL, resV1, allUse, oneOrTup, List.take, List.drop, List.take_succ_cons, List.take_zero, List.drop_succ_cons, List.drop_zero, Phi_laws_eqRangeS, T_laws_eqRangeS, spEqRange, go_sem, reduceIte, reduceCtorEq, Nat.reduceEqDiff, Nat.reduceBEq, Nat.reduceBNe, Nat.reduceMul, Nat.reduceAdd, Nat.reduceLT, Nat.reduceLeDiff, Nat.reduceSub, Int.reduceLT, Int.reduceLE, Int.reduceEq, Int.reduceNeg, Int.reduceAdd, Int.reduceSub, Int.reduceToNat, Int.reduceBEq, Int.reduceBNe, Array.reduceGetElem?]
    rw [← hr]
    simp only [hne, decide_false]
  have hl' : (x.length : Int) = y.length := by omega
  simp only [hl, bne_self_eq_false, Phi_laws_eqRangeS, T_laws_eqRangeS, spEqRange, go_sem, reduceIte, reduceCtorEq, Nat.reduceEqDiff, Nat.reduceBEq, Nat.reduceBNe, Nat.reduceMul, Nat.reduceAdd, Nat.reduceLT, Nat.reduceLeDiff, Nat.reduceSub, Int.reduceLT, Int.reduceLE, Int.reduceEq, Int.reduceNeg, Int.reduceAdd, Int.reduceSub, Int.reduceToNat, Int.reduceBEq, Int.reduceBNe, Array.reduceGetElem?]
  repeat' ((first | refine after_iteT.2 ⟨fun hp => ?_, fun hp => ?_⟩ | refine after_iteF.2 ⟨fun hp => ?_, fun hp => ?_⟩ | refine after_ite.2 ⟨fun hp => ?_, fun hp => ?_⟩ | refine grd_not.2 ⟨fun hp => ?_, fun hp => ?_⟩ | refine grd_beq.2 ⟨fun hp => ?_, fun hp => ?_⟩ | refine grd_dec.2 ⟨fun hp => ?_, fun hp => ?_⟩ | refine grd_bool.2 ⟨fun hp => ?_, fun hp => ?_⟩ | refine condG_not.2 ⟨fun hp => ?_, fun hp => ?_⟩ | refine condG_beq.2 ⟨fun hp => ?_, fun hp => ?_⟩ | refine condG_dec.2 ⟨fun hp => ?_, fun hp => ?_⟩ | refine condG_bool.2 ⟨fun hp => ?_, fun hp => ?_⟩ | (refine (goes_draw0 rfl (by decide +kernel)).2 ?_; have hp := True.intro) | (refine (goes_drawM _ rfl (by decide +kernel)).2 ?_; have hp := True.intro)) <;> simp only [hp, hl, bne_self_eq_false, Phi_laws_eqRangeS, T_laws_eqRangeS, spEqRange, go_sem, reduceIte, reduceCtorEq, Nat.reduceEqDiff, Nat.reduceBEq, Nat.reduceBNe, Nat.reduceMul, Nat.reduceAdd, Nat.reduceLT, Nat.reduceLeDiff, Nat.reduceSub, Int.reduceLT, Int.reduceLE, Int.reduceEq, Int.reduceNeg, Int.reduceAdd, Int.reduceSub, Int.reduceToNat, Int.reduceBEq, Int.reduceBNe, Array.reduceGetElem?])
  refine loop_go (fun i : Nat => [(5, .int .i64 (i : Int))]) (fun _ => []) (fun i => x.length - i) (fun i => i ≤ x.length ∧ x.take i = y.take i) 0 ⟨Nat.zero_le _, by simp⟩ rfl rfl ?_
  intro i ⟨hi, he⟩ ih
  rcases Nat.lt_or_ge i x.length with h | h
  · have g1 : (i : Int) < x.length := by omega
    have g1' : (i : Int) < y.length := by omega
    have g2 : (0 : Int) ≤ i := by omega
    have g3 : x[i]? = some x[i] := List.getElem?_eq_getElem h
    have g4 : y[i]? = some (y[i]'(by omega)) := List.getElem?_eq_getElem (by omega)
    have g5 := wrap_succ h (by omega)
    skip
    by_cases hv : x[i] = (y[i]'(by omega))
    · simp only [g1, g1', g2, g3, g4, g5, hv, Phi_laws_eqRangeS, T_laws_eqRangeS, spEqRange, go_sem, reduceIte, reduceCtorEq, Nat.reduceEqDiff, Nat.reduceBEq, Nat.reduceBNe, Nat.reduceMul, Nat.reduceAdd, Nat.reduceLT, Nat.reduceLeDiff, Nat.reduceSub, Int.reduceLT, Int.reduceLE, Int.reduceEq, Int.reduceNeg, Int.reduceAdd, Int.reduceSub, Int.reduceToNat, Int.reduceBEq, Int.reduceBNe, Array.reduceGetElem?]
      repeat' ((first | refine after_iteT.2 ⟨fun hp => ?_, fun hp => ?_⟩ | refine after_iteF.2 ⟨fun hp => ?_, fun hp => ?_⟩ | refine after_ite.2 ⟨fun hp => ?_, fun hp => ?_⟩ | refine grd_not.2 ⟨fun hp => ?_, fun hp => ?_⟩ | refine grd_beq.2 ⟨fun hp => ?_, fun hp => ?_⟩ | refine grd_dec.2 ⟨fun hp => ?_, fun hp => ?_⟩ | refine grd_bool.2 ⟨fun hp => ?_, fun hp => ?_⟩ | refine condG_not.2 ⟨fun hp => ?_, fun hp => ?_⟩ | refine condG_beq.2 ⟨fun hp => ?_, fun hp => ?_⟩ | refine condG_dec.2 ⟨fun hp => ?_, fun hp => ?_⟩ | refine condG_bool.2 ⟨fun hp => ?_, fun hp => ?_⟩ | (refine (goes_draw0 rfl (by decide +kernel)).2 ?_; have hp := True.intro) | (refine (goes_drawM _ rfl (by decide +kernel)).2 ?_; have hp := True.intro)) <;> simp only [hp, g1, g1', g2, g3, g4, g5, hv, Phi_laws_eqRangeS, T_laws_eqRangeS, spEqRange, go_sem, reduceIte, reduceCtorEq, Nat.reduceEqDiff, Nat.reduceBEq, Nat.reduceBNe, Nat.reduceMul, Nat.reduceAdd, Nat.reduceLT, Nat.reduceLeDiff, Nat.reduceSub, Int.reduceLT, Int.reduceLE, Int.reduceEq, Int.reduceNeg, Int.reduceAdd, Int.reduceSub, Int.reduceToNat, Int.reduceBEq, Int.reduceBNe, Array.reduceGetElem?])
      exact ih (i + 1) ⟨h, by rw [List.take_add_one, List.take_add_one, he, g3, g4, hv]⟩ (by omega)
    · have hne : x ≠ y := by rintro rfl; exact hv rfl
      have hv1 : (x[i] == (y[i]'(by omega))) = false := by rw [beq_eq_false_iff_ne]; exact hv
      have hv2 : (x[i] != (y[i]'(by omega))) = true := by rw [bne_iff_ne]; exact hv
      simp only [g1, g1', g2, g3, g4, g5, hv, hv1, hv2, Phi_laws_eqRangeS, T_laws_eqRangeS, spEqRange, go_sem, reduceIte, reduceCtorEq, Nat.reduceEqDiff, Nat.reduceBEq, Nat.reduceBNe, Nat.reduceMul, Nat.reduceAdd, Nat.reduceLT, Nat.reduceLeDiff, Nat.reduceSub, Int.reduceLT, Int.reduceLE, Int.reduceEq, Int.reduceNeg, Int.reduceAdd, Int.reduceSub, Int.reduceToNat, Int.reduceBEq, Int.reduceBNe, Array.reduceGetElem?]
      repeat' ((first | refine after_iteT.2 ⟨fun hp => ?_, fun hp => ?_⟩ | refine after_iteF.2 ⟨fun hp => ?_, fun hp => ?_⟩ | refine after_ite.2 ⟨fun hp => ?_, fun hp => ?_⟩ | refine grd_not.2 ⟨fun hp => ?_, fun hp => ?_⟩ | refine grd_beq.2 ⟨fun hp => ?_, fun hp => ?_⟩ | refine grd_dec.2 ⟨fun hp => ?_, fun hp => ?_⟩ | refine grd_bool.2 ⟨fun hp => ?_, fun hp => ?_⟩ | refine condG_not.2 ⟨fun hp => ?_, fun hp => ?_⟩ | refine condG_beq.2 ⟨fun hp => ?_, fun hp => ?_⟩ | refine condG_dec.2 ⟨fun hp => ?_, fun hp => ?_⟩ | refine condG_bool.2 ⟨fun hp => ?_, fun hp => ?_⟩ | (refine (goes_draw0 rfl (by decide +kernel)).2 ?_; have hp := True.intro) | (refine (goes_drawM _ rfl (by decide +kernel)).2 ?_; have hp := True.intro)) <;> simp only [hp, g1, g1', g2, g3, g4, g5, hv, hv1, hv2, Phi_laws_eqRangeS, T_laws_eqRangeS, spEqRange, go_sem, reduceIte, reduceCtorEq, Nat.reduceEqDiff, Nat.reduceBEq, Nat.reduceBNe, Nat.reduceMul, Nat.reduceAdd, Nat.reduceLT, Nat.reduceLeDiff, Nat.reduceSub, Int.reduceLT, Int.reduceLE, Int.reduceEq, Int.reduceNeg, Int.reduceAdd, Int.reduceSub, Int.reduceToNat, Int.reduceBEq, Int.reduceBNe, Array.reduceGetElem?])
      simp only [fin_mk, finV, resL, resV1, allUse, oneOrTup, List.take, List.drop, List.take_succ_cons, List.take_zero, List.drop_succ_cons, List.drop_zero, Phi_laws_eqRangeS, T_laws_eqRangeS, spEqRange, go_sem, reduceIte, reduceCtorEq, Nat.reduceEqDiff, Nat.reduceBEq, Nat.reduceBNe, Nat.reduceMul, Nat.reduceAdd, Nat.reduceLT, Nat.reduceLeDiff, Nat.reduceSub, Int.reduceLT, Int.reduceLE, Int.reduceEq, Int.reduceNeg, Int.reduceAdd, Int.reduceSub, Int.reduceToNat, Int.reduceBEq, Int.reduceBNe, Array.reduceGetElem?]
      rw [← hr]
      simp only [hne, decide_false]
  · have g1 : ¬ (i : Int) < x.length := by omega
    have g1' : ¬ (i : Int) < y.length := by omega
    simp only [g1, g1', Phi_laws_eqRangeS, T_laws_eqRangeS, spEqRange, go_sem, reduceIte, reduceCtorEq, Nat.reduceEqDiff, Nat.reduceBEq, Nat.reduceBNe, Nat.reduceMul, Nat.reduceAdd, Nat.reduceLT, Nat.reduceLeDiff, Nat.reduceSub, Int.reduceLT, Int.reduceLE, Int.reduceEq, Int.reduceNeg, Int.reduceAdd, Int.reduceSub, Int.reduceToNat, Int.reduceBEq, Int.reduceBNe, Array.reduceGetElem?]
    simp only [fin_mk, finV, resL, resV1, allUse, oneOrTup, List.take, List.drop, List.take_succ_cons, List.take_zero, List.drop_succ_cons, List.drop_zero, Phi_laws_eqRangeS, T_laws_eqRangeS, spEqRange, go_sem, reduceIte, reduceCtorEq, Nat.reduceEqDiff, Nat.reduceBEq, Nat.reduceBNe, Nat.reduceMul, Nat.reduceAdd, Nat.reduceLT, Nat.reduceLeDiff, Nat.reduceSub, Int.reduceLT, Int.reduceLE, Int.reduceEq, Int.reduceNeg, Int.reduceAdd, Int.reduceSub, Int.reduceToNat, Int.reduceBEq, Int.reduceBNe, Array.reduceGetElem?]
    rw [← hr]
    rw [List.take_of_length_le h, List.take_of_length_le (by omega)] at he
    simp only [he, decide_true]
open Classical in
noncomputable def spMarkRangeS : VM.Spec := { modes := [.io, .rd], run := fun | [.lst 2 l', .int .i64 k] => (decL Range.dec l').bind fun l => if l.length ≤ 4194304 ∧ 0 ≤ k ∧ k ≤ 1152921504606846976 then some (.int .i64 ((markL meRange l k).2), [.lst 2 (((markL meRange l k).1).map Range.enc)]) else none | _ => none, need := [] }
theorem spMarkRangeS_in {ins : List V} {r : V} {outs : List V} (h : spMarkRangeS.run ins = some (r, outs)) : ∃ (l : (List Range)) (k : Int), ins = [.lst 2 ((l).map Range.enc), .int .i64 k] ∧ (l.length ≤ 4194304 ∧ 0 ≤ k ∧ k ≤ 1152921504606846976) ∧ .int .i64 ((markL meRange l k).2) = r ∧ outs = [.lst 2 (((markL meRange l k).1).map Range.enc)] := by
  unfold spMarkRangeS at h
  simp only at h
  split at h
  · rename_i l' k
    simp only [Option.bind_eq_some_iff] at h
    obtain ⟨l, h_l, h⟩ := h
    split at h
    case isFalse => cases h
    rename_i hc
    simp only [Option.some.injEq, Prod.mk.injEq] at h
    obtain ⟨h1, h2⟩ := h
    have h_l := decL_some (fun _ _ h => Range.dec_some h) h_l
    subst h_l
    exact ⟨l, k, rfl, hc, h1, h2.symm⟩
  · cases h
def T_laws_markRangeS : Hints := ⟨fun _ => none, fun i => if i = 2 then some [0, 1, 5] else none, fun i => if i = 0 then some [0, 1] else if i = 1 then some [0, 1, 5] else if i = 2 then some [0, 1, 5, 9] else if i = 4 then some [0, 1, 5] else if i = 5 then some [0, 1, 5] else if i = 6 then some [0, 1, 5] else if i = 7 then some [0, 1, 5] else if i = 3 then some [0, 1, 5] else if i = 8 then some [4] else none⟩
noncomputable def Phi_laws_markRangeS : Tab := fun f => none
theorem phi_laws_markRangeS : ∀ f sp, Phi_laws_markRangeS f = some sp → FnOk Tryd.prog f sp ∧ ∀ n ∈ sp.need, n ∈ ([] : List String) := by
  intro f sp h
  unfold Phi_laws_markRangeS at h
  cases h
theorem ok_laws_markRangeS : FnOk Tryd.prog 101 spMarkRangeS := by
  refine fn_ok (Φ := Phi_laws_markRangeS) (T := T_laws_markRangeS) phi_laws_markRangeS mixed Tryd.func101 rfl rfl rfl (by decide) ?_
  intro ins r outs hr hl
  clear hl
  have hs := spMarkRangeS_in hr
  clear hr
  obtain ⟨l, k, rfl, hc, hr, rfl⟩ := hs
  simp only [spMarkRangeS, Tryd.f101, Go.VM.initS]
  obtain ⟨hc, h0, h1⟩ := hc
  simp only [Phi_laws_markRangeS, T_laws_markRangeS, go_sem, reduceIte, reduceCtorEq, Nat.reduceEqDiff, Nat.reduceBEq, Nat.reduceBNe, Nat.reduceMul, Nat.reduceAdd, Nat.reduceLT, Nat.reduceLeDiff, Nat.reduceSub, Int.reduceLT, Int.reduceLE, Int.reduceEq, Int.reduceNeg, Int.reduceAdd, Int.reduceSub, Int.reduceToNat, Int.reduceBEq, Int.reduceBNe, Array.reduceGetElem?]
  refine loop_go (fun p : Nat × List V × Int => [(1, .int .i64 p.2.2), (5, .int .i64 (p.1 : Int))]) (fun p => [(0, ⟨.arr, 2, p.2.1⟩)]) (fun p => l.length - p.1) (fun p => p.1 ≤ l.length ∧ p.2.1 = ((markL meRange (l.take p.1) k).1 ++ l.drop p.1).map Range.enc ∧ p.2.2 = (markL meRange (l.take p.1) k).2 ∧ p.2.2 = k + (2 : Nat) * p.1) (0, l.map Range.enc, k) ⟨Nat.zero_le _, by simp [markL], rfl, by simp⟩ rfl rfl ?_
  rintro ⟨i, els, k'⟩ ⟨hi, he, hk, hb⟩ ih
  simp only at hi he hk hb ih
  rcases Nat.lt_or_ge i l.length with h | h
  · have g1 : (i : Int) < l.length := by omega
    have g2 : (0 : Int) ≤ i := by omega
    obtain ⟨g3, gl, gs, gk⟩ := mark_round h he
    rw [← hk] at gs gk
    have g5 := wrap_succ h (by omega)
    have j0 : k' ≤ 4611686018427387904 := by omega
    have w0 : IntKind.i64.wrap (k' + 1) = k' + 1 := wrap64 (by omega) (by omega)
    have w1 : IntKind.i64.wrap (k' + 1 + 1) = k' + 1 + 1 := wrap64 (by omega) (by omega)
    have j1 : k' + 1 ≤ 4611686018427387904 := by omega
    have j2 : k' + 1 + 1 ≤ 4611686018427387904 := by omega
    rw [Range.enc] at g3
    have gi : i < els.length := by omega
    simp only [g1, g2, g3, gl, g5, h, w0, w1, j0, j1, j2, List.getElem?_set_self, List.length_set, List.set_set, Phi_laws_markRangeS, T_laws_markRangeS, go_sem, reduceIte, reduceCtorEq, Nat.reduceEqDiff, Nat.reduceBEq, Nat.reduceBNe, Nat.reduceMul, Nat.reduceAdd, Nat.reduceLT, Nat.reduceLeDiff, Nat.reduceSub, Int.reduceLT, Int.reduceLE, Int.reduceEq, Int.reduceNeg, Int.reduceAdd, Int.reduceSub, Int.reduceToNat, Int.reduceBEq, Int.reduceBNe, Array.reduceGetElem?]
    repeat' ((first | refine after_iteT.2 ⟨fun hp => ?_, fun hp => ?_⟩ | refine after_iteF.2 ⟨fun hp => ?_, fun hp => ?_⟩ | refine after_ite.2 ⟨fun hp => ?_, fun hp => ?_⟩ | refine grd_not.2 ⟨fun hp => ?_, fun hp => ?_⟩ | refine grd_beq.2 ⟨fun hp => ?_, fun hp => ?_⟩ | refine grd_dec.2 ⟨fun hp => ?_, fun hp => ?_⟩ | refine grd_bool.2 ⟨fun hp => ?_, fun hp => ?_⟩ | refine condG_not.2 ⟨fun hp => ?_, fun hp => ?_⟩ | refine condG_beq.2 ⟨fun hp => ?_, fun hp => ?_⟩ | refine condG_dec.2 ⟨fun hp => ?_, fun hp => ?_⟩ | refine condG_bool.2 ⟨fun hp => ?_, fun hp => ?_⟩ | (refine (goes_draw0 rfl (by decide +kernel)).2 ?_; have hp := True.intro) | (refine (goes_drawM _ rfl (by decide +kernel)).2 ?_; have hp := True.intro)) <;> simp only [hp, g1, g2, g3, gl, g5, h, w0, w1, j0, j1, j2, List.getElem?_set_self, List.length_set, List.set_set, Phi_laws_markRangeS, T_laws_markRangeS, go_sem, reduceIte, reduceCtorEq, Nat.reduceEqDiff, Nat.reduceBEq, Nat.reduceBNe, Nat.reduceMul, Nat.reduceAdd, Nat.reduceLT, Nat.reduceLeDiff, Nat.reduceSub, Int.reduceLT, Int.reduceLE, Int.reduceEq, Int.reduceNeg, Int.reduceAdd, Int.reduceSub, Int.reduceToNat, Int.reduceBEq, Int.reduceBNe, Array.reduceGetElem?])
    refine ih (i + 1, els.set i (Range.enc (meRange l[i] k').1), (meRange l[i] k').2) ⟨h, gs, gk, by simp only [meRange]; omega⟩ (by simp only; omega)
  · have g1 : ¬ (i : Int) < l.length := by omega
    have gl : els.length = l.length := by rw [he]; simp [markL_len]; omega
    simp only [g1, gl, Phi_laws_markRangeS, T_laws_markRangeS, go_sem, reduceIte, reduceCtorEq, Nat.reduceEqDiff, Nat.reduceBEq, Nat.reduceBNe, Nat.reduceMul, Nat.reduceAdd, Nat.reduceLT, Nat.reduceLeDiff, Nat.reduceSub, Int.reduceLT, Int.reduceLE, Int.reduceEq, Int.reduceNeg, Int.reduceAdd, Int.reduceSub, Int.reduceToNat, Int.reduceBEq, Int.reduceBNe, Array.reduceGetElem?]
    simp only [fin_mk, finV, resL, resV1, allUse, oneOrTup, List.take, List.drop, List.take_succ_cons, List.take_zero, List.drop_succ_cons, List.drop_zero, Phi_laws_markRangeS, T_laws_markRangeS, go_sem, reduceIte, reduceCtorEq, Nat.reduceEqDiff, Nat.reduceBEq, Nat.reduceBNe, Nat.reduceMul, Nat.reduceAdd, Nat.reduceLT, Nat.reduceLeDiff, Nat.reduceSub, Int.reduceLT, Int.reduceLE, Int.reduceEq, Int.reduceNeg, Int.reduceAdd, Int.reduceSub, Int.reduceToNat, Int.reduceBEq, Int.reduceBNe, Array.reduceGetElem?]
    rw [← hr, he, hk, List.take_of_length_le h, List.drop_of_length_le h, List.append_nil]
open Classical in
noncomputable def spSzLine : VM.Spec := { modes := [.rd, .rd], run := fun | [x', .int .i64 n] => (Line.dec x').bind fun x => if x.le 4611686018427387904 ∧ 0 ≤ n ∧ n ≤ 4611686018427387904 then some (.int .i64 (Line.sz x n), []) else none | _ => none, need := [] }
theorem spSzLine_in {ins : List V} {r : V} {outs : List V} (h : spSzLine.run ins = some (r, outs)) : ∃ (x : Line) (n : Int), ins = [Line.enc x, .int .i64 n] ∧ (x.le 4611686018427387904 ∧ 0 ≤ n ∧ n ≤ 4611686018427387904) ∧ .int .i64 (Line.sz x n) = r ∧ outs = [] := by
  unfold spSzLine at h
  simp only at h
  split at h
  · rename_i x' n
    simp only [Option.bind_eq_some_iff] at h
    obtain ⟨x, h_x, h⟩ := h
    split at h
    case isFalse => cases h
    rename_i hc
    simp only [Option.some.injEq, Prod.mk.injEq] at h
    obtain ⟨h1, h2⟩ := h
    have h_x := Line.dec_some h_x
    subst h_x
    exact ⟨x, n, rfl, hc, h1, h2.symm⟩
  · cases h
def T_laws_szLine : Hints := ⟨fun _ => none, fun _ => none, fun i => if i = 0 then some [1, 2] else if i = 1 then some [1] else if i = 2 then some [1, 10] else if i = 3 then some [4] else if i = 4 then some [4] else none⟩
noncomputable def Phi_laws_szLine : Tab := fun f => if f = 81 then some spSzRangeS else none
theorem phi_laws_szLine : ∀ f sp, Phi_laws_szLine f = some sp → FnOk Tryd.prog f sp ∧ ∀ n ∈ sp.need, n ∈ ([] : List String) := by
  intro f sp h
  unfold Phi_laws_szLine at h
  split at h
  · rename_i e; cases h; rw [e]; exact ⟨ok_laws_szRangeS, (fun n (h : n ∈ ([] : List String)) => (nomatch h))⟩
  cases h
theorem ok_laws_szLine : FnOk Tryd.prog 36 spSzLine := by
  refine fn_ok (Φ := Phi_laws_szLine) (T := T_laws_szLine) phi_laws_szLine mixed Tryd.func36 rfl rfl rfl (by decide) ?_
  intro ins r outs hr hl
  clear hl
  have hs := spSzLine_in hr
  clear hr
  obtain ⟨x, n, rfl, hc, hr, rfl⟩ := hs
  simp only [spSzLine, Tryd.f36, Go.VM.initS]
  obtain ⟨hc, h0, h1⟩ := hc
  have c0 := hc
  have c0 : x.Set.length ≤ 4611686018427387904 := c0.1
  rcases (szF_ok (p := Range.le) (fun b x => trivial)) x.Set n 4611686018427387904 h0 h1 with e | ⟨a0, d0, -⟩
  · simp only [c0, h0, h1, e, Phi_laws_szLine, T_laws_szLine, spSzRangeS, go_sem, reduceIte, reduceCtorEq, Nat.reduceEqDiff, Nat.reduceBEq, Nat.reduceBNe, Nat.reduceMul, Nat.reduceAdd, Nat.reduceLT, Nat.reduceLeDiff, Nat.reduceSub, Int.reduceLT, Int.reduceLE, Int.reduceEq, Int.reduceNeg, Int.reduceAdd, Int.reduceSub, Int.reduceToNat, Int.reduceBEq, Int.reduceBNe, Array.reduceGetElem?]
    repeat' ((first | refine after_iteT.2 ⟨fun hp => ?_, fun hp => ?_⟩ | refine after_iteF.2 ⟨fun hp => ?_, fun hp => ?_⟩ | refine after_ite.2 ⟨fun hp => ?_, fun hp => ?_⟩ | refine grd_not.2 ⟨fun hp => ?_, fun hp => ?_⟩ | refine grd_beq.2 ⟨fun hp => ?_, fun hp => ?_⟩ | refine grd_dec.2 ⟨fun hp => ?_, fun hp => ?_⟩ | refine grd_bool.2 ⟨fun hp => ?_, fun hp => ?_⟩ | refine condG_not.2 ⟨fun hp => ?_, fun hp => ?_⟩ | refine condG_beq.2 ⟨fun hp => ?_, fun hp => ?_⟩ | refine condG_dec.2 ⟨fun hp => ?_, fun hp => ?_⟩ | refine condG_bool.2 ⟨fun hp => ?_, fun hp => ?_⟩ | (refine (goes_draw0 rfl (by decide +kernel)).2 ?_; have hp := True.intro) | (refine (goes_drawM _ rfl (by decide +kernel)).2 ?_; have hp := True.intro)) <;> simp only [hp, c0, h0, h1, e, Phi_laws_szLine, T_laws_szLine, spSzRangeS, go_sem, reduceIte, reduceCtorEq, Nat.reduceEqDiff, Nat.reduceBEq, Nat.reduceBNe, Nat.reduceMul, Nat.reduceAdd, Nat.reduceLT, Nat.reduceLeDiff, Nat.reduceSub, Int.reduceLT, Int.reduceLE, Int.reduceEq, Int.reduceNeg, Int.reduceAdd, Int.reduceSub, Int.reduceToNat, Int.reduceBEq, Int.reduceBNe, Array.reduceGetElem?])
    simp only [fin_mk, finV, resL, resV1, allUse, oneOrTup, List.take, List.drop, List.take_succ_cons, List.take_zero, List.drop_succ_cons, List.drop_zero, Phi_laws_szLine, T_laws_szLine, spSzRangeS, go_sem, reduceIte, reduceCtorEq, Nat.reduceEqDiff, Nat.reduceBEq, Nat.reduceBNe, Nat.reduceMul, Nat.reduceAdd, Nat.reduceLT, Nat.reduceLeDiff, Nat.reduceSub, Int.reduceLT, Int.reduceLE, Int.reduceEq, Int.reduceNeg, Int.reduceAdd, Int.reduceSub, Int.reduceToNat, Int.reduceBEq, Int.reduceBNe, Array.reduceGetElem?]
    rw [← hr]
    simp only [Line.sz, thenSz, subSz, e, if_true, if_false, Int.reduceNeg, Int.reduceLT]
  have b0 : ¬ (szF x.Set n) < 0 := Int.not_lt.2 a0
  have d0 : (szF x.Set n) ≤ 4611686018427387904 := Int.le_trans d0 h1
  simp only [c0, h0, h1, b0, Phi_laws_szLine, T_laws_szLine, spSzRangeS, go_sem, reduceIte, reduceCtorEq, Nat.reduceEqDiff, Nat.reduceBEq, Nat.reduceBNe, Nat.reduceMul, Nat.reduceAdd, Nat.reduceLT, Nat.reduceLeDiff, Nat.reduceSub, Int.reduceLT, Int.reduceLE, Int.reduceEq, Int.reduceNeg, Int.reduceAdd, Int.reduceSub, Int.reduceToNat, Int.reduceBEq, Int.reduceBNe, Array.reduceGetElem?]
  repeat' ((first | refine after_iteT.2 ⟨fun hp => ?_, fun hp => ?_⟩ | refine after_iteF.2 ⟨fun hp => ?_, fun hp => ?_⟩ | refine after_ite.2 ⟨fun hp => ?_, fun hp => ?_⟩ | refine grd_not.2 ⟨fun hp => ?_, fun hp => ?_⟩ | refine grd_beq.2 ⟨fun hp => ?_, fun hp => ?_⟩ | refine grd_dec.2 ⟨fun hp => ?_, fun hp => ?_⟩ | refine grd_bool.2 ⟨fun hp => ?_, fun hp => ?_⟩ | refine condG_not.2 ⟨fun hp => ?_, fun hp => ?_⟩ | refine condG_beq.2 ⟨fun hp => ?_, fun hp => ?_⟩ | refine condG_dec.2 ⟨fun hp => ?_, fun hp => ?_⟩ | refine condG_bool.2 ⟨fun hp => ?_, fun hp => ?_⟩ | (refine (goes_draw0 rfl (by decide +kernel)).2 ?_; have hp := True.intro) | (refine (goes_drawM _ rfl (by decide +kernel)).2 ?_; have hp := True.intro)) <;> simp only [hp, c0, h0, h1, b0, Phi_laws_szLine, T_laws_szLine, spSzRangeS, go_sem, reduceIte, reduceCtorEq, Nat.reduceEqDiff, Nat.reduceBEq, Nat.reduceBNe, Nat.reduceMul, Nat.reduceAdd, Nat.reduceLT, Nat.reduceLeDiff, Nat.reduceSub, Int.reduceLT, Int.reduceLE, Int.reduceEq, Int.reduceNeg, Int.reduceAdd, Int.reduceSub, Int.reduceToNat, Int.reduceBEq, Int.reduceBNe, Array.reduceGetElem?])
  simp only [fin_mk, finV, resL, resV1, allUse, oneOrTup, List.take, List.drop, List.take_succ_cons, List.take_zero, List.drop_succ_cons, List.drop_zero, Phi_laws_szLine, T_laws_szLine, spSzRangeS, go_sem, reduceIte, reduceCtorEq, Nat.reduceEqDiff, Nat.reduceBEq, Nat.reduceBNe, Nat.reduceMul, Nat.reduceAdd, Nat.reduceLT, Nat.reduceLeDiff, Nat.reduceSub, Int.reduceLT, Int.reduceLE, Int.reduceEq, Int.reduceNeg, Int.reduceAdd, Int.reduceSub, Int.reduceToNat, Int.reduceBEq, Int.reduceBNe, Array.reduceGetElem?]
  rw [← hr]
  simp only [Line.sz, thenSz, subSz, b0, if_true, if_false]
open Classical in
noncomputable def spToLine : VM.Spec := { modes := [.rd], run := fun | [x'] => (Line.dec x').bind fun x => if x.le 4194304 then some (Line.enc x, []) else none | _ => none, need := [] }
theorem spToLine_in {ins : List V} {r : V} {outs : List V} (h : spToLine.run ins = some (r, outs)) : ∃ (x : Line), ins = [Line.enc x] ∧ (x.le 4194304) ∧ Line.enc x = r ∧ outs = [] := by
  unfold spToLine at h
  simp only at h
  split at h
  · rename_i x'
    simp only [Option.bind_eq_some_iff] at h
    obtain ⟨x, h_x, h⟩ := h
    split at h
    case isFalse => cases h
    rename_i hc
    simp only [Option.some.injEq, Prod.mk.injEq] at h
    obtain ⟨h1, h2⟩ := h
    have h_x := Line.dec_some h_x
    subst h_x
    exact ⟨x, rfl, hc, h1, h2.symm⟩
  · cases h
def T_laws_toLine : Hints := ⟨fun _ => none, fun _ => none, fun i => if i = 0 then some [1, 2] else if i = 1 then some [1, 2, 3] else if i = 2 then some [1, 2, 3] else if i = 3 then some [1, 2, 3] else if i = 4 then some [1, 2, 3] else if i = 5 then some [1, 2, 3] else if i = 6 then some [1, 2, 3] else if i = 7 then some [1, 2, 3] else if i = 8 then some [2, 3] else if i = 9 then some [2] else none⟩
noncomputable def Phi_laws_toLine : Tab := fun f => if f = 86 then some spToRangeS else none
theorem phi_laws_toLine : ∀ f sp, Phi_laws_toLine f = some sp → FnOk Tryd.prog f sp ∧ ∀ n ∈ sp.need, n ∈ ([] : List String) := by
  intro f sp h
  unfold Phi_laws_toLine at h
  split at h
  · rename_i e; cases h; rw [e]; exact ⟨ok_laws_toRangeS, (fun n (h : n ∈ ([] : List String)) => (nomatch h))⟩
  cases h
theorem ok_laws_toLine : FnOk Tryd.prog 38 spToLine := by
  refine fn_ok (Φ := Phi_laws_toLine) (T := T_laws_toLine) phi_laws_toLine mixed Tryd.func38 rfl rfl rfl (by decide) ?_
  intro ins r outs hr hl
  clear hl
  have hs := spToLine_in hr
  clear hr
  obtain ⟨x, rfl, hc, hr, rfl⟩ := hs
  simp only [spToLine, Tryd.f38, Go.VM.initS]
  have c0 : x.Set.length ≤ 4194304 := hc.1
  simp only [c0, Phi_laws_toLine, T_laws_toLine, spToRangeS, go_sem, reduceIte, reduceCtorEq, Nat.reduceEqDiff, Nat.reduceBEq, Nat.reduceBNe, Nat.reduceMul, Nat.reduceAdd, Nat.reduceLT, Nat.reduceLeDiff, Nat.reduceSub, Int.reduceLT, Int.reduceLE, Int.reduceEq, Int.reduceNeg, Int.reduceAdd, Int.reduceSub, Int.reduceToNat, Int.reduceBEq, Int.reduceBNe, Array.reduceGetElem?]
  repeat' ((first | refine after_iteT.2 ⟨fun hp => ?_, fun hp => ?_⟩ | refine after_iteF.2 ⟨fun hp => ?_, fun hp => ?_⟩ | refine after_ite.2 ⟨fun hp => ?_, fun hp => ?_⟩ | refine grd_not.2 ⟨fun hp => ?_, fun hp => ?_⟩ | refine grd_beq.2 ⟨fun hp => ?_, fun hp => ?_⟩ | refine grd_dec.2 ⟨fun hp => ?_, fun hp => ?_⟩ | refine grd_bool.2 ⟨fun hp => ?_, fun hp => ?_⟩ | refine condG_not.2 ⟨fun hp => ?_, fun hp => ?_⟩ | refine condG_beq.2 ⟨fun hp => ?_, fun hp => ?_⟩ | refine condG_dec.2 ⟨fun hp => ?_, fun hp => ?_⟩ | refine condG_bool.2 ⟨fun hp => ?_, fun hp => ?_⟩ | (refine (goes_draw0 rfl (by decide +kernel)).2 ?_; have hp := True.intro) | (refine (goes_drawM _ rfl (by decide +kernel)).2 ?_; have hp := True.intro)) <;> simp only [hp, c0, Phi_laws_toLine, T_laws_toLine, spToRangeS, go_sem, reduceIte, reduceCtorEq, Nat.reduceEqDiff, Nat.reduceBEq, Nat.reduceBNe, Nat.reduceMul, Nat.reduceAdd, Nat.reduceLT, Nat.reduceLeDiff, Nat.reduceSub, Int.reduceLT, Int.reduceLE, Int.reduceEq, Int.reduceNeg, Int.reduceAdd, Int.reduceSub, Int.reduceToNat, Int.reduceBEq, Int.reduceBNe, Array.reduceGetElem?])
  simp only [fin_mk, finV, resL, resV1, allUse, oneOrTup, List.take, List.drop, List.take_succ_cons, List.take_zero, List.drop_succ_cons, List.drop_zero, Phi_laws_toLine, T_laws_toLine, spToRangeS, go_sem, reduceIte, reduceCtorEq, Nat.reduceEqDiff, Nat.reduceBEq, Nat.reduceBNe, Nat.reduceMul, Nat.reduceAdd, Nat.reduceLT, Nat.reduceLeDiff, Nat.reduceSub, Int.reduceLT, Int.reduceLE, Int.reduceEq, Int.reduceNeg, Int.reduceAdd, Int.reduceSub, Int.reduceToNat, Int.reduceBEq, Int.reduceBNe, Array.reduceGetElem?]
  rw [← hr]
  rfl
open Classical in
noncomputable def spEqLine : VM.Spec := { modes := [.rd, .rd], run := fun | [x', y'] => (Line.dec x').bind fun x => (Line.dec y').bind fun y => if x.le 4194304 ∧ y.le 4194304 then some (.bool (decide (x = y)), []) else none | _ => none, need := [] }
theorem spEqLine_in {ins : List V} {r : V} {outs : List V} (h : spEqLine.run ins = some (r, outs)) : ∃ (x : Line) (y : Line), ins = [Line.enc x, Line.enc y] ∧ (x.le 4194304 ∧ y.le 4194304) ∧ .bool (decide (x = y)) = r ∧ outs = [] := by
  unfold spEqLine at h
  simp only at h
  split at h
  · rename_i x' y'
    simp only [Option.bind_eq_some_iff] at h
    obtain ⟨x, h_x, y, h_y, h⟩ := h
    split at h
    case isFalse => cases h
    rename_i hc
    simp only [Option.some.injEq, Prod.mk.injEq] at h
    obtain ⟨h1, h2⟩ := h
    have h_x := Line.dec_some h_x
    subst h_x
    have h_y := Line.dec_some h_y
    subst h_y
    exact ⟨x, y, rfl, hc, h1, h2.symm⟩
  · cases h
def T_laws_eqLine : Hints := ⟨fun _ => none, fun _ => none, fun i => if i = 0 then some [2, 3] else if i = 1 then some [2, 3, 9] else if i = 2 then some [4] else if i = 3 then some [2, 3, 14] else if i = 4 then some [4] else if i = 5 then some [2, 3, 19] else if i = 6 then some [4] else if i = 7 then some [2, 3, 24] else if i = 8 then some [4] else if i = 9 then some [2, 3, 29] else if i = 10 then some [4] else if i = 11 then some [2, 3, 35] else if i = 12 then some [4] else if i = 13 then some [40] else if i = 14 then some [4] else if i = 15 then some [4] else none⟩
noncomputable def Phi_laws_eqLine : Tab := fun f => if f = 91 then some spEqRangeS else none
theorem phi_laws_eqLine : ∀ f sp, Phi_laws_eqLine f = some sp → FnOk Tryd.prog f sp ∧ ∀ n ∈ sp.need, n ∈ ([] : List String) := by
  intro f sp h
  unfold Phi_laws_eqLine at h
  split at h
  · rename_i e; cases h; rw [e]; exact ⟨ok_laws_eqRangeS, (fun n (h : n ∈ ([] : List String)) => (nomatch h))⟩
  cases h
theorem ok_laws_eqLine : FnOk Tryd.prog 40 spEqLine := by
  refine fn_ok (Φ := Phi_laws_eqLine) (T := T_laws_eqLine) phi_laws_eqLine mixed Tryd.func40 rfl rfl rfl (by decide) ?_
  intro ins r outs hr hl
  clear hl
  have hs := spEqLine_in hr
  clear hr
  obtain ⟨x, y, rfl, hc, hr, rfl⟩ := hs
  simp only [spEqLine, Tryd.f40, Go.VM.initS]
  have c0 : x.Set.length ≤ 4194304 := hc.1.1
  have d0 : y.Set.length ≤ 4194304 := hc.2.1
  simp only [c0, d0, and_self, Phi_laws_eqLine, T_laws_eqLine, spEqRangeS, go_sem, reduceIte, reduceCtorEq, Nat.reduceEqDiff, Nat.reduceBEq, Nat.reduceBNe, Nat.reduceMul, Nat.reduceAdd, Nat.reduceLT, Nat.reduceLeDiff, Nat.reduceSub, Int.reduceLT, Int.reduceLE, Int.reduceEq, Int.reduceNeg, Int.reduceAdd, Int.reduceSub, Int.reduceToNat, Int.reduceBEq, Int.reduceBNe, Array.reduceGetElem?]
  repeat' ((first | refine after_iteT.2 ⟨fun hp => ?_, fun hp => ?_⟩ | refine after_iteF.2 ⟨fun hp => ?_, fun hp => ?_⟩ | refine after_ite.2 ⟨fun hp => ?_, fun hp => ?_⟩ | refine grd_not.2 ⟨fun hp => ?_, fun hp => ?_⟩ | refine grd_beq.2 ⟨fun hp => ?_, fun hp => ?_⟩ | refine grd_dec.2 ⟨fun hp => ?_, fun hp => ?_⟩ | refine grd_bool.2 ⟨fun hp => ?_, fun hp => ?_⟩ | refine condG_not.2 ⟨fun hp => ?_, fun hp => ?_⟩ | refine condG_beq.2 ⟨fun hp => ?_, fun hp => ?_⟩ | refine condG_dec.2 ⟨fun hp => ?_, fun hp => ?_⟩ | refine condG_bool.2 ⟨fun hp => ?_, fun hp => ?_⟩ | (refine (goes_draw0 rfl (by decide +kernel)).2 ?_; have hp := True.intro) | (refine (goes_drawM _ rfl (by decide +kernel)).2 ?_; have hp := True.intro)) <;> simp only [hp, c0, d0, and_self, Phi_laws_eqLine, T_laws_eqLine, spEqRangeS, go_sem, reduceIte, reduceCtorEq, Nat.reduceEqDiff, Nat.reduceBEq, Nat.reduceBNe, Nat.reduceMul, Nat.reduceAdd, Nat.reduceLT, Nat.reduceLeDiff, Nat.reduceSub, Int.reduceLT, Int.reduceLE, Int.reduceEq, Int.reduceNeg, Int.reduceAdd, Int.reduceSub, Int.reduceToNat, Int.reduceBEq, Int.reduceBNe, Array.reduceGetElem?])
  all_goals (simp only [fin_mk, finV, resL, resV1, allUse, oneOrTup, List.take, List.drop, List.take_succ_cons, List.take_zero, List.drop_succ_cons, List.drop_zero, Phi_laws_eqLine, T_laws_eqLine, spEqRangeS, go_sem, reduceIte, reduceCtorEq, Nat.reduceEqDiff, Nat.reduceBEq, Nat.reduceBNe, Nat.reduceMul, Nat.reduceAdd, Nat.reduceLT, Nat.reduceLeDiff, Nat.reduceSub, Int.reduceLT, Int.reduceLE, Int.reduceEq, Int.reduceNeg, Int.reduceAdd, Int.reduceSub, Int.reduceToNat, Int.reduceBEq, Int.reduceBNe, Array.reduceGetElem?]; rw [← hr])
  all_goals (cases x; cases y; simp_all)
open Classical in
noncomputable def spSzEdit : VM.Spec := { modes := [.rd, .rd], run := fun | [x', .int .i64 n] => (Edit.dec x').bind fun x => if x.le 4611686018427387904 ∧ 0 ≤ n ∧ n ≤ 4611686018427387904 then some (.int .i64 (Edit.sz x n), []) else none | _ => none, need := [] }
theorem spSzEdit_in {ins : List V} {r : V} {outs : List V} (h : spSzEdit.run ins = some (r, outs)) : ∃ (x : Edit) (n : Int), ins = [Edit.enc x, .int .i64 n] ∧ (x.le 4611686018427387904 ∧ 0 ≤ n ∧ n ≤ 4611686018427387904) ∧ .int .i64 (Edit.sz x n) = r ∧ outs = [] := by
  unfold spSzEdit at h
  simp only at h
  split at h
  · rename_i x' n
    simp only [Option.bind_eq_some_iff] at h
    obtain ⟨x, h_x, h⟩ := h
    split at h
    case isFalse => cases h
    rename_i hc
    simp only [Option.some.injEq, Prod.mk.injEq] at h
    obtain ⟨h1, h2⟩ := h
    have h_x := Edit.dec_some h_x
    subst h_x
    exact ⟨x, n, rfl, hc, h1, h2.symm⟩
  · cases h
def T_laws_szEdit : Hints := ⟨fun _ => none, fun _ => none, fun i => if i = 0 then some [1, 2] else if i = 1 then some [1, 2] else if i = 2 then some [1, 2, 11] else if i = 3 then some [4] else if i = 4 then some [1, 2] else if i = 5 then some [1, 2, 18] else if i = 6 then some [4] else if i = 7 then some [1, 2] else if i = 8 then some [1, 2, 24] else if i = 9 then some [4] else if i = 10 then some [1] else if i = 11 then some [1, 31] else if i = 12 then some [4] else if i = 13 then some [4] else none⟩
noncomputable def Phi_laws_szEdit : Tab := fun f => if f = 81 then some spSzRangeS else none
theorem phi_laws_szEdit : ∀ f sp, Phi_laws_szEdit f = some sp → FnOk Tryd.prog f sp ∧ ∀ n ∈ sp.need, n ∈ ([] : List String) := by
  intro f sp h
  unfold Phi_laws_szEdit at h
  split at h
  · rename_i e; cases h; rw [e]; exact ⟨ok_laws_szRangeS, (fun n (h : n ∈ ([] : List String)) => (nomatch h))⟩
  cases h
theorem ok_laws_szEdit : FnOk Tryd.prog 31 spSzEdit := by
  refine fn_ok (Φ := Phi_laws_szEdit) (T := T_laws_szEdit) phi_laws_szEdit mixed Tryd.func31 rfl rfl rfl (by decide) ?_
  intro ins r outs hr hl
  clear hl
  have hs := spSzEdit_in hr
  clear hr
  obtain ⟨x, n, rfl, hc, hr, rfl⟩ := hs
  simp only [spSzEdit, Tryd.f31, Go.VM.initS]
  obtain ⟨hc, h0, h1⟩ := hc
  obtain ⟨c0, c1, c2, c3⟩ := hc
  have c0 : x.Box.length ≤ 4611686018427387904 := c0
  have w0 : IntKind.i64.wrap (n - (x.Box.length : Int)) = (n - (x.Box.length : Int)) := wrap64 (by omega) (by omega)
  by_cases b0 : (n - (x.Box.length : Int)) < 0
  · simp only [w0, b0, Phi_laws_szEdit, T_laws_szEdit, spSzRangeS, go_sem, reduceIte, reduceCtorEq, Nat.reduceEqDiff, Nat.reduceBEq, Nat.reduceBNe, Nat.reduceMul, Nat.reduceAdd, Nat.reduceLT, Nat.reduceLeDiff, Nat.reduceSub, Int.reduceLT, Int.reduceLE, Int.reduceEq, Int.reduceNeg, Int.reduceAdd, Int.reduceSub, Int.reduceToNat, Int.reduceBEq, Int.reduceBNe, Array.reduceGetElem?]
    repeat' ((first | refine after_iteT.2 ⟨fun hp => ?_, fun hp => ?_⟩ | refine after_iteF.2 ⟨fun hp => ?_, fun hp => ?_⟩ | refine after_ite.2 ⟨fun hp => ?_, fun hp => ?_⟩ | refine grd_not.2 ⟨fun hp => ?_, fun hp => ?_⟩ | refine grd_beq.2 ⟨fun hp => ?_, fun hp => ?_⟩ | refine grd_dec.2 ⟨fun hp => ?_, fun hp => ?_⟩ | refine grd_bool.2 ⟨fun hp => ?_, fun hp => ?_⟩ | refine condG_not.2 ⟨fun hp => ?_, fun hp => ?_⟩ | refine condG_beq.2 ⟨fun hp => ?_, fun hp => ?_⟩ | refine condG_dec.2 ⟨fun hp => ?_, fun hp => ?_⟩ | refine condG_bool.2 ⟨fun hp => ?_, fun hp => ?_⟩ | (refine (goes_draw0 rfl (by decide +kernel)).2 ?_; have hp := True.intro) | (refine (goes_drawM _ rfl (by decide +kernel)).2 ?_; have hp := True.intro)) <;> simp only [hp, w0, b0, Phi_laws_szEdit, T_laws_szEdit, spSzRangeS, go_sem, reduceIte, reduceCtorEq, Nat.reduceEqDiff, Nat.reduceBEq, Nat.reduceBNe, Nat.reduceMul, Nat.reduceAdd, Nat.reduceLT, Nat.reduceLeDiff, Nat.reduceSub, Int.reduceLT, Int.reduceLE, Int.reduceEq, Int.reduceNeg, Int.reduceAdd, Int.reduceSub, Int.reduceToNat, Int.reduceBEq, Int.reduceBNe, Array.reduceGetElem?])
    simp only [fin_mk, finV, resL, resV1, allUse, oneOrTup, List.take, List.drop, List.take_succ_cons, List.take_zero, List.drop_succ_cons, List.drop_zero, Phi_laws_szEdit, T_laws_szEdit, spSzRangeS, go_sem, reduceIte, reduceCtorEq, Nat.reduceEqDiff, Nat.reduceBEq, Nat.reduceBNe, Nat.reduceMul, Nat.reduceAdd, Nat.reduceLT, Nat.reduceLeDiff, Nat.reduceSub, Int.reduceLT, Int.reduceLE, Int.reduceEq, Int.reduceNeg, Int.reduceAdd, Int.reduceSub, Int.reduceToNat, Int.reduceBEq, Int.reduceBNe, Array.reduceGetElem?]
    rw [← hr]
    simp only [Edit.sz, thenSz, subSz, b0, if_true, if_false, Int.reduceNeg, Int.reduceLT]
  have a0 : 0 ≤ (n - (x.Box.length : Int)) := by omega
  have d0 : (n - (x.Box.length : Int)) ≤ 4611686018427387904 := by omega
  have c1 : x.To.length ≤ 4611686018427387904 := c1
  have w1 : IntKind.i64.wrap ((n - (x.Box.length : Int)) - (x.To.length : Int)) = ((n - (x.Box.length : Int)) - (x.To.length : Int)) := wrap64 (by omega) (by omega)
  by_cases b1 : ((n - (x.Box.length : Int)) - (x.To.length : Int)) < 0
  · simp only [w0, b0, w1, b1, Phi_laws_szEdit, T_laws_szEdit, spSzRangeS, go_sem, reduceIte, reduceCtorEq, Nat.reduceEqDiff, Nat.reduceBEq, Nat.reduceBNe, Nat.reduceMul, Nat.reduceAdd, Nat.reduceLT, Nat.reduceLeDiff, Nat.reduceSub, Int.reduceLT, Int.reduceLE, Int.reduceEq, Int.reduceNeg, Int.reduceAdd, Int.reduceSub, Int.reduceToNat, Int.reduceBEq, Int.reduceBNe, Array.reduceGetElem?]
    repeat' ((first | refine after_iteT.2 ⟨fun hp => ?_, fun hp => ?_⟩ | refine after_iteF.2 ⟨fun hp => ?_, fun hp => ?_⟩ | refine after_ite.2 ⟨fun hp => ?_, fun hp => ?_⟩ | refine grd_not.2 ⟨fun hp => ?_, fun hp => ?_⟩ | refine grd_beq.2 ⟨fun hp => ?_, fun hp => ?_⟩ | refine grd_dec.2 ⟨fun hp => ?_, fun hp => ?_⟩ | refine grd_bool.2 ⟨fun hp => ?_, fun hp => ?_⟩ | refine condG_not.2 ⟨fun hp => ?_, fun hp => ?_⟩ | refine condG_beq.2 ⟨fun hp => ?_, fun hp => ?_⟩ | refine condG_dec.2 ⟨fun hp => ?_, fun hp => ?_⟩ | refine condG_bool.2 ⟨fun hp => ?_, fun hp => ?_⟩ | (refine (goes_draw0 rfl (by decide +kernel)).2 ?_; have hp := True.intro) | (refine (goes_drawM _ rfl (by decide +kernel)).2 ?_; have hp := True.intro)) <;> simp only [hp, w0, b0, w1, b1, Phi_laws_szEdit, T_laws_szEdit, spSzRangeS, go_sem, reduceIte, reduceCtorEq, Nat.reduceEqDiff, Nat.reduceBEq, Nat.reduceBNe, Nat.reduceMul, Nat.reduceAdd, Nat.reduceLT, Nat.reduceLeDiff, Nat.reduceSub, Int.reduceLT, Int.reduceLE, Int.reduceEq, Int.reduceNeg, Int.reduceAdd, Int.reduceSub, Int.reduceToNat, Int.reduceBEq, Int.reduceBNe, Array.reduceGetElem?])
    simp only [fin_mk, finV, resL, resV1, allUse, oneOrTup, List.take, List.drop, List.take_succ_cons, List.take_zero, List.drop_succ_cons, List.drop_zero, Phi_laws_szEdit, T_laws_szEdit, spSzRangeS, go_sem, reduceIte, reduceCtorEq, Nat.reduceEqDiff, Nat.reduceBEq, Nat.reduceBNe, Nat.reduceMul, Nat.reduceAdd, Nat.reduceLT, Nat.reduceLeDiff, Nat.reduceSub, Int.reduceLT, Int.reduceLE, Int.reduceEq, Int.reduceNeg, Int.reduceAdd, Int.reduceSub, Int.reduceToNat, Int.reduceBEq, Int.reduceBNe, Array.reduceGetElem?]
    rw [← hr]
    simp only [Edit.sz, thenSz, subSz, b0, b1, if_true, if_false, Int.reduceNeg, Int.reduceLT]
  have a1 : 0 ≤ ((n - (x.Box.length : Int)) - (x.To.length : Int)) := by omega
  have d1 : ((n - (x.Box.length : Int)) - (x.To.length : Int)) ≤ 4611686018427387904 := by omega
  have c2 : x.Set.length ≤ 4611686018427387904 := c2.1
  rcases (szF_ok (p := Range.le) (fun b x => trivial)) x.Set ((n - (x.Box.length : Int)) - (x.To.length : Int)) 4611686018427387904 a1 d1 with e | ⟨a2, d2, -⟩
  · simp only [w0, b0, w1, b1, c2, a1, d1, e, Phi_laws_szEdit, T_laws_szEdit, spSzRangeS, go_sem, reduceIte, reduceCtorEq, Nat.reduceEqDiff, Nat.reduceBEq, Nat.reduceBNe, Nat.reduceMul, Nat.reduceAdd, Nat.reduceLT, Nat.reduceLeDiff, Nat.reduceSub, Int.reduceLT, Int.reduceLE, Int.reduceEq, Int.reduceNeg, Int.reduceAdd, Int.reduceSub, Int.reduceToNat, Int.reduceBEq, Int.reduceBNe, Array.reduceGetElem?]
    repeat' ((first | refine after_iteT.2 ⟨fun hp => ?_, fun hp => ?_⟩ | refine after_iteF.2 ⟨fun hp => ?_, fun hp => ?_⟩ | refine after_ite.2 ⟨fun hp => ?_, fun hp => ?_⟩ | refine grd_not.2 ⟨fun hp => ?_, fun hp => ?_⟩ | refine grd_beq.2 ⟨fun hp => ?_, fun hp => ?_⟩ | refine grd_dec.2 ⟨fun hp => ?_, fun hp => ?_⟩ | refine grd_bool.2 ⟨fun hp => ?_, fun hp => ?_⟩ | refine condG_not.2 ⟨fun hp => ?_, fun hp => ?_⟩ | refine condG_beq.2 ⟨fun hp => ?_, fun hp => ?_⟩ | refine condG_dec.2 ⟨fun hp => ?_, fun hp => ?_⟩ | refine condG_bool.2 ⟨fun hp => ?_, fun hp => ?_⟩ | (refine (goes_draw0 rfl (by decide +kernel)).2 ?_; have hp := True.intro) | (refine (goes_drawM _ rfl (by decide +kernel)).2 ?_; have hp := True.intro)) <;> simp only [hp, w0, b0, w1, b1, c2, a1, d1, e, Phi_laws_szEdit, T_laws_szEdit, spSzRangeS, go_sem, reduceIte, reduceCtorEq, Nat.reduceEqDiff, Nat.reduceBEq, Nat.reduceBNe, Nat.reduceMul, Nat.reduceAdd, Nat.reduceLT, Nat.reduceLeDiff, Nat.reduceSub, Int.reduceLT, Int.reduceLE, Int.reduceEq, Int.reduceNeg, Int.reduceAdd, Int.reduceSub, Int.reduceToNat, Int.reduceBEq, Int.reduceBNe, Array.reduceGetElem?])
    simp only [fin_mk, finV, resL, resV1, allUse, oneOrTup, List.take, List.drop, List.take_succ_cons, List.take_zero, List.drop_succ_cons, List.drop_zero, Phi_laws_szEdit, T_laws_szEdit, spSzRangeS, go_sem, reduceIte, reduceCtorEq, Nat.reduceEqDiff, Nat.reduceBEq, Nat.reduceBNe, Nat.reduceMul, Nat.reduceAdd, Nat.reduceLT, Nat.reduceLeDiff, Nat.reduceSub, Int.reduceLT, Int.reduceLE, Int.reduceEq, Int.reduceNeg, Int.reduceAdd, Int.reduceSub, Int.reduceToNat, Int.reduceBEq, Int.reduceBNe, Array.reduceGetElem?]
    rw [← hr]
    simp only [Edit.sz, thenSz, subSz, b0, b1, e, if_true, if_false, Int.reduceNeg, Int.reduceLT]
  have b2 : ¬ (szF x.Set ((n - (x.Box.length : Int)) - (x.To.length : Int))) < 0 := Int.not_lt.2 a2
  have d2 : (szF x.Set ((n - (x.Box.length : Int)) - (x.To.length : Int))) ≤ 4611686018427387904 := Int.le_trans d2 d1
  have c3 : x.Text.length ≤ 4611686018427387904 := c3
  have w3 : IntKind.i64.wrap ((szF x.Set ((n - (x.Box.length : Int)) - (x.To.length : Int))) - (x.Text.length : Int)) = ((szF x.Set ((n - (x.Box.length : Int)) - (x.To.length : Int))) - (x.Text.length : Int)) := wrap64 (by omega) (by omega)
  by_cases b3 : ((szF x.Set ((n - (x.Box.length : Int)) - (x.To.length : Int))) - (x.Text.length : Int)) < 0
  · simp only [w0, b0, w1, b1, c2, a1, d1, b2, w3, b3, Phi_laws_szEdit, T_laws_szEdit, spSzRangeS, go_sem, reduceIte, reduceCtorEq, Nat.reduceEqDiff, Nat.reduceBEq, Nat.reduceBNe, Nat.reduceMul, Nat.reduceAdd, Nat.reduceLT, Nat.reduceLeDiff, Nat.reduceSub, Int.reduceLT, Int.reduceLE, Int.reduceEq, Int.reduceNeg, Int.reduceAdd, Int.reduceSub, Int.reduceToNat, Int.reduceBEq, Int.reduceBNe, Array.reduceGetElem?]
    repeat' ((first | refine after_iteT.2 ⟨fun hp => ?_, fun hp => ?_⟩ | refine after_iteF.2 ⟨fun hp => ?_, fun hp => ?_⟩ | refine after_ite.2 ⟨fun hp => ?_, fun hp => ?_⟩ | refine grd_not.2 ⟨fun hp => ?_, fun hp => ?_⟩ | refine grd_beq.2 ⟨fun hp => ?_, fun hp => ?_⟩ | refine grd_dec.2 ⟨fun hp => ?_, fun hp => ?_⟩ | refine grd_bool.2 ⟨fun hp => ?_, fun hp => ?_⟩ | refine condG_not.2 ⟨fun hp => ?_, fun hp => ?_⟩ | refine condG_beq.2 ⟨fun hp => ?_, fun hp => ?_⟩ | refine condG_dec.2 ⟨fun hp => ?_, fun hp => ?_⟩ | refine condG_bool.2 ⟨fun hp => ?_, fun hp => ?_⟩ | (refine (goes_draw0 rfl (by decide +kernel)).2 ?_; have hp := True.intro) | (refine (goes_drawM _ rfl (by decide +kernel)).2 ?_; have hp := True.intro)) <;> simp only [hp, w0, b0, w1, b1, c2, a1, d1, b2, w3, b3, Phi_laws_szEdit, T_laws_szEdit, spSzRangeS, go_sem, reduceIte, reduceCtorEq, Nat.reduceEqDiff, Nat.reduceBEq, Nat.reduceBNe, Nat.reduceMul, Nat.reduceAdd, Nat.reduceLT, Nat.reduceLeDiff, Nat.reduceSub, Int.reduceLT, Int.reduceLE, Int.reduceEq, Int.reduceNeg, Int.reduceAdd, Int.reduceSub, Int.reduceToNat, Int.reduceBEq, Int.reduceBNe, Array.reduceGetElem?])
    simp only [fin_mk, finV, resL, resV1, allUse, oneOrTup, List.take, List.drop, List.take_succ_cons, List.take_zero, List.drop_succ_cons, List.drop_zero, Phi_laws_szEdit, T_laws_szEdit, spSzRangeS, go_sem, reduceIte, reduceCtorEq, Nat.reduceEqDiff, Nat.reduceBEq, Nat.reduceBNe, Nat.reduceMul, Nat.reduceAdd, Nat.reduceLT, Nat.reduceLeDiff, Nat.reduceSub, Int.reduceLT, Int.reduceLE, Int.reduceEq, Int.reduceNeg, Int.reduceAdd, Int.reduceSub, Int.reduceToNat, Int.reduceBEq, Int.reduceBNe, Array.reduceGetElem?]
    rw [← hr]
    simp only [Edit.sz, thenSz, subSz, b0, b1, b2, b3, if_true, if_false, Int.reduceNeg, Int.reduceLT]
  have a3 : 0 ≤ ((szF x.Set ((n - (x.Box.length : Int)) - (x.To.length : Int))) - (x.Text.length : Int)) := by omega
  have d3 : ((szF x.Set ((n - (x.Box.length : Int)) - (x.To.length : Int))) - (x.Text.length : Int)) ≤ 4611686018427387904 := by omega
  simp only [w0, b0, w1, b1, c2, a1, d1, b2, w3, b3, Phi_laws_szEdit, T_laws_szEdit, spSzRangeS, go_sem, reduceIte, reduceCtorEq, Nat.reduceEqDiff, Nat.reduceBEq, Nat.reduceBNe, Nat.reduceMul, Nat.reduceAdd, Nat.reduceLT, Nat.reduceLeDiff, Nat.reduceSub, Int.reduceLT, Int.reduceLE, Int.reduceEq, Int.reduceNeg, Int.reduceAdd, Int.reduceSub, Int.reduceToNat, Int.reduceBEq, Int.reduceBNe, Array.reduceGetElem?]
  repeat' ((first | refine after_iteT.2 ⟨fun hp => ?_, fun hp => ?_⟩ | refine after_iteF.2 ⟨fun hp => ?_, fun hp => ?_⟩ | refine after_ite.2 ⟨fun hp => ?_, fun hp => ?_⟩ | refine grd_not.2 ⟨fun hp => ?_, fun hp => ?_⟩ | refine grd_beq.2 ⟨fun hp => ?_, fun hp => ?_⟩ | refine grd_dec.2 ⟨fun hp => ?_, fun hp => ?_⟩ | refine grd_bool.2 ⟨fun hp => ?_, fun hp => ?_⟩ | refine condG_not.2 ⟨fun hp => ?_, fun hp => ?_⟩ | refine condG_beq.2 ⟨fun hp => ?_, fun hp => ?_⟩ | refine condG_dec.2 ⟨fun hp => ?_, fun hp => ?_⟩ | refine condG_bool.2 ⟨fun hp => ?_, fun hp => ?_⟩ | (refine (goes_draw0 rfl (by decide +kernel)).2 ?_; have hp := True.intro) | (refine (goes_drawM _ rfl (by decide +kernel)).2 ?_; have hp := True.intro)) <;> simp only [hp, w0, b0, w1, b1, c2, a1, d1, b2, w3, b3, Phi_laws_szEdit, T_laws_szEdit, spSzRangeS, go_sem, reduceIte, reduceCtorEq, Nat.reduceEqDiff, Nat.reduceBEq, Nat.reduceBNe, Nat.reduceMul, Nat.reduceAdd, Nat.reduceLT, Nat.reduceLeDiff, Nat.reduceSub, Int.reduceLT, Int.reduceLE, Int.reduceEq, Int.reduceNeg, Int.reduceAdd, Int.reduceSub, Int.reduceToNat, Int.reduceBEq, Int.reduceBNe, Array.reduceGetElem?])
  simp only [fin_mk, finV, resL, resV1, allUse, oneOrTup, List.take, List.drop, List.take_succ_cons, List.take_zero, List.drop_succ_cons, List.drop_zero, Phi_laws_szEdit, T_laws_szEdit, spSzRangeS, go_sem, reduceIte, reduceCtorEq, Nat.reduceEqDiff, Nat.reduceBEq, Nat.reduceBNe, Nat.reduceMul, Nat.reduceAdd, Nat.reduceLT, Nat.reduceLeDiff, Nat.reduceSub, Int.reduceLT, Int.reduceLE, Int.reduceEq, Int.reduceNeg, Int.reduceAdd, Int.reduceSub, Int.reduceToNat, Int.reduceBEq, Int.reduceBNe, Array.reduceGetElem?]
  rw [← hr]
  simp only [Edit.sz, thenSz, subSz, b0, b1, b2, b3, if_true, if_false]
open Classical in
noncomputable def spToEdit : VM.Spec := { modes := [.rd], run := fun | [x'] => (Edit.dec x').bind fun x => if x.le 4194304 then some (Edit.enc x, []) else none | _ => none, need := [] }
theorem spToEdit_in {ins : List V} {r : V} {outs : List V} (h : spToEdit.run ins = some (r, outs)) : ∃ (x : Edit), ins = [Edit.enc x] ∧ (x.le 4194304) ∧ Edit.enc x = r ∧ outs = [] := by
  unfold spToEdit at h
  simp only at h
  split at h
  · rename_i x'
    simp only [Option.bind_eq_some_iff] at h
    obtain ⟨x, h_x, h⟩ := h
    split at h
    case isFalse => cases h
    rename_i hc
    simp only [Option.some.injEq, Prod.mk.injEq] at h
    obtain ⟨h1, h2⟩ := h
    have h_x := Edit.dec_some h_x
    subst h_x
    exact ⟨x, rfl, hc, h1, h2.symm⟩
  · cases h
def T_laws_toEdit : Hints := ⟨fun _ => none, fun _ => none, fun i => if i = 0 then some [1, 2] else if i = 1 then some [1, 2, 3] else if i = 2 then some [1, 2, 3] else if i = 3 then some [1, 2, 3] else if i = 4 then some [1, 2, 3] else if i = 5 then some [1, 2, 3] else if i = 6 then some [1, 2, 3] else if i = 7 then some [1, 2, 3] else if i = 8 then some [1, 2, 3] else if i = 9 then some [2, 3] else if i = 10 then some [2] else none⟩
noncomputable def Phi_laws_toEdit : Tab := fun f => if f = 86 then some spToRangeS else none
theorem phi_laws_toEdit : ∀ f sp, Phi_laws_toEdit f = some sp → FnOk Tryd.prog f sp ∧ ∀ n ∈ sp.need, n ∈ ([] : List String) := by
  intro f sp h
  unfold Phi_laws_toEdit at h
  split at h
  · rename_i e; cases h; rw [e]; exact ⟨ok_laws_toRangeS, (fun n (h : n ∈ ([] : List String)) => (nomatch h))⟩
  cases h
theorem ok_laws_toEdit : FnOk Tryd.prog 33 spToEdit := by
  refine fn_ok (Φ := Phi_laws_toEdit) (T := T_laws_toEdit) phi_laws_toEdit mixed Tryd.func33 rfl rfl rfl (by decide) ?_
  intro ins r outs hr hl
  clear hl
  have hs := spToEdit_in hr
  clear hr
  obtain ⟨x, rfl, hc, hr, rfl⟩ := hs
  simp only [spToEdit, Tryd.f33, Go.VM.initS]
  have c2 : x.Set.length ≤ 4194304 := hc.2.2.1.1
  simp only [c2, Phi_laws_toEdit, T_laws_toEdit, spToRangeS, go_sem, reduceIte, reduceCtorEq, Nat.reduceEqDiff, Nat.reduceBEq, Nat.reduceBNe, Nat.reduceMul, Nat.reduceAdd, Nat.reduceLT, Nat.reduceLeDiff, Nat.reduceSub, Int.reduceLT, Int.reduceLE, Int.reduceEq, Int.reduceNeg, Int.reduceAdd, Int.reduceSub, Int.reduceToNat, Int.reduceBEq, Int.reduceBNe, Array.reduceGetElem?]
  repeat' ((first | refine after_iteT.2 ⟨fun hp => ?_, fun hp => ?_⟩ | refine after_iteF.2 ⟨fun hp => ?_, fun hp => ?_⟩ | refine after_ite.2 ⟨fun hp => ?_, fun hp => ?_⟩ | refine grd_not.2 ⟨fun hp => ?_, fun hp => ?_⟩ | refine grd_beq.2 ⟨fun hp => ?_, fun hp => ?_⟩ | refine grd_dec.2 ⟨fun hp => ?_, fun hp => ?_⟩ | refine grd_bool.2 ⟨fun hp => ?_, fun hp => ?_⟩ | refine condG_not.2 ⟨fun hp => ?_, fun hp => ?_⟩ | refine condG_beq.2 ⟨fun hp => ?_, fun hp => ?_⟩ | refine condG_dec.2 ⟨fun hp => ?_, fun hp => ?_⟩ | refine condG_bool.2 ⟨fun hp => ?_, fun hp => ?_⟩ | (refine (goes_draw0 rfl (by decide +kernel)).2 ?_; have hp := True.intro) | (refine (goes_drawM _ rfl (by decide +kernel)).2 ?_; have hp := True.intro)) <;> simp only [hp, c2, Phi_laws_toEdit, T_laws_toEdit, spToRangeS, go_sem, reduceIte, reduceCtorEq, Nat.reduceEqDiff, Nat.reduceBEq, Nat.reduceBNe, Nat.reduceMul, Nat.reduceAdd, Nat.reduceLT, Nat.reduceLeDiff, Nat.reduceSub, Int.reduceLT, Int.reduceLE, Int.reduceEq, Int.reduceNeg, Int.reduceAdd, Int.reduceSub, Int.reduceToNat, Int.reduceBEq, Int.reduceBNe, Array.reduceGetElem?])
  simp only [fin_mk, finV, resL, resV1, allUse, oneOrTup, List.take, List.drop, List.take_succ_cons, List.take_zero, List.drop_succ_cons, List.drop_zero, Phi_laws_toEdit, T_laws_toEdit, spToRangeS, go_sem, reduceIte, reduceCtorEq, Nat.reduceEqDiff, Nat.reduceBEq, Nat.reduceBNe, Nat.reduceMul, Nat.reduceAdd, Nat.reduceLT, Nat.reduceLeDiff, Nat.reduceSub, Int.reduceLT, Int.reduceLE, Int.reduceEq, Int.reduceNeg, Int.reduceAdd, Int.reduceSub, Int.reduceToNat, Int.reduceBEq, Int.reduceBNe, Array.reduceGetElem?]
  rw [← hr]
  rfl
open Classical in
noncomputable def spEqEdit : VM.Spec := { modes := [.rd, .rd], run := fun | [x', y'] => (Edit.dec x').bind fun x => (Edit.dec y').bind fun y => if x.le 4194304 ∧ y.le 4194304 then some (.bool (decide (x = y)), []) else none | _ => none, need := [] }
theorem spEqEdit_in {ins : List V} {r : V} {outs : List V} (h : spEqEdit.run ins = some (r, outs)) : ∃ (x : Edit) (y : Edit), ins = [Edit.enc x, Edit.enc y] ∧ (x.le 4194304 ∧ y.le 4194304) ∧ .bool (decide (x = y)) = r ∧ outs = [] := by
  unfold spEqEdit at h
  simp only at h
  split at h
  · rename_i x' y'
    simp only [Option.bind_eq_some_iff] at h
    obtain ⟨x, h_x, y, h_y, h⟩ := h
    split at h
    case isFalse => cases h
    rename_i hc
    simp only [Option.some.injEq, Prod.mk.injEq] at h
    obtain ⟨h1, h2⟩ := h
    have h_x := Edit.dec_some h_x
    subst h_x
    have h_y := Edit.dec_some h_y
    subst h_y
    exact ⟨x, y, rfl, hc, h1, h2.symm⟩
  · cases h
def T_laws_eqEdit : Hints := ⟨fun _ => none, fun _ => none, fun i => if i = 0 then some [2, 3] else if i = 1 then some [2, 3, 9] else if i = 2 then some [4] else if i = 3 then some [2, 3, 14] else if i = 4 then some [4] else if i = 5 then some [2, 3, 19] else if i = 6 then some [4] else if i = 7 then some [2, 3, 25] else if i = 8 then some [4] else if i = 9 then some [2, 3, 30] else if i = 10 then some [4] else if i = 11 then some [2, 3, 35] else if i = 12 then some [4] else if i = 13 then some [2, 3, 40] else if i = 14 then some [4] else if i = 15 then some [45] else if i = 16 then some [4] else if i = 17 then some [4] else none⟩
noncomputable def Phi_laws_eqEdit : Tab := fun f => if f = 91 then some spEqRangeS else none
theorem phi_laws_eqEdit : ∀ f sp, Phi_laws_eqEdit f = some sp → FnOk Tryd.prog f sp ∧ ∀ n ∈ sp.need, n ∈ ([] : List String) := by
  intro f sp h
  unfold Phi_laws_eqEdit at h
  split at h
  · rename_i e; cases h; rw [e]; exact ⟨ok_laws_eqRangeS, (fun n (h : n ∈ ([] : List String)) => (nomatch h))⟩
  cases h
theorem ok_laws_eqEdit : FnOk Tryd.prog 35 spEqEdit := by
  refine fn_ok (Φ := Phi_laws_eqEdit) (T := T_laws_eqEdit) phi_laws_eqEdit mixed Tryd.func35 rfl rfl rfl (by decide) ?_
  intro ins r outs hr hl
  clear hl
  have hs := spEqEdit_in hr
  clear hr
  obtain ⟨x, y, rfl, hc, hr, rfl⟩ := hs
  simp only [spEqEdit, Tryd.f35, Go.VM.initS]
  have c2 : x.Set.length ≤ 4194304 := hc.1.2.2.1.1
  have d2 : y.Set.length ≤ 4194304 := hc.2.2.2.1.1
  simp only [c2, d2, and_self, Phi_laws_eqEdit, T_laws_eqEdit, spEqRangeS, go_sem, reduceIte, reduceCtorEq, Nat.reduceEqDiff, Nat.reduceBEq, Nat.reduceBNe, Nat.reduceMul, Nat.reduceAdd, Nat.reduceLT, Nat.reduceLeDiff, Nat.reduceSub, Int.reduceLT, Int.reduceLE, Int.reduceEq, Int.reduceNeg, Int.reduceAdd, Int.reduceSub, Int.reduceToNat, Int.reduceBEq, Int.reduceBNe, Array.reduceGetElem?]
  repeat' ((first | refine after_iteT.2 ⟨fun hp => ?_, fun hp => ?_⟩ | refine after_iteF.2 ⟨fun hp => ?_, fun hp => ?_⟩ | refine after_ite.2 ⟨fun hp => ?_, fun hp => ?_⟩ | refine grd_not.2 ⟨fun hp => ?_, fun hp => ?_⟩ | refine grd_beq.2 ⟨fun hp => ?_, fun hp => ?_⟩ | refine grd_dec.2 ⟨fun hp => ?_, fun hp => ?_⟩ | refine grd_bool.2 ⟨fun hp => ?_, fun hp => ?_⟩ | refine condG_not.2 ⟨fun hp => ?_, fun hp => ?_⟩ | refine condG_beq.2 ⟨fun hp => ?_, fun hp => ?_⟩ | refine condG_dec.2 ⟨fun hp => ?_, fun hp => ?_⟩ | refine condG_bool.2 ⟨fun hp => ?_, fun hp => ?_⟩ | (refine (goes_draw0 rfl (by decide +kernel)).2 ?_; have hp := True.intro) | (refine (goes_drawM _ rfl (by decide +kernel)).2 ?_; have hp := True.intro)) <;> simp only [hp, c2, d2, and_self, Phi_laws_eqEdit, T_laws_eqEdit, spEqRangeS, go_sem, reduceIte, reduceCtorEq, Nat.reduceEqDiff, Nat.reduceBEq, Nat.reduceBNe, Nat.reduceMul, Nat.reduceAdd, Nat.reduceLT, Nat.reduceLeDiff, Nat.reduceSub, Int.reduceLT, Int.reduceLE, Int.reduceEq, Int.reduceNeg, Int.reduceAdd, Int.reduceSub, Int.reduceToNat, Int.reduceBEq, Int.reduceBNe, Array.reduceGetElem?])
  all_goals (simp only [fin_mk, finV, resL, resV1, allUse, oneOrTup, List.take, List.drop, List.take_succ_cons, List.take_zero, List.drop_succ_cons, List.drop_zero, Phi_laws_eqEdit, T_laws_eqEdit, spEqRangeS, go_sem, reduceIte, reduceCtorEq, Nat.reduceEqDiff, Nat.reduceBEq, Nat.reduceBNe, Nat.reduceMul, Nat.reduceAdd, Nat.reduceLT, Nat.reduceLeDiff, Nat.reduceSub, Int.reduceLT, Int.reduceLE, Int.reduceEq, Int.reduceNeg, Int.reduceAdd, Int.reduceSub, Int.reduceToNat, Int.reduceBEq, Int.reduceBNe, Array.reduceGetElem?]; rw [← hr])
  all_goals (cases x; cases y; simp_all)
open Classical in
noncomputable def spMarkEdit : VM.Spec := { modes := [.io, .rd], run := fun | [x', .int .i64 k] => (Edit.dec x').bind fun x => if (x.Set.length ≤ 4194304) ∧ 0 ≤ k ∧ k ≤ 288230376151711744 then some (.int .i64 ((msEdit x k).2), [Edit.enc ((msEdit x k).1)]) else none | _ => none, need := [] }
theorem spMarkEdit_in {ins : List V} {r : V} {outs : List V} (h : spMarkEdit.run ins = some (r, outs)) : ∃ (x : Edit) (k : Int), ins = [Edit.enc x, .int .i64 k] ∧ ((x.Set.length ≤ 4194304) ∧ 0 ≤ k ∧ k ≤ 288230376151711744) ∧ .int .i64 ((msEdit x k).2) = r ∧ outs = [Edit.enc ((msEdit x k).1)] := by
  unfold spMarkEdit at h
  simp only at h
  split at h
  · rename_i x' k
    simp only [Option.bind_eq_some_iff] at h
    obtain ⟨x, h_x, h⟩ := h
    split at h
    case isFalse => cases h
    rename_i hc
    simp only [Option.some.injEq, Prod.mk.injEq] at h
    obtain ⟨h1, h2⟩ := h
    have h_x := Edit.dec_some h_x
    subst h_x
    exact ⟨x, k, rfl, hc, h1, h2.symm⟩
  · cases h
def T_laws_markEdit : Hints := ⟨fun _ => none, fun _ => none, fun i => if i = 0 then some [1, 2] else if i = 1 then some [1] else if i = 2 then some [4] else none⟩
noncomputable def Phi_laws_markEdit : Tab := fun f => if f = 101 then some spMarkRangeS else none
theorem phi_laws_markEdit : ∀ f sp, Phi_laws_markEdit f = some sp → FnOk Tryd.prog f sp ∧ ∀ n ∈ sp.need, n ∈ ([] : List String) := by
  intro f sp h
  unfold Phi_laws_markEdit at h
  split at h
  · rename_i e; cases h; rw [e]; exact ⟨ok_laws_markRangeS, (fun n (h : n ∈ ([] : List String)) => (nomatch h))⟩
  cases h
theorem ok_laws_markEdit : FnOk Tryd.prog 44 spMarkEdit := by
  refine fn_ok (Φ := Phi_laws_markEdit) (T := T_laws_markEdit) phi_laws_markEdit mixed Tryd.func44 rfl rfl rfl (by decide) ?_
  intro ins r outs hr hl
  clear hl
  have hs := spMarkEdit_in hr
  clear hr
  obtain ⟨x, k, rfl, hc, hr, rfl⟩ := hs
  simp only [spMarkEdit, Tryd.f44, Go.VM.initS]
  obtain ⟨hc, h0, h1⟩ := hc
  have c0 := hc
  have i0 : k ≤ 1152921504606846976 := by omega
  simp only [c0, h0, i0, Phi_laws_markEdit, T_laws_markEdit, spMarkRangeS, go_sem, reduceIte, reduceCtorEq, Nat.reduceEqDiff, Nat.reduceBEq, Nat.reduceBNe, Nat.reduceMul, Nat.reduceAdd, Nat.reduceLT, Nat.reduceLeDiff, Nat.reduceSub, Int.reduceLT, Int.reduceLE, Int.reduceEq, Int.reduceNeg, Int.reduceAdd, Int.reduceSub, Int.reduceToNat, Int.reduceBEq, Int.reduceBNe, Array.reduceGetElem?]
  repeat' ((first | refine after_iteT.2 ⟨fun hp => ?_, fun hp => ?_⟩ | refine after_iteF.2 ⟨fun hp => ?_, fun hp => ?_⟩ | refine after_ite.2 ⟨fun hp => ?_, fun hp => ?_⟩ | refine grd_not.2 ⟨fun hp => ?_, fun hp => ?_⟩ | refine grd_beq.2 ⟨fun hp => ?_, fun hp => ?_⟩ | refine grd_dec.2 ⟨fun hp => ?_, fun hp => ?_⟩ | refine grd_bool.2 ⟨fun hp => ?_, fun hp => ?_⟩ | refine condG_not.2 ⟨fun hp => ?_, fun hp => ?_⟩ | refine condG_beq.2 ⟨fun hp => ?_, fun hp => ?_⟩ | refine condG_dec.2 ⟨fun hp => ?_, fun hp => ?_⟩ | refine condG_bool.2 ⟨fun hp => ?_, fun hp => ?_⟩ | (refine (goes_draw0 rfl (by decide +kernel)).2 ?_; have hp := True.intro) | (refine (goes_drawM _ rfl (by decide +kernel)).2 ?_; have hp := True.intro)) <;> simp only [hp, c0, h0, i0, Phi_laws_markEdit, T_laws_markEdit, spMarkRangeS, go_sem, reduceIte, reduceCtorEq, Nat.reduceEqDiff, Nat.reduceBEq, Nat.reduceBNe, Nat.reduceMul, Nat.reduceAdd, Nat.reduceLT, Nat.reduceLeDiff, Nat.reduceSub, Int.reduceLT, Int.reduceLE, Int.reduceEq, Int.reduceNeg, Int.reduceAdd, Int.reduceSub, Int.reduceToNat, Int.reduceBEq, Int.reduceBNe, Array.reduceGetElem?])
  simp only [fin_mk, finV, resL, resV1, allUse, oneOrTup, List.take, List.drop, List.take_succ_cons, List.take_zero, List.drop_succ_cons, List.drop_zero, Phi_laws_markEdit, T_laws_markEdit, spMarkRangeS, go_sem, reduceIte, reduceCtorEq, Nat.reduceEqDiff, Nat.reduceBEq, Nat.reduceBNe, Nat.reduceMul, Nat.reduceAdd, Nat.reduceLT, Nat.reduceLeDiff, Nat.reduceSub, Int.reduceLT, Int.reduceLE, Int.reduceEq, Int.reduceNeg, Int.reduceAdd, Int.reduceSub, Int.reduceToNat, Int.reduceBEq, Int.reduceBNe, Array.reduceGetElem?]
  rw [← hr]
  simp only [msEdit]
open Classical in
noncomputable def spSzKey : VM.Spec := { modes := [.rd, .rd], run := fun | [x', .int .i64 n] => (Key.dec x').bind fun x => if x.le 4611686018427387904 ∧ 0 ≤ n ∧ n ≤ 4611686018427387904 then some (.int .i64 (Key.sz x n), []) else none | _ => none, need := [] }
theorem spSzKey_in {ins : List V} {r : V} {outs : List V} (h : spSzKey.run ins = some (r, outs)) : ∃ (x : Key) (n : Int), ins = [Key.enc x, .int .i64 n] ∧ (x.le 4611686018427387904 ∧ 0 ≤ n ∧ n ≤ 4611686018427387904) ∧ .int .i64 (Key.sz x n) = r ∧ outs = [] := by
  unfold spSzKey at h
  simp only at h
  split at h
  · rename_i x' n
    simp only [Option.bind_eq_some_iff] at h
    obtain ⟨x, h_x, h⟩ := h
    split at h
    case isFalse => cases h
    rename_i hc
    simp only [Option.some.injEq, Prod.mk.injEq] at h
    obtain ⟨h1, h2⟩ := h
    have h_x := Key.dec_some h_x
    subst h_x
    exact ⟨x, n, rfl, hc, h1, h2.symm⟩
  · cases h
def T_laws_szKey : Hints := ⟨fun _ => none, fun _ => none, fun i => if i = 0 then some [1, 2] else if i = 1 then some [1] else if i = 2 then some [1, 11] else if i = 3 then some [4] else if i = 4 then some [4] else none⟩
noncomputable def Phi_laws_szKey : Tab := fun f => none
theorem phi_laws_szKey : ∀ f sp, Phi_laws_szKey f = some sp → FnOk Tryd.prog f sp ∧ ∀ n ∈ sp.need, n ∈ ([] : List String) := by
  intro f sp h
  unfold Phi_laws_szKey at h
  cases h
theorem ok_laws_szKey : FnOk Tryd.prog 48 spSzKey := by
  refine fn_ok (Φ := Phi_laws_szKey) (T := T_laws_szKey) phi_laws_szKey mixed Tryd.func48 rfl rfl rfl (by decide) ?_
  intro ins r outs hr hl
  clear hl
  have hs := spSzKey_in hr
  clear hr
  obtain ⟨x, n, rfl, hc, hr, rfl⟩ := hs
  simp only [spSzKey, Tryd.f48, Go.VM.initS]
  obtain ⟨hc, h0, h1⟩ := hc
  have c0 := hc
  have c0 : x.Text.length ≤ 4611686018427387904 := c0
  have w0 : IntKind.i64.wrap (n - (x.Text.length : Int)) = (n - (x.Text.length : Int)) := wrap64 (by omega) (by omega)
  by_cases b0 : (n - (x.Text.length : Int)) < 0
  · simp only [w0, b0, Phi_laws_szKey, T_laws_szKey, go_sem, reduceIte, reduceCtorEq, Nat.reduceEqDiff, Nat.reduceBEq, Nat.reduceBNe, Nat.reduceMul, Nat.reduceAdd, Nat.reduceLT, Nat.reduceLeDiff, Nat.reduceSub, Int.reduceLT, Int.reduceLE, Int.reduceEq, Int.reduceNeg, Int.reduceAdd, Int.reduceSub, Int.reduceToNat, Int.reduceBEq, Int.reduceBNe, Array.reduceGetElem?]
    repeat' ((first | refine after_iteT.2 ⟨fun hp => ?_, fun hp => ?_⟩ | refine after_iteF.2 ⟨fun hp => ?_, fun hp => ?_⟩ | refine after_ite.2 ⟨fun hp => ?_, fun hp => ?_⟩ | refine grd_not.2 ⟨fun hp => ?_, fun hp => ?_⟩ | refine grd_beq.2 ⟨fun hp => ?_, fun hp => ?_⟩ | refine grd_dec.2 ⟨fun hp => ?_, fun hp => ?_⟩ | refine grd_bool.2 ⟨fun hp => ?_, fun hp => ?_⟩ | refine condG_not.2 ⟨fun hp => ?_, fun hp => ?_⟩ | refine condG_beq.2 ⟨fun hp => ?_, fun hp => ?_⟩ | refine condG_dec.2 ⟨fun hp => ?_, fun hp => ?_⟩ | refine condG_bool.2 ⟨fun hp => ?_, fun hp => ?_⟩ | (refine (goes_draw0 rfl (by decide +kernel)).2 ?_; have hp := True.intro) | (refine (goes_drawM _ rfl (by decide +kernel)).2 ?_; have hp := True.intro)) <;> simp only [hp, w0, b0, Phi_laws_szKey, T_laws_szKey, go_sem, reduceIte, reduceCtorEq, Nat.reduceEqDiff, Nat.reduceBEq, Nat.reduceBNe, Nat.reduceMul, Nat.reduceAdd, Nat.reduceLT, Nat.reduceLeDiff, Nat.reduceSub, Int.reduceLT, Int.reduceLE, Int.reduceEq, Int.reduceNeg, Int.reduceAdd, Int.reduceSub, Int.reduceToNat, Int.reduceBEq, Int.reduceBNe, Array.reduceGetElem?])
    simp only [fin_mk, finV, resL, resV1, allUse, oneOrTup, List.take, List.drop, List.take_succ_cons, List.take_zero, List.drop_succ_cons, List.drop_zero, Phi_laws_szKey, T_laws_szKey, go_sem, reduceIte, reduceCtorEq, Nat.reduceEqDiff, Nat.reduceBEq, Nat.reduceBNe, Nat.reduceMul, Nat.reduceAdd, Nat.reduceLT, Nat.reduceLeDiff, Nat.reduceSub, Int.reduceLT, Int.reduceLE, Int.reduceEq, Int.reduceNeg, Int.reduceAdd, Int.reduceSub, Int.reduceToNat, Int.reduceBEq, Int.reduceBNe, Array.reduceGetElem?]
    rw [← hr]
    simp only [Key.sz, thenSz, subSz, b0, if_true, if_false, Int.reduceNeg, Int.reduceLT]
  have a0 : 0 ≤ (n - (x.Text.length : Int)) := by omega
  have d0 : (n - (x.Text.length : Int)) ≤ 4611686018427387904 := by omega
  simp only [w0, b0, Phi_laws_szKey, T_laws_szKey, go_sem, reduceIte, reduceCtorEq, Nat.reduceEqDiff, Nat.reduceBEq, Nat.reduceBNe, Nat.reduceMul, Nat.reduceAdd, Nat.reduceLT, Nat.reduceLeDiff, Nat.reduceSub, Int.reduceLT, Int.reduceLE, Int.reduceEq, Int.reduceNeg, Int.reduceAdd, Int.reduceSub, Int.reduceToNat, Int.reduceBEq, Int.reduceBNe, Array.reduceGetElem?]
  repeat' ((first | refine after_iteT.2 ⟨fun hp => ?_, fun hp => ?_⟩ | refine after_iteF.2 ⟨fun hp => ?_, fun hp => ?_⟩ | refine after_ite.2 ⟨fun hp => ?_, fun hp => ?_⟩ | refine grd_not.2 ⟨fun hp => ?_, fun hp => ?_⟩ | refine grd_beq.2 ⟨fun hp => ?_, fun hp => ?_⟩ | refine grd_dec.2 ⟨fun hp => ?_, fun hp => ?_⟩ | refine grd_bool.2 ⟨fun hp => ?_, fun hp => ?_⟩ | refine condG_not.2 ⟨fun hp => ?_, fun hp => ?_⟩ | refine condG_beq.2 ⟨fun hp => ?_, fun hp => ?_⟩ | refine condG_dec.2 ⟨fun hp => ?_, fun hp => ?_⟩ | refine condG_bool.2 ⟨fun hp => ?_, fun hp => ?_⟩ | (refine (goes_draw0 rfl (by decide +kernel)).2 ?_; have hp := True.intro) | (refine (goes_drawM _ rfl (by decide +kernel)).2 ?_; have hp := True.intro)) <;> simp only [hp, w0, b0, Phi_laws_szKey, T_laws_szKey, go_sem, reduceIte, reduceCtorEq, Nat.reduceEqDiff, Nat.reduceBEq, Nat.reduceBNe, Nat.reduceMul, Nat.reduceAdd, Nat.reduceLT, Nat.reduceLeDiff, Nat.reduceSub, Int.reduceLT, Int.reduceLE, Int.reduceEq, Int.reduceNeg, Int.reduceAdd, Int.reduceSub, Int.reduceToNat, Int.reduceBEq, Int.reduceBNe, Array.reduceGetElem?])
  simp only [fin_mk, finV, resL, resV1, allUse, oneOrTup, List.take, List.drop, List.take_succ_cons, List.take_zero, List.drop_succ_cons, List.drop_zero, Phi_laws_szKey, T_laws_szKey, go_sem, reduceIte, reduceCtorEq, Nat.reduceEqDiff, Nat.reduceBEq, Nat.reduceBNe, Nat.reduceMul, Nat.reduceAdd, Nat.reduceLT, Nat.reduceLeDiff, Nat.reduceSub, Int.reduceLT, Int.reduceLE, Int.reduceEq, Int.reduceNeg, Int.reduceAdd, Int.reduceSub, Int.reduceToNat, Int.reduceBEq, Int.reduceBNe, Array.reduceGetElem?]
  rw [← hr]
  simp only [Key.sz, thenSz, subSz, b0, if_true, if_false]
open Classical in
noncomputable def spToKey : VM.Spec := { modes := [.rd], run := fun | [x'] => (Key.dec x').bind fun x => some (Key.enc x, []) | _ => none, need := [] }
theorem spToKey_in {ins : List V} {r : V} {outs : List V} (h : spToKey.run ins = some (r, outs)) : ∃ (x : Key), ins = [Key.enc x] ∧ Key.enc x = r ∧ outs = [] := by
  unfold spToKey at h
  simp only at h
  split at h
  · rename_i x'
    simp only [Option.bind_eq_some_iff] at h
    obtain ⟨x, h_x, h⟩ := h
    simp only [Option.some.injEq, Prod.mk.injEq] at h
    obtain ⟨h1, h2⟩ := h
    have h_x := Key.dec_some h_x
    subst h_x
    exact ⟨x, rfl, h1, h2.symm⟩
  · cases h
def T_laws_toKey : Hints := ⟨fun _ => none, fun _ => none, fun i => if i = 0 then some [1, 2] else if i = 1 then some [1, 2, 3] else if i = 2 then some [1, 2, 3] else if i = 3 then some [1, 2, 3] else if i = 4 then some [2, 3] else if i = 5 then some [2] else none⟩
noncomputable def Phi_laws_toKey : Tab := fun f => none
theorem phi_laws_toKey : ∀ f sp, Phi_laws_toKey f = some sp → FnOk Tryd.prog f sp ∧ ∀ n ∈ sp.need, n ∈ ([] : List String) := by
  intro f sp h
  unfold Phi_laws_toKey at h
  cases h
theorem ok_laws_toKey : FnOk Tryd.prog 51 spToKey := by
  refine fn_ok (Φ := Phi_laws_toKey) (T := T_laws_toKey) phi_laws_toKey mixed Tryd.func51 rfl rfl rfl (by decide) ?_
  intro ins r outs hr hl
  clear hl
  have hs := spToKey_in hr
  clear hr
  obtain ⟨x, rfl, hr, rfl⟩ := hs
  simp only [spToKey, Tryd.f51, Go.VM.initS]
  simp only [Phi_laws_toKey, T_laws_toKey, go_sem, reduceIte, reduceCtorEq, Nat.reduceEqDiff, Nat.reduceBEq, Nat.reduceBNe, Nat.reduceMul, Nat.reduceAdd, Nat.reduceLT, Nat.reduceLeDiff, Nat.reduceSub, Int.reduceLT, Int.reduceLE, Int.reduceEq, Int.reduceNeg, Int.reduceAdd, Int.reduceSub, Int.reduceToNat, Int.reduceBEq, Int.reduceBNe, Array.reduceGetElem?]
  repeat' ((first | refine after_iteT.2 ⟨fun hp => ?_, fun hp => ?_⟩ | refine after_iteF.2 ⟨fun hp => ?_, fun hp => ?_⟩ | refine after_ite.2 ⟨fun hp => ?_, fun hp => ?_⟩ | refine grd_not.2 ⟨fun hp => ?_, fun hp => ?_⟩ | refine grd_beq.2 ⟨fun hp => ?_, fun hp => ?_⟩ | refine grd_dec.2 ⟨fun hp => ?_, fun hp => ?_⟩ | refine grd_bool.2 ⟨fun hp => ?_, fun hp => ?_⟩ | refine condG_not.2 ⟨fun hp => ?_, fun hp => ?_⟩ | refine condG_beq.2 ⟨fun hp => ?_, fun hp => ?_⟩ | refine condG_dec.2 ⟨fun hp => ?_, fun hp => ?_⟩ | refine condG_bool.2 ⟨fun hp => ?_, fun hp => ?_⟩ | (refine (goes_draw0 rfl (by decide +kernel)).2 ?_; have hp := True.intro) | (refine (goes_drawM _ rfl (by decide +kernel)).2 ?_; have hp := True.intro)) <;> simp only [hp, Phi_laws_toKey, T_laws_toKey, go_sem, reduceIte, reduceCtorEq, Nat.reduceEqDiff, Nat.reduceBEq, Nat.reduceBNe, Nat.reduceMul, Nat.reduceAdd, Nat.reduceLT, Nat.reduceLeDiff, Nat.reduceSub, Int.reduceLT, Int.reduceLE, Int.reduceEq, Int.reduceNeg, Int.reduceAdd, Int.reduceSub, Int.reduceToNat, Int.reduceBEq, Int.reduceBNe, Array.reduceGetElem?])
  simp only [fin_mk, finV, resL, resV1, allUse, oneOrTup, List.take, List.drop, List.take_succ_cons, List.take_zero, List.drop_succ_cons, List.drop_zero, Phi_laws_toKey, T_laws_toKey, go_sem, reduceIte, reduceCtorEq, Nat.reduceEqDiff, Nat.reduceBEq, Nat.reduceBNe, Nat.reduceMul, Nat.reduceAdd, Nat.reduceLT, Nat.reduceLeDiff, Nat.reduceSub, Int.reduceLT, Int.reduceLE, Int.reduceEq, Int.reduceNeg, Int.reduceAdd, Int.reduceSub, Int.reduceToNat, Int.reduceBEq, Int.reduceBNe, Array.reduceGetElem?]
  rw [← hr]
  rfl
open Classical in
noncomputable def spEqKey : VM.Spec := { modes := [.rd, .rd], run := fun | [x', y'] => (Key.dec x').bind fun x => (Key.dec y').bind fun y => some (.bool (decide (x = y)), []) | _ => none, need := [] }
theorem spEqKey_in {ins : List V} {r : V} {outs : List V} (h : spEqKey.run ins = some (r, outs)) : ∃ (x : Key) (y : Key), ins = [Key.enc x, Key.enc y] ∧ .bool (decide (x = y)) = r ∧ outs = [] := by
  unfold spEqKey at h
  simp only at h
  split at h
  · rename_i x' y'
    simp only [Option.bind_eq_some_iff] at h
    obtain ⟨x, h_x, y, h_y, h⟩ := h
    simp only [Option.some.injEq, Prod.mk.injEq] at h
    obtain ⟨h1, h2⟩ := h
    have h_x := Key.dec_some h_x
    subst h_x
    have h_y := Key.dec_some h_y
    subst h_y
    exact ⟨x, y, rfl, h1, h2.symm⟩
  · cases h
def T_laws_eqKey : Hints := ⟨fun _ => none, fun _ => none, fun i => if i = 0 then some [2, 3] else if i = 1 then some [2, 3, 9] else if i = 2 then some [4] else if i = 3 then some [2, 3, 14] else if i = 4 then some [4] else if i = 5 then some [19] else if i = 6 then some [4] else if i = 7 then some [4] else none⟩
noncomputable def Phi_laws_eqKey : Tab := fun f => none
theorem phi_laws_eqKey : ∀ f sp, Phi_laws_eqKey f = some sp → FnOk Tryd.prog f sp ∧ ∀ n ∈ sp.need, n ∈ ([] : List String) := by
  intro f sp h
  unfold Phi_laws_eqKey at h
  cases h
theorem ok_laws_eqKey : FnOk Tryd.prog 117 spEqKey := by
  refine fn_ok (Φ := Phi_laws_eqKey) (T := T_laws_eqKey) phi_laws_eqKey mixed Tryd.func117 rfl rfl rfl (by decide) ?_
  intro ins r outs hr hl
  clear hl
  have hs := spEqKey_in hr
  clear hr
  obtain ⟨x, y, rfl, hr, rfl⟩ := hs
  simp only [spEqKey, Tryd.f117, Go.VM.initS]
  simp only [and_self, Phi_laws_eqKey, T_laws_eqKey, go_sem, reduceIte, reduceCtorEq, Nat.reduceEqDiff, Nat.reduceBEq, Nat.reduceBNe, Nat.reduceMul, Nat.reduceAdd, Nat.reduceLT, Nat.reduceLeDiff, Nat.reduceSub, Int.reduceLT, Int.reduceLE, Int.reduceEq, Int.reduceNeg, Int.reduceAdd, Int.reduceSub, Int.reduceToNat, Int.reduceBEq, Int.reduceBNe, Array.reduceGetElem?]
  repeat' ((first | refine after_iteT.2 ⟨fun hp => ?_, fun hp => ?_⟩ | refine after_iteF.2 ⟨fun hp => ?_, fun hp => ?_⟩ | refine after_ite.2 ⟨fun hp => ?_, fun hp => ?_⟩ | refine grd_not.2 ⟨fun hp => ?_, fun hp => ?_⟩ | refine grd_beq.2 ⟨fun hp => ?_, fun hp => ?_⟩ | refine grd_dec.2 ⟨fun hp => ?_, fun hp => ?_⟩ | refine grd_bool.2 ⟨fun hp => ?_, fun hp => ?_⟩ | refine condG_not.2 ⟨fun hp => ?_, fun hp => ?_⟩ | refine condG_beq.2 ⟨fun hp => ?_, fun hp => ?_⟩ | refine condG_dec.2 ⟨fun hp => ?_, fun hp => ?_⟩ | refine condG_bool.2 ⟨fun hp => ?_, fun hp => ?_⟩ | (refine (goes_draw0 rfl (by decide +kernel)).2 ?_; have hp := True.intro) | (refine (goes_drawM _ rfl (by decide +kernel)).2 ?_; have hp := True.intro)) <;> simp only [hp, and_self, Phi_laws_eqKey, T_laws_eqKey, go_sem, reduceIte, reduceCtorEq, Nat.reduceEqDiff, Nat.reduceBEq, Nat.reduceBNe, Nat.reduceMul, Nat.reduceAdd, Nat.reduceLT, Nat.reduceLeDiff, Nat.reduceSub, Int.reduceLT, Int.reduceLE, Int.reduceEq, Int.reduceNeg, Int.reduceAdd, Int.reduceSub, Int.reduceToNat, Int.reduceBEq, Int.reduceBNe, Array.reduceGetElem?])
  all_goals (simp only [fin_mk, finV, resL, resV1, allUse, oneOrTup, List.take, List.drop, List.take_succ_cons, List.take_zero, List.drop_succ_cons, List.drop_zero, Phi_laws_eqKey, T_laws_eqKey, go_sem, reduceIte, reduceCtorEq, Nat.reduceEqDiff, Nat.reduceBEq, Nat.reduceBNe, Nat.reduceMul, Nat.reduceAdd, Nat.reduceLT, Nat.reduceLeDiff, Nat.reduceSub, Int.reduceLT, Int.reduceLE, Int.reduceEq, Int.reduceNeg, Int.reduceAdd, Int.reduceSub, Int.reduceToNat, Int.reduceBEq, Int.reduceBNe, Array.reduceGetElem?]; rw [← hr])
  all_goals (cases x; cases y; simp_all)
open Classical in
noncomputable def spEqKeyS : VM.Spec := { modes := [.rd, .rd], run := fun | [.lst 3 x', .lst 3 y'] => (decL Key.dec x').bind fun x => (decL Key.dec y').bind fun y => if x.length ≤ 4194304 ∧ y.length ≤ 4194304 then some (.bool (decide (x = y)), []) else none | _ => none, need := [] }
theorem spEqKeyS_in {ins : List V} {r : V} {outs : List V} (h : spEqKeyS.run ins = some (r, outs)) : ∃ (x : (List Key)) (y : (List Key)), ins = [.lst 3 ((x).map Key.enc), .lst 3 ((y).map Key.enc)] ∧ (x.length ≤ 4194304 ∧ y.length ≤ 4194304) ∧ .bool (decide (x = y)) = r ∧ outs = [] := by
  unfold spEqKeyS at h
  simp only at h
  split at h
  · rename_i x' y'
    simp only [Option.bind_eq_some_iff] at h
    obtain ⟨x, h_x, y, h_y, h⟩ := h
    split at h
    case isFalse => cases h
    rename_i hc
    simp only [Option.some.injEq, Prod.mk.injEq] at h
    obtain ⟨h1, h2⟩ := h
    have h_x := decL_some (fun _ _ h => Key.dec_some h) h_x
    subst h_x
    have h_y := decL_some (fun _ _ h => Key.dec_some h) h_y
    subst h_y
    exact ⟨x, y, rfl, hc, h1, h2.symm⟩
  · cases h
def T_laws_eqKeyS : Hints := ⟨fun i => if i = 6 then some [] else none, fun i => if i = 4 then some [0, 1, 5] else none, fun i => if i = 0 then some [0, 1] else if i = 1 then some [0, 1, 10] else if i = 2 then some [4] else if i = 3 then some [0, 1, 5] else if i = 4 then some [0, 1, 5, 14] else if i = 6 then some [0, 1, 5, 26] else if i = 7 then some [4] else if i = 5 then some [0, 1, 5] else if i = 8 then some [4] else none⟩
noncomputable def Phi_laws_eqKeyS : Tab := fun f => if f = 117 then some spEqKey else none
theorem phi_laws_eqKeyS : ∀ f sp, Phi_laws_eqKeyS f = some sp → FnOk Tryd.prog f sp ∧ ∀ n ∈ sp.need, n ∈ ([] : List String) := by
  intro f sp h
  unfold Phi_laws_eqKeyS at h
  split at h
  · rename_i e; cases h; rw [e]; exact ⟨ok_laws_eqKey, (fun n (h : n ∈ ([] : List String)) => (nomatch h))⟩
  cases h
theorem ok_laws_eqKeyS : FnOk Tryd.prog 57 spEqKeyS := by
  refine fn_ok (Φ := Phi_laws_eqKeyS) (T := T_laws_eqKeyS) phi_laws_eqKeyS mixed Tryd.func57 rfl rfl rfl (by decide) ?_
  intro ins r outs hr hl
  clear hl
  have hs := spEqKeyS_in hr
  clear hr
  obtain ⟨x, y, rfl, hc, hr, rfl⟩ := hs
  simp only [spEqKeyS, Tryd.f57, Go.VM.initS]
  obtain ⟨hx, hy⟩ := hc
  by_cases hl : x.length = y.length
  case neg =>
    have g : ((x.length : Int) == y.length) = false := by rw [beq_eq_false_iff_ne]; omega
    have g' : ((x.length : Int) != y.length) = true := by rw [bne_iff_ne]; omega
    have hne : x ≠ y := fun e => hl (by rw [e])
    simp only [g, g', Phi_laws_eqKeyS, T_laws_eqKeyS, spEqKey, go_sem, reduceIte, reduceCtorEq, Nat.reduceEqDiff, Nat.reduceBEq, Nat.reduceBNe, Nat.reduceMul, Nat.reduceAdd, Nat.reduceLT, Nat.reduceLeDiff, Nat.reduceSub, Int.reduceLT, Int.reduceLE, Int.reduceEq, Int.reduceNeg, Int.reduceAdd, Int.reduceSub, Int.reduceToNat, Int.reduceBEq, Int.reduceBNe, Array.reduceGetElem?]
    repeat' ((first | refine after_iteT.2 ⟨fun hp => ?_, fun hp => ?_⟩ | refine after_iteF.2 ⟨fun hp => ?_, fun hp => ?_⟩ | refine after_ite.2 ⟨fun hp => ?_, fun hp => ?_⟩ | refine grd_not.2 ⟨fun hp => ?_, fun hp => ?_⟩ | refine grd_beq.2 ⟨fun hp => ?_, fun hp => ?_⟩ | refine grd_dec.2 ⟨fun hp => ?_, fun hp => ?_⟩ | refine grd_bool.2 ⟨fun hp => ?_, fun hp => ?_⟩ | refine condG_not.2 ⟨fun hp => ?_, fun hp => ?_⟩ | refine condG_beq.2 ⟨fun hp => ?_, fun hp => ?_⟩ | refine condG_dec.2 ⟨fun hp => ?_, fun hp => ?_⟩ | refine condG_bool.2 ⟨fun hp => ?_, fun hp => ?_⟩ | (refine (goes_draw0 rfl (by decide +kernel)).2 ?_; have hp := True.intro) | (refine (goes_drawM _ rfl (by decide +kernel)).2 ?_; have hp := True.intro)) <;> simp only [hp, g, g', Phi_laws_eqKeyS, T_laws_eqKeyS, spEqKey, go_sem, reduceIte, reduceCtorEq, Nat.reduceEqDiff, Nat.reduceBEq, Nat.reduceBNe, Nat.reduceMul, Nat.reduceAdd, Nat.reduceLT, Nat.reduceLeDiff, Nat.reduceSub, Int.reduceLT, Int.reduceLE, Int.reduceEq, Int.reduceNeg, Int.reduceAdd, Int.reduceSub, Int.reduceToNat, Int.reduceBEq, Int.reduceBNe, Array.reduceGetElem?])
    simp only [fin_mk, finV, resL, resV1, allUse, oneOrTup, List.take, List.drop, List.take_succ_cons, List.take_zero, List.drop_succ_cons, List.drop_zero, Phi_laws_eqKeyS, T_laws_eqKeyS, spEqKey, go_sem, reduceIte, reduceCtorEq, Nat.reduceEqDiff, Nat.reduceBEq, Nat.reduceBNe, Nat.reduceMul, Nat.reduceAdd, Nat.reduceLT, Nat.reduceLeDiff, Nat.reduceSub, Int.reduceLT, Int.reduceLE, Int.reduceEq, Int.reduceNeg, Int.reduceAdd, Int.reduceSub, Int.reduceToNat, Int.reduceBEq, Int.reduceBNe, Array.reduceGetElem?]
    rw [← hr]
    simp only [hne, decide_false]
  have hl' : (x.length : Int) = y.length := by omega
  simp only [hl, bne_self_eq_false, Phi_laws_eqKeyS, T_laws_eqKeyS, spEqKey, go_sem, reduceIte, reduceCtorEq, Nat.reduceEqDiff, Nat.reduceBEq, Nat.reduceBNe, Nat.reduceMul, Nat.reduceAdd, Nat.reduceLT, Nat.reduceLeDiff, Nat.reduceSub, Int.reduceLT, Int.reduceLE, Int.reduceEq, Int.reduceNeg, Int.reduceAdd, Int.reduceSub, Int.reduceToNat, Int.reduceBEq, Int.reduceBNe, Array.reduceGetElem?]
  repeat' ((first | refine after_iteT.2 ⟨fun hp => ?_, fun hp => ?_⟩ | refine after_iteF.2 ⟨fun hp => ?_, fun hp => ?_⟩ | refine after_ite.2 ⟨fun hp => ?_, fun hp => ?_⟩ | refine grd_not.2 ⟨fun hp => ?_, fun hp => ?_⟩ | refine grd_beq.2 ⟨fun hp => ?_, fun hp => ?_⟩ | refine grd_dec.2 ⟨fun hp => ?_, fun hp => ?_⟩ | refine grd_bool.2 ⟨fun hp => ?_, fun hp => ?_⟩ | refine condG_not.2 ⟨fun hp => ?_, fun hp => ?_⟩ | refine condG_beq.2 ⟨fun hp => ?_, fun hp => ?_⟩ | refine condG_dec.2 ⟨fun hp => ?_, fun hp => ?_⟩ | refine condG_bool.2 ⟨fun hp => ?_, fun hp => ?_⟩ | (refine (goes_draw0 rfl (by decide +kernel)).2 ?_; have hp := True.intro) | (refine (goes_drawM _ rfl (by decide +kernel)).2 ?_; have hp := True.intro)) <;> simp only [hp, hl, bne_self_eq_false, Phi_laws_eqKeyS, T_laws_eqKeyS, spEqKey, go_sem, reduceIte, reduceCtorEq, Nat.reduceEqDiff, Nat.reduceBEq, Nat.reduceBNe, Nat.reduceMul, Nat.reduceAdd, Nat.reduceLT, Nat.reduceLeDiff, Nat.reduceSub, Int.reduceLT, Int.reduceLE, Int.reduceEq, Int.reduceNeg, Int.reduceAdd, Int.reduceSub, Int.reduceToNat, Int.reduceBEq, Int.reduceBNe, Array.reduceGetElem?])
  refine loop_go (fun i : Nat => [(5, .int .i64 (i : Int))]) (fun _ => []) (fun i => x.length - i) (fun i => i ≤ x.length ∧ x.take i = y.take i) 0 ⟨Nat.zero_le _, by simp⟩ rfl rfl ?_
  intro i ⟨hi, he⟩ ih
  rcases Nat.lt_or_ge i x.length with h | h
  · have g1 : (i : Int) < x.length := by omega
    have g1' : (i : Int) < y.length := by omega
    have g2 : (0 : Int) ≤ i := by omega
    have g3 : x[i]? = some x[i] := List.getElem?_eq_getElem h
    have g4 : y[i]? = some (y[i]'(by omega)) := List.getElem?_eq_getElem (by omega)
    have g5 := wrap_succ h (by omega)
    skip
    by_cases hv : x[i] = (y[i]'(by omega))
    · simp only [g1, g1', g2, g3, g4, g5, hv, Phi_laws_eqKeyS, T_laws_eqKeyS, spEqKey, go_sem, reduceIte, reduceCtorEq, Nat.reduceEqDiff, Nat.reduceBEq, Nat.reduceBNe, Nat.reduceMul, Nat.reduceAdd, Nat.reduceLT, Nat.reduceLeDiff, Nat.reduceSub, Int.reduceLT, Int.reduceLE, Int.reduceEq, Int.reduceNeg, Int.reduceAdd, Int.reduceSub, Int.reduceToNat, Int.reduceBEq, Int.reduceBNe, Array.reduceGetElem?]
      repeat' ((first | refine after_iteT.2 ⟨fun hp => ?_, fun hp => ?_⟩ | refine after_iteF.2 ⟨fun hp => ?_, fun hp => ?_⟩ | refine after_ite.2 ⟨fun hp => ?_, fun hp => ?_⟩ | refine grd_not.2 ⟨fun hp => ?_, fun hp => ?_⟩ | refine grd_beq.2 ⟨fun hp => ?_, fun hp => ?_⟩ | refine grd_dec.2 ⟨fun hp => ?_, fun hp => ?_⟩ | refine grd_bool.2 ⟨fun hp => ?_, fun hp => ?_⟩ | refine condG_not.2 ⟨fun hp => ?_, fun hp => ?_⟩ | refine condG_beq.2 ⟨fun hp => ?_, fun hp => ?_⟩ | refine condG_dec.2 ⟨fun hp => ?_, fun hp => ?_⟩ | refine condG_bool.2 ⟨fun hp => ?_, fun hp => ?_⟩ | (refine (goes_draw0 rfl (by decide +kernel)).2 ?_; have hp := True.intro) | (refine (goes_drawM _ rfl (by decide +kernel)).2 ?_; have hp := True.intro)) <;> simp only [hp, g1, g1', g2, g3, g4, g5, hv, Phi_laws_eqKeyS, T_laws_eqKeyS, spEqKey, go_sem, reduceIte, reduceCtorEq, Nat.reduceEqDiff, Nat.reduceBEq, Nat.reduceBNe, Nat.reduceMul, Nat.reduceAdd, Nat.reduceLT, Nat.reduceLeDiff, Nat.reduceSub, Int.reduceLT, Int.reduceLE, Int.reduceEq, Int.reduceNeg, Int.reduceAdd, Int.reduceSub, Int.reduceToNat, Int.reduceBEq, Int.reduceBNe, Array.reduceGetElem?])
      exact ih (i + 1) ⟨h, by rw [List.take_add_one, List.take_add_one, he, g3, g4, hv]⟩ (by omega)
    · have hne : x ≠ y := by rintro rfl; exact hv rfl
      have hv1 : (x[i] == (y[i]'(by omega))) = false := by rw [beq_eq_false_iff_ne]; exact hv
      have hv2 : (x[i] != (y[i]'(by omega))) = true := by rw [bne_iff_ne]; exact hv
      simp only [g1, g1', g2, g3, g4, g5, hv, hv1, hv2, Phi_laws_eqKeyS, T_laws_eqKeyS, spEqKey, go_sem, reduceIte, reduceCtorEq, Nat.reduceEqDiff, Nat.reduceBEq, Nat.reduceBNe, Nat.reduceMul, Nat.reduceAdd, Nat.reduceLT, Nat.reduceLeDiff, Nat.reduceSub, Int.reduceLT, Int.reduceLE, Int.reduceEq, Int.reduceNeg, Int.reduceAdd, Int.reduceSub, Int.reduceToNat, Int.reduceBEq, Int.reduceBNe, Array.reduceGetElem?]
      repeat' ((first | refine after_iteT.2 ⟨fun hp => ?_, fun hp => ?_⟩ | refine after_iteF.2 ⟨fun hp => ?_, fun hp => ?_⟩ | refine after_ite.2 ⟨fun hp => ?_, fun hp => ?_⟩ | refine grd_not.2 ⟨fun hp => ?_, fun hp => ?_⟩ | refine grd_beq.2 ⟨fun hp => ?_, fun hp => ?_⟩ | refine grd_dec.2 ⟨fun hp => ?_, fun hp => ?_⟩ | refine grd_bool.2 ⟨fun hp => ?_, fun hp => ?_⟩ | refine condG_not.2 ⟨fun hp => ?_, fun hp => ?_⟩ | refine condG_beq.2 ⟨fun hp => ?_, fun hp => ?_⟩ | refine condG_dec.2 ⟨fun hp => ?_, fun hp => ?_⟩ | refine condG_bool.2 ⟨fun hp => ?_, fun hp => ?_⟩ | (refine (goes_draw0 rfl (by decide +kernel)).2 ?_; have hp := True.intro) | (refine (goes_drawM _ rfl (by decide +kernel)).2 ?_; have hp := True.intro)) <;> simp only [hp, g1, g1', g2, g3, g4, g5, hv, hv1, hv2, Phi_laws_eqKeyS, T_laws_eqKeyS, spEqKey, go_sem, reduceIte, reduceCtorEq, Nat.reduceEqDiff, Nat.reduceBEq, Nat.reduceBNe, Nat.reduceMul, Nat.reduceAdd, Nat.reduceLT, Nat.reduceLeDiff, Nat.reduceSub, Int.reduceLT, Int.reduceLE, Int.reduceEq, Int.reduceNeg, Int.reduceAdd, Int.reduceSub, Int.reduceToNat, Int.reduceBEq, Int.reduceBNe, Array.reduceGetElem?])
      simp only [fin_mk, finV, resL, resV1, allUse, oneOrTup, List.take, List.drop, List.take_succ_cons, List.take_zero, List.drop_succ_cons, List.drop_zero, Phi_laws_eqKeyS, T_laws_eqKeyS, spEqKey, go_sem, reduceIte, reduceCtorEq, Nat.reduceEqDiff, Nat.reduceBEq, Nat.reduceBNe, Nat.reduceMul, Nat.reduceAdd, Nat.reduceLT, Nat.reduceLeDiff, Nat.reduceSub, Int.reduceLT, Int.reduceLE, Int.reduceEq, Int.reduceNeg, Int.reduceAdd, Int.reduceSub, Int.reduceToNat, Int.reduceBEq, Int.reduceBNe, Array.reduceGetElem?]
      rw [← hr]
      simp only [hne, decide_false]
  · have g1 : ¬ (i : Int) < x.length := by omega
    have g1' : ¬ (i : Int) < y.length := by omega
    simp only [g1, g1', Phi_laws_eqKeyS, T_laws_eqKeyS, spEqKey, go_sem, reduceIte, reduceCtorEq, Nat.reduceEqDiff, Nat.reduceBEq, Nat.reduceBNe, Nat.reduceMul, Nat.reduceAdd, Nat.reduceLT, Nat.reduceLeDiff, Nat.reduceSub, Int.reduceLT, Int.reduceLE, Int.reduceEq, Int.reduceNeg, Int.reduceAdd, Int.reduceSub, Int.reduceToNat, Int.reduceBEq, Int.reduceBNe, Array.reduceGetElem?]
    simp only [fin_mk, finV, resL, resV1, allUse, oneOrTup, List.take, List.drop, List.take_succ_cons, List.take_zero, List.drop_succ_cons, List.drop_zero, Phi_laws_eqKeyS, T_laws_eqKeyS, spEqKey, go_sem, reduceIte, reduceCtorEq, Nat.reduceEqDiff, Nat.reduceBEq, Nat.reduceBNe, Nat.reduceMul, Nat.reduceAdd, Nat.reduceLT, Nat.reduceLeDiff, Nat.reduceSub, Int.reduceLT, Int.reduceLE, Int.reduceEq, Int.reduceNeg, Int.reduceAdd, Int.reduceSub, Int.reduceToNat, Int.reduceBEq, Int.reduceBNe, Array.reduceGetElem?]
    rw [← hr]
    rw [List.take_of_length_le h, List.take_of_length_le (by omega)] at he
    simp only [he, decide_true]
open Classical in
noncomputable def spMarkKeyS : VM.Spec := { modes := [.io, .rd], run := fun | [.lst 3 l', .int .i64 k] => (decL Key.dec l').bind fun l => if l.length ≤ 4194304 ∧ 0 ≤ k ∧ k ≤ 1152921504606846976 then some (.int .i64 ((markL meKey l k).2), [.lst 3 (((markL meKey l k).1).map Key.enc)]) else none | _ => none, need := [] }
theorem spMarkKeyS_in {ins : List V} {r : V} {outs : List V} (h : spMarkKeyS.run ins = some (r, outs)) : ∃ (l : (List Key)) (k : Int), ins = [.lst 3 ((l).map Key.enc), .int .i64 k] ∧ (l.length ≤ 4194304 ∧ 0 ≤ k ∧ k ≤ 1152921504606846976) ∧ .int .i64 ((markL meKey l k).2) = r ∧ outs = [.lst 3 (((markL meKey l k).1).map Key.enc)] := by
  unfold spMarkKeyS at h
  simp only at h
  split at h
  · rename_i l' k
    simp only [Option.bind_eq_some_iff] at h
    obtain ⟨l, h_l, h⟩ := h
    split at h
    case isFalse => cases h
    rename_i hc
    simp only [Option.some.injEq, Prod.mk.injEq] at h
    obtain ⟨h1, h2⟩ := h
    have h_l := decL_some (fun _ _ h => Key.dec_some h) h_l
    subst h_l
    exact ⟨l, k, rfl, hc, h1, h2.symm⟩
  · cases h
def T_laws_markKeyS : Hints := ⟨fun _ => none, fun i => if i = 2 then some [0, 1, 5] else none, fun i => if i = 0 then some [0, 1] else if i = 1 then some [0, 1, 5] else if i = 2 then some [0, 1, 5, 9] else if i = 4 then some [0, 1, 5] else if i = 5 then some [0, 1, 5] else if i = 6 then some [0, 1, 5] else if i = 7 then some [0, 1, 5] else if i = 8 then some [0, 1, 5] else if i = 9 then some [0, 1, 5] else if i = 3 then some [0, 1, 5] else if i = 10 then some [4] else none⟩
noncomputable def Phi_laws_markKeyS : Tab := fun f => if f = 102 then some spMarkText else none
theorem phi_laws_markKeyS : ∀ f sp, Phi_laws_markKeyS f = some sp → FnOk Tryd.prog f sp ∧ ∀ n ∈ sp.need, n ∈ ([] : List String) := by
  intro f sp h
  unfold Phi_laws_markKeyS at h
  split at h
  · rename_i e; cases h; rw [e]; exact ⟨ok_laws_markText, (fun n (h : n ∈ ([] : List String)) => (nomatch h))⟩
  cases h
theorem ok_laws_markKeyS : FnOk Tryd.prog 60 spMarkKeyS := by
  refine fn_ok (Φ := Phi_laws_markKeyS) (T := T_laws_markKeyS) phi_laws_markKeyS mixed Tryd.func60 rfl rfl rfl (by decide) ?_
  intro ins r outs hr hl
  clear hl
  have hs := spMarkKeyS_in hr
  clear hr
  obtain ⟨l, k, rfl, hc, hr, rfl⟩ := hs
  simp only [spMarkKeyS, Tryd.f60, Go.VM.initS]
  obtain ⟨hc, h0, h1⟩ := hc
  simp only [Phi_laws_markKeyS, T_laws_markKeyS, spMarkText, go_sem, reduceIte, reduceCtorEq, Nat.reduceEqDiff, Nat.reduceBEq, Nat.reduceBNe, Nat.reduceMul, Nat.reduceAdd, Nat.reduceLT, Nat.reduceLeDiff, Nat.reduceSub, Int.reduceLT, Int.reduceLE, Int.reduceEq, Int.reduceNeg, Int.reduceAdd, Int.reduceSub, Int.reduceToNat, Int.reduceBEq, Int.reduceBNe, Array.reduceGetElem?]
  refine loop_go (fun p : Nat × List V × Int => [(1, .int .i64 p.2.2), (5, .int .i64 (p.1 : Int))]) (fun p => [(0, ⟨.arr, 3, p.2.1⟩)]) (fun p => l.length - p.1) (fun p => p.1 ≤ l.length ∧ p.2.1 = ((markL meKey (l.take p.1) k).1 ++ l.drop p.1).map Key.enc ∧ p.2.2 = (markL meKey (l.take p.1) k).2 ∧ p.2.2 = k + (3 : Nat) * p.1) (0, l.map Key.enc, k) ⟨Nat.zero_le _, by simp [markL], rfl, by simp⟩ rfl rfl ?_
  rintro ⟨i, els, k'⟩ ⟨hi, he, hk, hb⟩ ih
  simp only at hi he hk hb ih
  rcases Nat.lt_or_ge i l.length with h | h
  · have g1 : (i : Int) < l.length := by omega
    have g2 : (0 : Int) ≤ i := by omega
    obtain ⟨g3, gl, gs, gk⟩ := mark_round h he
    rw [← hk] at gs gk
    have g5 := wrap_succ h (by omega)
    have j0 : k' ≤ 4611686018427387904 := by omega
    have w0 : IntKind.i64.wrap (k' + 1) = k' + 1 := wrap64 (by omega) (by omega)
    have w1 : IntKind.i64.wrap (k' + 1 + 1) = k' + 1 + 1 := wrap64 (by omega) (by omega)
    have w2 : IntKind.i64.wrap (k' + 1 + 1 + 1) = k' + 1 + 1 + 1 := wrap64 (by omega) (by omega)
    have j1 : k' + 1 ≤ 4611686018427387904 := by omega
    have j2 : k' + 1 + 1 ≤ 4611686018427387904 := by omega
    have j3 : k' + 1 + 1 + 1 ≤ 4611686018427387904 := by omega
    rw [Key.enc] at g3
    have gi : i < els.length := by omega
    simp only [g1, g2, g3, gl, g5, h, w0, w1, w2, j0, j1, j2, j3, List.getElem?_set_self, List.length_set, List.set_set, Phi_laws_markKeyS, T_laws_markKeyS, spMarkText, go_sem, reduceIte, reduceCtorEq, Nat.reduceEqDiff, Nat.reduceBEq, Nat.reduceBNe, Nat.reduceMul, Nat.reduceAdd, Nat.reduceLT, Nat.reduceLeDiff, Nat.reduceSub, Int.reduceLT, Int.reduceLE, Int.reduceEq, Int.reduceNeg, Int.reduceAdd, Int.reduceSub, Int.reduceToNat, Int.reduceBEq, Int.reduceBNe, Array.reduceGetElem?]
    repeat' ((first | refine after_iteT.2 ⟨fun hp => ?_, fun hp => ?_⟩ | refine after_iteF.2 ⟨fun hp => ?_, fun hp => ?_⟩ | refine after_ite.2 ⟨fun hp => ?_, fun hp => ?_⟩ | refine grd_not.2 ⟨fun hp => ?_, fun hp => ?_⟩ | refine grd_beq.2 ⟨fun hp => ?_, fun hp => ?_⟩ | refine grd_dec.2 ⟨fun hp => ?_, fun hp => ?_⟩ | refine grd_bool.2 ⟨fun hp => ?_, fun hp => ?_⟩ | refine condG_not.2 ⟨fun hp => ?_, fun hp => ?_⟩ | refine condG_beq.2 ⟨fun hp => ?_, fun hp => ?_⟩ | refine condG_dec.2 ⟨fun hp => ?_, fun hp => ?_⟩ | refine condG_bool.2 ⟨fun hp => ?_, fun hp => ?_⟩ | (refine (goes_draw0 rfl (by decide +kernel)).2 ?_; have hp := True.intro) | (refine (goes_drawM _ rfl (by decide +kernel)).2 ?_; have hp := True.intro)) <;> simp only [hp, g1, g2, g3, gl, g5, h, w0, w1, w2, j0, j1, j2, j3, List.getElem?_set_self, List.length_set, List.set_set, Phi_laws_markKeyS, T_laws_markKeyS, spMarkText, go_sem, reduceIte, reduceCtorEq, Nat.reduceEqDiff, Nat.reduceBEq, Nat.reduceBNe, Nat.reduceMul, Nat.reduceAdd, Nat.reduceLT, Nat.reduceLeDiff, Nat.reduceSub, Int.reduceLT, Int.reduceLE, Int.reduceEq, Int.reduceNeg, Int.reduceAdd, Int.reduceSub, Int.reduceToNat, Int.reduceBEq, Int.reduceBNe, Array.reduceGetElem?])
    refine ih (i + 1, els.set i (Key.enc (meKey l[i] k').1), (meKey l[i] k').2) ⟨h, gs, gk, by simp only [meKey]; omega⟩ (by simp only; omega)
  · have g1 : ¬ (i : Int) < l.length := by omega
    have gl : els.length = l.length := by rw [he]; simp [markL_len]; omega
    simp only [g1, gl, Phi_laws_markKeyS, T_laws_markKeyS, spMarkText, go_sem, reduceIte, reduceCtorEq, Nat.reduceEqDiff, Nat.reduceBEq, Nat.reduceBNe, Nat.reduceMul, Nat.reduceAdd, Nat.reduceLT, Nat.reduceLeDiff, Nat.reduceSub, Int.reduceLT, Int.reduceLE, Int.reduceEq, Int.reduceNeg, Int.reduceAdd, Int.reduceSub, Int.reduceToNat, Int.reduceBEq, Int.reduceBNe, Array.reduceGetElem?]
    simp only [fin_mk, finV, resL, resV1, allUse, oneOrTup, List.take, List.drop, List.take_succ_cons, List.take_zero, List.drop_succ_cons, List.drop_zero, Phi_laws_markKeyS, T_laws_markKeyS, spMarkText, go_sem, reduceIte, reduceCtorEq, Nat.reduceEqDiff, Nat.reduceBEq, Nat.reduceBNe, Nat.reduceMul, Nat.reduceAdd, Nat.reduceLT, Nat.reduceLeDiff, Nat.reduceSub, Int.reduceLT, Int.reduceLE, Int.reduceEq, Int.reduceNeg, Int.reduceAdd, Int.reduceSub, Int.reduceToNat, Int.reduceBEq, Int.reduceBNe, Array.reduceGetElem?]
    rw [← hr, he, hk, List.take_of_length_le h, List.drop_of_length_le h, List.append_nil]
open Classical in
noncomputable def spHeldKeyS : VM.Spec := { modes := [.rd, .rd], run := fun | [.lst 3 l', .int .i64 k] => (decL Key.dec l').bind fun l => if l.length ≤ 4194304 ∧ 0 ≤ k ∧ k ≤ 1152921504606846976 then some (.int .i64 ((heldL heKey l k).getD (-1)), []) else none | _ => none, need := [] }
theorem spHeldKeyS_in {ins : List V} {r : V} {outs : List V} (h : spHeldKeyS.run ins = some (r, outs)) : ∃ (l : (List Key)) (k : Int), ins = [.lst 3 ((l).map Key.enc), .int .i64 k] ∧ (l.length ≤ 4194304 ∧ 0 ≤ k ∧ k ≤ 1152921504606846976) ∧ .int .i64 ((heldL heKey l k).getD (-1)) = r ∧ outs = [] := by
  unfold spHeldKeyS at h
  simp only at h
  split at h
  · rename_i l' k
    simp only [Option.bind_eq_some_iff] at h
    obtain ⟨l, h_l, h⟩ := h
    split at h
    case isFalse => cases h
    rename_i hc
    simp only [Option.some.injEq, Prod.mk.injEq] at h
    obtain ⟨h1, h2⟩ := h
    have h_l := decL_some (fun _ _ h => Key.dec_some h) h_l
    subst h_l
    exact ⟨l, k, rfl, hc, h1, h2.symm⟩
  · cases h
def T_laws_heldKeyS : Hints := ⟨fun i => if i = 10 then some [(2, 6), (3, 6), (4, 6)] else none, fun i => if i = 2 then some [0, 1, 5] else none, fun i => if i = 0 then some [0, 1] else if i = 1 then some [0, 1, 5] else if i = 2 then some [0, 1, 5, 9] else if i = 4 then some [0, 1, 5, 18] else if i = 5 then some [4] else if i = 6 then some [0, 1, 5] else if i = 7 then some [0, 1, 5, 27] else if i = 8 then some [4] else if i = 9 then some [0, 1, 5] else if i = 10 then some [0, 1, 5, 37] else if i = 11 then some [4] else if i = 12 then some [0, 1, 5] else if i = 3 then some [0, 1, 5] else if i = 13 then some [4] else none⟩
noncomputable def Phi_laws_heldKeyS : Tab := fun f => if f = 102 then some spMarkText else none
theorem phi_laws_heldKeyS : ∀ f sp, Phi_laws_heldKeyS f = some sp → FnOk Tryd.prog f sp ∧ ∀ n ∈ sp.need, n ∈ ([] : List String) := by
  intro f sp h
  unfold Phi_laws_heldKeyS at h
  split at h
  · rename_i e; cases h; rw [e]; exact ⟨ok_laws_markText, (fun n (h : n ∈ ([] : List String)) => (nomatch h))⟩
  cases h
theorem ok_laws_heldKeyS : FnOk Tryd.prog 61 spHeldKeyS := by
  refine fn_ok (Φ := Phi_laws_heldKeyS) (T := T_laws_heldKeyS) phi_laws_heldKeyS mixed Tryd.func61 rfl rfl rfl (by decide) ?_
  intro ins r outs hr hl
  clear hl
  have hs := spHeldKeyS_in hr
  clear hr
  obtain ⟨l, k, rfl, hc, hr, rfl⟩ := hs
  simp only [spHeldKeyS, Tryd.f61, Go.VM.initS]
  obtain ⟨hc, h0, h1⟩ := hc
  simp only [Phi_laws_heldKeyS, T_laws_heldKeyS, spMarkText, go_sem, reduceIte, reduceCtorEq, Nat.reduceEqDiff, Nat.reduceBEq, Nat.reduceBNe, Nat.reduceMul, Nat.reduceAdd, Nat.reduceLT, Nat.reduceLeDiff, Nat.reduceSub, Int.reduceLT, Int.reduceLE, Int.reduceEq, Int.reduceNeg, Int.reduceAdd, Int.reduceSub, Int.reduceToNat, Int.reduceBEq, Int.reduceBNe, Array.reduceGetElem?]
  refine loop_go (fun p : Nat × Int => [(1, .int .i64 p.2), (5, .int .i64 (p.1 : Int))]) (fun p => []) (fun p => l.length - p.1) (fun p => p.1 ≤ l.length ∧ heldL heKey (l.take p.1) k = some p.2 ∧ p.2 = k + (3 : Nat) * p.1) (0, k) ⟨Nat.zero_le _, rfl, by simp⟩ rfl rfl ?_
  rintro ⟨i, k'⟩ ⟨hi, hk, hb⟩ ih
  simp only at hi hk hb ih
  rcases Nat.lt_or_ge i l.length with h | h
  · have g1 : (i : Int) < l.length := by omega
    have g2 : (0 : Int) ≤ i := by omega
    have g3 : l[i]? = some l[i] := List.getElem?_eq_getElem h
    have g5 := wrap_succ h (by omega)
    have j0 : k' ≤ 4611686018427387904 := by omega
    have w0 : IntKind.i64.wrap (k' + 1) = k' + 1 := wrap64 (by omega) (by omega)
    have w1 : IntKind.i64.wrap (k' + 1 + 1) = k' + 1 + 1 := wrap64 (by omega) (by omega)
    have w2 : IntKind.i64.wrap (k' + 1 + 1 + 1) = k' + 1 + 1 + 1 := wrap64 (by omega) (by omega)
    have j1 : k' + 1 ≤ 4611686018427387904 := by omega
    have j2 : k' + 1 + 1 ≤ 4611686018427387904 := by omega
    have j3 : k' + 1 + 1 + 1 ≤ 4611686018427387904 := by omega
    have hbad : (meKey l[i] k').1 ≠ l[i] → V.int .i64 (-1) = r := fun hn => by
      rw [← hr, heldL_bad h hk (by simp only [heKey, heOf, hn, if_false])]; rfl
    have hgood : (meKey l[i] k').1 = l[i] → heldL heKey (l.take (i + 1)) k = some ((meKey l[i] k').2) := fun hn => heldL_good h hk (by simp only [heKey, heOf, hn, if_true])
    by_cases hn : (meKey l[i] k').1 = l[i]
    · have e0 : l[i].Kind = k' := (congrArg Key.Kind hn).symm
      have e1 : l[i].Num = k' + 1 := (congrArg Key.Num hn).symm
      have e2 : l[i].Text = markText (k' + 1 + 1) := (congrArg Key.Text hn).symm
      simp only [g1, g2, g3, g5, w0, w1, w2, j0, j1, j2, j3, e0, e1, e2, bne_self_eq_false, Phi_laws_heldKeyS, T_laws_heldKeyS, spMarkText, go_sem, reduceIte, reduceCtorEq, Nat.reduceEqDiff, Nat.reduceBEq, Nat.reduceBNe, Nat.reduceMul, Nat.reduceAdd, Nat.reduceLT, Nat.reduceLeDiff, Nat.reduceSub, Int.reduceLT, Int.reduceLE, Int.reduceEq, Int.reduceNeg, Int.reduceAdd, Int.reduceSub, Int.reduceToNat, Int.reduceBEq, Int.reduceBNe, Array.reduceGetElem?]
      repeat' ((first | refine after_iteT.2 ⟨fun hp => ?_, fun hp => ?_⟩ | refine after_iteF.2 ⟨fun hp => ?_, fun hp => ?_⟩ | refine after_ite.2 ⟨fun hp => ?_, fun hp => ?_⟩ | refine grd_not.2 ⟨fun hp => ?_, fun hp => ?_⟩ | refine grd_beq.2 ⟨fun hp => ?_, fun hp => ?_⟩ | refine grd_dec.2 ⟨fun hp => ?_, fun hp => ?_⟩ | refine grd_bool.2 ⟨fun hp => ?_, fun hp => ?_⟩ | refine condG_not.2 ⟨fun hp => ?_, fun hp => ?_⟩ | refine condG_beq.2 ⟨fun hp => ?_, fun hp => ?_⟩ | refine condG_dec.2 ⟨fun hp => ?_, fun hp => ?_⟩ | refine condG_bool.2 ⟨fun hp => ?_, fun hp => ?_⟩ | (refine (goes_draw0 rfl (by decide +kernel)).2 ?_; have hp := True.intro) | (refine (goes_drawM _ rfl (by decide +kernel)).2 ?_; have hp := True.intro)) <;> simp only [hp, g1, g2, g3, g5, w0, w1, w2, j0, j1, j2, j3, e0, e1, e2, bne_self_eq_false, Phi_laws_heldKeyS, T_laws_heldKeyS, spMarkText, go_sem, reduceIte, reduceCtorEq, Nat.reduceEqDiff, Nat.reduceBEq, Nat.reduceBNe, Nat.reduceMul, Nat.reduceAdd, Nat.reduceLT, Nat.reduceLeDiff, Nat.reduceSub, Int.reduceLT, Int.reduceLE, Int.reduceEq, Int.reduceNeg, Int.reduceAdd, Int.reduceSub, Int.reduceToNat, Int.reduceBEq, Int.reduceBNe, Array.reduceGetElem?])
      exact ih (i + 1, (meKey l[i] k').2) ⟨h, hgood hn, by simp only [meKey]; omega⟩ (by simp only; omega)
    · simp only [g1, g2, g3, g5, w0, w1, w2, j0, j1, j2, j3, Phi_laws_heldKeyS, T_laws_heldKeyS, spMarkText, go_sem, reduceIte, reduceCtorEq, Nat.reduceEqDiff, Nat.reduceBEq, Nat.reduceBNe, Nat.reduceMul, Nat.reduceAdd, Nat.reduceLT, Nat.reduceLeDiff, Nat.reduceSub, Int.reduceLT, Int.reduceLE, Int.reduceEq, Int.reduceNeg, Int.reduceAdd, Int.reduceSub, Int.reduceToNat, Int.reduceBEq, Int.reduceBNe, Array.reduceGetElem?]
      repeat' ((first | refine after_iteT.2 ⟨fun hp => ?_, fun hp => ?_⟩ | refine after_iteF.2 ⟨fun hp => ?_, fun hp => ?_⟩ | refine after_ite.2 ⟨fun hp => ?_, fun hp => ?_⟩ | refine grd_not.2 ⟨fun hp => ?_, fun hp => ?_⟩ | refine grd_beq.2 ⟨fun hp => ?_, fun hp => ?_⟩ | refine grd_dec.2 ⟨fun hp => ?_, fun hp => ?_⟩ | refine grd_bool.2 ⟨fun hp => ?_, fun hp => ?_⟩ | refine condG_not.2 ⟨fun hp => ?_, fun hp => ?_⟩ | refine condG_beq.2 ⟨fun hp => ?_, fun hp => ?_⟩ | refine condG_dec.2 ⟨fun hp => ?_, fun hp => ?_⟩ | refine condG_bool.2 ⟨fun hp => ?_, fun hp => ?_⟩ | (refine (goes_draw0 rfl (by decide +kernel)).2 ?_; have hp := True.intro) | (refine (goes_drawM _ rfl (by decide +kernel)).2 ?_; have hp := True.intro)) <;> simp only [hp, g1, g2, g3, g5, w0, w1, w2, j0, j1, j2, j3, Phi_laws_heldKeyS, T_laws_heldKeyS, spMarkText, go_sem, reduceIte, reduceCtorEq, Nat.reduceEqDiff, Nat.reduceBEq, Nat.reduceBNe, Nat.reduceMul, Nat.reduceAdd, Nat.reduceLT, Nat.reduceLeDiff, Nat.reduceSub, Int.reduceLT, Int.reduceLE, Int.reduceEq, Int.reduceNeg, Int.reduceAdd, Int.reduceSub, Int.reduceToNat, Int.reduceBEq, Int.reduceBNe, Array.reduceGetElem?])
      all_goals first
        | (refine fin_mk.2 ?_; simp only [fin_mk, finV, resL, resV1, allUse, oneOrTup, List.take, List.drop, List.take_succ_cons, List.take_zero, List.drop_succ_cons, List.drop_zero, Phi_laws_heldKeyS, T_laws_heldKeyS, spMarkText, go_sem, reduceIte, reduceCtorEq, Nat.reduceEqDiff, Nat.reduceBEq, Nat.reduceBNe, Nat.reduceMul, Nat.reduceAdd, Nat.reduceLT, Nat.reduceLeDiff, Nat.reduceSub, Int.reduceLT, Int.reduceLE, Int.reduceEq, Int.reduceNeg, Int.reduceAdd, Int.reduceSub, Int.reduceToNat, Int.reduceBEq, Int.reduceBNe, Array.reduceGetElem?]; rw [hbad hn])
        | (exfalso; apply hn; clear hn ih hbad hgood hk hr hc h0 h1; simp only [meKey]; cases hx : l[i]; simp_all)
  · have g1 : ¬ (i : Int) < l.length := by omega
    simp only [g1, Phi_laws_heldKeyS, T_laws_heldKeyS, spMarkText, go_sem, reduceIte, reduceCtorEq, Nat.reduceEqDiff, Nat.reduceBEq, Nat.reduceBNe, Nat.reduceMul, Nat.reduceAdd, Nat.reduceLT, Nat.reduceLeDiff, Nat.reduceSub, Int.reduceLT, Int.reduceLE, Int.reduceEq, Int.reduceNeg, Int.reduceAdd, Int.reduceSub, Int.reduceToNat, Int.reduceBEq, Int.reduceBNe, Array.reduceGetElem?]
    simp only [fin_mk, finV, resL, resV1, allUse, oneOrTup, List.take, List.drop, List.take_succ_cons, List.take_zero, List.drop_succ_cons, List.drop_zero, Phi_laws_heldKeyS, T_laws_heldKeyS, spMarkText, go_sem, reduceIte, reduceCtorEq, Nat.reduceEqDiff, Nat.reduceBEq, Nat.reduceBNe, Nat.reduceMul, Nat.reduceAdd, Nat.reduceLT, Nat.reduceLeDiff, Nat.reduceSub, Int.reduceLT, Int.reduceLE, Int.reduceEq, Int.reduceNeg, Int.reduceAdd, Int.reduceSub, Int.reduceToNat, Int.reduceBEq, Int.reduceBNe, Array.reduceGetElem?]
    rw [← hr]
    rw [List.take_of_length_le h] at hk
    rw [hk]; rfl
open Classical in
noncomputable def spEqAct : VM.Spec := { modes := [.rd, .rd], run := fun | [x', y'] => (VM.Act.dec x').bind fun x => (VM.Act.dec y').bind fun y => some (.bool (decide (x = y)), []) | _ => none, need := [] }
theorem spEqAct_in {ins : List V} {r : V} {outs : List V} (h : spEqAct.run ins = some (r, outs)) : ∃ (x : VM.Act) (y : VM.Act), ins = [VM.Act.enc x, VM.Act.enc y] ∧ .bool (decide (x = y)) = r ∧ outs = [] := by
  unfold spEqAct at h
  simp only at h
  split at h
  · rename_i x' y'
    simp only [Option.bind_eq_some_iff] at h
    obtain ⟨x, h_x, y, h_y, h⟩ := h
    simp only [Option.some.injEq, Prod.mk.injEq] at h
    obtain ⟨h1, h2⟩ := h
    have h_x := VM.Act.dec_some h_x
    subst h_x
    have h_y := VM.Act.dec_some h_y
    subst h_y
    exact ⟨x, y, rfl, h1, h2.symm⟩
  · cases h
def T_laws_eqAct : Hints := ⟨fun _ => none, fun _ => none, fun i => if i = 0 then some [2, 3] else if i = 1 then some [2, 3, 9] else if i = 2 then some [4] else if i = 3 then some [2, 3, 14] else if i = 4 then some [4] else if i = 5 then some [2, 3, 19] else if i = 6 then some [4] else if i = 7 then some [24] else if i = 8 then some [4] else if i = 9 then some [4] else none⟩
noncomputable def Phi_laws_eqAct : Tab := fun f => none
theorem phi_laws_eqAct : ∀ f sp, Phi_laws_eqAct f = some sp → FnOk Tryd.prog f sp ∧ ∀ n ∈ sp.need, n ∈ ([] : List String) := by
  intro f sp h
  unfold Phi_laws_eqAct at h
  cases h
theorem ok_laws_eqAct : FnOk Tryd.prog 100 spEqAct := by
  refine fn_ok (Φ := Phi_laws_eqAct) (T := T_laws_eqAct) phi_laws_eqAct mixed Tryd.func100 rfl rfl rfl (by decide) ?_
  intro ins r outs hr hl
  clear hl
  have hs := spEqAct_in hr
  clear hr
  obtain ⟨x, y, rfl, hr, rfl⟩ := hs
  simp only [spEqAct, Tryd.f100, Go.VM.initS]
  simp only [and_self, Phi_laws_eqAct, T_laws_eqAct, go_sem, reduceIte, reduceCtorEq, Nat.reduceEqDiff, Nat.reduceBEq, Nat.reduceBNe, Nat.reduceMul, Nat.reduceAdd, Nat.reduceLT, Nat.reduceLeDiff, Nat.reduceSub, Int.reduceLT, Int.reduceLE, Int.reduceEq, Int.reduceNeg, Int.reduceAdd, Int.reduceSub, Int.reduceToNat, Int.reduceBEq, Int.reduceBNe, Array.reduceGetElem?]
  repeat' ((first | refine after_iteT.2 ⟨fun hp => ?_, fun hp => ?_⟩ | refine after_iteF.2 ⟨fun hp => ?_, fun hp => ?_⟩ | refine after_ite.2 ⟨fun hp => ?_, fun hp => ?_⟩ | refine grd_not.2 ⟨fun hp => ?_, fun hp => ?_⟩ | refine grd_beq.2 ⟨fun hp => ?_, fun hp => ?_⟩ | refine grd_dec.2 ⟨fun hp => ?_, fun hp => ?_⟩ | refine grd_bool.2 ⟨fun hp => ?_, fun hp => ?_⟩ | refine condG_not.2 ⟨fun hp => ?_, fun hp => ?_⟩ | refine condG_beq.2 ⟨fun hp => ?_, fun hp => ?_⟩ | refine condG_dec.2 ⟨fun hp => ?_, fun hp => ?_⟩ | refine condG_bool.2 ⟨fun hp => ?_, fun hp => ?_⟩ | (refine (goes_draw0 rfl (by decide +kernel)).2 ?_; have hp := True.intro) | (refine (goes_drawM _ rfl (by decide +kernel)).2 ?_; have hp := True.intro)) <;> simp only [hp, and_self, Phi_laws_eqAct, T_laws_eqAct, go_sem, reduceIte, reduceCtorEq, Nat.reduceEqDiff, Nat.reduceBEq, Nat.reduceBNe, Nat.reduceMul, Nat.reduceAdd, Nat.reduceLT, Nat.reduceLeDiff, Nat.reduceSub, Int.reduceLT, Int.reduceLE, Int.reduceEq, Int.reduceNeg, Int.reduceAdd, Int.reduceSub, Int.reduceToNat, Int.reduceBEq, Int.reduceBNe, Array.reduceGetElem?])
  all_goals (simp only [fin_mk, finV, resL, resV1, allUse, oneOrTup, List.take, List.drop, List.take_succ_cons, List.take_zero, List.drop_succ_cons, List.drop_zero, Phi_laws_eqAct, T_laws_eqAct, go_sem, reduceIte, reduceCtorEq, Nat.reduceEqDiff, Nat.reduceBEq, Nat.reduceBNe, Nat.reduceMul, Nat.reduceAdd, Nat.reduceLT, Nat.reduceLeDiff, Nat.reduceSub, Int.reduceLT, Int.reduceLE, Int.reduceEq, Int.reduceNeg, Int.reduceAdd, Int.reduceSub, Int.reduceToNat, Int.reduceBEq, Int.reduceBNe, Array.reduceGetElem?]; rw [← hr])
  all_goals (cases x; cases y; simp_all)
open Classical in
noncomputable def spEqActS : VM.Spec := { modes := [.rd, .rd], run := fun | [.lst 4 x', .lst 4 y'] => (decL VM.Act.dec x').bind fun x => (decL VM.Act.dec y').bind fun y => if x.length ≤ 4194304 ∧ y.length ≤ 4194304 then some (.bool (decide (x = y)), []) else none | _ => none, need := [] }
theorem spEqActS_in {ins : List V} {r : V} {outs : List V} (h : spEqActS.run ins = some (r, outs)) : ∃ (x : (List VM.Act)) (y : (List VM.Act)), ins = [.lst 4 ((x).map VM.Act.enc), .lst 4 ((y).map VM.Act.enc)] ∧ (x.length ≤ 4194304 ∧ y.length ≤ 4194304) ∧ .bool (decide (x = y)) = r ∧ outs = [] := by
  unfold spEqActS at h
  simp only at h
  split at h
  · rename_i x' y'
    simp only [Option.bind_eq_some_iff] at h
    obtain ⟨x, h_x, y, h_y, h⟩ := h
    split at h
    case isFalse => cases h
    rename_i hc
    simp only [Option.some.injEq, Prod.mk.injEq] at h
    obtain ⟨h1, h2⟩ := h
    have h_x := decL_some (fun _ _ h => VM.Act.dec_some h) h_x
    subst h_x
    have h_y := decL_some (fun _ _ h => VM.Act.dec_some h) h_y
    subst h_y
    exact ⟨x, y, rfl, hc, h1, h2.symm⟩
  · cases h
def T_laws_eqActS : Hints := ⟨fun i => if i = 6 then some [] else none, fun i => if i = 4 then some [0, 1, 5] else none, fun i => if i = 0 then some [0, 1] else if i = 1 then some [0, 1, 10] else if i = 2 then some [4] else if i = 3 then some [0, 1, 5] else if i = 4 then some [0, 1, 5, 14] else if i = 6 then some [0, 1, 5, 26] else if i = 7 then some [4] else if i = 5 then some [0, 1, 5] else if i = 8 then some [4] else none⟩
noncomputable def Phi_laws_eqActS : Tab := fun f => if f = 100 then some spEqAct else none
theorem phi_laws_eqActS : ∀ f sp, Phi_laws_eqActS f = some sp → FnOk Tryd.prog f sp ∧ ∀ n ∈ sp.need, n ∈ ([] : List String) := by
  intro f sp h
  unfold Phi_laws_eqActS at h
  split at h
  · rename_i e; cases h; rw [e]; exact ⟨ok_laws_eqAct, (fun n (h : n ∈ ([] : List String)) => (nomatch h))⟩
  cases h
theorem ok_laws_eqActS : FnOk Tryd.prog 43 spEqActS := by
  refine fn_ok (Φ := Phi_laws_eqActS) (T := T_laws_eqActS) phi_laws_eqActS mixed Tryd.func43 rfl rfl rfl (by decide) ?_
  intro ins r outs hr hl
  clear hl
  have hs := spEqActS_in hr
  clear hr
  obtain ⟨x, y, rfl, hc, hr, rfl⟩ := hs
  simp only [spEqActS, Tryd.f43, Go.VM.initS]
  obtain ⟨hx, hy⟩ := hc
  by_cases hl : x.length = y.length
  case neg =>
    have g : ((x.length : Int) == y.length) = false := by rw [beq_eq_false_iff_ne]; omega
    have g' : ((x.length : Int) != y.length) = true := by rw [bne_iff_ne]; omega
    have hne : x ≠ y := fun e => hl (by rw [e])
    simp only [g, g', Phi_laws_eqActS, T_laws_eqActS, spEqAct, go_sem, reduceIte, reduceCtorEq, Nat.reduceEqDiff, Nat.reduceBEq, Nat.reduceBNe, Nat.reduceMul, Nat.reduceAdd, Nat.reduceLT, Nat.reduceLeDiff, Nat.reduceSub, Int.reduceLT, Int.reduceLE, Int.reduceEq, Int.reduceNeg, Int.reduceAdd, Int.reduceSub, Int.reduceToNat, Int.reduceBEq, Int.reduceBNe, Array.reduceGetElem?]
    repeat' ((first | refine after_iteT.2 ⟨fun hp => ?_, fun hp => ?_⟩ | refine after_iteF.2 ⟨fun hp => ?_, fun hp => ?_⟩ | refine after_ite.2 ⟨fun hp => ?_, fun hp => ?_⟩ | refine grd_not.2 ⟨fun hp => ?_, fun hp => ?_⟩ | refine grd_beq.2 ⟨fun hp => ?_, fun hp => ?_⟩ | refine grd_dec.2 ⟨fun hp => ?_, fun hp => ?_⟩ | refine grd_bool.2 ⟨fun hp => ?_, fun hp => ?_⟩ | refine condG_not.2 ⟨fun hp => ?_, fun hp => ?_⟩ | refine condG_beq.2 ⟨fun hp => ?_, fun hp => ?_⟩ | refine condG_dec.2 ⟨fun hp => ?_, fun hp => ?_⟩ | refine condG_bool.2 ⟨fun hp => ?_, fun hp => ?_⟩ | (refine (goes_draw0 rfl (by decide +kernel)).2 ?_; have hp := True.intro) | (refine (goes_drawM _ rfl (by decide +kernel)).2 ?_; have hp := True.intro)) <;> simp only [hp, g, g', Phi_laws_eqActS, T_laws_eqActS, spEqAct, go_sem, reduceIte, reduceCtorEq, Nat.reduceEqDiff, Nat.reduceBEq, Nat.reduceBNe, Nat.reduceMul, Nat.reduceAdd, Nat.reduceLT, Nat.reduceLeDiff, Nat.reduceSub, Int.reduceLT, Int.reduceLE, Int.reduceEq, Int.reduceNeg, Int.reduceAdd, Int.reduceSub, Int.reduceToNat, Int.reduceBEq, Int.reduceBNe, Array.reduceGetElem?])
    simp only [fin_mk, finV, resL, resV1, allUse, oneOrTup, List.take, List.drop, List.take_succ_cons, List.take_zero, List.drop_succ_cons, List.drop_zero, Phi_laws_eqActS, T_laws_eqActS, spEqAct, go_sem, reduceIte, reduceCtorEq, Nat.reduceEqDiff, Nat.reduceBEq, Nat.reduceBNe, Nat.reduceMul, Nat.reduceAdd, Nat.reduceLT, Nat.reduceLeDiff, Nat.reduceSub, Int.reduceLT, Int.reduceLE, Int.reduceEq, Int.reduceNeg, Int.reduceAdd, Int.reduceSub, Int.reduceToNat, Int.reduceBEq, Int.reduceBNe, Array.reduceGetElem?]
    rw [← hr]
    simp only [hne, decide_false]
  have hl' : (x.length : Int) = y.length := by omega
  simp only [hl, bne_self_eq_false, Phi_laws_eqActS, T_laws_eqActS, spEqAct, go_sem, reduceIte, reduceCtorEq, Nat.reduceEqDiff, Nat.reduceBEq, Nat.reduceBNe, Nat.reduceMul, Nat.reduceAdd, Nat.reduceLT, Nat.reduceLeDiff, Nat.reduceSub, Int.reduceLT, Int.reduceLE, Int.reduceEq, Int.reduceNeg, Int.reduceAdd, Int.reduceSub, Int.reduceToNat, Int.reduceBEq, Int.reduceBNe, Array.reduceGetElem?]
  repeat' ((first | refine after_iteT.2 ⟨fun hp => ?_, fun hp => ?_⟩ | refine after_iteF.2 ⟨fun hp => ?_, fun hp => ?_⟩ | refine after_ite.2 ⟨fun hp => ?_, fun hp => ?_⟩ | refine grd_not.2 ⟨fun hp => ?_, fun hp => ?_⟩ | refine grd_beq.2 ⟨fun hp => ?_, fun hp => ?_⟩ | refine grd_dec.2 ⟨fun hp => ?_, fun hp => ?_⟩ | refine grd_bool.2 ⟨fun hp => ?_, fun hp => ?_⟩ | refine condG_not.2 ⟨fun hp => ?_, fun hp => ?_⟩ | refine condG_beq.2 ⟨fun hp => ?_, fun hp => ?_⟩ | refine condG_dec.2 ⟨fun hp => ?_, fun hp => ?_⟩ | refine condG_bool.2 ⟨fun hp => ?_, fun hp => ?_⟩ | (refine (goes_draw0 rfl (by decide +kernel)).2 ?_; have hp := True.intro) | (refine (goes_drawM _ rfl (by decide +kernel)).2 ?_; have hp := True.intro)) <;> simp only [hp, hl, bne_self_eq_false, Phi_laws_eqActS, T_laws_eqActS, spEqAct, go_sem, reduceIte, reduceCtorEq, Nat.reduceEqDiff, Nat.reduceBEq, Nat.reduceBNe, Nat.reduceMul, Nat.reduceAdd, Nat.reduceLT, Nat.reduceLeDiff, Nat.reduceSub, Int.reduceLT, Int.reduceLE, Int.reduceEq, Int.reduceNeg, Int.reduceAdd, Int.reduceSub, Int.reduceToNat, Int.reduceBEq, Int.reduceBNe, Array.reduceGetElem?])
  refine loop_go (fun i : Nat => [(5, .int .i64 (i : Int))]) (fun _ => []) (fun i => x.length - i) (fun i => i ≤ x.length ∧ x.take i = y.take i) 0 ⟨Nat.zero_le _, by simp⟩ rfl rfl ?_
  intro i ⟨hi, he⟩ ih
  rcases Nat.lt_or_ge i x.length with h | h
  · have g1 : (i : Int) < x.length := by omega
    have g1' : (i : Int) < y.length := by omega
    have g2 : (0 : Int) ≤ i := by omega
    have g3 : x[i]? = some x[i] := List.getElem?_eq_getElem h
    have g4 : y[i]? = some (y[i]'(by omega)) := List.getElem?_eq_getElem (by omega)
    have g5 := wrap_succ h (by omega)
    skip
    by_cases hv : x[i] = (y[i]'(by omega))
    · simp only [g1, g1', g2, g3, g4, g5, hv, Phi_laws_eqActS, T_laws_eqActS, spEqAct, go_sem, reduceIte, reduceCtorEq, Nat.reduceEqDiff, Nat.reduceBEq, Nat.reduceBNe, Nat.reduceMul, Nat.reduceAdd, Nat.reduceLT, Nat.reduceLeDiff, Nat.reduceSub, Int.reduceLT, Int.reduceLE, Int.reduceEq, Int.reduceNeg, Int.reduceAdd, Int.reduceSub, Int.reduceToNat, Int.reduceBEq, Int.reduceBNe, Array.reduceGetElem?]
      repeat' ((first | refine after_iteT.2 ⟨fun hp => ?_, fun hp => ?_⟩ | refine after_iteF.2 ⟨fun hp => ?_, fun hp => ?_⟩ | refine after_ite.2 ⟨fun hp => ?_, fun hp => ?_⟩ | refine grd_not.2 ⟨fun hp => ?_, fun hp => ?_⟩ | refine grd_beq.2 ⟨fun hp => ?_, fun hp => ?_⟩ | refine grd_dec.2 ⟨fun hp => ?_, fun hp => ?_⟩ | refine grd_bool.2 ⟨fun hp => ?_, fun hp => ?_⟩ | refine condG_not.2 ⟨fun hp => ?_, fun hp => ?_⟩ | refine condG_beq.2 ⟨fun hp => ?_, fun hp => ?_⟩ | refine condG_dec.2 ⟨fun hp => ?_, fun hp => ?_⟩ | refine condG_bool.2 ⟨fun hp => ?_, fun hp => ?_⟩ | (refine (goes_draw0 rfl (by decide +kernel)).2 ?_; have hp := True.intro) | (refine (goes_drawM _ rfl (by decide +kernel)).2 ?_; have hp := True.intro)) <;> simp only [hp, g1, g1', g2, g3, g4, g5, hv, Phi_laws_eqActS, T_laws_eqActS, spEqAct, go_sem, reduceIte, reduceCtorEq, Nat.reduceEqDiff, Nat.reduceBEq, Nat.reduceBNe, Nat.reduceMul, Nat.reduceAdd, Nat.reduceLT, Nat.reduceLeDiff, Nat.reduceSub, Int.reduceLT, Int.reduceLE, Int.reduceEq, Int.reduceNeg, Int.reduceAdd, Int.reduceSub, Int.reduceToNat, Int.reduceBEq, Int.reduceBNe, Array.reduceGetElem?])
      exact ih (i + 1) ⟨h, by rw [List.take_add_one, List.take_add_one, he, g3, g4, hv]⟩ (by omega)
    · have hne : x ≠ y := by rintro rfl; exact hv rfl
      have hv1 : (x[i] == (y[i]'(by omega))) = false := by rw [beq_eq_false_iff_ne]; exact hv
      have hv2 : (x[i] != (y[i]'(by omega))) = true := by rw [bne_iff_ne]; exact hv
      simp only [g1, g1', g2, g3, g4, g5, hv, hv1, hv2, Phi_laws_eqActS, T_laws_eqActS, spEqAct, go_sem, reduceIte, reduceCtorEq, Nat.reduceEqDiff, Nat.reduceBEq, Nat.reduceBNe, Nat.reduceMul, Nat.reduceAdd, Nat.reduceLT, Nat.reduceLeDiff, Nat.reduceSub, Int.reduceLT, Int.reduceLE, Int.reduceEq, Int.reduceNeg, Int.reduceAdd, Int.reduceSub, Int.reduceToNat, Int.reduceBEq, Int.reduceBNe, Array.reduceGetElem?]
      repeat' ((first | refine after_iteT.2 ⟨fun hp => ?_, fun hp => ?_⟩ | refine after_iteF.2 ⟨fun hp => ?_, fun hp => ?_⟩ | refine after_ite.2 ⟨fun hp => ?_, fun hp => ?_⟩ | refine grd_not.2 ⟨fun hp => ?_, fun hp => ?_⟩ | refine grd_beq.2 ⟨fun hp => ?_, fun hp => ?_⟩ | refine grd_dec.2 ⟨fun hp => ?_, fun hp => ?_⟩ | refine grd_bool.2 ⟨fun hp => ?_, fun hp => ?_⟩ | refine condG_not.2 ⟨fun hp => ?_, fun hp => ?_⟩ | refine condG_beq.2 ⟨fun hp => ?_, fun hp => ?_⟩ | refine condG_dec.2 ⟨fun hp => ?_, fun hp => ?_⟩ | refine condG_bool.2 ⟨fun hp => ?_, fun hp => ?_⟩ | (refine (goes_draw0 rfl (by decide +kernel)).2 ?_; have hp := True.intro) | (refine (goes_drawM _ rfl (by decide +kernel)).2 ?_; have hp := True.intro)) <;> simp only [hp, g1, g1', g2, g3, g4, g5, hv, hv1, hv2, Phi_laws_eqActS, T_laws_eqActS, spEqAct, go_sem, reduceIte, reduceCtorEq, Nat.reduceEqDiff, Nat.reduceBEq, Nat.reduceBNe, Nat.reduceMul, Nat.reduceAdd, Nat.reduceLT, Nat.reduceLeDiff, Nat.reduceSub, Int.reduceLT, Int.reduceLE, Int.reduceEq, Int.reduceNeg, Int.reduceAdd, Int.reduceSub, Int.reduceToNat, Int.reduceBEq, Int.reduceBNe, Array.reduceGetElem?])
      simp only [fin_mk, finV, resL, resV1, allUse, oneOrTup, List.take, List.drop, List.take_succ_cons, List.take_zero, List.drop_succ_cons, List.drop_zero, Phi_laws_eqActS, T_laws_eqActS, spEqAct, go_sem, reduceIte, reduceCtorEq, Nat.reduceEqDiff, Nat.reduceBEq, Nat.reduceBNe, Nat.reduceMul, Nat.reduceAdd, Nat.reduceLT, Nat.reduceLeDiff, Nat.reduceSub, Int.reduceLT, Int.reduceLE, Int.reduceEq, Int.reduceNeg, Int.reduceAdd, Int.reduceSub, Int.reduceToNat, Int.reduceBEq, Int.reduceBNe, Array.reduceGetElem?]
      rw [← hr]
      simp only [hne, decide_false]
  · have g1 : ¬ (i : Int) < x.length := by omega
    have g1' : ¬ (i : Int) < y.length := by omega
    simp only [g1, g1', Phi_laws_eqActS, T_laws_eqActS, spEqAct, go_sem, reduceIte, reduceCtorEq, Nat.reduceEqDiff, Nat.reduceBEq, Nat.reduceBNe, Nat.reduceMul, Nat.reduceAdd, Nat.reduceLT, Nat.reduceLeDiff, Nat.reduceSub, Int.reduceLT, Int.reduceLE, Int.reduceEq, Int.reduceNeg, Int.reduceAdd, Int.reduceSub, Int.reduceToNat, Int.reduceBEq, Int.reduceBNe, Array.reduceGetElem?]
    simp only [fin_mk, finV, resL, resV1, allUse, oneOrTup, List.take, List.drop, List.take_succ_cons, List.take_zero, List.drop_succ_cons, List.drop_zero, Phi_laws_eqActS, T_laws_eqActS, spEqAct, go_sem, reduceIte, reduceCtorEq, Nat.reduceEqDiff, Nat.reduceBEq, Nat.reduceBNe, Nat.reduceMul, Nat.reduceAdd, Nat.reduceLT, Nat.reduceLeDiff, Nat.reduceSub, Int.reduceLT, Int.reduceLE, Int.reduceEq, Int.reduceNeg, Int.reduceAdd, Int.reduceSub, Int.reduceToNat, Int.reduceBEq, Int.reduceBNe, Array.reduceGetElem?]
    rw [← hr]
    rw [List.take_of_length_le h, List.take_of_length_le (by omega)] at he
    simp only [he, decide_true]
open Classical in
noncomputable def spMarkActS : VM.Spec := { modes := [.io, .rd], run := fun | [.lst 4 l', .int .i64 k] => (decL VM.Act.dec l').bind fun l => if l.length ≤ 4194304 ∧ 0 ≤ k ∧ k ≤ 1152921504606846976 then some (.int .i64 ((markL meAct l k).2), [.lst 4 (((markL meAct l k).1).map VM.Act.enc)]) else none | _ => none, need := [] }
theorem spMarkActS_in {ins : List V} {r : V} {outs : List V} (h : spMarkActS.run ins = some (r, outs)) : ∃ (l : (List VM.Act)) (k : Int), ins = [.lst 4 ((l).map VM.Act.enc), .int .i64 k] ∧ (l.length ≤ 4194304 ∧ 0 ≤ k ∧ k ≤ 1152921504606846976) ∧ .int .i64 ((markL meAct l k).2) = r ∧ outs = [.lst 4 (((markL meAct l k).1).map VM.Act.enc)] := by
  unfold spMarkActS at h
  simp only at h
  split at h
  · rename_i l' k
    simp only [Option.bind_eq_some_iff] at h
    obtain ⟨l, h_l, h⟩ := h
    split at h
    case isFalse => cases h
    rename_i hc
    simp only [Option.some.injEq, Prod.mk.injEq] at h
    obtain ⟨h1, h2⟩ := h
    have h_l := decL_some (fun _ _ h => VM.Act.dec_some h) h_l
    subst h_l
    exact ⟨l, k, rfl, hc, h1, h2.symm⟩
  · cases h
def T_laws_markActS : Hints := ⟨fun _ => none, fun i => if i = 2 then some [0, 1, 5] else none, fun i => if i = 0 then some [0, 1] else if i = 1 then some [0, 1, 5] else if i = 2 then some [0, 1, 5, 9] else if i = 4 then some [0, 1, 5] else if i = 5 then some [0, 1, 5] else if i = 6 then some [0, 1, 5] else if i = 7 then some [0, 1, 5] else if i = 8 then some [0, 1, 5] else if i = 9 then some [0, 1, 5] else if i = 10 then some [0, 1, 5] else if i = 11 then some [0, 1, 5] else if i = 3 then some [0, 1, 5] else if i = 12 then some [4] else none⟩
noncomputable def Phi_laws_markActS : Tab := fun f => if f = 102 then some spMarkText else none
theorem phi_laws_markActS : ∀ f sp, Phi_laws_markActS f = some sp → FnOk Tryd.prog f sp ∧ ∀ n ∈ sp.need, n ∈ ([] : List String) := by
  intro f sp h
  unfold Phi_laws_markActS at h
  split at h
  · rename_i e; cases h; rw [e]; exact ⟨ok_laws_markText, (fun n (h : n ∈ ([] : List String)) => (nomatch h))⟩
  cases h
theorem ok_laws_markActS : FnOk Tryd.prog 45 spMarkActS := by
  refine fn_ok (Φ := Phi_laws_markActS) (T := T_laws_markActS) phi_laws_markActS mixed Tryd.func45 rfl rfl rfl (by decide) ?_
  intro ins r outs hr hl
  clear hl
  have hs := spMarkActS_in hr
  clear hr
  obtain ⟨l, k, rfl, hc, hr, rfl⟩ := hs
  simp only [spMarkActS, Tryd.f45, Go.VM.initS]
  obtain ⟨hc, h0, h1⟩ := hc
  simp only [Phi_laws_markActS, T_laws_markActS, spMarkText, go_sem, reduceIte, reduceCtorEq, Nat.reduceEqDiff, Nat.reduceBEq, Nat.reduceBNe, Nat.reduceMul, Nat.reduceAdd, Nat.reduceLT, Nat.reduceLeDiff, Nat.reduceSub, Int.reduceLT, Int.reduceLE, Int.reduceEq, Int.reduceNeg, Int.reduceAdd, Int.reduceSub, Int.reduceToNat, Int.reduceBEq, Int.reduceBNe, Array.reduceGetElem?]
  refine loop_go (fun p : Nat × List V × Int => [(1, .int .i64 p.2.2), (5, .int .i64 (p.1 : Int))]) (fun p => [(0, ⟨.arr, 4, p.2.1⟩)]) (fun p => l.length - p.1) (fun p => p.1 ≤ l.length ∧ p.2.1 = ((markL meAct (l.take p.1) k).1 ++ l.drop p.1).map VM.Act.enc ∧ p.2.2 = (markL meAct (l.take p.1) k).2 ∧ p.2.2 = k + (4 : Nat) * p.1) (0, l.map VM.Act.enc, k) ⟨Nat.zero_le _, by simp [markL], rfl, by simp⟩ rfl rfl ?_
  rintro ⟨i, els, k'⟩ ⟨hi, he, hk, hb⟩ ih
  simp only at hi he hk hb ih
  rcases Nat.lt_or_ge i l.length with h | h
  · have g1 : (i : Int) < l.length := by omega
    have g2 : (0 : Int) ≤ i := by omega
    obtain ⟨g3, gl, gs, gk⟩ := mark_round h he
    rw [← hk] at gs gk
    have g5 := wrap_succ h (by omega)
    have j0 : k' ≤ 4611686018427387904 := by omega
    have w0 : IntKind.i64.wrap (k' + 1) = k' + 1 := wrap64 (by omega) (by omega)
    have w1 : IntKind.i64.wrap (k' + 1 + 1) = k' + 1 + 1 := wrap64 (by omega) (by omega)
    have w2 : IntKind.i64.wrap (k' + 1 + 1 + 1) = k' + 1 + 1 + 1 := wrap64 (by omega) (by omega)
    have w3 : IntKind.i64.wrap (k' + 1 + 1 + 1 + 1) = k' + 1 + 1 + 1 + 1 := wrap64 (by omega) (by omega)
    have j1 : k' + 1 ≤ 4611686018427387904 := by omega
    have j2 : k' + 1 + 1 ≤ 4611686018427387904 := by omega
    have j3 : k' + 1 + 1 + 1 ≤ 4611686018427387904 := by omega
    have j4 : k' + 1 + 1 + 1 + 1 ≤ 4611686018427387904 := by omega
    rw [VM.Act.enc] at g3
    have gi : i < els.length := by omega
    simp only [g1, g2, g3, gl, g5, h, w0, w1, w2, w3, j0, j1, j2, j3, j4, List.getElem?_set_self, List.length_set, List.set_set, Phi_laws_markActS, T_laws_markActS, spMarkText, go_sem, reduceIte, reduceCtorEq, Nat.reduceEqDiff, Nat.reduceBEq, Nat.reduceBNe, Nat.reduceMul, Nat.reduceAdd, Nat.reduceLT, Nat.reduceLeDiff, Nat.reduceSub, Int.reduceLT, Int.reduceLE, Int.reduceEq, Int.reduceNeg, Int.reduceAdd, Int.reduceSub, Int.reduceToNat, Int.reduceBEq, Int.reduceBNe, Array.reduceGetElem?]
    repeat' ((first | refine after_iteT.2 ⟨fun hp => ?_, fun hp => ?_⟩ | refine after_iteF.2 ⟨fun hp => ?_, fun hp => ?_⟩ | refine after_ite.2 ⟨fun hp => ?_, fun hp => ?_⟩ | refine grd_not.2 ⟨fun hp => ?_, fun hp => ?_⟩ | refine grd_beq.2 ⟨fun hp => ?_, fun hp => ?_⟩ | refine grd_dec.2 ⟨fun hp => ?_, fun hp => ?_⟩ | refine grd_bool.2 ⟨fun hp => ?_, fun hp => ?_⟩ | refine condG_not.2 ⟨fun hp => ?_, fun hp => ?_⟩ | refine condG_beq.2 ⟨fun hp => ?_, fun hp => ?_⟩ | refine condG_dec.2 ⟨fun hp => ?_, fun hp => ?_⟩ | refine condG_bool.2 ⟨fun hp => ?_, fun hp => ?_⟩ | (refine (goes_draw0 rfl (by decide +kernel)).2 ?_; have hp := True.intro) | (refine (goes_drawM _ rfl (by decide +kernel)).2 ?_; have hp := True.intro)) <;> simp only [hp, g1, g2, g3, gl, g5, h, w0, w1, w2, w3, j0, j1, j2, j3, j4, List.getElem?_set_self, List.length_set, List.set_set, Phi_laws_markActS, T_laws_markActS, spMarkText, go_sem, reduceIte, reduceCtorEq, Nat.reduceEqDiff, Nat.reduceBEq, Nat.reduceBNe, Nat.reduceMul, Nat.reduceAdd, Nat.reduceLT, Nat.reduceLeDiff, Nat.reduceSub, Int.reduceLT, Int.reduceLE, Int.reduceEq, Int.reduceNeg, Int.reduceAdd, Int.reduceSub, Int.reduceToNat, Int.reduceBEq, Int.reduceBNe, Array.reduceGetElem?])
    refine ih (i + 1, els.set i (VM.Act.enc (meAct l[i] k').1), (meAct l[i] k').2) ⟨h, gs, gk, by simp only [meAct]; omega⟩ (by simp only; omega)
  · have g1 : ¬ (i : Int) < l.length := by omega
    have gl : els.length = l.length := by rw [he]; simp [markL_len]; omega
    simp only [g1, gl, Phi_laws_markActS, T_laws_markActS, spMarkText, go_sem, reduceIte, reduceCtorEq, Nat.reduceEqDiff, Nat.reduceBEq, Nat.reduceBNe, Nat.reduceMul, Nat.reduceAdd, Nat.reduceLT, Nat.reduceLeDiff, Nat.reduceSub, Int.reduceLT, Int.reduceLE, Int.reduceEq, Int.reduceNeg, Int.reduceAdd, Int.reduceSub, Int.reduceToNat, Int.reduceBEq, Int.reduceBNe, Array.reduceGetElem?]
    simp only [fin_mk, finV, resL, resV1, allUse, oneOrTup, List.take, List.drop, List.take_succ_cons, List.take_zero, List.drop_succ_cons, List.drop_zero, Phi_laws_markActS, T_laws_markActS, spMarkText, go_sem, reduceIte, reduceCtorEq, Nat.reduceEqDiff, Nat.reduceBEq, Nat.reduceBNe, Nat.reduceMul, Nat.reduceAdd, Nat.reduceLT, Nat.reduceLeDiff, Nat.reduceSub, Int.reduceLT, Int.reduceLE, Int.reduceEq, Int.reduceNeg, Int.reduceAdd, Int.reduceSub, Int.reduceToNat, Int.reduceBEq, Int.reduceBNe, Array.reduceGetElem?]
    rw [← hr, he, hk, List.take_of_length_le h, List.drop_of_length_le h, List.append_nil]
open Classical in
noncomputable def spHeldActS : VM.Spec := { modes := [.rd, .rd], run := fun | [.lst 4 l', .int .i64 k] => (decL VM.Act.dec l').bind fun l => if l.length ≤ 4194304 ∧ 0 ≤ k ∧ k ≤ 1152921504606846976 then some (.int .i64 ((heldL heAct l k).getD (-1)), []) else none | _ => none, need := [] }
theorem spHeldActS_in {ins : List V} {r : V} {outs : List V} (h : spHeldActS.run ins = some (r, outs)) : ∃ (l : (List VM.Act)) (k : Int), ins = [.lst 4 ((l).map VM.Act.enc), .int .i64 k] ∧ (l.length ≤ 4194304 ∧ 0 ≤ k ∧ k ≤ 1152921504606846976) ∧ .int .i64 ((heldL heAct l k).getD (-1)) = r ∧ outs = [] := by
  unfold spHeldActS at h
  simp only at h
  split at h
  · rename_i l' k
    simp only [Option.bind_eq_some_iff] at h
    obtain ⟨l, h_l, h⟩ := h
    split at h
    case isFalse => cases h
    rename_i hc
    simp only [Option.some.injEq, Prod.mk.injEq] at h
    obtain ⟨h1, h2⟩ := h
    have h_l := decL_some (fun _ _ h => VM.Act.dec_some h) h_l
    subst h_l
    exact ⟨l, k, rfl, hc, h1, h2.symm⟩
  · cases h
def T_laws_heldActS : Hints := ⟨fun i => if i = 7 then some [(2, 6), (3, 6), (4, 6)] else if i = 10 then some [(2, 6), (3, 6), (4, 6)] else if i = 13 then some [(2, 6), (3, 6), (4, 6)] else none, fun i => if i = 2 then some [0, 1, 5] else none, fun i => if i = 0 then some [0, 1] else if i = 1 then some [0, 1, 5] else if i = 2 then some [0, 1, 5, 9] else if i = 4 then some [0, 1, 5, 18] else if i = 5 then some [4] else if i = 6 then some [0, 1, 5] else if i = 7 then some [0, 1, 5, 28] else if i = 8 then some [4] else if i = 9 then some [0, 1, 5] else if i = 10 then some [0, 1, 5, 38] else if i = 11 then some [4] else if i = 12 then some [0, 1, 5] else if i = 13 then some [0, 1, 5, 48] else if i = 14 then some [4] else if i = 15 then some [0, 1, 5] else if i = 3 then some [0, 1, 5] else if i = 16 then some [4] else none⟩
noncomputable def Phi_laws_heldActS : Tab := fun f => if f = 102 then some spMarkText else none
theorem phi_laws_heldActS : ∀ f sp, Phi_laws_heldActS f = some sp → FnOk Tryd.prog f sp ∧ ∀ n ∈ sp.need, n ∈ ([] : List String) := by
  intro f sp h
  unfold Phi_laws_heldActS at h
  split at h
  · rename_i e; cases h; rw [e]; exact ⟨ok_laws_markText, (fun n (h : n ∈ ([] : List String)) => (nomatch h))⟩
  cases h
theorem ok_laws_heldActS : FnOk Tryd.prog 46 spHeldActS := by
  refine fn_ok (Φ := Phi_laws_heldActS) (T := T_laws_heldActS) phi_laws_heldActS mixed Tryd.func46 rfl rfl rfl (by decide) ?_
  intro ins r outs hr hl
  clear hl
  have hs := spHeldActS_in hr
  clear hr
  obtain ⟨l, k, rfl, hc, hr, rfl⟩ := hs
  simp only [spHeldActS, Tryd.f46, Go.VM.initS]
  obtain ⟨hc, h0, h1⟩ := hc
  simp only [Phi_laws_heldActS, T_laws_heldActS, spMarkText, go_sem, reduceIte, reduceCtorEq, Nat.reduceEqDiff, Nat.reduceBEq, Nat.reduceBNe, Nat.reduceMul, Nat.reduceAdd, Nat.reduceLT, Nat.reduceLeDiff, Nat.reduceSub, Int.reduceLT, Int.reduceLE, Int.reduceEq, Int.reduceNeg, Int.reduceAdd, Int.reduceSub, Int.reduceToNat, Int.reduceBEq, Int.reduceBNe, Array.reduceGetElem?]
  refine loop_go (fun p : Nat × Int => [(1, .int .i64 p.2), (5, .int .i64 (p.1 : Int))]) (fun p => []) (fun p => l.length - p.1) (fun p => p.1 ≤ l.length ∧ heldL heAct (l.take p.1) k = some p.2 ∧ p.2 = k + (4 : Nat) * p.1) (0, k) ⟨Nat.zero_le _, rfl, by simp⟩ rfl rfl ?_
  rintro ⟨i, k'⟩ ⟨hi, hk, hb⟩ ih
  simp only at hi hk hb ih
  rcases Nat.lt_or_ge i l.length with h | h
  · have g1 : (i : Int) < l.length := by omega
    have g2 : (0 : Int) ≤ i := by omega
    have g3 : l[i]? = some l[i] := List.getElem?_eq_getElem h
    have g5 := wrap_succ h (by omega)
    have j0 : k' ≤ 4611686018427387904 := by omega
    have w0 : IntKind.i64.wrap (k' + 1) = k' + 1 := wrap64 (by omega) (by omega)
    have w1 : IntKind.i64.wrap (k' + 1 + 1) = k' + 1 + 1 := wrap64 (by omega) (by omega)
    have w2 : IntKind.i64.wrap (k' + 1 + 1 + 1) = k' + 1 + 1 + 1 := wrap64 (by omega) (by omega)
    have w3 : IntKind.i64.wrap (k' + 1 + 1 + 1 + 1) = k' + 1 + 1 + 1 + 1 := wrap64 (by omega) (by omega)
    have j1 : k' + 1 ≤ 4611686018427387904 := by omega
    have j2 : k' + 1 + 1 ≤ 4611686018427387904 := by omega
    have j3 : k' + 1 + 1 + 1 ≤ 4611686018427387904 := by omega
    have j4 : k' + 1 + 1 + 1 + 1 ≤ 4611686018427387904 := by omega
    have hbad : (meAct l[i] k').1 ≠ l[i] → V.int .i64 (-1) = r := fun hn => by
      rw [← hr, heldL_bad h hk (by simp only [heAct, heOf, hn, if_false])]; rfl
    have hgood : (meAct l[i] k').1 = l[i] → heldL heAct (l.take (i + 1)) k = some ((meAct l[i] k').2) := fun hn => heldL_good h hk (by simp only [heAct, heOf, hn, if_true])
    by_cases hn : (meAct l[i] k').1 = l[i]
    · have e0 : l[i].Kind = k' := (congrArg VM.Act.Kind hn).symm
      have e1 : l[i].Name = markText (k' + 1) := (congrArg VM.Act.Name hn).symm
      have e2 : l[i].Text = markText (k' + 1 + 1) := (congrArg VM.Act.Text hn).symm
      have e3 : l[i].To = markText (k' + 1 + 1 + 1) := (congrArg VM.Act.To hn).symm
      simp only [g1, g2, g3, g5, w0, w1, w2, w3, j0, j1, j2, j3, j4, e0, e1, e2, e3, bne_self_eq_false, Phi_laws_heldActS, T_laws_heldActS, spMarkText, go_sem, reduceIte, reduceCtorEq, Nat.reduceEqDiff, Nat.reduceBEq, Nat.reduceBNe, Nat.reduceMul, Nat.reduceAdd, Nat.reduceLT, Nat.reduceLeDiff, Nat.reduceSub, Int.reduceLT, Int.reduceLE, Int.reduceEq, Int.reduceNeg, Int.reduceAdd, Int.reduceSub, Int.reduceToNat, Int.reduceBEq, Int.reduceBNe, Array.reduceGetElem?]
      repeat' ((first | refine after_iteT.2 ⟨fun hp => ?_, fun hp => ?_⟩ | refine after_iteF.2 ⟨fun hp => ?_, fun hp => ?_⟩ | refine after_ite.2 ⟨fun hp => ?_, fun hp => ?_⟩ | refine grd_not.2 ⟨fun hp => ?_, fun hp => ?_⟩ | refine grd_beq.2 ⟨fun hp => ?_, fun hp => ?_⟩ | refine grd_dec.2 ⟨fun hp => ?_, fun hp => ?_⟩ | refine grd_bool.2 ⟨fun hp => ?_, fun hp => ?_⟩ | refine condG_not.2 ⟨fun hp => ?_, fun hp => ?_⟩ | refine condG_beq.2 ⟨fun hp => ?_, fun hp => ?_⟩ | refine condG_dec.2 ⟨fun hp => ?_, fun hp => ?_⟩ | refine condG_bool.2 ⟨fun hp => ?_, fun hp => ?_⟩ | (refine (goes_draw0 rfl (by decide +kernel)).2 ?_; have hp := True.intro) | (refine (goes_drawM _ rfl (by decide +kernel)).2 ?_; have hp := True.intro)) <;> simp only [hp, g1, g2, g3, g5, w0, w1, w2, w3, j0, j1, j2, j3, j4, e0, e1, e2, e3, bne_self_eq_false, Phi_laws_heldActS, T_laws_heldActS, spMarkText, go_sem, reduceIte, reduceCtorEq, Nat.reduceEqDiff, Nat.reduceBEq, Nat.reduceBNe, Nat.reduceMul, Nat.reduceAdd, Nat.reduceLT, Nat.reduceLeDiff, Nat.reduceSub, Int.reduceLT, Int.reduceLE, Int.reduceEq, Int.reduceNeg, Int.reduceAdd, Int.reduceSub, Int.reduceToNat, Int.reduceBEq, Int.reduceBNe, Array.reduceGetElem?])
      exact ih (i + 1, (meAct l[i] k').2) ⟨h, hgood hn, by simp only [meAct]; omega⟩ (by simp only; omega)
    · simp only [g1, g2, g3, g5, w0, w1, w2, w3, j0, j1, j2, j3, j4, Phi_laws_heldActS, T_laws_heldActS, spMarkText, go_sem, reduceIte, reduceCtorEq, Nat.reduceEqDiff, Nat.reduceBEq, Nat.reduceBNe, Nat.reduceMul, Nat.reduceAdd, Nat.reduceLT, Nat.reduceLeDiff, Nat.reduceSub, Int.reduceLT, Int.reduceLE, Int.reduceEq, Int.reduceNeg, Int.reduceAdd, Int.reduceSub, Int.reduceToNat, Int.reduceBEq, Int.reduceBNe, Array.reduceGetElem?]
      repeat' ((first | refine after_iteT.2 ⟨fun hp => ?_, fun hp => ?_⟩ | refine after_iteF.2 ⟨fun hp => ?_, fun hp => ?_⟩ | refine after_ite.2 ⟨fun hp => ?_, fun hp => ?_⟩ | refine grd_not.2 ⟨fun hp => ?_, fun hp => ?_⟩ | refine grd_beq.2 ⟨fun hp => ?_, fun hp => ?_⟩ | refine grd_dec.2 ⟨fun hp => ?_, fun hp => ?_⟩ | refine grd_bool.2 ⟨fun hp => ?_, fun hp => ?_⟩ | refine condG_not.2 ⟨fun hp => ?_, fun hp => ?_⟩ | refine condG_beq.2 ⟨fun hp => ?_, fun hp => ?_⟩ | refine condG_dec.2 ⟨fun hp => ?_, fun hp => ?_⟩ | refine condG_bool.2 ⟨fun hp => ?_, fun hp => ?_⟩ | (refine (goes_draw0 rfl (by decide +kernel)).2 ?_; have hp := True.intro) | (refine (goes_drawM _ rfl (by decide +kernel)).2 ?_; have hp := True.intro)) <;> simp only [hp, g1, g2, g3, g5, w0, w1, w2, w3, j0, j1, j2, j3, j4, Phi_laws_heldActS, T_laws_heldActS, spMarkText, go_sem, reduceIte, reduceCtorEq, Nat.reduceEqDiff, Nat.reduceBEq, Nat.reduceBNe, Nat.reduceMul, Nat.reduceAdd, Nat.reduceLT, Nat.reduceLeDiff, Nat.reduceSub, Int.reduceLT, Int.reduceLE, Int.reduceEq, Int.reduceNeg, Int.reduceAdd, Int.reduceSub, Int.reduceToNat, Int.reduceBEq, Int.reduceBNe, Array.reduceGetElem?])
      all_goals first
        | (refine fin_mk.2 ?_; simp only [fin_mk, finV, resL, resV1, allUse, oneOrTup, List.take, List.drop, List.take_succ_cons, List.take_zero, List.drop_succ_cons, List.drop_zero, Phi_laws_heldActS, T_laws_heldActS, spMarkText, go_sem, reduceIte, reduceCtorEq, Nat.reduceEqDiff, Nat.reduceBEq, Nat.reduceBNe, Nat.reduceMul, Nat.reduceAdd, Nat.reduceLT, Nat.reduceLeDiff, Nat.reduceSub, Int.reduceLT, Int.reduceLE, Int.reduceEq, Int.reduceNeg, Int.reduceAdd, Int.reduceSub, Int.reduceToNat, Int.reduceBEq, Int.reduceBNe, Array.reduceGetElem?]; rw [hbad hn])
        | (exfalso; apply hn; clear hn ih hbad hgood hk hr hc h0 h1; simp only [meAct]; cases hx : l[i]; simp_all)
  · have g1 : ¬ (i : Int) < l.length := by omega
    simp only [g1, Phi_laws_heldActS, T_laws_heldActS, spMarkText, go_sem, reduceIte, reduceCtorEq, Nat.reduceEqDiff, Nat.reduceBEq, Nat.reduceBNe, Nat.reduceMul, Nat.reduceAdd, Nat.reduceLT, Nat.reduceLeDiff, Nat.reduceSub, Int.reduceLT, Int.reduceLE, Int.reduceEq, Int.reduceNeg, Int.reduceAdd, Int.reduceSub, Int.reduceToNat, Int.reduceBEq, Int.reduceBNe, Array.reduceGetElem?]
    simp only [fin_mk, finV, resL, resV1, allUse, oneOrTup, List.take, List.drop, List.take_succ_cons, List.take_zero, List.drop_succ_cons, List.drop_zero, Phi_laws_heldActS, T_laws_heldActS, spMarkText, go_sem, reduceIte, reduceCtorEq, Nat.reduceEqDiff, Nat.reduceBEq, Nat.reduceBNe, Nat.reduceMul, Nat.reduceAdd, Nat.reduceLT, Nat.reduceLeDiff, Nat.reduceSub, Int.reduceLT, Int.reduceLE, Int.reduceEq, Int.reduceNeg, Int.reduceAdd, Int.reduceSub, Int.reduceToNat, Int.reduceBEq, Int.reduceBNe, Array.reduceGetElem?]
    rw [← hr]
    rw [List.take_of_length_le h] at hk
    rw [hk]; rfl
end Go.Proofs.YthokmmknbbghbaaDoor.L
