/- The laws' own functions: what is left of a size, copies, equality, marks. What each computes. -/
import Derived.Test.YtghmjnggmacohaaDoorVLA
namespace Go.Proofs.YtghmjnggmacohaaDoor.L
open Go Go.VM
set_option maxRecDepth 100000
set_option linter.unusedSimpArgs false
set_option linter.unusedVariables false
open Classical in
noncomputable def spMarkText : VM.Spec := { modes := [.rd], run := fun | [.int .i64 k] => if k ≤ 4611686018427387904 then some (.str (markText k), []) else none | _ => none, need := [] }
attribute [go_sem] spMarkText
theorem spMarkText_in {ins : List V} {r : V} {outs : List V} (h : spMarkText.run ins = some (r, outs)) : ∃ (k : Int), ins = [.int .i64 k] ∧ (k ≤ 4611686018427387904) ∧ .str (markText k) = r ∧ outs = [] := by
  unfold spMarkText at h
  simp only at h
  split at h
  · rename_i k
    split at h
    case isFalse => cases h
    rename_i hc
    simp only [Option.some.injEq, Prod.mk.injEq] at h
    obtain ⟨h1, h2⟩ := h
    exact ⟨k, rfl, hc, h1, h2.symm⟩
  · cases h
def T_laws_markText : Hints := ⟨lk [], lk [(4, [0, 3])], lk [(0, [0]), (1, [0, 5]), (2, [2]), (3, [0, 3]), (4, [0, 3, 7]), (5, [0, 3]), (6, [0, 3]), (7, [2])], lk []⟩
noncomputable def Phi_laws_markText : Tab := lk []
attribute [go_sem] T_laws_markText Phi_laws_markText
theorem phi_laws_markText : ∀ f sp, Phi_laws_markText f = some sp → FnOk Tryd.prog f sp ∧ ∀ n ∈ sp.need, n ∈ ([] : List String) := phi_nil
theorem ok_laws_markText : FnOk Tryd.prog 51 spMarkText := by
  refine fn_ok (Φ := Phi_laws_markText) (T := T_laws_markText) phi_laws_markText mixed Tryd.func51 rfl rfl rfl (by decide) ?_
  intro ins r outs hr hl
  clear hl
  have hs := spMarkText_in hr
  clear hr
  obtain ⟨k, rfl, hc, hr, rfl⟩ := hs
  simp only [spMarkText, Tryd.f51, Go.VM.initS]
  by_cases hk : k ≤ 0
  · simp only [hk, go_sem]
    repeat' ((first | apply qa | apply qb | apply qc | apply qd | apply qe | apply qf | apply qg | apply qh | apply qi | apply qj | apply qk) <;> intro hp <;> simp only [hp, hk, go_sem])
    simp only [fin_mk, finV, resL, resV1, resIn, endA, listIn, Option.some_or, Option.none_or, oneOrTup, go_sem]
    rw [← hr]
    simp only [markText, hk, if_true]
  simp only [hk, go_sem]
  refine loop_go (fun p : Int × List UInt8 => [(0, .int .i64 p.1), (3, .str p.2)]) (fun _ => []) (fun p => p.1.toNat) (fun p => 0 ≤ p.1 ∧ p.1 + p.2.length ≤ k ∧ markGo p.1 p.2 = markGo k []) (k, []) ⟨by simp only; omega, by simp, rfl⟩ rfl rfl ?_
  rintro ⟨m, out⟩ ⟨h0, h1, h2⟩ ih
  simp only at h0 h1 h2 ih
  by_cases hm : 0 < m
  · have d1 : m.tdiv 10 = m / 10 := Int.tdiv_eq_ediv_of_nonneg h0
    have d2 : m.tmod 10 = m % 10 := Int.tmod_eq_emod_of_nonneg h0
    have w1 : IntKind.i64.wrap (48 + m.tmod 10) = 48 + m.tmod 10 := wrap64 (by omega) (by omega)
    have w2 : IntKind.i64.wrap (m.tdiv 10) = m.tdiv 10 := wrap64 (by omega) (by omega)
    have w3 : IntKind.u8.wrap (48 + m.tmod 10) = 48 + m.tmod 10 := by
      simp only [IntKind.wrap, IntKind.signed, IntKind.bits, Bool.false_and]
      simp; omega
    have u1 : (0 : Int) ≤ 48 + m.tmod 10 := by omega
    have u2 : 48 + m.tmod 10 < 256 := by omega
    have u3 : 1 + out.length ≤ 9223372036854775807 := by omega
    simp only [hm, w1, w2, w3, u1, u2, u3, unBytes, Int.reduceEq, go_sem]
    refine ih (m.tdiv 10, UInt8.ofNat (48 + m.tmod 10).toNat :: out) ⟨by simp only; omega, by simp only [List.length_cons]; omega, ?_⟩ (by simp only; omega)
    simp only
    rw [← h2]
    conv => rhs; rw [markGo]
    simp [hm]
  · have e : m = 0 := by omega
    subst e
    have u3 : 1 + out.length ≤ 9223372036854775807 := by omega
    simp only [u3, String.reduceToList, go_sem]
    simp only [fin_mk, finV, resL, resV1, resIn, endA, listIn, Option.some_or, Option.none_or, oneOrTup, go_sem]
    rw [← hr]
    rw [markGo] at h2
    simp only [markText, hk, if_false, ← h2]
    rfl
open Classical in
noncomputable def spEqIntS : VM.Spec := { modes := [.rd, .rd], run := fun | [.lst 1 x', .lst 1 y'] => (decL dInt x').bind fun x => (decL dInt y').bind fun y => if x.length ≤ 4194304 ∧ y.length ≤ 4194304 then some (.bool (decide (x = y)), []) else none | _ => none, need := [] }
attribute [go_sem] spEqIntS
theorem spEqIntS_in {ins : List V} {r : V} {outs : List V} (h : spEqIntS.run ins = some (r, outs)) : ∃ (x : (List Int)) (y : (List Int)), ins = [.lst 1 ((x).map eInt), .lst 1 ((y).map eInt)] ∧ (x.length ≤ 4194304 ∧ y.length ≤ 4194304) ∧ .bool (decide (x = y)) = r ∧ outs = [] := by
  unfold spEqIntS at h
  simp only at h
  split at h
  · rename_i x' y'
    simp only [Option.bind_eq_some_iff] at h
    obtain ⟨x, h_x, y, h_y, h⟩ := h
    split at h
    case isFalse => cases h
    rename_i hc
    simp only [Option.some.injEq, Prod.mk.injEq] at h
    obtain ⟨h1, h2⟩ := h
    have h_x := decL_some (fun _ _ h => dInt_some h) h_x
    subst h_x
    have h_y := decL_some (fun _ _ h => dInt_some h) h_y
    subst h_y
    exact ⟨x, y, rfl, hc, h1, h2.symm⟩
  · cases h
def T_laws_eqIntS : Hints := ⟨lk [(6, [])], lk [(4, [0, 1, 5])], lk [(0, [0, 1]), (1, [0, 1, 10]), (2, [4]), (3, [0, 1, 5]), (4, [0, 1, 5, 14]), (6, [0, 1, 5, 25]), (7, [4]), (5, [0, 1, 5]), (8, [4])], lk []⟩
noncomputable def Phi_laws_eqIntS : Tab := lk []
attribute [go_sem] T_laws_eqIntS Phi_laws_eqIntS
theorem phi_laws_eqIntS : ∀ f sp, Phi_laws_eqIntS f = some sp → FnOk Tryd.prog f sp ∧ ∀ n ∈ sp.need, n ∈ ([] : List String) := phi_nil
theorem ok_laws_eqIntS : FnOk Tryd.prog 27 spEqIntS := by
  refine fn_ok (Φ := Phi_laws_eqIntS) (T := T_laws_eqIntS) phi_laws_eqIntS mixed Tryd.func27 rfl rfl rfl (by decide) ?_
  intro ins r outs hr hl
  clear hl
  have hs := spEqIntS_in hr
  clear hr
  obtain ⟨x, y, rfl, hc, hr, rfl⟩ := hs
  simp only [spEqIntS, Tryd.f27, Go.VM.initS]
  obtain ⟨hx, hy⟩ := hc
  by_cases hl : x.length = y.length
  case neg =>
    have g : ((x.length : Int) == y.length) = false := by rw [beq_eq_false_iff_ne]; omega
    have g' : ((x.length : Int) != y.length) = true := by rw [bne_iff_ne]; omega
    have hne : x ≠ y := fun e => hl (by rw [e])
    simp only [g, g', go_sem]
    repeat' ((first | ((first | apply qa | apply qb | apply qc | apply qd | apply qe | apply qf | apply qg | apply qh | apply qi | apply qj | apply qk) <;> intro hp) | ((first | refine ql rfl rfl (by decide +kernel) ?_ | refine qm _ rfl rfl (by decide +kernel) ?_) <;> have hp := True.intro)) <;> simp only [hp, g, g', go_sem])
    simp only [fin_mk, finV, resL, resV1, resIn, endA, listIn, Option.some_or, Option.none_or, oneOrTup, go_sem]
    rw [← hr]
    simp only [hne, decide_false]
  have hl' : (x.length : Int) = y.length := by omega
  simp only [hl, bne_self_eq_false, go_sem]
  repeat' ((first | ((first | apply qa | apply qb | apply qc | apply qd | apply qe | apply qf | apply qg | apply qh | apply qi | apply qj | apply qk) <;> intro hp) | ((first | refine ql rfl rfl (by decide +kernel) ?_ | refine qm _ rfl rfl (by decide +kernel) ?_) <;> have hp := True.intro)) <;> simp only [hp, hl, bne_self_eq_false, go_sem])
  refine loop_go (fun i : Nat => [(5, .int .i64 (i : Int))]) (fun _ => []) (fun i => x.length - i) (fun i => i ≤ x.length ∧ x.take i = y.take i) 0 ⟨Nat.zero_le _, by simp⟩ rfl rfl ?_
  intro i ⟨hi, he⟩ ih
  rcases Nat.lt_or_ge i x.length with h | h
  · have g1 : (i : Int) < x.length := by omega
    have g1' : (i : Int) < y.length := by omega
    have g2 : (0 : Int) ≤ i := by omega
    have g3 : x[i]? = some x[i] := List.getElem?_eq_getElem h
    have g4 : y[i]? = some (y[i]'(by omega)) := List.getElem?_eq_getElem (by omega)
    have g5 := wrap_succ h (by omega)
    skip
    by_cases hv : x[i] = (y[i]'(by omega))
    · simp only [g1, g1', g2, g3, g4, g5, hv, go_sem]
      repeat' ((first | ((first | apply qa | apply qb | apply qc | apply qd | apply qe | apply qf | apply qg | apply qh | apply qi | apply qj | apply qk) <;> intro hp) | ((first | refine ql rfl rfl (by decide +kernel) ?_ | refine qm _ rfl rfl (by decide +kernel) ?_) <;> have hp := True.intro)) <;> simp only [hp, g1, g1', g2, g3, g4, g5, hv, go_sem])
      exact ih (i + 1) ⟨h, by rw [List.take_add_one, List.take_add_one, he, g3, g4, hv]⟩ (by omega)
    · have hne : x ≠ y := by rintro rfl; exact hv rfl
      have hv1 : (x[i] == (y[i]'(by omega))) = false := by rw [beq_eq_false_iff_ne]; exact hv
      have hv2 : (x[i] != (y[i]'(by omega))) = true := by rw [bne_iff_ne]; exact hv
      simp only [g1, g1', g2, g3, g4, g5, hv, hv1, hv2, go_sem]
      repeat' ((first | ((first | apply qa | apply qb | apply qc | apply qd | apply qe | apply qf | apply qg | apply qh | apply qi | apply qj | apply qk) <;> intro hp) | ((first | refine ql rfl rfl (by decide +kernel) ?_ | refine qm _ rfl rfl (by decide +kernel) ?_) <;> have hp := True.intro)) <;> simp only [hp, g1, g1', g2, g3, g4, g5, hv, hv1, hv2, go_sem])
      simp only [fin_mk, finV, resL, resV1, resIn, endA, listIn, Option.some_or, Option.none_or, oneOrTup, go_sem]
      rw [← hr]
      simp only [hne, decide_false]
  · have g1 : ¬ (i : Int) < x.length := by omega
    have g1' : ¬ (i : Int) < y.length := by omega
    simp only [g1, g1', go_sem]
    simp only [fin_mk, finV, resL, resV1, resIn, endA, listIn, Option.some_or, Option.none_or, oneOrTup, go_sem]
    rw [← hr]
    rw [List.take_of_length_le h, List.take_of_length_le (by omega)] at he
    simp only [he, decide_true]
open Classical in
noncomputable def spMarkIntS : VM.Spec := { modes := [.io, .rd], run := fun | [.lst 1 l', .int .i64 k] => (decL dInt l').bind fun l => if l.length ≤ 4194304 ∧ 0 ≤ k ∧ k ≤ 1152921504606846976 then some (.int .i64 ((markL meInt l k).2), [.lst 1 (((markL meInt l k).1).map eInt)]) else none | _ => none, need := [] }
attribute [go_sem] spMarkIntS
theorem spMarkIntS_in {ins : List V} {r : V} {outs : List V} (h : spMarkIntS.run ins = some (r, outs)) : ∃ (l : (List Int)) (k : Int), ins = [.lst 1 ((l).map eInt), .int .i64 k] ∧ (l.length ≤ 4194304 ∧ 0 ≤ k ∧ k ≤ 1152921504606846976) ∧ .int .i64 ((markL meInt l k).2) = r ∧ outs = [.lst 1 (((markL meInt l k).1).map eInt)] := by
  unfold spMarkIntS at h
  simp only at h
  split at h
  · rename_i l' k
    simp only [Option.bind_eq_some_iff] at h
    obtain ⟨l, h_l, h⟩ := h
    split at h
    case isFalse => cases h
    rename_i hc
    simp only [Option.some.injEq, Prod.mk.injEq] at h
    obtain ⟨h1, h2⟩ := h
    have h_l := decL_some (fun _ _ h => dInt_some h) h_l
    subst h_l
    exact ⟨l, k, rfl, hc, h1, h2.symm⟩
  · cases h
def T_laws_markIntS : Hints := ⟨lk [], lk [(2, [0, 1, 5])], lk [(0, [0, 1]), (1, [0, 1, 5]), (2, [0, 1, 5, 9]), (4, [0, 1, 5]), (5, [0, 1, 5]), (3, [0, 1, 5]), (6, [4])], lk []⟩
noncomputable def Phi_laws_markIntS : Tab := lk []
attribute [go_sem] T_laws_markIntS Phi_laws_markIntS
theorem phi_laws_markIntS : ∀ f sp, Phi_laws_markIntS f = some sp → FnOk Tryd.prog f sp ∧ ∀ n ∈ sp.need, n ∈ ([] : List String) := phi_nil
theorem ok_laws_markIntS : FnOk Tryd.prog 33 spMarkIntS := by
  refine fn_ok (Φ := Phi_laws_markIntS) (T := T_laws_markIntS) phi_laws_markIntS mixed Tryd.func33 rfl rfl rfl (by decide) ?_
  intro ins r outs hr hl
  clear hl
  have hs := spMarkIntS_in hr
  clear hr
  obtain ⟨l, k, rfl, hc, hr, rfl⟩ := hs
  simp only [spMarkIntS, Tryd.f33, Go.VM.initS]
  obtain ⟨hc, h0, h1⟩ := hc
  simp only [go_sem]
  refine loop_go (fun p : Nat × List V × Int => [(1, .int .i64 p.2.2), (5, .int .i64 (p.1 : Int))]) (fun p => [(0, ⟨.arr, 1, p.2.1⟩)]) (fun p => l.length - p.1) (fun p => p.1 ≤ l.length ∧ p.2.1 = ((markL meInt (l.take p.1) k).1 ++ l.drop p.1).map eInt ∧ p.2.2 = (markL meInt (l.take p.1) k).2 ∧ p.2.2 = k + (1 : Nat) * p.1) (0, l.map eInt, k) ⟨Nat.zero_le _, by simp [markL], rfl, by simp⟩ rfl rfl ?_
  rintro ⟨i, els, k'⟩ ⟨hi, he, hk, hb⟩ ih
  simp only at hi he hk hb ih
  rcases Nat.lt_or_ge i l.length with h | h
  · have g1 : (i : Int) < l.length := by omega
    have g2 : (0 : Int) ≤ i := by omega
    obtain ⟨g3, gl, gs, gk⟩ := mark_round h he
    rw [← hk] at gs gk
    have g5 := wrap_succ h (by omega)
    have j0 : k' ≤ 4611686018427387904 := by omega
    have w0 : IntKind.i64.wrap (k' + 1) = k' + 1 := wrap64 (by omega) (by omega)
    have j1 : k' + 1 ≤ 4611686018427387904 := by omega
    rw [eInt] at g3
    have gi : i < els.length := by omega
    simp only [g1, g2, g3, gl, g5, h, w0, j0, j1, List.getElem?_set_self, List.length_set, List.set_set, go_sem]
    repeat' ((first | apply qa | apply qb | apply qc | apply qd | apply qe | apply qf | apply qg | apply qh | apply qi | apply qj | apply qk) <;> intro hp <;> simp only [hp, g1, g2, g3, gl, g5, h, w0, j0, j1, List.getElem?_set_self, List.length_set, List.set_set, go_sem])
    refine ih (i + 1, els.set i (eInt (meInt l[i] k').1), (meInt l[i] k').2) ⟨h, gs, gk, by simp only [meInt]; omega⟩ (by simp only; omega)
  · have g1 : ¬ (i : Int) < l.length := by omega
    have gl : els.length = l.length := by rw [he]; simp [markL_len]; omega
    simp only [g1, gl, go_sem]
    simp only [fin_mk, finV, resL, resV1, resIn, endA, listIn, Option.some_or, Option.none_or, oneOrTup, go_sem]
    rw [← hr, he, hk, List.take_of_length_le h, List.drop_of_length_le h, List.append_nil]
open Classical in
noncomputable def spHeldIntS : VM.Spec := { modes := [.rd, .rd], run := fun | [.lst 1 l', .int .i64 k] => (decL dInt l').bind fun l => if l.length ≤ 4194304 ∧ 0 ≤ k ∧ k ≤ 1152921504606846976 then some (.int .i64 ((heldL (heOf meInt) l k).getD (-1)), []) else none | _ => none, need := [] }
attribute [go_sem] spHeldIntS
theorem spHeldIntS_in {ins : List V} {r : V} {outs : List V} (h : spHeldIntS.run ins = some (r, outs)) : ∃ (l : (List Int)) (k : Int), ins = [.lst 1 ((l).map eInt), .int .i64 k] ∧ (l.length ≤ 4194304 ∧ 0 ≤ k ∧ k ≤ 1152921504606846976) ∧ .int .i64 ((heldL (heOf meInt) l k).getD (-1)) = r ∧ outs = [] := by
  unfold spHeldIntS at h
  simp only at h
  split at h
  · rename_i l' k
    simp only [Option.bind_eq_some_iff] at h
    obtain ⟨l, h_l, h⟩ := h
    split at h
    case isFalse => cases h
    rename_i hc
    simp only [Option.some.injEq, Prod.mk.injEq] at h
    obtain ⟨h1, h2⟩ := h
    have h_l := decL_some (fun _ _ h => dInt_some h) h_l
    subst h_l
    exact ⟨l, k, rfl, hc, h1, h2.symm⟩
  · cases h
def T_laws_heldIntS : Hints := ⟨lk [], lk [(2, [0, 1, 5])], lk [(0, [0, 1]), (1, [0, 1, 5]), (2, [0, 1, 5, 9]), (4, [0, 1, 5, 17]), (5, [4]), (6, [0, 1, 5]), (3, [0, 1, 5]), (7, [4])], lk []⟩
noncomputable def Phi_laws_heldIntS : Tab := lk []
attribute [go_sem] T_laws_heldIntS Phi_laws_heldIntS
theorem phi_laws_heldIntS : ∀ f sp, Phi_laws_heldIntS f = some sp → FnOk Tryd.prog f sp ∧ ∀ n ∈ sp.need, n ∈ ([] : List String) := phi_nil
theorem ok_laws_heldIntS : FnOk Tryd.prog 34 spHeldIntS := by
  refine fn_ok (Φ := Phi_laws_heldIntS) (T := T_laws_heldIntS) phi_laws_heldIntS mixed Tryd.func34 rfl rfl rfl (by decide) ?_
  intro ins r outs hr hl
  clear hl
  have hs := spHeldIntS_in hr
  clear hr
  obtain ⟨l, k, rfl, hc, hr, rfl⟩ := hs
  simp only [spHeldIntS, Tryd.f34, Go.VM.initS]
  obtain ⟨hc, h0, h1⟩ := hc
  simp only [go_sem]
  refine loop_go (fun p : Nat × Int => [(1, .int .i64 p.2), (5, .int .i64 (p.1 : Int))]) (fun p => []) (fun p => l.length - p.1) (fun p => p.1 ≤ l.length ∧ heldL (heOf meInt) (l.take p.1) k = some p.2 ∧ p.2 = k + (1 : Nat) * p.1) (0, k) ⟨Nat.zero_le _, rfl, by simp⟩ rfl rfl ?_
  rintro ⟨i, k'⟩ ⟨hi, hk, hb⟩ ih
  simp only at hi hk hb ih
  rcases Nat.lt_or_ge i l.length with h | h
  · have g1 : (i : Int) < l.length := by omega
    have g2 : (0 : Int) ≤ i := by omega
    have g3 : l[i]? = some l[i] := List.getElem?_eq_getElem h
    have g5 := wrap_succ h (by omega)
    have j0 : k' ≤ 4611686018427387904 := by omega
    have w0 : IntKind.i64.wrap (k' + 1) = k' + 1 := wrap64 (by omega) (by omega)
    have j1 : k' + 1 ≤ 4611686018427387904 := by omega
    have hbad : (meInt l[i] k').1 ≠ l[i] → V.int .i64 (-1) = r := fun hn => by
      rw [← hr, heldL_bad h hk (by simp only [heOf, hn, if_false])]; rfl
    have hgood : (meInt l[i] k').1 = l[i] → heldL (heOf meInt) (l.take (i + 1)) k = some ((meInt l[i] k').2) := fun hn => heldL_good h hk (by simp only [heOf, hn, if_true])
    by_cases hn : (meInt l[i] k').1 = l[i]
    · have e0 : l[i] = k' := hn.symm
      simp only [g1, g2, g3, g5, w0, j0, j1, e0, bne_self_eq_false, go_sem]
      repeat' ((first | apply qa | apply qb | apply qc | apply qd | apply qe | apply qf | apply qg | apply qh | apply qi | apply qj | apply qk) <;> intro hp <;> simp only [hp, g1, g2, g3, g5, w0, j0, j1, e0, bne_self_eq_false, go_sem])
      exact ih (i + 1, (meInt l[i] k').2) ⟨h, hgood hn, by simp only [meInt]; omega⟩ (by simp only; omega)
    · simp only [g1, g2, g3, g5, w0, j0, j1, go_sem]
      repeat' ((first | apply qa | apply qb | apply qc | apply qd | apply qe | apply qf | apply qg | apply qh | apply qi | apply qj | apply qk) <;> intro hp <;> simp only [hp, g1, g2, g3, g5, w0, j0, j1, go_sem])
      all_goals first
        | (refine fin_mk.2 ?_; simp only [fin_mk, finV, resL, resV1, resIn, endA, listIn, Option.some_or, Option.none_or, oneOrTup, go_sem]; rw [hbad hn])
        | (exfalso; apply hn; clear hn ih hbad hgood hk hr hc h0 h1; simp only [meInt]; simp_all)
  · have g1 : ¬ (i : Int) < l.length := by omega
    simp only [g1, go_sem]
    simp only [fin_mk, finV, resL, resV1, resIn, endA, listIn, Option.some_or, Option.none_or, oneOrTup, go_sem]
    rw [← hr]
    rw [List.take_of_length_le h] at hk
    rw [hk]; rfl
open Classical in
noncomputable def spSzMail : VM.Spec := { modes := [.rd, .rd], run := fun | [x', .int .i64 n] => (Mail.dec x').bind fun x => if x.le 4611686018427387904 ∧ 0 ≤ n ∧ n ≤ 4611686018427387904 then some (.int .i64 (Mail.sz x n), []) else none | _ => none, need := [] }
attribute [go_sem] spSzMail
theorem spSzMail_in {ins : List V} {r : V} {outs : List V} (h : spSzMail.run ins = some (r, outs)) : ∃ (x : Mail) (n : Int), ins = [Mail.enc x, .int .i64 n] ∧ (x.le 4611686018427387904 ∧ 0 ≤ n ∧ n ≤ 4611686018427387904) ∧ .int .i64 (Mail.sz x n) = r ∧ outs = [] := by
  unfold spSzMail at h
  simp only at h
  split at h
  · rename_i x' n
    simp only [Option.bind_eq_some_iff] at h
    obtain ⟨x, h_x, h⟩ := h
    split at h
    case isFalse => cases h
    rename_i hc
    simp only [Option.some.injEq, Prod.mk.injEq] at h
    obtain ⟨h1, h2⟩ := h
    have h_x := Mail.dec_some h_x
    subst h_x
    exact ⟨x, n, rfl, hc, h1, h2.symm⟩
  · cases h
def T_laws_szMail : Hints := ⟨lk [], lk [], lk [(0, [1, 2]), (1, [1]), (2, [1, 11]), (3, [4]), (4, [4])], lk []⟩
noncomputable def Phi_laws_szMail : Tab := lk []
attribute [go_sem] T_laws_szMail Phi_laws_szMail
theorem phi_laws_szMail : ∀ f sp, Phi_laws_szMail f = some sp → FnOk Tryd.prog f sp ∧ ∀ n ∈ sp.need, n ∈ ([] : List String) := phi_nil
theorem ok_laws_szMail : FnOk Tryd.prog 35 spSzMail := by
  refine fn_ok (Φ := Phi_laws_szMail) (T := T_laws_szMail) phi_laws_szMail mixed Tryd.func35 rfl rfl rfl (by decide) ?_
  intro ins r outs hr hl
  clear hl
  have hs := spSzMail_in hr
  clear hr
  obtain ⟨x, n, rfl, hc, hr, rfl⟩ := hs
  simp only [spSzMail, Tryd.f35, Go.VM.initS]
  obtain ⟨hc, h0, h1⟩ := hc
  have c0 := hc
  have c0 : x.Text.length ≤ 4611686018427387904 := c0
  have w0 : IntKind.i64.wrap (n - (x.Text.length : Int)) = (n - (x.Text.length : Int)) := wrap64 (by omega) (by omega)
  by_cases b0 : (n - (x.Text.length : Int)) < 0
  · simp only [w0, b0, go_sem]
    repeat' ((first | apply qa | apply qb | apply qc | apply qd | apply qe | apply qf | apply qg | apply qh | apply qi | apply qj | apply qk) <;> intro hp <;> simp only [hp, w0, b0, go_sem])
    simp only [fin_mk, finV, resL, resV1, resIn, endA, listIn, Option.some_or, Option.none_or, oneOrTup, go_sem]
    rw [← hr]
    simp only [Mail.sz, thenSz, subSz, b0, if_true, if_false, Int.reduceNeg, Int.reduceLT]
  have a0 : 0 ≤ (n - (x.Text.length : Int)) := by omega
  have d0 : (n - (x.Text.length : Int)) ≤ 4611686018427387904 := by omega
  simp only [w0, b0, go_sem]
  repeat' ((first | apply qa | apply qb | apply qc | apply qd | apply qe | apply qf | apply qg | apply qh | apply qi | apply qj | apply qk) <;> intro hp <;> simp only [hp, w0, b0, go_sem])
  simp only [fin_mk, finV, resL, resV1, resIn, endA, listIn, Option.some_or, Option.none_or, oneOrTup, go_sem]
  rw [← hr]
  simp only [Mail.sz, thenSz, subSz, b0, if_true, if_false]
open Classical in
noncomputable def spToMail : VM.Spec := { modes := [.rd], run := fun | [x'] => (Mail.dec x').bind fun x => some (Mail.enc x, []) | _ => none, need := [] }
attribute [go_sem] spToMail
theorem spToMail_in {ins : List V} {r : V} {outs : List V} (h : spToMail.run ins = some (r, outs)) : ∃ (x : Mail), ins = [Mail.enc x] ∧ Mail.enc x = r ∧ outs = [] := by
  unfold spToMail at h
  simp only at h
  split at h
  · rename_i x'
    simp only [Option.bind_eq_some_iff] at h
    obtain ⟨x, h_x, h⟩ := h
    simp only [Option.some.injEq, Prod.mk.injEq] at h
    obtain ⟨h1, h2⟩ := h
    have h_x := Mail.dec_some h_x
    subst h_x
    exact ⟨x, rfl, h1, h2.symm⟩
  · cases h
def T_laws_toMail : Hints := ⟨lk [], lk [], lk [(0, [1, 2]), (1, [1, 2, 3]), (2, [1, 2, 3]), (3, [1, 2, 3]), (4, [1, 2, 3]), (5, [2, 3]), (6, [2])], lk []⟩
noncomputable def Phi_laws_toMail : Tab := lk []
attribute [go_sem] T_laws_toMail Phi_laws_toMail
theorem phi_laws_toMail : ∀ f sp, Phi_laws_toMail f = some sp → FnOk Tryd.prog f sp ∧ ∀ n ∈ sp.need, n ∈ ([] : List String) := phi_nil
theorem ok_laws_toMail : FnOk Tryd.prog 43 spToMail := by
  refine fn_ok (Φ := Phi_laws_toMail) (T := T_laws_toMail) phi_laws_toMail mixed Tryd.func43 rfl rfl rfl (by decide) ?_
  intro ins r outs hr hl
  clear hl
  have hs := spToMail_in hr
  clear hr
  obtain ⟨x, rfl, hr, rfl⟩ := hs
  simp only [spToMail, Tryd.f43, Go.VM.initS]
  simp only [go_sem]
  repeat' ((first | apply qa | apply qb | apply qc | apply qd | apply qe | apply qf | apply qg | apply qh | apply qi | apply qj | apply qk) <;> intro hp <;> simp only [hp, go_sem])
  simp only [fin_mk, finV, resL, resV1, resIn, endA, listIn, Option.some_or, Option.none_or, oneOrTup, go_sem]
  rw [← hr]
  rfl
open Classical in
noncomputable def spEqMail : VM.Spec := { modes := [.rd, .rd], run := fun | [x', y'] => (Mail.dec x').bind fun x => (Mail.dec y').bind fun y => some (.bool (decide (x = y)), []) | _ => none, need := [] }
attribute [go_sem] spEqMail
theorem spEqMail_in {ins : List V} {r : V} {outs : List V} (h : spEqMail.run ins = some (r, outs)) : ∃ (x : Mail) (y : Mail), ins = [Mail.enc x, Mail.enc y] ∧ .bool (decide (x = y)) = r ∧ outs = [] := by
  unfold spEqMail at h
  simp only at h
  split at h
  · rename_i x' y'
    simp only [Option.bind_eq_some_iff] at h
    obtain ⟨x, h_x, y, h_y, h⟩ := h
    simp only [Option.some.injEq, Prod.mk.injEq] at h
    obtain ⟨h1, h2⟩ := h
    have h_x := Mail.dec_some h_x
    subst h_x
    have h_y := Mail.dec_some h_y
    subst h_y
    exact ⟨x, y, rfl, h1, h2.symm⟩
  · cases h
def T_laws_eqMail : Hints := ⟨lk [], lk [], lk [(0, [2, 3]), (1, [2, 3, 9]), (2, [4]), (3, [2, 3, 14]), (4, [4]), (5, [2, 3, 19]), (6, [4]), (7, [24]), (8, [4]), (9, [4])], lk []⟩
noncomputable def Phi_laws_eqMail : Tab := lk []
attribute [go_sem] T_laws_eqMail Phi_laws_eqMail
theorem phi_laws_eqMail : ∀ f sp, Phi_laws_eqMail f = some sp → FnOk Tryd.prog f sp ∧ ∀ n ∈ sp.need, n ∈ ([] : List String) := phi_nil
theorem ok_laws_eqMail : FnOk Tryd.prog 49 spEqMail := by
  refine fn_ok (Φ := Phi_laws_eqMail) (T := T_laws_eqMail) phi_laws_eqMail mixed Tryd.func49 rfl rfl rfl (by decide) ?_
  intro ins r outs hr hl
  clear hl
  have hs := spEqMail_in hr
  clear hr
  obtain ⟨x, y, rfl, hr, rfl⟩ := hs
  simp only [spEqMail, Tryd.f49, Go.VM.initS]
  simp only [and_self, go_sem]
  repeat' ((first | apply qa | apply qb | apply qc | apply qd | apply qe | apply qf | apply qg | apply qh | apply qi | apply qj | apply qk) <;> intro hp <;> simp only [hp, and_self, go_sem])
  all_goals (simp only [fin_mk, finV, resL, resV1, resIn, endA, listIn, Option.some_or, Option.none_or, oneOrTup, go_sem]; rw [← hr])
  all_goals (cases x; cases y; simp_all)
open Classical in
noncomputable def spSzMailS : VM.Spec := { modes := [.rd, .rd], run := fun | [.lst 4 l', .int .i64 n] => (decL Mail.dec l').bind fun l => if leL Mail.le 4611686018427387904 l ∧ 0 ≤ n ∧ n ≤ 4611686018427387904 then some (.int .i64 (szLL Mail.sz l n), []) else none | _ => none, need := [] }
attribute [go_sem] spSzMailS
theorem spSzMailS_in {ins : List V} {r : V} {outs : List V} (h : spSzMailS.run ins = some (r, outs)) : ∃ (l : (List Mail)) (n : Int), ins = [.lst 4 ((l).map Mail.enc), .int .i64 n] ∧ (leL Mail.le 4611686018427387904 l ∧ 0 ≤ n ∧ n ≤ 4611686018427387904) ∧ .int .i64 (szLL Mail.sz l n) = r ∧ outs = [] := by
  unfold spSzMailS at h
  simp only at h
  split at h
  · rename_i l' n
    simp only [Option.bind_eq_some_iff] at h
    obtain ⟨l, h_l, h⟩ := h
    split at h
    case isFalse => cases h
    rename_i hc
    simp only [Option.some.injEq, Prod.mk.injEq] at h
    obtain ⟨h1, h2⟩ := h
    have h_l := decL_some (fun _ _ h => Mail.dec_some h) h_l
    subst h_l
    exact ⟨l, n, rfl, hc, h1, h2.symm⟩
  · cases h
def T_laws_szMailS : Hints := ⟨lk [], lk [(5, [0, 1, 5])], lk [(0, [0, 1]), (1, [0, 1]), (2, [0, 1, 11]), (3, [4]), (4, [0, 1, 5]), (5, [0, 1, 5, 15]), (7, [0, 1, 5]), (8, [0, 1, 5, 25]), (9, [4]), (6, [0, 1, 5]), (10, [4])], lk []⟩
noncomputable def Phi_laws_szMailS : Tab := lk [(35, spSzMail)]
attribute [go_sem] T_laws_szMailS Phi_laws_szMailS
theorem phi_laws_szMailS : ∀ f sp, Phi_laws_szMailS f = some sp → FnOk Tryd.prog f sp ∧ ∀ n ∈ sp.need, n ∈ ([] : List String) := phi_cons ok_laws_szMail (n0 rfl) (phi_nil)
theorem ok_laws_szMailS : FnOk Tryd.prog 17 spSzMailS := by
  refine fn_ok (Φ := Phi_laws_szMailS) (T := T_laws_szMailS) phi_laws_szMailS mixed Tryd.func17 rfl rfl rfl (by decide) ?_
  intro ins r outs hr hl
  clear hl
  have hs := spSzMailS_in hr
  clear hr
  obtain ⟨l, n, rfl, hc, hr, rfl⟩ := hs
  simp only [spSzMailS, Tryd.f17, Go.VM.initS]
  obtain ⟨⟨hc, hd⟩, h0, h1⟩ := hc
  have w : IntKind.i64.wrap (n - (l.length : Int)) = n - l.length := wrap64 (by omega) (by omega)
  by_cases b : n - (l.length : Int) < 0
  · simp only [w, b, go_sem]
    repeat' ((first | apply qa | apply qb | apply qc | apply qd | apply qe | apply qf | apply qg | apply qh | apply qi | apply qj | apply qk) <;> intro hp <;> simp only [hp, w, b, go_sem])
    simp only [fin_mk, finV, resL, resV1, resIn, endA, listIn, Option.some_or, Option.none_or, oneOrTup, go_sem]
    rw [← hr]
    simp only [szLL, thenSz, subSz, b, if_true, Int.reduceNeg, Int.reduceLT]
  simp only [w, b, go_sem]
  refine loop_go (fun p : Nat × Int => [(1, .int .i64 p.2), (5, .int .i64 (p.1 : Int))]) (fun _ => []) (fun p => l.length - p.1) (fun p => p.1 ≤ l.length ∧ p.2 = szL Mail.sz (l.take p.1) (n - l.length) ∧ 0 ≤ p.2 ∧ p.2 ≤ 4611686018427387904) (0, n - l.length) ⟨Nat.zero_le _, rfl, by simp only; omega, by simp only; omega⟩ rfl rfl ?_
  rintro ⟨i, m⟩ ⟨hi, hm, m0, m1⟩ ih
  simp only at hi hm m0 m1 ih
  have hsz : Mail.sz = Mail.sz := rfl
  have hend : szLL Mail.sz l n = szL Mail.sz l (n - l.length) := by simp only [szLL, thenSz, subSz, b, if_false]
  rcases Nat.lt_or_ge i l.length with h | h
  · have g1 : (i : Int) < l.length := by omega
    have g2 : (0 : Int) ≤ i := by omega
    have g3 : l[i]? = some l[i] := List.getElem?_eq_getElem h
    have g5 := wrap_succ h hc
    have gx : l[i].le 4611686018427387904 := hd _ (List.getElem_mem h)
    rcases Mail.sz_ok l[i] m 4611686018427387904 m0 m1 with e | ⟨e1, e2, -⟩
    · simp only [g1, g2, g3, g5, gx, m0, m1, e, go_sem]
      repeat' ((first | apply qa | apply qb | apply qc | apply qd | apply qe | apply qf | apply qg | apply qh | apply qi | apply qj | apply qk) <;> intro hp <;> simp only [hp, g1, g2, g3, g5, gx, m0, m1, e, go_sem])
      simp only [fin_mk, finV, resL, resV1, resIn, endA, listIn, Option.some_or, Option.none_or, oneOrTup, go_sem]
      rw [← hr]
      rw [hend, szL_bad l i _ h (by rw [← hm]; exact m0) (by rw [← hm, e]; decide)]
    · have e3 : ¬ Mail.sz l[i] m < 0 := by omega
      simp only [g1, g2, g3, g5, gx, m0, m1, e3, go_sem]
      repeat' ((first | apply qa | apply qb | apply qc | apply qd | apply qe | apply qf | apply qg | apply qh | apply qi | apply qj | apply qk) <;> intro hp <;> simp only [hp, g1, g2, g3, g5, gx, m0, m1, e3, go_sem])
      refine ih (i + 1, Mail.sz l[i] m) ⟨h, ?_, e1, by simp only; omega⟩ (by simp only; omega)
      have key := szL_take (f := Mail.sz) l i (n - l.length) h (fun k hk => ?_) (by rw [← hm]; exact m0) (by omega)
      · rw [key, hm]
      · exact Mail.sz_neg _ _ hk
  · have g1 : ¬ (i : Int) < l.length := by omega
    simp only [g1, go_sem]
    simp only [fin_mk, finV, resL, resV1, resIn, endA, listIn, Option.some_or, Option.none_or, oneOrTup, go_sem]
    rw [← hr]
    rw [hend, hm, List.take_of_length_le h]
open Classical in
noncomputable def spToMailS : VM.Spec := { modes := [.rd], run := fun | [.lst 4 l'] => (decL Mail.dec l').bind fun l => if l.length ≤ 4194304 then some (.lst 4 ((l).map Mail.enc), []) else none | _ => none, need := [] }
attribute [go_sem] spToMailS
theorem spToMailS_in {ins : List V} {r : V} {outs : List V} (h : spToMailS.run ins = some (r, outs)) : ∃ (l : (List Mail)), ins = [.lst 4 ((l).map Mail.enc)] ∧ (l.length ≤ 4194304) ∧ .lst 4 ((l).map Mail.enc) = r ∧ outs = [] := by
  unfold spToMailS at h
  simp only at h
  split at h
  · rename_i l'
    simp only [Option.bind_eq_some_iff] at h
    obtain ⟨l, h_l, h⟩ := h
    split at h
    case isFalse => cases h
    rename_i hc
    simp only [Option.some.injEq, Prod.mk.injEq] at h
    obtain ⟨h1, h2⟩ := h
    have h_l := decL_some (fun _ _ h => Mail.dec_some h) h_l
    subst h_l
    exact ⟨l, rfl, hc, h1, h2.symm⟩
  · cases h
def T_laws_toMailS : Hints := ⟨lk [], lk [(3, [0, 3, 4])], lk [(0, [0]), (1, [0, 3]), (2, [0, 3, 4]), (3, [0, 3, 4, 11]), (5, [0, 3, 4]), (4, [0, 3, 4]), (6, [2])], lk []⟩
noncomputable def Phi_laws_toMailS : Tab := lk [(43, spToMail)]
attribute [go_sem] T_laws_toMailS Phi_laws_toMailS
theorem phi_laws_toMailS : ∀ f sp, Phi_laws_toMailS f = some sp → FnOk Tryd.prog f sp ∧ ∀ n ∈ sp.need, n ∈ ([] : List String) := phi_cons ok_laws_toMail (n0 rfl) (phi_nil)
theorem ok_laws_toMailS : FnOk Tryd.prog 22 spToMailS := by
  refine fn_ok (Φ := Phi_laws_toMailS) (T := T_laws_toMailS) phi_laws_toMailS mixed Tryd.func22 rfl rfl rfl (by decide) ?_
  intro ins r outs hr hl
  clear hl
  have hs := spToMailS_in hr
  clear hr
  obtain ⟨l, rfl, hc, hr, rfl⟩ := hs
  simp only [spToMailS, Tryd.f22, Go.VM.initS]
  have h1 : (l.length : Int) ≤ 9223372036854775807 := by omega
  have h2 : (l.length : Int) * 40 ≤ 140737488355328 := by omega
  have h3 : (0 : Int) ≤ l.length := by omega
  simp only [h1, h2, h3, Int.cast_ofNat_Int, go_sem]
  refine loop_go (fun p : Nat × List V => [(4, .int .i64 (p.1 : Int))]) (fun p => [(0, ⟨.arr, 4, p.2⟩)]) (fun p => l.length - p.1) (fun p => p.1 ≤ l.length ∧ p.2 = (l.take p.1).map Mail.enc ++ List.replicate (l.length - p.1) (.agg [.int .i64 0, .int .i64 0, .int .i64 0, .str []])) (0, List.replicate l.length (.agg [.int .i64 0, .int .i64 0, .int .i64 0, .str []])) ⟨Nat.zero_le _, by simp⟩ rfl rfl ?_
  rintro ⟨i, els⟩ ⟨hi, hels⟩ ih
  simp only at hi hels ih
  have hlen : els.length = l.length := by rw [hels]; simp; omega
  rcases Nat.lt_or_ge i l.length with h | h
  · have g1 : (i : Int) < l.length := by omega
    have g2 : (0 : Int) ≤ i := by omega
    have g3 : l[i]? = some l[i] := List.getElem?_eq_getElem h
    have g4 : els[i]? = some (els[i]'(by omega)) := List.getElem?_eq_getElem (by omega)
    have g5 := wrap_succ h (by omega)
    skip
    simp only [g1, g2, g3, g4, g5, hlen, go_sem]
    repeat' ((first | apply qa | apply qb | apply qc | apply qd | apply qe | apply qf | apply qg | apply qh | apply qi | apply qj | apply qk) <;> intro hp <;> simp only [hp, g1, g2, g3, g4, g5, hlen, go_sem])
    refine ih (i + 1, els.set i (.agg [.int .i64 l[i].Uid, .int .i64 l[i].Flags, .int .i64 l[i].Mod, .str l[i].Text])) ⟨h, ?_⟩ (by simp only; omega)
    simp only
    rw [hels]
    exact fill_step _ h rfl
  · have g1 : ¬ (i : Int) < l.length := by omega
    simp only [g1, go_sem]
    simp only [fin_mk, finV, resL, resV1, resIn, endA, listIn, Option.some_or, Option.none_or, oneOrTup, go_sem]
    rw [← hr, hels, List.take_of_length_le h, show l.length - i = 0 by omega]
    simp
open Classical in
noncomputable def spEqMailS : VM.Spec := { modes := [.rd, .rd], run := fun | [.lst 4 x', .lst 4 y'] => (decL Mail.dec x').bind fun x => (decL Mail.dec y').bind fun y => if x.length ≤ 4194304 ∧ y.length ≤ 4194304 then some (.bool (decide (x = y)), []) else none | _ => none, need := [] }
attribute [go_sem] spEqMailS
theorem spEqMailS_in {ins : List V} {r : V} {outs : List V} (h : spEqMailS.run ins = some (r, outs)) : ∃ (x : (List Mail)) (y : (List Mail)), ins = [.lst 4 ((x).map Mail.enc), .lst 4 ((y).map Mail.enc)] ∧ (x.length ≤ 4194304 ∧ y.length ≤ 4194304) ∧ .bool (decide (x = y)) = r ∧ outs = [] := by
  unfold spEqMailS at h
  simp only at h
  split at h
  · rename_i x' y'
    simp only [Option.bind_eq_some_iff] at h
    obtain ⟨x, h_x, y, h_y, h⟩ := h
    split at h
    case isFalse => cases h
    rename_i hc
    simp only [Option.some.injEq, Prod.mk.injEq] at h
    obtain ⟨h1, h2⟩ := h
    have h_x := decL_some (fun _ _ h => Mail.dec_some h) h_x
    subst h_x
    have h_y := decL_some (fun _ _ h => Mail.dec_some h) h_y
    subst h_y
    exact ⟨x, y, rfl, hc, h1, h2.symm⟩
  · cases h
def T_laws_eqMailS : Hints := ⟨lk [(6, [])], lk [(4, [0, 1, 5])], lk [(0, [0, 1]), (1, [0, 1, 10]), (2, [4]), (3, [0, 1, 5]), (4, [0, 1, 5, 14]), (6, [0, 1, 5, 26]), (7, [4]), (5, [0, 1, 5]), (8, [4])], lk []⟩
noncomputable def Phi_laws_eqMailS : Tab := lk [(49, spEqMail)]
attribute [go_sem] T_laws_eqMailS Phi_laws_eqMailS
theorem phi_laws_eqMailS : ∀ f sp, Phi_laws_eqMailS f = some sp → FnOk Tryd.prog f sp ∧ ∀ n ∈ sp.need, n ∈ ([] : List String) := phi_cons ok_laws_eqMail (n0 rfl) (phi_nil)
theorem ok_laws_eqMailS : FnOk Tryd.prog 28 spEqMailS := by
  refine fn_ok (Φ := Phi_laws_eqMailS) (T := T_laws_eqMailS) phi_laws_eqMailS mixed Tryd.func28 rfl rfl rfl (by decide) ?_
  intro ins r outs hr hl
  clear hl
  have hs := spEqMailS_in hr
  clear hr
  obtain ⟨x, y, rfl, hc, hr, rfl⟩ := hs
  simp only [spEqMailS, Tryd.f28, Go.VM.initS]
  obtain ⟨hx, hy⟩ := hc
  by_cases hl : x.length = y.length
  case neg =>
    have g : ((x.length : Int) == y.length) = false := by rw [beq_eq_false_iff_ne]; omega
    have g' : ((x.length : Int) != y.length) = true := by rw [bne_iff_ne]; omega
    have hne : x ≠ y := fun e => hl (by rw [e])
    simp only [g, g', go_sem]
    repeat' ((first | ((first | apply qa | apply qb | apply qc | apply qd | apply qe | apply qf | apply qg | apply qh | apply qi | apply qj | apply qk) <;> intro hp) | ((first | refine ql rfl rfl (by decide +kernel) ?_ | refine qm _ rfl rfl (by decide +kernel) ?_) <;> have hp := True.intro)) <;> simp only [hp, g, g', go_sem])
    simp only [fin_mk, finV, resL, resV1, resIn, endA, listIn, Option.some_or, Option.none_or, oneOrTup, go_sem]
    rw [← hr]
    simp only [hne, decide_false]
  have hl' : (x.length : Int) = y.length := by omega
  simp only [hl, bne_self_eq_false, go_sem]
  repeat' ((first | ((first | apply qa | apply qb | apply qc | apply qd | apply qe | apply qf | apply qg | apply qh | apply qi | apply qj | apply qk) <;> intro hp) | ((first | refine ql rfl rfl (by decide +kernel) ?_ | refine qm _ rfl rfl (by decide +kernel) ?_) <;> have hp := True.intro)) <;> simp only [hp, hl, bne_self_eq_false, go_sem])
  refine loop_go (fun i : Nat => [(5, .int .i64 (i : Int))]) (fun _ => []) (fun i => x.length - i) (fun i => i ≤ x.length ∧ x.take i = y.take i) 0 ⟨Nat.zero_le _, by simp⟩ rfl rfl ?_
  intro i ⟨hi, he⟩ ih
  rcases Nat.lt_or_ge i x.length with h | h
  · have g1 : (i : Int) < x.length := by omega
    have g1' : (i : Int) < y.length := by omega
    have g2 : (0 : Int) ≤ i := by omega
    have g3 : x[i]? = some x[i] := List.getElem?_eq_getElem h
    have g4 : y[i]? = some (y[i]'(by omega)) := List.getElem?_eq_getElem (by omega)
    have g5 := wrap_succ h (by omega)
    skip
    by_cases hv : x[i] = (y[i]'(by omega))
    · simp only [g1, g1', g2, g3, g4, g5, hv, go_sem]
      repeat' ((first | ((first | apply qa | apply qb | apply qc | apply qd | apply qe | apply qf | apply qg | apply qh | apply qi | apply qj | apply qk) <;> intro hp) | ((first | refine ql rfl rfl (by decide +kernel) ?_ | refine qm _ rfl rfl (by decide +kernel) ?_) <;> have hp := True.intro)) <;> simp only [hp, g1, g1', g2, g3, g4, g5, hv, go_sem])
      exact ih (i + 1) ⟨h, by rw [List.take_add_one, List.take_add_one, he, g3, g4, hv]⟩ (by omega)
    · have hne : x ≠ y := by rintro rfl; exact hv rfl
      have hv1 : (x[i] == (y[i]'(by omega))) = false := by rw [beq_eq_false_iff_ne]; exact hv
      have hv2 : (x[i] != (y[i]'(by omega))) = true := by rw [bne_iff_ne]; exact hv
      simp only [g1, g1', g2, g3, g4, g5, hv, hv1, hv2, go_sem]
      repeat' ((first | ((first | apply qa | apply qb | apply qc | apply qd | apply qe | apply qf | apply qg | apply qh | apply qi | apply qj | apply qk) <;> intro hp) | ((first | refine ql rfl rfl (by decide +kernel) ?_ | refine qm _ rfl rfl (by decide +kernel) ?_) <;> have hp := True.intro)) <;> simp only [hp, g1, g1', g2, g3, g4, g5, hv, hv1, hv2, go_sem])
      simp only [fin_mk, finV, resL, resV1, resIn, endA, listIn, Option.some_or, Option.none_or, oneOrTup, go_sem]
      rw [← hr]
      simp only [hne, decide_false]
  · have g1 : ¬ (i : Int) < x.length := by omega
    have g1' : ¬ (i : Int) < y.length := by omega
    simp only [g1, g1', go_sem]
    simp only [fin_mk, finV, resL, resV1, resIn, endA, listIn, Option.some_or, Option.none_or, oneOrTup, go_sem]
    rw [← hr]
    rw [List.take_of_length_le h, List.take_of_length_le (by omega)] at he
    simp only [he, decide_true]
open Classical in
noncomputable def spMarkMailS : VM.Spec := { modes := [.io, .rd], run := fun | [.lst 4 l', .int .i64 k] => (decL Mail.dec l').bind fun l => if l.length ≤ 4194304 ∧ 0 ≤ k ∧ k ≤ 1152921504606846976 then some (.int .i64 ((markL meMail l k).2), [.lst 4 (((markL meMail l k).1).map Mail.enc)]) else none | _ => none, need := [] }
attribute [go_sem] spMarkMailS
theorem spMarkMailS_in {ins : List V} {r : V} {outs : List V} (h : spMarkMailS.run ins = some (r, outs)) : ∃ (l : (List Mail)) (k : Int), ins = [.lst 4 ((l).map Mail.enc), .int .i64 k] ∧ (l.length ≤ 4194304 ∧ 0 ≤ k ∧ k ≤ 1152921504606846976) ∧ .int .i64 ((markL meMail l k).2) = r ∧ outs = [.lst 4 (((markL meMail l k).1).map Mail.enc)] := by
  unfold spMarkMailS at h
  simp only at h
  split at h
  · rename_i l' k
    simp only [Option.bind_eq_some_iff] at h
    obtain ⟨l, h_l, h⟩ := h
    split at h
    case isFalse => cases h
    rename_i hc
    simp only [Option.some.injEq, Prod.mk.injEq] at h
    obtain ⟨h1, h2⟩ := h
    have h_l := decL_some (fun _ _ h => Mail.dec_some h) h_l
    subst h_l
    exact ⟨l, k, rfl, hc, h1, h2.symm⟩
  · cases h
def T_laws_markMailS : Hints := ⟨lk [], lk [(2, [0, 1, 5])], lk [(0, [0, 1]), (1, [0, 1, 5]), (2, [0, 1, 5, 9]), (4, [0, 1, 5]), (5, [0, 1, 5]), (6, [0, 1, 5]), (7, [0, 1, 5]), (8, [0, 1, 5]), (9, [0, 1, 5]), (10, [0, 1, 5]), (11, [0, 1, 5]), (3, [0, 1, 5]), (12, [4])], lk []⟩
noncomputable def Phi_laws_markMailS : Tab := lk [(51, spMarkText)]
attribute [go_sem] T_laws_markMailS Phi_laws_markMailS
theorem phi_laws_markMailS : ∀ f sp, Phi_laws_markMailS f = some sp → FnOk Tryd.prog f sp ∧ ∀ n ∈ sp.need, n ∈ ([] : List String) := phi_cons ok_laws_markText (n0 rfl) (phi_nil)
theorem ok_laws_markMailS : FnOk Tryd.prog 31 spMarkMailS := by
  refine fn_ok (Φ := Phi_laws_markMailS) (T := T_laws_markMailS) phi_laws_markMailS mixed Tryd.func31 rfl rfl rfl (by decide) ?_
  intro ins r outs hr hl
  clear hl
  have hs := spMarkMailS_in hr
  clear hr
  obtain ⟨l, k, rfl, hc, hr, rfl⟩ := hs
  simp only [spMarkMailS, Tryd.f31, Go.VM.initS]
  obtain ⟨hc, h0, h1⟩ := hc
  simp only [go_sem]
  refine loop_go (fun p : Nat × List V × Int => [(1, .int .i64 p.2.2), (5, .int .i64 (p.1 : Int))]) (fun p => [(0, ⟨.arr, 4, p.2.1⟩)]) (fun p => l.length - p.1) (fun p => p.1 ≤ l.length ∧ p.2.1 = ((markL meMail (l.take p.1) k).1 ++ l.drop p.1).map Mail.enc ∧ p.2.2 = (markL meMail (l.take p.1) k).2 ∧ p.2.2 = k + (4 : Nat) * p.1) (0, l.map Mail.enc, k) ⟨Nat.zero_le _, by simp [markL], rfl, by simp⟩ rfl rfl ?_
  rintro ⟨i, els, k'⟩ ⟨hi, he, hk, hb⟩ ih
  simp only at hi he hk hb ih
  rcases Nat.lt_or_ge i l.length with h | h
  · have g1 : (i : Int) < l.length := by omega
    have g2 : (0 : Int) ≤ i := by omega
    obtain ⟨g3, gl, gs, gk⟩ := mark_round h he
    rw [← hk] at gs gk
    have g5 := wrap_succ h (by omega)
    have j0 : k' ≤ 4611686018427387904 := by omega
    have w0 : IntKind.i64.wrap (k' + 1) = k' + 1 := wrap64 (by omega) (by omega)
    have w1 : IntKind.i64.wrap (k' + 1 + 1) = k' + 1 + 1 := wrap64 (by omega) (by omega)
    have w2 : IntKind.i64.wrap (k' + 1 + 1 + 1) = k' + 1 + 1 + 1 := wrap64 (by omega) (by omega)
    have w3 : IntKind.i64.wrap (k' + 1 + 1 + 1 + 1) = k' + 1 + 1 + 1 + 1 := wrap64 (by omega) (by omega)
    have j1 : k' + 1 ≤ 4611686018427387904 := by omega
    have j2 : k' + 1 + 1 ≤ 4611686018427387904 := by omega
    have j3 : k' + 1 + 1 + 1 ≤ 4611686018427387904 := by omega
    have j4 : k' + 1 + 1 + 1 + 1 ≤ 4611686018427387904 := by omega
    rw [Mail.enc] at g3
    have gi : i < els.length := by omega
    simp only [g1, g2, g3, gl, g5, h, w0, w1, w2, w3, j0, j1, j2, j3, j4, List.getElem?_set_self, List.length_set, List.set_set, go_sem]
    repeat' ((first | apply qa | apply qb | apply qc | apply qd | apply qe | apply qf | apply qg | apply qh | apply qi | apply qj | apply qk) <;> intro hp <;> simp only [hp, g1, g2, g3, gl, g5, h, w0, w1, w2, w3, j0, j1, j2, j3, j4, List.getElem?_set_self, List.length_set, List.set_set, go_sem])
    refine ih (i + 1, els.set i (Mail.enc (meMail l[i] k').1), (meMail l[i] k').2) ⟨h, gs, gk, by simp only [meMail]; omega⟩ (by simp only; omega)
  · have g1 : ¬ (i : Int) < l.length := by omega
    have gl : els.length = l.length := by rw [he]; simp [markL_len]; omega
    simp only [g1, gl, go_sem]
    simp only [fin_mk, finV, resL, resV1, resIn, endA, listIn, Option.some_or, Option.none_or, oneOrTup, go_sem]
    rw [← hr, he, hk, List.take_of_length_le h, List.drop_of_length_le h, List.append_nil]
open Classical in
noncomputable def spToTomb : VM.Spec := { modes := [.rd], run := fun | [x'] => (Tomb.dec x').bind fun x => some (Tomb.enc x, []) | _ => none, need := [] }
attribute [go_sem] spToTomb
theorem spToTomb_in {ins : List V} {r : V} {outs : List V} (h : spToTomb.run ins = some (r, outs)) : ∃ (x : Tomb), ins = [Tomb.enc x] ∧ Tomb.enc x = r ∧ outs = [] := by
  unfold spToTomb at h
  simp only at h
  split at h
  · rename_i x'
    simp only [Option.bind_eq_some_iff] at h
    obtain ⟨x, h_x, h⟩ := h
    simp only [Option.some.injEq, Prod.mk.injEq] at h
    obtain ⟨h1, h2⟩ := h
    have h_x := Tomb.dec_some h_x
    subst h_x
    exact ⟨x, rfl, h1, h2.symm⟩
  · cases h
def T_laws_toTomb : Hints := ⟨lk [], lk [], lk [(0, [1, 2]), (1, [1, 2, 3]), (2, [1, 2, 3]), (3, [2, 3]), (4, [2])], lk []⟩
noncomputable def Phi_laws_toTomb : Tab := lk []
attribute [go_sem] T_laws_toTomb Phi_laws_toTomb
theorem phi_laws_toTomb : ∀ f sp, Phi_laws_toTomb f = some sp → FnOk Tryd.prog f sp ∧ ∀ n ∈ sp.need, n ∈ ([] : List String) := phi_nil
theorem ok_laws_toTomb : FnOk Tryd.prog 44 spToTomb := by
  refine fn_ok (Φ := Phi_laws_toTomb) (T := T_laws_toTomb) phi_laws_toTomb mixed Tryd.func44 rfl rfl rfl (by decide) ?_
  intro ins r outs hr hl
  clear hl
  have hs := spToTomb_in hr
  clear hr
  obtain ⟨x, rfl, hr, rfl⟩ := hs
  simp only [spToTomb, Tryd.f44, Go.VM.initS]
  simp only [go_sem]
  repeat' ((first | apply qa | apply qb | apply qc | apply qd | apply qe | apply qf | apply qg | apply qh | apply qi | apply qj | apply qk) <;> intro hp <;> simp only [hp, go_sem])
  simp only [fin_mk, finV, resL, resV1, resIn, endA, listIn, Option.some_or, Option.none_or, oneOrTup, go_sem]
  rw [← hr]
  rfl
open Classical in
noncomputable def spEqTomb : VM.Spec := { modes := [.rd, .rd], run := fun | [x', y'] => (Tomb.dec x').bind fun x => (Tomb.dec y').bind fun y => some (.bool (decide (x = y)), []) | _ => none, need := [] }
attribute [go_sem] spEqTomb
theorem spEqTomb_in {ins : List V} {r : V} {outs : List V} (h : spEqTomb.run ins = some (r, outs)) : ∃ (x : Tomb) (y : Tomb), ins = [Tomb.enc x, Tomb.enc y] ∧ .bool (decide (x = y)) = r ∧ outs = [] := by
  unfold spEqTomb at h
  simp only at h
  split at h
  · rename_i x' y'
    simp only [Option.bind_eq_some_iff] at h
    obtain ⟨x, h_x, y, h_y, h⟩ := h
    simp only [Option.some.injEq, Prod.mk.injEq] at h
    obtain ⟨h1, h2⟩ := h
    have h_x := Tomb.dec_some h_x
    subst h_x
    have h_y := Tomb.dec_some h_y
    subst h_y
    exact ⟨x, y, rfl, h1, h2.symm⟩
  · cases h
def T_laws_eqTomb : Hints := ⟨lk [], lk [], lk [(0, [2, 3]), (1, [2, 3, 9]), (2, [4]), (3, [14]), (4, [4]), (5, [4])], lk []⟩
noncomputable def Phi_laws_eqTomb : Tab := lk []
attribute [go_sem] T_laws_eqTomb Phi_laws_eqTomb
theorem phi_laws_eqTomb : ∀ f sp, Phi_laws_eqTomb f = some sp → FnOk Tryd.prog f sp ∧ ∀ n ∈ sp.need, n ∈ ([] : List String) := phi_nil
theorem ok_laws_eqTomb : FnOk Tryd.prog 50 spEqTomb := by
  refine fn_ok (Φ := Phi_laws_eqTomb) (T := T_laws_eqTomb) phi_laws_eqTomb mixed Tryd.func50 rfl rfl rfl (by decide) ?_
  intro ins r outs hr hl
  clear hl
  have hs := spEqTomb_in hr
  clear hr
  obtain ⟨x, y, rfl, hr, rfl⟩ := hs
  simp only [spEqTomb, Tryd.f50, Go.VM.initS]
  simp only [and_self, go_sem]
  repeat' ((first | apply qa | apply qb | apply qc | apply qd | apply qe | apply qf | apply qg | apply qh | apply qi | apply qj | apply qk) <;> intro hp <;> simp only [hp, and_self, go_sem])
  all_goals (simp only [fin_mk, finV, resL, resV1, resIn, endA, listIn, Option.some_or, Option.none_or, oneOrTup, go_sem]; rw [← hr])
  all_goals (cases x; cases y; simp_all)
open Classical in
noncomputable def spSzTombS : VM.Spec := { modes := [.rd, .rd], run := fun | [.lst 2 l', .int .i64 n] => (decL Tomb.dec l').bind fun l => if l.length ≤ 4611686018427387904 ∧ 0 ≤ n ∧ n ≤ 4611686018427387904 then some (.int .i64 (szF l n), []) else none | _ => none, need := [] }
attribute [go_sem] spSzTombS
theorem spSzTombS_in {ins : List V} {r : V} {outs : List V} (h : spSzTombS.run ins = some (r, outs)) : ∃ (l : (List Tomb)) (n : Int), ins = [.lst 2 ((l).map Tomb.enc), .int .i64 n] ∧ (l.length ≤ 4611686018427387904 ∧ 0 ≤ n ∧ n ≤ 4611686018427387904) ∧ .int .i64 (szF l n) = r ∧ outs = [] := by
  unfold spSzTombS at h
  simp only at h
  split at h
  · rename_i l' n
    simp only [Option.bind_eq_some_iff] at h
    obtain ⟨l, h_l, h⟩ := h
    split at h
    case isFalse => cases h
    rename_i hc
    simp only [Option.some.injEq, Prod.mk.injEq] at h
    obtain ⟨h1, h2⟩ := h
    have h_l := decL_some (fun _ _ h => Tomb.dec_some h) h_l
    subst h_l
    exact ⟨l, n, rfl, hc, h1, h2.symm⟩
  · cases h
def T_laws_szTombS : Hints := ⟨lk [], lk [], lk [(0, [0, 1]), (1, [1]), (2, [1, 10]), (3, [4]), (4, [4])], lk []⟩
noncomputable def Phi_laws_szTombS : Tab := lk []
attribute [go_sem] T_laws_szTombS Phi_laws_szTombS
theorem phi_laws_szTombS : ∀ f sp, Phi_laws_szTombS f = some sp → FnOk Tryd.prog f sp ∧ ∀ n ∈ sp.need, n ∈ ([] : List String) := phi_nil
theorem ok_laws_szTombS : FnOk Tryd.prog 18 spSzTombS := by
  refine fn_ok (Φ := Phi_laws_szTombS) (T := T_laws_szTombS) phi_laws_szTombS mixed Tryd.func18 rfl rfl rfl (by decide) ?_
  intro ins r outs hr hl
  clear hl
  have hs := spSzTombS_in hr
  clear hr
  obtain ⟨l, n, rfl, hc, hr, rfl⟩ := hs
  simp only [spSzTombS, Tryd.f18, Go.VM.initS]
  obtain ⟨hc, h0, h1⟩ := hc
  have w : IntKind.i64.wrap (n - (l.length : Int)) = n - l.length := wrap64 (by omega) (by omega)
  simp only [w, go_sem]
  repeat' ((first | apply qa | apply qb | apply qc | apply qd | apply qe | apply qf | apply qg | apply qh | apply qi | apply qj | apply qk) <;> intro hp <;> simp only [hp, w, go_sem])
  all_goals (simp only [fin_mk, finV, resL, resV1, resIn, endA, listIn, Option.some_or, Option.none_or, oneOrTup, go_sem]; rw [← hr])
  all_goals simp only [szF, subSz, hp, if_true, if_false]
open Classical in
noncomputable def spToTombS : VM.Spec := { modes := [.rd], run := fun | [.lst 2 l'] => (decL Tomb.dec l').bind fun l => if l.length ≤ 4194304 then some (.lst 2 ((l).map Tomb.enc), []) else none | _ => none, need := [] }
attribute [go_sem] spToTombS
theorem spToTombS_in {ins : List V} {r : V} {outs : List V} (h : spToTombS.run ins = some (r, outs)) : ∃ (l : (List Tomb)), ins = [.lst 2 ((l).map Tomb.enc)] ∧ (l.length ≤ 4194304) ∧ .lst 2 ((l).map Tomb.enc) = r ∧ outs = [] := by
  unfold spToTombS at h
  simp only at h
  split at h
  · rename_i l'
    simp only [Option.bind_eq_some_iff] at h
    obtain ⟨l, h_l, h⟩ := h
    split at h
    case isFalse => cases h
    rename_i hc
    simp only [Option.some.injEq, Prod.mk.injEq] at h
    obtain ⟨h1, h2⟩ := h
    have h_l := decL_some (fun _ _ h => Tomb.dec_some h) h_l
    subst h_l
    exact ⟨l, rfl, hc, h1, h2.symm⟩
  · cases h
def T_laws_toTombS : Hints := ⟨lk [], lk [(3, [0, 3, 4])], lk [(0, [0]), (1, [0, 3]), (2, [0, 3, 4]), (3, [0, 3, 4, 11]), (5, [0, 3, 4]), (4, [0, 3, 4]), (6, [2])], lk []⟩
noncomputable def Phi_laws_toTombS : Tab := lk [(44, spToTomb)]
attribute [go_sem] T_laws_toTombS Phi_laws_toTombS
theorem phi_laws_toTombS : ∀ f sp, Phi_laws_toTombS f = some sp → FnOk Tryd.prog f sp ∧ ∀ n ∈ sp.need, n ∈ ([] : List String) := phi_cons ok_laws_toTomb (n0 rfl) (phi_nil)
theorem ok_laws_toTombS : FnOk Tryd.prog 23 spToTombS := by
  refine fn_ok (Φ := Phi_laws_toTombS) (T := T_laws_toTombS) phi_laws_toTombS mixed Tryd.func23 rfl rfl rfl (by decide) ?_
  intro ins r outs hr hl
  clear hl
  have hs := spToTombS_in hr
  clear hr
  obtain ⟨l, rfl, hc, hr, rfl⟩ := hs
  simp only [spToTombS, Tryd.f23, Go.VM.initS]
  have h1 : (l.length : Int) ≤ 9223372036854775807 := by omega
  have h2 : (l.length : Int) * 16 ≤ 140737488355328 := by omega
  have h3 : (0 : Int) ≤ l.length := by omega
  simp only [h1, h2, h3, Int.cast_ofNat_Int, go_sem]
  refine loop_go (fun p : Nat × List V => [(4, .int .i64 (p.1 : Int))]) (fun p => [(0, ⟨.arr, 2, p.2⟩)]) (fun p => l.length - p.1) (fun p => p.1 ≤ l.length ∧ p.2 = (l.take p.1).map Tomb.enc ++ List.replicate (l.length - p.1) (.agg [.int .i64 0, .int .i64 0])) (0, List.replicate l.length (.agg [.int .i64 0, .int .i64 0])) ⟨Nat.zero_le _, by simp⟩ rfl rfl ?_
  rintro ⟨i, els⟩ ⟨hi, hels⟩ ih
  simp only at hi hels ih
  have hlen : els.length = l.length := by rw [hels]; simp; omega
  rcases Nat.lt_or_ge i l.length with h | h
  · have g1 : (i : Int) < l.length := by omega
    have g2 : (0 : Int) ≤ i := by omega
    have g3 : l[i]? = some l[i] := List.getElem?_eq_getElem h
    have g4 : els[i]? = some (els[i]'(by omega)) := List.getElem?_eq_getElem (by omega)
    have g5 := wrap_succ h (by omega)
    skip
    simp only [g1, g2, g3, g4, g5, hlen, go_sem]
    repeat' ((first | apply qa | apply qb | apply qc | apply qd | apply qe | apply qf | apply qg | apply qh | apply qi | apply qj | apply qk) <;> intro hp <;> simp only [hp, g1, g2, g3, g4, g5, hlen, go_sem])
    refine ih (i + 1, els.set i (.agg [.int .i64 l[i].Uid, .int .i64 l[i].Mod])) ⟨h, ?_⟩ (by simp only; omega)
    simp only
    rw [hels]
    exact fill_step _ h rfl
  · have g1 : ¬ (i : Int) < l.length := by omega
    simp only [g1, go_sem]
    simp only [fin_mk, finV, resL, resV1, resIn, endA, listIn, Option.some_or, Option.none_or, oneOrTup, go_sem]
    rw [← hr, hels, List.take_of_length_le h, show l.length - i = 0 by omega]
    simp
open Classical in
noncomputable def spEqTombS : VM.Spec := { modes := [.rd, .rd], run := fun | [.lst 2 x', .lst 2 y'] => (decL Tomb.dec x').bind fun x => (decL Tomb.dec y').bind fun y => if x.length ≤ 4194304 ∧ y.length ≤ 4194304 then some (.bool (decide (x = y)), []) else none | _ => none, need := [] }
attribute [go_sem] spEqTombS
theorem spEqTombS_in {ins : List V} {r : V} {outs : List V} (h : spEqTombS.run ins = some (r, outs)) : ∃ (x : (List Tomb)) (y : (List Tomb)), ins = [.lst 2 ((x).map Tomb.enc), .lst 2 ((y).map Tomb.enc)] ∧ (x.length ≤ 4194304 ∧ y.length ≤ 4194304) ∧ .bool (decide (x = y)) = r ∧ outs = [] := by
  unfold spEqTombS at h
  simp only at h
  split at h
  · rename_i x' y'
    simp only [Option.bind_eq_some_iff] at h
    obtain ⟨x, h_x, y, h_y, h⟩ := h
    split at h
    case isFalse => cases h
    rename_i hc
    simp only [Option.some.injEq, Prod.mk.injEq] at h
    obtain ⟨h1, h2⟩ := h
    have h_x := decL_some (fun _ _ h => Tomb.dec_some h) h_x
    subst h_x
    have h_y := decL_some (fun _ _ h => Tomb.dec_some h) h_y
    subst h_y
    exact ⟨x, y, rfl, hc, h1, h2.symm⟩
  · cases h
def T_laws_eqTombS : Hints := ⟨lk [(6, [])], lk [(4, [0, 1, 5])], lk [(0, [0, 1]), (1, [0, 1, 10]), (2, [4]), (3, [0, 1, 5]), (4, [0, 1, 5, 14]), (6, [0, 1, 5, 26]), (7, [4]), (5, [0, 1, 5]), (8, [4])], lk []⟩
noncomputable def Phi_laws_eqTombS : Tab := lk [(50, spEqTomb)]
attribute [go_sem] T_laws_eqTombS Phi_laws_eqTombS
theorem phi_laws_eqTombS : ∀ f sp, Phi_laws_eqTombS f = some sp → FnOk Tryd.prog f sp ∧ ∀ n ∈ sp.need, n ∈ ([] : List String) := phi_cons ok_laws_eqTomb (n0 rfl) (phi_nil)
theorem ok_laws_eqTombS : FnOk Tryd.prog 29 spEqTombS := by
  refine fn_ok (Φ := Phi_laws_eqTombS) (T := T_laws_eqTombS) phi_laws_eqTombS mixed Tryd.func29 rfl rfl rfl (by decide) ?_
  intro ins r outs hr hl
  clear hl
  have hs := spEqTombS_in hr
  clear hr
  obtain ⟨x, y, rfl, hc, hr, rfl⟩ := hs
  simp only [spEqTombS, Tryd.f29, Go.VM.initS]
  obtain ⟨hx, hy⟩ := hc
  by_cases hl : x.length = y.length
  case neg =>
    have g : ((x.length : Int) == y.length) = false := by rw [beq_eq_false_iff_ne]; omega
    have g' : ((x.length : Int) != y.length) = true := by rw [bne_iff_ne]; omega
    have hne : x ≠ y := fun e => hl (by rw [e])
    simp only [g, g', go_sem]
    repeat' ((first | ((first | apply qa | apply qb | apply qc | apply qd | apply qe | apply qf | apply qg | apply qh | apply qi | apply qj | apply qk) <;> intro hp) | ((first | refine ql rfl rfl (by decide +kernel) ?_ | refine qm _ rfl rfl (by decide +kernel) ?_) <;> have hp := True.intro)) <;> simp only [hp, g, g', go_sem])
    simp only [fin_mk, finV, resL, resV1, resIn, endA, listIn, Option.some_or, Option.none_or, oneOrTup, go_sem]
    rw [← hr]
    simp only [hne, decide_false]
  have hl' : (x.length : Int) = y.length := by omega
  simp only [hl, bne_self_eq_false, go_sem]
  repeat' ((first | ((first | apply qa | apply qb | apply qc | apply qd | apply qe | apply qf | apply qg | apply qh | apply qi | apply qj | apply qk) <;> intro hp) | ((first | refine ql rfl rfl (by decide +kernel) ?_ | refine qm _ rfl rfl (by decide +kernel) ?_) <;> have hp := True.intro)) <;> simp only [hp, hl, bne_self_eq_false, go_sem])
  refine loop_go (fun i : Nat => [(5, .int .i64 (i : Int))]) (fun _ => []) (fun i => x.length - i) (fun i => i ≤ x.length ∧ x.take i = y.take i) 0 ⟨Nat.zero_le _, by simp⟩ rfl rfl ?_
  intro i ⟨hi, he⟩ ih
  rcases Nat.lt_or_ge i x.length with h | h
  · have g1 : (i : Int) < x.length := by omega
    have g1' : (i : Int) < y.length := by omega
    have g2 : (0 : Int) ≤ i := by omega
    have g3 : x[i]? = some x[i] := List.getElem?_eq_getElem h
    have g4 : y[i]? = some (y[i]'(by omega)) := List.getElem?_eq_getElem (by omega)
    have g5 := wrap_succ h (by omega)
    skip
    by_cases hv : x[i] = (y[i]'(by omega))
    · simp only [g1, g1', g2, g3, g4, g5, hv, go_sem]
      repeat' ((first | ((first | apply qa | apply qb | apply qc | apply qd | apply qe | apply qf | apply qg | apply qh | apply qi | apply qj | apply qk) <;> intro hp) | ((first | refine ql rfl rfl (by decide +kernel) ?_ | refine qm _ rfl rfl (by decide +kernel) ?_) <;> have hp := True.intro)) <;> simp only [hp, g1, g1', g2, g3, g4, g5, hv, go_sem])
      exact ih (i + 1) ⟨h, by rw [List.take_add_one, List.take_add_one, he, g3, g4, hv]⟩ (by omega)
    · have hne : x ≠ y := by rintro rfl; exact hv rfl
      have hv1 : (x[i] == (y[i]'(by omega))) = false := by rw [beq_eq_false_iff_ne]; exact hv
      have hv2 : (x[i] != (y[i]'(by omega))) = true := by rw [bne_iff_ne]; exact hv
      simp only [g1, g1', g2, g3, g4, g5, hv, hv1, hv2, go_sem]
      repeat' ((first | ((first | apply qa | apply qb | apply qc | apply qd | apply qe | apply qf | apply qg | apply qh | apply qi | apply qj | apply qk) <;> intro hp) | ((first | refine ql rfl rfl (by decide +kernel) ?_ | refine qm _ rfl rfl (by decide +kernel) ?_) <;> have hp := True.intro)) <;> simp only [hp, g1, g1', g2, g3, g4, g5, hv, hv1, hv2, go_sem])
      simp only [fin_mk, finV, resL, resV1, resIn, endA, listIn, Option.some_or, Option.none_or, oneOrTup, go_sem]
      rw [← hr]
      simp only [hne, decide_false]
  · have g1 : ¬ (i : Int) < x.length := by omega
    have g1' : ¬ (i : Int) < y.length := by omega
    simp only [g1, g1', go_sem]
    simp only [fin_mk, finV, resL, resV1, resIn, endA, listIn, Option.some_or, Option.none_or, oneOrTup, go_sem]
    rw [← hr]
    rw [List.take_of_length_le h, List.take_of_length_le (by omega)] at he
    simp only [he, decide_true]
open Classical in
noncomputable def spMarkTombS : VM.Spec := { modes := [.io, .rd], run := fun | [.lst 2 l', .int .i64 k] => (decL Tomb.dec l').bind fun l => if l.length ≤ 4194304 ∧ 0 ≤ k ∧ k ≤ 1152921504606846976 then some (.int .i64 ((markL meTomb l k).2), [.lst 2 (((markL meTomb l k).1).map Tomb.enc)]) else none | _ => none, need := [] }
attribute [go_sem] spMarkTombS
theorem spMarkTombS_in {ins : List V} {r : V} {outs : List V} (h : spMarkTombS.run ins = some (r, outs)) : ∃ (l : (List Tomb)) (k : Int), ins = [.lst 2 ((l).map Tomb.enc), .int .i64 k] ∧ (l.length ≤ 4194304 ∧ 0 ≤ k ∧ k ≤ 1152921504606846976) ∧ .int .i64 ((markL meTomb l k).2) = r ∧ outs = [.lst 2 (((markL meTomb l k).1).map Tomb.enc)] := by
  unfold spMarkTombS at h
  simp only at h
  split at h
  · rename_i l' k
    simp only [Option.bind_eq_some_iff] at h
    obtain ⟨l, h_l, h⟩ := h
    split at h
    case isFalse => cases h
    rename_i hc
    simp only [Option.some.injEq, Prod.mk.injEq] at h
    obtain ⟨h1, h2⟩ := h
    have h_l := decL_some (fun _ _ h => Tomb.dec_some h) h_l
    subst h_l
    exact ⟨l, k, rfl, hc, h1, h2.symm⟩
  · cases h
def T_laws_markTombS : Hints := ⟨lk [], lk [(2, [0, 1, 5])], lk [(0, [0, 1]), (1, [0, 1, 5]), (2, [0, 1, 5, 9]), (4, [0, 1, 5]), (5, [0, 1, 5]), (6, [0, 1, 5]), (7, [0, 1, 5]), (3, [0, 1, 5]), (8, [4])], lk []⟩
noncomputable def Phi_laws_markTombS : Tab := lk []
attribute [go_sem] T_laws_markTombS Phi_laws_markTombS
theorem phi_laws_markTombS : ∀ f sp, Phi_laws_markTombS f = some sp → FnOk Tryd.prog f sp ∧ ∀ n ∈ sp.need, n ∈ ([] : List String) := phi_nil
theorem ok_laws_markTombS : FnOk Tryd.prog 32 spMarkTombS := by
  refine fn_ok (Φ := Phi_laws_markTombS) (T := T_laws_markTombS) phi_laws_markTombS mixed Tryd.func32 rfl rfl rfl (by decide) ?_
  intro ins r outs hr hl
  clear hl
  have hs := spMarkTombS_in hr
  clear hr
  obtain ⟨l, k, rfl, hc, hr, rfl⟩ := hs
  simp only [spMarkTombS, Tryd.f32, Go.VM.initS]
  obtain ⟨hc, h0, h1⟩ := hc
  simp only [go_sem]
  refine loop_go (fun p : Nat × List V × Int => [(1, .int .i64 p.2.2), (5, .int .i64 (p.1 : Int))]) (fun p => [(0, ⟨.arr, 2, p.2.1⟩)]) (fun p => l.length - p.1) (fun p => p.1 ≤ l.length ∧ p.2.1 = ((markL meTomb (l.take p.1) k).1 ++ l.drop p.1).map Tomb.enc ∧ p.2.2 = (markL meTomb (l.take p.1) k).2 ∧ p.2.2 = k + (2 : Nat) * p.1) (0, l.map Tomb.enc, k) ⟨Nat.zero_le _, by simp [markL], rfl, by simp⟩ rfl rfl ?_
  rintro ⟨i, els, k'⟩ ⟨hi, he, hk, hb⟩ ih
  simp only at hi he hk hb ih
  rcases Nat.lt_or_ge i l.length with h | h
  · have g1 : (i : Int) < l.length := by omega
    have g2 : (0 : Int) ≤ i := by omega
    obtain ⟨g3, gl, gs, gk⟩ := mark_round h he
    rw [← hk] at gs gk
    have g5 := wrap_succ h (by omega)
    have j0 : k' ≤ 4611686018427387904 := by omega
    have w0 : IntKind.i64.wrap (k' + 1) = k' + 1 := wrap64 (by omega) (by omega)
    have w1 : IntKind.i64.wrap (k' + 1 + 1) = k' + 1 + 1 := wrap64 (by omega) (by omega)
    have j1 : k' + 1 ≤ 4611686018427387904 := by omega
    have j2 : k' + 1 + 1 ≤ 4611686018427387904 := by omega
    rw [Tomb.enc] at g3
    have gi : i < els.length := by omega
    simp only [g1, g2, g3, gl, g5, h, w0, w1, j0, j1, j2, List.getElem?_set_self, List.length_set, List.set_set, go_sem]
    repeat' ((first | apply qa | apply qb | apply qc | apply qd | apply qe | apply qf | apply qg | apply qh | apply qi | apply qj | apply qk) <;> intro hp <;> simp only [hp, g1, g2, g3, gl, g5, h, w0, w1, j0, j1, j2, List.getElem?_set_self, List.length_set, List.set_set, go_sem])
    refine ih (i + 1, els.set i (Tomb.enc (meTomb l[i] k').1), (meTomb l[i] k').2) ⟨h, gs, gk, by simp only [meTomb]; omega⟩ (by simp only; omega)
  · have g1 : ¬ (i : Int) < l.length := by omega
    have gl : els.length = l.length := by rw [he]; simp [markL_len]; omega
    simp only [g1, gl, go_sem]
    simp only [fin_mk, finV, resL, resV1, resIn, endA, listIn, Option.some_or, Option.none_or, oneOrTup, go_sem]
    rw [← hr, he, hk, List.take_of_length_le h, List.drop_of_length_le h, List.append_nil]
open Classical in
noncomputable def spToRange : VM.Spec := { modes := [.rd], run := fun | [x'] => (Range.dec x').bind fun x => some (Range.enc x, []) | _ => none, need := [] }
attribute [go_sem] spToRange
theorem spToRange_in {ins : List V} {r : V} {outs : List V} (h : spToRange.run ins = some (r, outs)) : ∃ (x : Range), ins = [Range.enc x] ∧ Range.enc x = r ∧ outs = [] := by
  unfold spToRange at h
  simp only at h
  split at h
  · rename_i x'
    simp only [Option.bind_eq_some_iff] at h
    obtain ⟨x, h_x, h⟩ := h
    simp only [Option.some.injEq, Prod.mk.injEq] at h
    obtain ⟨h1, h2⟩ := h
    have h_x := Range.dec_some h_x
    subst h_x
    exact ⟨x, rfl, h1, h2.symm⟩
  · cases h
def T_laws_toRange : Hints := ⟨lk [], lk [], lk [(0, [1, 2]), (1, [1, 2, 3]), (2, [1, 2, 3]), (3, [2, 3]), (4, [2])], lk []⟩
noncomputable def Phi_laws_toRange : Tab := lk []
attribute [go_sem] T_laws_toRange Phi_laws_toRange
theorem phi_laws_toRange : ∀ f sp, Phi_laws_toRange f = some sp → FnOk Tryd.prog f sp ∧ ∀ n ∈ sp.need, n ∈ ([] : List String) := phi_nil
theorem ok_laws_toRange : FnOk Tryd.prog 24 spToRange := by
  refine fn_ok (Φ := Phi_laws_toRange) (T := T_laws_toRange) phi_laws_toRange mixed Tryd.func24 rfl rfl rfl (by decide) ?_
  intro ins r outs hr hl
  clear hl
  have hs := spToRange_in hr
  clear hr
  obtain ⟨x, rfl, hr, rfl⟩ := hs
  simp only [spToRange, Tryd.f24, Go.VM.initS]
  simp only [go_sem]
  repeat' ((first | apply qa | apply qb | apply qc | apply qd | apply qe | apply qf | apply qg | apply qh | apply qi | apply qj | apply qk) <;> intro hp <;> simp only [hp, go_sem])
  simp only [fin_mk, finV, resL, resV1, resIn, endA, listIn, Option.some_or, Option.none_or, oneOrTup, go_sem]
  rw [← hr]
  rfl
open Classical in
noncomputable def spEqRange : VM.Spec := { modes := [.rd, .rd], run := fun | [x', y'] => (Range.dec x').bind fun x => (Range.dec y').bind fun y => some (.bool (decide (x = y)), []) | _ => none, need := [] }
attribute [go_sem] spEqRange
theorem spEqRange_in {ins : List V} {r : V} {outs : List V} (h : spEqRange.run ins = some (r, outs)) : ∃ (x : Range) (y : Range), ins = [Range.enc x, Range.enc y] ∧ .bool (decide (x = y)) = r ∧ outs = [] := by
  unfold spEqRange at h
  simp only at h
  split at h
  · rename_i x' y'
    simp only [Option.bind_eq_some_iff] at h
    obtain ⟨x, h_x, y, h_y, h⟩ := h
    simp only [Option.some.injEq, Prod.mk.injEq] at h
    obtain ⟨h1, h2⟩ := h
    have h_x := Range.dec_some h_x
    subst h_x
    have h_y := Range.dec_some h_y
    subst h_y
    exact ⟨x, y, rfl, h1, h2.symm⟩
  · cases h
def T_laws_eqRange : Hints := ⟨lk [], lk [], lk [(0, [2, 3]), (1, [2, 3, 9]), (2, [4]), (3, [14]), (4, [4]), (5, [4])], lk []⟩
noncomputable def Phi_laws_eqRange : Tab := lk []
attribute [go_sem] T_laws_eqRange Phi_laws_eqRange
theorem phi_laws_eqRange : ∀ f sp, Phi_laws_eqRange f = some sp → FnOk Tryd.prog f sp ∧ ∀ n ∈ sp.need, n ∈ ([] : List String) := phi_nil
theorem ok_laws_eqRange : FnOk Tryd.prog 30 spEqRange := by
  refine fn_ok (Φ := Phi_laws_eqRange) (T := T_laws_eqRange) phi_laws_eqRange mixed Tryd.func30 rfl rfl rfl (by decide) ?_
  intro ins r outs hr hl
  clear hl
  have hs := spEqRange_in hr
  clear hr
  obtain ⟨x, y, rfl, hr, rfl⟩ := hs
  simp only [spEqRange, Tryd.f30, Go.VM.initS]
  simp only [and_self, go_sem]
  repeat' ((first | apply qa | apply qb | apply qc | apply qd | apply qe | apply qf | apply qg | apply qh | apply qi | apply qj | apply qk) <;> intro hp <;> simp only [hp, and_self, go_sem])
  all_goals (simp only [fin_mk, finV, resL, resV1, resIn, endA, listIn, Option.some_or, Option.none_or, oneOrTup, go_sem]; rw [← hr])
  all_goals (cases x; cases y; simp_all)
open Classical in
noncomputable def spSzRangeS : VM.Spec := { modes := [.rd, .rd], run := fun | [.lst 2 l', .int .i64 n] => (decL Range.dec l').bind fun l => if l.length ≤ 4611686018427387904 ∧ 0 ≤ n ∧ n ≤ 4611686018427387904 then some (.int .i64 (szF l n), []) else none | _ => none, need := [] }
attribute [go_sem] spSzRangeS
theorem spSzRangeS_in {ins : List V} {r : V} {outs : List V} (h : spSzRangeS.run ins = some (r, outs)) : ∃ (l : (List Range)) (n : Int), ins = [.lst 2 ((l).map Range.enc), .int .i64 n] ∧ (l.length ≤ 4611686018427387904 ∧ 0 ≤ n ∧ n ≤ 4611686018427387904) ∧ .int .i64 (szF l n) = r ∧ outs = [] := by
  unfold spSzRangeS at h
  simp only at h
  split at h
  · rename_i l' n
    simp only [Option.bind_eq_some_iff] at h
    obtain ⟨l, h_l, h⟩ := h
    split at h
    case isFalse => cases h
    rename_i hc
    simp only [Option.some.injEq, Prod.mk.injEq] at h
    obtain ⟨h1, h2⟩ := h
    have h_l := decL_some (fun _ _ h => Range.dec_some h) h_l
    subst h_l
    exact ⟨l, n, rfl, hc, h1, h2.symm⟩
  · cases h
def T_laws_szRangeS : Hints := ⟨lk [], lk [], lk [(0, [0, 1]), (1, [1]), (2, [1, 10]), (3, [4]), (4, [4])], lk []⟩
noncomputable def Phi_laws_szRangeS : Tab := lk []
attribute [go_sem] T_laws_szRangeS Phi_laws_szRangeS
theorem phi_laws_szRangeS : ∀ f sp, Phi_laws_szRangeS f = some sp → FnOk Tryd.prog f sp ∧ ∀ n ∈ sp.need, n ∈ ([] : List String) := phi_nil
theorem ok_laws_szRangeS : FnOk Tryd.prog 5 spSzRangeS := by
  refine fn_ok (Φ := Phi_laws_szRangeS) (T := T_laws_szRangeS) phi_laws_szRangeS mixed Tryd.func5 rfl rfl rfl (by decide) ?_
  intro ins r outs hr hl
  clear hl
  have hs := spSzRangeS_in hr
  clear hr
  obtain ⟨l, n, rfl, hc, hr, rfl⟩ := hs
  simp only [spSzRangeS, Tryd.f5, Go.VM.initS]
  obtain ⟨hc, h0, h1⟩ := hc
  have w : IntKind.i64.wrap (n - (l.length : Int)) = n - l.length := wrap64 (by omega) (by omega)
  simp only [w, go_sem]
  repeat' ((first | apply qa | apply qb | apply qc | apply qd | apply qe | apply qf | apply qg | apply qh | apply qi | apply qj | apply qk) <;> intro hp <;> simp only [hp, w, go_sem])
  all_goals (simp only [fin_mk, finV, resL, resV1, resIn, endA, listIn, Option.some_or, Option.none_or, oneOrTup, go_sem]; rw [← hr])
  all_goals simp only [szF, subSz, hp, if_true, if_false]
open Classical in
noncomputable def spToRangeS : VM.Spec := { modes := [.rd], run := fun | [.lst 2 l'] => (decL Range.dec l').bind fun l => if l.length ≤ 4194304 then some (.lst 2 ((l).map Range.enc), []) else none | _ => none, need := [] }
attribute [go_sem] spToRangeS
theorem spToRangeS_in {ins : List V} {r : V} {outs : List V} (h : spToRangeS.run ins = some (r, outs)) : ∃ (l : (List Range)), ins = [.lst 2 ((l).map Range.enc)] ∧ (l.length ≤ 4194304) ∧ .lst 2 ((l).map Range.enc) = r ∧ outs = [] := by
  unfold spToRangeS at h
  simp only at h
  split at h
  · rename_i l'
    simp only [Option.bind_eq_some_iff] at h
    obtain ⟨l, h_l, h⟩ := h
    split at h
    case isFalse => cases h
    rename_i hc
    simp only [Option.some.injEq, Prod.mk.injEq] at h
    obtain ⟨h1, h2⟩ := h
    have h_l := decL_some (fun _ _ h => Range.dec_some h) h_l
    subst h_l
    exact ⟨l, rfl, hc, h1, h2.symm⟩
  · cases h
def T_laws_toRangeS : Hints := ⟨lk [], lk [(3, [0, 3, 4])], lk [(0, [0]), (1, [0, 3]), (2, [0, 3, 4]), (3, [0, 3, 4, 11]), (5, [0, 3, 4]), (4, [0, 3, 4]), (6, [2])], lk []⟩
noncomputable def Phi_laws_toRangeS : Tab := lk [(24, spToRange)]
attribute [go_sem] T_laws_toRangeS Phi_laws_toRangeS
theorem phi_laws_toRangeS : ∀ f sp, Phi_laws_toRangeS f = some sp → FnOk Tryd.prog f sp ∧ ∀ n ∈ sp.need, n ∈ ([] : List String) := phi_cons ok_laws_toRange (n0 rfl) (phi_nil)
theorem ok_laws_toRangeS : FnOk Tryd.prog 8 spToRangeS := by
  refine fn_ok (Φ := Phi_laws_toRangeS) (T := T_laws_toRangeS) phi_laws_toRangeS mixed Tryd.func8 rfl rfl rfl (by decide) ?_
  intro ins r outs hr hl
  clear hl
  have hs := spToRangeS_in hr
  clear hr
  obtain ⟨l, rfl, hc, hr, rfl⟩ := hs
  simp only [spToRangeS, Tryd.f8, Go.VM.initS]
  have h1 : (l.length : Int) ≤ 9223372036854775807 := by omega
  have h2 : (l.length : Int) * 16 ≤ 140737488355328 := by omega
  have h3 : (0 : Int) ≤ l.length := by omega
  simp only [h1, h2, h3, Int.cast_ofNat_Int, go_sem]
  refine loop_go (fun p : Nat × List V => [(4, .int .i64 (p.1 : Int))]) (fun p => [(0, ⟨.arr, 2, p.2⟩)]) (fun p => l.length - p.1) (fun p => p.1 ≤ l.length ∧ p.2 = (l.take p.1).map Range.enc ++ List.replicate (l.length - p.1) (.agg [.int .i64 0, .int .i64 0])) (0, List.replicate l.length (.agg [.int .i64 0, .int .i64 0])) ⟨Nat.zero_le _, by simp⟩ rfl rfl ?_
  rintro ⟨i, els⟩ ⟨hi, hels⟩ ih
  simp only at hi hels ih
  have hlen : els.length = l.length := by rw [hels]; simp; omega
  rcases Nat.lt_or_ge i l.length with h | h
  · have g1 : (i : Int) < l.length := by omega
    have g2 : (0 : Int) ≤ i := by omega
    have g3 : l[i]? = some l[i] := List.getElem?_eq_getElem h
    have g4 : els[i]? = some (els[i]'(by omega)) := List.getElem?_eq_getElem (by omega)
    have g5 := wrap_succ h (by omega)
    skip
    simp only [g1, g2, g3, g4, g5, hlen, go_sem]
    repeat' ((first | apply qa | apply qb | apply qc | apply qd | apply qe | apply qf | apply qg | apply qh | apply qi | apply qj | apply qk) <;> intro hp <;> simp only [hp, g1, g2, g3, g4, g5, hlen, go_sem])
    refine ih (i + 1, els.set i (.agg [.int .i64 l[i].Lo, .int .i64 l[i].Hi])) ⟨h, ?_⟩ (by simp only; omega)
    simp only
    rw [hels]
    exact fill_step _ h rfl
  · have g1 : ¬ (i : Int) < l.length := by omega
    simp only [g1, go_sem]
    simp only [fin_mk, finV, resL, resV1, resIn, endA, listIn, Option.some_or, Option.none_or, oneOrTup, go_sem]
    rw [← hr, hels, List.take_of_length_le h, show l.length - i = 0 by omega]
    simp
open Classical in
noncomputable def spEqRangeS : VM.Spec := { modes := [.rd, .rd], run := fun | [.lst 2 x', .lst 2 y'] => (decL Range.dec x').bind fun x => (decL Range.dec y').bind fun y => if x.length ≤ 4194304 ∧ y.length ≤ 4194304 then some (.bool (decide (x = y)), []) else none | _ => none, need := [] }
attribute [go_sem] spEqRangeS
theorem spEqRangeS_in {ins : List V} {r : V} {outs : List V} (h : spEqRangeS.run ins = some (r, outs)) : ∃ (x : (List Range)) (y : (List Range)), ins = [.lst 2 ((x).map Range.enc), .lst 2 ((y).map Range.enc)] ∧ (x.length ≤ 4194304 ∧ y.length ≤ 4194304) ∧ .bool (decide (x = y)) = r ∧ outs = [] := by
  unfold spEqRangeS at h
  simp only at h
  split at h
  · rename_i x' y'
    simp only [Option.bind_eq_some_iff] at h
    obtain ⟨x, h_x, y, h_y, h⟩ := h
    split at h
    case isFalse => cases h
    rename_i hc
    simp only [Option.some.injEq, Prod.mk.injEq] at h
    obtain ⟨h1, h2⟩ := h
    have h_x := decL_some (fun _ _ h => Range.dec_some h) h_x
    subst h_x
    have h_y := decL_some (fun _ _ h => Range.dec_some h) h_y
    subst h_y
    exact ⟨x, y, rfl, hc, h1, h2.symm⟩
  · cases h
def T_laws_eqRangeS : Hints := ⟨lk [(6, [])], lk [(4, [0, 1, 5])], lk [(0, [0, 1]), (1, [0, 1, 10]), (2, [4]), (3, [0, 1, 5]), (4, [0, 1, 5, 14]), (6, [0, 1, 5, 26]), (7, [4]), (5, [0, 1, 5]), (8, [4])], lk []⟩
noncomputable def Phi_laws_eqRangeS : Tab := lk [(30, spEqRange)]
attribute [go_sem] T_laws_eqRangeS Phi_laws_eqRangeS
theorem phi_laws_eqRangeS : ∀ f sp, Phi_laws_eqRangeS f = some sp → FnOk Tryd.prog f sp ∧ ∀ n ∈ sp.need, n ∈ ([] : List String) := phi_cons ok_laws_eqRange (n0 rfl) (phi_nil)
theorem ok_laws_eqRangeS : FnOk Tryd.prog 12 spEqRangeS := by
  refine fn_ok (Φ := Phi_laws_eqRangeS) (T := T_laws_eqRangeS) phi_laws_eqRangeS mixed Tryd.func12 rfl rfl rfl (by decide) ?_
  intro ins r outs hr hl
  clear hl
  have hs := spEqRangeS_in hr
  clear hr
  obtain ⟨x, y, rfl, hc, hr, rfl⟩ := hs
  simp only [spEqRangeS, Tryd.f12, Go.VM.initS]
  obtain ⟨hx, hy⟩ := hc
  by_cases hl : x.length = y.length
  case neg =>
    have g : ((x.length : Int) == y.length) = false := by rw [beq_eq_false_iff_ne]; omega
    have g' : ((x.length : Int) != y.length) = true := by rw [bne_iff_ne]; omega
    have hne : x ≠ y := fun e => hl (by rw [e])
    simp only [g, g', go_sem]
    repeat' ((first | ((first | apply qa | apply qb | apply qc | apply qd | apply qe | apply qf | apply qg | apply qh | apply qi | apply qj | apply qk) <;> intro hp) | ((first | refine ql rfl rfl (by decide +kernel) ?_ | refine qm _ rfl rfl (by decide +kernel) ?_) <;> have hp := True.intro)) <;> simp only [hp, g, g', go_sem])
    simp only [fin_mk, finV, resL, resV1, resIn, endA, listIn, Option.some_or, Option.none_or, oneOrTup, go_sem]
    rw [← hr]
    simp only [hne, decide_false]
  have hl' : (x.length : Int) = y.length := by omega
  simp only [hl, bne_self_eq_false, go_sem]
  repeat' ((first | ((first | apply qa | apply qb | apply qc | apply qd | apply qe | apply qf | apply qg | apply qh | apply qi | apply qj | apply qk) <;> intro hp) | ((first | refine ql rfl rfl (by decide +kernel) ?_ | refine qm _ rfl rfl (by decide +kernel) ?_) <;> have hp := True.intro)) <;> simp only [hp, hl, bne_self_eq_false, go_sem])
  refine loop_go (fun i : Nat => [(5, .int .i64 (i : Int))]) (fun _ => []) (fun i => x.length - i) (fun i => i ≤ x.length ∧ x.take i = y.take i) 0 ⟨Nat.zero_le _, by simp⟩ rfl rfl ?_
  intro i ⟨hi, he⟩ ih
  rcases Nat.lt_or_ge i x.length with h | h
  · have g1 : (i : Int) < x.length := by omega
    have g1' : (i : Int) < y.length := by omega
    have g2 : (0 : Int) ≤ i := by omega
    have g3 : x[i]? = some x[i] := List.getElem?_eq_getElem h
    have g4 : y[i]? = some (y[i]'(by omega)) := List.getElem?_eq_getElem (by omega)
    have g5 := wrap_succ h (by omega)
    skip
    by_cases hv : x[i] = (y[i]'(by omega))
    · simp only [g1, g1', g2, g3, g4, g5, hv, go_sem]
      repeat' ((first | ((first | apply qa | apply qb | apply qc | apply qd | apply qe | apply qf | apply qg | apply qh | apply qi | apply qj | apply qk) <;> intro hp) | ((first | refine ql rfl rfl (by decide +kernel) ?_ | refine qm _ rfl rfl (by decide +kernel) ?_) <;> have hp := True.intro)) <;> simp only [hp, g1, g1', g2, g3, g4, g5, hv, go_sem])
      exact ih (i + 1) ⟨h, by rw [List.take_add_one, List.take_add_one, he, g3, g4, hv]⟩ (by omega)
    · have hne : x ≠ y := by rintro rfl; exact hv rfl
      have hv1 : (x[i] == (y[i]'(by omega))) = false := by rw [beq_eq_false_iff_ne]; exact hv
      have hv2 : (x[i] != (y[i]'(by omega))) = true := by rw [bne_iff_ne]; exact hv
      simp only [g1, g1', g2, g3, g4, g5, hv, hv1, hv2, go_sem]
      repeat' ((first | ((first | apply qa | apply qb | apply qc | apply qd | apply qe | apply qf | apply qg | apply qh | apply qi | apply qj | apply qk) <;> intro hp) | ((first | refine ql rfl rfl (by decide +kernel) ?_ | refine qm _ rfl rfl (by decide +kernel) ?_) <;> have hp := True.intro)) <;> simp only [hp, g1, g1', g2, g3, g4, g5, hv, hv1, hv2, go_sem])
      simp only [fin_mk, finV, resL, resV1, resIn, endA, listIn, Option.some_or, Option.none_or, oneOrTup, go_sem]
      rw [← hr]
      simp only [hne, decide_false]
  · have g1 : ¬ (i : Int) < x.length := by omega
    have g1' : ¬ (i : Int) < y.length := by omega
    simp only [g1, g1', go_sem]
    simp only [fin_mk, finV, resL, resV1, resIn, endA, listIn, Option.some_or, Option.none_or, oneOrTup, go_sem]
    rw [← hr]
    rw [List.take_of_length_le h, List.take_of_length_le (by omega)] at he
    simp only [he, decide_true]
open Classical in
noncomputable def spMarkRangeS : VM.Spec := { modes := [.io, .rd], run := fun | [.lst 2 l', .int .i64 k] => (decL Range.dec l').bind fun l => if l.length ≤ 4194304 ∧ 0 ≤ k ∧ k ≤ 1152921504606846976 then some (.int .i64 ((markL meRange l k).2), [.lst 2 (((markL meRange l k).1).map Range.enc)]) else none | _ => none, need := [] }
attribute [go_sem] spMarkRangeS
theorem spMarkRangeS_in {ins : List V} {r : V} {outs : List V} (h : spMarkRangeS.run ins = some (r, outs)) : ∃ (l : (List Range)) (k : Int), ins = [.lst 2 ((l).map Range.enc), .int .i64 k] ∧ (l.length ≤ 4194304 ∧ 0 ≤ k ∧ k ≤ 1152921504606846976) ∧ .int .i64 ((markL meRange l k).2) = r ∧ outs = [.lst 2 (((markL meRange l k).1).map Range.enc)] := by
  unfold spMarkRangeS at h
  simp only at h
  split at h
  · rename_i l' k
    simp only [Option.bind_eq_some_iff] at h
    obtain ⟨l, h_l, h⟩ := h
    split at h
    case isFalse => cases h
    rename_i hc
    simp only [Option.some.injEq, Prod.mk.injEq] at h
    obtain ⟨h1, h2⟩ := h
    have h_l := decL_some (fun _ _ h => Range.dec_some h) h_l
    subst h_l
    exact ⟨l, k, rfl, hc, h1, h2.symm⟩
  · cases h
def T_laws_markRangeS : Hints := ⟨lk [], lk [(2, [0, 1, 5])], lk [(0, [0, 1]), (1, [0, 1, 5]), (2, [0, 1, 5, 9]), (4, [0, 1, 5]), (5, [0, 1, 5]), (6, [0, 1, 5]), (7, [0, 1, 5]), (3, [0, 1, 5]), (8, [4])], lk []⟩
noncomputable def Phi_laws_markRangeS : Tab := lk []
attribute [go_sem] T_laws_markRangeS Phi_laws_markRangeS
theorem phi_laws_markRangeS : ∀ f sp, Phi_laws_markRangeS f = some sp → FnOk Tryd.prog f sp ∧ ∀ n ∈ sp.need, n ∈ ([] : List String) := phi_nil
theorem ok_laws_markRangeS : FnOk Tryd.prog 14 spMarkRangeS := by
  refine fn_ok (Φ := Phi_laws_markRangeS) (T := T_laws_markRangeS) phi_laws_markRangeS mixed Tryd.func14 rfl rfl rfl (by decide) ?_
  intro ins r outs hr hl
  clear hl
  have hs := spMarkRangeS_in hr
  clear hr
  obtain ⟨l, k, rfl, hc, hr, rfl⟩ := hs
  simp only [spMarkRangeS, Tryd.f14, Go.VM.initS]
  obtain ⟨hc, h0, h1⟩ := hc
  simp only [go_sem]
  refine loop_go (fun p : Nat × List V × Int => [(1, .int .i64 p.2.2), (5, .int .i64 (p.1 : Int))]) (fun p => [(0, ⟨.arr, 2, p.2.1⟩)]) (fun p => l.length - p.1) (fun p => p.1 ≤ l.length ∧ p.2.1 = ((markL meRange (l.take p.1) k).1 ++ l.drop p.1).map Range.enc ∧ p.2.2 = (markL meRange (l.take p.1) k).2 ∧ p.2.2 = k + (2 : Nat) * p.1) (0, l.map Range.enc, k) ⟨Nat.zero_le _, by simp [markL], rfl, by simp⟩ rfl rfl ?_
  rintro ⟨i, els, k'⟩ ⟨hi, he, hk, hb⟩ ih
  simp only at hi he hk hb ih
  rcases Nat.lt_or_ge i l.length with h | h
  · have g1 : (i : Int) < l.length := by omega
    have g2 : (0 : Int) ≤ i := by omega
    obtain ⟨g3, gl, gs, gk⟩ := mark_round h he
    rw [← hk] at gs gk
    have g5 := wrap_succ h (by omega)
    have j0 : k' ≤ 4611686018427387904 := by omega
    have w0 : IntKind.i64.wrap (k' + 1) = k' + 1 := wrap64 (by omega) (by omega)
    have w1 : IntKind.i64.wrap (k' + 1 + 1) = k' + 1 + 1 := wrap64 (by omega) (by omega)
    have j1 : k' + 1 ≤ 4611686018427387904 := by omega
    have j2 : k' + 1 + 1 ≤ 4611686018427387904 := by omega
    rw [Range.enc] at g3
    have gi : i < els.length := by omega
    simp only [g1, g2, g3, gl, g5, h, w0, w1, j0, j1, j2, List.getElem?_set_self, List.length_set, List.set_set, go_sem]
    repeat' ((first | apply qa | apply qb | apply qc | apply qd | apply qe | apply qf | apply qg | apply qh | apply qi | apply qj | apply qk) <;> intro hp <;> simp only [hp, g1, g2, g3, gl, g5, h, w0, w1, j0, j1, j2, List.getElem?_set_self, List.length_set, List.set_set, go_sem])
    refine ih (i + 1, els.set i (Range.enc (meRange l[i] k').1), (meRange l[i] k').2) ⟨h, gs, gk, by simp only [meRange]; omega⟩ (by simp only; omega)
  · have g1 : ¬ (i : Int) < l.length := by omega
    have gl : els.length = l.length := by rw [he]; simp [markL_len]; omega
    simp only [g1, gl, go_sem]
    simp only [fin_mk, finV, resL, resV1, resIn, endA, listIn, Option.some_or, Option.none_or, oneOrTup, go_sem]
    rw [← hr, he, hk, List.take_of_length_le h, List.drop_of_length_le h, List.append_nil]
open Classical in
noncomputable def spSzBox : VM.Spec := { modes := [.rd, .rd], run := fun | [x', .int .i64 n] => (Box.dec x').bind fun x => if x.le 4611686018427387904 ∧ 0 ≤ n ∧ n ≤ 4611686018427387904 then some (.int .i64 (Box.sz x n), []) else none | _ => none, need := [] }
attribute [go_sem] spSzBox
theorem spSzBox_in {ins : List V} {r : V} {outs : List V} (h : spSzBox.run ins = some (r, outs)) : ∃ (x : Box) (n : Int), ins = [Box.enc x, .int .i64 n] ∧ (x.le 4611686018427387904 ∧ 0 ≤ n ∧ n ≤ 4611686018427387904) ∧ .int .i64 (Box.sz x n) = r ∧ outs = [] := by
  unfold spSzBox at h
  simp only at h
  split at h
  · rename_i x' n
    simp only [Option.bind_eq_some_iff] at h
    obtain ⟨x, h_x, h⟩ := h
    split at h
    case isFalse => cases h
    rename_i hc
    simp only [Option.some.injEq, Prod.mk.injEq] at h
    obtain ⟨h1, h2⟩ := h
    have h_x := Box.dec_some h_x
    subst h_x
    exact ⟨x, n, rfl, hc, h1, h2.symm⟩
  · cases h
def T_laws_szBox : Hints := ⟨lk [], lk [], lk [(0, [1, 2]), (1, [1, 2]), (2, [1, 2, 11]), (3, [4]), (4, [1, 2]), (5, [1, 2, 17]), (6, [4]), (7, [1]), (8, [1, 23]), (9, [4]), (10, [4])], lk []⟩
noncomputable def Phi_laws_szBox : Tab := lk [(17, spSzMailS), (18, spSzTombS)]
attribute [go_sem] T_laws_szBox Phi_laws_szBox
theorem phi_laws_szBox : ∀ f sp, Phi_laws_szBox f = some sp → FnOk Tryd.prog f sp ∧ ∀ n ∈ sp.need, n ∈ ([] : List String) := phi_cons ok_laws_szMailS (n0 rfl) (phi_cons ok_laws_szTombS (n0 rfl) (phi_nil))
theorem ok_laws_szBox : FnOk Tryd.prog 4 spSzBox := by
  refine fn_ok (Φ := Phi_laws_szBox) (T := T_laws_szBox) phi_laws_szBox mixed Tryd.func4 rfl rfl rfl (by decide) ?_
  intro ins r outs hr hl
  clear hl
  have hs := spSzBox_in hr
  clear hr
  obtain ⟨x, n, rfl, hc, hr, rfl⟩ := hs
  simp only [spSzBox, Tryd.f4, Go.VM.initS]
  obtain ⟨hc, h0, h1⟩ := hc
  obtain ⟨c0, c1, c2⟩ := hc
  have c0 : x.Name.length ≤ 4611686018427387904 := c0
  have w0 : IntKind.i64.wrap (n - (x.Name.length : Int)) = (n - (x.Name.length : Int)) := wrap64 (by omega) (by omega)
  by_cases b0 : (n - (x.Name.length : Int)) < 0
  · simp only [w0, b0, go_sem]
    repeat' ((first | apply qa | apply qb | apply qc | apply qd | apply qe | apply qf | apply qg | apply qh | apply qi | apply qj | apply qk) <;> intro hp <;> simp only [hp, w0, b0, go_sem])
    simp only [fin_mk, finV, resL, resV1, resIn, endA, listIn, Option.some_or, Option.none_or, oneOrTup, go_sem]
    rw [← hr]
    simp only [Box.sz, thenSz, subSz, b0, if_true, if_false, Int.reduceNeg, Int.reduceLT]
  have a0 : 0 ≤ (n - (x.Name.length : Int)) := by omega
  have d0 : (n - (x.Name.length : Int)) ≤ 4611686018427387904 := by omega
  have c1 : leL Mail.le 4611686018427387904 x.Mails := c1
  rcases (szLL_ok Mail.sz_ok) x.Mails (n - (x.Name.length : Int)) 4611686018427387904 a0 d0 with e | ⟨a1, d1, -⟩
  · simp only [w0, b0, c1, a0, d0, e, go_sem]
    repeat' ((first | apply qa | apply qb | apply qc | apply qd | apply qe | apply qf | apply qg | apply qh | apply qi | apply qj | apply qk) <;> intro hp <;> simp only [hp, w0, b0, c1, a0, d0, e, go_sem])
    simp only [fin_mk, finV, resL, resV1, resIn, endA, listIn, Option.some_or, Option.none_or, oneOrTup, go_sem]
    rw [← hr]
    simp only [Box.sz, thenSz, subSz, b0, e, if_true, if_false, Int.reduceNeg, Int.reduceLT]
  have b1 : ¬ ((szLL Mail.sz) x.Mails (n - (x.Name.length : Int))) < 0 := Int.not_lt.2 a1
  have d1 : ((szLL Mail.sz) x.Mails (n - (x.Name.length : Int))) ≤ 4611686018427387904 := Int.le_trans d1 d0
  have c2 : x.Tombs.length ≤ 4611686018427387904 := c2.1
  rcases (szF_ok (p := Tomb.le) (fun b x => trivial)) x.Tombs ((szLL Mail.sz) x.Mails (n - (x.Name.length : Int))) 4611686018427387904 a1 d1 with e | ⟨a2, d2, -⟩
  · simp only [w0, b0, c1, a0, d0, b1, c2, a1, d1, e, go_sem]
    repeat' ((first | apply qa | apply qb | apply qc | apply qd | apply qe | apply qf | apply qg | apply qh | apply qi | apply qj | apply qk) <;> intro hp <;> simp only [hp, w0, b0, c1, a0, d0, b1, c2, a1, d1, e, go_sem])
    simp only [fin_mk, finV, resL, resV1, resIn, endA, listIn, Option.some_or, Option.none_or, oneOrTup, go_sem]
    rw [← hr]
    simp only [Box.sz, thenSz, subSz, b0, b1, e, if_true, if_false, Int.reduceNeg, Int.reduceLT]
  have b2 : ¬ (szF x.Tombs ((szLL Mail.sz) x.Mails (n - (x.Name.length : Int)))) < 0 := Int.not_lt.2 a2
  have d2 : (szF x.Tombs ((szLL Mail.sz) x.Mails (n - (x.Name.length : Int)))) ≤ 4611686018427387904 := Int.le_trans d2 d1
  simp only [w0, b0, c1, a0, d0, b1, c2, a1, d1, b2, go_sem]
  repeat' ((first | apply qa | apply qb | apply qc | apply qd | apply qe | apply qf | apply qg | apply qh | apply qi | apply qj | apply qk) <;> intro hp <;> simp only [hp, w0, b0, c1, a0, d0, b1, c2, a1, d1, b2, go_sem])
  simp only [fin_mk, finV, resL, resV1, resIn, endA, listIn, Option.some_or, Option.none_or, oneOrTup, go_sem]
  rw [← hr]
  simp only [Box.sz, thenSz, subSz, b0, b1, b2, if_true, if_false]
open Classical in
noncomputable def spToBox : VM.Spec := { modes := [.rd], run := fun | [x'] => (Box.dec x').bind fun x => if x.le 4194304 then some (Box.enc x, []) else none | _ => none, need := [] }
attribute [go_sem] spToBox
theorem spToBox_in {ins : List V} {r : V} {outs : List V} (h : spToBox.run ins = some (r, outs)) : ∃ (x : Box), ins = [Box.enc x] ∧ (x.le 4194304) ∧ Box.enc x = r ∧ outs = [] := by
  unfold spToBox at h
  simp only at h
  split at h
  · rename_i x'
    simp only [Option.bind_eq_some_iff] at h
    obtain ⟨x, h_x, h⟩ := h
    split at h
    case isFalse => cases h
    rename_i hc
    simp only [Option.some.injEq, Prod.mk.injEq] at h
    obtain ⟨h1, h2⟩ := h
    have h_x := Box.dec_some h_x
    subst h_x
    exact ⟨x, rfl, hc, h1, h2.symm⟩
  · cases h
def T_laws_toBox : Hints := ⟨lk [], lk [], lk [(0, [1, 2]), (1, [1, 2, 3]), (2, [1, 2, 3]), (3, [1, 2, 3]), (4, [1, 2, 3]), (5, [1, 2, 3]), (6, [1, 2, 3]), (7, [1, 2, 3]), (8, [2, 3]), (9, [2])], lk []⟩
noncomputable def Phi_laws_toBox : Tab := lk [(22, spToMailS), (23, spToTombS)]
attribute [go_sem] T_laws_toBox Phi_laws_toBox
theorem phi_laws_toBox : ∀ f sp, Phi_laws_toBox f = some sp → FnOk Tryd.prog f sp ∧ ∀ n ∈ sp.need, n ∈ ([] : List String) := phi_cons ok_laws_toMailS (n0 rfl) (phi_cons ok_laws_toTombS (n0 rfl) (phi_nil))
theorem ok_laws_toBox : FnOk Tryd.prog 7 spToBox := by
  refine fn_ok (Φ := Phi_laws_toBox) (T := T_laws_toBox) phi_laws_toBox mixed Tryd.func7 rfl rfl rfl (by decide) ?_
  intro ins r outs hr hl
  clear hl
  have hs := spToBox_in hr
  clear hr
  obtain ⟨x, rfl, hc, hr, rfl⟩ := hs
  simp only [spToBox, Tryd.f7, Go.VM.initS]
  have c1 : x.Mails.length ≤ 4194304 := hc.2.1.1
  have c2 : x.Tombs.length ≤ 4194304 := hc.2.2.1
  simp only [c1, c2, go_sem]
  repeat' ((first | apply qa | apply qb | apply qc | apply qd | apply qe | apply qf | apply qg | apply qh | apply qi | apply qj | apply qk) <;> intro hp <;> simp only [hp, c1, c2, go_sem])
  simp only [fin_mk, finV, resL, resV1, resIn, endA, listIn, Option.some_or, Option.none_or, oneOrTup, go_sem]
  rw [← hr]
  rfl
open Classical in
noncomputable def spEqBox : VM.Spec := { modes := [.rd, .rd], run := fun | [x', y'] => (Box.dec x').bind fun x => (Box.dec y').bind fun y => if x.le 4194304 ∧ y.le 4194304 then some (.bool (decide (x = y)), []) else none | _ => none, need := [] }
attribute [go_sem] spEqBox
theorem spEqBox_in {ins : List V} {r : V} {outs : List V} (h : spEqBox.run ins = some (r, outs)) : ∃ (x : Box) (y : Box), ins = [Box.enc x, Box.enc y] ∧ (x.le 4194304 ∧ y.le 4194304) ∧ .bool (decide (x = y)) = r ∧ outs = [] := by
  unfold spEqBox at h
  simp only at h
  split at h
  · rename_i x' y'
    simp only [Option.bind_eq_some_iff] at h
    obtain ⟨x, h_x, y, h_y, h⟩ := h
    split at h
    case isFalse => cases h
    rename_i hc
    simp only [Option.some.injEq, Prod.mk.injEq] at h
    obtain ⟨h1, h2⟩ := h
    have h_x := Box.dec_some h_x
    subst h_x
    have h_y := Box.dec_some h_y
    subst h_y
    exact ⟨x, y, rfl, hc, h1, h2.symm⟩
  · cases h
def T_laws_eqBox : Hints := ⟨lk [], lk [], lk [(0, [2, 3]), (1, [2, 3, 9]), (2, [4]), (3, [2, 3, 14]), (4, [4]), (5, [2, 3, 19]), (6, [4]), (7, [2, 3, 24]), (8, [4]), (9, [2, 3, 30]), (10, [4]), (11, [2, 3, 36]), (12, [4]), (13, [41]), (14, [4]), (15, [4])], lk []⟩
noncomputable def Phi_laws_eqBox : Tab := lk [(28, spEqMailS), (29, spEqTombS)]
attribute [go_sem] T_laws_eqBox Phi_laws_eqBox
theorem phi_laws_eqBox : ∀ f sp, Phi_laws_eqBox f = some sp → FnOk Tryd.prog f sp ∧ ∀ n ∈ sp.need, n ∈ ([] : List String) := phi_cons ok_laws_eqMailS (n0 rfl) (phi_cons ok_laws_eqTombS (n0 rfl) (phi_nil))
theorem ok_laws_eqBox : FnOk Tryd.prog 11 spEqBox := by
  refine fn_ok (Φ := Phi_laws_eqBox) (T := T_laws_eqBox) phi_laws_eqBox mixed Tryd.func11 rfl rfl rfl (by decide) ?_
  intro ins r outs hr hl
  clear hl
  have hs := spEqBox_in hr
  clear hr
  obtain ⟨x, y, rfl, hc, hr, rfl⟩ := hs
  simp only [spEqBox, Tryd.f11, Go.VM.initS]
  have c1 : x.Mails.length ≤ 4194304 := hc.1.2.1.1
  have c2 : x.Tombs.length ≤ 4194304 := hc.1.2.2.1
  have d1 : y.Mails.length ≤ 4194304 := hc.2.2.1.1
  have d2 : y.Tombs.length ≤ 4194304 := hc.2.2.2.1
  simp only [c1, c2, d1, d2, and_self, go_sem]
  repeat' ((first | apply qa | apply qb | apply qc | apply qd | apply qe | apply qf | apply qg | apply qh | apply qi | apply qj | apply qk) <;> intro hp <;> simp only [hp, c1, c2, d1, d2, and_self, go_sem])
  all_goals (simp only [fin_mk, finV, resL, resV1, resIn, endA, listIn, Option.some_or, Option.none_or, oneOrTup, go_sem]; rw [← hr])
  all_goals (cases x; cases y; simp_all)
open Classical in
noncomputable def spMarkBox : VM.Spec := { modes := [.io, .rd], run := fun | [x', .int .i64 k] => (Box.dec x').bind fun x => if (x.Mails.length ≤ 4194304 ∧ x.Tombs.length ≤ 4194304) ∧ 0 ≤ k ∧ k ≤ 288230376151711744 then some (.int .i64 ((msBox x k).2), [Box.enc ((msBox x k).1)]) else none | _ => none, need := [] }
attribute [go_sem] spMarkBox
theorem spMarkBox_in {ins : List V} {r : V} {outs : List V} (h : spMarkBox.run ins = some (r, outs)) : ∃ (x : Box) (k : Int), ins = [Box.enc x, .int .i64 k] ∧ ((x.Mails.length ≤ 4194304 ∧ x.Tombs.length ≤ 4194304) ∧ 0 ≤ k ∧ k ≤ 288230376151711744) ∧ .int .i64 ((msBox x k).2) = r ∧ outs = [Box.enc ((msBox x k).1)] := by
  unfold spMarkBox at h
  simp only at h
  split at h
  · rename_i x' k
    simp only [Option.bind_eq_some_iff] at h
    obtain ⟨x, h_x, h⟩ := h
    split at h
    case isFalse => cases h
    rename_i hc
    simp only [Option.some.injEq, Prod.mk.injEq] at h
    obtain ⟨h1, h2⟩ := h
    have h_x := Box.dec_some h_x
    subst h_x
    exact ⟨x, k, rfl, hc, h1, h2.symm⟩
  · cases h
def T_laws_markBox : Hints := ⟨lk [], lk [], lk [(0, [1, 2]), (1, [1, 2]), (2, [1]), (3, [4])], lk []⟩
noncomputable def Phi_laws_markBox : Tab := lk [(31, spMarkMailS), (32, spMarkTombS)]
attribute [go_sem] T_laws_markBox Phi_laws_markBox
theorem phi_laws_markBox : ∀ f sp, Phi_laws_markBox f = some sp → FnOk Tryd.prog f sp ∧ ∀ n ∈ sp.need, n ∈ ([] : List String) := phi_cons ok_laws_markMailS (n0 rfl) (phi_cons ok_laws_markTombS (n0 rfl) (phi_nil))
theorem ok_laws_markBox : FnOk Tryd.prog 13 spMarkBox := by
  refine fn_ok (Φ := Phi_laws_markBox) (T := T_laws_markBox) phi_laws_markBox mixed Tryd.func13 rfl rfl rfl (by decide) ?_
  intro ins r outs hr hl
  clear hl
  have hs := spMarkBox_in hr
  clear hr
  obtain ⟨x, k, rfl, hc, hr, rfl⟩ := hs
  simp only [spMarkBox, Tryd.f13, Go.VM.initS]
  obtain ⟨hc, h0, h1⟩ := hc
  obtain ⟨c0, c1⟩ := hc
  have i0 : k ≤ 1152921504606846976 := by omega
  have e0 : (markL meMail x.Mails k).2 = k + (4 : Nat) * x.Mails.length := markL_k meMail_k _ _
  have y0 : 0 ≤ (markL meMail x.Mails k).2 := by omega
  have z0 : (markL meMail x.Mails k).2 ≤ 1152921504606846976 := by omega
  simp only [c0, c1, h0, i0, y0, z0, go_sem]
  repeat' ((first | apply qa | apply qb | apply qc | apply qd | apply qe | apply qf | apply qg | apply qh | apply qi | apply qj | apply qk) <;> intro hp <;> simp only [hp, c0, c1, h0, i0, y0, z0, go_sem])
  simp only [fin_mk, finV, resL, resV1, resIn, endA, listIn, Option.some_or, Option.none_or, oneOrTup, go_sem]
  rw [← hr]
  simp only [msBox]
end Go.Proofs.YtghmjnggmacohaaDoor.L
