/- The laws' own functions: what is left of a size, copies, equality, marks. What each computes. -/
import Derived.Test.YtnbkmmjnpbfhnaaGreatDoorVLA
namespace Go.Proofs.YtnbkmmjnpbfhnaaGreatDoor.L
open Go Go.VM
set_option maxRecDepth 100000
set_option linter.unusedSimpArgs false
set_option linter.unusedVariables false
open Classical in
noncomputable def spEqRange : VM.Spec := { modes := [.rd, .rd], run := fun | [x', y'] => (Range.dec x').bind fun x => (Range.dec y').bind fun y => some (.bool (decide (x = y)), []) | _ => none, need := [] }
attribute [go_sem] spEqRange
theorem spEqRange_in {ins : List V} {r : V} {outs : List V} (h : spEqRange.run ins = some (r, outs)) : ∃ (x : Range) (y : Range), ins = [Range.enc x, Range.enc y] ∧ .bool (decide (x = y)) = r ∧ outs = [] := by
  unfold spEqRange at h
  simp only at h
  split at h
  · rename_i x' y'
    simp only [Option.bind_eq_some_iff] at h
    obtain ⟨x, h_x, y, h_y, h⟩ := h
    simp only [Option.some.injEq, Prod.mk.injEq] at h
    obtain ⟨h1, h2⟩ := h
    have h_x := Range.dec_some h_x
    subst h_x
    have h_y := Range.dec_some h_y
    subst h_y
    exact ⟨x, y, rfl, h1, h2.symm⟩
  · cases h
def T_laws_eqRange : Hints := ⟨lk [], lk [], lk [(0, [2, 3]), (1, [2, 3, 9]), (2, [4]), (3, [14]), (4, [4]), (5, [4])], lk []⟩
noncomputable def Phi_laws_eqRange : Tab := lk []
attribute [go_sem] T_laws_eqRange Phi_laws_eqRange
theorem phi_laws_eqRange : ∀ f sp, Phi_laws_eqRange f = some sp → FnOk Tryz.prog f sp ∧ ∀ n ∈ sp.need, n ∈ ([] : List String) := phi_nil
theorem ok_laws_eqRange : FnOk Tryz.prog 34 spEqRange := by
  refine fn_ok (Φ := Phi_laws_eqRange) (T := T_laws_eqRange) phi_laws_eqRange mixed Tryz.func34 rfl rfl rfl (by decide) ?_
  intro ins r outs hr hl
  clear hl
  have hs := spEqRange_in hr
  clear hr
  obtain ⟨x, y, rfl, hr, rfl⟩ := hs
  simp only [spEqRange, Tryz.f34, Go.VM.initS]
  simp only [and_self, go_sem]
  repeat' ((first | apply qa | apply qb | apply qc | apply qd | apply qe | apply qf | apply qg | apply qh | apply qi | apply qj | apply qk) <;> intro hp <;> simp only [hp, and_self, go_sem])
  all_goals (simp only [fin_mk, finV, resL, resV1, resIn, endA, listIn, Option.some_or, Option.none_or, oneOrTup, go_sem]; rw [← hr])
  all_goals (cases x; cases y; simp_all)
open Classical in
noncomputable def spEqRangeS : VM.Spec := { modes := [.rd, .rd], run := fun | [.lst 2 x', .lst 2 y'] => (decL Range.dec x').bind fun x => (decL Range.dec y').bind fun y => if x.length ≤ 4194304 ∧ y.length ≤ 4194304 then some (.bool (decide (x = y)), []) else none | _ => none, need := [] }
attribute [go_sem] spEqRangeS
theorem spEqRangeS_in {ins : List V} {r : V} {outs : List V} (h : spEqRangeS.run ins = some (r, outs)) : ∃ (x : (List Range)) (y : (List Range)), ins = [.lst 2 ((x).map Range.enc), .lst 2 ((y).map Range.enc)] ∧ (x.length ≤ 4194304 ∧ y.length ≤ 4194304) ∧ .bool (decide (x = y)) = r ∧ outs = [] := by
  unfold spEqRangeS at h
  simp only at h
  split at h
  · rename_i x' y'
    simp only [Option.bind_eq_some_iff] at h
    obtain ⟨x, h_x, y, h_y, h⟩ := h
    split at h
    case isFalse => cases h
    rename_i hc
    simp only [Option.some.injEq, Prod.mk.injEq] at h
    obtain ⟨h1, h2⟩ := h
    have h_x := decL_some (fun _ _ h => Range.dec_some h) h_x
    subst h_x
    have h_y := decL_some (fun _ _ h => Range.dec_some h) h_y
    subst h_y
    exact ⟨x, y, rfl, hc, h1, h2.symm⟩
  · cases h
def T_laws_eqRangeS : Hints := ⟨lk [(6, [])], lk [(4, [0, 1, 5])], lk [(0, [0, 1]), (1, [0, 1, 10]), (2, [4]), (3, [0, 1, 5]), (4, [0, 1, 5, 14]), (6, [0, 1, 5, 26]), (7, [4]), (5, [0, 1, 5]), (8, [4])], lk []⟩
noncomputable def Phi_laws_eqRangeS : Tab := lk [(34, spEqRange)]
attribute [go_sem] T_laws_eqRangeS Phi_laws_eqRangeS
theorem phi_laws_eqRangeS : ∀ f sp, Phi_laws_eqRangeS f = some sp → FnOk Tryz.prog f sp ∧ ∀ n ∈ sp.need, n ∈ ([] : List String) := phi_cons ok_laws_eqRange (n0 rfl) (phi_nil)
theorem ok_laws_eqRangeS : FnOk Tryz.prog 13 spEqRangeS := by
  refine fn_ok (Φ := Phi_laws_eqRangeS) (T := T_laws_eqRangeS) phi_laws_eqRangeS mixed Tryz.func13 rfl rfl rfl (by decide) ?_
  intro ins r outs hr hl
  clear hl
  have hs := spEqRangeS_in hr
  clear hr
  obtain ⟨x, y, rfl, hc, hr, rfl⟩ := hs
  simp only [spEqRangeS, Tryz.f13, Go.VM.initS]
  obtain ⟨hx, hy⟩ := hc
  by_cases hl : x.length = y.length
  case neg =>
    have g : ((x.length : Int) == y.length) = false := by rw [beq_eq_false_iff_ne]; omega
    have g' : ((x.length : Int) != y.length) = true := by rw [bne_iff_ne]; omega
    have hne : x ≠ y := fun e => hl (by rw [e])
    simp only [g, g', go_sem]
    repeat' ((first | ((first | apply qa | apply qb | apply qc | apply qd | apply qe | apply qf | apply qg | apply qh | apply qi | apply qj | apply qk) <;> intro hp) | ((first | refine ql rfl rfl (by decide +kernel) ?_ | refine qm _ rfl rfl (by decide +kernel) ?_) <;> have hp := True.intro)) <;> simp only [hp, g, g', go_sem])
    simp only [fin_mk, finV, resL, resV1, resIn, endA, listIn, Option.some_or, Option.none_or, oneOrTup, go_sem]
    rw [← hr]
    simp only [hne, decide_false]
  have hl' : (x.length : Int) = y.length := by omega
  simp only [hl, bne_self_eq_false, go_sem]
  repeat' ((first | ((first | apply qa | apply qb | apply qc | apply qd | apply qe | apply qf | apply qg | apply qh | apply qi | apply qj | apply qk) <;> intro hp) | ((first | refine ql rfl rfl (by decide +kernel) ?_ | refine qm _ rfl rfl (by decide +kernel) ?_) <;> have hp := True.intro)) <;> simp only [hp, hl, bne_self_eq_false, go_sem])
  refine loop_go (fun i : Nat => [(5, .int .i64 (i : Int))]) (fun _ => []) (fun i => x.length - i) (fun i => i ≤ x.length ∧ x.take i = y.take i) 0 ⟨Nat.zero_le _, by simp⟩ rfl rfl ?_
  intro i ⟨hi, he⟩ ih
  rcases Nat.lt_or_ge i x.length with h | h
  · have g1 : (i : Int) < x.length := by omega
    have g1' : (i : Int) < y.length := by omega
    have g2 : (0 : Int) ≤ i := by omega
    have g3 : x[i]? = some x[i] := List.getElem?_eq_getElem h
    have g4 : y[i]? = some (y[i]'(by omega)) := List.getElem?_eq_getElem (by omega)
    have g5 := wrap_succ h (by omega)
    skip
    by_cases hv : x[i] = (y[i]'(by omega))
    · simp only [g1, g1', g2, g3, g4, g5, hv, go_sem]
      repeat' ((first | ((first | apply qa | apply qb | apply qc | apply qd | apply qe | apply qf | apply qg | apply qh | apply qi | apply qj | apply qk) <;> intro hp) | ((first | refine ql rfl rfl (by decide +kernel) ?_ | refine qm _ rfl rfl (by decide +kernel) ?_) <;> have hp := True.intro)) <;> simp only [hp, g1, g1', g2, g3, g4, g5, hv, go_sem])
      exact ih (i + 1) ⟨h, by rw [List.take_add_one, List.take_add_one, he, g3, g4, hv]⟩ (by omega)
    · have hne : x ≠ y := by rintro rfl; exact hv rfl
      have hv1 : (x[i] == (y[i]'(by omega))) = false := by rw [beq_eq_false_iff_ne]; exact hv
      have hv2 : (x[i] != (y[i]'(by omega))) = true := by rw [bne_iff_ne]; exact hv
      simp only [g1, g1', g2, g3, g4, g5, hv, hv1, hv2, go_sem]
      repeat' ((first | ((first | apply qa | apply qb | apply qc | apply qd | apply qe | apply qf | apply qg | apply qh | apply qi | apply qj | apply qk) <;> intro hp) | ((first | refine ql rfl rfl (by decide +kernel) ?_ | refine qm _ rfl rfl (by decide +kernel) ?_) <;> have hp := True.intro)) <;> simp only [hp, g1, g1', g2, g3, g4, g5, hv, hv1, hv2, go_sem])
      simp only [fin_mk, finV, resL, resV1, resIn, endA, listIn, Option.some_or, Option.none_or, oneOrTup, go_sem]
      rw [← hr]
      simp only [hne, decide_false]
  · have g1 : ¬ (i : Int) < x.length := by omega
    have g1' : ¬ (i : Int) < y.length := by omega
    simp only [g1, g1', go_sem]
    simp only [fin_mk, finV, resL, resV1, resIn, endA, listIn, Option.some_or, Option.none_or, oneOrTup, go_sem]
    rw [← hr]
    rw [List.take_of_length_le h, List.take_of_length_le (by omega)] at he
    simp only [he, decide_true]
open Classical in
noncomputable def spMarkRangeS : VM.Spec := { modes := [.io, .rd], run := fun | [.lst 2 l', .int .i64 k] => (decL Range.dec l').bind fun l => if l.length ≤ 4194304 ∧ 0 ≤ k ∧ k ≤ 1152921504606846976 then some (.int .i64 ((markL meRange l k).2), [.lst 2 (((markL meRange l k).1).map Range.enc)]) else none | _ => none, need := [] }
attribute [go_sem] spMarkRangeS
theorem spMarkRangeS_in {ins : List V} {r : V} {outs : List V} (h : spMarkRangeS.run ins = some (r, outs)) : ∃ (l : (List Range)) (k : Int), ins = [.lst 2 ((l).map Range.enc), .int .i64 k] ∧ (l.length ≤ 4194304 ∧ 0 ≤ k ∧ k ≤ 1152921504606846976) ∧ .int .i64 ((markL meRange l k).2) = r ∧ outs = [.lst 2 (((markL meRange l k).1).map Range.enc)] := by
  unfold spMarkRangeS at h
  simp only at h
  split at h
  · rename_i l' k
    simp only [Option.bind_eq_some_iff] at h
    obtain ⟨l, h_l, h⟩ := h
    split at h
    case isFalse => cases h
    rename_i hc
    simp only [Option.some.injEq, Prod.mk.injEq] at h
    obtain ⟨h1, h2⟩ := h
    have h_l := decL_some (fun _ _ h => Range.dec_some h) h_l
    subst h_l
    exact ⟨l, k, rfl, hc, h1, h2.symm⟩
  · cases h
def T_laws_markRangeS : Hints := ⟨lk [], lk [(2, [0, 1, 5])], lk [(0, [0, 1]), (1, [0, 1, 5]), (2, [0, 1, 5, 9]), (4, [0, 1, 5]), (5, [0, 1, 5]), (6, [0, 1, 5]), (7, [0, 1, 5]), (3, [0, 1, 5]), (8, [4])], lk []⟩
noncomputable def Phi_laws_markRangeS : Tab := lk []
attribute [go_sem] T_laws_markRangeS Phi_laws_markRangeS
theorem phi_laws_markRangeS : ∀ f sp, Phi_laws_markRangeS f = some sp → FnOk Tryz.prog f sp ∧ ∀ n ∈ sp.need, n ∈ ([] : List String) := phi_nil
theorem ok_laws_markRangeS : FnOk Tryz.prog 14 spMarkRangeS := by
  refine fn_ok (Φ := Phi_laws_markRangeS) (T := T_laws_markRangeS) phi_laws_markRangeS mixed Tryz.func14 rfl rfl rfl (by decide) ?_
  intro ins r outs hr hl
  clear hl
  have hs := spMarkRangeS_in hr
  clear hr
  obtain ⟨l, k, rfl, hc, hr, rfl⟩ := hs
  simp only [spMarkRangeS, Tryz.f14, Go.VM.initS]
  obtain ⟨hc, h0, h1⟩ := hc
  simp only [go_sem]
  refine loop_go (fun p : Nat × List V × Int => [(1, .int .i64 p.2.2), (5, .int .i64 (p.1 : Int))]) (fun p => [(0, ⟨.arr, 2, p.2.1⟩)]) (fun p => l.length - p.1) (fun p => p.1 ≤ l.length ∧ p.2.1 = ((markL meRange (l.take p.1) k).1 ++ l.drop p.1).map Range.enc ∧ p.2.2 = (markL meRange (l.take p.1) k).2 ∧ p.2.2 = k + (2 : Nat) * p.1) (0, l.map Range.enc, k) ⟨Nat.zero_le _, by simp [markL], rfl, by simp⟩ rfl rfl ?_
  rintro ⟨i, els, k'⟩ ⟨hi, he, hk, hb⟩ ih
  simp only at hi he hk hb ih
  rcases Nat.lt_or_ge i l.length with h | h
  · have g1 : (i : Int) < l.length := by omega
    have g2 : (0 : Int) ≤ i := by omega
    obtain ⟨g3, gl, gs, gk⟩ := mark_round h he
    rw [← hk] at gs gk
    have g5 := wrap_succ h (by omega)
    have j0 : k' ≤ 4611686018427387904 := by omega
    have w0 : IntKind.i64.wrap (k' + 1) = k' + 1 := wrap64 (by omega) (by omega)
    have w1 : IntKind.i64.wrap (k' + 1 + 1) = k' + 1 + 1 := wrap64 (by omega) (by omega)
    have j1 : k' + 1 ≤ 4611686018427387904 := by omega
    have j2 : k' + 1 + 1 ≤ 4611686018427387904 := by omega
    rw [Range.enc] at g3
    have gi : i < els.length := by omega
    simp only [g1, g2, g3, gl, g5, h, w0, w1, j0, j1, j2, List.getElem?_set_self, List.length_set, List.set_set, go_sem]
    repeat' ((first | apply qa | apply qb | apply qc | apply qd | apply qe | apply qf | apply qg | apply qh | apply qi | apply qj | apply qk) <;> intro hp <;> simp only [hp, g1, g2, g3, gl, g5, h, w0, w1, j0, j1, j2, List.getElem?_set_self, List.length_set, List.set_set, go_sem])
    refine ih (i + 1, els.set i (Range.enc (meRange l[i] k').1), (meRange l[i] k').2) ⟨h, gs, gk, by simp only [meRange]; omega⟩ (by simp only; omega)
  · have g1 : ¬ (i : Int) < l.length := by omega
    have gl : els.length = l.length := by rw [he]; simp [markL_len]; omega
    simp only [g1, gl, go_sem]
    simp only [fin_mk, finV, resL, resV1, resIn, endA, listIn, Option.some_or, Option.none_or, oneOrTup, go_sem]
    rw [← hr, he, hk, List.take_of_length_le h, List.drop_of_length_le h, List.append_nil]
open Classical in
noncomputable def spHeldRangeS : VM.Spec := { modes := [.rd, .rd], run := fun | [.lst 2 l', .int .i64 k] => (decL Range.dec l').bind fun l => if l.length ≤ 4194304 ∧ 0 ≤ k ∧ k ≤ 1152921504606846976 then some (.int .i64 ((heldL heRange l k).getD (-1)), []) else none | _ => none, need := [] }
attribute [go_sem] spHeldRangeS
theorem spHeldRangeS_in {ins : List V} {r : V} {outs : List V} (h : spHeldRangeS.run ins = some (r, outs)) : ∃ (l : (List Range)) (k : Int), ins = [.lst 2 ((l).map Range.enc), .int .i64 k] ∧ (l.length ≤ 4194304 ∧ 0 ≤ k ∧ k ≤ 1152921504606846976) ∧ .int .i64 ((heldL heRange l k).getD (-1)) = r ∧ outs = [] := by
  unfold spHeldRangeS at h
  simp only at h
  split at h
  · rename_i l' k
    simp only [Option.bind_eq_some_iff] at h
    obtain ⟨l, h_l, h⟩ := h
    split at h
    case isFalse => cases h
    rename_i hc
    simp only [Option.some.injEq, Prod.mk.injEq] at h
    obtain ⟨h1, h2⟩ := h
    have h_l := decL_some (fun _ _ h => Range.dec_some h) h_l
    subst h_l
    exact ⟨l, k, rfl, hc, h1, h2.symm⟩
  · cases h
def T_laws_heldRangeS : Hints := ⟨lk [], lk [(2, [0, 1, 5])], lk [(0, [0, 1]), (1, [0, 1, 5]), (2, [0, 1, 5, 9]), (4, [0, 1, 5, 18]), (5, [4]), (6, [0, 1, 5]), (7, [0, 1, 5, 27]), (8, [4]), (9, [0, 1, 5]), (3, [0, 1, 5]), (10, [4])], lk []⟩
noncomputable def Phi_laws_heldRangeS : Tab := lk []
attribute [go_sem] T_laws_heldRangeS Phi_laws_heldRangeS
theorem phi_laws_heldRangeS : ∀ f sp, Phi_laws_heldRangeS f = some sp → FnOk Tryz.prog f sp ∧ ∀ n ∈ sp.need, n ∈ ([] : List String) := phi_nil
theorem ok_laws_heldRangeS : FnOk Tryz.prog 15 spHeldRangeS := by
  refine fn_ok (Φ := Phi_laws_heldRangeS) (T := T_laws_heldRangeS) phi_laws_heldRangeS mixed Tryz.func15 rfl rfl rfl (by decide) ?_
  intro ins r outs hr hl
  clear hl
  have hs := spHeldRangeS_in hr
  clear hr
  obtain ⟨l, k, rfl, hc, hr, rfl⟩ := hs
  simp only [spHeldRangeS, Tryz.f15, Go.VM.initS]
  obtain ⟨hc, h0, h1⟩ := hc
  simp only [go_sem]
  refine loop_go (fun p : Nat × Int => [(1, .int .i64 p.2), (5, .int .i64 (p.1 : Int))]) (fun p => []) (fun p => l.length - p.1) (fun p => p.1 ≤ l.length ∧ heldL heRange (l.take p.1) k = some p.2 ∧ p.2 = k + (2 : Nat) * p.1) (0, k) ⟨Nat.zero_le _, rfl, by simp⟩ rfl rfl ?_
  rintro ⟨i, k'⟩ ⟨hi, hk, hb⟩ ih
  simp only at hi hk hb ih
  rcases Nat.lt_or_ge i l.length with h | h
  · have g1 : (i : Int) < l.length := by omega
    have g2 : (0 : Int) ≤ i := by omega
    have g3 : l[i]? = some l[i] := List.getElem?_eq_getElem h
    have g5 := wrap_succ h (by omega)
    have j0 : k' ≤ 4611686018427387904 := by omega
    have w0 : IntKind.i64.wrap (k' + 1) = k' + 1 := wrap64 (by omega) (by omega)
    have w1 : IntKind.i64.wrap (k' + 1 + 1) = k' + 1 + 1 := wrap64 (by omega) (by omega)
    have j1 : k' + 1 ≤ 4611686018427387904 := by omega
    have j2 : k' + 1 + 1 ≤ 4611686018427387904 := by omega
    have hbad : (meRange l[i] k').1 ≠ l[i] → V.int .i64 (-1) = r := fun hn => by
      rw [← hr, heldL_bad h hk (by simp only [heRange, heOf, hn, if_false])]; rfl
    have hgood : (meRange l[i] k').1 = l[i] → heldL heRange (l.take (i + 1)) k = some ((meRange l[i] k').2) := fun hn => heldL_good h hk (by simp only [heRange, heOf, hn, if_true])
    by_cases hn : (meRange l[i] k').1 = l[i]
    · have e0 : l[i].Lo = k' := (congrArg Range.Lo hn).symm
      have e1 : l[i].Hi = k' + 1 := (congrArg Range.Hi hn).symm
      simp only [g1, g2, g3, g5, w0, w1, j0, j1, j2, e0, e1, bne_self_eq_false, go_sem]
      repeat' ((first | apply qa | apply qb | apply qc | apply qd | apply qe | apply qf | apply qg | apply qh | apply qi | apply qj | apply qk) <;> intro hp <;> simp only [hp, g1, g2, g3, g5, w0, w1, j0, j1, j2, e0, e1, bne_self_eq_false, go_sem])
      exact ih (i + 1, (meRange l[i] k').2) ⟨h, hgood hn, by simp only [meRange]; omega⟩ (by simp only; omega)
    · simp only [g1, g2, g3, g5, w0, w1, j0, j1, j2, go_sem]
      repeat' ((first | apply qa | apply qb | apply qc | apply qd | apply qe | apply qf | apply qg | apply qh | apply qi | apply qj | apply qk) <;> intro hp <;> simp only [hp, g1, g2, g3, g5, w0, w1, j0, j1, j2, go_sem])
      all_goals first
        | (refine fin_mk.2 ?_; simp only [fin_mk, finV, resL, resV1, resIn, endA, listIn, Option.some_or, Option.none_or, oneOrTup, go_sem]; rw [hbad hn])
        | (exfalso; apply hn; clear hn ih hbad hgood hk hr hc h0 h1; simp only [meRange]; cases hx : l[i]; simp_all)
  · have g1 : ¬ (i : Int) < l.length := by omega
    simp only [g1, go_sem]
    simp only [fin_mk, finV, resL, resV1, resIn, endA, listIn, Option.some_or, Option.none_or, oneOrTup, go_sem]
    rw [← hr]
    rw [List.take_of_length_le h] at hk
    rw [hk]; rfl
open Classical in
noncomputable def spEqLine : VM.Spec := { modes := [.rd, .rd], run := fun | [x', y'] => (Line.dec x').bind fun x => (Line.dec y').bind fun y => if x.le 4194304 ∧ y.le 4194304 then some (.bool (decide (x = y)), []) else none | _ => none, need := [] }
attribute [go_sem] spEqLine
theorem spEqLine_in {ins : List V} {r : V} {outs : List V} (h : spEqLine.run ins = some (r, outs)) : ∃ (x : Line) (y : Line), ins = [Line.enc x, Line.enc y] ∧ (x.le 4194304 ∧ y.le 4194304) ∧ .bool (decide (x = y)) = r ∧ outs = [] := by
  unfold spEqLine at h
  simp only at h
  split at h
  · rename_i x' y'
    simp only [Option.bind_eq_some_iff] at h
    obtain ⟨x, h_x, y, h_y, h⟩ := h
    split at h
    case isFalse => cases h
    rename_i hc
    simp only [Option.some.injEq, Prod.mk.injEq] at h
    obtain ⟨h1, h2⟩ := h
    have h_x := Line.dec_some h_x
    subst h_x
    have h_y := Line.dec_some h_y
    subst h_y
    exact ⟨x, y, rfl, hc, h1, h2.symm⟩
  · cases h
def T_laws_eqLine : Hints := ⟨lk [], lk [], lk [(0, [2, 3]), (1, [2, 3, 9]), (2, [4]), (3, [2, 3, 14]), (4, [4]), (5, [2, 3, 19]), (6, [4]), (7, [2, 3, 24]), (8, [4]), (9, [2, 3, 29]), (10, [4]), (11, [2, 3, 35]), (12, [4]), (13, [40]), (14, [4]), (15, [4])], lk []⟩
noncomputable def Phi_laws_eqLine : Tab := lk [(13, spEqRangeS)]
attribute [go_sem] T_laws_eqLine Phi_laws_eqLine
theorem phi_laws_eqLine : ∀ f sp, Phi_laws_eqLine f = some sp → FnOk Tryz.prog f sp ∧ ∀ n ∈ sp.need, n ∈ ([] : List String) := phi_cons ok_laws_eqRangeS (n0 rfl) (phi_nil)
theorem ok_laws_eqLine : FnOk Tryz.prog 6 spEqLine := by
  refine fn_ok (Φ := Phi_laws_eqLine) (T := T_laws_eqLine) phi_laws_eqLine mixed Tryz.func6 rfl rfl rfl (by decide) ?_
  intro ins r outs hr hl
  clear hl
  have hs := spEqLine_in hr
  clear hr
  obtain ⟨x, y, rfl, hc, hr, rfl⟩ := hs
  simp only [spEqLine, Tryz.f6, Go.VM.initS]
  have c0 : x.Set.length ≤ 4194304 := hc.1.1
  have d0 : y.Set.length ≤ 4194304 := hc.2.1
  simp only [c0, d0, and_self, go_sem]
  repeat' ((first | apply qa | apply qb | apply qc | apply qd | apply qe | apply qf | apply qg | apply qh | apply qi | apply qj | apply qk) <;> intro hp <;> simp only [hp, c0, d0, and_self, go_sem])
  all_goals (simp only [fin_mk, finV, resL, resV1, resIn, endA, listIn, Option.some_or, Option.none_or, oneOrTup, go_sem]; rw [← hr])
  all_goals (cases x; cases y; simp_all)
open Classical in
noncomputable def spMarkLine : VM.Spec := { modes := [.io, .rd], run := fun | [x', .int .i64 k] => (Line.dec x').bind fun x => if (x.Set.length ≤ 4194304) ∧ 0 ≤ k ∧ k ≤ 288230376151711744 then some (.int .i64 ((msLine x k).2), [Line.enc ((msLine x k).1)]) else none | _ => none, need := [] }
attribute [go_sem] spMarkLine
theorem spMarkLine_in {ins : List V} {r : V} {outs : List V} (h : spMarkLine.run ins = some (r, outs)) : ∃ (x : Line) (k : Int), ins = [Line.enc x, .int .i64 k] ∧ ((x.Set.length ≤ 4194304) ∧ 0 ≤ k ∧ k ≤ 288230376151711744) ∧ .int .i64 ((msLine x k).2) = r ∧ outs = [Line.enc ((msLine x k).1)] := by
  unfold spMarkLine at h
  simp only at h
  split at h
  · rename_i x' k
    simp only [Option.bind_eq_some_iff] at h
    obtain ⟨x, h_x, h⟩ := h
    split at h
    case isFalse => cases h
    rename_i hc
    simp only [Option.some.injEq, Prod.mk.injEq] at h
    obtain ⟨h1, h2⟩ := h
    have h_x := Line.dec_some h_x
    subst h_x
    exact ⟨x, k, rfl, hc, h1, h2.symm⟩
  · cases h
def T_laws_markLine : Hints := ⟨lk [], lk [], lk [(0, [1, 2]), (1, [1]), (2, [4])], lk []⟩
noncomputable def Phi_laws_markLine : Tab := lk [(14, spMarkRangeS)]
attribute [go_sem] T_laws_markLine Phi_laws_markLine
theorem phi_laws_markLine : ∀ f sp, Phi_laws_markLine f = some sp → FnOk Tryz.prog f sp ∧ ∀ n ∈ sp.need, n ∈ ([] : List String) := phi_cons ok_laws_markRangeS (n0 rfl) (phi_nil)
theorem ok_laws_markLine : FnOk Tryz.prog 7 spMarkLine := by
  refine fn_ok (Φ := Phi_laws_markLine) (T := T_laws_markLine) phi_laws_markLine mixed Tryz.func7 rfl rfl rfl (by decide) ?_
  intro ins r outs hr hl
  clear hl
  have hs := spMarkLine_in hr
  clear hr
  obtain ⟨x, k, rfl, hc, hr, rfl⟩ := hs
  simp only [spMarkLine, Tryz.f7, Go.VM.initS]
  obtain ⟨hc, h0, h1⟩ := hc
  have c0 := hc
  have i0 : k ≤ 1152921504606846976 := by omega
  simp only [c0, h0, i0, go_sem]
  repeat' ((first | apply qa | apply qb | apply qc | apply qd | apply qe | apply qf | apply qg | apply qh | apply qi | apply qj | apply qk) <;> intro hp <;> simp only [hp, c0, h0, i0, go_sem])
  simp only [fin_mk, finV, resL, resV1, resIn, endA, listIn, Option.some_or, Option.none_or, oneOrTup, go_sem]
  rw [← hr]
  simp only [msLine]
open Classical in
noncomputable def spHeldLine : VM.Spec := { modes := [.rd, .rd], run := fun | [x', .int .i64 k] => (Line.dec x').bind fun x => if (x.Set.length ≤ 4194304) ∧ 0 ≤ k ∧ k ≤ 288230376151711744 then some (.int .i64 ((hsLine x k).getD (-1)), []) else none | _ => none, need := [] }
attribute [go_sem] spHeldLine
theorem spHeldLine_in {ins : List V} {r : V} {outs : List V} (h : spHeldLine.run ins = some (r, outs)) : ∃ (x : Line) (k : Int), ins = [Line.enc x, .int .i64 k] ∧ ((x.Set.length ≤ 4194304) ∧ 0 ≤ k ∧ k ≤ 288230376151711744) ∧ .int .i64 ((hsLine x k).getD (-1)) = r ∧ outs = [] := by
  unfold spHeldLine at h
  simp only at h
  split at h
  · rename_i x' k
    simp only [Option.bind_eq_some_iff] at h
    obtain ⟨x, h_x, h⟩ := h
    split at h
    case isFalse => cases h
    rename_i hc
    simp only [Option.some.injEq, Prod.mk.injEq] at h
    obtain ⟨h1, h2⟩ := h
    have h_x := Line.dec_some h_x
    subst h_x
    exact ⟨x, k, rfl, hc, h1, h2.symm⟩
  · cases h
def T_laws_heldLine : Hints := ⟨lk [], lk [], lk [(0, [1, 2]), (1, [1]), (2, [1, 10]), (3, [4]), (4, [4])], lk []⟩
noncomputable def Phi_laws_heldLine : Tab := lk [(15, spHeldRangeS)]
attribute [go_sem] T_laws_heldLine Phi_laws_heldLine
theorem phi_laws_heldLine : ∀ f sp, Phi_laws_heldLine f = some sp → FnOk Tryz.prog f sp ∧ ∀ n ∈ sp.need, n ∈ ([] : List String) := phi_cons ok_laws_heldRangeS (n0 rfl) (phi_nil)
theorem ok_laws_heldLine : FnOk Tryz.prog 8 spHeldLine := by
  refine fn_ok (Φ := Phi_laws_heldLine) (T := T_laws_heldLine) phi_laws_heldLine mixed Tryz.func8 rfl rfl rfl (by decide) ?_
  intro ins r outs hr hl
  clear hl
  have hs := spHeldLine_in hr
  clear hr
  obtain ⟨x, k, rfl, hc, hr, rfl⟩ := hs
  simp only [spHeldLine, Tryz.f8, Go.VM.initS]
  obtain ⟨hc, h0, h1⟩ := hc
  have c0 := hc
  have i0 : k ≤ 1152921504606846976 := by omega
  cases e0 : heldL heRange x.Set k with
  | none =>
    simp only [c0, h0, i0, e0, Option.getD_none, Option.getD_some, go_sem]
    repeat' ((first | apply qa | apply qb | apply qc | apply qd | apply qe | apply qf | apply qg | apply qh | apply qi | apply qj | apply qk) <;> intro hp <;> simp only [hp, c0, h0, i0, e0, Option.getD_none, Option.getD_some, go_sem])
    simp only [fin_mk, finV, resL, resV1, resIn, endA, listIn, Option.some_or, Option.none_or, oneOrTup, go_sem]
    rw [← hr]
    simp only [hsLine, e0, Option.bind_some, Option.bind_none, Option.getD_none]
  | some k0 =>
  have q0 := heldL_k heRange_k _ _ _ e0
  have y0 : 0 ≤ k0 := by omega
  have z0 : k0 ≤ 1152921504606846976 := by omega
  have n0 : ¬ k0 < 0 := by omega
  simp only [c0, h0, i0, e0, y0, z0, n0, Option.getD_some, go_sem]
  repeat' ((first | apply qa | apply qb | apply qc | apply qd | apply qe | apply qf | apply qg | apply qh | apply qi | apply qj | apply qk) <;> intro hp <;> simp only [hp, c0, h0, i0, e0, y0, z0, n0, Option.getD_some, go_sem])
  simp only [fin_mk, finV, resL, resV1, resIn, endA, listIn, Option.some_or, Option.none_or, oneOrTup, go_sem]
  rw [← hr]
  simp only [hsLine, e0, Option.bind_some, Option.getD_some]
end Go.Proofs.YtnbkmmjnpbfhnaaGreatDoor.L
