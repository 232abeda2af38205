/- The laws' own functions: what is left of a size, copies, equality, marks. What each computes. -/
import Derived.Test.YtglldabpgobimaaDoorVLA
namespace Go.Proofs.YtglldabpgobimaaDoor.L
open Go Go.VM
set_option maxRecDepth 100000
set_option linter.unusedSimpArgs false
set_option linter.unusedVariables false
open Classical in
noncomputable def spEqRange : VM.Spec := { modes := [.rd, .rd], run := fun | [x', y'] => (Range.dec x').bind fun x => (Range.dec y').bind fun y => some (.bool (decide (x = y)), []) | _ => none, need := [] }
attribute [go_sem] spEqRange
theorem spEqRange_in {ins : List V} {r : V} {outs : List V} (h : spEqRange.run ins = some (r, outs)) : ∃ (x : Range) (y : Range), ins = [Range.enc x, Range.enc y] ∧ .bool (decide (x = y)) = r ∧ outs = [] := by
  unfold spEqRange at h
  simp only at h
  split at h
  · rename_i x' y'
    simp only [Option.bind_eq_some_iff] at h
    obtain ⟨x, h_x, y, h_y, h⟩ := h
    simp only [Option.some.injEq, Prod.mk.injEq] at h
    obtain ⟨h1, h2⟩ := h
    have h_x := Range.dec_some h_x
    subst h_x
    have h_y := Range.dec_some h_y
    subst h_y
    exact ⟨x, y, rfl, h1, h2.symm⟩
  · cases h
def T_laws_eqRange : Hints := ⟨fun _ => none, fun _ => none, fun i => if i = 0 then some [2, 3] else if i = 1 then some [2, 3, 9] else if i = 2 then some [4] else if i = 3 then some [14] else if i = 4 then some [4] else if i = 5 then some [4] else none, fun _ => none⟩
noncomputable def Phi_laws_eqRange : Tab := fun f => none
attribute [go_sem] T_laws_eqRange Phi_laws_eqRange
theorem phi_laws_eqRange : ∀ f sp, Phi_laws_eqRange f = some sp → FnOk Tryd.prog f sp ∧ ∀ n ∈ sp.need, n ∈ ([] : List String) := by
  intro f sp h
  unfold Phi_laws_eqRange at h
  cases h
theorem ok_laws_eqRange : FnOk Tryd.prog 36 spEqRange := by
  refine fn_ok (Φ := Phi_laws_eqRange) (T := T_laws_eqRange) phi_laws_eqRange mixed Tryd.func36 rfl rfl rfl (by decide) ?_
  intro ins r outs hr hl
  clear hl
  have hs := spEqRange_in hr
  clear hr
  obtain ⟨x, y, rfl, hr, rfl⟩ := hs
  simp only [spEqRange, Tryd.f36, Go.VM.initS]
  simp only [and_self, go_sem]
  repeat' ((first | ((first | apply qa | apply qb | apply qc | apply qd | apply qe | apply qf | apply qg | apply qh | apply qi | apply qj | apply qk) <;> intro hp) | ((first | refine ql rfl rfl (by decide +kernel) ?_ | refine qm _ rfl rfl (by decide +kernel) ?_ | refine goes_opn rfl ?_ | refine goes_opnD rfl rfl (by decide +kernel) ?_) <;> have hp := True.intro)) <;> simp only [hp, and_self, go_sem])
  all_goals (simp only [fin_mk, finV, resL, resV1, resIn, endA, listIn, Option.some_or, Option.none_or, oneOrTup, go_sem]; rw [← hr])
  all_goals (cases x; cases y; simp_all)
open Classical in
noncomputable def spEqRangeS : VM.Spec := { modes := [.rd, .rd], run := fun | [.lst 2 x', .lst 2 y'] => (decL Range.dec x').bind fun x => (decL Range.dec y').bind fun y => if x.length ≤ 4194304 ∧ y.length ≤ 4194304 then some (.bool (decide (x = y)), []) else none | _ => none, need := [] }
attribute [go_sem] spEqRangeS
theorem spEqRangeS_in {ins : List V} {r : V} {outs : List V} (h : spEqRangeS.run ins = some (r, outs)) : ∃ (x : (List Range)) (y : (List Range)), ins = [.lst 2 ((x).map Range.enc), .lst 2 ((y).map Range.enc)] ∧ (x.length ≤ 4194304 ∧ y.length ≤ 4194304) ∧ .bool (decide (x = y)) = r ∧ outs = [] := by
  unfold spEqRangeS at h
  simp only at h
  split at h
  · rename_i x' y'
    simp only [Option.bind_eq_some_iff] at h
    obtain ⟨x, h_x, y, h_y, h⟩ := h
    split at h
    case isFalse => cases h
    rename_i hc
    simp only [Option.some.injEq, Prod.mk.injEq] at h
    obtain ⟨h1, h2⟩ := h
    have h_x := decL_some (fun _ _ h => Range.dec_some h) h_x
    subst h_x
    have h_y := decL_some (fun _ _ h => Range.dec_some h) h_y
    subst h_y
    exact ⟨x, y, rfl, hc, h1, h2.symm⟩
  · cases h
def T_laws_eqRangeS : Hints := ⟨fun i => if i = 6 then some [] else none, fun i => if i = 4 then some [0, 1, 5] else none, fun i => if i = 0 then some [0, 1] else if i = 1 then some [0, 1, 10] else if i = 2 then some [4] else if i = 3 then some [0, 1, 5] else if i = 4 then some [0, 1, 5, 14] else if i = 6 then some [0, 1, 5, 26] else if i = 7 then some [4] else if i = 5 then some [0, 1, 5] else if i = 8 then some [4] else none, fun _ => none⟩
noncomputable def Phi_laws_eqRangeS : Tab := fun f => if f = 36 then some spEqRange else none
attribute [go_sem] T_laws_eqRangeS Phi_laws_eqRangeS
theorem phi_laws_eqRangeS : ∀ f sp, Phi_laws_eqRangeS f = some sp → FnOk Tryd.prog f sp ∧ ∀ n ∈ sp.need, n ∈ ([] : List String) := by
  intro f sp h
  unfold Phi_laws_eqRangeS at h
  by_cases e : f = 36
  · rw [if_pos e] at h; cases h; rw [e]; exact ⟨ok_laws_eqRange, (fun n (h : n ∈ ([] : List String)) => (nomatch h))⟩
  rw [if_neg e] at h
  cases h
theorem ok_laws_eqRangeS : FnOk Tryd.prog 13 spEqRangeS := by
  refine fn_ok (Φ := Phi_laws_eqRangeS) (T := T_laws_eqRangeS) phi_laws_eqRangeS mixed Tryd.func13 rfl rfl rfl (by decide) ?_
  intro ins r outs hr hl
  clear hl
  have hs := spEqRangeS_in hr
  clear hr
  obtain ⟨x, y, rfl, hc, hr, rfl⟩ := hs
  simp only [spEqRangeS, Tryd.f13, Go.VM.initS]
  obtain ⟨hx, hy⟩ := hc
  by_cases hl : x.length = y.length
  case neg =>
    have g : ((x.length : Int) == y.length) = false := by rw [beq_eq_false_iff_ne]; omega
    have g' : ((x.length : Int) != y.length) = true := by rw [bne_iff_ne]; omega
    have hne : x ≠ y := fun e => hl (by rw [e])
    simp only [g, g', go_sem]
    repeat' ((first | ((first | apply qa | apply qb | apply qc | apply qd | apply qe | apply qf | apply qg | apply qh | apply qi | apply qj | apply qk) <;> intro hp) | ((first | refine ql rfl rfl (by decide +kernel) ?_ | refine qm _ rfl rfl (by decide +kernel) ?_ | refine goes_opn rfl ?_ | refine goes_opnD rfl rfl (by decide +kernel) ?_) <;> have hp := True.intro)) <;> simp only [hp, g, g', go_sem])
    simp only [fin_mk, finV, resL, resV1, resIn, endA, listIn, Option.some_or, Option.none_or, oneOrTup, go_sem]
    rw [← hr]
    simp only [hne, decide_false]
  have hl' : (x.length : Int) = y.length := by omega
  simp only [hl, bne_self_eq_false, go_sem]
  repeat' ((first | ((first | apply qa | apply qb | apply qc | apply qd | apply qe | apply qf | apply qg | apply qh | apply qi | apply qj | apply qk) <;> intro hp) | ((first | refine ql rfl rfl (by decide +kernel) ?_ | refine qm _ rfl rfl (by decide +kernel) ?_ | refine goes_opn rfl ?_ | refine goes_opnD rfl rfl (by decide +kernel) ?_) <;> have hp := True.intro)) <;> simp only [hp, hl, bne_self_eq_false, go_sem])
  refine loop_go (fun i : Nat => [(5, .int .i64 (i : Int))]) (fun _ => []) (fun i => x.length - i) (fun i => i ≤ x.length ∧ x.take i = y.take i) 0 ⟨Nat.zero_le _, by simp⟩ rfl rfl ?_
  intro i ⟨hi, he⟩ ih
  rcases Nat.lt_or_ge i x.length with h | h
  · have g1 : (i : Int) < x.length := by omega
    have g1' : (i : Int) < y.length := by omega
    have g2 : (0 : Int) ≤ i := by omega
    have g3 : x[i]? = some x[i] := List.getElem?_eq_getElem h
    have g4 : y[i]? = some (y[i]'(by omega)) := List.getElem?_eq_getElem (by omega)
    have g5 := wrap_succ h (by omega)
    skip
    by_cases hv : x[i] = (y[i]'(by omega))
    · simp only [g1, g1', g2, g3, g4, g5, hv, go_sem]
      repeat' ((first | ((first | apply qa | apply qb | apply qc | apply qd | apply qe | apply qf | apply qg | apply qh | apply qi | apply qj | apply qk) <;> intro hp) | ((first | refine ql rfl rfl (by decide +kernel) ?_ | refine qm _ rfl rfl (by decide +kernel) ?_ | refine goes_opn rfl ?_ | refine goes_opnD rfl rfl (by decide +kernel) ?_) <;> have hp := True.intro)) <;> simp only [hp, g1, g1', g2, g3, g4, g5, hv, go_sem])
      exact ih (i + 1) ⟨h, by rw [List.take_add_one, List.take_add_one, he, g3, g4, hv]⟩ (by omega)
    · have hne : x ≠ y := by rintro rfl; exact hv rfl
      have hv1 : (x[i] == (y[i]'(by omega))) = false := by rw [beq_eq_false_iff_ne]; exact hv
      have hv2 : (x[i] != (y[i]'(by omega))) = true := by rw [bne_iff_ne]; exact hv
      simp only [g1, g1', g2, g3, g4, g5, hv, hv1, hv2, go_sem]
      repeat' ((first | ((first | apply qa | apply qb | apply qc | apply qd | apply qe | apply qf | apply qg | apply qh | apply qi | apply qj | apply qk) <;> intro hp) | ((first | refine ql rfl rfl (by decide +kernel) ?_ | refine qm _ rfl rfl (by decide +kernel) ?_ | refine goes_opn rfl ?_ | refine goes_opnD rfl rfl (by decide +kernel) ?_) <;> have hp := True.intro)) <;> simp only [hp, g1, g1', g2, g3, g4, g5, hv, hv1, hv2, go_sem])
      simp only [fin_mk, finV, resL, resV1, resIn, endA, listIn, Option.some_or, Option.none_or, oneOrTup, go_sem]
      rw [← hr]
      simp only [hne, decide_false]
  · have g1 : ¬ (i : Int) < x.length := by omega
    have g1' : ¬ (i : Int) < y.length := by omega
    simp only [g1, g1', go_sem]
    simp only [fin_mk, finV, resL, resV1, resIn, endA, listIn, Option.some_or, Option.none_or, oneOrTup, go_sem]
    rw [← hr]
    rw [List.take_of_length_le h, List.take_of_length_le (by omega)] at he
    simp only [he, decide_true]
open Classical in
noncomputable def spMarkRangeS : VM.Spec := { modes := [.io, .rd], run := fun | [.lst 2 l', .int .i64 k] => (decL Range.dec l').bind fun l => if l.length ≤ 4194304 ∧ 0 ≤ k ∧ k ≤ 1152921504606846976 then some (.int .i64 ((markL meRange l k).2), [.lst 2 (((markL meRange l k).1).map Range.enc)]) else none | _ => none, need := [] }
attribute [go_sem] spMarkRangeS
theorem spMarkRangeS_in {ins : List V} {r : V} {outs : List V} (h : spMarkRangeS.run ins = some (r, outs)) : ∃ (l : (List Range)) (k : Int), ins = [.lst 2 ((l).map Range.enc), .int .i64 k] ∧ (l.length ≤ 4194304 ∧ 0 ≤ k ∧ k ≤ 1152921504606846976) ∧ .int .i64 ((markL meRange l k).2) = r ∧ outs = [.lst 2 (((markL meRange l k).1).map Range.enc)] := by
  unfold spMarkRangeS at h
  simp only at h
  split at h
  · rename_i l' k
    simp only [Option.bind_eq_some_iff] at h
    obtain ⟨l, h_l, h⟩ := h
    split at h
    case isFalse => cases h
    rename_i hc
    simp only [Option.some.injEq, Prod.mk.injEq] at h
    obtain ⟨h1, h2⟩ := h
    have h_l := decL_some (fun _ _ h => Range.dec_some h) h_l
    subst h_l
    exact ⟨l, k, rfl, hc, h1, h2.symm⟩
  · cases h
def T_laws_markRangeS : Hints := ⟨fun _ => none, fun i => if i = 2 then some [0, 1, 5] else none, fun i => if i = 0 then some [0, 1] else if i = 1 then some [0, 1, 5] else if i = 2 then some [0, 1, 5, 9] else if i = 4 then some [0, 1, 5] else if i = 5 then some [0, 1, 5] else if i = 6 then some [0, 1, 5] else if i = 7 then some [0, 1, 5] else if i = 3 then some [0, 1, 5] else if i = 8 then some [4] else none, fun _ => none⟩
noncomputable def Phi_laws_markRangeS : Tab := fun f => none
attribute [go_sem] T_laws_markRangeS Phi_laws_markRangeS
theorem phi_laws_markRangeS : ∀ f sp, Phi_laws_markRangeS f = some sp → FnOk Tryd.prog f sp ∧ ∀ n ∈ sp.need, n ∈ ([] : List String) := by
  intro f sp h
  unfold Phi_laws_markRangeS at h
  cases h
theorem ok_laws_markRangeS : FnOk Tryd.prog 15 spMarkRangeS := by
  refine fn_ok (Φ := Phi_laws_markRangeS) (T := T_laws_markRangeS) phi_laws_markRangeS mixed Tryd.func15 rfl rfl rfl (by decide) ?_
  intro ins r outs hr hl
  clear hl
  have hs := spMarkRangeS_in hr
  clear hr
  obtain ⟨l, k, rfl, hc, hr, rfl⟩ := hs
  simp only [spMarkRangeS, Tryd.f15, Go.VM.initS]
  obtain ⟨hc, h0, h1⟩ := hc
  simp only [go_sem]
  refine loop_go (fun p : Nat × List V × Int => [(1, .int .i64 p.2.2), (5, .int .i64 (p.1 : Int))]) (fun p => [(0, ⟨.arr, 2, p.2.1⟩)]) (fun p => l.length - p.1) (fun p => p.1 ≤ l.length ∧ p.2.1 = ((markL meRange (l.take p.1) k).1 ++ l.drop p.1).map Range.enc ∧ p.2.2 = (markL meRange (l.take p.1) k).2 ∧ p.2.2 = k + (2 : Nat) * p.1) (0, l.map Range.enc, k) ⟨Nat.zero_le _, by simp [markL], rfl, by simp⟩ rfl rfl ?_
  rintro ⟨i, els, k'⟩ ⟨hi, he, hk, hb⟩ ih
  simp only at hi he hk hb ih
  rcases Nat.lt_or_ge i l.length with h | h
  · have g1 : (i : Int) < l.length := by omega
    have g2 : (0 : Int) ≤ i := by omega
    obtain ⟨g3, gl, gs, gk⟩ := mark_round h he
    rw [← hk] at gs gk
    have g5 := wrap_succ h (by omega)
    have j0 : k' ≤ 4611686018427387904 := by omega
    have w0 : IntKind.i64.wrap (k' + 1) = k' + 1 := wrap64 (by omega) (by omega)
    have w1 : IntKind.i64.wrap (k' + 1 + 1) = k' + 1 + 1 := wrap64 (by omega) (by omega)
    have j1 : k' + 1 ≤ 4611686018427387904 := by omega
    have j2 : k' + 1 + 1 ≤ 4611686018427387904 := by omega
    rw [Range.enc] at g3
    have gi : i < els.length := by omega
    simp only [g1, g2, g3, gl, g5, h, w0, w1, j0, j1, j2, List.getElem?_set_self, List.length_set, List.set_set, go_sem]
    repeat' ((first | ((first | apply qa | apply qb | apply qc | apply qd | apply qe | apply qf | apply qg | apply qh | apply qi | apply qj | apply qk) <;> intro hp) | ((first | refine ql rfl rfl (by decide +kernel) ?_ | refine qm _ rfl rfl (by decide +kernel) ?_ | refine goes_opn rfl ?_ | refine goes_opnD rfl rfl (by decide +kernel) ?_) <;> have hp := True.intro)) <;> simp only [hp, g1, g2, g3, gl, g5, h, w0, w1, j0, j1, j2, List.getElem?_set_self, List.length_set, List.set_set, go_sem])
    refine ih (i + 1, els.set i (Range.enc (meRange l[i] k').1), (meRange l[i] k').2) ⟨h, gs, gk, by simp only [meRange]; omega⟩ (by simp only; omega)
  · have g1 : ¬ (i : Int) < l.length := by omega
    have gl : els.length = l.length := by rw [he]; simp [markL_len]; omega
    simp only [g1, gl, go_sem]
    simp only [fin_mk, finV, resL, resV1, resIn, endA, listIn, Option.some_or, Option.none_or, oneOrTup, go_sem]
    rw [← hr, he, hk, List.take_of_length_le h, List.drop_of_length_le h, List.append_nil]
open Classical in
noncomputable def spHeldRangeS : VM.Spec := { modes := [.rd, .rd], run := fun | [.lst 2 l', .int .i64 k] => (decL Range.dec l').bind fun l => if l.length ≤ 4194304 ∧ 0 ≤ k ∧ k ≤ 1152921504606846976 then some (.int .i64 ((heldL heRange l k).getD (-1)), []) else none | _ => none, need := [] }
attribute [go_sem] spHeldRangeS
theorem spHeldRangeS_in {ins : List V} {r : V} {outs : List V} (h : spHeldRangeS.run ins = some (r, outs)) : ∃ (l : (List Range)) (k : Int), ins = [.lst 2 ((l).map Range.enc), .int .i64 k] ∧ (l.length ≤ 4194304 ∧ 0 ≤ k ∧ k ≤ 1152921504606846976) ∧ .int .i64 ((heldL heRange l k).getD (-1)) = r ∧ outs = [] := by
  unfold spHeldRangeS at h
  simp only at h
  split at h
  · rename_i l' k
    simp only [Option.bind_eq_some_iff] at h
    obtain ⟨l, h_l, h⟩ := h
    split at h
    case isFalse => cases h
    rename_i hc
    simp only [Option.some.injEq, Prod.mk.injEq] at h
    obtain ⟨h1, h2⟩ := h
    have h_l := decL_some (fun _ _ h => Range.dec_some h) h_l
    subst h_l
    exact ⟨l, k, rfl, hc, h1, h2.symm⟩
  · cases h
def T_laws_heldRangeS : Hints := ⟨fun _ => none, fun i => if i = 2 then some [0, 1, 5] else none, fun i => if i = 0 then some [0, 1] else if i = 1 then some [0, 1, 5] else if i = 2 then some [0, 1, 5, 9] else if i = 4 then some [0, 1, 5, 18] else if i = 5 then some [4] else if i = 6 then some [0, 1, 5] else if i = 7 then some [0, 1, 5, 27] else if i = 8 then some [4] else if i = 9 then some [0, 1, 5] else if i = 3 then some [0, 1, 5] else if i = 10 then some [4] else none, fun _ => none⟩
noncomputable def Phi_laws_heldRangeS : Tab := fun f => none
attribute [go_sem] T_laws_heldRangeS Phi_laws_heldRangeS
theorem phi_laws_heldRangeS : ∀ f sp, Phi_laws_heldRangeS f = some sp → FnOk Tryd.prog f sp ∧ ∀ n ∈ sp.need, n ∈ ([] : List String) := by
  intro f sp h
  unfold Phi_laws_heldRangeS at h
  cases h
theorem ok_laws_heldRangeS : FnOk Tryd.prog 51 spHeldRangeS := by
  refine fn_ok (Φ := Phi_laws_heldRangeS) (T := T_laws_heldRangeS) phi_laws_heldRangeS mixed Tryd.func51 rfl rfl rfl (by decide) ?_
  intro ins r outs hr hl
  clear hl
  have hs := spHeldRangeS_in hr
  clear hr
  obtain ⟨l, k, rfl, hc, hr, rfl⟩ := hs
  simp only [spHeldRangeS, Tryd.f51, Go.VM.initS]
  obtain ⟨hc, h0, h1⟩ := hc
  simp only [go_sem]
  refine loop_go (fun p : Nat × Int => [(1, .int .i64 p.2), (5, .int .i64 (p.1 : Int))]) (fun p => []) (fun p => l.length - p.1) (fun p => p.1 ≤ l.length ∧ heldL heRange (l.take p.1) k = some p.2 ∧ p.2 = k + (2 : Nat) * p.1) (0, k) ⟨Nat.zero_le _, rfl, by simp⟩ rfl rfl ?_
  rintro ⟨i, k'⟩ ⟨hi, hk, hb⟩ ih
  simp only at hi hk hb ih
  rcases Nat.lt_or_ge i l.length with h | h
  · have g1 : (i : Int) < l.length := by omega
    have g2 : (0 : Int) ≤ i := by omega
    have g3 : l[i]? = some l[i] := List.getElem?_eq_getElem h
    have g5 := wrap_succ h (by omega)
    have j0 : k' ≤ 4611686018427387904 := by omega
    have w0 : IntKind.i64.wrap (k' + 1) = k' + 1 := wrap64 (by omega) (by omega)
    have w1 : IntKind.i64.wrap (k' + 1 + 1) = k' + 1 + 1 := wrap64 (by omega) (by omega)
    have j1 : k' + 1 ≤ 4611686018427387904 := by omega
    have j2 : k' + 1 + 1 ≤ 4611686018427387904 := by omega
    have hbad : (meRange l[i] k').1 ≠ l[i] → V.int .i64 (-1) = r := fun hn => by
      rw [← hr, heldL_bad h hk (by simp only [heRange, heOf, hn, if_false])]; rfl
    have hgood : (meRange l[i] k').1 = l[i] → heldL heRange (l.take (i + 1)) k = some ((meRange l[i] k').2) := fun hn => heldL_good h hk (by simp only [heRange, heOf, hn, if_true])
    by_cases hn : (meRange l[i] k').1 = l[i]
    · have e0 : l[i].Lo = k' := (congrArg Range.Lo hn).symm
      have e1 : l[i].Hi = k' + 1 := (congrArg Range.Hi hn).symm
      simp only [g1, g2, g3, g5, w0, w1, j0, j1, j2, e0, e1, bne_self_eq_false, go_sem]
      repeat' ((first | ((first | apply qa | apply qb | apply qc | apply qd | apply qe | apply qf | apply qg | apply qh | apply qi | apply qj | apply qk) <;> intro hp) | ((first | refine ql rfl rfl (by decide +kernel) ?_ | refine qm _ rfl rfl (by decide +kernel) ?_ | refine goes_opn rfl ?_ | refine goes_opnD rfl rfl (by decide +kernel) ?_) <;> have hp := True.intro)) <;> simp only [hp, g1, g2, g3, g5, w0, w1, j0, j1, j2, e0, e1, bne_self_eq_false, go_sem])
      exact ih (i + 1, (meRange l[i] k').2) ⟨h, hgood hn, by simp only [meRange]; omega⟩ (by simp only; omega)
    · simp only [g1, g2, g3, g5, w0, w1, j0, j1, j2, go_sem]
      repeat' ((first | ((first | apply qa | apply qb | apply qc | apply qd | apply qe | apply qf | apply qg | apply qh | apply qi | apply qj | apply qk) <;> intro hp) | ((first | refine ql rfl rfl (by decide +kernel) ?_ | refine qm _ rfl rfl (by decide +kernel) ?_ | refine goes_opn rfl ?_ | refine goes_opnD rfl rfl (by decide +kernel) ?_) <;> have hp := True.intro)) <;> simp only [hp, g1, g2, g3, g5, w0, w1, j0, j1, j2, go_sem])
      all_goals first
        | (refine fin_mk.2 ?_; simp only [fin_mk, finV, resL, resV1, resIn, endA, listIn, Option.some_or, Option.none_or, oneOrTup, go_sem]; rw [hbad hn])
        | (exfalso; apply hn; clear hn ih hbad hgood hk hr hc h0 h1; simp only [meRange]; cases hx : l[i]; simp_all)
  · have g1 : ¬ (i : Int) < l.length := by omega
    simp only [g1, go_sem]
    simp only [fin_mk, finV, resL, resV1, resIn, endA, listIn, Option.some_or, Option.none_or, oneOrTup, go_sem]
    rw [← hr]
    rw [List.take_of_length_le h] at hk
    rw [hk]; rfl
open Classical in
noncomputable def spEqEdit : VM.Spec := { modes := [.rd, .rd], run := fun | [x', y'] => (Edit.dec x').bind fun x => (Edit.dec y').bind fun y => if x.le 4194304 ∧ y.le 4194304 then some (.bool (decide (x = y)), []) else none | _ => none, need := [] }
attribute [go_sem] spEqEdit
theorem spEqEdit_in {ins : List V} {r : V} {outs : List V} (h : spEqEdit.run ins = some (r, outs)) : ∃ (x : Edit) (y : Edit), ins = [Edit.enc x, Edit.enc y] ∧ (x.le 4194304 ∧ y.le 4194304) ∧ .bool (decide (x = y)) = r ∧ outs = [] := by
  unfold spEqEdit at h
  simp only at h
  split at h
  · rename_i x' y'
    simp only [Option.bind_eq_some_iff] at h
    obtain ⟨x, h_x, y, h_y, h⟩ := h
    split at h
    case isFalse => cases h
    rename_i hc
    simp only [Option.some.injEq, Prod.mk.injEq] at h
    obtain ⟨h1, h2⟩ := h
    have h_x := Edit.dec_some h_x
    subst h_x
    have h_y := Edit.dec_some h_y
    subst h_y
    exact ⟨x, y, rfl, hc, h1, h2.symm⟩
  · cases h
def T_laws_eqEdit : Hints := ⟨fun _ => none, fun _ => none, fun i => if i = 0 then some [2, 3] else if i = 1 then some [2, 3, 9] else if i = 2 then some [4] else if i = 3 then some [2, 3, 14] else if i = 4 then some [4] else if i = 5 then some [2, 3, 19] else if i = 6 then some [4] else if i = 7 then some [2, 3, 25] else if i = 8 then some [4] else if i = 9 then some [2, 3, 30] else if i = 10 then some [4] else if i = 11 then some [2, 3, 35] else if i = 12 then some [4] else if i = 13 then some [2, 3, 40] else if i = 14 then some [4] else if i = 15 then some [45] else if i = 16 then some [4] else if i = 17 then some [4] else none, fun _ => none⟩
noncomputable def Phi_laws_eqEdit : Tab := fun f => if f = 13 then some spEqRangeS else none
attribute [go_sem] T_laws_eqEdit Phi_laws_eqEdit
theorem phi_laws_eqEdit : ∀ f sp, Phi_laws_eqEdit f = some sp → FnOk Tryd.prog f sp ∧ ∀ n ∈ sp.need, n ∈ ([] : List String) := by
  intro f sp h
  unfold Phi_laws_eqEdit at h
  by_cases e : f = 13
  · rw [if_pos e] at h; cases h; rw [e]; exact ⟨ok_laws_eqRangeS, (fun n (h : n ∈ ([] : List String)) => (nomatch h))⟩
  rw [if_neg e] at h
  cases h
theorem ok_laws_eqEdit : FnOk Tryd.prog 20 spEqEdit := by
  refine fn_ok (Φ := Phi_laws_eqEdit) (T := T_laws_eqEdit) phi_laws_eqEdit mixed Tryd.func20 rfl rfl rfl (by decide) ?_
  intro ins r outs hr hl
  clear hl
  have hs := spEqEdit_in hr
  clear hr
  obtain ⟨x, y, rfl, hc, hr, rfl⟩ := hs
  simp only [spEqEdit, Tryd.f20, Go.VM.initS]
  have c2 : x.Set.length ≤ 4194304 := hc.1.2.2.1.1
  have d2 : y.Set.length ≤ 4194304 := hc.2.2.2.1.1
  simp only [c2, d2, and_self, go_sem]
  repeat' ((first | ((first | apply qa | apply qb | apply qc | apply qd | apply qe | apply qf | apply qg | apply qh | apply qi | apply qj | apply qk) <;> intro hp) | ((first | refine ql rfl rfl (by decide +kernel) ?_ | refine qm _ rfl rfl (by decide +kernel) ?_ | refine goes_opn rfl ?_ | refine goes_opnD rfl rfl (by decide +kernel) ?_) <;> have hp := True.intro)) <;> simp only [hp, c2, d2, and_self, go_sem])
  all_goals (simp only [fin_mk, finV, resL, resV1, resIn, endA, listIn, Option.some_or, Option.none_or, oneOrTup, go_sem]; rw [← hr])
  all_goals (cases x; cases y; simp_all)
open Classical in
noncomputable def spMarkEdit : VM.Spec := { modes := [.io, .rd], run := fun | [x', .int .i64 k] => (Edit.dec x').bind fun x => if (x.Set.length ≤ 4194304) ∧ 0 ≤ k ∧ k ≤ 288230376151711744 then some (.int .i64 ((msEdit x k).2), [Edit.enc ((msEdit x k).1)]) else none | _ => none, need := [] }
attribute [go_sem] spMarkEdit
theorem spMarkEdit_in {ins : List V} {r : V} {outs : List V} (h : spMarkEdit.run ins = some (r, outs)) : ∃ (x : Edit) (k : Int), ins = [Edit.enc x, .int .i64 k] ∧ ((x.Set.length ≤ 4194304) ∧ 0 ≤ k ∧ k ≤ 288230376151711744) ∧ .int .i64 ((msEdit x k).2) = r ∧ outs = [Edit.enc ((msEdit x k).1)] := by
  unfold spMarkEdit at h
  simp only at h
  split at h
  · rename_i x' k
    simp only [Option.bind_eq_some_iff] at h
    obtain ⟨x, h_x, h⟩ := h
    split at h
    case isFalse => cases h
    rename_i hc
    simp only [Option.some.injEq, Prod.mk.injEq] at h
    obtain ⟨h1, h2⟩ := h
    have h_x := Edit.dec_some h_x
    subst h_x
    exact ⟨x, k, rfl, hc, h1, h2.symm⟩
  · cases h
def T_laws_markEdit : Hints := ⟨fun _ => none, fun _ => none, fun i => if i = 0 then some [1, 2] else if i = 1 then some [1] else if i = 2 then some [4] else none, fun _ => none⟩
noncomputable def Phi_laws_markEdit : Tab := fun f => if f = 15 then some spMarkRangeS else none
attribute [go_sem] T_laws_markEdit Phi_laws_markEdit
theorem phi_laws_markEdit : ∀ f sp, Phi_laws_markEdit f = some sp → FnOk Tryd.prog f sp ∧ ∀ n ∈ sp.need, n ∈ ([] : List String) := by
  intro f sp h
  unfold Phi_laws_markEdit at h
  by_cases e : f = 15
  · rw [if_pos e] at h; cases h; rw [e]; exact ⟨ok_laws_markRangeS, (fun n (h : n ∈ ([] : List String)) => (nomatch h))⟩
  rw [if_neg e] at h
  cases h
theorem ok_laws_markEdit : FnOk Tryd.prog 21 spMarkEdit := by
  refine fn_ok (Φ := Phi_laws_markEdit) (T := T_laws_markEdit) phi_laws_markEdit mixed Tryd.func21 rfl rfl rfl (by decide) ?_
  intro ins r outs hr hl
  clear hl
  have hs := spMarkEdit_in hr
  clear hr
  obtain ⟨x, k, rfl, hc, hr, rfl⟩ := hs
  simp only [spMarkEdit, Tryd.f21, Go.VM.initS]
  obtain ⟨hc, h0, h1⟩ := hc
  have c0 := hc
  have i0 : k ≤ 1152921504606846976 := by omega
  simp only [c0, h0, i0, go_sem]
  repeat' ((first | ((first | apply qa | apply qb | apply qc | apply qd | apply qe | apply qf | apply qg | apply qh | apply qi | apply qj | apply qk) <;> intro hp) | ((first | refine ql rfl rfl (by decide +kernel) ?_ | refine qm _ rfl rfl (by decide +kernel) ?_ | refine goes_opn rfl ?_ | refine goes_opnD rfl rfl (by decide +kernel) ?_) <;> have hp := True.intro)) <;> simp only [hp, c0, h0, i0, go_sem])
  simp only [fin_mk, finV, resL, resV1, resIn, endA, listIn, Option.some_or, Option.none_or, oneOrTup, go_sem]
  rw [← hr]
  simp only [msEdit]
open Classical in
noncomputable def spHeldEdit : VM.Spec := { modes := [.rd, .rd], run := fun | [x', .int .i64 k] => (Edit.dec x').bind fun x => if (x.Set.length ≤ 4194304) ∧ 0 ≤ k ∧ k ≤ 288230376151711744 then some (.int .i64 ((hsEdit x k).getD (-1)), []) else none | _ => none, need := [] }
attribute [go_sem] spHeldEdit
theorem spHeldEdit_in {ins : List V} {r : V} {outs : List V} (h : spHeldEdit.run ins = some (r, outs)) : ∃ (x : Edit) (k : Int), ins = [Edit.enc x, .int .i64 k] ∧ ((x.Set.length ≤ 4194304) ∧ 0 ≤ k ∧ k ≤ 288230376151711744) ∧ .int .i64 ((hsEdit x k).getD (-1)) = r ∧ outs = [] := by
  unfold spHeldEdit at h
  simp only at h
  split at h
  · rename_i x' k
    simp only [Option.bind_eq_some_iff] at h
    obtain ⟨x, h_x, h⟩ := h
    split at h
    case isFalse => cases h
    rename_i hc
    simp only [Option.some.injEq, Prod.mk.injEq] at h
    obtain ⟨h1, h2⟩ := h
    have h_x := Edit.dec_some h_x
    subst h_x
    exact ⟨x, k, rfl, hc, h1, h2.symm⟩
  · cases h
def T_laws_heldEdit : Hints := ⟨fun _ => none, fun _ => none, fun i => if i = 0 then some [1, 2] else if i = 1 then some [1] else if i = 2 then some [1, 10] else if i = 3 then some [4] else if i = 4 then some [4] else none, fun _ => none⟩
noncomputable def Phi_laws_heldEdit : Tab := fun f => if f = 51 then some spHeldRangeS else none
attribute [go_sem] T_laws_heldEdit Phi_laws_heldEdit
theorem phi_laws_heldEdit : ∀ f sp, Phi_laws_heldEdit f = some sp → FnOk Tryd.prog f sp ∧ ∀ n ∈ sp.need, n ∈ ([] : List String) := by
  intro f sp h
  unfold Phi_laws_heldEdit at h
  by_cases e : f = 51
  · rw [if_pos e] at h; cases h; rw [e]; exact ⟨ok_laws_heldRangeS, (fun n (h : n ∈ ([] : List String)) => (nomatch h))⟩
  rw [if_neg e] at h
  cases h
theorem ok_laws_heldEdit : FnOk Tryd.prog 22 spHeldEdit := by
  refine fn_ok (Φ := Phi_laws_heldEdit) (T := T_laws_heldEdit) phi_laws_heldEdit mixed Tryd.func22 rfl rfl rfl (by decide) ?_
  intro ins r outs hr hl
  clear hl
  have hs := spHeldEdit_in hr
  clear hr
  obtain ⟨x, k, rfl, hc, hr, rfl⟩ := hs
  simp only [spHeldEdit, Tryd.f22, Go.VM.initS]
  obtain ⟨hc, h0, h1⟩ := hc
  have c0 := hc
  have i0 : k ≤ 1152921504606846976 := by omega
  cases e0 : heldL heRange x.Set k with
  | none =>
    simp only [c0, h0, i0, e0, Option.getD_none, Option.getD_some, go_sem]
    repeat' ((first | ((first | apply qa | apply qb | apply qc | apply qd | apply qe | apply qf | apply qg | apply qh | apply qi | apply qj | apply qk) <;> intro hp) | ((first | refine ql rfl rfl (by decide +kernel) ?_ | refine qm _ rfl rfl (by decide +kernel) ?_ | refine goes_opn rfl ?_ | refine goes_opnD rfl rfl (by decide +kernel) ?_) <;> have hp := True.intro)) <;> simp only [hp, c0, h0, i0, e0, Option.getD_none, Option.getD_some, go_sem])
    simp only [fin_mk, finV, resL, resV1, resIn, endA, listIn, Option.some_or, Option.none_or, oneOrTup, go_sem]
    rw [← hr]
    simp only [hsEdit, e0, Option.bind_some, Option.bind_none, Option.getD_none]
  | some k0 =>
  have q0 := heldL_k heRange_k _ _ _ e0
  have y0 : 0 ≤ k0 := by omega
  have z0 : k0 ≤ 1152921504606846976 := by omega
  have n0 : ¬ k0 < 0 := by omega
  simp only [c0, h0, i0, e0, y0, z0, n0, Option.getD_some, go_sem]
  repeat' ((first | ((first | apply qa | apply qb | apply qc | apply qd | apply qe | apply qf | apply qg | apply qh | apply qi | apply qj | apply qk) <;> intro hp) | ((first | refine ql rfl rfl (by decide +kernel) ?_ | refine qm _ rfl rfl (by decide +kernel) ?_ | refine goes_opn rfl ?_ | refine goes_opnD rfl rfl (by decide +kernel) ?_) <;> have hp := True.intro)) <;> simp only [hp, c0, h0, i0, e0, y0, z0, n0, Option.getD_some, go_sem])
  simp only [fin_mk, finV, resL, resV1, resIn, endA, listIn, Option.some_or, Option.none_or, oneOrTup, go_sem]
  rw [← hr]
  simp only [hsEdit, e0, Option.bind_some, Option.getD_some]
end Go.Proofs.YtglldabpgobimaaDoor.L
