/- The laws' own functions: what is left of a size, copies, equality, marks. What each computes. -/
import Derived.Test.YtimiccneikhkgaaGreatDoorVLA
namespace Go.Proofs.YtimiccneikhkgaaGreatDoor.L
open Go Go.VM
set_option maxRecDepth 100000
set_option linter.unusedSimpArgs false
set_option linter.unusedVariables false
open Classical in
noncomputable def spMarkText : VM.Spec := { modes := [.rd], run := fun | [.int .i64 k] => if k ≤ 4611686018427387904 then some (.str (markText k), []) else none | _ => none, need := [] }
attribute [go_sem] spMarkText
theorem spMarkText_in {ins : List V} {r : V} {outs : List V} (h : spMarkText.run ins = some (r, outs)) : ∃ (k : Int), ins = [.int .i64 k] ∧ (k ≤ 4611686018427387904) ∧ .str (markText k) = r ∧ outs = [] := by
  unfold spMarkText at h
  simp only at h
  split at h
  · rename_i k
    split at h
    case isFalse => cases h
    rename_i hc
    simp only [Option.some.injEq, Prod.mk.injEq] at h
    obtain ⟨h1, h2⟩ := h
    exact ⟨k, rfl, hc, h1, h2.symm⟩
  · cases h
def T_laws_markText : Hints := ⟨fun _ => none, fun i => if i = 4 then some [0, 3] else none, fun i => if i = 0 then some [0] else if i = 1 then some [0, 5] else if i = 2 then some [2] else if i = 3 then some [0, 3] else if i = 4 then some [0, 3, 7] else if i = 5 then some [0, 3] else if i = 6 then some [0, 3] else if i = 7 then some [2] else none, fun _ => none⟩
noncomputable def Phi_laws_markText : Tab := fun f => none
attribute [go_sem] T_laws_markText Phi_laws_markText
theorem phi_laws_markText : ∀ f sp, Phi_laws_markText f = some sp → FnOk Tryz.prog f sp ∧ ∀ n ∈ sp.need, n ∈ ([] : List String) := by
  intro f sp h
  unfold Phi_laws_markText at h
  cases h
theorem ok_laws_markText : FnOk Tryz.prog 95 spMarkText := by
  refine fn_ok (Φ := Phi_laws_markText) (T := T_laws_markText) phi_laws_markText mixed Tryz.func95 rfl rfl rfl (by decide) ?_
  intro ins r outs hr hl
  clear hl
  have hs := spMarkText_in hr
  clear hr
  obtain ⟨k, rfl, hc, hr, rfl⟩ := hs
  simp only [spMarkText, Tryz.f95, Go.VM.initS]
  by_cases hk : k ≤ 0
  · simp only [hk, go_sem]
    repeat' ((first | ((first | apply qa | apply qb | apply qc | apply qd | apply qe | apply qf | apply qg | apply qh | apply qi | apply qj | apply qk) <;> intro hp) | ((first | refine ql rfl rfl (by decide +kernel) ?_ | refine qm _ rfl rfl (by decide +kernel) ?_ | refine goes_opn rfl ?_ | refine goes_opnD rfl rfl (by decide +kernel) ?_) <;> have hp := True.intro)) <;> simp only [hp, hk, go_sem])
    simp only [fin_mk, finV, resL, resV1, resIn, endA, listIn, Option.some_or, Option.none_or, oneOrTup, go_sem]
    rw [← hr]
    simp only [markText, hk, if_true]
  simp only [hk, go_sem]
  refine loop_go (fun p : Int × List UInt8 => [(0, .int .i64 p.1), (3, .str p.2)]) (fun _ => []) (fun p => p.1.toNat) (fun p => 0 ≤ p.1 ∧ p.1 + p.2.length ≤ k ∧ markGo p.1 p.2 = markGo k []) (k, []) ⟨by simp only; omega, by simp, rfl⟩ rfl rfl ?_
  rintro ⟨m, out⟩ ⟨h0, h1, h2⟩ ih
  simp only at h0 h1 h2 ih
  by_cases hm : 0 < m
  · have d1 : m.tdiv 10 = m / 10 := Int.tdiv_eq_ediv_of_nonneg h0
    have d2 : m.tmod 10 = m % 10 := Int.tmod_eq_emod_of_nonneg h0
    have w1 : IntKind.i64.wrap (48 + m.tmod 10) = 48 + m.tmod 10 := wrap64 (by omega) (by omega)
    have w2 : IntKind.i64.wrap (m.tdiv 10) = m.tdiv 10 := wrap64 (by omega) (by omega)
    have w3 : IntKind.u8.wrap (48 + m.tmod 10) = 48 + m.tmod 10 := by
      simp only [IntKind.wrap, IntKind.signed, IntKind.bits, Bool.false_and]
      simp; omega
    have u1 : (0 : Int) ≤ 48 + m.tmod 10 := by omega
    have u2 : 48 + m.tmod 10 < 256 := by omega
    have u3 : 1 + out.length ≤ 9223372036854775807 := by omega
    simp only [hm, w1, w2, w3, u1, u2, u3, unBytes, Int.reduceEq, go_sem]
    refine ih (m.tdiv 10, UInt8.ofNat (48 + m.tmod 10).toNat :: out) ⟨by simp only; omega, by simp only [List.length_cons]; omega, ?_⟩ (by simp only; omega)
    simp only
    rw [← h2]
    conv => rhs; rw [markGo]
    simp [hm]
  · have e : m = 0 := by omega
    subst e
    have u3 : 1 + out.length ≤ 9223372036854775807 := by omega
    simp only [u3, String.reduceToList, go_sem]
    simp only [fin_mk, finV, resL, resV1, resIn, endA, listIn, Option.some_or, Option.none_or, oneOrTup, go_sem]
    rw [← hr]
    rw [markGo] at h2
    simp only [markText, hk, if_false, ← h2]
    rfl
open Classical in
noncomputable def spToRange : VM.Spec := { modes := [.rd], run := fun | [x'] => (Range.dec x').bind fun x => some (Range.enc x, []) | _ => none, need := [] }
attribute [go_sem] spToRange
theorem spToRange_in {ins : List V} {r : V} {outs : List V} (h : spToRange.run ins = some (r, outs)) : ∃ (x : Range), ins = [Range.enc x] ∧ Range.enc x = r ∧ outs = [] := by
  unfold spToRange at h
  simp only at h
  split at h
  · rename_i x'
    simp only [Option.bind_eq_some_iff] at h
    obtain ⟨x, h_x, h⟩ := h
    simp only [Option.some.injEq, Prod.mk.injEq] at h
    obtain ⟨h1, h2⟩ := h
    have h_x := Range.dec_some h_x
    subst h_x
    exact ⟨x, rfl, h1, h2.symm⟩
  · cases h
def T_laws_toRange : Hints := ⟨fun _ => none, fun _ => none, fun i => if i = 0 then some [1, 2] else if i = 1 then some [1, 2, 3] else if i = 2 then some [1, 2, 3] else if i = 3 then some [2, 3] else if i = 4 then some [2] else none, fun _ => none⟩
noncomputable def Phi_laws_toRange : Tab := fun f => none
attribute [go_sem] T_laws_toRange Phi_laws_toRange
theorem phi_laws_toRange : ∀ f sp, Phi_laws_toRange f = some sp → FnOk Tryz.prog f sp ∧ ∀ n ∈ sp.need, n ∈ ([] : List String) := by
  intro f sp h
  unfold Phi_laws_toRange at h
  cases h
theorem ok_laws_toRange : FnOk Tryz.prog 177 spToRange := by
  refine fn_ok (Φ := Phi_laws_toRange) (T := T_laws_toRange) phi_laws_toRange mixed Tryz.func177 rfl rfl rfl (by decide) ?_
  intro ins r outs hr hl
  clear hl
  have hs := spToRange_in hr
  clear hr
  obtain ⟨x, rfl, hr, rfl⟩ := hs
  simp only [spToRange, Tryz.f177, Go.VM.initS]
  simp only [go_sem]
  repeat' ((first | ((first | apply qa | apply qb | apply qc | apply qd | apply qe | apply qf | apply qg | apply qh | apply qi | apply qj | apply qk) <;> intro hp) | ((first | refine ql rfl rfl (by decide +kernel) ?_ | refine qm _ rfl rfl (by decide +kernel) ?_ | refine goes_opn rfl ?_ | refine goes_opnD rfl rfl (by decide +kernel) ?_) <;> have hp := True.intro)) <;> simp only [hp, go_sem])
  simp only [fin_mk, finV, resL, resV1, resIn, endA, listIn, Option.some_or, Option.none_or, oneOrTup, go_sem]
  rw [← hr]
  rfl
open Classical in
noncomputable def spEqRange : VM.Spec := { modes := [.rd, .rd], run := fun | [x', y'] => (Range.dec x').bind fun x => (Range.dec y').bind fun y => some (.bool (decide (x = y)), []) | _ => none, need := [] }
attribute [go_sem] spEqRange
theorem spEqRange_in {ins : List V} {r : V} {outs : List V} (h : spEqRange.run ins = some (r, outs)) : ∃ (x : Range) (y : Range), ins = [Range.enc x, Range.enc y] ∧ .bool (decide (x = y)) = r ∧ outs = [] := by
  unfold spEqRange at h
  simp only at h
  split at h
  · rename_i x' y'
    simp only [Option.bind_eq_some_iff] at h
    obtain ⟨x, h_x, y, h_y, h⟩ := h
    simp only [Option.some.injEq, Prod.mk.injEq] at h
    obtain ⟨h1, h2⟩ := h
    have h_x := Range.dec_some h_x
    subst h_x
    have h_y := Range.dec_some h_y
    subst h_y
    exact ⟨x, y, rfl, h1, h2.symm⟩
  · cases h
def T_laws_eqRange : Hints := ⟨fun _ => none, fun _ => none, fun i => if i = 0 then some [2, 3] else if i = 1 then some [2, 3, 9] else if i = 2 then some [4] else if i = 3 then some [14] else if i = 4 then some [4] else if i = 5 then some [4] else none, fun _ => none⟩
noncomputable def Phi_laws_eqRange : Tab := fun f => none
attribute [go_sem] T_laws_eqRange Phi_laws_eqRange
theorem phi_laws_eqRange : ∀ f sp, Phi_laws_eqRange f = some sp → FnOk Tryz.prog f sp ∧ ∀ n ∈ sp.need, n ∈ ([] : List String) := by
  intro f sp h
  unfold Phi_laws_eqRange at h
  cases h
theorem ok_laws_eqRange : FnOk Tryz.prog 181 spEqRange := by
  refine fn_ok (Φ := Phi_laws_eqRange) (T := T_laws_eqRange) phi_laws_eqRange mixed Tryz.func181 rfl rfl rfl (by decide) ?_
  intro ins r outs hr hl
  clear hl
  have hs := spEqRange_in hr
  clear hr
  obtain ⟨x, y, rfl, hr, rfl⟩ := hs
  simp only [spEqRange, Tryz.f181, Go.VM.initS]
  simp only [and_self, go_sem]
  repeat' ((first | ((first | apply qa | apply qb | apply qc | apply qd | apply qe | apply qf | apply qg | apply qh | apply qi | apply qj | apply qk) <;> intro hp) | ((first | refine ql rfl rfl (by decide +kernel) ?_ | refine qm _ rfl rfl (by decide +kernel) ?_ | refine goes_opn rfl ?_ | refine goes_opnD rfl rfl (by decide +kernel) ?_) <;> have hp := True.intro)) <;> simp only [hp, and_self, go_sem])
  all_goals (simp only [fin_mk, finV, resL, resV1, resIn, endA, listIn, Option.some_or, Option.none_or, oneOrTup, go_sem]; rw [← hr])
  all_goals (cases x; cases y; simp_all)
open Classical in
noncomputable def spSzRangeS : VM.Spec := { modes := [.rd, .rd], run := fun | [.lst 2 l', .int .i64 n] => (decL Range.dec l').bind fun l => if l.length ≤ 4611686018427387904 ∧ 0 ≤ n ∧ n ≤ 4611686018427387904 then some (.int .i64 (szF l n), []) else none | _ => none, need := [] }
attribute [go_sem] spSzRangeS
theorem spSzRangeS_in {ins : List V} {r : V} {outs : List V} (h : spSzRangeS.run ins = some (r, outs)) : ∃ (l : (List Range)) (n : Int), ins = [.lst 2 ((l).map Range.enc), .int .i64 n] ∧ (l.length ≤ 4611686018427387904 ∧ 0 ≤ n ∧ n ≤ 4611686018427387904) ∧ .int .i64 (szF l n) = r ∧ outs = [] := by
  unfold spSzRangeS at h
  simp only at h
  split at h
  · rename_i l' n
    simp only [Option.bind_eq_some_iff] at h
    obtain ⟨l, h_l, h⟩ := h
    split at h
    case isFalse => cases h
    rename_i hc
    simp only [Option.some.injEq, Prod.mk.injEq] at h
    obtain ⟨h1, h2⟩ := h
    have h_l := decL_some (fun _ _ h => Range.dec_some h) h_l
    subst h_l
    exact ⟨l, n, rfl, hc, h1, h2.symm⟩
  · cases h
def T_laws_szRangeS : Hints := ⟨fun _ => none, fun _ => none, fun i => if i = 0 then some [0, 1] else if i = 1 then some [1] else if i = 2 then some [1, 10] else if i = 3 then some [4] else if i = 4 then some [4] else none, fun _ => none⟩
noncomputable def Phi_laws_szRangeS : Tab := fun f => none
attribute [go_sem] T_laws_szRangeS Phi_laws_szRangeS
theorem phi_laws_szRangeS : ∀ f sp, Phi_laws_szRangeS f = some sp → FnOk Tryz.prog f sp ∧ ∀ n ∈ sp.need, n ∈ ([] : List String) := by
  intro f sp h
  unfold Phi_laws_szRangeS at h
  cases h
theorem ok_laws_szRangeS : FnOk Tryz.prog 143 spSzRangeS := by
  refine fn_ok (Φ := Phi_laws_szRangeS) (T := T_laws_szRangeS) phi_laws_szRangeS mixed Tryz.func143 rfl rfl rfl (by decide) ?_
  intro ins r outs hr hl
  clear hl
  have hs := spSzRangeS_in hr
  clear hr
  obtain ⟨l, n, rfl, hc, hr, rfl⟩ := hs
  simp only [spSzRangeS, Tryz.f143, Go.VM.initS]
  obtain ⟨hc, h0, h1⟩ := hc
  have w : IntKind.i64.wrap (n - (l.length : Int)) = n - l.length := wrap64 (by omega) (by omega)
  simp only [w, go_sem]
  repeat' ((first | ((first | apply qa | apply qb | apply qc | apply qd | apply qe | apply qf | apply qg | apply qh | apply qi | apply qj | apply qk) <;> intro hp) | ((first | refine ql rfl rfl (by decide +kernel) ?_ | refine qm _ rfl rfl (by decide +kernel) ?_ | refine goes_opn rfl ?_ | refine goes_opnD rfl rfl (by decide +kernel) ?_) <;> have hp := True.intro)) <;> simp only [hp, w, go_sem])
  all_goals (simp only [fin_mk, finV, resL, resV1, resIn, endA, listIn, Option.some_or, Option.none_or, oneOrTup, go_sem]; rw [← hr])
  all_goals simp only [szF, subSz, hp, if_true, if_false]
open Classical in
noncomputable def spToRangeS : VM.Spec := { modes := [.rd], run := fun | [.lst 2 l'] => (decL Range.dec l').bind fun l => if l.length ≤ 4194304 then some (.lst 2 ((l).map Range.enc), []) else none | _ => none, need := [] }
attribute [go_sem] spToRangeS
theorem spToRangeS_in {ins : List V} {r : V} {outs : List V} (h : spToRangeS.run ins = some (r, outs)) : ∃ (l : (List Range)), ins = [.lst 2 ((l).map Range.enc)] ∧ (l.length ≤ 4194304) ∧ .lst 2 ((l).map Range.enc) = r ∧ outs = [] := by
  unfold spToRangeS at h
  simp only at h
  split at h
  · rename_i l'
    simp only [Option.bind_eq_some_iff] at h
    obtain ⟨l, h_l, h⟩ := h
    split at h
    case isFalse => cases h
    rename_i hc
    simp only [Option.some.injEq, Prod.mk.injEq] at h
    obtain ⟨h1, h2⟩ := h
    have h_l := decL_some (fun _ _ h => Range.dec_some h) h_l
    subst h_l
    exact ⟨l, rfl, hc, h1, h2.symm⟩
  · cases h
def T_laws_toRangeS : Hints := ⟨fun _ => none, fun i => if i = 3 then some [0, 3, 4] else none, fun i => if i = 0 then some [0] else if i = 1 then some [0, 3] else if i = 2 then some [0, 3, 4] else if i = 3 then some [0, 3, 4, 11] else if i = 5 then some [0, 3, 4] else if i = 4 then some [0, 3, 4] else if i = 6 then some [2] else none, fun _ => none⟩
noncomputable def Phi_laws_toRangeS : Tab := fun f => if f = 177 then some spToRange else none
attribute [go_sem] T_laws_toRangeS Phi_laws_toRangeS
theorem phi_laws_toRangeS : ∀ f sp, Phi_laws_toRangeS f = some sp → FnOk Tryz.prog f sp ∧ ∀ n ∈ sp.need, n ∈ ([] : List String) := by
  intro f sp h
  unfold Phi_laws_toRangeS at h
  by_cases e : f = 177
  · rw [if_pos e] at h; cases h; rw [e]; exact ⟨ok_laws_toRange, (fun n (h : n ∈ ([] : List String)) => (nomatch h))⟩
  rw [if_neg e] at h
  cases h
theorem ok_laws_toRangeS : FnOk Tryz.prog 149 spToRangeS := by
  refine fn_ok (Φ := Phi_laws_toRangeS) (T := T_laws_toRangeS) phi_laws_toRangeS mixed Tryz.func149 rfl rfl rfl (by decide) ?_
  intro ins r outs hr hl
  clear hl
  have hs := spToRangeS_in hr
  clear hr
  obtain ⟨l, rfl, hc, hr, rfl⟩ := hs
  simp only [spToRangeS, Tryz.f149, Go.VM.initS]
  have h1 : (l.length : Int) ≤ 9223372036854775807 := by omega
  have h2 : (l.length : Int) * 16 ≤ 140737488355328 := by omega
  have h3 : (0 : Int) ≤ l.length := by omega
  simp only [h1, h2, h3, Int.cast_ofNat_Int, go_sem]
  refine loop_go (fun p : Nat × List V => [(4, .int .i64 (p.1 : Int))]) (fun p => [(0, ⟨.arr, 2, p.2⟩)]) (fun p => l.length - p.1) (fun p => p.1 ≤ l.length ∧ p.2 = (l.take p.1).map Range.enc ++ List.replicate (l.length - p.1) (.agg [.int .i64 0, .int .i64 0])) (0, List.replicate l.length (.agg [.int .i64 0, .int .i64 0])) ⟨Nat.zero_le _, by simp⟩ rfl rfl ?_
  rintro ⟨i, els⟩ ⟨hi, hels⟩ ih
  simp only at hi hels ih
  have hlen : els.length = l.length := by rw [hels]; simp; omega
  rcases Nat.lt_or_ge i l.length with h | h
  · have g1 : (i : Int) < l.length := by omega
    have g2 : (0 : Int) ≤ i := by omega
    have g3 : l[i]? = some l[i] := List.getElem?_eq_getElem h
    have g4 : els[i]? = some (els[i]'(by omega)) := List.getElem?_eq_getElem (by omega)
    have g5 := wrap_succ h (by omega)
    skip
    simp only [g1, g2, g3, g4, g5, hlen, go_sem]
    repeat' ((first | ((first | apply qa | apply qb | apply qc | apply qd | apply qe | apply qf | apply qg | apply qh | apply qi | apply qj | apply qk) <;> intro hp) | ((first | refine ql rfl rfl (by decide +kernel) ?_ | refine qm _ rfl rfl (by decide +kernel) ?_ | refine goes_opn rfl ?_ | refine goes_opnD rfl rfl (by decide +kernel) ?_) <;> have hp := True.intro)) <;> simp only [hp, g1, g2, g3, g4, g5, hlen, go_sem])
    refine ih (i + 1, els.set i (.agg [.int .i64 l[i].Lo, .int .i64 l[i].Hi])) ⟨h, ?_⟩ (by simp only; omega)
    simp only
    rw [hels]
    exact fill_step _ h rfl
  · have g1 : ¬ (i : Int) < l.length := by omega
    simp only [g1, go_sem]
    simp only [fin_mk, finV, resL, resV1, resIn, endA, listIn, Option.some_or, Option.none_or, oneOrTup, go_sem]
    rw [← hr, hels, List.take_of_length_le h, show l.length - i = 0 by omega]
    simp
open Classical in
noncomputable def spEqRangeS : VM.Spec := { modes := [.rd, .rd], run := fun | [.lst 2 x', .lst 2 y'] => (decL Range.dec x').bind fun x => (decL Range.dec y').bind fun y => if x.length ≤ 4194304 ∧ y.length ≤ 4194304 then some (.bool (decide (x = y)), []) else none | _ => none, need := [] }
attribute [go_sem] spEqRangeS
theorem spEqRangeS_in {ins : List V} {r : V} {outs : List V} (h : spEqRangeS.run ins = some (r, outs)) : ∃ (x : (List Range)) (y : (List Range)), ins = [.lst 2 ((x).map Range.enc), .lst 2 ((y).map Range.enc)] ∧ (x.length ≤ 4194304 ∧ y.length ≤ 4194304) ∧ .bool (decide (x = y)) = r ∧ outs = [] := by
  unfold spEqRangeS at h
  simp only at h
  split at h
  · rename_i x' y'
    simp only [Option.bind_eq_some_iff] at h
    obtain ⟨x, h_x, y, h_y, h⟩ := h
    split at h
    case isFalse => cases h
    rename_i hc
    simp only [Option.some.injEq, Prod.mk.injEq] at h
    obtain ⟨h1, h2⟩ := h
    have h_x := decL_some (fun _ _ h => Range.dec_some h) h_x
    subst h_x
    have h_y := decL_some (fun _ _ h => Range.dec_some h) h_y
    subst h_y
    exact ⟨x, y, rfl, hc, h1, h2.symm⟩
  · cases h
def T_laws_eqRangeS : Hints := ⟨fun i => if i = 6 then some [] else none, fun i => if i = 4 then some [0, 1, 5] else none, fun i => if i = 0 then some [0, 1] else if i = 1 then some [0, 1, 10] else if i = 2 then some [4] else if i = 3 then some [0, 1, 5] else if i = 4 then some [0, 1, 5, 14] else if i = 6 then some [0, 1, 5, 26] else if i = 7 then some [4] else if i = 5 then some [0, 1, 5] else if i = 8 then some [4] else none, fun _ => none⟩
noncomputable def Phi_laws_eqRangeS : Tab := fun f => if f = 181 then some spEqRange else none
attribute [go_sem] T_laws_eqRangeS Phi_laws_eqRangeS
theorem phi_laws_eqRangeS : ∀ f sp, Phi_laws_eqRangeS f = some sp → FnOk Tryz.prog f sp ∧ ∀ n ∈ sp.need, n ∈ ([] : List String) := by
  intro f sp h
  unfold Phi_laws_eqRangeS at h
  by_cases e : f = 181
  · rw [if_pos e] at h; cases h; rw [e]; exact ⟨ok_laws_eqRange, (fun n (h : n ∈ ([] : List String)) => (nomatch h))⟩
  rw [if_neg e] at h
  cases h
theorem ok_laws_eqRangeS : FnOk Tryz.prog 153 spEqRangeS := by
  refine fn_ok (Φ := Phi_laws_eqRangeS) (T := T_laws_eqRangeS) phi_laws_eqRangeS mixed Tryz.func153 rfl rfl rfl (by decide) ?_
  intro ins r outs hr hl
  clear hl
  have hs := spEqRangeS_in hr
  clear hr
  obtain ⟨x, y, rfl, hc, hr, rfl⟩ := hs
  simp only [spEqRangeS, Tryz.f153, Go.VM.initS]
  obtain ⟨hx, hy⟩ := hc
  by_cases hl : x.length = y.length
  case neg =>
    have g : ((x.length : Int) == y.length) = false := by rw [beq_eq_false_iff_ne]; omega
    have g' : ((x.length : Int) != y.length) = true := by rw [bne_iff_ne]; omega
    have hne : x ≠ y := fun e => hl (by rw [e])
    simp only [g, g', go_sem]
    repeat' ((first | ((first | apply qa | apply qb | apply qc | apply qd | apply qe | apply qf | apply qg | apply qh | apply qi | apply qj | apply qk) <;> intro hp) | ((first | refine ql rfl rfl (by decide +kernel) ?_ | refine qm _ rfl rfl (by decide +kernel) ?_ | refine goes_opn rfl ?_ | refine goes_opnD rfl rfl (by decide +kernel) ?_) <;> have hp := True.intro)) <;> simp only [hp, g, g', go_sem])
    simp only [fin_mk, finV, resL, resV1, resIn, endA, listIn, Option.some_or, Option.none_or, oneOrTup, go_sem]
    rw [← hr]
    simp only [hne, decide_false]
  have hl' : (x.length : Int) = y.length := by omega
  simp only [hl, bne_self_eq_false, go_sem]
  repeat' ((first | ((first | apply qa | apply qb | apply qc | apply qd | apply qe | apply qf | apply qg | apply qh | apply qi | apply qj | apply qk) <;> intro hp) | ((first | refine ql rfl rfl (by decide +kernel) ?_ | refine qm _ rfl rfl (by decide +kernel) ?_ | refine goes_opn rfl ?_ | refine goes_opnD rfl rfl (by decide +kernel) ?_) <;> have hp := True.intro)) <;> simp only [hp, hl, bne_self_eq_false, go_sem])
  refine loop_go (fun i : Nat => [(5, .int .i64 (i : Int))]) (fun _ => []) (fun i => x.length - i) (fun i => i ≤ x.length ∧ x.take i = y.take i) 0 ⟨Nat.zero_le _, by simp⟩ rfl rfl ?_
  intro i ⟨hi, he⟩ ih
  rcases Nat.lt_or_ge i x.length with h | h
  · have g1 : (i : Int) < x.length := by omega
    have g1' : (i : Int) < y.length := by omega
    have g2 : (0 : Int) ≤ i := by omega
    have g3 : x[i]? = some x[i] := List.getElem?_eq_getElem h
    have g4 : y[i]? = some (y[i]'(by omega)) := List.getElem?_eq_getElem (by omega)
    have g5 := wrap_succ h (by omega)
    skip
    by_cases hv : x[i] = (y[i]'(by omega))
    · simp only [g1, g1', g2, g3, g4, g5, hv, go_sem]
      repeat' ((first | ((first | apply qa | apply qb | apply qc | apply qd | apply qe | apply qf | apply qg | apply qh | apply qi | apply qj | apply qk) <;> intro hp) | ((first | refine ql rfl rfl (by decide +kernel) ?_ | refine qm _ rfl rfl (by decide +kernel) ?_ | refine goes_opn rfl ?_ | refine goes_opnD rfl rfl (by decide +kernel) ?_) <;> have hp := True.intro)) <;> simp only [hp, g1, g1', g2, g3, g4, g5, hv, go_sem])
      exact ih (i + 1) ⟨h, by rw [List.take_add_one, List.take_add_one, he, g3, g4, hv]⟩ (by omega)
    · have hne : x ≠ y := by rintro rfl; exact hv rfl
      have hv1 : (x[i] == (y[i]'(by omega))) = false := by rw [beq_eq_false_iff_ne]; exact hv
      have hv2 : (x[i] != (y[i]'(by omega))) = true := by rw [bne_iff_ne]; exact hv
      simp only [g1, g1', g2, g3, g4, g5, hv, hv1, hv2, go_sem]
      repeat' ((first | ((first | apply qa | apply qb | apply qc | apply qd | apply qe | apply qf | apply qg | apply qh | apply qi | apply qj | apply qk) <;> intro hp) | ((first | refine ql rfl rfl (by decide +kernel) ?_ | refine qm _ rfl rfl (by decide +kernel) ?_ | refine goes_opn rfl ?_ | refine goes_opnD rfl rfl (by decide +kernel) ?_) <;> have hp := True.intro)) <;> simp only [hp, g1, g1', g2, g3, g4, g5, hv, hv1, hv2, go_sem])
      simp only [fin_mk, finV, resL, resV1, resIn, endA, listIn, Option.some_or, Option.none_or, oneOrTup, go_sem]
      rw [← hr]
      simp only [hne, decide_false]
  · have g1 : ¬ (i : Int) < x.length := by omega
    have g1' : ¬ (i : Int) < y.length := by omega
    simp only [g1, g1', go_sem]
    simp only [fin_mk, finV, resL, resV1, resIn, endA, listIn, Option.some_or, Option.none_or, oneOrTup, go_sem]
    rw [← hr]
    rw [List.take_of_length_le h, List.take_of_length_le (by omega)] at he
    simp only [he, decide_true]
open Classical in
noncomputable def spMarkRangeS : VM.Spec := { modes := [.io, .rd], run := fun | [.lst 2 l', .int .i64 k] => (decL Range.dec l').bind fun l => if l.length ≤ 4194304 ∧ 0 ≤ k ∧ k ≤ 1152921504606846976 then some (.int .i64 ((markL meRange l k).2), [.lst 2 (((markL meRange l k).1).map Range.enc)]) else none | _ => none, need := [] }
attribute [go_sem] spMarkRangeS
theorem spMarkRangeS_in {ins : List V} {r : V} {outs : List V} (h : spMarkRangeS.run ins = some (r, outs)) : ∃ (l : (List Range)) (k : Int), ins = [.lst 2 ((l).map Range.enc), .int .i64 k] ∧ (l.length ≤ 4194304 ∧ 0 ≤ k ∧ k ≤ 1152921504606846976) ∧ .int .i64 ((markL meRange l k).2) = r ∧ outs = [.lst 2 (((markL meRange l k).1).map Range.enc)] := by
  unfold spMarkRangeS at h
  simp only at h
  split at h
  · rename_i l' k
    simp only [Option.bind_eq_some_iff] at h
    obtain ⟨l, h_l, h⟩ := h
    split at h
    case isFalse => cases h
    rename_i hc
    simp only [Option.some.injEq, Prod.mk.injEq] at h
    obtain ⟨h1, h2⟩ := h
    have h_l := decL_some (fun _ _ h => Range.dec_some h) h_l
    subst h_l
    exact ⟨l, k, rfl, hc, h1, h2.symm⟩
  · cases h
def T_laws_markRangeS : Hints := ⟨fun _ => none, fun i => if i = 2 then some [0, 1, 5] else none, fun i => if i = 0 then some [0, 1] else if i = 1 then some [0, 1, 5] else if i = 2 then some [0, 1, 5, 9] else if i = 4 then some [0, 1, 5] else if i = 5 then some [0, 1, 5] else if i = 6 then some [0, 1, 5] else if i = 7 then some [0, 1, 5] else if i = 3 then some [0, 1, 5] else if i = 8 then some [4] else none, fun _ => none⟩
noncomputable def Phi_laws_markRangeS : Tab := fun f => none
attribute [go_sem] T_laws_markRangeS Phi_laws_markRangeS
theorem phi_laws_markRangeS : ∀ f sp, Phi_laws_markRangeS f = some sp → FnOk Tryz.prog f sp ∧ ∀ n ∈ sp.need, n ∈ ([] : List String) := by
  intro f sp h
  unfold Phi_laws_markRangeS at h
  cases h
theorem ok_laws_markRangeS : FnOk Tryz.prog 96 spMarkRangeS := by
  refine fn_ok (Φ := Phi_laws_markRangeS) (T := T_laws_markRangeS) phi_laws_markRangeS mixed Tryz.func96 rfl rfl rfl (by decide) ?_
  intro ins r outs hr hl
  clear hl
  have hs := spMarkRangeS_in hr
  clear hr
  obtain ⟨l, k, rfl, hc, hr, rfl⟩ := hs
  simp only [spMarkRangeS, Tryz.f96, Go.VM.initS]
  obtain ⟨hc, h0, h1⟩ := hc
  simp only [go_sem]
  refine loop_go (fun p : Nat × List V × Int => [(1, .int .i64 p.2.2), (5, .int .i64 (p.1 : Int))]) (fun p => [(0, ⟨.arr, 2, p.2.1⟩)]) (fun p => l.length - p.1) (fun p => p.1 ≤ l.length ∧ p.2.1 = ((markL meRange (l.take p.1) k).1 ++ l.drop p.1).map Range.enc ∧ p.2.2 = (markL meRange (l.take p.1) k).2 ∧ p.2.2 = k + (2 : Nat) * p.1) (0, l.map Range.enc, k) ⟨Nat.zero_le _, by simp [markL], rfl, by simp⟩ rfl rfl ?_
  rintro ⟨i, els, k'⟩ ⟨hi, he, hk, hb⟩ ih
  simp only at hi he hk hb ih
  rcases Nat.lt_or_ge i l.length with h | h
  · have g1 : (i : Int) < l.length := by omega
    have g2 : (0 : Int) ≤ i := by omega
    obtain ⟨g3, gl, gs, gk⟩ := mark_round h he
    rw [← hk] at gs gk
    have g5 := wrap_succ h (by omega)
    have j0 : k' ≤ 4611686018427387904 := by omega
    have w0 : IntKind.i64.wrap (k' + 1) = k' + 1 := wrap64 (by omega) (by omega)
    have w1 : IntKind.i64.wrap (k' + 1 + 1) = k' + 1 + 1 := wrap64 (by omega) (by omega)
    have j1 : k' + 1 ≤ 4611686018427387904 := by omega
    have j2 : k' + 1 + 1 ≤ 4611686018427387904 := by omega
    rw [Range.enc] at g3
    have gi : i < els.length := by omega
    simp only [g1, g2, g3, gl, g5, h, w0, w1, j0, j1, j2, List.getElem?_set_self, List.length_set, List.set_set, go_sem]
    repeat' ((first | ((first | apply qa | apply qb | apply qc | apply qd | apply qe | apply qf | apply qg | apply qh | apply qi | apply qj | apply qk) <;> intro hp) | ((first | refine ql rfl rfl (by decide +kernel) ?_ | refine qm _ rfl rfl (by decide +kernel) ?_ | refine goes_opn rfl ?_ | refine goes_opnD rfl rfl (by decide +kernel) ?_) <;> have hp := True.intro)) <;> simp only [hp, g1, g2, g3, gl, g5, h, w0, w1, j0, j1, j2, List.getElem?_set_self, List.length_set, List.set_set, go_sem])
    refine ih (i + 1, els.set i (Range.enc (meRange l[i] k').1), (meRange l[i] k').2) ⟨h, gs, gk, by simp only [meRange]; omega⟩ (by simp only; omega)
  · have g1 : ¬ (i : Int) < l.length := by omega
    have gl : els.length = l.length := by rw [he]; simp [markL_len]; omega
    simp only [g1, gl, go_sem]
    simp only [fin_mk, finV, resL, resV1, resIn, endA, listIn, Option.some_or, Option.none_or, oneOrTup, go_sem]
    rw [← hr, he, hk, List.take_of_length_le h, List.drop_of_length_le h, List.append_nil]
open Classical in
noncomputable def spSzEdit : VM.Spec := { modes := [.rd, .rd], run := fun | [x', .int .i64 n] => (Edit.dec x').bind fun x => if x.le 4611686018427387904 ∧ 0 ≤ n ∧ n ≤ 4611686018427387904 then some (.int .i64 (Edit.sz x n), []) else none | _ => none, need := [] }
attribute [go_sem] spSzEdit
theorem spSzEdit_in {ins : List V} {r : V} {outs : List V} (h : spSzEdit.run ins = some (r, outs)) : ∃ (x : Edit) (n : Int), ins = [Edit.enc x, .int .i64 n] ∧ (x.le 4611686018427387904 ∧ 0 ≤ n ∧ n ≤ 4611686018427387904) ∧ .int .i64 (Edit.sz x n) = r ∧ outs = [] := by
  unfold spSzEdit at h
  simp only at h
  split at h
  · rename_i x' n
    simp only [Option.bind_eq_some_iff] at h
    obtain ⟨x, h_x, h⟩ := h
    split at h
    case isFalse => cases h
    rename_i hc
    simp only [Option.some.injEq, Prod.mk.injEq] at h
    obtain ⟨h1, h2⟩ := h
    have h_x := Edit.dec_some h_x
    subst h_x
    exact ⟨x, n, rfl, hc, h1, h2.symm⟩
  · cases h
def T_laws_szEdit : Hints := ⟨fun _ => none, fun _ => none, fun i => if i = 0 then some [1, 2] else if i = 1 then some [1, 2] else if i = 2 then some [1, 2, 11] else if i = 3 then some [4] else if i = 4 then some [1, 2] else if i = 5 then some [1, 2, 18] else if i = 6 then some [4] else if i = 7 then some [1, 2] else if i = 8 then some [1, 2, 24] else if i = 9 then some [4] else if i = 10 then some [1] else if i = 11 then some [1, 31] else if i = 12 then some [4] else if i = 13 then some [4] else none, fun _ => none⟩
noncomputable def Phi_laws_szEdit : Tab := fun f => if f = 143 then some spSzRangeS else none
attribute [go_sem] T_laws_szEdit Phi_laws_szEdit
theorem phi_laws_szEdit : ∀ f sp, Phi_laws_szEdit f = some sp → FnOk Tryz.prog f sp ∧ ∀ n ∈ sp.need, n ∈ ([] : List String) := by
  intro f sp h
  unfold Phi_laws_szEdit at h
  by_cases e : f = 143
  · rw [if_pos e] at h; cases h; rw [e]; exact ⟨ok_laws_szRangeS, (fun n (h : n ∈ ([] : List String)) => (nomatch h))⟩
  rw [if_neg e] at h
  cases h
theorem ok_laws_szEdit : FnOk Tryz.prog 82 spSzEdit := by
  refine fn_ok (Φ := Phi_laws_szEdit) (T := T_laws_szEdit) phi_laws_szEdit mixed Tryz.func82 rfl rfl rfl (by decide) ?_
  intro ins r outs hr hl
  clear hl
  have hs := spSzEdit_in hr
  clear hr
  obtain ⟨x, n, rfl, hc, hr, rfl⟩ := hs
  simp only [spSzEdit, Tryz.f82, Go.VM.initS]
  obtain ⟨hc, h0, h1⟩ := hc
  obtain ⟨c0, c1, c2, c3⟩ := hc
  have c0 : x.Box.length ≤ 4611686018427387904 := c0
  have w0 : IntKind.i64.wrap (n - (x.Box.length : Int)) = (n - (x.Box.length : Int)) := wrap64 (by omega) (by omega)
  by_cases b0 : (n - (x.Box.length : Int)) < 0
  · simp only [w0, b0, go_sem]
    repeat' ((first | ((first | apply qa | apply qb | apply qc | apply qd | apply qe | apply qf | apply qg | apply qh | apply qi | apply qj | apply qk) <;> intro hp) | ((first | refine ql rfl rfl (by decide +kernel) ?_ | refine qm _ rfl rfl (by decide +kernel) ?_ | refine goes_opn rfl ?_ | refine goes_opnD rfl rfl (by decide +kernel) ?_) <;> have hp := True.intro)) <;> simp only [hp, w0, b0, go_sem])
    simp only [fin_mk, finV, resL, resV1, resIn, endA, listIn, Option.some_or, Option.none_or, oneOrTup, go_sem]
    rw [← hr]
    simp only [Edit.sz, thenSz, subSz, b0, if_true, if_false, Int.reduceNeg, Int.reduceLT]
  have a0 : 0 ≤ (n - (x.Box.length : Int)) := by omega
  have d0 : (n - (x.Box.length : Int)) ≤ 4611686018427387904 := by omega
  have c1 : x.To.length ≤ 4611686018427387904 := c1
  have w1 : IntKind.i64.wrap ((n - (x.Box.length : Int)) - (x.To.length : Int)) = ((n - (x.Box.length : Int)) - (x.To.length : Int)) := wrap64 (by omega) (by omega)
  by_cases b1 : ((n - (x.Box.length : Int)) - (x.To.length : Int)) < 0
  · simp only [w0, b0, w1, b1, go_sem]
    repeat' ((first | ((first | apply qa | apply qb | apply qc | apply qd | apply qe | apply qf | apply qg | apply qh | apply qi | apply qj | apply qk) <;> intro hp) | ((first | refine ql rfl rfl (by decide +kernel) ?_ | refine qm _ rfl rfl (by decide +kernel) ?_ | refine goes_opn rfl ?_ | refine goes_opnD rfl rfl (by decide +kernel) ?_) <;> have hp := True.intro)) <;> simp only [hp, w0, b0, w1, b1, go_sem])
    simp only [fin_mk, finV, resL, resV1, resIn, endA, listIn, Option.some_or, Option.none_or, oneOrTup, go_sem]
    rw [← hr]
    simp only [Edit.sz, thenSz, subSz, b0, b1, if_true, if_false, Int.reduceNeg, Int.reduceLT]
  have a1 : 0 ≤ ((n - (x.Box.length : Int)) - (x.To.length : Int)) := by omega
  have d1 : ((n - (x.Box.length : Int)) - (x.To.length : Int)) ≤ 4611686018427387904 := by omega
  have c2 : x.Set.length ≤ 4611686018427387904 := c2.1
  rcases (szF_ok (p := Range.le) (fun b x => trivial)) x.Set ((n - (x.Box.length : Int)) - (x.To.length : Int)) 4611686018427387904 a1 d1 with e | ⟨a2, d2, -⟩
  · simp only [w0, b0, w1, b1, c2, a1, d1, e, go_sem]
    repeat' ((first | ((first | apply qa | apply qb | apply qc | apply qd | apply qe | apply qf | apply qg | apply qh | apply qi | apply qj | apply qk) <;> intro hp) | ((first | refine ql rfl rfl (by decide +kernel) ?_ | refine qm _ rfl rfl (by decide +kernel) ?_ | refine goes_opn rfl ?_ | refine goes_opnD rfl rfl (by decide +kernel) ?_) <;> have hp := True.intro)) <;> simp only [hp, w0, b0, w1, b1, c2, a1, d1, e, go_sem])
    simp only [fin_mk, finV, resL, resV1, resIn, endA, listIn, Option.some_or, Option.none_or, oneOrTup, go_sem]
    rw [← hr]
    simp only [Edit.sz, thenSz, subSz, b0, b1, e, if_true, if_false, Int.reduceNeg, Int.reduceLT]
  have b2 : ¬ (szF x.Set ((n - (x.Box.length : Int)) - (x.To.length : Int))) < 0 := Int.not_lt.2 a2
  have d2 : (szF x.Set ((n - (x.Box.length : Int)) - (x.To.length : Int))) ≤ 4611686018427387904 := Int.le_trans d2 d1
  have c3 : x.Text.length ≤ 4611686018427387904 := c3
  have w3 : IntKind.i64.wrap ((szF x.Set ((n - (x.Box.length : Int)) - (x.To.length : Int))) - (x.Text.length : Int)) = ((szF x.Set ((n - (x.Box.length : Int)) - (x.To.length : Int))) - (x.Text.length : Int)) := wrap64 (by omega) (by omega)
  by_cases b3 : ((szF x.Set ((n - (x.Box.length : Int)) - (x.To.length : Int))) - (x.Text.length : Int)) < 0
  · simp only [w0, b0, w1, b1, c2, a1, d1, b2, w3, b3, go_sem]
    repeat' ((first | ((first | apply qa | apply qb | apply qc | apply qd | apply qe | apply qf | apply qg | apply qh | apply qi | apply qj | apply qk) <;> intro hp) | ((first | refine ql rfl rfl (by decide +kernel) ?_ | refine qm _ rfl rfl (by decide +kernel) ?_ | refine goes_opn rfl ?_ | refine goes_opnD rfl rfl (by decide +kernel) ?_) <;> have hp := True.intro)) <;> simp only [hp, w0, b0, w1, b1, c2, a1, d1, b2, w3, b3, go_sem])
    simp only [fin_mk, finV, resL, resV1, resIn, endA, listIn, Option.some_or, Option.none_or, oneOrTup, go_sem]
    rw [← hr]
    simp only [Edit.sz, thenSz, subSz, b0, b1, b2, b3, if_true, if_false, Int.reduceNeg, Int.reduceLT]
  have a3 : 0 ≤ ((szF x.Set ((n - (x.Box.length : Int)) - (x.To.length : Int))) - (x.Text.length : Int)) := by omega
  have d3 : ((szF x.Set ((n - (x.Box.length : Int)) - (x.To.length : Int))) - (x.Text.length : Int)) ≤ 4611686018427387904 := by omega
  simp only [w0, b0, w1, b1, c2, a1, d1, b2, w3, b3, go_sem]
  repeat' ((first | ((first | apply qa | apply qb | apply qc | apply qd | apply qe | apply qf | apply qg | apply qh | apply qi | apply qj | apply qk) <;> intro hp) | ((first | refine ql rfl rfl (by decide +kernel) ?_ | refine qm _ rfl rfl (by decide +kernel) ?_ | refine goes_opn rfl ?_ | refine goes_opnD rfl rfl (by decide +kernel) ?_) <;> have hp := True.intro)) <;> simp only [hp, w0, b0, w1, b1, c2, a1, d1, b2, w3, b3, go_sem])
  simp only [fin_mk, finV, resL, resV1, resIn, endA, listIn, Option.some_or, Option.none_or, oneOrTup, go_sem]
  rw [← hr]
  simp only [Edit.sz, thenSz, subSz, b0, b1, b2, b3, if_true, if_false]
open Classical in
noncomputable def spToEdit : VM.Spec := { modes := [.rd], run := fun | [x'] => (Edit.dec x').bind fun x => if x.le 4194304 then some (Edit.enc x, []) else none | _ => none, need := [] }
attribute [go_sem] spToEdit
theorem spToEdit_in {ins : List V} {r : V} {outs : List V} (h : spToEdit.run ins = some (r, outs)) : ∃ (x : Edit), ins = [Edit.enc x] ∧ (x.le 4194304) ∧ Edit.enc x = r ∧ outs = [] := by
  unfold spToEdit at h
  simp only at h
  split at h
  · rename_i x'
    simp only [Option.bind_eq_some_iff] at h
    obtain ⟨x, h_x, h⟩ := h
    split at h
    case isFalse => cases h
    rename_i hc
    simp only [Option.some.injEq, Prod.mk.injEq] at h
    obtain ⟨h1, h2⟩ := h
    have h_x := Edit.dec_some h_x
    subst h_x
    exact ⟨x, rfl, hc, h1, h2.symm⟩
  · cases h
def T_laws_toEdit : Hints := ⟨fun _ => none, fun _ => none, fun i => if i = 0 then some [1, 2] else if i = 1 then some [1, 2, 3] else if i = 2 then some [1, 2, 3] else if i = 3 then some [1, 2, 3] else if i = 4 then some [1, 2, 3] else if i = 5 then some [1, 2, 3] else if i = 6 then some [1, 2, 3] else if i = 7 then some [1, 2, 3] else if i = 8 then some [1, 2, 3] else if i = 9 then some [2, 3] else if i = 10 then some [2] else none, fun _ => none⟩
noncomputable def Phi_laws_toEdit : Tab := fun f => if f = 149 then some spToRangeS else none
attribute [go_sem] T_laws_toEdit Phi_laws_toEdit
theorem phi_laws_toEdit : ∀ f sp, Phi_laws_toEdit f = some sp → FnOk Tryz.prog f sp ∧ ∀ n ∈ sp.need, n ∈ ([] : List String) := by
  intro f sp h
  unfold Phi_laws_toEdit at h
  by_cases e : f = 149
  · rw [if_pos e] at h; cases h; rw [e]; exact ⟨ok_laws_toRangeS, (fun n (h : n ∈ ([] : List String)) => (nomatch h))⟩
  rw [if_neg e] at h
  cases h
theorem ok_laws_toEdit : FnOk Tryz.prog 87 spToEdit := by
  refine fn_ok (Φ := Phi_laws_toEdit) (T := T_laws_toEdit) phi_laws_toEdit mixed Tryz.func87 rfl rfl rfl (by decide) ?_
  intro ins r outs hr hl
  clear hl
  have hs := spToEdit_in hr
  clear hr
  obtain ⟨x, rfl, hc, hr, rfl⟩ := hs
  simp only [spToEdit, Tryz.f87, Go.VM.initS]
  have c2 : x.Set.length ≤ 4194304 := hc.2.2.1.1
  simp only [c2, go_sem]
  repeat' ((first | ((first | apply qa | apply qb | apply qc | apply qd | apply qe | apply qf | apply qg | apply qh | apply qi | apply qj | apply qk) <;> intro hp) | ((first | refine ql rfl rfl (by decide +kernel) ?_ | refine qm _ rfl rfl (by decide +kernel) ?_ | refine goes_opn rfl ?_ | refine goes_opnD rfl rfl (by decide +kernel) ?_) <;> have hp := True.intro)) <;> simp only [hp, c2, go_sem])
  simp only [fin_mk, finV, resL, resV1, resIn, endA, listIn, Option.some_or, Option.none_or, oneOrTup, go_sem]
  rw [← hr]
  rfl
open Classical in
noncomputable def spEqEdit : VM.Spec := { modes := [.rd, .rd], run := fun | [x', y'] => (Edit.dec x').bind fun x => (Edit.dec y').bind fun y => if x.le 4194304 ∧ y.le 4194304 then some (.bool (decide (x = y)), []) else none | _ => none, need := [] }
attribute [go_sem] spEqEdit
theorem spEqEdit_in {ins : List V} {r : V} {outs : List V} (h : spEqEdit.run ins = some (r, outs)) : ∃ (x : Edit) (y : Edit), ins = [Edit.enc x, Edit.enc y] ∧ (x.le 4194304 ∧ y.le 4194304) ∧ .bool (decide (x = y)) = r ∧ outs = [] := by
  unfold spEqEdit at h
  simp only at h
  split at h
  · rename_i x' y'
    simp only [Option.bind_eq_some_iff] at h
    obtain ⟨x, h_x, y, h_y, h⟩ := h
    split at h
    case isFalse => cases h
    rename_i hc
    simp only [Option.some.injEq, Prod.mk.injEq] at h
    obtain ⟨h1, h2⟩ := h
    have h_x := Edit.dec_some h_x
    subst h_x
    have h_y := Edit.dec_some h_y
    subst h_y
    exact ⟨x, y, rfl, hc, h1, h2.symm⟩
  · cases h
def T_laws_eqEdit : Hints := ⟨fun _ => none, fun _ => none, fun i => if i = 0 then some [2, 3] else if i = 1 then some [2, 3, 9] else if i = 2 then some [4] else if i = 3 then some [2, 3, 14] else if i = 4 then some [4] else if i = 5 then some [2, 3, 19] else if i = 6 then some [4] else if i = 7 then some [2, 3, 25] else if i = 8 then some [4] else if i = 9 then some [2, 3, 30] else if i = 10 then some [4] else if i = 11 then some [2, 3, 35] else if i = 12 then some [4] else if i = 13 then some [2, 3, 40] else if i = 14 then some [4] else if i = 15 then some [45] else if i = 16 then some [4] else if i = 17 then some [4] else none, fun _ => none⟩
noncomputable def Phi_laws_eqEdit : Tab := fun f => if f = 153 then some spEqRangeS else none
attribute [go_sem] T_laws_eqEdit Phi_laws_eqEdit
theorem phi_laws_eqEdit : ∀ f sp, Phi_laws_eqEdit f = some sp → FnOk Tryz.prog f sp ∧ ∀ n ∈ sp.need, n ∈ ([] : List String) := by
  intro f sp h
  unfold Phi_laws_eqEdit at h
  by_cases e : f = 153
  · rw [if_pos e] at h; cases h; rw [e]; exact ⟨ok_laws_eqRangeS, (fun n (h : n ∈ ([] : List String)) => (nomatch h))⟩
  rw [if_neg e] at h
  cases h
theorem ok_laws_eqEdit : FnOk Tryz.prog 93 spEqEdit := by
  refine fn_ok (Φ := Phi_laws_eqEdit) (T := T_laws_eqEdit) phi_laws_eqEdit mixed Tryz.func93 rfl rfl rfl (by decide) ?_
  intro ins r outs hr hl
  clear hl
  have hs := spEqEdit_in hr
  clear hr
  obtain ⟨x, y, rfl, hc, hr, rfl⟩ := hs
  simp only [spEqEdit, Tryz.f93, Go.VM.initS]
  have c2 : x.Set.length ≤ 4194304 := hc.1.2.2.1.1
  have d2 : y.Set.length ≤ 4194304 := hc.2.2.2.1.1
  simp only [c2, d2, and_self, go_sem]
  repeat' ((first | ((first | apply qa | apply qb | apply qc | apply qd | apply qe | apply qf | apply qg | apply qh | apply qi | apply qj | apply qk) <;> intro hp) | ((first | refine ql rfl rfl (by decide +kernel) ?_ | refine qm _ rfl rfl (by decide +kernel) ?_ | refine goes_opn rfl ?_ | refine goes_opnD rfl rfl (by decide +kernel) ?_) <;> have hp := True.intro)) <;> simp only [hp, c2, d2, and_self, go_sem])
  all_goals (simp only [fin_mk, finV, resL, resV1, resIn, endA, listIn, Option.some_or, Option.none_or, oneOrTup, go_sem]; rw [← hr])
  all_goals (cases x; cases y; simp_all)
open Classical in
noncomputable def spSzEditS : VM.Spec := { modes := [.rd, .rd], run := fun | [.lst 8 l', .int .i64 n] => (decL Edit.dec l').bind fun l => if leL Edit.le 4611686018427387904 l ∧ 0 ≤ n ∧ n ≤ 4611686018427387904 then some (.int .i64 (szLL Edit.sz l n), []) else none | _ => none, need := [] }
attribute [go_sem] spSzEditS
theorem spSzEditS_in {ins : List V} {r : V} {outs : List V} (h : spSzEditS.run ins = some (r, outs)) : ∃ (l : (List Edit)) (n : Int), ins = [.lst 8 ((l).map Edit.enc), .int .i64 n] ∧ (leL Edit.le 4611686018427387904 l ∧ 0 ≤ n ∧ n ≤ 4611686018427387904) ∧ .int .i64 (szLL Edit.sz l n) = r ∧ outs = [] := by
  unfold spSzEditS at h
  simp only at h
  split at h
  · rename_i l' n
    simp only [Option.bind_eq_some_iff] at h
    obtain ⟨l, h_l, h⟩ := h
    split at h
    case isFalse => cases h
    rename_i hc
    simp only [Option.some.injEq, Prod.mk.injEq] at h
    obtain ⟨h1, h2⟩ := h
    have h_l := decL_some (fun _ _ h => Edit.dec_some h) h_l
    subst h_l
    exact ⟨l, n, rfl, hc, h1, h2.symm⟩
  · cases h
def T_laws_szEditS : Hints := ⟨fun _ => none, fun i => if i = 5 then some [0, 1, 5] else none, fun i => if i = 0 then some [0, 1] else if i = 1 then some [0, 1] else if i = 2 then some [0, 1, 11] else if i = 3 then some [4] else if i = 4 then some [0, 1, 5] else if i = 5 then some [0, 1, 5, 15] else if i = 7 then some [0, 1, 5] else if i = 8 then some [0, 1, 5, 25] else if i = 9 then some [4] else if i = 6 then some [0, 1, 5] else if i = 10 then some [4] else none, fun _ => none⟩
noncomputable def Phi_laws_szEditS : Tab := fun f => if f = 82 then some spSzEdit else none
attribute [go_sem] T_laws_szEditS Phi_laws_szEditS
theorem phi_laws_szEditS : ∀ f sp, Phi_laws_szEditS f = some sp → FnOk Tryz.prog f sp ∧ ∀ n ∈ sp.need, n ∈ ([] : List String) := by
  intro f sp h
  unfold Phi_laws_szEditS at h
  by_cases e : f = 82
  · rw [if_pos e] at h; cases h; rw [e]; exact ⟨ok_laws_szEdit, (fun n (h : n ∈ ([] : List String)) => (nomatch h))⟩
  rw [if_neg e] at h
  cases h
theorem ok_laws_szEditS : FnOk Tryz.prog 25 spSzEditS := by
  refine fn_ok (Φ := Phi_laws_szEditS) (T := T_laws_szEditS) phi_laws_szEditS mixed Tryz.func25 rfl rfl rfl (by decide) ?_
  intro ins r outs hr hl
  clear hl
  have hs := spSzEditS_in hr
  clear hr
  obtain ⟨l, n, rfl, hc, hr, rfl⟩ := hs
  simp only [spSzEditS, Tryz.f25, Go.VM.initS]
  obtain ⟨⟨hc, hd⟩, h0, h1⟩ := hc
  have w : IntKind.i64.wrap (n - (l.length : Int)) = n - l.length := wrap64 (by omega) (by omega)
  by_cases b : n - (l.length : Int) < 0
  · simp only [w, b, go_sem]
    repeat' ((first | ((first | apply qa | apply qb | apply qc | apply qd | apply qe | apply qf | apply qg | apply qh | apply qi | apply qj | apply qk) <;> intro hp) | ((first | refine ql rfl rfl (by decide +kernel) ?_ | refine qm _ rfl rfl (by decide +kernel) ?_ | refine goes_opn rfl ?_ | refine goes_opnD rfl rfl (by decide +kernel) ?_) <;> have hp := True.intro)) <;> simp only [hp, w, b, go_sem])
    simp only [fin_mk, finV, resL, resV1, resIn, endA, listIn, Option.some_or, Option.none_or, oneOrTup, go_sem]
    rw [← hr]
    simp only [szLL, thenSz, subSz, b, if_true, Int.reduceNeg, Int.reduceLT]
  simp only [w, b, go_sem]
  refine loop_go (fun p : Nat × Int => [(1, .int .i64 p.2), (5, .int .i64 (p.1 : Int))]) (fun _ => []) (fun p => l.length - p.1) (fun p => p.1 ≤ l.length ∧ p.2 = szL Edit.sz (l.take p.1) (n - l.length) ∧ 0 ≤ p.2 ∧ p.2 ≤ 4611686018427387904) (0, n - l.length) ⟨Nat.zero_le _, rfl, by simp only; omega, by simp only; omega⟩ rfl rfl ?_
  rintro ⟨i, m⟩ ⟨hi, hm, m0, m1⟩ ih
  simp only at hi hm m0 m1 ih
  have hsz : Edit.sz = Edit.sz := rfl
  have hend : szLL Edit.sz l n = szL Edit.sz l (n - l.length) := by simp only [szLL, thenSz, subSz, b, if_false]
  rcases Nat.lt_or_ge i l.length with h | h
  · have g1 : (i : Int) < l.length := by omega
    have g2 : (0 : Int) ≤ i := by omega
    have g3 : l[i]? = some l[i] := List.getElem?_eq_getElem h
    have g5 := wrap_succ h hc
    have gx : l[i].le 4611686018427387904 := hd _ (List.getElem_mem h)
    rcases Edit.sz_ok l[i] m 4611686018427387904 m0 m1 with e | ⟨e1, e2, -⟩
    · simp only [g1, g2, g3, g5, gx, m0, m1, e, go_sem]
      repeat' ((first | ((first | apply qa | apply qb | apply qc | apply qd | apply qe | apply qf | apply qg | apply qh | apply qi | apply qj | apply qk) <;> intro hp) | ((first | refine ql rfl rfl (by decide +kernel) ?_ | refine qm _ rfl rfl (by decide +kernel) ?_ | refine goes_opn rfl ?_ | refine goes_opnD rfl rfl (by decide +kernel) ?_) <;> have hp := True.intro)) <;> simp only [hp, g1, g2, g3, g5, gx, m0, m1, e, go_sem])
      simp only [fin_mk, finV, resL, resV1, resIn, endA, listIn, Option.some_or, Option.none_or, oneOrTup, go_sem]
      rw [← hr]
      rw [hend, szL_bad l i _ h (by rw [← hm]; exact m0) (by rw [← hm, e]; decide)]
    · have e3 : ¬ Edit.sz l[i] m < 0 := by omega
      simp only [g1, g2, g3, g5, gx, m0, m1, e3, go_sem]
      repeat' ((first | ((first | apply qa | apply qb | apply qc | apply qd | apply qe | apply qf | apply qg | apply qh | apply qi | apply qj | apply qk) <;> intro hp) | ((first | refine ql rfl rfl (by decide +kernel) ?_ | refine qm _ rfl rfl (by decide +kernel) ?_ | refine goes_opn rfl ?_ | refine goes_opnD rfl rfl (by decide +kernel) ?_) <;> have hp := True.intro)) <;> simp only [hp, g1, g2, g3, g5, gx, m0, m1, e3, go_sem])
      refine ih (i + 1, Edit.sz l[i] m) ⟨h, ?_, e1, by simp only; omega⟩ (by simp only; omega)
      have key := szL_take (f := Edit.sz) l i (n - l.length) h (fun k hk => ?_) (by rw [← hm]; exact m0) (by omega)
      · rw [key, hm]
      · exact Edit.sz_neg _ _ hk
  · have g1 : ¬ (i : Int) < l.length := by omega
    simp only [g1, go_sem]
    simp only [fin_mk, finV, resL, resV1, resIn, endA, listIn, Option.some_or, Option.none_or, oneOrTup, go_sem]
    rw [← hr]
    rw [hend, hm, List.take_of_length_le h]
open Classical in
noncomputable def spToEditS : VM.Spec := { modes := [.rd], run := fun | [.lst 8 l'] => (decL Edit.dec l').bind fun l => if leL Edit.le 4194304 l then some (.lst 8 ((l).map Edit.enc), []) else none | _ => none, need := [] }
attribute [go_sem] spToEditS
theorem spToEditS_in {ins : List V} {r : V} {outs : List V} (h : spToEditS.run ins = some (r, outs)) : ∃ (l : (List Edit)), ins = [.lst 8 ((l).map Edit.enc)] ∧ (leL Edit.le 4194304 l) ∧ .lst 8 ((l).map Edit.enc) = r ∧ outs = [] := by
  unfold spToEditS at h
  simp only at h
  split at h
  · rename_i l'
    simp only [Option.bind_eq_some_iff] at h
    obtain ⟨l, h_l, h⟩ := h
    split at h
    case isFalse => cases h
    rename_i hc
    simp only [Option.some.injEq, Prod.mk.injEq] at h
    obtain ⟨h1, h2⟩ := h
    have h_l := decL_some (fun _ _ h => Edit.dec_some h) h_l
    subst h_l
    exact ⟨l, rfl, hc, h1, h2.symm⟩
  · cases h
def T_laws_toEditS : Hints := ⟨fun _ => none, fun i => if i = 3 then some [0, 3, 4] else none, fun i => if i = 0 then some [0] else if i = 1 then some [0, 3] else if i = 2 then some [0, 3, 4] else if i = 3 then some [0, 3, 4, 11] else if i = 5 then some [0, 3, 4] else if i = 4 then some [0, 3, 4] else if i = 6 then some [2] else none, fun _ => none⟩
noncomputable def Phi_laws_toEditS : Tab := fun f => if f = 87 then some spToEdit else none
attribute [go_sem] T_laws_toEditS Phi_laws_toEditS
theorem phi_laws_toEditS : ∀ f sp, Phi_laws_toEditS f = some sp → FnOk Tryz.prog f sp ∧ ∀ n ∈ sp.need, n ∈ ([] : List String) := by
  intro f sp h
  unfold Phi_laws_toEditS at h
  by_cases e : f = 87
  · rw [if_pos e] at h; cases h; rw [e]; exact ⟨ok_laws_toEdit, (fun n (h : n ∈ ([] : List String)) => (nomatch h))⟩
  rw [if_neg e] at h
  cases h
theorem ok_laws_toEditS : FnOk Tryz.prog 28 spToEditS := by
  refine fn_ok (Φ := Phi_laws_toEditS) (T := T_laws_toEditS) phi_laws_toEditS mixed Tryz.func28 rfl rfl rfl (by decide) ?_
  intro ins r outs hr hl
  clear hl
  have hs := spToEditS_in hr
  clear hr
  obtain ⟨l, rfl, hc, hr, rfl⟩ := hs
  simp only [spToEditS, Tryz.f28, Go.VM.initS]
  obtain ⟨hc, hd⟩ := hc
  have h1 : (l.length : Int) ≤ 9223372036854775807 := by omega
  have h2 : (l.length : Int) * 104 ≤ 140737488355328 := by omega
  have h3 : (0 : Int) ≤ l.length := by omega
  simp only [h1, h2, h3, Int.cast_ofNat_Int, go_sem]
  refine loop_go (fun p : Nat × List V => [(4, .int .i64 (p.1 : Int))]) (fun p => [(0, ⟨.arr, 8, p.2⟩)]) (fun p => l.length - p.1) (fun p => p.1 ≤ l.length ∧ p.2 = (l.take p.1).map Edit.enc ++ List.replicate (l.length - p.1) (.agg [.int .i64 0, .str [], .str [], .lst 2 [], .int .i64 0, .int .i64 0, .int .i64 0, .str []])) (0, List.replicate l.length (.agg [.int .i64 0, .str [], .str [], .lst 2 [], .int .i64 0, .int .i64 0, .int .i64 0, .str []])) ⟨Nat.zero_le _, by simp⟩ rfl rfl ?_
  rintro ⟨i, els⟩ ⟨hi, hels⟩ ih
  simp only at hi hels ih
  have hlen : els.length = l.length := by rw [hels]; simp; omega
  rcases Nat.lt_or_ge i l.length with h | h
  · have g1 : (i : Int) < l.length := by omega
    have g2 : (0 : Int) ≤ i := by omega
    have g3 : l[i]? = some l[i] := List.getElem?_eq_getElem h
    have g4 : els[i]? = some (els[i]'(by omega)) := List.getElem?_eq_getElem (by omega)
    have g5 := wrap_succ h (by omega)
    have gx := hd _ (List.getElem_mem h)
    simp only [g1, g2, g3, g4, g5, hlen, gx, go_sem]
    repeat' ((first | ((first | apply qa | apply qb | apply qc | apply qd | apply qe | apply qf | apply qg | apply qh | apply qi | apply qj | apply qk) <;> intro hp) | ((first | refine ql rfl rfl (by decide +kernel) ?_ | refine qm _ rfl rfl (by decide +kernel) ?_ | refine goes_opn rfl ?_ | refine goes_opnD rfl rfl (by decide +kernel) ?_) <;> have hp := True.intro)) <;> simp only [hp, g1, g2, g3, g4, g5, hlen, gx, go_sem])
    refine ih (i + 1, els.set i (.agg [.int .i64 l[i].Kind, .str l[i].Box, .str l[i].To, .lst 2 (l[i].Set.map Range.enc), .int .i64 l[i].How, .int .i64 l[i].Bits, .int .i64 l[i].Since, .str l[i].Text])) ⟨h, ?_⟩ (by simp only; omega)
    simp only
    rw [hels]
    exact fill_step _ h rfl
  · have g1 : ¬ (i : Int) < l.length := by omega
    simp only [g1, go_sem]
    simp only [fin_mk, finV, resL, resV1, resIn, endA, listIn, Option.some_or, Option.none_or, oneOrTup, go_sem]
    rw [← hr, hels, List.take_of_length_le h, show l.length - i = 0 by omega]
    simp
open Classical in
noncomputable def spEqEditS : VM.Spec := { modes := [.rd, .rd], run := fun | [.lst 8 x', .lst 8 y'] => (decL Edit.dec x').bind fun x => (decL Edit.dec y').bind fun y => if leL Edit.le 4194304 x ∧ leL Edit.le 4194304 y then some (.bool (decide (x = y)), []) else none | _ => none, need := [] }
attribute [go_sem] spEqEditS
theorem spEqEditS_in {ins : List V} {r : V} {outs : List V} (h : spEqEditS.run ins = some (r, outs)) : ∃ (x : (List Edit)) (y : (List Edit)), ins = [.lst 8 ((x).map Edit.enc), .lst 8 ((y).map Edit.enc)] ∧ (leL Edit.le 4194304 x ∧ leL Edit.le 4194304 y) ∧ .bool (decide (x = y)) = r ∧ outs = [] := by
  unfold spEqEditS at h
  simp only at h
  split at h
  · rename_i x' y'
    simp only [Option.bind_eq_some_iff] at h
    obtain ⟨x, h_x, y, h_y, h⟩ := h
    split at h
    case isFalse => cases h
    rename_i hc
    simp only [Option.some.injEq, Prod.mk.injEq] at h
    obtain ⟨h1, h2⟩ := h
    have h_x := decL_some (fun _ _ h => Edit.dec_some h) h_x
    subst h_x
    have h_y := decL_some (fun _ _ h => Edit.dec_some h) h_y
    subst h_y
    exact ⟨x, y, rfl, hc, h1, h2.symm⟩
  · cases h
def T_laws_eqEditS : Hints := ⟨fun i => if i = 6 then some [] else none, fun i => if i = 4 then some [0, 1, 5] else none, fun i => if i = 0 then some [0, 1] else if i = 1 then some [0, 1, 10] else if i = 2 then some [4] else if i = 3 then some [0, 1, 5] else if i = 4 then some [0, 1, 5, 14] else if i = 6 then some [0, 1, 5, 26] else if i = 7 then some [4] else if i = 5 then some [0, 1, 5] else if i = 8 then some [4] else none, fun _ => none⟩
noncomputable def Phi_laws_eqEditS : Tab := fun f => if f = 93 then some spEqEdit else none
attribute [go_sem] T_laws_eqEditS Phi_laws_eqEditS
theorem phi_laws_eqEditS : ∀ f sp, Phi_laws_eqEditS f = some sp → FnOk Tryz.prog f sp ∧ ∀ n ∈ sp.need, n ∈ ([] : List String) := by
  intro f sp h
  unfold Phi_laws_eqEditS at h
  by_cases e : f = 93
  · rw [if_pos e] at h; cases h; rw [e]; exact ⟨ok_laws_eqEdit, (fun n (h : n ∈ ([] : List String)) => (nomatch h))⟩
  rw [if_neg e] at h
  cases h
theorem ok_laws_eqEditS : FnOk Tryz.prog 32 spEqEditS := by
  refine fn_ok (Φ := Phi_laws_eqEditS) (T := T_laws_eqEditS) phi_laws_eqEditS mixed Tryz.func32 rfl rfl rfl (by decide) ?_
  intro ins r outs hr hl
  clear hl
  have hs := spEqEditS_in hr
  clear hr
  obtain ⟨x, y, rfl, hc, hr, rfl⟩ := hs
  simp only [spEqEditS, Tryz.f32, Go.VM.initS]
  obtain ⟨⟨hx, hx'⟩, hy, hy'⟩ := hc
  by_cases hl : x.length = y.length
  case neg =>
    have g : ((x.length : Int) == y.length) = false := by rw [beq_eq_false_iff_ne]; omega
    have g' : ((x.length : Int) != y.length) = true := by rw [bne_iff_ne]; omega
    have hne : x ≠ y := fun e => hl (by rw [e])
    simp only [g, g', go_sem]
    repeat' ((first | ((first | apply qa | apply qb | apply qc | apply qd | apply qe | apply qf | apply qg | apply qh | apply qi | apply qj | apply qk) <;> intro hp) | ((first | refine ql rfl rfl (by decide +kernel) ?_ | refine qm _ rfl rfl (by decide +kernel) ?_ | refine goes_opn rfl ?_ | refine goes_opnD rfl rfl (by decide +kernel) ?_) <;> have hp := True.intro)) <;> simp only [hp, g, g', go_sem])
    simp only [fin_mk, finV, resL, resV1, resIn, endA, listIn, Option.some_or, Option.none_or, oneOrTup, go_sem]
    rw [← hr]
    simp only [hne, decide_false]
  have hl' : (x.length : Int) = y.length := by omega
  simp only [hl, bne_self_eq_false, go_sem]
  repeat' ((first | ((first | apply qa | apply qb | apply qc | apply qd | apply qe | apply qf | apply qg | apply qh | apply qi | apply qj | apply qk) <;> intro hp) | ((first | refine ql rfl rfl (by decide +kernel) ?_ | refine qm _ rfl rfl (by decide +kernel) ?_ | refine goes_opn rfl ?_ | refine goes_opnD rfl rfl (by decide +kernel) ?_) <;> have hp := True.intro)) <;> simp only [hp, hl, bne_self_eq_false, go_sem])
  refine loop_go (fun i : Nat => [(5, .int .i64 (i : Int))]) (fun _ => []) (fun i => x.length - i) (fun i => i ≤ x.length ∧ x.take i = y.take i) 0 ⟨Nat.zero_le _, by simp⟩ rfl rfl ?_
  intro i ⟨hi, he⟩ ih
  rcases Nat.lt_or_ge i x.length with h | h
  · have g1 : (i : Int) < x.length := by omega
    have g1' : (i : Int) < y.length := by omega
    have g2 : (0 : Int) ≤ i := by omega
    have g3 : x[i]? = some x[i] := List.getElem?_eq_getElem h
    have g4 : y[i]? = some (y[i]'(by omega)) := List.getElem?_eq_getElem (by omega)
    have g5 := wrap_succ h (by omega)
    have gx := hx' _ (List.getElem_mem h); have gy := hy' _ (List.getElem_mem (show i < y.length by omega))
    by_cases hv : x[i] = (y[i]'(by omega))
    · simp only [g1, g1', g2, g3, g4, g5, hv, gx, gy, go_sem]
      repeat' ((first | ((first | apply qa | apply qb | apply qc | apply qd | apply qe | apply qf | apply qg | apply qh | apply qi | apply qj | apply qk) <;> intro hp) | ((first | refine ql rfl rfl (by decide +kernel) ?_ | refine qm _ rfl rfl (by decide +kernel) ?_ | refine goes_opn rfl ?_ | refine goes_opnD rfl rfl (by decide +kernel) ?_) <;> have hp := True.intro)) <;> simp only [hp, g1, g1', g2, g3, g4, g5, hv, gx, gy, go_sem])
      exact ih (i + 1) ⟨h, by rw [List.take_add_one, List.take_add_one, he, g3, g4, hv]⟩ (by omega)
    · have hne : x ≠ y := by rintro rfl; exact hv rfl
      have hv1 : (x[i] == (y[i]'(by omega))) = false := by rw [beq_eq_false_iff_ne]; exact hv
      have hv2 : (x[i] != (y[i]'(by omega))) = true := by rw [bne_iff_ne]; exact hv
      simp only [g1, g1', g2, g3, g4, g5, hv, hv1, hv2, gx, gy, go_sem]
      repeat' ((first | ((first | apply qa | apply qb | apply qc | apply qd | apply qe | apply qf | apply qg | apply qh | apply qi | apply qj | apply qk) <;> intro hp) | ((first | refine ql rfl rfl (by decide +kernel) ?_ | refine qm _ rfl rfl (by decide +kernel) ?_ | refine goes_opn rfl ?_ | refine goes_opnD rfl rfl (by decide +kernel) ?_) <;> have hp := True.intro)) <;> simp only [hp, g1, g1', g2, g3, g4, g5, hv, hv1, hv2, gx, gy, go_sem])
      simp only [fin_mk, finV, resL, resV1, resIn, endA, listIn, Option.some_or, Option.none_or, oneOrTup, go_sem]
      rw [← hr]
      simp only [hne, decide_false]
  · have g1 : ¬ (i : Int) < x.length := by omega
    have g1' : ¬ (i : Int) < y.length := by omega
    simp only [g1, g1', go_sem]
    simp only [fin_mk, finV, resL, resV1, resIn, endA, listIn, Option.some_or, Option.none_or, oneOrTup, go_sem]
    rw [← hr]
    rw [List.take_of_length_le h, List.take_of_length_le (by omega)] at he
    simp only [he, decide_true]
open Classical in
noncomputable def spMarkEditS : VM.Spec := { modes := [.io, .rd], run := fun | [.lst 8 l', .int .i64 k] => (decL Edit.dec l').bind fun l => if leL Edit.ln 4194304 l ∧ 0 ≤ k ∧ k ≤ 144115188075855872 then some (.int .i64 ((markL meEdit l k).2), [.lst 8 (((markL meEdit l k).1).map Edit.enc)]) else none | _ => none, need := [] }
attribute [go_sem] spMarkEditS
theorem spMarkEditS_in {ins : List V} {r : V} {outs : List V} (h : spMarkEditS.run ins = some (r, outs)) : ∃ (l : (List Edit)) (k : Int), ins = [.lst 8 ((l).map Edit.enc), .int .i64 k] ∧ (leL Edit.ln 4194304 l ∧ 0 ≤ k ∧ k ≤ 144115188075855872) ∧ .int .i64 ((markL meEdit l k).2) = r ∧ outs = [.lst 8 (((markL meEdit l k).1).map Edit.enc)] := by
  unfold spMarkEditS at h
  simp only at h
  split at h
  · rename_i l' k
    simp only [Option.bind_eq_some_iff] at h
    obtain ⟨l, h_l, h⟩ := h
    split at h
    case isFalse => cases h
    rename_i hc
    simp only [Option.some.injEq, Prod.mk.injEq] at h
    obtain ⟨h1, h2⟩ := h
    have h_l := decL_some (fun _ _ h => Edit.dec_some h) h_l
    subst h_l
    exact ⟨l, k, rfl, hc, h1, h2.symm⟩
  · cases h
def T_laws_markEditS : Hints := ⟨fun _ => none, fun i => if i = 2 then some [0, 1, 5] else none, fun i => if i = 0 then some [0, 1] else if i = 1 then some [0, 1, 5] else if i = 2 then some [0, 1, 5, 9] else if i = 4 then some [0, 1, 5] else if i = 5 then some [0, 1, 5] else if i = 6 then some [0, 1, 5] else if i = 7 then some [0, 1, 5] else if i = 8 then some [0, 1, 5] else if i = 9 then some [0, 1, 5] else if i = 10 then some [0, 1, 5] else if i = 11 then some [0, 1, 5] else if i = 12 then some [0, 1, 5] else if i = 13 then some [0, 1, 5] else if i = 14 then some [0, 1, 5] else if i = 15 then some [0, 1, 5] else if i = 16 then some [0, 1, 5] else if i = 17 then some [0, 1, 5] else if i = 18 then some [0, 1, 5] else if i = 3 then some [0, 1, 5] else if i = 19 then some [4] else none, fun i => if i = 10 then some ((0, []), (5, [])) else none⟩
noncomputable def Phi_laws_markEditS : Tab := fun f => if f = 95 then some spMarkText else if f = 96 then some spMarkRangeS else none
attribute [go_sem] T_laws_markEditS Phi_laws_markEditS
theorem phi_laws_markEditS : ∀ f sp, Phi_laws_markEditS f = some sp → FnOk Tryz.prog f sp ∧ ∀ n ∈ sp.need, n ∈ ([] : List String) := by
  intro f sp h
  unfold Phi_laws_markEditS at h
  by_cases e : f = 95
  · rw [if_pos e] at h; cases h; rw [e]; exact ⟨ok_laws_markText, (fun n (h : n ∈ ([] : List String)) => (nomatch h))⟩
  rw [if_neg e] at h
  by_cases e : f = 96
  · rw [if_pos e] at h; cases h; rw [e]; exact ⟨ok_laws_markRangeS, (fun n (h : n ∈ ([] : List String)) => (nomatch h))⟩
  rw [if_neg e] at h
  cases h
theorem ok_laws_markEditS : FnOk Tryz.prog 34 spMarkEditS := by
  refine fn_ok (Φ := Phi_laws_markEditS) (T := T_laws_markEditS) phi_laws_markEditS mixed Tryz.func34 rfl rfl rfl (by decide) ?_
  intro ins r outs hr hl
  clear hl
  have hs := spMarkEditS_in hr
  clear hr
  obtain ⟨l, k, rfl, hc, hr, rfl⟩ := hs
  simp only [spMarkEditS, Tryz.f34, Go.VM.initS]
  obtain ⟨⟨hc, hd⟩, h0, h1⟩ := hc
  simp only [go_sem]
  refine loop_go (fun p : Nat × List V × Int => [(1, .int .i64 p.2.2), (5, .int .i64 (p.1 : Int))]) (fun p => [(0, ⟨.arr, 8, p.2.1⟩)]) (fun p => l.length - p.1) (fun p => p.1 ≤ l.length ∧ p.2.1 = ((markL meEdit (l.take p.1) k).1 ++ l.drop p.1).map Edit.enc ∧ p.2.2 = (markL meEdit (l.take p.1) k).2 ∧ 0 ≤ p.2.2 ∧ p.2.2 ≤ k + 8388615 * p.1) (0, l.map Edit.enc, k) ⟨Nat.zero_le _, by simp [markL], rfl, h0, by simp⟩ rfl rfl ?_
  rintro ⟨i, els, k'⟩ ⟨hi, he, hk, hb0, hb⟩ ih
  simp only at hi he hk hb0 hb ih
  rcases Nat.lt_or_ge i l.length with h | h
  · have g1 : (i : Int) < l.length := by omega
    have g2 : (0 : Int) ≤ i := by omega
    obtain ⟨g3, gl, gs, gk⟩ := mark_round h he
    rw [← hk] at gs gk
    have g5 := wrap_succ h (by omega)
    have hx := hd _ (List.getElem_mem h)
    have c0 : l[i].Set.length ≤ 4194304 := hx
    have j0 : k' ≤ 4611686018427387904 := by omega
    have w0 : IntKind.i64.wrap (k' + 1) = k' + 1 := wrap64 (by omega) (by omega)
    have j1 : k' + 1 ≤ 4611686018427387904 := by omega
    have w1 : IntKind.i64.wrap (k' + 1 + 1) = k' + 1 + 1 := wrap64 (by omega) (by omega)
    have j2 : k' + 1 + 1 ≤ 4611686018427387904 := by omega
    have w2 : IntKind.i64.wrap (k' + 1 + 1 + 1) = k' + 1 + 1 + 1 := wrap64 (by omega) (by omega)
    have j3 : k' + 1 + 1 + 1 ≤ 4611686018427387904 := by omega
    have p3 : 0 ≤ k' + 1 + 1 + 1 := by omega
    have q3 : k' + 1 + 1 + 1 ≤ 1152921504606846976 := by omega
    have r3 : (markL meRange l[i].Set (k' + 1 + 1 + 1)).2 = k' + 1 + 1 + 1 + (2 : Nat) * l[i].Set.length := markL_k meRange_k _ _
    have j4 : (markL meRange l[i].Set (k' + 1 + 1 + 1)).2 ≤ 4611686018427387904 := by omega
    have s3 : ¬ (markL meRange l[i].Set (k' + 1 + 1 + 1)).2 < 0 := by omega
    have w4 : IntKind.i64.wrap ((markL meRange l[i].Set (k' + 1 + 1 + 1)).2 + 1) = (markL meRange l[i].Set (k' + 1 + 1 + 1)).2 + 1 := wrap64 (by omega) (by omega)
    have j5 : (markL meRange l[i].Set (k' + 1 + 1 + 1)).2 + 1 ≤ 4611686018427387904 := by omega
    have w5 : IntKind.i64.wrap ((markL meRange l[i].Set (k' + 1 + 1 + 1)).2 + 1 + 1) = (markL meRange l[i].Set (k' + 1 + 1 + 1)).2 + 1 + 1 := wrap64 (by omega) (by omega)
    have j6 : (markL meRange l[i].Set (k' + 1 + 1 + 1)).2 + 1 + 1 ≤ 4611686018427387904 := by omega
    have w6 : IntKind.i64.wrap ((markL meRange l[i].Set (k' + 1 + 1 + 1)).2 + 1 + 1 + 1) = (markL meRange l[i].Set (k' + 1 + 1 + 1)).2 + 1 + 1 + 1 := wrap64 (by omega) (by omega)
    have j7 : (markL meRange l[i].Set (k' + 1 + 1 + 1)).2 + 1 + 1 + 1 ≤ 4611686018427387904 := by omega
    have w7 : IntKind.i64.wrap ((markL meRange l[i].Set (k' + 1 + 1 + 1)).2 + 1 + 1 + 1 + 1) = (markL meRange l[i].Set (k' + 1 + 1 + 1)).2 + 1 + 1 + 1 + 1 := wrap64 (by omega) (by omega)
    have j8 : (markL meRange l[i].Set (k' + 1 + 1 + 1)).2 + 1 + 1 + 1 + 1 ≤ 4611686018427387904 := by omega
    rw [Edit.enc] at g3
    have gi : i < els.length := by omega
    simp only [g1, g2, g3, gl, g5, h, gi, c0, j0, w0, j1, w1, j2, w2, j3, p3, q3, j4, s3, w4, j5, w5, j6, w6, j7, w7, j8, List.getElem?_set_self, List.length_set, List.set_set, go_sem]
    repeat' ((first | ((first | apply qa | apply qb | apply qc | apply qd | apply qe | apply qf | apply qg | apply qh | apply qi | apply qj | apply qk) <;> intro hp) | ((first | refine ql rfl rfl (by decide +kernel) ?_ | refine qm _ rfl rfl (by decide +kernel) ?_ | refine goes_opn rfl ?_ | refine goes_opnD rfl rfl (by decide +kernel) ?_) <;> have hp := True.intro)) <;> simp only [hp, g1, g2, g3, gl, g5, h, gi, c0, j0, w0, j1, w1, j2, w2, j3, p3, q3, j4, s3, w4, j5, w5, j6, w6, j7, w7, j8, List.getElem?_set_self, List.length_set, List.set_set, go_sem])
    refine ih (i + 1, els.set i (Edit.enc (meEdit l[i] k').1), (meEdit l[i] k').2) ⟨h, gs, gk, ?_, ?_⟩ (by simp only; omega)
    · simp only; rw [meEdit_k]; omega
    · simp only; rw [meEdit_k]; push_cast; omega
  · have g1 : ¬ (i : Int) < l.length := by omega
    have gl : els.length = l.length := by rw [he]; simp [markL_len]; omega
    simp only [g1, gl, go_sem]
    simp only [fin_mk, finV, resL, resV1, resIn, endA, listIn, Option.some_or, Option.none_or, oneOrTup, go_sem]
    rw [← hr, he, hk, List.take_of_length_le h, List.drop_of_length_le h, List.append_nil]
theorem edits_ln {l : List Edit} (h : leL Edit.le 4194304 l) : leL Edit.ln 4194304 l := ⟨h.1, fun y hy => Edit.ln_of (h.2 y hy)⟩
theorem markEditS_up {l : List Edit} (h : leL Edit.ln 4194304 l) (k : Int) : (markL meEdit l k).2 ≤ k + 8388615 * l.length := by
  obtain ⟨h0, hd⟩ := h
  induction l generalizing k with
  | nil => simp [markL]
  | cons x l ih =>
    simp only [List.length_cons] at h0
    have h1 := ih (meEdit x k).2 (by omega) (fun y hy => hd y (by simp [hy]))
    have h2 := meEdit_k x k
    have hx := hd x (by simp)
    have e1 : x.Set.length ≤ 4194304 := hx
    simp only [markL, List.length_cons]
    omega
theorem markEditS_le : ∀ (l : List Edit) (k : Int), k ≤ (markL meEdit l k).2
  | [], k => Int.le_refl _
  | x :: l, k => by
    have := markEditS_le l (meEdit x k).2
    have := meEdit_k x k
    simp only [markL]; omega
open Classical in
noncomputable def spEqAct : VM.Spec := { modes := [.rd, .rd], run := fun | [x', y'] => (VM.Act.dec x').bind fun x => (VM.Act.dec y').bind fun y => some (.bool (decide (x = y)), []) | _ => none, need := [] }
attribute [go_sem] spEqAct
theorem spEqAct_in {ins : List V} {r : V} {outs : List V} (h : spEqAct.run ins = some (r, outs)) : ∃ (x : VM.Act) (y : VM.Act), ins = [VM.Act.enc x, VM.Act.enc y] ∧ .bool (decide (x = y)) = r ∧ outs = [] := by
  unfold spEqAct at h
  simp only at h
  split at h
  · rename_i x' y'
    simp only [Option.bind_eq_some_iff] at h
    obtain ⟨x, h_x, y, h_y, h⟩ := h
    simp only [Option.some.injEq, Prod.mk.injEq] at h
    obtain ⟨h1, h2⟩ := h
    have h_x := VM.Act.dec_some h_x
    subst h_x
    have h_y := VM.Act.dec_some h_y
    subst h_y
    exact ⟨x, y, rfl, h1, h2.symm⟩
  · cases h
def T_laws_eqAct : Hints := ⟨fun _ => none, fun _ => none, fun i => if i = 0 then some [2, 3] else if i = 1 then some [2, 3, 9] else if i = 2 then some [4] else if i = 3 then some [2, 3, 14] else if i = 4 then some [4] else if i = 5 then some [2, 3, 19] else if i = 6 then some [4] else if i = 7 then some [24] else if i = 8 then some [4] else if i = 9 then some [4] else none, fun _ => none⟩
noncomputable def Phi_laws_eqAct : Tab := fun f => none
attribute [go_sem] T_laws_eqAct Phi_laws_eqAct
theorem phi_laws_eqAct : ∀ f sp, Phi_laws_eqAct f = some sp → FnOk Tryz.prog f sp ∧ ∀ n ∈ sp.need, n ∈ ([] : List String) := by
  intro f sp h
  unfold Phi_laws_eqAct at h
  cases h
theorem ok_laws_eqAct : FnOk Tryz.prog 91 spEqAct := by
  refine fn_ok (Φ := Phi_laws_eqAct) (T := T_laws_eqAct) phi_laws_eqAct mixed Tryz.func91 rfl rfl rfl (by decide) ?_
  intro ins r outs hr hl
  clear hl
  have hs := spEqAct_in hr
  clear hr
  obtain ⟨x, y, rfl, hr, rfl⟩ := hs
  simp only [spEqAct, Tryz.f91, Go.VM.initS]
  simp only [and_self, go_sem]
  repeat' ((first | ((first | apply qa | apply qb | apply qc | apply qd | apply qe | apply qf | apply qg | apply qh | apply qi | apply qj | apply qk) <;> intro hp) | ((first | refine ql rfl rfl (by decide +kernel) ?_ | refine qm _ rfl rfl (by decide +kernel) ?_ | refine goes_opn rfl ?_ | refine goes_opnD rfl rfl (by decide +kernel) ?_) <;> have hp := True.intro)) <;> simp only [hp, and_self, go_sem])
  all_goals (simp only [fin_mk, finV, resL, resV1, resIn, endA, listIn, Option.some_or, Option.none_or, oneOrTup, go_sem]; rw [← hr])
  all_goals (cases x; cases y; simp_all)
open Classical in
noncomputable def spEqActS : VM.Spec := { modes := [.rd, .rd], run := fun | [.lst 4 x', .lst 4 y'] => (decL VM.Act.dec x').bind fun x => (decL VM.Act.dec y').bind fun y => if x.length ≤ 4194304 ∧ y.length ≤ 4194304 then some (.bool (decide (x = y)), []) else none | _ => none, need := [] }
attribute [go_sem] spEqActS
theorem spEqActS_in {ins : List V} {r : V} {outs : List V} (h : spEqActS.run ins = some (r, outs)) : ∃ (x : (List VM.Act)) (y : (List VM.Act)), ins = [.lst 4 ((x).map VM.Act.enc), .lst 4 ((y).map VM.Act.enc)] ∧ (x.length ≤ 4194304 ∧ y.length ≤ 4194304) ∧ .bool (decide (x = y)) = r ∧ outs = [] := by
  unfold spEqActS at h
  simp only at h
  split at h
  · rename_i x' y'
    simp only [Option.bind_eq_some_iff] at h
    obtain ⟨x, h_x, y, h_y, h⟩ := h
    split at h
    case isFalse => cases h
    rename_i hc
    simp only [Option.some.injEq, Prod.mk.injEq] at h
    obtain ⟨h1, h2⟩ := h
    have h_x := decL_some (fun _ _ h => VM.Act.dec_some h) h_x
    subst h_x
    have h_y := decL_some (fun _ _ h => VM.Act.dec_some h) h_y
    subst h_y
    exact ⟨x, y, rfl, hc, h1, h2.symm⟩
  · cases h
def T_laws_eqActS : Hints := ⟨fun i => if i = 6 then some [] else none, fun i => if i = 4 then some [0, 1, 5] else none, fun i => if i = 0 then some [0, 1] else if i = 1 then some [0, 1, 10] else if i = 2 then some [4] else if i = 3 then some [0, 1, 5] else if i = 4 then some [0, 1, 5, 14] else if i = 6 then some [0, 1, 5, 26] else if i = 7 then some [4] else if i = 5 then some [0, 1, 5] else if i = 8 then some [4] else none, fun _ => none⟩
noncomputable def Phi_laws_eqActS : Tab := fun f => if f = 91 then some spEqAct else none
attribute [go_sem] T_laws_eqActS Phi_laws_eqActS
theorem phi_laws_eqActS : ∀ f sp, Phi_laws_eqActS f = some sp → FnOk Tryz.prog f sp ∧ ∀ n ∈ sp.need, n ∈ ([] : List String) := by
  intro f sp h
  unfold Phi_laws_eqActS at h
  by_cases e : f = 91
  · rw [if_pos e] at h; cases h; rw [e]; exact ⟨ok_laws_eqAct, (fun n (h : n ∈ ([] : List String)) => (nomatch h))⟩
  rw [if_neg e] at h
  cases h
theorem ok_laws_eqActS : FnOk Tryz.prog 30 spEqActS := by
  refine fn_ok (Φ := Phi_laws_eqActS) (T := T_laws_eqActS) phi_laws_eqActS mixed Tryz.func30 rfl rfl rfl (by decide) ?_
  intro ins r outs hr hl
  clear hl
  have hs := spEqActS_in hr
  clear hr
  obtain ⟨x, y, rfl, hc, hr, rfl⟩ := hs
  simp only [spEqActS, Tryz.f30, Go.VM.initS]
  obtain ⟨hx, hy⟩ := hc
  by_cases hl : x.length = y.length
  case neg =>
    have g : ((x.length : Int) == y.length) = false := by rw [beq_eq_false_iff_ne]; omega
    have g' : ((x.length : Int) != y.length) = true := by rw [bne_iff_ne]; omega
    have hne : x ≠ y := fun e => hl (by rw [e])
    simp only [g, g', go_sem]
    repeat' ((first | ((first | apply qa | apply qb | apply qc | apply qd | apply qe | apply qf | apply qg | apply qh | apply qi | apply qj | apply qk) <;> intro hp) | ((first | refine ql rfl rfl (by decide +kernel) ?_ | refine qm _ rfl rfl (by decide +kernel) ?_ | refine goes_opn rfl ?_ | refine goes_opnD rfl rfl (by decide +kernel) ?_) <;> have hp := True.intro)) <;> simp only [hp, g, g', go_sem])
    simp only [fin_mk, finV, resL, resV1, resIn, endA, listIn, Option.some_or, Option.none_or, oneOrTup, go_sem]
    rw [← hr]
    simp only [hne, decide_false]
  have hl' : (x.length : Int) = y.length := by omega
  simp only [hl, bne_self_eq_false, go_sem]
  repeat' ((first | ((first | apply qa | apply qb | apply qc | apply qd | apply qe | apply qf | apply qg | apply qh | apply qi | apply qj | apply qk) <;> intro hp) | ((first | refine ql rfl rfl (by decide +kernel) ?_ | refine qm _ rfl rfl (by decide +kernel) ?_ | refine goes_opn rfl ?_ | refine goes_opnD rfl rfl (by decide +kernel) ?_) <;> have hp := True.intro)) <;> simp only [hp, hl, bne_self_eq_false, go_sem])
  refine loop_go (fun i : Nat => [(5, .int .i64 (i : Int))]) (fun _ => []) (fun i => x.length - i) (fun i => i ≤ x.length ∧ x.take i = y.take i) 0 ⟨Nat.zero_le _, by simp⟩ rfl rfl ?_
  intro i ⟨hi, he⟩ ih
  rcases Nat.lt_or_ge i x.length with h | h
  · have g1 : (i : Int) < x.length := by omega
    have g1' : (i : Int) < y.length := by omega
    have g2 : (0 : Int) ≤ i := by omega
    have g3 : x[i]? = some x[i] := List.getElem?_eq_getElem h
    have g4 : y[i]? = some (y[i]'(by omega)) := List.getElem?_eq_getElem (by omega)
    have g5 := wrap_succ h (by omega)
    skip
    by_cases hv : x[i] = (y[i]'(by omega))
    · simp only [g1, g1', g2, g3, g4, g5, hv, go_sem]
      repeat' ((first | ((first | apply qa | apply qb | apply qc | apply qd | apply qe | apply qf | apply qg | apply qh | apply qi | apply qj | apply qk) <;> intro hp) | ((first | refine ql rfl rfl (by decide +kernel) ?_ | refine qm _ rfl rfl (by decide +kernel) ?_ | refine goes_opn rfl ?_ | refine goes_opnD rfl rfl (by decide +kernel) ?_) <;> have hp := True.intro)) <;> simp only [hp, g1, g1', g2, g3, g4, g5, hv, go_sem])
      exact ih (i + 1) ⟨h, by rw [List.take_add_one, List.take_add_one, he, g3, g4, hv]⟩ (by omega)
    · have hne : x ≠ y := by rintro rfl; exact hv rfl
      have hv1 : (x[i] == (y[i]'(by omega))) = false := by rw [beq_eq_false_iff_ne]; exact hv
      have hv2 : (x[i] != (y[i]'(by omega))) = true := by rw [bne_iff_ne]; exact hv
      simp only [g1, g1', g2, g3, g4, g5, hv, hv1, hv2, go_sem]
      repeat' ((first | ((first | apply qa | apply qb | apply qc | apply qd | apply qe | apply qf | apply qg | apply qh | apply qi | apply qj | apply qk) <;> intro hp) | ((first | refine ql rfl rfl (by decide +kernel) ?_ | refine qm _ rfl rfl (by decide +kernel) ?_ | refine goes_opn rfl ?_ | refine goes_opnD rfl rfl (by decide +kernel) ?_) <;> have hp := True.intro)) <;> simp only [hp, g1, g1', g2, g3, g4, g5, hv, hv1, hv2, go_sem])
      simp only [fin_mk, finV, resL, resV1, resIn, endA, listIn, Option.some_or, Option.none_or, oneOrTup, go_sem]
      rw [← hr]
      simp only [hne, decide_false]
  · have g1 : ¬ (i : Int) < x.length := by omega
    have g1' : ¬ (i : Int) < y.length := by omega
    simp only [g1, g1', go_sem]
    simp only [fin_mk, finV, resL, resV1, resIn, endA, listIn, Option.some_or, Option.none_or, oneOrTup, go_sem]
    rw [← hr]
    rw [List.take_of_length_le h, List.take_of_length_le (by omega)] at he
    simp only [he, decide_true]
open Classical in
noncomputable def spMarkActS : VM.Spec := { modes := [.io, .rd], run := fun | [.lst 4 l', .int .i64 k] => (decL VM.Act.dec l').bind fun l => if l.length ≤ 4194304 ∧ 0 ≤ k ∧ k ≤ 1152921504606846976 then some (.int .i64 ((markL meAct l k).2), [.lst 4 (((markL meAct l k).1).map VM.Act.enc)]) else none | _ => none, need := [] }
attribute [go_sem] spMarkActS
theorem spMarkActS_in {ins : List V} {r : V} {outs : List V} (h : spMarkActS.run ins = some (r, outs)) : ∃ (l : (List VM.Act)) (k : Int), ins = [.lst 4 ((l).map VM.Act.enc), .int .i64 k] ∧ (l.length ≤ 4194304 ∧ 0 ≤ k ∧ k ≤ 1152921504606846976) ∧ .int .i64 ((markL meAct l k).2) = r ∧ outs = [.lst 4 (((markL meAct l k).1).map VM.Act.enc)] := by
  unfold spMarkActS at h
  simp only at h
  split at h
  · rename_i l' k
    simp only [Option.bind_eq_some_iff] at h
    obtain ⟨l, h_l, h⟩ := h
    split at h
    case isFalse => cases h
    rename_i hc
    simp only [Option.some.injEq, Prod.mk.injEq] at h
    obtain ⟨h1, h2⟩ := h
    have h_l := decL_some (fun _ _ h => VM.Act.dec_some h) h_l
    subst h_l
    exact ⟨l, k, rfl, hc, h1, h2.symm⟩
  · cases h
def T_laws_markActS : Hints := ⟨fun _ => none, fun i => if i = 2 then some [0, 1, 5] else none, fun i => if i = 0 then some [0, 1] else if i = 1 then some [0, 1, 5] else if i = 2 then some [0, 1, 5, 9] else if i = 4 then some [0, 1, 5] else if i = 5 then some [0, 1, 5] else if i = 6 then some [0, 1, 5] else if i = 7 then some [0, 1, 5] else if i = 8 then some [0, 1, 5] else if i = 9 then some [0, 1, 5] else if i = 10 then some [0, 1, 5] else if i = 11 then some [0, 1, 5] else if i = 3 then some [0, 1, 5] else if i = 12 then some [4] else none, fun _ => none⟩
noncomputable def Phi_laws_markActS : Tab := fun f => if f = 95 then some spMarkText else none
attribute [go_sem] T_laws_markActS Phi_laws_markActS
theorem phi_laws_markActS : ∀ f sp, Phi_laws_markActS f = some sp → FnOk Tryz.prog f sp ∧ ∀ n ∈ sp.need, n ∈ ([] : List String) := by
  intro f sp h
  unfold Phi_laws_markActS at h
  by_cases e : f = 95
  · rw [if_pos e] at h; cases h; rw [e]; exact ⟨ok_laws_markText, (fun n (h : n ∈ ([] : List String)) => (nomatch h))⟩
  rw [if_neg e] at h
  cases h
theorem ok_laws_markActS : FnOk Tryz.prog 35 spMarkActS := by
  refine fn_ok (Φ := Phi_laws_markActS) (T := T_laws_markActS) phi_laws_markActS mixed Tryz.func35 rfl rfl rfl (by decide) ?_
  intro ins r outs hr hl
  clear hl
  have hs := spMarkActS_in hr
  clear hr
  obtain ⟨l, k, rfl, hc, hr, rfl⟩ := hs
  simp only [spMarkActS, Tryz.f35, Go.VM.initS]
  obtain ⟨hc, h0, h1⟩ := hc
  simp only [go_sem]
  refine loop_go (fun p : Nat × List V × Int => [(1, .int .i64 p.2.2), (5, .int .i64 (p.1 : Int))]) (fun p => [(0, ⟨.arr, 4, p.2.1⟩)]) (fun p => l.length - p.1) (fun p => p.1 ≤ l.length ∧ p.2.1 = ((markL meAct (l.take p.1) k).1 ++ l.drop p.1).map VM.Act.enc ∧ p.2.2 = (markL meAct (l.take p.1) k).2 ∧ p.2.2 = k + (4 : Nat) * p.1) (0, l.map VM.Act.enc, k) ⟨Nat.zero_le _, by simp [markL], rfl, by simp⟩ rfl rfl ?_
  rintro ⟨i, els, k'⟩ ⟨hi, he, hk, hb⟩ ih
  simp only at hi he hk hb ih
  rcases Nat.lt_or_ge i l.length with h | h
  · have g1 : (i : Int) < l.length := by omega
    have g2 : (0 : Int) ≤ i := by omega
    obtain ⟨g3, gl, gs, gk⟩ := mark_round h he
    rw [← hk] at gs gk
    have g5 := wrap_succ h (by omega)
    have j0 : k' ≤ 4611686018427387904 := by omega
    have w0 : IntKind.i64.wrap (k' + 1) = k' + 1 := wrap64 (by omega) (by omega)
    have w1 : IntKind.i64.wrap (k' + 1 + 1) = k' + 1 + 1 := wrap64 (by omega) (by omega)
    have w2 : IntKind.i64.wrap (k' + 1 + 1 + 1) = k' + 1 + 1 + 1 := wrap64 (by omega) (by omega)
    have w3 : IntKind.i64.wrap (k' + 1 + 1 + 1 + 1) = k' + 1 + 1 + 1 + 1 := wrap64 (by omega) (by omega)
    have j1 : k' + 1 ≤ 4611686018427387904 := by omega
    have j2 : k' + 1 + 1 ≤ 4611686018427387904 := by omega
    have j3 : k' + 1 + 1 + 1 ≤ 4611686018427387904 := by omega
    have j4 : k' + 1 + 1 + 1 + 1 ≤ 4611686018427387904 := by omega
    rw [VM.Act.enc] at g3
    have gi : i < els.length := by omega
    simp only [g1, g2, g3, gl, g5, h, w0, w1, w2, w3, j0, j1, j2, j3, j4, List.getElem?_set_self, List.length_set, List.set_set, go_sem]
    repeat' ((first | ((first | apply qa | apply qb | apply qc | apply qd | apply qe | apply qf | apply qg | apply qh | apply qi | apply qj | apply qk) <;> intro hp) | ((first | refine ql rfl rfl (by decide +kernel) ?_ | refine qm _ rfl rfl (by decide +kernel) ?_ | refine goes_opn rfl ?_ | refine goes_opnD rfl rfl (by decide +kernel) ?_) <;> have hp := True.intro)) <;> simp only [hp, g1, g2, g3, gl, g5, h, w0, w1, w2, w3, j0, j1, j2, j3, j4, List.getElem?_set_self, List.length_set, List.set_set, go_sem])
    refine ih (i + 1, els.set i (VM.Act.enc (meAct l[i] k').1), (meAct l[i] k').2) ⟨h, gs, gk, by simp only [meAct]; omega⟩ (by simp only; omega)
  · have g1 : ¬ (i : Int) < l.length := by omega
    have gl : els.length = l.length := by rw [he]; simp [markL_len]; omega
    simp only [g1, gl, go_sem]
    simp only [fin_mk, finV, resL, resV1, resIn, endA, listIn, Option.some_or, Option.none_or, oneOrTup, go_sem]
    rw [← hr, he, hk, List.take_of_length_le h, List.drop_of_length_le h, List.append_nil]
open Classical in
noncomputable def spHeldActS : VM.Spec := { modes := [.rd, .rd], run := fun | [.lst 4 l', .int .i64 k] => (decL VM.Act.dec l').bind fun l => if l.length ≤ 4194304 ∧ 0 ≤ k ∧ k ≤ 1152921504606846976 then some (.int .i64 ((heldL heAct l k).getD (-1)), []) else none | _ => none, need := [] }
attribute [go_sem] spHeldActS
theorem spHeldActS_in {ins : List V} {r : V} {outs : List V} (h : spHeldActS.run ins = some (r, outs)) : ∃ (l : (List VM.Act)) (k : Int), ins = [.lst 4 ((l).map VM.Act.enc), .int .i64 k] ∧ (l.length ≤ 4194304 ∧ 0 ≤ k ∧ k ≤ 1152921504606846976) ∧ .int .i64 ((heldL heAct l k).getD (-1)) = r ∧ outs = [] := by
  unfold spHeldActS at h
  simp only at h
  split at h
  · rename_i l' k
    simp only [Option.bind_eq_some_iff] at h
    obtain ⟨l, h_l, h⟩ := h
    split at h
    case isFalse => cases h
    rename_i hc
    simp only [Option.some.injEq, Prod.mk.injEq] at h
    obtain ⟨h1, h2⟩ := h
    have h_l := decL_some (fun _ _ h => VM.Act.dec_some h) h_l
    subst h_l
    exact ⟨l, k, rfl, hc, h1, h2.symm⟩
  · cases h
def T_laws_heldActS : Hints := ⟨fun i => if i = 7 then some [(2, 6), (3, 6), (4, 6)] else if i = 10 then some [(2, 6), (3, 6), (4, 6)] else if i = 13 then some [(2, 6), (3, 6), (4, 6)] else none, fun i => if i = 2 then some [0, 1, 5] else none, fun i => if i = 0 then some [0, 1] else if i = 1 then some [0, 1, 5] else if i = 2 then some [0, 1, 5, 9] else if i = 4 then some [0, 1, 5, 18] else if i = 5 then some [4] else if i = 6 then some [0, 1, 5] else if i = 7 then some [0, 1, 5, 28] else if i = 8 then some [4] else if i = 9 then some [0, 1, 5] else if i = 10 then some [0, 1, 5, 38] else if i = 11 then some [4] else if i = 12 then some [0, 1, 5] else if i = 13 then some [0, 1, 5, 48] else if i = 14 then some [4] else if i = 15 then some [0, 1, 5] else if i = 3 then some [0, 1, 5] else if i = 16 then some [4] else none, fun _ => none⟩
noncomputable def Phi_laws_heldActS : Tab := fun f => if f = 95 then some spMarkText else none
attribute [go_sem] T_laws_heldActS Phi_laws_heldActS
theorem phi_laws_heldActS : ∀ f sp, Phi_laws_heldActS f = some sp → FnOk Tryz.prog f sp ∧ ∀ n ∈ sp.need, n ∈ ([] : List String) := by
  intro f sp h
  unfold Phi_laws_heldActS at h
  by_cases e : f = 95
  · rw [if_pos e] at h; cases h; rw [e]; exact ⟨ok_laws_markText, (fun n (h : n ∈ ([] : List String)) => (nomatch h))⟩
  rw [if_neg e] at h
  cases h
theorem ok_laws_heldActS : FnOk Tryz.prog 36 spHeldActS := by
  refine fn_ok (Φ := Phi_laws_heldActS) (T := T_laws_heldActS) phi_laws_heldActS mixed Tryz.func36 rfl rfl rfl (by decide) ?_
  intro ins r outs hr hl
  clear hl
  have hs := spHeldActS_in hr
  clear hr
  obtain ⟨l, k, rfl, hc, hr, rfl⟩ := hs
  simp only [spHeldActS, Tryz.f36, Go.VM.initS]
  obtain ⟨hc, h0, h1⟩ := hc
  simp only [go_sem]
  refine loop_go (fun p : Nat × Int => [(1, .int .i64 p.2), (5, .int .i64 (p.1 : Int))]) (fun p => []) (fun p => l.length - p.1) (fun p => p.1 ≤ l.length ∧ heldL heAct (l.take p.1) k = some p.2 ∧ p.2 = k + (4 : Nat) * p.1) (0, k) ⟨Nat.zero_le _, rfl, by simp⟩ rfl rfl ?_
  rintro ⟨i, k'⟩ ⟨hi, hk, hb⟩ ih
  simp only at hi hk hb ih
  rcases Nat.lt_or_ge i l.length with h | h
  · have g1 : (i : Int) < l.length := by omega
    have g2 : (0 : Int) ≤ i := by omega
    have g3 : l[i]? = some l[i] := List.getElem?_eq_getElem h
    have g5 := wrap_succ h (by omega)
    have j0 : k' ≤ 4611686018427387904 := by omega
    have w0 : IntKind.i64.wrap (k' + 1) = k' + 1 := wrap64 (by omega) (by omega)
    have w1 : IntKind.i64.wrap (k' + 1 + 1) = k' + 1 + 1 := wrap64 (by omega) (by omega)
    have w2 : IntKind.i64.wrap (k' + 1 + 1 + 1) = k' + 1 + 1 + 1 := wrap64 (by omega) (by omega)
    have w3 : IntKind.i64.wrap (k' + 1 + 1 + 1 + 1) = k' + 1 + 1 + 1 + 1 := wrap64 (by omega) (by omega)
    have j1 : k' + 1 ≤ 4611686018427387904 := by omega
    have j2 : k' + 1 + 1 ≤ 4611686018427387904 := by omega
    have j3 : k' + 1 + 1 + 1 ≤ 4611686018427387904 := by omega
    have j4 : k' + 1 + 1 + 1 + 1 ≤ 4611686018427387904 := by omega
    have hbad : (meAct l[i] k').1 ≠ l[i] → V.int .i64 (-1) = r := fun hn => by
      rw [← hr, heldL_bad h hk (by simp only [heAct, heOf, hn, if_false])]; rfl
    have hgood : (meAct l[i] k').1 = l[i] → heldL heAct (l.take (i + 1)) k = some ((meAct l[i] k').2) := fun hn => heldL_good h hk (by simp only [heAct, heOf, hn, if_true])
    by_cases hn : (meAct l[i] k').1 = l[i]
    · have e0 : l[i].Kind = k' := (congrArg VM.Act.Kind hn).symm
      have e1 : l[i].Name = markText (k' + 1) := (congrArg VM.Act.Name hn).symm
      have e2 : l[i].Text = markText (k' + 1 + 1) := (congrArg VM.Act.Text hn).symm
      have e3 : l[i].To = markText (k' + 1 + 1 + 1) := (congrArg VM.Act.To hn).symm
      simp only [g1, g2, g3, g5, w0, w1, w2, w3, j0, j1, j2, j3, j4, e0, e1, e2, e3, bne_self_eq_false, go_sem]
      repeat' ((first | ((first | apply qa | apply qb | apply qc | apply qd | apply qe | apply qf | apply qg | apply qh | apply qi | apply qj | apply qk) <;> intro hp) | ((first | refine ql rfl rfl (by decide +kernel) ?_ | refine qm _ rfl rfl (by decide +kernel) ?_ | refine goes_opn rfl ?_ | refine goes_opnD rfl rfl (by decide +kernel) ?_) <;> have hp := True.intro)) <;> simp only [hp, g1, g2, g3, g5, w0, w1, w2, w3, j0, j1, j2, j3, j4, e0, e1, e2, e3, bne_self_eq_false, go_sem])
      exact ih (i + 1, (meAct l[i] k').2) ⟨h, hgood hn, by simp only [meAct]; omega⟩ (by simp only; omega)
    · simp only [g1, g2, g3, g5, w0, w1, w2, w3, j0, j1, j2, j3, j4, go_sem]
      repeat' ((first | ((first | apply qa | apply qb | apply qc | apply qd | apply qe | apply qf | apply qg | apply qh | apply qi | apply qj | apply qk) <;> intro hp) | ((first | refine ql rfl rfl (by decide +kernel) ?_ | refine qm _ rfl rfl (by decide +kernel) ?_ | refine goes_opn rfl ?_ | refine goes_opnD rfl rfl (by decide +kernel) ?_) <;> have hp := True.intro)) <;> simp only [hp, g1, g2, g3, g5, w0, w1, w2, w3, j0, j1, j2, j3, j4, go_sem])
      all_goals first
        | (refine fin_mk.2 ?_; simp only [fin_mk, finV, resL, resV1, resIn, endA, listIn, Option.some_or, Option.none_or, oneOrTup, go_sem]; rw [hbad hn])
        | (exfalso; apply hn; clear hn ih hbad hgood hk hr hc h0 h1; simp only [meAct]; cases hx : l[i]; simp_all)
  · have g1 : ¬ (i : Int) < l.length := by omega
    simp only [g1, go_sem]
    simp only [fin_mk, finV, resL, resV1, resIn, endA, listIn, Option.some_or, Option.none_or, oneOrTup, go_sem]
    rw [← hr]
    rw [List.take_of_length_le h] at hk
    rw [hk]; rfl
open Classical in
noncomputable def spSzFile : VM.Spec := { modes := [.rd, .rd], run := fun | [x', .int .i64 n] => (File.dec x').bind fun x => if x.le 4611686018427387904 ∧ 0 ≤ n ∧ n ≤ 4611686018427387904 then some (.int .i64 (File.sz x n), []) else none | _ => none, need := [] }
attribute [go_sem] spSzFile
theorem spSzFile_in {ins : List V} {r : V} {outs : List V} (h : spSzFile.run ins = some (r, outs)) : ∃ (x : File) (n : Int), ins = [File.enc x, .int .i64 n] ∧ (x.le 4611686018427387904 ∧ 0 ≤ n ∧ n ≤ 4611686018427387904) ∧ .int .i64 (File.sz x n) = r ∧ outs = [] := by
  unfold spSzFile at h
  simp only at h
  split at h
  · rename_i x' n
    simp only [Option.bind_eq_some_iff] at h
    obtain ⟨x, h_x, h⟩ := h
    split at h
    case isFalse => cases h
    rename_i hc
    simp only [Option.some.injEq, Prod.mk.injEq] at h
    obtain ⟨h1, h2⟩ := h
    have h_x := File.dec_some h_x
    subst h_x
    exact ⟨x, n, rfl, hc, h1, h2.symm⟩
  · cases h
def T_laws_szFile : Hints := ⟨fun _ => none, fun _ => none, fun i => if i = 0 then some [1, 2] else if i = 1 then some [1, 2] else if i = 2 then some [1, 2, 11] else if i = 3 then some [4] else if i = 4 then some [1] else if i = 5 then some [1, 18] else if i = 6 then some [4] else if i = 7 then some [4] else none, fun _ => none⟩
noncomputable def Phi_laws_szFile : Tab := fun f => none
attribute [go_sem] T_laws_szFile Phi_laws_szFile
theorem phi_laws_szFile : ∀ f sp, Phi_laws_szFile f = some sp → FnOk Tryz.prog f sp ∧ ∀ n ∈ sp.need, n ∈ ([] : List String) := by
  intro f sp h
  unfold Phi_laws_szFile at h
  cases h
theorem ok_laws_szFile : FnOk Tryz.prog 142 spSzFile := by
  refine fn_ok (Φ := Phi_laws_szFile) (T := T_laws_szFile) phi_laws_szFile mixed Tryz.func142 rfl rfl rfl (by decide) ?_
  intro ins r outs hr hl
  clear hl
  have hs := spSzFile_in hr
  clear hr
  obtain ⟨x, n, rfl, hc, hr, rfl⟩ := hs
  simp only [spSzFile, Tryz.f142, Go.VM.initS]
  obtain ⟨hc, h0, h1⟩ := hc
  obtain ⟨c0, c1⟩ := hc
  have c0 : x.Name.length ≤ 4611686018427387904 := c0
  have w0 : IntKind.i64.wrap (n - (x.Name.length : Int)) = (n - (x.Name.length : Int)) := wrap64 (by omega) (by omega)
  by_cases b0 : (n - (x.Name.length : Int)) < 0
  · simp only [w0, b0, go_sem]
    repeat' ((first | ((first | apply qa | apply qb | apply qc | apply qd | apply qe | apply qf | apply qg | apply qh | apply qi | apply qj | apply qk) <;> intro hp) | ((first | refine ql rfl rfl (by decide +kernel) ?_ | refine qm _ rfl rfl (by decide +kernel) ?_ | refine goes_opn rfl ?_ | refine goes_opnD rfl rfl (by decide +kernel) ?_) <;> have hp := True.intro)) <;> simp only [hp, w0, b0, go_sem])
    simp only [fin_mk, finV, resL, resV1, resIn, endA, listIn, Option.some_or, Option.none_or, oneOrTup, go_sem]
    rw [← hr]
    simp only [File.sz, thenSz, subSz, b0, if_true, if_false, Int.reduceNeg, Int.reduceLT]
  have a0 : 0 ≤ (n - (x.Name.length : Int)) := by omega
  have d0 : (n - (x.Name.length : Int)) ≤ 4611686018427387904 := by omega
  have c1 : x.Text.length ≤ 4611686018427387904 := c1
  have w1 : IntKind.i64.wrap ((n - (x.Name.length : Int)) - (x.Text.length : Int)) = ((n - (x.Name.length : Int)) - (x.Text.length : Int)) := wrap64 (by omega) (by omega)
  by_cases b1 : ((n - (x.Name.length : Int)) - (x.Text.length : Int)) < 0
  · simp only [w0, b0, w1, b1, go_sem]
    repeat' ((first | ((first | apply qa | apply qb | apply qc | apply qd | apply qe | apply qf | apply qg | apply qh | apply qi | apply qj | apply qk) <;> intro hp) | ((first | refine ql rfl rfl (by decide +kernel) ?_ | refine qm _ rfl rfl (by decide +kernel) ?_ | refine goes_opn rfl ?_ | refine goes_opnD rfl rfl (by decide +kernel) ?_) <;> have hp := True.intro)) <;> simp only [hp, w0, b0, w1, b1, go_sem])
    simp only [fin_mk, finV, resL, resV1, resIn, endA, listIn, Option.some_or, Option.none_or, oneOrTup, go_sem]
    rw [← hr]
    simp only [File.sz, thenSz, subSz, b0, b1, if_true, if_false, Int.reduceNeg, Int.reduceLT]
  have a1 : 0 ≤ ((n - (x.Name.length : Int)) - (x.Text.length : Int)) := by omega
  have d1 : ((n - (x.Name.length : Int)) - (x.Text.length : Int)) ≤ 4611686018427387904 := by omega
  simp only [w0, b0, w1, b1, go_sem]
  repeat' ((first | ((first | apply qa | apply qb | apply qc | apply qd | apply qe | apply qf | apply qg | apply qh | apply qi | apply qj | apply qk) <;> intro hp) | ((first | refine ql rfl rfl (by decide +kernel) ?_ | refine qm _ rfl rfl (by decide +kernel) ?_ | refine goes_opn rfl ?_ | refine goes_opnD rfl rfl (by decide +kernel) ?_) <;> have hp := True.intro)) <;> simp only [hp, w0, b0, w1, b1, go_sem])
  simp only [fin_mk, finV, resL, resV1, resIn, endA, listIn, Option.some_or, Option.none_or, oneOrTup, go_sem]
  rw [← hr]
  simp only [File.sz, thenSz, subSz, b0, b1, if_true, if_false]
open Classical in
noncomputable def spToFile : VM.Spec := { modes := [.rd], run := fun | [x'] => (File.dec x').bind fun x => some (File.enc x, []) | _ => none, need := [] }
attribute [go_sem] spToFile
theorem spToFile_in {ins : List V} {r : V} {outs : List V} (h : spToFile.run ins = some (r, outs)) : ∃ (x : File), ins = [File.enc x] ∧ File.enc x = r ∧ outs = [] := by
  unfold spToFile at h
  simp only at h
  split at h
  · rename_i x'
    simp only [Option.bind_eq_some_iff] at h
    obtain ⟨x, h_x, h⟩ := h
    simp only [Option.some.injEq, Prod.mk.injEq] at h
    obtain ⟨h1, h2⟩ := h
    have h_x := File.dec_some h_x
    subst h_x
    exact ⟨x, rfl, h1, h2.symm⟩
  · cases h
def T_laws_toFile : Hints := ⟨fun _ => none, fun _ => none, fun i => if i = 0 then some [1, 2] else if i = 1 then some [1, 2, 3] else if i = 2 then some [1, 2, 3] else if i = 3 then some [1, 2, 3] else if i = 4 then some [2, 3] else if i = 5 then some [2] else none, fun _ => none⟩
noncomputable def Phi_laws_toFile : Tab := fun f => none
attribute [go_sem] T_laws_toFile Phi_laws_toFile
theorem phi_laws_toFile : ∀ f sp, Phi_laws_toFile f = some sp → FnOk Tryz.prog f sp ∧ ∀ n ∈ sp.need, n ∈ ([] : List String) := by
  intro f sp h
  unfold Phi_laws_toFile at h
  cases h
theorem ok_laws_toFile : FnOk Tryz.prog 148 spToFile := by
  refine fn_ok (Φ := Phi_laws_toFile) (T := T_laws_toFile) phi_laws_toFile mixed Tryz.func148 rfl rfl rfl (by decide) ?_
  intro ins r outs hr hl
  clear hl
  have hs := spToFile_in hr
  clear hr
  obtain ⟨x, rfl, hr, rfl⟩ := hs
  simp only [spToFile, Tryz.f148, Go.VM.initS]
  simp only [go_sem]
  repeat' ((first | ((first | apply qa | apply qb | apply qc | apply qd | apply qe | apply qf | apply qg | apply qh | apply qi | apply qj | apply qk) <;> intro hp) | ((first | refine ql rfl rfl (by decide +kernel) ?_ | refine qm _ rfl rfl (by decide +kernel) ?_ | refine goes_opn rfl ?_ | refine goes_opnD rfl rfl (by decide +kernel) ?_) <;> have hp := True.intro)) <;> simp only [hp, go_sem])
  simp only [fin_mk, finV, resL, resV1, resIn, endA, listIn, Option.some_or, Option.none_or, oneOrTup, go_sem]
  rw [← hr]
  rfl
open Classical in
noncomputable def spEqFile : VM.Spec := { modes := [.rd, .rd], run := fun | [x', y'] => (File.dec x').bind fun x => (File.dec y').bind fun y => some (.bool (decide (x = y)), []) | _ => none, need := [] }
attribute [go_sem] spEqFile
theorem spEqFile_in {ins : List V} {r : V} {outs : List V} (h : spEqFile.run ins = some (r, outs)) : ∃ (x : File) (y : File), ins = [File.enc x, File.enc y] ∧ .bool (decide (x = y)) = r ∧ outs = [] := by
  unfold spEqFile at h
  simp only at h
  split at h
  · rename_i x' y'
    simp only [Option.bind_eq_some_iff] at h
    obtain ⟨x, h_x, y, h_y, h⟩ := h
    simp only [Option.some.injEq, Prod.mk.injEq] at h
    obtain ⟨h1, h2⟩ := h
    have h_x := File.dec_some h_x
    subst h_x
    have h_y := File.dec_some h_y
    subst h_y
    exact ⟨x, y, rfl, h1, h2.symm⟩
  · cases h
def T_laws_eqFile : Hints := ⟨fun _ => none, fun _ => none, fun i => if i = 0 then some [2, 3] else if i = 1 then some [2, 3, 9] else if i = 2 then some [4] else if i = 3 then some [2, 3, 14] else if i = 4 then some [4] else if i = 5 then some [19] else if i = 6 then some [4] else if i = 7 then some [4] else none, fun _ => none⟩
noncomputable def Phi_laws_eqFile : Tab := fun f => none
attribute [go_sem] T_laws_eqFile Phi_laws_eqFile
theorem phi_laws_eqFile : ∀ f sp, Phi_laws_eqFile f = some sp → FnOk Tryz.prog f sp ∧ ∀ n ∈ sp.need, n ∈ ([] : List String) := by
  intro f sp h
  unfold Phi_laws_eqFile at h
  cases h
theorem ok_laws_eqFile : FnOk Tryz.prog 152 spEqFile := by
  refine fn_ok (Φ := Phi_laws_eqFile) (T := T_laws_eqFile) phi_laws_eqFile mixed Tryz.func152 rfl rfl rfl (by decide) ?_
  intro ins r outs hr hl
  clear hl
  have hs := spEqFile_in hr
  clear hr
  obtain ⟨x, y, rfl, hr, rfl⟩ := hs
  simp only [spEqFile, Tryz.f152, Go.VM.initS]
  simp only [and_self, go_sem]
  repeat' ((first | ((first | apply qa | apply qb | apply qc | apply qd | apply qe | apply qf | apply qg | apply qh | apply qi | apply qj | apply qk) <;> intro hp) | ((first | refine ql rfl rfl (by decide +kernel) ?_ | refine qm _ rfl rfl (by decide +kernel) ?_ | refine goes_opn rfl ?_ | refine goes_opnD rfl rfl (by decide +kernel) ?_) <;> have hp := True.intro)) <;> simp only [hp, and_self, go_sem])
  all_goals (simp only [fin_mk, finV, resL, resV1, resIn, endA, listIn, Option.some_or, Option.none_or, oneOrTup, go_sem]; rw [← hr])
  all_goals (cases x; cases y; simp_all)
open Classical in
noncomputable def spSzFileS : VM.Spec := { modes := [.rd, .rd], run := fun | [.lst 3 l', .int .i64 n] => (decL File.dec l').bind fun l => if leL File.le 4611686018427387904 l ∧ 0 ≤ n ∧ n ≤ 4611686018427387904 then some (.int .i64 (szLL File.sz l n), []) else none | _ => none, need := [] }
attribute [go_sem] spSzFileS
theorem spSzFileS_in {ins : List V} {r : V} {outs : List V} (h : spSzFileS.run ins = some (r, outs)) : ∃ (l : (List File)) (n : Int), ins = [.lst 3 ((l).map File.enc), .int .i64 n] ∧ (leL File.le 4611686018427387904 l ∧ 0 ≤ n ∧ n ≤ 4611686018427387904) ∧ .int .i64 (szLL File.sz l n) = r ∧ outs = [] := by
  unfold spSzFileS at h
  simp only at h
  split at h
  · rename_i l' n
    simp only [Option.bind_eq_some_iff] at h
    obtain ⟨l, h_l, h⟩ := h
    split at h
    case isFalse => cases h
    rename_i hc
    simp only [Option.some.injEq, Prod.mk.injEq] at h
    obtain ⟨h1, h2⟩ := h
    have h_l := decL_some (fun _ _ h => File.dec_some h) h_l
    subst h_l
    exact ⟨l, n, rfl, hc, h1, h2.symm⟩
  · cases h
def T_laws_szFileS : Hints := ⟨fun _ => none, fun i => if i = 5 then some [0, 1, 5] else none, fun i => if i = 0 then some [0, 1] else if i = 1 then some [0, 1] else if i = 2 then some [0, 1, 11] else if i = 3 then some [4] else if i = 4 then some [0, 1, 5] else if i = 5 then some [0, 1, 5, 15] else if i = 7 then some [0, 1, 5] else if i = 8 then some [0, 1, 5, 25] else if i = 9 then some [4] else if i = 6 then some [0, 1, 5] else if i = 10 then some [4] else none, fun _ => none⟩
noncomputable def Phi_laws_szFileS : Tab := fun f => if f = 142 then some spSzFile else none
attribute [go_sem] T_laws_szFileS Phi_laws_szFileS
theorem phi_laws_szFileS : ∀ f sp, Phi_laws_szFileS f = some sp → FnOk Tryz.prog f sp ∧ ∀ n ∈ sp.need, n ∈ ([] : List String) := by
  intro f sp h
  unfold Phi_laws_szFileS at h
  by_cases e : f = 142
  · rw [if_pos e] at h; cases h; rw [e]; exact ⟨ok_laws_szFile, (fun n (h : n ∈ ([] : List String)) => (nomatch h))⟩
  rw [if_neg e] at h
  cases h
theorem ok_laws_szFileS : FnOk Tryz.prog 81 spSzFileS := by
  refine fn_ok (Φ := Phi_laws_szFileS) (T := T_laws_szFileS) phi_laws_szFileS mixed Tryz.func81 rfl rfl rfl (by decide) ?_
  intro ins r outs hr hl
  clear hl
  have hs := spSzFileS_in hr
  clear hr
  obtain ⟨l, n, rfl, hc, hr, rfl⟩ := hs
  simp only [spSzFileS, Tryz.f81, Go.VM.initS]
  obtain ⟨⟨hc, hd⟩, h0, h1⟩ := hc
  have w : IntKind.i64.wrap (n - (l.length : Int)) = n - l.length := wrap64 (by omega) (by omega)
  by_cases b : n - (l.length : Int) < 0
  · simp only [w, b, go_sem]
    repeat' ((first | ((first | apply qa | apply qb | apply qc | apply qd | apply qe | apply qf | apply qg | apply qh | apply qi | apply qj | apply qk) <;> intro hp) | ((first | refine ql rfl rfl (by decide +kernel) ?_ | refine qm _ rfl rfl (by decide +kernel) ?_ | refine goes_opn rfl ?_ | refine goes_opnD rfl rfl (by decide +kernel) ?_) <;> have hp := True.intro)) <;> simp only [hp, w, b, go_sem])
    simp only [fin_mk, finV, resL, resV1, resIn, endA, listIn, Option.some_or, Option.none_or, oneOrTup, go_sem]
    rw [← hr]
    simp only [szLL, thenSz, subSz, b, if_true, Int.reduceNeg, Int.reduceLT]
  simp only [w, b, go_sem]
  refine loop_go (fun p : Nat × Int => [(1, .int .i64 p.2), (5, .int .i64 (p.1 : Int))]) (fun _ => []) (fun p => l.length - p.1) (fun p => p.1 ≤ l.length ∧ p.2 = szL File.sz (l.take p.1) (n - l.length) ∧ 0 ≤ p.2 ∧ p.2 ≤ 4611686018427387904) (0, n - l.length) ⟨Nat.zero_le _, rfl, by simp only; omega, by simp only; omega⟩ rfl rfl ?_
  rintro ⟨i, m⟩ ⟨hi, hm, m0, m1⟩ ih
  simp only at hi hm m0 m1 ih
  have hsz : File.sz = File.sz := rfl
  have hend : szLL File.sz l n = szL File.sz l (n - l.length) := by simp only [szLL, thenSz, subSz, b, if_false]
  rcases Nat.lt_or_ge i l.length with h | h
  · have g1 : (i : Int) < l.length := by omega
    have g2 : (0 : Int) ≤ i := by omega
    have g3 : l[i]? = some l[i] := List.getElem?_eq_getElem h
    have g5 := wrap_succ h hc
    have gx : l[i].le 4611686018427387904 := hd _ (List.getElem_mem h)
    rcases File.sz_ok l[i] m 4611686018427387904 m0 m1 with e | ⟨e1, e2, -⟩
    · simp only [g1, g2, g3, g5, gx, m0, m1, e, go_sem]
      repeat' ((first | ((first | apply qa | apply qb | apply qc | apply qd | apply qe | apply qf | apply qg | apply qh | apply qi | apply qj | apply qk) <;> intro hp) | ((first | refine ql rfl rfl (by decide +kernel) ?_ | refine qm _ rfl rfl (by decide +kernel) ?_ | refine goes_opn rfl ?_ | refine goes_opnD rfl rfl (by decide +kernel) ?_) <;> have hp := True.intro)) <;> simp only [hp, g1, g2, g3, g5, gx, m0, m1, e, go_sem])
      simp only [fin_mk, finV, resL, resV1, resIn, endA, listIn, Option.some_or, Option.none_or, oneOrTup, go_sem]
      rw [← hr]
      rw [hend, szL_bad l i _ h (by rw [← hm]; exact m0) (by rw [← hm, e]; decide)]
    · have e3 : ¬ File.sz l[i] m < 0 := by omega
      simp only [g1, g2, g3, g5, gx, m0, m1, e3, go_sem]
      repeat' ((first | ((first | apply qa | apply qb | apply qc | apply qd | apply qe | apply qf | apply qg | apply qh | apply qi | apply qj | apply qk) <;> intro hp) | ((first | refine ql rfl rfl (by decide +kernel) ?_ | refine qm _ rfl rfl (by decide +kernel) ?_ | refine goes_opn rfl ?_ | refine goes_opnD rfl rfl (by decide +kernel) ?_) <;> have hp := True.intro)) <;> simp only [hp, g1, g2, g3, g5, gx, m0, m1, e3, go_sem])
      refine ih (i + 1, File.sz l[i] m) ⟨h, ?_, e1, by simp only; omega⟩ (by simp only; omega)
      have key := szL_take (f := File.sz) l i (n - l.length) h (fun k hk => ?_) (by rw [← hm]; exact m0) (by omega)
      · rw [key, hm]
      · exact File.sz_neg _ _ hk
  · have g1 : ¬ (i : Int) < l.length := by omega
    simp only [g1, go_sem]
    simp only [fin_mk, finV, resL, resV1, resIn, endA, listIn, Option.some_or, Option.none_or, oneOrTup, go_sem]
    rw [← hr]
    rw [hend, hm, List.take_of_length_le h]
open Classical in
noncomputable def spToFileS : VM.Spec := { modes := [.rd], run := fun | [.lst 3 l'] => (decL File.dec l').bind fun l => if l.length ≤ 4194304 then some (.lst 3 ((l).map File.enc), []) else none | _ => none, need := [] }
attribute [go_sem] spToFileS
theorem spToFileS_in {ins : List V} {r : V} {outs : List V} (h : spToFileS.run ins = some (r, outs)) : ∃ (l : (List File)), ins = [.lst 3 ((l).map File.enc)] ∧ (l.length ≤ 4194304) ∧ .lst 3 ((l).map File.enc) = r ∧ outs = [] := by
  unfold spToFileS at h
  simp only at h
  split at h
  · rename_i l'
    simp only [Option.bind_eq_some_iff] at h
    obtain ⟨l, h_l, h⟩ := h
    split at h
    case isFalse => cases h
    rename_i hc
    simp only [Option.some.injEq, Prod.mk.injEq] at h
    obtain ⟨h1, h2⟩ := h
    have h_l := decL_some (fun _ _ h => File.dec_some h) h_l
    subst h_l
    exact ⟨l, rfl, hc, h1, h2.symm⟩
  · cases h
def T_laws_toFileS : Hints := ⟨fun _ => none, fun i => if i = 3 then some [0, 3, 4] else none, fun i => if i = 0 then some [0] else if i = 1 then some [0, 3] else if i = 2 then some [0, 3, 4] else if i = 3 then some [0, 3, 4, 11] else if i = 5 then some [0, 3, 4] else if i = 4 then some [0, 3, 4] else if i = 6 then some [2] else none, fun _ => none⟩
noncomputable def Phi_laws_toFileS : Tab := fun f => if f = 148 then some spToFile else none
attribute [go_sem] T_laws_toFileS Phi_laws_toFileS
theorem phi_laws_toFileS : ∀ f sp, Phi_laws_toFileS f = some sp → FnOk Tryz.prog f sp ∧ ∀ n ∈ sp.need, n ∈ ([] : List String) := by
  intro f sp h
  unfold Phi_laws_toFileS at h
  by_cases e : f = 148
  · rw [if_pos e] at h; cases h; rw [e]; exact ⟨ok_laws_toFile, (fun n (h : n ∈ ([] : List String)) => (nomatch h))⟩
  rw [if_neg e] at h
  cases h
theorem ok_laws_toFileS : FnOk Tryz.prog 86 spToFileS := by
  refine fn_ok (Φ := Phi_laws_toFileS) (T := T_laws_toFileS) phi_laws_toFileS mixed Tryz.func86 rfl rfl rfl (by decide) ?_
  intro ins r outs hr hl
  clear hl
  have hs := spToFileS_in hr
  clear hr
  obtain ⟨l, rfl, hc, hr, rfl⟩ := hs
  simp only [spToFileS, Tryz.f86, Go.VM.initS]
  have h1 : (l.length : Int) ≤ 9223372036854775807 := by omega
  have h2 : (l.length : Int) * 40 ≤ 140737488355328 := by omega
  have h3 : (0 : Int) ≤ l.length := by omega
  simp only [h1, h2, h3, Int.cast_ofNat_Int, go_sem]
  refine loop_go (fun p : Nat × List V => [(4, .int .i64 (p.1 : Int))]) (fun p => [(0, ⟨.arr, 3, p.2⟩)]) (fun p => l.length - p.1) (fun p => p.1 ≤ l.length ∧ p.2 = (l.take p.1).map File.enc ++ List.replicate (l.length - p.1) (.agg [.str [], .str [], .int .i64 0])) (0, List.replicate l.length (.agg [.str [], .str [], .int .i64 0])) ⟨Nat.zero_le _, by simp⟩ rfl rfl ?_
  rintro ⟨i, els⟩ ⟨hi, hels⟩ ih
  simp only at hi hels ih
  have hlen : els.length = l.length := by rw [hels]; simp; omega
  rcases Nat.lt_or_ge i l.length with h | h
  · have g1 : (i : Int) < l.length := by omega
    have g2 : (0 : Int) ≤ i := by omega
    have g3 : l[i]? = some l[i] := List.getElem?_eq_getElem h
    have g4 : els[i]? = some (els[i]'(by omega)) := List.getElem?_eq_getElem (by omega)
    have g5 := wrap_succ h (by omega)
    skip
    simp only [g1, g2, g3, g4, g5, hlen, go_sem]
    repeat' ((first | ((first | apply qa | apply qb | apply qc | apply qd | apply qe | apply qf | apply qg | apply qh | apply qi | apply qj | apply qk) <;> intro hp) | ((first | refine ql rfl rfl (by decide +kernel) ?_ | refine qm _ rfl rfl (by decide +kernel) ?_ | refine goes_opn rfl ?_ | refine goes_opnD rfl rfl (by decide +kernel) ?_) <;> have hp := True.intro)) <;> simp only [hp, g1, g2, g3, g4, g5, hlen, go_sem])
    refine ih (i + 1, els.set i (.agg [.str l[i].Name, .str l[i].Text, .int .i64 l[i].Kept])) ⟨h, ?_⟩ (by simp only; omega)
    simp only
    rw [hels]
    exact fill_step _ h rfl
  · have g1 : ¬ (i : Int) < l.length := by omega
    simp only [g1, go_sem]
    simp only [fin_mk, finV, resL, resV1, resIn, endA, listIn, Option.some_or, Option.none_or, oneOrTup, go_sem]
    rw [← hr, hels, List.take_of_length_le h, show l.length - i = 0 by omega]
    simp
open Classical in
noncomputable def spEqFileS : VM.Spec := { modes := [.rd, .rd], run := fun | [.lst 3 x', .lst 3 y'] => (decL File.dec x').bind fun x => (decL File.dec y').bind fun y => if x.length ≤ 4194304 ∧ y.length ≤ 4194304 then some (.bool (decide (x = y)), []) else none | _ => none, need := [] }
attribute [go_sem] spEqFileS
theorem spEqFileS_in {ins : List V} {r : V} {outs : List V} (h : spEqFileS.run ins = some (r, outs)) : ∃ (x : (List File)) (y : (List File)), ins = [.lst 3 ((x).map File.enc), .lst 3 ((y).map File.enc)] ∧ (x.length ≤ 4194304 ∧ y.length ≤ 4194304) ∧ .bool (decide (x = y)) = r ∧ outs = [] := by
  unfold spEqFileS at h
  simp only at h
  split at h
  · rename_i x' y'
    simp only [Option.bind_eq_some_iff] at h
    obtain ⟨x, h_x, y, h_y, h⟩ := h
    split at h
    case isFalse => cases h
    rename_i hc
    simp only [Option.some.injEq, Prod.mk.injEq] at h
    obtain ⟨h1, h2⟩ := h
    have h_x := decL_some (fun _ _ h => File.dec_some h) h_x
    subst h_x
    have h_y := decL_some (fun _ _ h => File.dec_some h) h_y
    subst h_y
    exact ⟨x, y, rfl, hc, h1, h2.symm⟩
  · cases h
def T_laws_eqFileS : Hints := ⟨fun i => if i = 6 then some [] else none, fun i => if i = 4 then some [0, 1, 5] else none, fun i => if i = 0 then some [0, 1] else if i = 1 then some [0, 1, 10] else if i = 2 then some [4] else if i = 3 then some [0, 1, 5] else if i = 4 then some [0, 1, 5, 14] else if i = 6 then some [0, 1, 5, 26] else if i = 7 then some [4] else if i = 5 then some [0, 1, 5] else if i = 8 then some [4] else none, fun _ => none⟩
noncomputable def Phi_laws_eqFileS : Tab := fun f => if f = 152 then some spEqFile else none
attribute [go_sem] T_laws_eqFileS Phi_laws_eqFileS
theorem phi_laws_eqFileS : ∀ f sp, Phi_laws_eqFileS f = some sp → FnOk Tryz.prog f sp ∧ ∀ n ∈ sp.need, n ∈ ([] : List String) := by
  intro f sp h
  unfold Phi_laws_eqFileS at h
  by_cases e : f = 152
  · rw [if_pos e] at h; cases h; rw [e]; exact ⟨ok_laws_eqFile, (fun n (h : n ∈ ([] : List String)) => (nomatch h))⟩
  rw [if_neg e] at h
  cases h
theorem ok_laws_eqFileS : FnOk Tryz.prog 92 spEqFileS := by
  refine fn_ok (Φ := Phi_laws_eqFileS) (T := T_laws_eqFileS) phi_laws_eqFileS mixed Tryz.func92 rfl rfl rfl (by decide) ?_
  intro ins r outs hr hl
  clear hl
  have hs := spEqFileS_in hr
  clear hr
  obtain ⟨x, y, rfl, hc, hr, rfl⟩ := hs
  simp only [spEqFileS, Tryz.f92, Go.VM.initS]
  obtain ⟨hx, hy⟩ := hc
  by_cases hl : x.length = y.length
  case neg =>
    have g : ((x.length : Int) == y.length) = false := by rw [beq_eq_false_iff_ne]; omega
    have g' : ((x.length : Int) != y.length) = true := by rw [bne_iff_ne]; omega
    have hne : x ≠ y := fun e => hl (by rw [e])
    simp only [g, g', go_sem]
    repeat' ((first | ((first | apply qa | apply qb | apply qc | apply qd | apply qe | apply qf | apply qg | apply qh | apply qi | apply qj | apply qk) <;> intro hp) | ((first | refine ql rfl rfl (by decide +kernel) ?_ | refine qm _ rfl rfl (by decide +kernel) ?_ | refine goes_opn rfl ?_ | refine goes_opnD rfl rfl (by decide +kernel) ?_) <;> have hp := True.intro)) <;> simp only [hp, g, g', go_sem])
    simp only [fin_mk, finV, resL, resV1, resIn, endA, listIn, Option.some_or, Option.none_or, oneOrTup, go_sem]
    rw [← hr]
    simp only [hne, decide_false]
  have hl' : (x.length : Int) = y.length := by omega
  simp only [hl, bne_self_eq_false, go_sem]
  repeat' ((first | ((first | apply qa | apply qb | apply qc | apply qd | apply qe | apply qf | apply qg | apply qh | apply qi | apply qj | apply qk) <;> intro hp) | ((first | refine ql rfl rfl (by decide +kernel) ?_ | refine qm _ rfl rfl (by decide +kernel) ?_ | refine goes_opn rfl ?_ | refine goes_opnD rfl rfl (by decide +kernel) ?_) <;> have hp := True.intro)) <;> simp only [hp, hl, bne_self_eq_false, go_sem])
  refine loop_go (fun i : Nat => [(5, .int .i64 (i : Int))]) (fun _ => []) (fun i => x.length - i) (fun i => i ≤ x.length ∧ x.take i = y.take i) 0 ⟨Nat.zero_le _, by simp⟩ rfl rfl ?_
  intro i ⟨hi, he⟩ ih
  rcases Nat.lt_or_ge i x.length with h | h
  · have g1 : (i : Int) < x.length := by omega
    have g1' : (i : Int) < y.length := by omega
    have g2 : (0 : Int) ≤ i := by omega
    have g3 : x[i]? = some x[i] := List.getElem?_eq_getElem h
    have g4 : y[i]? = some (y[i]'(by omega)) := List.getElem?_eq_getElem (by omega)
    have g5 := wrap_succ h (by omega)
    skip
    by_cases hv : x[i] = (y[i]'(by omega))
    · simp only [g1, g1', g2, g3, g4, g5, hv, go_sem]
      repeat' ((first | ((first | apply qa | apply qb | apply qc | apply qd | apply qe | apply qf | apply qg | apply qh | apply qi | apply qj | apply qk) <;> intro hp) | ((first | refine ql rfl rfl (by decide +kernel) ?_ | refine qm _ rfl rfl (by decide +kernel) ?_ | refine goes_opn rfl ?_ | refine goes_opnD rfl rfl (by decide +kernel) ?_) <;> have hp := True.intro)) <;> simp only [hp, g1, g1', g2, g3, g4, g5, hv, go_sem])
      exact ih (i + 1) ⟨h, by rw [List.take_add_one, List.take_add_one, he, g3, g4, hv]⟩ (by omega)
    · have hne : x ≠ y := by rintro rfl; exact hv rfl
      have hv1 : (x[i] == (y[i]'(by omega))) = false := by rw [beq_eq_false_iff_ne]; exact hv
      have hv2 : (x[i] != (y[i]'(by omega))) = true := by rw [bne_iff_ne]; exact hv
      simp only [g1, g1', g2, g3, g4, g5, hv, hv1, hv2, go_sem]
      repeat' ((first | ((first | apply qa | apply qb | apply qc | apply qd | apply qe | apply qf | apply qg | apply qh | apply qi | apply qj | apply qk) <;> intro hp) | ((first | refine ql rfl rfl (by decide +kernel) ?_ | refine qm _ rfl rfl (by decide +kernel) ?_ | refine goes_opn rfl ?_ | refine goes_opnD rfl rfl (by decide +kernel) ?_) <;> have hp := True.intro)) <;> simp only [hp, g1, g1', g2, g3, g4, g5, hv, hv1, hv2, go_sem])
      simp only [fin_mk, finV, resL, resV1, resIn, endA, listIn, Option.some_or, Option.none_or, oneOrTup, go_sem]
      rw [← hr]
      simp only [hne, decide_false]
  · have g1 : ¬ (i : Int) < x.length := by omega
    have g1' : ¬ (i : Int) < y.length := by omega
    simp only [g1, g1', go_sem]
    simp only [fin_mk, finV, resL, resV1, resIn, endA, listIn, Option.some_or, Option.none_or, oneOrTup, go_sem]
    rw [← hr]
    rw [List.take_of_length_le h, List.take_of_length_le (by omega)] at he
    simp only [he, decide_true]
open Classical in
noncomputable def spMarkFileS : VM.Spec := { modes := [.io, .rd], run := fun | [.lst 3 l', .int .i64 k] => (decL File.dec l').bind fun l => if l.length ≤ 4194304 ∧ 0 ≤ k ∧ k ≤ 1152921504606846976 then some (.int .i64 ((markL meFile l k).2), [.lst 3 (((markL meFile l k).1).map File.enc)]) else none | _ => none, need := [] }
attribute [go_sem] spMarkFileS
theorem spMarkFileS_in {ins : List V} {r : V} {outs : List V} (h : spMarkFileS.run ins = some (r, outs)) : ∃ (l : (List File)) (k : Int), ins = [.lst 3 ((l).map File.enc), .int .i64 k] ∧ (l.length ≤ 4194304 ∧ 0 ≤ k ∧ k ≤ 1152921504606846976) ∧ .int .i64 ((markL meFile l k).2) = r ∧ outs = [.lst 3 (((markL meFile l k).1).map File.enc)] := by
  unfold spMarkFileS at h
  simp only at h
  split at h
  · rename_i l' k
    simp only [Option.bind_eq_some_iff] at h
    obtain ⟨l, h_l, h⟩ := h
    split at h
    case isFalse => cases h
    rename_i hc
    simp only [Option.some.injEq, Prod.mk.injEq] at h
    obtain ⟨h1, h2⟩ := h
    have h_l := decL_some (fun _ _ h => File.dec_some h) h_l
    subst h_l
    exact ⟨l, k, rfl, hc, h1, h2.symm⟩
  · cases h
def T_laws_markFileS : Hints := ⟨fun _ => none, fun i => if i = 2 then some [0, 1, 5] else none, fun i => if i = 0 then some [0, 1] else if i = 1 then some [0, 1, 5] else if i = 2 then some [0, 1, 5, 9] else if i = 4 then some [0, 1, 5] else if i = 5 then some [0, 1, 5] else if i = 6 then some [0, 1, 5] else if i = 7 then some [0, 1, 5] else if i = 8 then some [0, 1, 5] else if i = 9 then some [0, 1, 5] else if i = 3 then some [0, 1, 5] else if i = 10 then some [4] else none, fun _ => none⟩
noncomputable def Phi_laws_markFileS : Tab := fun f => if f = 95 then some spMarkText else none
attribute [go_sem] T_laws_markFileS Phi_laws_markFileS
theorem phi_laws_markFileS : ∀ f sp, Phi_laws_markFileS f = some sp → FnOk Tryz.prog f sp ∧ ∀ n ∈ sp.need, n ∈ ([] : List String) := by
  intro f sp h
  unfold Phi_laws_markFileS at h
  by_cases e : f = 95
  · rw [if_pos e] at h; cases h; rw [e]; exact ⟨ok_laws_markText, (fun n (h : n ∈ ([] : List String)) => (nomatch h))⟩
  rw [if_neg e] at h
  cases h
theorem ok_laws_markFileS : FnOk Tryz.prog 94 spMarkFileS := by
  refine fn_ok (Φ := Phi_laws_markFileS) (T := T_laws_markFileS) phi_laws_markFileS mixed Tryz.func94 rfl rfl rfl (by decide) ?_
  intro ins r outs hr hl
  clear hl
  have hs := spMarkFileS_in hr
  clear hr
  obtain ⟨l, k, rfl, hc, hr, rfl⟩ := hs
  simp only [spMarkFileS, Tryz.f94, Go.VM.initS]
  obtain ⟨hc, h0, h1⟩ := hc
  simp only [go_sem]
  refine loop_go (fun p : Nat × List V × Int => [(1, .int .i64 p.2.2), (5, .int .i64 (p.1 : Int))]) (fun p => [(0, ⟨.arr, 3, p.2.1⟩)]) (fun p => l.length - p.1) (fun p => p.1 ≤ l.length ∧ p.2.1 = ((markL meFile (l.take p.1) k).1 ++ l.drop p.1).map File.enc ∧ p.2.2 = (markL meFile (l.take p.1) k).2 ∧ p.2.2 = k + (3 : Nat) * p.1) (0, l.map File.enc, k) ⟨Nat.zero_le _, by simp [markL], rfl, by simp⟩ rfl rfl ?_
  rintro ⟨i, els, k'⟩ ⟨hi, he, hk, hb⟩ ih
  simp only at hi he hk hb ih
  rcases Nat.lt_or_ge i l.length with h | h
  · have g1 : (i : Int) < l.length := by omega
    have g2 : (0 : Int) ≤ i := by omega
    obtain ⟨g3, gl, gs, gk⟩ := mark_round h he
    rw [← hk] at gs gk
    have g5 := wrap_succ h (by omega)
    have j0 : k' ≤ 4611686018427387904 := by omega
    have w0 : IntKind.i64.wrap (k' + 1) = k' + 1 := wrap64 (by omega) (by omega)
    have w1 : IntKind.i64.wrap (k' + 1 + 1) = k' + 1 + 1 := wrap64 (by omega) (by omega)
    have w2 : IntKind.i64.wrap (k' + 1 + 1 + 1) = k' + 1 + 1 + 1 := wrap64 (by omega) (by omega)
    have j1 : k' + 1 ≤ 4611686018427387904 := by omega
    have j2 : k' + 1 + 1 ≤ 4611686018427387904 := by omega
    have j3 : k' + 1 + 1 + 1 ≤ 4611686018427387904 := by omega
    rw [File.enc] at g3
    have gi : i < els.length := by omega
    simp only [g1, g2, g3, gl, g5, h, w0, w1, w2, j0, j1, j2, j3, List.getElem?_set_self, List.length_set, List.set_set, go_sem]
    repeat' ((first | ((first | apply qa | apply qb | apply qc | apply qd | apply qe | apply qf | apply qg | apply qh | apply qi | apply qj | apply qk) <;> intro hp) | ((first | refine ql rfl rfl (by decide +kernel) ?_ | refine qm _ rfl rfl (by decide +kernel) ?_ | refine goes_opn rfl ?_ | refine goes_opnD rfl rfl (by decide +kernel) ?_) <;> have hp := True.intro)) <;> simp only [hp, g1, g2, g3, gl, g5, h, w0, w1, w2, j0, j1, j2, j3, List.getElem?_set_self, List.length_set, List.set_set, go_sem])
    refine ih (i + 1, els.set i (File.enc (meFile l[i] k').1), (meFile l[i] k').2) ⟨h, gs, gk, by simp only [meFile]; omega⟩ (by simp only; omega)
  · have g1 : ¬ (i : Int) < l.length := by omega
    have gl : els.length = l.length := by rw [he]; simp [markL_len]; omega
    simp only [g1, gl, go_sem]
    simp only [fin_mk, finV, resL, resV1, resIn, endA, listIn, Option.some_or, Option.none_or, oneOrTup, go_sem]
    rw [← hr, he, hk, List.take_of_length_le h, List.drop_of_length_le h, List.append_nil]
open Classical in
noncomputable def spSzDisk : VM.Spec := { modes := [.rd, .rd], run := fun | [x', .int .i64 n] => (Disk.dec x').bind fun x => if x.le 4611686018427387904 ∧ 0 ≤ n ∧ n ≤ 4611686018427387904 then some (.int .i64 (Disk.sz x n), []) else none | _ => none, need := [] }
attribute [go_sem] spSzDisk
theorem spSzDisk_in {ins : List V} {r : V} {outs : List V} (h : spSzDisk.run ins = some (r, outs)) : ∃ (x : Disk) (n : Int), ins = [Disk.enc x, .int .i64 n] ∧ (x.le 4611686018427387904 ∧ 0 ≤ n ∧ n ≤ 4611686018427387904) ∧ .int .i64 (Disk.sz x n) = r ∧ outs = [] := by
  unfold spSzDisk at h
  simp only at h
  split at h
  · rename_i x' n
    simp only [Option.bind_eq_some_iff] at h
    obtain ⟨x, h_x, h⟩ := h
    split at h
    case isFalse => cases h
    rename_i hc
    simp only [Option.some.injEq, Prod.mk.injEq] at h
    obtain ⟨h1, h2⟩ := h
    have h_x := Disk.dec_some h_x
    subst h_x
    exact ⟨x, n, rfl, hc, h1, h2.symm⟩
  · cases h
def T_laws_szDisk : Hints := ⟨fun _ => none, fun _ => none, fun i => if i = 0 then some [1, 2] else if i = 1 then some [1] else if i = 2 then some [1, 10] else if i = 3 then some [4] else if i = 4 then some [4] else none, fun _ => none⟩
noncomputable def Phi_laws_szDisk : Tab := fun f => if f = 81 then some spSzFileS else none
attribute [go_sem] T_laws_szDisk Phi_laws_szDisk
theorem phi_laws_szDisk : ∀ f sp, Phi_laws_szDisk f = some sp → FnOk Tryz.prog f sp ∧ ∀ n ∈ sp.need, n ∈ ([] : List String) := by
  intro f sp h
  unfold Phi_laws_szDisk at h
  by_cases e : f = 81
  · rw [if_pos e] at h; cases h; rw [e]; exact ⟨ok_laws_szFileS, (fun n (h : n ∈ ([] : List String)) => (nomatch h))⟩
  rw [if_neg e] at h
  cases h
theorem ok_laws_szDisk : FnOk Tryz.prog 24 spSzDisk := by
  refine fn_ok (Φ := Phi_laws_szDisk) (T := T_laws_szDisk) phi_laws_szDisk mixed Tryz.func24 rfl rfl rfl (by decide) ?_
  intro ins r outs hr hl
  clear hl
  have hs := spSzDisk_in hr
  clear hr
  obtain ⟨x, n, rfl, hc, hr, rfl⟩ := hs
  simp only [spSzDisk, Tryz.f24, Go.VM.initS]
  obtain ⟨hc, h0, h1⟩ := hc
  have c0 := hc
  have c0 : leL File.le 4611686018427387904 x.Files := c0
  rcases (szLL_ok File.sz_ok) x.Files n 4611686018427387904 h0 h1 with e | ⟨a0, d0, -⟩
  · simp only [c0, h0, h1, e, go_sem]
    repeat' ((first | ((first | apply qa | apply qb | apply qc | apply qd | apply qe | apply qf | apply qg | apply qh | apply qi | apply qj | apply qk) <;> intro hp) | ((first | refine ql rfl rfl (by decide +kernel) ?_ | refine qm _ rfl rfl (by decide +kernel) ?_ | refine goes_opn rfl ?_ | refine goes_opnD rfl rfl (by decide +kernel) ?_) <;> have hp := True.intro)) <;> simp only [hp, c0, h0, h1, e, go_sem])
    simp only [fin_mk, finV, resL, resV1, resIn, endA, listIn, Option.some_or, Option.none_or, oneOrTup, go_sem]
    rw [← hr]
    simp only [Disk.sz, thenSz, subSz, e, if_true, if_false, Int.reduceNeg, Int.reduceLT]
  have b0 : ¬ ((szLL File.sz) x.Files n) < 0 := Int.not_lt.2 a0
  have d0 : ((szLL File.sz) x.Files n) ≤ 4611686018427387904 := Int.le_trans d0 h1
  simp only [c0, h0, h1, b0, go_sem]
  repeat' ((first | ((first | apply qa | apply qb | apply qc | apply qd | apply qe | apply qf | apply qg | apply qh | apply qi | apply qj | apply qk) <;> intro hp) | ((first | refine ql rfl rfl (by decide +kernel) ?_ | refine qm _ rfl rfl (by decide +kernel) ?_ | refine goes_opn rfl ?_ | refine goes_opnD rfl rfl (by decide +kernel) ?_) <;> have hp := True.intro)) <;> simp only [hp, c0, h0, h1, b0, go_sem])
  simp only [fin_mk, finV, resL, resV1, resIn, endA, listIn, Option.some_or, Option.none_or, oneOrTup, go_sem]
  rw [← hr]
  simp only [Disk.sz, thenSz, subSz, b0, if_true, if_false]
open Classical in
noncomputable def spToDisk : VM.Spec := { modes := [.rd], run := fun | [x'] => (Disk.dec x').bind fun x => if x.le 4194304 then some (Disk.enc x, []) else none | _ => none, need := [] }
attribute [go_sem] spToDisk
theorem spToDisk_in {ins : List V} {r : V} {outs : List V} (h : spToDisk.run ins = some (r, outs)) : ∃ (x : Disk), ins = [Disk.enc x] ∧ (x.le 4194304) ∧ Disk.enc x = r ∧ outs = [] := by
  unfold spToDisk at h
  simp only at h
  split at h
  · rename_i x'
    simp only [Option.bind_eq_some_iff] at h
    obtain ⟨x, h_x, h⟩ := h
    split at h
    case isFalse => cases h
    rename_i hc
    simp only [Option.some.injEq, Prod.mk.injEq] at h
    obtain ⟨h1, h2⟩ := h
    have h_x := Disk.dec_some h_x
    subst h_x
    exact ⟨x, rfl, hc, h1, h2.symm⟩
  · cases h
def T_laws_toDisk : Hints := ⟨fun _ => none, fun _ => none, fun i => if i = 0 then some [1, 2] else if i = 1 then some [1, 2, 3] else if i = 2 then some [2, 3] else if i = 3 then some [2] else none, fun _ => none⟩
noncomputable def Phi_laws_toDisk : Tab := fun f => if f = 86 then some spToFileS else none
attribute [go_sem] T_laws_toDisk Phi_laws_toDisk
theorem phi_laws_toDisk : ∀ f sp, Phi_laws_toDisk f = some sp → FnOk Tryz.prog f sp ∧ ∀ n ∈ sp.need, n ∈ ([] : List String) := by
  intro f sp h
  unfold Phi_laws_toDisk at h
  by_cases e : f = 86
  · rw [if_pos e] at h; cases h; rw [e]; exact ⟨ok_laws_toFileS, (fun n (h : n ∈ ([] : List String)) => (nomatch h))⟩
  rw [if_neg e] at h
  cases h
theorem ok_laws_toDisk : FnOk Tryz.prog 27 spToDisk := by
  refine fn_ok (Φ := Phi_laws_toDisk) (T := T_laws_toDisk) phi_laws_toDisk mixed Tryz.func27 rfl rfl rfl (by decide) ?_
  intro ins r outs hr hl
  clear hl
  have hs := spToDisk_in hr
  clear hr
  obtain ⟨x, rfl, hc, hr, rfl⟩ := hs
  simp only [spToDisk, Tryz.f27, Go.VM.initS]
  have c0 : x.Files.length ≤ 4194304 := hc.1
  simp only [c0, go_sem]
  repeat' ((first | ((first | apply qa | apply qb | apply qc | apply qd | apply qe | apply qf | apply qg | apply qh | apply qi | apply qj | apply qk) <;> intro hp) | ((first | refine ql rfl rfl (by decide +kernel) ?_ | refine qm _ rfl rfl (by decide +kernel) ?_ | refine goes_opn rfl ?_ | refine goes_opnD rfl rfl (by decide +kernel) ?_) <;> have hp := True.intro)) <;> simp only [hp, c0, go_sem])
  simp only [fin_mk, finV, resL, resV1, resIn, endA, listIn, Option.some_or, Option.none_or, oneOrTup, go_sem]
  rw [← hr]
  rfl
open Classical in
noncomputable def spEqDisk : VM.Spec := { modes := [.rd, .rd], run := fun | [x', y'] => (Disk.dec x').bind fun x => (Disk.dec y').bind fun y => if x.le 4194304 ∧ y.le 4194304 then some (.bool (decide (x = y)), []) else none | _ => none, need := [] }
attribute [go_sem] spEqDisk
theorem spEqDisk_in {ins : List V} {r : V} {outs : List V} (h : spEqDisk.run ins = some (r, outs)) : ∃ (x : Disk) (y : Disk), ins = [Disk.enc x, Disk.enc y] ∧ (x.le 4194304 ∧ y.le 4194304) ∧ .bool (decide (x = y)) = r ∧ outs = [] := by
  unfold spEqDisk at h
  simp only at h
  split at h
  · rename_i x' y'
    simp only [Option.bind_eq_some_iff] at h
    obtain ⟨x, h_x, y, h_y, h⟩ := h
    split at h
    case isFalse => cases h
    rename_i hc
    simp only [Option.some.injEq, Prod.mk.injEq] at h
    obtain ⟨h1, h2⟩ := h
    have h_x := Disk.dec_some h_x
    subst h_x
    have h_y := Disk.dec_some h_y
    subst h_y
    exact ⟨x, y, rfl, hc, h1, h2.symm⟩
  · cases h
def T_laws_eqDisk : Hints := ⟨fun _ => none, fun _ => none, fun i => if i = 0 then some [2, 3] else if i = 1 then some [10] else if i = 2 then some [4] else if i = 3 then some [4] else none, fun _ => none⟩
noncomputable def Phi_laws_eqDisk : Tab := fun f => if f = 92 then some spEqFileS else none
attribute [go_sem] T_laws_eqDisk Phi_laws_eqDisk
theorem phi_laws_eqDisk : ∀ f sp, Phi_laws_eqDisk f = some sp → FnOk Tryz.prog f sp ∧ ∀ n ∈ sp.need, n ∈ ([] : List String) := by
  intro f sp h
  unfold Phi_laws_eqDisk at h
  by_cases e : f = 92
  · rw [if_pos e] at h; cases h; rw [e]; exact ⟨ok_laws_eqFileS, (fun n (h : n ∈ ([] : List String)) => (nomatch h))⟩
  rw [if_neg e] at h
  cases h
theorem ok_laws_eqDisk : FnOk Tryz.prog 31 spEqDisk := by
  refine fn_ok (Φ := Phi_laws_eqDisk) (T := T_laws_eqDisk) phi_laws_eqDisk mixed Tryz.func31 rfl rfl rfl (by decide) ?_
  intro ins r outs hr hl
  clear hl
  have hs := spEqDisk_in hr
  clear hr
  obtain ⟨x, y, rfl, hc, hr, rfl⟩ := hs
  simp only [spEqDisk, Tryz.f31, Go.VM.initS]
  have c0 : x.Files.length ≤ 4194304 := hc.1.1
  have d0 : y.Files.length ≤ 4194304 := hc.2.1
  simp only [c0, d0, and_self, go_sem]
  repeat' ((first | ((first | apply qa | apply qb | apply qc | apply qd | apply qe | apply qf | apply qg | apply qh | apply qi | apply qj | apply qk) <;> intro hp) | ((first | refine ql rfl rfl (by decide +kernel) ?_ | refine qm _ rfl rfl (by decide +kernel) ?_ | refine goes_opn rfl ?_ | refine goes_opnD rfl rfl (by decide +kernel) ?_) <;> have hp := True.intro)) <;> simp only [hp, c0, d0, and_self, go_sem])
  all_goals (simp only [fin_mk, finV, resL, resV1, resIn, endA, listIn, Option.some_or, Option.none_or, oneOrTup, go_sem]; rw [← hr])
  all_goals (cases x; cases y; simp_all)
open Classical in
noncomputable def spMarkDisk : VM.Spec := { modes := [.io, .rd], run := fun | [x', .int .i64 k] => (Disk.dec x').bind fun x => if (x.Files.length ≤ 4194304) ∧ 0 ≤ k ∧ k ≤ 288230376151711744 then some (.int .i64 ((msDisk x k).2), [Disk.enc ((msDisk x k).1)]) else none | _ => none, need := [] }
attribute [go_sem] spMarkDisk
theorem spMarkDisk_in {ins : List V} {r : V} {outs : List V} (h : spMarkDisk.run ins = some (r, outs)) : ∃ (x : Disk) (k : Int), ins = [Disk.enc x, .int .i64 k] ∧ ((x.Files.length ≤ 4194304) ∧ 0 ≤ k ∧ k ≤ 288230376151711744) ∧ .int .i64 ((msDisk x k).2) = r ∧ outs = [Disk.enc ((msDisk x k).1)] := by
  unfold spMarkDisk at h
  simp only at h
  split at h
  · rename_i x' k
    simp only [Option.bind_eq_some_iff] at h
    obtain ⟨x, h_x, h⟩ := h
    split at h
    case isFalse => cases h
    rename_i hc
    simp only [Option.some.injEq, Prod.mk.injEq] at h
    obtain ⟨h1, h2⟩ := h
    have h_x := Disk.dec_some h_x
    subst h_x
    exact ⟨x, k, rfl, hc, h1, h2.symm⟩
  · cases h
def T_laws_markDisk : Hints := ⟨fun _ => none, fun _ => none, fun i => if i = 0 then some [1, 2] else if i = 1 then some [1] else if i = 2 then some [4] else none, fun _ => none⟩
noncomputable def Phi_laws_markDisk : Tab := fun f => if f = 94 then some spMarkFileS else none
attribute [go_sem] T_laws_markDisk Phi_laws_markDisk
theorem phi_laws_markDisk : ∀ f sp, Phi_laws_markDisk f = some sp → FnOk Tryz.prog f sp ∧ ∀ n ∈ sp.need, n ∈ ([] : List String) := by
  intro f sp h
  unfold Phi_laws_markDisk at h
  by_cases e : f = 94
  · rw [if_pos e] at h; cases h; rw [e]; exact ⟨ok_laws_markFileS, (fun n (h : n ∈ ([] : List String)) => (nomatch h))⟩
  rw [if_neg e] at h
  cases h
theorem ok_laws_markDisk : FnOk Tryz.prog 33 spMarkDisk := by
  refine fn_ok (Φ := Phi_laws_markDisk) (T := T_laws_markDisk) phi_laws_markDisk mixed Tryz.func33 rfl rfl rfl (by decide) ?_
  intro ins r outs hr hl
  clear hl
  have hs := spMarkDisk_in hr
  clear hr
  obtain ⟨x, k, rfl, hc, hr, rfl⟩ := hs
  simp only [spMarkDisk, Tryz.f33, Go.VM.initS]
  obtain ⟨hc, h0, h1⟩ := hc
  have c0 := hc
  have i0 : k ≤ 1152921504606846976 := by omega
  simp only [c0, h0, i0, go_sem]
  repeat' ((first | ((first | apply qa | apply qb | apply qc | apply qd | apply qe | apply qf | apply qg | apply qh | apply qi | apply qj | apply qk) <;> intro hp) | ((first | refine ql rfl rfl (by decide +kernel) ?_ | refine qm _ rfl rfl (by decide +kernel) ?_ | refine goes_opn rfl ?_ | refine goes_opnD rfl rfl (by decide +kernel) ?_) <;> have hp := True.intro)) <;> simp only [hp, c0, h0, i0, go_sem])
  simp only [fin_mk, finV, resL, resV1, resIn, endA, listIn, Option.some_or, Option.none_or, oneOrTup, go_sem]
  rw [← hr]
  simp only [msDisk]
end Go.Proofs.YtimiccneikhkgaaGreatDoor.L
