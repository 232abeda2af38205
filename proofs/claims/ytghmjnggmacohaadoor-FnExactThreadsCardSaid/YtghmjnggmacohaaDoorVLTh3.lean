/- The laws' own functions over lists of lists of numbers: equality, marks. -/
import Derived.Test.YtghmjnggmacohaaDoorVLB
import Derived.Test.YtghmjnggmacohaaDoorVmLift
namespace Go.Proofs.YtghmjnggmacohaaDoor.L
open Go Go.VM
set_option maxRecDepth 100000
set_option maxHeartbeats 4000000
set_option linter.unusedSimpArgs false
set_option linter.unusedVariables false
def meInts (l : List Int) (k : Int) : List Int × Int := markL meInt l k
theorem meInts_again (l : List Int) (k : Int) : meInts (meInts l k).1 k = meInts l k := markL_again meInt_again l k
theorem meInts_k (l : List Int) (k : Int) : (meInts l k).2 = k + l.length := by
  rw [meInts, markL_k meInt_k]; omega
def few (l : List (List Int)) : Prop := l.length ≤ 30 ∧ ∀ x ∈ l, x.length ≤ 30
theorem markInts_up : ∀ {l : List (List Int)} (k : Int), (∀ x ∈ l, x.length ≤ 30) → k ≤ (markL meInts l k).2 ∧ (markL meInts l k).2 ≤ k + 30 * l.length
  | [], k, h => by simp [markL]
  | x :: l, k, h => by
    have h1 := markInts_up (l := l) (meInts x k).2 (fun y hy => h y (by simp [hy]))
    have h2 := meInts_k x k
    have h3 := h x (by simp)
    simp only [markL, List.length_cons]
    omega
theorem few_marked {l : List (List Int)} {k : Int} (h : few l) : few (markL meInts l k).1 := by
  refine ⟨by rw [markL_len]; exact h.1, ?_⟩
  have : ∀ (l : List (List Int)) (k : Int), (∀ x ∈ l, x.length ≤ 30) → ∀ x ∈ (markL meInts l k).1, x.length ≤ 30 := by
    intro l
    induction l with
    | nil => intro k _ x hx; cases hx
    | cons y l ih =>
      intro k h x hx
      simp only [markL, List.mem_cons] at hx
      rcases hx with rfl | hx
      · rw [meInts, markL_len]; exact h y (by simp)
      · exact ih _ (fun z hz => h z (by simp [hz])) x hx
  exact this l k h.2
open Classical in
noncomputable def spEqIntSS : VM.Spec := { modes := [.rd, .rd], run := fun | [.lst 1 x', .lst 1 y'] => (decL (dList 1 dInt) x').bind fun x => (decL (dList 1 dInt) y').bind fun y => if few x ∧ few y then some (.bool (decide (x = y)), []) else none | _ => none, need := [] }
attribute [go_sem] spEqIntSS
theorem spEqIntSS_in {ins : List V} {r : V} {outs : List V} (h : spEqIntSS.run ins = some (r, outs)) : ∃ (x : (List (List Int))) (y : (List (List Int))), ins = [.lst 1 ((x).map (eList 1 eInt)), .lst 1 ((y).map (eList 1 eInt))] ∧ (few x ∧ few y) ∧ .bool (decide (x = y)) = r ∧ outs = [] := by
  unfold spEqIntSS at h
  simp only at h
  split at h
  · rename_i x' y'
    simp only [Option.bind_eq_some_iff] at h
    obtain ⟨x, h_x, y, h_y, h⟩ := h
    split at h
    case isFalse => cases h
    rename_i hc
    simp only [Option.some.injEq, Prod.mk.injEq] at h
    obtain ⟨h1, h2⟩ := h
    have h_x := decL_some (fun _ _ h => dList_some (fun _ _ h => dInt_some h) h) h_x
    subst h_x
    have h_y := decL_some (fun _ _ h => dList_some (fun _ _ h => dInt_some h) h) h_y
    subst h_y
    exact ⟨x, y, rfl, hc, h1, h2.symm⟩
  · cases h
def T_laws_eqIntSS : Hints := ⟨lk [(6, [])], lk [(4, [0, 1, 5])], lk [(0, [0, 1]), (1, [0, 1, 10]), (2, [4]), (3, [0, 1, 5]), (4, [0, 1, 5, 14]), (6, [0, 1, 5, 26]), (7, [4]), (5, [0, 1, 5]), (8, [4])], lk []⟩
noncomputable def Phi_laws_eqIntSS : Tab := lk [(27, spEqIntS)]
attribute [go_sem] T_laws_eqIntSS Phi_laws_eqIntSS
theorem phi_laws_eqIntSS : ∀ f sp, Phi_laws_eqIntSS f = some sp → FnOk Tryd.prog f sp ∧ ∀ n ∈ sp.need, n ∈ ([] : List String) := phi_cons ok_laws_eqIntS (n0 rfl) (phi_nil)
theorem ok_laws_eqIntSS : FnOk Tryd.prog 10 spEqIntSS := by
  refine fn_ok (Φ := Phi_laws_eqIntSS) (T := T_laws_eqIntSS) phi_laws_eqIntSS mixed Tryd.func10 rfl rfl rfl (by decide) ?_
  intro ins r outs hr hl
  clear hl
  have hs := spEqIntSS_in hr
  clear hr
  obtain ⟨x, y, rfl, hc, hr, rfl⟩ := hs
  simp only [spEqIntSS, Tryd.f10, Go.VM.initS]
  obtain ⟨⟨hx, hx'⟩, hy, hy'⟩ := hc
  by_cases hl : x.length = y.length
  case neg =>
    have g : ((x.length : Int) == y.length) = false := by rw [beq_eq_false_iff_ne]; omega
    have g' : ((x.length : Int) != y.length) = true := by rw [bne_iff_ne]; omega
    have hne : x ≠ y := fun e => hl (by rw [e])
    simp only [g, g', go_sem]
    repeat' ((first | ((first | apply qa | apply qb | apply qc | apply qd | apply qe | apply qf | apply qg | apply qh | apply qi | apply qj | apply qk) <;> intro hp) | ((first | refine ql rfl rfl (by decide +kernel) ?_ | refine qm _ rfl rfl (by decide +kernel) ?_) <;> have hp := True.intro)) <;> simp only [hp, g, g', go_sem])
    simp only [fin_mk, finV, resL, resV1, resIn, endA, listIn, Option.some_or, Option.none_or, oneOrTup, go_sem]
    rw [← hr]
    simp only [hne, decide_false]
  have hl' : (x.length : Int) = y.length := by omega
  simp only [hl, bne_self_eq_false, go_sem]
  repeat' ((first | ((first | apply qa | apply qb | apply qc | apply qd | apply qe | apply qf | apply qg | apply qh | apply qi | apply qj | apply qk) <;> intro hp) | ((first | refine ql rfl rfl (by decide +kernel) ?_ | refine qm _ rfl rfl (by decide +kernel) ?_) <;> have hp := True.intro)) <;> simp only [hp, hl, bne_self_eq_false, go_sem])
  refine loop_go (fun i : Nat => [(5, .int .i64 (i : Int))]) (fun _ => []) (fun i => x.length - i) (fun i => i ≤ x.length ∧ x.take i = y.take i) 0 ⟨Nat.zero_le _, by simp⟩ rfl rfl ?_
  intro i ⟨hi, he⟩ ih
  rcases Nat.lt_or_ge i x.length with h | h
  · have g1 : (i : Int) < x.length := by omega
    have g1' : (i : Int) < y.length := by omega
    have g2 : (0 : Int) ≤ i := by omega
    have g3 : x[i]? = some x[i] := List.getElem?_eq_getElem h
    have g4 : y[i]? = some (y[i]'(by omega)) := List.getElem?_eq_getElem (by omega)
    have g5 := wrap_succ h (by omega)
    have gx : x[i].length ≤ 4194304 := Nat.le_trans (hx' _ (List.getElem_mem h)) (by decide)
    have gy : (y[i]'(by omega)).length ≤ 4194304 := Nat.le_trans (hy' _ (List.getElem_mem (show i < y.length by omega))) (by decide)
    by_cases hv : x[i] = (y[i]'(by omega))
    · have gz := hv ▸ gx
      simp only [g1, g1', g2, g3, g4, g5, hv, gy, and_self, go_sem]
      repeat' ((first | ((first | apply qa | apply qb | apply qc | apply qd | apply qe | apply qf | apply qg | apply qh | apply qi | apply qj | apply qk) <;> intro hp) | ((first | refine ql rfl rfl (by decide +kernel) ?_ | refine qm _ rfl rfl (by decide +kernel) ?_) <;> have hp := True.intro)) <;> simp only [hp, g1, g1', g2, g3, g4, g5, hv, gy, and_self, go_sem])
      exact ih (i + 1) ⟨h, by rw [List.take_add_one, List.take_add_one, he, g3, g4, hv]⟩ (by omega)
    · have hne : x ≠ y := by rintro rfl; exact hv rfl
      simp only [g1, g1', g2, g3, g4, g5, hv, gx, gy, and_self, go_sem]
      repeat' ((first | ((first | apply qa | apply qb | apply qc | apply qd | apply qe | apply qf | apply qg | apply qh | apply qi | apply qj | apply qk) <;> intro hp) | ((first | refine ql rfl rfl (by decide +kernel) ?_ | refine qm _ rfl rfl (by decide +kernel) ?_) <;> have hp := True.intro)) <;> simp only [hp, g1, g1', g2, g3, g4, g5, hv, gx, gy, and_self, go_sem])
      simp only [fin_mk, finV, resL, resV1, resIn, endA, listIn, Option.some_or, Option.none_or, oneOrTup, go_sem]
      rw [← hr]
      simp only [hne, decide_false]
  · have g1 : ¬ (i : Int) < x.length := by omega
    have g1' : ¬ (i : Int) < y.length := by omega
    simp only [g1, g1', go_sem]
    simp only [fin_mk, finV, resL, resV1, resIn, endA, listIn, Option.some_or, Option.none_or, oneOrTup, go_sem]
    rw [← hr]
    rw [List.take_of_length_le h, List.take_of_length_le (by omega)] at he
    simp only [he, decide_true]
open Classical in
noncomputable def spMarkIntSS : VM.Spec := { modes := [.io, .rd], run := fun | [.lst 1 l', .int .i64 k] => (decL (dList 1 dInt) l').bind fun l => if few l ∧ 0 ≤ k ∧ k ≤ 1000 then some (.int .i64 ((markL meInts l k).2), [.lst 1 (((markL meInts l k).1).map (eList 1 eInt))]) else none | _ => none, need := [] }
attribute [go_sem] spMarkIntSS
theorem spMarkIntSS_in {ins : List V} {r : V} {outs : List V} (h : spMarkIntSS.run ins = some (r, outs)) : ∃ (l : (List (List Int))) (k : Int), ins = [.lst 1 ((l).map (eList 1 eInt)), .int .i64 k] ∧ (few l ∧ 0 ≤ k ∧ k ≤ 1000) ∧ .int .i64 ((markL meInts l k).2) = r ∧ outs = [.lst 1 (((markL meInts l k).1).map (eList 1 eInt))] := by
  unfold spMarkIntSS at h
  simp only at h
  split at h
  · rename_i l' k
    simp only [Option.bind_eq_some_iff] at h
    obtain ⟨l, h_l, h⟩ := h
    split at h
    case isFalse => cases h
    rename_i hc
    simp only [Option.some.injEq, Prod.mk.injEq] at h
    obtain ⟨h1, h2⟩ := h
    have h_l := decL_some (fun _ _ h => dList_some (fun _ _ h => dInt_some h) h) h_l
    subst h_l
    exact ⟨l, k, rfl, hc, h1, h2.symm⟩
  · cases h
def T_laws_markIntSS : Hints := ⟨lk [], lk [(2, [0, 1, 5])], lk [(0, [0, 1]), (1, [0, 1, 5]), (2, [0, 1, 5, 9]), (4, [0, 1, 5]), (3, [0, 1, 5]), (5, [4])], lk [(4, ((0, []), (5, [])))]⟩
noncomputable def Phi_laws_markIntSS : Tab := lk [(33, spMarkIntS)]
attribute [go_sem] T_laws_markIntSS Phi_laws_markIntSS
theorem phi_laws_markIntSS : ∀ f sp, Phi_laws_markIntSS f = some sp → FnOk Tryd.prog f sp ∧ ∀ n ∈ sp.need, n ∈ ([] : List String) := phi_cons ok_laws_markIntS (n0 rfl) (phi_nil)
theorem ok_laws_markIntSS : FnOk Tryd.prog 15 spMarkIntSS := by
  refine fn_ok (Φ := Phi_laws_markIntSS) (T := T_laws_markIntSS) phi_laws_markIntSS mixed Tryd.func15 rfl rfl rfl (by decide) ?_
  intro ins r outs hr hl
  clear hl
  have hs := spMarkIntSS_in hr
  clear hr
  obtain ⟨l, k, rfl, hc, hr, rfl⟩ := hs
  simp only [spMarkIntSS, Tryd.f15, Go.VM.initS]
  obtain ⟨⟨hc, hd⟩, h0, h1⟩ := hc
  simp only [go_sem]
  refine loop_go (fun p : Nat × List V × Int => [(1, .int .i64 p.2.2), (5, .int .i64 (p.1 : Int))]) (fun p => [(0, ⟨.arr, 1, p.2.1⟩)]) (fun p => l.length - p.1) (fun p => p.1 ≤ l.length ∧ p.2.1 = ((markL meInts (l.take p.1) k).1 ++ l.drop p.1).map (eList 1 eInt) ∧ p.2.2 = (markL meInts (l.take p.1) k).2 ∧ 0 ≤ p.2.2 ∧ p.2.2 ≤ k + 30 * p.1) (0, l.map (eList 1 eInt), k) ⟨Nat.zero_le _, by simp [markL], rfl, h0, by simp⟩ rfl rfl ?_
  rintro ⟨i, els, k'⟩ ⟨hi, he, hk, hb0, hb⟩ ih
  simp only at hi he hk hb0 hb ih
  rcases Nat.lt_or_ge i l.length with h | h
  · have g1 : (i : Int) < l.length := by omega
    have g2 : (0 : Int) ≤ i := by omega
    obtain ⟨g3, gl, gs, gk⟩ := mark_round h he
    rw [← hk] at gs gk
    have g5 := wrap_succ h (by omega)
    have hx := hd _ (List.getElem_mem h)
    have hx4 : l[i].length ≤ 4194304 := by omega
    have hk2 : k' ≤ 1152921504606846976 := by omega
    have hme := meInts_k l[i] k'
    rw [eList] at g3
    have gi : i < els.length := by omega
    have gi' : (i : Int) < els.length := by omega
    have e6 : (meInts l[i] k') = markL meInt l[i] k' := rfl
    rw [e6] at gs gk hme
    simp only [g1, g2, g3, gl, g5, h, gi, gi', hx4, hb0, hk2, beq_self_eq_true, Bool.or_true, List.getElem?_set_self, List.length_set, List.set_set, go_sem]
    repeat' ((first | ((first | apply qa | apply qb | apply qc | apply qd | apply qe | apply qf | apply qg | apply qh | apply qi | apply qj | apply qk) <;> intro hp) | ((first | refine goes_opn rfl ?_ | refine goes_opnD rfl rfl (by decide +kernel) ?_) <;> have hp := True.intro)) <;> simp only [hp, g1, g2, g3, gl, g5, h, gi, gi', hx4, hb0, hk2, beq_self_eq_true, Bool.or_true, List.getElem?_set_self, List.length_set, List.set_set, go_sem])
    refine ih (i + 1, els.set i (eList 1 eInt (markL meInt l[i] k').1), (markL meInt l[i] k').2) ⟨h, gs, gk, ?_, ?_⟩ (by simp only; omega)
    · simp only; omega
    · simp only; push_cast; omega
  · have g1 : ¬ (i : Int) < l.length := by omega
    have gl : els.length = l.length := by rw [he]; simp [markL_len]; omega
    simp only [g1, gl, go_sem]
    simp only [fin_mk, finV, resL, resV1, resIn, endA, listIn, Option.some_or, Option.none_or, oneOrTup, go_sem]
    rw [← hr, he, hk, List.take_of_length_le h, List.drop_of_length_le h, List.append_nil]
open Classical in
noncomputable def spHeldIntSS : VM.Spec := { modes := [.rd, .rd], run := fun | [.lst 1 l', .int .i64 k] => (decL (dList 1 dInt) l').bind fun l => if few l ∧ (markL meInts l k).1 = l ∧ 0 ≤ k ∧ k ≤ 1000 then some (.int .i64 ((markL meInts l k).2), []) else none | _ => none, need := [] }
attribute [go_sem] spHeldIntSS
theorem spHeldIntSS_in {ins : List V} {r : V} {outs : List V} (h : spHeldIntSS.run ins = some (r, outs)) : ∃ (l : (List (List Int))) (k : Int), ins = [.lst 1 ((l).map (eList 1 eInt)), .int .i64 k] ∧ (few l ∧ (markL meInts l k).1 = l ∧ 0 ≤ k ∧ k ≤ 1000) ∧ .int .i64 ((markL meInts l k).2) = r ∧ outs = [] := by
  unfold spHeldIntSS at h
  simp only at h
  split at h
  · rename_i l' k
    simp only [Option.bind_eq_some_iff] at h
    obtain ⟨l, h_l, h⟩ := h
    split at h
    case isFalse => cases h
    rename_i hc
    simp only [Option.some.injEq, Prod.mk.injEq] at h
    obtain ⟨h1, h2⟩ := h
    have h_l := decL_some (fun _ _ h => dList_some (fun _ _ h => dInt_some h) h) h_l
    subst h_l
    exact ⟨l, k, rfl, hc, h1, h2.symm⟩
  · cases h
def T_laws_heldIntSS : Hints := ⟨lk [], lk [(2, [0, 1, 5])], lk [(0, [0, 1]), (1, [0, 1, 5]), (2, [0, 1, 5, 9]), (4, [0, 1, 5]), (5, [0, 1, 5, 19]), (6, [4]), (3, [0, 1, 5]), (7, [4])], lk []⟩
noncomputable def Phi_laws_heldIntSS : Tab := lk [(34, spHeldIntS)]
attribute [go_sem] T_laws_heldIntSS Phi_laws_heldIntSS
theorem phi_laws_heldIntSS : ∀ f sp, Phi_laws_heldIntSS f = some sp → FnOk Tryd.prog f sp ∧ ∀ n ∈ sp.need, n ∈ ([] : List String) := phi_cons ok_laws_heldIntS (n0 rfl) (phi_nil)
theorem ok_laws_heldIntSS : FnOk Tryd.prog 16 spHeldIntSS := by
  refine fn_ok (Φ := Phi_laws_heldIntSS) (T := T_laws_heldIntSS) phi_laws_heldIntSS mixed Tryd.func16 rfl rfl rfl (by decide) ?_
  intro ins r outs hr hl
  clear hl
  have hs := spHeldIntSS_in hr
  clear hr
  obtain ⟨l, k, rfl, hc, hr, rfl⟩ := hs
  simp only [spHeldIntSS, Tryd.f16, Go.VM.initS]
  obtain ⟨⟨hc, hd⟩, hm, h0, h1⟩ := hc
  simp only [go_sem]
  refine loop_go (fun p : Nat × Int => [(1, .int .i64 p.2), (5, .int .i64 (p.1 : Int))]) (fun p => []) (fun p => l.length - p.1) (fun p => p.1 ≤ l.length ∧ p.2 = (markL meInts (l.take p.1) k).2 ∧ 0 ≤ p.2 ∧ p.2 ≤ k + 30 * p.1) (0, k) ⟨Nat.zero_le _, rfl, h0, by simp⟩ rfl rfl ?_
  rintro ⟨i, k'⟩ ⟨hi, hk, hb0, hb⟩ ih
  simp only at hi hk hb0 hb ih
  rcases Nat.lt_or_ge i l.length with h | h
  · have g1 : (i : Int) < l.length := by omega
    have g2 : (0 : Int) ≤ i := by omega
    have g3 : l[i]? = some l[i] := List.getElem?_eq_getElem h
    have g5 := wrap_succ h (by omega)
    have hn := markL_fix hm h
    rw [← hk] at hn
    have gk : (meInts l[i] k').2 = (markL meInts (l.take (i + 1)) k).2 := by rw [take_succ' h, markL_step, hk]
    have hx := hd _ (List.getElem_mem h)
    have hx4 : l[i].length ≤ 4194304 := by omega
    have hk2 : k' ≤ 1152921504606846976 := by omega
    have hme := meInts_k l[i] k'
    have hh : heldL (heOf meInt) l[i] k' = some (meInts l[i] k').2 := held_fix (heOf_marked meInt_again) hn
    have hnn : ¬ (meInts l[i] k').2 < 0 := by omega
    simp only [g1, g2, g3, g5, h, hx4, hb0, hk2, hh, hnn, Option.getD_some, go_sem]
    repeat' ((first | apply qa | apply qb | apply qc | apply qd | apply qe | apply qf | apply qg | apply qh | apply qi | apply qj | apply qk) <;> intro hp <;> simp only [hp, g1, g2, g3, g5, h, hx4, hb0, hk2, hh, hnn, Option.getD_some, go_sem])
    refine ih (i + 1, (meInts l[i] k').2) ⟨h, gk, ?_, ?_⟩ (by simp only; omega)
    · simp only; omega
    · simp only; push_cast; omega
  · have g1 : ¬ (i : Int) < l.length := by omega
    simp only [g1, go_sem]
    simp only [fin_mk, finV, resL, resV1, resIn, endA, listIn, Option.some_or, Option.none_or, oneOrTup, go_sem]
    rw [← hr]
    rw [hk, List.take_of_length_le h]
end Go.Proofs.YtghmjnggmacohaaDoor.L
