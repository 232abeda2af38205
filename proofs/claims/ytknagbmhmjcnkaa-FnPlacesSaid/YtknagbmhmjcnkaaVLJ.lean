/- Lists of what is seen: the library's Delete; TakeLine. -/
import Derived.Test.YtknagbmhmjcnkaaVLD
namespace Go.Proofs.Ytknagbmhmjcnkaa.L
open Go Go.VM
set_option maxRecDepth 100000
set_option maxHeartbeats 4000000
set_option linter.unusedSimpArgs false
set_option linter.unusedVariables false
open Classical in
noncomputable def spDelSeen : VM.Spec := { modes := [.use, .rd, .rd], run := fun | [.lst 3 l', .int .i64 i, .int .i64 j] => (decL Seen.dec l').bind fun l => if l.length ≤ 4194304 ∧ 0 ≤ i ∧ i < j ∧ j ≤ l.length then some (.lst 3 ((l.take i.toNat ++ l.drop j.toNat).map Seen.enc), []) else none | _ => none, need := [] }
attribute [go_sem] spDelSeen
theorem spDelSeen_in {ins : List V} {r : V} {outs : List V} (h : spDelSeen.run ins = some (r, outs)) : ∃ (l : (List Seen)) (i : Int) (j : Int), ins = [.lst 3 ((l).map Seen.enc), .int .i64 i, .int .i64 j] ∧ (l.length ≤ 4194304 ∧ 0 ≤ i ∧ i < j ∧ j ≤ l.length) ∧ .lst 3 ((l.take i.toNat ++ l.drop j.toNat).map Seen.enc) = r ∧ outs = [] := by
  unfold spDelSeen at h
  simp only at h
  split at h
  · rename_i l' i j
    simp only [Option.bind_eq_some_iff] at h
    obtain ⟨l, h_l, h⟩ := h
    split at h
    case isFalse => cases h
    rename_i hc
    simp only [Option.some.injEq, Prod.mk.injEq] at h
    obtain ⟨h1, h2⟩ := h
    have h_l := decL_some (fun _ _ h => Seen.dec_some h) h_l
    subst h_l
    exact ⟨l, i, j, rfl, hc, h1, h2.symm⟩
  · cases h
def T_slices_Delete_loop_example_g00247_impl_Seen_loop_example_g00247_impl_Seen : Hints := ⟨fun i => if i = 5 then some [] else none, fun _ => none, fun i => if i = 0 then some [0, 1, 2] else if i = 1 then some [0, 1, 2] else if i = 2 then some [0, 1, 2, 16] else if i = 3 then some [6] else if i = 4 then some [0, 1, 2, 7] else if i = 5 then some [0, 7] else if i = 6 then some [0] else if i = 7 then some [6] else none, fun _ => none⟩
noncomputable def Phi_slices_Delete_loop_example_g00247_impl_Seen_loop_example_g00247_impl_Seen : Tab := fun f => none
attribute [go_sem] T_slices_Delete_loop_example_g00247_impl_Seen_loop_example_g00247_impl_Seen Phi_slices_Delete_loop_example_g00247_impl_Seen_loop_example_g00247_impl_Seen
theorem phi_slices_Delete_loop_example_g00247_impl_Seen_loop_example_g00247_impl_Seen : ∀ f sp, Phi_slices_Delete_loop_example_g00247_impl_Seen_loop_example_g00247_impl_Seen f = some sp → FnOk Try.prog f sp ∧ ∀ n ∈ sp.need, n ∈ ([] : List String) := by
  intro f sp h
  unfold Phi_slices_Delete_loop_example_g00247_impl_Seen_loop_example_g00247_impl_Seen at h
  cases h
theorem ok_slices_Delete_loop_example_g00247_impl_Seen_loop_example_g00247_impl_Seen : FnOk Try.prog 17 spDelSeen := by
  refine fn_ok (Φ := Phi_slices_Delete_loop_example_g00247_impl_Seen_loop_example_g00247_impl_Seen) (T := T_slices_Delete_loop_example_g00247_impl_Seen_loop_example_g00247_impl_Seen) phi_slices_Delete_loop_example_g00247_impl_Seen_loop_example_g00247_impl_Seen mixed Try.func17 rfl rfl rfl (by decide) ?_
  intro ins r outs hr hl
  clear hl
  have hs := spDelSeen_in hr
  clear hr
  obtain ⟨l, i, j, rfl, hc, hr, rfl⟩ := hs
  simp only [spDelSeen, Try.f17, Go.VM.initS]
  obtain ⟨hl, h0, h1, h2⟩ := hc
  obtain ⟨a, rfl⟩ : ∃ a : Nat, i = a := ⟨i.toNat, by omega⟩
  obtain ⟨b, rfl⟩ : ∃ b : Nat, j = b := ⟨j.toNat, by omega⟩
  have g1 : (a : Int) ≤ b := by omega
  have g2 : a ≤ b := by omega
  have g3 : b ≤ l.length := by omega
  have g4 : ¬ (a : Int) = b := by omega
  have g4' : ((a : Int) == (b : Int)) = false := beq_eq_false_iff_ne.2 g4
  have g8 : a + (l.length - b) ≤ l.length := by omega
  have g9 : b + (l.length - b) ≤ l.length := by omega
  have g10 : (a + (l.length - b)) * 24 ≤ 140737488355328 := by omega
  have g11 : a + (l.length - b) ≤ 9223372036854775807 := by omega
  have g5 : a ≤ l.length := by omega
  have g6 : a < l.length := by omega
  have g7 : 0 < l.length := by omega
  have gb : (layB (List.map Seen.enc l) a (List.map Seen.enc (List.take (l.length - b) (List.drop b l)))).length = l.length := by
    rw [layB_len (by simp only [List.length_map, List.length_take, List.length_drop]; omega), List.length_map]
  have gm : min (a + (l.length - b)) l.length = a + (l.length - b) := by omega
  have gs : a + (l.length - b) + (l.length - (a + (l.length - b))) = l.length := by omega
  have gl : a + (l.length - b) < l.length := by omega
  simp only [gb, gm, gs, gl, g1, g2, g3, g4', g8, g9, g10, g11, Nat.min_self, Nat.min_eq_left g5, take_map, drop_map, g5, g6, g7, h0, Int.natCast_nonneg, Nat.le_refl, List.length_take, List.length_drop, Nat.sub_zero, Nat.zero_le, go_sem]
  repeat' ((first | ((first | apply qa | apply qb | apply qc | apply qd | apply qe | apply qf | apply qg | apply qh | apply qi | apply qj | apply qk) <;> intro hp) | ((first | refine ql rfl rfl (by decide +kernel) ?_ | refine qm _ rfl rfl (by decide +kernel) ?_ | refine goes_opn rfl ?_ | refine goes_opnD rfl rfl (by decide +kernel) ?_) <;> have hp := True.intro)) <;> simp only [hp, gb, gm, gs, gl, g1, g2, g3, g4', g8, g9, g10, g11, Nat.min_self, Nat.min_eq_left g5, take_map, drop_map, g5, g6, g7, h0, Int.natCast_nonneg, Nat.le_refl, List.length_take, List.length_drop, Nat.sub_zero, Nat.zero_le, go_sem])
  have ge : (layV (layB (List.map Seen.enc l) a (List.map Seen.enc (List.take (l.length - b) (List.drop b l)))) (a + (l.length - b)) (l.length - (a + (l.length - b))) (V.agg [V.int IntKind.i64 0, V.int IntKind.i64 0, V.int IntKind.i64 0])).take (a + (l.length - b)) = (l.take a ++ l.drop b).map Seen.enc := by
    have e1 : (layB (List.map Seen.enc l) a (List.map Seen.enc (List.take (l.length - b) (List.drop b l)))).take (a + (l.length - b)) = (l.take a ++ l.drop b).map Seen.enc := by
      rw [layB, List.take_append_of_le_length (by simp only [List.length_append, List.length_map, List.length_take, List.length_drop]; omega), List.take_of_length_le (by simp only [List.length_append, List.length_map, List.length_take, List.length_drop]; omega), List.map_append, take_map, List.take_of_length_le (l := List.drop b l) (by rw [List.length_drop]; omega)]
    rw [layV, List.append_assoc, List.take_append_of_le_length (by rw [List.length_take, gb]; omega), List.take_take, Nat.min_self, e1]
  have g12 : (layV (layB (List.map Seen.enc l) a (List.map Seen.enc (List.take (l.length - b) (List.drop b l)))) (a + (l.length - b)) (l.length - (a + (l.length - b))) (V.agg [V.int IntKind.i64 0, V.int IntKind.i64 0, V.int IntKind.i64 0])).length = l.length := by
    rw [layV_len (by rw [gb]; omega), gb]
  simp only [fin_mk, finV, resL, resV1, resIn, endA, listIn, Option.some_or, Option.none_or, oneOrTup, go_sem]
  rw [← hr, ge, if_pos ⟨by rw [g12]; omega, by rw [g12]; omega⟩]; rfl
open Classical in
noncomputable def spCopySeens : VM.Spec := { modes := [.rd], run := fun | [.lst 3 l'] => (decL Seen.dec l').bind fun l => if l.length ≤ 4194304 then some (.lst 3 ((l).map Seen.enc), []) else none | _ => none, need := [] }
attribute [go_sem] spCopySeens
theorem spCopySeens_in {ins : List V} {r : V} {outs : List V} (h : spCopySeens.run ins = some (r, outs)) : ∃ (l : (List Seen)), ins = [.lst 3 ((l).map Seen.enc)] ∧ (l.length ≤ 4194304) ∧ .lst 3 ((l).map Seen.enc) = r ∧ outs = [] := by
  unfold spCopySeens at h
  simp only at h
  split at h
  · rename_i l'
    simp only [Option.bind_eq_some_iff] at h
    obtain ⟨l, h_l, h⟩ := h
    split at h
    case isFalse => cases h
    rename_i hc
    simp only [Option.some.injEq, Prod.mk.injEq] at h
    obtain ⟨h1, h2⟩ := h
    have h_l := decL_some (fun _ _ h => Seen.dec_some h) h_l
    subst h_l
    exact ⟨l, rfl, hc, h1, h2.symm⟩
  · cases h
def T_impl_copySeens : Hints := ⟨fun _ => none, fun _ => none, fun i => if i = 0 then some [0] else if i = 1 then some [2] else none, fun _ => none⟩
noncomputable def Phi_impl_copySeens : Tab := fun f => none
attribute [go_sem] T_impl_copySeens Phi_impl_copySeens
theorem phi_impl_copySeens : ∀ f sp, Phi_impl_copySeens f = some sp → FnOk Try.prog f sp ∧ ∀ n ∈ sp.need, n ∈ ([] : List String) := by
  intro f sp h
  unfold Phi_impl_copySeens at h
  cases h
theorem ok_impl_copySeens : FnOk Try.prog 15 spCopySeens := by
  refine fn_ok (Φ := Phi_impl_copySeens) (T := T_impl_copySeens) phi_impl_copySeens mixed Try.func15 rfl rfl rfl (by decide) ?_
  intro ins r outs hr hl
  clear hl
  have hs := spCopySeens_in hr
  clear hr
  obtain ⟨l, rfl, hc, hr, rfl⟩ := hs
  simp only [spCopySeens, Try.f15, Go.VM.initS]
  have h1 : l.length * 24 ≤ 140737488355328 := by omega
  have h3 : l.length ≤ 9223372036854775807 := by omega
  simp only [h1, h3, go_sem]
  repeat' ((first | ((first | apply qa | apply qb | apply qc | apply qd | apply qe | apply qf | apply qg | apply qh | apply qi | apply qj | apply qk) <;> intro hp) | ((first | refine ql rfl rfl (by decide +kernel) ?_ | refine qm _ rfl rfl (by decide +kernel) ?_ | refine goes_opn rfl ?_ | refine goes_opnD rfl rfl (by decide +kernel) ?_) <;> have hp := True.intro)) <;> simp only [hp, h1, h3, go_sem])
  simp only [fin_mk, finV, resL, resV1, resIn, endA, listIn, Option.some_or, Option.none_or, oneOrTup, go_sem]
  rw [← hr]
/-- n entries: those of l, or empty ones. -/
def growTo (l : List Seen) (n : Nat) : List Seen := l ++ List.replicate (n - l.length) ⟨0, 0, 0⟩
theorem growTo_len (l : List Seen) (n : Nat) : (growTo l n).length = max n l.length := by simp [growTo]; omega
theorem growTo_id {l : List Seen} {n : Nat} (h : n ≤ l.length) : growTo l n = l := by simp [growTo, Nat.sub_eq_zero_of_le h]
theorem growTo_step {l : List Seen} {i : Nat} (h : l.length ≤ i) : growTo l i ++ [⟨0, 0, 0⟩] = growTo l (i + 1) := by
  simp only [growTo, List.append_assoc, List.append_cancel_left_eq]
  rw [show i + 1 - l.length = (i - l.length) + 1 by omega, List.replicate_succ']
def takeLine (l : List Seen) (x : Line) : List Seen :=
  if x.Kind = 1 then (if within x.Num 0 30 = true then (growTo l x.Num.toNat).take x.Num.toNat else l)
  else if x.Kind = 2 then (if within x.Num 1 l.length = true then l.take (x.Num - 1).toNat ++ l.drop x.Num.toNat else l)
  else if x.Kind = 3 then (if within x.Num 1 l.length = true then l.set (x.Num - 1).toNat ⟨x.Uid, x.Flags, x.Mod⟩ else l)
  else if x.Kind = 9 then [] else l
open Classical in
noncomputable def spTakeLine : VM.Spec := { modes := [.rd, .rd], run := fun | [.lst 3 l', x'] => (decL Seen.dec l').bind fun l => (Line.dec x').bind fun x => if l.length ≤ 4194304 ∧ x.le 4194304 then some (.lst 3 ((takeLine l x).map Seen.enc), []) else none | _ => none, need := [] }
attribute [go_sem] spTakeLine
theorem spTakeLine_in {ins : List V} {r : V} {outs : List V} (h : spTakeLine.run ins = some (r, outs)) : ∃ (l : (List Seen)) (x : Line), ins = [.lst 3 ((l).map Seen.enc), Line.enc x] ∧ (l.length ≤ 4194304 ∧ x.le 4194304) ∧ .lst 3 ((takeLine l x).map Seen.enc) = r ∧ outs = [] := by
  unfold spTakeLine at h
  simp only at h
  split at h
  · rename_i l' x'
    simp only [Option.bind_eq_some_iff] at h
    obtain ⟨l, h_l, x, h_x, h⟩ := h
    split at h
    case isFalse => cases h
    rename_i hc
    simp only [Option.some.injEq, Prod.mk.injEq] at h
    obtain ⟨h1, h2⟩ := h
    have h_l := decL_some (fun _ _ h => Seen.dec_some h) h_l
    subst h_l
    have h_x := Line.dec_some h_x
    subst h_x
    exact ⟨l, x, rfl, hc, h1, h2.symm⟩
  · cases h
def T_impl_TakeLine : Hints := ⟨fun _ => none, fun i => if i = 4 then some [3, 5] else none, fun i => if i = 0 then some [0, 3] else if i = 1 then some [0, 3, 5] else if i = 2 then some [3, 5, 6] else if i = 3 then some [3, 5, 6, 14] else if i = 4 then some [3, 5, 27] else if i = 5 then some [3, 5] else if i = 6 then some [4] else if i = 7 then some [3, 5, 6, 36] else if i = 8 then some [4] else if i = 9 then some [3, 5, 50] else if i = 10 then some [5] else if i = 11 then some [5, 69] else if i = 12 then some [4] else if i = 13 then some [4] else none, fun _ => none⟩
noncomputable def Phi_impl_TakeLine : Tab := fun f => if f = 15 then some spCopySeens else if f = 16 then some spWithin else if f = 17 then some spDelSeen else none
attribute [go_sem] T_impl_TakeLine Phi_impl_TakeLine
theorem phi_impl_TakeLine : ∀ f sp, Phi_impl_TakeLine f = some sp → FnOk Try.prog f sp ∧ ∀ n ∈ sp.need, n ∈ ([] : List String) := by
  intro f sp h
  unfold Phi_impl_TakeLine at h
  by_cases e : f = 15
  · rw [if_pos e] at h; cases h; rw [e]; exact ⟨ok_impl_copySeens, (fun n (h : n ∈ ([] : List String)) => (nomatch h))⟩
  rw [if_neg e] at h
  by_cases e : f = 16
  · rw [if_pos e] at h; cases h; rw [e]; exact ⟨ok_impl_within, (fun n (h : n ∈ ([] : List String)) => (nomatch h))⟩
  rw [if_neg e] at h
  by_cases e : f = 17
  · rw [if_pos e] at h; cases h; rw [e]; exact ⟨ok_slices_Delete_loop_example_g00247_impl_Seen_loop_example_g00247_impl_Seen, (fun n (h : n ∈ ([] : List String)) => (nomatch h))⟩
  rw [if_neg e] at h
  cases h
theorem ok_impl_TakeLine : FnOk Try.prog 7 spTakeLine := by
  refine fn_ok (Φ := Phi_impl_TakeLine) (T := T_impl_TakeLine) phi_impl_TakeLine mixed Try.func7 rfl rfl rfl (by decide) ?_
  intro ins r outs hr hl
  clear hl
  have hs := spTakeLine_in hr
  clear hr
  obtain ⟨l, x, rfl, hc, hr, rfl⟩ := hs
  simp only [spTakeLine, Try.f7, Go.VM.initS]
  obtain ⟨hl, hx⟩ := hc
  obtain ⟨K, N, U, F, M, S, A⟩ := x
  have hs : S.length ≤ 4194304 := hx.1
  clear hx
  by_cases h1 : K = 1
  · subst h1
    cases hw : within N 0 30 with
    | false =>
      simp only [hl, hw, go_sem]
      repeat' ((first | ((first | apply qa | apply qb | apply qc | apply qd | apply qe | apply qf | apply qg | apply qh | apply qi | apply qj | apply qk) <;> intro hp) | ((first | refine ql rfl rfl (by decide +kernel) ?_ | refine qm _ rfl rfl (by decide +kernel) ?_ | refine goes_opn rfl ?_ | refine goes_opnD rfl rfl (by decide +kernel) ?_) <;> have hp := True.intro)) <;> simp only [hp, hl, hw, go_sem])
      all_goals (simp only [fin_mk, finV, resL, resV1, resIn, endA, listIn, Option.some_or, Option.none_or, oneOrTup, go_sem]; rw [← hr])
      all_goals simp only [takeLine, hw, if_true, Bool.false_eq_true, if_false]
    | true =>
      simp only [hl, hw, go_sem]
      repeat' ((first | ((first | apply qa | apply qb | apply qc | apply qd | apply qe | apply qf | apply qg | apply qh | apply qi | apply qj | apply qk) <;> intro hp) | ((first | refine ql rfl rfl (by decide +kernel) ?_ | refine qm _ rfl rfl (by decide +kernel) ?_ | refine goes_opn rfl ?_ | refine goes_opnD rfl rfl (by decide +kernel) ?_) <;> have hp := True.intro)) <;> simp only [hp, hl, hw, go_sem])
      have hn : 0 ≤ N ∧ N ≤ 30 := by simpa only [within, Bool.and_eq_true, decide_eq_true_eq] using hw
      obtain ⟨n, rfl⟩ : ∃ n : Nat, N = n := ⟨N.toNat, by omega⟩
      refine loop_go (fun _ : Nat => []) (fun i => [(1, ⟨.arr, 3, (growTo l i).map Seen.enc⟩)]) (fun i => n - i) (fun i => l.length ≤ i ∧ i ≤ max n l.length) l.length ⟨Nat.le_refl _, by omega⟩ rfl ?_ ?_
      · rw [growTo_id (Nat.le_refl _)]; rfl
      intro i ⟨hi, hm⟩ ih
      have hlen : (growTo l i).length = i := by rw [growTo_len]; omega
      rcases Nat.lt_or_ge i n with h | h
      · have g1 : (i : Int) < n := by omega
        have g2 : (i + 1) * 24 ≤ 140737488355328 := by omega
        have g3 : i + 1 ≤ 9223372036854775807 := by omega
        have ih' := ih (i + 1) ⟨by omega, by omega⟩ (by omega)
        rw [← growTo_step hi, List.map_append] at ih'
        simp only [g1, hlen, g2, g3, go_sem]
        repeat' ((first | ((first | apply qa | apply qb | apply qc | apply qd | apply qe | apply qf | apply qg | apply qh | apply qi | apply qj | apply qk) <;> intro hp) | ((first | refine ql rfl rfl (by decide +kernel) ?_ | refine qm _ rfl rfl (by decide +kernel) ?_ | refine goes_opn rfl ?_ | refine goes_opnD rfl rfl (by decide +kernel) ?_) <;> have hp := True.intro)) <;> simp only [hp, g1, hlen, g2, g3, go_sem])
        exact ih'
      · have g1 : ¬ (i : Int) < n := by omega
        have g2 : n ≤ i := h
        have hG : growTo l i = growTo l n := by
          rcases Nat.le_total l.length n with h2 | h2
          · rw [show i = n by omega]
          · rw [show i = l.length by omega, growTo_id (Nat.le_refl _), growTo_id h2]
        have g0 : (0 : Int) ≤ n := hn.1
        simp only [g0, g1, hlen, g2, Nat.sub_zero, Nat.zero_le, go_sem]
        repeat' ((first | ((first | apply qa | apply qb | apply qc | apply qd | apply qe | apply qf | apply qg | apply qh | apply qi | apply qj | apply qk) <;> intro hp) | ((first | refine ql rfl rfl (by decide +kernel) ?_ | refine qm _ rfl rfl (by decide +kernel) ?_ | refine goes_opn rfl ?_ | refine goes_opnD rfl rfl (by decide +kernel) ?_) <;> have hp := True.intro)) <;> simp only [hp, g0, g1, hlen, g2, Nat.sub_zero, Nat.zero_le, go_sem])
        simp only [fin_mk, finV, resL, resV1, resIn, endA, listIn, Option.some_or, Option.none_or, oneOrTup, go_sem]
        rw [← hr]
        simp only [takeLine, hw, if_true, hG, Int.toNat_natCast, ← List.map_take]
        rw [if_pos ⟨by rw [← hG, hlen]; exact g2, .inr trivial⟩]
        rfl
  by_cases h2 : K = 2
  · subst h2
    cases hw : within N 1 l.length with
    | false =>
      simp only [hl, hw, go_sem]
      repeat' ((first | ((first | apply qa | apply qb | apply qc | apply qd | apply qe | apply qf | apply qg | apply qh | apply qi | apply qj | apply qk) <;> intro hp) | ((first | refine ql rfl rfl (by decide +kernel) ?_ | refine qm _ rfl rfl (by decide +kernel) ?_ | refine goes_opn rfl ?_ | refine goes_opnD rfl rfl (by decide +kernel) ?_) <;> have hp := True.intro)) <;> simp only [hp, hl, hw, go_sem])
      all_goals (simp only [fin_mk, finV, resL, resV1, resIn, endA, listIn, Option.some_or, Option.none_or, oneOrTup, go_sem]; rw [← hr])
      all_goals simp only [takeLine, hw, Int.reduceEq, if_true, Bool.false_eq_true, if_false]
    | true =>
      have hn : 1 ≤ N ∧ N ≤ l.length := by simpa only [within, Bool.and_eq_true, decide_eq_true_eq] using hw
      have w1 : IntKind.i64.wrap (N - 1) = N - 1 := wrap64 (by omega) (by omega)
      have g1 : 0 ≤ N - 1 := by omega
      have g2 : N - 1 < N := by omega
      have g3 : N ≤ l.length := by omega
      simp only [hl, hw, w1, g1, g2, g3, go_sem]
      repeat' ((first | ((first | apply qa | apply qb | apply qc | apply qd | apply qe | apply qf | apply qg | apply qh | apply qi | apply qj | apply qk) <;> intro hp) | ((first | refine ql rfl rfl (by decide +kernel) ?_ | refine qm _ rfl rfl (by decide +kernel) ?_ | refine goes_opn rfl ?_ | refine goes_opnD rfl rfl (by decide +kernel) ?_) <;> have hp := True.intro)) <;> simp only [hp, hl, hw, w1, g1, g2, g3, go_sem])
      simp only [fin_mk, finV, resL, resV1, resIn, endA, listIn, Option.some_or, Option.none_or, oneOrTup, go_sem]
      rw [← hr]
      simp only [takeLine, hw, Int.reduceEq, if_true, if_false]
  by_cases h3 : K = 3
  · subst h3
    cases hw : within N 1 l.length with
    | false =>
      simp only [hl, hw, go_sem]
      repeat' ((first | ((first | apply qa | apply qb | apply qc | apply qd | apply qe | apply qf | apply qg | apply qh | apply qi | apply qj | apply qk) <;> intro hp) | ((first | refine ql rfl rfl (by decide +kernel) ?_ | refine qm _ rfl rfl (by decide +kernel) ?_ | refine goes_opn rfl ?_ | refine goes_opnD rfl rfl (by decide +kernel) ?_) <;> have hp := True.intro)) <;> simp only [hp, hl, hw, go_sem])
      all_goals (simp only [fin_mk, finV, resL, resV1, resIn, endA, listIn, Option.some_or, Option.none_or, oneOrTup, go_sem]; rw [← hr])
      all_goals simp only [takeLine, hw, Int.reduceEq, if_true, Bool.false_eq_true, if_false]
    | true =>
      have hn : 1 ≤ N ∧ N ≤ l.length := by simpa only [within, Bool.and_eq_true, decide_eq_true_eq] using hw
      obtain ⟨a, ha⟩ : ∃ a : Nat, N - 1 = a := ⟨(N - 1).toNat, by omega⟩
      have w1 : IntKind.i64.wrap (N - 1) = a := (wrap64 (by omega) (by omega)).trans ha
      have g1 : (0 : Int) ≤ a := by omega
      have g2 : (a : Int) < l.length := by omega
      have g3 : l[a]? = some (l[a]'(by omega)) := List.getElem?_eq_getElem (by omega)
      simp only [hl, hw, w1, g1, g2, g3, go_sem]
      repeat' ((first | ((first | apply qa | apply qb | apply qc | apply qd | apply qe | apply qf | apply qg | apply qh | apply qi | apply qj | apply qk) <;> intro hp) | ((first | refine ql rfl rfl (by decide +kernel) ?_ | refine qm _ rfl rfl (by decide +kernel) ?_ | refine goes_opn rfl ?_ | refine goes_opnD rfl rfl (by decide +kernel) ?_) <;> have hp := True.intro)) <;> simp only [hp, hl, hw, w1, g1, g2, g3, go_sem])
      simp only [fin_mk, finV, resL, resV1, resIn, endA, listIn, Option.some_or, Option.none_or, oneOrTup, go_sem]
      rw [← hr]
      simp only [takeLine, hw, Int.reduceEq, if_true, if_false, ha, Int.toNat_natCast, List.map_set]
      rfl
  by_cases h9 : K = 9
  · subst h9
    simp only [hl, go_sem]
    repeat' ((first | ((first | apply qa | apply qb | apply qc | apply qd | apply qe | apply qf | apply qg | apply qh | apply qi | apply qj | apply qk) <;> intro hp) | ((first | refine ql rfl rfl (by decide +kernel) ?_ | refine qm _ rfl rfl (by decide +kernel) ?_ | refine goes_opn rfl ?_ | refine goes_opnD rfl rfl (by decide +kernel) ?_) <;> have hp := True.intro)) <;> simp only [hp, hl, go_sem])
    simp only [fin_mk, finV, resL, resV1, resIn, endA, listIn, Option.some_or, Option.none_or, oneOrTup, go_sem]
    rw [← hr]
    rfl
  have e1 : (K == 1) = false := beq_eq_false_iff_ne.2 h1
  have e2 : (K == 2) = false := beq_eq_false_iff_ne.2 h2
  have e3 : (K == 3) = false := beq_eq_false_iff_ne.2 h3
  have e9 : (K == 9) = false := beq_eq_false_iff_ne.2 h9
  simp only [hl, e1, e2, e3, e9, go_sem]
  repeat' ((first | ((first | apply qa | apply qb | apply qc | apply qd | apply qe | apply qf | apply qg | apply qh | apply qi | apply qj | apply qk) <;> intro hp) | ((first | refine ql rfl rfl (by decide +kernel) ?_ | refine qm _ rfl rfl (by decide +kernel) ?_ | refine goes_opn rfl ?_ | refine goes_opnD rfl rfl (by decide +kernel) ?_) <;> have hp := True.intro)) <;> simp only [hp, hl, e1, e2, e3, e9, go_sem])
  simp only [fin_mk, finV, resL, resV1, resIn, endA, listIn, Option.some_or, Option.none_or, oneOrTup, go_sem]
  rw [← hr]
  simp only [takeLine, h1, h2, h3, h9, if_false]
def T_spec_TakeLine : Hints := ⟨fun i => if i = 11 then some [(0, 2), (0, 3), (0, 5), (0, 8), (6, 8), (0, 9), (6, 9), (0, 10), (6, 10)] else none, fun i => if i = 6 then some [3, 5] else none, fun i => if i = 0 then some [0, 3] else if i = 1 then some [0, 3, 5] else if i = 2 then some [0, 3, 5, 10] else if i = 3 then some [0, 3, 5, 10, 11] else if i = 4 then some [3, 5, 16] else if i = 5 then some [4] else if i = 6 then some [3, 5, 22] else if i = 7 then some [3, 5] else if i = 8 then some [4] else if i = 9 then some [0, 3, 5, 10, 33] else if i = 10 then some [0, 3, 5, 39] else if i = 11 then some [4] else if i = 12 then some [0, 3, 5, 10, 52] else if i = 13 then some [3, 5, 58] else if i = 14 then some [5] else if i = 15 then some [5, 71] else if i = 16 then some [4] else if i = 17 then some [4] else none, fun _ => none⟩
noncomputable def Phi_spec_TakeLine : Tab := fun f => if f = 18 then some spWithin else none
attribute [go_sem] T_spec_TakeLine Phi_spec_TakeLine
theorem phi_spec_TakeLine : ∀ f sp, Phi_spec_TakeLine f = some sp → FnOk Try.prog f sp ∧ ∀ n ∈ sp.need, n ∈ ([] : List String) := by
  intro f sp h
  unfold Phi_spec_TakeLine at h
  by_cases e : f = 18
  · rw [if_pos e] at h; cases h; rw [e]; exact ⟨ok_spec_l01In, (fun n (h : n ∈ ([] : List String)) => (nomatch h))⟩
  rw [if_neg e] at h
  cases h
theorem ok_spec_TakeLine : FnOk Try.prog 9 spTakeLine := by
  refine fn_ok (Φ := Phi_spec_TakeLine) (T := T_spec_TakeLine) phi_spec_TakeLine mixed Try.func9 rfl rfl rfl (by decide) ?_
  intro ins r outs hr hl
  clear hl
  have hs := spTakeLine_in hr
  clear hr
  obtain ⟨l, x, rfl, hc, hr, rfl⟩ := hs
  simp only [spTakeLine, Try.f9, Go.VM.initS]
  obtain ⟨hl, hx⟩ := hc
  obtain ⟨K, N, U, F, M, S, A⟩ := x
  have hb1 : l.length * 24 ≤ 140737488355328 := by omega
  have hb2 : l.length ≤ 9223372036854775807 := by omega
  have hs : S.length ≤ 4194304 := hx.1
  clear hx
  by_cases h1 : K = 1
  · subst h1
    cases hw : within N 0 30 with
    | false =>
      simp only [hl, hb1, hb2, hw, go_sem]
      repeat' ((first | ((first | apply qa | apply qb | apply qc | apply qd | apply qe | apply qf | apply qg | apply qh | apply qi | apply qj | apply qk) <;> intro hp) | ((first | refine ql rfl rfl (by decide +kernel) ?_ | refine qm _ rfl rfl (by decide +kernel) ?_ | refine goes_opn rfl ?_ | refine goes_opnD rfl rfl (by decide +kernel) ?_) <;> have hp := True.intro)) <;> simp only [hp, hl, hb1, hb2, hw, go_sem])
      all_goals (simp only [fin_mk, finV, resL, resV1, resIn, endA, listIn, Option.some_or, Option.none_or, oneOrTup, go_sem]; rw [← hr])
      all_goals simp only [takeLine, hw, if_true, Bool.false_eq_true, if_false]
    | true =>
      simp only [hl, hb1, hb2, hw, go_sem]
      repeat' ((first | ((first | apply qa | apply qb | apply qc | apply qd | apply qe | apply qf | apply qg | apply qh | apply qi | apply qj | apply qk) <;> intro hp) | ((first | refine ql rfl rfl (by decide +kernel) ?_ | refine qm _ rfl rfl (by decide +kernel) ?_ | refine goes_opn rfl ?_ | refine goes_opnD rfl rfl (by decide +kernel) ?_) <;> have hp := True.intro)) <;> simp only [hp, hl, hb1, hb2, hw, go_sem])
      have hn : 0 ≤ N ∧ N ≤ 30 := by simpa only [within, Bool.and_eq_true, decide_eq_true_eq] using hw
      obtain ⟨n, rfl⟩ : ∃ n : Nat, N = n := ⟨N.toNat, by omega⟩
      refine loop_go (fun _ : Nat => []) (fun i => [(1, ⟨.arr, 3, (growTo l i).map Seen.enc⟩)]) (fun i => n - i) (fun i => l.length ≤ i ∧ i ≤ max n l.length) l.length ⟨Nat.le_refl _, by omega⟩ rfl ?_ ?_
      · rw [growTo_id (Nat.le_refl _)]; rfl
      intro i ⟨hi, hm⟩ ih
      have hlen : (growTo l i).length = i := by rw [growTo_len]; omega
      rcases Nat.lt_or_ge i n with h | h
      · have g1 : (i : Int) < n := by omega
        have g2 : (i + 1) * 24 ≤ 140737488355328 := by omega
        have g3 : i + 1 ≤ 9223372036854775807 := by omega
        have ih' := ih (i + 1) ⟨by omega, by omega⟩ (by omega)
        rw [← growTo_step hi, List.map_append] at ih'
        simp only [g1, hlen, g2, g3, go_sem]
        repeat' ((first | ((first | apply qa | apply qb | apply qc | apply qd | apply qe | apply qf | apply qg | apply qh | apply qi | apply qj | apply qk) <;> intro hp) | ((first | refine ql rfl rfl (by decide +kernel) ?_ | refine qm _ rfl rfl (by decide +kernel) ?_ | refine goes_opn rfl ?_ | refine goes_opnD rfl rfl (by decide +kernel) ?_) <;> have hp := True.intro)) <;> simp only [hp, g1, hlen, g2, g3, go_sem])
        exact ih'
      · have g1 : ¬ (i : Int) < n := by omega
        have g2 : n ≤ i := h
        have hG : growTo l i = growTo l n := by
          rcases Nat.le_total l.length n with h2 | h2
          · rw [show i = n by omega]
          · rw [show i = l.length by omega, growTo_id (Nat.le_refl _), growTo_id h2]
        have g0 : (0 : Int) ≤ n := hn.1
        have k1 : n * 24 ≤ 140737488355328 := by omega
        have k2 : n ≤ 9223372036854775807 := by omega
        simp only [g0, g1, hlen, g2, k1, k2, Nat.sub_zero, Nat.zero_le, List.length_take, Nat.min_eq_left g2, go_sem]
        repeat' ((first | ((first | apply qa | apply qb | apply qc | apply qd | apply qe | apply qf | apply qg | apply qh | apply qi | apply qj | apply qk) <;> intro hp) | ((first | refine ql rfl rfl (by decide +kernel) ?_ | refine qm _ rfl rfl (by decide +kernel) ?_ | refine goes_opn rfl ?_ | refine goes_opnD rfl rfl (by decide +kernel) ?_) <;> have hp := True.intro)) <;> simp only [hp, g0, g1, hlen, g2, k1, k2, Nat.sub_zero, Nat.zero_le, List.length_take, Nat.min_eq_left g2, go_sem])
        simp only [fin_mk, finV, resL, resV1, resIn, endA, listIn, Option.some_or, Option.none_or, oneOrTup, go_sem]
        rw [← hr]
        simp only [takeLine, hw, if_true, hG, Int.toNat_natCast, ← List.map_take]
  by_cases h2 : K = 2
  · subst h2
    cases hw : within N 1 l.length with
    | false =>
      simp only [hl, hb1, hb2, hw, go_sem]
      repeat' ((first | ((first | apply qa | apply qb | apply qc | apply qd | apply qe | apply qf | apply qg | apply qh | apply qi | apply qj | apply qk) <;> intro hp) | ((first | refine ql rfl rfl (by decide +kernel) ?_ | refine qm _ rfl rfl (by decide +kernel) ?_ | refine goes_opn rfl ?_ | refine goes_opnD rfl rfl (by decide +kernel) ?_) <;> have hp := True.intro)) <;> simp only [hp, hl, hb1, hb2, hw, go_sem])
      all_goals (simp only [fin_mk, finV, resL, resV1, resIn, endA, listIn, Option.some_or, Option.none_or, oneOrTup, go_sem]; rw [← hr])
      all_goals simp only [takeLine, hw, Int.reduceEq, if_true, Bool.false_eq_true, if_false]
    | true =>
      have hn : 1 ≤ N ∧ N ≤ l.length := by simpa only [within, Bool.and_eq_true, decide_eq_true_eq] using hw
      obtain ⟨a, ha⟩ : ∃ a : Nat, N - 1 = a := ⟨(N - 1).toNat, by omega⟩
      have hN : N = ((a + 1 : Nat) : Int) := by omega
      have w1 : IntKind.i64.wrap (((a + 1 : Nat) : Int) - 1) = a := (wrap64 (by omega) (by omega)).trans (by omega)
      have g0 : (0 : Int) ≤ a := by omega
      have g1 : a ≤ l.length := by omega
      have g2 : a + 1 ≤ l.length := by omega
      have g3 : a * 24 ≤ 140737488355328 := by omega
      have g4 : a ≤ 9223372036854775807 := by omega
      have g5 : (a + (l.length - (a + 1))) * 24 ≤ 140737488355328 := by omega
      have g6 : a + (l.length - (a + 1)) ≤ 9223372036854775807 := by omega
      have g7 : (0 : Int) ≤ ((a + 1 : Nat) : Int) := by omega
      have hT : takeLine l ⟨2, N, U, F, M, S, A⟩ = l.take a ++ l.drop (a + 1) := by
        have e1 : (N - 1).toNat = a := by omega
        have e2 : N.toNat = a + 1 := by omega
        simp only [takeLine, hw, Int.reduceEq, if_true, if_false, e1, e2]
      rw [hT] at hr
      clear hT ha
      subst hN
      simp only [hl, hb1, hb2, hw, w1, g0, g1, g2, g3, g4, g5, g6, g7, Nat.zero_le, Nat.sub_zero, List.length_take, List.length_drop, Nat.min_eq_left g1, Nat.min_self, Nat.le_refl, go_sem]
      repeat' ((first | ((first | apply qa | apply qb | apply qc | apply qd | apply qe | apply qf | apply qg | apply qh | apply qi | apply qj | apply qk) <;> intro hp) | ((first | refine ql rfl rfl (by decide +kernel) ?_ | refine qm _ rfl rfl (by decide +kernel) ?_ | refine goes_opn rfl ?_ | refine goes_opnD rfl rfl (by decide +kernel) ?_) <;> have hp := True.intro)) <;> simp only [hp, hl, hb1, hb2, hw, w1, g0, g1, g2, g3, g4, g5, g6, g7, Nat.zero_le, Nat.sub_zero, List.length_take, List.length_drop, Nat.min_eq_left g1, Nat.min_self, Nat.le_refl, go_sem])
      all_goals (simp only [fin_mk, finV, resL, resV1, resIn, endA, listIn, Option.some_or, Option.none_or, oneOrTup, go_sem]; rw [← hr])
      all_goals simp only [List.take_length, List.map_append]
  by_cases h3 : K = 3
  · subst h3
    cases hw : within N 1 l.length with
    | false =>
      simp only [hl, hb1, hb2, hw, go_sem]
      repeat' ((first | ((first | apply qa | apply qb | apply qc | apply qd | apply qe | apply qf | apply qg | apply qh | apply qi | apply qj | apply qk) <;> intro hp) | ((first | refine ql rfl rfl (by decide +kernel) ?_ | refine qm _ rfl rfl (by decide +kernel) ?_ | refine goes_opn rfl ?_ | refine goes_opnD rfl rfl (by decide +kernel) ?_) <;> have hp := True.intro)) <;> simp only [hp, hl, hb1, hb2, hw, go_sem])
      all_goals (simp only [fin_mk, finV, resL, resV1, resIn, endA, listIn, Option.some_or, Option.none_or, oneOrTup, go_sem]; rw [← hr])
      all_goals simp only [takeLine, hw, Int.reduceEq, if_true, Bool.false_eq_true, if_false]
    | true =>
      have hn : 1 ≤ N ∧ N ≤ l.length := by simpa only [within, Bool.and_eq_true, decide_eq_true_eq] using hw
      obtain ⟨a, ha⟩ : ∃ a : Nat, N - 1 = a := ⟨(N - 1).toNat, by omega⟩
      have w1 : IntKind.i64.wrap (N - 1) = a := (wrap64 (by omega) (by omega)).trans ha
      have g1 : (0 : Int) ≤ a := by omega
      have g2 : (a : Int) < l.length := by omega
      have g3 : l[a]? = some (l[a]'(by omega)) := List.getElem?_eq_getElem (by omega)
      simp only [hl, hb1, hb2, hw, w1, g1, g2, g3, go_sem]
      repeat' ((first | ((first | apply qa | apply qb | apply qc | apply qd | apply qe | apply qf | apply qg | apply qh | apply qi | apply qj | apply qk) <;> intro hp) | ((first | refine ql rfl rfl (by decide +kernel) ?_ | refine qm _ rfl rfl (by decide +kernel) ?_ | refine goes_opn rfl ?_ | refine goes_opnD rfl rfl (by decide +kernel) ?_) <;> have hp := True.intro)) <;> simp only [hp, hl, hb1, hb2, hw, w1, g1, g2, g3, go_sem])
      simp only [fin_mk, finV, resL, resV1, resIn, endA, listIn, Option.some_or, Option.none_or, oneOrTup, go_sem]
      rw [← hr]
      simp only [takeLine, hw, Int.reduceEq, if_true, if_false, ha, Int.toNat_natCast, List.map_set]
      rfl
  by_cases h9 : K = 9
  · subst h9
    simp only [hl, hb1, hb2, go_sem]
    repeat' ((first | ((first | apply qa | apply qb | apply qc | apply qd | apply qe | apply qf | apply qg | apply qh | apply qi | apply qj | apply qk) <;> intro hp) | ((first | refine ql rfl rfl (by decide +kernel) ?_ | refine qm _ rfl rfl (by decide +kernel) ?_ | refine goes_opn rfl ?_ | refine goes_opnD rfl rfl (by decide +kernel) ?_) <;> have hp := True.intro)) <;> simp only [hp, hl, hb1, hb2, go_sem])
    simp only [fin_mk, finV, resL, resV1, resIn, endA, listIn, Option.some_or, Option.none_or, oneOrTup, go_sem]
    rw [← hr]
    rfl
  have e1 : (K == 1) = false := beq_eq_false_iff_ne.2 h1
  have e2 : (K == 2) = false := beq_eq_false_iff_ne.2 h2
  have e3 : (K == 3) = false := beq_eq_false_iff_ne.2 h3
  have e9 : (K == 9) = false := beq_eq_false_iff_ne.2 h9
  simp only [hl, hb1, hb2, e1, e2, e3, e9, go_sem]
  repeat' ((first | ((first | apply qa | apply qb | apply qc | apply qd | apply qe | apply qf | apply qg | apply qh | apply qi | apply qj | apply qk) <;> intro hp) | ((first | refine ql rfl rfl (by decide +kernel) ?_ | refine qm _ rfl rfl (by decide +kernel) ?_ | refine goes_opn rfl ?_ | refine goes_opnD rfl rfl (by decide +kernel) ?_) <;> have hp := True.intro)) <;> simp only [hp, hl, hb1, hb2, e1, e2, e3, e9, go_sem])
  simp only [fin_mk, finV, resL, resV1, resIn, endA, listIn, Option.some_or, Option.none_or, oneOrTup, go_sem]
  rw [← hr]
  simp only [takeLine, h1, h2, h3, h9, if_false]
theorem takeLine_le {l : List Seen} {x : Line} (h : l.length ≤ 4194304) : (takeLine l x).length ≤ 4194304 := by
  unfold takeLine
  split
  · split
    · rename_i hw
      have hn : 0 ≤ x.Num ∧ x.Num ≤ 30 := by simpa only [within, Bool.and_eq_true, decide_eq_true_eq] using hw
      rw [List.length_take]; omega
    · exact h
  · split
    · split
      · rw [List.length_append, List.length_take, List.length_drop]
        rename_i hw
        have hn : 1 ≤ x.Num ∧ x.Num ≤ l.length := by simpa only [within, Bool.and_eq_true, decide_eq_true_eq] using hw
        omega
      · exact h
    · split
      · split
        · rw [List.length_set]; exact h
        · exact h
      · split
        · simp
        · exact h
end Go.Proofs.Ytknagbmhmjcnkaa.L
