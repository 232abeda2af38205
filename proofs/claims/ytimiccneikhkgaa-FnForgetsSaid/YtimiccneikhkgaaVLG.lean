/- Boxes: tombs that are forgotten; the library's DeleteFunc. -/
import Derived.Test.YtimiccneikhkgaaVLH
namespace Go.Proofs.Ytimiccneikhkgaa.L
open Go Go.VM
set_option maxRecDepth 100000
set_option maxHeartbeats 4000000
set_option linter.unusedSimpArgs false
set_option linter.unusedVariables false
theorem idxL_at {α : Type} {p : α → Bool} : ∀ {l : List α} {i : Nat}, idxL p l = i → (∀ x ∈ l.take i, p x = false) ∧ ∀ {h : i < l.length}, p l[i] = true
  | [], i, h => by simp [idxL] at h
  | x :: l, i, h => by
    simp only [idxL] at h
    split at h
    · rename_i hx
      have : i = 0 := by omega
      subst this
      exact ⟨by simp, fun {h} => by simpa using hx⟩
    · rename_i hx
      split at h
      · omega
      · have hge := idxL_ge p l
        obtain ⟨k, hk⟩ : ∃ k : Nat, idxL p l = k := ⟨(idxL p l).toNat, by omega⟩
        have : i = k + 1 := by omega
        subst this
        obtain ⟨h1, h2⟩ := idxL_at hk
        refine ⟨?_, fun {h} => by simpa using h2 (h := by simpa using h)⟩
        intro y hy
        rw [List.take_succ_cons] at hy
        rcases List.mem_cons.1 hy with rfl | hy
        · simpa using hx
        · exact h1 y hy
open Classical in
noncomputable def spForgotten : VM.Spec := { modes := [.rd, .rd], run := fun | [t', .rptr (.int .i64 u)] => (Tomb.dec t').bind fun t => some (.bool (decide (t.Mod ≤ u)), []) | _ => none, need := [] }
attribute [go_sem] spForgotten
theorem spForgotten_in {ins : List V} {r : V} {outs : List V} (h : spForgotten.run ins = some (r, outs)) : ∃ (t : Tomb) (u : Int), ins = [Tomb.enc t, .rptr (.int .i64 u)] ∧ .bool (decide (t.Mod ≤ u)) = r ∧ outs = [] := by
  unfold spForgotten at h
  simp only at h
  split at h
  · rename_i t' u
    simp only [Option.bind_eq_some_iff] at h
    obtain ⟨t, h_t, h⟩ := h
    simp only [Option.some.injEq, Prod.mk.injEq] at h
    obtain ⟨h1, h2⟩ := h
    have h_t := Tomb.dec_some h_t
    subst h_t
    exact ⟨t, u, rfl, h1, h2.symm⟩
  · cases h
def T_impl_ForgetTombs_1 : Hints := ⟨fun _ => none, fun _ => none, fun i => if i = 0 then some [1, 2] else if i = 1 then some [3] else none, fun _ => none⟩
noncomputable def Phi_impl_ForgetTombs_1 : Tab := fun f => none
attribute [go_sem] T_impl_ForgetTombs_1 Phi_impl_ForgetTombs_1
theorem phi_impl_ForgetTombs_1 : ∀ f sp, Phi_impl_ForgetTombs_1 f = some sp → FnOk Try.prog f sp ∧ ∀ n ∈ sp.need, n ∈ ([] : List String) := by
  intro f sp h
  unfold Phi_impl_ForgetTombs_1 at h
  cases h
theorem ok_impl_ForgetTombs_1 : FnOk Try.prog 20 spForgotten := by
  refine fn_ok (Φ := Phi_impl_ForgetTombs_1) (T := T_impl_ForgetTombs_1) phi_impl_ForgetTombs_1 mixed Try.func20 rfl rfl rfl (by decide) ?_
  intro ins r outs hr hl
  clear hl
  have hs := spForgotten_in hr
  clear hr
  obtain ⟨t, u, rfl, hr, rfl⟩ := hs
  simp only [spForgotten, Try.f20, Go.VM.initS]
  simp only [go_sem]
  simp only [fin_mk, finV, resL, resV1, resIn, endA, listIn, Option.some_or, Option.none_or, oneOrTup, go_sem]
  rw [← hr]
open Classical in
noncomputable def spIdxForgotten : VM.Spec := { modes := [.rd, .rd], run := fun | [.lst 2 l', .fn 20 [.rptr (.int .i64 u)]] => (decL Tomb.dec l').bind fun l => if l.length ≤ 4194304 then some (.int .i64 (idxL (fun x => decide (x.Mod ≤ u)) l), []) else none | _ => none, need := [] }
attribute [go_sem] spIdxForgotten
theorem spIdxForgotten_in {ins : List V} {r : V} {outs : List V} (h : spIdxForgotten.run ins = some (r, outs)) : ∃ (l : (List Tomb)) (u : Int), ins = [.lst 2 ((l).map Tomb.enc), .fn 20 [.rptr (.int .i64 u)]] ∧ (l.length ≤ 4194304) ∧ .int .i64 (idxL (fun x => decide (x.Mod ≤ u)) l) = r ∧ outs = [] := by
  unfold spIdxForgotten at h
  simp only at h
  split at h
  · rename_i l' u
    simp only [Option.bind_eq_some_iff] at h
    obtain ⟨l, h_l, h⟩ := h
    split at h
    case isFalse => cases h
    rename_i hc
    simp only [Option.some.injEq, Prod.mk.injEq] at h
    obtain ⟨h1, h2⟩ := h
    have h_l := decL_some (fun _ _ h => Tomb.dec_some h) h_l
    subst h_l
    exact ⟨l, u, rfl, hc, h1, h2.symm⟩
  · cases h
def T_slices_IndexFunc_loop_example_g00247_impl_Tomb_loop_example_g00247_impl_Tomb_forget : Hints := ⟨fun _ => none, fun i => if i = 2 then some [0, 1, 7, 8] else none, fun i => if i = 0 then some [0, 1] else if i = 1 then some [0, 1, 7, 8] else if i = 2 then some [0, 1, 7, 8, 9] else if i = 3 then some [0, 1, 5, 7, 8] else if i = 4 then some [0, 1, 5, 7, 8, 16] else if i = 5 then some [4] else if i = 6 then some [0, 1, 7, 8] else if i = 7 then some [4] else none, fun _ => none⟩
noncomputable def Phi_slices_IndexFunc_loop_example_g00247_impl_Tomb_loop_example_g00247_impl_Tomb_forget : Tab := fun f => if f = 20 then some spForgotten else none
attribute [go_sem] T_slices_IndexFunc_loop_example_g00247_impl_Tomb_loop_example_g00247_impl_Tomb_forget Phi_slices_IndexFunc_loop_example_g00247_impl_Tomb_loop_example_g00247_impl_Tomb_forget
theorem phi_slices_IndexFunc_loop_example_g00247_impl_Tomb_loop_example_g00247_impl_Tomb_forget : ∀ f sp, Phi_slices_IndexFunc_loop_example_g00247_impl_Tomb_loop_example_g00247_impl_Tomb_forget f = some sp → FnOk Try.prog f sp ∧ ∀ n ∈ sp.need, n ∈ ([] : List String) := by
  intro f sp h
  unfold Phi_slices_IndexFunc_loop_example_g00247_impl_Tomb_loop_example_g00247_impl_Tomb_forget at h
  by_cases e : f = 20
  · rw [if_pos e] at h; cases h; rw [e]; exact ⟨ok_impl_ForgetTombs_1, (fun n (h : n ∈ ([] : List String)) => (nomatch h))⟩
  rw [if_neg e] at h
  cases h
theorem ok_slices_IndexFunc_loop_example_g00247_impl_Tomb_loop_example_g00247_impl_Tomb_forget : FnOk Try.prog 38 spIdxForgotten := by
  refine fn_ok (Φ := Phi_slices_IndexFunc_loop_example_g00247_impl_Tomb_loop_example_g00247_impl_Tomb_forget) (T := T_slices_IndexFunc_loop_example_g00247_impl_Tomb_loop_example_g00247_impl_Tomb_forget) phi_slices_IndexFunc_loop_example_g00247_impl_Tomb_loop_example_g00247_impl_Tomb_forget mixed Try.func38 rfl rfl rfl (by decide) ?_
  intro ins r outs hr hl
  clear hl
  have hs := spIdxForgotten_in hr
  clear hr
  obtain ⟨l, u, rfl, hc, hr, rfl⟩ := hs
  simp only [spIdxForgotten, Try.f38, Go.VM.initS]
  simp only [go_sem]
  refine loop_go (fun i : Nat => [(8, .int .i64 (i : Int))]) (fun _ => []) (fun i => l.length - i) (fun i => i ≤ l.length ∧ ∀ j (hj : j < i) (hl : j < l.length), (fun x => decide (x.Mod ≤ u)) l[j] = false) 0 ⟨Nat.zero_le _, fun j hj => absurd hj (by omega)⟩ rfl rfl ?_
  intro i ⟨hi, ha⟩ ih
  rcases Nat.lt_or_ge i l.length with h | h
  · have g1 : (i : Int) < l.length := by omega
    have g2 : (0 : Int) ≤ i := by omega
    have g3 : l[i]? = some l[i] := List.getElem?_eq_getElem h
    have g5 := wrap_succ h (by omega)
    cases hb : (fun x => decide (x.Mod ≤ u)) l[i] with
    | true =>
      simp only [g1, g2, g3, g5, hb, go_sem]
      repeat' ((first | ((first | apply qa | apply qb | apply qc | apply qd | apply qe | apply qf | apply qg | apply qh | apply qi | apply qj | apply qk) <;> intro hp) | ((first | refine ql rfl rfl (by decide +kernel) ?_ | refine qm _ rfl rfl (by decide +kernel) ?_ | refine goes_opn rfl ?_ | refine goes_opnD rfl rfl (by decide +kernel) ?_) <;> have hp := True.intro)) <;> simp only [hp, g1, g2, g3, g5, hb, go_sem])
      simp only [fin_mk, finV, resL, resV1, resIn, endA, listIn, Option.some_or, Option.none_or, oneOrTup, go_sem]
      rw [← hr]
      rw [idxL_hit h (fun j hj => ha j hj (by omega)) hb]
    | false =>
      simp only [g1, g2, g3, g5, hb, go_sem]
      repeat' ((first | ((first | apply qa | apply qb | apply qc | apply qd | apply qe | apply qf | apply qg | apply qh | apply qi | apply qj | apply qk) <;> intro hp) | ((first | refine ql rfl rfl (by decide +kernel) ?_ | refine qm _ rfl rfl (by decide +kernel) ?_ | refine goes_opn rfl ?_ | refine goes_opnD rfl rfl (by decide +kernel) ?_) <;> have hp := True.intro)) <;> simp only [hp, g1, g2, g3, g5, hb, go_sem])
      refine ih (i + 1) ⟨h, fun j hj hl => ?_⟩ (by omega)
      rcases Nat.lt_or_ge j i with h1 | h1
      · exact ha j h1 hl
      · have : j = i := by omega
        subst this; exact hb
  · have g1 : ¬ (i : Int) < l.length := by omega
    simp only [g1, go_sem]
    simp only [fin_mk, finV, resL, resV1, resIn, endA, listIn, Option.some_or, Option.none_or, oneOrTup, go_sem]
    rw [← hr]
    rw [idxL_miss fun j hj => ha j (by omega) hj]
open Classical in
noncomputable def spDelForgotten : VM.Spec := { modes := [.use, .rd], run := fun | [.lst 2 l', .fn 20 [.rptr (.int .i64 u)]] => (decL Tomb.dec l').bind fun l => if l.length ≤ 4194304 then some (.lst 2 ((l.filter (fun x => !decide (x.Mod ≤ u))).map Tomb.enc), []) else none | _ => none, need := [] }
attribute [go_sem] spDelForgotten
theorem spDelForgotten_in {ins : List V} {r : V} {outs : List V} (h : spDelForgotten.run ins = some (r, outs)) : ∃ (l : (List Tomb)) (u : Int), ins = [.lst 2 ((l).map Tomb.enc), .fn 20 [.rptr (.int .i64 u)]] ∧ (l.length ≤ 4194304) ∧ .lst 2 ((l.filter (fun x => !decide (x.Mod ≤ u))).map Tomb.enc) = r ∧ outs = [] := by
  unfold spDelForgotten at h
  simp only at h
  split at h
  · rename_i l' u
    simp only [Option.bind_eq_some_iff] at h
    obtain ⟨l, h_l, h⟩ := h
    split at h
    case isFalse => cases h
    rename_i hc
    simp only [Option.some.injEq, Prod.mk.injEq] at h
    obtain ⟨h1, h2⟩ := h
    have h_l := decL_some (fun _ _ h => Tomb.dec_some h) h_l
    subst h_l
    exact ⟨l, u, rfl, hc, h1, h2.symm⟩
  · cases h
def T_slices_DeleteFunc_loop_example_g00247_impl_Tomb_loop_example_g00247_impl_Tomb_forget : Hints := ⟨fun _ => none, fun i => if i = 5 then some [0, 1, 5, 6] else none, fun i => if i = 0 then some [0, 1] else if i = 1 then some [0, 1, 5] else if i = 2 then some [0, 1, 5, 12] else if i = 3 then some [4] else if i = 4 then some [0, 1, 5, 6] else if i = 5 then some [0, 1, 5, 6, 19] else if i = 7 then some [0, 1, 5, 6, 7] else if i = 8 then some [0, 1, 5, 6, 7, 29] else if i = 9 then some [0, 1, 5, 6] else if i = 10 then some [0, 1, 5, 6] else if i = 6 then some [0, 1, 5, 6] else if i = 11 then some [0, 5] else if i = 12 then some [4] else none, fun _ => none⟩
noncomputable def Phi_slices_DeleteFunc_loop_example_g00247_impl_Tomb_loop_example_g00247_impl_Tomb_forget : Tab := fun f => if f = 38 then some spIdxForgotten else if f = 20 then some spForgotten else none
attribute [go_sem] T_slices_DeleteFunc_loop_example_g00247_impl_Tomb_loop_example_g00247_impl_Tomb_forget Phi_slices_DeleteFunc_loop_example_g00247_impl_Tomb_loop_example_g00247_impl_Tomb_forget
theorem phi_slices_DeleteFunc_loop_example_g00247_impl_Tomb_loop_example_g00247_impl_Tomb_forget : ∀ f sp, Phi_slices_DeleteFunc_loop_example_g00247_impl_Tomb_loop_example_g00247_impl_Tomb_forget f = some sp → FnOk Try.prog f sp ∧ ∀ n ∈ sp.need, n ∈ ([] : List String) := by
  intro f sp h
  unfold Phi_slices_DeleteFunc_loop_example_g00247_impl_Tomb_loop_example_g00247_impl_Tomb_forget at h
  by_cases e : f = 38
  · rw [if_pos e] at h; cases h; rw [e]; exact ⟨ok_slices_IndexFunc_loop_example_g00247_impl_Tomb_loop_example_g00247_impl_Tomb_forget, (fun n (h : n ∈ ([] : List String)) => (nomatch h))⟩
  rw [if_neg e] at h
  by_cases e : f = 20
  · rw [if_pos e] at h; cases h; rw [e]; exact ⟨ok_impl_ForgetTombs_1, (fun n (h : n ∈ ([] : List String)) => (nomatch h))⟩
  rw [if_neg e] at h
  cases h
theorem ok_slices_DeleteFunc_loop_example_g00247_impl_Tomb_loop_example_g00247_impl_Tomb_forget : FnOk Try.prog 19 spDelForgotten := by
  refine fn_ok (Φ := Phi_slices_DeleteFunc_loop_example_g00247_impl_Tomb_loop_example_g00247_impl_Tomb_forget) (T := T_slices_DeleteFunc_loop_example_g00247_impl_Tomb_loop_example_g00247_impl_Tomb_forget) phi_slices_DeleteFunc_loop_example_g00247_impl_Tomb_loop_example_g00247_impl_Tomb_forget mixed Try.func19 rfl rfl rfl (by decide) ?_
  intro ins r outs hr hl
  clear hl
  have hs := spDelForgotten_in hr
  clear hr
  obtain ⟨l, u, rfl, hc, hr, rfl⟩ := hs
  simp only [spDelForgotten, Try.f19, Go.VM.initS]
  have hge := idxL_ge (fun x => decide (x.Mod ≤ u)) l
  by_cases h0 : idxL (fun x => decide (x.Mod ≤ u)) l = -1
  · have e0 : (idxL (fun x => decide (x.Mod ≤ u)) l == -1) = true := by rw [h0]; rfl
    simp only [hc, e0, go_sem]
    repeat' ((first | ((first | apply qa | apply qb | apply qc | apply qd | apply qe | apply qf | apply qg | apply qh | apply qi | apply qj | apply qk) <;> intro hp) | ((first | refine ql rfl rfl (by decide +kernel) ?_ | refine qm _ rfl rfl (by decide +kernel) ?_ | refine goes_opn rfl ?_ | refine goes_opnD rfl rfl (by decide +kernel) ?_) <;> have hp := True.intro)) <;> simp only [hp, hc, e0, go_sem])
    simp only [fin_mk, finV, resL, resV1, resIn, endA, listIn, Option.some_or, Option.none_or, oneOrTup, go_sem]
    rw [← hr]
    rw [List.filter_eq_self.2 fun x hx => ?_]
    have := idxL_any (fun x => decide (x.Mod ≤ u)) l
    rw [h0] at this
    have h1 : l.any (fun x => decide (x.Mod ≤ u)) = false := by rw [← this]; rfl
    have h2 := (List.any_eq_false.1 h1) x hx
    simpa using h2
  have e0 : (idxL (fun x => decide (x.Mod ≤ u)) l == -1) = false := by rw [beq_eq_false_iff_ne]; exact h0
  obtain ⟨i0, hi0⟩ : ∃ i0 : Nat, idxL (fun x => decide (x.Mod ≤ u)) l = i0 := ⟨(idxL (fun x => decide (x.Mod ≤ u)) l).toNat, by omega⟩
  have hlt : i0 < l.length := by omega
  have w1 : IntKind.i64.wrap ((i0 : Int) + 1) = ((i0 + 1 : Nat) : Int) := wrap_succ hlt (by omega)
  rw [hi0] at e0
  simp only [hc, hi0, e0, w1, go_sem]
  repeat' ((first | ((first | apply qa | apply qb | apply qc | apply qd | apply qe | apply qf | apply qg | apply qh | apply qi | apply qj | apply qk) <;> intro hp) | ((first | refine ql rfl rfl (by decide +kernel) ?_ | refine qm _ rfl rfl (by decide +kernel) ?_ | refine goes_opn rfl ?_ | refine goes_opnD rfl rfl (by decide +kernel) ?_) <;> have hp := True.intro)) <;> simp only [hp, hc, hi0, e0, w1, go_sem])
  obtain ⟨hpre, hat⟩ := idxL_at hi0
  have hk0 : (l.take (i0 + 1)).filter (fun x => !decide (x.Mod ≤ u)) = l.take i0 := by
    rw [take_succ' hlt, List.filter_append, List.filter_eq_self.2 fun x hx => ?_]
    · have : (fun x : Tomb => !decide (x.Mod ≤ u)) l[i0] = false := by simpa using hat
      simp only at this
      rw [List.filter_cons, this]; simp
    · have := hpre x hx
      simpa using this
  refine loop_go (fun p : Nat × List Tomb => [(5, .int .i64 (((l.take p.1).filter (fun x => !decide (x.Mod ≤ u))).length : Int)), (6, .int .i64 (p.1 : Int))]) (fun p => [(0, ⟨.arr, 2, p.2.map Tomb.enc⟩)]) (fun p => l.length - p.1)
    (fun p => p.1 ≤ l.length ∧ i0 < p.1 ∧ p.2.length = l.length ∧ p.2.take ((l.take p.1).filter (fun x => !decide (x.Mod ≤ u))).length = (l.take p.1).filter (fun x => !decide (x.Mod ≤ u)) ∧ p.2.drop p.1 = l.drop p.1) (i0 + 1, l) ⟨hlt, by simp, rfl, by simp only [hk0, List.length_take]; rw [Nat.min_eq_left (by omega)], rfl⟩ ?_ rfl ?_
  · simp only [hk0, List.length_take, Nat.min_eq_left (Nat.le_of_lt hlt)]; rfl
  rintro ⟨j, gl⟩ ⟨hj, hij, hgl, htk, hdr⟩ ih
  simp only at hj hij hgl htk hdr ih
  have hkl : ((l.take j).filter (fun x => !decide (x.Mod ≤ u))).length < j := by
    have h1 : (l.take j).filter (fun x => !decide (x.Mod ≤ u)) = (l.take i0).filter (fun x => !decide (x.Mod ≤ u)) ++ ((l.take j).drop i0).filter (fun x => !decide (x.Mod ≤ u)) := by
      rw [← List.filter_append]
      congr 1
      have := List.take_append_drop i0 (l.take j)
      rw [List.take_take, Nat.min_eq_left (by omega)] at this
      exact this.symm
    have h2 : (l.take j).drop i0 = l[i0] :: (l.take j).drop (i0 + 1) := by
      rw [List.drop_eq_getElem_cons (by rw [List.length_take]; omega), List.getElem_take]
    rw [h1, h2]
    have h3 : (fun x : Tomb => !decide (x.Mod ≤ u)) l[i0] = false := by simpa using hat
    simp only at h3
    rw [List.filter_cons, h3]
    simp only [Bool.false_eq_true, if_false, List.length_append]
    have h4 := List.length_filter_le (fun x : Tomb => !decide (x.Mod ≤ u)) (l.take i0)
    have h5 := List.length_filter_le (fun x : Tomb => !decide (x.Mod ≤ u)) ((l.take j).drop (i0 + 1))
    rw [List.length_take] at h4
    rw [List.length_drop, List.length_take] at h5
    omega
  generalize hK : ((l.take j).filter (fun x => !decide (x.Mod ≤ u))) = K at *
  rcases Nat.lt_or_ge j l.length with h | h
  · have g1 : (j : Int) < l.length := by omega
    have g2 : (0 : Int) ≤ j := by omega
    have gj : gl[j]? = some l[j] := by
      have := congrArg (fun x => x[0]?) hdr
      simp only [List.getElem?_drop, Nat.add_zero] at this
      rw [this]; exact List.getElem?_eq_getElem h
    have g5 := wrap_succ h (by omega)
    have g6 : (K.length : Int) < l.length := by omega
    have g7 : (0 : Int) ≤ K.length := by omega
    have g8 := wrap_succ (show K.length < l.length by omega) (by omega)
    have g9 : gl[K.length]? = some (gl[K.length]'(by omega)) := List.getElem?_eq_getElem (by omega)
    cases hp : (fun x : Tomb => decide (x.Mod ≤ u)) l[j] with
    | true =>
      have hf : (l.take (j + 1)).filter (fun x => !decide (x.Mod ≤ u)) = K := by
        rw [filter_succ h, hK, if_neg (by simpa using hp), List.append_nil]
      have ih' := ih (j + 1, gl) ⟨h, by simp only; omega, hgl, by simp only [hf]; exact htk, by simp only; rw [← List.drop_drop, hdr, List.drop_drop]⟩ (by simp only; omega)
      simp only [hf] at ih'
      simp only [g1, g2, gj, g5, hgl, hp, go_sem]
      repeat' ((first | ((first | apply qa | apply qb | apply qc | apply qd | apply qe | apply qf | apply qg | apply qh | apply qi | apply qj | apply qk) <;> intro hp) | ((first | refine ql rfl rfl (by decide +kernel) ?_ | refine qm _ rfl rfl (by decide +kernel) ?_ | refine goes_opn rfl ?_ | refine goes_opnD rfl rfl (by decide +kernel) ?_) <;> have hp := True.intro)) <;> simp only [hp, g1, g2, gj, g5, hgl, hp, go_sem])
      exact ih'
    | false =>
      have hf : (l.take (j + 1)).filter (fun x => !decide (x.Mod ≤ u)) = K ++ [l[j]] := by
        rw [filter_succ h, hK, if_pos (by simpa using hp)]
      have ih' := ih (j + 1, gl.set K.length l[j]) ⟨h, by simp only; omega, by simpa using hgl,
        by simp only [hf, List.length_append, List.length_singleton]; rw [List.take_add_one, List.getElem?_set_self (by omega), List.take_set_of_le (Nat.le_refl _), htk]; rfl,
        by simp only; rw [List.drop_set_of_lt (by omega), ← List.drop_drop, hdr, List.drop_drop]⟩ (by simp only; omega)
      simp only [hf, List.length_append, List.length_singleton, List.map_set] at ih'
      simp only [g1, g2, gj, g5, g6, g7, g8, g9, hgl, hp, Nat.zero_lt_succ, go_sem]
      repeat' ((first | ((first | apply qa | apply qb | apply qc | apply qd | apply qe | apply qf | apply qg | apply qh | apply qi | apply qj | apply qk) <;> intro hp) | ((first | refine ql rfl rfl (by decide +kernel) ?_ | refine qm _ rfl rfl (by decide +kernel) ?_ | refine goes_opn rfl ?_ | refine goes_opnD rfl rfl (by decide +kernel) ?_) <;> have hp := True.intro)) <;> simp only [hp, g1, g2, gj, g5, g6, g7, g8, g9, hgl, hp, Nat.zero_lt_succ, go_sem])
      exact ih'
  · have g1 : ¬ (j : Int) < l.length := by omega
    have hend : K = l.filter (fun x => !decide (x.Mod ≤ u)) := by rw [← hK, List.take_of_length_le h]
    have g6 : K.length < l.length := by omega
    have g6' : K.length ≤ l.length := by omega
    have g7 : (0 : Int) ≤ K.length := by omega
    have g8 : K.length + (l.length - K.length) ≤ l.length := by omega
    have g9 : (layV (gl.map Tomb.enc) K.length (l.length - K.length) (.agg [.int .i64 0, .int .i64 0])).length = l.length := by rw [layV_len (by rw [List.length_map]; omega), List.length_map, hgl]
    have ge : (layV (gl.map Tomb.enc) K.length (l.length - K.length) (.agg [.int .i64 0, .int .i64 0])).take K.length = K.map Tomb.enc := by
      rw [layV, List.append_assoc, List.take_append_of_le_length (by simp; omega), List.take_take, Nat.min_self, take_map, htk]
    have g10 : 0 < l.length := by omega
    simp only [g1, hgl, g6, g6', g7, g8, g9, g10, Nat.sub_zero, Nat.zero_le, Nat.le_refl, go_sem]
    repeat' ((first | ((first | apply qa | apply qb | apply qc | apply qd | apply qe | apply qf | apply qg | apply qh | apply qi | apply qj | apply qk) <;> intro hp) | ((first | refine ql rfl rfl (by decide +kernel) ?_ | refine qm _ rfl rfl (by decide +kernel) ?_ | refine goes_opn rfl ?_ | refine goes_opnD rfl rfl (by decide +kernel) ?_) <;> have hp := True.intro)) <;> simp only [hp, g1, hgl, g6, g6', g7, g8, g9, g10, Nat.sub_zero, Nat.zero_le, Nat.le_refl, go_sem])
    simp only [fin_mk, finV, resL, resV1, resIn, endA, listIn, Option.some_or, Option.none_or, oneOrTup, go_sem]
    rw [← hr, ← hend, ge, if_pos ⟨by rw [g9]; omega, by first | (rw [g9]; exact g10) | exact Or.inr trivial⟩]; rfl
end Go.Proofs.Ytimiccneikhkgaa.L
