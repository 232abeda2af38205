/- The law FnPlaces: what goes at a place goes there alone; what is told of a place changes that alone. No condition. -/
import Derived.Test.YtknagbmhmjcnkaaVLDr10
import Derived.Test.YtknagbmhmjcnkaaVLJ
import Derived.Test.YtknagbmhmjcnkaaVmLaw
import Derived.Test.YtknagbmhmjcnkaaRows
import Derived.KernelRfl
namespace Go.Proofs.Ytknagbmhmjcnkaa.VPlaces
open Go Go.VM Go.Proofs.Ytknagbmhmjcnkaa.L
set_option maxRecDepth 100000
set_option maxHeartbeats 4000000
set_option linter.unusedSimpArgs false
set_option linter.unusedVariables false
theorem wf_u8 {P : Program} {n : Nat} {t : TypeId} {v : V} (hu : P.underlying t = some (.int .u8)) (h : WfV P (n + 1) t v) : ∃ m, v = .int .u8 m := by
  unfold WfV at h
  rw [hu] at h
  cases v <;> try exact h.elim
  obtain ⟨rfl, h1, h2⟩ := h
  exact ⟨_, rfl⟩
open Classical in
noncomputable def spBig : VM.Spec := { modes := [.rd], run := fun | [.lst 1 code'] => (decL dU8 code').bind fun code => if code.length ≤ 4611686018427387904 then some (.bool (decide (1048576 < code.length)), []) else none | _ => none, need := [] }
attribute [go_sem] spBig
theorem spBig_in {ins : List V} {r : V} {outs : List V} (h : spBig.run ins = some (r, outs)) : ∃ (code : (List Int)), ins = [.lst 1 ((code).map eU8)] ∧ (code.length ≤ 4611686018427387904) ∧ .bool (decide (1048576 < code.length)) = r ∧ outs = [] := by
  unfold spBig at h
  simp only at h
  split at h
  · rename_i code'
    simp only [Option.bind_eq_some_iff] at h
    obtain ⟨code, h_code, h⟩ := h
    split at h
    case isFalse => cases h
    rename_i hc
    simp only [Option.some.injEq, Prod.mk.injEq] at h
    obtain ⟨h1, h2⟩ := h
    have h_code := decL_some (fun _ _ h => dU8_some h) h_code
    subst h_code
    exact ⟨code, rfl, hc, h1, h2.symm⟩
  · cases h
def T_laws_big : Hints := ⟨fun _ => none, fun _ => none, fun i => if i = 0 then some [0] else if i = 1 then some [2] else none, fun _ => none⟩
noncomputable def Phi_laws_big : Tab := fun f => none
attribute [go_sem] T_laws_big Phi_laws_big
theorem phi_laws_big : ∀ f sp, Phi_laws_big f = some sp → FnOk Try.prog f sp ∧ ∀ n ∈ sp.need, n ∈ ([] : List String) := by
  intro f sp h
  unfold Phi_laws_big at h
  cases h
theorem ok_laws_big : FnOk Try.prog 4 spBig := by
  refine fn_ok (Φ := Phi_laws_big) (T := T_laws_big) phi_laws_big mixed Try.func4 rfl rfl rfl (by decide) ?_
  intro ins r outs hr hl
  clear hl
  have hs := spBig_in hr
  clear hr
  obtain ⟨code, rfl, hc, hr, rfl⟩ := hs
  simp only [spBig, Try.f4, Go.VM.initS]
  have e : decide ((1048576 : Int) < (code.length : Int)) = decide (1048576 < code.length) := by rw [Bool.eq_iff_iff]; simp; omega
  simp only [e, go_sem]
  repeat' ((first | ((first | apply qa | apply qb | apply qc | apply qd | apply qe | apply qf | apply qg | apply qh | apply qi | apply qj | apply qk) <;> intro hp) | ((first | refine ql rfl rfl (by decide +kernel) ?_ | refine qm _ rfl rfl (by decide +kernel) ?_ | refine goes_opn rfl ?_ | refine goes_opnD rfl rfl (by decide +kernel) ?_) <;> have hp := True.intro)) <;> simp only [hp, e, go_sem])
  simp only [fin_mk, finV, resL, resV1, resIn, endA, listIn, Option.some_or, Option.none_or, oneOrTup, go_sem]
  rw [← hr]
theorem take_exp {L : List Seen} {k n : Nat} (hL : L.length = n + 1) (hk : k ≤ n) : takeLine L ⟨2, ((k + 1 : Nat) : Int), 0, 0, 0, [], false⟩ = L.take k ++ L.drop (k + 1) := by
  have hw : within ((k + 1 : Nat) : Int) 1 L.length = true := by simp only [within, Bool.and_eq_true, decide_eq_true_eq]; omega
  have e1 : (((k + 1 : Nat) : Int) - 1).toNat = k := by omega
  simp only [takeLine, hw, Int.reduceEq, if_true, if_false, e1, Int.toNat_natCast]
theorem take_tell {L : List Seen} {k n : Nat} (hL : L.length = n + 1) (hk : k ≤ n) : takeLine L ⟨3, ((k + 1 : Nat) : Int), 77, 3, 5, [], false⟩ = L.set k ⟨77, 3, 5⟩ := by
  have hw : within ((k + 1 : Nat) : Int) 1 L.length = true := by simp only [within, Bool.and_eq_true, decide_eq_true_eq]; omega
  have e1 : (((k + 1 : Nat) : Int) - 1).toNat = k := by omega
  simp only [takeLine, hw, Int.reduceEq, if_true, if_false, e1, Int.toNat_natCast]
theorem take_more {L : List Seen} (hL : L.length ≤ 7) : takeLine L ⟨1, ((L.length + 2 : Nat) : Int), 0, 0, 0, [], false⟩ = growTo L (L.length + 2) := by
  have hw : within ((L.length + 2 : Nat) : Int) 0 30 = true := by simp only [within, Bool.and_eq_true, decide_eq_true_eq]; omega
  simp only [takeLine, hw, if_true, Int.toNat_natCast]
  exact List.take_of_length_le (by rw [growTo_len]; omega)
theorem line_le (K N U F M : Int) (A : Bool) : (⟨K, N, U, F, M, [], A⟩ : Line).le 4194304 := ⟨Nat.zero_le _, fun _ h => by cases h⟩
open Classical in
noncomputable def spLaw : VM.Spec := { modes := [.rd], run := fun | [.lst 1 code'] => (decL dU8 code').bind fun code => if code.length ≤ 4611686018427387904 then some (.bool true, []) else none | _ => none, need := [] }
attribute [go_sem] spLaw
theorem spLaw_in {ins : List V} {r : V} {outs : List V} (h : spLaw.run ins = some (r, outs)) : ∃ (code : (List Int)), ins = [.lst 1 ((code).map eU8)] ∧ (code.length ≤ 4611686018427387904) ∧ .bool true = r ∧ outs = [] := by
  unfold spLaw at h
  simp only at h
  split at h
  · rename_i code'
    simp only [Option.bind_eq_some_iff] at h
    obtain ⟨code, h_code, h⟩ := h
    split at h
    case isFalse => cases h
    rename_i hc
    simp only [Option.some.injEq, Prod.mk.injEq] at h
    obtain ⟨h1, h2⟩ := h
    have h_code := decL_some (fun _ _ h => dU8_some h) h_code
    subst h_code
    exact ⟨code, rfl, hc, h1, h2.symm⟩
  · cases h
def T_laws_FnPlaces : Hints := ⟨fun i => if i = 14 then some [] else if i = 17 then some [(2, 4)] else none, fun i => if i = 12 then some [3, 4, 6, 7, 8, 9] else none, fun i => if i = 0 then some [0] else if i = 1 then some [0, 12] else if i = 2 then some [2] else if i = 3 then some [0, 3, 4] else if i = 4 then some [3, 4, 5] else if i = 5 then some [3, 4, 5, 22] else if i = 6 then some [3, 4, 6] else if i = 7 then some [3, 4, 6, 7] else if i = 8 then some [3, 4, 6, 7, 8] else if i = 9 then some [3, 4, 6, 7, 8, 59] else if i = 10 then some [2] else if i = 11 then some [3, 4, 6, 7, 8, 9] else if i = 12 then some [3, 4, 6, 7, 8, 9, 63] else if i = 14 then some [3, 4, 6, 7, 8, 9, 118] else if i = 15 then some [2] else if i = 13 then some [3, 4, 6, 7, 8, 9] else if i = 16 then some [3, 4, 10] else if i = 17 then some [2] else none, fun _ => none⟩
noncomputable def Phi_laws_FnPlaces : Tab := fun f => if f = 4 then some spBig else if f = 5 then some spDrawTakeLine else if f = 6 then some spPlaces else if f = 7 then some spTakeLine else if f = 9 then some spTakeLine else if f = 8 then some spSameSeens else none
attribute [go_sem] T_laws_FnPlaces Phi_laws_FnPlaces
theorem phi_laws_FnPlaces : ∀ f sp, Phi_laws_FnPlaces f = some sp → FnOk Try.prog f sp ∧ ∀ n ∈ sp.need, n ∈ ([] : List String) := by
  intro f sp h
  unfold Phi_laws_FnPlaces at h
  by_cases e : f = 4
  · rw [if_pos e] at h; cases h; rw [e]; exact ⟨ok_laws_big, (fun n (h : n ∈ ([] : List String)) => (nomatch h))⟩
  rw [if_neg e] at h
  by_cases e : f = 5
  · rw [if_pos e] at h; cases h; rw [e]; exact ⟨ok_spec_DrawTakeLine, (fun n (h : n ∈ ([] : List String)) => (nomatch h))⟩
  rw [if_neg e] at h
  by_cases e : f = 6
  · rw [if_pos e] at h; cases h; rw [e]; exact ⟨ok_spec_DrawPlaces, (fun n (h : n ∈ ([] : List String)) => (nomatch h))⟩
  rw [if_neg e] at h
  by_cases e : f = 7
  · rw [if_pos e] at h; cases h; rw [e]; exact ⟨ok_impl_TakeLine, (fun n (h : n ∈ ([] : List String)) => (nomatch h))⟩
  rw [if_neg e] at h
  by_cases e : f = 9
  · rw [if_pos e] at h; cases h; rw [e]; exact ⟨ok_spec_TakeLine, (fun n (h : n ∈ ([] : List String)) => (nomatch h))⟩
  rw [if_neg e] at h
  by_cases e : f = 8
  · rw [if_pos e] at h; cases h; rw [e]; exact ⟨ok_laws_sameSeens, (fun n (h : n ∈ ([] : List String)) => (nomatch h))⟩
  rw [if_neg e] at h
  cases h
theorem ok_laws_FnPlaces : FnOk Try.prog 3 spLaw := by
  refine fn_ok (Φ := Phi_laws_FnPlaces) (T := T_laws_FnPlaces) phi_laws_FnPlaces mixed Try.func3 rfl rfl rfl (by decide) ?_
  intro ins r outs hr hl
  clear hl
  have hs := spLaw_in hr
  clear hr
  obtain ⟨code, rfl, hc, hr, rfl⟩ := hs
  simp only [spLaw, Try.f3, Go.VM.initS]
  by_cases hb : 1048576 < code.length
  · simp only [hc, hb, go_sem]
    repeat' ((first | ((first | apply qa | apply qb | apply qc | apply qd | apply qe | apply qf | apply qg | apply qh | apply qi | apply qj | apply qk) <;> intro hp) | ((first | refine ql rfl rfl (by decide +kernel) ?_ | refine qm _ rfl rfl (by decide +kernel) ?_ | refine goes_opn rfl ?_ | refine goes_opnD rfl rfl (by decide +kernel) ?_) <;> have hp := True.intro)) <;> simp only [hp, hc, hb, go_sem])
    simp only [fin_mk, finV, resL, resV1, resIn, endA, listIn, Option.some_or, Option.none_or, oneOrTup, go_sem]
    rw [← hr]
  have hc4 : code.length ≤ 4194304 := by omega
  have i0 := cur0_in hc4
  have iA := lineA_in i0
  have iS := (seensL_in 8 0 (a := []) iA.2 (by simp) (by omega)).1
  obtain ⟨X, hX⟩ : ∃ X, (lineA (cur0 code)).1 = X := ⟨_, rfl⟩
  obtain ⟨L, hL⟩ : ∃ L, (seensL 8 0 (lineA (cur0 code)).2 []).1 = L := ⟨_, rfl⟩
  rw [hL] at iS
  have hX0 : X.Set.length ≤ 4194304 := by rw [← hX]; have := iA.1; omega
  have hXle : X.le 4194304 := ⟨hX0, fun _ _ => trivial⟩
  obtain ⟨hPl, hPm⟩ := places_in hc4
  obtain ⟨P, hP⟩ : ∃ P, places code = P := ⟨_, rfl⟩
  rw [hP] at hPl hPm
  have p0 : 0 < P.length := by omega
  have m0 := hPm _ (List.getElem_mem p0)
  have q0 : P[0]? = some P[0] := List.getElem?_eq_getElem p0
  have z0 : (0 : Int) < ((12 : Nat) : Int) := by decide
  have hLe : L.length ≤ 4194304 := by omega
  have hw2 : IntKind.i64.wrap ((L.length : Int) + 2) = ((L.length + 2 : Nat) : Int) := (wrap64 (by omega) (by omega)).trans (by omega)
  have c1 := line_le 1 ((L.length + 2 : Nat) : Int) 0 0 0 false
  have c9 := line_le 9 0 0 0 0 false
  have t1 := take_more iS
  have t9 : takeLine L ⟨9, 0, 0, 0, 0, [], false⟩ = [] := rfl
  obtain ⟨M, hM⟩ : ∃ M, growTo L (L.length + 2) = M := ⟨_, rfl⟩
  have hMl : M.length = L.length + 2 := by rw [← hM, growTo_len]; omega
  have hMt : M.take L.length = L := by rw [← hM, growTo]; simp
  rw [hM] at t1
  have hM7 : M.length ≤ 4194304 := by omega
  have hL0 : (0 : Int) ≤ (L.length : Int) := Int.natCast_nonneg _
  have hL2 : L.length ≤ L.length + 2 := by omega
  have hTX : (takeLine L X).length ≤ 4194304 := takeLine_le hLe
  rcases Nat.eq_zero_or_pos L.length with h0 | h0
  · have hLn : ¬ (0 : Int) < (L.length : Int) := by omega
    simp only [hc, hb, hc4, i0, hX, hL, hP, hPl, hX0, hXle, hLe, hLn, hw2, c1, c9, t1, t9, hMl, hMt, hTX, hM7, hL0, hL2, decide_true, List.length_nil, Nat.zero_le, Nat.sub_zero, Nat.le_refl, go_sem]
    repeat' ((first | ((first | apply qa | apply qb | apply qc | apply qd | apply qe | apply qf | apply qg | apply qh | apply qi | apply qj | apply qk) <;> intro hp) | ((first | refine ql rfl rfl (by decide +kernel) ?_ | refine qm _ rfl rfl (by decide +kernel) ?_ | refine goes_opn rfl ?_ | refine goes_opnD rfl rfl (by decide +kernel) ?_) <;> have hp := True.intro)) <;> simp only [hp, hc, hb, hc4, i0, hX, hL, hP, hPl, hX0, hXle, hLe, hLn, hw2, c1, c9, t1, t9, hMl, hMt, hTX, hM7, hL0, hL2, decide_true, List.length_nil, Nat.zero_le, Nat.sub_zero, Nat.le_refl, go_sem])
    all_goals (simp only [fin_mk, finV, resL, resV1, resIn, endA, listIn, Option.some_or, Option.none_or, oneOrTup, go_sem]; rw [← hr])
    all_goals rfl
  obtain ⟨n, hn⟩ : ∃ n, L.length = n + 1 := ⟨L.length - 1, by omega⟩
  have hLn : (0 : Int) < (L.length : Int) := by omega
  have n0 : ¬ (L.length : Int) = 0 := by omega
  obtain ⟨k, hk, hk2⟩ : ∃ k : Nat, P[0].tmod (L.length : Int) = k ∧ k ≤ n := by
    have h1 := Int.tmod_nonneg (L.length : Int) m0.1
    have h2 := Int.tmod_lt_of_pos P[0] (show (0 : Int) < (L.length : Int) by omega)
    exact ⟨(P[0].tmod (L.length : Int)).toNat, by omega, by omega⟩
  have wk : IntKind.i64.wrap ((k : Int) + 1) = ((k + 1 : Nat) : Int) := (wrap64 (by omega) (by omega)).trans (by omega)
  have c2 := line_le 2 ((k + 1 : Nat) : Int) 0 0 0 false
  have c3 := line_le 3 ((k + 1 : Nat) : Int) 77 3 5 false
  have t2 := take_exp hn hk2
  have t3 := take_tell hn hk2
  obtain ⟨G, hG⟩ : ∃ G, L.take k ++ L.drop (k + 1) = G := ⟨_, rfl⟩
  obtain ⟨T, hT⟩ : ∃ T, L.set k (⟨77, 3, 5⟩ : Seen) = T := ⟨_, rfl⟩
  rw [hG] at t2
  rw [hT] at t3
  have hGl : G.length = n := by rw [← hG]; simp; omega
  have hTl : T.length = L.length := by rw [← hT]; simp
  have hG1 : ∀ i, i < k → G[i]? = L[i]? := fun i hi => by rw [← hG, List.getElem?_append_left (by simp; omega), List.getElem?_take, if_pos hi]
  have hG2 : ∀ i, k < i → G[i - 1]? = L[i]? := fun i hi => by
    rw [← hG, List.getElem?_append_right (by simp; omega), List.getElem?_drop]
    congr 1; simp; omega
  have hT1 : ∀ i, i ≠ k → T[i]? = L[i]? := fun i hi => by rw [← hT, List.getElem?_set]; simp [Ne.symm hi]
  have hT2 : T[k]? = some ⟨77, 3, 5⟩ := by rw [← hT, List.getElem?_set]; simp; omega
  have wn : IntKind.i64.wrap ((L.length : Int) - 1) = (n : Int) := (wrap64 (by omega) (by omega)).trans (by omega)
  have k0 : (0 : Int) ≤ k := by omega
  have k1 : (k : Int) < L.length := by omega
  simp only [hc, hb, hc4, i0, hX, hL, hP, hPl, hX0, hXle, hLe, hLn, q0, z0, n0, hk, wk, c2, c3, t2, t3, hGl, hTl, hT2, wn, k0, k1, bne_self_eq_false, go_sem]
  repeat' ((first | ((first | apply qa | apply qb | apply qc | apply qd | apply qe | apply qf | apply qg | apply qh | apply qi | apply qj | apply qk) <;> intro hp) | ((first | refine ql rfl rfl (by decide +kernel) ?_ | refine qm _ rfl rfl (by decide +kernel) ?_ | refine goes_opn rfl ?_ | refine goes_opnD rfl rfl (by decide +kernel) ?_) <;> have hp := True.intro)) <;> simp only [hp, hc, hb, hc4, i0, hX, hL, hP, hPl, hX0, hXle, hLe, hLn, q0, z0, n0, hk, wk, c2, c3, t2, t3, hGl, hTl, hT2, wn, k0, k1, bne_self_eq_false, go_sem])
  refine loop_go (fun i : Nat => [(9, .int .i64 (i : Int))]) (fun _ => []) (fun i => n + 1 - i) (fun i => i ≤ n + 1) 0 (Nat.zero_le _) rfl rfl ?_
  intro i hi ih
  rcases Nat.lt_or_ge i (n + 1) with h | h
  · have g1 : (i : Int) < L.length := by omega
    have g2 : (0 : Int) ≤ i := by omega
    have g3 : L[i]? = some (L[i]'(by omega)) := List.getElem?_eq_getElem (by omega)
    have g5 : IntKind.i64.wrap ((i : Int) + 1) = ((i + 1 : Nat) : Int) := (wrap64 (by omega) (by omega)).trans (by omega)
    have ih' := ih (i + 1) (by omega) (by omega)
    rcases Nat.lt_trichotomy i k with hik | hik | hik
    · have g4 := hG1 i hik
      have g6 := hT1 i (by omega)
      rw [g3] at g4 g6
      have g7 : (i : Int) < k := by omega
      have g8 : ¬ (k : Int) < i := by omega
      have g9 : (i : Int) < n := by omega
      simp only [g1, g2, g3, g4, g5, g6, g7, g8, g9, hGl, hTl, bne_self_eq_false, go_sem]
      repeat' ((first | ((first | apply qa | apply qb | apply qc | apply qd | apply qe | apply qf | apply qg | apply qh | apply qi | apply qj | apply qk) <;> intro hp) | ((first | refine ql rfl rfl (by decide +kernel) ?_ | refine qm _ rfl rfl (by decide +kernel) ?_ | refine goes_opn rfl ?_ | refine goes_opnD rfl rfl (by decide +kernel) ?_) <;> have hp := True.intro)) <;> simp only [hp, g1, g2, g3, g4, g5, g6, g7, g8, g9, hGl, hTl, bne_self_eq_false, go_sem])
      all_goals exact ih'
    · subst hik
      have g7 : ¬ (i : Int) < i := by omega
      simp only [g1, g2, g3, g5, g7, hGl, hTl, go_sem]
      repeat' ((first | ((first | apply qa | apply qb | apply qc | apply qd | apply qe | apply qf | apply qg | apply qh | apply qi | apply qj | apply qk) <;> intro hp) | ((first | refine ql rfl rfl (by decide +kernel) ?_ | refine qm _ rfl rfl (by decide +kernel) ?_ | refine goes_opn rfl ?_ | refine goes_opnD rfl rfl (by decide +kernel) ?_) <;> have hp := True.intro)) <;> simp only [hp, g1, g2, g3, g5, g7, hGl, hTl, go_sem])
      all_goals exact ih'
    · have g4 := hG2 i hik
      have g6 := hT1 i (by omega)
      rw [g3] at g4 g6
      have g7 : ¬ (i : Int) < k := by omega
      have g8 : (k : Int) < i := by omega
      have g9 : IntKind.i64.wrap ((i : Int) - 1) = ((i - 1 : Nat) : Int) := (wrap64 (by omega) (by omega)).trans (by omega)
      have g10 : ((i - 1 : Nat) : Int) < n := by omega
      have g11 : (0 : Int) ≤ ((i - 1 : Nat) : Int) := by omega
      simp only [g1, g2, g3, g4, g5, g6, g7, g8, g9, g10, g11, hGl, hTl, bne_self_eq_false, go_sem]
      repeat' ((first | ((first | apply qa | apply qb | apply qc | apply qd | apply qe | apply qf | apply qg | apply qh | apply qi | apply qj | apply qk) <;> intro hp) | ((first | refine ql rfl rfl (by decide +kernel) ?_ | refine qm _ rfl rfl (by decide +kernel) ?_ | refine goes_opn rfl ?_ | refine goes_opnD rfl rfl (by decide +kernel) ?_) <;> have hp := True.intro)) <;> simp only [hp, g1, g2, g3, g4, g5, g6, g7, g8, g9, g10, g11, hGl, hTl, bne_self_eq_false, go_sem])
      all_goals exact ih'
  · have g1 : ¬ (i : Int) < L.length := by omega
    simp only [hc, hb, hc4, i0, hX, hL, hP, hPl, hX0, hXle, hLe, g1, hw2, c1, c9, t1, t9, hMl, hMt, hTX, hM7, hL0, hL2, decide_true, List.length_nil, Nat.zero_le, Nat.sub_zero, Nat.le_refl, go_sem]
    repeat' ((first | ((first | apply qa | apply qb | apply qc | apply qd | apply qe | apply qf | apply qg | apply qh | apply qi | apply qj | apply qk) <;> intro hp) | ((first | refine ql rfl rfl (by decide +kernel) ?_ | refine qm _ rfl rfl (by decide +kernel) ?_ | refine goes_opn rfl ?_ | refine goes_opnD rfl rfl (by decide +kernel) ?_) <;> have hp := True.intro)) <;> simp only [hp, hc, hb, hc4, i0, hX, hL, hP, hPl, hX0, hXle, hLe, g1, hw2, c1, c9, t1, t9, hMl, hMt, hTX, hM7, hL0, hL2, decide_true, List.length_nil, Nat.zero_le, Nat.sub_zero, Nat.le_refl, go_sem])
    all_goals (simp only [fin_mk, finV, resL, resV1, resIn, endA, listIn, Option.some_or, Option.none_or, oneOrTup, go_sem]; rw [← hr])
    all_goals rfl
set_option maxRecDepth 100000 in
theorem own : ownKnob Try.prog.godebug = none := by kernel_rfl
theorem lifted (os : Os) (started : os.Started) (H : Type) (enc : TypeId × Value → H) :
    ReturnsInHanded {} Try.checked os 3 .any (Rows.fnPlacesSpec.pre6 enc Try.prog Try.f3 Rows.fnPlacesRow.domain false) (Rows.fnPlacesSpec.post enc Try.prog Try.f3 false true false false) :=
  law_of_fn (C := Try.checked) (n := 2) own started (by kernel_rfl) Try.func3 rfl rfl
    (ChangeSpec.witness6 (enc := enc) (C := Try.checked) false ⟨#[], #[.slice none 0 0], []⟩ 8 (by kernel_rfl) (by kernel_rfl) (by kernel_rfl) (by kernel_rfl))
    rfl rfl Try.underlying4 (by kernel_rfl) (by
      intro t ht
      simp only [Try.f3, List.mem_cons, List.not_mem_nil, or_false] at ht
      subst ht; exact ⟨by kernel_rfl, by kernel_rfl, of_decide_eq_true (by kernel_rfl)⟩)
    (by
      intro ds hd
      match ds, hd with
      | [d0], _ => rfl)
    rfl ok_laws_FnPlaces rfl (by
      intro xs hl hw
      match xs, hl with
      | [x0], _ =>
        obtain ⟨x0, rfl, c0, _, e0⟩ := wf_slice Try.underlying22 (hw 0 22 x0 rfl rfl)
        rw [Ty.bytes_5] at c0
        have c0 : x0.length ≤ 4611686018427387904 := by unfold reachBytes at c0; omega
        obtain ⟨x0, rfl, d0⟩ := list_enc (e := eU8) (R := fun _ => True) fun v hv => by
          obtain ⟨m, rfl⟩ := wf_u8 Try.underlying5 (e0 v hv)
          exact ⟨m, rfl, trivial⟩
        rw [List.length_map] at c0
        simp only [spLaw, Ty.cells_5, decL_u8s, Option.bind_some]
        exact if_pos c0)
theorem over : Rows.fnPlacesRow.holds Try.pinned (OpenSpec.ofChange Rows.fnPlacesSpec) :=
  OpenClaim.holds_of_wide 3 Try.f3 rfl rfl rfl rfl rfl rfl rfl ⟨rfl, rfl, rfl, rfl, rfl⟩ rfl rfl rfl rfl rfl (by kernel_rfl) Try.func3 (by kernel_rfl)
    (of_decide_eq_true (by kernel_rfl)) (by unfold Func.isWrapper; first | (rw [if_pos (by decide +kernel)]; kernel_rfl) | (rw [if_neg (by decide +kernel)]; exact ⟨rfl, rfl⟩))
    (fun os started H enc _ => lifted os started H enc)
end Go.Proofs.Ytknagbmhmjcnkaa.VPlaces
namespace Go.Proofs.Ytknagbmhmjcnkaa
theorem fnPlaces_holds : Rows.FnPlacesSaid := VPlaces.over
#print axioms fnPlaces_holds
end Go.Proofs.Ytknagbmhmjcnkaa
