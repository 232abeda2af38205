/- The law FnSubjects: a subject under up to three of its marks is found again. No condition. -/
import Derived.Test.YtknagbmhmjcnkaaDoorVLS
import Derived.Test.YtknagbmhmjcnkaaDoorVLDr
import Derived.Test.YtknagbmhmjcnkaaDoorVmDoor
import Derived.Test.YtknagbmhmjcnkaaDoorTie
import Derived.Test.YtknagbmhmjcnkaaDoorCards
import Derived.Test.YtknagbmhmjcnkaaDoorRows
import Derived.KernelRfl
namespace Go.Proofs.YtknagbmhmjcnkaaDoor.VSubjects
open Go Go.VM Go.Proofs.YtknagbmhmjcnkaaDoor.L
set_option maxRecDepth 100000
set_option maxHeartbeats 4000000
set_option linter.unusedSimpArgs false
set_option linter.unusedVariables false
theorem wf_u8 {P : Program} {n : Nat} {t : TypeId} {v : V} (hu : P.underlying t = some (.int .u8)) (h : WfV P (n + 1) t v) : ∃ m, v = .int .u8 m := by
  unfold WfV at h
  rw [hu] at h
  cases v <;> try exact h.elim
  obtain ⟨rfl, h1, h2⟩ := h
  exact ⟨_, rfl⟩
def sub4 : Nat → List UInt8
  | 0 => [104, 101, 108, 108, 111]
  | 1 => [97, 32, 98]
  | 2 => [110, 101, 119, 115, 32, 111, 102, 32, 105, 116]
  | _ => []
def pre3 : Nat → List UInt8
  | 0 => [82, 101, 58, 32]
  | 1 => [102, 119, 100, 58]
  | _ => [32, 82, 69, 58, 32, 32]
def told (s : List UInt8) (l : List Nat) : List UInt8 := l.foldl (fun t k => pre3 k ++ t) s
theorem pre3_len (k : Nat) : (pre3 k).length ≤ 6 := by
  unfold pre3; split <;> simp
theorem sub4_len (k : Nat) : (sub4 k).length ≤ 10 := by
  unfold sub4; split <;> simp
theorem told_len : ∀ (l : List Nat) (s : List UInt8), (told s l).length ≤ s.length + 6 * l.length
  | [], s => by simp [told]
  | k :: l, s => by
    have := told_len l (pre3 k ++ s)
    have := pre3_len k
    simp only [told, List.foldl_cons, List.length_cons, List.length_append] at *
    omega
theorem told_snoc (s : List UInt8) (l : List Nat) (k : Nat) : told s (l ++ [k]) = pre3 k ++ told s l := by simp [told]
theorem t0 : ∀ k : Fin 4, baseSubject (sub4 k) = sub4 k := by decide +kernel
theorem t1 : ∀ k : Fin 4, ∀ a : Fin 3, baseSubject (told (sub4 k) [a.val]) = sub4 k := by decide +kernel
theorem t2 : ∀ k : Fin 4, ∀ a b : Fin 3, baseSubject (told (sub4 k) [a.val, b.val]) = sub4 k := by decide +kernel
theorem t3 : ∀ k : Fin 4, ∀ a b c : Fin 3, baseSubject (told (sub4 k) [a.val, b.val, c.val]) = sub4 k := by decide +kernel
theorem told_base {k : Nat} (hk : k < 4) {l : List Nat} (hl : l.length ≤ 3) (h : ∀ x ∈ l, x < 3) : baseSubject (told (sub4 k) l) = sub4 k := by
  match l, hl, h with
  | [], _, _ => exact t0 ⟨k, hk⟩
  | [a], _, h => exact t1 ⟨k, hk⟩ ⟨a, h a (by simp)⟩
  | [a, b], _, h => exact t2 ⟨k, hk⟩ ⟨a, h a (by simp)⟩ ⟨b, h b (by simp)⟩
  | [a, b, c], _, h => exact t3 ⟨k, hk⟩ ⟨a, h a (by simp)⟩ ⟨b, h b (by simp)⟩ ⟨c, h c (by simp)⟩
theorem b_hello : baseSubject [72, 101, 108, 108, 111] = [104, 101, 108, 108, 111] := by decide +kernel
theorem b_real : baseSubject [114, 101, 97, 108] = [114, 101, 97, 108] := by decide +kernel
open Classical in
noncomputable def spBig : VM.Spec := { modes := [.rd], run := fun | [.lst 1 code'] => (decL dU8 code').bind fun code => if code.length ≤ 4611686018427387904 then some (.bool (decide (1048576 < code.length)), []) else none | _ => none, need := [] }
attribute [go_sem] spBig
theorem spBig_in {ins : List V} {r : V} {outs : List V} (h : spBig.run ins = some (r, outs)) : ∃ (code : (List Int)), ins = [.lst 1 ((code).map eU8)] ∧ (code.length ≤ 4611686018427387904) ∧ .bool (decide (1048576 < code.length)) = r ∧ outs = [] := by
  unfold spBig at h
  simp only at h
  split at h
  · rename_i code'
    simp only [Option.bind_eq_some_iff] at h
    obtain ⟨code, h_code, h⟩ := h
    split at h
    case isFalse => cases h
    rename_i hc
    simp only [Option.some.injEq, Prod.mk.injEq] at h
    obtain ⟨h1, h2⟩ := h
    have h_code := decL_some (fun _ _ h => dU8_some h) h_code
    subst h_code
    exact ⟨code, rfl, hc, h1, h2.symm⟩
  · cases h
def T_laws_big : Hints := ⟨fun _ => none, fun _ => none, fun i => if i = 0 then some [0] else if i = 1 then some [2] else none, fun _ => none⟩
noncomputable def Phi_laws_big : Tab := fun f => none
attribute [go_sem] T_laws_big Phi_laws_big
theorem phi_laws_big : ∀ f sp, Phi_laws_big f = some sp → FnOk Tryd.prog f sp ∧ ∀ n ∈ sp.need, n ∈ ([] : List String) := by
  intro f sp h
  unfold Phi_laws_big at h
  cases h
theorem ok_laws_big : FnOk Tryd.prog 6 spBig := by
  refine fn_ok (Φ := Phi_laws_big) (T := T_laws_big) phi_laws_big mixed Tryd.func6 rfl rfl rfl (by decide) ?_
  intro ins r outs hr hl
  clear hl
  have hs := spBig_in hr
  clear hr
  obtain ⟨code, rfl, hc, hr, rfl⟩ := hs
  simp only [spBig, Tryd.f6, Go.VM.initS]
  have e : decide ((1048576 : Int) < (code.length : Int)) = decide (1048576 < code.length) := by rw [Bool.eq_iff_iff]; simp; omega
  simp only [e, go_sem]
  repeat' ((first | ((first | apply qa | apply qb | apply qc | apply qd | apply qe | apply qf | apply qg | apply qh | apply qi | apply qj | apply qk) <;> intro hp) | ((first | refine ql rfl rfl (by decide +kernel) ?_ | refine qm _ rfl rfl (by decide +kernel) ?_ | refine goes_opn rfl ?_ | refine goes_opnD rfl rfl (by decide +kernel) ?_) <;> have hp := True.intro)) <;> simp only [hp, e, go_sem])
  simp only [fin_mk, finV, resL, resV1, resIn, endA, listIn, Option.some_or, Option.none_or, oneOrTup, go_sem]
  rw [← hr]
open Classical in
noncomputable def spLaw : VM.Spec := { modes := [.rd], run := fun | [.lst 1 code'] => (decL dU8 code').bind fun code => if code.length ≤ 4611686018427387904 then some (.bool true, []) else none | _ => none, need := [] }
attribute [go_sem] spLaw
theorem spLaw_in {ins : List V} {r : V} {outs : List V} (h : spLaw.run ins = some (r, outs)) : ∃ (code : (List Int)), ins = [.lst 1 ((code).map eU8)] ∧ (code.length ≤ 4611686018427387904) ∧ .bool true = r ∧ outs = [] := by
  unfold spLaw at h
  simp only at h
  split at h
  · rename_i code'
    simp only [Option.bind_eq_some_iff] at h
    obtain ⟨code, h_code, h⟩ := h
    split at h
    case isFalse => cases h
    rename_i hc
    simp only [Option.some.injEq, Prod.mk.injEq] at h
    obtain ⟨h1, h2⟩ := h
    have h_code := decL_some (fun _ _ h => dU8_some h) h_code
    subst h_code
    exact ⟨code, rfl, hc, h1, h2.symm⟩
  · cases h
def T_laws_FnSubjects : Hints := ⟨fun _ => none, fun i => if i = 7 then some [3, 4, 5, 6] else none, fun i => if i = 0 then some [0] else if i = 1 then some [0, 8] else if i = 2 then some [2] else if i = 3 then some [3] else if i = 4 then some [3, 4] else if i = 5 then some [3, 4, 5] else if i = 6 then some [3, 4, 5, 6] else if i = 7 then some [3, 4, 5, 6, 24] else if i = 9 then some [3, 4, 5, 6] else if i = 8 then some [3, 4, 5, 6] else if i = 10 then some [2] else none, fun _ => none⟩
noncomputable def Phi_laws_FnSubjects : Tab := fun f => if f = 6 then some spBig else if f = 7 then some spPlaces else if f = 8 then some spBaseSubject else none
attribute [go_sem] T_laws_FnSubjects Phi_laws_FnSubjects
theorem phi_laws_FnSubjects : ∀ f sp, Phi_laws_FnSubjects f = some sp → FnOk Tryd.prog f sp ∧ ∀ n ∈ sp.need, n ∈ ([] : List String) := by
  intro f sp h
  unfold Phi_laws_FnSubjects at h
  by_cases e : f = 6
  · rw [if_pos e] at h; cases h; rw [e]; exact ⟨ok_laws_big, (fun n (h : n ∈ ([] : List String)) => (nomatch h))⟩
  rw [if_neg e] at h
  by_cases e : f = 7
  · rw [if_pos e] at h; cases h; rw [e]; exact ⟨ok_spec_DrawPlaces, (fun n (h : n ∈ ([] : List String)) => (nomatch h))⟩
  rw [if_neg e] at h
  by_cases e : f = 8
  · rw [if_pos e] at h; cases h; rw [e]; exact ⟨ok_impl_BaseSubject, (fun n (h : n ∈ ([] : List String)) => (nomatch h))⟩
  rw [if_neg e] at h
  cases h
theorem ok_laws_FnSubjects : FnOk Tryd.prog 3 spLaw := by
  refine fn_ok (Φ := Phi_laws_FnSubjects) (T := T_laws_FnSubjects) phi_laws_FnSubjects mixed Tryd.func3 rfl rfl rfl (by decide) ?_
  intro ins r outs hr hl
  clear hl
  have hs := spLaw_in hr
  clear hr
  obtain ⟨code, rfl, hc, hr, rfl⟩ := hs
  simp only [spLaw, Tryd.f3, Go.VM.initS]
  have z0_12 : (0 : Int) < ((12 : Nat) : Int) := by decide
  have z1_12 : (1 : Int) < ((12 : Nat) : Int) := by decide
  have z0_4 : (0 : Int) < ((4 : Nat) : Int) := by decide
  have z1_4 : (1 : Int) < ((4 : Nat) : Int) := by decide
  have z2_4 : (2 : Int) < ((4 : Nat) : Int) := by decide
  have z3_4 : (3 : Int) < ((4 : Nat) : Int) := by decide
  have z0_3 : (0 : Int) < ((3 : Nat) : Int) := by decide
  have z1_3 : (1 : Int) < ((3 : Nat) : Int) := by decide
  have z2_3 : (2 : Int) < ((3 : Nat) : Int) := by decide
  by_cases hb : 1048576 < code.length
  · simp only [hc, hb, go_sem]
    repeat' ((first | ((first | apply qa | apply qb | apply qc | apply qd | apply qe | apply qf | apply qg | apply qh | apply qi | apply qj | apply qk) <;> intro hp) | ((first | refine ql rfl rfl (by decide +kernel) ?_ | refine qm _ rfl rfl (by decide +kernel) ?_ | refine goes_opn rfl ?_ | refine goes_opnD rfl rfl (by decide +kernel) ?_) <;> have hp := True.intro)) <;> simp only [hp, hc, hb, go_sem])
    simp only [fin_mk, finV, resL, resV1, resIn, endA, listIn, Option.some_or, Option.none_or, oneOrTup, go_sem]
    rw [← hr]
  have hc4 : code.length ≤ 4194304 := by omega
  obtain ⟨hPl, hPm⟩ := places_in hc4
  obtain ⟨P, hP⟩ : ∃ P, places code = P := ⟨_, rfl⟩
  rw [hP] at hPl hPm
  have p0 : 0 < P.length := by omega
  have p1 : 1 < P.length := by omega
  have m0 := hPm _ (List.getElem_mem p0)
  have m1 := hPm _ (List.getElem_mem p1)
  have i0 : P[0]? = some P[0] := List.getElem?_eq_getElem p0
  have i1 : P[1]? = some P[1] := List.getElem?_eq_getElem p1
  have k4 : P[0].tmod 4 = 0 ∨ P[0].tmod 4 = 1 ∨ P[0].tmod 4 = 2 ∨ P[0].tmod 4 = 3 := by
    rw [Int.tmod_eq_emod_of_nonneg m0.1]; omega
  obtain ⟨n, hn, hn3⟩ : ∃ n : Nat, P[1].tmod 4 = n ∧ n ≤ 3 := ⟨(P[1].tmod 4).toNat, by rw [Int.tmod_eq_emod_of_nonneg m1.1]; omega, by rw [Int.tmod_eq_emod_of_nonneg m1.1]; omega⟩
  have hm3 : ∀ j : Nat, j < 3 → ∃ q : Nat, P[j + 2]? = some P[j + 2]! ∧ P[j + 2]!.tmod 3 = q ∧ q < 3 := fun j hj => by
    have hj2 : j + 2 < P.length := by omega
    have mj := hPm _ (List.getElem_mem hj2)
    rw [List.getElem!_eq_getElem?_getD, List.getElem?_eq_getElem hj2]
    exact ⟨(P[j + 2].tmod 3).toNat, rfl, by simp only [Option.getD_some]; rw [Int.tmod_eq_emod_of_nonneg mj.1]; omega, by rw [Int.tmod_eq_emod_of_nonneg mj.1]; omega⟩
  rcases k4 with hk | hk | hk | hk
  · have hs4 : 0 < 4 := by decide
    simp only [hc, hb, hc4, hP, hPl, i0, i1, hk, z0_12, z1_12, z0_4, z1_4, z2_4, z3_4, z0_3, z1_3, z2_3, go_sem]
    repeat' ((first | ((first | apply qa | apply qb | apply qc | apply qd | apply qe | apply qf | apply qg | apply qh | apply qi | apply qj | apply qk) <;> intro hp) | ((first | refine ql rfl rfl (by decide +kernel) ?_ | refine qm _ rfl rfl (by decide +kernel) ?_ | refine goes_opn rfl ?_ | refine goes_opnD rfl rfl (by decide +kernel) ?_) <;> have hp := True.intro)) <;> simp only [hp, hc, hb, hc4, hP, hPl, i0, i1, hk, z0_12, z1_12, z0_4, z1_4, z2_4, z3_4, z0_3, z1_3, z2_3, go_sem])
    refine loop_go (fun q : List Nat => [(5, .str (told [104, 101, 108, 108, 111] q)), (6, .int .i64 (q.length : Int))]) (fun _ => []) (fun q => 3 - q.length) (fun q => q.length ≤ n ∧ ∀ x ∈ q, x < 3) [] ⟨Nat.zero_le _, by simp⟩ rfl rfl ?_
    rintro q ⟨hq, hqm⟩ ih
    have hlen : (told [104, 101, 108, 108, 111] q).length ≤ (sub4 0).length + 6 * q.length := told_len q (sub4 0)
    have hsl := sub4_len 0
    by_cases g : q.length < n
    · have g1 : (q.length : Int) < n := by omega
      obtain ⟨v, w1, w2, w3⟩ := hm3 q.length (by omega)
      have g2 : IntKind.i64.wrap ((q.length : Int) + 2) = ((q.length + 2 : Nat) : Int) := (wrap64 (by omega) (by omega)).trans (by omega)
      have g3 : (0 : Int) ≤ ((q.length + 2 : Nat) : Int) := by omega
      have g4 : ((q.length + 2 : Nat) : Int) < ((12 : Nat) : Int) := by omega
      have g5 : IntKind.i64.wrap ((q.length : Int) + 1) = ((q.length + 1 : Nat) : Int) := wrap_succ (n := 10) (by omega) (by omega)
      have ih' := ih (q ++ [v]) ⟨by simp; omega, fun x hx => by
        rcases List.mem_append.1 hx with hx | hx
        · exact hqm x hx
        · simp only [List.mem_singleton] at hx; omega⟩ (by simp; omega)
      rw [told_snoc] at ih'
      simp only [List.length_append, List.length_singleton] at ih'
      clear ih
      have hl3 : 4 + (told [104, 101, 108, 108, 111] q).length ≤ 9223372036854775807 := by omega
      have hl4 : 6 + (told [104, 101, 108, 108, 111] q).length ≤ 9223372036854775807 := by omega
      have v3 : v = 0 ∨ v = 1 ∨ v = 2 := by omega
      rcases v3 with rfl | rfl | rfl
      · have w2' : P[q.length + 2]!.tmod 3 = 0 := w2
        simp only [pre3, List.cons_append, List.nil_append] at ih'
        simp only [hn, i1, hPl, z0_12, z1_12, z0_4, z1_4, z2_4, z3_4, z0_3, z1_3, z2_3, g1, g2, g3, g4, g5, w1, w2', hl3, hl4, go_sem]
        repeat' ((first | ((first | apply qa | apply qb | apply qc | apply qd | apply qe | apply qf | apply qg | apply qh | apply qi | apply qj | apply qk) <;> intro hp) | ((first | refine ql rfl rfl (by decide +kernel) ?_ | refine qm _ rfl rfl (by decide +kernel) ?_ | refine goes_opn rfl ?_ | refine goes_opnD rfl rfl (by decide +kernel) ?_) <;> have hp := True.intro)) <;> simp only [hp, hn, i1, hPl, z0_12, z1_12, z0_4, z1_4, z2_4, z3_4, z0_3, z1_3, z2_3, g1, g2, g3, g4, g5, w1, w2', hl3, hl4, go_sem])
        exact ih'
      · have w2' : P[q.length + 2]!.tmod 3 = 1 := w2
        simp only [pre3, List.cons_append, List.nil_append] at ih'
        simp only [hn, i1, hPl, z0_12, z1_12, z0_4, z1_4, z2_4, z3_4, z0_3, z1_3, z2_3, g1, g2, g3, g4, g5, w1, w2', hl3, hl4, go_sem]
        repeat' ((first | ((first | apply qa | apply qb | apply qc | apply qd | apply qe | apply qf | apply qg | apply qh | apply qi | apply qj | apply qk) <;> intro hp) | ((first | refine ql rfl rfl (by decide +kernel) ?_ | refine qm _ rfl rfl (by decide +kernel) ?_ | refine goes_opn rfl ?_ | refine goes_opnD rfl rfl (by decide +kernel) ?_) <;> have hp := True.intro)) <;> simp only [hp, hn, i1, hPl, z0_12, z1_12, z0_4, z1_4, z2_4, z3_4, z0_3, z1_3, z2_3, g1, g2, g3, g4, g5, w1, w2', hl3, hl4, go_sem])
        exact ih'
      · have w2' : P[q.length + 2]!.tmod 3 = 2 := w2
        simp only [pre3, List.cons_append, List.nil_append] at ih'
        simp only [hn, i1, hPl, z0_12, z1_12, z0_4, z1_4, z2_4, z3_4, z0_3, z1_3, z2_3, g1, g2, g3, g4, g5, w1, w2', hl3, hl4, go_sem]
        repeat' ((first | ((first | apply qa | apply qb | apply qc | apply qd | apply qe | apply qf | apply qg | apply qh | apply qi | apply qj | apply qk) <;> intro hp) | ((first | refine ql rfl rfl (by decide +kernel) ?_ | refine qm _ rfl rfl (by decide +kernel) ?_ | refine goes_opn rfl ?_ | refine goes_opnD rfl rfl (by decide +kernel) ?_) <;> have hp := True.intro)) <;> simp only [hp, hn, i1, hPl, z0_12, z1_12, z0_4, z1_4, z2_4, z3_4, z0_3, z1_3, z2_3, g1, g2, g3, g4, g5, w1, w2', hl3, hl4, go_sem])
        exact ih'
    · have g1 : ¬ (q.length : Int) < n := by omega
      have tb : baseSubject (told [104, 101, 108, 108, 111] q) = [104, 101, 108, 108, 111] := told_base (k := 0) hs4 (l := q) (by omega) hqm
      have tb0 : baseSubject [104, 101, 108, 108, 111] = [104, 101, 108, 108, 111] := t0 ⟨0, hs4⟩
      have hl1 : (told [104, 101, 108, 108, 111] q).length ≤ 1099511627776 := by omega
      simp only [hn, i1, hPl, z0_12, z1_12, z0_4, z1_4, z2_4, z3_4, z0_3, z1_3, z2_3, g1, hl1, tb, tb0, b_hello, b_real, go_sem]
      repeat' ((first | ((first | apply qa | apply qb | apply qc | apply qd | apply qe | apply qf | apply qg | apply qh | apply qi | apply qj | apply qk) <;> intro hp) | ((first | refine ql rfl rfl (by decide +kernel) ?_ | refine qm _ rfl rfl (by decide +kernel) ?_ | refine goes_opn rfl ?_ | refine goes_opnD rfl rfl (by decide +kernel) ?_) <;> have hp := True.intro)) <;> simp only [hp, hn, i1, hPl, z0_12, z1_12, z0_4, z1_4, z2_4, z3_4, z0_3, z1_3, z2_3, g1, hl1, tb, tb0, b_hello, b_real, go_sem])
      simp only [fin_mk, finV, resL, resV1, resIn, endA, listIn, Option.some_or, Option.none_or, oneOrTup, go_sem]
      rw [← hr]
  · have hs4 : 1 < 4 := by decide
    simp only [hc, hb, hc4, hP, hPl, i0, i1, hk, z0_12, z1_12, z0_4, z1_4, z2_4, z3_4, z0_3, z1_3, z2_3, go_sem]
    repeat' ((first | ((first | apply qa | apply qb | apply qc | apply qd | apply qe | apply qf | apply qg | apply qh | apply qi | apply qj | apply qk) <;> intro hp) | ((first | refine ql rfl rfl (by decide +kernel) ?_ | refine qm _ rfl rfl (by decide +kernel) ?_ | refine goes_opn rfl ?_ | refine goes_opnD rfl rfl (by decide +kernel) ?_) <;> have hp := True.intro)) <;> simp only [hp, hc, hb, hc4, hP, hPl, i0, i1, hk, z0_12, z1_12, z0_4, z1_4, z2_4, z3_4, z0_3, z1_3, z2_3, go_sem])
    refine loop_go (fun q : List Nat => [(5, .str (told [97, 32, 98] q)), (6, .int .i64 (q.length : Int))]) (fun _ => []) (fun q => 3 - q.length) (fun q => q.length ≤ n ∧ ∀ x ∈ q, x < 3) [] ⟨Nat.zero_le _, by simp⟩ rfl rfl ?_
    rintro q ⟨hq, hqm⟩ ih
    have hlen : (told [97, 32, 98] q).length ≤ (sub4 1).length + 6 * q.length := told_len q (sub4 1)
    have hsl := sub4_len 1
    by_cases g : q.length < n
    · have g1 : (q.length : Int) < n := by omega
      obtain ⟨v, w1, w2, w3⟩ := hm3 q.length (by omega)
      have g2 : IntKind.i64.wrap ((q.length : Int) + 2) = ((q.length + 2 : Nat) : Int) := (wrap64 (by omega) (by omega)).trans (by omega)
      have g3 : (0 : Int) ≤ ((q.length + 2 : Nat) : Int) := by omega
      have g4 : ((q.length + 2 : Nat) : Int) < ((12 : Nat) : Int) := by omega
      have g5 : IntKind.i64.wrap ((q.length : Int) + 1) = ((q.length + 1 : Nat) : Int) := wrap_succ (n := 10) (by omega) (by omega)
      have ih' := ih (q ++ [v]) ⟨by simp; omega, fun x hx => by
        rcases List.mem_append.1 hx with hx | hx
        · exact hqm x hx
        · simp only [List.mem_singleton] at hx; omega⟩ (by simp; omega)
      rw [told_snoc] at ih'
      simp only [List.length_append, List.length_singleton] at ih'
      clear ih
      have hl3 : 4 + (told [97, 32, 98] q).length ≤ 9223372036854775807 := by omega
      have hl4 : 6 + (told [97, 32, 98] q).length ≤ 9223372036854775807 := by omega
      have v3 : v = 0 ∨ v = 1 ∨ v = 2 := by omega
      rcases v3 with rfl | rfl | rfl
      · have w2' : P[q.length + 2]!.tmod 3 = 0 := w2
        simp only [pre3, List.cons_append, List.nil_append] at ih'
        simp only [hn, i1, hPl, z0_12, z1_12, z0_4, z1_4, z2_4, z3_4, z0_3, z1_3, z2_3, g1, g2, g3, g4, g5, w1, w2', hl3, hl4, go_sem]
        repeat' ((first | ((first | apply qa | apply qb | apply qc | apply qd | apply qe | apply qf | apply qg | apply qh | apply qi | apply qj | apply qk) <;> intro hp) | ((first | refine ql rfl rfl (by decide +kernel) ?_ | refine qm _ rfl rfl (by decide +kernel) ?_ | refine goes_opn rfl ?_ | refine goes_opnD rfl rfl (by decide +kernel) ?_) <;> have hp := True.intro)) <;> simp only [hp, hn, i1, hPl, z0_12, z1_12, z0_4, z1_4, z2_4, z3_4, z0_3, z1_3, z2_3, g1, g2, g3, g4, g5, w1, w2', hl3, hl4, go_sem])
        exact ih'
      · have w2' : P[q.length + 2]!.tmod 3 = 1 := w2
        simp only [pre3, List.cons_append, List.nil_append] at ih'
        simp only [hn, i1, hPl, z0_12, z1_12, z0_4, z1_4, z2_4, z3_4, z0_3, z1_3, z2_3, g1, g2, g3, g4, g5, w1, w2', hl3, hl4, go_sem]
        repeat' ((first | ((first | apply qa | apply qb | apply qc | apply qd | apply qe | apply qf | apply qg | apply qh | apply qi | apply qj | apply qk) <;> intro hp) | ((first | refine ql rfl rfl (by decide +kernel) ?_ | refine qm _ rfl rfl (by decide +kernel) ?_ | refine goes_opn rfl ?_ | refine goes_opnD rfl rfl (by decide +kernel) ?_) <;> have hp := True.intro)) <;> simp only [hp, hn, i1, hPl, z0_12, z1_12, z0_4, z1_4, z2_4, z3_4, z0_3, z1_3, z2_3, g1, g2, g3, g4, g5, w1, w2', hl3, hl4, go_sem])
        exact ih'
      · have w2' : P[q.length + 2]!.tmod 3 = 2 := w2
        simp only [pre3, List.cons_append, List.nil_append] at ih'
        simp only [hn, i1, hPl, z0_12, z1_12, z0_4, z1_4, z2_4, z3_4, z0_3, z1_3, z2_3, g1, g2, g3, g4, g5, w1, w2', hl3, hl4, go_sem]
        repeat' ((first | ((first | apply qa | apply qb | apply qc | apply qd | apply qe | apply qf | apply qg | apply qh | apply qi | apply qj | apply qk) <;> intro hp) | ((first | refine ql rfl rfl (by decide +kernel) ?_ | refine qm _ rfl rfl (by decide +kernel) ?_ | refine goes_opn rfl ?_ | refine goes_opnD rfl rfl (by decide +kernel) ?_) <;> have hp := True.intro)) <;> simp only [hp, hn, i1, hPl, z0_12, z1_12, z0_4, z1_4, z2_4, z3_4, z0_3, z1_3, z2_3, g1, g2, g3, g4, g5, w1, w2', hl3, hl4, go_sem])
        exact ih'
    · have g1 : ¬ (q.length : Int) < n := by omega
      have tb : baseSubject (told [97, 32, 98] q) = [97, 32, 98] := told_base (k := 1) hs4 (l := q) (by omega) hqm
      have tb0 : baseSubject [97, 32, 98] = [97, 32, 98] := t0 ⟨1, hs4⟩
      have hl1 : (told [97, 32, 98] q).length ≤ 1099511627776 := by omega
      simp only [hn, i1, hPl, z0_12, z1_12, z0_4, z1_4, z2_4, z3_4, z0_3, z1_3, z2_3, g1, hl1, tb, tb0, b_hello, b_real, go_sem]
      repeat' ((first | ((first | apply qa | apply qb | apply qc | apply qd | apply qe | apply qf | apply qg | apply qh | apply qi | apply qj | apply qk) <;> intro hp) | ((first | refine ql rfl rfl (by decide +kernel) ?_ | refine qm _ rfl rfl (by decide +kernel) ?_ | refine goes_opn rfl ?_ | refine goes_opnD rfl rfl (by decide +kernel) ?_) <;> have hp := True.intro)) <;> simp only [hp, hn, i1, hPl, z0_12, z1_12, z0_4, z1_4, z2_4, z3_4, z0_3, z1_3, z2_3, g1, hl1, tb, tb0, b_hello, b_real, go_sem])
      simp only [fin_mk, finV, resL, resV1, resIn, endA, listIn, Option.some_or, Option.none_or, oneOrTup, go_sem]
      rw [← hr]
  · have hs4 : 2 < 4 := by decide
    simp only [hc, hb, hc4, hP, hPl, i0, i1, hk, z0_12, z1_12, z0_4, z1_4, z2_4, z3_4, z0_3, z1_3, z2_3, go_sem]
    repeat' ((first | ((first | apply qa | apply qb | apply qc | apply qd | apply qe | apply qf | apply qg | apply qh | apply qi | apply qj | apply qk) <;> intro hp) | ((first | refine ql rfl rfl (by decide +kernel) ?_ | refine qm _ rfl rfl (by decide +kernel) ?_ | refine goes_opn rfl ?_ | refine goes_opnD rfl rfl (by decide +kernel) ?_) <;> have hp := True.intro)) <;> simp only [hp, hc, hb, hc4, hP, hPl, i0, i1, hk, z0_12, z1_12, z0_4, z1_4, z2_4, z3_4, z0_3, z1_3, z2_3, go_sem])
    refine loop_go (fun q : List Nat => [(5, .str (told [110, 101, 119, 115, 32, 111, 102, 32, 105, 116] q)), (6, .int .i64 (q.length : Int))]) (fun _ => []) (fun q => 3 - q.length) (fun q => q.length ≤ n ∧ ∀ x ∈ q, x < 3) [] ⟨Nat.zero_le _, by simp⟩ rfl rfl ?_
    rintro q ⟨hq, hqm⟩ ih
    have hlen : (told [110, 101, 119, 115, 32, 111, 102, 32, 105, 116] q).length ≤ (sub4 2).length + 6 * q.length := told_len q (sub4 2)
    have hsl := sub4_len 2
    by_cases g : q.length < n
    · have g1 : (q.length : Int) < n := by omega
      obtain ⟨v, w1, w2, w3⟩ := hm3 q.length (by omega)
      have g2 : IntKind.i64.wrap ((q.length : Int) + 2) = ((q.length + 2 : Nat) : Int) := (wrap64 (by omega) (by omega)).trans (by omega)
      have g3 : (0 : Int) ≤ ((q.length + 2 : Nat) : Int) := by omega
      have g4 : ((q.length + 2 : Nat) : Int) < ((12 : Nat) : Int) := by omega
      have g5 : IntKind.i64.wrap ((q.length : Int) + 1) = ((q.length + 1 : Nat) : Int) := wrap_succ (n := 10) (by omega) (by omega)
      have ih' := ih (q ++ [v]) ⟨by simp; omega, fun x hx => by
        rcases List.mem_append.1 hx with hx | hx
        · exact hqm x hx
        · simp only [List.mem_singleton] at hx; omega⟩ (by simp; omega)
      rw [told_snoc] at ih'
      simp only [List.length_append, List.length_singleton] at ih'
      clear ih
      have hl3 : 4 + (told [110, 101, 119, 115, 32, 111, 102, 32, 105, 116] q).length ≤ 9223372036854775807 := by omega
      have hl4 : 6 + (told [110, 101, 119, 115, 32, 111, 102, 32, 105, 116] q).length ≤ 9223372036854775807 := by omega
      have v3 : v = 0 ∨ v = 1 ∨ v = 2 := by omega
      rcases v3 with rfl | rfl | rfl
      · have w2' : P[q.length + 2]!.tmod 3 = 0 := w2
        simp only [pre3, List.cons_append, List.nil_append] at ih'
        simp only [hn, i1, hPl, z0_12, z1_12, z0_4, z1_4, z2_4, z3_4, z0_3, z1_3, z2_3, g1, g2, g3, g4, g5, w1, w2', hl3, hl4, go_sem]
        repeat' ((first | ((first | apply qa | apply qb | apply qc | apply qd | apply qe | apply qf | apply qg | apply qh | apply qi | apply qj | apply qk) <;> intro hp) | ((first | refine ql rfl rfl (by decide +kernel) ?_ | refine qm _ rfl rfl (by decide +kernel) ?_ | refine goes_opn rfl ?_ | refine goes_opnD rfl rfl (by decide +kernel) ?_) <;> have hp := True.intro)) <;> simp only [hp, hn, i1, hPl, z0_12, z1_12, z0_4, z1_4, z2_4, z3_4, z0_3, z1_3, z2_3, g1, g2, g3, g4, g5, w1, w2', hl3, hl4, go_sem])
        exact ih'
      · have w2' : P[q.length + 2]!.tmod 3 = 1 := w2
        simp only [pre3, List.cons_append, List.nil_append] at ih'
        simp only [hn, i1, hPl, z0_12, z1_12, z0_4, z1_4, z2_4, z3_4, z0_3, z1_3, z2_3, g1, g2, g3, g4, g5, w1, w2', hl3, hl4, go_sem]
        repeat' ((first | ((first | apply qa | apply qb | apply qc | apply qd | apply qe | apply qf | apply qg | apply qh | apply qi | apply qj | apply qk) <;> intro hp) | ((first | refine ql rfl rfl (by decide +kernel) ?_ | refine qm _ rfl rfl (by decide +kernel) ?_ | refine goes_opn rfl ?_ | refine goes_opnD rfl rfl (by decide +kernel) ?_) <;> have hp := True.intro)) <;> simp only [hp, hn, i1, hPl, z0_12, z1_12, z0_4, z1_4, z2_4, z3_4, z0_3, z1_3, z2_3, g1, g2, g3, g4, g5, w1, w2', hl3, hl4, go_sem])
        exact ih'
      · have w2' : P[q.length + 2]!.tmod 3 = 2 := w2
        simp only [pre3, List.cons_append, List.nil_append] at ih'
        simp only [hn, i1, hPl, z0_12, z1_12, z0_4, z1_4, z2_4, z3_4, z0_3, z1_3, z2_3, g1, g2, g3, g4, g5, w1, w2', hl3, hl4, go_sem]
        repeat' ((first | ((first | apply qa | apply qb | apply qc | apply qd | apply qe | apply qf | apply qg | apply qh | apply qi | apply qj | apply qk) <;> intro hp) | ((first | refine ql rfl rfl (by decide +kernel) ?_ | refine qm _ rfl rfl (by decide +kernel) ?_ | refine goes_opn rfl ?_ | refine goes_opnD rfl rfl (by decide +kernel) ?_) <;> have hp := True.intro)) <;> simp only [hp, hn, i1, hPl, z0_12, z1_12, z0_4, z1_4, z2_4, z3_4, z0_3, z1_3, z2_3, g1, g2, g3, g4, g5, w1, w2', hl3, hl4, go_sem])
        exact ih'
    · have g1 : ¬ (q.length : Int) < n := by omega
      have tb : baseSubject (told [110, 101, 119, 115, 32, 111, 102, 32, 105, 116] q) = [110, 101, 119, 115, 32, 111, 102, 32, 105, 116] := told_base (k := 2) hs4 (l := q) (by omega) hqm
      have tb0 : baseSubject [110, 101, 119, 115, 32, 111, 102, 32, 105, 116] = [110, 101, 119, 115, 32, 111, 102, 32, 105, 116] := t0 ⟨2, hs4⟩
      have hl1 : (told [110, 101, 119, 115, 32, 111, 102, 32, 105, 116] q).length ≤ 1099511627776 := by omega
      simp only [hn, i1, hPl, z0_12, z1_12, z0_4, z1_4, z2_4, z3_4, z0_3, z1_3, z2_3, g1, hl1, tb, tb0, b_hello, b_real, go_sem]
      repeat' ((first | ((first | apply qa | apply qb | apply qc | apply qd | apply qe | apply qf | apply qg | apply qh | apply qi | apply qj | apply qk) <;> intro hp) | ((first | refine ql rfl rfl (by decide +kernel) ?_ | refine qm _ rfl rfl (by decide +kernel) ?_ | refine goes_opn rfl ?_ | refine goes_opnD rfl rfl (by decide +kernel) ?_) <;> have hp := True.intro)) <;> simp only [hp, hn, i1, hPl, z0_12, z1_12, z0_4, z1_4, z2_4, z3_4, z0_3, z1_3, z2_3, g1, hl1, tb, tb0, b_hello, b_real, go_sem])
      simp only [fin_mk, finV, resL, resV1, resIn, endA, listIn, Option.some_or, Option.none_or, oneOrTup, go_sem]
      rw [← hr]
  · have hs4 : 3 < 4 := by decide
    simp only [hc, hb, hc4, hP, hPl, i0, i1, hk, z0_12, z1_12, z0_4, z1_4, z2_4, z3_4, z0_3, z1_3, z2_3, go_sem]
    repeat' ((first | ((first | apply qa | apply qb | apply qc | apply qd | apply qe | apply qf | apply qg | apply qh | apply qi | apply qj | apply qk) <;> intro hp) | ((first | refine ql rfl rfl (by decide +kernel) ?_ | refine qm _ rfl rfl (by decide +kernel) ?_ | refine goes_opn rfl ?_ | refine goes_opnD rfl rfl (by decide +kernel) ?_) <;> have hp := True.intro)) <;> simp only [hp, hc, hb, hc4, hP, hPl, i0, i1, hk, z0_12, z1_12, z0_4, z1_4, z2_4, z3_4, z0_3, z1_3, z2_3, go_sem])
    refine loop_go (fun q : List Nat => [(5, .str (told ([] : List UInt8) q)), (6, .int .i64 (q.length : Int))]) (fun _ => []) (fun q => 3 - q.length) (fun q => q.length ≤ n ∧ ∀ x ∈ q, x < 3) [] ⟨Nat.zero_le _, by simp⟩ rfl rfl ?_
    rintro q ⟨hq, hqm⟩ ih
    have hlen : (told ([] : List UInt8) q).length ≤ (sub4 3).length + 6 * q.length := told_len q (sub4 3)
    have hsl := sub4_len 3
    by_cases g : q.length < n
    · have g1 : (q.length : Int) < n := by omega
      obtain ⟨v, w1, w2, w3⟩ := hm3 q.length (by omega)
      have g2 : IntKind.i64.wrap ((q.length : Int) + 2) = ((q.length + 2 : Nat) : Int) := (wrap64 (by omega) (by omega)).trans (by omega)
      have g3 : (0 : Int) ≤ ((q.length + 2 : Nat) : Int) := by omega
      have g4 : ((q.length + 2 : Nat) : Int) < ((12 : Nat) : Int) := by omega
      have g5 : IntKind.i64.wrap ((q.length : Int) + 1) = ((q.length + 1 : Nat) : Int) := wrap_succ (n := 10) (by omega) (by omega)
      have ih' := ih (q ++ [v]) ⟨by simp; omega, fun x hx => by
        rcases List.mem_append.1 hx with hx | hx
        · exact hqm x hx
        · simp only [List.mem_singleton] at hx; omega⟩ (by simp; omega)
      rw [told_snoc] at ih'
      simp only [List.length_append, List.length_singleton] at ih'
      clear ih
      have hl3 : 4 + (told ([] : List UInt8) q).length ≤ 9223372036854775807 := by omega
      have hl4 : 6 + (told ([] : List UInt8) q).length ≤ 9223372036854775807 := by omega
      have v3 : v = 0 ∨ v = 1 ∨ v = 2 := by omega
      rcases v3 with rfl | rfl | rfl
      · have w2' : P[q.length + 2]!.tmod 3 = 0 := w2
        simp only [pre3, List.cons_append, List.nil_append] at ih'
        simp only [hn, i1, hPl, z0_12, z1_12, z0_4, z1_4, z2_4, z3_4, z0_3, z1_3, z2_3, g1, g2, g3, g4, g5, w1, w2', hl3, hl4, go_sem]
        repeat' ((first | ((first | apply qa | apply qb | apply qc | apply qd | apply qe | apply qf | apply qg | apply qh | apply qi | apply qj | apply qk) <;> intro hp) | ((first | refine ql rfl rfl (by decide +kernel) ?_ | refine qm _ rfl rfl (by decide +kernel) ?_ | refine goes_opn rfl ?_ | refine goes_opnD rfl rfl (by decide +kernel) ?_) <;> have hp := True.intro)) <;> simp only [hp, hn, i1, hPl, z0_12, z1_12, z0_4, z1_4, z2_4, z3_4, z0_3, z1_3, z2_3, g1, g2, g3, g4, g5, w1, w2', hl3, hl4, go_sem])
        exact ih'
      · have w2' : P[q.length + 2]!.tmod 3 = 1 := w2
        simp only [pre3, List.cons_append, List.nil_append] at ih'
        simp only [hn, i1, hPl, z0_12, z1_12, z0_4, z1_4, z2_4, z3_4, z0_3, z1_3, z2_3, g1, g2, g3, g4, g5, w1, w2', hl3, hl4, go_sem]
        repeat' ((first | ((first | apply qa | apply qb | apply qc | apply qd | apply qe | apply qf | apply qg | apply qh | apply qi | apply qj | apply qk) <;> intro hp) | ((first | refine ql rfl rfl (by decide +kernel) ?_ | refine qm _ rfl rfl (by decide +kernel) ?_ | refine goes_opn rfl ?_ | refine goes_opnD rfl rfl (by decide +kernel) ?_) <;> have hp := True.intro)) <;> simp only [hp, hn, i1, hPl, z0_12, z1_12, z0_4, z1_4, z2_4, z3_4, z0_3, z1_3, z2_3, g1, g2, g3, g4, g5, w1, w2', hl3, hl4, go_sem])
        exact ih'
      · have w2' : P[q.length + 2]!.tmod 3 = 2 := w2
        simp only [pre3, List.cons_append, List.nil_append] at ih'
        simp only [hn, i1, hPl, z0_12, z1_12, z0_4, z1_4, z2_4, z3_4, z0_3, z1_3, z2_3, g1, g2, g3, g4, g5, w1, w2', hl3, hl4, go_sem]
        repeat' ((first | ((first | apply qa | apply qb | apply qc | apply qd | apply qe | apply qf | apply qg | apply qh | apply qi | apply qj | apply qk) <;> intro hp) | ((first | refine ql rfl rfl (by decide +kernel) ?_ | refine qm _ rfl rfl (by decide +kernel) ?_ | refine goes_opn rfl ?_ | refine goes_opnD rfl rfl (by decide +kernel) ?_) <;> have hp := True.intro)) <;> simp only [hp, hn, i1, hPl, z0_12, z1_12, z0_4, z1_4, z2_4, z3_4, z0_3, z1_3, z2_3, g1, g2, g3, g4, g5, w1, w2', hl3, hl4, go_sem])
        exact ih'
    · have g1 : ¬ (q.length : Int) < n := by omega
      have tb : baseSubject (told ([] : List UInt8) q) = ([] : List UInt8) := told_base (k := 3) hs4 (l := q) (by omega) hqm
      have tb0 : baseSubject ([] : List UInt8) = ([] : List UInt8) := t0 ⟨3, hs4⟩
      have hl1 : (told ([] : List UInt8) q).length ≤ 1099511627776 := by omega
      simp only [hn, i1, hPl, z0_12, z1_12, z0_4, z1_4, z2_4, z3_4, z0_3, z1_3, z2_3, g1, hl1, tb, tb0, b_hello, b_real, go_sem]
      repeat' ((first | ((first | apply qa | apply qb | apply qc | apply qd | apply qe | apply qf | apply qg | apply qh | apply qi | apply qj | apply qk) <;> intro hp) | ((first | refine ql rfl rfl (by decide +kernel) ?_ | refine qm _ rfl rfl (by decide +kernel) ?_ | refine goes_opn rfl ?_ | refine goes_opnD rfl rfl (by decide +kernel) ?_) <;> have hp := True.intro)) <;> simp only [hp, hn, i1, hPl, z0_12, z1_12, z0_4, z1_4, z2_4, z3_4, z0_3, z1_3, z2_3, g1, hl1, tb, tb0, b_hello, b_real, go_sem])
      simp only [fin_mk, finV, resL, resV1, resIn, endA, listIn, Option.some_or, Option.none_or, oneOrTup, go_sem]
      rw [← hr]
set_option maxRecDepth 100000 in
theorem gbase (W : World) (hL : laidMetH Tryd.prog Rows.fnSubjectsRow.laid W) (hsh : W.ShapedOpen Tryd.prog) : GBase Tryd.prog spLaw.need W :=
  ⟨fun h => absurd (show "internal/strconv.uint64pow10" ∈ ([] : List String) from h) (by simp),
   fun h => absurd (show "internal/bytealg.MaxLen" ∈ ([] : List String) from h) (by simp),
   fun h => absurd (show "strconv.ErrSyntax" ∈ ([] : List String) from h) (by simp),
   fun h => absurd (show "strconv.ErrRange" ∈ ([] : List String) from h) (by simp)⟩
set_option maxRecDepth 100000 in
theorem own : ownKnob Tryd.prog.godebug = none := by kernel_rfl
theorem lifted (os : Os) (started : os.Started) (H : Type) (enc : TypeId × Value → H) :
    ReturnsInHanded {} Tryd.checked os 3 .any (fun w args => (Rows.fnSubjectsSpec.pre enc Tryd.prog Tryd.f3 [] false w args ∧ laidMetH Tryd.prog Rows.fnSubjectsRow.laid w) ∧ sizedMet enc Tryd.prog Tryd.f3 (OpenSpec.ofChange Rows.fnSubjectsSpec) false w args) (Rows.fnSubjectsSpec.post enc Tryd.prog Tryd.f3 false true false false) :=
  laid_of_fn Rows.fnSubjectsRow.laid (C := Tryd.checked) (n := 2) own started (by kernel_rfl) Tryd.func3 rfl rfl
    (ChangeSpec.witness_shaped (enc := enc) (C := Tryd.checked) (os := os) (X := fun w _ => laidMetH Tryd.prog Rows.fnSubjectsRow.laid w) false (World.laidAll Tryd.prog os Rows.fnSubjectsRow.laid) #[.slice none 0 0] 8 (World.laidAll_os _ _ _)
      (World.shaped_of_ZipB (by kernel_rfl) (by kernel_rfl)) (by kernel_rfl) (by kernel_rfl) (by kernel_rfl)
      (by rw [MakeChecks.laidMetH_plain _ _ _ (by kernel_rfl)]; exact laidMet_laidAll _ (by kernel_rfl) (by kernel_rfl)))
    rfl rfl Tryd.underlying4 (by kernel_rfl) (by
      intro t ht
      simp only [Tryd.f3, List.mem_cons, List.not_mem_nil, or_false] at ht
      subst ht; exact ⟨by kernel_rfl, by kernel_rfl, of_decide_eq_true (by kernel_rfl)⟩)
    (by
      intro ds hd
      match ds, hd with
      | [d0], _ => rfl)
    gbase ok_laws_FnSubjects rfl (by
      intro xs hl hw
      match xs, hl with
      | [x0], _ =>
        obtain ⟨x0, rfl, c0, _, e0⟩ := wf_slice Tryd.underlying22 (hw 0 22 x0 rfl rfl)
        rw [Ty.bytes_5] at c0
        have c0 : x0.length ≤ 4611686018427387904 := by unfold reachBytes at c0; omega
        obtain ⟨x0, rfl, d0⟩ := list_enc (e := eU8) (R := fun _ => True) fun v hv => by
          obtain ⟨m, rfl⟩ := wf_u8 Tryd.underlying5 (e0 v hv)
          exact ⟨m, rfl, trivial⟩
        rw [List.length_map] at c0
        simp only [spLaw, Ty.cells_5, decL_u8s, Option.bind_some]
        exact if_pos c0)
theorem over : Rows.fnSubjectsRow.holds Tryd.pinned (OpenSpec.ofChange Rows.fnSubjectsSpec) :=
  OpenClaim.holds_of_wide 3 Tryd.f3 rfl rfl rfl rfl rfl rfl rfl ⟨rfl, rfl, rfl, rfl, rfl⟩ rfl rfl rfl rfl rfl (by kernel_rfl) Tryd.func3 (by kernel_rfl)
    (of_decide_eq_true (by kernel_rfl)) (by unfold Func.isWrapper; first | (rw [if_pos (by decide +kernel)]; kernel_rfl) | (rw [if_neg (by decide +kernel)]; exact ⟨rfl, rfl⟩))
    (fun os started H enc _ => lifted os started H enc)
theorem card : Rows.FnSubjectsCardSaid :=
  Claim7.holds_tied_plain_at .later [] [.data, .pinned] true (true, "e7993d0e1b1222d9438608ce3533ce37c95a14b99203bcfb80008266cb4146ef") false over (fun _ h => by cases h) (by kernel_rfl) (fun _ h => by cases h) fnSubjects_row_tie rfl ⟨rfl, rfl⟩ (by kernel_rfl) rfl
    (fun f fn hf hfn => by
      obtain rfl : f = 3 := Option.some.inj ((show Tryd.prog.funcNamed "loop.example/g00247/laws.FnSubjects" = some 3 by kernel_rfl).symm.trans hf) |>.symm
      obtain rfl : fn = Tryd.f3 := (Option.some.inj (Tryd.func3.symm.trans hfn)).symm
      exact ⟨by kernel_rfl, fun j t ht => by
        have hm : t ∈ Tryd.f3.params.toList := Array.mem_toList_iff.2 (Array.mem_of_getElem? ht)
        have hall : (Tryd.f3.params.toList.all fun u => !Tryd.prog.wantsStandIn u) = true := by kernel_rfl
        exact (show Tryd.prog.wantsStandIn t = false by simpa using List.all_eq_true.1 hall t hm)⟩)
    (by kernel_rfl)
end Go.Proofs.YtknagbmhmjcnkaaDoor.VSubjects
namespace Go.Proofs.YtknagbmhmjcnkaaDoor
theorem fnSubjects_holds : Rows.FnSubjectsCardSaid := VSubjects.card
#print axioms fnSubjects_holds
end Go.Proofs.YtknagbmhmjcnkaaDoor
