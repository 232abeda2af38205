/- The law FnKeys: drawn words are keys just when the document tells so; a flag and its not part all mails of a drawn box. No condition. -/
import Derived.Test.YtonjbbfgdloljaaGreatDoorVLKeI

import Derived.Test.YtonjbbfgdloljaaGreatDoorVLKz
import Derived.Test.YtonjbbfgdloljaaGreatDoorVmDoor
import Derived.Stop.LaidErr
import Derived.Test.YtonjbbfgdloljaaGreatDoorTie
import Derived.Test.YtonjbbfgdloljaaGreatDoorCards
import Derived.Test.YtonjbbfgdloljaaGreatDoorRows
import Derived.KernelRfl
namespace Go.Proofs.YtonjbbfgdloljaaGreatDoor.VKeys
open Go Go.VM Go.Proofs.YtonjbbfgdloljaaGreatDoor.L
set_option maxRecDepth 100000
set_option maxHeartbeats 4000000
set_option linter.unusedSimpArgs false
set_option linter.unusedVariables false
theorem wf_u8 {P : Program} {n : Nat} {t : TypeId} {v : V} (hu : P.underlying t = some (.int .u8)) (h : WfV P (n + 1) t v) : ∃ m, v = .int .u8 m := by
  unfold WfV at h
  rw [hu] at h
  cases v <;> try exact h.elim
  obtain ⟨rfl, h1, h2⟩ := h
  exact ⟨_, rfl⟩
open Classical in
noncomputable def spBig : VM.Spec := { modes := [.rd], run := fun | [.lst 1 code'] => (decL dU8 code').bind fun code => if code.length ≤ 4611686018427387904 then some (.bool (decide (1048576 < code.length)), []) else none | _ => none, need := [] }
attribute [go_sem] spBig
theorem spBig_in {ins : List V} {r : V} {outs : List V} (h : spBig.run ins = some (r, outs)) : ∃ (code : (List Int)), ins = [.lst 1 ((code).map eU8)] ∧ (code.length ≤ 4611686018427387904) ∧ .bool (decide (1048576 < code.length)) = r ∧ outs = [] := by
  unfold spBig at h
  simp only at h
  split at h
  · rename_i code'
    simp only [Option.bind_eq_some_iff] at h
    obtain ⟨code, h_code, h⟩ := h
    split at h
    case isFalse => cases h
    rename_i hc
    simp only [Option.some.injEq, Prod.mk.injEq] at h
    obtain ⟨h1, h2⟩ := h
    have h_code := decL_some (fun _ _ h => dU8_some h) h_code
    subst h_code
    exact ⟨code, rfl, hc, h1, h2.symm⟩
  · cases h
def T_laws_big : Hints := ⟨lk [], lk [], lk [(0, [0]), (1, [2])], lk []⟩
noncomputable def Phi_laws_big : Tab := lk []
attribute [go_sem] T_laws_big Phi_laws_big
theorem phi_laws_big : ∀ f sp, Phi_laws_big f = some sp → FnOk Tryz.prog f sp ∧ ∀ n ∈ sp.need, n ∈ ([] : List String) := phi_nil
theorem ok_laws_big : FnOk Tryz.prog 5 spBig := by
  refine fn_ok (Φ := Phi_laws_big) (T := T_laws_big) phi_laws_big mixed Tryz.func5 rfl rfl rfl (by decide) ?_
  intro ins r outs hr hl
  clear hl
  have hs := spBig_in hr
  clear hr
  obtain ⟨code, rfl, hc, hr, rfl⟩ := hs
  simp only [spBig, Tryz.f5, Go.VM.initS]
  have e : decide ((1048576 : Int) < (code.length : Int)) = decide (1048576 < code.length) := by rw [Bool.eq_iff_iff]; simp; omega
  simp only [e, go_sem]
  repeat' ((first | apply qa | apply qb | apply qc | apply qd | apply qe | apply qf | apply qg | apply qh | apply qi | apply qj | apply qk) <;> intro hp <;> simp only [hp, e, go_sem])
  simp only [fin_mk, finV, resL, resV1, resIn, endA, listIn, Option.some_or, Option.none_or, oneOrTup, go_sem]
  rw [← hr]
theorem one_key {w : List UInt8} {k : Key} (h : keyOne w = some k) : readKeys [w] = ([k], true) := by
  rw [readKeys, keysL_one h (by decide), keysL]; rfl
theorem nm0 : keyOne [115, 101, 101, 110] = some ⟨2, 1, []⟩ ∧ keyOne [117, 110, 115, 101, 101, 110] = some ⟨3, 1, []⟩ := by decide +kernel
theorem nm1 : keyOne [97, 110, 115, 119, 101, 114, 101, 100] = some ⟨2, 2, []⟩ ∧ keyOne [117, 110, 97, 110, 115, 119, 101, 114, 101, 100] = some ⟨3, 2, []⟩ := by decide +kernel
theorem nm2 : keyOne [102, 108, 97, 103, 103, 101, 100] = some ⟨2, 4, []⟩ ∧ keyOne [117, 110, 102, 108, 97, 103, 103, 101, 100] = some ⟨3, 4, []⟩ := by decide +kernel
theorem nm3 : keyOne [100, 101, 108, 101, 116, 101, 100] = some ⟨2, 8, []⟩ ∧ keyOne [117, 110, 100, 101, 108, 101, 116, 101, 100] = some ⟨3, 8, []⟩ := by decide +kernel
theorem nm4 : keyOne [100, 114, 97, 102, 116] = some ⟨2, 16, []⟩ ∧ keyOne [117, 110, 100, 114, 97, 102, 116] = some ⟨3, 16, []⟩ := by decide +kernel
theorem key1_le (a n : Int) : leL Key.le 4194304 [⟨a, n, []⟩] := ⟨by simp, fun x hx => by rw [List.mem_singleton] at hx; subst hx; exact Nat.zero_le _⟩
theorem search_short {b : Box} (h : boxOk b = true) (ks : List Key) : (search b ks).length ≤ 4194304 := by
  have := (search_ok h ks).2
  simp only [setOk, Bool.and_eq_true, decide_eq_true_eq] at this
  omega
open Classical in
noncomputable def spLaw : VM.Spec := { modes := [.rd], run := fun | [.lst 1 code'] => (decL dU8 code').bind fun code => if code.length ≤ 4611686018427387904 then some (.bool true, []) else none | _ => none, need := ["internal/bytealg.MaxLen", "internal/strconv.uint64pow10", "strconv.ErrSyntax", "strconv.ErrRange"] }
attribute [go_sem] spLaw
theorem spLaw_in {ins : List V} {r : V} {outs : List V} (h : spLaw.run ins = some (r, outs)) : ∃ (code : (List Int)), ins = [.lst 1 ((code).map eU8)] ∧ (code.length ≤ 4611686018427387904) ∧ .bool true = r ∧ outs = [] := by
  unfold spLaw at h
  simp only at h
  split at h
  · rename_i code'
    simp only [Option.bind_eq_some_iff] at h
    obtain ⟨code, h_code, h⟩ := h
    split at h
    case isFalse => cases h
    rename_i hc
    simp only [Option.some.injEq, Prod.mk.injEq] at h
    obtain ⟨h1, h2⟩ := h
    have h_code := decL_some (fun _ _ h => dU8_some h) h_code
    subst h_code
    exact ⟨code, rfl, hc, h1, h2.symm⟩
  · cases h
def T_laws_FnKeys : Hints := ⟨lk [(11, []), (18, [(4, 6), (5, 6), (4, 11), (5, 11), (8, 11), (9, 11), (4, 12), (5, 12), (8, 12), (9, 12), (4, 13), (5, 13), (8, 13), (9, 13), (19, 20), (19, 21)])], lk [(9, [0, 4, 6, 8])], lk [(0, [0]), (1, [0, 18]), (2, [2]), (3, [0, 3]), (4, [0, 3, 4, 5]), (5, [0, 4, 5, 6, 7]), (6, [0, 4, 6, 40]), (7, [2]), (8, [0, 4, 6, 8]), (9, [0, 4, 6, 8, 44]), (11, [0, 4, 6, 8, 55]), (12, [2]), (10, [0, 4, 6, 8]), (13, [0, 9]), (14, [0, 9, 10]), (15, [0, 9, 10, 11]), (16, [0, 9, 11, 13, 14]), (17, [9, 11, 13, 14, 15, 16]), (18, [2])], lk []⟩
noncomputable def Phi_laws_FnKeys : Tab := lk [(5, spBig), (15, spDrawReadKeys), (16, spReadKeysI), (17, spReadKeys), (18, spDrawBox), (19, spPlaces), (20, spDrawMm), (22, spSearch), (21, spSetSize), (23, spMatches), (24, spMatches)]
attribute [go_sem] T_laws_FnKeys Phi_laws_FnKeys
theorem phi_laws_FnKeys : ∀ f sp, Phi_laws_FnKeys f = some sp → FnOk Tryz.prog f sp ∧ ∀ n ∈ sp.need, n ∈ (["internal/bytealg.MaxLen", "internal/strconv.uint64pow10", "strconv.ErrSyntax", "strconv.ErrRange"] : List String) := phi_cons ok_laws_big (n0 rfl) (phi_cons ok_spec_DrawReadKeys (n0 rfl) (phi_cons ok_impl_ReadKeys (fun n (h : n ∈ (["internal/bytealg.MaxLen", "internal/strconv.uint64pow10", "strconv.ErrSyntax", "strconv.ErrRange"] : List String)) => by simp only [List.mem_cons, List.not_mem_nil, or_false] at h; rcases h with rfl | rfl | rfl | rfl <;> simp) (phi_cons ok_spec_ReadKeys (fun n (h : n ∈ (["internal/bytealg.MaxLen"] : List String)) => by simp only [List.mem_cons, List.not_mem_nil, or_false] at h; rcases h with rfl <;> simp) (phi_cons ok_spec_DrawBox (n0 rfl) (phi_cons ok_spec_DrawPlaces (n0 rfl) (phi_cons ok_spec_DrawMatches (fun n (h : n ∈ (["internal/bytealg.MaxLen"] : List String)) => by simp only [List.mem_cons, List.not_mem_nil, or_false] at h; rcases h with rfl <;> simp) (phi_cons ok_impl_Search (fun n (h : n ∈ (["internal/bytealg.MaxLen"] : List String)) => by simp only [List.mem_cons, List.not_mem_nil, or_false] at h; rcases h with rfl <;> simp) (phi_cons ok_impl_SetSize (n0 rfl) (phi_cons ok_impl_Matches (fun n (h : n ∈ (["internal/bytealg.MaxLen"] : List String)) => by simp only [List.mem_cons, List.not_mem_nil, or_false] at h; rcases h with rfl <;> simp) (phi_cons ok_spec_Matches (fun n (h : n ∈ (["internal/bytealg.MaxLen"] : List String)) => by simp only [List.mem_cons, List.not_mem_nil, or_false] at h; rcases h with rfl <;> simp) (phi_nil)))))))))))
theorem ok_laws_FnKeys : FnOk Tryz.prog 4 spLaw := by
  refine fn_ok (Φ := Phi_laws_FnKeys) (T := T_laws_FnKeys) phi_laws_FnKeys mixed Tryz.func4 rfl rfl rfl (by decide) ?_
  intro ins r outs hr hl
  clear hl
  have hs := spLaw_in hr
  clear hr
  obtain ⟨code, rfl, hc, hr, rfl⟩ := hs
  simp only [spLaw, Tryz.f4, Go.VM.initS]
  by_cases hb : 1048576 < code.length
  · simp only [hc, hb, go_sem]
    repeat' ((first | ((first | apply qa | apply qb | apply qc | apply qd | apply qe | apply qf | apply qg | apply qh | apply qi | apply qj | apply qk) <;> intro hp) | ((first | refine ql rfl rfl (by decide +kernel) ?_ | refine qm _ rfl rfl (by decide +kernel) ?_) <;> have hp := True.intro)) <;> simp only [hp, hc, hb, go_sem])
    simp only [fin_mk, finV, resL, resV1, resIn, endA, listIn, Option.some_or, Option.none_or, oneOrTup, go_sem]
    rw [← hr]
  have hc4 : code.length ≤ 4194304 := by omega
  have i0 := cur0_in hc4
  obtain ⟨w1, w2⟩ := drawRK_in hc4
  obtain ⟨W, hW⟩ : ∃ W, drawRK code = W := ⟨_, rfl⟩
  rw [hW] at w1 w2
  have lw : W.length ≤ 4194304 := by omega
  have lw2 : ∀ w ∈ W, w.length ≤ 4194304 := fun w hw => by have := w2 w hw; omega
  have lw3 := eq_true lw2
  have rk := (readKeys_in (ws := W) (n := 20) w2).1
  obtain ⟨KS, hKS⟩ : ∃ K, (readKeys W).1 = K := ⟨_, rfl⟩
  rw [hKS] at rk
  obtain ⟨Z, hZ⟩ : ∃ K, (readKeys W).2 = K := ⟨_, rfl⟩
  have iB := (box8_in i0).1
  obtain ⟨B, hB⟩ : ∃ B, (box8 (cur0 code)).1 = B := ⟨_, rfl⟩
  rw [hB] at iB
  have lB := box_le iB
  have hml : B.Mails.length ≤ 30 := (boxOk_parts iB).2.1
  obtain ⟨hPl, hPm⟩ := places_in hc4
  obtain ⟨P, hP⟩ : ∃ P, places code = P := ⟨_, rfl⟩
  rw [hP] at hPl hPm
  have p0 : 0 < P.length := by omega
  have m0 := hPm _ (List.getElem_mem p0)
  have q0 : P[0]? = some P[0] := List.getElem?_eq_getElem p0
  have z0 : (0 : Int) < ((12 : Nat) : Int) := by decide
  have z1 : (0 : Int) < (P.length : Int) := by omega
  obtain ⟨mm1, mm2⟩ := drawMm_le hc4
  obtain ⟨M, hM⟩ : ∃ M, (drawMm code).1 = M := ⟨_, rfl⟩
  obtain ⟨K, hK⟩ : ∃ K, (drawMm code).2 = K := ⟨_, rfl⟩
  rw [hM] at mm1
  rw [hK] at mm2
  have lM : M.le 4194304 := mm1
  have lK : K.le 4194304 := mm2
  have y0 : (0 : Int) < ((5 : Nat) : Int) := by decide
  have y1 : (1 : Int) < ((5 : Nat) : Int) := by decide
  have y2 : (2 : Int) < ((5 : Nat) : Int) := by decide
  have y3 : (3 : Int) < ((5 : Nat) : Int) := by decide
  have y4 : (4 : Int) < ((5 : Nat) : Int) := by decide
  have hx5 : P[0].tmod 5 = 0 ∨ P[0].tmod 5 = 1 ∨ P[0].tmod 5 = 2 ∨ P[0].tmod 5 = 3 ∨ P[0].tmod 5 = 4 := by rw [Int.tmod_eq_emod_of_nonneg m0.1]; omega
  simp only [hc, hb, hc4, hW, lw, lw3, hKS, hZ, bne_self_eq_false, go_sem]
  repeat' ((first | ((first | apply qa | apply qb | apply qc | apply qd | apply qe | apply qf | apply qg | apply qh | apply qi | apply qj | apply qk) <;> intro hp) | ((first | refine ql rfl rfl (by decide +kernel) ?_ | refine qm _ rfl rfl (by decide +kernel) ?_) <;> have hp := True.intro)) <;> simp only [hp, hc, hb, hc4, hW, lw, lw3, hKS, hZ, bne_self_eq_false, go_sem])
  refine loop_go (fun i : Nat => [(8, .int .i64 (i : Int))]) (fun _ => []) (fun i => KS.length - i) (fun i => i ≤ KS.length) 0 (Nat.zero_le _) rfl rfl ?_
  intro i hi ih
  rcases Nat.lt_or_ge i KS.length with h | h
  · have g1 : (i : Int) < KS.length := by omega
    have g2 : (0 : Int) ≤ i := by omega
    have g3 : KS[i]? = some KS[i] := List.getElem?_eq_getElem h
    have g5 := wrap_succ h (by omega)
    have ih' := ih (i + 1) h (by omega)
    clear ih
    simp only [g1, g2, g3, g5, beq_self_eq_true, Bool.and_self, Bool.not_true, go_sem]
    repeat' ((first | ((first | apply qa | apply qb | apply qc | apply qd | apply qe | apply qf | apply qg | apply qh | apply qi | apply qj | apply qk) <;> intro hp) | ((first | refine ql rfl rfl (by decide +kernel) ?_ | refine qm _ rfl rfl (by decide +kernel) ?_) <;> have hp := True.intro)) <;> simp only [hp, g1, g2, g3, g5, beq_self_eq_true, Bool.and_self, Bool.not_true, go_sem])
    exact ih'
  · have g1 : ¬ (i : Int) < KS.length := by omega
    clear ih
    rcases hx5 with m | m | m | m | m
    · have r1 := one_key nm0.1
      have r2 := one_key nm0.2
      have fp := flag_parts iB (n := 1) (by decide +kernel)
      have s1 := search_short iB [⟨2, 1, []⟩]
      have s2 := search_short iB [⟨3, 1, []⟩]
      have k1 := key1_le 2 1
      have k2 := key1_le 3 1
      generalize hS1 : search B [⟨2, 1, []⟩] = S1 at *
      generalize hS2 : search B [⟨3, 1, []⟩] = S2 at *
      have wf : IntKind.i64.wrap (setSize S1 + setSize S2) = B.Mails.length := by rw [fp]; exact wrap64 (by omega) (by omega)
      simp only [g1, hc4, hB, hP, q0, z0, z1, y0, hPl, m, r1, r2, lB, k1, k2, hS1, hS2, s1, s2, wf, hM, hK, lM, lK, beq_self_eq_true, go_sem]
      repeat' ((first | ((first | apply qa | apply qb | apply qc | apply qd | apply qe | apply qf | apply qg | apply qh | apply qi | apply qj | apply qk) <;> intro hp) | ((first | refine ql rfl rfl (by decide +kernel) ?_ | refine qm _ rfl rfl (by decide +kernel) ?_) <;> have hp := True.intro)) <;> simp only [hp, g1, hc4, hB, hP, q0, z0, z1, y0, hPl, m, r1, r2, lB, k1, k2, hS1, hS2, s1, s2, wf, hM, hK, lM, lK, beq_self_eq_true, go_sem])
      all_goals first | exact Bool.false_ne_true hp | skip
      all_goals (simp only [fin_mk, finV, resL, resV1, resIn, endA, listIn, Option.some_or, Option.none_or, oneOrTup, go_sem]; rw [← hr])
      all_goals first | rfl | skip
    · have r1 := one_key nm1.1
      have r2 := one_key nm1.2
      have fp := flag_parts iB (n := 2) (by decide +kernel)
      have s1 := search_short iB [⟨2, 2, []⟩]
      have s2 := search_short iB [⟨3, 2, []⟩]
      have k1 := key1_le 2 2
      have k2 := key1_le 3 2
      generalize hS1 : search B [⟨2, 2, []⟩] = S1 at *
      generalize hS2 : search B [⟨3, 2, []⟩] = S2 at *
      have wf : IntKind.i64.wrap (setSize S1 + setSize S2) = B.Mails.length := by rw [fp]; exact wrap64 (by omega) (by omega)
      simp only [g1, hc4, hB, hP, q0, z0, z1, y1, hPl, m, r1, r2, lB, k1, k2, hS1, hS2, s1, s2, wf, hM, hK, lM, lK, beq_self_eq_true, go_sem]
      repeat' ((first | ((first | apply qa | apply qb | apply qc | apply qd | apply qe | apply qf | apply qg | apply qh | apply qi | apply qj | apply qk) <;> intro hp) | ((first | refine ql rfl rfl (by decide +kernel) ?_ | refine qm _ rfl rfl (by decide +kernel) ?_) <;> have hp := True.intro)) <;> simp only [hp, g1, hc4, hB, hP, q0, z0, z1, y1, hPl, m, r1, r2, lB, k1, k2, hS1, hS2, s1, s2, wf, hM, hK, lM, lK, beq_self_eq_true, go_sem])
      all_goals first | exact Bool.false_ne_true hp | skip
      all_goals (simp only [fin_mk, finV, resL, resV1, resIn, endA, listIn, Option.some_or, Option.none_or, oneOrTup, go_sem]; rw [← hr])
      all_goals first | rfl | skip
    · have r1 := one_key nm2.1
      have r2 := one_key nm2.2
      have fp := flag_parts iB (n := 4) (by decide +kernel)
      have s1 := search_short iB [⟨2, 4, []⟩]
      have s2 := search_short iB [⟨3, 4, []⟩]
      have k1 := key1_le 2 4
      have k2 := key1_le 3 4
      generalize hS1 : search B [⟨2, 4, []⟩] = S1 at *
      generalize hS2 : search B [⟨3, 4, []⟩] = S2 at *
      have wf : IntKind.i64.wrap (setSize S1 + setSize S2) = B.Mails.length := by rw [fp]; exact wrap64 (by omega) (by omega)
      simp only [g1, hc4, hB, hP, q0, z0, z1, y2, hPl, m, r1, r2, lB, k1, k2, hS1, hS2, s1, s2, wf, hM, hK, lM, lK, beq_self_eq_true, go_sem]
      repeat' ((first | ((first | apply qa | apply qb | apply qc | apply qd | apply qe | apply qf | apply qg | apply qh | apply qi | apply qj | apply qk) <;> intro hp) | ((first | refine ql rfl rfl (by decide +kernel) ?_ | refine qm _ rfl rfl (by decide +kernel) ?_) <;> have hp := True.intro)) <;> simp only [hp, g1, hc4, hB, hP, q0, z0, z1, y2, hPl, m, r1, r2, lB, k1, k2, hS1, hS2, s1, s2, wf, hM, hK, lM, lK, beq_self_eq_true, go_sem])
      all_goals first | exact Bool.false_ne_true hp | skip
      all_goals (simp only [fin_mk, finV, resL, resV1, resIn, endA, listIn, Option.some_or, Option.none_or, oneOrTup, go_sem]; rw [← hr])
      all_goals first | rfl | skip
    · have r1 := one_key nm3.1
      have r2 := one_key nm3.2
      have fp := flag_parts iB (n := 8) (by decide +kernel)
      have s1 := search_short iB [⟨2, 8, []⟩]
      have s2 := search_short iB [⟨3, 8, []⟩]
      have k1 := key1_le 2 8
      have k2 := key1_le 3 8
      generalize hS1 : search B [⟨2, 8, []⟩] = S1 at *
      generalize hS2 : search B [⟨3, 8, []⟩] = S2 at *
      have wf : IntKind.i64.wrap (setSize S1 + setSize S2) = B.Mails.length := by rw [fp]; exact wrap64 (by omega) (by omega)
      simp only [g1, hc4, hB, hP, q0, z0, z1, y3, hPl, m, r1, r2, lB, k1, k2, hS1, hS2, s1, s2, wf, hM, hK, lM, lK, beq_self_eq_true, go_sem]
      repeat' ((first | ((first | apply qa | apply qb | apply qc | apply qd | apply qe | apply qf | apply qg | apply qh | apply qi | apply qj | apply qk) <;> intro hp) | ((first | refine ql rfl rfl (by decide +kernel) ?_ | refine qm _ rfl rfl (by decide +kernel) ?_) <;> have hp := True.intro)) <;> simp only [hp, g1, hc4, hB, hP, q0, z0, z1, y3, hPl, m, r1, r2, lB, k1, k2, hS1, hS2, s1, s2, wf, hM, hK, lM, lK, beq_self_eq_true, go_sem])
      all_goals first | exact Bool.false_ne_true hp | skip
      all_goals (simp only [fin_mk, finV, resL, resV1, resIn, endA, listIn, Option.some_or, Option.none_or, oneOrTup, go_sem]; rw [← hr])
      all_goals first | rfl | skip
    · have r1 := one_key nm4.1
      have r2 := one_key nm4.2
      have fp := flag_parts iB (n := 16) (by decide +kernel)
      have s1 := search_short iB [⟨2, 16, []⟩]
      have s2 := search_short iB [⟨3, 16, []⟩]
      have k1 := key1_le 2 16
      have k2 := key1_le 3 16
      generalize hS1 : search B [⟨2, 16, []⟩] = S1 at *
      generalize hS2 : search B [⟨3, 16, []⟩] = S2 at *
      have wf : IntKind.i64.wrap (setSize S1 + setSize S2) = B.Mails.length := by rw [fp]; exact wrap64 (by omega) (by omega)
      simp only [g1, hc4, hB, hP, q0, z0, z1, y4, hPl, m, r1, r2, lB, k1, k2, hS1, hS2, s1, s2, wf, hM, hK, lM, lK, beq_self_eq_true, go_sem]
      repeat' ((first | ((first | apply qa | apply qb | apply qc | apply qd | apply qe | apply qf | apply qg | apply qh | apply qi | apply qj | apply qk) <;> intro hp) | ((first | refine ql rfl rfl (by decide +kernel) ?_ | refine qm _ rfl rfl (by decide +kernel) ?_) <;> have hp := True.intro)) <;> simp only [hp, g1, hc4, hB, hP, q0, z0, z1, y4, hPl, m, r1, r2, lB, k1, k2, hS1, hS2, s1, s2, wf, hM, hK, lM, lK, beq_self_eq_true, go_sem])
      all_goals first | exact Bool.false_ne_true hp | skip
      all_goals (simp only [fin_mk, finV, resL, resV1, resIn, endA, listIn, Option.some_or, Option.none_or, oneOrTup, go_sem]; rw [← hr])
      all_goals first | rfl | skip
theorem errStar : "*" ++ "errors.errorString" = "*errors.errorString" := by decide
theorem errRow (u : TypeId) (h : Tryz.prog.typeName? 3 u = some "*errors.errorString") : u = 198 :=
  typeName_ptr_named (nm := "errors.errorString") (by rw [errStar]; kernel_rfl) (by kernel_rfl) (by decide) u (by rw [errStar]; exact h)
set_option maxRecDepth 100000 in
theorem gbase (W : World) (hL : laidMetH Tryz.prog Rows.fnKeysRow.laid W) (hsh : W.ShapedOpen Tryz.prog) : GBase Tryz.prog spLaw.need W :=
  ⟨fun _ => laid_tab (g := 1) (t := 187) (by kernel_rfl) (by kernel_rfl) Tryz.underlying187 Tryz.underlying165 (by kernel_rfl) (by kernel_rfl) (by rw [MakeChecks.laidMetH_plain _ _ _ (by kernel_rfl)] at hL; exact hL) (by simp only [Rows.fnKeysRow, List.mem_cons]; first | exact .inl rfl | exact .inr (.inl rfl) | exact .inr (.inr (.inl rfl)) | exact .inr (.inr (.inr (.inl rfl))) | exact .inr (.inr (.inr (.inr (.inl rfl)))) | exact .inr (.inr (.inr (.inr (.inr (.inl rfl)))))),
   fun _ => (let ⟨m, hm⟩ := Go.Proofs.cell_of_shapedOpen_int hsh (g := 0) (t := 3) (zero := #[.int .i64 0]) (of_decide_eq_true (by kernel_rfl)) (by kernel_rfl) rfl (by kernel_rfl) (by kernel_rfl) Tryz.underlying3; ⟨0, m, by kernel_rfl, hm⟩),
   fun _ => (let ⟨_, _, hv, _⟩ := laid_sentinel (g := 2) (ti := 135) (tp := 198) (te := 200) (ts := 9) (show laidMet Tryz.prog Rows.fnKeysRow.laid W by rw [MakeChecks.laidMetH_plain _ _ _ (by kernel_rfl)] at hL; exact hL).tail.tail.tail.tail.tail (by kernel_rfl) (by kernel_rfl) Tryz.underlying135 errRow Tryz.underlying198 Tryz.underlying200 rfl rfl Tryz.underlying9 (by kernel_rfl) (by kernel_rfl); ⟨_, _, hv⟩),
   fun _ => (let ⟨_, _, hv, _⟩ := laid_sentinel (g := 3) (ti := 135) (tp := 198) (te := 200) (ts := 9) (show laidMet Tryz.prog Rows.fnKeysRow.laid W by rw [MakeChecks.laidMetH_plain _ _ _ (by kernel_rfl)] at hL; exact hL).tail.tail.tail.tail (by kernel_rfl) (by kernel_rfl) Tryz.underlying135 errRow Tryz.underlying198 Tryz.underlying200 rfl rfl Tryz.underlying9 (by kernel_rfl) (by kernel_rfl); ⟨_, _, hv⟩)⟩
set_option maxRecDepth 100000 in
theorem own : ownKnob Tryz.prog.godebug = none := by kernel_rfl
theorem lifted (os : Os) (started : os.Started) (H : Type) (enc : TypeId × Value → H) :
    ReturnsInHanded {} Tryz.checked os 4 .any (fun w args => (Rows.fnKeysSpec.pre enc Tryz.prog Tryz.f4 [] false w args ∧ laidMetH Tryz.prog Rows.fnKeysRow.laid w) ∧ sizedMet enc Tryz.prog Tryz.f4 (OpenSpec.ofChange Rows.fnKeysSpec) false w args) (Rows.fnKeysSpec.post enc Tryz.prog Tryz.f4 false true false false) :=
  laid_of_fn Rows.fnKeysRow.laid (C := Tryz.checked) (n := 2) own started (by kernel_rfl) Tryz.func4 rfl rfl
    (ChangeSpec.witness_shaped (enc := enc) (C := Tryz.checked) (os := os) (X := fun w _ => laidMetH Tryz.prog Rows.fnKeysRow.laid w) false (World.laidAll Tryz.prog os Rows.fnKeysRow.laid) #[.slice none 0 0] 8 (World.laidAll_os _ _ _)
      (World.shaped_of_ZipB (by kernel_rfl) (by kernel_rfl)) (by kernel_rfl) (by kernel_rfl) (by kernel_rfl)
      (by rw [MakeChecks.laidMetH_plain _ _ _ (by kernel_rfl)]; exact laidMet_laidAll _ (by kernel_rfl) (by kernel_rfl)))
    rfl rfl Tryz.underlying4 (by kernel_rfl) (by
      intro t ht
      simp only [Tryz.f4, List.mem_cons, List.not_mem_nil, or_false] at ht
      subst ht; exact ⟨by kernel_rfl, by kernel_rfl, of_decide_eq_true (by kernel_rfl)⟩)
    (by
      intro ds hd
      match ds, hd with
      | [d0], _ => rfl)
    gbase ok_laws_FnKeys rfl (by
      intro xs hl hw
      match xs, hl with
      | [x0], _ =>
        obtain ⟨x0, rfl, c0, _, e0⟩ := wf_slice Tryz.underlying22 (hw 0 22 x0 rfl rfl)
        rw [Ty.bytes_5] at c0
        have c0 : x0.length ≤ 4611686018427387904 := by unfold reachBytes at c0; omega
        obtain ⟨x0, rfl, d0⟩ := list_enc (e := eU8) (R := fun _ => True) fun v hv => by
          obtain ⟨m, rfl⟩ := wf_u8 Tryz.underlying5 (e0 v hv)
          exact ⟨m, rfl, trivial⟩
        rw [List.length_map] at c0
        simp only [spLaw, Ty.cells_5, decL_u8s, Option.bind_some]
        exact if_pos c0)
theorem over : Rows.fnKeysRow.holds Tryz.pinned (OpenSpec.ofChange Rows.fnKeysSpec) :=
  OpenClaim.holds_of_wide 4 Tryz.f4 rfl rfl rfl rfl rfl rfl rfl ⟨rfl, rfl, rfl, rfl, rfl⟩ rfl rfl rfl rfl rfl (by kernel_rfl) Tryz.func4 (by kernel_rfl)
    (of_decide_eq_true (by kernel_rfl)) (by unfold Func.isWrapper; first | (rw [if_pos (by decide +kernel)]; kernel_rfl) | (rw [if_neg (by decide +kernel)]; exact ⟨rfl, rfl⟩))
    (fun os started H enc _ => lifted os started H enc)
theorem card : Rows.FnKeysCardSaid :=
  Claim7.holds_tied_plain_at .later [] [.data, .data, .data, .data, .sentinel, .sentinel, .pinned] true (true, "0e1dfcf6cc4e3f58725566107fa22ea2c0b757fda16c1adcadd4d3a5014eee48") true over (fun _ h => by cases h) (by kernel_rfl) (fun _ h => by cases h) fnKeys_row_tie rfl ⟨rfl, rfl⟩ (by kernel_rfl) rfl
    (fun f fn hf hfn => by
      obtain rfl : f = 4 := Option.some.inj ((show Tryz.prog.funcNamed "loop.example/g00247/laws.FnKeys" = some 4 by kernel_rfl).symm.trans hf) |>.symm
      obtain rfl : fn = Tryz.f4 := (Option.some.inj (Tryz.func4.symm.trans hfn)).symm
      exact ⟨by kernel_rfl, fun j t ht => by
        have hm : t ∈ Tryz.f4.params.toList := Array.mem_toList_iff.2 (Array.mem_of_getElem? ht)
        have hall : (Tryz.f4.params.toList.all fun u => !Tryz.prog.wantsStandIn u) = true := by kernel_rfl
        exact (show Tryz.prog.wantsStandIn t = false by simpa using List.all_eq_true.1 hall t hm)⟩)
    (by kernel_rfl)
end Go.Proofs.YtonjbbfgdloljaaGreatDoor.VKeys
namespace Go.Proofs.YtonjbbfgdloljaaGreatDoor
theorem fnKeys_holds : Rows.FnKeysCardSaid := VKeys.card
#print axioms fnKeys_holds
end Go.Proofs.YtonjbbfgdloljaaGreatDoor
