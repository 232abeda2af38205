/- The law FnFinds: what is found in a drawn box is what matches all keys; with a key more no more is found. No condition. -/
import Derived.Test.YtimiccneikhkgaaGreatDoorVLDr
import Derived.Test.YtimiccneikhkgaaGreatDoorVLWo

import Derived.Test.YtimiccneikhkgaaGreatDoorVLSame
import Derived.Test.YtimiccneikhkgaaGreatDoorVmDoor
import Derived.Test.YtimiccneikhkgaaGreatDoorTie
import Derived.Test.YtimiccneikhkgaaGreatDoorCards
import Derived.Test.YtimiccneikhkgaaGreatDoorRows
import Derived.KernelRfl
namespace Go.Proofs.YtimiccneikhkgaaGreatDoor.VFinds
open Go Go.VM Go.Proofs.YtimiccneikhkgaaGreatDoor.L
set_option maxRecDepth 100000
set_option maxHeartbeats 4000000
set_option linter.unusedSimpArgs false
set_option linter.unusedVariables false
theorem wf_u8 {P : Program} {n : Nat} {t : TypeId} {v : V} (hu : P.underlying t = some (.int .u8)) (h : WfV P (n + 1) t v) : ∃ m, v = .int .u8 m := by
  unfold WfV at h
  rw [hu] at h
  cases v <;> try exact h.elim
  obtain ⟨rfl, h1, h2⟩ := h
  exact ⟨_, rfl⟩
open Classical in
noncomputable def spBig : VM.Spec := { modes := [.rd], run := fun | [.lst 1 code'] => (decL dU8 code').bind fun code => if code.length ≤ 4611686018427387904 then some (.bool (decide (1048576 < code.length)), []) else none | _ => none, need := [] }
attribute [go_sem] spBig
theorem spBig_in {ins : List V} {r : V} {outs : List V} (h : spBig.run ins = some (r, outs)) : ∃ (code : (List Int)), ins = [.lst 1 ((code).map eU8)] ∧ (code.length ≤ 4611686018427387904) ∧ .bool (decide (1048576 < code.length)) = r ∧ outs = [] := by
  unfold spBig at h
  simp only at h
  split at h
  · rename_i code'
    simp only [Option.bind_eq_some_iff] at h
    obtain ⟨code, h_code, h⟩ := h
    split at h
    case isFalse => cases h
    rename_i hc
    simp only [Option.some.injEq, Prod.mk.injEq] at h
    obtain ⟨h1, h2⟩ := h
    have h_code := decL_some (fun _ _ h => dU8_some h) h_code
    subst h_code
    exact ⟨code, rfl, hc, h1, h2.symm⟩
  · cases h
def T_laws_big : Hints := ⟨fun _ => none, fun _ => none, fun i => if i = 0 then some [0] else if i = 1 then some [2] else none, fun _ => none⟩
noncomputable def Phi_laws_big : Tab := fun f => none
attribute [go_sem] T_laws_big Phi_laws_big
theorem phi_laws_big : ∀ f sp, Phi_laws_big f = some sp → FnOk Tryz.prog f sp ∧ ∀ n ∈ sp.need, n ∈ ([] : List String) := by
  intro f sp h
  unfold Phi_laws_big at h
  cases h
theorem ok_laws_big : FnOk Tryz.prog 6 spBig := by
  refine fn_ok (Φ := Phi_laws_big) (T := T_laws_big) phi_laws_big mixed Tryz.func6 rfl rfl rfl (by decide) ?_
  intro ins r outs hr hl
  clear hl
  have hs := spBig_in hr
  clear hr
  obtain ⟨code, rfl, hc, hr, rfl⟩ := hs
  simp only [spBig, Tryz.f6, Go.VM.initS]
  have e : decide ((1048576 : Int) < (code.length : Int)) = decide (1048576 < code.length) := by rw [Bool.eq_iff_iff]; simp; omega
  simp only [e, go_sem]
  repeat' ((first | ((first | apply qa | apply qb | apply qc | apply qd | apply qe | apply qf | apply qg | apply qh | apply qi | apply qj | apply qk) <;> intro hp) | ((first | refine ql rfl rfl (by decide +kernel) ?_ | refine qm _ rfl rfl (by decide +kernel) ?_ | refine goes_opn rfl ?_ | refine goes_opnD rfl rfl (by decide +kernel) ?_) <;> have hp := True.intro)) <;> simp only [hp, e, go_sem])
  simp only [fin_mk, finV, resL, resV1, resIn, endA, listIn, Option.some_or, Option.none_or, oneOrTup, go_sem]
  rw [← hr]
open Classical in
noncomputable def spLaw : VM.Spec := { modes := [.rd], run := fun | [.lst 1 code'] => (decL dU8 code').bind fun code => if code.length ≤ 4611686018427387904 then some (.bool true, []) else none | _ => none, need := ["internal/bytealg.MaxLen"] }
attribute [go_sem] spLaw
theorem spLaw_in {ins : List V} {r : V} {outs : List V} (h : spLaw.run ins = some (r, outs)) : ∃ (code : (List Int)), ins = [.lst 1 ((code).map eU8)] ∧ (code.length ≤ 4611686018427387904) ∧ .bool true = r ∧ outs = [] := by
  unfold spLaw at h
  simp only at h
  split at h
  · rename_i code'
    simp only [Option.bind_eq_some_iff] at h
    obtain ⟨code, h_code, h⟩ := h
    split at h
    case isFalse => cases h
    rename_i hc
    simp only [Option.some.injEq, Prod.mk.injEq] at h
    obtain ⟨h1, h2⟩ := h
    have h_code := decL_some (fun _ _ h => dU8_some h) h_code
    subst h_code
    exact ⟨code, rfl, hc, h1, h2.symm⟩
  · cases h
def T_laws_FnFinds : Hints := ⟨fun i => if i = 13 then some [] else if i = 16 then some [(0, 1), (0, 3), (1, 4), (3, 4), (0, 5), (1, 5), (3, 5), (0, 6)] else if i = 19 then some [(8, 9), (8, 10), (8, 11)] else none, fun i => if i = 7 then some [3, 4, 5, 6] else if i = 11 then some [3, 4, 5, 6, 7, 8] else none, fun i => if i = 0 then some [0] else if i = 1 then some [0, 14] else if i = 2 then some [2] else if i = 3 then some [0, 3] else if i = 4 then some [3, 4] else if i = 5 then some [3, 4, 5] else if i = 6 then some [3, 4, 5, 6] else if i = 7 then some [3, 4, 5, 6, 26] else if i = 9 then some [3, 4, 5, 6, 7] else if i = 10 then some [3, 4, 5, 6, 7, 8] else if i = 11 then some [3, 4, 5, 6, 7, 8, 32] else if i = 13 then some [3, 4, 5, 6, 7, 8] else if i = 12 then some [3, 4, 5, 6, 7, 8] else if i = 14 then some [3, 4, 5, 6, 57] else if i = 15 then some [2] else if i = 8 then some [3, 4, 5, 6] else if i = 16 then some [3, 4, 5, 9] else if i = 17 then some [3, 4, 5, 9, 10, 11] else if i = 18 then some [3, 4, 5, 9, 10, 11, 12] else if i = 19 then some [2] else none, fun _ => none⟩
noncomputable def Phi_laws_FnFinds : Tab := fun f => if f = 6 then some spBig else if f = 15 then some spDrawBox else if f = 16 then some spDrawKeys else if f = 17 then some spSearch else if f = 18 then some spMatches else if f = 19 then some spSetHas else if f = 20 then some spSetMeet else if f = 21 then some spSameSet else if f = 22 then some spSetSize else if f = 23 then some spSearch else none
attribute [go_sem] T_laws_FnFinds Phi_laws_FnFinds
theorem phi_laws_FnFinds : ∀ f sp, Phi_laws_FnFinds f = some sp → FnOk Tryz.prog f sp ∧ ∀ n ∈ sp.need, n ∈ (["internal/bytealg.MaxLen"] : List String) := by
  intro f sp h
  unfold Phi_laws_FnFinds at h
  by_cases e : f = 6
  · rw [if_pos e] at h; cases h; rw [e]; exact ⟨ok_laws_big, (fun n (h : n ∈ ([] : List String)) => (nomatch h))⟩
  rw [if_neg e] at h
  by_cases e : f = 15
  · rw [if_pos e] at h; cases h; rw [e]; exact ⟨ok_spec_DrawBox, (fun n (h : n ∈ ([] : List String)) => (nomatch h))⟩
  rw [if_neg e] at h
  by_cases e : f = 16
  · rw [if_pos e] at h; cases h; rw [e]; exact ⟨ok_spec_DrawKeys, (fun n (h : n ∈ (["internal/bytealg.MaxLen"] : List String)) => by simp only [List.mem_cons, List.not_mem_nil, or_false] at h; rcases h with rfl <;> simp)⟩
  rw [if_neg e] at h
  by_cases e : f = 17
  · rw [if_pos e] at h; cases h; rw [e]; exact ⟨ok_impl_Search, (fun n (h : n ∈ (["internal/bytealg.MaxLen"] : List String)) => by simp only [List.mem_cons, List.not_mem_nil, or_false] at h; rcases h with rfl <;> simp)⟩
  rw [if_neg e] at h
  by_cases e : f = 18
  · rw [if_pos e] at h; cases h; rw [e]; exact ⟨ok_impl_Matches, (fun n (h : n ∈ (["internal/bytealg.MaxLen"] : List String)) => by simp only [List.mem_cons, List.not_mem_nil, or_false] at h; rcases h with rfl <;> simp)⟩
  rw [if_neg e] at h
  by_cases e : f = 19
  · rw [if_pos e] at h; cases h; rw [e]; exact ⟨ok_impl_SetHas, (fun n (h : n ∈ ([] : List String)) => (nomatch h))⟩
  rw [if_neg e] at h
  by_cases e : f = 20
  · rw [if_pos e] at h; cases h; rw [e]; exact ⟨ok_impl_SetMeet, (fun n (h : n ∈ ([] : List String)) => (nomatch h))⟩
  rw [if_neg e] at h
  by_cases e : f = 21
  · rw [if_pos e] at h; cases h; rw [e]; exact ⟨ok_laws_sameSet, (fun n (h : n ∈ ([] : List String)) => (nomatch h))⟩
  rw [if_neg e] at h
  by_cases e : f = 22
  · rw [if_pos e] at h; cases h; rw [e]; exact ⟨ok_spec_SetSize, (fun n (h : n ∈ ([] : List String)) => (nomatch h))⟩
  rw [if_neg e] at h
  by_cases e : f = 23
  · rw [if_pos e] at h; cases h; rw [e]; exact ⟨ok_spec_Search, (fun n (h : n ∈ (["internal/bytealg.MaxLen"] : List String)) => by simp only [List.mem_cons, List.not_mem_nil, or_false] at h; rcases h with rfl <;> simp)⟩
  rw [if_neg e] at h
  cases h
theorem ok_laws_FnFinds : FnOk Tryz.prog 4 spLaw := by
  refine fn_ok (Φ := Phi_laws_FnFinds) (T := T_laws_FnFinds) phi_laws_FnFinds mixed Tryz.func4 rfl rfl rfl (by decide) ?_
  intro ins r outs hr hl
  clear hl
  have hs := spLaw_in hr
  clear hr
  obtain ⟨code, rfl, hc, hr, rfl⟩ := hs
  simp only [spLaw, Tryz.f4, Go.VM.initS]
  by_cases hb : 1048576 < code.length
  · simp only [hc, hb, go_sem]
    repeat' ((first | ((first | apply qa | apply qb | apply qc | apply qd | apply qe | apply qf | apply qg | apply qh | apply qi | apply qj | apply qk) <;> intro hp) | ((first | refine ql rfl rfl (by decide +kernel) ?_ | refine qm _ rfl rfl (by decide +kernel) ?_ | refine goes_opn rfl ?_ | refine goes_opnD rfl rfl (by decide +kernel) ?_) <;> have hp := True.intro)) <;> simp only [hp, hc, hb, go_sem])
    simp only [fin_mk, finV, resL, resV1, resIn, endA, listIn, Option.some_or, Option.none_or, oneOrTup, go_sem]
    rw [← hr]
  have hc4 : code.length ≤ 4194304 := by omega
  have i0 := cur0_in hc4
  have iB := (box8_in i0).1
  obtain ⟨B, hB⟩ : ∃ B, (box8 (cur0 code)).1 = B := ⟨_, rfl⟩
  rw [hB] at iB
  have lB := box_le iB
  have lM : B.Mails.length ≤ 4194304 := by have := (boxOk_parts iB).2.1; omega
  have hT : ∀ m ∈ B.Mails, m.le 4194304 := fun m hm => by have := (boxOk_parts iB).2.2.2.2 m hm; show m.Text.length ≤ _; omega
  obtain ⟨k6, kf⟩ := drawKeys_in hc4
  obtain ⟨K, hK⟩ : ∃ K, drawKeys code = K := ⟨_, rfl⟩
  rw [hK] at k6 kf
  have kl : leL Key.le 4194304 K := keys_le (n := 20) (by omega) kf (by decide)
  have kl1 : K.length ≤ 4194304 := by omega
  have kl2 : leL Key.le 4194304 (K ++ [⟨3, 1, []⟩]) := keys_le (n := 20) (by simp; omega) (fun k hk => by
    rcases List.mem_append.1 hk with hk | hk
    · exact kf k hk
    · simp only [List.mem_singleton] at hk; subst hk; simp) (by decide)
  have kl3 : leL Key.le 4194304 [(⟨1, 0, []⟩ : Key)] := keys_le (n := 20) (by simp) (fun k hk => by simp only [List.mem_singleton] at hk; subst hk; simp) (by decide)
  have s1 := search_le B K
  have s2 := search_le B (K ++ [⟨3, 1, []⟩])
  have s3 := search_le B [⟨1, 0, []⟩]
  have s4 : (search B K).length ≤ 8388608 := by omega
  obtain ⟨m1, m2⟩ := meet_more iB K ⟨3, 1, []⟩
  have a1 := search_all iB
  obtain ⟨S, hS⟩ : ∃ S, search B K = S := ⟨_, rfl⟩
  obtain ⟨M, hM⟩ : ∃ M, search B (K ++ [⟨3, 1, []⟩]) = M := ⟨_, rfl⟩
  obtain ⟨E, hE⟩ : ∃ E, search B [⟨1, 0, []⟩] = E := ⟨_, rfl⟩
  have hh := fun (i : Nat) (hi : i < B.Mails.length) => search_has iB K hi
  rw [hS] at s1 s4 m1 m2
  rw [hM] at s2 m1 m2
  rw [hE] at s3 a1
  simp only [hS] at hh
  have q1 : (K.length + 1) * 32 ≤ 140737488355328 := by omega
  have q2 : K.length ≤ 9223372036854775806 := by omega
  have q3 : K.length * 32 ≤ 140737488355328 := by omega
  have q4 : K.length ≤ 9223372036854775807 := by omega
  simp only [hc, hb, hc4, hB, hK, lB, kl, hS, go_sem]
  repeat' ((first | ((first | apply qa | apply qb | apply qc | apply qd | apply qe | apply qf | apply qg | apply qh | apply qi | apply qj | apply qk) <;> intro hp) | ((first | refine ql rfl rfl (by decide +kernel) ?_ | refine qm _ rfl rfl (by decide +kernel) ?_ | refine goes_opn rfl ?_ | refine goes_opnD rfl rfl (by decide +kernel) ?_) <;> have hp := True.intro)) <;> simp only [hp, hc, hb, hc4, hB, hK, lB, kl, hS, go_sem])
  refine loop_go (fun i : Nat => [(6, .int .i64 (i : Int))]) (fun _ => []) (fun i => B.Mails.length - i) (fun i => i ≤ B.Mails.length) 0 (Nat.zero_le _) rfl rfl ?_
  intro i hi ih
  rcases Nat.lt_or_ge i B.Mails.length with h | h
  · have g1 : (i : Int) < B.Mails.length := by omega
    have g2 : (0 : Int) ≤ i := by omega
    have g3 : B.Mails[i]? = some B.Mails[i] := List.getElem?_eq_getElem h
    have g5 := wrap_succ h (by omega)
    have gm := hT _ (List.getElem_mem h)
    have gh := hh i h
    have ih' := ih (i + 1) h (by omega)
    clear ih
    obtain ⟨X, hX⟩ : ∃ X, B.Mails[i] = X := ⟨_, rfl⟩
    rw [hX] at g3 gm gh
    simp only [g1, g2, g3, go_sem]
    repeat' ((first | ((first | apply qa | apply qb | apply qc | apply qd | apply qe | apply qf | apply qg | apply qh | apply qi | apply qj | apply qk) <;> intro hp) | ((first | refine ql rfl rfl (by decide +kernel) ?_ | refine qm _ rfl rfl (by decide +kernel) ?_ | refine goes_opn rfl ?_ | refine goes_opnD rfl rfl (by decide +kernel) ?_) <;> have hp := True.intro)) <;> simp only [hp, g1, g2, g3, go_sem])
    refine loop_go (fun j : Nat => [(7, .bool (allB X (K.take j))), (8, .int .i64 (j : Int))]) (fun _ => []) (fun j => K.length - j) (fun j => j ≤ K.length) 0 (Nat.zero_le _) rfl rfl ?_
    intro j hj ihj
    rcases Nat.lt_or_ge j K.length with hj2 | hj2
    · have j1 : (j : Int) < K.length := by omega
      have j2 : (0 : Int) ≤ j := by omega
      have j3 : K[j]? = some K[j] := List.getElem?_eq_getElem hj2
      have j5 := wrap_succ hj2 (by omega)
      have jk : K[j].le 4194304 := by have := kf _ (List.getElem_mem hj2); show K[j].Text.length ≤ _; unfold keyFits at this; omega
      have ihj' := ihj (j + 1) hj2 (by omega)
      rw [allB_succ hj2] at ihj'
      cases ha : allB X (K.take j) with
      | true =>
        rw [ha, Bool.true_and] at ihj'
        simp only [g1, g2, g3, j1, j2, j3, j5, gm, jk, ha, go_sem]
        repeat' ((first | ((first | apply qa | apply qb | apply qc | apply qd | apply qe | apply qf | apply qg | apply qh | apply qi | apply qj | apply qk) <;> intro hp) | ((first | refine ql rfl rfl (by decide +kernel) ?_ | refine qm _ rfl rfl (by decide +kernel) ?_ | refine goes_opn rfl ?_ | refine goes_opnD rfl rfl (by decide +kernel) ?_) <;> have hp := True.intro)) <;> simp only [hp, g1, g2, g3, j1, j2, j3, j5, gm, jk, ha, go_sem])
        exact ihj'
      | false =>
        rw [ha, Bool.false_and] at ihj'
        simp only [g1, g2, g3, j1, j2, j3, j5, gm, jk, ha, go_sem]
        repeat' ((first | ((first | apply qa | apply qb | apply qc | apply qd | apply qe | apply qf | apply qg | apply qh | apply qi | apply qj | apply qk) <;> intro hp) | ((first | refine ql rfl rfl (by decide +kernel) ?_ | refine qm _ rfl rfl (by decide +kernel) ?_ | refine goes_opn rfl ?_ | refine goes_opnD rfl rfl (by decide +kernel) ?_) <;> have hp := True.intro)) <;> simp only [hp, g1, g2, g3, j1, j2, j3, j5, gm, jk, ha, go_sem])
        exact ihj'
    · have j1 : ¬ (j : Int) < K.length := by omega
      rw [List.take_of_length_le hj2]
      simp only [g1, g2, g3, g5, j1, s4, gh, bne_self_eq_false, go_sem]
      repeat' ((first | ((first | apply qa | apply qb | apply qc | apply qd | apply qe | apply qf | apply qg | apply qh | apply qi | apply qj | apply qk) <;> intro hp) | ((first | refine ql rfl rfl (by decide +kernel) ?_ | refine qm _ rfl rfl (by decide +kernel) ?_ | refine goes_opn rfl ?_ | refine goes_opnD rfl rfl (by decide +kernel) ?_) <;> have hp := True.intro)) <;> simp only [hp, g1, g2, g3, g5, j1, s4, gh, bne_self_eq_false, go_sem])
      exact ih'
  · have g1 : ¬ (i : Int) < B.Mails.length := by omega
    simp only [g1, hb, hB, hK, lB, kl, kl1, kl2, kl3, hS, hM, hE, s1, s2, s3, m1, m2, a1, q1, q2, q3, q4, decide_true, go_sem]
    repeat' ((first | ((first | apply qa | apply qb | apply qc | apply qd | apply qe | apply qf | apply qg | apply qh | apply qi | apply qj | apply qk) <;> intro hp) | ((first | refine ql rfl rfl (by decide +kernel) ?_ | refine qm _ rfl rfl (by decide +kernel) ?_ | refine goes_opn rfl ?_ | refine goes_opnD rfl rfl (by decide +kernel) ?_) <;> have hp := True.intro)) <;> simp only [hp, g1, hb, hB, hK, lB, kl, kl1, kl2, kl3, hS, hM, hE, s1, s2, s3, m1, m2, a1, q1, q2, q3, q4, decide_true, go_sem])
    all_goals (simp only [fin_mk, finV, resL, resV1, resIn, endA, listIn, Option.some_or, Option.none_or, oneOrTup, go_sem]; rw [← hr])
    all_goals first | rfl | skip
set_option maxRecDepth 100000 in
theorem gbase (W : World) (hL : laidMetH Tryz.prog Rows.fnFindsRow.laid W) (hsh : W.ShapedOpen Tryz.prog) : GBase Tryz.prog spLaw.need W :=
  ⟨fun h => absurd (show "internal/strconv.uint64pow10" ∈ (["internal/bytealg.MaxLen"] : List String) from h) (by simp),
   fun _ => (let ⟨m, hm⟩ := Go.Proofs.cell_of_shapedOpen_int hsh (g := 0) (t := 3) (zero := #[.int .i64 0]) (of_decide_eq_true (by kernel_rfl)) (by kernel_rfl) rfl (by kernel_rfl) (by kernel_rfl) Tryz.underlying3; ⟨0, m, by kernel_rfl, hm⟩),
   fun h => absurd (show "strconv.ErrSyntax" ∈ (["internal/bytealg.MaxLen"] : List String) from h) (by simp),
   fun h => absurd (show "strconv.ErrRange" ∈ (["internal/bytealg.MaxLen"] : List String) from h) (by simp)⟩
set_option maxRecDepth 100000 in
theorem own : ownKnob Tryz.prog.godebug = none := by kernel_rfl
theorem lifted (os : Os) (started : os.Started) (H : Type) (enc : TypeId × Value → H) :
    ReturnsInHanded {} Tryz.checked os 4 .any (fun w args => (Rows.fnFindsSpec.pre enc Tryz.prog Tryz.f4 [] false w args ∧ laidMetH Tryz.prog Rows.fnFindsRow.laid w) ∧ sizedMet enc Tryz.prog Tryz.f4 (OpenSpec.ofChange Rows.fnFindsSpec) false w args) (Rows.fnFindsSpec.post enc Tryz.prog Tryz.f4 false true false false) :=
  laid_of_fn Rows.fnFindsRow.laid (C := Tryz.checked) (n := 2) own started (by kernel_rfl) Tryz.func4 rfl rfl
    (ChangeSpec.witness_shaped (enc := enc) (C := Tryz.checked) (os := os) (X := fun w _ => laidMetH Tryz.prog Rows.fnFindsRow.laid w) false (World.laidAll Tryz.prog os Rows.fnFindsRow.laid) #[.slice none 0 0] 8 (World.laidAll_os _ _ _)
      (World.shaped_of_ZipB (by kernel_rfl) (by kernel_rfl)) (by kernel_rfl) (by kernel_rfl) (by kernel_rfl)
      (by rw [MakeChecks.laidMetH_plain _ _ _ (by kernel_rfl)]; exact laidMet_laidAll _ (by kernel_rfl) (by kernel_rfl)))
    rfl rfl Tryz.underlying4 (by kernel_rfl) (by
      intro t ht
      simp only [Tryz.f4, List.mem_cons, List.not_mem_nil, or_false] at ht
      subst ht; exact ⟨by kernel_rfl, by kernel_rfl, of_decide_eq_true (by kernel_rfl)⟩)
    (by
      intro ds hd
      match ds, hd with
      | [d0], _ => rfl)
    gbase ok_laws_FnFinds rfl (by
      intro xs hl hw
      match xs, hl with
      | [x0], _ =>
        obtain ⟨x0, rfl, c0, _, e0⟩ := wf_slice Tryz.underlying22 (hw 0 22 x0 rfl rfl)
        rw [Ty.bytes_5] at c0
        have c0 : x0.length ≤ 4611686018427387904 := by unfold reachBytes at c0; omega
        obtain ⟨x0, rfl, d0⟩ := list_enc (e := eU8) (R := fun _ => True) fun v hv => by
          obtain ⟨m, rfl⟩ := wf_u8 Tryz.underlying5 (e0 v hv)
          exact ⟨m, rfl, trivial⟩
        rw [List.length_map] at c0
        simp only [spLaw, Ty.cells_5, decL_u8s, Option.bind_some]
        exact if_pos c0)
theorem over : Rows.fnFindsRow.holds Tryz.pinned (OpenSpec.ofChange Rows.fnFindsSpec) :=
  OpenClaim.holds_of_wide 4 Tryz.f4 rfl rfl rfl rfl rfl rfl rfl ⟨rfl, rfl, rfl, rfl, rfl⟩ rfl rfl rfl rfl rfl (by kernel_rfl) Tryz.func4 (by kernel_rfl)
    (of_decide_eq_true (by kernel_rfl)) (by unfold Func.isWrapper; first | (rw [if_pos (by decide +kernel)]; kernel_rfl) | (rw [if_neg (by decide +kernel)]; exact ⟨rfl, rfl⟩))
    (fun os started H enc _ => lifted os started H enc)
theorem card : Rows.FnFindsCardSaid :=
  Claim7.holds_tied_plain_at .later [] [.data, .pinned] true (true, "374870f9c4487c88fb3ae982972c82d93a2f90c98e4c6f9ceb4cf1ae8d02883b") false over (fun _ h => by cases h) (by kernel_rfl) (fun _ h => by cases h) fnFinds_row_tie rfl ⟨rfl, rfl⟩ (by kernel_rfl) rfl
    (fun f fn hf hfn => by
      obtain rfl : f = 4 := Option.some.inj ((show Tryz.prog.funcNamed "loop.example/g00247/laws.FnFinds" = some 4 by kernel_rfl).symm.trans hf) |>.symm
      obtain rfl : fn = Tryz.f4 := (Option.some.inj (Tryz.func4.symm.trans hfn)).symm
      exact ⟨by kernel_rfl, fun j t ht => by
        have hm : t ∈ Tryz.f4.params.toList := Array.mem_toList_iff.2 (Array.mem_of_getElem? ht)
        have hall : (Tryz.f4.params.toList.all fun u => !Tryz.prog.wantsStandIn u) = true := by kernel_rfl
        exact (show Tryz.prog.wantsStandIn t = false by simpa using List.all_eq_true.1 hall t hm)⟩)
    (by kernel_rfl)
end Go.Proofs.YtimiccneikhkgaaGreatDoor.VFinds
namespace Go.Proofs.YtimiccneikhkgaaGreatDoor
theorem fnFinds_holds : Rows.FnFindsCardSaid := VFinds.card
#print axioms fnFinds_holds
end Go.Proofs.YtimiccneikhkgaaGreatDoor
