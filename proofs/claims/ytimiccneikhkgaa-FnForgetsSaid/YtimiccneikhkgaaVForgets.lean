/- The law FnForgets: what is forgotten is not told any more; whoever asks from ahead of it is told so. No condition. -/
import Derived.Test.YtimiccneikhkgaaVLDrB
import Derived.Test.YtimiccneikhkgaaVLSame
import Derived.Test.YtimiccneikhkgaaVLVa
import Derived.Test.YtimiccneikhkgaaVmLaw
import Derived.Test.YtimiccneikhkgaaRows
import Derived.KernelRfl
namespace Go.Proofs.Ytimiccneikhkgaa.VForgets
open Go Go.VM Go.Proofs.Ytimiccneikhkgaa.L
set_option maxRecDepth 100000
set_option maxHeartbeats 4000000
set_option linter.unusedSimpArgs false
set_option linter.unusedVariables false
theorem wf_u8 {P : Program} {n : Nat} {t : TypeId} {v : V} (hu : P.underlying t = some (.int .u8)) (h : WfV P (n + 1) t v) : ∃ m, v = .int .u8 m := by
  unfold WfV at h
  rw [hu] at h
  cases v <;> try exact h.elim
  obtain ⟨rfl, h1, h2⟩ := h
  exact ⟨_, rfl⟩
open Classical in
noncomputable def spBig : VM.Spec := { modes := [.rd], run := fun | [.lst 1 code'] => (decL dU8 code').bind fun code => if code.length ≤ 4611686018427387904 then some (.bool (decide (1048576 < code.length)), []) else none | _ => none, need := [] }
attribute [go_sem] spBig
theorem spBig_in {ins : List V} {r : V} {outs : List V} (h : spBig.run ins = some (r, outs)) : ∃ (code : (List Int)), ins = [.lst 1 ((code).map eU8)] ∧ (code.length ≤ 4611686018427387904) ∧ .bool (decide (1048576 < code.length)) = r ∧ outs = [] := by
  unfold spBig at h
  simp only at h
  split at h
  · rename_i code'
    simp only [Option.bind_eq_some_iff] at h
    obtain ⟨code, h_code, h⟩ := h
    split at h
    case isFalse => cases h
    rename_i hc
    simp only [Option.some.injEq, Prod.mk.injEq] at h
    obtain ⟨h1, h2⟩ := h
    have h_code := decL_some (fun _ _ h => dU8_some h) h_code
    subst h_code
    exact ⟨code, rfl, hc, h1, h2.symm⟩
  · cases h
def T_laws_big : Hints := ⟨fun _ => none, fun _ => none, fun i => if i = 0 then some [0] else if i = 1 then some [2] else none, fun _ => none⟩
noncomputable def Phi_laws_big : Tab := fun f => none
attribute [go_sem] T_laws_big Phi_laws_big
theorem phi_laws_big : ∀ f sp, Phi_laws_big f = some sp → FnOk Try.prog f sp ∧ ∀ n ∈ sp.need, n ∈ ([] : List String) := by
  intro f sp h
  unfold Phi_laws_big at h
  cases h
theorem ok_laws_big : FnOk Try.prog 4 spBig := by
  refine fn_ok (Φ := Phi_laws_big) (T := T_laws_big) phi_laws_big mixed Try.func4 rfl rfl rfl (by decide) ?_
  intro ins r outs hr hl
  clear hl
  have hs := spBig_in hr
  clear hr
  obtain ⟨code, rfl, hc, hr, rfl⟩ := hs
  simp only [spBig, Try.f4, Go.VM.initS]
  have e : decide ((1048576 : Int) < (code.length : Int)) = decide (1048576 < code.length) := by rw [Bool.eq_iff_iff]; simp; omega
  simp only [e, go_sem]
  repeat' ((first | ((first | apply qa | apply qb | apply qc | apply qd | apply qe | apply qf | apply qg | apply qh | apply qi | apply qj | apply qk) <;> intro hp) | ((first | refine ql rfl rfl (by decide +kernel) ?_ | refine qm _ rfl rfl (by decide +kernel) ?_ | refine goes_opn rfl ?_ | refine goes_opnD rfl rfl (by decide +kernel) ?_) <;> have hp := True.intro)) <;> simp only [hp, e, go_sem])
  simp only [fin_mk, finV, resL, resV1, resIn, endA, listIn, Option.some_or, Option.none_or, oneOrTup, go_sem]
  rw [← hr]
open Classical in
noncomputable def spLaw : VM.Spec := { modes := [.rd], run := fun | [.lst 1 code'] => (decL dU8 code').bind fun code => if code.length ≤ 4611686018427387904 then some (.bool true, []) else none | _ => none, need := [] }
attribute [go_sem] spLaw
theorem spLaw_in {ins : List V} {r : V} {outs : List V} (h : spLaw.run ins = some (r, outs)) : ∃ (code : (List Int)), ins = [.lst 1 ((code).map eU8)] ∧ (code.length ≤ 4611686018427387904) ∧ .bool true = r ∧ outs = [] := by
  unfold spLaw at h
  simp only at h
  split at h
  · rename_i code'
    simp only [Option.bind_eq_some_iff] at h
    obtain ⟨code, h_code, h⟩ := h
    split at h
    case isFalse => cases h
    rename_i hc
    simp only [Option.some.injEq, Prod.mk.injEq] at h
    obtain ⟨h1, h2⟩ := h
    have h_code := decL_some (fun _ _ h => dU8_some h) h_code
    subst h_code
    exact ⟨code, rfl, hc, h1, h2.symm⟩
  · cases h
def T_laws_FnForgets : Hints := ⟨fun i => if i = 4 then some [(1, 4), (1, 5)] else none, fun _ => none, fun i => if i = 0 then some [0] else if i = 1 then some [0, 15] else if i = 2 then some [2] else if i = 3 then some [0, 3] else if i = 4 then some [3, 4] else if i = 5 then some [3, 4, 5] else if i = 6 then some [3, 4, 5, 7] else if i = 7 then some [3, 4, 5, 7, 8, 9] else if i = 8 then some [3, 4, 5, 7, 8, 9, 10, 11] else if i = 9 then some [3, 4, 5, 7, 8, 9, 10, 11, 12, 13] else if i = 10 then some [2] else none, fun _ => none⟩
noncomputable def Phi_laws_FnForgets : Tab := fun f => if f = 4 then some spBig else if f = 5 then some spDrawBox else if f = 6 then some spPlaces else if f = 7 then some spForgetTombs else if f = 8 then some spVanished else if f = 9 then some spVanished else if f = 10 then some spBoxOk else if f = 11 then some spSameSet else if f = 12 then some spSameMails else none
attribute [go_sem] T_laws_FnForgets Phi_laws_FnForgets
theorem phi_laws_FnForgets : ∀ f sp, Phi_laws_FnForgets f = some sp → FnOk Try.prog f sp ∧ ∀ n ∈ sp.need, n ∈ ([] : List String) := by
  intro f sp h
  unfold Phi_laws_FnForgets at h
  by_cases e : f = 4
  · rw [if_pos e] at h; cases h; rw [e]; exact ⟨ok_laws_big, (fun n (h : n ∈ ([] : List String)) => (nomatch h))⟩
  rw [if_neg e] at h
  by_cases e : f = 5
  · rw [if_pos e] at h; cases h; rw [e]; exact ⟨ok_spec_DrawBox, (fun n (h : n ∈ ([] : List String)) => (nomatch h))⟩
  rw [if_neg e] at h
  by_cases e : f = 6
  · rw [if_pos e] at h; cases h; rw [e]; exact ⟨ok_spec_DrawPlaces, (fun n (h : n ∈ ([] : List String)) => (nomatch h))⟩
  rw [if_neg e] at h
  by_cases e : f = 7
  · rw [if_pos e] at h; cases h; rw [e]; exact ⟨ok_impl_ForgetTombs, (fun n (h : n ∈ ([] : List String)) => (nomatch h))⟩
  rw [if_neg e] at h
  by_cases e : f = 8
  · rw [if_pos e] at h; cases h; rw [e]; exact ⟨ok_impl_Vanished, (fun n (h : n ∈ ([] : List String)) => (nomatch h))⟩
  rw [if_neg e] at h
  by_cases e : f = 9
  · rw [if_pos e] at h; cases h; rw [e]; exact ⟨ok_spec_Vanished, (fun n (h : n ∈ ([] : List String)) => (nomatch h))⟩
  rw [if_neg e] at h
  by_cases e : f = 10
  · rw [if_pos e] at h; cases h; rw [e]; exact ⟨ok_impl_BoxOk, (fun n (h : n ∈ ([] : List String)) => (nomatch h))⟩
  rw [if_neg e] at h
  by_cases e : f = 11
  · rw [if_pos e] at h; cases h; rw [e]; exact ⟨ok_laws_sameSet, (fun n (h : n ∈ ([] : List String)) => (nomatch h))⟩
  rw [if_neg e] at h
  by_cases e : f = 12
  · rw [if_pos e] at h; cases h; rw [e]; exact ⟨ok_laws_sameMails, (fun n (h : n ∈ ([] : List String)) => (nomatch h))⟩
  rw [if_neg e] at h
  cases h
theorem ok_laws_FnForgets : FnOk Try.prog 3 spLaw := by
  refine fn_ok (Φ := Phi_laws_FnForgets) (T := T_laws_FnForgets) phi_laws_FnForgets mixed Try.func3 rfl rfl rfl (by decide) ?_
  intro ins r outs hr hl
  clear hl
  have hs := spLaw_in hr
  clear hr
  obtain ⟨code, rfl, hc, hr, rfl⟩ := hs
  simp only [spLaw, Try.f3, Go.VM.initS]
  by_cases hb : 1048576 < code.length
  · simp only [hc, hb, go_sem]
    repeat' ((first | ((first | apply qa | apply qb | apply qc | apply qd | apply qe | apply qf | apply qg | apply qh | apply qi | apply qj | apply qk) <;> intro hp) | ((first | refine ql rfl rfl (by decide +kernel) ?_ | refine qm _ rfl rfl (by decide +kernel) ?_ | refine goes_opn rfl ?_ | refine goes_opnD rfl rfl (by decide +kernel) ?_) <;> have hp := True.intro)) <;> simp only [hp, hc, hb, go_sem])
    simp only [fin_mk, finV, resL, resV1, resIn, endA, listIn, Option.some_or, Option.none_or, oneOrTup, go_sem]
    rw [← hr]
  have hc4 : code.length ≤ 4194304 := by omega
  have i0 := cur0_in hc4
  have iB := (box8_in i0).1
  obtain ⟨B, hB⟩ : ∃ B, (box8 (cur0 code)).1 = B := ⟨_, rfl⟩
  rw [hB] at iB
  have lB := box_le iB
  have nB := numsOk_next (boxOk_parts iB).1
  obtain ⟨hPl, hPm⟩ := places_in hc4
  obtain ⟨P, hP⟩ : ∃ P, places code = P := ⟨_, rfl⟩
  rw [hP] at hPl hPm
  have p0 : 0 < P.length := by omega
  have m0 := hPm _ (List.getElem_mem p0)
  have q0 : P[0]? = some P[0] := List.getElem?_eq_getElem p0
  have z0 : (0 : Int) < ((12 : Nat) : Int) := by decide
  have w1 : IntKind.i64.wrap (B.Mod + 1) = B.Mod + 1 := wrap64 (by omega) (by omega)
  have n0 : ¬ B.Mod + 1 = 0 := by omega
  obtain ⟨U, hU, u0, u1⟩ : ∃ U : Int, P[0].tmod (B.Mod + 1) = U ∧ 0 ≤ U ∧ U ≤ B.Mod := by
    have h1 := Int.tmod_nonneg (B.Mod + 1) m0.1
    have h2 := Int.tmod_lt_of_pos P[0] (show (0 : Int) < B.Mod + 1 by omega)
    exact ⟨_, rfl, h1, by omega⟩
  have w2 : IntKind.i64.wrap (U - 1) = U - 1 := wrap64 (by omega) (by omega)
  have hg : forgetGood B U = true := by simp only [forgetGood, iB, within, Bool.true_and, Bool.and_eq_true, decide_eq_true_eq]; omega
  have hN : forgetTombs B U = forgetOut B U := by rw [forgetTombs, if_pos hg]
  have kN := forgetOut_ok iB u0 u1
  obtain ⟨N, eN⟩ : ∃ N, forgetOut B U = N := ⟨_, rfl⟩
  have fM : N.Mails = B.Mails := by rw [← eN]; rfl
  have fD : N.Mod = B.Mod := by rw [← eN]; rfl
  have fT : N.Tombs = B.Tombs.filter (fun x => !decide (x.Mod ≤ U)) := by rw [← eN]; rfl
  have fH : N.Horizon = if B.Horizon < U then U else B.Horizon := by rw [← eN]; rfl
  rw [eN] at hN kN
  have lN := box_le kN
  have h1 : U ≤ N.Horizon := by rw [fH]; split <;> omega
  have h2 : B.Horizon ≤ N.Horizon := by rw [fH]; split <;> omega
  have h3 : N.Horizon ≤ B.Mod := by rw [fH]; split <;> omega
  have v1 : vanOk N (U - 1) = false := by rw [vanOk, kN]; simp; omega
  have v2 : vanOk N B.Mod = true := by rw [vanOk, kN]; simp; omega
  have v3 : vanOk N N.Horizon = true := by rw [vanOk, kN]; simp
  have v4 : vanOk B N.Horizon = true := by rw [vanOk, iB]; simp; omega
  have s1 : vanished N B.Mod = [] := by rw [vanished, if_pos v2, vanU_none iB N.Tombs (fun t ht => by rw [fT] at ht; exact (List.mem_filter.1 ht).1)]; exact setOf_nil
  have s2 : vanished N N.Horizon = vanished B N.Horizon := by rw [vanished, if_pos v3, vanished, if_pos v4, fT, vanU_forget h1]
  have s3 := vanished_len B N.Horizon
  have fM' : decide (N.Mails = B.Mails) = true := by rw [fM]; simp
  have zz : (((0 : Nat) : Int) == 0) = true := rfl
  have lM : B.Mails.length ≤ 4194304 := by have := (boxOk_parts iB).2.1; omega
  have lM2 : N.Mails.length ≤ 4194304 := by rw [fM]; exact lM
  cases hh : (N.Horizon == U) with
  | true =>
    simp only [hc, hb, hc4, hB, lB, lN, hP, hPl, q0, z0, w1, w2, n0, hU, hN, kN, v1, v2, v3, v4, s1, s2, s3, fM', lM, lM2, zz, hh, h1, List.length_nil, decide_true, go_sem]
    repeat' ((first | ((first | apply qa | apply qb | apply qc | apply qd | apply qe | apply qf | apply qg | apply qh | apply qi | apply qj | apply qk) <;> intro hp) | ((first | refine ql rfl rfl (by decide +kernel) ?_ | refine qm _ rfl rfl (by decide +kernel) ?_ | refine goes_opn rfl ?_ | refine goes_opnD rfl rfl (by decide +kernel) ?_) <;> have hp := True.intro)) <;> simp only [hp, hc, hb, hc4, hB, lB, lN, hP, hPl, q0, z0, w1, w2, n0, hU, hN, kN, v1, v2, v3, v4, s1, s2, s3, fM', lM, lM2, zz, hh, h1, List.length_nil, decide_true, go_sem])
    all_goals (simp only [fin_mk, finV, resL, resV1, resIn, endA, listIn, Option.some_or, Option.none_or, oneOrTup, go_sem]; rw [← hr])
    all_goals first | rfl | skip
  | false =>
    have hh2 : (N.Horizon == B.Horizon) = true := by
      rw [beq_eq_false_iff_ne] at hh
      rw [beq_iff_eq, fH]
      rw [fH] at hh
      split
      · rename_i h; rw [if_pos h] at hh; exact absurd rfl hh
      · rfl
    simp only [hc, hb, hc4, hB, lB, lN, hP, hPl, q0, z0, w1, w2, n0, hU, hN, kN, v1, v2, v3, v4, s1, s2, s3, fM', lM, lM2, zz, hh, hh2, h1, List.length_nil, decide_true, go_sem]
    repeat' ((first | ((first | apply qa | apply qb | apply qc | apply qd | apply qe | apply qf | apply qg | apply qh | apply qi | apply qj | apply qk) <;> intro hp) | ((first | refine ql rfl rfl (by decide +kernel) ?_ | refine qm _ rfl rfl (by decide +kernel) ?_ | refine goes_opn rfl ?_ | refine goes_opnD rfl rfl (by decide +kernel) ?_) <;> have hp := True.intro)) <;> simp only [hp, hc, hb, hc4, hB, lB, lN, hP, hPl, q0, z0, w1, w2, n0, hU, hN, kN, v1, v2, v3, v4, s1, s2, s3, fM', lM, lM2, zz, hh, hh2, h1, List.length_nil, decide_true, go_sem])
    all_goals (simp only [fin_mk, finV, resL, resV1, resIn, endA, listIn, Option.some_or, Option.none_or, oneOrTup, go_sem]; rw [← hr])
    all_goals first | rfl | skip
set_option maxRecDepth 100000 in
theorem own : ownKnob Try.prog.godebug = none := by kernel_rfl
theorem lifted (os : Os) (started : os.Started) (H : Type) (enc : TypeId × Value → H) :
    ReturnsInHanded {} Try.checked os 3 .any (Rows.fnForgetsSpec.pre6 enc Try.prog Try.f3 Rows.fnForgetsRow.domain false) (Rows.fnForgetsSpec.post enc Try.prog Try.f3 false true false false) :=
  law_of_fn (C := Try.checked) (n := 2) own started (by kernel_rfl) Try.func3 rfl rfl
    (ChangeSpec.witness6 (enc := enc) (C := Try.checked) false ⟨#[], #[.slice none 0 0], []⟩ 8 (by kernel_rfl) (by kernel_rfl) (by kernel_rfl) (by kernel_rfl))
    rfl rfl Try.underlying4 (by kernel_rfl) (by
      intro t ht
      simp only [Try.f3, List.mem_cons, List.not_mem_nil, or_false] at ht
      subst ht; exact ⟨by kernel_rfl, by kernel_rfl, of_decide_eq_true (by kernel_rfl)⟩)
    (by
      intro ds hd
      match ds, hd with
      | [d0], _ => rfl)
    rfl ok_laws_FnForgets rfl (by
      intro xs hl hw
      match xs, hl with
      | [x0], _ =>
        obtain ⟨x0, rfl, c0, _, e0⟩ := wf_slice Try.underlying22 (hw 0 22 x0 rfl rfl)
        rw [Ty.bytes_5] at c0
        have c0 : x0.length ≤ 4611686018427387904 := by unfold reachBytes at c0; omega
        obtain ⟨x0, rfl, d0⟩ := list_enc (e := eU8) (R := fun _ => True) fun v hv => by
          obtain ⟨m, rfl⟩ := wf_u8 Try.underlying5 (e0 v hv)
          exact ⟨m, rfl, trivial⟩
        rw [List.length_map] at c0
        simp only [spLaw, Ty.cells_5, decL_u8s, Option.bind_some]
        exact if_pos c0)
theorem over : Rows.fnForgetsRow.holds Try.pinned (OpenSpec.ofChange Rows.fnForgetsSpec) :=
  OpenClaim.holds_of_wide 3 Try.f3 rfl rfl rfl rfl rfl rfl rfl ⟨rfl, rfl, rfl, rfl, rfl⟩ rfl rfl rfl rfl rfl (by kernel_rfl) Try.func3 (by kernel_rfl)
    (of_decide_eq_true (by kernel_rfl)) (by unfold Func.isWrapper; first | (rw [if_pos (by decide +kernel)]; kernel_rfl) | (rw [if_neg (by decide +kernel)]; exact ⟨rfl, rfl⟩))
    (fun os started H enc _ => lifted os started H enc)
end Go.Proofs.Ytimiccneikhkgaa.VForgets
namespace Go.Proofs.Ytimiccneikhkgaa
theorem fnForgets_holds : Rows.FnForgetsSaid := VForgets.over
#print axioms fnForgets_holds
end Go.Proofs.Ytimiccneikhkgaa
