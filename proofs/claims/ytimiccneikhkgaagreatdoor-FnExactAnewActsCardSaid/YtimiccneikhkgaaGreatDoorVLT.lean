/- Numbers and sets as texts. -/
import Derived.Test.YtimiccneikhkgaaGreatDoorVLS2
import Derived.Test.YtimiccneikhkgaaGreatDoorVLC
namespace Go.Proofs.YtimiccneikhkgaaGreatDoor.L
open Go Go.VM
set_option maxRecDepth 100000
set_option maxHeartbeats 4000000
set_option linter.unusedSimpArgs false
set_option linter.unusedVariables false
def varN (n : Nat) : List UInt8 := if 127 < n then UInt8.ofNat (n % 128 + 128) :: varN (n / 128) else [UInt8.ofNat n]
termination_by n
decreasing_by omega
theorem varN_big {n : Nat} (h : 127 < n) : varN n = UInt8.ofNat (n % 128 + 128) :: varN (n / 128) := by rw [varN, if_pos h]
theorem varN_small {n : Nat} (h : ¬ 127 < n) : varN n = [UInt8.ofNat n] := by rw [varN, if_neg h]
theorem varN_len (n : Nat) : (varN n).length ≤ n + 1 := by
  induction n using Nat.strongRecOn with
  | ind n ih =>
    by_cases h : 127 < n
    · rw [varN_big h]
      have := ih (n / 128) (by omega)
      simp; omega
    · rw [varN_small h]; simp
theorem u8_of {n : Nat} (h : n < 256) : IntKind.u8.wrap (n : Int) = (UInt8.ofNat n).toNat := by
  rw [UInt8.toNat_ofNat_of_lt' (by simpa using h)]
  simp only [IntKind.wrap, IntKind.signed, IntKind.bits]
  simp; omega
theorem tmod_nat (m k : Nat) : (m : Int).tmod k = ((m % k : Nat) : Int) := by
  rw [Int.tmod_eq_emod_of_nonneg (by omega)]; omega
theorem tdiv_nat (m k : Nat) : (m : Int).tdiv k = ((m / k : Nat) : Int) := by
  rw [Int.tdiv_eq_ediv_of_nonneg (by omega)]; omega
theorem app_u8 (acc : List UInt8) {x : Int} {b : UInt8} (h : x = b.toNat) : bytesV acc ++ [V.int .u8 x] = bytesV (acc ++ [b]) := by rw [h]; exact bytesV_app acc [b]
def varText (n : Int) : List UInt8 := if within n 0 1000000000 = true then varN n.toNat else []
def shortText (s : List UInt8) : List UInt8 := if s.length ≤ 20000 then varN s.length ++ s else []
open Classical in
noncomputable def spVarText : VM.Spec := { modes := [.rd], run := fun | [.int .i64 n] => some (.tup [.str (varText n), .bool (within n 0 1000000000)], []) | _ => none, need := [] }
attribute [go_sem] spVarText
theorem spVarText_in {ins : List V} {r : V} {outs : List V} (h : spVarText.run ins = some (r, outs)) : ∃ (n : Int), ins = [.int .i64 n] ∧ .tup [.str (varText n), .bool (within n 0 1000000000)] = r ∧ outs = [] := by
  unfold spVarText at h
  simp only at h
  split at h
  · rename_i n
    simp only [Option.some.injEq, Prod.mk.injEq] at h
    obtain ⟨h1, h2⟩ := h
    exact ⟨n, rfl, h1, h2.symm⟩
  · cases h
open Classical in
noncomputable def spVarBytes : VM.Spec := { modes := [.rd], run := fun | [.int .i64 n] => if 0 ≤ n ∧ n ≤ 70368744177664 then some (.str (varN n.toNat), []) else none | _ => none, need := [] }
attribute [go_sem] spVarBytes
theorem spVarBytes_in {ins : List V} {r : V} {outs : List V} (h : spVarBytes.run ins = some (r, outs)) : ∃ (n : Int), ins = [.int .i64 n] ∧ (0 ≤ n ∧ n ≤ 70368744177664) ∧ .str (varN n.toNat) = r ∧ outs = [] := by
  unfold spVarBytes at h
  simp only at h
  split at h
  · rename_i n
    split at h
    case isFalse => cases h
    rename_i hc
    simp only [Option.some.injEq, Prod.mk.injEq] at h
    obtain ⟨h1, h2⟩ := h
    exact ⟨n, rfl, hc, h1, h2.symm⟩
  · cases h
def T_spec_l01Var : Hints := ⟨fun _ => none, fun i => if i = 2 then some [0, 3] else none, fun i => if i = 0 then some [0] else if i = 1 then some [0, 3] else if i = 2 then some [0, 3, 6] else if i = 3 then some [0, 3] else if i = 4 then some [0, 3] else if i = 5 then some [2] else none, fun _ => none⟩
noncomputable def Phi_spec_l01Var : Tab := fun f => none
attribute [go_sem] T_spec_l01Var Phi_spec_l01Var
theorem phi_spec_l01Var : ∀ f sp, Phi_spec_l01Var f = some sp → FnOk Tryz.prog f sp ∧ ∀ n ∈ sp.need, n ∈ ([] : List String) := by
  intro f sp h
  unfold Phi_spec_l01Var at h
  cases h
theorem ok_spec_l01Var : FnOk Tryz.prog 111 spVarBytes := by
  refine fn_ok (Φ := Phi_spec_l01Var) (T := T_spec_l01Var) phi_spec_l01Var mixed Tryz.func111 rfl rfl rfl (by decide) ?_
  intro ins r outs hr hl
  clear hl
  have hs := spVarBytes_in hr
  clear hr
  obtain ⟨n, rfl, hc, hr, rfl⟩ := hs
  simp only [spVarBytes, Tryz.f111, Go.VM.initS]
  obtain ⟨h0, h1⟩ := hc
  obtain ⟨k, rfl⟩ : ∃ k : Nat, n = k := ⟨n.toNat, by omega⟩
  simp only [Int.toNat_natCast] at hr
  simp only [go_sem]
  repeat' ((first | ((first | apply qa | apply qb | apply qc | apply qd | apply qe | apply qf | apply qg | apply qh | apply qi | apply qj | apply qk) <;> intro hp) | ((first | refine ql rfl rfl (by decide +kernel) ?_ | refine qm _ rfl rfl (by decide +kernel) ?_ | refine goes_opn rfl ?_ | refine goes_opnD rfl rfl (by decide +kernel) ?_) <;> have hp := True.intro)) <;> simp only [hp, go_sem])
  refine loop_go (fun p : List UInt8 × Nat => [(0, .int .i64 (p.2 : Int))]) (fun p => [(0, ⟨.arr, 1, bytesV p.1⟩)]) (fun p => p.2) (fun p => p.1 ++ varN p.2 = varN k ∧ p.2 ≤ k ∧ p.1.length + p.2 ≤ k) ([], k) ⟨rfl, Nat.le_refl _, by simp⟩ rfl rfl ?_
  rintro ⟨acc, m⟩ ⟨he, hm, hl⟩ ih
  simp only at he hm hl ih
  have hlen : acc.length ≤ 9223372036854775806 := by omega
  have hlen2 : acc.length ≤ 140737488355327 := by omega
  by_cases h : 127 < m
  · have g1 : (127 : Int) < m := by omega
    have g2 : (m : Int).tmod 128 = ((m % 128 : Nat) : Int) := tmod_nat m 128
    have g3 : IntKind.i64.wrap (((m % 128 : Nat) : Int) + 128) = ((m % 128 + 128 : Nat) : Int) := (wrap64 (by omega) (by omega)).trans (by omega)
    have g4 := app_u8 acc (u8_of (n := m % 128 + 128) (by omega))
    have g5 : (m : Int).tdiv 128 = ((m / 128 : Nat) : Int) := tdiv_nat m 128
    have g6 : IntKind.i64.wrap ((m / 128 : Nat) : Int) = ((m / 128 : Nat) : Int) := wrap64 (by omega) (by omega)
    have ih' := ih (acc ++ [UInt8.ofNat (m % 128 + 128)], m / 128) ⟨by rw [List.append_assoc, ← he, varN_big h]; rfl, by omega, by simp; omega⟩ (by simp only; omega)
    simp only at ih'
    simp only [g1, g2, g3, g4, g5, g6, hlen, hlen2, go_sem]
    repeat' ((first | ((first | apply qa | apply qb | apply qc | apply qd | apply qe | apply qf | apply qg | apply qh | apply qi | apply qj | apply qk) <;> intro hp) | ((first | refine ql rfl rfl (by decide +kernel) ?_ | refine qm _ rfl rfl (by decide +kernel) ?_ | refine goes_opn rfl ?_ | refine goes_opnD rfl rfl (by decide +kernel) ?_) <;> have hp := True.intro)) <;> simp only [hp, g1, g2, g3, g4, g5, g6, hlen, hlen2, go_sem])
    exact ih'
  · have g1 : ¬ (127 : Int) < m := by omega
    have g4 := app_u8 acc (u8_of (n := m) (by omega))
    simp only [g1, g4, hlen, hlen2, go_sem]
    repeat' ((first | ((first | apply qa | apply qb | apply qc | apply qd | apply qe | apply qf | apply qg | apply qh | apply qi | apply qj | apply qk) <;> intro hp) | ((first | refine ql rfl rfl (by decide +kernel) ?_ | refine qm _ rfl rfl (by decide +kernel) ?_ | refine goes_opn rfl ?_ | refine goes_opnD rfl rfl (by decide +kernel) ?_) <;> have hp := True.intro)) <;> simp only [hp, g1, g4, hlen, hlen2, go_sem])
    simp only [fin_mk, finV, resL, resV1, resIn, endA, listIn, Option.some_or, Option.none_or, oneOrTup, go_sem]
    rw [← hr]
    rw [← he, varN_small h]
def T_impl_VarText : Hints := ⟨fun _ => none, fun i => if i = 4 then some [0, 4] else none, fun i => if i = 0 then some [0] else if i = 1 then some [0, 7] else if i = 2 then some [2, 3] else if i = 3 then some [0, 4] else if i = 4 then some [0, 4, 10] else if i = 5 then some [0, 4] else if i = 6 then some [0, 4] else if i = 7 then some [2, 3] else none, fun _ => none⟩
noncomputable def Phi_impl_VarText : Tab := fun f => if f = 59 then some spWithin else none
attribute [go_sem] T_impl_VarText Phi_impl_VarText
theorem phi_impl_VarText : ∀ f sp, Phi_impl_VarText f = some sp → FnOk Tryz.prog f sp ∧ ∀ n ∈ sp.need, n ∈ ([] : List String) := by
  intro f sp h
  unfold Phi_impl_VarText at h
  by_cases e : f = 59
  · rw [if_pos e] at h; cases h; rw [e]; exact ⟨ok_impl_within, (fun n (h : n ∈ ([] : List String)) => (nomatch h))⟩
  rw [if_neg e] at h
  cases h
theorem ok_impl_VarText : FnOk Tryz.prog 39 spVarText := by
  refine fn_ok (Φ := Phi_impl_VarText) (T := T_impl_VarText) phi_impl_VarText mixed Tryz.func39 rfl rfl rfl (by decide) ?_
  intro ins r outs hr hl
  clear hl
  have hs := spVarText_in hr
  clear hr
  obtain ⟨n, rfl, hr, rfl⟩ := hs
  simp only [spVarText, Tryz.f39, Go.VM.initS]
  cases hw : within n 0 1000000000 with
  | false =>
    simp only [hw, go_sem]
    repeat' ((first | ((first | apply qa | apply qb | apply qc | apply qd | apply qe | apply qf | apply qg | apply qh | apply qi | apply qj | apply qk) <;> intro hp) | ((first | refine ql rfl rfl (by decide +kernel) ?_ | refine qm _ rfl rfl (by decide +kernel) ?_ | refine goes_opn rfl ?_ | refine goes_opnD rfl rfl (by decide +kernel) ?_) <;> have hp := True.intro)) <;> simp only [hp, hw, go_sem])
    simp only [fin_mk, finV, resL, resV1, resIn, endA, listIn, Option.some_or, Option.none_or, oneOrTup, go_sem]
    rw [← hr]
    simp only [varText, hw, Bool.false_eq_true, if_false]
  | true =>
    have hn : 0 ≤ n ∧ n ≤ 1000000000 := by simpa only [within, Bool.and_eq_true, decide_eq_true_eq] using hw
    obtain ⟨k, rfl⟩ : ∃ k : Nat, n = k := ⟨n.toNat, by omega⟩
    simp only [varText, hw, if_true, Int.toNat_natCast] at hr
    simp only [hw, go_sem]
    repeat' ((first | ((first | apply qa | apply qb | apply qc | apply qd | apply qe | apply qf | apply qg | apply qh | apply qi | apply qj | apply qk) <;> intro hp) | ((first | refine ql rfl rfl (by decide +kernel) ?_ | refine qm _ rfl rfl (by decide +kernel) ?_ | refine goes_opn rfl ?_ | refine goes_opnD rfl rfl (by decide +kernel) ?_) <;> have hp := True.intro)) <;> simp only [hp, hw, go_sem])
    refine loop_go (fun p : List UInt8 × Nat => [(0, .int .i64 (p.2 : Int))]) (fun p => [(0, ⟨.arr, 1, bytesV p.1⟩)]) (fun p => p.2) (fun p => p.1 ++ varN p.2 = varN k ∧ p.2 ≤ k ∧ p.1.length + p.2 ≤ k) ([], k) ⟨rfl, Nat.le_refl _, by simp⟩ rfl rfl ?_
    rintro ⟨acc, m⟩ ⟨he, hm, hl⟩ ih
    simp only at he hm hl ih
    have hlen : acc.length ≤ 9223372036854775806 := by omega
    have hlen2 : acc.length ≤ 140737488355327 := by omega
    by_cases h : 127 < m
    · have g1 : (127 : Int) < m := by omega
      have g2 : (m : Int).tmod 128 = ((m % 128 : Nat) : Int) := tmod_nat m 128
      have g3 : IntKind.i64.wrap (((m % 128 : Nat) : Int) + 128) = ((m % 128 + 128 : Nat) : Int) := (wrap64 (by omega) (by omega)).trans (by omega)
      have g4 := app_u8 acc (u8_of (n := m % 128 + 128) (by omega))
      have g5 : (m : Int).tdiv 128 = ((m / 128 : Nat) : Int) := tdiv_nat m 128
      have g6 : IntKind.i64.wrap ((m / 128 : Nat) : Int) = ((m / 128 : Nat) : Int) := wrap64 (by omega) (by omega)
      have ih' := ih (acc ++ [UInt8.ofNat (m % 128 + 128)], m / 128) ⟨by rw [List.append_assoc, ← he, varN_big h]; rfl, by omega, by simp; omega⟩ (by simp only; omega)
      simp only at ih'
      simp only [g1, g2, g3, g4, g5, g6, hlen, hlen2, go_sem]
      repeat' ((first | ((first | apply qa | apply qb | apply qc | apply qd | apply qe | apply qf | apply qg | apply qh | apply qi | apply qj | apply qk) <;> intro hp) | ((first | refine ql rfl rfl (by decide +kernel) ?_ | refine qm _ rfl rfl (by decide +kernel) ?_ | refine goes_opn rfl ?_ | refine goes_opnD rfl rfl (by decide +kernel) ?_) <;> have hp := True.intro)) <;> simp only [hp, g1, g2, g3, g4, g5, g6, hlen, hlen2, go_sem])
      exact ih'
    · have g1 : ¬ (127 : Int) < m := by omega
      have g4 := app_u8 acc (u8_of (n := m) (by omega))
      simp only [g1, g4, hlen, hlen2, go_sem]
      repeat' ((first | ((first | apply qa | apply qb | apply qc | apply qd | apply qe | apply qf | apply qg | apply qh | apply qi | apply qj | apply qk) <;> intro hp) | ((first | refine ql rfl rfl (by decide +kernel) ?_ | refine qm _ rfl rfl (by decide +kernel) ?_ | refine goes_opn rfl ?_ | refine goes_opnD rfl rfl (by decide +kernel) ?_) <;> have hp := True.intro)) <;> simp only [hp, g1, g4, hlen, hlen2, go_sem])
      simp only [fin_mk, finV, resL, resV1, resIn, endA, listIn, Option.some_or, Option.none_or, oneOrTup, go_sem]
      rw [← hr]
      rw [← he, varN_small h]
open Classical in
noncomputable def spShortText : VM.Spec := { modes := [.rd], run := fun | [.str s] => if s.length ≤ 4194304 then some (.tup [.str (shortText s), .bool (decide (s.length ≤ 20000))], []) else none | _ => none, need := [] }
attribute [go_sem] spShortText
theorem spShortText_in {ins : List V} {r : V} {outs : List V} (h : spShortText.run ins = some (r, outs)) : ∃ (s : (List UInt8)), ins = [.str s] ∧ (s.length ≤ 4194304) ∧ .tup [.str (shortText s), .bool (decide (s.length ≤ 20000))] = r ∧ outs = [] := by
  unfold spShortText at h
  simp only at h
  split at h
  · rename_i s
    split at h
    case isFalse => cases h
    rename_i hc
    simp only [Option.some.injEq, Prod.mk.injEq] at h
    obtain ⟨h1, h2⟩ := h
    exact ⟨s, rfl, hc, h1, h2.symm⟩
  · cases h
def T_impl_ShortText : Hints := ⟨fun _ => none, fun _ => none, fun i => if i = 0 then some [0] else if i = 1 then some [0, 8] else if i = 2 then some [2, 3] else if i = 3 then some [0, 4] else if i = 4 then some [2, 3] else none, fun _ => none⟩
noncomputable def Phi_impl_ShortText : Tab := fun f => if f = 39 then some spVarText else none
attribute [go_sem] T_impl_ShortText Phi_impl_ShortText
theorem phi_impl_ShortText : ∀ f sp, Phi_impl_ShortText f = some sp → FnOk Tryz.prog f sp ∧ ∀ n ∈ sp.need, n ∈ ([] : List String) := by
  intro f sp h
  unfold Phi_impl_ShortText at h
  by_cases e : f = 39
  · rw [if_pos e] at h; cases h; rw [e]; exact ⟨ok_impl_VarText, (fun n (h : n ∈ ([] : List String)) => (nomatch h))⟩
  rw [if_neg e] at h
  cases h
theorem ok_impl_ShortText : FnOk Tryz.prog 98 spShortText := by
  refine fn_ok (Φ := Phi_impl_ShortText) (T := T_impl_ShortText) phi_impl_ShortText mixed Tryz.func98 rfl rfl rfl (by decide) ?_
  intro ins r outs hr hl
  clear hl
  have hs := spShortText_in hr
  clear hr
  obtain ⟨s, rfl, hc, hr, rfl⟩ := hs
  simp only [spShortText, Tryz.f98, Go.VM.initS]
  by_cases h : s.length ≤ 20000
  · have g1 : ¬ (20000 : Int) < s.length := by omega
    have hw : within (s.length : Int) 0 1000000000 = true := by simp only [within, Bool.and_eq_true, decide_eq_true_eq]; omega
    have hv : varText (s.length : Int) = varN s.length := by simp only [varText, hw, if_true, Int.toNat_natCast]
    have hl := varN_len s.length
    have g2 : (varN s.length).length + s.length ≤ 9223372036854775807 := by omega
    simp only [g1, hv, g2, go_sem]
    repeat' ((first | ((first | apply qa | apply qb | apply qc | apply qd | apply qe | apply qf | apply qg | apply qh | apply qi | apply qj | apply qk) <;> intro hp) | ((first | refine ql rfl rfl (by decide +kernel) ?_ | refine qm _ rfl rfl (by decide +kernel) ?_ | refine goes_opn rfl ?_ | refine goes_opnD rfl rfl (by decide +kernel) ?_) <;> have hp := True.intro)) <;> simp only [hp, g1, hv, g2, go_sem])
    simp only [fin_mk, finV, resL, resV1, resIn, endA, listIn, Option.some_or, Option.none_or, oneOrTup, go_sem]
    rw [← hr]
    simp only [shortText, h, if_true, decide_true]
  · have g1 : (20000 : Int) < s.length := by omega
    simp only [g1, go_sem]
    repeat' ((first | ((first | apply qa | apply qb | apply qc | apply qd | apply qe | apply qf | apply qg | apply qh | apply qi | apply qj | apply qk) <;> intro hp) | ((first | refine ql rfl rfl (by decide +kernel) ?_ | refine qm _ rfl rfl (by decide +kernel) ?_ | refine goes_opn rfl ?_ | refine goes_opnD rfl rfl (by decide +kernel) ?_) <;> have hp := True.intro)) <;> simp only [hp, g1, go_sem])
    simp only [fin_mk, finV, resL, resV1, resIn, endA, listIn, Option.some_or, Option.none_or, oneOrTup, go_sem]
    rw [← hr]
    simp only [shortText, h, if_false, decide_false]
open Classical in
noncomputable def spShort : VM.Spec := { modes := [.rd], run := fun | [.str s] => if s.length ≤ 20000 then some (.str (varN s.length ++ s), []) else none | _ => none, need := [] }
attribute [go_sem] spShort
theorem spShort_in {ins : List V} {r : V} {outs : List V} (h : spShort.run ins = some (r, outs)) : ∃ (s : (List UInt8)), ins = [.str s] ∧ (s.length ≤ 20000) ∧ .str (varN s.length ++ s) = r ∧ outs = [] := by
  unfold spShort at h
  simp only at h
  split at h
  · rename_i s
    split at h
    case isFalse => cases h
    rename_i hc
    simp only [Option.some.injEq, Prod.mk.injEq] at h
    obtain ⟨h1, h2⟩ := h
    exact ⟨s, rfl, hc, h1, h2.symm⟩
  · cases h
def T_impl_shortOf : Hints := ⟨fun _ => none, fun _ => none, fun i => if i = 0 then some [0] else if i = 1 then some [3] else if i = 2 then some [2] else none, fun _ => none⟩
noncomputable def Phi_impl_shortOf : Tab := fun f => if f = 98 then some spShortText else none
attribute [go_sem] T_impl_shortOf Phi_impl_shortOf
theorem phi_impl_shortOf : ∀ f sp, Phi_impl_shortOf f = some sp → FnOk Tryz.prog f sp ∧ ∀ n ∈ sp.need, n ∈ ([] : List String) := by
  intro f sp h
  unfold Phi_impl_shortOf at h
  by_cases e : f = 98
  · rw [if_pos e] at h; cases h; rw [e]; exact ⟨ok_impl_ShortText, (fun n (h : n ∈ ([] : List String)) => (nomatch h))⟩
  rw [if_neg e] at h
  cases h
theorem ok_impl_shortOf : FnOk Tryz.prog 40 spShort := by
  refine fn_ok (Φ := Phi_impl_shortOf) (T := T_impl_shortOf) phi_impl_shortOf mixed Tryz.func40 rfl rfl rfl (by decide) ?_
  intro ins r outs hr hl
  clear hl
  have hs := spShort_in hr
  clear hr
  obtain ⟨s, rfl, hc, hr, rfl⟩ := hs
  simp only [spShort, Tryz.f40, Go.VM.initS]
  have h4 : s.length ≤ 4194304 := by omega
  simp only [h4, go_sem]
  repeat' ((first | ((first | apply qa | apply qb | apply qc | apply qd | apply qe | apply qf | apply qg | apply qh | apply qi | apply qj | apply qk) <;> intro hp) | ((first | refine ql rfl rfl (by decide +kernel) ?_ | refine qm _ rfl rfl (by decide +kernel) ?_ | refine goes_opn rfl ?_ | refine goes_opnD rfl rfl (by decide +kernel) ?_) <;> have hp := True.intro)) <;> simp only [hp, h4, go_sem])
  simp only [fin_mk, finV, resL, resV1, resIn, endA, listIn, Option.some_or, Option.none_or, oneOrTup, go_sem]
  rw [← hr]
  simp only [shortText, hc, if_true]
def T_spec_l10Short : Hints := ⟨fun _ => none, fun _ => none, fun i => if i = 0 then some [0] else if i = 1 then some [2] else none, fun _ => none⟩
noncomputable def Phi_spec_l10Short : Tab := fun f => if f = 111 then some spVarBytes else none
attribute [go_sem] T_spec_l10Short Phi_spec_l10Short
theorem phi_spec_l10Short : ∀ f sp, Phi_spec_l10Short f = some sp → FnOk Tryz.prog f sp ∧ ∀ n ∈ sp.need, n ∈ ([] : List String) := by
  intro f sp h
  unfold Phi_spec_l10Short at h
  by_cases e : f = 111
  · rw [if_pos e] at h; cases h; rw [e]; exact ⟨ok_spec_l01Var, (fun n (h : n ∈ ([] : List String)) => (nomatch h))⟩
  rw [if_neg e] at h
  cases h
theorem ok_spec_l10Short : FnOk Tryz.prog 109 spShort := by
  refine fn_ok (Φ := Phi_spec_l10Short) (T := T_spec_l10Short) phi_spec_l10Short mixed Tryz.func109 rfl rfl rfl (by decide) ?_
  intro ins r outs hr hl
  clear hl
  have hs := spShort_in hr
  clear hr
  obtain ⟨s, rfl, hc, hr, rfl⟩ := hs
  simp only [spShort, Tryz.f109, Go.VM.initS]
  have hl := varN_len s.length
  have g1 : (0 : Int) ≤ s.length := by omega
  have g3 : (s.length : Int) ≤ 70368744177664 := by omega
  have g2 : (varN s.length).length + s.length ≤ 9223372036854775807 := by omega
  simp only [g1, g2, g3, Int.toNat_natCast, go_sem]
  repeat' ((first | ((first | apply qa | apply qb | apply qc | apply qd | apply qe | apply qf | apply qg | apply qh | apply qi | apply qj | apply qk) <;> intro hp) | ((first | refine ql rfl rfl (by decide +kernel) ?_ | refine qm _ rfl rfl (by decide +kernel) ?_ | refine goes_opn rfl ?_ | refine goes_opnD rfl rfl (by decide +kernel) ?_) <;> have hp := True.intro)) <;> simp only [hp, g1, g2, g3, Int.toNat_natCast, go_sem])
  simp only [fin_mk, finV, resL, resV1, resIn, endA, listIn, Option.some_or, Option.none_or, oneOrTup, go_sem]
  rw [← hr]
open Classical in
noncomputable def spItoa : VM.Spec := { modes := [.rd], run := fun | [.int .i64 n] => if -9223372036854775808 ≤ n ∧ n ≤ 9223372036854775807 then some (.str (Lib.itoa n), []) else none | _ => none, need := ["internal/strconv.uint64pow10"] }
attribute [go_sem] spItoa
theorem spItoa_in {ins : List V} {r : V} {outs : List V} (h : spItoa.run ins = some (r, outs)) : ∃ (n : Int), ins = [.int .i64 n] ∧ (-9223372036854775808 ≤ n ∧ n ≤ 9223372036854775807) ∧ .str (Lib.itoa n) = r ∧ outs = [] := by
  unfold spItoa at h
  simp only at h
  split at h
  · rename_i n
    split at h
    case isFalse => cases h
    rename_i hc
    simp only [Option.some.injEq, Prod.mk.injEq] at h
    obtain ⟨h1, h2⟩ := h
    exact ⟨n, rfl, hc, h1, h2.symm⟩
  · cases h
theorem ok_strconv_Itoa : FnOk Tryz.prog 155 spItoa :=
  itoa_ok Tryz.func155 rfl (by kernel_rfl) (by simp [spItoa]) rfl (fun _ _ _ h => spItoa_in h) Tryz.strconv_Itoa
theorem nDigits_le : ∀ (k u : Nat), u < 10 ^ (k + 1) → Lib.nDigits u ≤ k + 1
  | 0, u, h => by rw [Lib.nDigits_small (by simpa using h)]; omega
  | k + 1, u, h => by
    by_cases hu : u < 10
    · rw [Lib.nDigits_small hu]; omega
    · rw [Lib.nDigits_big hu]
      have := nDigits_le k (u / 10) (by rw [Nat.pow_succ] at h; omega)
      omega
theorem itoa_len {n : Int} {k : Nat} (h0 : 0 ≤ n) (h : n < 10 ^ (k + 1)) : (Lib.itoa n).length ≤ k + 1 := by
  rw [Lib.itoa, if_neg (by omega), Lib.decDigits_length]
  exact nDigits_le k n.toNat (by
    have e : ((n.toNat : Nat) : Int) = n := by omega
    have : ((n.toNat : Nat) : Int) < ((10 ^ (k + 1) : Nat) : Int) := by rw [e]; simpa using h
    exact_mod_cast this)
theorem itoa10 {n : Int} (h0 : 0 ≤ n) (h : n ≤ 1000000000) : (Lib.itoa n).length ≤ 10 := itoa_len (k := 9) h0 (by omega)
theorem itoa4 {n : Int} (h0 : 0 ≤ n) (h : n ≤ 9999) : (Lib.itoa n).length ≤ 4 := itoa_len (k := 3) h0 (by omega)
/-- The figures of a number; none of 0. -/
def dig (m : Nat) : List UInt8 := if m = 0 then [] else Lib.decDigits m
theorem dig_step {m : Nat} (h : m ≠ 0) : dig m = dig (m / 10) ++ [UInt8.ofNat (48 + m % 10)] := by
  unfold dig
  rw [if_neg h, Lib.decDigits]
  by_cases h1 : m < 10
  · rw [dif_pos h1, if_pos (by omega), Nat.mod_eq_of_lt h1]; rfl
  · rw [dif_neg h1, if_neg (by omega)]
theorem dig_len (m : Nat) : (dig m).length ≤ m := by
  induction m using Nat.strongRecOn with
  | ind m ih =>
    by_cases h : m = 0
    · subst h; simp [dig]
    · rw [dig_step h, List.length_append]
      have := ih (m / 10) (by omega)
      simp; omega
open Classical in
noncomputable def spDecimal : VM.Spec := { modes := [.rd], run := fun | [.int .i64 n] => if 0 ≤ n ∧ n ≤ 1000000000 then some (.str (Lib.itoa n), []) else none | _ => none, need := ["internal/strconv.uint64pow10"] }
attribute [go_sem] spDecimal
theorem spDecimal_in {ins : List V} {r : V} {outs : List V} (h : spDecimal.run ins = some (r, outs)) : ∃ (n : Int), ins = [.int .i64 n] ∧ (0 ≤ n ∧ n ≤ 1000000000) ∧ .str (Lib.itoa n) = r ∧ outs = [] := by
  unfold spDecimal at h
  simp only at h
  split at h
  · rename_i n
    split at h
    case isFalse => cases h
    rename_i hc
    simp only [Option.some.injEq, Prod.mk.injEq] at h
    obtain ⟨h1, h2⟩ := h
    exact ⟨n, rfl, hc, h1, h2.symm⟩
  · cases h
def T_impl_Decimal : Hints := ⟨fun _ => none, fun _ => none, fun i => if i = 0 then some [0] else if i = 1 then some [2] else none, fun _ => none⟩
noncomputable def Phi_impl_Decimal : Tab := fun f => if f = 155 then some spItoa else none
attribute [go_sem] T_impl_Decimal Phi_impl_Decimal
theorem phi_impl_Decimal : ∀ f sp, Phi_impl_Decimal f = some sp → FnOk Tryz.prog f sp ∧ ∀ n ∈ sp.need, n ∈ (["internal/strconv.uint64pow10"] : List String) := by
  intro f sp h
  unfold Phi_impl_Decimal at h
  by_cases e : f = 155
  · rw [if_pos e] at h; cases h; rw [e]; exact ⟨ok_strconv_Itoa, (fun n (h : n ∈ (["internal/strconv.uint64pow10"] : List String)) => by simp only [List.mem_cons, List.not_mem_nil, or_false] at h; rcases h with rfl <;> simp)⟩
  rw [if_neg e] at h
  cases h
theorem ok_impl_Decimal : FnOk Tryz.prog 99 spDecimal := by
  refine fn_ok (Φ := Phi_impl_Decimal) (T := T_impl_Decimal) phi_impl_Decimal mixed Tryz.func99 rfl rfl rfl (by decide) ?_
  intro ins r outs hr hl
  clear hl
  have hs := spDecimal_in hr
  clear hr
  obtain ⟨n, rfl, hc, hr, rfl⟩ := hs
  simp only [spDecimal, Tryz.f99, Go.VM.initS]
  have h1 : (-9223372036854775808 : Int) ≤ n := by omega
  have h2 : n ≤ 9223372036854775807 := by omega
  simp only [h1, h2, go_sem]
  repeat' ((first | ((first | apply qa | apply qb | apply qc | apply qd | apply qe | apply qf | apply qg | apply qh | apply qi | apply qj | apply qk) <;> intro hp) | ((first | refine ql rfl rfl (by decide +kernel) ?_ | refine qm _ rfl rfl (by decide +kernel) ?_ | refine goes_opn rfl ?_ | refine goes_opnD rfl rfl (by decide +kernel) ?_) <;> have hp := True.intro)) <;> simp only [hp, h1, h2, go_sem])
  simp only [fin_mk, finV, resL, resV1, resIn, endA, listIn, Option.some_or, Option.none_or, oneOrTup, go_sem]
  rw [← hr]
open Classical in
noncomputable def spFigure : VM.Spec := { modes := [.rd], run := fun | [.int .i64 x] => if 0 ≤ x ∧ x < 10 then some (.int .u8 (48 + x), []) else none | _ => none, need := [] }
attribute [go_sem] spFigure
theorem spFigure_in {ins : List V} {r : V} {outs : List V} (h : spFigure.run ins = some (r, outs)) : ∃ (x : Int), ins = [.int .i64 x] ∧ (0 ≤ x ∧ x < 10) ∧ .int .u8 (48 + x) = r ∧ outs = [] := by
  unfold spFigure at h
  simp only at h
  split at h
  · rename_i x
    split at h
    case isFalse => cases h
    rename_i hc
    simp only [Option.some.injEq, Prod.mk.injEq] at h
    obtain ⟨h1, h2⟩ := h
    exact ⟨x, rfl, hc, h1, h2.symm⟩
  · cases h
def T_spec_l01Figure : Hints := ⟨fun _ => none, fun _ => none, fun i => if i = 0 then some [0] else if i = 1 then some [0, 4] else if i = 2 then some [2] else if i = 3 then some [2] else none, fun _ => none⟩
noncomputable def Phi_spec_l01Figure : Tab := fun f => none
attribute [go_sem] T_spec_l01Figure Phi_spec_l01Figure
theorem phi_spec_l01Figure : ∀ f sp, Phi_spec_l01Figure f = some sp → FnOk Tryz.prog f sp ∧ ∀ n ∈ sp.need, n ∈ ([] : List String) := by
  intro f sp h
  unfold Phi_spec_l01Figure at h
  cases h
theorem ok_spec_l01Figure : FnOk Tryz.prog 187 spFigure := by
  refine fn_ok (Φ := Phi_spec_l01Figure) (T := T_spec_l01Figure) phi_spec_l01Figure mixed Tryz.func187 rfl rfl rfl (by decide) ?_
  intro ins r outs hr hl
  clear hl
  have hs := spFigure_in hr
  clear hr
  obtain ⟨x, rfl, hc, hr, rfl⟩ := hs
  simp only [spFigure, Tryz.f187, Go.VM.initS]
  obtain ⟨h0, h1⟩ := hc
  have e : IntKind.u8.wrap (IntKind.i64.wrap (48 + x)) = 48 + x := by
    rw [wrap64 (by omega) (by omega)]
    simp only [IntKind.wrap, IntKind.signed, IntKind.bits]
    simp; omega
  simp only [h1, e, go_sem]
  repeat' ((first | ((first | apply qa | apply qb | apply qc | apply qd | apply qe | apply qf | apply qg | apply qh | apply qi | apply qj | apply qk) <;> intro hp) | ((first | refine ql rfl rfl (by decide +kernel) ?_ | refine qm _ rfl rfl (by decide +kernel) ?_ | refine goes_opn rfl ?_ | refine goes_opnD rfl rfl (by decide +kernel) ?_) <;> have hp := True.intro)) <;> simp only [hp, h1, e, go_sem])
  simp only [fin_mk, finV, resL, resV1, resIn, endA, listIn, Option.some_or, Option.none_or, oneOrTup, go_sem]
  rw [← hr]
def T_spec_Decimal : Hints := ⟨fun _ => none, fun i => if i = 5 then some [0, 3, 4] else none, fun i => if i = 0 then some [0] else if i = 1 then some [0, 7] else if i = 2 then some [2] else if i = 3 then some [0, 3] else if i = 4 then some [0, 3, 4] else if i = 5 then some [0, 3, 4, 11] else if i = 6 then some [0, 3, 4, 5] else if i = 7 then some [0, 3, 4, 5, 15] else if i = 8 then some [0, 3, 4, 5] else if i = 9 then some [0, 3, 4] else if i = 10 then some [0, 3, 4] else if i = 11 then some [4, 26] else if i = 12 then some [2] else if i = 13 then some [2] else none, fun _ => none⟩
noncomputable def Phi_spec_Decimal : Tab := fun f => if f = 187 then some spFigure else none
attribute [go_sem] T_spec_Decimal Phi_spec_Decimal
theorem phi_spec_Decimal : ∀ f sp, Phi_spec_Decimal f = some sp → FnOk Tryz.prog f sp ∧ ∀ n ∈ sp.need, n ∈ (["internal/strconv.uint64pow10"] : List String) := by
  intro f sp h
  unfold Phi_spec_Decimal at h
  by_cases e : f = 187
  · rw [if_pos e] at h; cases h; rw [e]; exact ⟨ok_spec_l01Figure, (fun n (h : n ∈ ([] : List String)) => (nomatch h))⟩
  rw [if_neg e] at h
  cases h
theorem ok_spec_Decimal : FnOk Tryz.prog 161 spDecimal := by
  refine fn_ok (Φ := Phi_spec_Decimal) (T := T_spec_Decimal) phi_spec_Decimal mixed Tryz.func161 rfl rfl rfl (by decide) ?_
  intro ins r outs hr hl
  clear hl
  have hs := spDecimal_in hr
  clear hr
  obtain ⟨n, rfl, hc, hr, rfl⟩ := hs
  simp only [spDecimal, Tryz.f161, Go.VM.initS]
  obtain ⟨h0, h1⟩ := hc
  obtain ⟨k, rfl⟩ : ∃ k : Nat, n = k := ⟨n.toNat, by omega⟩
  by_cases hz : k = 0
  · subst hz
    have e : (((0 : Nat) : Int) == 0) = true := rfl
    simp only [e, go_sem]
    repeat' ((first | ((first | apply qa | apply qb | apply qc | apply qd | apply qe | apply qf | apply qg | apply qh | apply qi | apply qj | apply qk) <;> intro hp) | ((first | refine ql rfl rfl (by decide +kernel) ?_ | refine qm _ rfl rfl (by decide +kernel) ?_ | refine goes_opn rfl ?_ | refine goes_opnD rfl rfl (by decide +kernel) ?_) <;> have hp := True.intro)) <;> simp only [hp, e, go_sem])
    simp only [fin_mk, finV, resL, resV1, resIn, endA, listIn, Option.some_or, Option.none_or, oneOrTup, go_sem]
    rw [← hr]
    have h2 : Lib.itoa ((0 : Nat) : Int) = [48] := by
      rw [Lib.itoa, if_neg (by decide)]
      show Lib.decDigits 0 = _
      rw [Lib.decDigits]; rfl
    rw [h2]
  · have e : ((k : Int) == 0) = false := beq_eq_false_iff_ne.2 (by omega)
    have e2 : ¬ (k : Int) < 0 := by omega
    have hI : Lib.itoa (k : Int) = dig k := by rw [Lib.itoa, if_neg e2, dig, if_neg hz]; rfl
    rw [hI] at hr
    simp only [e, e2, go_sem]
    repeat' ((first | ((first | apply qa | apply qb | apply qc | apply qd | apply qe | apply qf | apply qg | apply qh | apply qi | apply qj | apply qk) <;> intro hp) | ((first | refine ql rfl rfl (by decide +kernel) ?_ | refine qm _ rfl rfl (by decide +kernel) ?_ | refine goes_opn rfl ?_ | refine goes_opnD rfl rfl (by decide +kernel) ?_) <;> have hp := True.intro)) <;> simp only [hp, e, e2, go_sem])
    refine loop_go (fun p : List UInt8 × Nat => [(0, .int .i64 (p.2 : Int)), (4, .str p.1)]) (fun _ => []) (fun p => p.2) (fun p => dig p.2 ++ p.1 = dig k ∧ p.2 ≤ k) ([], k) ⟨by simp, Nat.le_refl _⟩ rfl rfl ?_
    rintro ⟨s, m⟩ ⟨he, hm⟩ ih
    simp only at he hm ih
    have hlen : s.length ≤ k := by
      have h2 := congrArg List.length he
      have h3 := dig_len k
      simp only [List.length_append] at h2; omega
    by_cases hm0 : m = 0
    · subst hm0
      have g1 : (((0 : Nat) : Int) != 0) = false := rfl
      simp only [g1, go_sem]
      repeat' ((first | ((first | apply qa | apply qb | apply qc | apply qd | apply qe | apply qf | apply qg | apply qh | apply qi | apply qj | apply qk) <;> intro hp) | ((first | refine ql rfl rfl (by decide +kernel) ?_ | refine qm _ rfl rfl (by decide +kernel) ?_ | refine goes_opn rfl ?_ | refine goes_opnD rfl rfl (by decide +kernel) ?_) <;> have hp := True.intro)) <;> simp only [hp, g1, go_sem])
      simp only [fin_mk, finV, resL, resV1, resIn, endA, listIn, Option.some_or, Option.none_or, oneOrTup, go_sem]
      rw [← hr]
      rw [← he]; rfl
    · have g1 : ((m : Int) != 0) = true := by simp; omega
      have g2 : (m : Int).tmod 10 = ((m % 10 : Nat) : Int) := tmod_nat m 10
      have g3 : ¬ (((m % 10 : Nat) : Int)) < 0 := by omega
      have g4 : (0 : Int) ≤ ((m % 10 : Nat) : Int) := by omega
      have g5 : ((m % 10 : Nat) : Int) < 10 := by omega
      have g6 : (m : Int).tdiv 10 = ((m / 10 : Nat) : Int) := tdiv_nat m 10
      have g7 : IntKind.i64.wrap ((m / 10 : Nat) : Int) = ((m / 10 : Nat) : Int) := wrap64 (by omega) (by omega)
      have g8 : [V.int .u8 (48 + ((m % 10 : Nat) : Int))] = bytesV [UInt8.ofNat (48 + m % 10)] := by
        have h4 : (UInt8.ofNat (48 + m % 10)).toNat = 48 + m % 10 := UInt8.toNat_ofNat_of_lt' (by show 48 + m % 10 < 256; omega)
        rw [bytesV, List.map_cons, List.map_nil, h4]; rfl
      have g9 : 1 + s.length ≤ 9223372036854775807 := by omega
      have ih' := ih (UInt8.ofNat (48 + m % 10) :: s, m / 10) ⟨by rw [← he, dig_step hm0, List.append_assoc]; rfl, by omega⟩ (by simp only; omega)
      simp only at ih'
      simp only [g1, g2, g3, g4, g5, g6, g7, g8, g9, go_sem]
      repeat' ((first | ((first | apply qa | apply qb | apply qc | apply qd | apply qe | apply qf | apply qg | apply qh | apply qi | apply qj | apply qk) <;> intro hp) | ((first | refine ql rfl rfl (by decide +kernel) ?_ | refine qm _ rfl rfl (by decide +kernel) ?_ | refine goes_opn rfl ?_ | refine goes_opnD rfl rfl (by decide +kernel) ?_) <;> have hp := True.intro)) <;> simp only [hp, g1, g2, g3, g4, g5, g6, g7, g8, g9, go_sem])
      exact ih'
end Go.Proofs.YtimiccneikhkgaaGreatDoor.L
