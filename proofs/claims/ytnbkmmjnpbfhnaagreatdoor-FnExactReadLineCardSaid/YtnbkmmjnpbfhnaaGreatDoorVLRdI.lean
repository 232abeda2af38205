/- Contracts of functions, and the facts that they need. No condition. -/
import Derived.Test.YtnbkmmjnpbfhnaaGreatDoorVLWd
import Derived.Test.YtnbkmmjnpbfhnaaGreatDoorVLFl

import Derived.Test.YtnbkmmjnpbfhnaaGreatDoorVLShelf
import Derived.Lib.AtoiAll
import Derived.Lib.AtoiErrMem
namespace Go.Proofs.YtnbkmmjnpbfhnaaGreatDoor.L
open Go Go.VM
set_option maxRecDepth 100000
set_option maxHeartbeats 4000000
set_option linter.unusedSimpArgs false
set_option linter.unusedVariables false
def varN (n : Nat) : List UInt8 := if 127 < n then UInt8.ofNat (n % 128 + 128) :: varN (n / 128) else [UInt8.ofNat n]
termination_by n
decreasing_by omega
theorem varN_big {n : Nat} (h : 127 < n) : varN n = UInt8.ofNat (n % 128 + 128) :: varN (n / 128) := by rw [varN, if_pos h]
theorem varN_small {n : Nat} (h : ¬ 127 < n) : varN n = [UInt8.ofNat n] := by rw [varN, if_neg h]
theorem varN_len (n : Nat) : (varN n).length ≤ n + 1 := by
  induction n using Nat.strongRecOn with
  | ind n ih =>
    by_cases h : 127 < n
    · rw [varN_big h]
      have := ih (n / 128) (by omega)
      simp; omega
    · rw [varN_small h]; simp
theorem u8_of {n : Nat} (h : n < 256) : IntKind.u8.wrap (n : Int) = (UInt8.ofNat n).toNat := by
  rw [UInt8.toNat_ofNat_of_lt' (by simpa using h)]
  simp only [IntKind.wrap, IntKind.signed, IntKind.bits]
  simp; omega
theorem tmod_nat (m k : Nat) : (m : Int).tmod k = ((m % k : Nat) : Int) := by
  rw [Int.tmod_eq_emod_of_nonneg (by omega)]; omega
theorem tdiv_nat (m k : Nat) : (m : Int).tdiv k = ((m / k : Nat) : Int) := by
  rw [Int.tdiv_eq_ediv_of_nonneg (by omega)]; omega
theorem app_u8 (acc : List UInt8) {x : Int} {b : UInt8} (h : x = b.toNat) : bytesV acc ++ [V.int .u8 x] = bytesV (acc ++ [b]) := by rw [h]; exact bytesV_app acc [b]
def varText (n : Int) : List UInt8 := if within n 0 1000000000 = true then varN n.toNat else []
def shortText (s : List UInt8) : List UInt8 := if s.length ≤ 20000 then varN s.length ++ s else []
open Classical in
noncomputable def spVarText : VM.Spec := { modes := [.rd], run := fun | [.int .i64 n] => some (.tup [.str (varText n), .bool (within n 0 1000000000)], []) | _ => none, need := [] }
attribute [go_sem] spVarText
theorem spVarText_in {ins : List V} {r : V} {outs : List V} (h : spVarText.run ins = some (r, outs)) : ∃ (n : Int), ins = [.int .i64 n] ∧ .tup [.str (varText n), .bool (within n 0 1000000000)] = r ∧ outs = [] := by
  unfold spVarText at h
  simp only at h
  split at h
  · rename_i n
    simp only [Option.some.injEq, Prod.mk.injEq] at h
    obtain ⟨h1, h2⟩ := h
    exact ⟨n, rfl, h1, h2.symm⟩
  · cases h
open Classical in
noncomputable def spVarBytes : VM.Spec := { modes := [.rd], run := fun | [.int .i64 n] => if 0 ≤ n ∧ n ≤ 70368744177664 then some (.str (varN n.toNat), []) else none | _ => none, need := [] }
attribute [go_sem] spVarBytes
theorem spVarBytes_in {ins : List V} {r : V} {outs : List V} (h : spVarBytes.run ins = some (r, outs)) : ∃ (n : Int), ins = [.int .i64 n] ∧ (0 ≤ n ∧ n ≤ 70368744177664) ∧ .str (varN n.toNat) = r ∧ outs = [] := by
  unfold spVarBytes at h
  simp only at h
  split at h
  · rename_i n
    split at h
    case isFalse => cases h
    rename_i hc
    simp only [Option.some.injEq, Prod.mk.injEq] at h
    obtain ⟨h1, h2⟩ := h
    exact ⟨n, rfl, hc, h1, h2.symm⟩
  · cases h
open Classical in
noncomputable def spShortText : VM.Spec := { modes := [.rd], run := fun | [.str s] => if s.length ≤ 4194304 then some (.tup [.str (shortText s), .bool (decide (s.length ≤ 20000))], []) else none | _ => none, need := [] }
attribute [go_sem] spShortText
theorem spShortText_in {ins : List V} {r : V} {outs : List V} (h : spShortText.run ins = some (r, outs)) : ∃ (s : (List UInt8)), ins = [.str s] ∧ (s.length ≤ 4194304) ∧ .tup [.str (shortText s), .bool (decide (s.length ≤ 20000))] = r ∧ outs = [] := by
  unfold spShortText at h
  simp only at h
  split at h
  · rename_i s
    split at h
    case isFalse => cases h
    rename_i hc
    simp only [Option.some.injEq, Prod.mk.injEq] at h
    obtain ⟨h1, h2⟩ := h
    exact ⟨s, rfl, hc, h1, h2.symm⟩
  · cases h
open Classical in
noncomputable def spShort : VM.Spec := { modes := [.rd], run := fun | [.str s] => if s.length ≤ 20000 then some (.str (varN s.length ++ s), []) else none | _ => none, need := [] }
attribute [go_sem] spShort
theorem spShort_in {ins : List V} {r : V} {outs : List V} (h : spShort.run ins = some (r, outs)) : ∃ (s : (List UInt8)), ins = [.str s] ∧ (s.length ≤ 20000) ∧ .str (varN s.length ++ s) = r ∧ outs = [] := by
  unfold spShort at h
  simp only at h
  split at h
  · rename_i s
    split at h
    case isFalse => cases h
    rename_i hc
    simp only [Option.some.injEq, Prod.mk.injEq] at h
    obtain ⟨h1, h2⟩ := h
    exact ⟨s, rfl, hc, h1, h2.symm⟩
  · cases h
open Classical in
noncomputable def spItoa : VM.Spec := { modes := [.rd], run := fun | [.int .i64 n] => if -9223372036854775808 ≤ n ∧ n ≤ 9223372036854775807 then some (.str (Lib.itoa n), []) else none | _ => none, need := ["internal/strconv.uint64pow10"] }
attribute [go_sem] spItoa
theorem spItoa_in {ins : List V} {r : V} {outs : List V} (h : spItoa.run ins = some (r, outs)) : ∃ (n : Int), ins = [.int .i64 n] ∧ (-9223372036854775808 ≤ n ∧ n ≤ 9223372036854775807) ∧ .str (Lib.itoa n) = r ∧ outs = [] := by
  unfold spItoa at h
  simp only at h
  split at h
  · rename_i n
    split at h
    case isFalse => cases h
    rename_i hc
    simp only [Option.some.injEq, Prod.mk.injEq] at h
    obtain ⟨h1, h2⟩ := h
    exact ⟨n, rfl, hc, h1, h2.symm⟩
  · cases h
theorem ok_strconv_Itoa : FnOk Tryz.prog 60 spItoa :=
  itoa_ok Tryz.func60 rfl (by kernel_rfl) (by simp [spItoa]) rfl (fun _ _ _ h => spItoa_in h) Tryz.strconv_Itoa
theorem nDigits_le : ∀ (k u : Nat), u < 10 ^ (k + 1) → Lib.nDigits u ≤ k + 1
  | 0, u, h => by rw [Lib.nDigits_small (by simpa using h)]; omega
  | k + 1, u, h => by
    by_cases hu : u < 10
    · rw [Lib.nDigits_small hu]; omega
    · rw [Lib.nDigits_big hu]
      have := nDigits_le k (u / 10) (by rw [Nat.pow_succ] at h; omega)
      omega
theorem itoa_len {n : Int} {k : Nat} (h0 : 0 ≤ n) (h : n < 10 ^ (k + 1)) : (Lib.itoa n).length ≤ k + 1 := by
  rw [Lib.itoa, if_neg (by omega), Lib.decDigits_length]
  exact nDigits_le k n.toNat (by
    have e : ((n.toNat : Nat) : Int) = n := by omega
    have : ((n.toNat : Nat) : Int) < ((10 ^ (k + 1) : Nat) : Int) := by rw [e]; simpa using h
    exact_mod_cast this)
theorem itoa10 {n : Int} (h0 : 0 ≤ n) (h : n ≤ 1000000000) : (Lib.itoa n).length ≤ 10 := itoa_len (k := 9) h0 (by omega)
theorem itoa4 {n : Int} (h0 : 0 ≤ n) (h : n ≤ 9999) : (Lib.itoa n).length ≤ 4 := itoa_len (k := 3) h0 (by omega)
def dig (m : Nat) : List UInt8 := if m = 0 then [] else Lib.decDigits m
theorem dig_step {m : Nat} (h : m ≠ 0) : dig m = dig (m / 10) ++ [UInt8.ofNat (48 + m % 10)] := by
  unfold dig
  rw [if_neg h, Lib.decDigits]
  by_cases h1 : m < 10
  · rw [dif_pos h1, if_pos (by omega), Nat.mod_eq_of_lt h1]; rfl
  · rw [dif_neg h1, if_neg (by omega)]
theorem dig_len (m : Nat) : (dig m).length ≤ m := by
  induction m using Nat.strongRecOn with
  | ind m ih =>
    by_cases h : m = 0
    · subst h; simp [dig]
    · rw [dig_step h, List.length_append]
      have := ih (m / 10) (by omega)
      simp; omega
open Classical in
noncomputable def spDecimal : VM.Spec := { modes := [.rd], run := fun | [.int .i64 n] => if 0 ≤ n ∧ n ≤ 1000000000 then some (.str (Lib.itoa n), []) else none | _ => none, need := ["internal/strconv.uint64pow10"] }
attribute [go_sem] spDecimal
theorem spDecimal_in {ins : List V} {r : V} {outs : List V} (h : spDecimal.run ins = some (r, outs)) : ∃ (n : Int), ins = [.int .i64 n] ∧ (0 ≤ n ∧ n ≤ 1000000000) ∧ .str (Lib.itoa n) = r ∧ outs = [] := by
  unfold spDecimal at h
  simp only at h
  split at h
  · rename_i n
    split at h
    case isFalse => cases h
    rename_i hc
    simp only [Option.some.injEq, Prod.mk.injEq] at h
    obtain ⟨h1, h2⟩ := h
    exact ⟨n, rfl, hc, h1, h2.symm⟩
  · cases h
def T_impl_Decimal : Hints := ⟨lk [], lk [], lk [(0, [0]), (1, [2])], lk []⟩
noncomputable def Phi_impl_Decimal : Tab := lk [(60, spItoa)]
attribute [go_sem] T_impl_Decimal Phi_impl_Decimal
theorem phi_impl_Decimal : ∀ f sp, Phi_impl_Decimal f = some sp → FnOk Tryz.prog f sp ∧ ∀ n ∈ sp.need, n ∈ (["internal/strconv.uint64pow10"] : List String) := phi_cons ok_strconv_Itoa (fun n (h : n ∈ (["internal/strconv.uint64pow10"] : List String)) => by simp only [List.mem_cons, List.not_mem_nil, or_false] at h; rcases h with rfl <;> simp) (phi_nil)
theorem ok_impl_Decimal : FnOk Tryz.prog 31 spDecimal := by
  refine fn_ok (Φ := Phi_impl_Decimal) (T := T_impl_Decimal) phi_impl_Decimal mixed Tryz.func31 rfl rfl rfl (by decide) ?_
  intro ins r outs hr hl
  clear hl
  have hs := spDecimal_in hr
  clear hr
  obtain ⟨n, rfl, hc, hr, rfl⟩ := hs
  simp only [spDecimal, Tryz.f31, Go.VM.initS]
  have h1 : (-9223372036854775808 : Int) ≤ n := by omega
  have h2 : n ≤ 9223372036854775807 := by omega
  simp only [h1, h2, go_sem]
  repeat' ((first | apply qa | apply qb | apply qc | apply qd | apply qe | apply qf | apply qg | apply qh | apply qi | apply qj | apply qk) <;> intro hp <;> simp only [hp, h1, h2, go_sem])
  simp only [fin_mk, finV, resL, resV1, resIn, endA, listIn, Option.some_or, Option.none_or, oneOrTup, go_sem]
  rw [← hr]
open Classical in
noncomputable def spFigure : VM.Spec := { modes := [.rd], run := fun | [.int .i64 x] => if 0 ≤ x ∧ x < 10 then some (.int .u8 (48 + x), []) else none | _ => none, need := [] }
attribute [go_sem] spFigure
theorem spFigure_in {ins : List V} {r : V} {outs : List V} (h : spFigure.run ins = some (r, outs)) : ∃ (x : Int), ins = [.int .i64 x] ∧ (0 ≤ x ∧ x < 10) ∧ .int .u8 (48 + x) = r ∧ outs = [] := by
  unfold spFigure at h
  simp only at h
  split at h
  · rename_i x
    split at h
    case isFalse => cases h
    rename_i hc
    simp only [Option.some.injEq, Prod.mk.injEq] at h
    obtain ⟨h1, h2⟩ := h
    exact ⟨x, rfl, hc, h1, h2.symm⟩
  · cases h
def T_spec_l01Figure : Hints := ⟨lk [], lk [], lk [(0, [0]), (1, [0, 4]), (2, [2]), (3, [2])], lk []⟩
noncomputable def Phi_spec_l01Figure : Tab := lk []
attribute [go_sem] T_spec_l01Figure Phi_spec_l01Figure
theorem phi_spec_l01Figure : ∀ f sp, Phi_spec_l01Figure f = some sp → FnOk Tryz.prog f sp ∧ ∀ n ∈ sp.need, n ∈ ([] : List String) := phi_nil
theorem ok_spec_l01Figure : FnOk Tryz.prog 42 spFigure := by
  refine fn_ok (Φ := Phi_spec_l01Figure) (T := T_spec_l01Figure) phi_spec_l01Figure mixed Tryz.func42 rfl rfl rfl (by decide) ?_
  intro ins r outs hr hl
  clear hl
  have hs := spFigure_in hr
  clear hr
  obtain ⟨x, rfl, hc, hr, rfl⟩ := hs
  simp only [spFigure, Tryz.f42, Go.VM.initS]
  obtain ⟨h0, h1⟩ := hc
  have e : IntKind.u8.wrap (IntKind.i64.wrap (48 + x)) = 48 + x := by
    rw [wrap64 (by omega) (by omega)]
    simp only [IntKind.wrap, IntKind.signed, IntKind.bits]
    simp; omega
  simp only [h1, e, go_sem]
  repeat' ((first | apply qa | apply qb | apply qc | apply qd | apply qe | apply qf | apply qg | apply qh | apply qi | apply qj | apply qk) <;> intro hp <;> simp only [hp, h1, e, go_sem])
  simp only [fin_mk, finV, resL, resV1, resIn, endA, listIn, Option.some_or, Option.none_or, oneOrTup, go_sem]
  rw [← hr]
def T_spec_Decimal : Hints := ⟨lk [], lk [(5, [0, 3, 4])], lk [(0, [0]), (1, [0, 7]), (2, [2]), (3, [0, 3]), (4, [0, 3, 4]), (5, [0, 3, 4, 11]), (6, [0, 3, 4, 5]), (7, [0, 3, 4, 5, 15]), (8, [0, 3, 4, 5]), (9, [0, 3, 4]), (10, [0, 3, 4]), (11, [4, 26]), (12, [2]), (13, [2])], lk []⟩
noncomputable def Phi_spec_Decimal : Tab := lk [(42, spFigure)]
attribute [go_sem] T_spec_Decimal Phi_spec_Decimal
theorem phi_spec_Decimal : ∀ f sp, Phi_spec_Decimal f = some sp → FnOk Tryz.prog f sp ∧ ∀ n ∈ sp.need, n ∈ (["internal/strconv.uint64pow10"] : List String) := phi_cons ok_spec_l01Figure (n0 rfl) (phi_nil)
theorem ok_spec_Decimal : FnOk Tryz.prog 21 spDecimal := by
  refine fn_ok (Φ := Phi_spec_Decimal) (T := T_spec_Decimal) phi_spec_Decimal mixed Tryz.func21 rfl rfl rfl (by decide) ?_
  intro ins r outs hr hl
  clear hl
  have hs := spDecimal_in hr
  clear hr
  obtain ⟨n, rfl, hc, hr, rfl⟩ := hs
  simp only [spDecimal, Tryz.f21, Go.VM.initS]
  obtain ⟨h0, h1⟩ := hc
  obtain ⟨k, rfl⟩ : ∃ k : Nat, n = k := ⟨n.toNat, by omega⟩
  by_cases hz : k = 0
  · subst hz
    have e : (((0 : Nat) : Int) == 0) = true := rfl
    simp only [e, go_sem]
    repeat' ((first | apply qa | apply qb | apply qc | apply qd | apply qe | apply qf | apply qg | apply qh | apply qi | apply qj | apply qk) <;> intro hp <;> simp only [hp, e, go_sem])
    simp only [fin_mk, finV, resL, resV1, resIn, endA, listIn, Option.some_or, Option.none_or, oneOrTup, go_sem]
    rw [← hr]
    have h2 : Lib.itoa ((0 : Nat) : Int) = [48] := by
      rw [Lib.itoa, if_neg (by decide)]
      show Lib.decDigits 0 = _
      rw [Lib.decDigits]; rfl
    rw [h2]
  · have e : ((k : Int) == 0) = false := beq_eq_false_iff_ne.2 (by omega)
    have e2 : ¬ (k : Int) < 0 := by omega
    have hI : Lib.itoa (k : Int) = dig k := by rw [Lib.itoa, if_neg e2, dig, if_neg hz]; rfl
    rw [hI] at hr
    simp only [e, e2, go_sem]
    repeat' ((first | apply qa | apply qb | apply qc | apply qd | apply qe | apply qf | apply qg | apply qh | apply qi | apply qj | apply qk) <;> intro hp <;> simp only [hp, e, e2, go_sem])
    refine loop_go (fun p : List UInt8 × Nat => [(0, .int .i64 (p.2 : Int)), (4, .str p.1)]) (fun _ => []) (fun p => p.2) (fun p => dig p.2 ++ p.1 = dig k ∧ p.2 ≤ k) ([], k) ⟨by simp, Nat.le_refl _⟩ rfl rfl ?_
    rintro ⟨s, m⟩ ⟨he, hm⟩ ih
    simp only at he hm ih
    have hlen : s.length ≤ k := by
      have h2 := congrArg List.length he
      have h3 := dig_len k
      simp only [List.length_append] at h2; omega
    by_cases hm0 : m = 0
    · subst hm0
      have g1 : (((0 : Nat) : Int) != 0) = false := rfl
      simp only [g1, go_sem]
      repeat' ((first | apply qa | apply qb | apply qc | apply qd | apply qe | apply qf | apply qg | apply qh | apply qi | apply qj | apply qk) <;> intro hp <;> simp only [hp, g1, go_sem])
      simp only [fin_mk, finV, resL, resV1, resIn, endA, listIn, Option.some_or, Option.none_or, oneOrTup, go_sem]
      rw [← hr]
      rw [← he]; rfl
    · have g1 : ((m : Int) != 0) = true := by simp; omega
      have g2 : (m : Int).tmod 10 = ((m % 10 : Nat) : Int) := tmod_nat m 10
      have g3 : ¬ (((m % 10 : Nat) : Int)) < 0 := by omega
      have g4 : (0 : Int) ≤ ((m % 10 : Nat) : Int) := by omega
      have g5 : ((m % 10 : Nat) : Int) < 10 := by omega
      have g6 : (m : Int).tdiv 10 = ((m / 10 : Nat) : Int) := tdiv_nat m 10
      have g7 : IntKind.i64.wrap ((m / 10 : Nat) : Int) = ((m / 10 : Nat) : Int) := wrap64 (by omega) (by omega)
      have g8 : [V.int .u8 (48 + ((m % 10 : Nat) : Int))] = bytesV [UInt8.ofNat (48 + m % 10)] := by
        have h4 : (UInt8.ofNat (48 + m % 10)).toNat = 48 + m % 10 := UInt8.toNat_ofNat_of_lt' (by show 48 + m % 10 < 256; omega)
        rw [bytesV, List.map_cons, List.map_nil, h4]; rfl
      have g9 : 1 + s.length ≤ 9223372036854775807 := by omega
      have ih' := ih (UInt8.ofNat (48 + m % 10) :: s, m / 10) ⟨by rw [← he, dig_step hm0, List.append_assoc]; rfl, by omega⟩ (by simp only; omega)
      simp only at ih'
      simp only [g1, g2, g3, g4, g5, g6, g7, g8, g9, go_sem]
      repeat' ((first | apply qa | apply qb | apply qc | apply qd | apply qe | apply qf | apply qg | apply qh | apply qi | apply qj | apply qk) <;> intro hp <;> simp only [hp, g1, g2, g3, g4, g5, g6, g7, g8, g9, go_sem])
      exact ih'
end Go.Proofs.YtnbkmmjnpbfhnaaGreatDoor.L

namespace Go.Proofs.YtnbkmmjnpbfhnaaGreatDoor.L
open Go Go.VM
set_option maxRecDepth 100000
set_option maxHeartbeats 4000000
set_option linter.unusedSimpArgs false
set_option linter.unusedVariables false
open Classical in
noncomputable def spJoin : VM.Spec := { modes := [.rd, .rd], run := fun | [.lst 1 l', .str t] => (decL dStr l').bind fun l => if (Lib.join l t).length ≤ 140737488355328 ∧ l.length ≤ 140737488355328 then some (.str (Lib.join l t), []) else none | _ => none, need := [] }
attribute [go_sem] spJoin
theorem spJoin_in {ins : List V} {r : V} {outs : List V} (h : spJoin.run ins = some (r, outs)) : ∃ (l : (List (List UInt8))) (t : (List UInt8)), ins = [.lst 1 ((l).map eStr), .str t] ∧ ((Lib.join l t).length ≤ 140737488355328 ∧ l.length ≤ 140737488355328) ∧ .str (Lib.join l t) = r ∧ outs = [] := by
  unfold spJoin at h
  simp only at h
  split at h
  · rename_i l' t
    simp only [Option.bind_eq_some_iff] at h
    obtain ⟨l, h_l, h⟩ := h
    split at h
    case isFalse => cases h
    rename_i hc
    simp only [Option.some.injEq, Prod.mk.injEq] at h
    obtain ⟨h1, h2⟩ := h
    have h_l := decL_some (fun _ _ h => dStr_some h) h_l
    subst h_l
    exact ⟨l, t, rfl, hc, h1, h2.symm⟩
  · cases h
theorem ok_strings_Join : FnOk Tryz.prog 62 spJoin :=
  join_ok Tryz.func62 rfl (by kernel_rfl) rfl (fun _ _ _ h => spJoin_in h) Tryz.strings_Join_none Tryz.strings_Join
theorem join_snoc (l : List (List UInt8)) (x t : List UInt8) : Lib.join (l ++ [x]) t = if l = [] then x else Lib.join l t ++ (t ++ x) := by
  cases l with
  | nil => simp [Lib.join_one]
  | cons y l =>
    rw [List.cons_append, Lib.join_cons, Lib.join_cons, if_neg (by simp)]
    simp [Lib.joinTail]
theorem lens_bound {l : List (List UInt8)} {k : Nat} (h : ∀ x ∈ l, x.length ≤ k) : Lib.lens l ≤ k * l.length := by
  induction l with
  | nil => simp [Lib.lens]
  | cons y l ih =>
    have h1 := ih fun x hx => h x (by simp [hx])
    have h2 := h y (by simp)
    simp only [Lib.lens, List.map_cons, List.sum_cons, List.length_cons] at h1 ⊢
    rw [Nat.mul_add]; omega
theorem join_bound {l : List (List UInt8)} {t : List UInt8} {k : Nat} (h : ∀ x ∈ l, x.length ≤ k) : (Lib.join l t).length ≤ (t.length + k) * l.length := by
  cases l with
  | nil => simp [Lib.join_nil]
  | cons y l =>
    rw [Lib.join_length]
    have := lens_bound h
    simp only [List.length_cons] at this ⊢
    rw [Nat.add_mul, Nat.mul_add t.length]; omega
def partOf (r : Range) : List UInt8 := if r.Lo < r.Hi then Lib.itoa r.Lo ++ (58 :: Lib.itoa r.Hi) else Lib.itoa r.Lo
def setText (s : List Range) : List UInt8 := if setOk s = true then Lib.join (s.map partOf) [44] else []
theorem setOk_at {s : List Range} (h : setOk s = true) {i : Nat} (hi : i < s.length) : 1 ≤ s[i].Lo ∧ s[i].Lo ≤ s[i].Hi ∧ s[i].Hi ≤ 9999 := by
  simp only [setOk, Bool.and_eq_true] at h
  exact rangeAt_hi hi (allN_get h.1 hi)
theorem setOk_len {s : List Range} (h : setOk s = true) : s.length ≤ 40 := by
  simp only [setOk, Bool.and_eq_true, decide_eq_true_eq] at h; exact h.2
theorem partOf_len {r : Range} (h : 1 ≤ r.Lo ∧ r.Lo ≤ r.Hi ∧ r.Hi ≤ 9999) : (partOf r).length ≤ 9 := by
  have h1 := itoa4 (n := r.Lo) (by omega) (by omega)
  have h2 := itoa4 (n := r.Hi) (by omega) (by omega)
  unfold partOf
  split
  · simp; omega
  · omega
theorem parts_len {s : List Range} (h : setOk s = true) (n : Nat) : ∀ x ∈ (s.take n).map partOf, x.length ≤ 9 := by
  intro x hx
  obtain ⟨r, hr, rfl⟩ := List.mem_map.1 hx
  obtain ⟨i, hi, rfl⟩ := List.mem_iff_getElem.1 (List.mem_of_mem_take hr)
  exact partOf_len (setOk_at h hi)
theorem join_parts {s : List Range} (h : setOk s = true) (n : Nat) : (Lib.join ((s.take n).map partOf) [44]).length ≤ 400 := by
  have h1 := join_bound (t := [44]) (parts_len h n)
  have h2 := setOk_len h
  have h3 : ((s.take n).map partOf).length ≤ 40 := by simp; omega
  simp only [List.length_cons, List.length_nil] at h1
  omega
theorem setText_len (s : List Range) : (setText s).length ≤ 400 := by
  unfold setText
  split
  · rename_i h
    have := join_parts h s.length
    rwa [List.take_length] at this
  · simp
open Classical in
noncomputable def spSetText : VM.Spec := { modes := [.rd], run := fun | [.lst 2 s'] => (decL Range.dec s').bind fun s => if s.length ≤ 4194304 then some (.str (setText s), []) else none | _ => none, need := ["internal/strconv.uint64pow10"] }
attribute [go_sem] spSetText
theorem spSetText_in {ins : List V} {r : V} {outs : List V} (h : spSetText.run ins = some (r, outs)) : ∃ (s : (List Range)), ins = [.lst 2 ((s).map Range.enc)] ∧ (s.length ≤ 4194304) ∧ .str (setText s) = r ∧ outs = [] := by
  unfold spSetText at h
  simp only at h
  split at h
  · rename_i s'
    simp only [Option.bind_eq_some_iff] at h
    obtain ⟨s, h_s, h⟩ := h
    split at h
    case isFalse => cases h
    rename_i hc
    simp only [Option.some.injEq, Prod.mk.injEq] at h
    obtain ⟨h1, h2⟩ := h
    have h_s := decL_some (fun _ _ h => Range.dec_some h) h_s
    subst h_s
    exact ⟨s, rfl, hc, h1, h2.symm⟩
  · cases h
def T_impl_SetText : Hints := ⟨lk [], lk [(5, [3, 11, 12, 13])], lk [(0, [0]), (1, [0, 9]), (2, [2]), (3, [0, 3]), (4, [3, 11, 12, 13]), (5, [3, 11, 12, 13, 14]), (6, [3, 5, 11, 12, 13]), (7, [3, 5, 6, 11, 12, 13]), (8, [3, 5, 6, 11, 12, 13, 24]), (9, [3, 6, 11, 12, 13]), (10, [3, 11, 12, 13]), (11, [3, 11, 12, 13]), (12, [2])], lk []⟩
noncomputable def Phi_impl_SetText : Tab := lk [(59, spSetOk), (31, spDecimal), (62, spJoin)]
attribute [go_sem] T_impl_SetText Phi_impl_SetText
theorem phi_impl_SetText : ∀ f sp, Phi_impl_SetText f = some sp → FnOk Tryz.prog f sp ∧ ∀ n ∈ sp.need, n ∈ (["internal/strconv.uint64pow10"] : List String) := phi_cons ok_impl_SetOk (n0 rfl) (phi_cons ok_impl_Decimal (fun n (h : n ∈ (["internal/strconv.uint64pow10"] : List String)) => by simp only [List.mem_cons, List.not_mem_nil, or_false] at h; rcases h with rfl <;> simp) (phi_cons ok_strings_Join (n0 rfl) (phi_nil)))
theorem ok_impl_SetText : FnOk Tryz.prog 33 spSetText := by
  refine fn_ok (Φ := Phi_impl_SetText) (T := T_impl_SetText) phi_impl_SetText mixed Tryz.func33 rfl rfl rfl (by decide) ?_
  intro ins r outs hr hl
  clear hl
  have hs := spSetText_in hr
  clear hr
  obtain ⟨s, rfl, hc, hr, rfl⟩ := hs
  simp only [spSetText, Tryz.f33, Go.VM.initS]
  cases hk : setOk s with
  | false =>
    simp only [hc, hk, go_sem]
    repeat' ((first | apply qa | apply qb | apply qc | apply qd | apply qe | apply qf | apply qg | apply qh | apply qi | apply qj | apply qk) <;> intro hp <;> simp only [hp, hc, hk, go_sem])
    simp only [fin_mk, finV, resL, resV1, resIn, endA, listIn, Option.some_or, Option.none_or, oneOrTup, go_sem]
    rw [← hr]
    rw [setText, hk, if_neg (by simp)]
  | true =>
    have hS : setText s = Lib.join (s.map partOf) [44] := by rw [setText, if_pos hk]
    rw [hS] at hr
    clear hS
    simp only [hc, hk, go_sem]
    repeat' ((first | apply qa | apply qb | apply qc | apply qd | apply qe | apply qf | apply qg | apply qh | apply qi | apply qj | apply qk) <;> intro hp <;> simp only [hp, hc, hk, go_sem])
    refine loop_go (fun i : Nat => [(13, .int .i64 (i : Int))]) (fun i => [(0, ⟨.arr, 1, ((s.take i).map partOf).map eStr⟩)]) (fun i => s.length - i) (fun i => i ≤ s.length) 0 (Nat.zero_le _) rfl rfl ?_
    intro i hi ih
    have hl := setOk_len hk
    rcases Nat.lt_or_ge i s.length with h | h
    · have g1 : (i : Int) < s.length := by omega
      have g2 : (0 : Int) ≤ i := by omega
      have g3 : s[i]? = some s[i] := List.getElem?_eq_getElem h
      have g5 := wrap_succ h (by omega)
      have hb := setOk_at hk h
      have a1 : (0 : Int) ≤ s[i].Lo := by omega
      have a2 : s[i].Lo ≤ 1000000000 := by omega
      have a3 : (0 : Int) ≤ s[i].Hi := by omega
      have a4 : s[i].Hi ≤ 1000000000 := by omega
      have l1 := itoa4 (n := s[i].Lo) (by omega) (by omega)
      have l2 := itoa4 (n := s[i].Hi) (by omega) (by omega)
      have b1 : 1 + (Lib.itoa s[i].Hi).length ≤ 9223372036854775807 := by omega
      have b2 : (Lib.itoa s[i].Lo).length + ((Lib.itoa s[i].Hi).length + 1) ≤ 9223372036854775807 := by omega
      have b3 : ((s.take i).map partOf).length = i := by simp; omega
      have b4 : (i + 1) * 16 ≤ 140737488355328 := by omega
      have b5 : i + 1 ≤ 9223372036854775807 := by omega
      have b6 : min i s.length = i := by omega
      have ih' := ih (i + 1) h (by omega)
      rw [take_succ' h, List.map_append, List.map_append] at ih'
      by_cases hlt : s[i].Lo < s[i].Hi
      · have hp : partOf s[i] = Lib.itoa s[i].Lo ++ (58 :: Lib.itoa s[i].Hi) := by rw [partOf, if_pos hlt]
        simp only [List.map_cons, List.map_nil, hp] at ih'
        simp only [g1, g2, g3, g5, a1, a2, a3, a4, b1, b2, b3, b4, b5, b6, hlt, List.length_take, go_sem]
        repeat' ((first | apply qa | apply qb | apply qc | apply qd | apply qe | apply qf | apply qg | apply qh | apply qi | apply qj | apply qk) <;> intro hp <;> simp only [hp, g1, g2, g3, g5, a1, a2, a3, a4, b1, b2, b3, b4, b5, b6, hlt, List.length_take, go_sem])
        exact ih'
      · have hp : partOf s[i] = Lib.itoa s[i].Lo := by rw [partOf, if_neg hlt]
        simp only [List.map_cons, List.map_nil, hp] at ih'
        simp only [g1, g2, g3, g5, a1, a2, a3, a4, b1, b2, b3, b4, b5, b6, hlt, List.length_take, go_sem]
        repeat' ((first | apply qa | apply qb | apply qc | apply qd | apply qe | apply qf | apply qg | apply qh | apply qi | apply qj | apply qk) <;> intro hp <;> simp only [hp, g1, g2, g3, g5, a1, a2, a3, a4, b1, b2, b3, b4, b5, b6, hlt, List.length_take, go_sem])
        exact ih'
    · have g1 : ¬ (i : Int) < s.length := by omega
      have ht : s.take i = s := List.take_of_length_le h
      have hj := join_parts hk s.length
      rw [List.take_length] at hj
      have j1 : (Lib.join (s.map partOf) [44]).length ≤ 140737488355328 := by omega
      have j2 : s.length ≤ 140737488355328 := by omega
      simp only [g1, ht, j1, j2, go_sem]
      repeat' ((first | apply qa | apply qb | apply qc | apply qd | apply qe | apply qf | apply qg | apply qh | apply qi | apply qj | apply qk) <;> intro hp <;> simp only [hp, g1, ht, j1, j2, go_sem])
      simp only [fin_mk, finV, resL, resV1, resIn, endA, listIn, Option.some_or, Option.none_or, oneOrTup, go_sem]
      rw [← hr]
def T_spec_SetText : Hints := ⟨lk [(10, [])], lk [(5, [0, 3, 4])], lk [(0, [0]), (1, [0, 7]), (2, [2]), (3, [0, 3]), (4, [0, 3, 4]), (5, [0, 3, 4, 11]), (7, [0, 3, 4, 15]), (8, [0, 3, 4]), (9, [0, 3, 4]), (10, [0, 3, 4, 36]), (11, [0, 3, 4]), (6, [0, 3, 4]), (12, [2])], lk []⟩
noncomputable def Phi_spec_SetText : Tab := lk [(40, spSetOk), (21, spDecimal)]
attribute [go_sem] T_spec_SetText Phi_spec_SetText
theorem phi_spec_SetText : ∀ f sp, Phi_spec_SetText f = some sp → FnOk Tryz.prog f sp ∧ ∀ n ∈ sp.need, n ∈ (["internal/strconv.uint64pow10"] : List String) := phi_cons ok_spec_SetOk (n0 rfl) (phi_cons ok_spec_Decimal (fun n (h : n ∈ (["internal/strconv.uint64pow10"] : List String)) => by simp only [List.mem_cons, List.not_mem_nil, or_false] at h; rcases h with rfl <;> simp) (phi_nil))
theorem ok_spec_SetText : FnOk Tryz.prog 23 spSetText := by
  refine fn_ok (Φ := Phi_spec_SetText) (T := T_spec_SetText) phi_spec_SetText mixed Tryz.func23 rfl rfl rfl (by decide) ?_
  intro ins r outs hr hl
  clear hl
  have hs := spSetText_in hr
  clear hr
  obtain ⟨s, rfl, hc, hr, rfl⟩ := hs
  simp only [spSetText, Tryz.f23, Go.VM.initS]
  cases hk : setOk s with
  | false =>
    simp only [hc, hk, go_sem]
    repeat' ((first | ((first | apply qa | apply qb | apply qc | apply qd | apply qe | apply qf | apply qg | apply qh | apply qi | apply qj | apply qk) <;> intro hp) | ((first | refine ql rfl rfl (by decide +kernel) ?_ | refine qm _ rfl rfl (by decide +kernel) ?_) <;> have hp := True.intro)) <;> simp only [hp, hc, hk, go_sem])
    simp only [fin_mk, finV, resL, resV1, resIn, endA, listIn, Option.some_or, Option.none_or, oneOrTup, go_sem]
    rw [← hr]
    rw [setText, hk, if_neg (by simp)]
  | true =>
    have hS : setText s = Lib.join (s.map partOf) [44] := by rw [setText, if_pos hk]
    rw [hS] at hr
    clear hS
    simp only [hc, hk, go_sem]
    repeat' ((first | ((first | apply qa | apply qb | apply qc | apply qd | apply qe | apply qf | apply qg | apply qh | apply qi | apply qj | apply qk) <;> intro hp) | ((first | refine ql rfl rfl (by decide +kernel) ?_ | refine qm _ rfl rfl (by decide +kernel) ?_) <;> have hp := True.intro)) <;> simp only [hp, hc, hk, go_sem])
    refine loop_go (fun i : Nat => [(3, .str (Lib.join ((s.take i).map partOf) [44])), (4, .int .i64 (i : Int))]) (fun _ => []) (fun i => s.length - i) (fun i => i ≤ s.length) 0 (Nat.zero_le _) rfl rfl ?_
    intro i hi ih
    have hl := setOk_len hk
    rcases Nat.lt_or_ge i s.length with h | h
    · have g1 : (i : Int) < s.length := by omega
      have g2 : (0 : Int) ≤ i := by omega
      have g3 : s[i]? = some s[i] := List.getElem?_eq_getElem h
      have g5 := wrap_succ h (by omega)
      have hb := setOk_at hk h
      have a1 : (0 : Int) ≤ s[i].Lo := by omega
      have a2 : s[i].Lo ≤ 1000000000 := by omega
      have a3 : (0 : Int) ≤ s[i].Hi := by omega
      have a4 : s[i].Hi ≤ 1000000000 := by omega
      have l1 := itoa4 (n := s[i].Lo) (by omega) (by omega)
      have l2 := itoa4 (n := s[i].Hi) (by omega) (by omega)
      have lj := join_parts hk i
      have ih' := ih (i + 1) h (by omega)
      rw [take_succ' h, List.map_append] at ih'
      simp only [List.map_cons, List.map_nil, join_snoc] at ih'
      generalize hJ : Lib.join ((s.take i).map partOf) [44] = J at *
      have b0 : J.length ≤ 9223372036854775806 := by omega
      have b1 : J.length + 1 + (Lib.itoa s[i].Lo).length ≤ 9223372036854775807 := by omega
      have b1' : J.length + (Lib.itoa s[i].Lo).length ≤ 9223372036854775807 := by omega
      have b2 : J.length + 1 + (Lib.itoa s[i].Lo).length ≤ 9223372036854775806 := by omega
      have b2' : J.length + (Lib.itoa s[i].Lo).length ≤ 9223372036854775806 := by omega
      have b3 : J.length + 1 + (Lib.itoa s[i].Lo).length + 1 + (Lib.itoa s[i].Hi).length ≤ 9223372036854775807 := by omega
      have b3' : J.length + (Lib.itoa s[i].Lo).length + 1 + (Lib.itoa s[i].Hi).length ≤ 9223372036854775807 := by omega
      by_cases h0 : i = 0
      · subst h0
        have hJ0 : J = [] := by rw [← hJ]; rfl
        subst hJ0
        have z0 : ¬ (0 : Int) < ((0 : Nat) : Int) := by decide
        rw [if_pos (by simp)] at ih'
        by_cases hlt : s[0].Lo < s[0].Hi
        · have hp : partOf s[0] = Lib.itoa s[0].Lo ++ (58 :: Lib.itoa s[0].Hi) := by rw [partOf, if_pos hlt]
          rw [hp] at ih'
          simp only [g1, g2, g3, g5, z0, a1, a2, a3, a4, b0, b1, b1', b2, b2', b3, b3', hlt, List.length_append, List.append_assoc, List.cons_append, List.nil_append, go_sem]
          repeat' ((first | ((first | apply qa | apply qb | apply qc | apply qd | apply qe | apply qf | apply qg | apply qh | apply qi | apply qj | apply qk) <;> intro hp) | ((first | refine ql rfl rfl (by decide +kernel) ?_ | refine qm _ rfl rfl (by decide +kernel) ?_) <;> have hp := True.intro)) <;> simp only [hp, g1, g2, g3, g5, z0, a1, a2, a3, a4, b0, b1, b1', b2, b2', b3, b3', hlt, List.length_append, List.append_assoc, List.cons_append, List.nil_append, go_sem])
          all_goals first | exact ih' | (clear ih ih'; omega)
        · have hp : partOf s[0] = Lib.itoa s[0].Lo := by rw [partOf, if_neg hlt]
          rw [hp] at ih'
          simp only [g1, g2, g3, g5, z0, a1, a2, a3, a4, b0, b1, b1', b2, b2', b3, b3', hlt, List.length_append, List.append_assoc, List.cons_append, List.nil_append, go_sem]
          repeat' ((first | ((first | apply qa | apply qb | apply qc | apply qd | apply qe | apply qf | apply qg | apply qh | apply qi | apply qj | apply qk) <;> intro hp) | ((first | refine ql rfl rfl (by decide +kernel) ?_ | refine qm _ rfl rfl (by decide +kernel) ?_) <;> have hp := True.intro)) <;> simp only [hp, g1, g2, g3, g5, z0, a1, a2, a3, a4, b0, b1, b1', b2, b2', b3, b3', hlt, List.length_append, List.append_assoc, List.cons_append, List.nil_append, go_sem])
          all_goals first | exact ih' | (clear ih ih'; omega)
      · have z0 : (0 : Int) < (i : Int) := by omega
        have hne : ¬ (s.take i).map partOf = [] := by
          intro e
          have h2 : ((s.take i).map partOf).length = min i s.length := by rw [List.length_map, List.length_take]
          rw [e, List.length_nil] at h2
          omega
        rw [if_neg hne] at ih'
        simp only [List.cons_append, List.nil_append] at ih'
        by_cases hlt : s[i].Lo < s[i].Hi
        · have hp : partOf s[i] = Lib.itoa s[i].Lo ++ (58 :: Lib.itoa s[i].Hi) := by rw [partOf, if_pos hlt]
          rw [hp] at ih'
          simp only [g1, g2, g3, g5, z0, a1, a2, a3, a4, b0, b1, b1', b2, b2', b3, b3', hlt, List.length_append, List.append_assoc, List.cons_append, List.nil_append, go_sem]
          repeat' ((first | ((first | apply qa | apply qb | apply qc | apply qd | apply qe | apply qf | apply qg | apply qh | apply qi | apply qj | apply qk) <;> intro hp) | ((first | refine ql rfl rfl (by decide +kernel) ?_ | refine qm _ rfl rfl (by decide +kernel) ?_) <;> have hp := True.intro)) <;> simp only [hp, g1, g2, g3, g5, z0, a1, a2, a3, a4, b0, b1, b1', b2, b2', b3, b3', hlt, List.length_append, List.append_assoc, List.cons_append, List.nil_append, go_sem])
          all_goals first | exact ih' | (clear ih ih'; omega)
        · have hp : partOf s[i] = Lib.itoa s[i].Lo := by rw [partOf, if_neg hlt]
          rw [hp] at ih'
          simp only [g1, g2, g3, g5, z0, a1, a2, a3, a4, b0, b1, b1', b2, b2', b3, b3', hlt, List.length_append, List.append_assoc, List.cons_append, List.nil_append, go_sem]
          repeat' ((first | ((first | apply qa | apply qb | apply qc | apply qd | apply qe | apply qf | apply qg | apply qh | apply qi | apply qj | apply qk) <;> intro hp) | ((first | refine ql rfl rfl (by decide +kernel) ?_ | refine qm _ rfl rfl (by decide +kernel) ?_) <;> have hp := True.intro)) <;> simp only [hp, g1, g2, g3, g5, z0, a1, a2, a3, a4, b0, b1, b1', b2, b2', b3, b3', hlt, List.length_append, List.append_assoc, List.cons_append, List.nil_append, go_sem])
          all_goals first | exact ih' | (clear ih ih'; omega)
    · have g1 : ¬ (i : Int) < s.length := by omega
      have ht : s.take i = s := List.take_of_length_le h
      simp only [g1, ht, go_sem]
      repeat' ((first | ((first | apply qa | apply qb | apply qc | apply qd | apply qe | apply qf | apply qg | apply qh | apply qi | apply qj | apply qk) <;> intro hp) | ((first | refine ql rfl rfl (by decide +kernel) ?_ | refine qm _ rfl rfl (by decide +kernel) ?_) <;> have hp := True.intro)) <;> simp only [hp, g1, ht, go_sem])
      simp only [fin_mk, finV, resL, resV1, resIn, endA, listIn, Option.some_or, Option.none_or, oneOrTup, go_sem]
      rw [← hr]
def flagNames : List (List UInt8) := [[115, 101, 101, 110], [97, 110, 115, 119, 101, 114, 101, 100], [102, 108, 97, 103, 103, 101, 100], [100, 101, 108, 101, 116, 101, 100], [100, 114, 97, 102, 116]]
def flagSel (b : Nat) : Nat → List (List UInt8)
  | 0 => []
  | i + 1 => flagSel b i ++ (if b.testBit i = true then [flagNames.getD i []] else [])
def flagsText (b : Int) : List UInt8 := if flagsOk b = true then 40 :: (Lib.join (flagSel b.toNat 5) [32] ++ [41]) else []
theorem flag_impl : ∀ b : Fin 32, ∀ i : Fin 5, ((IntKind.i64.wrap (BitVec.ofInt 64 (Int.fdiv (b.val : Int) (2 ^ (min i.val 64))) &&& BitVec.ofInt 64 1).toNat == 1) = b.val.testBit i.val) := by decide +kernel
theorem flag_spec : ∀ b : Fin 32, ∀ i : Fin 5, (((IntKind.i64.wrap ((b.val : Int).tdiv ((2 ^ i.val : Nat) : Int))).tmod 2 == 1) = b.val.testBit i.val) := by decide +kernel
theorem flag_names : ∀ i : Fin 5, flagNames[i.val]? = some (flagNames.getD i.val []) := by decide +kernel
theorem flag_sel_len : ∀ b : Fin 32, ∀ i : Fin 6, (flagSel b.val i.val).length ≤ 5 ∧ (Lib.join (flagSel b.val i.val) [32]).length ≤ 50 := by decide +kernel
theorem flag_sel_join : ∀ b : Fin 32, ∀ i : Fin 5, (Lib.join (flagSel b.val i.val) [32] = [] ↔ flagSel b.val i.val = []) := by decide +kernel
theorem flagsText_len (b : Int) : (flagsText b).length ≤ 60 := by
  unfold flagsText
  split
  · rename_i h
    have hb : 0 ≤ b ∧ b ≤ 31 := by simpa only [flagsOk, within, Bool.and_eq_true, decide_eq_true_eq] using h
    have := (flag_sel_len ⟨b.toNat, by omega⟩ ⟨5, by omega⟩).2
    simp only at this
    simp; omega
  · simp
open Classical in
noncomputable def spFlagNames : VM.Spec := { modes := [], run := fun | [] => some (.lst 1 ((flagNames).map eStr), []) | _ => none, need := [] }
attribute [go_sem] spFlagNames
theorem spFlagNames_in {ins : List V} {r : V} {outs : List V} (h : spFlagNames.run ins = some (r, outs)) : ins = [] ∧ .lst 1 ((flagNames).map eStr) = r ∧ outs = [] := by
  unfold spFlagNames at h
  simp only at h
  split at h
  · simp only [Option.some.injEq, Prod.mk.injEq] at h
    obtain ⟨h1, h2⟩ := h
    exact ⟨rfl, h1, h2.symm⟩
  · cases h
def T_impl_flagNames : Hints := ⟨lk [], lk [], lk [(0, []), (1, [0])], lk []⟩
noncomputable def Phi_impl_flagNames : Tab := lk []
attribute [go_sem] T_impl_flagNames Phi_impl_flagNames
theorem phi_impl_flagNames : ∀ f sp, Phi_impl_flagNames f = some sp → FnOk Tryz.prog f sp ∧ ∀ n ∈ sp.need, n ∈ ([] : List String) := phi_nil
theorem ok_impl_flagNames : FnOk Tryz.prog 61 spFlagNames := by
  refine fn_ok (Φ := Phi_impl_flagNames) (T := T_impl_flagNames) phi_impl_flagNames mixed Tryz.func61 rfl rfl rfl (by decide) ?_
  intro ins r outs hr hl
  clear hl
  have hs := spFlagNames_in hr
  clear hr
  obtain ⟨rfl, hr, rfl⟩ := hs
  simp only [spFlagNames, Tryz.f61, Go.VM.initS]
  simp only [go_sem]
  repeat' ((first | apply qa | apply qb | apply qc | apply qd | apply qe | apply qf | apply qg | apply qh | apply qi | apply qj | apply qk) <;> intro hp <;> simp only [hp, go_sem])
  simp only [fin_mk, finV, resL, resV1, resIn, endA, listIn, Option.some_or, Option.none_or, oneOrTup, go_sem]
  rw [← hr]
  rfl
def T_spec_l06Names : Hints := ⟨lk [], lk [], lk [(0, []), (1, [0])], lk []⟩
noncomputable def Phi_spec_l06Names : Tab := lk []
attribute [go_sem] T_spec_l06Names Phi_spec_l06Names
theorem phi_spec_l06Names : ∀ f sp, Phi_spec_l06Names f = some sp → FnOk Tryz.prog f sp ∧ ∀ n ∈ sp.need, n ∈ ([] : List String) := phi_nil
theorem ok_spec_l06Names : FnOk Tryz.prog 43 spFlagNames := by
  refine fn_ok (Φ := Phi_spec_l06Names) (T := T_spec_l06Names) phi_spec_l06Names mixed Tryz.func43 rfl rfl rfl (by decide) ?_
  intro ins r outs hr hl
  clear hl
  have hs := spFlagNames_in hr
  clear hr
  obtain ⟨rfl, hr, rfl⟩ := hs
  simp only [spFlagNames, Tryz.f43, Go.VM.initS]
  simp only [go_sem]
  repeat' ((first | apply qa | apply qb | apply qc | apply qd | apply qe | apply qf | apply qg | apply qh | apply qi | apply qj | apply qk) <;> intro hp <;> simp only [hp, go_sem])
  simp only [fin_mk, finV, resL, resV1, resIn, endA, listIn, Option.some_or, Option.none_or, oneOrTup, go_sem]
  rw [← hr]
  rfl
open Classical in
noncomputable def spFlagsText : VM.Spec := { modes := [.rd], run := fun | [.int .i64 n] => some (.str (flagsText n), []) | _ => none, need := [] }
attribute [go_sem] spFlagsText
theorem spFlagsText_in {ins : List V} {r : V} {outs : List V} (h : spFlagsText.run ins = some (r, outs)) : ∃ (n : Int), ins = [.int .i64 n] ∧ .str (flagsText n) = r ∧ outs = [] := by
  unfold spFlagsText at h
  simp only at h
  split at h
  · rename_i n
    simp only [Option.some.injEq, Prod.mk.injEq] at h
    obtain ⟨h1, h2⟩ := h
    exact ⟨n, rfl, h1, h2.symm⟩
  · cases h
def T_impl_FlagsText : Hints := ⟨lk [], lk [(5, [0, 3, 10, 11, 12])], lk [(0, [0]), (1, [0, 8]), (2, [2]), (3, [0, 3]), (4, [0, 3, 10, 11, 12]), (5, [0, 3, 10, 11, 12, 13]), (6, [0, 3, 4, 5, 10, 11, 12]), (7, [0, 3, 5, 10, 11, 12, 21]), (8, [0, 3, 10, 11, 12]), (9, [0, 3, 10, 11, 12]), (10, [2])], lk []⟩
noncomputable def Phi_impl_FlagsText : Tab := lk [(57, spFlagsOk), (61, spFlagNames), (62, spJoin)]
attribute [go_sem] T_impl_FlagsText Phi_impl_FlagsText
theorem phi_impl_FlagsText : ∀ f sp, Phi_impl_FlagsText f = some sp → FnOk Tryz.prog f sp ∧ ∀ n ∈ sp.need, n ∈ ([] : List String) := phi_cons ok_impl_FlagsOk (n0 rfl) (phi_cons ok_impl_flagNames (n0 rfl) (phi_cons ok_strings_Join (n0 rfl) (phi_nil)))
theorem ok_impl_FlagsText : FnOk Tryz.prog 32 spFlagsText := by
  refine fn_ok (Φ := Phi_impl_FlagsText) (T := T_impl_FlagsText) phi_impl_FlagsText mixed Tryz.func32 rfl rfl rfl (by decide) ?_
  intro ins r outs hr hl
  clear hl
  have hs := spFlagsText_in hr
  clear hr
  obtain ⟨n, rfl, hr, rfl⟩ := hs
  simp only [spFlagsText, Tryz.f32, Go.VM.initS]
  cases hk : flagsOk n with
  | false =>
    simp only [hk, go_sem]
    repeat' ((first | apply qa | apply qb | apply qc | apply qd | apply qe | apply qf | apply qg | apply qh | apply qi | apply qj | apply qk) <;> intro hp <;> simp only [hp, hk, go_sem])
    simp only [fin_mk, finV, resL, resV1, resIn, endA, listIn, Option.some_or, Option.none_or, oneOrTup, go_sem]
    rw [← hr]
    rw [flagsText, hk, if_neg (by simp)]
  | true =>
    have hb : 0 ≤ n ∧ n ≤ 31 := by simpa only [flagsOk, within, Bool.and_eq_true, decide_eq_true_eq] using hk
    obtain ⟨b, rfl⟩ : ∃ b : Nat, n = b := ⟨n.toNat, by omega⟩
    have hb32 : b < 32 := by omega
    simp only [flagsText, hk, if_true, Int.toNat_natCast] at hr
    simp only [hk, go_sem]
    repeat' ((first | apply qa | apply qb | apply qc | apply qd | apply qe | apply qf | apply qg | apply qh | apply qi | apply qj | apply qk) <;> intro hp <;> simp only [hp, hk, go_sem])
    refine loop_go (fun i : Nat => [(12, .int .i64 (i : Int))]) (fun i => [(0, ⟨.arr, 1, (flagSel b i).map eStr⟩)]) (fun i => 5 - i) (fun i => i ≤ 5) 0 (Nat.zero_le _) rfl rfl ?_
    intro i hi ih
    have hfl : flagNames.length = 5 := rfl
    have hsl := (flag_sel_len ⟨b, hb32⟩ ⟨i, by omega⟩).1
    simp only at hsl
    rcases Nat.lt_or_ge i 5 with h | h
    · have g1 : (i : Int) < (flagNames.length : Int) := by rw [hfl]; omega
      have g2 : (0 : Int) ≤ i := by omega
      have g2' : ¬ (i : Int) < 0 := by omega
      have g3 := flag_names ⟨i, h⟩
      have g4 := flag_impl ⟨b, hb32⟩ ⟨i, h⟩
      simp only at g3 g4
      have g5 := wrap_succ h (by omega)
      have b1 : ((flagSel b i).length + 1) * 16 ≤ 140737488355328 := by omega
      have b2 : (flagSel b i).length ≤ 9223372036854775806 := by omega
      have ih' := ih (i + 1) h (by omega)
      simp only [flagSel, List.map_append] at ih'
      cases ht : b.testBit i with
      | true =>
        rw [ht] at g4
        simp only [ht, if_true, List.map_cons, List.map_nil] at ih'
        simp only [g1, g2, g2', g3, g5, b1, b2, go_sem]
        repeat' ((first | apply qa | apply qb | apply qc | apply qd | apply qe | apply qf | apply qg | apply qh | apply qi | apply qj | apply qk) <;> intro hp <;> simp only [hp, g1, g2, g2', g3, g5, b1, b2, go_sem])
        all_goals first | exact ih' | exact absurd (g4.symm.trans hp) (by decide)
      | false =>
        rw [ht] at g4
        simp only [ht, Bool.false_eq_true, if_false, List.map_nil, List.append_nil] at ih'
        simp only [g1, g2, g2', g3, g5, b1, b2, go_sem]
        repeat' ((first | apply qa | apply qb | apply qc | apply qd | apply qe | apply qf | apply qg | apply qh | apply qi | apply qj | apply qk) <;> intro hp <;> simp only [hp, g1, g2, g2', g3, g5, b1, b2, go_sem])
        all_goals first | exact ih' | exact absurd (g4.symm.trans hp) (by decide)
    · have hi5 : i = 5 := by omega
      subst hi5
      have g1 : ¬ ((5 : Nat) : Int) < (flagNames.length : Int) := by rw [hfl]; omega
      have hj := (flag_sel_len ⟨b, hb32⟩ ⟨5, by omega⟩).2
      simp only at hj
      have j1 : (Lib.join (flagSel b 5) [32]).length ≤ 140737488355328 := by omega
      have j2 : (flagSel b 5).length ≤ 140737488355328 := by omega
      have j3 : 1 + (Lib.join (flagSel b 5) [32]).length ≤ 9223372036854775807 := by omega
      have j4 : (Lib.join (flagSel b 5) [32]).length + 1 ≤ 9223372036854775806 := by omega
      have j5 : (Lib.join (flagSel b 5) [32]).length ≤ 9223372036854775805 := by omega
      simp only [g1, j1, j2, j3, j4, j5, go_sem]
      repeat' ((first | apply qa | apply qb | apply qc | apply qd | apply qe | apply qf | apply qg | apply qh | apply qi | apply qj | apply qk) <;> intro hp <;> simp only [hp, g1, j1, j2, j3, j4, j5, go_sem])
      simp only [fin_mk, finV, resL, resV1, resIn, endA, listIn, Option.some_or, Option.none_or, oneOrTup, go_sem]
      rw [← hr]
def T_spec_FlagsText : Hints := ⟨lk [], lk [(7, [0, 3, 4, 5, 6])], lk [(0, [0]), (1, [0, 9]), (2, [2]), (3, [0, 3]), (4, [0, 3, 4]), (5, [0, 3, 4, 5]), (6, [0, 3, 4, 5, 6]), (7, [0, 3, 4, 5, 6, 14]), (9, [0, 3, 4, 5, 6, 21]), (10, [0, 3, 4, 5, 6, 23]), (11, [0, 3, 4, 5, 6]), (12, [0, 3, 4, 5, 6]), (13, [0, 3, 4, 5, 6]), (8, [0, 3, 4, 5, 6]), (14, [2])], lk []⟩
noncomputable def Phi_spec_FlagsText : Tab := lk [(41, spFlagsOk), (43, spFlagNames)]
attribute [go_sem] T_spec_FlagsText Phi_spec_FlagsText
theorem phi_spec_FlagsText : ∀ f sp, Phi_spec_FlagsText f = some sp → FnOk Tryz.prog f sp ∧ ∀ n ∈ sp.need, n ∈ ([] : List String) := phi_cons ok_spec_FlagsOk (n0 rfl) (phi_cons ok_spec_l06Names (n0 rfl) (phi_nil))
theorem ok_spec_FlagsText : FnOk Tryz.prog 22 spFlagsText := by
  refine fn_ok (Φ := Phi_spec_FlagsText) (T := T_spec_FlagsText) phi_spec_FlagsText mixed Tryz.func22 rfl rfl rfl (by decide) ?_
  intro ins r outs hr hl
  clear hl
  have hs := spFlagsText_in hr
  clear hr
  obtain ⟨n, rfl, hr, rfl⟩ := hs
  simp only [spFlagsText, Tryz.f22, Go.VM.initS]
  cases hk : flagsOk n with
  | false =>
    simp only [hk, go_sem]
    repeat' ((first | apply qa | apply qb | apply qc | apply qd | apply qe | apply qf | apply qg | apply qh | apply qi | apply qj | apply qk) <;> intro hp <;> simp only [hp, hk, go_sem])
    simp only [fin_mk, finV, resL, resV1, resIn, endA, listIn, Option.some_or, Option.none_or, oneOrTup, go_sem]
    rw [← hr]
    rw [flagsText, hk, if_neg (by simp)]
  | true =>
    have hb : 0 ≤ n ∧ n ≤ 31 := by simpa only [flagsOk, within, Bool.and_eq_true, decide_eq_true_eq] using hk
    obtain ⟨b, rfl⟩ : ∃ b : Nat, n = b := ⟨n.toNat, by omega⟩
    have hb32 : b < 32 := by omega
    simp only [flagsText, hk, if_true, Int.toNat_natCast] at hr
    simp only [hk, go_sem]
    repeat' ((first | apply qa | apply qb | apply qc | apply qd | apply qe | apply qf | apply qg | apply qh | apply qi | apply qj | apply qk) <;> intro hp <;> simp only [hp, hk, go_sem])
    refine loop_go (fun i : Nat => [(3, .str (Lib.join (flagSel b i) [32])), (5, .int .i64 ((2 ^ i : Nat) : Int)), (6, .int .i64 (i : Int))]) (fun _ => []) (fun i => 5 - i) (fun i => i ≤ 5) 0 (Nat.zero_le _) rfl rfl ?_
    intro i hi ih
    have hfl : flagNames.length = 5 := rfl
    have hsl := (flag_sel_len ⟨b, hb32⟩ ⟨i, by omega⟩).2
    simp only at hsl
    rcases Nat.lt_or_ge i 5 with h | h
    · have g1 : (i : Int) < (flagNames.length : Int) := by rw [hfl]; omega
      have g2 : (0 : Int) ≤ i := by omega
      have g3 := flag_names ⟨i, h⟩
      have g4 := flag_spec ⟨b, hb32⟩ ⟨i, h⟩
      have gj := flag_sel_join ⟨b, hb32⟩ ⟨i, h⟩
      simp only at g3 g4 gj
      have gn : (flagNames.getD i []).length ≤ 8 := by
        have : ∀ i : Fin 5, (flagNames.getD i.val []).length ≤ 8 := by decide +kernel
        exact this ⟨i, h⟩
      have g5 := wrap_succ h (by omega)
      have g6 : ¬ ((2 ^ i : Nat) : Int) = 0 := by
        have : 0 < 2 ^ i := Nat.pow_pos (by decide)
        omega
      have g7 : IntKind.i64.wrap (2 * ((2 ^ i : Nat) : Int)) = ((2 ^ (i + 1) : Nat) : Int) := by
        have : ∀ i : Fin 5, IntKind.i64.wrap (2 * ((2 ^ i.val : Nat) : Int)) = ((2 ^ (i.val + 1) : Nat) : Int) := by decide +kernel
        exact this ⟨i, h⟩
      have ih' := ih (i + 1) h (by omega)
      simp only [flagSel] at ih'
      generalize hJ : Lib.join (flagSel b i) [32] = J at *
      generalize hN : flagNames.getD i [] = N at *
      have b1 : J.length ≤ 9223372036854775806 := by omega
      have b2 : J.length + 1 + N.length ≤ 9223372036854775807 := by omega
      have b3 : J.length + N.length ≤ 9223372036854775807 := by omega
      cases ht : b.testBit i with
      | true =>
        rw [ht] at g4
        simp only [ht, if_true, join_snoc, hJ] at ih'
        by_cases hE : flagSel b i = []
        · have hJ0 : J = [] := gj.2 hE
          rw [if_pos hE] at ih'
          subst hJ0
          have e0 : (([] : List UInt8) != []) = false := rfl
          simp only [g1, g2, g3, g4, g5, g6, g7, e0, b1, b2, b3, go_sem]
          repeat' ((first | apply qa | apply qb | apply qc | apply qd | apply qe | apply qf | apply qg | apply qh | apply qi | apply qj | apply qk) <;> intro hp <;> simp only [hp, g1, g2, g3, g4, g5, g6, g7, e0, b1, b2, b3, go_sem])
          all_goals first | exact ih' | (clear ih ih'; simp at *; omega)
        · have hJ0 : ¬ J = [] := fun e => hE (gj.1 e)
          rw [if_neg hE] at ih'
          simp only [List.cons_append, List.nil_append] at ih'
          have e0 : (J != []) = true := by simpa using hJ0
          simp only [g1, g2, g3, g4, g5, g6, g7, e0, b1, b2, b3, List.length_append, List.append_assoc, go_sem]
          repeat' ((first | apply qa | apply qb | apply qc | apply qd | apply qe | apply qf | apply qg | apply qh | apply qi | apply qj | apply qk) <;> intro hp <;> simp only [hp, g1, g2, g3, g4, g5, g6, g7, e0, b1, b2, b3, List.length_append, List.append_assoc, go_sem])
          all_goals first | exact ih' | (clear ih ih'; omega)
      | false =>
        rw [ht] at g4
        simp only [ht, Bool.false_eq_true, if_false, List.append_nil, hJ] at ih'
        simp only [g1, g2, g3, g4, g5, g6, g7, go_sem]
        repeat' ((first | apply qa | apply qb | apply qc | apply qd | apply qe | apply qf | apply qg | apply qh | apply qi | apply qj | apply qk) <;> intro hp <;> simp only [hp, g1, g2, g3, g4, g5, g6, g7, go_sem])
        exact ih'
    · have hi5 : i = 5 := by omega
      subst hi5
      have g1 : ¬ ((5 : Nat) : Int) < (flagNames.length : Int) := by rw [hfl]; omega
      have j3 : 1 + (Lib.join (flagSel b 5) [32]).length ≤ 9223372036854775807 := by omega
      have j4 : (Lib.join (flagSel b 5) [32]).length + 1 ≤ 9223372036854775806 := by omega
      have j5 : (Lib.join (flagSel b 5) [32]).length ≤ 9223372036854775805 := by omega
      simp only [g1, j3, j4, j5, go_sem]
      repeat' ((first | apply qa | apply qb | apply qc | apply qd | apply qe | apply qf | apply qg | apply qh | apply qi | apply qj | apply qk) <;> intro hp <;> simp only [hp, g1, j3, j4, j5, go_sem])
      simp only [fin_mk, finV, resL, resV1, resIn, endA, listIn, Option.some_or, Option.none_or, oneOrTup, go_sem]
      rw [← hr]
end Go.Proofs.YtnbkmmjnpbfhnaaGreatDoor.L

namespace Go.Proofs.YtnbkmmjnpbfhnaaGreatDoor.L
open Go Go.VM
set_option maxRecDepth 100000
set_option maxHeartbeats 1000000
set_option linter.unusedSimpArgs false
set_option linter.unusedVariables false
theorem canon_eq {m k : Int} : ∀ {A B : List Range}, Canon A m → Canon B k → (∀ n, hasR A n = hasR B n) → A = B
  | [], [], _, _, _ => rfl
  | [], b :: B, _, hB, h => by
    have h1 := h b.Lo
    have h2 := hB.1 b (by simp)
    have : hasR (b :: B) b.Lo = true := by rw [hasR, List.any_cons]; simp; omega
    rw [this] at h1
    simp [hasR] at h1
  | a :: A, [], hA, _, h => by
    have h1 := h a.Lo
    have h2 := hA.1 a (by simp)
    have : hasR (a :: A) a.Lo = true := by rw [hasR, List.any_cons]; simp; omega
    rw [this] at h1
    simp [hasR] at h1
  | a :: A, b :: B, hA, hB, h => by
    have ma := hA.1 a (by simp)
    have mb := hB.1 b (by simp)
    have pa := (List.pairwise_cons.1 hA.2).1
    have pb := (List.pairwise_cons.1 hB.2).1
    have mem : ∀ (l : List Range) (n : Int), hasR l n = true ↔ ∃ r ∈ l, r.Lo ≤ n ∧ n ≤ r.Hi := by intro l n; simp [hasR]
    have lo1 : b.Lo ≤ a.Lo := by
      obtain ⟨r, hr, h1, h2⟩ := (mem _ _).1 ((h a.Lo).symm.trans ((mem (a :: A) a.Lo).2 ⟨a, by simp, by omega, by omega⟩))
      rcases List.mem_cons.1 hr with rfl | hr
      · exact h1
      · have := pb r hr; omega
    have lo2 : a.Lo ≤ b.Lo := by
      obtain ⟨r, hr, h1, h2⟩ := (mem _ _).1 ((h b.Lo).trans ((mem (b :: B) b.Lo).2 ⟨b, by simp, by omega, by omega⟩))
      rcases List.mem_cons.1 hr with rfl | hr
      · exact h1
      · have := pa r hr; omega
    have hi1 : b.Hi ≤ a.Hi := by
      rcases Int.lt_or_le a.Hi b.Hi with hlt | hge
      · obtain ⟨r, hr, h1, h2⟩ := (mem _ _).1 ((h (a.Hi + 1)).trans ((mem (b :: B) (a.Hi + 1)).2 ⟨b, by simp, by omega, by omega⟩))
        rcases List.mem_cons.1 hr with rfl | hr
        · omega
        · have := pa r hr; omega
      · exact hge
    have hi2 : a.Hi ≤ b.Hi := by
      rcases Int.lt_or_le b.Hi a.Hi with hlt | hge
      · obtain ⟨r, hr, h1, h2⟩ := (mem _ _).1 ((h (b.Hi + 1)).symm.trans ((mem (a :: A) (b.Hi + 1)).2 ⟨a, by simp, by omega, by omega⟩))
        rcases List.mem_cons.1 hr with rfl | hr
        · omega
        · have := pb r hr; omega
      · exact hge
    have e : a = b := by
      obtain ⟨x, y⟩ := a
      obtain ⟨z, w⟩ := b
      simp only at lo1 lo2 hi1 hi2
      rw [show x = z by omega, show y = w by omega]
    subst e
    congr 1
    refine canon_eq (m := m) (k := k) ⟨fun r hr => hA.1 r (by simp [hr]), (List.pairwise_cons.1 hA.2).2⟩ ⟨fun r hr => hB.1 r (by simp [hr]), (List.pairwise_cons.1 hB.2).2⟩ fun n => ?_
    have hn := h n
    rw [Bool.eq_iff_iff, mem, mem] at hn ⊢
    constructor
    · rintro ⟨r, hr, h1, h2⟩
      obtain ⟨s, hs, h3, h4⟩ := hn.1 ⟨r, by simp [hr], h1, h2⟩
      rcases List.mem_cons.1 hs with rfl | hs
      · have := pa r hr; omega
      · exact ⟨s, hs, h3, h4⟩
    · rintro ⟨r, hr, h1, h2⟩
      obtain ⟨s, hs, h3, h4⟩ := hn.2 ⟨r, by simp [hr], h1, h2⟩
      rcases List.mem_cons.1 hs with rfl | hs
      · have := pb r hr; omega
      · exact ⟨s, hs, h3, h4⟩
theorem canon_of_ok {S : List Range} (h : setOk S = true) : Canon S 9999 := by
  simp only [setOk, Bool.and_eq_true] at h
  have hr : ∀ i, (hi : i < S.length) → rangeAt S i = true := fun i hi => allN_get h.1 hi
  refine ⟨fun r hx => ?_, ?_⟩
  · obtain ⟨i, hi, rfl⟩ := List.mem_iff_getElem.1 hx
    exact rangeAt_hi hi (hr i hi)
  · have adj : ∀ i, (hi : i + 1 < S.length) → S[i].Hi + 1 < S[i + 1].Lo := by
      intro i hi
      have := hr (i + 1) hi
      simp only [rangeAt, Bool.and_eq_true, Bool.or_eq_true, decide_eq_true_eq, Nat.add_sub_cancel, getD_lt hi, getD_lt (show i < S.length by omega), beq_iff_eq] at this
      rcases this.2 with h0 | h0
      · omega
      · exact h0
    have wf : ∀ i, (hi : i < S.length) → S[i].Lo ≤ S[i].Hi := fun i hi => (rangeAt_hi hi (hr i hi)).2.1
    rw [List.pairwise_iff_getElem]
    intro i j hi hj hij
    induction j with
    | zero => omega
    | succ j ih =>
      rcases Nat.lt_or_ge i j with h1 | h1
      · have a1 := ih (by omega) h1
        have a2 := adj j hj
        have a3 := wf j (by omega)
        omega
      · have : i = j := by omega
        subst this
        exact adj i hj
theorem setR_same {S : List Range} (h : setOk S = true) : setR S = S := by
  have hc := canon_of_ok h
  have ha : Asc ((nums 9999).filter fun n => hasR S n) 9999 := (nums_asc 9999).filter _
  refine canon_eq (scan_canon _ _ ha) hc fun n => ?_
  show hasR (scan _) n = _
  rw [hasR_scan _ _ _ ha, Bool.eq_iff_iff, decide_eq_true_eq, List.mem_filter, nums_mem]
  constructor
  · exact fun e => e.2
  · intro e
    refine ⟨?_, e⟩
    rw [hasR, List.any_eq_true] at e
    obtain ⟨r, hr, e⟩ := e
    simp only [Bool.and_eq_true, decide_eq_true_eq] at e
    have := hc.1 r hr
    omega
/-! ### numbers -/
theorem dec_read (n : Nat) : (Lib.decDigits n).all digB = true ∧ numV (Lib.decDigits n) = n := by
  induction n using Nat.strongRecOn with
  | ind n ih =>
    have key : ∀ k : Nat, k < 10 → digB (UInt8.ofNat (48 + k)) = true ∧ ((UInt8.ofNat (48 + k)).toNat : Int) = 48 + k := by
      intro k hk
      have e : (UInt8.ofNat (48 + k)).toNat = 48 + k := UInt8.toNat_ofNat_of_lt' (by show 48 + k < 256; omega)
      refine ⟨?_, by omega⟩
      simp only [digB, within, Bool.and_eq_true, decide_eq_true_eq, e]
      omega
    rw [Lib.decDigits]
    by_cases h : n < 10
    · rw [dif_pos h]
      obtain ⟨k1, k2⟩ := key n h
      refine ⟨by simp only [List.all_cons, List.all_nil, k1]; rfl, ?_⟩
      simp only [numV, List.foldl_cons, List.foldl_nil, stepV, k2]; omega
    · rw [dif_neg h]
      obtain ⟨i1, i2⟩ := ih (n / 10) (by omega)
      obtain ⟨k1, k2⟩ := key (n % 10) (by omega)
      refine ⟨by rw [List.all_append, i1]; simp only [List.all_cons, List.all_nil, k1]; rfl, ?_⟩
      rw [numV_snoc, i2, stepV, k2]; omega
theorem itoa_read {n : Int} (h : 0 ≤ n) : (Lib.itoa n).all digB = true ∧ numV (Lib.itoa n) = n := by
  rw [Lib.itoa, if_neg (by omega)]
  have := dec_read n.toNat
  exact ⟨this.1, by rw [this.2]; omega⟩
theorem itoa_ne {n : Int} (h : 0 ≤ n) : Lib.itoa n ≠ [] := by
  rw [Lib.itoa, if_neg (by omega)]
  intro e
  rw [Lib.decDigits] at e
  split at e <;> simp at e
theorem num_back {n : Int} (h1 : 1 ≤ n) (h2 : n ≤ 9999) (last : Int) : numB (Lib.itoa n) = true ∧ numN (Lib.itoa n) last = n := by
  obtain ⟨a1, a2⟩ := itoa_read (n := n) (by omega)
  have a3 := itoa4 (n := n) (by omega) h2
  have a4 := itoa_ne (n := n) (by omega)
  have a5 : Lib.itoa n ≠ [42] := by
    intro e; rw [e] at a1; revert a1; decide
  have a6 : within (Lib.itoa n).length 1 4 = true := by
    have := List.length_pos_iff.2 a4
    simp only [within, Bool.and_eq_true, decide_eq_true_eq]; omega
  refine ⟨?_, ?_⟩
  · rw [numB, if_neg a5, a6, a1, a2]; simp; omega
  · rw [numN, if_neg a5, a6, a1, if_pos (by rfl), a2]
theorem dig_no {s : List UInt8} (h : s.all digB = true) (c : UInt8) (hc : digB c = false) : ∀ x ∈ s, notB c x = true := by
  intro x hx
  have := List.all_eq_true.1 h x hx
  rw [notB, bne_iff_ne]
  rintro rfl
  rw [this] at hc; cases hc
theorem part_back {r : Range} (h1 : 1 ≤ r.Lo) (h2 : r.Lo ≤ r.Hi) (h3 : r.Hi ≤ 9999) (last : Int) : partB (partOf r) = true ∧ partLo (partOf r) last = r.Lo ∧ partHi (partOf r) last = r.Hi := by
  obtain ⟨a1, a2⟩ := num_back h1 (by omega) last
  obtain ⟨b1, b2⟩ := num_back (n := r.Hi) (by omega) h3 last
  have d1 := dig_no (itoa_read (n := r.Lo) (by omega)).1 58 (by decide)
  have d2 := dig_no (itoa_read (n := r.Hi) (by omega)).1 58 (by decide)
  unfold partOf
  split
  · rename_i hlt
    have hm : (58 : UInt8) ∈ Lib.itoa r.Lo ++ 58 :: Lib.itoa r.Hi := by simp
    have hf : first (Lib.itoa r.Lo ++ 58 :: Lib.itoa r.Hi) = Lib.itoa r.Lo := by
      rw [first, List.takeWhile_append_of_pos d1]
      simp [notB]
    have hs : second (Lib.itoa r.Lo ++ 58 :: Lib.itoa r.Hi) = Lib.itoa r.Hi := by
      rw [second, hf]
      rw [show Lib.itoa r.Lo ++ 58 :: Lib.itoa r.Hi = (Lib.itoa r.Lo ++ [58]) ++ Lib.itoa r.Hi by simp]
      exact List.drop_left' (by simp)
    refine ⟨by rw [partB, if_pos hm, hf, hs, a1, b1]; rfl, ?_, ?_⟩
    · rw [partLo, if_pos hm, hf, hs, a2, b2]; omega
    · rw [partHi, if_pos hm, hf, hs, a2, b2]; omega
  · have hm : ¬ (58 : UInt8) ∈ Lib.itoa r.Lo := fun e => by have := d1 _ e; simp [notB] at this
    refine ⟨by rw [partB, if_neg hm, a1], ?_, ?_⟩
    · rw [partLo, if_neg hm, a2]
    · rw [partHi, if_neg hm, a2]; omega
theorem part_no {r : Range} (h1 : 1 ≤ r.Lo) (h2 : r.Lo ≤ r.Hi) : ∀ x ∈ partOf r, notB 44 x = true := by
  have d1 := dig_no (itoa_read (n := r.Lo) (by omega)).1 44 (by decide)
  have d2 := dig_no (itoa_read (n := r.Hi) (by omega)).1 44 (by decide)
  intro x hx
  unfold partOf at hx
  split at hx
  · rcases List.mem_append.1 hx with hx | hx
    · exact d1 x hx
    · rcases List.mem_cons.1 hx with rfl | hx
      · decide
      · exact d2 x hx
  · exact d1 x hx
theorem join_split : ∀ {S : List Range}, S ≠ [] → (∀ r ∈ S, 1 ≤ r.Lo ∧ r.Lo ≤ r.Hi) → splitOn 44 (Lib.join (S.map partOf) [44]) = S.map partOf
  | [], h, _ => absurd rfl h
  | [r], _, hs => by
    obtain ⟨h1, h2⟩ := hs r (by simp)
    simp only [List.map_cons, List.map_nil, Lib.join_cons, Lib.joinTail, List.flatten_nil, List.append_nil]
    exact splitOn_none (part_no h1 h2)
  | r :: q :: S, _, hs => by
    obtain ⟨h1, h2⟩ := hs r (by simp)
    have ih := join_split (S := q :: S) (by simp) (fun x hx => hs x (by simp [hx]))
    have e : Lib.join ((r :: q :: S).map partOf) [44] = partOf r ++ 44 :: Lib.join ((q :: S).map partOf) [44] := by
      simp only [List.map_cons, Lib.join_cons, Lib.joinTail, List.map_map, List.flatten_cons, List.cons_append, List.nil_append]
    rw [e, splitOn_app _ (part_no h1 h2), ih]; rfl
theorem ranges_back (last : Int) : ∀ {S : List Range}, (∀ r ∈ S, 1 ≤ r.Lo ∧ r.Lo ≤ r.Hi ∧ r.Hi ≤ 9999) → rangesOf last (S.map partOf) = some S
  | [], _ => rfl
  | r :: S, hs => by
    obtain ⟨h1, h2, h3⟩ := hs r (by simp)
    obtain ⟨p1, p2, p3⟩ := part_back h1 h2 h3 last
    rw [List.map_cons, rangesOf, if_pos p1, ranges_back last (fun x hx => hs x (by simp [hx])), p2, p3]; rfl
theorem set_back {S : List Range} {last : Int} (h : setOk S = true) (hne : S ≠ []) (h0 : 1 ≤ last) (h9 : last ≤ 9999) : readOk (setText S) last = true ∧ readSet (setText S) last = S := by
  have hb : ∀ r ∈ S, 1 ≤ r.Lo ∧ r.Lo ≤ r.Hi ∧ r.Hi ≤ 9999 := (canon_of_ok h).1
  have e1 : splitOn 44 (setText S) = S.map partOf := by rw [setText, if_pos h]; exact join_split hne fun r hr => ⟨(hb r hr).1, (hb r hr).2.1⟩
  have e2 : rangesOf last (splitOn 44 (setText S)) = some S := by rw [e1]; exact ranges_back last hb
  have e3 := setR_same h
  have e4 := setOk_len h
  have hw : within last 1 9999 = true := by simp only [within, Bool.and_eq_true, decide_eq_true_eq]; omega
  have hk : readOk (setText S) last = true := by rw [readOk, e2, hw]; simp only [e3, Bool.true_and, decide_eq_true_eq]; exact e4
  exact ⟨hk, by rw [readSet, if_pos hk, e2]; exact e3⟩
theorem setText_ne {S : List Range} (h : setOk S = true) (hne : S ≠ []) : setText S ≠ [] := by
  intro e
  have := (set_back (last := 1) h hne (by omega) (by omega)).2
  rw [e] at this
  have h2 : readSet [] 1 = [] := by
    have : readOk [] 1 = false := by decide
    rw [readSet, this]; rfl
  rw [h2] at this
  exact hne this.symm
end Go.Proofs.YtnbkmmjnpbfhnaaGreatDoor.L

namespace Go.Proofs.YtnbkmmjnpbfhnaaGreatDoor.L
open Go Go.VM
set_option maxRecDepth 100000
set_option maxHeartbeats 4000000
set_option linter.unusedSimpArgs false
set_option linter.unusedVariables false
def decB (s : List UInt8) : Bool := s.all digB && (decide (numV s ≤ 1000000000) && Lib.itoa (numV s) == s)
def decN (s : List UInt8) : Int := if decB s = true then numV s else 0
theorem dec_len {s : List UInt8} (h : decB s = true) : s.length ≤ 10 := by
  simp only [decB, Bool.and_eq_true, decide_eq_true_eq, beq_iff_eq] at h
  have := numV_bound s h.1
  rw [← h.2.2]
  exact itoa10 this.1 h.2.1
theorem dec_back {n : Int} (h0 : 0 ≤ n) (h : n ≤ 1000000000) : decB (Lib.itoa n) = true ∧ decN (Lib.itoa n) = n := by
  obtain ⟨a1, a2⟩ := itoa_read h0
  have hb : decB (Lib.itoa n) = true := by
    rw [decB, a1, a2]; simp [h]
  exact ⟨hb, by rw [decN, if_pos hb, a2]⟩
open Classical in
noncomputable def spDecS : VM.Spec := { modes := [.rd], run := fun | [.int .i64 n] => if 0 ≤ n ∧ n ≤ 1000000000 then some (.str (Lib.itoa n), []) else none | _ => none, need := [] }
attribute [go_sem] spDecS
theorem spDecS_in {ins : List V} {r : V} {outs : List V} (h : spDecS.run ins = some (r, outs)) : ∃ (n : Int), ins = [.int .i64 n] ∧ (0 ≤ n ∧ n ≤ 1000000000) ∧ .str (Lib.itoa n) = r ∧ outs = [] := by
  unfold spDecS at h
  simp only at h
  split at h
  · rename_i n
    split at h
    case isFalse => cases h
    rename_i hc
    simp only [Option.some.injEq, Prod.mk.injEq] at h
    obtain ⟨h1, h2⟩ := h
    exact ⟨n, rfl, hc, h1, h2.symm⟩
  · cases h
def T_spec_Decimal_s : Hints := ⟨lk [], lk [(5, [0, 3, 4])], lk [(0, [0]), (1, [0, 7]), (2, [2]), (3, [0, 3]), (4, [0, 3, 4]), (5, [0, 3, 4, 11]), (6, [0, 3, 4, 5]), (7, [0, 3, 4, 5, 15]), (8, [0, 3, 4, 5]), (9, [0, 3, 4]), (10, [0, 3, 4]), (11, [4, 26]), (12, [2]), (13, [2])], lk []⟩
noncomputable def Phi_spec_Decimal_s : Tab := lk [(42, spFigure)]
attribute [go_sem] T_spec_Decimal_s Phi_spec_Decimal_s
theorem phi_spec_Decimal_s : ∀ f sp, Phi_spec_Decimal_s f = some sp → FnOk Tryz.prog f sp ∧ ∀ n ∈ sp.need, n ∈ ([] : List String) := phi_cons ok_spec_l01Figure (n0 rfl) (phi_nil)
theorem ok_spec_Decimal_s : FnOk Tryz.prog 21 spDecS := by
  refine fn_ok (Φ := Phi_spec_Decimal_s) (T := T_spec_Decimal_s) phi_spec_Decimal_s mixed Tryz.func21 rfl rfl rfl (by decide) ?_
  intro ins r outs hr hl
  clear hl
  have hs := spDecS_in hr
  clear hr
  obtain ⟨n, rfl, hc, hr, rfl⟩ := hs
  simp only [spDecS, Tryz.f21, Go.VM.initS]
  obtain ⟨h0, h1⟩ := hc
  obtain ⟨k, rfl⟩ : ∃ k : Nat, n = k := ⟨n.toNat, by omega⟩
  by_cases hz : k = 0
  · subst hz
    have e : (((0 : Nat) : Int) == 0) = true := rfl
    simp only [e, go_sem]
    repeat' ((first | apply qa | apply qb | apply qc | apply qd | apply qe | apply qf | apply qg | apply qh | apply qi | apply qj | apply qk) <;> intro hp <;> simp only [hp, e, go_sem])
    simp only [fin_mk, finV, resL, resV1, resIn, endA, listIn, Option.some_or, Option.none_or, oneOrTup, go_sem]
    rw [← hr]
    have h2 : Lib.itoa ((0 : Nat) : Int) = [48] := by
      rw [Lib.itoa, if_neg (by decide)]
      show Lib.decDigits 0 = _
      rw [Lib.decDigits]; rfl
    rw [h2]
  · have e : ((k : Int) == 0) = false := beq_eq_false_iff_ne.2 (by omega)
    have e2 : ¬ (k : Int) < 0 := by omega
    have hI : Lib.itoa (k : Int) = dig k := by rw [Lib.itoa, if_neg e2, dig, if_neg hz]; rfl
    rw [hI] at hr
    simp only [e, e2, go_sem]
    repeat' ((first | apply qa | apply qb | apply qc | apply qd | apply qe | apply qf | apply qg | apply qh | apply qi | apply qj | apply qk) <;> intro hp <;> simp only [hp, e, e2, go_sem])
    refine loop_go (fun p : List UInt8 × Nat => [(0, .int .i64 (p.2 : Int)), (4, .str p.1)]) (fun _ => []) (fun p => p.2) (fun p => dig p.2 ++ p.1 = dig k ∧ p.2 ≤ k) ([], k) ⟨by simp, Nat.le_refl _⟩ rfl rfl ?_
    rintro ⟨s, m⟩ ⟨he, hm⟩ ih
    simp only at he hm ih
    have hlen : s.length ≤ k := by
      have h2 := congrArg List.length he
      have h3 := dig_len k
      simp only [List.length_append] at h2; omega
    by_cases hm0 : m = 0
    · subst hm0
      have g1 : (((0 : Nat) : Int) != 0) = false := rfl
      simp only [g1, go_sem]
      repeat' ((first | apply qa | apply qb | apply qc | apply qd | apply qe | apply qf | apply qg | apply qh | apply qi | apply qj | apply qk) <;> intro hp <;> simp only [hp, g1, go_sem])
      simp only [fin_mk, finV, resL, resV1, resIn, endA, listIn, Option.some_or, Option.none_or, oneOrTup, go_sem]
      rw [← hr]
      rw [← he]; rfl
    · have g1 : ((m : Int) != 0) = true := by simp; omega
      have g2 : (m : Int).tmod 10 = ((m % 10 : Nat) : Int) := tmod_nat m 10
      have g3 : ¬ (((m % 10 : Nat) : Int)) < 0 := by omega
      have g4 : (0 : Int) ≤ ((m % 10 : Nat) : Int) := by omega
      have g5 : ((m % 10 : Nat) : Int) < 10 := by omega
      have g6 : (m : Int).tdiv 10 = ((m / 10 : Nat) : Int) := tdiv_nat m 10
      have g7 : IntKind.i64.wrap ((m / 10 : Nat) : Int) = ((m / 10 : Nat) : Int) := wrap64 (by omega) (by omega)
      have g8 : [V.int .u8 (48 + ((m % 10 : Nat) : Int))] = bytesV [UInt8.ofNat (48 + m % 10)] := by
        have h4 : (UInt8.ofNat (48 + m % 10)).toNat = 48 + m % 10 := UInt8.toNat_ofNat_of_lt' (by show 48 + m % 10 < 256; omega)
        rw [bytesV, List.map_cons, List.map_nil, h4]; rfl
      have g9 : 1 + s.length ≤ 9223372036854775807 := by omega
      have ih' := ih (UInt8.ofNat (48 + m % 10) :: s, m / 10) ⟨by rw [← he, dig_step hm0, List.append_assoc]; rfl, by omega⟩ (by simp only; omega)
      simp only at ih'
      simp only [g1, g2, g3, g4, g5, g6, g7, g8, g9, go_sem]
      repeat' ((first | apply qa | apply qb | apply qc | apply qd | apply qe | apply qf | apply qg | apply qh | apply qi | apply qj | apply qk) <;> intro hp <;> simp only [hp, g1, g2, g3, g4, g5, g6, g7, g8, g9, go_sem])
      exact ih'
open Classical in
noncomputable def spReadDec : VM.Spec := { modes := [.rd], run := fun | [.str s] => if s.length ≤ 4194304 then some (.tup [.int .i64 (decN s), .bool (decB s)], []) else none | _ => none, need := [] }
attribute [go_sem] spReadDec
theorem spReadDec_in {ins : List V} {r : V} {outs : List V} (h : spReadDec.run ins = some (r, outs)) : ∃ (s : (List UInt8)), ins = [.str s] ∧ (s.length ≤ 4194304) ∧ .tup [.int .i64 (decN s), .bool (decB s)] = r ∧ outs = [] := by
  unfold spReadDec at h
  simp only at h
  split at h
  · rename_i s
    split at h
    case isFalse => cases h
    rename_i hc
    simp only [Option.some.injEq, Prod.mk.injEq] at h
    obtain ⟨h1, h2⟩ := h
    exact ⟨s, rfl, hc, h1, h2.symm⟩
  · cases h
def T_spec_ReadDecimal : Hints := ⟨lk [], lk [(5, [0, 4, 5])], lk [(0, [0]), (1, [0, 8]), (2, [2, 3]), (3, [0, 4]), (4, [0, 4, 5]), (5, [0, 4, 5, 12]), (7, [0, 4, 5, 24]), (8, [2, 3]), (9, [0, 4, 5]), (6, [0, 4, 5]), (10, [4, 40]), (11, [2, 3]), (12, [2, 3])], lk []⟩
noncomputable def Phi_spec_ReadDecimal : Tab := lk [(21, spDecS)]
attribute [go_sem] T_spec_ReadDecimal Phi_spec_ReadDecimal
theorem phi_spec_ReadDecimal : ∀ f sp, Phi_spec_ReadDecimal f = some sp → FnOk Tryz.prog f sp ∧ ∀ n ∈ sp.need, n ∈ ([] : List String) := phi_cons ok_spec_Decimal_s (n0 rfl) (phi_nil)
theorem ok_spec_ReadDecimal : FnOk Tryz.prog 17 spReadDec := by
  refine fn_ok (Φ := Phi_spec_ReadDecimal) (T := T_spec_ReadDecimal) phi_spec_ReadDecimal mixed Tryz.func17 rfl rfl rfl (by decide) ?_
  intro ins r outs hr hl
  clear hl
  have hs := spReadDec_in hr
  clear hr
  obtain ⟨s, rfl, hc, hr, rfl⟩ := hs
  simp only [spReadDec, Tryz.f17, Go.VM.initS]
  have no : decB s = false → decN s = 0 := fun e => by rw [decN, e]; rfl
  by_cases h10 : (10 : Int) < s.length
  · have e1 : decB s = false := by
      cases hq : decB s with
      | false => rfl
      | true => have := dec_len hq; omega
    rw [e1, no e1] at hr
    simp only [h10, go_sem]
    repeat' ((first | apply qa | apply qb | apply qc | apply qd | apply qe | apply qf | apply qg | apply qh | apply qi | apply qj | apply qk) <;> intro hp <;> simp only [hp, h10, go_sem])
    simp only [fin_mk, finV, resL, resV1, resIn, endA, listIn, Option.some_or, Option.none_or, oneOrTup, go_sem]
    rw [← hr]
  simp only [h10, go_sem]
  repeat' ((first | apply qa | apply qb | apply qc | apply qd | apply qe | apply qf | apply qg | apply qh | apply qi | apply qj | apply qk) <;> intro hp <;> simp only [hp, h10, go_sem])
  refine loop_go (fun i : Nat => [(4, .int .i64 (numV (s.take i))), (5, .int .i64 (i : Int))]) (fun _ => []) (fun i => s.length - i) (fun i => i ≤ s.length ∧ (s.take i).all digB = true) 0 ⟨Nat.zero_le _, by simp⟩ rfl rfl ?_
  rintro i ⟨hi, ha⟩ ih
  have hb := numV_bound _ ha
  rcases Nat.lt_or_ge i s.length with h | h
  · have g1 : (i : Int) < s.length := by omega
    have g2 : (0 : Int) ≤ i := by omega
    have g3 : s[i]? = some s[i] := List.getElem?_eq_getElem h
    have g5 := wrap_succ h (by omega)
    have hp : (10 : Int) ^ (s.take i).length ≤ 10000000000 := by
      have : (s.take i).length ≤ 10 := by rw [List.length_take]; omega
      have h2 : (10 : Nat) ^ (s.take i).length ≤ 10 ^ 10 := Nat.pow_le_pow_right (by omega) this
      have h3 : (((10 : Nat) ^ (s.take i).length : Nat) : Int) ≤ ((10 ^ 10 : Nat) : Int) := by exact_mod_cast h2
      simpa using h3
    have hx := s[i].toNat_lt
    by_cases d1 : (s[i].toNat : Int) < 48
    · have e1 : decB s = false := by
        have : digB s[i] = false := by simp only [digB, within, Bool.and_eq_false_iff, decide_eq_false_iff_not]; omega
        have hs : s.all digB = false := by rw [List.all_eq_false]; exact ⟨_, List.getElem_mem h, by simp [this]⟩
        rw [decB, hs]; rfl
      rw [e1, no e1] at hr
      simp only [g1, g2, g3, g5, d1, go_sem]
      repeat' ((first | apply qa | apply qb | apply qc | apply qd | apply qe | apply qf | apply qg | apply qh | apply qi | apply qj | apply qk) <;> intro hp <;> simp only [hp, g1, g2, g3, g5, d1, go_sem])
      simp only [fin_mk, finV, resL, resV1, resIn, endA, listIn, Option.some_or, Option.none_or, oneOrTup, go_sem]
      rw [← hr]
    by_cases d2 : (57 : Int) < s[i].toNat
    · have e1 : decB s = false := by
        have : digB s[i] = false := by simp only [digB, within, Bool.and_eq_false_iff, decide_eq_false_iff_not]; omega
        have hs : s.all digB = false := by rw [List.all_eq_false]; exact ⟨_, List.getElem_mem h, by simp [this]⟩
        rw [decB, hs]; rfl
      rw [e1, no e1] at hr
      simp only [g1, g2, g3, g5, d1, d2, go_sem]
      repeat' ((first | apply qa | apply qb | apply qc | apply qd | apply qe | apply qf | apply qg | apply qh | apply qi | apply qj | apply qk) <;> intro hp <;> simp only [hp, g1, g2, g3, g5, d1, d2, go_sem])
      simp only [fin_mk, finV, resL, resV1, resIn, endA, listIn, Option.some_or, Option.none_or, oneOrTup, go_sem]
      rw [← hr]
    have hd : digB s[i] = true := by simp only [digB, within, Bool.and_eq_true, decide_eq_true_eq]; omega
    have hn : numV (s.take (i + 1)) = 10 * numV (s.take i) + s[i].toNat - 48 := by
      rw [take_succ' h, numV_snoc, stepV]; omega
    have w0 : IntKind.i64.wrap (s[i].toNat : Int) = s[i].toNat := wrap64 (by omega) (by omega)
    have w1 : IntKind.i64.wrap (10 * numV (s.take i)) = 10 * numV (s.take i) := wrap64 (by omega) (by omega)
    have w2 : IntKind.i64.wrap (10 * numV (s.take i) + s[i].toNat) = 10 * numV (s.take i) + s[i].toNat := wrap64 (by omega) (by omega)
    have w3 : IntKind.i64.wrap (10 * numV (s.take i) + s[i].toNat - 48) = 10 * numV (s.take i) + s[i].toNat - 48 := wrap64 (by omega) (by omega)
    have ih' := ih (i + 1) ⟨h, by rw [take_succ' h, List.all_append, ha]; simp only [List.all_cons, List.all_nil, hd]; rfl⟩ (by omega)
    simp only [hn] at ih'
    simp only [g1, g2, g3, g5, d1, d2, w0, w1, w2, w3, go_sem]
    repeat' ((first | apply qa | apply qb | apply qc | apply qd | apply qe | apply qf | apply qg | apply qh | apply qi | apply qj | apply qk) <;> intro hp <;> simp only [hp, g1, g2, g3, g5, d1, d2, w0, w1, w2, w3, go_sem])
    exact ih'
  · have g1 : ¬ (i : Int) < s.length := by omega
    rw [List.take_of_length_le h] at ha hb
    have ht : s.take i = s := List.take_of_length_le h
    rw [ht]
    by_cases h9 : (1000000000 : Int) < numV s
    · have e1 : decB s = false := by rw [decB, decide_eq_false (by omega)]; simp
      rw [e1, no e1] at hr
      simp only [g1, h9, go_sem]
      repeat' ((first | apply qa | apply qb | apply qc | apply qd | apply qe | apply qf | apply qg | apply qh | apply qi | apply qj | apply qk) <;> intro hp <;> simp only [hp, g1, h9, go_sem])
      simp only [fin_mk, finV, resL, resV1, resIn, endA, listIn, Option.some_or, Option.none_or, oneOrTup, go_sem]
      rw [← hr]
    have h91 : numV s ≤ 1000000000 := by omega
    cases h4 : (Lib.itoa (numV s) == s) with
    | false =>
      have e1 : decB s = false := by rw [decB, h4]; simp
      have h5 : (Lib.itoa (numV s) != s) = true := by rw [bne, h4]; rfl
      rw [e1, no e1] at hr
      simp only [g1, h9, h91, hb.1, h4, h5, go_sem]
      repeat' ((first | apply qa | apply qb | apply qc | apply qd | apply qe | apply qf | apply qg | apply qh | apply qi | apply qj | apply qk) <;> intro hp <;> simp only [hp, g1, h9, h91, hb.1, h4, h5, go_sem])
      simp only [fin_mk, finV, resL, resV1, resIn, endA, listIn, Option.some_or, Option.none_or, oneOrTup, go_sem]
      rw [← hr]
    | true =>
      have e1 : decB s = true := by rw [decB, ha, h4, decide_eq_true h91]; rfl
      have e2 : decN s = numV s := by rw [decN, e1]; rfl
      have h5 : (Lib.itoa (numV s) != s) = false := by rw [bne, h4]; rfl
      rw [e1, e2] at hr
      simp only [g1, h9, h91, hb.1, h4, h5, go_sem]
      repeat' ((first | apply qa | apply qb | apply qc | apply qd | apply qe | apply qf | apply qg | apply qh | apply qi | apply qj | apply qk) <;> intro hp <;> simp only [hp, g1, h9, h91, hb.1, h4, h5, go_sem])
      simp only [fin_mk, finV, resL, resV1, resIn, endA, listIn, Option.some_or, Option.none_or, oneOrTup, go_sem]
      rw [← hr]
end Go.Proofs.YtnbkmmjnpbfhnaaGreatDoor.L

namespace Go.Proofs.YtnbkmmjnpbfhnaaGreatDoor.L
open Go Go.VM
set_option maxRecDepth 100000
set_option maxHeartbeats 4000000
set_option linter.unusedSimpArgs false
set_option linter.unusedVariables false
def bitF : Nat → Nat → List UInt8 → Int
  | 0, _, _ => 0
  | f + 1, i, w => if (flagNames.getD i [] == w) = true then ((2 ^ i : Nat) : Int) else bitF f (i + 1) w
def bitN (w : List UInt8) : Int := bitF 5 0 w
theorem bitF_in : ∀ (f i : Nat) (w : List UInt8), f + i ≤ 5 → 0 ≤ bitF f i w ∧ bitF f i w ≤ 16
  | 0, _, _, _ => by simp [bitF]
  | f + 1, i, w, h => by
    rw [bitF]
    split
    · have h2 : 2 ^ i ≤ 2 ^ 4 := Nat.pow_le_pow_right (by omega) (by omega)
      generalize 2 ^ i = q at *
      omega
    · exact bitF_in f (i + 1) w (by omega)
theorem bitN_in (w : List UInt8) : 0 ≤ bitN w ∧ bitN w ≤ 16 := bitF_in 5 0 w (by omega)
open Classical in
noncomputable def spBit : VM.Spec := { modes := [.rd], run := fun | [.str w] => if w.length ≤ 4194304 then some (.int .i64 (bitN w), []) else none | _ => none, need := [] }
attribute [go_sem] spBit
theorem spBit_in {ins : List V} {r : V} {outs : List V} (h : spBit.run ins = some (r, outs)) : ∃ (w : (List UInt8)), ins = [.str w] ∧ (w.length ≤ 4194304) ∧ .int .i64 (bitN w) = r ∧ outs = [] := by
  unfold spBit at h
  simp only at h
  split at h
  · rename_i w
    split at h
    case isFalse => cases h
    rename_i hc
    simp only [Option.some.injEq, Prod.mk.injEq] at h
    obtain ⟨h1, h2⟩ := h
    exact ⟨w, rfl, hc, h1, h2.symm⟩
  · cases h
def T_spec_l06Bit : Hints := ⟨lk [], lk [(4, [0, 3, 4, 5])], lk [(0, [0]), (1, [0, 3]), (2, [0, 3, 4]), (3, [0, 3, 4, 5]), (4, [0, 3, 4, 5, 10]), (6, [0, 3, 4, 5, 18]), (7, [2]), (8, [0, 3, 4, 5]), (5, [0, 3, 4, 5]), (9, [2])], lk []⟩
noncomputable def Phi_spec_l06Bit : Tab := lk [(43, spFlagNames)]
attribute [go_sem] T_spec_l06Bit Phi_spec_l06Bit
theorem phi_spec_l06Bit : ∀ f sp, Phi_spec_l06Bit f = some sp → FnOk Tryz.prog f sp ∧ ∀ n ∈ sp.need, n ∈ ([] : List String) := phi_cons ok_spec_l06Names (n0 rfl) (phi_nil)
theorem ok_spec_l06Bit : FnOk Tryz.prog 39 spBit := by
  refine fn_ok (Φ := Phi_spec_l06Bit) (T := T_spec_l06Bit) phi_spec_l06Bit mixed Tryz.func39 rfl rfl rfl (by decide) ?_
  intro ins r outs hr hl
  clear hl
  have hs := spBit_in hr
  clear hr
  obtain ⟨w, rfl, hc, hr, rfl⟩ := hs
  simp only [spBit, Tryz.f39, Go.VM.initS]
  have p0 : ((1 : Int)) = ((2 ^ 0 : Nat) : Int) := rfl
  simp only [go_sem]
  repeat' ((first | apply qa | apply qb | apply qc | apply qd | apply qe | apply qf | apply qg | apply qh | apply qi | apply qj | apply qk) <;> intro hp <;> simp only [hp, go_sem])
  refine loop_go (fun i : Nat => [(4, .int .i64 ((2 ^ i : Nat) : Int)), (5, .int .i64 (i : Int))]) (fun _ => []) (fun i => 5 - i) (fun i => i ≤ 5 ∧ bitF (5 - i) i w = bitN w) 0 ⟨by omega, rfl⟩ rfl rfl ?_
  rintro i ⟨hi, he⟩ ih
  rcases Nat.lt_or_ge i 5 with h | h
  · have hfl : flagNames.length = 5 := rfl
    have g1 : (i : Int) < flagNames.length := by omega
    have g2 : (0 : Int) ≤ i := by omega
    have g3 : flagNames[i]? = some (flagNames.getD i []) := flag_names ⟨i, h⟩
    have g5 := wrap_succ h (by omega)
    have hp : 2 ^ i ≤ 2 ^ 4 := Nat.pow_le_pow_right (by omega) (by omega)
    have g6 : IntKind.i64.wrap (2 * ((2 ^ i : Nat) : Int)) = ((2 ^ (i + 1) : Nat) : Int) := by
      rw [Nat.pow_succ]
      generalize 2 ^ i = q at *
      rw [wrap64 (by omega) (by omega)]; omega
    rw [show 5 - i = (5 - (i + 1)) + 1 by omega, bitF] at he
    generalize flagNames.getD i [] = nm at *
    generalize flagNames = NM at *
    cases hq : (nm == w) with
    | true =>
      rw [if_pos hq] at he
      rw [← he] at hr
      simp only [g1, g2, g3, g5, hq, go_sem]
      repeat' ((first | apply qa | apply qb | apply qc | apply qd | apply qe | apply qf | apply qg | apply qh | apply qi | apply qj | apply qk) <;> intro hp <;> simp only [hp, g1, g2, g3, g5, hq, go_sem])
      simp only [fin_mk, finV, resL, resV1, resIn, endA, listIn, Option.some_or, Option.none_or, oneOrTup, go_sem]
      rw [← hr]
    | false =>
      rw [if_neg (by rw [hq]; simp)] at he
      simp only [g1, g2, g3, g5, g6, hq, go_sem]
      repeat' ((first | apply qa | apply qb | apply qc | apply qd | apply qe | apply qf | apply qg | apply qh | apply qi | apply qj | apply qk) <;> intro hp <;> simp only [hp, g1, g2, g3, g5, g6, hq, go_sem])
      exact ih (i + 1) ⟨h, he⟩ (by omega)
  · have h5 : i = 5 := by omega
    subst h5
    have g1 : ¬ ((5 : Nat) : Int) < flagNames.length := by decide
    have he' : (0 : Int) = bitN w := he
    rw [← he'] at hr
    generalize flagNames = NM at *
    simp only [g1, go_sem]
    repeat' ((first | apply qa | apply qb | apply qc | apply qd | apply qe | apply qf | apply qg | apply qh | apply qi | apply qj | apply qk) <;> intro hp <;> simp only [hp, g1, go_sem])
    simp only [fin_mk, finV, resL, resV1, resIn, endA, listIn, Option.some_or, Option.none_or, oneOrTup, go_sem]
    rw [← hr]
def unB (w : List UInt8) : Bool := (decide ((2 : Int) < (w.length : Int)) && (w.take 2 == [117, 110])) && decide (0 < bitN (w.drop 2))
def keyOne (w : List UInt8) : Option Key :=
  if (w == [97, 108, 108]) = true then some ⟨1, 0, []⟩ else
  if 0 < bitN w then some ⟨2, bitN w, []⟩ else
  if unB w = true then some ⟨3, bitN (w.drop 2), []⟩ else none
def keyTwo (w m : List UInt8) : Option Key :=
  if (w == [115, 117, 98, 106, 101, 99, 116]) = true then (if within m.length 1 20 = true then some ⟨4, 0, m⟩ else none) else
  if (w == [116, 101, 120, 116]) = true then (if within m.length 1 20 = true then some ⟨5, 0, m⟩ else none) else
  if (w == [117, 105, 100]) = true then (if readOk m 9999 = true then some ⟨6, 0, m⟩ else none) else
  if (w == [109, 111, 100, 115, 101, 113]) = true then (if decB m = true ∧ decN m ≤ 100000 then some ⟨7, decN m, []⟩ else none) else none
def keysL : List (List UInt8) → List Key → Option (List Key)
  | [], out => some out
  | [w], out => match keyOne w with
    | some k => if out.length < 6 then some (out ++ [k]) else none
    | none => none
  | w :: m :: ws, out => match keyOne w with
    | some k => if out.length < 6 then keysL (m :: ws) (out ++ [k]) else none
    | none => match keyTwo w m with
      | some k => if out.length < 6 then keysL ws (out ++ [k]) else none
      | none => none
theorem keysL_len : ∀ (ws : List (List UInt8)) (out ks : List Key), out.length ≤ 6 → keysL ws out = some ks → ks.length ≤ 6
  | [], out, ks, h, e => by simp only [keysL, Option.some.injEq] at e; rw [← e]; exact h
  | [w], out, ks, h, e => by
    simp only [keysL] at e
    split at e
    · split at e
      · cases e; simp; omega
      · cases e
    · cases e
  | w :: m :: ws, out, ks, h, e => by
    simp only [keysL] at e
    split at e
    · split at e
      · exact keysL_len (m :: ws) _ ks (by simp; omega) e
      · cases e
    · split at e
      · split at e
        · exact keysL_len ws _ ks (by simp; omega) e
        · cases e
      · cases e
def keyFits (n : Nat) (k : Key) : Prop := k.Text.length ≤ n
theorem keyOne_fits {w : List UInt8} {k : Key} {n : Nat} (h : keyOne w = some k) : keyFits n k := by
  unfold keyOne at h
  repeat' split at h
  all_goals first | (cases h; simp [keyFits]) | cases h
theorem keyTwo_fits {w m : List UInt8} {k : Key} {n : Nat} (hm : m.length ≤ n) (h : keyTwo w m = some k) : keyFits n k := by
  unfold keyTwo at h
  repeat' split at h
  all_goals first | (cases h; simp only [keyFits, List.length_nil]; omega) | cases h
theorem keysL_fits {n : Nat} : ∀ (ws : List (List UInt8)) (out ks : List Key), (∀ w ∈ ws, w.length ≤ n) → (∀ k ∈ out, keyFits n k) → keysL ws out = some ks → ∀ k ∈ ks, keyFits n k
  | [], out, ks, _, h, e => by simp only [keysL, Option.some.injEq] at e; rw [← e]; exact h
  | [w], out, ks, hw, h, e => by
    simp only [keysL] at e
    split at e
    · rename_i k hk
      split at e
      · cases e
        intro x hx
        rcases List.mem_append.1 hx with hx | hx
        · exact h x hx
        · simp only [List.mem_singleton] at hx; subst hx; exact keyOne_fits hk
      · cases e
    · cases e
  | w :: m :: ws, out, ks, hw, h, e => by
    simp only [keysL] at e
    have snoc : ∀ k, keyFits n k → ∀ x ∈ out ++ [k], keyFits n x := fun k hk x hx => by
      rcases List.mem_append.1 hx with hx | hx
      · exact h x hx
      · simp only [List.mem_singleton] at hx; subst hx; exact hk
    split at e
    · rename_i k hk
      split at e
      · exact keysL_fits (m :: ws) _ ks (fun x hx => hw x (by simp only [List.mem_cons] at hx ⊢; exact .inr hx)) (snoc k (keyOne_fits hk)) e
      · cases e
    · split at e
      · rename_i k hk
        split at e
        · exact keysL_fits ws _ ks (fun x hx => hw x (by simp [hx])) (snoc k (keyTwo_fits (hw m (by simp)) hk)) e
        · cases e
      · cases e
def readKeys (ws : List (List UInt8)) : List Key × Bool := match keysL ws [] with
  | some ks => (ks, decide (0 < ks.length))
  | none => ([], false)
theorem readKeys_in {ws : List (List UInt8)} {n : Nat} (h : ∀ w ∈ ws, w.length ≤ n) : (readKeys ws).1.length ≤ 6 ∧ ∀ k ∈ (readKeys ws).1, keyFits n k := by
  unfold readKeys
  cases hk : keysL ws [] with
  | none => simp
  | some ks => exact ⟨keysL_len ws [] ks (by simp) hk, keysL_fits ws [] ks h (by simp) hk⟩
theorem keysL_one {w : List UInt8} {ws : List (List UInt8)} {out : List Key} {k : Key} (h : keyOne w = some k) (h6 : out.length < 6) : keysL (w :: ws) out = keysL ws (out ++ [k]) := by
  cases ws with
  | nil => simp only [keysL, h, if_pos h6]
  | cons m ws => simp only [keysL, h, if_pos h6]
theorem keysL_full {w : List UInt8} {ws : List (List UInt8)} {out : List Key} {k : Key} (h : keyOne w = some k) (h6 : ¬ out.length < 6) : keysL (w :: ws) out = none := by
  cases ws with
  | nil => simp only [keysL, h, if_neg h6]
  | cons m ws => simp only [keysL, h, if_neg h6]
theorem keysL_two {w m : List UInt8} {ws : List (List UInt8)} {out : List Key} {k : Key} (h : keyOne w = none) (h2 : keyTwo w m = some k) (h6 : out.length < 6) : keysL (w :: m :: ws) out = keysL ws (out ++ [k]) := by
  simp only [keysL, h, h2, if_pos h6]
theorem keysL_two_full {w m : List UInt8} {ws : List (List UInt8)} {out : List Key} (h : keyOne w = none) (h2 : keyTwo w m = none ∨ ¬ out.length < 6) : keysL (w :: m :: ws) out = none := by
  simp only [keysL, h]
  cases hk : keyTwo w m with
  | none => rfl
  | some k =>
    rcases h2 with h2 | h2
    · rw [hk] at h2; cases h2
    · simp only [if_neg h2]
theorem keysL_end {w : List UInt8} {out : List Key} (h : keyOne w = none) : keysL [w] out = none := by
  simp only [keysL, h]
open Classical in
noncomputable def spReadKeys : VM.Spec := { modes := [.rd], run := fun | [.lst 1 ws'] => (decL dStr ws').bind fun ws => if ws.length ≤ 4194304 ∧ ∀ w ∈ ws, w.length ≤ 4194304 then some (.tup [.lst 3 (((readKeys ws).1).map Key.enc), .bool ((readKeys ws).2)], []) else none | _ => none, need := ["internal/bytealg.MaxLen"] }
attribute [go_sem] spReadKeys
theorem spReadKeys_in {ins : List V} {r : V} {outs : List V} (h : spReadKeys.run ins = some (r, outs)) : ∃ (ws : (List (List UInt8))), ins = [.lst 1 ((ws).map eStr)] ∧ (ws.length ≤ 4194304 ∧ ∀ w ∈ ws, w.length ≤ 4194304) ∧ .tup [.lst 3 (((readKeys ws).1).map Key.enc), .bool ((readKeys ws).2)] = r ∧ outs = [] := by
  unfold spReadKeys at h
  simp only at h
  split at h
  · rename_i ws'
    simp only [Option.bind_eq_some_iff] at h
    obtain ⟨ws, h_ws, h⟩ := h
    split at h
    case isFalse => cases h
    rename_i hc
    simp only [Option.some.injEq, Prod.mk.injEq] at h
    obtain ⟨h1, h2⟩ := h
    have h_ws := decL_some (fun _ _ h => dStr_some h) h_ws
    subst h_ws
    exact ⟨ws, rfl, hc, h1, h2.symm⟩
  · cases h
end Go.Proofs.YtnbkmmjnpbfhnaaGreatDoor.L

namespace Go.Proofs.YtnbkmmjnpbfhnaaGreatDoor.L
open Go Go.VM
set_option maxRecDepth 100000
set_option maxHeartbeats 4000000
set_option linter.unusedSimpArgs false
set_option linter.unusedVariables false
theorem parse_digits : ∀ (s : List UInt8) (acc : Nat), s.all digB = true → (acc + 1) * 10 ^ s.length ≤ 100000000000 → Lib.parseUint10 acc s = .ok (acc * 10 ^ s.length + (numV s).toNat)
  | [], acc, _, _ => by simp [Lib.parseUint10, numV]
  | c :: r, acc, hd, hb => by
    rw [List.all_cons, Bool.and_eq_true] at hd
    have hc := digB_iff hd.1
    rw [List.length_cons, Nat.pow_succ] at hb
    have h1 : (acc * 10 + (c.toNat - 48) + 1) * 10 ^ r.length ≤ 100000000000 := by
      refine Nat.le_trans (Nat.mul_le_mul_right _ (show acc * 10 + (c.toNat - 48) + 1 ≤ (acc + 1) * 10 by omega)) ?_
      rw [Nat.mul_assoc, Nat.mul_comm 10]; exact hb
    have hp : 1 ≤ 10 ^ r.length := Nat.one_le_pow _ _ (by omega)
    have h2 : acc * 10 + (c.toNat - 48) + 1 ≤ 100000000000 := Nat.le_trans (Nat.le_mul_of_pos_right _ hp) h1
    rw [Lib.parseUint10, if_pos (by omega), if_neg (by omega), if_neg (by omega), parse_digits r _ hd.2 h1]
    congr 1
    have key : ∀ (l : List UInt8) (n : Int), l.foldl stepV n = n * 10 ^ l.length + l.foldl stepV 0 := by
      intro l
      induction l with
      | nil => intro n; simp
      | cons x l ih =>
        intro n
        rw [List.foldl_cons, List.foldl_cons, ih (stepV n x), ih (stepV 0 x), List.length_cons, Int.pow_succ]
        simp only [stepV]
        rw [Int.add_mul, Int.add_mul]
        have : 10 * n * 10 ^ l.length = n * (10 ^ l.length * 10) := by rw [Int.mul_comm 10 n, Int.mul_assoc, Int.mul_comm 10]
        omega
    have hv := numV_bound r hd.2
    have e : numV (c :: r) = ((c.toNat - 48 : Nat) : Int) * 10 ^ r.length + numV r := by
      rw [numV, List.foldl_cons, key]
      have : stepV 0 c = ((c.toNat - 48 : Nat) : Int) := by simp only [stepV]; omega
      rw [this]; rfl
    have e2 : (numV (c :: r)).toNat = (c.toNat - 48) * 10 ^ r.length + (numV r).toNat := by
      rw [e]
      have : (((c.toNat - 48 : Nat) : Int) * 10 ^ r.length) = (((c.toNat - 48) * 10 ^ r.length : Nat) : Int) := by push_cast; rfl
      rw [this]; omega
    rw [e2, List.length_cons, Nat.pow_succ, Nat.add_mul]
    have : acc * 10 * 10 ^ r.length = acc * (10 ^ r.length * 10) := by rw [Nat.mul_assoc, Nat.mul_comm 10]
    omega
def atoiV (s : List UInt8) : Int := match Lib.atoiAll s with | .ok v => v | .syntax => 0 | .range => Lib.atoiSat s
def atoiBad (s : List UInt8) : Bool := match Lib.atoiAll s with | .ok _ => false | _ => true
theorem atoi_digits {s : List UInt8} (h : s.all digB = true) (hl : s.length ≤ 10) (hne : s ≠ []) : Lib.atoiAll s = .ok (numV s) := by
  cases s with
  | nil => exact absurd rfl hne
  | cons c r =>
    have hc := digB_iff (List.all_eq_true.1 h c (by simp))
    have h1 : ¬ (c.toNat = 43 ∨ c.toNat = 45) := by omega
    have h2 : ¬ c.toNat = 45 := by omega
    have hv := numV_bound (c :: r) h
    have hp : (10 : Nat) ^ (c :: r).length ≤ 10 ^ 10 := Nat.pow_le_pow_right (by omega) hl
    have hq := parse_digits (c :: r) 0 h (by omega)
    have hlt : numV (c :: r) < 10 ^ 10 := by
      have h6 : ((10 : Int) ^ (c :: r).length) = (((10 : Nat) ^ (c :: r).length : Nat) : Int) := by push_cast; rfl
      have h7 := hv.2
      rw [h6] at h7
      generalize (10 : Nat) ^ (c :: r).length = q at *
      omega
    unfold Lib.atoiAll
    simp only [h1, if_false, Lib.parseMag, reduceCtorEq, hq]
    rw [Nat.zero_mul, Nat.zero_add, if_neg (by omega), if_neg (by omega)]
    simp only [h2, if_false]
    congr 1; omega
theorem dec_atoi (s : List UInt8) : (!atoiBad s && (decide (0 ≤ atoiV s) && decide (atoiV s ≤ 1000000000)) && (Lib.itoa (atoiV s) == s)) = decB s ∧ (decB s = true → atoiV s = numV s ∧ atoiBad s = false) := by
  have fwd : decB s = true → Lib.atoiAll s = .ok (numV s) := by
    intro h
    have hl := dec_len h
    simp only [decB, Bool.and_eq_true, decide_eq_true_eq, beq_iff_eq] at h
    refine atoi_digits h.1 hl ?_
    intro e
    have := h.2.2
    rw [e] at this
    exact itoa_ne (Int.le_refl 0) this
  have fwd2 : decB s = true → atoiV s = numV s ∧ atoiBad s = false := by
    intro h
    have := fwd h
    constructor
    · unfold atoiV; rw [this]
    · unfold atoiBad; rw [this]
  refine ⟨?_, fwd2⟩
  rw [Bool.eq_iff_iff]
  constructor
  · intro h
    simp only [Bool.and_eq_true, decide_eq_true_eq, beq_iff_eq] at h
    obtain ⟨⟨_, h1, h2⟩, h3⟩ := h
    obtain ⟨a1, a2⟩ := itoa_read h1
    rw [h3] at a1 a2
    rw [decB, a1, a2, h3]
    simp [h2]
  · intro h
    obtain ⟨e1, e2⟩ := fwd2 h
    have hb := h
    simp only [decB, Bool.and_eq_true, decide_eq_true_eq, beq_iff_eq] at h
    have := (numV_bound s h.1).1
    rw [e1, e2, h.2.2]
    simp [this, h.2.1]
open Classical in
noncomputable def spAtoi : VM.Spec := { modes := [.rd], run := fun | [.str s] => if s.length ≤ 4194304 then some (.tup [.int .i64 (atoiV s), .err (atoiBad s)], []) else none | _ => none, need := ["strconv.ErrSyntax", "strconv.ErrRange"] }
attribute [go_sem] spAtoi
theorem spAtoi_in {ins : List V} {r : V} {outs : List V} (h : spAtoi.run ins = some (r, outs)) : ∃ (s : (List UInt8)), ins = [.str s] ∧ (s.length ≤ 4194304) ∧ .tup [.int .i64 (atoiV s), .err (atoiBad s)] = r ∧ outs = [] := by
  unfold spAtoi at h
  simp only at h
  split at h
  · rename_i s
    split at h
    case isFalse => cases h
    rename_i hc
    simp only [Option.some.injEq, Prod.mk.injEq] at h
    obtain ⟨h1, h2⟩ := h
    exact ⟨s, rfl, hc, h1, h2.symm⟩
  · cases h
theorem ow_two {w : World} {a b : V} {c d : Value} (h1 : OW w a c (fun _ => False)) (h2 : OW w b d (fun _ => False)) : ∃ N, OW w (.tup [a, b]) (.tuple #[c, d]) N ∧ ∀ k, ¬ N k :=
  ⟨_, .tup [a, b] #[c, d] (fun _ _ => False) rfl (fun i x y hx hy => by
    match i with
    | 0 => simp at hx hy; subst hx hy; exact h1
    | 1 => simp at hx hy; subst hx hy; exact h2
    | i + 2 => simp at hx) (fun _ _ _ _ _ h => h.elim), fun k ⟨_, _, h⟩ => h⟩
theorem ok_strconv_Atoi : FnOk Tryz.prog 45 spAtoi := by
  refine fnOk_of_calls (n := 1) Tryz.func45 rfl rfl rfl fun w S ins r outs cs hG hrun ht hS => ?_
  obtain ⟨s, rfl, hl, rfl, rfl⟩ := spAtoi_in hrun
  refine ⟨rfl, ?_⟩
  cases ht with
  | cons h1 t =>
    cases t
    cases h1 with
    | str b _ hb =>
      subst hb
      have hsz : b.size = b.data.toList.length := by rw [Array.length_toList]; rfl
      cases ha : Lib.atoiAll b.data.toList with
      | ok v =>
        refine (Tryz.strconv_Atoi_ok b (by omega) v ha w).mono ?_
        rintro e w' ⟨rfl, hw⟩
        obtain ⟨N, ho, hN⟩ := ow_two (w := w') (.int .i64 v) .errN
        refine ⟨_, N, rfl, ?_, by simpa only [atoiV, atoiBad, ha] using ho, fun k hk => absurd hk (hN k)⟩
        rcases hw with rfl | ⟨t, rfl⟩
        · exact Fr.refl _ _
        · exact fr_of_below (Lib.bytesWorld_below w _ _)
      | «syntax» =>
        obtain ⟨tp, p, hv⟩ := hG.errS (by simp [spAtoi])
        refine (Tryz.strconv_Atoi_syntax_var b (by omega) ha tp p w hv).mono ?_
        rintro e w' ⟨M, rfl, _, _, hbl⟩
        obtain ⟨N, ho, hN⟩ := ow_two (w := w') (.int .i64 0) (.errS _ _)
        exact ⟨_, N, rfl, fr_of_below hbl, by simpa only [atoiV, atoiBad, ha] using ho, fun k hk => absurd hk (hN k)⟩
      | range =>
        obtain ⟨tp, p, hv⟩ := hG.errR (by simp [spAtoi])
        refine (Tryz.strconv_Atoi_range_var b (by omega) ha tp p w hv).mono ?_
        rintro e w' ⟨M, rfl, _, _, hbl⟩
        obtain ⟨N, ho, hN⟩ := ow_two (w := w') (.int .i64 (Lib.atoiSat b.data.toList)) (.errS _ _)
        exact ⟨_, N, rfl, fr_of_below hbl, by simpa only [atoiV, atoiBad, ha] using ho, fun k hk => absurd hk (hN k)⟩
open Classical in
noncomputable def spReadDecI : VM.Spec := { modes := [.rd], run := fun | [.str s] => if s.length ≤ 4194304 then some (.tup [.int .i64 (decN s), .bool (decB s)], []) else none | _ => none, need := ["internal/strconv.uint64pow10", "strconv.ErrSyntax", "strconv.ErrRange"] }
attribute [go_sem] spReadDecI
theorem spReadDecI_in {ins : List V} {r : V} {outs : List V} (h : spReadDecI.run ins = some (r, outs)) : ∃ (s : (List UInt8)), ins = [.str s] ∧ (s.length ≤ 4194304) ∧ .tup [.int .i64 (decN s), .bool (decB s)] = r ∧ outs = [] := by
  unfold spReadDecI at h
  simp only at h
  split at h
  · rename_i s
    split at h
    case isFalse => cases h
    rename_i hc
    simp only [Option.some.injEq, Prod.mk.injEq] at h
    obtain ⟨h1, h2⟩ := h
    exact ⟨s, rfl, hc, h1, h2.symm⟩
  · cases h
def T_impl_ReadDecimal : Hints := ⟨lk [], lk [], lk [(0, [0]), (1, [0, 4, 5]), (2, [4, 23]), (3, [2, 3]), (4, [2, 3])], lk []⟩
noncomputable def Phi_impl_ReadDecimal : Tab := lk [(45, spAtoi), (46, spWithin), (31, spDecimal)]
attribute [go_sem] T_impl_ReadDecimal Phi_impl_ReadDecimal
theorem phi_impl_ReadDecimal : ∀ f sp, Phi_impl_ReadDecimal f = some sp → FnOk Tryz.prog f sp ∧ ∀ n ∈ sp.need, n ∈ (["internal/strconv.uint64pow10", "strconv.ErrSyntax", "strconv.ErrRange"] : List String) := phi_cons ok_strconv_Atoi (fun n (h : n ∈ (["strconv.ErrSyntax", "strconv.ErrRange"] : List String)) => by simp only [List.mem_cons, List.not_mem_nil, or_false] at h; rcases h with rfl | rfl <;> simp) (phi_cons ok_impl_within (n0 rfl) (phi_cons ok_impl_Decimal (fun n (h : n ∈ (["internal/strconv.uint64pow10"] : List String)) => by simp only [List.mem_cons, List.not_mem_nil, or_false] at h; rcases h with rfl <;> simp) (phi_nil)))
theorem ok_impl_ReadDecimal : FnOk Tryz.prog 25 spReadDecI := by
  refine fn_ok (Φ := Phi_impl_ReadDecimal) (T := T_impl_ReadDecimal) phi_impl_ReadDecimal mixed Tryz.func25 rfl rfl rfl (by decide) ?_
  intro ins r outs hr hl
  clear hl
  have hs := spReadDecI_in hr
  clear hr
  obtain ⟨s, rfl, hc, hr, rfl⟩ := hs
  simp only [spReadDecI, Tryz.f25, Go.VM.initS]
  obtain ⟨ha, hb⟩ := dec_atoi s
  cases h1 : atoiBad s with
  | true =>
    have e1 : decB s = false := by rw [← ha, h1]; rfl
    have e2 : decN s = 0 := by rw [decN, e1]; rfl
    rw [e1, e2] at hr
    simp only [hc, h1, go_sem]
    repeat' ((first | apply qa | apply qb | apply qc | apply qd | apply qe | apply qf | apply qg | apply qh | apply qi | apply qj | apply qk) <;> intro hp <;> simp only [hp, hc, h1, go_sem])
    all_goals (simp only [fin_mk, finV, resL, resV1, resIn, endA, listIn, Option.some_or, Option.none_or, oneOrTup, go_sem]; rw [← hr])
  | false =>
    cases h2 : within (atoiV s) 0 1000000000 with
    | false =>
      have h2' : (decide (0 ≤ atoiV s) && decide (atoiV s ≤ 1000000000)) = false := h2
      have e1 : decB s = false := by rw [← ha, h1, h2']; rfl
      have e2 : decN s = 0 := by rw [decN, e1]; rfl
      rw [e1, e2] at hr
      simp only [hc, h1, h2, go_sem]
      repeat' ((first | apply qa | apply qb | apply qc | apply qd | apply qe | apply qf | apply qg | apply qh | apply qi | apply qj | apply qk) <;> intro hp <;> simp only [hp, hc, h1, h2, go_sem])
      all_goals (simp only [fin_mk, finV, resL, resV1, resIn, endA, listIn, Option.some_or, Option.none_or, oneOrTup, go_sem]; rw [← hr])
    | true =>
      have h2' : (decide (0 ≤ atoiV s) && decide (atoiV s ≤ 1000000000)) = true := h2
      have h3 := h2'
      simp only [Bool.and_eq_true, decide_eq_true_eq] at h3
      cases h4 : (Lib.itoa (atoiV s) == s) with
      | false =>
        have e1 : decB s = false := by rw [← ha, h1, h2', h4]; rfl
        have e2 : decN s = 0 := by rw [decN, e1]; rfl
        have h5 : (Lib.itoa (atoiV s) != s) = true := by rw [bne, h4]; rfl
        rw [e1, e2] at hr
        simp only [hc, h1, h2, h3.1, h3.2, h4, h5, go_sem]
        repeat' ((first | apply qa | apply qb | apply qc | apply qd | apply qe | apply qf | apply qg | apply qh | apply qi | apply qj | apply qk) <;> intro hp <;> simp only [hp, hc, h1, h2, h3.1, h3.2, h4, h5, go_sem])
        all_goals (simp only [fin_mk, finV, resL, resV1, resIn, endA, listIn, Option.some_or, Option.none_or, oneOrTup, go_sem]; rw [← hr])
      | true =>
        have e1 : decB s = true := by rw [← ha, h1, h2', h4]; rfl
        have e2 : decN s = atoiV s := by rw [decN, e1, if_pos rfl, (hb e1).1]
        have h5 : (Lib.itoa (atoiV s) != s) = false := by rw [bne, h4]; rfl
        rw [e1, e2] at hr
        simp only [hc, h1, h2, h3.1, h3.2, h4, h5, go_sem]
        repeat' ((first | apply qa | apply qb | apply qc | apply qd | apply qe | apply qf | apply qg | apply qh | apply qi | apply qj | apply qk) <;> intro hp <;> simp only [hp, hc, h1, h2, h3.1, h3.2, h4, h5, go_sem])
        all_goals (simp only [fin_mk, finV, resL, resV1, resIn, endA, listIn, Option.some_or, Option.none_or, oneOrTup, go_sem]; rw [← hr])
end Go.Proofs.YtnbkmmjnpbfhnaaGreatDoor.L

