/- Sums, frames, acts of the log. -/
import Derived.Test.YtimiccneikhkgaaGreatDoorVLT3
namespace Go.Proofs.YtimiccneikhkgaaGreatDoor.L
open Go Go.VM
set_option maxRecDepth 100000
set_option maxHeartbeats 4000000
set_option linter.unusedSimpArgs false
set_option linter.unusedVariables false
def xor32 (a b : Int) : Int := IntKind.u32.wrap ((BitVec.ofInt IntKind.u32.bits a ^^^ BitVec.ofInt IntKind.u32.bits b).toNat)
def half (x : Int) : Int := if (x.tmod 2 == 1) = true then xor32 (IntKind.u32.wrap (x.tdiv 2)) 3558460437 else IntKind.u32.wrap (x.tdiv 2)
def halves : Nat → Int → Int
  | 0, x => x
  | n + 1, x => halves n (half x)
def sumByte (x : Int) (b : UInt8) : Int := halves 8 (xor32 x (IntKind.u32.wrap b.toNat))
def sumMore (x : Int) (s : List UInt8) : Int := s.foldl sumByte x
theorem halves_half {x : Int} {n : Nat} : halves (n + 1) x = halves n (half x) := rfl
open Classical in
noncomputable def spSumMore : VM.Spec := { modes := [.rd, .rd], run := fun | [.int .u32 x, .str s] => if s.length ≤ 4194304 then some (.int .u32 (sumMore x s), []) else none | _ => none, need := [] }
attribute [go_sem] spSumMore
theorem spSumMore_in {ins : List V} {r : V} {outs : List V} (h : spSumMore.run ins = some (r, outs)) : ∃ (x : Int) (s : (List UInt8)), ins = [.int .u32 x, .str s] ∧ (s.length ≤ 4194304) ∧ .int .u32 (sumMore x s) = r ∧ outs = [] := by
  unfold spSumMore at h
  simp only at h
  split at h
  · rename_i x s
    split at h
    case isFalse => cases h
    rename_i hc
    simp only [Option.some.injEq, Prod.mk.injEq] at h
    obtain ⟨h1, h2⟩ := h
    exact ⟨x, s, rfl, hc, h1, h2.symm⟩
  · cases h
def T_impl_SumMore : Hints := ⟨fun _ => none, fun i => if i = 2 then some [0, 1, 5] else if i = 6 then some [0, 1, 5, 19] else none, fun i => if i = 0 then some [0, 1] else if i = 1 then some [0, 1, 5] else if i = 2 then some [0, 1, 5, 10] else if i = 4 then some [0, 1, 5] else if i = 5 then some [0, 1, 5, 19] else if i = 6 then some [0, 1, 5, 19, 20] else if i = 7 then some [0, 1, 5, 6, 19] else if i = 8 then some [0, 1, 5, 6, 19] else if i = 9 then some [0, 1, 5, 19, 26] else if i = 10 then some [0, 1, 5, 19] else if i = 11 then some [0, 1, 5, 19] else if i = 3 then some [0, 1, 5] else if i = 12 then some [4] else none, fun _ => none⟩
noncomputable def Phi_impl_SumMore : Tab := fun f => none
attribute [go_sem] T_impl_SumMore Phi_impl_SumMore
theorem phi_impl_SumMore : ∀ f sp, Phi_impl_SumMore f = some sp → FnOk Tryz.prog f sp ∧ ∀ n ∈ sp.need, n ∈ ([] : List String) := by
  intro f sp h
  unfold Phi_impl_SumMore at h
  cases h
theorem ok_impl_SumMore : FnOk Tryz.prog 215 spSumMore := by
  refine fn_ok (Φ := Phi_impl_SumMore) (T := T_impl_SumMore) phi_impl_SumMore mixed Tryz.func215 rfl rfl rfl (by decide) ?_
  intro ins r outs hr hl
  clear hl
  have hs := spSumMore_in hr
  clear hr
  obtain ⟨x, s, rfl, hc, hr, rfl⟩ := hs
  simp only [spSumMore, Tryz.f215, Go.VM.initS]
  simp only [go_sem]
  repeat' ((first | ((first | apply qa | apply qb | apply qc | apply qd | apply qe | apply qf | apply qg | apply qh | apply qi | apply qj | apply qk) <;> intro hp) | ((first | refine ql rfl rfl (by decide +kernel) ?_ | refine qm _ rfl rfl (by decide +kernel) ?_ | refine goes_opn rfl ?_ | refine goes_opnD rfl rfl (by decide +kernel) ?_) <;> have hp := True.intro)) <;> simp only [hp, go_sem])
  refine loop_go (fun p : Int × Nat => [(0, .int .u32 p.1), (5, .int .i64 (p.2 : Int))]) (fun _ => []) (fun p => s.length - p.2) (fun p => p.2 ≤ s.length ∧ sumMore p.1 (s.drop p.2) = sumMore x s) (x, 0) ⟨Nat.zero_le _, rfl⟩ rfl rfl ?_
  rintro ⟨y, i⟩ ⟨hi, he⟩ ih
  simp only at hi he ih
  rcases Nat.lt_or_ge i s.length with h | h
  · have g1 : (i : Int) < s.length := by omega
    have g2 : (0 : Int) ≤ i := by omega
    have g3 : s[i]? = some s[i] := List.getElem?_eq_getElem h
    have g5 := wrap_succ h (by omega)
    rw [List.drop_eq_getElem_cons h, sumMore, List.foldl_cons] at he
    have ih' := ih (sumByte y s[i], i + 1) ⟨h, he⟩ (by simp only; omega)
    clear ih
    simp only at ih'
    simp only [g1, g2, g3, go_sem]
    repeat' ((first | ((first | apply qa | apply qb | apply qc | apply qd | apply qe | apply qf | apply qg | apply qh | apply qi | apply qj | apply qk) <;> intro hp) | ((first | refine ql rfl rfl (by decide +kernel) ?_ | refine qm _ rfl rfl (by decide +kernel) ?_ | refine goes_opn rfl ?_ | refine goes_opnD rfl rfl (by decide +kernel) ?_) <;> have hp := True.intro)) <;> simp only [hp, g1, g2, g3, go_sem])
    refine loop_go (fun p : Int × Nat => [(0, .int .u32 p.1), (19, .int .i64 (p.2 : Int))]) (fun _ => []) (fun p => 8 - p.2) (fun p => p.2 ≤ 8 ∧ halves (8 - p.2) p.1 = sumByte y s[i]) (xor32 y (IntKind.u32.wrap s[i].toNat), 0) ⟨Nat.zero_le _, rfl⟩ rfl rfl ?_
    rintro ⟨z, k⟩ ⟨hk, hz⟩ ihk
    simp only at hk hz ihk
    rcases Nat.lt_or_ge k 8 with h8 | h8
    · have k1 : (k : Int) < 8 := by omega
      have k5 := wrap_succ h8 (by omega)
      rw [show 8 - k = (8 - (k + 1)) + 1 by omega, halves_half] at hz
      have ihk' := ihk (half z, k + 1) ⟨h8, hz⟩ (by simp only; omega)
      clear ihk
      simp only at ihk'
      cases hb : (z.tmod 2 == 1) with
      | true =>
        rw [half, if_pos hb] at ihk'
        simp only [k1, k5, hb, go_sem]
        repeat' ((first | ((first | apply qa | apply qb | apply qc | apply qd | apply qe | apply qf | apply qg | apply qh | apply qi | apply qj | apply qk) <;> intro hp) | ((first | refine ql rfl rfl (by decide +kernel) ?_ | refine qm _ rfl rfl (by decide +kernel) ?_ | refine goes_opn rfl ?_ | refine goes_opnD rfl rfl (by decide +kernel) ?_) <;> have hp := True.intro)) <;> simp only [hp, k1, k5, hb, go_sem])
        exact ihk'
      | false =>
        rw [half, if_neg (by rw [hb]; simp)] at ihk'
        simp only [k1, k5, hb, go_sem]
        repeat' ((first | ((first | apply qa | apply qb | apply qc | apply qd | apply qe | apply qf | apply qg | apply qh | apply qi | apply qj | apply qk) <;> intro hp) | ((first | refine ql rfl rfl (by decide +kernel) ?_ | refine qm _ rfl rfl (by decide +kernel) ?_ | refine goes_opn rfl ?_ | refine goes_opnD rfl rfl (by decide +kernel) ?_) <;> have hp := True.intro)) <;> simp only [hp, k1, k5, hb, go_sem])
        exact ihk'
    · have k8 : k = 8 := by omega
      subst k8
      have k1 : ¬ (((8 : Nat) : Int)) < 8 := by decide
      have hz' : z = sumByte y s[i] := hz
      rw [← hz'] at ih'
      simp only [k1, g5, go_sem]
      repeat' ((first | ((first | apply qa | apply qb | apply qc | apply qd | apply qe | apply qf | apply qg | apply qh | apply qi | apply qj | apply qk) <;> intro hp) | ((first | refine ql rfl rfl (by decide +kernel) ?_ | refine qm _ rfl rfl (by decide +kernel) ?_ | refine goes_opn rfl ?_ | refine goes_opnD rfl rfl (by decide +kernel) ?_) <;> have hp := True.intro)) <;> simp only [hp, k1, g5, go_sem])
      exact ih'
  · have g1 : ¬ (i : Int) < s.length := by omega
    rw [List.drop_of_length_le h] at he
    simp only [g1, go_sem]
    repeat' ((first | ((first | apply qa | apply qb | apply qc | apply qd | apply qe | apply qf | apply qg | apply qh | apply qi | apply qj | apply qk) <;> intro hp) | ((first | refine ql rfl rfl (by decide +kernel) ?_ | refine qm _ rfl rfl (by decide +kernel) ?_ | refine goes_opn rfl ?_ | refine goes_opnD rfl rfl (by decide +kernel) ?_) <;> have hp := True.intro)) <;> simp only [hp, g1, go_sem])
    simp only [fin_mk, finV, resL, resV1, resIn, endA, listIn, Option.some_or, Option.none_or, oneOrTup, go_sem]
    rw [← hr]
    rw [← he]; rfl
def T_spec_SumMore : Hints := ⟨fun _ => none, fun i => if i = 2 then some [0, 1, 5] else if i = 6 then some [0, 1, 5, 6] else none, fun i => if i = 0 then some [0, 1] else if i = 1 then some [0, 1, 5] else if i = 2 then some [0, 1, 5, 11] else if i = 4 then some [0, 1, 5] else if i = 5 then some [0, 1, 5, 6] else if i = 6 then some [0, 1, 5, 6, 21] else if i = 8 then some [0, 1, 5, 6, 7] else if i = 9 then some [0, 1, 5, 6, 7] else if i = 10 then some [0, 1, 5, 6, 29] else if i = 11 then some [0, 1, 5, 6] else if i = 7 then some [0, 1, 5, 6] else if i = 3 then some [0, 1, 5] else if i = 12 then some [4] else none, fun _ => none⟩
noncomputable def Phi_spec_SumMore : Tab := fun f => none
attribute [go_sem] T_spec_SumMore Phi_spec_SumMore
theorem phi_spec_SumMore : ∀ f sp, Phi_spec_SumMore f = some sp → FnOk Tryz.prog f sp ∧ ∀ n ∈ sp.need, n ∈ ([] : List String) := by
  intro f sp h
  unfold Phi_spec_SumMore at h
  cases h
theorem ok_spec_SumMore : FnOk Tryz.prog 176 spSumMore := by
  refine fn_ok (Φ := Phi_spec_SumMore) (T := T_spec_SumMore) phi_spec_SumMore mixed Tryz.func176 rfl rfl rfl (by decide) ?_
  intro ins r outs hr hl
  clear hl
  have hs := spSumMore_in hr
  clear hr
  obtain ⟨x, s, rfl, hc, hr, rfl⟩ := hs
  simp only [spSumMore, Tryz.f176, Go.VM.initS]
  simp only [go_sem]
  repeat' ((first | ((first | apply qa | apply qb | apply qc | apply qd | apply qe | apply qf | apply qg | apply qh | apply qi | apply qj | apply qk) <;> intro hp) | ((first | refine ql rfl rfl (by decide +kernel) ?_ | refine qm _ rfl rfl (by decide +kernel) ?_ | refine goes_opn rfl ?_ | refine goes_opnD rfl rfl (by decide +kernel) ?_) <;> have hp := True.intro)) <;> simp only [hp, go_sem])
  refine loop_go (fun p : Int × Nat => [(0, .int .u32 p.1), (5, .int .i64 (p.2 : Int))]) (fun _ => []) (fun p => s.length - p.2) (fun p => p.2 ≤ s.length ∧ sumMore p.1 (s.drop p.2) = sumMore x s) (x, 0) ⟨Nat.zero_le _, rfl⟩ rfl rfl ?_
  rintro ⟨y, i⟩ ⟨hi, he⟩ ih
  simp only at hi he ih
  rcases Nat.lt_or_ge i s.length with h | h
  · have g1 : (i : Int) < s.length := by omega
    have g2 : (0 : Int) ≤ i := by omega
    have g3 : s[i]? = some s[i] := List.getElem?_eq_getElem h
    have g5 := wrap_succ h (by omega)
    rw [List.drop_eq_getElem_cons h, sumMore, List.foldl_cons] at he
    have ih' := ih (sumByte y s[i], i + 1) ⟨h, he⟩ (by simp only; omega)
    clear ih
    simp only at ih'
    simp only [g1, g2, g3, go_sem]
    repeat' ((first | ((first | apply qa | apply qb | apply qc | apply qd | apply qe | apply qf | apply qg | apply qh | apply qi | apply qj | apply qk) <;> intro hp) | ((first | refine ql rfl rfl (by decide +kernel) ?_ | refine qm _ rfl rfl (by decide +kernel) ?_ | refine goes_opn rfl ?_ | refine goes_opnD rfl rfl (by decide +kernel) ?_) <;> have hp := True.intro)) <;> simp only [hp, g1, g2, g3, go_sem])
    refine loop_go (fun p : Int × Nat => [(0, .int .u32 p.1), (6, .int .i64 (p.2 : Int))]) (fun _ => []) (fun p => 8 - p.2) (fun p => p.2 ≤ 8 ∧ halves (8 - p.2) p.1 = sumByte y s[i]) (xor32 y (IntKind.u32.wrap s[i].toNat), 0) ⟨Nat.zero_le _, rfl⟩ rfl rfl ?_
    rintro ⟨z, k⟩ ⟨hk, hz⟩ ihk
    simp only at hk hz ihk
    rcases Nat.lt_or_ge k 8 with h8 | h8
    · have k1 : (k : Int) < 8 := by omega
      have k5 := wrap_succ h8 (by omega)
      rw [show 8 - k = (8 - (k + 1)) + 1 by omega, halves_half] at hz
      have ihk' := ihk (half z, k + 1) ⟨h8, hz⟩ (by simp only; omega)
      clear ihk
      simp only at ihk'
      cases hb : (z.tmod 2 == 1) with
      | true =>
        rw [half, if_pos hb] at ihk'
        simp only [k1, k5, hb, go_sem]
        repeat' ((first | ((first | apply qa | apply qb | apply qc | apply qd | apply qe | apply qf | apply qg | apply qh | apply qi | apply qj | apply qk) <;> intro hp) | ((first | refine ql rfl rfl (by decide +kernel) ?_ | refine qm _ rfl rfl (by decide +kernel) ?_ | refine goes_opn rfl ?_ | refine goes_opnD rfl rfl (by decide +kernel) ?_) <;> have hp := True.intro)) <;> simp only [hp, k1, k5, hb, go_sem])
        exact ihk'
      | false =>
        rw [half, if_neg (by rw [hb]; simp)] at ihk'
        simp only [k1, k5, hb, go_sem]
        repeat' ((first | ((first | apply qa | apply qb | apply qc | apply qd | apply qe | apply qf | apply qg | apply qh | apply qi | apply qj | apply qk) <;> intro hp) | ((first | refine ql rfl rfl (by decide +kernel) ?_ | refine qm _ rfl rfl (by decide +kernel) ?_ | refine goes_opn rfl ?_ | refine goes_opnD rfl rfl (by decide +kernel) ?_) <;> have hp := True.intro)) <;> simp only [hp, k1, k5, hb, go_sem])
        exact ihk'
    · have k8 : k = 8 := by omega
      subst k8
      have k1 : ¬ (((8 : Nat) : Int)) < 8 := by decide
      have hz' : z = sumByte y s[i] := hz
      rw [← hz'] at ih'
      simp only [k1, g5, go_sem]
      repeat' ((first | ((first | apply qa | apply qb | apply qc | apply qd | apply qe | apply qf | apply qg | apply qh | apply qi | apply qj | apply qk) <;> intro hp) | ((first | refine ql rfl rfl (by decide +kernel) ?_ | refine qm _ rfl rfl (by decide +kernel) ?_ | refine goes_opn rfl ?_ | refine goes_opnD rfl rfl (by decide +kernel) ?_) <;> have hp := True.intro)) <;> simp only [hp, k1, g5, go_sem])
      exact ih'
  · have g1 : ¬ (i : Int) < s.length := by omega
    rw [List.drop_of_length_le h] at he
    simp only [g1, go_sem]
    repeat' ((first | ((first | apply qa | apply qb | apply qc | apply qd | apply qe | apply qf | apply qg | apply qh | apply qi | apply qj | apply qk) <;> intro hp) | ((first | refine ql rfl rfl (by decide +kernel) ?_ | refine qm _ rfl rfl (by decide +kernel) ?_ | refine goes_opn rfl ?_ | refine goes_opnD rfl rfl (by decide +kernel) ?_) <;> have hp := True.intro)) <;> simp only [hp, g1, go_sem])
    simp only [fin_mk, finV, resL, resV1, resIn, endA, listIn, Option.some_or, Option.none_or, oneOrTup, go_sem]
    rw [← hr]
    rw [← he]; rfl
open Classical in
noncomputable def spSumOf : VM.Spec := { modes := [.rd], run := fun | [.str s] => if s.length ≤ 4194304 then some (.int .u32 (sumMore 4294967295 s), []) else none | _ => none, need := [] }
attribute [go_sem] spSumOf
theorem spSumOf_in {ins : List V} {r : V} {outs : List V} (h : spSumOf.run ins = some (r, outs)) : ∃ (s : (List UInt8)), ins = [.str s] ∧ (s.length ≤ 4194304) ∧ .int .u32 (sumMore 4294967295 s) = r ∧ outs = [] := by
  unfold spSumOf at h
  simp only at h
  split at h
  · rename_i s
    split at h
    case isFalse => cases h
    rename_i hc
    simp only [Option.some.injEq, Prod.mk.injEq] at h
    obtain ⟨h1, h2⟩ := h
    exact ⟨s, rfl, hc, h1, h2.symm⟩
  · cases h
def T_impl_SumOf : Hints := ⟨fun _ => none, fun _ => none, fun i => if i = 0 then some [0] else if i = 1 then some [2] else none, fun _ => none⟩
noncomputable def Phi_impl_SumOf : Tab := fun f => if f = 215 then some spSumMore else none
attribute [go_sem] T_impl_SumOf Phi_impl_SumOf
theorem phi_impl_SumOf : ∀ f sp, Phi_impl_SumOf f = some sp → FnOk Tryz.prog f sp ∧ ∀ n ∈ sp.need, n ∈ ([] : List String) := by
  intro f sp h
  unfold Phi_impl_SumOf at h
  by_cases e : f = 215
  · rw [if_pos e] at h; cases h; rw [e]; exact ⟨ok_impl_SumMore, (fun n (h : n ∈ ([] : List String)) => (nomatch h))⟩
  rw [if_neg e] at h
  cases h
theorem ok_impl_SumOf : FnOk Tryz.prog 203 spSumOf := by
  refine fn_ok (Φ := Phi_impl_SumOf) (T := T_impl_SumOf) phi_impl_SumOf mixed Tryz.func203 rfl rfl rfl (by decide) ?_
  intro ins r outs hr hl
  clear hl
  have hs := spSumOf_in hr
  clear hr
  obtain ⟨s, rfl, hc, hr, rfl⟩ := hs
  simp only [spSumOf, Tryz.f203, Go.VM.initS]
  simp only [hc, go_sem]
  repeat' ((first | ((first | apply qa | apply qb | apply qc | apply qd | apply qe | apply qf | apply qg | apply qh | apply qi | apply qj | apply qk) <;> intro hp) | ((first | refine ql rfl rfl (by decide +kernel) ?_ | refine qm _ rfl rfl (by decide +kernel) ?_ | refine goes_opn rfl ?_ | refine goes_opnD rfl rfl (by decide +kernel) ?_) <;> have hp := True.intro)) <;> simp only [hp, hc, go_sem])
  simp only [fin_mk, finV, resL, resV1, resIn, endA, listIn, Option.some_or, Option.none_or, oneOrTup, go_sem]
  rw [← hr]
def T_spec_SumOf : Hints := ⟨fun _ => none, fun _ => none, fun i => if i = 0 then some [0] else if i = 1 then some [2] else none, fun _ => none⟩
noncomputable def Phi_spec_SumOf : Tab := fun f => if f = 176 then some spSumMore else none
attribute [go_sem] T_spec_SumOf Phi_spec_SumOf
theorem phi_spec_SumOf : ∀ f sp, Phi_spec_SumOf f = some sp → FnOk Tryz.prog f sp ∧ ∀ n ∈ sp.need, n ∈ ([] : List String) := by
  intro f sp h
  unfold Phi_spec_SumOf at h
  by_cases e : f = 176
  · rw [if_pos e] at h; cases h; rw [e]; exact ⟨ok_spec_SumMore, (fun n (h : n ∈ ([] : List String)) => (nomatch h))⟩
  rw [if_neg e] at h
  cases h
theorem ok_spec_SumOf : FnOk Tryz.prog 146 spSumOf := by
  refine fn_ok (Φ := Phi_spec_SumOf) (T := T_spec_SumOf) phi_spec_SumOf mixed Tryz.func146 rfl rfl rfl (by decide) ?_
  intro ins r outs hr hl
  clear hl
  have hs := spSumOf_in hr
  clear hr
  obtain ⟨s, rfl, hc, hr, rfl⟩ := hs
  simp only [spSumOf, Tryz.f146, Go.VM.initS]
  simp only [hc, go_sem]
  repeat' ((first | ((first | apply qa | apply qb | apply qc | apply qd | apply qe | apply qf | apply qg | apply qh | apply qi | apply qj | apply qk) <;> intro hp) | ((first | refine ql rfl rfl (by decide +kernel) ?_ | refine qm _ rfl rfl (by decide +kernel) ?_ | refine goes_opn rfl ?_ | refine goes_opnD rfl rfl (by decide +kernel) ?_) <;> have hp := True.intro)) <;> simp only [hp, hc, go_sem])
  simp only [fin_mk, finV, resL, resV1, resIn, endA, listIn, Option.some_or, Option.none_or, oneOrTup, go_sem]
  rw [← hr]
def byteOf (v : Int) : UInt8 := UInt8.ofNat (IntKind.u8.wrap v).toNat
theorem byteOf_eq (v : Int) : IntKind.u8.wrap v = (byteOf v).toNat := by
  have h : 0 ≤ IntKind.u8.wrap v ∧ IntKind.u8.wrap v < 256 := by
    simp only [IntKind.wrap, IntKind.signed, IntKind.bits]
    simp; omega
  have h2 : (byteOf v).toNat = (IntKind.u8.wrap v).toNat := UInt8.toNat_ofNat_of_lt' (by show (IntKind.u8.wrap v).toNat < 256; omega)
  rw [h2]; omega
theorem four_bytes (a b c d : Int) : [V.int .u8 (IntKind.u8.wrap a), V.int .u8 (IntKind.u8.wrap b), V.int .u8 (IntKind.u8.wrap c), V.int .u8 (IntKind.u8.wrap d)] = bytesV [byteOf a, byteOf b, byteOf c, byteOf d] := by
  rw [byteOf_eq a, byteOf_eq b, byteOf_eq c, byteOf_eq d]; rfl
def four (x : Int) : List UInt8 := [byteOf (Int.fdiv x (2 ^ 24)), byteOf (Int.fdiv x (2 ^ 16)), byteOf (Int.fdiv x (2 ^ 8)), byteOf x]
open Classical in
noncomputable def spFour : VM.Spec := { modes := [.rd], run := fun | [.int .u32 x] => some (.str (four x), []) | _ => none, need := [] }
attribute [go_sem] spFour
theorem spFour_in {ins : List V} {r : V} {outs : List V} (h : spFour.run ins = some (r, outs)) : ∃ (x : Int), ins = [.int .u32 x] ∧ .str (four x) = r ∧ outs = [] := by
  unfold spFour at h
  simp only at h
  split at h
  · rename_i x
    simp only [Option.some.injEq, Prod.mk.injEq] at h
    obtain ⟨h1, h2⟩ := h
    exact ⟨x, rfl, h1, h2.symm⟩
  · cases h
def T_spec_l02Four : Hints := ⟨fun _ => none, fun _ => none, fun i => if i = 0 then some [0] else if i = 1 then some [2] else none, fun _ => none⟩
noncomputable def Phi_spec_l02Four : Tab := fun f => none
attribute [go_sem] T_spec_l02Four Phi_spec_l02Four
theorem phi_spec_l02Four : ∀ f sp, Phi_spec_l02Four f = some sp → FnOk Tryz.prog f sp ∧ ∀ n ∈ sp.need, n ∈ ([] : List String) := by
  intro f sp h
  unfold Phi_spec_l02Four at h
  cases h
theorem ok_spec_l02Four : FnOk Tryz.prog 145 spFour := by
  refine fn_ok (Φ := Phi_spec_l02Four) (T := T_spec_l02Four) phi_spec_l02Four mixed Tryz.func145 rfl rfl rfl (by decide) ?_
  intro ins r outs hr hl
  clear hl
  have hs := spFour_in hr
  clear hr
  obtain ⟨x, rfl, hr, rfl⟩ := hs
  simp only [spFour, Tryz.f145, Go.VM.initS]
  simp only [four_bytes, go_sem]
  repeat' ((first | ((first | apply qa | apply qb | apply qc | apply qd | apply qe | apply qf | apply qg | apply qh | apply qi | apply qj | apply qk) <;> intro hp) | ((first | refine ql rfl rfl (by decide +kernel) ?_ | refine qm _ rfl rfl (by decide +kernel) ?_ | refine goes_opn rfl ?_ | refine goes_opnD rfl rfl (by decide +kernel) ?_) <;> have hp := True.intro)) <;> simp only [hp, four_bytes, go_sem])
  simp only [fin_mk, finV, resL, resV1, resIn, endA, listIn, Option.some_or, Option.none_or, oneOrTup, go_sem]
  rw [← hr]
  rfl
open Classical in
noncomputable def spSumText : VM.Spec := { modes := [.rd], run := fun | [.str s] => if s.length ≤ 4194304 then some (.str (four (sumMore 4294967295 s)), []) else none | _ => none, need := [] }
attribute [go_sem] spSumText
theorem spSumText_in {ins : List V} {r : V} {outs : List V} (h : spSumText.run ins = some (r, outs)) : ∃ (s : (List UInt8)), ins = [.str s] ∧ (s.length ≤ 4194304) ∧ .str (four (sumMore 4294967295 s)) = r ∧ outs = [] := by
  unfold spSumText at h
  simp only at h
  split at h
  · rename_i s
    split at h
    case isFalse => cases h
    rename_i hc
    simp only [Option.some.injEq, Prod.mk.injEq] at h
    obtain ⟨h1, h2⟩ := h
    exact ⟨s, rfl, hc, h1, h2.symm⟩
  · cases h
def T_impl_sumText : Hints := ⟨fun _ => none, fun _ => none, fun i => if i = 0 then some [0] else if i = 1 then some [3] else if i = 2 then some [2] else none, fun _ => none⟩
noncomputable def Phi_impl_sumText : Tab := fun f => if f = 203 then some spSumOf else none
attribute [go_sem] T_impl_sumText Phi_impl_sumText
theorem phi_impl_sumText : ∀ f sp, Phi_impl_sumText f = some sp → FnOk Tryz.prog f sp ∧ ∀ n ∈ sp.need, n ∈ ([] : List String) := by
  intro f sp h
  unfold Phi_impl_sumText at h
  by_cases e : f = 203
  · rw [if_pos e] at h; cases h; rw [e]; exact ⟨ok_impl_SumOf, (fun n (h : n ∈ ([] : List String)) => (nomatch h))⟩
  rw [if_neg e] at h
  cases h
theorem ok_impl_sumText : FnOk Tryz.prog 178 spSumText := by
  refine fn_ok (Φ := Phi_impl_sumText) (T := T_impl_sumText) phi_impl_sumText mixed Tryz.func178 rfl rfl rfl (by decide) ?_
  intro ins r outs hr hl
  clear hl
  have hs := spSumText_in hr
  clear hr
  obtain ⟨s, rfl, hc, hr, rfl⟩ := hs
  simp only [spSumText, Tryz.f178, Go.VM.initS]
  simp only [hc, four_bytes, go_sem]
  repeat' ((first | ((first | apply qa | apply qb | apply qc | apply qd | apply qe | apply qf | apply qg | apply qh | apply qi | apply qj | apply qk) <;> intro hp) | ((first | refine ql rfl rfl (by decide +kernel) ?_ | refine qm _ rfl rfl (by decide +kernel) ?_ | refine goes_opn rfl ?_ | refine goes_opnD rfl rfl (by decide +kernel) ?_) <;> have hp := True.intro)) <;> simp only [hp, hc, four_bytes, go_sem])
  simp only [fin_mk, finV, resL, resV1, resIn, endA, listIn, Option.some_or, Option.none_or, oneOrTup, go_sem]
  rw [← hr]
  rfl
def frameOk (s : List UInt8) : Bool := within s.length 1 9000
def frame (s : List UInt8) : List UInt8 := if frameOk s = true then varN s.length ++ (four (sumMore 4294967295 s) ++ s) else []
open Classical in
noncomputable def spFrame : VM.Spec := { modes := [.rd], run := fun | [.str s] => if s.length ≤ 4194304 then some (.tup [.str (frame s), .bool (frameOk s)], []) else none | _ => none, need := [] }
attribute [go_sem] spFrame
theorem spFrame_in {ins : List V} {r : V} {outs : List V} (h : spFrame.run ins = some (r, outs)) : ∃ (s : (List UInt8)), ins = [.str s] ∧ (s.length ≤ 4194304) ∧ .tup [.str (frame s), .bool (frameOk s)] = r ∧ outs = [] := by
  unfold spFrame at h
  simp only at h
  split at h
  · rename_i s
    split at h
    case isFalse => cases h
    rename_i hc
    simp only [Option.some.injEq, Prod.mk.injEq] at h
    obtain ⟨h1, h2⟩ := h
    exact ⟨s, rfl, hc, h1, h2.symm⟩
  · cases h
def T_impl_Frame : Hints := ⟨fun _ => none, fun _ => none, fun i => if i = 0 then some [0] else if i = 1 then some [0, 9] else if i = 2 then some [2, 3] else if i = 3 then some [0, 4] else if i = 4 then some [2, 3] else none, fun _ => none⟩
noncomputable def Phi_impl_Frame : Tab := fun f => if f = 59 then some spWithin else if f = 39 then some spVarText else if f = 178 then some spSumText else none
attribute [go_sem] T_impl_Frame Phi_impl_Frame
theorem phi_impl_Frame : ∀ f sp, Phi_impl_Frame f = some sp → FnOk Tryz.prog f sp ∧ ∀ n ∈ sp.need, n ∈ ([] : List String) := by
  intro f sp h
  unfold Phi_impl_Frame at h
  by_cases e : f = 59
  · rw [if_pos e] at h; cases h; rw [e]; exact ⟨ok_impl_within, (fun n (h : n ∈ ([] : List String)) => (nomatch h))⟩
  rw [if_neg e] at h
  by_cases e : f = 39
  · rw [if_pos e] at h; cases h; rw [e]; exact ⟨ok_impl_VarText, (fun n (h : n ∈ ([] : List String)) => (nomatch h))⟩
  rw [if_neg e] at h
  by_cases e : f = 178
  · rw [if_pos e] at h; cases h; rw [e]; exact ⟨ok_impl_sumText, (fun n (h : n ∈ ([] : List String)) => (nomatch h))⟩
  rw [if_neg e] at h
  cases h
theorem ok_impl_Frame : FnOk Tryz.prog 150 spFrame := by
  refine fn_ok (Φ := Phi_impl_Frame) (T := T_impl_Frame) phi_impl_Frame mixed Tryz.func150 rfl rfl rfl (by decide) ?_
  intro ins r outs hr hl
  clear hl
  have hs := spFrame_in hr
  clear hr
  obtain ⟨s, rfl, hc, hr, rfl⟩ := hs
  simp only [spFrame, Tryz.f150, Go.VM.initS]
  cases hw : within (s.length : Int) 1 9000 with
  | false =>
    simp only [hc, hw, go_sem]
    repeat' ((first | ((first | apply qa | apply qb | apply qc | apply qd | apply qe | apply qf | apply qg | apply qh | apply qi | apply qj | apply qk) <;> intro hp) | ((first | refine ql rfl rfl (by decide +kernel) ?_ | refine qm _ rfl rfl (by decide +kernel) ?_ | refine goes_opn rfl ?_ | refine goes_opnD rfl rfl (by decide +kernel) ?_) <;> have hp := True.intro)) <;> simp only [hp, hc, hw, go_sem])
    simp only [fin_mk, finV, resL, resV1, resIn, endA, listIn, Option.some_or, Option.none_or, oneOrTup, go_sem]
    rw [← hr]
    simp only [frame, frameOk, hw, Bool.false_eq_true, if_false]
  | true =>
    have hn : 1 ≤ (s.length : Int) ∧ (s.length : Int) ≤ 9000 := by simpa only [within, Bool.and_eq_true, decide_eq_true_eq] using hw
    have hv : varText (s.length : Int) = varN s.length := by
      rw [varText, if_pos]
      · rw [Int.toNat_natCast]
      · simp only [within, Bool.and_eq_true, decide_eq_true_eq]; omega
    have v1 := varN_len s.length
    have h4 : (four (sumMore 4294967295 s)).length = 4 := rfl
    simp only [hc, hw, hv, h4, List.length_append, List.append_assoc, go_sem]
    repeat' ((first | ((first | apply qa | apply qb | apply qc | apply qd | apply qe | apply qf | apply qg | apply qh | apply qi | apply qj | apply qk) <;> intro hp) | ((first | refine ql rfl rfl (by decide +kernel) ?_ | refine qm _ rfl rfl (by decide +kernel) ?_ | refine goes_opn rfl ?_ | refine goes_opnD rfl rfl (by decide +kernel) ?_) <;> have hp := True.intro)) <;> simp only [hp, hc, hw, hv, h4, List.length_append, List.append_assoc, go_sem])
    all_goals first
      | (clear hr; omega)
      | (simp only [fin_mk, finV, resL, resV1, resIn, endA, listIn, Option.some_or, Option.none_or, oneOrTup, go_sem]; rw [← hr]; simp only [frame, frameOk, hw, if_true])
def T_spec_Frame : Hints := ⟨fun _ => none, fun _ => none, fun i => if i = 0 then some [0] else if i = 1 then some [0, 7] else if i = 2 then some [2, 3] else if i = 3 then some [2, 3] else none, fun _ => none⟩
noncomputable def Phi_spec_Frame : Tab := fun f => if f = 53 then some spWithin else if f = 111 then some spVarBytes else if f = 146 then some spSumOf else if f = 145 then some spFour else none
attribute [go_sem] T_spec_Frame Phi_spec_Frame
theorem phi_spec_Frame : ∀ f sp, Phi_spec_Frame f = some sp → FnOk Tryz.prog f sp ∧ ∀ n ∈ sp.need, n ∈ ([] : List String) := by
  intro f sp h
  unfold Phi_spec_Frame at h
  by_cases e : f = 53
  · rw [if_pos e] at h; cases h; rw [e]; exact ⟨ok_spec_l01In, (fun n (h : n ∈ ([] : List String)) => (nomatch h))⟩
  rw [if_neg e] at h
  by_cases e : f = 111
  · rw [if_pos e] at h; cases h; rw [e]; exact ⟨ok_spec_l01Var, (fun n (h : n ∈ ([] : List String)) => (nomatch h))⟩
  rw [if_neg e] at h
  by_cases e : f = 146
  · rw [if_pos e] at h; cases h; rw [e]; exact ⟨ok_spec_SumOf, (fun n (h : n ∈ ([] : List String)) => (nomatch h))⟩
  rw [if_neg e] at h
  by_cases e : f = 145
  · rw [if_pos e] at h; cases h; rw [e]; exact ⟨ok_spec_l02Four, (fun n (h : n ∈ ([] : List String)) => (nomatch h))⟩
  rw [if_neg e] at h
  cases h
theorem ok_spec_Frame : FnOk Tryz.prog 84 spFrame := by
  refine fn_ok (Φ := Phi_spec_Frame) (T := T_spec_Frame) phi_spec_Frame mixed Tryz.func84 rfl rfl rfl (by decide) ?_
  intro ins r outs hr hl
  clear hl
  have hs := spFrame_in hr
  clear hr
  obtain ⟨s, rfl, hc, hr, rfl⟩ := hs
  simp only [spFrame, Tryz.f84, Go.VM.initS]
  cases hw : within (s.length : Int) 1 9000 with
  | false =>
    simp only [hc, hw, go_sem]
    repeat' ((first | ((first | apply qa | apply qb | apply qc | apply qd | apply qe | apply qf | apply qg | apply qh | apply qi | apply qj | apply qk) <;> intro hp) | ((first | refine ql rfl rfl (by decide +kernel) ?_ | refine qm _ rfl rfl (by decide +kernel) ?_ | refine goes_opn rfl ?_ | refine goes_opnD rfl rfl (by decide +kernel) ?_) <;> have hp := True.intro)) <;> simp only [hp, hc, hw, go_sem])
    simp only [fin_mk, finV, resL, resV1, resIn, endA, listIn, Option.some_or, Option.none_or, oneOrTup, go_sem]
    rw [← hr]
    simp only [frame, frameOk, hw, Bool.false_eq_true, if_false]
  | true =>
    have hn : 1 ≤ (s.length : Int) ∧ (s.length : Int) ≤ 9000 := by simpa only [within, Bool.and_eq_true, decide_eq_true_eq] using hw
    have y1 : (0 : Int) ≤ s.length := by omega
    have y2 : (s.length : Int) ≤ 70368744177664 := by omega
    have v1 := varN_len s.length
    have h4 : (four (sumMore 4294967295 s)).length = 4 := rfl
    simp only [hc, hw, y1, y2, h4, Int.toNat_natCast, List.length_append, List.append_assoc, go_sem]
    repeat' ((first | ((first | apply qa | apply qb | apply qc | apply qd | apply qe | apply qf | apply qg | apply qh | apply qi | apply qj | apply qk) <;> intro hp) | ((first | refine ql rfl rfl (by decide +kernel) ?_ | refine qm _ rfl rfl (by decide +kernel) ?_ | refine goes_opn rfl ?_ | refine goes_opnD rfl rfl (by decide +kernel) ?_) <;> have hp := True.intro)) <;> simp only [hp, hc, hw, y1, y2, h4, Int.toNat_natCast, List.length_append, List.append_assoc, go_sem])
    all_goals first
      | (clear hr; omega)
      | (simp only [fin_mk, finV, resL, resV1, resIn, endA, listIn, Option.some_or, Option.none_or, oneOrTup, go_sem]; rw [← hr]; simp only [frame, frameOk, hw, if_true])
theorem editText_len (x : Edit) : (editText x).length ≤ 200000 := by
  unfold editText
  split
  · rename_i hk
    obtain ⟨_, hB, hT, _, _, _, ⟨s1, s2⟩, hX⟩ := editOk_parts hk
    have hst := setText_len x.Set
    have v1 := varN_len x.Box.length
    have v2 := varN_len x.To.length
    have v3 := varN_len (setText x.Set).length
    have v4 := varN_len x.Text.length
    have v5 := varN_len (x.Since + 1).toNat
    simp only [short, List.length_append, List.length_cons, List.length_nil]
    omega
  · simp
def framedOk (x : Edit) : Bool := editOk x && frameOk (editText x)
open Classical in
noncomputable def spFramed : VM.Spec := { modes := [.rd], run := fun | [x'] => (Edit.dec x').bind fun x => if x.le 4194304 then some (.tup [.str ((if framedOk x = true then frame (editText x) else [])), .bool (framedOk x)], []) else none | _ => none, need := ["internal/strconv.uint64pow10"] }
attribute [go_sem] spFramed
theorem spFramed_in {ins : List V} {r : V} {outs : List V} (h : spFramed.run ins = some (r, outs)) : ∃ (x : Edit), ins = [Edit.enc x] ∧ (x.le 4194304) ∧ .tup [.str ((if framedOk x = true then frame (editText x) else [])), .bool (framedOk x)] = r ∧ outs = [] := by
  unfold spFramed at h
  simp only at h
  split at h
  · rename_i x'
    simp only [Option.bind_eq_some_iff] at h
    obtain ⟨x, h_x, h⟩ := h
    split at h
    case isFalse => cases h
    rename_i hc
    simp only [Option.some.injEq, Prod.mk.injEq] at h
    obtain ⟨h1, h2⟩ := h
    have h_x := Edit.dec_some h_x
    subst h_x
    exact ⟨x, rfl, hc, h1, h2.symm⟩
  · cases h
def T_impl_framed : Hints := ⟨fun _ => none, fun _ => none, fun i => if i = 0 then some [1] else if i = 1 then some [4, 5] else if i = 2 then some [4, 12] else if i = 3 then some [2, 3] else if i = 4 then some [2, 3] else none, fun _ => none⟩
noncomputable def Phi_impl_framed : Tab := fun f => if f = 8 then some spEditText else if f = 150 then some spFrame else none
attribute [go_sem] T_impl_framed Phi_impl_framed
theorem phi_impl_framed : ∀ f sp, Phi_impl_framed f = some sp → FnOk Tryz.prog f sp ∧ ∀ n ∈ sp.need, n ∈ (["internal/strconv.uint64pow10"] : List String) := by
  intro f sp h
  unfold Phi_impl_framed at h
  by_cases e : f = 8
  · rw [if_pos e] at h; cases h; rw [e]; exact ⟨ok_impl_EditText, (fun n (h : n ∈ (["internal/strconv.uint64pow10"] : List String)) => by simp only [List.mem_cons, List.not_mem_nil, or_false] at h; rcases h with rfl <;> simp)⟩
  rw [if_neg e] at h
  by_cases e : f = 150
  · rw [if_pos e] at h; cases h; rw [e]; exact ⟨ok_impl_Frame, (fun n (h : n ∈ ([] : List String)) => (nomatch h))⟩
  rw [if_neg e] at h
  cases h
theorem ok_impl_framed : FnOk Tryz.prog 89 spFramed := by
  refine fn_ok (Φ := Phi_impl_framed) (T := T_impl_framed) phi_impl_framed mixed Tryz.func89 rfl rfl rfl (by decide) ?_
  intro ins r outs hr hl
  clear hl
  have hs := spFramed_in hr
  clear hr
  obtain ⟨x, rfl, hc, hr, rfl⟩ := hs
  simp only [spFramed, Tryz.f89, Go.VM.initS]
  have hl := editText_len x
  have hl' : (editText x).length ≤ 4194304 := by omega
  cases hk : editOk x with
  | false =>
    simp only [hc, hk, go_sem]
    repeat' ((first | ((first | apply qa | apply qb | apply qc | apply qd | apply qe | apply qf | apply qg | apply qh | apply qi | apply qj | apply qk) <;> intro hp) | ((first | refine ql rfl rfl (by decide +kernel) ?_ | refine qm _ rfl rfl (by decide +kernel) ?_ | refine goes_opn rfl ?_ | refine goes_opnD rfl rfl (by decide +kernel) ?_) <;> have hp := True.intro)) <;> simp only [hp, hc, hk, go_sem])
    simp only [fin_mk, finV, resL, resV1, resIn, endA, listIn, Option.some_or, Option.none_or, oneOrTup, go_sem]
    rw [← hr]
    simp only [framedOk, hk, Bool.false_and, Bool.false_eq_true, if_false]
  | true =>
    simp only [hc, hk, hl', go_sem]
    repeat' ((first | ((first | apply qa | apply qb | apply qc | apply qd | apply qe | apply qf | apply qg | apply qh | apply qi | apply qj | apply qk) <;> intro hp) | ((first | refine ql rfl rfl (by decide +kernel) ?_ | refine qm _ rfl rfl (by decide +kernel) ?_ | refine goes_opn rfl ?_ | refine goes_opnD rfl rfl (by decide +kernel) ?_) <;> have hp := True.intro)) <;> simp only [hp, hc, hk, hl', go_sem])
    simp only [fin_mk, finV, resL, resV1, resIn, endA, listIn, Option.some_or, Option.none_or, oneOrTup, go_sem]
    rw [← hr]
    cases hf : frameOk (editText x) <;> simp only [framedOk, hk, hf, frame, Bool.true_and, if_true, Bool.false_eq_true, if_false]
def tLog : List UInt8 := [108, 111, 103]
def logActs (x : Edit) : List VM.Act := if framedOk x = true then [⟨1, tLog, frame (editText x), []⟩, ⟨2, tLog, [], []⟩] else []
open Classical in
noncomputable def spLogActs : VM.Spec := { modes := [.rd], run := fun | [x'] => (Edit.dec x').bind fun x => if x.le 4194304 then some (.tup [.lst 4 ((logActs x).map VM.Act.enc), .bool (framedOk x)], []) else none | _ => none, need := ["internal/strconv.uint64pow10"] }
attribute [go_sem] spLogActs
theorem spLogActs_in {ins : List V} {r : V} {outs : List V} (h : spLogActs.run ins = some (r, outs)) : ∃ (x : Edit), ins = [Edit.enc x] ∧ (x.le 4194304) ∧ .tup [.lst 4 ((logActs x).map VM.Act.enc), .bool (framedOk x)] = r ∧ outs = [] := by
  unfold spLogActs at h
  simp only at h
  split at h
  · rename_i x'
    simp only [Option.bind_eq_some_iff] at h
    obtain ⟨x, h_x, h⟩ := h
    split at h
    case isFalse => cases h
    rename_i hc
    simp only [Option.some.injEq, Prod.mk.injEq] at h
    obtain ⟨h1, h2⟩ := h
    have h_x := Edit.dec_some h_x
    subst h_x
    exact ⟨x, rfl, hc, h1, h2.symm⟩
  · cases h
theorem logActs_le (x : Edit) : (logActs x).length ≤ 4194304 := by
  unfold logActs; split <;> simp
end Go.Proofs.YtimiccneikhkgaaGreatDoor.L
