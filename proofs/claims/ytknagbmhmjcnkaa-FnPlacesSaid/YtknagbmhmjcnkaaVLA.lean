/- Functions of the program that many laws call: numbers, names of boxes. What each computes. -/
import Derived.Test.YtknagbmhmjcnkaaVFacts
import Derived.Test.YtknagbmhmjcnkaaProg
import Derived.KernelRfl
namespace Go.Proofs.Ytknagbmhmjcnkaa.L
open Go Go.VM
set_option maxRecDepth 100000
set_option linter.unusedSimpArgs false
set_option linter.unusedVariables false
theorem mixed : Try.prog.follows .mixedOrders = true := by decide +kernel
def within (n lo hi : Int) : Bool := decide (lo ≤ n) && decide (n ≤ hi)
open Classical in
noncomputable def spWithin : VM.Spec := { modes := [.rd, .rd, .rd], run := fun | [.int .i64 n, .int .i64 lo, .int .i64 hi] => some (.bool (within n lo hi), []) | _ => none, need := [] }
attribute [go_sem] spWithin
theorem spWithin_in {ins : List V} {r : V} {outs : List V} (h : spWithin.run ins = some (r, outs)) : ∃ (n : Int) (lo : Int) (hi : Int), ins = [.int .i64 n, .int .i64 lo, .int .i64 hi] ∧ .bool (within n lo hi) = r ∧ outs = [] := by
  unfold spWithin at h
  simp only at h
  split at h
  · rename_i n lo hi
    simp only [Option.some.injEq, Prod.mk.injEq] at h
    obtain ⟨h1, h2⟩ := h
    exact ⟨n, lo, hi, rfl, h1, h2.symm⟩
  · cases h
def T_impl_within : Hints := ⟨fun _ => none, fun _ => none, fun i => if i = 0 then some [0, 1, 2] else if i = 1 then some [6] else none, fun _ => none⟩
noncomputable def Phi_impl_within : Tab := fun f => none
attribute [go_sem] T_impl_within Phi_impl_within
theorem phi_impl_within : ∀ f sp, Phi_impl_within f = some sp → FnOk Try.prog f sp ∧ ∀ n ∈ sp.need, n ∈ ([] : List String) := by
  intro f sp h
  unfold Phi_impl_within at h
  cases h
theorem ok_impl_within : FnOk Try.prog 16 spWithin := by
  refine fn_ok (Φ := Phi_impl_within) (T := T_impl_within) phi_impl_within mixed Try.func16 rfl rfl rfl (by decide) ?_
  intro ins r outs hr hl
  clear hl
  have hs := spWithin_in hr
  clear hr
  obtain ⟨n, lo, hi, rfl, hr, rfl⟩ := hs
  simp only [spWithin, Try.f16, Go.VM.initS]
  simp only [go_sem]
  repeat' ((first | ((first | apply qa | apply qb | apply qc | apply qd | apply qe | apply qf | apply qg | apply qh | apply qi | apply qj | apply qk) <;> intro hp) | ((first | refine ql rfl rfl (by decide +kernel) ?_ | refine qm _ rfl rfl (by decide +kernel) ?_ | refine goes_opn rfl ?_ | refine goes_opnD rfl rfl (by decide +kernel) ?_) <;> have hp := True.intro)) <;> simp only [hp, go_sem])
  all_goals (simp only [fin_mk, finV, resL, resV1, resIn, endA, listIn, Option.some_or, Option.none_or, oneOrTup, go_sem]; rw [← hr])
  all_goals simp [within, hp]
def T_spec_l01In : Hints := ⟨fun _ => none, fun _ => none, fun i => if i = 0 then some [0, 1, 2] else if i = 1 then some [6] else none, fun _ => none⟩
noncomputable def Phi_spec_l01In : Tab := fun f => none
attribute [go_sem] T_spec_l01In Phi_spec_l01In
theorem phi_spec_l01In : ∀ f sp, Phi_spec_l01In f = some sp → FnOk Try.prog f sp ∧ ∀ n ∈ sp.need, n ∈ ([] : List String) := by
  intro f sp h
  unfold Phi_spec_l01In at h
  cases h
theorem ok_spec_l01In : FnOk Try.prog 18 spWithin := by
  refine fn_ok (Φ := Phi_spec_l01In) (T := T_spec_l01In) phi_spec_l01In mixed Try.func18 rfl rfl rfl (by decide) ?_
  intro ins r outs hr hl
  clear hl
  have hs := spWithin_in hr
  clear hr
  obtain ⟨n, lo, hi, rfl, hr, rfl⟩ := hs
  simp only [spWithin, Try.f18, Go.VM.initS]
  simp only [go_sem]
  repeat' ((first | ((first | apply qa | apply qb | apply qc | apply qd | apply qe | apply qf | apply qg | apply qh | apply qi | apply qj | apply qk) <;> intro hp) | ((first | refine ql rfl rfl (by decide +kernel) ?_ | refine qm _ rfl rfl (by decide +kernel) ?_ | refine goes_opn rfl ?_ | refine goes_opnD rfl rfl (by decide +kernel) ?_) <;> have hp := True.intro)) <;> simp only [hp, go_sem])
  all_goals (simp only [fin_mk, finV, resL, resV1, resIn, endA, listIn, Option.some_or, Option.none_or, oneOrTup, go_sem]; rw [← hr])
  all_goals simp [within, hp]
open Classical in
noncomputable def spUid : VM.Spec := { modes := [.rd], run := fun | [.int .i64 n] => some (.bool (within n 1 9999), []) | _ => none, need := [] }
attribute [go_sem] spUid
theorem spUid_in {ins : List V} {r : V} {outs : List V} (h : spUid.run ins = some (r, outs)) : ∃ (n : Int), ins = [.int .i64 n] ∧ .bool (within n 1 9999) = r ∧ outs = [] := by
  unfold spUid at h
  simp only at h
  split at h
  · rename_i n
    simp only [Option.some.injEq, Prod.mk.injEq] at h
    obtain ⟨h1, h2⟩ := h
    exact ⟨n, rfl, h1, h2.symm⟩
  · cases h
open Classical in
noncomputable def spMod : VM.Spec := { modes := [.rd], run := fun | [.int .i64 n] => some (.bool (within n 1 100000), []) | _ => none, need := [] }
attribute [go_sem] spMod
theorem spMod_in {ins : List V} {r : V} {outs : List V} (h : spMod.run ins = some (r, outs)) : ∃ (n : Int), ins = [.int .i64 n] ∧ .bool (within n 1 100000) = r ∧ outs = [] := by
  unfold spMod at h
  simp only at h
  split at h
  · rename_i n
    simp only [Option.some.injEq, Prod.mk.injEq] at h
    obtain ⟨h1, h2⟩ := h
    exact ⟨n, rfl, h1, h2.symm⟩
  · cases h
def low (c : UInt8) : Bool := within (c.toNat : Int) 97 122
def boxName (s : List UInt8) : Bool := s.all low && within s.length 1 8
theorem boxName_bad {s : List UInt8} {i : Nat} (h : i < s.length) (hb : low s[i] = false) : boxName s = false := by
  have : s.all low = false := List.all_eq_false.2 ⟨s[i], List.getElem_mem h, by simp [hb]⟩
  rw [boxName, this]; rfl
theorem boxName_end {s : List UInt8} {i : Nat} (h : s.length ≤ i) (ha : (s.take i).all low = true) : boxName s = within s.length 1 8 := by
  rw [List.take_of_length_le h] at ha
  rw [boxName, ha]; rfl
theorem all_take_succ {α : Type} {s : List α} {p : α → Bool} {i : Nat} (h : i < s.length) (ha : (s.take i).all p = true) (hb : p s[i] = true) : (s.take (i + 1)).all p = true := by
  rw [take_succ' h, List.all_append, ha]; simp [hb]
theorem byte_wrap (c : UInt8) : IntKind.i64.wrap ((c.toNat : Nat) : Int) = c.toNat := wrap64 (by omega) (by have := c.toNat_lt; omega)
open Classical in
noncomputable def spBoxName : VM.Spec := { modes := [.rd], run := fun | [.str s] => if s.length ≤ 1099511627776 then some (.bool (boxName s), []) else none | _ => none, need := [] }
attribute [go_sem] spBoxName
theorem spBoxName_in {ins : List V} {r : V} {outs : List V} (h : spBoxName.run ins = some (r, outs)) : ∃ (s : (List UInt8)), ins = [.str s] ∧ (s.length ≤ 1099511627776) ∧ .bool (boxName s) = r ∧ outs = [] := by
  unfold spBoxName at h
  simp only at h
  split at h
  · rename_i s
    split at h
    case isFalse => cases h
    rename_i hc
    simp only [Option.some.injEq, Prod.mk.injEq] at h
    obtain ⟨h1, h2⟩ := h
    exact ⟨s, rfl, hc, h1, h2.symm⟩
  · cases h
end Go.Proofs.Ytknagbmhmjcnkaa.L
