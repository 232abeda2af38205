/- Functions of the program that many laws call: numbers, names of boxes. What each computes. -/
import Derived.Test.YtghmjnggmacohaaDoorVFacts
import Derived.Test.YtghmjnggmacohaaDoorProg
import Derived.KernelRfl
namespace Go.Proofs.YtghmjnggmacohaaDoor.L
open Go Go.VM
set_option maxRecDepth 100000
set_option linter.unusedSimpArgs false
set_option linter.unusedVariables false
theorem mixed : Tryd.prog.follows .mixedOrders = true := by decide +kernel
def within (n lo hi : Int) : Bool := decide (lo ≤ n) && decide (n ≤ hi)
open Classical in
noncomputable def spWithin : VM.Spec := { modes := [.rd, .rd, .rd], run := fun | [.int .i64 n, .int .i64 lo, .int .i64 hi] => some (.bool (within n lo hi), []) | _ => none, need := [] }
attribute [go_sem] spWithin
theorem spWithin_in {ins : List V} {r : V} {outs : List V} (h : spWithin.run ins = some (r, outs)) : ∃ (n : Int) (lo : Int) (hi : Int), ins = [.int .i64 n, .int .i64 lo, .int .i64 hi] ∧ .bool (within n lo hi) = r ∧ outs = [] := by
  unfold spWithin at h
  simp only at h
  split at h
  · rename_i n lo hi
    simp only [Option.some.injEq, Prod.mk.injEq] at h
    obtain ⟨h1, h2⟩ := h
    exact ⟨n, lo, hi, rfl, h1, h2.symm⟩
  · cases h
def T_impl_within : Hints := ⟨lk [], lk [], lk [(0, [0, 1, 2]), (1, [6])], lk []⟩
noncomputable def Phi_impl_within : Tab := lk []
attribute [go_sem] T_impl_within Phi_impl_within
theorem phi_impl_within : ∀ f sp, Phi_impl_within f = some sp → FnOk Tryd.prog f sp ∧ ∀ n ∈ sp.need, n ∈ ([] : List String) := phi_nil
theorem ok_impl_within : FnOk Tryd.prog 56 spWithin := by
  refine fn_ok (Φ := Phi_impl_within) (T := T_impl_within) phi_impl_within mixed Tryd.func56 rfl rfl rfl (by decide) ?_
  intro ins r outs hr hl
  clear hl
  have hs := spWithin_in hr
  clear hr
  obtain ⟨n, lo, hi, rfl, hr, rfl⟩ := hs
  simp only [spWithin, Tryd.f56, Go.VM.initS]
  simp only [go_sem]
  repeat' ((first | apply qa | apply qb | apply qc | apply qd | apply qe | apply qf | apply qg | apply qh | apply qi | apply qj | apply qk) <;> intro hp <;> simp only [hp, go_sem])
  all_goals (simp only [fin_mk, finV, resL, resV1, resIn, endA, listIn, Option.some_or, Option.none_or, oneOrTup, go_sem]; rw [← hr])
  all_goals simp [within, hp]
def T_spec_l01In : Hints := ⟨lk [], lk [], lk [(0, [0, 1, 2]), (1, [6])], lk []⟩
noncomputable def Phi_spec_l01In : Tab := lk []
attribute [go_sem] T_spec_l01In Phi_spec_l01In
theorem phi_spec_l01In : ∀ f sp, Phi_spec_l01In f = some sp → FnOk Tryd.prog f sp ∧ ∀ n ∈ sp.need, n ∈ ([] : List String) := phi_nil
theorem ok_spec_l01In : FnOk Tryd.prog 37 spWithin := by
  refine fn_ok (Φ := Phi_spec_l01In) (T := T_spec_l01In) phi_spec_l01In mixed Tryd.func37 rfl rfl rfl (by decide) ?_
  intro ins r outs hr hl
  clear hl
  have hs := spWithin_in hr
  clear hr
  obtain ⟨n, lo, hi, rfl, hr, rfl⟩ := hs
  simp only [spWithin, Tryd.f37, Go.VM.initS]
  simp only [go_sem]
  repeat' ((first | apply qa | apply qb | apply qc | apply qd | apply qe | apply qf | apply qg | apply qh | apply qi | apply qj | apply qk) <;> intro hp <;> simp only [hp, go_sem])
  all_goals (simp only [fin_mk, finV, resL, resV1, resIn, endA, listIn, Option.some_or, Option.none_or, oneOrTup, go_sem]; rw [← hr])
  all_goals simp [within, hp]
open Classical in
noncomputable def spUid : VM.Spec := { modes := [.rd], run := fun | [.int .i64 n] => some (.bool (within n 1 9999), []) | _ => none, need := [] }
attribute [go_sem] spUid
theorem spUid_in {ins : List V} {r : V} {outs : List V} (h : spUid.run ins = some (r, outs)) : ∃ (n : Int), ins = [.int .i64 n] ∧ .bool (within n 1 9999) = r ∧ outs = [] := by
  unfold spUid at h
  simp only at h
  split at h
  · rename_i n
    simp only [Option.some.injEq, Prod.mk.injEq] at h
    obtain ⟨h1, h2⟩ := h
    exact ⟨n, rfl, h1, h2.symm⟩
  · cases h
def T_impl_isUid : Hints := ⟨lk [], lk [], lk [(0, [0]), (1, [2])], lk []⟩
noncomputable def Phi_impl_isUid : Tab := lk [(56, spWithin)]
attribute [go_sem] T_impl_isUid Phi_impl_isUid
theorem phi_impl_isUid : ∀ f sp, Phi_impl_isUid f = some sp → FnOk Tryd.prog f sp ∧ ∀ n ∈ sp.need, n ∈ ([] : List String) := phi_cons ok_impl_within (n0 rfl) (phi_nil)
theorem ok_impl_isUid : FnOk Tryd.prog 55 spUid := by
  refine fn_ok (Φ := Phi_impl_isUid) (T := T_impl_isUid) phi_impl_isUid mixed Tryd.func55 rfl rfl rfl (by decide) ?_
  intro ins r outs hr hl
  clear hl
  have hs := spUid_in hr
  clear hr
  obtain ⟨n, rfl, hr, rfl⟩ := hs
  simp only [spUid, Tryd.f55, Go.VM.initS]
  simp only [go_sem]
  simp only [fin_mk, finV, resL, resV1, resIn, endA, listIn, Option.some_or, Option.none_or, oneOrTup, go_sem]
  rw [← hr]
open Classical in
noncomputable def spMod : VM.Spec := { modes := [.rd], run := fun | [.int .i64 n] => some (.bool (within n 1 100000), []) | _ => none, need := [] }
attribute [go_sem] spMod
def low (c : UInt8) : Bool := within (c.toNat : Int) 97 122
def boxName (s : List UInt8) : Bool := s.all low && within s.length 1 8
theorem boxName_bad {s : List UInt8} {i : Nat} (h : i < s.length) (hb : low s[i] = false) : boxName s = false := by
  have : s.all low = false := List.all_eq_false.2 ⟨s[i], List.getElem_mem h, by simp [hb]⟩
  rw [boxName, this]; rfl
theorem boxName_end {s : List UInt8} {i : Nat} (h : s.length ≤ i) (ha : (s.take i).all low = true) : boxName s = within s.length 1 8 := by
  rw [List.take_of_length_le h] at ha
  rw [boxName, ha]; rfl
theorem all_take_succ {α : Type} {s : List α} {p : α → Bool} {i : Nat} (h : i < s.length) (ha : (s.take i).all p = true) (hb : p s[i] = true) : (s.take (i + 1)).all p = true := by
  rw [take_succ' h, List.all_append, ha]; simp [hb]
theorem byte_wrap (c : UInt8) : IntKind.i64.wrap ((c.toNat : Nat) : Int) = c.toNat := wrap64 (by omega) (by have := c.toNat_lt; omega)
open Classical in
noncomputable def spBoxName : VM.Spec := { modes := [.rd], run := fun | [.str s] => if s.length ≤ 1099511627776 then some (.bool (boxName s), []) else none | _ => none, need := [] }
attribute [go_sem] spBoxName
theorem spBoxName_in {ins : List V} {r : V} {outs : List V} (h : spBoxName.run ins = some (r, outs)) : ∃ (s : (List UInt8)), ins = [.str s] ∧ (s.length ≤ 1099511627776) ∧ .bool (boxName s) = r ∧ outs = [] := by
  unfold spBoxName at h
  simp only at h
  split at h
  · rename_i s
    split at h
    case isFalse => cases h
    rename_i hc
    simp only [Option.some.injEq, Prod.mk.injEq] at h
    obtain ⟨h1, h2⟩ := h
    exact ⟨s, rfl, hc, h1, h2.symm⟩
  · cases h
def T_impl_BoxName : Hints := ⟨lk [], lk [(2, [0, 5, 6])], lk [(0, [0]), (1, [0, 5, 6]), (2, [0, 5, 6, 7]), (3, [0, 3, 5, 6]), (4, [0, 5, 6, 14]), (5, [2]), (6, [0, 5, 6]), (7, [2])], lk []⟩
noncomputable def Phi_impl_BoxName : Tab := lk [(56, spWithin)]
attribute [go_sem] T_impl_BoxName Phi_impl_BoxName
theorem phi_impl_BoxName : ∀ f sp, Phi_impl_BoxName f = some sp → FnOk Tryd.prog f sp ∧ ∀ n ∈ sp.need, n ∈ ([] : List String) := phi_cons ok_impl_within (n0 rfl) (phi_nil)
theorem ok_impl_BoxName : FnOk Tryd.prog 57 spBoxName := by
  refine fn_ok (Φ := Phi_impl_BoxName) (T := T_impl_BoxName) phi_impl_BoxName mixed Tryd.func57 rfl rfl rfl (by decide) ?_
  intro ins r outs hr hl
  clear hl
  have hs := spBoxName_in hr
  clear hr
  obtain ⟨s, rfl, hc, hr, rfl⟩ := hs
  simp only [spBoxName, Tryd.f57, Go.VM.initS]
  simp only [go_sem]
  refine loop_go (fun i : Nat => [(6, .int .i64 (i : Int))]) (fun _ => []) (fun i => s.length - i) (fun i => i ≤ s.length ∧ (s.take i).all low = true) 0 ⟨Nat.zero_le _, rfl⟩ rfl rfl ?_
  intro i ⟨hi, ha⟩ ih
  rcases Nat.lt_or_ge i s.length with h | h
  · have g1 : (i : Int) < s.length := by omega
    have g2 : (0 : Int) ≤ i := by omega
    have g3 : s[i]? = some s[i] := List.getElem?_eq_getElem h
    have g5 := wrap_succ h (by omega)
    simp only [g1, g2, g3, g5, byte_wrap, go_sem]
    repeat' ((first | apply qa | apply qb | apply qc | apply qd | apply qe | apply qf | apply qg | apply qh | apply qi | apply qj | apply qk) <;> intro hp <;> simp only [hp, g1, g2, g3, g5, byte_wrap, go_sem])
    · simp only [fin_mk, finV, resL, resV1, resIn, endA, listIn, Option.some_or, Option.none_or, oneOrTup, go_sem]
      rw [← hr]
      rw [boxName_bad h (by simpa [low] using hp)]
    · exact ih (i + 1) ⟨h, all_take_succ h ha (by simpa [low] using hp)⟩ (by omega)
  · have g1 : ¬ (i : Int) < s.length := by omega
    simp only [g1, go_sem]
    simp only [fin_mk, finV, resL, resV1, resIn, endA, listIn, Option.some_or, Option.none_or, oneOrTup, go_sem]
    rw [← hr]
    rw [boxName_end h ha]
def T_spec_BoxName : Hints := ⟨lk [], lk [(2, [0, 3])], lk [(0, [0]), (1, [0, 3]), (2, [0, 3, 7]), (4, [0, 3, 19]), (5, [2]), (3, [0, 3]), (6, [2])], lk []⟩
noncomputable def Phi_spec_BoxName : Tab := lk [(37, spWithin)]
attribute [go_sem] T_spec_BoxName Phi_spec_BoxName
theorem phi_spec_BoxName : ∀ f sp, Phi_spec_BoxName f = some sp → FnOk Tryd.prog f sp ∧ ∀ n ∈ sp.need, n ∈ ([] : List String) := phi_cons ok_spec_l01In (n0 rfl) (phi_nil)
theorem ok_spec_BoxName : FnOk Tryd.prog 36 spBoxName := by
  refine fn_ok (Φ := Phi_spec_BoxName) (T := T_spec_BoxName) phi_spec_BoxName mixed Tryd.func36 rfl rfl rfl (by decide) ?_
  intro ins r outs hr hl
  clear hl
  have hs := spBoxName_in hr
  clear hr
  obtain ⟨s, rfl, hc, hr, rfl⟩ := hs
  simp only [spBoxName, Tryd.f36, Go.VM.initS]
  simp only [go_sem]
  refine loop_go (fun i : Nat => [(3, .int .i64 (i : Int))]) (fun _ => []) (fun i => s.length - i) (fun i => i ≤ s.length ∧ (s.take i).all low = true) 0 ⟨Nat.zero_le _, rfl⟩ rfl rfl ?_
  intro i ⟨hi, ha⟩ ih
  rcases Nat.lt_or_ge i s.length with h | h
  · have g1 : (i : Int) < s.length := by omega
    have g2 : (0 : Int) ≤ i := by omega
    have g3 : s[i]? = some s[i] := List.getElem?_eq_getElem h
    have g5 := wrap_succ h (by omega)
    simp only [g1, g2, g3, g5, byte_wrap, go_sem]
    repeat' ((first | apply qa | apply qb | apply qc | apply qd | apply qe | apply qf | apply qg | apply qh | apply qi | apply qj | apply qk) <;> intro hp <;> simp only [hp, g1, g2, g3, g5, byte_wrap, go_sem])
    all_goals first
      | (refine fin_mk.2 ?_; simp only [fin_mk, finV, resL, resV1, resIn, endA, listIn, Option.some_or, Option.none_or, oneOrTup, go_sem]; rw [← hr, boxName_bad h (by clear ih; simp only [low, within, Bool.and_eq_false_iff, decide_eq_false_iff_not]; simp_all <;> omega)])
      | exact ih (i + 1) ⟨h, all_take_succ h ha (by clear ih; simp only [low, within, Bool.and_eq_true, decide_eq_true_eq]; simp_all <;> omega)⟩ (by omega)
  · have g1 : ¬ (i : Int) < s.length := by omega
    simp only [g1, go_sem]
    simp only [fin_mk, finV, resL, resV1, resIn, endA, listIn, Option.some_or, Option.none_or, oneOrTup, go_sem]
    rw [← hr]
    rw [boxName_end h ha]
end Go.Proofs.YtghmjnggmacohaaDoor.L
