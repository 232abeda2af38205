/- Contracts of functions, and the facts that they need. No condition. -/
import Derived.Test.YtghmjnggmacohaaGreatDoorVFacts
import Derived.Test.YtghmjnggmacohaaGreatDoorProg
import Derived.KernelRfl
import Derived.Test.YtghmjnggmacohaaGreatDoorVmCur
namespace Go.Proofs.YtghmjnggmacohaaGreatDoor.L
open Go Go.VM
set_option maxRecDepth 100000
set_option linter.unusedSimpArgs false
set_option linter.unusedVariables false
theorem mixed : Tryz.prog.follows .mixedOrders = true := by decide +kernel
def within (n lo hi : Int) : Bool := decide (lo ≤ n) && decide (n ≤ hi)
open Classical in
noncomputable def spWithin : VM.Spec := { modes := [.rd, .rd, .rd], run := fun | [.int .i64 n, .int .i64 lo, .int .i64 hi] => some (.bool (within n lo hi), []) | _ => none, need := [] }
attribute [go_sem] spWithin
theorem spWithin_in {ins : List V} {r : V} {outs : List V} (h : spWithin.run ins = some (r, outs)) : ∃ (n : Int) (lo : Int) (hi : Int), ins = [.int .i64 n, .int .i64 lo, .int .i64 hi] ∧ .bool (within n lo hi) = r ∧ outs = [] := by
  unfold spWithin at h
  simp only at h
  split at h
  · rename_i n lo hi
    simp only [Option.some.injEq, Prod.mk.injEq] at h
    obtain ⟨h1, h2⟩ := h
    exact ⟨n, lo, hi, rfl, h1, h2.symm⟩
  · cases h
def T_impl_within : Hints := ⟨lk [], lk [], lk [(0, [0, 1, 2]), (1, [6])], lk [], lf []⟩
noncomputable def Phi_impl_within : Tab := lk []
attribute [go_sem] T_impl_within Phi_impl_within
theorem phi_impl_within : ∀ f sp, Phi_impl_within f = some sp → FnOk Tryz.prog f sp ∧ ∀ n ∈ sp.need, n ∈ ([] : List String) := phi_nil
theorem ok_impl_within : FnOk Tryz.prog 83 spWithin := by
  refine fn_ok (Φ := Phi_impl_within) (T := T_impl_within) phi_impl_within mixed Tryz.func83 rfl rfl rfl (by decide) ?_
  intro ins r outs hr hl
  clear hl
  have hs := spWithin_in hr
  clear hr
  obtain ⟨n, lo, hi, rfl, hr, rfl⟩ := hs
  simp only [spWithin, Tryz.f83, Go.VM.initS]
  simp only [go_sem]
  repeat' ((first | apply qa | apply qb | apply qc | apply qd | apply qe | apply qf | apply qg | apply qh | apply qi | apply qj | apply qk) <;> intro hp <;> simp only [hp, go_sem])
  all_goals (simp only [fin_mk, finV, resL, resV1, resIn, endA, listIn, Option.some_or, Option.none_or, oneOrTup, go_sem]; rw [← hr])
  all_goals simp [within, hp]
def T_spec_l01In : Hints := ⟨lk [], lk [], lk [(0, [0, 1, 2]), (1, [6])], lk [], lf []⟩
noncomputable def Phi_spec_l01In : Tab := lk []
attribute [go_sem] T_spec_l01In Phi_spec_l01In
theorem phi_spec_l01In : ∀ f sp, Phi_spec_l01In f = some sp → FnOk Tryz.prog f sp ∧ ∀ n ∈ sp.need, n ∈ ([] : List String) := phi_nil
theorem ok_spec_l01In : FnOk Tryz.prog 51 spWithin := by
  refine fn_ok (Φ := Phi_spec_l01In) (T := T_spec_l01In) phi_spec_l01In mixed Tryz.func51 rfl rfl rfl (by decide) ?_
  intro ins r outs hr hl
  clear hl
  have hs := spWithin_in hr
  clear hr
  obtain ⟨n, lo, hi, rfl, hr, rfl⟩ := hs
  simp only [spWithin, Tryz.f51, Go.VM.initS]
  simp only [go_sem]
  repeat' ((first | apply qa | apply qb | apply qc | apply qd | apply qe | apply qf | apply qg | apply qh | apply qi | apply qj | apply qk) <;> intro hp <;> simp only [hp, go_sem])
  all_goals (simp only [fin_mk, finV, resL, resV1, resIn, endA, listIn, Option.some_or, Option.none_or, oneOrTup, go_sem]; rw [← hr])
  all_goals simp [within, hp]
open Classical in
noncomputable def spUid : VM.Spec := { modes := [.rd], run := fun | [.int .i64 n] => some (.bool (within n 1 9999), []) | _ => none, need := [] }
attribute [go_sem] spUid
theorem spUid_in {ins : List V} {r : V} {outs : List V} (h : spUid.run ins = some (r, outs)) : ∃ (n : Int), ins = [.int .i64 n] ∧ .bool (within n 1 9999) = r ∧ outs = [] := by
  unfold spUid at h
  simp only at h
  split at h
  · rename_i n
    simp only [Option.some.injEq, Prod.mk.injEq] at h
    obtain ⟨h1, h2⟩ := h
    exact ⟨n, rfl, h1, h2.symm⟩
  · cases h
def T_impl_isUid : Hints := ⟨lk [], lk [], lk [(0, [0]), (1, [2])], lk [], lf []⟩
noncomputable def Phi_impl_isUid : Tab := lk [(83, spWithin)]
attribute [go_sem] T_impl_isUid Phi_impl_isUid
theorem phi_impl_isUid : ∀ f sp, Phi_impl_isUid f = some sp → FnOk Tryz.prog f sp ∧ ∀ n ∈ sp.need, n ∈ ([] : List String) := phi_cons ok_impl_within (n0 rfl) (phi_nil)
theorem ok_impl_isUid : FnOk Tryz.prog 82 spUid := by
  refine fn_ok (Φ := Phi_impl_isUid) (T := T_impl_isUid) phi_impl_isUid mixed Tryz.func82 rfl rfl rfl (by decide) ?_
  intro ins r outs hr hl
  clear hl
  have hs := spUid_in hr
  clear hr
  obtain ⟨n, rfl, hr, rfl⟩ := hs
  simp only [spUid, Tryz.f82, Go.VM.initS]
  simp only [go_sem]
  simp only [fin_mk, finV, resL, resV1, resIn, endA, listIn, Option.some_or, Option.none_or, oneOrTup, go_sem]
  rw [← hr]
open Classical in
noncomputable def spMod : VM.Spec := { modes := [.rd], run := fun | [.int .i64 n] => some (.bool (within n 1 100000), []) | _ => none, need := [] }
attribute [go_sem] spMod
def low (c : UInt8) : Bool := within (c.toNat : Int) 97 122
def boxName (s : List UInt8) : Bool := s.all low && within s.length 1 8
theorem boxName_bad {s : List UInt8} {i : Nat} (h : i < s.length) (hb : low s[i] = false) : boxName s = false := by
  have : s.all low = false := List.all_eq_false.2 ⟨s[i], List.getElem_mem h, by simp [hb]⟩
  rw [boxName, this]; rfl
theorem boxName_end {s : List UInt8} {i : Nat} (h : s.length ≤ i) (ha : (s.take i).all low = true) : boxName s = within s.length 1 8 := by
  rw [List.take_of_length_le h] at ha
  rw [boxName, ha]; rfl
theorem all_take_succ {α : Type} {s : List α} {p : α → Bool} {i : Nat} (h : i < s.length) (ha : (s.take i).all p = true) (hb : p s[i] = true) : (s.take (i + 1)).all p = true := by
  rw [take_succ' h, List.all_append, ha]; simp [hb]
theorem byte_wrap (c : UInt8) : IntKind.i64.wrap ((c.toNat : Nat) : Int) = c.toNat := wrap64 (by omega) (by have := c.toNat_lt; omega)
open Classical in
noncomputable def spBoxName : VM.Spec := { modes := [.rd], run := fun | [.str s] => if s.length ≤ 1099511627776 then some (.bool (boxName s), []) else none | _ => none, need := [] }
attribute [go_sem] spBoxName
theorem spBoxName_in {ins : List V} {r : V} {outs : List V} (h : spBoxName.run ins = some (r, outs)) : ∃ (s : (List UInt8)), ins = [.str s] ∧ (s.length ≤ 1099511627776) ∧ .bool (boxName s) = r ∧ outs = [] := by
  unfold spBoxName at h
  simp only at h
  split at h
  · rename_i s
    split at h
    case isFalse => cases h
    rename_i hc
    simp only [Option.some.injEq, Prod.mk.injEq] at h
    obtain ⟨h1, h2⟩ := h
    exact ⟨s, rfl, hc, h1, h2.symm⟩
  · cases h
def T_impl_BoxName : Hints := ⟨lk [], lk [(2, [0, 5, 6])], lk [(0, [0]), (1, [0, 5, 6]), (2, [0, 5, 6, 7]), (3, [0, 3, 5, 6]), (4, [0, 5, 6, 14]), (5, [2]), (6, [0, 5, 6]), (7, [2])], lk [], lf []⟩
noncomputable def Phi_impl_BoxName : Tab := lk [(83, spWithin)]
attribute [go_sem] T_impl_BoxName Phi_impl_BoxName
theorem phi_impl_BoxName : ∀ f sp, Phi_impl_BoxName f = some sp → FnOk Tryz.prog f sp ∧ ∀ n ∈ sp.need, n ∈ ([] : List String) := phi_cons ok_impl_within (n0 rfl) (phi_nil)
theorem ok_impl_BoxName : FnOk Tryz.prog 84 spBoxName := by
  refine fn_ok (Φ := Phi_impl_BoxName) (T := T_impl_BoxName) phi_impl_BoxName mixed Tryz.func84 rfl rfl rfl (by decide) ?_
  intro ins r outs hr hl
  clear hl
  have hs := spBoxName_in hr
  clear hr
  obtain ⟨s, rfl, hc, hr, rfl⟩ := hs
  simp only [spBoxName, Tryz.f84, Go.VM.initS]
  simp only [go_sem]
  refine loop_go (fun i : Nat => [(6, .int .i64 (i : Int))]) (fun _ => []) (fun i => s.length - i) (fun i => i ≤ s.length ∧ (s.take i).all low = true) 0 ⟨Nat.zero_le _, rfl⟩ rfl rfl ?_
  intro i ⟨hi, ha⟩ ih
  rcases Nat.lt_or_ge i s.length with h | h
  · have g1 : (i : Int) < s.length := by omega
    have g2 : (0 : Int) ≤ i := by omega
    have g3 : s[i]? = some s[i] := List.getElem?_eq_getElem h
    have g5 := wrap_succ h (by omega)
    simp only [g1, g2, g3, g5, byte_wrap, go_sem]
    repeat' ((first | apply qa | apply qb | apply qc | apply qd | apply qe | apply qf | apply qg | apply qh | apply qi | apply qj | apply qk) <;> intro hp <;> simp only [hp, g1, g2, g3, g5, byte_wrap, go_sem])
    · simp only [fin_mk, finV, resL, resV1, resIn, endA, listIn, Option.some_or, Option.none_or, oneOrTup, go_sem]
      rw [← hr]
      rw [boxName_bad h (by simpa [low] using hp)]
    · exact ih (i + 1) ⟨h, all_take_succ h ha (by simpa [low] using hp)⟩ (by omega)
  · have g1 : ¬ (i : Int) < s.length := by omega
    simp only [g1, go_sem]
    simp only [fin_mk, finV, resL, resV1, resIn, endA, listIn, Option.some_or, Option.none_or, oneOrTup, go_sem]
    rw [← hr]
    rw [boxName_end h ha]
def T_spec_BoxName : Hints := ⟨lk [], lk [(2, [0, 3])], lk [(0, [0]), (1, [0, 3]), (2, [0, 3, 7]), (4, [0, 3, 19]), (5, [2]), (3, [0, 3]), (6, [2])], lk [], lf []⟩
noncomputable def Phi_spec_BoxName : Tab := lk [(51, spWithin)]
attribute [go_sem] T_spec_BoxName Phi_spec_BoxName
theorem phi_spec_BoxName : ∀ f sp, Phi_spec_BoxName f = some sp → FnOk Tryz.prog f sp ∧ ∀ n ∈ sp.need, n ∈ ([] : List String) := phi_cons ok_spec_l01In (n0 rfl) (phi_nil)
theorem ok_spec_BoxName : FnOk Tryz.prog 50 spBoxName := by
  refine fn_ok (Φ := Phi_spec_BoxName) (T := T_spec_BoxName) phi_spec_BoxName mixed Tryz.func50 rfl rfl rfl (by decide) ?_
  intro ins r outs hr hl
  clear hl
  have hs := spBoxName_in hr
  clear hr
  obtain ⟨s, rfl, hc, hr, rfl⟩ := hs
  simp only [spBoxName, Tryz.f50, Go.VM.initS]
  simp only [go_sem]
  refine loop_go (fun i : Nat => [(3, .int .i64 (i : Int))]) (fun _ => []) (fun i => s.length - i) (fun i => i ≤ s.length ∧ (s.take i).all low = true) 0 ⟨Nat.zero_le _, rfl⟩ rfl rfl ?_
  intro i ⟨hi, ha⟩ ih
  rcases Nat.lt_or_ge i s.length with h | h
  · have g1 : (i : Int) < s.length := by omega
    have g2 : (0 : Int) ≤ i := by omega
    have g3 : s[i]? = some s[i] := List.getElem?_eq_getElem h
    have g5 := wrap_succ h (by omega)
    simp only [g1, g2, g3, g5, byte_wrap, go_sem]
    repeat' ((first | apply qa | apply qb | apply qc | apply qd | apply qe | apply qf | apply qg | apply qh | apply qi | apply qj | apply qk) <;> intro hp <;> simp only [hp, g1, g2, g3, g5, byte_wrap, go_sem])
    all_goals first
      | (refine fin_mk.2 ?_; simp only [fin_mk, finV, resL, resV1, resIn, endA, listIn, Option.some_or, Option.none_or, oneOrTup, go_sem]; rw [← hr, boxName_bad h (by clear ih; simp only [low, within, Bool.and_eq_false_iff, decide_eq_false_iff_not]; simp_all <;> omega)])
      | exact ih (i + 1) ⟨h, all_take_succ h ha (by clear ih; simp only [low, within, Bool.and_eq_true, decide_eq_true_eq]; simp_all <;> omega)⟩ (by omega)
  · have g1 : ¬ (i : Int) < s.length := by omega
    simp only [g1, go_sem]
    simp only [fin_mk, finV, resL, resV1, resIn, endA, listIn, Option.some_or, Option.none_or, oneOrTup, go_sem]
    rw [← hr]
    rw [boxName_end h ha]
end Go.Proofs.YtghmjnggmacohaaGreatDoor.L

namespace Go.Proofs.YtghmjnggmacohaaGreatDoor.L
open Go Go.VM
set_option maxRecDepth 100000
set_option maxHeartbeats 4000000
set_option linter.unusedSimpArgs false
set_option linter.unusedVariables false
def flagsOk (n : Int) : Bool := within n 0 31
open Classical in
noncomputable def spFlagsOk : VM.Spec := { modes := [.rd], run := fun | [.int .i64 n] => some (.bool (flagsOk n), []) | _ => none, need := [] }
attribute [go_sem] spFlagsOk
theorem spFlagsOk_in {ins : List V} {r : V} {outs : List V} (h : spFlagsOk.run ins = some (r, outs)) : ∃ (n : Int), ins = [.int .i64 n] ∧ .bool (flagsOk n) = r ∧ outs = [] := by
  unfold spFlagsOk at h
  simp only at h
  split at h
  · rename_i n
    simp only [Option.some.injEq, Prod.mk.injEq] at h
    obtain ⟨h1, h2⟩ := h
    exact ⟨n, rfl, h1, h2.symm⟩
  · cases h
def T_impl_FlagsOk : Hints := ⟨lk [], lk [], lk [(0, [0]), (1, [2])], lk [], lf []⟩
noncomputable def Phi_impl_FlagsOk : Tab := lk [(83, spWithin)]
attribute [go_sem] T_impl_FlagsOk Phi_impl_FlagsOk
theorem phi_impl_FlagsOk : ∀ f sp, Phi_impl_FlagsOk f = some sp → FnOk Tryz.prog f sp ∧ ∀ n ∈ sp.need, n ∈ ([] : List String) := phi_cons ok_impl_within (n0 rfl) (phi_nil)
theorem ok_impl_FlagsOk : FnOk Tryz.prog 98 spFlagsOk := by
  refine fn_ok (Φ := Phi_impl_FlagsOk) (T := T_impl_FlagsOk) phi_impl_FlagsOk mixed Tryz.func98 rfl rfl rfl (by decide) ?_
  intro ins r outs hr hl
  clear hl
  have hs := spFlagsOk_in hr
  clear hr
  obtain ⟨n, rfl, hr, rfl⟩ := hs
  simp only [spFlagsOk, Tryz.f98, Go.VM.initS]
  simp only [go_sem]
  simp only [fin_mk, finV, resL, resV1, resIn, endA, listIn, Option.some_or, Option.none_or, oneOrTup, go_sem]
  rw [← hr]
  rfl
def T_spec_FlagsOk : Hints := ⟨lk [], lk [], lk [(0, [0]), (1, [2])], lk [], lf []⟩
noncomputable def Phi_spec_FlagsOk : Tab := lk [(51, spWithin)]
attribute [go_sem] T_spec_FlagsOk Phi_spec_FlagsOk
theorem phi_spec_FlagsOk : ∀ f sp, Phi_spec_FlagsOk f = some sp → FnOk Tryz.prog f sp ∧ ∀ n ∈ sp.need, n ∈ ([] : List String) := phi_cons ok_spec_l01In (n0 rfl) (phi_nil)
theorem ok_spec_FlagsOk : FnOk Tryz.prog 52 spFlagsOk := by
  refine fn_ok (Φ := Phi_spec_FlagsOk) (T := T_spec_FlagsOk) phi_spec_FlagsOk mixed Tryz.func52 rfl rfl rfl (by decide) ?_
  intro ins r outs hr hl
  clear hl
  have hs := spFlagsOk_in hr
  clear hr
  obtain ⟨n, rfl, hr, rfl⟩ := hs
  simp only [spFlagsOk, Tryz.f52, Go.VM.initS]
  simp only [go_sem]
  simp only [fin_mk, finV, resL, resV1, resIn, endA, listIn, Option.some_or, Option.none_or, oneOrTup, go_sem]
  rw [← hr]
  rfl
theorem ok_internal_bytealg_IndexByteString : FnOk Tryz.prog 136 spIndexByte :=
  indexByte_ext Tryz.func136 (by kernel_rfl) (by kernel_rfl) (by kernel_rfl) (by kernel_rfl)
def T_internal_stringslite_IndexByte : Hints := ⟨lk [], lk [], lk [(0, [0, 1]), (1, [4])], lk [], lf []⟩
noncomputable def Phi_internal_stringslite_IndexByte : Tab := lk [(136, spIndexByte)]
attribute [go_sem] T_internal_stringslite_IndexByte Phi_internal_stringslite_IndexByte
theorem phi_internal_stringslite_IndexByte : ∀ f sp, Phi_internal_stringslite_IndexByte f = some sp → FnOk Tryz.prog f sp ∧ ∀ n ∈ sp.need, n ∈ ([] : List String) := phi_cons ok_internal_bytealg_IndexByteString (n0 rfl) (phi_nil)
theorem ok_internal_stringslite_IndexByte : FnOk Tryz.prog 129 spIndexByte := by
  refine fn_ok (Φ := Phi_internal_stringslite_IndexByte) (T := T_internal_stringslite_IndexByte) phi_internal_stringslite_IndexByte mixed Tryz.func129 rfl rfl rfl (by decide) ?_
  intro ins r outs hr hl
  clear hl
  have hs := spIndexByte_in hr
  clear hr
  obtain ⟨s, c, rfl, hr, rfl⟩ := hs
  simp only [spIndexByte, Tryz.f129, Go.VM.initS]
  simp only [go_sem]
  simp only [fin_mk, finV, resL, resV1, resIn, endA, listIn, Option.some_or, Option.none_or, oneOrTup, go_sem]
  rw [← hr]
def T_strings_IndexByte : Hints := ⟨lk [], lk [], lk [(0, [0, 1]), (1, [4])], lk [], lf []⟩
noncomputable def Phi_strings_IndexByte : Tab := lk [(129, spIndexByte)]
attribute [go_sem] T_strings_IndexByte Phi_strings_IndexByte
theorem phi_strings_IndexByte : ∀ f sp, Phi_strings_IndexByte f = some sp → FnOk Tryz.prog f sp ∧ ∀ n ∈ sp.need, n ∈ ([] : List String) := phi_cons ok_internal_stringslite_IndexByte (n0 rfl) (phi_nil)
theorem ok_strings_IndexByte : FnOk Tryz.prog 114 spIndexByte := by
  refine fn_ok (Φ := Phi_strings_IndexByte) (T := T_strings_IndexByte) phi_strings_IndexByte mixed Tryz.func114 rfl rfl rfl (by decide) ?_
  intro ins r outs hr hl
  clear hl
  have hs := spIndexByte_in hr
  clear hr
  obtain ⟨s, c, rfl, hr, rfl⟩ := hs
  simp only [spIndexByte, Tryz.f114, Go.VM.initS]
  simp only [go_sem]
  simp only [fin_mk, finV, resL, resV1, resIn, endA, listIn, Option.some_or, Option.none_or, oneOrTup, go_sem]
  rw [← hr]
def mailOk (s : List UInt8) : Bool := within s.length 1 200 && !s.contains 0
open Classical in
noncomputable def spMailOk : VM.Spec := { modes := [.rd], run := fun | [.str s] => if s.length ≤ 4194304 then some (.bool (mailOk s), []) else none | _ => none, need := [] }
attribute [go_sem] spMailOk
theorem spMailOk_in {ins : List V} {r : V} {outs : List V} (h : spMailOk.run ins = some (r, outs)) : ∃ (s : (List UInt8)), ins = [.str s] ∧ (s.length ≤ 4194304) ∧ .bool (mailOk s) = r ∧ outs = [] := by
  unfold spMailOk at h
  simp only at h
  split at h
  · rename_i s
    split at h
    case isFalse => cases h
    rename_i hc
    simp only [Option.some.injEq, Prod.mk.injEq] at h
    obtain ⟨h1, h2⟩ := h
    exact ⟨s, rfl, hc, h1, h2.symm⟩
  · cases h
def T_impl_MailOk : Hints := ⟨lk [], lk [], lk [(0, [0]), (1, [2])], lk [], lf []⟩
noncomputable def Phi_impl_MailOk : Tab := lk [(83, spWithin), (114, spIndexByte)]
attribute [go_sem] T_impl_MailOk Phi_impl_MailOk
theorem phi_impl_MailOk : ∀ f sp, Phi_impl_MailOk f = some sp → FnOk Tryz.prog f sp ∧ ∀ n ∈ sp.need, n ∈ ([] : List String) := phi_cons ok_impl_within (n0 rfl) (phi_cons ok_strings_IndexByte (n0 rfl) (phi_nil))
theorem ok_impl_MailOk : FnOk Tryz.prog 99 spMailOk := by
  refine fn_ok (Φ := Phi_impl_MailOk) (T := T_impl_MailOk) phi_impl_MailOk mixed Tryz.func99 rfl rfl rfl (by decide) ?_
  intro ins r outs hr hl
  clear hl
  have hs := spMailOk_in hr
  clear hr
  obtain ⟨s, rfl, hc, hr, rfl⟩ := hs
  simp only [spMailOk, Tryz.f99, Go.VM.initS]
  have e : decide (Lib.indexByte s (Nat.toUInt8 0) < 0) = !s.contains 0 := by
    by_cases hm : (0 : UInt8) ∈ s
    · have : ¬ Lib.indexByte s 0 < 0 := fun h => (indexByte_neg s 0).1 h hm
      simp [this, hm]
    · have := (indexByte_neg s 0).2 hm
      simp [this, hm]
  simp only [e, go_sem]
  repeat' ((first | apply qa | apply qb | apply qc | apply qd | apply qe | apply qf | apply qg | apply qh | apply qi | apply qj | apply qk) <;> intro hp <;> simp only [hp, e, go_sem])
  all_goals (simp only [fin_mk, finV, resL, resV1, resIn, endA, listIn, Option.some_or, Option.none_or, oneOrTup, go_sem]; rw [← hr])
  all_goals simp only [mailOk, hp, Bool.true_and, Bool.false_and]
def T_spec_MailOk : Hints := ⟨lk [], lk [(2, [0, 3])], lk [(0, [0]), (1, [0, 3]), (2, [0, 3, 7]), (4, [0, 3, 13]), (5, [2]), (3, [0, 3]), (6, [2])], lk [], lf []⟩
noncomputable def Phi_spec_MailOk : Tab := lk [(51, spWithin)]
attribute [go_sem] T_spec_MailOk Phi_spec_MailOk
theorem phi_spec_MailOk : ∀ f sp, Phi_spec_MailOk f = some sp → FnOk Tryz.prog f sp ∧ ∀ n ∈ sp.need, n ∈ ([] : List String) := phi_cons ok_spec_l01In (n0 rfl) (phi_nil)
theorem ok_spec_MailOk : FnOk Tryz.prog 53 spMailOk := by
  refine fn_ok (Φ := Phi_spec_MailOk) (T := T_spec_MailOk) phi_spec_MailOk mixed Tryz.func53 rfl rfl rfl (by decide) ?_
  intro ins r outs hr hl
  clear hl
  have hs := spMailOk_in hr
  clear hr
  obtain ⟨s, rfl, hc, hr, rfl⟩ := hs
  simp only [spMailOk, Tryz.f53, Go.VM.initS]
  simp only [go_sem]
  refine loop_go (fun i : Nat => [(3, .int .i64 (i : Int))]) (fun _ => []) (fun i => s.length - i) (fun i => i ≤ s.length ∧ (s.take i).contains 0 = false) 0 ⟨Nat.zero_le _, by simp⟩ rfl rfl ?_
  intro i ⟨hi, ha⟩ ih
  rcases Nat.lt_or_ge i s.length with h | h
  · have g1 : (i : Int) < s.length := by omega
    have g2 : (0 : Int) ≤ i := by omega
    have g3 : s[i]? = some s[i] := List.getElem?_eq_getElem h
    have g5 := wrap_succ h (by omega)
    by_cases hz : s[i] = 0
    · have e : ((s[i].toNat : Int) == 0) = true := by rw [hz]; rfl
      simp only [g1, g2, g3, g5, e, go_sem]
      repeat' ((first | apply qa | apply qb | apply qc | apply qd | apply qe | apply qf | apply qg | apply qh | apply qi | apply qj | apply qk) <;> intro hp <;> simp only [hp, g1, g2, g3, g5, e, go_sem])
      simp only [fin_mk, finV, resL, resV1, resIn, endA, listIn, Option.some_or, Option.none_or, oneOrTup, go_sem]
      rw [← hr]
      have : s.contains 0 = true := by rw [List.contains_iff_mem]; exact hz ▸ List.getElem_mem h
      rw [mailOk, this, Bool.not_true, Bool.and_false]
    · have e : ((s[i].toNat : Int) == 0) = false := by
        rw [beq_eq_false_iff_ne]
        intro hh
        exact hz (UInt8.toNat_inj.1 (by simpa using hh))
      simp only [g1, g2, g3, g5, e, go_sem]
      repeat' ((first | apply qa | apply qb | apply qc | apply qd | apply qe | apply qf | apply qg | apply qh | apply qi | apply qj | apply qk) <;> intro hp <;> simp only [hp, g1, g2, g3, g5, e, go_sem])
      refine ih (i + 1) ⟨h, ?_⟩ (by omega)
      rw [take_succ' h]
      simp only [List.contains_eq_mem, List.mem_append, List.mem_singleton, decide_eq_false_iff_not, not_or] at ha ⊢
      exact ⟨ha, fun hh => hz hh.symm⟩
  · have g1 : ¬ (i : Int) < s.length := by omega
    simp only [g1, go_sem]
    simp only [fin_mk, finV, resL, resV1, resIn, endA, listIn, Option.some_or, Option.none_or, oneOrTup, go_sem]
    rw [← hr]
    rw [List.take_of_length_le h] at ha
    rw [mailOk, ha, Bool.not_false, Bool.and_true]
def rangeAt (x : List Range) (i : Nat) : Bool := within (x.getD i default).Lo 1 9999 && within (x.getD i default).Hi (x.getD i default).Lo 9999 && (i == 0 || decide ((x.getD (i - 1) default).Hi + 1 < (x.getD i default).Lo))
def setOk (x : List Range) : Bool := allN x.length (rangeAt x) && decide (x.length ≤ 40)
theorem rangeAt_hi {x : List Range} {i : Nat} (h : i < x.length) (hb : rangeAt x i = true) : 1 ≤ x[i].Lo ∧ x[i].Lo ≤ x[i].Hi ∧ x[i].Hi ≤ 9999 := by
  simp only [rangeAt, getD_lt h, Bool.and_eq_true, within, decide_eq_true_eq] at hb
  omega
open Classical in
noncomputable def spSetOk : VM.Spec := { modes := [.rd], run := fun | [.lst 2 x'] => (decL Range.dec x').bind fun x => if x.length ≤ 4194304 then some (.bool (setOk x), []) else none | _ => none, need := [] }
attribute [go_sem] spSetOk
theorem spSetOk_in {ins : List V} {r : V} {outs : List V} (h : spSetOk.run ins = some (r, outs)) : ∃ (x : (List Range)), ins = [.lst 2 ((x).map Range.enc)] ∧ (x.length ≤ 4194304) ∧ .bool (setOk x) = r ∧ outs = [] := by
  unfold spSetOk at h
  simp only at h
  split at h
  · rename_i x'
    simp only [Option.bind_eq_some_iff] at h
    obtain ⟨x, h_x, h⟩ := h
    split at h
    case isFalse => cases h
    rename_i hc
    simp only [Option.some.injEq, Prod.mk.injEq] at h
    obtain ⟨h1, h2⟩ := h
    have h_x := decL_some (fun _ _ h => Range.dec_some h) h_x
    subst h_x
    exact ⟨x, rfl, hc, h1, h2.symm⟩
  · cases h
def T_spec_SetOk : Hints := ⟨lk [(4, [])], lk [(2, [0, 3])], lk [(0, [0]), (1, [0, 3]), (2, [0, 3, 7]), (4, [0, 3, 48]), (5, [2]), (3, [0, 3]), (6, [2])], lk [], lf []⟩
noncomputable def Phi_spec_SetOk : Tab := lk [(51, spWithin)]
attribute [go_sem] T_spec_SetOk Phi_spec_SetOk
theorem phi_spec_SetOk : ∀ f sp, Phi_spec_SetOk f = some sp → FnOk Tryz.prog f sp ∧ ∀ n ∈ sp.need, n ∈ ([] : List String) := phi_cons ok_spec_l01In (n0 rfl) (phi_nil)
theorem ok_spec_SetOk : FnOk Tryz.prog 94 spSetOk := by
  refine fn_ok (Φ := Phi_spec_SetOk) (T := T_spec_SetOk) phi_spec_SetOk mixed Tryz.func94 rfl rfl rfl (by decide) ?_
  intro ins r outs hr hl
  clear hl
  have hs := spSetOk_in hr
  clear hr
  obtain ⟨x, rfl, hc, hr, rfl⟩ := hs
  simp only [spSetOk, Tryz.f94, Go.VM.initS]
  simp only [go_sem]
  refine loop_go (fun i : Nat => [(3, .int .i64 (i : Int))]) (fun _ => []) (fun i => x.length - i) (fun i => i ≤ x.length ∧ ∀ j, j < i → rangeAt x j = true) 0 ⟨Nat.zero_le _, fun j hj => absurd hj (by omega)⟩ rfl rfl ?_
  intro i ⟨hi, ha⟩ ih
  rcases Nat.lt_or_ge i x.length with h | h
  · have g1 : (i : Int) < x.length := by omega
    have g2 : (0 : Int) ≤ i := by omega
    have g3 : x[i]? = some x[i] := List.getElem?_eq_getElem h
    have g5 := wrap_succ h (by omega)
    simp only [g1, g2, g3, go_sem]
    refine goes_valD 48 V.bool (!rangeAt x i) rfl rfl rfl (by decide +kernel) ?_ ?_
    · intro G hG
      clear ih hr
      rcases Nat.eq_zero_or_pos i with h0 | h0
      · have k1 : ¬ (0 : Int) < i := by omega
        have g6 : rangeAt x i = (within x[i].Lo 1 9999 && within x[i].Hi x[i].Lo 9999) := by
          have : (i == 0) = true := by simp [h0]
          simp only [rangeAt, getD_lt h, this, Bool.true_or, Bool.and_true]
        simp only [g1, g2, g3, k1, go_sem]
        repeat' ((first | ((first | apply qa | apply qb | apply qc | apply qd | apply qe | apply qf | apply qg | apply qh | apply qi | apply qj | apply qk) <;> intro hp) | ((first | refine ql rfl rfl (by decide +kernel) ?_ | refine qm _ rfl rfl (by decide +kernel) ?_) <;> have hp := True.intro)) <;> simp only [hp, g1, g2, g3, k1, go_sem])
        all_goals (refine hG _ ?_; clear hG; rw [g6]; simp_all [within] <;> omega)
      · have k1 : (0 : Int) < i := by omega
        have k2 := wrap_pred h0 (by omega)
        have k3 : (0 : Int) ≤ ((i - 1 : Nat) : Int) := by omega
        have k4 : ((i - 1 : Nat) : Int) < x.length := by omega
        have k5 : x[i - 1]? = some (x[i - 1]'(by omega)) := List.getElem?_eq_getElem (by omega)
        have k6 := rangeAt_hi (i := i - 1) (by omega) (ha (i - 1) (by omega))
        have k7 : IntKind.i64.wrap ((x[i - 1]'(by omega)).Hi + 1) = (x[i - 1]'(by omega)).Hi + 1 := wrap64 (by omega) (by omega)
        have g6 : rangeAt x i = (within x[i].Lo 1 9999 && within x[i].Hi x[i].Lo 9999 && decide ((x[i - 1]'(by omega)).Hi + 1 < x[i].Lo)) := by
          have : (i == 0) = false := by simp; omega
          simp only [rangeAt, getD_lt h, getD_lt (show i - 1 < x.length by omega), this, Bool.false_or]
        clear ha
        simp only [g1, g2, g3, k1, k2, k3, k4, k5, k7, go_sem]
        repeat' ((first | ((first | apply qa | apply qb | apply qc | apply qd | apply qe | apply qf | apply qg | apply qh | apply qi | apply qj | apply qk) <;> intro hp) | ((first | refine ql rfl rfl (by decide +kernel) ?_ | refine qm _ rfl rfl (by decide +kernel) ?_) <;> have hp := True.intro)) <;> simp only [hp, g1, g2, g3, k1, k2, k3, k4, k5, k7, go_sem])
        all_goals (refine hG _ ?_; clear hG k2 k5 k7; rw [g6]; rcases Int.lt_or_le ((x[i - 1]'(by omega)).Hi + 1) x[i].Lo with q | q <;> simp_all [within] <;> first | omega | (rw [decide_eq_false (by omega), decide_eq_true (by omega)]; rfl))
    · simp only [g5, go_sem]
      repeat' ((first | ((first | apply qa | apply qb | apply qc | apply qd | apply qe | apply qf | apply qg | apply qh | apply qi | apply qj | apply qk) <;> intro hp) | ((first | refine ql rfl rfl (by decide +kernel) ?_ | refine qm _ rfl rfl (by decide +kernel) ?_) <;> have hp := True.intro)) <;> simp only [hp, g5, go_sem])
      · simp only [fin_mk, finV, resL, resV1, resIn, endA, listIn, Option.some_or, Option.none_or, oneOrTup, go_sem]
        rw [← hr]
        rw [setOk, allN_bad h hp]; rfl
      · exact ih (i + 1) ⟨h, all_succ ha hp⟩ (by omega)
  · have g1 : ¬ (i : Int) < x.length := by omega
    simp only [g1, go_sem]
    simp only [fin_mk, finV, resL, resV1, resIn, endA, listIn, Option.some_or, Option.none_or, oneOrTup, go_sem]
    rw [← hr]
    rw [setOk, allN_all h ha, Bool.true_and]
    congr 2
    simp
    omega
end Go.Proofs.YtghmjnggmacohaaGreatDoor.L

namespace Go.Proofs.YtghmjnggmacohaaGreatDoor.L
open Go Go.VM
set_option maxRecDepth 100000
set_option maxHeartbeats 4000000
set_option linter.unusedSimpArgs false
set_option linter.unusedVariables false
def hasR (s : List Range) (n : Int) : Bool := s.any fun r => decide (r.Lo ≤ n) && decide (n ≤ r.Hi)
def push (out : List Range) (n : Int) : List Range :=
  match out.getLast? with
  | some r => if r.Hi = n - 1 then out.dropLast ++ [⟨r.Lo, n⟩] else out ++ [⟨n, n⟩]
  | none => [⟨n, n⟩]
def scan (l : List Int) : List Range := l.foldl push []
theorem scan_snoc (l : List Int) (n : Int) : scan (l ++ [n]) = push (scan l) n := by simp [scan, List.foldl_append]
theorem push_nil (n : Int) : push [] n = [⟨n, n⟩] := rfl
theorem push_snoc (a : List Range) (r : Range) (n : Int) : push (a ++ [r]) n = if r.Hi = n - 1 then a ++ [⟨r.Lo, n⟩] else a ++ [r] ++ [⟨n, n⟩] := by
  simp [push]
theorem snoc_cases {α : Type} (l : List α) : l = [] ∨ ∃ a x, l = a ++ [x] := by
  rcases List.eq_nil_or_concat l with h | ⟨a, x, h⟩
  · exact .inl h
  · exact .inr ⟨a, x, by simpa using h⟩
theorem push_len (out : List Range) (n : Int) : (push out n).length ≤ out.length + 1 := by
  rcases snoc_cases out with rfl | ⟨a, r, rfl⟩
  · simp [push_nil]
  · rw [push_snoc]; split <;> simp
theorem push_ne (out : List Range) (n : Int) : ∃ a r, push out n = a ++ [r] ∧ r.Hi = n := by
  rcases snoc_cases out with rfl | ⟨a, r, rfl⟩
  · exact ⟨[], _, rfl, rfl⟩
  · rw [push_snoc]
    split
    · exact ⟨a, _, rfl, rfl⟩
    · exact ⟨_, _, rfl, rfl⟩
theorem snoc_ind {α : Type} {P : List α → Prop} (h0 : P []) (h1 : ∀ l x, P l → P (l ++ [x])) (l : List α) : P l := by
  have : ∀ n (l : List α), l.length = n → P l := by
    intro n
    induction n with
    | zero => intro l h; rw [List.eq_nil_of_length_eq_zero h]; exact h0
    | succ n ih =>
      intro l h
      rcases snoc_cases l with rfl | ⟨a, x, rfl⟩
      · simp at h
      · exact h1 a x (ih a (by simpa using h))
  exact this _ l rfl
theorem scan_len (l : List Int) : (scan l).length ≤ l.length := by
  refine snoc_ind (P := fun l => (scan l).length ≤ l.length) (by simp [scan]) ?_ l
  intro l x ih
  rw [scan_snoc]
  have := push_len (scan l) x
  simp; omega
theorem scan_last (l : List Int) (n : Int) : ∃ a r, scan (l ++ [n]) = a ++ [r] ∧ r.Hi = n := by rw [scan_snoc]; exact push_ne _ _
def Canon (out : List Range) (m : Int) : Prop := (∀ r ∈ out, 1 ≤ r.Lo ∧ r.Lo ≤ r.Hi ∧ r.Hi ≤ m) ∧ out.Pairwise fun r t => r.Hi + 1 < t.Lo
theorem Canon.mono {out : List Range} {m k : Int} (h : Canon out m) (hk : m ≤ k) : Canon out k := ⟨fun r hr => by have := h.1 r hr; omega, h.2⟩
theorem Canon.push {out : List Range} {m n : Int} (h : Canon out m) (hm : m < n) (h1 : 1 ≤ n) : Canon (push out n) n := by
  rcases snoc_cases out with rfl | ⟨a, r, rfl⟩
  · rw [push_nil]
    exact ⟨fun r hr => by simp at hr; subst hr; exact ⟨h1, Int.le_refl _, Int.le_refl _⟩, by simp⟩
  · obtain ⟨ha, hp⟩ := h
    rw [List.pairwise_append] at hp
    have hr := ha r (by simp)
    rw [push_snoc]
    split
    · refine ⟨fun t ht => ?_, ?_⟩
      · rcases List.mem_append.1 ht with ht | ht
        · have := ha t (by simp [ht]); omega
        · simp only [List.mem_singleton] at ht; subst ht
          exact ⟨hr.1, by simp only; omega, Int.le_refl _⟩
      · rw [List.pairwise_append]
        refine ⟨hp.1, by simp, fun t ht u hu => ?_⟩
        simp only [List.mem_singleton] at hu; subst hu
        exact hp.2.2 t ht r (by simp)
    · rename_i hne
      refine ⟨fun t ht => ?_, ?_⟩
      · rcases List.mem_append.1 ht with ht | ht
        · have := ha t ht; omega
        · simp only [List.mem_singleton] at ht; subst ht
          exact ⟨h1, Int.le_refl _, Int.le_refl _⟩
      · rw [List.pairwise_append]
        refine ⟨List.pairwise_append.2 hp, by simp, fun t ht u hu => ?_⟩
        simp only [List.mem_singleton] at hu; subst hu
        simp only
        rcases List.mem_append.1 ht with ht | ht
        · have h2 := hp.2.2 t ht r (by simp)
          omega
        · simp only [List.mem_singleton] at ht; subst ht; omega
def Asc (l : List Int) (m : Int) : Prop := l.Pairwise (· < ·) ∧ ∀ x ∈ l, 1 ≤ x ∧ x ≤ m
theorem Asc.snoc {l : List Int} {x m : Int} (h : Asc (l ++ [x]) m) : Asc l (x - 1) ∧ 1 ≤ x ∧ x ≤ m := by
  obtain ⟨h1, h2⟩ := h
  rw [List.pairwise_append] at h1
  refine ⟨⟨h1.1, fun y hy => ?_⟩, h2 x (by simp)⟩
  have := h1.2.2 y hy x (by simp)
  have := h2 y (by simp [hy])
  omega
theorem scan_canon (l : List Int) : ∀ m, Asc l m → Canon (scan l) m := by
  refine snoc_ind (P := fun l => ∀ m, Asc l m → Canon (scan l) m) (fun m _ => ⟨by simp [scan], by simp [scan]⟩) ?_ l
  intro l x ih m h
  obtain ⟨h1, h2, h3⟩ := h.snoc
  rw [scan_snoc]
  exact ((ih _ h1).push (by omega) h2).mono h3
theorem hasR_append (a b : List Range) (n : Int) : hasR (a ++ b) n = (hasR a n || hasR b n) := by simp [hasR]
theorem hasR_push {out : List Range} {m n : Int} (h : Canon out m) (k : Int) : hasR (push out n) k = (hasR out k || k == n) := by
  rcases snoc_cases out with rfl | ⟨a, r, rfl⟩
  · rw [push_nil, Bool.eq_iff_iff]; simp [hasR]; omega
  · have hr := h.1 r (by simp)
    rw [push_snoc]
    split
    · rename_i he
      rw [hasR_append, hasR_append, Bool.or_assoc]
      congr 1
      rw [Bool.eq_iff_iff]; simp [hasR]; omega
    · rw [hasR_append]
      congr 1
      rw [Bool.eq_iff_iff]; simp [hasR]; omega
theorem hasR_scan (l : List Int) (k : Int) : ∀ m, Asc l m → hasR (scan l) k = decide (k ∈ l) := by
  refine snoc_ind (P := fun l => ∀ m, Asc l m → hasR (scan l) k = decide (k ∈ l)) (fun m _ => by simp [scan, hasR]) ?_ l
  intro l x ih m h
  obtain ⟨h1, h2, h3⟩ := h.snoc
  rw [scan_snoc, hasR_push (scan_canon l _ h1), ih _ h1, Bool.eq_iff_iff]
  simp
theorem setOk_canon {out : List Range} (h : Canon out 9999) : setOk out = decide (out.length ≤ 40) := by
  have : allN out.length (rangeAt out) = true := by
    rw [allN, List.all_eq_true]
    intro i hi
    have hi := List.mem_range.1 hi
    have h1 := h.1 _ (List.getElem_mem hi)
    simp only [rangeAt, getD_lt hi, within, Bool.and_eq_true, decide_eq_true_eq, Bool.or_eq_true, beq_iff_eq]
    refine ⟨⟨by omega, by omega⟩, ?_⟩
    rcases Nat.eq_zero_or_pos i with h0 | h0
    · exact .inl h0
    · refine .inr ?_
      have hi' : i - 1 < out.length := by omega
      rw [getD_lt hi']
      exact List.pairwise_iff_getElem.1 h.2 (i - 1) i hi' hi (by omega)
  rw [setOk, this, Bool.true_and]
def nums (n : Nat) : List Int := (List.range n).map fun i => ((i + 1 : Nat) : Int)
theorem nums_succ (n : Nat) : nums (n + 1) = nums n ++ [((n + 1 : Nat) : Int)] := by simp [nums, List.range_succ]
theorem nums_mem {n : Nat} {x : Int} : x ∈ nums n ↔ 1 ≤ x ∧ x ≤ n := by
  simp only [nums, List.mem_map, List.mem_range]
  constructor
  · rintro ⟨i, hi, rfl⟩; omega
  · intro h; exact ⟨(x - 1).toNat, by omega, by omega⟩
theorem nums_asc (n : Nat) : Asc (nums n) n := by
  refine ⟨?_, fun x hx => nums_mem.1 hx⟩
  rw [nums, List.pairwise_map]
  exact List.Pairwise.imp (by intro a b h; omega) List.pairwise_lt_range
theorem Asc.filter {l : List Int} {m : Int} (h : Asc l m) (p : Int → Bool) : Asc (l.filter p) m := ⟨h.1.filter p, fun x hx => h.2 x (List.mem_filter.1 hx).1⟩
def setOf (S : List Int) : List Range := scan ((nums 9999).filter fun n => decide (n ∈ S))
theorem setOf_has (S : List Int) (k : Int) (h : 1 ≤ k ∧ k ≤ 9999) : hasR (setOf S) k = decide (k ∈ S) := by
  rw [setOf, hasR_scan _ k 9999 ((nums_asc 9999).filter _), Bool.eq_iff_iff]
  simp only [decide_eq_true_eq, List.mem_filter, nums_mem]
  constructor
  · exact fun h => h.2
  · exact fun hx => ⟨h, hx⟩
theorem filter_or_len (l : List Int) (p q : Int → Bool) : (l.filter fun x => p x || q x).length ≤ (l.filter p).length + (l.filter q).length := by
  induction l with
  | nil => simp
  | cons x l ih =>
    simp only [List.filter_cons]
    cases p x <;> cases q x <;> simp <;> omega
theorem filter_eq_len (n : Nat) (u : Int) : ((nums n).filter fun x => x == u).length ≤ 1 := by
  induction n with
  | zero => simp [nums]
  | succ n ih =>
    rw [nums_succ, List.filter_append, List.length_append]
    by_cases h : ((n + 1 : Nat) : Int) = u
    · have : (nums n).filter (fun x => x == u) = [] := by
        rw [List.filter_eq_nil_iff]
        intro x hx
        have := nums_mem.1 hx
        simp; omega
      rw [this]; simp [List.filter_cons]; split <;> simp
    · have : [((n + 1 : Nat) : Int)].filter (fun x => x == u) = [] := by simp [List.filter_cons]; omega
      rw [this]; simpa using ih
theorem setOf_len (S : List Int) : (setOf S).length ≤ S.length := by
  refine Nat.le_trans (scan_len _) ?_
  induction S with
  | nil => simp
  | cons u S ih =>
    have h1 := filter_or_len (nums 9999) (fun x => x == u) (fun x => decide (x ∈ S))
    have h2 := filter_eq_len 9999 u
    have e : (fun n : Int => decide (n ∈ u :: S)) = fun x => (x == u) || decide (x ∈ S) := by funext n; rw [Bool.eq_iff_iff]; simp
    rw [e]
    simp only [List.length_cons]; omega
theorem setOf_ok {S : List Int} (h : S.length ≤ 40) : setOk (setOf S) = true := by
  have := setOf_len S
  unfold setOf at this ⊢
  rw [setOk_canon (scan_canon _ _ ((nums_asc 9999).filter _))]
  simp; omega
/-! ### marks -/
def bitsOf (p : Nat → Bool) : List Bool := (List.range 10001).map p
theorem bitsOf_len (p : Nat → Bool) : (bitsOf p).length = 10001 := by simp [bitsOf]
theorem bitsOf_get (p : Nat → Bool) {n : Nat} (h : n < 10001) : (bitsOf p)[n]? = some (p n) := by
  simp [bitsOf, List.getElem?_range h]
theorem bitsOf_set (p : Nat → Bool) (n : Nat) (b : Bool) : (bitsOf p).set n b = bitsOf fun m => if m = n then b else p m := by
  apply List.ext_getElem?
  intro i
  rw [List.getElem?_set, bitsOf_len]
  by_cases hi : i < 10001
  · rw [bitsOf_get _ hi, bitsOf_get _ hi]
    by_cases h : n = i
    · subst h; simp [hi]
    · simp [h, Ne.symm h]
  · rw [List.getElem?_eq_none (by rw [bitsOf_len]; omega), List.getElem?_eq_none (by rw [bitsOf_len]; omega)]
    split
    · split <;> simp; omega
    · rfl
theorem replicate_gen (n : Nat) : List.replicate n (V.bool false) = ((List.range n).map fun _ => false).map eBool := by
  apply List.ext_getElem?
  intro i
  rw [List.getElem?_replicate, List.getElem?_map, List.getElem?_map]
  by_cases hi : i < n
  · rw [if_pos hi, List.getElem?_range hi]; rfl
  · rw [if_neg hi, List.getElem?_eq_none (by simp; omega)]; rfl
theorem replicate_bits : List.replicate 10001 (V.bool false) = (bitsOf fun _ => false).map eBool := replicate_gen 10001
def memN (s : List Range) (n : Nat) : Bool := hasR s n
open Classical in
noncomputable def spBits : VM.Spec := { modes := [.rd], run := fun | [.lst 2 s'] => (decL Range.dec s').bind fun s => if setOk s = true ∧ s.length ≤ 4194304 then some (.lst 1 ((bitsOf (memN s)).map eBool), []) else none | _ => none, need := [] }
attribute [go_sem] spBits
theorem spBits_in {ins : List V} {r : V} {outs : List V} (h : spBits.run ins = some (r, outs)) : ∃ (s : (List Range)), ins = [.lst 2 ((s).map Range.enc)] ∧ (setOk s = true ∧ s.length ≤ 4194304) ∧ .lst 1 ((bitsOf (memN s)).map eBool) = r ∧ outs = [] := by
  unfold spBits at h
  simp only at h
  split at h
  · rename_i s'
    simp only [Option.bind_eq_some_iff] at h
    obtain ⟨s, h_s, h⟩ := h
    split at h
    case isFalse => cases h
    rename_i hc
    simp only [Option.some.injEq, Prod.mk.injEq] at h
    obtain ⟨h1, h2⟩ := h
    have h_s := decL_some (fun _ _ h => Range.dec_some h) h_s
    subst h_s
    exact ⟨s, rfl, hc, h1, h2.symm⟩
  · cases h
def T_spec_l05Bits : Hints := ⟨lk [], lk [(3, [0, 3, 4]), (6, [0, 3, 4, 5])], lk [(0, [0]), (1, [0, 3]), (2, [0, 3, 4]), (3, [0, 3, 4, 10]), (5, [0, 3, 4, 5]), (6, [0, 3, 4, 5, 24]), (8, [0, 3, 4, 5]), (7, [0, 3, 4, 5]), (4, [0, 3, 4]), (9, [2])], lk [], lf []⟩
noncomputable def Phi_spec_l05Bits : Tab := lk []
attribute [go_sem] T_spec_l05Bits Phi_spec_l05Bits
theorem phi_spec_l05Bits : ∀ f sp, Phi_spec_l05Bits f = some sp → FnOk Tryz.prog f sp ∧ ∀ n ∈ sp.need, n ∈ ([] : List String) := phi_nil
theorem ok_spec_l05Bits : FnOk Tryz.prog 127 spBits := by
  refine fn_ok (Φ := Phi_spec_l05Bits) (T := T_spec_l05Bits) phi_spec_l05Bits mixed Tryz.func127 rfl rfl rfl (by decide) ?_
  intro ins r outs hr hl
  clear hl
  have hs := spBits_in hr
  clear hr
  obtain ⟨s, rfl, hc, hr, rfl⟩ := hs
  simp only [spBits, Tryz.f127, Go.VM.initS]
  obtain ⟨hk, hl⟩ := hc
  have hb : (10001 : Int) * ((1 : Nat) : Int) ≤ 140737488355328 := by decide
  simp only [replicate_bits, hb, go_sem]
  repeat' ((first | apply qa | apply qb | apply qc | apply qd | apply qe | apply qf | apply qg | apply qh | apply qi | apply qj | apply qk) <;> intro hp <;> simp only [hp, replicate_bits, hb, go_sem])
  refine loop_go (fun i : Nat => [(4, .int .i64 (i : Int))]) (fun i => [(0, ⟨.arr, 1, (bitsOf (memN (s.take i))).map eBool⟩)]) (fun i => s.length - i) (fun i => i ≤ s.length) 0 (Nat.zero_le _) rfl rfl ?_
  intro i hi ih
  rcases Nat.lt_or_ge i s.length with h | h
  · have g1 : (i : Int) < s.length := by omega
    have g2 : (0 : Int) ≤ i := by omega
    have g3 : s[i]? = some s[i] := List.getElem?_eq_getElem h
    have g5 := wrap_succ h (by omega)
    have hr1 : 1 ≤ s[i].Lo ∧ s[i].Lo ≤ s[i].Hi ∧ s[i].Hi ≤ 9999 := by
      simp only [setOk, Bool.and_eq_true] at hk
      exact rangeAt_hi h (allN_get hk.1 h)
    obtain ⟨lo, hlo⟩ : ∃ a : Nat, s[i].Lo = a := ⟨s[i].Lo.toNat, by omega⟩
    obtain ⟨hh, hhi⟩ : ∃ a : Nat, s[i].Hi = a := ⟨s[i].Hi.toNat, by omega⟩
    have e0 : (fun n => memN (s.take i) n || (decide (lo ≤ n) && decide (n < lo))) = memN (s.take i) := by
      funext n
      have : (decide (lo ≤ n) && decide (n < lo)) = false := by rw [Bool.and_eq_false_iff]; simp; omega
      rw [this, Bool.or_false]
    have e1 : (fun n => memN (s.take i) n || (decide (lo ≤ n) && decide (n < hh + 1))) = memN (s.take (i + 1)) := by
      funext n
      rw [take_succ' h]
      unfold memN
      rw [hasR_append]
      congr 1
      rw [Bool.eq_iff_iff]
      simp [hasR, hlo, hhi]; omega
    have ih' := ih (i + 1) h (by omega)
    rw [← e1] at ih'
    clear ih
    simp only [g1, g2, g3, go_sem]
    repeat' ((first | apply qa | apply qb | apply qc | apply qd | apply qe | apply qf | apply qg | apply qh | apply qi | apply qj | apply qk) <;> intro hp <;> simp only [hp, g1, g2, g3, go_sem])
    refine loop_go (fun k : Nat => [(5, .int .i64 (k : Int))]) (fun k => [(0, ⟨.arr, 1, (bitsOf fun n => memN (s.take i) n || (decide (lo ≤ n) && decide (n < k))).map eBool⟩)]) (fun k => hh + 1 - k) (fun k => lo ≤ k ∧ k ≤ hh + 1) lo ⟨Nat.le_refl _, by omega⟩ (by rw [hlo]; rfl) (by rw [e0]; rfl) ?_
    intro k ⟨hk1, hk2⟩ ihk
    rcases Nat.lt_or_ge k (hh + 1) with hkl | hkl
    · have k1 : (k : Int) ≤ s[i].Hi := by omega
      have k2 : (0 : Int) ≤ k := by omega
      have k3 : (k : Int) < ((10001 : Nat) : Int) := by omega
      have k5 := wrap_succ hkl (by omega)
      have kl := bitsOf_len (fun n => memN (s.take i) n || (decide (lo ≤ n) && decide (n < k)))
      have kg := bitsOf_get (fun n => memN (s.take i) n || (decide (lo ≤ n) && decide (n < k))) (n := k) (by omega)
      have ks : (List.map eBool (bitsOf fun n => memN (s.take i) n || (decide (lo ≤ n) && decide (n < k)))).set k (V.bool true) = List.map eBool (bitsOf fun n => memN (s.take i) n || (decide (lo ≤ n) && decide (n < k + 1))) := by
        rw [show V.bool true = eBool true from rfl, ← List.map_set, bitsOf_set]
        congr 2
        funext m
        by_cases hm : m = k
        · subst hm; simp [hk1]
        · have : decide (m < k + 1) = decide (m < k) := by rw [Bool.eq_iff_iff]; simp; omega
          simp [hm, this]
      have ihk' := ihk (k + 1) ⟨by omega, by omega⟩ (by omega)
      rw [← ks] at ihk'
      clear ihk ks
      generalize hB : (bitsOf fun n => memN (s.take i) n || (decide (lo ≤ n) && decide (n < k))) = B at *
      simp only [g1, g2, g3, k1, k2, k3, k5, kl, kg, go_sem]
      repeat' ((first | apply qa | apply qb | apply qc | apply qd | apply qe | apply qf | apply qg | apply qh | apply qi | apply qj | apply qk) <;> intro hp <;> simp only [hp, g1, g2, g3, k1, k2, k3, k5, kl, kg, go_sem])
      exact ihk'
    · have hke : k = hh + 1 := by omega
      subst hke
      have k1 : ¬ (((hh + 1 : Nat) : Int)) ≤ s[i].Hi := by omega
      simp only [g1, g2, g3, k1, g5, go_sem]
      repeat' ((first | apply qa | apply qb | apply qc | apply qd | apply qe | apply qf | apply qg | apply qh | apply qi | apply qj | apply qk) <;> intro hp <;> simp only [hp, g1, g2, g3, k1, g5, go_sem])
      exact ih'
  · have g1 : ¬ (i : Int) < s.length := by omega
    have ht : s.take i = s := List.take_of_length_le h
    simp only [g1, ht, go_sem]
    repeat' ((first | apply qa | apply qb | apply qc | apply qd | apply qe | apply qf | apply qg | apply qh | apply qi | apply qj | apply qk) <;> intro hp <;> simp only [hp, g1, ht, go_sem])
    simp only [fin_mk, finV, resL, resV1, resIn, endA, listIn, Option.some_or, Option.none_or, oneOrTup, go_sem]
    rw [← hr]
def markB (l : List Bool) (n : Int) : Bool := l.getD n.toNat false
def scanB (l : List Bool) : List Range := scan ((nums 9999).filter (markB l))
theorem filter_nums_succ (p : Int → Bool) (i : Nat) : (nums (i + 1)).filter p = (nums i).filter p ++ (if p ((i + 1 : Nat) : Int) = true then [((i + 1 : Nat) : Int)] else []) := by
  rw [nums_succ, List.filter_append, List.filter_cons]
  rfl
theorem filter_nums_last {p : Int → Bool} {i : Nat} (h : p ((i + 1 : Nat) : Int) = true) : ∃ a r, scan ((nums (i + 1)).filter p) = a ++ [r] ∧ r.Hi = ((i + 1 : Nat) : Int) := by
  rw [filter_nums_succ, if_pos h]
  exact scan_last _ _
theorem push_gap {p : Int → Bool} {i : Nat} (h : i = 0 ∨ p (i : Int) = false) : push (scan ((nums i).filter p)) ((i + 1 : Nat) : Int) = scan ((nums i).filter p) ++ [⟨((i + 1 : Nat) : Int), ((i + 1 : Nat) : Int)⟩] := by
  rcases snoc_cases ((nums i).filter p) with e | ⟨a, x, e⟩
  · rw [e]; rfl
  · rw [e]
    obtain ⟨b, r, h1, h2⟩ := scan_last a x
    have hx : x ∈ (nums i).filter p := by rw [e]; simp
    rw [List.mem_filter, nums_mem] at hx
    have hne : x ≠ i := by
      rintro rfl
      rcases h with h | h
      · subst h; omega
      · rw [hx.2] at h; cases h
    rw [h1, push_snoc, if_neg (by rw [h2]; omega)]
open Classical in
noncomputable def spScanBits : VM.Spec := { modes := [.rd], run := fun | [.lst 1 l'] => (decL dBool l').bind fun l => if l.length = 10001 ∧ l.getD 0 false = false then some (.tup [.lst 2 (((if setOk (scanB l) = true then scanB l else [])).map Range.enc), .bool (setOk (scanB l))], []) else none | _ => none, need := [] }
attribute [go_sem] spScanBits
theorem spScanBits_in {ins : List V} {r : V} {outs : List V} (h : spScanBits.run ins = some (r, outs)) : ∃ (l : (List Bool)), ins = [.lst 1 ((l).map eBool)] ∧ (l.length = 10001 ∧ l.getD 0 false = false) ∧ .tup [.lst 2 (((if setOk (scanB l) = true then scanB l else [])).map Range.enc), .bool (setOk (scanB l))] = r ∧ outs = [] := by
  unfold spScanBits at h
  simp only at h
  split at h
  · rename_i l'
    simp only [Option.bind_eq_some_iff] at h
    obtain ⟨l, h_l, h⟩ := h
    split at h
    case isFalse => cases h
    rename_i hc
    simp only [Option.some.injEq, Prod.mk.injEq] at h
    obtain ⟨h1, h2⟩ := h
    have h_l := decL_some (fun _ _ h => dBool_some h) h_l
    subst h_l
    exact ⟨l, rfl, hc, h1, h2.symm⟩
  · cases h
def T_spec_l05Set : Hints := ⟨lk [], lk [(3, [0, 4, 5])], lk [(0, [0]), (1, [0, 4]), (2, [0, 4, 5]), (3, [0, 4, 5, 8]), (5, [0, 4, 5, 15]), (6, [0, 4, 5, 21]), (7, [0, 4, 5]), (8, [0, 4, 5]), (4, [0, 4, 5]), (9, [4, 36]), (10, [2, 3]), (11, [2, 3])], lk [], lf []⟩
noncomputable def Phi_spec_l05Set : Tab := lk [(94, spSetOk)]
attribute [go_sem] T_spec_l05Set Phi_spec_l05Set
theorem phi_spec_l05Set : ∀ f sp, Phi_spec_l05Set f = some sp → FnOk Tryz.prog f sp ∧ ∀ n ∈ sp.need, n ∈ ([] : List String) := phi_cons ok_spec_SetOk (n0 rfl) (phi_nil)
theorem ok_spec_l05Set : FnOk Tryz.prog 128 spScanBits := by
  refine fn_ok (Φ := Phi_spec_l05Set) (T := T_spec_l05Set) phi_spec_l05Set mixed Tryz.func128 rfl rfl rfl (by decide) ?_
  intro ins r outs hr hl
  clear hl
  have hs := spScanBits_in hr
  clear hr
  obtain ⟨l, rfl, hc, hr, rfl⟩ := hs
  simp only [spScanBits, Tryz.f128, Go.VM.initS]
  obtain ⟨hl, h0⟩ := hc
  simp only [go_sem]
  repeat' ((first | apply qa | apply qb | apply qc | apply qd | apply qe | apply qf | apply qg | apply qh | apply qi | apply qj | apply qk) <;> intro hp <;> simp only [hp, go_sem])
  refine loop_go (fun i : Nat => [(5, .int .i64 ((i + 1 : Nat) : Int))]) (fun i => [(0, ⟨.arr, 2, (scan ((nums i).filter (markB l))).map Range.enc⟩)]) (fun i => 9999 - i) (fun i => i ≤ 9999) 0 (Nat.zero_le _) rfl rfl ?_
  intro i hi ih
  rcases Nat.lt_or_ge i 9999 with h | h
  · have g1 : ((i + 1 : Nat) : Int) ≤ 9999 := by omega
    have g2 : (0 : Int) ≤ ((i + 1 : Nat) : Int) := by omega
    have g3 : ((i + 1 : Nat) : Int) < ((10001 : Nat) : Int) := by omega
    have g4 : l[i + 1]? = some (markB l ((i + 1 : Nat) : Int)) := by
      rw [markB, Int.toNat_natCast, List.getD_eq_getElem?_getD, List.getElem?_eq_getElem (by omega)]; rfl
    have g5 : IntKind.i64.wrap (((i + 1 : Nat) : Int) + 1) = ((i + 1 + 1 : Nat) : Int) := wrap_succ (n := 10002) (by omega) (by omega)
    have g6 : IntKind.i64.wrap (((i + 1 : Nat) : Int) - 1) = (i : Int) := (wrap64 (by omega) (by omega)).trans (by omega)
    have g7 : (0 : Int) ≤ (i : Int) := by omega
    have g8 : (i : Int) < ((10001 : Nat) : Int) := by omega
    have g9 : l[i]? = some (markB l (i : Int)) := by
      rw [markB, Int.toNat_natCast, List.getD_eq_getElem?_getD, List.getElem?_eq_getElem (by omega)]; rfl
    have ih' := ih (i + 1) h (by omega)
    rw [filter_nums_succ] at ih'
    clear ih
    have hsl : (scan ((nums i).filter (markB l))).length ≤ i := by
      refine Nat.le_trans (scan_len _) (Nat.le_trans (List.length_filter_le _ _) ?_)
      simp [nums]
    cases hm : markB l ((i + 1 : Nat) : Int) with
    | false =>
      rw [hm] at ih' g4
      rw [if_neg (by simp), List.append_nil] at ih'
      simp only [hl, g1, g2, g3, g4, g5, go_sem]
      repeat' ((first | apply qa | apply qb | apply qc | apply qd | apply qe | apply qf | apply qg | apply qh | apply qi | apply qj | apply qk) <;> intro hp <;> simp only [hp, hl, g1, g2, g3, g4, g5, go_sem])
      exact ih'
    | true =>
      rw [hm] at ih' g4
      rw [if_pos rfl, scan_snoc] at ih'
      cases hp : markB l (i : Int) with
      | false =>
        rw [hp] at g9
        rw [push_gap (.inr hp)] at ih'
        generalize hO : scan ((nums i).filter (markB l)) = O at *
        have b1 : (O.length + 1) * 16 ≤ 140737488355328 := by omega
        have b2 : O.length ≤ 9223372036854775806 := by omega
        have b3 : IntKind.i64.wrap (((O.length + 1 : Nat) : Int) - 1) = (O.length : Int) := (wrap64 (by omega) (by omega)).trans (by omega)
        have b4 : (0 : Int) ≤ (O.length : Int) := by omega
        have b5 : (O.length : Int) < ((O.length + 1 : Nat) : Int) := by omega
        have b6 : (List.map Range.enc O ++ [V.agg [.int .i64 ((i + 1 : Nat) : Int), .int .i64 0]])[O.length]? = some (V.agg [.int .i64 ((i + 1 : Nat) : Int), .int .i64 0]) := by
          rw [List.getElem?_append_right (by simp)]; simp
        have b7 : (List.map Range.enc O ++ [V.agg [.int .i64 ((i + 1 : Nat) : Int), .int .i64 0]]).set O.length (V.agg [.int .i64 ((i + 1 : Nat) : Int), .int .i64 ((i + 1 : Nat) : Int)]) = List.map Range.enc (O ++ [⟨((i + 1 : Nat) : Int), ((i + 1 : Nat) : Int)⟩]) := by
          rw [List.set_append_right _ _ (by simp)]; simp [Range.enc]
        have b8 : (List.map Range.enc O ++ [V.agg [.int .i64 ((i + 1 : Nat) : Int), .int .i64 0]]).length = O.length + 1 := by simp
        rw [← b7] at ih'
        clear b7
        simp only [hl, g1, g2, g3, g4, g5, g6, g7, g8, g9, b1, b2, b3, b4, b5, b6, b8, List.length_append, go_sem]
        repeat' ((first | apply qa | apply qb | apply qc | apply qd | apply qe | apply qf | apply qg | apply qh | apply qi | apply qj | apply qk) <;> intro hp <;> simp only [hp, hl, g1, g2, g3, g4, g5, g6, g7, g8, g9, b1, b2, b3, b4, b5, b6, b8, List.length_append, go_sem])
        exact ih'
      | true =>
        rw [hp] at g9
        obtain ⟨m, rfl⟩ : ∃ m, i = m + 1 := by
          rcases Nat.eq_zero_or_pos i with e | e
          · subst e
            rw [markB] at hp
            rw [show ((0 : Nat) : Int).toNat = 0 from rfl, h0] at hp
            cases hp
          · exact ⟨i - 1, by omega⟩
        obtain ⟨a, r', ha, hH⟩ := filter_nums_last hp
        rw [ha] at ih' hsl ⊢
        rw [push_snoc, if_pos (by rw [hH]; omega)] at ih'
        have b3 : IntKind.i64.wrap (((a.length + 1 : Nat) : Int) - 1) = (a.length : Int) := (wrap64 (by simp at hsl; omega) (by simp at hsl; omega)).trans (by omega)
        have b4 : (0 : Int) ≤ (a.length : Int) := by omega
        have b5 : (a.length : Int) < ((a.length + 1 : Nat) : Int) := by omega
        have b6 : (List.map Range.enc (a ++ [r']))[a.length]? = some r'.enc := by simp
        have b7 : (List.map Range.enc (a ++ [r'])).set a.length (V.agg [.int .i64 r'.Lo, .int .i64 ((m + 1 + 1 : Nat) : Int)]) = List.map Range.enc (a ++ [⟨r'.Lo, ((m + 1 + 1 : Nat) : Int)⟩]) := by
          simp [Range.enc]
        have b8 : (List.map Range.enc (a ++ [r'])).length = a.length + 1 := by simp
        have b9 : (a ++ [r']).length = a.length + 1 := by simp
        rw [← b7] at ih'
        clear b7
        generalize hX : List.map Range.enc (a ++ [r']) = X at *
        simp only [hl, g1, g2, g3, g4, g5, g6, g7, g8, g9, b3, b4, b5, b6, b8, go_sem]
        repeat' ((first | apply qa | apply qb | apply qc | apply qd | apply qe | apply qf | apply qg | apply qh | apply qi | apply qj | apply qk) <;> intro hp <;> simp only [hp, hl, g1, g2, g3, g4, g5, g6, g7, g8, g9, b3, b4, b5, b6, b8, go_sem])
        exact ih'
  · have hi9 : i = 9999 := by omega
    subst hi9
    have g1 : ¬ (((9999 + 1 : Nat) : Int)) ≤ 9999 := by decide
    have hsl : (scan ((nums 9999).filter (markB l))).length ≤ 9999 := by
      refine Nat.le_trans (scan_len _) (Nat.le_trans (List.length_filter_le _ _) ?_)
      simp [nums]
    have hB : scan ((nums 9999).filter (markB l)) = scanB l := rfl
    rw [hB] at hsl ⊢
    have hsl' : (scanB l).length ≤ 4194304 := by omega
    cases hk : setOk (scanB l) with
    | false =>
      simp only [g1, hsl', hk, go_sem]
      repeat' ((first | apply qa | apply qb | apply qc | apply qd | apply qe | apply qf | apply qg | apply qh | apply qi | apply qj | apply qk) <;> intro hp <;> simp only [hp, g1, hsl', hk, go_sem])
      simp only [fin_mk, finV, resL, resV1, resIn, endA, listIn, Option.some_or, Option.none_or, oneOrTup, go_sem]
      rw [← hr]
      rw [hk]; rfl
    | true =>
      simp only [g1, hsl', hk, go_sem]
      repeat' ((first | apply qa | apply qb | apply qc | apply qd | apply qe | apply qf | apply qg | apply qh | apply qi | apply qj | apply qk) <;> intro hp <;> simp only [hp, g1, hsl', hk, go_sem])
      simp only [fin_mk, finV, resL, resV1, resIn, endA, listIn, Option.some_or, Option.none_or, oneOrTup, go_sem]
      rw [← hr]
      rw [hk]; rfl
def addR (s : List Range) (lo hi : Int) : List Range := scan ((nums 9999).filter fun n => hasR s n || (decide (lo ≤ n) && decide (n ≤ hi)))
def setAddIn (s : List Range) (lo hi : Int) : Bool := setOk s && (within lo 1 hi && decide (hi ≤ 9999))
def setAddOk (s : List Range) (lo hi : Int) : Bool := setAddIn s lo hi && setOk (addR s lo hi)
def setAdd (s : List Range) (lo hi : Int) : List Range := if setAddOk s lo hi = true then addR s lo hi else s
theorem setOk_lo {s : List Range} (h : setOk s = true) : memN s 0 = false := by
  simp only [setOk, Bool.and_eq_true] at h
  unfold memN hasR
  rw [List.any_eq_false]
  intro r hr
  obtain ⟨i, hi, rfl⟩ := List.mem_iff_getElem.1 hr
  have := rangeAt_hi hi (allN_get h.1 hi)
  simp; omega
theorem filter_nums {k : Nat} {p q : Int → Bool} (h : ∀ n : Int, 1 ≤ n → n ≤ k → p n = q n) : (nums k).filter p = (nums k).filter q :=
  List.filter_congr fun n hn => h n (nums_mem.1 hn).1 (nums_mem.1 hn).2
theorem scanB_bits (p : Nat → Bool) : scanB (bitsOf p) = scan ((nums 9999).filter fun n => p n.toNat) := by
  have : (nums 9999).filter (markB (bitsOf p)) = (nums 9999).filter fun n => p n.toNat := filter_nums fun n h1 h2 => by
    rw [markB, List.getD_eq_getElem?_getD, bitsOf_get p (by omega)]; rfl
  rw [scanB, this]
open Classical in
noncomputable def spPut : VM.Spec := { modes := [.rd, .rd, .rd, .rd], run := fun | [.lst 2 s', .int .i64 lo, .int .i64 hi, .bool to] => (decL Range.dec s').bind fun s => if to = true ∧ s.length ≤ 4194304 then some (.tup [.lst 2 ((setAdd s lo hi).map Range.enc), .bool (setAddOk s lo hi)], []) else none | _ => none, need := [] }
attribute [go_sem] spPut
theorem spPut_in {ins : List V} {r : V} {outs : List V} (h : spPut.run ins = some (r, outs)) : ∃ (s : (List Range)) (lo : Int) (hi : Int) (to : Bool), ins = [.lst 2 ((s).map Range.enc), .int .i64 lo, .int .i64 hi, .bool to] ∧ (to = true ∧ s.length ≤ 4194304) ∧ .tup [.lst 2 ((setAdd s lo hi).map Range.enc), .bool (setAddOk s lo hi)] = r ∧ outs = [] := by
  unfold spPut at h
  simp only at h
  split at h
  · rename_i s' lo hi to
    simp only [Option.bind_eq_some_iff] at h
    obtain ⟨s, h_s, h⟩ := h
    split at h
    case isFalse => cases h
    rename_i hc
    simp only [Option.some.injEq, Prod.mk.injEq] at h
    obtain ⟨h1, h2⟩ := h
    have h_s := decL_some (fun _ _ h => Range.dec_some h) h_s
    subst h_s
    exact ⟨s, lo, hi, to, rfl, hc, h1, h2.symm⟩
  · cases h
def T_spec_l05Put : Hints := ⟨lk [], lk [(6, [2, 3, 10, 11, 12])], lk [(0, [0, 1, 2, 3]), (1, [0, 1, 2, 3, 10]), (2, [0, 1, 2, 3, 10, 30]), (3, [8, 9]), (4, [1, 2, 3, 10, 11]), (5, [2, 3, 10, 11, 12]), (6, [2, 3, 10, 11, 12, 37]), (8, [2, 3, 10, 11, 12]), (7, [2, 3, 10, 11, 12]), (9, [10, 13, 14]), (10, [10, 13, 50]), (11, [8, 9]), (12, [8, 9])], lk [], lf []⟩
noncomputable def Phi_spec_l05Put : Tab := lk [(94, spSetOk), (51, spWithin), (127, spBits), (128, spScanBits)]
attribute [go_sem] T_spec_l05Put Phi_spec_l05Put
theorem phi_spec_l05Put : ∀ f sp, Phi_spec_l05Put f = some sp → FnOk Tryz.prog f sp ∧ ∀ n ∈ sp.need, n ∈ ([] : List String) := phi_cons ok_spec_SetOk (n0 rfl) (phi_cons ok_spec_l01In (n0 rfl) (phi_cons ok_spec_l05Bits (n0 rfl) (phi_cons ok_spec_l05Set (n0 rfl) (phi_nil))))
theorem ok_spec_l05Put : FnOk Tryz.prog 113 spPut := by
  refine fn_ok (Φ := Phi_spec_l05Put) (T := T_spec_l05Put) phi_spec_l05Put mixed Tryz.func113 rfl rfl rfl (by decide) ?_
  intro ins r outs hr hl
  clear hl
  have hs := spPut_in hr
  clear hr
  obtain ⟨s, lo, hi, to, rfl, hc, hr, rfl⟩ := hs
  simp only [spPut, Tryz.f113, Go.VM.initS]
  obtain ⟨rfl, hl⟩ := hc
  have c1 : s.length * 16 ≤ 140737488355328 := by omega
  have c2 : s.length ≤ 9223372036854775807 := by omega
  cases hk : setOk s with
  | false =>
    simp only [hl, c1, c2, hk, go_sem]
    repeat' ((first | apply qa | apply qb | apply qc | apply qd | apply qe | apply qf | apply qg | apply qh | apply qi | apply qj | apply qk) <;> intro hp <;> simp only [hp, hl, c1, c2, hk, go_sem])
    all_goals (simp only [fin_mk, finV, resL, resV1, resIn, endA, listIn, Option.some_or, Option.none_or, oneOrTup, go_sem]; rw [← hr])
    all_goals simp only [setAdd, setAddOk, setAddIn, hk, Bool.false_and, Bool.false_eq_true, if_false]
  | true =>
    cases hw : within lo 1 hi with
    | false =>
      simp only [hl, c1, c2, hk, hw, go_sem]
      repeat' ((first | apply qa | apply qb | apply qc | apply qd | apply qe | apply qf | apply qg | apply qh | apply qi | apply qj | apply qk) <;> intro hp <;> simp only [hp, hl, c1, c2, hk, hw, go_sem])
      all_goals (simp only [fin_mk, finV, resL, resV1, resIn, endA, listIn, Option.some_or, Option.none_or, oneOrTup, go_sem]; rw [← hr])
      all_goals simp only [setAdd, setAddOk, setAddIn, hk, hw, Bool.false_and, Bool.true_and, Bool.false_eq_true, if_false]
    | true =>
      have hlo : 1 ≤ lo ∧ lo ≤ hi := by simpa only [within, Bool.and_eq_true, decide_eq_true_eq] using hw
      by_cases h9 : (9999 : Int) < hi
      · simp only [hl, c1, c2, hk, hw, h9, go_sem]
        repeat' ((first | apply qa | apply qb | apply qc | apply qd | apply qe | apply qf | apply qg | apply qh | apply qi | apply qj | apply qk) <;> intro hp <;> simp only [hp, hl, c1, c2, hk, hw, h9, go_sem])
        all_goals (simp only [fin_mk, finV, resL, resV1, resIn, endA, listIn, Option.some_or, Option.none_or, oneOrTup, go_sem]; rw [← hr])
        have : decide (hi ≤ 9999) = false := by simp; omega
        all_goals simp only [setAdd, setAddOk, setAddIn, hk, hw, this, Bool.and_false, Bool.false_and, Bool.true_and, Bool.false_eq_true, if_false]
      · obtain ⟨a, rfl⟩ : ∃ a : Nat, lo = a := ⟨lo.toNat, by omega⟩
        obtain ⟨b, rfl⟩ : ∃ b : Nat, hi = b := ⟨hi.toNat, by omega⟩
        have e0 : (fun n => memN s n || (decide (a ≤ n) && decide (n < a))) = memN s := by
          funext n
          have : (decide (a ≤ n) && decide (n < a)) = false := by rw [Bool.and_eq_false_iff]; simp; omega
          rw [this, Bool.or_false]
        have hin : setAddIn s a b = true := by
          have : decide ((b : Int) ≤ 9999) = true := by simp; omega
          simp only [setAddIn, hk, hw, this, Bool.and_true]
        simp only [hl, c1, c2, hk, hw, h9, go_sem]
        repeat' ((first | apply qa | apply qb | apply qc | apply qd | apply qe | apply qf | apply qg | apply qh | apply qi | apply qj | apply qk) <;> intro hp <;> simp only [hp, hl, c1, c2, hk, hw, h9, go_sem])
        refine loop_go (fun k : Nat => [(12, .int .i64 (k : Int))]) (fun k => [(1, ⟨.arr, 1, (bitsOf fun n => memN s n || (decide (a ≤ n) && decide (n < k))).map eBool⟩)]) (fun k => b + 1 - k) (fun k => a ≤ k ∧ k ≤ b + 1) a ⟨Nat.le_refl _, by omega⟩ rfl (by rw [e0]; rfl) ?_
        intro k ⟨hk1, hk2⟩ ihk
        have kl := bitsOf_len (fun n => memN s n || (decide (a ≤ n) && decide (n < k)))
        rcases Nat.lt_or_ge k (b + 1) with hkl | hkl
        · have k1 : (k : Int) ≤ b := by omega
          have k2 : (0 : Int) ≤ k := by omega
          have k3 : (k : Int) < ((10001 : Nat) : Int) := by omega
          have k5 := wrap_succ hkl (by omega)
          have kg := bitsOf_get (fun n => memN s n || (decide (a ≤ n) && decide (n < k))) (n := k) (by omega)
          have ks : (List.map eBool (bitsOf fun n => memN s n || (decide (a ≤ n) && decide (n < k)))).set k (V.bool true) = List.map eBool (bitsOf fun n => memN s n || (decide (a ≤ n) && decide (n < k + 1))) := by
            rw [show V.bool true = eBool true from rfl, ← List.map_set, bitsOf_set]
            congr 2
            funext m
            by_cases hm : m = k
            · subst hm; simp [hk1]
            · have : decide (m < k + 1) = decide (m < k) := by rw [Bool.eq_iff_iff]; simp; omega
              simp [hm, this]
          have ihk' := ihk (k + 1) ⟨by omega, by omega⟩ (by omega)
          rw [← ks] at ihk'
          clear ihk ks
          generalize hB : (bitsOf fun n => memN s n || (decide (a ≤ n) && decide (n < k))) = B at *
          simp only [k1, k2, k3, k5, kl, kg, go_sem]
          repeat' ((first | apply qa | apply qb | apply qc | apply qd | apply qe | apply qf | apply qg | apply qh | apply qi | apply qj | apply qk) <;> intro hp <;> simp only [hp, k1, k2, k3, k5, kl, kg, go_sem])
          exact ihk'
        · have hke : k = b + 1 := by omega
          subst hke
          have k1 : ¬ (((b + 1 : Nat) : Int)) ≤ b := by omega
          have h0 : (bitsOf fun n => memN s n || (decide (a ≤ n) && decide (n < b + 1))).getD 0 false = false := by
            rw [List.getD_eq_getElem?_getD, bitsOf_get _ (by decide), Option.getD_some, setOk_lo hk]
            simp; omega
          have hS : scanB (bitsOf fun n => memN s n || (decide (a ≤ n) && decide (n < b + 1))) = addR s a b := by
            have e2 : ((nums 9999).filter fun n => memN s n.toNat || (decide (a ≤ n.toNat) && decide (n.toNat < b + 1))) = (nums 9999).filter fun n => hasR s n || (decide ((a : Int) ≤ n) && decide (n ≤ b)) := filter_nums fun n h1 h2 => by
              have e1 : ((n.toNat : Nat) : Int) = n := by omega
              unfold memN
              rw [e1]
              congr 1
              rw [Bool.eq_iff_iff]
              simp; omega
            rw [scanB_bits, e2, addR]
          generalize hB : (bitsOf fun n => memN s n || (decide (a ≤ n) && decide (n < b + 1))) = B at *
          cases hf : setOk (addR s a b) with
          | false =>
            simp only [k1, kl, h0, hS, hf, go_sem]
            repeat' ((first | apply qa | apply qb | apply qc | apply qd | apply qe | apply qf | apply qg | apply qh | apply qi | apply qj | apply qk) <;> intro hp <;> simp only [hp, k1, kl, h0, hS, hf, go_sem])
            simp only [fin_mk, finV, resL, resV1, resIn, endA, listIn, Option.some_or, Option.none_or, oneOrTup, go_sem]
            rw [← hr]
            simp only [setAdd, setAddOk, hin, hf, Bool.true_and, Bool.false_eq_true, if_false]
          | true =>
            simp only [k1, kl, h0, hS, hf, go_sem]
            repeat' ((first | apply qa | apply qb | apply qc | apply qd | apply qe | apply qf | apply qg | apply qh | apply qi | apply qj | apply qk) <;> intro hp <;> simp only [hp, k1, kl, h0, hS, hf, go_sem])
            simp only [fin_mk, finV, resL, resV1, resIn, endA, listIn, Option.some_or, Option.none_or, oneOrTup, go_sem]
            rw [← hr]
            simp only [setAdd, setAddOk, hin, hf, Bool.true_and, if_true]
open Classical in
noncomputable def spSetAdd : VM.Spec := { modes := [.rd, .rd, .rd], run := fun | [.lst 2 s', .int .i64 lo, .int .i64 hi] => (decL Range.dec s').bind fun s => if s.length ≤ 4194304 then some (.tup [.lst 2 ((setAdd s lo hi).map Range.enc), .bool (setAddOk s lo hi)], []) else none | _ => none, need := [] }
attribute [go_sem] spSetAdd
theorem spSetAdd_in {ins : List V} {r : V} {outs : List V} (h : spSetAdd.run ins = some (r, outs)) : ∃ (s : (List Range)) (lo : Int) (hi : Int), ins = [.lst 2 ((s).map Range.enc), .int .i64 lo, .int .i64 hi] ∧ (s.length ≤ 4194304) ∧ .tup [.lst 2 ((setAdd s lo hi).map Range.enc), .bool (setAddOk s lo hi)] = r ∧ outs = [] := by
  unfold spSetAdd at h
  simp only at h
  split at h
  · rename_i s' lo hi
    simp only [Option.bind_eq_some_iff] at h
    obtain ⟨s, h_s, h⟩ := h
    split at h
    case isFalse => cases h
    rename_i hc
    simp only [Option.some.injEq, Prod.mk.injEq] at h
    obtain ⟨h1, h2⟩ := h
    have h_s := decL_some (fun _ _ h => Range.dec_some h) h_s
    subst h_s
    exact ⟨s, lo, hi, rfl, hc, h1, h2.symm⟩
  · cases h
def T_spec_SetAdd : Hints := ⟨lk [], lk [], lk [(0, [0, 1, 2]), (1, [6, 7])], lk [], lf []⟩
noncomputable def Phi_spec_SetAdd : Tab := lk [(113, spPut)]
attribute [go_sem] T_spec_SetAdd Phi_spec_SetAdd
theorem phi_spec_SetAdd : ∀ f sp, Phi_spec_SetAdd f = some sp → FnOk Tryz.prog f sp ∧ ∀ n ∈ sp.need, n ∈ ([] : List String) := phi_cons ok_spec_l05Put (n0 rfl) (phi_nil)
theorem ok_spec_SetAdd : FnOk Tryz.prog 95 spSetAdd := by
  refine fn_ok (Φ := Phi_spec_SetAdd) (T := T_spec_SetAdd) phi_spec_SetAdd mixed Tryz.func95 rfl rfl rfl (by decide) ?_
  intro ins r outs hr hl
  clear hl
  have hs := spSetAdd_in hr
  clear hr
  obtain ⟨s, lo, hi, rfl, hc, hr, rfl⟩ := hs
  simp only [spSetAdd, Tryz.f95, Go.VM.initS]
  simp only [hc, go_sem]
  repeat' ((first | apply qa | apply qb | apply qc | apply qd | apply qe | apply qf | apply qg | apply qh | apply qi | apply qj | apply qk) <;> intro hp <;> simp only [hp, hc, go_sem])
  simp only [fin_mk, finV, resL, resV1, resIn, endA, listIn, Option.some_or, Option.none_or, oneOrTup, go_sem]
  rw [← hr]
theorem setAdd_one {S : List Int} {u : Int} (hu : 1 ≤ u ∧ u ≤ 9999) (hl : S.length < 40) : setAddOk (setOf S) u u = true ∧ setAdd (setOf S) u u = setOf (S ++ [u]) := by
  have h1 : setOk (setOf S) = true := setOf_ok (by omega)
  have h2 : addR (setOf S) u u = setOf (S ++ [u]) := by
    have e2 : ((nums 9999).filter fun n => hasR (setOf S) n || (decide (u ≤ n) && decide (n ≤ u))) = (nums 9999).filter fun n => decide (n ∈ S ++ [u]) := filter_nums fun n h1 h2 => by
      have e3 : (decide (u ≤ n) && decide (n ≤ u)) = decide (n = u) := by rw [Bool.eq_iff_iff]; simp; omega
      rw [setOf_has S n ⟨h1, h2⟩, e3, Bool.eq_iff_iff]
      simp
    rw [addR, e2]
    rfl
  have h3 : setAddOk (setOf S) u u = true := by
    rw [setAddOk, h2, setOf_ok (by simp; omega), setAddIn, h1]
    simp only [within, Bool.and_true, Bool.true_and, Bool.and_eq_true, decide_eq_true_eq]; omega
  exact ⟨h3, by rw [setAdd, if_pos h3, h2]⟩
end Go.Proofs.YtghmjnggmacohaaGreatDoor.L

namespace Go.Proofs.YtghmjnggmacohaaGreatDoor.L
open Go Go.VM
set_option maxRecDepth 100000
set_option maxHeartbeats 4000000
set_option linter.unusedSimpArgs false
set_option linter.unusedVariables false
def andN (a b : Int) : Int := ((a.toNat &&& b.toNat : Nat) : Int)
theorem and_step : ∀ a b : Fin 32, ∀ j : Fin 5,
    (((IntKind.i64.wrap ((a.val : Int).tdiv ((2 ^ j.val : Nat) : Int))).tmod 2 == 1) = a.val.testBit j.val) ∧
    ((a.val &&& b.val) % 2 ^ (j.val + 1) = (a.val &&& b.val) % 2 ^ j.val + (if (a.val.testBit j.val && b.val.testBit j.val) = true then 2 ^ j.val else 0)) := by decide +kernel
open Classical in
noncomputable def spAnd : VM.Spec := { modes := [.rd, .rd], run := fun | [.int .i64 a, .int .i64 b] => if flagsOk a = true ∧ flagsOk b = true then some (.int .i64 (andN a b), []) else none | _ => none, need := [] }
attribute [go_sem] spAnd
theorem spAnd_in {ins : List V} {r : V} {outs : List V} (h : spAnd.run ins = some (r, outs)) : ∃ (a : Int) (b : Int), ins = [.int .i64 a, .int .i64 b] ∧ (flagsOk a = true ∧ flagsOk b = true) ∧ .int .i64 (andN a b) = r ∧ outs = [] := by
  unfold spAnd at h
  simp only at h
  split at h
  · rename_i a b
    split at h
    case isFalse => cases h
    rename_i hc
    simp only [Option.some.injEq, Prod.mk.injEq] at h
    obtain ⟨h1, h2⟩ := h
    exact ⟨a, b, rfl, hc, h1, h2.symm⟩
  · cases h
def T_spec_l06And : Hints := ⟨lk [], lk [(3, [0, 1, 5, 6])], lk [(0, [0, 1]), (1, [0, 1, 5]), (2, [0, 1, 5, 6]), (3, [0, 1, 5, 6, 8]), (5, [0, 1, 5, 6, 22]), (6, [0, 1, 5, 6]), (4, [0, 1, 5, 6]), (7, [4])], lk [], lf []⟩
noncomputable def Phi_spec_l06And : Tab := lk []
attribute [go_sem] T_spec_l06And Phi_spec_l06And
theorem phi_spec_l06And : ∀ f sp, Phi_spec_l06And f = some sp → FnOk Tryz.prog f sp ∧ ∀ n ∈ sp.need, n ∈ ([] : List String) := phi_nil
theorem ok_spec_l06And : FnOk Tryz.prog 97 spAnd := by
  refine fn_ok (Φ := Phi_spec_l06And) (T := T_spec_l06And) phi_spec_l06And mixed Tryz.func97 rfl rfl rfl (by decide) ?_
  intro ins r outs hr hl
  clear hl
  have hs := spAnd_in hr
  clear hr
  obtain ⟨a, b, rfl, hc, hr, rfl⟩ := hs
  simp only [spAnd, Tryz.f97, Go.VM.initS]
  obtain ⟨ha, hb⟩ := hc
  have ha : 0 ≤ a ∧ a ≤ 31 := by simpa only [flagsOk, within, Bool.and_eq_true, decide_eq_true_eq] using ha
  have hb : 0 ≤ b ∧ b ≤ 31 := by simpa only [flagsOk, within, Bool.and_eq_true, decide_eq_true_eq] using hb
  obtain ⟨x, rfl⟩ : ∃ x : Nat, a = x := ⟨a.toNat, by omega⟩
  obtain ⟨y, rfl⟩ : ∃ y : Nat, b = y := ⟨b.toNat, by omega⟩
  have hx : x < 32 := by omega
  have hy : y < 32 := by omega
  simp only [go_sem]
  repeat' ((first | apply qa | apply qb | apply qc | apply qd | apply qe | apply qf | apply qg | apply qh | apply qi | apply qj | apply qk) <;> intro hp <;> simp only [hp, go_sem])
  refine loop_go (fun j : Nat => [(5, .int .i64 (((x &&& y) % 2 ^ j : Nat) : Int)), (6, .int .i64 ((2 ^ j : Nat) : Int))]) (fun _ => []) (fun j => 5 - j) (fun j => j ≤ 5) 0 (Nat.zero_le _) (by rw [Nat.pow_zero, Nat.mod_one]; rfl) rfl ?_
  intro j hj ih
  rcases Nat.lt_or_ge j 5 with h | h
  · have hp : 2 ^ j ≤ 16 := by
      have : ∀ j : Fin 5, 2 ^ j.val ≤ 16 := by decide
      exact this ⟨j, h⟩
    have hp0 : 0 < 2 ^ j := Nat.pow_pos (by decide)
    have g1 : ((2 ^ j : Nat) : Int) ≤ 16 := by omega
    have g2 : ¬ ((2 ^ j : Nat) : Int) = 0 := by omega
    have g3 := (and_step ⟨x, hx⟩ ⟨y, hy⟩ ⟨j, h⟩).1
    have g4 := (and_step ⟨y, hy⟩ ⟨x, hx⟩ ⟨j, h⟩).1
    have g5 := (and_step ⟨x, hx⟩ ⟨y, hy⟩ ⟨j, h⟩).2
    simp only at g3 g4 g5
    have g6 : IntKind.i64.wrap (2 * ((2 ^ j : Nat) : Int)) = ((2 ^ (j + 1) : Nat) : Int) := (wrap64 (by omega) (by omega)).trans (by rw [Nat.pow_succ]; omega)
    have hm : (x &&& y) % 2 ^ j < 2 ^ j := Nat.mod_lt _ hp0
    have ih' := ih (j + 1) h (by omega)
    rw [g5] at ih'
    clear ih g5
    cases t1 : x.testBit j with
    | false =>
      rw [t1] at g3 ih'
      simp only [Bool.false_and, Bool.false_eq_true, if_false, Nat.add_zero] at ih'
      simp only [g1, g2, g3, g4, g6, go_sem]
      repeat' ((first | apply qa | apply qb | apply qc | apply qd | apply qe | apply qf | apply qg | apply qh | apply qi | apply qj | apply qk) <;> intro hp <;> simp only [hp, g1, g2, g3, g4, g6, go_sem])
      exact ih'
    | true =>
      cases t2 : y.testBit j with
      | false =>
        rw [t1] at g3 ih'
        rw [t2] at g4 ih'
        simp only [Bool.and_false, Bool.false_eq_true, if_false, Nat.add_zero] at ih'
        simp only [g1, g2, g3, g4, g6, go_sem]
        repeat' ((first | apply qa | apply qb | apply qc | apply qd | apply qe | apply qf | apply qg | apply qh | apply qi | apply qj | apply qk) <;> intro hp <;> simp only [hp, g1, g2, g3, g4, g6, go_sem])
        exact ih'
      | true =>
        rw [t1] at g3 ih'
        rw [t2] at g4 ih'
        simp only [Bool.and_true, if_true] at ih'
        have g7 : IntKind.i64.wrap ((((x &&& y) % 2 ^ j : Nat) : Int) + ((2 ^ j : Nat) : Int)) = (((x &&& y) % 2 ^ j + 2 ^ j : Nat) : Int) := (wrap64 (by omega) (by omega)).trans (by omega)
        simp only [g1, g2, g3, g4, g6, g7, go_sem]
        repeat' ((first | apply qa | apply qb | apply qc | apply qd | apply qe | apply qf | apply qg | apply qh | apply qi | apply qj | apply qk) <;> intro hp <;> simp only [hp, g1, g2, g3, g4, g6, g7, go_sem])
        exact ih'
  · have h5 : j = 5 := by omega
    subst h5
    have g1 : ¬ ((2 ^ 5 : Nat) : Int) ≤ 16 := by decide
    have e : (x &&& y) % 2 ^ 5 = x &&& y := Nat.mod_eq_of_lt (Nat.lt_of_le_of_lt Nat.and_le_left (by omega))
    rw [e]
    simp only [g1, go_sem]
    repeat' ((first | apply qa | apply qb | apply qc | apply qd | apply qe | apply qf | apply qg | apply qh | apply qi | apply qj | apply qk) <;> intro hp <;> simp only [hp, g1, go_sem])
    simp only [fin_mk, finV, resL, resV1, resIn, endA, listIn, Option.some_or, Option.none_or, oneOrTup, go_sem]
    rw [← hr]
    rfl
open Classical in
noncomputable def spSetHas : VM.Spec := { modes := [.rd, .rd], run := fun | [.lst 2 s', .int .i64 n] => (decL Range.dec s').bind fun s => if s.length ≤ 8388608 then some (.bool (hasR s n), []) else none | _ => none, need := [] }
attribute [go_sem] spSetHas
theorem spSetHas_in {ins : List V} {r : V} {outs : List V} (h : spSetHas.run ins = some (r, outs)) : ∃ (s : (List Range)) (n : Int), ins = [.lst 2 ((s).map Range.enc), .int .i64 n] ∧ (s.length ≤ 8388608) ∧ .bool (hasR s n) = r ∧ outs = [] := by
  unfold spSetHas at h
  simp only at h
  split at h
  · rename_i s' n
    simp only [Option.bind_eq_some_iff] at h
    obtain ⟨s, h_s, h⟩ := h
    split at h
    case isFalse => cases h
    rename_i hc
    simp only [Option.some.injEq, Prod.mk.injEq] at h
    obtain ⟨h1, h2⟩ := h
    have h_s := decL_some (fun _ _ h => Range.dec_some h) h_s
    subst h_s
    exact ⟨s, n, rfl, hc, h1, h2.symm⟩
  · cases h
def T_impl_SetHas : Hints := ⟨lk [], lk [(2, [1, 7, 8, 9])], lk [(0, [0, 1]), (1, [1, 7, 8, 9]), (2, [1, 7, 8, 9, 10]), (3, [1, 6, 7, 8, 9]), (4, [1, 7, 8, 9, 18]), (5, [4]), (6, [1, 7, 8, 9]), (7, [4])], lk [], lf []⟩
noncomputable def Phi_impl_SetHas : Tab := lk [(83, spWithin)]
attribute [go_sem] T_impl_SetHas Phi_impl_SetHas
theorem phi_impl_SetHas : ∀ f sp, Phi_impl_SetHas f = some sp → FnOk Tryz.prog f sp ∧ ∀ n ∈ sp.need, n ∈ ([] : List String) := phi_cons ok_impl_within (n0 rfl) (phi_nil)
theorem ok_impl_SetHas : FnOk Tryz.prog 60 spSetHas := by
  refine fn_ok (Φ := Phi_impl_SetHas) (T := T_impl_SetHas) phi_impl_SetHas mixed Tryz.func60 rfl rfl rfl (by decide) ?_
  intro ins r outs hr hl
  clear hl
  have hs := spSetHas_in hr
  clear hr
  obtain ⟨s, n, rfl, hc, hr, rfl⟩ := hs
  simp only [spSetHas, Tryz.f60, Go.VM.initS]
  simp only [go_sem]
  repeat' ((first | apply qa | apply qb | apply qc | apply qd | apply qe | apply qf | apply qg | apply qh | apply qi | apply qj | apply qk) <;> intro hp <;> simp only [hp, go_sem])
  refine loop_go (fun i : Nat => [(9, .int .i64 (i : Int))]) (fun _ => []) (fun i => s.length - i) (fun i => i ≤ s.length ∧ (s.take i).any (fun r => decide (r.Lo ≤ n) && decide (n ≤ r.Hi)) = false) 0 ⟨Nat.zero_le _, by simp⟩ rfl rfl ?_
  intro i ⟨hi, ha⟩ ih
  rcases Nat.lt_or_ge i s.length with h | h
  · have g1 : (i : Int) < s.length := by omega
    have g2 : (0 : Int) ≤ i := by omega
    have g3 : s[i]? = some s[i] := List.getElem?_eq_getElem h
    have g5 := wrap_succ h (by omega)
    cases hb : within n s[i].Lo s[i].Hi with
    | true =>
      simp only [g1, g2, g3, g5, hb, go_sem]
      repeat' ((first | apply qa | apply qb | apply qc | apply qd | apply qe | apply qf | apply qg | apply qh | apply qi | apply qj | apply qk) <;> intro hp <;> simp only [hp, g1, g2, g3, g5, hb, go_sem])
      simp only [fin_mk, finV, resL, resV1, resIn, endA, listIn, Option.some_or, Option.none_or, oneOrTup, go_sem]
      rw [← hr]
      rw [hasR, any_bad h hb]
    | false =>
      have ih' := ih (i + 1) ⟨h, any_take_succ h ha hb⟩ (by omega)
      simp only [g1, g2, g3, g5, hb, go_sem]
      repeat' ((first | apply qa | apply qb | apply qc | apply qd | apply qe | apply qf | apply qg | apply qh | apply qi | apply qj | apply qk) <;> intro hp <;> simp only [hp, g1, g2, g3, g5, hb, go_sem])
      exact ih'
  · have g1 : ¬ (i : Int) < s.length := by omega
    simp only [g1, go_sem]
    repeat' ((first | apply qa | apply qb | apply qc | apply qd | apply qe | apply qf | apply qg | apply qh | apply qi | apply qj | apply qk) <;> intro hp <;> simp only [hp, g1, go_sem])
    simp only [fin_mk, finV, resL, resV1, resIn, endA, listIn, Option.some_or, Option.none_or, oneOrTup, go_sem]
    rw [← hr]
    rw [hasR, any_take_end h ha]
def T_spec_SetHas : Hints := ⟨lk [], lk [(2, [0, 1, 5])], lk [(0, [0, 1]), (1, [0, 1, 5]), (2, [0, 1, 5, 9]), (4, [0, 1, 5, 27]), (5, [4]), (3, [0, 1, 5]), (6, [4])], lk [], lf []⟩
noncomputable def Phi_spec_SetHas : Tab := lk []
attribute [go_sem] T_spec_SetHas Phi_spec_SetHas
theorem phi_spec_SetHas : ∀ f sp, Phi_spec_SetHas f = some sp → FnOk Tryz.prog f sp ∧ ∀ n ∈ sp.need, n ∈ ([] : List String) := phi_nil
theorem ok_spec_SetHas : FnOk Tryz.prog 29 spSetHas := by
  refine fn_ok (Φ := Phi_spec_SetHas) (T := T_spec_SetHas) phi_spec_SetHas mixed Tryz.func29 rfl rfl rfl (by decide) ?_
  intro ins r outs hr hl
  clear hl
  have hs := spSetHas_in hr
  clear hr
  obtain ⟨s, n, rfl, hc, hr, rfl⟩ := hs
  simp only [spSetHas, Tryz.f29, Go.VM.initS]
  simp only [go_sem]
  repeat' ((first | apply qa | apply qb | apply qc | apply qd | apply qe | apply qf | apply qg | apply qh | apply qi | apply qj | apply qk) <;> intro hp <;> simp only [hp, go_sem])
  refine loop_go (fun i : Nat => [(5, .int .i64 (i : Int))]) (fun _ => []) (fun i => s.length - i) (fun i => i ≤ s.length ∧ (s.take i).any (fun r => decide (r.Lo ≤ n) && decide (n ≤ r.Hi)) = false) 0 ⟨Nat.zero_le _, by simp⟩ rfl rfl ?_
  intro i ⟨hi, ha⟩ ih
  rcases Nat.lt_or_ge i s.length with h | h
  · have g1 : (i : Int) < s.length := by omega
    have g2 : (0 : Int) ≤ i := by omega
    have g3 : s[i]? = some s[i] := List.getElem?_eq_getElem h
    have g5 := wrap_succ h (by omega)
    by_cases c1 : s[i].Lo ≤ n
    · by_cases c2 : n ≤ s[i].Hi
      · simp only [g1, g2, g3, g5, c1, c2, go_sem]
        repeat' ((first | apply qa | apply qb | apply qc | apply qd | apply qe | apply qf | apply qg | apply qh | apply qi | apply qj | apply qk) <;> intro hp <;> simp only [hp, g1, g2, g3, g5, c1, c2, go_sem])
        simp only [fin_mk, finV, resL, resV1, resIn, endA, listIn, Option.some_or, Option.none_or, oneOrTup, go_sem]
        rw [← hr]
        rw [hasR, any_bad h (by simp [c1, c2])]
      · have ih' := ih (i + 1) ⟨h, any_take_succ h ha (by simp [c1]; omega)⟩ (by omega)
        simp only [g1, g2, g3, g5, c1, c2, go_sem]
        repeat' ((first | apply qa | apply qb | apply qc | apply qd | apply qe | apply qf | apply qg | apply qh | apply qi | apply qj | apply qk) <;> intro hp <;> simp only [hp, g1, g2, g3, g5, c1, c2, go_sem])
        exact ih'
    · have ih' := ih (i + 1) ⟨h, any_take_succ h ha (by simp; omega)⟩ (by omega)
      simp only [g1, g2, g3, g5, c1, go_sem]
      repeat' ((first | apply qa | apply qb | apply qc | apply qd | apply qe | apply qf | apply qg | apply qh | apply qi | apply qj | apply qk) <;> intro hp <;> simp only [hp, g1, g2, g3, g5, c1, go_sem])
      exact ih'
  · have g1 : ¬ (i : Int) < s.length := by omega
    simp only [g1, go_sem]
    repeat' ((first | apply qa | apply qb | apply qc | apply qd | apply qe | apply qf | apply qg | apply qh | apply qi | apply qj | apply qk) <;> intro hp <;> simp only [hp, g1, go_sem])
    simp only [fin_mk, finV, resL, resV1, resIn, endA, listIn, Option.some_or, Option.none_or, oneOrTup, go_sem]
    rw [← hr]
    rw [hasR, any_take_end h ha]
end Go.Proofs.YtghmjnggmacohaaGreatDoor.L

