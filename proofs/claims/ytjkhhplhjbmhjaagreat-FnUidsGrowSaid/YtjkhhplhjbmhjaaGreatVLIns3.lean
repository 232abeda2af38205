/- Contracts of functions, and the facts that they need. No condition. -/
import Derived.Test.YtjkhhplhjbmhjaaGreatVFacts
import Derived.Test.YtjkhhplhjbmhjaaGreatProg
import Derived.KernelRfl
import Derived.Test.YtjkhhplhjbmhjaaGreatVmCur
import Derived.Test.YtjkhhplhjbmhjaaGreatVmLoop
import Derived.Test.YtjkhhplhjbmhjaaGreatVmRec
import Derived.Sort.Walk0
import Derived.Test.YtjkhhplhjbmhjaaGreatVmLift
import Derived.Shelf.Spec.SlicesInsertGrow
namespace Go.Proofs.YtjkhhplhjbmhjaaGreat.L
open Go Go.VM
set_option maxRecDepth 100000
set_option linter.unusedSimpArgs false
set_option linter.unusedVariables false
theorem mixed : Tryz.prog.follows .mixedOrders = true := by decide +kernel
def within (n lo hi : Int) : Bool := decide (lo ≤ n) && decide (n ≤ hi)
open Classical in
noncomputable def spWithin : VM.Spec := { modes := [.rd, .rd, .rd], run := fun | [.int .i64 n, .int .i64 lo, .int .i64 hi] => some (.bool (within n lo hi), []) | _ => none, need := [] }
attribute [go_sem] spWithin
theorem spWithin_in {ins : List V} {r : V} {outs : List V} (h : spWithin.run ins = some (r, outs)) : ∃ (n : Int) (lo : Int) (hi : Int), ins = [.int .i64 n, .int .i64 lo, .int .i64 hi] ∧ .bool (within n lo hi) = r ∧ outs = [] := by
  unfold spWithin at h
  simp only at h
  split at h
  · rename_i n lo hi
    simp only [Option.some.injEq, Prod.mk.injEq] at h
    obtain ⟨h1, h2⟩ := h
    exact ⟨n, lo, hi, rfl, h1, h2.symm⟩
  · cases h
def T_impl_within : Hints := ⟨lk [], lk [], lk [(0, [0, 1, 2]), (1, [6])], lk []⟩
noncomputable def Phi_impl_within : Tab := lk []
attribute [go_sem] T_impl_within Phi_impl_within
theorem phi_impl_within : ∀ f sp, Phi_impl_within f = some sp → FnOk Tryz.prog f sp ∧ ∀ n ∈ sp.need, n ∈ ([] : List String) := phi_nil
theorem ok_impl_within : FnOk Tryz.prog 35 spWithin := by
  refine fn_ok (Φ := Phi_impl_within) (T := T_impl_within) phi_impl_within mixed Tryz.func35 rfl rfl rfl (by decide) ?_
  intro ins r outs hr hl
  clear hl
  have hs := spWithin_in hr
  clear hr
  obtain ⟨n, lo, hi, rfl, hr, rfl⟩ := hs
  simp only [spWithin, Tryz.f35, Go.VM.initS]
  simp only [go_sem]
  repeat' ((first | apply qa | apply qb | apply qc | apply qd | apply qe | apply qf | apply qg | apply qh | apply qi | apply qj | apply qk) <;> intro hp <;> simp only [hp, go_sem])
  all_goals (simp only [fin_mk, finV, resL, resV1, resIn, endA, listIn, Option.some_or, Option.none_or, oneOrTup, go_sem]; rw [← hr])
  all_goals simp [within, hp]
def T_spec_l01In : Hints := ⟨lk [], lk [], lk [(0, [0, 1, 2]), (1, [6])], lk []⟩
noncomputable def Phi_spec_l01In : Tab := lk []
attribute [go_sem] T_spec_l01In Phi_spec_l01In
theorem phi_spec_l01In : ∀ f sp, Phi_spec_l01In f = some sp → FnOk Tryz.prog f sp ∧ ∀ n ∈ sp.need, n ∈ ([] : List String) := phi_nil
theorem ok_spec_l01In : FnOk Tryz.prog 84 spWithin := by
  refine fn_ok (Φ := Phi_spec_l01In) (T := T_spec_l01In) phi_spec_l01In mixed Tryz.func84 rfl rfl rfl (by decide) ?_
  intro ins r outs hr hl
  clear hl
  have hs := spWithin_in hr
  clear hr
  obtain ⟨n, lo, hi, rfl, hr, rfl⟩ := hs
  simp only [spWithin, Tryz.f84, Go.VM.initS]
  simp only [go_sem]
  repeat' ((first | apply qa | apply qb | apply qc | apply qd | apply qe | apply qf | apply qg | apply qh | apply qi | apply qj | apply qk) <;> intro hp <;> simp only [hp, go_sem])
  all_goals (simp only [fin_mk, finV, resL, resV1, resIn, endA, listIn, Option.some_or, Option.none_or, oneOrTup, go_sem]; rw [← hr])
  all_goals simp [within, hp]
open Classical in
noncomputable def spUid : VM.Spec := { modes := [.rd], run := fun | [.int .i64 n] => some (.bool (within n 1 9999), []) | _ => none, need := [] }
attribute [go_sem] spUid
theorem spUid_in {ins : List V} {r : V} {outs : List V} (h : spUid.run ins = some (r, outs)) : ∃ (n : Int), ins = [.int .i64 n] ∧ .bool (within n 1 9999) = r ∧ outs = [] := by
  unfold spUid at h
  simp only at h
  split at h
  · rename_i n
    simp only [Option.some.injEq, Prod.mk.injEq] at h
    obtain ⟨h1, h2⟩ := h
    exact ⟨n, rfl, h1, h2.symm⟩
  · cases h
def T_impl_isUid : Hints := ⟨lk [], lk [], lk [(0, [0]), (1, [2])], lk []⟩
noncomputable def Phi_impl_isUid : Tab := lk [(35, spWithin)]
attribute [go_sem] T_impl_isUid Phi_impl_isUid
theorem phi_impl_isUid : ∀ f sp, Phi_impl_isUid f = some sp → FnOk Tryz.prog f sp ∧ ∀ n ∈ sp.need, n ∈ ([] : List String) := phi_cons ok_impl_within (n0 rfl) (phi_nil)
theorem ok_impl_isUid : FnOk Tryz.prog 79 spUid := by
  refine fn_ok (Φ := Phi_impl_isUid) (T := T_impl_isUid) phi_impl_isUid mixed Tryz.func79 rfl rfl rfl (by decide) ?_
  intro ins r outs hr hl
  clear hl
  have hs := spUid_in hr
  clear hr
  obtain ⟨n, rfl, hr, rfl⟩ := hs
  simp only [spUid, Tryz.f79, Go.VM.initS]
  simp only [go_sem]
  simp only [fin_mk, finV, resL, resV1, resIn, endA, listIn, Option.some_or, Option.none_or, oneOrTup, go_sem]
  rw [← hr]
open Classical in
noncomputable def spMod : VM.Spec := { modes := [.rd], run := fun | [.int .i64 n] => some (.bool (within n 1 100000), []) | _ => none, need := [] }
attribute [go_sem] spMod
theorem spMod_in {ins : List V} {r : V} {outs : List V} (h : spMod.run ins = some (r, outs)) : ∃ (n : Int), ins = [.int .i64 n] ∧ .bool (within n 1 100000) = r ∧ outs = [] := by
  unfold spMod at h
  simp only at h
  split at h
  · rename_i n
    simp only [Option.some.injEq, Prod.mk.injEq] at h
    obtain ⟨h1, h2⟩ := h
    exact ⟨n, rfl, h1, h2.symm⟩
  · cases h
def low (c : UInt8) : Bool := within (c.toNat : Int) 97 122
def boxName (s : List UInt8) : Bool := s.all low && within s.length 1 8
theorem boxName_bad {s : List UInt8} {i : Nat} (h : i < s.length) (hb : low s[i] = false) : boxName s = false := by
  have : s.all low = false := List.all_eq_false.2 ⟨s[i], List.getElem_mem h, by simp [hb]⟩
  rw [boxName, this]; rfl
theorem boxName_end {s : List UInt8} {i : Nat} (h : s.length ≤ i) (ha : (s.take i).all low = true) : boxName s = within s.length 1 8 := by
  rw [List.take_of_length_le h] at ha
  rw [boxName, ha]; rfl
theorem all_take_succ {α : Type} {s : List α} {p : α → Bool} {i : Nat} (h : i < s.length) (ha : (s.take i).all p = true) (hb : p s[i] = true) : (s.take (i + 1)).all p = true := by
  rw [take_succ' h, List.all_append, ha]; simp [hb]
theorem byte_wrap (c : UInt8) : IntKind.i64.wrap ((c.toNat : Nat) : Int) = c.toNat := wrap64 (by omega) (by have := c.toNat_lt; omega)
open Classical in
noncomputable def spBoxName : VM.Spec := { modes := [.rd], run := fun | [.str s] => if s.length ≤ 1099511627776 then some (.bool (boxName s), []) else none | _ => none, need := [] }
attribute [go_sem] spBoxName
theorem spBoxName_in {ins : List V} {r : V} {outs : List V} (h : spBoxName.run ins = some (r, outs)) : ∃ (s : (List UInt8)), ins = [.str s] ∧ (s.length ≤ 1099511627776) ∧ .bool (boxName s) = r ∧ outs = [] := by
  unfold spBoxName at h
  simp only at h
  split at h
  · rename_i s
    split at h
    case isFalse => cases h
    rename_i hc
    simp only [Option.some.injEq, Prod.mk.injEq] at h
    obtain ⟨h1, h2⟩ := h
    exact ⟨s, rfl, hc, h1, h2.symm⟩
  · cases h
def T_impl_BoxName : Hints := ⟨lk [], lk [(2, [0, 5, 6])], lk [(0, [0]), (1, [0, 5, 6]), (2, [0, 5, 6, 7]), (3, [0, 3, 5, 6]), (4, [0, 5, 6, 14]), (5, [2]), (6, [0, 5, 6]), (7, [2])], lk []⟩
noncomputable def Phi_impl_BoxName : Tab := lk [(35, spWithin)]
attribute [go_sem] T_impl_BoxName Phi_impl_BoxName
theorem phi_impl_BoxName : ∀ f sp, Phi_impl_BoxName f = some sp → FnOk Tryz.prog f sp ∧ ∀ n ∈ sp.need, n ∈ ([] : List String) := phi_cons ok_impl_within (n0 rfl) (phi_nil)
theorem ok_impl_BoxName : FnOk Tryz.prog 60 spBoxName := by
  refine fn_ok (Φ := Phi_impl_BoxName) (T := T_impl_BoxName) phi_impl_BoxName mixed Tryz.func60 rfl rfl rfl (by decide) ?_
  intro ins r outs hr hl
  clear hl
  have hs := spBoxName_in hr
  clear hr
  obtain ⟨s, rfl, hc, hr, rfl⟩ := hs
  simp only [spBoxName, Tryz.f60, Go.VM.initS]
  simp only [go_sem]
  refine loop_go (fun i : Nat => [(6, .int .i64 (i : Int))]) (fun _ => []) (fun i => s.length - i) (fun i => i ≤ s.length ∧ (s.take i).all low = true) 0 ⟨Nat.zero_le _, rfl⟩ rfl rfl ?_
  intro i ⟨hi, ha⟩ ih
  rcases Nat.lt_or_ge i s.length with h | h
  · have g1 : (i : Int) < s.length := by omega
    have g2 : (0 : Int) ≤ i := by omega
    have g3 : s[i]? = some s[i] := List.getElem?_eq_getElem h
    have g5 := wrap_succ h (by omega)
    simp only [g1, g2, g3, g5, byte_wrap, go_sem]
    repeat' ((first | apply qa | apply qb | apply qc | apply qd | apply qe | apply qf | apply qg | apply qh | apply qi | apply qj | apply qk) <;> intro hp <;> simp only [hp, g1, g2, g3, g5, byte_wrap, go_sem])
    · simp only [fin_mk, finV, resL, resV1, resIn, endA, listIn, Option.some_or, Option.none_or, oneOrTup, go_sem]
      rw [← hr]
      rw [boxName_bad h (by simpa [low] using hp)]
    · exact ih (i + 1) ⟨h, all_take_succ h ha (by simpa [low] using hp)⟩ (by omega)
  · have g1 : ¬ (i : Int) < s.length := by omega
    simp only [g1, go_sem]
    simp only [fin_mk, finV, resL, resV1, resIn, endA, listIn, Option.some_or, Option.none_or, oneOrTup, go_sem]
    rw [← hr]
    rw [boxName_end h ha]
def T_spec_BoxName : Hints := ⟨lk [], lk [(2, [0, 3])], lk [(0, [0]), (1, [0, 3]), (2, [0, 3, 7]), (4, [0, 3, 19]), (5, [2]), (3, [0, 3]), (6, [2])], lk []⟩
noncomputable def Phi_spec_BoxName : Tab := lk [(84, spWithin)]
attribute [go_sem] T_spec_BoxName Phi_spec_BoxName
theorem phi_spec_BoxName : ∀ f sp, Phi_spec_BoxName f = some sp → FnOk Tryz.prog f sp ∧ ∀ n ∈ sp.need, n ∈ ([] : List String) := phi_cons ok_spec_l01In (n0 rfl) (phi_nil)
theorem ok_spec_BoxName : FnOk Tryz.prog 85 spBoxName := by
  refine fn_ok (Φ := Phi_spec_BoxName) (T := T_spec_BoxName) phi_spec_BoxName mixed Tryz.func85 rfl rfl rfl (by decide) ?_
  intro ins r outs hr hl
  clear hl
  have hs := spBoxName_in hr
  clear hr
  obtain ⟨s, rfl, hc, hr, rfl⟩ := hs
  simp only [spBoxName, Tryz.f85, Go.VM.initS]
  simp only [go_sem]
  refine loop_go (fun i : Nat => [(3, .int .i64 (i : Int))]) (fun _ => []) (fun i => s.length - i) (fun i => i ≤ s.length ∧ (s.take i).all low = true) 0 ⟨Nat.zero_le _, rfl⟩ rfl rfl ?_
  intro i ⟨hi, ha⟩ ih
  rcases Nat.lt_or_ge i s.length with h | h
  · have g1 : (i : Int) < s.length := by omega
    have g2 : (0 : Int) ≤ i := by omega
    have g3 : s[i]? = some s[i] := List.getElem?_eq_getElem h
    have g5 := wrap_succ h (by omega)
    simp only [g1, g2, g3, g5, byte_wrap, go_sem]
    repeat' ((first | apply qa | apply qb | apply qc | apply qd | apply qe | apply qf | apply qg | apply qh | apply qi | apply qj | apply qk) <;> intro hp <;> simp only [hp, g1, g2, g3, g5, byte_wrap, go_sem])
    all_goals first
      | (refine fin_mk.2 ?_; simp only [fin_mk, finV, resL, resV1, resIn, endA, listIn, Option.some_or, Option.none_or, oneOrTup, go_sem]; rw [← hr, boxName_bad h (by clear ih; simp only [low, within, Bool.and_eq_false_iff, decide_eq_false_iff_not]; simp_all <;> omega)])
      | exact ih (i + 1) ⟨h, all_take_succ h ha (by clear ih; simp only [low, within, Bool.and_eq_true, decide_eq_true_eq]; simp_all <;> omega)⟩ (by omega)
  · have g1 : ¬ (i : Int) < s.length := by omega
    simp only [g1, go_sem]
    simp only [fin_mk, finV, resL, resV1, resIn, endA, listIn, Option.some_or, Option.none_or, oneOrTup, go_sem]
    rw [← hr]
    rw [boxName_end h ha]
end Go.Proofs.YtjkhhplhjbmhjaaGreat.L

namespace Go.Proofs.YtjkhhplhjbmhjaaGreat.L
open Go Go.VM
set_option maxRecDepth 100000
set_option maxHeartbeats 4000000
set_option linter.unusedSimpArgs false
set_option linter.unusedVariables false
def flagsOk (n : Int) : Bool := within n 0 31
open Classical in
noncomputable def spFlagsOk : VM.Spec := { modes := [.rd], run := fun | [.int .i64 n] => some (.bool (flagsOk n), []) | _ => none, need := [] }
attribute [go_sem] spFlagsOk
theorem spFlagsOk_in {ins : List V} {r : V} {outs : List V} (h : spFlagsOk.run ins = some (r, outs)) : ∃ (n : Int), ins = [.int .i64 n] ∧ .bool (flagsOk n) = r ∧ outs = [] := by
  unfold spFlagsOk at h
  simp only at h
  split at h
  · rename_i n
    simp only [Option.some.injEq, Prod.mk.injEq] at h
    obtain ⟨h1, h2⟩ := h
    exact ⟨n, rfl, h1, h2.symm⟩
  · cases h
def T_impl_FlagsOk : Hints := ⟨lk [], lk [], lk [(0, [0]), (1, [2])], lk []⟩
noncomputable def Phi_impl_FlagsOk : Tab := lk [(35, spWithin)]
attribute [go_sem] T_impl_FlagsOk Phi_impl_FlagsOk
theorem phi_impl_FlagsOk : ∀ f sp, Phi_impl_FlagsOk f = some sp → FnOk Tryz.prog f sp ∧ ∀ n ∈ sp.need, n ∈ ([] : List String) := phi_cons ok_impl_within (n0 rfl) (phi_nil)
theorem ok_impl_FlagsOk : FnOk Tryz.prog 65 spFlagsOk := by
  refine fn_ok (Φ := Phi_impl_FlagsOk) (T := T_impl_FlagsOk) phi_impl_FlagsOk mixed Tryz.func65 rfl rfl rfl (by decide) ?_
  intro ins r outs hr hl
  clear hl
  have hs := spFlagsOk_in hr
  clear hr
  obtain ⟨n, rfl, hr, rfl⟩ := hs
  simp only [spFlagsOk, Tryz.f65, Go.VM.initS]
  simp only [go_sem]
  simp only [fin_mk, finV, resL, resV1, resIn, endA, listIn, Option.some_or, Option.none_or, oneOrTup, go_sem]
  rw [← hr]
  rfl
def T_spec_FlagsOk : Hints := ⟨lk [], lk [], lk [(0, [0]), (1, [2])], lk []⟩
noncomputable def Phi_spec_FlagsOk : Tab := lk [(84, spWithin)]
attribute [go_sem] T_spec_FlagsOk Phi_spec_FlagsOk
theorem phi_spec_FlagsOk : ∀ f sp, Phi_spec_FlagsOk f = some sp → FnOk Tryz.prog f sp ∧ ∀ n ∈ sp.need, n ∈ ([] : List String) := phi_cons ok_spec_l01In (n0 rfl) (phi_nil)
theorem ok_spec_FlagsOk : FnOk Tryz.prog 88 spFlagsOk := by
  refine fn_ok (Φ := Phi_spec_FlagsOk) (T := T_spec_FlagsOk) phi_spec_FlagsOk mixed Tryz.func88 rfl rfl rfl (by decide) ?_
  intro ins r outs hr hl
  clear hl
  have hs := spFlagsOk_in hr
  clear hr
  obtain ⟨n, rfl, hr, rfl⟩ := hs
  simp only [spFlagsOk, Tryz.f88, Go.VM.initS]
  simp only [go_sem]
  simp only [fin_mk, finV, resL, resV1, resIn, endA, listIn, Option.some_or, Option.none_or, oneOrTup, go_sem]
  rw [← hr]
  rfl
theorem ok_internal_bytealg_IndexByteString : FnOk Tryz.prog 146 spIndexByte :=
  indexByte_ext Tryz.func146 (by kernel_rfl) (by kernel_rfl) (by kernel_rfl) (by kernel_rfl)
def T_internal_stringslite_IndexByte : Hints := ⟨lk [], lk [], lk [(0, [0, 1]), (1, [4])], lk []⟩
noncomputable def Phi_internal_stringslite_IndexByte : Tab := lk [(146, spIndexByte)]
attribute [go_sem] T_internal_stringslite_IndexByte Phi_internal_stringslite_IndexByte
theorem phi_internal_stringslite_IndexByte : ∀ f sp, Phi_internal_stringslite_IndexByte f = some sp → FnOk Tryz.prog f sp ∧ ∀ n ∈ sp.need, n ∈ ([] : List String) := phi_cons ok_internal_bytealg_IndexByteString (n0 rfl) (phi_nil)
theorem ok_internal_stringslite_IndexByte : FnOk Tryz.prog 135 spIndexByte := by
  refine fn_ok (Φ := Phi_internal_stringslite_IndexByte) (T := T_internal_stringslite_IndexByte) phi_internal_stringslite_IndexByte mixed Tryz.func135 rfl rfl rfl (by decide) ?_
  intro ins r outs hr hl
  clear hl
  have hs := spIndexByte_in hr
  clear hr
  obtain ⟨s, c, rfl, hr, rfl⟩ := hs
  simp only [spIndexByte, Tryz.f135, Go.VM.initS]
  simp only [go_sem]
  simp only [fin_mk, finV, resL, resV1, resIn, endA, listIn, Option.some_or, Option.none_or, oneOrTup, go_sem]
  rw [← hr]
def T_strings_IndexByte : Hints := ⟨lk [], lk [], lk [(0, [0, 1]), (1, [4])], lk []⟩
noncomputable def Phi_strings_IndexByte : Tab := lk [(135, spIndexByte)]
attribute [go_sem] T_strings_IndexByte Phi_strings_IndexByte
theorem phi_strings_IndexByte : ∀ f sp, Phi_strings_IndexByte f = some sp → FnOk Tryz.prog f sp ∧ ∀ n ∈ sp.need, n ∈ ([] : List String) := phi_cons ok_internal_stringslite_IndexByte (n0 rfl) (phi_nil)
theorem ok_strings_IndexByte : FnOk Tryz.prog 111 spIndexByte := by
  refine fn_ok (Φ := Phi_strings_IndexByte) (T := T_strings_IndexByte) phi_strings_IndexByte mixed Tryz.func111 rfl rfl rfl (by decide) ?_
  intro ins r outs hr hl
  clear hl
  have hs := spIndexByte_in hr
  clear hr
  obtain ⟨s, c, rfl, hr, rfl⟩ := hs
  simp only [spIndexByte, Tryz.f111, Go.VM.initS]
  simp only [go_sem]
  simp only [fin_mk, finV, resL, resV1, resIn, endA, listIn, Option.some_or, Option.none_or, oneOrTup, go_sem]
  rw [← hr]
def mailOk (s : List UInt8) : Bool := within s.length 1 200 && !s.contains 0
open Classical in
noncomputable def spMailOk : VM.Spec := { modes := [.rd], run := fun | [.str s] => if s.length ≤ 4194304 then some (.bool (mailOk s), []) else none | _ => none, need := [] }
attribute [go_sem] spMailOk
theorem spMailOk_in {ins : List V} {r : V} {outs : List V} (h : spMailOk.run ins = some (r, outs)) : ∃ (s : (List UInt8)), ins = [.str s] ∧ (s.length ≤ 4194304) ∧ .bool (mailOk s) = r ∧ outs = [] := by
  unfold spMailOk at h
  simp only at h
  split at h
  · rename_i s
    split at h
    case isFalse => cases h
    rename_i hc
    simp only [Option.some.injEq, Prod.mk.injEq] at h
    obtain ⟨h1, h2⟩ := h
    exact ⟨s, rfl, hc, h1, h2.symm⟩
  · cases h
def T_impl_MailOk : Hints := ⟨lk [], lk [], lk [(0, [0]), (1, [2])], lk []⟩
noncomputable def Phi_impl_MailOk : Tab := lk [(35, spWithin), (111, spIndexByte)]
attribute [go_sem] T_impl_MailOk Phi_impl_MailOk
theorem phi_impl_MailOk : ∀ f sp, Phi_impl_MailOk f = some sp → FnOk Tryz.prog f sp ∧ ∀ n ∈ sp.need, n ∈ ([] : List String) := phi_cons ok_impl_within (n0 rfl) (phi_cons ok_strings_IndexByte (n0 rfl) (phi_nil))
theorem ok_impl_MailOk : FnOk Tryz.prog 66 spMailOk := by
  refine fn_ok (Φ := Phi_impl_MailOk) (T := T_impl_MailOk) phi_impl_MailOk mixed Tryz.func66 rfl rfl rfl (by decide) ?_
  intro ins r outs hr hl
  clear hl
  have hs := spMailOk_in hr
  clear hr
  obtain ⟨s, rfl, hc, hr, rfl⟩ := hs
  simp only [spMailOk, Tryz.f66, Go.VM.initS]
  have e : decide (Lib.indexByte s (Nat.toUInt8 0) < 0) = !s.contains 0 := by
    by_cases hm : (0 : UInt8) ∈ s
    · have : ¬ Lib.indexByte s 0 < 0 := fun h => (indexByte_neg s 0).1 h hm
      simp [this, hm]
    · have := (indexByte_neg s 0).2 hm
      simp [this, hm]
  simp only [e, go_sem]
  repeat' ((first | apply qa | apply qb | apply qc | apply qd | apply qe | apply qf | apply qg | apply qh | apply qi | apply qj | apply qk) <;> intro hp <;> simp only [hp, e, go_sem])
  all_goals (simp only [fin_mk, finV, resL, resV1, resIn, endA, listIn, Option.some_or, Option.none_or, oneOrTup, go_sem]; rw [← hr])
  all_goals simp only [mailOk, hp, Bool.true_and, Bool.false_and]
def T_spec_MailOk : Hints := ⟨lk [], lk [(2, [0, 3])], lk [(0, [0]), (1, [0, 3]), (2, [0, 3, 7]), (4, [0, 3, 13]), (5, [2]), (3, [0, 3]), (6, [2])], lk []⟩
noncomputable def Phi_spec_MailOk : Tab := lk [(84, spWithin)]
attribute [go_sem] T_spec_MailOk Phi_spec_MailOk
theorem phi_spec_MailOk : ∀ f sp, Phi_spec_MailOk f = some sp → FnOk Tryz.prog f sp ∧ ∀ n ∈ sp.need, n ∈ ([] : List String) := phi_cons ok_spec_l01In (n0 rfl) (phi_nil)
theorem ok_spec_MailOk : FnOk Tryz.prog 89 spMailOk := by
  refine fn_ok (Φ := Phi_spec_MailOk) (T := T_spec_MailOk) phi_spec_MailOk mixed Tryz.func89 rfl rfl rfl (by decide) ?_
  intro ins r outs hr hl
  clear hl
  have hs := spMailOk_in hr
  clear hr
  obtain ⟨s, rfl, hc, hr, rfl⟩ := hs
  simp only [spMailOk, Tryz.f89, Go.VM.initS]
  simp only [go_sem]
  refine loop_go (fun i : Nat => [(3, .int .i64 (i : Int))]) (fun _ => []) (fun i => s.length - i) (fun i => i ≤ s.length ∧ (s.take i).contains 0 = false) 0 ⟨Nat.zero_le _, by simp⟩ rfl rfl ?_
  intro i ⟨hi, ha⟩ ih
  rcases Nat.lt_or_ge i s.length with h | h
  · have g1 : (i : Int) < s.length := by omega
    have g2 : (0 : Int) ≤ i := by omega
    have g3 : s[i]? = some s[i] := List.getElem?_eq_getElem h
    have g5 := wrap_succ h (by omega)
    by_cases hz : s[i] = 0
    · have e : ((s[i].toNat : Int) == 0) = true := by rw [hz]; rfl
      simp only [g1, g2, g3, g5, e, go_sem]
      repeat' ((first | apply qa | apply qb | apply qc | apply qd | apply qe | apply qf | apply qg | apply qh | apply qi | apply qj | apply qk) <;> intro hp <;> simp only [hp, g1, g2, g3, g5, e, go_sem])
      simp only [fin_mk, finV, resL, resV1, resIn, endA, listIn, Option.some_or, Option.none_or, oneOrTup, go_sem]
      rw [← hr]
      have : s.contains 0 = true := by rw [List.contains_iff_mem]; exact hz ▸ List.getElem_mem h
      rw [mailOk, this, Bool.not_true, Bool.and_false]
    · have e : ((s[i].toNat : Int) == 0) = false := by
        rw [beq_eq_false_iff_ne]
        intro hh
        exact hz (UInt8.toNat_inj.1 (by simpa using hh))
      simp only [g1, g2, g3, g5, e, go_sem]
      repeat' ((first | apply qa | apply qb | apply qc | apply qd | apply qe | apply qf | apply qg | apply qh | apply qi | apply qj | apply qk) <;> intro hp <;> simp only [hp, g1, g2, g3, g5, e, go_sem])
      refine ih (i + 1) ⟨h, ?_⟩ (by omega)
      rw [take_succ' h]
      simp only [List.contains_eq_mem, List.mem_append, List.mem_singleton, decide_eq_false_iff_not, not_or] at ha ⊢
      exact ⟨ha, fun hh => hz hh.symm⟩
  · have g1 : ¬ (i : Int) < s.length := by omega
    simp only [g1, go_sem]
    simp only [fin_mk, finV, resL, resV1, resIn, endA, listIn, Option.some_or, Option.none_or, oneOrTup, go_sem]
    rw [← hr]
    rw [List.take_of_length_le h] at ha
    rw [mailOk, ha, Bool.not_false, Bool.and_true]
def rangeAt (x : List Range) (i : Nat) : Bool := within (x.getD i default).Lo 1 9999 && within (x.getD i default).Hi (x.getD i default).Lo 9999 && (i == 0 || decide ((x.getD (i - 1) default).Hi + 1 < (x.getD i default).Lo))
def setOk (x : List Range) : Bool := allN x.length (rangeAt x) && decide (x.length ≤ 40)
theorem rangeAt_hi {x : List Range} {i : Nat} (h : i < x.length) (hb : rangeAt x i = true) : 1 ≤ x[i].Lo ∧ x[i].Lo ≤ x[i].Hi ∧ x[i].Hi ≤ 9999 := by
  simp only [rangeAt, getD_lt h, Bool.and_eq_true, within, decide_eq_true_eq] at hb
  omega
open Classical in
noncomputable def spSetOk : VM.Spec := { modes := [.rd], run := fun | [.lst 2 x'] => (decL Range.dec x').bind fun x => if x.length ≤ 4194304 then some (.bool (setOk x), []) else none | _ => none, need := [] }
attribute [go_sem] spSetOk
theorem spSetOk_in {ins : List V} {r : V} {outs : List V} (h : spSetOk.run ins = some (r, outs)) : ∃ (x : (List Range)), ins = [.lst 2 ((x).map Range.enc)] ∧ (x.length ≤ 4194304) ∧ .bool (setOk x) = r ∧ outs = [] := by
  unfold spSetOk at h
  simp only at h
  split at h
  · rename_i x'
    simp only [Option.bind_eq_some_iff] at h
    obtain ⟨x, h_x, h⟩ := h
    split at h
    case isFalse => cases h
    rename_i hc
    simp only [Option.some.injEq, Prod.mk.injEq] at h
    obtain ⟨h1, h2⟩ := h
    have h_x := decL_some (fun _ _ h => Range.dec_some h) h_x
    subst h_x
    exact ⟨x, rfl, hc, h1, h2.symm⟩
  · cases h
def T_impl_SetOk : Hints := ⟨lk [(4, [])], lk [(2, [0, 5, 6, 7])], lk [(0, [0]), (1, [0, 5, 6, 7]), (2, [0, 5, 6, 7, 8]), (3, [0, 3, 4, 5, 6, 7]), (4, [0, 5, 6, 7, 39]), (5, [2]), (6, [0, 5, 6, 7]), (7, [2])], lk []⟩
noncomputable def Phi_impl_SetOk : Tab := lk [(35, spWithin), (79, spUid)]
attribute [go_sem] T_impl_SetOk Phi_impl_SetOk
theorem phi_impl_SetOk : ∀ f sp, Phi_impl_SetOk f = some sp → FnOk Tryz.prog f sp ∧ ∀ n ∈ sp.need, n ∈ ([] : List String) := phi_cons ok_impl_within (n0 rfl) (phi_cons ok_impl_isUid (n0 rfl) (phi_nil))
theorem ok_impl_SetOk : FnOk Tryz.prog 64 spSetOk := by
  refine fn_ok (Φ := Phi_impl_SetOk) (T := T_impl_SetOk) phi_impl_SetOk mixed Tryz.func64 rfl rfl rfl (by decide) ?_
  intro ins r outs hr hl
  clear hl
  have hs := spSetOk_in hr
  clear hr
  obtain ⟨x, rfl, hc, hr, rfl⟩ := hs
  simp only [spSetOk, Tryz.f64, Go.VM.initS]
  simp only [go_sem]
  refine loop_go (fun i : Nat => [(7, .int .i64 (i : Int))]) (fun _ => []) (fun i => x.length - i) (fun i => i ≤ x.length ∧ ∀ j, j < i → rangeAt x j = true) 0 ⟨Nat.zero_le _, fun j hj => absurd hj (by omega)⟩ rfl rfl ?_
  intro i ⟨hi, ha⟩ ih
  rcases Nat.lt_or_ge i x.length with h | h
  · have g1 : (i : Int) < x.length := by omega
    have g2 : (0 : Int) ≤ i := by omega
    have g3 : x[i]? = some x[i] := List.getElem?_eq_getElem h
    have g5 := wrap_succ h (by omega)
    simp only [g1, g2, g3, go_sem]
    refine goes_valD 39 V.bool (!rangeAt x i) rfl rfl rfl (by decide +kernel) ?_ ?_
    · intro G hG
      clear ih hr
      rcases Nat.eq_zero_or_pos i with h0 | h0
      · have k1 : ¬ (0 : Int) < i := by omega
        have g6 : rangeAt x i = (within x[i].Lo 1 9999 && within x[i].Hi x[i].Lo 9999) := by
          have : (i == 0) = true := by simp [h0]
          simp only [rangeAt, getD_lt h, this, Bool.true_or, Bool.and_true]
        simp only [g1, g2, g3, k1, go_sem]
        repeat' ((first | ((first | apply qa | apply qb | apply qc | apply qd | apply qe | apply qf | apply qg | apply qh | apply qi | apply qj | apply qk) <;> intro hp) | ((first | refine ql rfl rfl (by decide +kernel) ?_ | refine qm _ rfl rfl (by decide +kernel) ?_) <;> have hp := True.intro)) <;> simp only [hp, g1, g2, g3, k1, go_sem])
        all_goals (refine hG _ ?_; clear hG; rw [g6]; simp_all [within] <;> omega)
      · have k1 : (0 : Int) < i := by omega
        have k2 := wrap_pred h0 (by omega)
        have k3 : (0 : Int) ≤ ((i - 1 : Nat) : Int) := by omega
        have k4 : ((i - 1 : Nat) : Int) < x.length := by omega
        have k5 : x[i - 1]? = some (x[i - 1]'(by omega)) := List.getElem?_eq_getElem (by omega)
        have k6 := rangeAt_hi (i := i - 1) (by omega) (ha (i - 1) (by omega))
        have k7 : IntKind.i64.wrap ((x[i - 1]'(by omega)).Hi + 1) = (x[i - 1]'(by omega)).Hi + 1 := wrap64 (by omega) (by omega)
        have g6 : rangeAt x i = (within x[i].Lo 1 9999 && within x[i].Hi x[i].Lo 9999 && decide ((x[i - 1]'(by omega)).Hi + 1 < x[i].Lo)) := by
          have : (i == 0) = false := by simp; omega
          simp only [rangeAt, getD_lt h, getD_lt (show i - 1 < x.length by omega), this, Bool.false_or]
        clear ha
        simp only [g1, g2, g3, k1, k2, k3, k4, k5, k7, go_sem]
        repeat' ((first | ((first | apply qa | apply qb | apply qc | apply qd | apply qe | apply qf | apply qg | apply qh | apply qi | apply qj | apply qk) <;> intro hp) | ((first | refine ql rfl rfl (by decide +kernel) ?_ | refine qm _ rfl rfl (by decide +kernel) ?_) <;> have hp := True.intro)) <;> simp only [hp, g1, g2, g3, k1, k2, k3, k4, k5, k7, go_sem])
        all_goals (refine hG _ ?_; clear hG k2 k5 k7; rw [g6]; rcases Int.lt_or_le ((x[i - 1]'(by omega)).Hi + 1) x[i].Lo with q | q <;> simp_all [within] <;> first | omega | (rw [decide_eq_false (by omega), decide_eq_true (by omega)]; rfl))
    · simp only [g5, go_sem]
      repeat' ((first | ((first | apply qa | apply qb | apply qc | apply qd | apply qe | apply qf | apply qg | apply qh | apply qi | apply qj | apply qk) <;> intro hp) | ((first | refine ql rfl rfl (by decide +kernel) ?_ | refine qm _ rfl rfl (by decide +kernel) ?_) <;> have hp := True.intro)) <;> simp only [hp, g5, go_sem])
      · simp only [fin_mk, finV, resL, resV1, resIn, endA, listIn, Option.some_or, Option.none_or, oneOrTup, go_sem]
        rw [← hr]
        rw [setOk, allN_bad h hp]; rfl
      · exact ih (i + 1) ⟨h, all_succ ha hp⟩ (by omega)
  · have g1 : ¬ (i : Int) < x.length := by omega
    simp only [g1, go_sem]
    simp only [fin_mk, finV, resL, resV1, resIn, endA, listIn, Option.some_or, Option.none_or, oneOrTup, go_sem]
    rw [← hr]
    rw [setOk, allN_all h ha, Bool.true_and]
    congr 2
    simp
    omega
def T_spec_SetOk : Hints := ⟨lk [(4, [])], lk [(2, [0, 3])], lk [(0, [0]), (1, [0, 3]), (2, [0, 3, 7]), (4, [0, 3, 48]), (5, [2]), (3, [0, 3]), (6, [2])], lk []⟩
noncomputable def Phi_spec_SetOk : Tab := lk [(84, spWithin)]
attribute [go_sem] T_spec_SetOk Phi_spec_SetOk
theorem phi_spec_SetOk : ∀ f sp, Phi_spec_SetOk f = some sp → FnOk Tryz.prog f sp ∧ ∀ n ∈ sp.need, n ∈ ([] : List String) := phi_cons ok_spec_l01In (n0 rfl) (phi_nil)
theorem ok_spec_SetOk : FnOk Tryz.prog 87 spSetOk := by
  refine fn_ok (Φ := Phi_spec_SetOk) (T := T_spec_SetOk) phi_spec_SetOk mixed Tryz.func87 rfl rfl rfl (by decide) ?_
  intro ins r outs hr hl
  clear hl
  have hs := spSetOk_in hr
  clear hr
  obtain ⟨x, rfl, hc, hr, rfl⟩ := hs
  simp only [spSetOk, Tryz.f87, Go.VM.initS]
  simp only [go_sem]
  refine loop_go (fun i : Nat => [(3, .int .i64 (i : Int))]) (fun _ => []) (fun i => x.length - i) (fun i => i ≤ x.length ∧ ∀ j, j < i → rangeAt x j = true) 0 ⟨Nat.zero_le _, fun j hj => absurd hj (by omega)⟩ rfl rfl ?_
  intro i ⟨hi, ha⟩ ih
  rcases Nat.lt_or_ge i x.length with h | h
  · have g1 : (i : Int) < x.length := by omega
    have g2 : (0 : Int) ≤ i := by omega
    have g3 : x[i]? = some x[i] := List.getElem?_eq_getElem h
    have g5 := wrap_succ h (by omega)
    simp only [g1, g2, g3, go_sem]
    refine goes_valD 48 V.bool (!rangeAt x i) rfl rfl rfl (by decide +kernel) ?_ ?_
    · intro G hG
      clear ih hr
      rcases Nat.eq_zero_or_pos i with h0 | h0
      · have k1 : ¬ (0 : Int) < i := by omega
        have g6 : rangeAt x i = (within x[i].Lo 1 9999 && within x[i].Hi x[i].Lo 9999) := by
          have : (i == 0) = true := by simp [h0]
          simp only [rangeAt, getD_lt h, this, Bool.true_or, Bool.and_true]
        simp only [g1, g2, g3, k1, go_sem]
        repeat' ((first | ((first | apply qa | apply qb | apply qc | apply qd | apply qe | apply qf | apply qg | apply qh | apply qi | apply qj | apply qk) <;> intro hp) | ((first | refine ql rfl rfl (by decide +kernel) ?_ | refine qm _ rfl rfl (by decide +kernel) ?_) <;> have hp := True.intro)) <;> simp only [hp, g1, g2, g3, k1, go_sem])
        all_goals (refine hG _ ?_; clear hG; rw [g6]; simp_all [within] <;> omega)
      · have k1 : (0 : Int) < i := by omega
        have k2 := wrap_pred h0 (by omega)
        have k3 : (0 : Int) ≤ ((i - 1 : Nat) : Int) := by omega
        have k4 : ((i - 1 : Nat) : Int) < x.length := by omega
        have k5 : x[i - 1]? = some (x[i - 1]'(by omega)) := List.getElem?_eq_getElem (by omega)
        have k6 := rangeAt_hi (i := i - 1) (by omega) (ha (i - 1) (by omega))
        have k7 : IntKind.i64.wrap ((x[i - 1]'(by omega)).Hi + 1) = (x[i - 1]'(by omega)).Hi + 1 := wrap64 (by omega) (by omega)
        have g6 : rangeAt x i = (within x[i].Lo 1 9999 && within x[i].Hi x[i].Lo 9999 && decide ((x[i - 1]'(by omega)).Hi + 1 < x[i].Lo)) := by
          have : (i == 0) = false := by simp; omega
          simp only [rangeAt, getD_lt h, getD_lt (show i - 1 < x.length by omega), this, Bool.false_or]
        clear ha
        simp only [g1, g2, g3, k1, k2, k3, k4, k5, k7, go_sem]
        repeat' ((first | ((first | apply qa | apply qb | apply qc | apply qd | apply qe | apply qf | apply qg | apply qh | apply qi | apply qj | apply qk) <;> intro hp) | ((first | refine ql rfl rfl (by decide +kernel) ?_ | refine qm _ rfl rfl (by decide +kernel) ?_) <;> have hp := True.intro)) <;> simp only [hp, g1, g2, g3, k1, k2, k3, k4, k5, k7, go_sem])
        all_goals (refine hG _ ?_; clear hG k2 k5 k7; rw [g6]; rcases Int.lt_or_le ((x[i - 1]'(by omega)).Hi + 1) x[i].Lo with q | q <;> simp_all [within] <;> first | omega | (rw [decide_eq_false (by omega), decide_eq_true (by omega)]; rfl))
    · simp only [g5, go_sem]
      repeat' ((first | ((first | apply qa | apply qb | apply qc | apply qd | apply qe | apply qf | apply qg | apply qh | apply qi | apply qj | apply qk) <;> intro hp) | ((first | refine ql rfl rfl (by decide +kernel) ?_ | refine qm _ rfl rfl (by decide +kernel) ?_) <;> have hp := True.intro)) <;> simp only [hp, g5, go_sem])
      · simp only [fin_mk, finV, resL, resV1, resIn, endA, listIn, Option.some_or, Option.none_or, oneOrTup, go_sem]
        rw [← hr]
        rw [setOk, allN_bad h hp]; rfl
      · exact ih (i + 1) ⟨h, all_succ ha hp⟩ (by omega)
  · have g1 : ¬ (i : Int) < x.length := by omega
    simp only [g1, go_sem]
    simp only [fin_mk, finV, resL, resV1, resIn, endA, listIn, Option.some_or, Option.none_or, oneOrTup, go_sem]
    rw [← hr]
    rw [setOk, allN_all h ha, Bool.true_and]
    congr 2
    simp
    omega
end Go.Proofs.YtjkhhplhjbmhjaaGreat.L

namespace Go.Proofs.YtjkhhplhjbmhjaaGreat.L
open Go Go.VM
set_option maxRecDepth 100000
set_option maxHeartbeats 4000000
set_option linter.unusedSimpArgs false
set_option linter.unusedVariables false
def lineOk (x : Line) : Bool :=
  if x.Kind = 1 then within x.Num 0 30 && (x.Uid == 0 && x.Flags == 0 && x.Mod == 0 && x.Set.isEmpty && !x.All)
  else if x.Kind = 2 then within x.Num 1 30 && (x.Uid == 0 && x.Flags == 0 && x.Mod == 0 && x.Set.isEmpty && !x.All)
  else if x.Kind = 3 then within x.Num 1 30 && within x.Uid 1 9999 && flagsOk x.Flags && within x.Mod 1 100000 && (x.Set.isEmpty && !x.All)
  else if x.Kind = 4 then setOk x.Set && !x.Set.isEmpty && (x.Num == 0 && x.Uid == 0 && x.Flags == 0 && x.Mod == 0 && !x.All)
  else if x.Kind = 5 then within x.Num 1 9999 && within x.Mod 1 100000 && (x.Uid == 0 && x.Flags == 0 && x.Set.isEmpty)
  else if x.Kind = 6 then setOk x.Set && (x.Num == 0 && x.Uid == 0 && x.Flags == 0 && x.Mod == 0 && !x.All)
  else if x.Kind = 8 then within x.Num 1 9 && (x.Uid == 0 && x.Flags == 0 && x.Mod == 0 && x.Set.isEmpty && !x.All)
  else if x.Kind = 7 ∨ x.Kind = 9 then x.Num == 0 && x.Uid == 0 && x.Flags == 0 && x.Mod == 0 && x.Set.isEmpty && !x.All
  else false
theorem setOk_nil : setOk [] = true := rfl
theorem setOk_ne {S : List Range} (h : setOk S = false) : ¬ S = [] := by rintro rfl; cases h
open Classical in
noncomputable def spLineOk : VM.Spec := { modes := [.rd], run := fun | [x'] => (Line.dec x').bind fun x => if x.le 4194304 then some (.bool (lineOk x), []) else none | _ => none, need := [] }
attribute [go_sem] spLineOk
theorem spLineOk_in {ins : List V} {r : V} {outs : List V} (h : spLineOk.run ins = some (r, outs)) : ∃ (x : Line), ins = [Line.enc x] ∧ (x.le 4194304) ∧ .bool (lineOk x) = r ∧ outs = [] := by
  unfold spLineOk at h
  simp only at h
  split at h
  · rename_i x'
    simp only [Option.bind_eq_some_iff] at h
    obtain ⟨x, h_x, h⟩ := h
    split at h
    case isFalse => cases h
    rename_i hc
    simp only [Option.some.injEq, Prod.mk.injEq] at h
    obtain ⟨h1, h2⟩ := h
    have h_x := Line.dec_some h_x
    subst h_x
    exact ⟨x, rfl, hc, h1, h2.symm⟩
  · cases h
end Go.Proofs.YtjkhhplhjbmhjaaGreat.L

namespace Go.Proofs.YtjkhhplhjbmhjaaGreat.L
open Go Go.VM
set_option maxRecDepth 100000
set_option maxHeartbeats 4000000
set_option linter.unusedSimpArgs false
set_option linter.unusedVariables false
theorem loop_two {P : Program} {Φ : Tab} {T : Hints} {α β : Type} {c : Code} {k : List Item} {Q : St → Prop} {E : List (Nat × V)} {H : List (Nat × Blk)} {n nt : Nat} {io : List V}
    (ch : α → List (Nat × V)) (hh : α → List (Nat × Blk)) (μ : α → Nat) (I : α → Prop) (n2 : Nat) (E2 : β → List (Nat × V)) (H2 : β → List (Nat × Blk)) (ν : β → Nat) (J : β → Prop) (a : α) (ha : I a) (hE : setE (ch a) E = E) (hH : setH (hh a) H = H)
    (r2 : ∀ x, J x → (∀ y, J y → ν y < ν x → Head (P := P) (Φ := Φ) (T := T) c k ⟨eOf (E2 y), hOf (H2 y), n2, nt, io⟩ Q) → Goes P Φ T (.code c :: .inLoop c :: k) ⟨eOf (E2 x), hOf (H2 x), n2, nt, io⟩ Q)
    (r1 : ∀ x, I x → (∀ y, I y → μ y < μ x → Head (P := P) (Φ := Φ) (T := T) c k (stL E H n nt io (ch y) (hh y)) Q) → (∀ y, J y → Head (P := P) (Φ := Φ) (T := T) c k ⟨eOf (E2 y), hOf (H2 y), n2, nt, io⟩ Q) → Goes P Φ T (.code c :: .inLoop c :: k) (stL E H n nt io (ch x) (hh x)) Q) :
    Head (P := P) (Φ := Φ) (T := T) c k ⟨eOf E, hOf H, n, nt, io⟩ Q :=
  have h2 := loop_ind (P := P) (Φ := Φ) (T := T) (c := c) (k := k) (Q := Q) (fun x => ⟨eOf (E2 x), hOf (H2 x), n2, nt, io⟩) ν J r2
  loop_go ch hh μ I a ha hE hH fun x hx ih => r1 x hx ih h2
theorem bl_trans {a b c : List UInt8} (h1 : Op.bytesLess a b = true) (h2 : Op.bytesLess b c = true) : Op.bytesLess a c = true := by
  simp only [Go.Proofs.bytesLess_eq, decide_eq_true_eq] at *
  exact List.lt_trans h1 h2
theorem bl_irrefl (a : List UInt8) : Op.bytesLess a a = false := by
  rw [Go.Proofs.bytesLess_eq, decide_eq_false_iff_not]
  exact List.lt_irrefl a
theorem bl_asymm {a b : List UInt8} (h : Op.bytesLess a b = true) : Op.bytesLess b a = false := by
  cases h2 : Op.bytesLess b a with
  | false => rfl
  | true => have := bl_trans h h2; rw [bl_irrefl] at this; cases this
theorem bl_ne {a b : List UInt8} (h : Op.bytesLess a b = true) : (a == b) = false ∧ (b == a) = false := by
  have : a ≠ b := fun e => by rw [e, bl_irrefl] at h; cases h
  exact ⟨beq_eq_false_iff_ne.2 this, beq_eq_false_iff_ne.2 this.symm⟩
theorem bl_total {a b : List UInt8} (h1 : Op.bytesLess a b = false) (h2 : (a == b) = false) : Op.bytesLess b a = true := by
  rw [Go.Proofs.bytesLess_eq, decide_eq_false_iff_not] at h1
  rw [Go.Proofs.bytesLess_eq, decide_eq_true_eq]
  rcases Std.le_iff_lt_or_eq.1 (List.not_lt.1 h1) with h | h
  · exact h
  · exact absurd h.symm (beq_eq_false_iff_ne.1 h2)
def Inc (l : List Box) : Prop := ∀ i (h : i + 1 < l.length), Op.bytesLess (l[i]'(by omega)).Name l[i + 1].Name = true
theorem Inc.lt {l : List Box} (h : Inc l) : ∀ {i j : Nat} (hij : i < j) (hj : j < l.length), Op.bytesLess (l[i]'(by omega)).Name l[j].Name = true := by
  intro i j hij
  induction j with
  | zero => omega
  | succ j ih =>
    intro hj
    rcases Nat.lt_or_ge i j with h1 | h1
    · exact bl_trans (ih h1 (by omega)) (h j hj)
    · have : i = j := by omega
      subst this
      exact h i hj
theorem filter_parts {α : Type} {p : α → Bool} {l : List α} (k : Nat) (h1 : ∀ x ∈ l.take k, p x = true) (h2 : ∀ x ∈ l.drop k, p x = false) : l.filter p = l.take k := by
  conv => lhs; rw [← List.take_append_drop k l]
  rw [List.filter_append, List.filter_eq_self.2 h1, List.filter_eq_nil_iff.2 (fun x hx => by rw [h2 x hx]; simp), List.append_nil]
theorem filter_rest {α : Type} {p : α → Bool} {l : List α} (k : Nat) (h1 : ∀ x ∈ l.take k, p x = false) (h2 : ∀ x ∈ l.drop k, p x = true) : l.filter p = l.drop k := by
  conv => lhs; rw [← List.take_append_drop k l]
  rw [List.filter_append, List.filter_eq_self.2 h2, List.filter_eq_nil_iff.2 (fun x hx => by rw [h1 x hx]; simp), List.nil_append]
theorem mem_take_at {α : Type} {l : List α} {k : Nat} {x : α} (h : x ∈ l.take k) : ∃ (j : Nat) (hj : j < l.length), j < k ∧ x = l[j] := by
  obtain ⟨j, hj, rfl⟩ := List.mem_iff_getElem.1 h
  rw [List.length_take] at hj
  exact ⟨j, by omega, by omega, by rw [List.getElem_take]⟩
theorem mem_drop_at {α : Type} {l : List α} {k : Nat} {x : α} (h : x ∈ l.drop k) : ∃ (j : Nat) (hj : j < l.length), k ≤ j ∧ x = l[j] := by
  obtain ⟨j, hj, rfl⟩ := List.mem_iff_getElem.1 h
  rw [List.length_drop] at hj
  exact ⟨k + j, by omega, by omega, by rw [List.getElem_drop]⟩
theorem filter_del {l : List Box} (h : Inc l) {k : Nat} (hk : k < l.length) {name : List UInt8} (hn : l[k].Name = name) : l.filter (fun b => !(b.Name == name)) = l.take k ++ l.drop (k + 1) := by
  have e : l = l.take k ++ l[k] :: l.drop (k + 1) := by rw [List.getElem_cons_drop, List.take_append_drop]
  have h1 : (l.take k).filter (fun b => !(b.Name == name)) = l.take k := List.filter_eq_self.2 fun x hx => by
    obtain ⟨j, hj, h1, rfl⟩ := mem_take_at hx
    rw [← hn, (bl_ne (h.lt (i := j) (j := k) h1 hk)).1]; rfl
  have h2 : (l.drop (k + 1)).filter (fun b => !(b.Name == name)) = l.drop (k + 1) := List.filter_eq_self.2 fun x hx => by
    obtain ⟨j, hj, h1, rfl⟩ := mem_drop_at hx
    rw [← hn, (bl_ne (h.lt (i := k) (j := j) (by omega) hj)).2]; rfl
  have h3 : (!(l[k].Name == name)) = false := by rw [hn]; simp
  calc l.filter (fun b => !(b.Name == name)) = (l.take k ++ l[k] :: l.drop (k + 1)).filter (fun b => !(b.Name == name)) := by rw [← e]
    _ = l.take k ++ l.drop (k + 1) := by rw [List.filter_append, h1, List.filter_cons, h3, if_neg (by simp), h2]
theorem filter_lt {l : List Box} (h : Inc l) {name : List UInt8} {k : Nat} (h1 : ∀ j (hj : j < l.length), j < k → Op.bytesLess l[j].Name name = true) (h2 : ∀ hk : k < l.length, Op.bytesLess l[k].Name name = false) :
    l.filter (fun b => Op.bytesLess b.Name name) = l.take k := by
  refine filter_parts k (fun x hx => ?_) (fun x hx => ?_)
  · obtain ⟨j, hj, hjk, rfl⟩ := mem_take_at hx
    exact h1 j hj hjk
  · obtain ⟨j, hj, hjk, rfl⟩ := mem_drop_at hx
    have h3 := h2 (by omega)
    rcases Nat.lt_or_ge k j with h4 | h4
    · cases h5 : Op.bytesLess l[j].Name name with
      | false => rfl
      | true => rw [bl_trans (h.lt h4 hj) h5] at h3; cases h3
    · have : j = k := by omega
      subst this; exact h3
theorem filter_gt {l : List Box} (h : Inc l) {name : List UInt8} {k : Nat} (h1 : ∀ j (hj : j < l.length), j < k → Op.bytesLess l[j].Name name = true) (h2 : ∀ hk : k < l.length, Op.bytesLess l[k].Name name = false)
    (hno : ∀ j (hj : j < l.length), (l[j].Name == name) = false) : l.filter (fun b => !(Op.bytesLess b.Name name || b.Name == name)) = l.drop k := by
  refine filter_rest k (fun x hx => ?_) (fun x hx => ?_)
  · obtain ⟨j, hj, hjk, rfl⟩ := mem_take_at hx
    rw [h1 j hj hjk]; rfl
  · obtain ⟨j, hj, hjk, rfl⟩ := mem_drop_at hx
    have h3 := h2 (by omega)
    rw [hno j hj, Bool.or_false]
    rcases Nat.lt_or_ge k j with h4 | h4
    · cases h5 : Op.bytesLess l[j].Name name with
      | false => rfl
      | true => rw [bl_trans (h.lt h4 hj) h5] at h3; cases h3
    · have : j = k := by omega
      subst this; rw [h3]; rfl
end Go.Proofs.YtjkhhplhjbmhjaaGreat.L

namespace Go.Proofs.YtjkhhplhjbmhjaaGreat.L
open Go Go.VM
set_option maxRecDepth 100000
set_option maxHeartbeats 4000000
set_option linter.unusedSimpArgs false
set_option linter.unusedVariables false
structure RBox where
  Name : List UInt8
  Valid : Int
  Next : Int
  Mod : Int
  ma : Option Addr
  mn : Nat
  mc : Nat
  ta : Option Addr
  tn : Nat
  tc : Nat
  Horizon : Int
def RBox.enc (x : RBox) : V := .agg [.str x.Name, .int .i64 x.Valid, .int .i64 x.Next, .int .i64 x.Mod, .raw x.ma x.mn x.mc, .raw x.ta x.tn x.tc, .int .i64 x.Horizon]
def RBox.dec : V → Option RBox
  | .agg [.str x0, .int .i64 x1, .int .i64 x2, .int .i64 x3, .raw a n c, .raw a' n' c', .int .i64 x6] => some ⟨x0, x1, x2, x3, a, n, c, a', n', c', x6⟩
  | _ => none
theorem RBox.dec_enc (x : RBox) : RBox.dec x.enc = some x := rfl
theorem RBox.dec_some {v : V} {x : RBox} (h : RBox.dec v = some x) : v = x.enc := by
  unfold RBox.dec at h
  split at h
  · cases h; rfl
  · cases h
theorem RBox.flat (l : List RBox) : (l.map RBox.enc).all V.flat = true := by
  rw [List.all_eq_true]
  intro v hv
  obtain ⟨x, _, rfl⟩ := List.mem_map.1 hv
  rfl
attribute [go_sem] RBox.flat RBox.dec_enc
theorem decL_RBox (l : List RBox) : decL RBox.dec (l.map RBox.enc) = some l := decL_map RBox.dec_enc l
attribute [go_sem] decL_RBox
theorem of_encs {α : Type} {enc : α → V} : ∀ {R : List V}, (∀ y ∈ R, ∃ x, enc x = y) → ∃ rl : List α, rl.map enc = R
  | [], _ => ⟨[], rfl⟩
  | y :: R, h => by
    obtain ⟨x, hx⟩ := h y (by simp)
    obtain ⟨rl, hr⟩ := of_encs (enc := enc) (R := R) fun z hz => h z (by simp [hz])
    exact ⟨x :: rl, by rw [List.map_cons, hx, hr]⟩
theorem raw_box {l : List Box} {R : List V} {F : Nat → Nat → Value} (h : RawOf (l.map Box.enc) R F) : ∃ rl : List RBox, rl.map RBox.enc = R ∧ rl.length = l.length := by
  obtain ⟨rl, hr⟩ : ∃ rl : List RBox, rl.map RBox.enc = R := by
    refine of_encs fun y hy => ?_
    obtain ⟨i, hi, rfl⟩ := List.mem_iff_getElem.1 hy
    have hi' : i < l.length := by have := h.len; rw [List.length_map] at this; omega
    have h1 : (l.map Box.enc)[i]? = some (Box.enc l[i]) := by simp [hi']
    obtain ⟨a, n, c, h4⟩ := h.lst i _ 4 4 (l[i].Mails.map Mail.enc) h1 rfl
    obtain ⟨a', n', c', h5⟩ := h.lst i _ 5 2 (l[i].Tombs.map Tomb.enc) h1 rfl
    refine ⟨⟨l[i].Name, l[i].Valid, l[i].Next, l[i].Mod, a, n, c, a', n', c', l[i].Horizon⟩, ?_⟩
    have h2 := h.at_ i _ h1
    rw [List.getElem?_eq_getElem hi] at h2
    rw [Option.some.inj h2]
    simp [RBox.enc, Box.enc, rawA, rawC, h4, h5]
  exact ⟨rl, hr, by have := h.len; rw [← hr, List.length_map, List.length_map] at this; exact this⟩
theorem pickL_cut {α : Type} (E : List α) {i j : Nat} (hi : i ≤ E.length) (hj : j ≤ E.length) : pickL (List.range i ++ List.range' j (E.length - j)) E = E.take i ++ E.drop j := by
  have hlt : ∀ k ∈ List.range i ++ List.range' j (E.length - j), k < E.length := by
    intro k hk
    rw [List.mem_append, List.mem_range, List.mem_range'_1] at hk
    omega
  obtain ⟨p1, p2⟩ := pickL_at hlt
  have hl : (List.range i ++ List.range' j (E.length - j)).length = i + (E.length - j) := by simp
  apply List.ext_getElem?
  intro m
  by_cases h3 : m < i + (E.length - j)
  · by_cases hm : m < i
    · have e : (List.range i ++ List.range' j (E.length - j))[m]? = some m := by
        rw [List.getElem?_append_left (by simpa using hm), List.getElem?_range hm]
      rw [p2 m m e, List.getElem?_append_left (by rw [List.length_take]; omega), List.getElem?_take, if_pos hm]
    · have e : (List.range i ++ List.range' j (E.length - j))[m]? = some (j + (m - i)) := by
        rw [List.getElem?_append_right (by simp; omega), List.length_range, List.getElem?_range' (by omega)]
        simp
      rw [p2 m _ e, List.getElem?_append_right (by rw [List.length_take]; omega), List.getElem?_drop, List.length_take, Nat.min_eq_left hi]
  · rw [List.getElem?_eq_none (by rw [p1, hl]; omega), List.getElem?_eq_none (by simp; omega)]
theorem nodup_cut {n i j : Nat} (h : i ≤ j) : (List.range i ++ List.range' j (n - j)).Nodup := by
  rw [List.nodup_append]
  refine ⟨List.nodup_range, List.nodup_range', ?_⟩
  intro a ha b hb
  rw [List.mem_range] at ha
  rw [List.mem_range'_1] at hb
  omega
open Classical in
noncomputable def spDelRBox : VM.Spec := { modes := [.use, .rd, .rd], run := fun | [.lst 7 l', .int .i64 i, .int .i64 j] => (decL RBox.dec l').bind fun l => if l.length ≤ 1000000 ∧ 0 ≤ i ∧ i < j ∧ j ≤ l.length then some (.lst 7 ((l.take i.toNat ++ l.drop j.toNat).map RBox.enc), []) else none | _ => none, need := [] }
attribute [go_sem] spDelRBox
theorem spDelRBox_in {ins : List V} {r : V} {outs : List V} (h : spDelRBox.run ins = some (r, outs)) : ∃ (l : (List RBox)) (i : Int) (j : Int), ins = [.lst 7 ((l).map RBox.enc), .int .i64 i, .int .i64 j] ∧ (l.length ≤ 1000000 ∧ 0 ≤ i ∧ i < j ∧ j ≤ l.length) ∧ .lst 7 ((l.take i.toNat ++ l.drop j.toNat).map RBox.enc) = r ∧ outs = [] := by
  unfold spDelRBox at h
  simp only at h
  split at h
  · rename_i l' i j
    simp only [Option.bind_eq_some_iff] at h
    obtain ⟨l, h_l, h⟩ := h
    split at h
    case isFalse => cases h
    rename_i hc
    simp only [Option.some.injEq, Prod.mk.injEq] at h
    obtain ⟨h1, h2⟩ := h
    have h_l := decL_some (fun _ _ h => RBox.dec_some h) h_l
    subst h_l
    exact ⟨l, i, j, rfl, hc, h1, h2.symm⟩
  · cases h
open Classical in
noncomputable def spDelBox : VM.Spec := { modes := [.use, .rd, .rd], run := fun | [.lst 7 l', .int .i64 i, .int .i64 j] => (decL Box.dec l').bind fun l => if l.length ≤ 1000000 ∧ 0 ≤ i ∧ i < j ∧ j ≤ l.length then some (.lst 7 ((l.take i.toNat ++ l.drop j.toNat).map Box.enc), []) else none | _ => none, need := [] }
attribute [go_sem] spDelBox
theorem spDelBox_in {ins : List V} {r : V} {outs : List V} (h : spDelBox.run ins = some (r, outs)) : ∃ (l : (List Box)) (i : Int) (j : Int), ins = [.lst 7 ((l).map Box.enc), .int .i64 i, .int .i64 j] ∧ (l.length ≤ 1000000 ∧ 0 ≤ i ∧ i < j ∧ j ≤ l.length) ∧ .lst 7 ((l.take i.toNat ++ l.drop j.toNat).map Box.enc) = r ∧ outs = [] := by
  unfold spDelBox at h
  simp only at h
  split at h
  · rename_i l' i j
    simp only [Option.bind_eq_some_iff] at h
    obtain ⟨l, h_l, h⟩ := h
    split at h
    case isFalse => cases h
    rename_i hc
    simp only [Option.some.injEq, Prod.mk.injEq] at h
    obtain ⟨h1, h2⟩ := h
    have h_l := decL_some (fun _ _ h => Box.dec_some h) h_l
    subst h_l
    exact ⟨l, i, j, rfl, hc, h1, h2.symm⟩
  · cases h
theorem del_lift : ∀ ins r outs, spDelBox.run ins = some (r, outs) → ∃ (E : List V) (i j : V) (is : List Nat), ins = [.lst 7 E, i, j] ∧ r = .lst 7 (pickL is E) ∧ outs = [] ∧ is.Nodup ∧ (∀ k ∈ is, k < E.length) ∧
      ∀ R F, RawOf E R F → spDelRBox.run [.lst 7 R, i, j] = some (.lst 7 (pickL is R), []) := by
  intro ins r outs h
  obtain ⟨l, i, j, rfl, ⟨hl, h0, h1, h2⟩, hr, rfl⟩ := spDelBox_in h
  have hi : i.toNat ≤ l.length := by omega
  have hj : j.toNat ≤ l.length := by omega
  refine ⟨l.map Box.enc, .int .i64 i, .int .i64 j, List.range i.toNat ++ List.range' j.toNat (l.length - j.toNat), rfl, ?_, rfl, nodup_cut (by omega), ?_, ?_⟩
  · have := pickL_cut (l.map Box.enc) (i := i.toNat) (j := j.toNat) (by rw [List.length_map]; exact hi) (by rw [List.length_map]; exact hj)
    rw [List.length_map] at this
    rw [this, ← hr, List.map_append, List.map_take, List.map_drop]
  · intro k hk
    rw [List.mem_append, List.mem_range, List.mem_range'_1] at hk
    rw [List.length_map]
    omega
  · intro R F hR
    obtain ⟨rl, rfl, hlen⟩ := raw_box hR
    have := pickL_cut (rl.map RBox.enc) (i := i.toNat) (j := j.toNat) (by rw [List.length_map, hlen]; exact hi) (by rw [List.length_map, hlen]; exact hj)
    rw [List.length_map, hlen] at this
    rw [this]
    simp only [spDelRBox, decL_map RBox.dec_enc, Option.bind_some]
    rw [if_pos ⟨by omega, h0, h1, by omega⟩, List.map_append, List.map_take, List.map_drop]
def T_slices_Delete_loop_example_g00247_impl_Box_loop_example_g00247_impl_Box_R : Hints := ⟨lk [(5, [])], lk [], lk [(0, [0, 1, 2]), (1, [0, 1, 2]), (2, [0, 1, 2, 16]), (3, [6]), (4, [0, 1, 2, 7]), (5, [0, 7]), (6, [0]), (7, [6])], lk []⟩
noncomputable def Phi_slices_Delete_loop_example_g00247_impl_Box_loop_example_g00247_impl_Box_R : Tab := lk []
attribute [go_sem] T_slices_Delete_loop_example_g00247_impl_Box_loop_example_g00247_impl_Box_R Phi_slices_Delete_loop_example_g00247_impl_Box_loop_example_g00247_impl_Box_R
theorem phi_slices_Delete_loop_example_g00247_impl_Box_loop_example_g00247_impl_Box_R : ∀ f sp, Phi_slices_Delete_loop_example_g00247_impl_Box_loop_example_g00247_impl_Box_R f = some sp → FnOk Tryz.prog f sp ∧ ∀ n ∈ sp.need, n ∈ ([] : List String) := phi_nil
theorem ok_slices_Delete_loop_example_g00247_impl_Box_loop_example_g00247_impl_Box_R : FnOk Tryz.prog 69 spDelRBox := by
  refine fn_ok (Φ := Phi_slices_Delete_loop_example_g00247_impl_Box_loop_example_g00247_impl_Box_R) (T := T_slices_Delete_loop_example_g00247_impl_Box_loop_example_g00247_impl_Box_R) phi_slices_Delete_loop_example_g00247_impl_Box_loop_example_g00247_impl_Box_R mixed Tryz.func69 rfl rfl rfl (by decide) ?_
  intro ins r outs hr hl
  clear hl
  have hs := spDelRBox_in hr
  clear hr
  obtain ⟨l, i, j, rfl, hc, hr, rfl⟩ := hs
  simp only [spDelRBox, Tryz.f69, Go.VM.initS]
  obtain ⟨hl, h0, h1, h2⟩ := hc
  obtain ⟨a, rfl⟩ : ∃ a : Nat, i = a := ⟨i.toNat, by omega⟩
  obtain ⟨b, rfl⟩ : ∃ b : Nat, j = b := ⟨j.toNat, by omega⟩
  have g1 : (a : Int) ≤ b := by omega
  have g2 : a ≤ b := by omega
  have g3 : b ≤ l.length := by omega
  have g4 : ¬ (a : Int) = b := by omega
  have g4' : ((a : Int) == (b : Int)) = false := beq_eq_false_iff_ne.2 g4
  have g8 : a + (l.length - b) ≤ l.length := by omega
  have g9 : b + (l.length - b) ≤ l.length := by omega
  have g10 : (a + (l.length - b)) * 96 ≤ 140737488355328 := by omega
  have g11 : a + (l.length - b) ≤ 9223372036854775807 := by omega
  have g5 : a ≤ l.length := by omega
  have g6 : a < l.length := by omega
  have g7 : 0 < l.length := by omega
  have gb : (layB (List.map RBox.enc l) a (List.map RBox.enc (List.take (l.length - b) (List.drop b l)))).length = l.length := by
    rw [layB_len (by simp only [List.length_map, List.length_take, List.length_drop]; omega), List.length_map]
  have gm : min (a + (l.length - b)) l.length = a + (l.length - b) := by omega
  have gs : a + (l.length - b) + (l.length - (a + (l.length - b))) = l.length := by omega
  have gl : a + (l.length - b) < l.length := by omega
  simp only [gb, gm, gs, gl, g1, g2, g3, g4', g8, g9, g10, g11, Nat.min_self, Nat.min_eq_left g5, take_map, drop_map, g5, g6, g7, h0, Int.natCast_nonneg, Nat.le_refl, List.length_take, List.length_drop, Nat.sub_zero, Nat.zero_le, go_sem]
  repeat' ((first | ((first | apply qa | apply qb | apply qc | apply qd | apply qe | apply qf | apply qg | apply qh | apply qi | apply qj | apply qk) <;> intro hp) | ((first | refine ql rfl rfl (by decide +kernel) ?_ | refine qm _ rfl rfl (by decide +kernel) ?_) <;> have hp := True.intro)) <;> simp only [hp, gb, gm, gs, gl, g1, g2, g3, g4', g8, g9, g10, g11, Nat.min_self, Nat.min_eq_left g5, take_map, drop_map, g5, g6, g7, h0, Int.natCast_nonneg, Nat.le_refl, List.length_take, List.length_drop, Nat.sub_zero, Nat.zero_le, go_sem])
  have ge : (layV (layB (List.map RBox.enc l) a (List.map RBox.enc (List.take (l.length - b) (List.drop b l)))) (a + (l.length - b)) (l.length - (a + (l.length - b))) (V.agg [V.str [], V.int IntKind.i64 0, V.int IntKind.i64 0, V.int IntKind.i64 0, V.lst 4 [], V.lst 2 [], V.int IntKind.i64 0])).take (a + (l.length - b)) = (l.take a ++ l.drop b).map RBox.enc := by
    have e1 : (layB (List.map RBox.enc l) a (List.map RBox.enc (List.take (l.length - b) (List.drop b l)))).take (a + (l.length - b)) = (l.take a ++ l.drop b).map RBox.enc := by
      rw [layB, List.take_append_of_le_length (by simp only [List.length_append, List.length_map, List.length_take, List.length_drop]; omega), List.take_of_length_le (by simp only [List.length_append, List.length_map, List.length_take, List.length_drop]; omega), List.map_append, take_map, List.take_of_length_le (l := List.drop b l) (by rw [List.length_drop]; omega)]
    rw [layV, List.append_assoc, List.take_append_of_le_length (by rw [List.length_take, gb]; omega), List.take_take, Nat.min_self, e1]
  have g12 : (layV (layB (List.map RBox.enc l) a (List.map RBox.enc (List.take (l.length - b) (List.drop b l)))) (a + (l.length - b)) (l.length - (a + (l.length - b))) (V.agg [V.str [], V.int IntKind.i64 0, V.int IntKind.i64 0, V.int IntKind.i64 0, V.lst 4 [], V.lst 2 [], V.int IntKind.i64 0])).length = l.length := by
    rw [layV_len (by rw [gb]; omega), gb]
  simp only [fin_mk, finV, resL, resV1, resIn, endA, listIn, Option.some_or, Option.none_or, oneOrTup, go_sem]
  rw [← hr, ge, if_pos ⟨by rw [g12]; omega, by rw [g12]; omega⟩]; rfl
theorem ok_slices_Delete_loop_example_g00247_impl_Box_loop_example_g00247_impl_Box : FnOk Tryz.prog 69 spDelBox :=
  lift_pick ok_slices_Delete_loop_example_g00247_impl_Box_loop_example_g00247_impl_Box_R rfl rfl rfl del_lift
end Go.Proofs.YtjkhhplhjbmhjaaGreat.L

namespace Go.Proofs.YtjkhhplhjbmhjaaGreat.L
open Go Go.VM Go.Proofs Go.RowKit Go.Lib
set_option maxRecDepth 100000
set_option maxHeartbeats 4000000
set_option linter.unusedSimpArgs false
set_option linter.unusedVariables false
theorem run_copy_size {P : Program} (w : World) (dT sT ty elem : TypeId) (sz b o dLen dCap : Nat) (a : Addr) (sLen sCap m : Nat) (cs : List Value)
    (hu : P.underlying dT = some (.slice elem)) (hs : (P.info? elem).map (·.size) = some sz) (hm : m = Nat.min sLen dLen) (hn : cs.length = m * sz)
    (hsrc : ∀ j v, cs[j]? = some v → w.cell? (a.add j) = some v) (hc : ∀ j, j < cs.length → (w.cell? ⟨b, o + j, none⟩).isSome = true) (hf : ∀ j, j < cs.length → w.frozen? ⟨b, o + j, none⟩ = false) (h1 : ∀ v ∈ cs, v.oneCell' = true) :
    (Builtin.copy_ #[dT, sT] ty #[.slice (some ⟨b, o, none⟩) dLen dCap, .slice (some a) sLen sCap]).run P w = .ok (goInt m) (w.setCells b o cs) := by
  have hl := run_loadCells_list (P := P) w a cs hsrc
  have hst := run_storeCells_cells (P := P) b o cs 0 w (by simpa using hc) (by simpa using hf) h1
  cases hq : P.info? elem with
  | none => simp [hq] at hs
  | some i =>
    have hi : i.size = sz := by simpa [hq] using hs
    simp [Builtin.copy_, run_underlying hu, Builtin.lenOf, Builtin.firstCells, sizeOf, typeInfo, hq, hi, ← hm, ← hn, hl, hst]
theorem ins_shift (b off n c i vb voff vc : Nat) (cs vs : List Value) (w : World) (hi : i < n) (hroom : n + 1 ≤ c) (hc63 : c ≤ 9223372036854775807) (hvb : vb ≠ b)
    (hcl : cs.length = n * 7) (hvl : vs.length = 7)
    (hcs : ∀ j v, cs[j]? = some v → w.cell? ⟨b, off + j, none⟩ = some v) (hsp : ∀ j, j < (n + 1) * 7 → (w.cell? ⟨b, off + j, none⟩).isSome = true) (hfz : ∀ j, j < (n + 1) * 7 → w.frozen? ⟨b, off + j, none⟩ = false)
    (hvs : ∀ j v, vs[j]? = some v → w.cell? ⟨vb, voff + j, none⟩ = some v) (h1c : ∀ v ∈ cs, v.oneCell' = true) (h1v : ∀ v ∈ vs, v.oneCell' = true)
    (tA tB : TypeId) (kA kB : Nat) (hsa : w.shape? vb = some (tA, kA)) (hsb : w.shape? b = some (tB, kB)) (hkB : kB ≠ 0) (hfa : w.frozen? ⟨vb, voff, none⟩ = false) (hfe : w.frozen? ⟨vb, kA, none⟩ = false) :
    Calls Tryz.prog 68 #[.slice (some ⟨b, off, none⟩) n c, .int .i64 i, .slice (some ⟨vb, voff, none⟩) 1 vc] w fun e w' =>
      e = .returned (.slice (some ⟨b, off, none⟩) (n + 1) c) ∧ w' = (w.drew.setCells b (off + (i + 1) * 7) (cs.drop (i * 7))).setCells b (off + i * 7) vs := by
  have hz2 : ¬ ((i : Int) = (n : Int)) := by omega
  have hsz : (Tryz.prog.info? 37).map (·.size) = some 7 := by kernel_rfl
  have hov : ∀ lb cb, (callFunc 112 #[.slice (some ⟨vb, voff, none⟩) 1 vc, .slice (some ⟨b, off + (i + 1) * 7, none⟩) lb cb]).run Tryz.prog w = .ok (.value (.bool false)) w := fun lb cb => by
    rw [run_callFunc_extern Tryz.func112 (by kernel_rfl) (by kernel_rfl) (by kernel_rfl) (e := Extern.SlicesOverlaps.overlaps #[24, 24] #[4]) (by kernel_rfl),
      Lib.run_overlaps_apart w 24 4 37 Tryz.underlying24 7 Tryz.sizeOf37 ⟨vb, voff, none⟩ ⟨b, off + (i + 1) * 7, none⟩ 1 vc lb cb hvb tA tB kA kB hsa hsb hkB hfa hfe]
    rfl
  have hdl : (cs.drop (i * 7)).length = (n - i) * 7 := by rw [List.length_drop, hcl]; omega
  have mixed := mixed
  have hw1 : IntKind.i64.wrap ((i : Int) + 1) = (i : Int) + 1 := by rw [IntKind.wrap_i64]; omega
  have hw2 : IntKind.i64.wrap ((n : Int) + 1) = (n : Int) + 1 := by rw [IntKind.wrap_i64]; omega
  have hb1 : (0 : Int) ≤ (i : Int) + 1 := by omega
  have hin : i ≤ n := by omega
  have htn : ((i : Int) + 1).toNat = i + 1 := by omega
  have htm : ((n : Int) + 1).toNat = n + 1 := by omega
  have hb2 : ¬ (c = i + 1) := by omega
  have hb3 : (i : Int) ≤ (n : Int) + 1 := by omega
  have hb4 : ¬ (c = i) := by omega
  have hcp1 : ∀ ty dc sc, (Builtin.copy_ #[24, 24] ty #[.slice (some ⟨b, off + (i + 1) * 7, none⟩) (n - i) dc, .slice (some ⟨b, off + i * 7, none⟩) (n + 1 - i) sc]).run Tryz.prog w.drew = .ok (goInt (n - i : Nat)) (w.drew.setCells b (off + (i + 1) * 7) (cs.drop (i * 7))) := fun ty dc sc =>
    run_copy_size w.drew _ _ ty 37 7 b (off + (i + 1) * 7) (n - i) dc ⟨b, off + i * 7, none⟩ (n + 1 - i) sc (n - i) (cs.drop (i * 7)) Tryz.underlying24 hsz (by simp only [Nat.min_def]; split <;> omega) hdl
      (fun j v hj => by rw [Addr.add_lit, Nat.add_assoc]; exact hcs (i * 7 + j) v (by rwa [List.getElem?_drop] at hj))
      (fun j hj => by rw [Nat.add_assoc]; exact hsp _ (by omega)) (fun j hj => by rw [Nat.add_assoc]; exact hfz _ (by omega)) (fun v hv => h1c v (List.mem_of_mem_drop hv))
  obtain ⟨W1, hW1⟩ : ∃ W1, W1 = w.drew.setCells b (off + (i + 1) * 7) (cs.drop (i * 7)) := ⟨_, rfl⟩
  have hsp1 : ∀ k, k < (n + 1) * 7 → (W1.cell? ⟨b, off + k, none⟩).isSome = true := fun k hk => by
    rw [hW1]
    exact isSome_setCells b _ _ _ (fun j hj => by rw [Nat.add_assoc]; exact hsp _ (by omega)) _ (hsp k hk)
  have hcp2 : ∀ (W : World), (∀ x, W.cell? x = W1.cell? x) → (∀ x, W.frozen? x = W1.frozen? x) → ∀ ty dc, (Builtin.copy_ #[24, 24] ty #[.slice (some ⟨b, off + i * 7, none⟩) (n + 1 - i) dc, .slice (some ⟨vb, voff, none⟩) 1 vc]).run Tryz.prog W = .ok (goInt (1 : Nat)) (W.setCells b (off + i * 7) vs) := fun W hWc hWf ty dc =>
    run_copy_size W _ _ ty 37 7 b (off + i * 7) (n + 1 - i) dc ⟨vb, voff, none⟩ 1 vc 1 vs Tryz.underlying24 hsz (by simp only [Nat.min_def]; split <;> omega) hvl
      (fun j v hj => by
        rw [Addr.add_lit, hWc, hW1, World.cell?_setCells_out b _ _ _ _ (fun h _ => absurd h hvb)]
        exact hvs j v hj)
      (fun j hj => by rw [hWc, Nat.add_assoc]; exact hsp1 _ (by omega)) (fun j hj => by rw [hWf, hW1, World.frozen?_setCells, Nat.add_assoc]; exact hfz _ (by omega)) h1v
  rw [← hW1] at hcp1
  have hg1 : ((1 : Int) == 0) = false := rfl
  go_enter Tryz.func68, Tryz.ntmps68
  go_wp2_with (simp only [hov])
  go_region_law_o (refine step_copy_runI rfl _ _ 24 24 rfl _ _ (by simp [Go.Act.eval, Go.Act.put]) (by simp [Go.Act.eval, Go.Act.put]) (hcp1 _ _ _) ?_)
  go_wp2_with (at_builtin; refine wpList_copy_runI _ rfl _ _ 24 24 rfl _ _ rfl rfl (hcp2 _ (fun _ => rfl) (fun _ => rfl) _ _) ?_)
  go_ret
  first | exact ⟨rfl, rfl⟩ | exact ⟨rfl, by rw [hW1]⟩
theorem ins_grow (b off n c i vb voff vc : Nat) (cs vs : List Value) (w : World) (hi : i < n) (hnc : n ≤ c) (hroom : c < n + 1) (hbig : (n + 1) * 96 ≤ 140737488355328)
    (hcl : cs.length = n * 7) (hvl : vs.length = 7)
    (hcs : ∀ j v, cs[j]? = some v → w.cell? ⟨b, off + j, none⟩ = some v)
    (hvs : ∀ j v, vs[j]? = some v → w.cell? ⟨vb, voff + j, none⟩ = some v) (h1c : ∀ v ∈ cs, v.oneCell' = true) (h1v : ∀ v ∈ vs, v.oneCell' = true) :
    Calls Tryz.prog 68 #[.slice (some ⟨b, off, none⟩) n c, .int .i64 i, .slice (some ⟨vb, voff, none⟩) 1 vc] w fun e w' =>
      e = .returned (.slice (some ⟨w.heap.size, 0, none⟩) (n + 1) (grownCap w (n + 1) c 37)) ∧
      ∃ ROW : Array Value, ROW.size = grownCap w (n + 1) c 37 * 7 ∧ (∀ j v, j < i * 7 → cs[j]? = some v → ROW[j]? = some v) ∧
      w' = (((w.alloc (.cells ROW 37)).drew.setCells w.heap.size (i * 7) vs).drew).setCells w.heap.size ((i + 1) * 7) (cs.drop (i * 7)) := by
  have mixed := mixed
  obtain ⟨z, hiz⟩ : ∃ z, (Tryz.prog.info? 37).map (fun i => (i.zero, i.size, i.bytes)) = some (some z, 7, 96) ∧ z.cells.size = 7 := ⟨(.agg #[.string ByteArray.empty, .int .i64 0, .int .i64 0, .int .i64 0, .slice none 0 0, .slice none 0 0, .int .i64 0] : Value), by kernel_rfl, by kernel_rfl⟩
  obtain ⟨hiz, hz7⟩ := hiz
  obtain ⟨i0, hi0, hz0, hzs, hzb⟩ := info_parts hiz
  have hz2 : ¬ ((i : Int) = (n : Int)) := by omega
  have hz3 : (c : Int) < (n : Int) + 1 := by omega
  have hsz : (Tryz.prog.info? 37).map (·.size) = some 7 := by rw [hi0]; simp [hzs]
  have hbw : b < w.heap.size := block_lt_of_cell (hcs 0 _ (List.getElem?_eq_getElem (by omega)))
  have hvw : vb < w.heap.size := block_lt_of_cell (hvs 0 _ (List.getElem?_eq_getElem (by omega)))
  have hkk : (n : Int) + 1 - (i : Int) = ((n + 1 - i : Nat) : Int) := by omega
  have hik : i + (n + 1 - i) = n + 1 := by omega
  have hold : (Builtin.firstCells i0.size i (.slice (some ⟨b, off, none⟩) i c)).run Tryz.prog w.drew = .ok (cs.take (i * 7)).toArray w.drew := by
    rw [hzs]
    exact run_firstCells_some w.drew 7 i ⟨b, off, none⟩ i c (cs.take (i * 7)) (by rw [List.length_take]; omega) (fun j v hj => by
      rw [Addr.add_lit]
      rw [List.getElem?_take] at hj
      split at hj
      · exact hcs j v hj
      · cases hj)
  have hrz : ∀ ty, (Builtin.append_ #[24, 3] ty #[.slice (some ⟨b, off, none⟩) i c, .int .i64 ((n : Int) + 1 - (i : Int))]).run Tryz.prog w =
      .ok (.slice (some ⟨w.heap.size, 0, none⟩) (n + 1) (grownCap w (n + 1) c 37)) (w.drew.alloc (.cells ((cs.take (i * 7)).toArray ++ Builtin.zeroCells z.cells (n + 1 - i) ++ Builtin.zeroCells z.cells (grownCap w (n + 1) c 37 - (n + 1))) 37)) := fun ty => by
    have h := Lib.run_append_grow_zeros w 24 3 ty 37 i0 _ .i64 .i64 Tryz.underlying24 Tryz.underlying3 hi0 hz0 (some ⟨b, off, none⟩) i c (cs.take (i * 7)) hold (n + 1 - i) (by omega) (by omega) (by omega) (by omega) (by rw [hzb]; omega) (by rw [hzb, hik]; exact growslice_fits hroom hbig)
    rw [hik] at h
    rw [hkk]
    exact h
  have hGn : n + 1 ≤ grownCap w (n + 1) c 37 := grownCap_ge w _ _ _
  have hG63 : grownCap w (n + 1) c 37 ≤ 9223372036854775807 := by
    have := grownCap_le_maxLen w (n + 1) c 37 (by unfold maxLen; omega)
    unfold maxLen at this
    omega
  obtain ⟨G, hG⟩ : ∃ G, G = grownCap w (n + 1) c 37 := ⟨_, rfl⟩
  obtain ⟨ROW, hROW⟩ : ∃ ROW : Array Value, ROW = (cs.take (i * 7)).toArray ++ Builtin.zeroCells z.cells (n + 1 - i) ++ Builtin.zeroCells z.cells (G - (n + 1)) := ⟨_, rfl⟩
  rw [← hG] at hrz hGn hG63 ⊢
  rw [← hROW] at hrz
  have hRl : ROW.size = G * 7 := by
    rw [hROW]
    simp [Builtin.zeroCells, hz7, List.length_take]
    omega
  have hR0 : ∀ j v, j < i * 7 → cs[j]? = some v → ROW[j]? = some v := fun j v hj hv => by
    rw [hROW, Array.getElem?_append_left (by simp; omega), Array.getElem?_append_left (by simp; omega)]
    simp [List.getElem?_take, hj, hv]
  obtain ⟨W1, hW1⟩ : ∃ W1, W1 = w.drew.alloc (.cells ROW 37) := ⟨_, rfl⟩
  rw [← hW1] at hrz
  have hN : ∀ j, j < (n + 1) * 7 → (W1.cell? ⟨w.heap.size, j, none⟩).isSome = true := fun j hj => by
    rw [hW1, World.cell?_alloc_at (w := w.drew) ROW _ w.heap.size j rfl, Array.getElem?_eq_getElem (by omega)]; rfl
  have hNf : ∀ j, W1.frozen? ⟨w.heap.size, j, none⟩ = false := fun j => by rw [hW1]; exact World.frozen?_alloc_at (w := w.drew) ROW _ w.heap.size j rfl
  have hOb : ∀ j v, w.cell? ⟨b, j, none⟩ = some v → W1.cell? ⟨b, j, none⟩ = some v := fun j v h => by rw [hW1, World.cell?_alloc_past (w := w.drew) _ b j hbw]; exact h
  have hOv : ∀ j v, w.cell? ⟨vb, j, none⟩ = some v → W1.cell? ⟨vb, j, none⟩ = some v := fun j v h => by rw [hW1, World.cell?_alloc_past (w := w.drew) _ vb j hvw]; exact h
  have hcpA : ∀ (W : World), (∀ x, W.cell? x = W1.cell? x) → (∀ x, W.frozen? x = W1.frozen? x) → ∀ ty dc, (Builtin.copy_ #[24, 24] ty #[.slice (some ⟨w.heap.size, i * 7, none⟩) (n + 1 - i) dc, .slice (some ⟨vb, voff, none⟩) 1 vc]).run Tryz.prog W = .ok (goInt (1 : Nat)) (W.setCells w.heap.size (i * 7) vs) := fun W hWc hWf ty dc =>
    run_copy_size W _ _ ty 37 7 w.heap.size (i * 7) (n + 1 - i) dc ⟨vb, voff, none⟩ 1 vc 1 vs Tryz.underlying24 hsz (by simp only [Nat.min_def]; split <;> omega) hvl
      (fun j v hj => by rw [Addr.add_lit, hWc]; exact hOv _ v (hvs j v hj))
      (fun j hj => by rw [hWc]; exact hN _ (by omega)) (fun j hj => by rw [hWf]; exact hNf _) h1v
  have hGi : ¬ (G = i) := by omega
  have hGim : ¬ (G = i + 1) := by omega
  have hci : ¬ (c = i) := by omega
  have hbN : b ≠ w.heap.size := by omega
  have hdl : (cs.drop (i * 7)).length = (n - i) * 7 := by rw [List.length_drop, hcl]; omega
  have hcpB : ∀ (W : World), (∀ x, W.cell? x = (W1.setCells w.heap.size (i * 7) vs).cell? x) → (∀ x, W.frozen? x = (W1.setCells w.heap.size (i * 7) vs).frozen? x) → ∀ ty dc sc, (Builtin.copy_ #[24, 24] ty #[.slice (some ⟨w.heap.size, (i + 1) * 7, none⟩) (n - i) dc, .slice (some ⟨b, off + i * 7, none⟩) (n - i) sc]).run Tryz.prog W = .ok (goInt (n - i : Nat)) (W.setCells w.heap.size ((i + 1) * 7) (cs.drop (i * 7))) := fun W hWc hWf ty dc sc =>
    run_copy_size W _ _ ty 37 7 w.heap.size ((i + 1) * 7) (n - i) dc ⟨b, off + i * 7, none⟩ (n - i) sc (n - i) (cs.drop (i * 7)) Tryz.underlying24 hsz (by simp only [Nat.min_def]; split <;> omega) hdl
      (fun j v hj => by
        rw [Addr.add_lit, hWc, World.cell?_setCells_out _ _ _ _ _ (fun h _ => absurd h hbN), Nat.add_assoc]
        exact hOb _ v (hcs (i * 7 + j) v (by rwa [List.getElem?_drop] at hj)))
      (fun j hj => by rw [hWc]; exact isSome_setCells _ _ _ _ (fun t ht => hN _ (by omega)) _ (hN _ (by omega)))
      (fun j hj => by rw [hWf, World.frozen?_setCells]; exact hNf _) (fun v hv => h1c v (List.mem_of_mem_drop hv))
  subst hW1
  have hE1 : ∀ x, ((w.alloc (.cells ROW 37)).drew).cell? x = (w.drew.alloc (.cells ROW 37)).cell? x := fun x => rfl
  have hE2 : ∀ x, ((w.alloc (.cells ROW 37)).drew).frozen? x = (w.drew.alloc (.cells ROW 37)).frozen? x := fun x => rfl
  have hF1 : ∀ x, (((w.alloc (.cells ROW 37)).drew.setCells w.heap.size (i * 7) vs).drew).cell? x = ((w.drew.alloc (.cells ROW 37)).setCells w.heap.size (i * 7) vs).cell? x := fun x => rfl
  have hF2 : ∀ x, (((w.alloc (.cells ROW 37)).drew.setCells w.heap.size (i * 7) vs).drew).frozen? x = ((w.drew.alloc (.cells ROW 37)).setCells w.heap.size (i * 7) vs).frozen? x := fun x => rfl
  have hw1 : IntKind.i64.wrap ((i : Int) + 1) = (i : Int) + 1 := by rw [IntKind.wrap_i64]; omega
  have hw2 : IntKind.i64.wrap ((n : Int) + 1) = (n : Int) + 1 := by rw [IntKind.wrap_i64]; omega
  have hw3 : IntKind.i64.wrap ((n : Int) + 1 - i) = (n : Int) + 1 - i := by rw [IntKind.wrap_i64]; omega
  have hb1 : (0 : Int) ≤ (i : Int) + 1 := by omega
  have hin : i ≤ n := by omega
  have htn : ((i : Int) + 1).toNat = i + 1 := by omega
  have hb3 : (i : Int) ≤ (n : Int) := by omega
  clear hkk hik hold hROW hG hiz hz7 hi0 hz0 hzs hzb
  go_enter Tryz.func68, Tryz.ntmps68
  go_wp2_with (first
    | (at_builtin; refine Lib.wpList_append_run _ rfl _ _ _ _ rfl _ _ rfl rfl _ _ (hrz _) ?_)
    | (at_builtin; refine wpList_copy_runI _ rfl _ _ 24 24 rfl _ _ rfl rfl (hcpA _ hE1 hE2 _ _) ?_)
    | (at_builtin; refine wpList_copy_runI _ rfl _ _ 24 24 rfl _ _ rfl rfl (hcpB _ (fun _ => rfl) (fun _ => rfl) _ _ _) ?_))
  go_region_law_o (refine step_copy_runI rfl _ _ 24 24 rfl (.slice (some ⟨w.heap.size, (i + 1) * 7, none⟩) (n - i) (G - (i + 1))) (.slice (some ⟨b, off + i * 7, none⟩) (n - i) (c - i)) (by simp [Go.Act.eval, Go.Act.put]) (by simp [Go.Act.eval, Go.Act.put]) (hcpB _ hF1 hF2 3 (G - (i + 1)) (c - i)) ?_)
  go_wp2
  go_ret
  exact ⟨rfl, ROW, hRl, hR0, rfl⟩
end Go.Proofs.YtjkhhplhjbmhjaaGreat.L

namespace Go.Proofs.YtjkhhplhjbmhjaaGreat.L
open Go Go.VM Go.Proofs Go.RowKit Go.Lib
set_option maxRecDepth 100000
set_option maxHeartbeats 4000000
set_option linter.unusedSimpArgs false
set_option linter.unusedVariables false
theorem setCells_row {b : Nat} {e : TypeId} {fr : Nat × Nat} : ∀ (vs : List Value) (o : Nat) (w : World) (cur : Array Value), w.heap[b]? = some (.cells cur e fr) → o + vs.length ≤ cur.size →
    ∃ cur', (w.setCells b o vs).heap[b]? = some (.cells cur' e fr) ∧ cur'.size = cur.size ∧ (∀ t, cur'[t]? = if o ≤ t ∧ t < o + vs.length then vs[t - o]? else cur[t]?) ∧ Only w (w.setCells b o vs) b
  | [], o, w, cur, hb, _ => ⟨cur, hb, rfl, fun t => by rw [if_neg]; simp, .refl _ _⟩
  | v :: vs, o, w, cur, hb, hfit => by
    simp only [List.length_cons] at hfit
    obtain ⟨hb', ho⟩ := setCell_row (o := o) (v := v) hb
    obtain ⟨cur', h1, h2, h3, h4⟩ := setCells_row vs (o + 1) _ _ hb' (by simp; omega)
    refine ⟨cur', h1, by simpa using h2, fun t => ?_, ho.trans h4⟩
    rw [h3 t, Array.getElem?_setIfInBounds]
    by_cases h5 : t = o
    · subst h5
      rw [if_neg (by omega), if_pos rfl, if_pos (by omega), if_pos (by simp only [List.length_cons]; omega), Nat.sub_self]
      rfl
    · by_cases h6 : o + 1 ≤ t ∧ t < o + 1 + vs.length
      · rw [if_pos h6, if_pos (by simp only [List.length_cons]; omega)]
        have : t - o = (t - (o + 1)) + 1 := by omega
        rw [this]; simp
      · rw [if_neg h6, if_neg (fun e => h5 e.symm), if_neg (by simp only [List.length_cons]; omega)]
theorem flatC_none {w : World} {y : V} {c : Value} {N : Nat → Prop} (x : OW w y c N) (hf : y.flatC = true) : ∀ k, ¬ N k := by
  cases x with
  | int k n => exact fun _ h => h
  | bool b => exact fun _ h => h
  | str s l h => exact fun _ h => h
  | raw a n c => exact fun _ h => h
  | _ => simp [V.flatC] at hf
theorem RBox.cells7 (x : RBox) : x.enc.cells.length = 7 := rfl
theorem RBox.cell_flat (x : RBox) : ∀ y ∈ x.enc.cells, y.flatC = true ∧ okCell y = true := by
  intro y hy
  simp only [RBox.enc, V.cells, List.mem_cons, List.not_mem_nil, or_false] at hy
  rcases hy with rfl | rfl | rfl | rfl | rfl | rfl | rfl <;> exact ⟨rfl, rfl⟩
structure Row7 (w : World) (L : List RBox) (b off cap : Nat) (cur : Array Value) (e : TypeId) (fr : Nat × Nat) (F : Nat → Nat → Value) : Prop where
  hb : w.heap[b]? = some (.cells cur e fr)
  hfr : NoFr 7 cur.size fr
  hlen : L.length ≤ cap
  hcap : off + cap * 7 ≤ cur.size
  hmax : cap ≤ maxLen
  at_ : ∀ i j, i < L.length → j < 7 → cur[off + (i * 7 + j)]? = some (F i j)
  ow : ∀ (i : Nat) x (j : Nat) y, L[i]? = some x → x.enc.cells[j]? = some y → ∀ w', OW w' y (F i j) (fun _ => False)
theorem row7 {w : World} {L : List RBox} {c : Value} {N : Nat → Prop} (h : OW w (.lst 7 (L.map RBox.enc)) c N) (h0 : 0 < L.length) :
    ∃ b off cap cur e fr F, c = .slice (some ⟨b, off, none⟩) L.length cap ∧ (∀ k, N k ↔ k = b) ∧ Row7 w L b off cap cur e fr F := by
  generalize hv : V.lst 7 (L.map RBox.enc) = v at h
  cases h <;> simp only [V.lst.injEq, reduceCtorEq] at hv
  case lnil sz' =>
    obtain ⟨_, h2⟩ := hv
    rw [List.map_eq_nil_iff] at h2
    subst h2; simp at h0
  case lst sz' l ad cap cur e fr f g hsp hb hfr hlen hcap hmax hsz hok hc hr hself hdis =>
    obtain ⟨rfl, rfl⟩ := hv
    obtain ⟨b, off, sp⟩ := ad
    cases hsp
    rw [List.length_map] at *
    have hrow : ∀ (i : Nat) x, L[i]? = some x → (L.map RBox.enc)[i]? = some x.enc := fun i x hx => by rw [List.getElem?_map, hx]; rfl
    refine ⟨b, off, cap, cur, e, fr, f, rfl, fun k => ⟨?_, fun h => .inl h⟩, hb, hfr, hlen, hcap, hmax, hc, ?_⟩
    · rintro (h | ⟨i, j, hi, hj, hk⟩)
      · exact h
      · have hx := hrow i L[i] (List.getElem?_eq_getElem hi)
        have hy : L[i].enc.cells[j]? = some (L[i].enc.cells[j]'(by rw [RBox.cells7]; exact hj)) := List.getElem?_eq_getElem _
        exact (flatC_none (hr i _ j _ hx hy) (RBox.cell_flat _ _ (List.getElem_mem _)).1 k hk).elim
    · intro i x j y hx hy w'
      exact (hr i _ j y (hrow i x hx) hy).flat_irrel (RBox.cell_flat _ _ (List.mem_of_getElem? hy)).1 w'
theorem Row7.mk_ow {w : World} {L : List RBox} {b off cap : Nat} {cur : Array Value} {e : TypeId} {fr : Nat × Nat} {F : Nat → Nat → Value} (h : Row7 w L b off cap cur e fr F) :
    OW w (.lst 7 (L.map RBox.enc)) (.slice (some ⟨b, off, none⟩) L.length cap) (fun k => k = b) := by
  have key := OW.mk_row (w := w) (sz := 7) (cap := cap) (l := L.map RBox.enc) (ad := ⟨b, off, none⟩) (cur := cur) (e := e) (fr := fr) (Ng := fun _ _ _ => False) rfl (by rw [List.length_map]; exact h.hlen) h.hmax
    (fun x hx => by obtain ⟨y, _, rfl⟩ := List.mem_map.1 hx; rfl) (fun x hx y hy => by obtain ⟨z, _, rfl⟩ := List.mem_map.1 hx; exact (RBox.cell_flat _ _ hy).2) h.hb h.hfr h.hcap
    (fun i x j y hx hy => by
      rw [List.getElem?_map, Option.map_eq_some_iff] at hx
      obtain ⟨z, hz, rfl⟩ := hx
      have hi := (List.getElem?_eq_some_iff.1 hz).1
      have hj := (List.getElem?_eq_some_iff.1 hy).1
      rw [RBox.cells7] at hj
      exact ⟨_, h.at_ i j hi hj, h.ow i z j y hz hy w⟩) (fun _ _ _ _ h => h) (fun _ _ _ _ _ _ _ _ _ h => h.elim)
  rw [List.length_map] at key
  exact key.cast fun k => ⟨fun h => by rcases h with h | ⟨_, _, _, _, h⟩; exact h; exact h.elim, fun h => .inl h⟩
def cells7 (n : Nat) (F : Nat → Nat → Value) : List Value := (List.range (n * 7)).map fun t => F (t / 7) (t % 7)
theorem cells7_len (n : Nat) (F : Nat → Nat → Value) : (cells7 n F).length = n * 7 := by simp [cells7]
theorem cells7_at {n i j : Nat} {F : Nat → Nat → Value} (hi : i < n) (hj : j < 7) : (cells7 n F)[i * 7 + j]? = some (F i j) := by
  have h1 : i * 7 + j < n * 7 := by omega
  have h2 : (i * 7 + j) / 7 = i := by omega
  have h3 : (i * 7 + j) % 7 = j := by omega
  rw [cells7, List.getElem?_map, List.getElem?_range h1]
  simp only [Option.map_some, h2, h3]
theorem cells7_of {n t : Nat} {F : Nat → Nat → Value} {v : Value} (h : (cells7 n F)[t]? = some v) : t < n * 7 ∧ v = F (t / 7) (t % 7) := by
  have h1 := (List.getElem?_eq_some_iff.1 h).1
  rw [cells7_len] at h1
  refine ⟨h1, ?_⟩
  rw [cells7, List.getElem?_map, List.getElem?_range h1] at h
  exact (Option.some.inj h).symm
theorem Row7.cell {w : World} {L : List RBox} {b off cap : Nat} {cur : Array Value} {e : TypeId} {fr : Nat × Nat} {F : Nat → Nat → Value} (h : Row7 w L b off cap cur e fr F) :
    ∀ j v, (cells7 L.length F)[j]? = some v → w.cell? ⟨b, off + j, none⟩ = some v := fun j v hj => by
  obtain ⟨h1, rfl⟩ := cells7_of hj
  rw [Go.VM.cell_of_row h.hb, ← h.at_ (j / 7) (j % 7) (by omega) (by omega)]
  congr 2
  omega
theorem Row7.one {w : World} {L : List RBox} {b off cap : Nat} {cur : Array Value} {e : TypeId} {fr : Nat × Nat} {F : Nat → Nat → Value} (h : Row7 w L b off cap cur e fr F) :
    ∀ v ∈ cells7 L.length F, v.oneCell' = true := fun v hv => by
  obtain ⟨j, hj⟩ := List.mem_iff_getElem?.1 hv
  obtain ⟨h1, rfl⟩ := cells7_of hj
  have hi : j / 7 < L.length := by omega
  have hj7 : j % 7 < 7 := by omega
  exact (h.ow _ _ _ (L[j / 7].enc.cells[j % 7]'(by rw [RBox.cells7]; exact hj7)) (List.getElem?_eq_getElem hi) (List.getElem?_eq_getElem _) w).one (RBox.cell_flat _ _ (List.getElem_mem _)).2
def putF (k : Nat) (F F1 : Nat → Nat → Value) (m j : Nat) : Value := if m < k then F m j else if m = k then F1 0 j else F (m - 1) j
theorem put_at {L : List RBox} {x : RBox} {k : Nat} (hk : k ≤ L.length) (m : Nat) : (L.take k ++ [x] ++ L.drop k)[m]? = if m < k then L[m]? else if m = k then some x else L[m - 1]? := by
  rw [List.append_assoc]
  by_cases h1 : m < k
  · rw [if_pos h1, List.getElem?_append_left (by rw [List.length_take]; omega), List.getElem?_take, if_pos h1]
  · rw [if_neg h1, List.getElem?_append_right (by rw [List.length_take]; omega), List.length_take, Nat.min_eq_left hk]
    by_cases h2 : m = k
    · subst h2; rw [if_pos rfl, Nat.sub_self]; rfl
    · rw [if_neg h2]
      have : m - k = (m - 1 - k) + 1 := by omega
      rw [this, List.cons_append, List.getElem?_cons_succ, List.nil_append, List.getElem?_drop]
      congr 1; omega
theorem put_len {L : List RBox} {x : RBox} {k : Nat} (hk : k ≤ L.length) : (L.take k ++ [x] ++ L.drop k).length = L.length + 1 := by
  simp only [List.length_append, List.length_take, List.length_drop, List.length_cons, List.length_nil]; omega
theorem put_ow {L : List RBox} {x : RBox} {k : Nat} {F F1 : Nat → Nat → Value} (hk : k ≤ L.length) (h : ∀ (i : Nat) x (j : Nat) y, L[i]? = some x → x.enc.cells[j]? = some y → ∀ w', OW w' y (F i j) (fun _ => False))
    (h1 : ∀ (i : Nat) z (j : Nat) y, [x][i]? = some z → z.enc.cells[j]? = some y → ∀ w', OW w' y (F1 i j) (fun _ => False)) :
    ∀ (i : Nat) z (j : Nat) y, (L.take k ++ [x] ++ L.drop k)[i]? = some z → z.enc.cells[j]? = some y → ∀ w', OW w' y (putF k F F1 i j) (fun _ => False) := by
  intro i z j y hz hy w'
  rw [put_at hk] at hz
  unfold putF
  by_cases e1 : i < k
  · rw [if_pos e1] at hz ⊢
    exact h i z j y hz hy w'
  · rw [if_neg e1] at hz ⊢
    by_cases e2 : i = k
    · rw [if_pos e2] at hz ⊢
      exact h1 0 z j y hz hy w'
    · rw [if_neg e2] at hz ⊢
      exact h (i - 1) z j y hz hy w'
theorem Row7.put {w' : World} {L : List RBox} {x : RBox} {b off cap k : Nat} {cur cur' : Array Value} {e : TypeId} {fr : Nat × Nat} {F F1 : Nat → Nat → Value} (hk : k ≤ L.length)
    (how : ∀ (i : Nat) x (j : Nat) y, L[i]? = some x → x.enc.cells[j]? = some y → ∀ w', OW w' y (F i j) (fun _ => False)) (how1 : ∀ (i : Nat) z (j : Nat) y, [x][i]? = some z → z.enc.cells[j]? = some y → ∀ w', OW w' y (F1 i j) (fun _ => False))
    (hb : w'.heap[b]? = some (.cells cur' e fr)) (hfr : NoFr 7 cur'.size fr) (hlen : L.length + 1 ≤ cap) (hcap : off + cap * 7 ≤ cur'.size) (hmax : cap ≤ maxLen)
    (hc : ∀ t, cur'[t]? = if off + k * 7 ≤ t ∧ t < off + k * 7 + 7 then (cells7 1 F1)[t - (off + k * 7)]? else if off + (k + 1) * 7 ≤ t ∧ t < off + (k + 1) * 7 + (L.length - k) * 7 then ((cells7 L.length F).drop (k * 7))[t - (off + (k + 1) * 7)]? else cur[t]?)
    (h0 : ∀ m j, m < k → j < 7 → cur[off + (m * 7 + j)]? = some (F m j)) : Row7 w' (L.take k ++ [x] ++ L.drop k) b off cap cur' e fr (putF k F F1) := by
  refine ⟨hb, hfr, by rw [put_len hk]; exact hlen, hcap, hmax, ?_, put_ow hk how how1⟩
  intro m j hm hj
  rw [put_len hk] at hm
  rw [hc]
  unfold putF
  by_cases e1 : m < k
  · rw [if_neg (by omega), if_neg (by omega), if_pos e1]
    exact h0 m j e1 hj
  · by_cases e2 : m = k
    · subst e2
      rw [if_pos (by omega), if_neg e1, if_pos rfl]
      have := cells7_at (n := 1) (i := 0) (j := j) (F := F1) (by omega) hj
      rw [← this]; congr 1; omega
    · rw [if_neg (by omega), if_pos (by omega), if_neg e1, if_neg e2, List.getElem?_drop]
      have := cells7_at (n := L.length) (i := m - 1) (j := j) (F := F) (by omega) hj
      rw [← this]; congr 1; omega
end Go.Proofs.YtjkhhplhjbmhjaaGreat.L

namespace Go.Proofs.YtjkhhplhjbmhjaaGreat.L
open Go Go.VM
set_option maxRecDepth 100000
set_option maxHeartbeats 4000000
set_option linter.unusedSimpArgs false
set_option linter.unusedVariables false
open Classical in
noncomputable def spInsE : VM.Spec := { modes := [.use, .rd, .use], run := fun | [.lst 7 l', .int .i64 i, .lst 7 v'] => (decL RBox.dec l').bind fun l => (decL RBox.dec v').bind fun v => if l.length ≤ 1000000 ∧ v.length = 1 ∧ i = l.length then some (.lst 7 ((l.take i.toNat ++ v ++ l.drop i.toNat).map RBox.enc), []) else none | _ => none, need := [] }
attribute [go_sem] spInsE
theorem spInsE_in {ins : List V} {r : V} {outs : List V} (h : spInsE.run ins = some (r, outs)) : ∃ (l : (List RBox)) (i : Int) (v : (List RBox)), ins = [.lst 7 ((l).map RBox.enc), .int .i64 i, .lst 7 ((v).map RBox.enc)] ∧ (l.length ≤ 1000000 ∧ v.length = 1 ∧ i = l.length) ∧ .lst 7 ((l.take i.toNat ++ v ++ l.drop i.toNat).map RBox.enc) = r ∧ outs = [] := by
  unfold spInsE at h
  simp only at h
  split at h
  · rename_i l' i v'
    simp only [Option.bind_eq_some_iff] at h
    obtain ⟨l, h_l, v, h_v, h⟩ := h
    split at h
    case isFalse => cases h
    rename_i hc
    simp only [Option.some.injEq, Prod.mk.injEq] at h
    obtain ⟨h1, h2⟩ := h
    have h_l := decL_some (fun _ _ h => RBox.dec_some h) h_l
    subst h_l
    have h_v := decL_some (fun _ _ h => RBox.dec_some h) h_v
    subst h_v
    exact ⟨l, i, v, rfl, hc, h1, h2.symm⟩
  · cases h
open Classical in
noncomputable def spInsR : VM.Spec := { modes := [.use, .rd, .use], run := fun | [.lst 7 l', .int .i64 i, .lst 7 v'] => (decL RBox.dec l').bind fun l => (decL RBox.dec v').bind fun v => if l.length ≤ 1000000 ∧ v.length = 1 ∧ 0 ≤ i ∧ i ≤ l.length then some (.lst 7 ((l.take i.toNat ++ v ++ l.drop i.toNat).map RBox.enc), []) else none | _ => none, need := [] }
attribute [go_sem] spInsR
theorem spInsR_in {ins : List V} {r : V} {outs : List V} (h : spInsR.run ins = some (r, outs)) : ∃ (l : (List RBox)) (i : Int) (v : (List RBox)), ins = [.lst 7 ((l).map RBox.enc), .int .i64 i, .lst 7 ((v).map RBox.enc)] ∧ (l.length ≤ 1000000 ∧ v.length = 1 ∧ 0 ≤ i ∧ i ≤ l.length) ∧ .lst 7 ((l.take i.toNat ++ v ++ l.drop i.toNat).map RBox.enc) = r ∧ outs = [] := by
  unfold spInsR at h
  simp only at h
  split at h
  · rename_i l' i v'
    simp only [Option.bind_eq_some_iff] at h
    obtain ⟨l, h_l, v, h_v, h⟩ := h
    split at h
    case isFalse => cases h
    rename_i hc
    simp only [Option.some.injEq, Prod.mk.injEq] at h
    obtain ⟨h1, h2⟩ := h
    have h_l := decL_some (fun _ _ h => RBox.dec_some h) h_l
    subst h_l
    have h_v := decL_some (fun _ _ h => RBox.dec_some h) h_v
    subst h_v
    exact ⟨l, i, v, rfl, hc, h1, h2.symm⟩
  · cases h
open Classical in
noncomputable def spIns : VM.Spec := { modes := [.use, .rd, .use], run := fun | [.lst 7 l', .int .i64 i, .lst 7 v'] => (decL Box.dec l').bind fun l => (decL Box.dec v').bind fun v => if l.length ≤ 1000000 ∧ v.length = 1 ∧ 0 ≤ i ∧ i ≤ l.length then some (.lst 7 ((l.take i.toNat ++ v ++ l.drop i.toNat).map Box.enc), []) else none | _ => none, need := [] }
attribute [go_sem] spIns
theorem spIns_in {ins : List V} {r : V} {outs : List V} (h : spIns.run ins = some (r, outs)) : ∃ (l : (List Box)) (i : Int) (v : (List Box)), ins = [.lst 7 ((l).map Box.enc), .int .i64 i, .lst 7 ((v).map Box.enc)] ∧ (l.length ≤ 1000000 ∧ v.length = 1 ∧ 0 ≤ i ∧ i ≤ l.length) ∧ .lst 7 ((l.take i.toNat ++ v ++ l.drop i.toNat).map Box.enc) = r ∧ outs = [] := by
  unfold spIns at h
  simp only at h
  split at h
  · rename_i l' i v'
    simp only [Option.bind_eq_some_iff] at h
    obtain ⟨l, h_l, v, h_v, h⟩ := h
    split at h
    case isFalse => cases h
    rename_i hc
    simp only [Option.some.injEq, Prod.mk.injEq] at h
    obtain ⟨h1, h2⟩ := h
    have h_l := decL_some (fun _ _ h => Box.dec_some h) h_l
    subst h_l
    have h_v := decL_some (fun _ _ h => Box.dec_some h) h_v
    subst h_v
    exact ⟨l, i, v, rfl, hc, h1, h2.symm⟩
  · cases h
def T_slices_Insert_loop_example_g00247_impl_Box_loop_example_g00247_impl_Box_E : Hints := ⟨lk [(11, []), (15, [])], lk [], lk [(0, [0, 1, 2]), (1, [0, 1, 2]), (2, [0, 1, 2, 7]), (3, [0, 1, 2, 7, 16]), (4, [6]), (5, [0, 1, 2, 7, 8]), (6, [0, 1, 2, 7, 8, 22]), (7, [6]), (8, [0, 1, 2, 7, 8, 31]), (9, [0, 1, 2, 7, 9]), (10, [0, 1, 7, 9]), (11, [9]), (12, [6]), (13, [0, 1, 2, 7, 8]), (14, [0, 1, 2, 7, 8, 68]), (15, [0, 1, 2]), (16, [0]), (17, [6]), (18, [0, 1, 7]), (19, [0]), (20, [6])], lk []⟩
noncomputable def Phi_slices_Insert_loop_example_g00247_impl_Box_loop_example_g00247_impl_Box_E : Tab := lk []
attribute [go_sem] T_slices_Insert_loop_example_g00247_impl_Box_loop_example_g00247_impl_Box_E Phi_slices_Insert_loop_example_g00247_impl_Box_loop_example_g00247_impl_Box_E
theorem phi_slices_Insert_loop_example_g00247_impl_Box_loop_example_g00247_impl_Box_E : ∀ f sp, Phi_slices_Insert_loop_example_g00247_impl_Box_loop_example_g00247_impl_Box_E f = some sp → FnOk Tryz.prog f sp ∧ ∀ n ∈ sp.need, n ∈ ([] : List String) := phi_nil
theorem ok_slices_Insert_loop_example_g00247_impl_Box_loop_example_g00247_impl_Box_E : FnOk Tryz.prog 68 spInsE := by
  refine fn_ok (Φ := Phi_slices_Insert_loop_example_g00247_impl_Box_loop_example_g00247_impl_Box_E) (T := T_slices_Insert_loop_example_g00247_impl_Box_loop_example_g00247_impl_Box_E) phi_slices_Insert_loop_example_g00247_impl_Box_loop_example_g00247_impl_Box_E mixed Tryz.func68 rfl rfl rfl (by decide) ?_
  intro ins r outs hr hl
  clear hl
  have hs := spInsE_in hr
  clear hr
  obtain ⟨l, i, v, rfl, hc, hr, rfl⟩ := hs
  simp only [spInsE, Tryz.f68, Go.VM.initS]
  obtain ⟨hl, h1, rfl⟩ := hc
  have g1 : ((v.length : Int) == 0) = false := by rw [h1]; rfl
  have g2 : (0 : Int) ≤ l.length := by omega
  have g10 : (l.length + v.length) * 96 ≤ 140737488355328 := by omega
  have g11 : l.length + v.length ≤ 9223372036854775807 := by omega
  simp only [g1, g2, g10, g11, Nat.le_refl, List.length_map, go_sem]
  repeat' ((first | ((first | apply qa | apply qb | apply qc | apply qd | apply qe | apply qf | apply qg | apply qh | apply qi | apply qj | apply qk) <;> intro hp) | ((first | refine ql rfl rfl (by decide +kernel) ?_ | refine qm _ rfl rfl (by decide +kernel) ?_) <;> have hp := True.intro)) <;> simp only [hp, g1, g2, g10, g11, Nat.le_refl, List.length_map, go_sem])
  simp only [fin_mk, finV, resL, resV1, resIn, endA, listIn, Option.some_or, Option.none_or, oneOrTup, go_sem]
  rw [← hr, Int.toNat_natCast, List.take_length, List.drop_length, List.append_nil, List.map_append]
theorem anyS3 {X Y : Nat → Prop} {k : Nat} : AnyS [X, (fun _ => False), Y] k ↔ X k ∨ Y k := by
  rw [AnyS.cons, AnyS.cons, AnyS.cons]
  constructor
  · rintro (h | h | h | ⟨_, h, _⟩)
    · exact .inl h
    · exact h.elim
    · exact .inr h
    · cases h
  · rintro (h | h)
    · exact .inl h
    · exact .inr (.inr (.inl h))
theorem ok_Insert_R : FnOk Tryz.prog 68 spInsR := by
  intro w S ins r outs cargs Ns hG hr ha hd hNs hS
  obtain ⟨l, i, v, rfl, ⟨hl, hv1, h0, h1⟩, hrr, rfl⟩ := spInsR_in hr
  by_cases he : i = l.length
  · refine ok_slices_Insert_loop_example_g00247_impl_Box_loop_example_g00247_impl_Box_E w S _ r [] cargs Ns hG ?_ ha hd hNs hS
    simp only [spInsE, decL_map RBox.dec_enc, Option.bind_some]
    rw [if_pos ⟨hl, hv1, he⟩, hrr]
  obtain ⟨x, rfl⟩ := List.length_eq_one_iff.1 hv1
  obtain ⟨k, rfl⟩ : ∃ k : Nat, i = k := ⟨i.toNat, by omega⟩
  have hk : k < l.length := by omega
  simp only [Int.toNat_natCast] at hrr
  cases ha with
  | wr hm how t =>
  rename_i c0 N0 cs0 Ns0
  cases t with
  | wr hm' _ _ => rcases hm' with h | h <;> cases h
  | rd h2 t =>
  rename_i c2 cs2 Ns2
  cases t with
  | wr hm1 how1 t1 =>
  rename_i c1 N1 cs1 Ns1
  cases t1
  cases h2
  obtain ⟨b, off, cap, cur, e, fr, F, rfl, hN0, row⟩ := row7 how (by omega)
  obtain ⟨vb, voff, vc, cur1, e1, fr1, F1, rfl, hN1, row1⟩ := row7 how1 (by simp)
  have hvb : vb ≠ b := fun e => hd.head b ((hN0 b).2 rfl) (AnyS.cons.2 (.inr (AnyS.cons.2 (.inl ((hN1 b).2 e.symm)))))
  have hbw : b < w.heap.size := (hNs b (anyS3.2 (.inl ((hN0 b).2 rfl)))).2
  have hcur : off + cap * 7 ≤ cur.size := row.hcap
  have hcur1 : voff + vc * 7 ≤ cur1.size := row1.hcap
  have hvc : 1 ≤ vc := row1.hlen
  have hlen := row.hlen
  have hmax := row.hmax
  have hcl := cells7_len l.length F
  have hvl : (cells7 1 F1).length = 7 := cells7_len 1 F1
  have hdl : ((cells7 l.length F).drop (k * 7)).length = (l.length - k) * 7 := by rw [List.length_drop, hcl]; omega
  have hen : Enters Tryz.prog 68 := enters_of Tryz.func68 rfl rfl
  have fin : ∀ (w' : World) (b' off' cap' : Nat) (cur' : Array Value) (e' : TypeId) (fr' : Nat × Nat), Row7 w' (l.take k ++ [x] ++ l.drop k) b' off' cap' cur' e' fr' (putF k F F1) → Fr w w' (fun k => k = b) → b' < w'.heap.size → (w.heap.size ≤ b' ∨ b' = b) →
      ∃ cv NR NOs, (Ending.returned (.slice (some ⟨b', off', none⟩) (l.length + 1) cap')) = .returned cv ∧ Fr w w' (AnyS [N0, (fun _ => False), N1]) ∧ ResOk w' S r cv NR ∧
        OutsOk w' S spInsR.modes [] [.slice (some ⟨b, off, none⟩) l.length cap, .int .i64 (k : Int), .slice (some ⟨vb, voff, none⟩) [x].length vc] NOs ∧ DisjS (NR :: NOs) ∧ ∀ k, AnyS (NR :: NOs) k → k < w'.heap.size ∧ (w.heap.size ≤ k ∨ AnyS [N0, (fun _ => False), N1] k) := by
    intro w' b' off' cap' cur' e' fr' hrow hfr hb' hor
    have how' := hrow.mk_ow
    rw [put_len (Nat.le_of_lt hk)] at how'
    refine ⟨_, fun k => k = b', [(fun _ => False), (fun _ => False), (fun _ => False)], rfl, ⟨hfr.os, hfr.tape, hfr.output, hfr.size, fun j hj hn => hfr.block j hj fun e => hn (anyS3.2 (.inl ((hN0 j).2 e)))⟩, .inl (hrr ▸ how'),
      .no (.inr rfl) (.no (.inl rfl) (.no (.inr rfl) .nil)), ?_, ?_⟩
    · refine DisjS.cons (fun j _ h => ?_) (DisjS.cons (fun j h _ => h) (DisjS.cons (fun j h _ => h) (DisjS.cons (fun j h _ => h) fun i j A B k h => by simp at h)))
      rcases h with ⟨M, hM, hj⟩
      simp only [List.mem_cons, List.not_mem_nil, or_false] at hM
      rcases hM with rfl | rfl | rfl <;> exact hj
    · rintro j ⟨M, hM, hj⟩
      simp only [List.mem_cons, List.not_mem_nil, or_false] at hM
      rcases hM with rfl | rfl | rfl | rfl
      · subst hj
        refine ⟨hb', hor.imp id fun e => anyS3.2 (.inl ((hN0 _).2 e))⟩
      all_goals exact hj.elim
  rcases Nat.lt_or_ge l.length cap with hroom | hroom
  · have hfz : ∀ j, j < (l.length + 1) * 7 → w.frozen? ⟨b, off + j, none⟩ = false := fun j hj => Go.VM.frozen_of_row row.hb row.hfr (by omega)
    have hsp : ∀ j, j < (l.length + 1) * 7 → (w.cell? ⟨b, off + j, none⟩).isSome = true := fun j hj => by rw [Go.VM.cell_of_row row.hb, Array.getElem?_eq_getElem (by omega)]; rfl
    have hsa : w.shape? vb = some (e1, cur1.size) := by unfold World.shape?; rw [row1.hb]
    have hsb : w.shape? b = some (e, cur.size) := by unfold World.shape?; rw [row.hb]
    have hfa : w.frozen? ⟨vb, voff, none⟩ = false := Go.VM.frozen_of_row row1.hb row1.hfr (by omega)
    have hfe : w.frozen? ⟨vb, cur1.size, none⟩ = false := by
      have := row1.hfr.2 (by decide)
      simp only [World.frozen?, row1.hb, Bool.and_eq_false_iff, decide_eq_false_iff_not]; omega
    have hc63 : cap ≤ 9223372036854775807 := by unfold maxLen at hmax; omega
    have key := ins_shift b off l.length cap k vb voff vc (cells7 l.length F) (cells7 1 F1) w hk hroom hc63 hvb hcl hvl row.cell hsp hfz row1.cell row.one row1.one e1 e cur1.size cur.size hsa hsb (by omega) hfa hfe
    refine Gives.mono (.inr ⟨hen _ _, key⟩) ?_
    rintro e' w' ⟨rfl, hw'⟩
    obtain ⟨cA, a1, a2, a3, a4⟩ := setCells_row (b := b) (e := e) (fr := fr) ((cells7 l.length F).drop (k * 7)) (off + (k + 1) * 7) w.drew cur row.hb (by rw [hdl]; omega)
    generalize w.drew.setCells b (off + (k + 1) * 7) ((cells7 l.length F).drop (k * 7)) = wA at hw' a1 a4
    obtain ⟨cB, b1, b2, b3, b4⟩ := setCells_row (cells7 1 F1) (off + k * 7) wA cA a1 (by rw [hvl]; omega)
    rw [← hw'] at b1 b4
    have h4 := a4.trans b4
    have hrow : Row7 w' (l.take k ++ [x] ++ l.drop k) b off cap cB e fr (putF k F F1) := by
      refine Row7.put (cur := cur) (Nat.le_of_lt hk) row.ow row1.ow b1 (by rw [b2, a2]; exact row.hfr) hroom (by rw [b2, a2]; exact hcur) hmax ?_ fun m j hm hj => row.at_ m j (by omega) hj
      intro t
      rw [b3, hvl, a3, hdl]
    exact fin w' b off cap cB e fr hrow ⟨h4.os, h4.tape, h4.output, by rw [h4.size]; exact Nat.le_refl _, fun j _ hn => h4.block j hn⟩ (by rw [h4.size]; exact hbw) (.inr rfl)
  · have key := ins_grow b off l.length cap k vb voff vc (cells7 l.length F) (cells7 1 F1) w hk hlen (by omega) (by omega) hcl hvl row.cell row1.cell row.one row1.one
    refine Gives.mono (.inr ⟨hen _ _, key⟩) ?_
    have hGn : l.length + 1 ≤ grownCap w (l.length + 1) cap 37 := grownCap_ge w _ _ _
    have hGm : grownCap w (l.length + 1) cap 37 ≤ maxLen := grownCap_le_maxLen w _ _ _ (by unfold maxLen; omega)
    generalize grownCap w (l.length + 1) cap 37 = G at hGn hGm ⊢
    rintro e' w' ⟨rfl, ROW, hRl, hR0, hw'⟩
    have hal : (w.alloc (.cells ROW 37)).drew.heap[w.heap.size]? = some (.cells ROW 37 (0, 0)) := heap_alloc_new' w _
    have hold : ∀ j, j < w.heap.size → (w.alloc (.cells ROW 37)).drew.heap[j]? = w.heap[j]? := fun j hj => heap_alloc_old' w _ j hj
    have hasz : (w.alloc (.cells ROW 37)).drew.heap.size = w.heap.size + 1 := World.size_alloc ..
    have hos : (w.alloc (.cells ROW 37)).drew.os = w.os := rfl
    have htp : (w.alloc (.cells ROW 37)).drew.tape = w.tape := rfl
    have hop : (w.alloc (.cells ROW 37)).drew.output = w.output := rfl
    generalize (w.alloc (.cells ROW 37)).drew = w1 at hw' hal hold hasz hos htp hop
    obtain ⟨cA, a1, a2, a3, a4⟩ := setCells_row (cells7 1 F1) (k * 7) w1 ROW hal (by rw [hvl]; omega)
    generalize w1.setCells w.heap.size (k * 7) (cells7 1 F1) = w2 at hw' a1 a4
    have a1' : w2.drew.heap[w.heap.size]? = some (.cells cA 37 (0, 0)) := a1
    obtain ⟨cB, b1, b2, b3, b4⟩ := setCells_row ((cells7 l.length F).drop (k * 7)) ((k + 1) * 7) w2.drew cA a1' (by rw [hdl]; omega)
    rw [← hw'] at b1 b4
    have b4' : Only w2 w' w.heap.size := ⟨b4.os, b4.tape, b4.output, b4.size, b4.block⟩
    have h4 := a4.trans b4'
    have hrow : Row7 w' (l.take k ++ [x] ++ l.drop k) w.heap.size 0 G cB 37 (0, 0) (putF k F F1) := by
      refine Row7.put (cur := ROW) (Nat.le_of_lt hk) row.ow row1.ow b1 .new hGn (by rw [b2, a2]; omega) hGm ?_ ?_
      · intro t
        rw [b3, hdl, a3, hvl]
        simp only [Nat.zero_add]
        by_cases c1 : k * 7 ≤ t ∧ t < k * 7 + 7
        · simp only [if_pos c1]; rw [if_neg (by omega)]
        · simp only [if_neg c1]
      · intro m j hm hj
        rw [Nat.zero_add]
        exact hR0 _ _ (by omega) (cells7_at (by omega) hj)
    exact fin w' w.heap.size 0 G cB 37 (0, 0) hrow ⟨h4.os.trans hos, h4.tape.trans htp, h4.output.trans hop, by rw [h4.size, hasz]; omega, fun j hj _ => by rw [h4.block j (by omega)]; exact hold j hj⟩ (by rw [h4.size, hasz]; omega) (.inl (Nat.le_refl _))
theorem pickL_put {α : Type} (E : List α) (x : α) {k : Nat} (hk : k ≤ E.length) : pickL (List.range k ++ [E.length] ++ List.range' k (E.length - k)) (E ++ [x]) = E.take k ++ [x] ++ E.drop k := by
  have hlt : ∀ j ∈ List.range k ++ [E.length] ++ List.range' k (E.length - k), j < (E ++ [x]).length := by
    intro j hj
    rw [List.mem_append, List.mem_append, List.mem_range, List.mem_range'_1, List.mem_singleton] at hj
    rw [List.length_append, List.length_singleton]
    omega
  obtain ⟨p1, p2⟩ := pickL_at hlt
  have hl : (List.range k ++ [E.length] ++ List.range' k (E.length - k)).length = E.length + 1 := by simp; omega
  apply List.ext_getElem?
  intro m
  by_cases h3 : m < E.length + 1
  · by_cases h1 : m < k
    · have e : (List.range k ++ [E.length] ++ List.range' k (E.length - k))[m]? = some m := by
        rw [List.append_assoc, List.getElem?_append_left (by simpa using h1), List.getElem?_range h1]
      rw [p2 m m e, List.getElem?_append_left (by omega), List.append_assoc, List.getElem?_append_left (by rw [List.length_take]; omega), List.getElem?_take, if_pos h1]
    · by_cases h2 : m = k
      · subst h2
        have e : (List.range m ++ [E.length] ++ List.range' m (E.length - m))[m]? = some E.length := by
          rw [List.append_assoc, List.getElem?_append_right (by simp), List.length_range, Nat.sub_self]; rfl
        rw [p2 m _ e, List.getElem?_append_right (Nat.le_refl _), Nat.sub_self, List.append_assoc, List.getElem?_append_right (by rw [List.length_take]; omega), List.length_take, Nat.min_eq_left hk, Nat.sub_self]; rfl
      · have e : (List.range k ++ [E.length] ++ List.range' k (E.length - k))[m]? = some (m - 1) := by
          rw [List.getElem?_append_right (by simp; omega), List.getElem?_range' (by simp; omega)]
          simp; omega
        rw [p2 m _ e, List.getElem?_append_left (by omega), List.getElem?_append_right (by simp; omega), List.getElem?_drop]
        congr 1
        simp; omega
  · rw [List.getElem?_eq_none (by rw [p1, hl]; omega), List.getElem?_eq_none (by simp; omega)]
theorem nodup_put {n k : Nat} (h : k ≤ n) : (List.range k ++ [n] ++ List.range' k (n - k)).Nodup := by
  rw [List.append_assoc, List.nodup_append]
  refine ⟨List.nodup_range, ?_, ?_⟩
  · rw [List.singleton_append, List.nodup_cons]
    exact ⟨by rw [List.mem_range'_1]; omega, List.nodup_range'⟩
  · intro a ha b hb
    rw [List.mem_range] at ha
    rw [List.mem_append, List.mem_singleton, List.mem_range'_1] at hb
    omega
theorem ins_lift : ∀ ins r outs, spIns.run ins = some (r, outs) → ∃ (E : List V) (i : V) (E1 : List V) (is : List Nat), ins = [.lst 7 E, i, .lst 7 E1] ∧ r = .lst 7 (pickL is (E ++ E1)) ∧ outs = [] ∧ is.Nodup ∧ (∀ k ∈ is, k < (E ++ E1).length) ∧
      ∀ R F R1 F1, RawOf E R F → RawOf E1 R1 F1 → spInsR.run [.lst 7 R, i, .lst 7 R1] = some (.lst 7 (pickL is (R ++ R1)), []) := by
  intro ins r outs h
  obtain ⟨l, i, v, rfl, ⟨hl, hv, h0, h1⟩, hr, rfl⟩ := spIns_in h
  obtain ⟨x, rfl⟩ := List.length_eq_one_iff.1 hv
  obtain ⟨k, rfl⟩ : ∃ k : Nat, i = k := ⟨i.toNat, by omega⟩
  have hk : k ≤ l.length := by omega
  simp only [Int.toNat_natCast] at hr
  refine ⟨l.map Box.enc, .int .i64 k, [x].map Box.enc, List.range k ++ [l.length] ++ List.range' k (l.length - k), rfl, ?_, rfl, nodup_put hk, ?_, ?_⟩
  · have := pickL_put (l.map Box.enc) x.enc (k := k) (by rw [List.length_map]; exact hk)
    rw [List.length_map] at this
    rw [List.map_cons, List.map_nil, this, ← hr, List.map_append, List.map_append, List.map_take, List.map_drop]; rfl
  · intro j hj
    rw [List.mem_append, List.mem_append, List.mem_range, List.mem_range'_1, List.mem_singleton] at hj
    rw [List.length_append, List.length_map, List.length_map, List.length_singleton]
    omega
  · intro R F R1 F1 hR hR1
    obtain ⟨rl, rfl, hlen⟩ := raw_box hR
    obtain ⟨rl1, rfl, hlen1⟩ := raw_box hR1
    obtain ⟨z, rfl⟩ := List.length_eq_one_iff.1 (hlen1.trans rfl)
    have := pickL_put (rl.map RBox.enc) z.enc (k := k) (by rw [List.length_map, hlen]; exact hk)
    rw [List.length_map, hlen] at this
    rw [List.map_cons, List.map_nil, this]
    simp only [spInsR, decL_map RBox.dec_enc, Option.bind_some, decL_RBox]
    have e2 : decL RBox.dec [z.enc] = some [z] := decL_RBox [z]
    rw [e2]
    simp only [Option.bind_some]
    rw [if_pos ⟨by omega, rfl, by omega, by omega⟩, Int.toNat_natCast, List.map_append, List.map_append, List.map_take, List.map_drop]; rfl
theorem ok_slices_Insert_loop_example_g00247_impl_Box_loop_example_g00247_impl_Box : FnOk Tryz.prog 68 spIns :=
  lift_pick2 ok_Insert_R rfl rfl rfl ins_lift
end Go.Proofs.YtjkhhplhjbmhjaaGreat.L

