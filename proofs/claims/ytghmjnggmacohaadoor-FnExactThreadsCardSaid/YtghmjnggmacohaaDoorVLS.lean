/- Contracts of functions, and the facts that they need. No condition. -/
import Derived.Test.YtghmjnggmacohaaDoorVLA
import Derived.Test.YtghmjnggmacohaaDoorVmStr
namespace Go.Proofs.YtghmjnggmacohaaDoor.L
open Go Go.VM
set_option maxRecDepth 100000
set_option maxHeartbeats 4000000
set_option linter.unusedSimpArgs false
set_option linter.unusedVariables false
def flagsOk (n : Int) : Bool := within n 0 31
open Classical in
noncomputable def spFlagsOk : VM.Spec := { modes := [.rd], run := fun | [.int .i64 n] => some (.bool (flagsOk n), []) | _ => none, need := [] }
attribute [go_sem] spFlagsOk
theorem spFlagsOk_in {ins : List V} {r : V} {outs : List V} (h : spFlagsOk.run ins = some (r, outs)) : ∃ (n : Int), ins = [.int .i64 n] ∧ .bool (flagsOk n) = r ∧ outs = [] := by
  unfold spFlagsOk at h
  simp only at h
  split at h
  · rename_i n
    simp only [Option.some.injEq, Prod.mk.injEq] at h
    obtain ⟨h1, h2⟩ := h
    exact ⟨n, rfl, h1, h2.symm⟩
  · cases h
def T_impl_FlagsOk : Hints := ⟨lk [], lk [], lk [(0, [0]), (1, [2])], lk []⟩
noncomputable def Phi_impl_FlagsOk : Tab := lk [(56, spWithin)]
attribute [go_sem] T_impl_FlagsOk Phi_impl_FlagsOk
theorem phi_impl_FlagsOk : ∀ f sp, Phi_impl_FlagsOk f = some sp → FnOk Tryd.prog f sp ∧ ∀ n ∈ sp.need, n ∈ ([] : List String) := phi_cons ok_impl_within (n0 rfl) (phi_nil)
theorem ok_impl_FlagsOk : FnOk Tryd.prog 64 spFlagsOk := by
  refine fn_ok (Φ := Phi_impl_FlagsOk) (T := T_impl_FlagsOk) phi_impl_FlagsOk mixed Tryd.func64 rfl rfl rfl (by decide) ?_
  intro ins r outs hr hl
  clear hl
  have hs := spFlagsOk_in hr
  clear hr
  obtain ⟨n, rfl, hr, rfl⟩ := hs
  simp only [spFlagsOk, Tryd.f64, Go.VM.initS]
  simp only [go_sem]
  simp only [fin_mk, finV, resL, resV1, resIn, endA, listIn, Option.some_or, Option.none_or, oneOrTup, go_sem]
  rw [← hr]
  rfl
def T_spec_FlagsOk : Hints := ⟨lk [], lk [], lk [(0, [0]), (1, [2])], lk []⟩
noncomputable def Phi_spec_FlagsOk : Tab := lk [(37, spWithin)]
attribute [go_sem] T_spec_FlagsOk Phi_spec_FlagsOk
theorem phi_spec_FlagsOk : ∀ f sp, Phi_spec_FlagsOk f = some sp → FnOk Tryd.prog f sp ∧ ∀ n ∈ sp.need, n ∈ ([] : List String) := phi_cons ok_spec_l01In (n0 rfl) (phi_nil)
theorem ok_spec_FlagsOk : FnOk Tryd.prog 38 spFlagsOk := by
  refine fn_ok (Φ := Phi_spec_FlagsOk) (T := T_spec_FlagsOk) phi_spec_FlagsOk mixed Tryd.func38 rfl rfl rfl (by decide) ?_
  intro ins r outs hr hl
  clear hl
  have hs := spFlagsOk_in hr
  clear hr
  obtain ⟨n, rfl, hr, rfl⟩ := hs
  simp only [spFlagsOk, Tryd.f38, Go.VM.initS]
  simp only [go_sem]
  simp only [fin_mk, finV, resL, resV1, resIn, endA, listIn, Option.some_or, Option.none_or, oneOrTup, go_sem]
  rw [← hr]
  rfl
theorem ok_internal_bytealg_IndexByteString : FnOk Tryd.prog 97 spIndexByte :=
  indexByte_ext Tryd.func97 (by kernel_rfl) (by kernel_rfl) (by kernel_rfl) (by kernel_rfl)
def T_internal_stringslite_IndexByte : Hints := ⟨lk [], lk [], lk [(0, [0, 1]), (1, [4])], lk []⟩
noncomputable def Phi_internal_stringslite_IndexByte : Tab := lk [(97, spIndexByte)]
attribute [go_sem] T_internal_stringslite_IndexByte Phi_internal_stringslite_IndexByte
theorem phi_internal_stringslite_IndexByte : ∀ f sp, Phi_internal_stringslite_IndexByte f = some sp → FnOk Tryd.prog f sp ∧ ∀ n ∈ sp.need, n ∈ ([] : List String) := phi_cons ok_internal_bytealg_IndexByteString (n0 rfl) (phi_nil)
theorem ok_internal_stringslite_IndexByte : FnOk Tryd.prog 90 spIndexByte := by
  refine fn_ok (Φ := Phi_internal_stringslite_IndexByte) (T := T_internal_stringslite_IndexByte) phi_internal_stringslite_IndexByte mixed Tryd.func90 rfl rfl rfl (by decide) ?_
  intro ins r outs hr hl
  clear hl
  have hs := spIndexByte_in hr
  clear hr
  obtain ⟨s, c, rfl, hr, rfl⟩ := hs
  simp only [spIndexByte, Tryd.f90, Go.VM.initS]
  simp only [go_sem]
  simp only [fin_mk, finV, resL, resV1, resIn, endA, listIn, Option.some_or, Option.none_or, oneOrTup, go_sem]
  rw [← hr]
def T_strings_IndexByte : Hints := ⟨lk [], lk [], lk [(0, [0, 1]), (1, [4])], lk []⟩
noncomputable def Phi_strings_IndexByte : Tab := lk [(90, spIndexByte)]
attribute [go_sem] T_strings_IndexByte Phi_strings_IndexByte
theorem phi_strings_IndexByte : ∀ f sp, Phi_strings_IndexByte f = some sp → FnOk Tryd.prog f sp ∧ ∀ n ∈ sp.need, n ∈ ([] : List String) := phi_cons ok_internal_stringslite_IndexByte (n0 rfl) (phi_nil)
theorem ok_strings_IndexByte : FnOk Tryd.prog 78 spIndexByte := by
  refine fn_ok (Φ := Phi_strings_IndexByte) (T := T_strings_IndexByte) phi_strings_IndexByte mixed Tryd.func78 rfl rfl rfl (by decide) ?_
  intro ins r outs hr hl
  clear hl
  have hs := spIndexByte_in hr
  clear hr
  obtain ⟨s, c, rfl, hr, rfl⟩ := hs
  simp only [spIndexByte, Tryd.f78, Go.VM.initS]
  simp only [go_sem]
  simp only [fin_mk, finV, resL, resV1, resIn, endA, listIn, Option.some_or, Option.none_or, oneOrTup, go_sem]
  rw [← hr]
def mailOk (s : List UInt8) : Bool := within s.length 1 200 && !s.contains 0
open Classical in
noncomputable def spMailOk : VM.Spec := { modes := [.rd], run := fun | [.str s] => if s.length ≤ 4194304 then some (.bool (mailOk s), []) else none | _ => none, need := [] }
attribute [go_sem] spMailOk
theorem spMailOk_in {ins : List V} {r : V} {outs : List V} (h : spMailOk.run ins = some (r, outs)) : ∃ (s : (List UInt8)), ins = [.str s] ∧ (s.length ≤ 4194304) ∧ .bool (mailOk s) = r ∧ outs = [] := by
  unfold spMailOk at h
  simp only at h
  split at h
  · rename_i s
    split at h
    case isFalse => cases h
    rename_i hc
    simp only [Option.some.injEq, Prod.mk.injEq] at h
    obtain ⟨h1, h2⟩ := h
    exact ⟨s, rfl, hc, h1, h2.symm⟩
  · cases h
def T_impl_MailOk : Hints := ⟨lk [], lk [], lk [(0, [0]), (1, [2])], lk []⟩
noncomputable def Phi_impl_MailOk : Tab := lk [(56, spWithin), (78, spIndexByte)]
attribute [go_sem] T_impl_MailOk Phi_impl_MailOk
theorem phi_impl_MailOk : ∀ f sp, Phi_impl_MailOk f = some sp → FnOk Tryd.prog f sp ∧ ∀ n ∈ sp.need, n ∈ ([] : List String) := phi_cons ok_impl_within (n0 rfl) (phi_cons ok_strings_IndexByte (n0 rfl) (phi_nil))
theorem ok_impl_MailOk : FnOk Tryd.prog 65 spMailOk := by
  refine fn_ok (Φ := Phi_impl_MailOk) (T := T_impl_MailOk) phi_impl_MailOk mixed Tryd.func65 rfl rfl rfl (by decide) ?_
  intro ins r outs hr hl
  clear hl
  have hs := spMailOk_in hr
  clear hr
  obtain ⟨s, rfl, hc, hr, rfl⟩ := hs
  simp only [spMailOk, Tryd.f65, Go.VM.initS]
  have e : decide (Lib.indexByte s (Nat.toUInt8 0) < 0) = !s.contains 0 := by
    by_cases hm : (0 : UInt8) ∈ s
    · have : ¬ Lib.indexByte s 0 < 0 := fun h => (indexByte_neg s 0).1 h hm
      simp [this, hm]
    · have := (indexByte_neg s 0).2 hm
      simp [this, hm]
  simp only [e, go_sem]
  repeat' ((first | apply qa | apply qb | apply qc | apply qd | apply qe | apply qf | apply qg | apply qh | apply qi | apply qj | apply qk) <;> intro hp <;> simp only [hp, e, go_sem])
  all_goals (simp only [fin_mk, finV, resL, resV1, resIn, endA, listIn, Option.some_or, Option.none_or, oneOrTup, go_sem]; rw [← hr])
  all_goals simp only [mailOk, hp, Bool.true_and, Bool.false_and]
def T_spec_MailOk : Hints := ⟨lk [], lk [(2, [0, 3])], lk [(0, [0]), (1, [0, 3]), (2, [0, 3, 7]), (4, [0, 3, 13]), (5, [2]), (3, [0, 3]), (6, [2])], lk []⟩
noncomputable def Phi_spec_MailOk : Tab := lk [(37, spWithin)]
attribute [go_sem] T_spec_MailOk Phi_spec_MailOk
theorem phi_spec_MailOk : ∀ f sp, Phi_spec_MailOk f = some sp → FnOk Tryd.prog f sp ∧ ∀ n ∈ sp.need, n ∈ ([] : List String) := phi_cons ok_spec_l01In (n0 rfl) (phi_nil)
theorem ok_spec_MailOk : FnOk Tryd.prog 39 spMailOk := by
  refine fn_ok (Φ := Phi_spec_MailOk) (T := T_spec_MailOk) phi_spec_MailOk mixed Tryd.func39 rfl rfl rfl (by decide) ?_
  intro ins r outs hr hl
  clear hl
  have hs := spMailOk_in hr
  clear hr
  obtain ⟨s, rfl, hc, hr, rfl⟩ := hs
  simp only [spMailOk, Tryd.f39, Go.VM.initS]
  simp only [go_sem]
  refine loop_go (fun i : Nat => [(3, .int .i64 (i : Int))]) (fun _ => []) (fun i => s.length - i) (fun i => i ≤ s.length ∧ (s.take i).contains 0 = false) 0 ⟨Nat.zero_le _, by simp⟩ rfl rfl ?_
  intro i ⟨hi, ha⟩ ih
  rcases Nat.lt_or_ge i s.length with h | h
  · have g1 : (i : Int) < s.length := by omega
    have g2 : (0 : Int) ≤ i := by omega
    have g3 : s[i]? = some s[i] := List.getElem?_eq_getElem h
    have g5 := wrap_succ h (by omega)
    by_cases hz : s[i] = 0
    · have e : ((s[i].toNat : Int) == 0) = true := by rw [hz]; rfl
      simp only [g1, g2, g3, g5, e, go_sem]
      repeat' ((first | apply qa | apply qb | apply qc | apply qd | apply qe | apply qf | apply qg | apply qh | apply qi | apply qj | apply qk) <;> intro hp <;> simp only [hp, g1, g2, g3, g5, e, go_sem])
      simp only [fin_mk, finV, resL, resV1, resIn, endA, listIn, Option.some_or, Option.none_or, oneOrTup, go_sem]
      rw [← hr]
      have : s.contains 0 = true := by rw [List.contains_iff_mem]; exact hz ▸ List.getElem_mem h
      rw [mailOk, this, Bool.not_true, Bool.and_false]
    · have e : ((s[i].toNat : Int) == 0) = false := by
        rw [beq_eq_false_iff_ne]
        intro hh
        exact hz (UInt8.toNat_inj.1 (by simpa using hh))
      simp only [g1, g2, g3, g5, e, go_sem]
      repeat' ((first | apply qa | apply qb | apply qc | apply qd | apply qe | apply qf | apply qg | apply qh | apply qi | apply qj | apply qk) <;> intro hp <;> simp only [hp, g1, g2, g3, g5, e, go_sem])
      refine ih (i + 1) ⟨h, ?_⟩ (by omega)
      rw [take_succ' h]
      simp only [List.contains_eq_mem, List.mem_append, List.mem_singleton, decide_eq_false_iff_not, not_or] at ha ⊢
      exact ⟨ha, fun hh => hz hh.symm⟩
  · have g1 : ¬ (i : Int) < s.length := by omega
    simp only [g1, go_sem]
    simp only [fin_mk, finV, resL, resV1, resIn, endA, listIn, Option.some_or, Option.none_or, oneOrTup, go_sem]
    rw [← hr]
    rw [List.take_of_length_le h] at ha
    rw [mailOk, ha, Bool.not_false, Bool.and_true]
def rangeAt (x : List Range) (i : Nat) : Bool := within (x.getD i default).Lo 1 9999 && within (x.getD i default).Hi (x.getD i default).Lo 9999 && (i == 0 || decide ((x.getD (i - 1) default).Hi + 1 < (x.getD i default).Lo))
def setOk (x : List Range) : Bool := allN x.length (rangeAt x) && decide (x.length ≤ 40)
open Classical in
noncomputable def spSetOk : VM.Spec := { modes := [.rd], run := fun | [.lst 2 x'] => (decL Range.dec x').bind fun x => if x.length ≤ 4194304 then some (.bool (setOk x), []) else none | _ => none, need := [] }
attribute [go_sem] spSetOk
end Go.Proofs.YtghmjnggmacohaaDoor.L

namespace Go.Proofs.YtghmjnggmacohaaDoor.L
open Go Go.VM
set_option maxRecDepth 100000
set_option maxHeartbeats 4000000
set_option linter.unusedSimpArgs false
set_option linter.unusedVariables false
def hasR (s : List Range) (n : Int) : Bool := s.any fun r => decide (r.Lo ≤ n) && decide (n ≤ r.Hi)
def push (out : List Range) (n : Int) : List Range :=
  match out.getLast? with
  | some r => if r.Hi = n - 1 then out.dropLast ++ [⟨r.Lo, n⟩] else out ++ [⟨n, n⟩]
  | none => [⟨n, n⟩]
def scan (l : List Int) : List Range := l.foldl push []
theorem push_nil (n : Int) : push [] n = [⟨n, n⟩] := rfl
theorem push_snoc (a : List Range) (r : Range) (n : Int) : push (a ++ [r]) n = if r.Hi = n - 1 then a ++ [⟨r.Lo, n⟩] else a ++ [r] ++ [⟨n, n⟩] := by
  simp [push]
theorem snoc_cases {α : Type} (l : List α) : l = [] ∨ ∃ a x, l = a ++ [x] := by
  rcases List.eq_nil_or_concat l with h | ⟨a, x, h⟩
  · exact .inl h
  · exact .inr ⟨a, x, by simpa using h⟩
def Canon (out : List Range) (m : Int) : Prop := (∀ r ∈ out, 1 ≤ r.Lo ∧ r.Lo ≤ r.Hi ∧ r.Hi ≤ m) ∧ out.Pairwise fun r t => r.Hi + 1 < t.Lo
theorem Canon.mono {out : List Range} {m k : Int} (h : Canon out m) (hk : m ≤ k) : Canon out k := ⟨fun r hr => by have := h.1 r hr; omega, h.2⟩
theorem Canon.push {out : List Range} {m n : Int} (h : Canon out m) (hm : m < n) (h1 : 1 ≤ n) : Canon (push out n) n := by
  rcases snoc_cases out with rfl | ⟨a, r, rfl⟩
  · rw [push_nil]
    exact ⟨fun r hr => by simp at hr; subst hr; exact ⟨h1, Int.le_refl _, Int.le_refl _⟩, by simp⟩
  · obtain ⟨ha, hp⟩ := h
    rw [List.pairwise_append] at hp
    have hr := ha r (by simp)
    rw [push_snoc]
    split
    · refine ⟨fun t ht => ?_, ?_⟩
      · rcases List.mem_append.1 ht with ht | ht
        · have := ha t (by simp [ht]); omega
        · simp only [List.mem_singleton] at ht; subst ht
          exact ⟨hr.1, by simp only; omega, Int.le_refl _⟩
      · rw [List.pairwise_append]
        refine ⟨hp.1, by simp, fun t ht u hu => ?_⟩
        simp only [List.mem_singleton] at hu; subst hu
        exact hp.2.2 t ht r (by simp)
    · rename_i hne
      refine ⟨fun t ht => ?_, ?_⟩
      · rcases List.mem_append.1 ht with ht | ht
        · have := ha t ht; omega
        · simp only [List.mem_singleton] at ht; subst ht
          exact ⟨h1, Int.le_refl _, Int.le_refl _⟩
      · rw [List.pairwise_append]
        refine ⟨List.pairwise_append.2 hp, by simp, fun t ht u hu => ?_⟩
        simp only [List.mem_singleton] at hu; subst hu
        simp only
        rcases List.mem_append.1 ht with ht | ht
        · have h2 := hp.2.2 t ht r (by simp)
          omega
        · simp only [List.mem_singleton] at ht; subst ht; omega
def Asc (l : List Int) (m : Int) : Prop := l.Pairwise (· < ·) ∧ ∀ x ∈ l, 1 ≤ x ∧ x ≤ m
def nums (n : Nat) : List Int := (List.range n).map fun i => ((i + 1 : Nat) : Int)
theorem Asc.filter {l : List Int} {m : Int} (h : Asc l m) (p : Int → Bool) : Asc (l.filter p) m := ⟨h.1.filter p, fun x hx => h.2 x (List.mem_filter.1 hx).1⟩
def setOf (S : List Int) : List Range := scan ((nums 9999).filter fun n => decide (n ∈ S))
/-! ### marks -/
def bitsOf (p : Nat → Bool) : List Bool := (List.range 10001).map p
def memN (s : List Range) (n : Nat) : Bool := hasR s n
open Classical in
noncomputable def spBits : VM.Spec := { modes := [.rd], run := fun | [.lst 2 s'] => (decL Range.dec s').bind fun s => if setOk s = true ∧ s.length ≤ 4194304 then some (.lst 1 ((bitsOf (memN s)).map eBool), []) else none | _ => none, need := [] }
attribute [go_sem] spBits
def markB (l : List Bool) (n : Int) : Bool := l.getD n.toNat false
def scanB (l : List Bool) : List Range := scan ((nums 9999).filter (markB l))
open Classical in
noncomputable def spScanBits : VM.Spec := { modes := [.rd], run := fun | [.lst 1 l'] => (decL dBool l').bind fun l => if l.length = 10001 ∧ l.getD 0 false = false then some (.tup [.lst 2 (((if setOk (scanB l) = true then scanB l else [])).map Range.enc), .bool (setOk (scanB l))], []) else none | _ => none, need := [] }
attribute [go_sem] spScanBits
def addR (s : List Range) (lo hi : Int) : List Range := scan ((nums 9999).filter fun n => hasR s n || (decide (lo ≤ n) && decide (n ≤ hi)))
def setAddIn (s : List Range) (lo hi : Int) : Bool := setOk s && (within lo 1 hi && decide (hi ≤ 9999))
def setAddOk (s : List Range) (lo hi : Int) : Bool := setAddIn s lo hi && setOk (addR s lo hi)
def setAdd (s : List Range) (lo hi : Int) : List Range := if setAddOk s lo hi = true then addR s lo hi else s
open Classical in
noncomputable def spPut : VM.Spec := { modes := [.rd, .rd, .rd, .rd], run := fun | [.lst 2 s', .int .i64 lo, .int .i64 hi, .bool to] => (decL Range.dec s').bind fun s => if to = true ∧ s.length ≤ 4194304 then some (.tup [.lst 2 ((setAdd s lo hi).map Range.enc), .bool (setAddOk s lo hi)], []) else none | _ => none, need := [] }
attribute [go_sem] spPut
open Classical in
noncomputable def spSetAdd : VM.Spec := { modes := [.rd, .rd, .rd], run := fun | [.lst 2 s', .int .i64 lo, .int .i64 hi] => (decL Range.dec s').bind fun s => if s.length ≤ 4194304 then some (.tup [.lst 2 ((setAdd s lo hi).map Range.enc), .bool (setAddOk s lo hi)], []) else none | _ => none, need := [] }
attribute [go_sem] spSetAdd
end Go.Proofs.YtghmjnggmacohaaDoor.L

namespace Go.Proofs.YtghmjnggmacohaaDoor.L
open Go Go.VM
set_option maxRecDepth 100000
set_option maxHeartbeats 4000000
set_option linter.unusedSimpArgs false
set_option linter.unusedVariables false
def andN (a b : Int) : Int := ((a.toNat &&& b.toNat : Nat) : Int)
open Classical in
noncomputable def spAnd : VM.Spec := { modes := [.rd, .rd], run := fun | [.int .i64 a, .int .i64 b] => if flagsOk a = true ∧ flagsOk b = true then some (.int .i64 (andN a b), []) else none | _ => none, need := [] }
attribute [go_sem] spAnd
open Classical in
noncomputable def spSetHas : VM.Spec := { modes := [.rd, .rd], run := fun | [.lst 2 s', .int .i64 n] => (decL Range.dec s').bind fun s => if s.length ≤ 8388608 then some (.bool (hasR s n), []) else none | _ => none, need := [] }
attribute [go_sem] spSetHas
theorem spSetHas_in {ins : List V} {r : V} {outs : List V} (h : spSetHas.run ins = some (r, outs)) : ∃ (s : (List Range)) (n : Int), ins = [.lst 2 ((s).map Range.enc), .int .i64 n] ∧ (s.length ≤ 8388608) ∧ .bool (hasR s n) = r ∧ outs = [] := by
  unfold spSetHas at h
  simp only at h
  split at h
  · rename_i s' n
    simp only [Option.bind_eq_some_iff] at h
    obtain ⟨s, h_s, h⟩ := h
    split at h
    case isFalse => cases h
    rename_i hc
    simp only [Option.some.injEq, Prod.mk.injEq] at h
    obtain ⟨h1, h2⟩ := h
    have h_s := decL_some (fun _ _ h => Range.dec_some h) h_s
    subst h_s
    exact ⟨s, n, rfl, hc, h1, h2.symm⟩
  · cases h
def T_impl_SetHas : Hints := ⟨lk [], lk [(2, [1, 7, 8, 9])], lk [(0, [0, 1]), (1, [1, 7, 8, 9]), (2, [1, 7, 8, 9, 10]), (3, [1, 6, 7, 8, 9]), (4, [1, 7, 8, 9, 18]), (5, [4]), (6, [1, 7, 8, 9]), (7, [4])], lk []⟩
noncomputable def Phi_impl_SetHas : Tab := lk [(56, spWithin)]
attribute [go_sem] T_impl_SetHas Phi_impl_SetHas
theorem phi_impl_SetHas : ∀ f sp, Phi_impl_SetHas f = some sp → FnOk Tryd.prog f sp ∧ ∀ n ∈ sp.need, n ∈ ([] : List String) := phi_cons ok_impl_within (n0 rfl) (phi_nil)
theorem ok_impl_SetHas : FnOk Tryd.prog 46 spSetHas := by
  refine fn_ok (Φ := Phi_impl_SetHas) (T := T_impl_SetHas) phi_impl_SetHas mixed Tryd.func46 rfl rfl rfl (by decide) ?_
  intro ins r outs hr hl
  clear hl
  have hs := spSetHas_in hr
  clear hr
  obtain ⟨s, n, rfl, hc, hr, rfl⟩ := hs
  simp only [spSetHas, Tryd.f46, Go.VM.initS]
  simp only [go_sem]
  repeat' ((first | apply qa | apply qb | apply qc | apply qd | apply qe | apply qf | apply qg | apply qh | apply qi | apply qj | apply qk) <;> intro hp <;> simp only [hp, go_sem])
  refine loop_go (fun i : Nat => [(9, .int .i64 (i : Int))]) (fun _ => []) (fun i => s.length - i) (fun i => i ≤ s.length ∧ (s.take i).any (fun r => decide (r.Lo ≤ n) && decide (n ≤ r.Hi)) = false) 0 ⟨Nat.zero_le _, by simp⟩ rfl rfl ?_
  intro i ⟨hi, ha⟩ ih
  rcases Nat.lt_or_ge i s.length with h | h
  · have g1 : (i : Int) < s.length := by omega
    have g2 : (0 : Int) ≤ i := by omega
    have g3 : s[i]? = some s[i] := List.getElem?_eq_getElem h
    have g5 := wrap_succ h (by omega)
    cases hb : within n s[i].Lo s[i].Hi with
    | true =>
      simp only [g1, g2, g3, g5, hb, go_sem]
      repeat' ((first | apply qa | apply qb | apply qc | apply qd | apply qe | apply qf | apply qg | apply qh | apply qi | apply qj | apply qk) <;> intro hp <;> simp only [hp, g1, g2, g3, g5, hb, go_sem])
      simp only [fin_mk, finV, resL, resV1, resIn, endA, listIn, Option.some_or, Option.none_or, oneOrTup, go_sem]
      rw [← hr]
      rw [hasR, any_bad h hb]
    | false =>
      have ih' := ih (i + 1) ⟨h, any_take_succ h ha hb⟩ (by omega)
      simp only [g1, g2, g3, g5, hb, go_sem]
      repeat' ((first | apply qa | apply qb | apply qc | apply qd | apply qe | apply qf | apply qg | apply qh | apply qi | apply qj | apply qk) <;> intro hp <;> simp only [hp, g1, g2, g3, g5, hb, go_sem])
      exact ih'
  · have g1 : ¬ (i : Int) < s.length := by omega
    simp only [g1, go_sem]
    repeat' ((first | apply qa | apply qb | apply qc | apply qd | apply qe | apply qf | apply qg | apply qh | apply qi | apply qj | apply qk) <;> intro hp <;> simp only [hp, g1, go_sem])
    simp only [fin_mk, finV, resL, resV1, resIn, endA, listIn, Option.some_or, Option.none_or, oneOrTup, go_sem]
    rw [← hr]
    rw [hasR, any_take_end h ha]
def T_spec_SetHas : Hints := ⟨lk [], lk [(2, [0, 1, 5])], lk [(0, [0, 1]), (1, [0, 1, 5]), (2, [0, 1, 5, 9]), (4, [0, 1, 5, 27]), (5, [4]), (3, [0, 1, 5]), (6, [4])], lk []⟩
noncomputable def Phi_spec_SetHas : Tab := lk []
attribute [go_sem] T_spec_SetHas Phi_spec_SetHas
theorem phi_spec_SetHas : ∀ f sp, Phi_spec_SetHas f = some sp → FnOk Tryd.prog f sp ∧ ∀ n ∈ sp.need, n ∈ ([] : List String) := phi_nil
theorem ok_spec_SetHas : FnOk Tryd.prog 20 spSetHas := by
  refine fn_ok (Φ := Phi_spec_SetHas) (T := T_spec_SetHas) phi_spec_SetHas mixed Tryd.func20 rfl rfl rfl (by decide) ?_
  intro ins r outs hr hl
  clear hl
  have hs := spSetHas_in hr
  clear hr
  obtain ⟨s, n, rfl, hc, hr, rfl⟩ := hs
  simp only [spSetHas, Tryd.f20, Go.VM.initS]
  simp only [go_sem]
  repeat' ((first | apply qa | apply qb | apply qc | apply qd | apply qe | apply qf | apply qg | apply qh | apply qi | apply qj | apply qk) <;> intro hp <;> simp only [hp, go_sem])
  refine loop_go (fun i : Nat => [(5, .int .i64 (i : Int))]) (fun _ => []) (fun i => s.length - i) (fun i => i ≤ s.length ∧ (s.take i).any (fun r => decide (r.Lo ≤ n) && decide (n ≤ r.Hi)) = false) 0 ⟨Nat.zero_le _, by simp⟩ rfl rfl ?_
  intro i ⟨hi, ha⟩ ih
  rcases Nat.lt_or_ge i s.length with h | h
  · have g1 : (i : Int) < s.length := by omega
    have g2 : (0 : Int) ≤ i := by omega
    have g3 : s[i]? = some s[i] := List.getElem?_eq_getElem h
    have g5 := wrap_succ h (by omega)
    by_cases c1 : s[i].Lo ≤ n
    · by_cases c2 : n ≤ s[i].Hi
      · simp only [g1, g2, g3, g5, c1, c2, go_sem]
        repeat' ((first | apply qa | apply qb | apply qc | apply qd | apply qe | apply qf | apply qg | apply qh | apply qi | apply qj | apply qk) <;> intro hp <;> simp only [hp, g1, g2, g3, g5, c1, c2, go_sem])
        simp only [fin_mk, finV, resL, resV1, resIn, endA, listIn, Option.some_or, Option.none_or, oneOrTup, go_sem]
        rw [← hr]
        rw [hasR, any_bad h (by simp [c1, c2])]
      · have ih' := ih (i + 1) ⟨h, any_take_succ h ha (by simp [c1]; omega)⟩ (by omega)
        simp only [g1, g2, g3, g5, c1, c2, go_sem]
        repeat' ((first | apply qa | apply qb | apply qc | apply qd | apply qe | apply qf | apply qg | apply qh | apply qi | apply qj | apply qk) <;> intro hp <;> simp only [hp, g1, g2, g3, g5, c1, c2, go_sem])
        exact ih'
    · have ih' := ih (i + 1) ⟨h, any_take_succ h ha (by simp; omega)⟩ (by omega)
      simp only [g1, g2, g3, g5, c1, go_sem]
      repeat' ((first | apply qa | apply qb | apply qc | apply qd | apply qe | apply qf | apply qg | apply qh | apply qi | apply qj | apply qk) <;> intro hp <;> simp only [hp, g1, g2, g3, g5, c1, go_sem])
      exact ih'
  · have g1 : ¬ (i : Int) < s.length := by omega
    simp only [g1, go_sem]
    repeat' ((first | apply qa | apply qb | apply qc | apply qd | apply qe | apply qf | apply qg | apply qh | apply qi | apply qj | apply qk) <;> intro hp <;> simp only [hp, g1, go_sem])
    simp only [fin_mk, finV, resL, resV1, resIn, endA, listIn, Option.some_or, Option.none_or, oneOrTup, go_sem]
    rw [← hr]
    rw [hasR, any_take_end h ha]
end Go.Proofs.YtghmjnggmacohaaDoor.L

namespace Go.Proofs.YtghmjnggmacohaaDoor.L
open Go Go.VM
set_option maxRecDepth 100000
set_option maxHeartbeats 4000000
set_option linter.unusedSimpArgs false
set_option linter.unusedVariables false
def isB (c : Int) (b : UInt8) : Bool := (b.toNat : Int) == c
def trimL (c : Int) (s : List UInt8) : List UInt8 := s.dropWhile (isB c)
def trimR (c : Int) (s : List UInt8) : List UInt8 := (s.reverse.dropWhile (isB c)).reverse
def trim (s : List UInt8) : List UInt8 := trimL 32 (trimR 32 s)
theorem trimL_hit {c : Int} {b : UInt8} {s : List UInt8} (h : isB c b = true) : trimL c (b :: s) = trimL c s := by simp [trimL, List.dropWhile_cons, h]
theorem trimL_miss {c : Int} {b : UInt8} {s : List UInt8} (h : isB c b = false) : trimL c (b :: s) = b :: s := by simp [trimL, List.dropWhile_cons, h]
theorem trimR_hit {c : Int} {b : UInt8} {s : List UInt8} (h : isB c b = true) : trimR c (s ++ [b]) = trimR c s := by simp [trimR, List.dropWhile_cons, h]
theorem trimR_miss {c : Int} {b : UInt8} {s : List UInt8} (h : isB c b = false) : trimR c (s ++ [b]) = s ++ [b] := by simp [trimR, List.dropWhile_cons, h]
theorem trimL_len (c : Int) (s : List UInt8) : (trimL c s).length ≤ s.length := by
  induction s with
  | nil => simp [trimL]
  | cons b s ih =>
    cases h : isB c b with
    | true => rw [trimL_hit h]; simp; omega
    | false => rw [trimL_miss h]; simp
theorem trimR_len (c : Int) (s : List UInt8) : (trimR c s).length ≤ s.length := by
  have := trimL_len c s.reverse
  simp only [trimL, List.length_reverse] at this
  simpa [trimR] using this
theorem trim_len (s : List UInt8) : (trim s).length ≤ s.length := Nat.le_trans (trimL_len _ _) (trimR_len _ _)
theorem no0 : ¬ (0 : Int) < ((0 : Nat) : Int) := by decide
theorem snoc_of {u : List UInt8} {n : Nat} (h : u.length = n + 1) : u = u.take n ++ [u[n]] := by
  have := take_succ' (x := u) (i := n) (by omega)
  rw [← this, List.take_of_length_le (by omega)]
open Classical in
noncomputable def spTrimL : VM.Spec := { modes := [.rd, .rd], run := fun | [.str s, .int .u8 c] => if s.length ≤ 1099511627776 then some (.str (trimL c s), []) else none | _ => none, need := [] }
attribute [go_sem] spTrimL
theorem spTrimL_in {ins : List V} {r : V} {outs : List V} (h : spTrimL.run ins = some (r, outs)) : ∃ (s : (List UInt8)) (c : Int), ins = [.str s, .int .u8 c] ∧ (s.length ≤ 1099511627776) ∧ .str (trimL c s) = r ∧ outs = [] := by
  unfold spTrimL at h
  simp only at h
  split at h
  · rename_i s c
    split at h
    case isFalse => cases h
    rename_i hc
    simp only [Option.some.injEq, Prod.mk.injEq] at h
    obtain ⟨h1, h2⟩ := h
    exact ⟨s, c, rfl, hc, h1, h2.symm⟩
  · cases h
def T_strings_trimLeftByte : Hints := ⟨lk [], lk [(1, [0, 1])], lk [(0, [0, 1]), (1, [0, 1, 13]), (2, [0, 1]), (3, [4])], lk []⟩
noncomputable def Phi_strings_trimLeftByte : Tab := lk []
attribute [go_sem] T_strings_trimLeftByte Phi_strings_trimLeftByte
theorem phi_strings_trimLeftByte : ∀ f sp, Phi_strings_trimLeftByte f = some sp → FnOk Tryd.prog f sp ∧ ∀ n ∈ sp.need, n ∈ ([] : List String) := phi_nil
theorem ok_strings_trimLeftByte : FnOk Tryd.prog 71 spTrimL := by
  refine fn_ok (Φ := Phi_strings_trimLeftByte) (T := T_strings_trimLeftByte) phi_strings_trimLeftByte mixed Tryd.func71 rfl rfl rfl (by decide) ?_
  intro ins r outs hr hl
  clear hl
  have hs := spTrimL_in hr
  clear hr
  obtain ⟨s, c, rfl, hc, hr, rfl⟩ := hs
  simp only [spTrimL, Tryd.f71, Go.VM.initS]
  simp only [go_sem]
  refine loop_go (fun u : List UInt8 => [(0, .str u)]) (fun _ => []) (fun u => u.length) (fun u => u.length ≤ s.length ∧ trimL c u = trimL c s) s ⟨Nat.le_refl _, rfl⟩ rfl rfl ?_
  rintro u ⟨hu, he⟩ ih
  cases u with
  | nil =>
    simp only [no0, go_sem]
    simp only [fin_mk, finV, resL, resV1, resIn, endA, listIn, Option.some_or, Option.none_or, oneOrTup, go_sem]
    rw [← hr]
    rw [← he]; rfl
  | cons b u =>
    have g1 : (0 : Int) < ((u.length + 1 : Nat) : Int) := by omega
    have g2 : 1 ≤ u.length + 1 := by omega
    simp only [List.length_cons] at hu
    cases hb : isB c b with
    | true =>
      have hb' : ((b.toNat : Int) == c) = true := hb
      have ih' := ih u ⟨by omega, by rw [← he, trimL_hit hb]⟩ (by simp)
      simp only [g1, g2, hb', List.take_succ_cons, List.take_length, List.drop_succ_cons, Nat.le_refl, Int.reduceToNat, go_sem]
      repeat' ((first | apply qa | apply qb | apply qc | apply qd | apply qe | apply qf | apply qg | apply qh | apply qi | apply qj | apply qk) <;> intro hp <;> simp only [hp, g1, g2, hb', List.take_succ_cons, List.take_length, List.drop_succ_cons, Nat.le_refl, Int.reduceToNat, go_sem])
      exact ih'
    | false =>
      have hb' : ((b.toNat : Int) == c) = false := hb
      simp only [g1, hb', go_sem]
      repeat' ((first | apply qa | apply qb | apply qc | apply qd | apply qe | apply qf | apply qg | apply qh | apply qi | apply qj | apply qk) <;> intro hp <;> simp only [hp, g1, hb', go_sem])
      simp only [fin_mk, finV, resL, resV1, resIn, endA, listIn, Option.some_or, Option.none_or, oneOrTup, go_sem]
      rw [← hr]
      rw [← he, trimL_miss hb]
open Classical in
noncomputable def spTrimR : VM.Spec := { modes := [.rd, .rd], run := fun | [.str s, .int .u8 c] => if s.length ≤ 1099511627776 then some (.str (trimR c s), []) else none | _ => none, need := [] }
attribute [go_sem] spTrimR
theorem spTrimR_in {ins : List V} {r : V} {outs : List V} (h : spTrimR.run ins = some (r, outs)) : ∃ (s : (List UInt8)) (c : Int), ins = [.str s, .int .u8 c] ∧ (s.length ≤ 1099511627776) ∧ .str (trimR c s) = r ∧ outs = [] := by
  unfold spTrimR at h
  simp only at h
  split at h
  · rename_i s c
    split at h
    case isFalse => cases h
    rename_i hc
    simp only [Option.some.injEq, Prod.mk.injEq] at h
    obtain ⟨h1, h2⟩ := h
    exact ⟨s, c, rfl, hc, h1, h2.symm⟩
  · cases h
def T_strings_trimRightByte : Hints := ⟨lk [], lk [(1, [0, 1])], lk [(0, [0, 1]), (1, [0, 1, 16]), (2, [0, 1]), (3, [4])], lk []⟩
noncomputable def Phi_strings_trimRightByte : Tab := lk []
attribute [go_sem] T_strings_trimRightByte Phi_strings_trimRightByte
theorem phi_strings_trimRightByte : ∀ f sp, Phi_strings_trimRightByte f = some sp → FnOk Tryd.prog f sp ∧ ∀ n ∈ sp.need, n ∈ ([] : List String) := phi_nil
theorem ok_strings_trimRightByte : FnOk Tryd.prog 72 spTrimR := by
  refine fn_ok (Φ := Phi_strings_trimRightByte) (T := T_strings_trimRightByte) phi_strings_trimRightByte mixed Tryd.func72 rfl rfl rfl (by decide) ?_
  intro ins r outs hr hl
  clear hl
  have hs := spTrimR_in hr
  clear hr
  obtain ⟨s, c, rfl, hc, hr, rfl⟩ := hs
  simp only [spTrimR, Tryd.f72, Go.VM.initS]
  simp only [go_sem]
  refine loop_go (fun u : List UInt8 => [(0, .str u)]) (fun _ => []) (fun u => u.length) (fun u => u.length ≤ s.length ∧ trimR c u = trimR c s) s ⟨Nat.le_refl _, rfl⟩ rfl rfl ?_
  rintro u ⟨hu, he⟩ ih
  cases hn : u.length with
  | zero =>
    simp only [hn, no0, go_sem]
    simp only [fin_mk, finV, resL, resV1, resIn, endA, listIn, Option.some_or, Option.none_or, oneOrTup, go_sem]
    rw [← hr]
    have : u = [] := List.eq_nil_of_length_eq_zero hn
    subst this
    rw [← he]; rfl
  | succ n =>
    have g1 : (0 : Int) < ((n + 1 : Nat) : Int) := by omega
    have g2 : n ≤ n + 1 := by omega
    have g3 : (0 : Int) ≤ n := by omega
    have g4 : IntKind.i64.wrap (((n + 1 : Nat) : Int) - 1) = n := (wrap64 (by omega) (by omega)).trans (by omega)
    have g5 : u[n]? = some (u[n]'(by omega)) := List.getElem?_eq_getElem (by omega)
    have es := snoc_of hn
    cases hb : isB c (u[n]'(by omega)) with
    | true =>
      have hb' : (((u[n]'(by omega)).toNat : Int) == c) = true := hb
      have ih' := ih (u.take n) ⟨by rw [List.length_take]; omega, by rw [← he]; conv => rhs; rw [es, trimR_hit hb]⟩ (by rw [List.length_take]; omega)
      simp only [g1, g2, g3, g4, g5, hn, hb', Int.toNat_natCast, List.drop_zero, Nat.zero_le, go_sem]
      repeat' ((first | apply qa | apply qb | apply qc | apply qd | apply qe | apply qf | apply qg | apply qh | apply qi | apply qj | apply qk) <;> intro hp <;> simp only [hp, g1, g2, g3, g4, g5, hn, hb', Int.toNat_natCast, List.drop_zero, Nat.zero_le, go_sem])
      exact ih'
    | false =>
      have hb' : (((u[n]'(by omega)).toNat : Int) == c) = false := hb
      simp only [g1, g3, g4, g5, hn, hb', go_sem]
      repeat' ((first | apply qa | apply qb | apply qc | apply qd | apply qe | apply qf | apply qg | apply qh | apply qi | apply qj | apply qk) <;> intro hp <;> simp only [hp, g1, g3, g4, g5, hn, hb', go_sem])
      simp only [fin_mk, finV, resL, resV1, resIn, endA, listIn, Option.some_or, Option.none_or, oneOrTup, go_sem]
      rw [← hr]
      rw [← he]; conv => rhs; rw [es, trimR_miss hb, ← es]
open Classical in
noncomputable def spTrim : VM.Spec := { modes := [.rd, .rd], run := fun | [.str s, .str t] => if t = [32] ∧ s.length ≤ 1099511627776 then some (.str (trim s), []) else none | _ => none, need := [] }
attribute [go_sem] spTrim
theorem spTrim_in {ins : List V} {r : V} {outs : List V} (h : spTrim.run ins = some (r, outs)) : ∃ (s : (List UInt8)) (t : (List UInt8)), ins = [.str s, .str t] ∧ (t = [32] ∧ s.length ≤ 1099511627776) ∧ .str (trim s) = r ∧ outs = [] := by
  unfold spTrim at h
  simp only at h
  split at h
  · rename_i s t
    split at h
    case isFalse => cases h
    rename_i hc
    simp only [Option.some.injEq, Prod.mk.injEq] at h
    obtain ⟨h1, h2⟩ := h
    exact ⟨s, t, rfl, hc, h1, h2.symm⟩
  · cases h
def T_strings_Trim : Hints := ⟨lk [(4, [])], lk [], lk [(0, [0, 1]), (1, [0, 1, 12]), (2, [4]), (3, [0, 1, 21]), (4, [4]), (5, [0, 1, 5, 6]), (6, [0, 1, 5, 34]), (7, [4]), (8, [4])], lk []⟩
noncomputable def Phi_strings_Trim : Tab := lk [(71, spTrimL), (72, spTrimR)]
attribute [go_sem] T_strings_Trim Phi_strings_Trim
theorem phi_strings_Trim : ∀ f sp, Phi_strings_Trim f = some sp → FnOk Tryd.prog f sp ∧ ∀ n ∈ sp.need, n ∈ ([] : List String) := phi_cons ok_strings_trimLeftByte (n0 rfl) (phi_cons ok_strings_trimRightByte (n0 rfl) (phi_nil))
theorem ok_strings_Trim : FnOk Tryd.prog 63 spTrim := by
  refine fn_ok (Φ := Phi_strings_Trim) (T := T_strings_Trim) phi_strings_Trim mixed Tryd.func63 rfl rfl rfl (by decide) ?_
  intro ins r outs hr hl
  clear hl
  have hs := spTrim_in hr
  clear hr
  obtain ⟨s, t, rfl, hc, hr, rfl⟩ := hs
  simp only [spTrim, Tryd.f63, Go.VM.initS]
  obtain ⟨rfl, hl⟩ := hc
  have hl' := Nat.le_trans (trimR_len 32 s) hl
  have c32 : ((UInt8.toNat 32 : Nat) : Int) = 32 := rfl
  have c1 : (((1 : Nat) : Int) == 1) = true := rfl
  have c2 : (([32] : List UInt8) == []) = false := rfl
  cases he : (s == []) with
  | true =>
    simp only [he, go_sem]
    repeat' ((first | ((first | apply qa | apply qb | apply qc | apply qd | apply qe | apply qf | apply qg | apply qh | apply qi | apply qj | apply qk) <;> intro hp) | ((first | refine ql rfl rfl (by decide +kernel) ?_ | refine qm _ rfl rfl (by decide +kernel) ?_) <;> have hp := True.intro)) <;> simp only [hp, he, go_sem])
    simp only [fin_mk, finV, resL, resV1, resIn, endA, listIn, Option.some_or, Option.none_or, oneOrTup, go_sem]
    rw [← hr]
    rw [show s = [] by simpa using he]
    rfl
  | false =>
    simp only [hl, hl', he, c32, c1, c2, go_sem]
    repeat' ((first | ((first | apply qa | apply qb | apply qc | apply qd | apply qe | apply qf | apply qg | apply qh | apply qi | apply qj | apply qk) <;> intro hp) | ((first | refine ql rfl rfl (by decide +kernel) ?_ | refine qm _ rfl rfl (by decide +kernel) ?_) <;> have hp := True.intro)) <;> simp only [hp, hl, hl', he, c32, c1, c2, go_sem])
    simp only [fin_mk, finV, resL, resV1, resIn, endA, listIn, Option.some_or, Option.none_or, oneOrTup, go_sem]
    rw [← hr]
    rfl
theorem dropWhile_append_nil {p : UInt8 → Bool} {a b : List UInt8} (h : a.dropWhile p = []) : (a ++ b).dropWhile p = b.dropWhile p := by
  induction a with
  | nil => rfl
  | cons x a ih =>
    rw [List.dropWhile_cons] at h
    cases hx : p x with
    | true => rw [hx] at h; rw [List.cons_append, List.dropWhile_cons, hx]; exact ih h
    | false => rw [hx] at h; simp at h
theorem dropWhile_append_ne {p : UInt8 → Bool} {a b : List UInt8} (h : a.dropWhile p ≠ []) : (a ++ b).dropWhile p = a.dropWhile p ++ b := by
  induction a with
  | nil => simp at h
  | cons x a ih =>
    rw [List.dropWhile_cons] at h
    cases hx : p x with
    | true => rw [hx] at h; rw [List.cons_append, List.dropWhile_cons, hx, List.dropWhile_cons, hx]; exact ih h
    | false => rw [List.cons_append, List.dropWhile_cons, hx, List.dropWhile_cons, hx]; rfl
theorem trim_comm (s : List UInt8) : trimR 32 (trimL 32 s) = trim s := by
  unfold trim
  induction s with
  | nil => rfl
  | cons b s ih =>
    cases hb : isB 32 b with
    | true =>
      rw [trimL_hit hb, ih]
      by_cases h : s.reverse.dropWhile (isB 32) = []
      · have e1 : trimR 32 s = [] := by simp [trimR, h]
        have e2 : trimR 32 (b :: s) = [] := by
          simp only [trimR, List.reverse_cons]
          rw [dropWhile_append_nil h]
          simp [List.dropWhile_cons, hb]
        rw [e1, e2]
      · have e2 : trimR 32 (b :: s) = b :: trimR 32 s := by
          simp only [trimR, List.reverse_cons]
          rw [dropWhile_append_ne h]
          simp
        rw [e2, trimL_hit hb]
    | false =>
      rw [trimL_miss hb]
      have e2 : ∃ t, trimR 32 (b :: s) = b :: t := by
        simp only [trimR, List.reverse_cons]
        by_cases h : s.reverse.dropWhile (isB 32) = []
        · rw [dropWhile_append_nil h]
          exact ⟨[], by simp [List.dropWhile_cons, hb]⟩
        · rw [dropWhile_append_ne h]
          exact ⟨(s.reverse.dropWhile (isB 32)).reverse, by simp⟩
      obtain ⟨t, e2⟩ := e2
      rw [e2, trimL_miss hb]
open Classical in
noncomputable def spTrim1 : VM.Spec := { modes := [.rd], run := fun | [.str s] => if s.length ≤ 1099511627776 then some (.str (trim s), []) else none | _ => none, need := [] }
attribute [go_sem] spTrim1
theorem spTrim1_in {ins : List V} {r : V} {outs : List V} (h : spTrim1.run ins = some (r, outs)) : ∃ (s : (List UInt8)), ins = [.str s] ∧ (s.length ≤ 1099511627776) ∧ .str (trim s) = r ∧ outs = [] := by
  unfold spTrim1 at h
  simp only at h
  split at h
  · rename_i s
    split at h
    case isFalse => cases h
    rename_i hc
    simp only [Option.some.injEq, Prod.mk.injEq] at h
    obtain ⟨h1, h2⟩ := h
    exact ⟨s, rfl, hc, h1, h2.symm⟩
  · cases h
def T_spec_l07Trim : Hints := ⟨lk [], lk [(1, [0]), (3, [0])], lk [(0, [0]), (1, [0, 10]), (2, [0]), (3, [0, 23]), (4, [0]), (5, [2])], lk []⟩
noncomputable def Phi_spec_l07Trim : Tab := lk []
attribute [go_sem] T_spec_l07Trim Phi_spec_l07Trim
theorem phi_spec_l07Trim : ∀ f sp, Phi_spec_l07Trim f = some sp → FnOk Tryd.prog f sp ∧ ∀ n ∈ sp.need, n ∈ ([] : List String) := phi_nil
theorem ok_spec_l07Trim : FnOk Tryd.prog 54 spTrim1 := by
  refine fn_ok (Φ := Phi_spec_l07Trim) (T := T_spec_l07Trim) phi_spec_l07Trim mixed Tryd.func54 rfl rfl rfl (by decide) ?_
  intro ins r outs hr hl
  clear hl
  have hs := spTrim1_in hr
  clear hr
  obtain ⟨s, rfl, hc, hr, rfl⟩ := hs
  simp only [spTrim1, Tryd.f54, Go.VM.initS]
  simp only [go_sem]
  refine loop_go (fun u : List UInt8 => [(0, .str u)]) (fun _ => []) (fun u => u.length) (fun u => u.length ≤ s.length ∧ trimL 32 u = trimL 32 s) s ⟨Nat.le_refl _, rfl⟩ rfl rfl ?_
  rintro u ⟨hu, he⟩ ih
  have c32 : ((UInt8.toNat 32 : Nat) : Int) = 32 := rfl
  cases u with
  | cons b u =>
    have g1 : (0 : Int) < ((u.length + 1 : Nat) : Int) := by omega
    have g2 : 1 ≤ u.length + 1 := by omega
    simp only [List.length_cons] at hu
    cases hb : isB 32 b with
    | true =>
      have hb' : ((b.toNat : Int) == 32) = true := hb
      have ih' := ih u ⟨by omega, by rw [← he, trimL_hit hb]⟩ (by simp)
      simp only [g1, g2, hb', List.take_succ_cons, List.take_length, List.drop_succ_cons, Nat.le_refl, Int.reduceToNat, go_sem]
      repeat' ((first | apply qa | apply qb | apply qc | apply qd | apply qe | apply qf | apply qg | apply qh | apply qi | apply qj | apply qk) <;> intro hp <;> simp only [hp, g1, g2, hb', List.take_succ_cons, List.take_length, List.drop_succ_cons, Nat.le_refl, Int.reduceToNat, go_sem])
      exact ih'
    | false =>
      have hb' : ((b.toNat : Int) == 32) = false := hb
      have hs1 : trimL 32 s = b :: u := by rw [← he, trimL_miss hb]
      have hs2 : trim s = trimR 32 (b :: u) := by rw [← trim_comm, hs1]
      simp only [g1, hb', go_sem]
      repeat' ((first | apply qa | apply qb | apply qc | apply qd | apply qe | apply qf | apply qg | apply qh | apply qi | apply qj | apply qk) <;> intro hp <;> simp only [hp, g1, hb', go_sem])
      refine loop_go (fun v : List UInt8 => [(0, .str v)]) (fun _ => []) (fun v => v.length) (fun v => v.length ≤ s.length ∧ trimR 32 v = trimR 32 (b :: u)) (b :: u) ⟨by simpa using hu, rfl⟩ rfl rfl ?_
      clear ih
      rintro v ⟨hv, hev⟩ ih
      cases hn : v.length with
      | zero =>
        simp only [hn, no0, go_sem]
        simp only [fin_mk, finV, resL, resV1, resIn, endA, listIn, Option.some_or, Option.none_or, oneOrTup, go_sem]
        rw [← hr]
        have : v = [] := List.eq_nil_of_length_eq_zero hn
        subst this
        rw [hs2, ← hev]; rfl
      | succ n =>
        have g1 : (0 : Int) < ((n + 1 : Nat) : Int) := by omega
        have g2 : n ≤ n + 1 := by omega
        have g3 : (0 : Int) ≤ n := by omega
        have g4 : IntKind.i64.wrap (((n + 1 : Nat) : Int) - 1) = n := (wrap64 (by omega) (by omega)).trans (by omega)
        have g5 : v[n]? = some (v[n]'(by omega)) := List.getElem?_eq_getElem (by omega)
        have es := snoc_of hn
        cases hb : isB 32 (v[n]'(by omega)) with
        | true =>
          have hb' : (((v[n]'(by omega)).toNat : Int) == 32) = true := hb
          have ih' := ih (v.take n) ⟨by rw [List.length_take]; omega, by rw [← hev]; conv => rhs; rw [es, trimR_hit hb]⟩ (by rw [List.length_take]; omega)
          simp only [g1, g2, g3, g4, g5, hn, hb', Int.toNat_natCast, List.drop_zero, Nat.zero_le, go_sem]
          repeat' ((first | apply qa | apply qb | apply qc | apply qd | apply qe | apply qf | apply qg | apply qh | apply qi | apply qj | apply qk) <;> intro hp <;> simp only [hp, g1, g2, g3, g4, g5, hn, hb', Int.toNat_natCast, List.drop_zero, Nat.zero_le, go_sem])
          exact ih'
        | false =>
          have hb' : (((v[n]'(by omega)).toNat : Int) == 32) = false := hb
          simp only [g1, g3, g4, g5, hn, hb', go_sem]
          repeat' ((first | apply qa | apply qb | apply qc | apply qd | apply qe | apply qf | apply qg | apply qh | apply qi | apply qj | apply qk) <;> intro hp <;> simp only [hp, g1, g3, g4, g5, hn, hb', go_sem])
          simp only [fin_mk, finV, resL, resV1, resIn, endA, listIn, Option.some_or, Option.none_or, oneOrTup, go_sem]
          rw [← hr]
          rw [hs2, ← hev]; conv => rhs; rw [es, trimR_miss hb, ← es]
  | nil =>
    have hs2 : trim s = [] := by rw [← trim_comm, ← he]; rfl
    simp only [no0, go_sem]
    repeat' ((first | apply qa | apply qb | apply qc | apply qd | apply qe | apply qf | apply qg | apply qh | apply qi | apply qj | apply qk) <;> intro hp <;> simp only [hp, no0, go_sem])
    refine loop_go (fun _ : Unit => []) (fun _ => []) (fun _ => 0) (fun _ => True) () trivial rfl rfl ?_
    intro _ _ _
    simp only [no0, go_sem]
    repeat' ((first | apply qa | apply qb | apply qc | apply qd | apply qe | apply qf | apply qg | apply qh | apply qi | apply qj | apply qk) <;> intro hp <;> simp only [hp, no0, go_sem])
    simp only [fin_mk, finV, resL, resV1, resIn, endA, listIn, Option.some_or, Option.none_or, oneOrTup, go_sem]
    rw [← hr]
    rw [hs2]
def low1 (b : UInt8) : UInt8 := if 65 ≤ b.toNat ∧ b.toNat ≤ 90 then b + 32 else b
def lowS (s : List UInt8) : List UInt8 := s.map low1
theorem lowS_len (s : List UInt8) : (lowS s).length = s.length := by simp [lowS]
def lowTo (s : List UInt8) (i : Nat) : List UInt8 := (s.take i).map low1 ++ s.drop i
theorem lowTo_len (s : List UInt8) (i : Nat) : (lowTo s i).length = s.length := by simp [lowTo]; omega
theorem lowTo_get {s : List UInt8} {i : Nat} (h : i < s.length) : (lowTo s i)[i]? = some s[i] := by
  have h1 : ((s.take i).map low1).length = i := by simp; omega
  rw [lowTo, List.getElem?_append_right (by omega), h1, Nat.sub_self, List.getElem?_drop, Nat.add_zero]
  exact List.getElem?_eq_getElem h
theorem lowTo_succ {s : List UInt8} {i : Nat} (h : i < s.length) : (lowTo s i).set i (low1 s[i]) = lowTo s (i + 1) := by
  have h1 : ((s.take i).map low1).length = i := by simp; omega
  rw [lowTo, lowTo, List.set_append_right _ _ (by omega), h1, Nat.sub_self, List.drop_eq_getElem_cons h, List.set_cons_zero, take_succ' h, List.map_append, List.append_assoc]
  rfl
theorem lowTo_skip {s : List UInt8} {i : Nat} (h : i < s.length) (hn : low1 s[i] = s[i]) : lowTo s (i + 1) = lowTo s i := by
  rw [← lowTo_succ h, hn]
  apply List.ext_getElem?
  intro j
  rw [List.getElem?_set]
  split
  · rename_i e
    subst e
    rw [if_pos (by rw [lowTo_len]; exact h), lowTo_get h]
  · rfl
theorem lowTo_end {s : List UInt8} {i : Nat} (h : s.length ≤ i) : lowTo s i = lowS s := by simp [lowTo, lowS, List.take_of_length_le h, List.drop_of_length_le h]
theorem low1_up {b : UInt8} (h : within b.toNat 65 90 = true) : IntKind.u8.wrap ((b.toNat : Int) + 32) = (low1 b).toNat := by
  have hb : 65 ≤ b.toNat ∧ b.toNat ≤ 90 := by
    simp only [within, Bool.and_eq_true, decide_eq_true_eq] at h; omega
  have : (low1 b).toNat = b.toNat + 32 := by
    rw [low1, if_pos hb, UInt8.toNat_add]
    have e : UInt8.toNat 32 = 32 := rfl
    rw [e]; omega
  rw [this]
  simp only [IntKind.wrap, IntKind.signed, IntKind.bits]
  simp; omega
theorem low1_no {b : UInt8} (h : within b.toNat 65 90 = false) : low1 b = b := by
  have hb : ¬ (65 ≤ b.toNat ∧ b.toNat ≤ 90) := by
    intro hb
    simp only [within, Bool.and_eq_false_iff, decide_eq_false_iff_not] at h; omega
  rw [low1, if_neg hb]
open Classical in
noncomputable def spLow : VM.Spec := { modes := [.rd], run := fun | [.str s] => if s.length ≤ 1099511627776 then some (.str (lowS s), []) else none | _ => none, need := [] }
attribute [go_sem] spLow
theorem spLow_in {ins : List V} {r : V} {outs : List V} (h : spLow.run ins = some (r, outs)) : ∃ (s : (List UInt8)), ins = [.str s] ∧ (s.length ≤ 1099511627776) ∧ .str (lowS s) = r ∧ outs = [] := by
  unfold spLow at h
  simp only at h
  split at h
  · rename_i s
    split at h
    case isFalse => cases h
    rename_i hc
    simp only [Option.some.injEq, Prod.mk.injEq] at h
    obtain ⟨h1, h2⟩ := h
    exact ⟨s, rfl, hc, h1, h2.symm⟩
  · cases h
def T_impl_lower : Hints := ⟨lk [], lk [(3, [3, 8, 9, 10])], lk [(0, [0]), (1, [3]), (2, [3, 8, 9, 10]), (3, [3, 8, 9, 10, 11]), (4, [3, 4, 5, 8, 9, 10]), (5, [3, 4, 5, 8, 9, 10, 17]), (6, [3, 8, 9, 10]), (7, [3, 8, 9, 10]), (8, [2])], lk []⟩
noncomputable def Phi_impl_lower : Tab := lk [(56, spWithin)]
attribute [go_sem] T_impl_lower Phi_impl_lower
theorem phi_impl_lower : ∀ f sp, Phi_impl_lower f = some sp → FnOk Tryd.prog f sp ∧ ∀ n ∈ sp.need, n ∈ ([] : List String) := phi_cons ok_impl_within (n0 rfl) (phi_nil)
theorem ok_impl_lower : FnOk Tryd.prog 62 spLow := by
  refine fn_ok (Φ := Phi_impl_lower) (T := T_impl_lower) phi_impl_lower mixed Tryd.func62 rfl rfl rfl (by decide) ?_
  intro ins r outs hr hl
  clear hl
  have hs := spLow_in hr
  clear hr
  obtain ⟨s, rfl, hc, hr, rfl⟩ := hs
  simp only [spLow, Tryd.f62, Go.VM.initS]
  have hl : s.length ≤ 9223372036854775807 := by omega
  simp only [hl, go_sem]
  repeat' ((first | apply qa | apply qb | apply qc | apply qd | apply qe | apply qf | apply qg | apply qh | apply qi | apply qj | apply qk) <;> intro hp <;> simp only [hp, hl, go_sem])
  refine loop_go (fun i : Nat => [(10, .int .i64 (i : Int))]) (fun i => [(0, ⟨.arr, 1, bytesV (lowTo s i)⟩)]) (fun i => s.length - i) (fun i => i ≤ s.length) 0 (Nat.zero_le _) rfl rfl ?_
  intro i hi ih
  have hn := lowTo_len s i
  rcases Nat.lt_or_ge i s.length with h | h
  · have g1 : (i : Int) < s.length := by omega
    have g2 : (0 : Int) ≤ i := by omega
    have g3 := lowTo_get h
    have g5 := wrap_succ h (by omega)
    have ih' := ih (i + 1) h (by omega)
    cases hw : within (s[i].toNat : Int) 65 90 with
    | true =>
      have g6 := low1_up hw
      have e1 : (bytesV (lowTo s i)).set i (.int .u8 (IntKind.u8.wrap ((s[i].toNat : Int) + 32))) = bytesV (lowTo s (i + 1)) := by rw [g6, bytesV_set, lowTo_succ h]
      simp only [g1, g2, g3, g5, hn, byte_wrap, hw, e1, go_sem]
      repeat' ((first | apply qa | apply qb | apply qc | apply qd | apply qe | apply qf | apply qg | apply qh | apply qi | apply qj | apply qk) <;> intro hp <;> simp only [hp, g1, g2, g3, g5, hn, byte_wrap, hw, e1, go_sem])
      exact ih'
    | false =>
      rw [lowTo_skip h (low1_no hw)] at ih'
      simp only [g1, g2, g3, g5, hn, byte_wrap, hw, go_sem]
      repeat' ((first | apply qa | apply qb | apply qc | apply qd | apply qe | apply qf | apply qg | apply qh | apply qi | apply qj | apply qk) <;> intro hp <;> simp only [hp, g1, g2, g3, g5, hn, byte_wrap, hw, go_sem])
      exact ih'
  · have g1 : ¬ (i : Int) < s.length := by omega
    simp only [g1, hn, go_sem]
    repeat' ((first | apply qa | apply qb | apply qc | apply qd | apply qe | apply qf | apply qg | apply qh | apply qi | apply qj | apply qk) <;> intro hp <;> simp only [hp, g1, hn, go_sem])
    simp only [fin_mk, finV, resL, resV1, resIn, endA, listIn, Option.some_or, Option.none_or, oneOrTup, go_sem]
    rw [← hr]
    rw [lowTo_end h]
def T_spec_l06Low : Hints := ⟨lk [], lk [(3, [3, 4])], lk [(0, [0]), (1, [3]), (2, [3, 4]), (3, [3, 4, 10]), (5, [3, 4, 24]), (6, [3, 4]), (4, [3, 4]), (7, [2])], lk []⟩
noncomputable def Phi_spec_l06Low : Tab := lk []
attribute [go_sem] T_spec_l06Low Phi_spec_l06Low
theorem phi_spec_l06Low : ∀ f sp, Phi_spec_l06Low f = some sp → FnOk Tryd.prog f sp ∧ ∀ n ∈ sp.need, n ∈ ([] : List String) := phi_nil
theorem ok_spec_l06Low : FnOk Tryd.prog 53 spLow := by
  refine fn_ok (Φ := Phi_spec_l06Low) (T := T_spec_l06Low) phi_spec_l06Low mixed Tryd.func53 rfl rfl rfl (by decide) ?_
  intro ins r outs hr hl
  clear hl
  have hs := spLow_in hr
  clear hr
  obtain ⟨s, rfl, hc, hr, rfl⟩ := hs
  simp only [spLow, Tryd.f53, Go.VM.initS]
  have hl : s.length ≤ 9223372036854775807 := by omega
  simp only [hl, go_sem]
  repeat' ((first | apply qa | apply qb | apply qc | apply qd | apply qe | apply qf | apply qg | apply qh | apply qi | apply qj | apply qk) <;> intro hp <;> simp only [hp, hl, go_sem])
  refine loop_go (fun i : Nat => [(4, .int .i64 (i : Int))]) (fun i => [(0, ⟨.arr, 1, bytesV (lowTo s i)⟩)]) (fun i => s.length - i) (fun i => i ≤ s.length) 0 (Nat.zero_le _) rfl rfl ?_
  intro i hi ih
  have hn := lowTo_len s i
  rcases Nat.lt_or_ge i s.length with h | h
  · have g1 : (i : Int) < s.length := by omega
    have g2 : (0 : Int) ≤ i := by omega
    have g3 := lowTo_get h
    have g5 := wrap_succ h (by omega)
    have ih' := ih (i + 1) h (by omega)
    cases hw : within (s[i].toNat : Int) 65 90 with
    | true =>
      have g6 := low1_up hw
      have e1 : (bytesV (lowTo s i)).set i (.int .u8 (IntKind.u8.wrap ((s[i].toNat : Int) + 32))) = bytesV (lowTo s (i + 1)) := by rw [g6, bytesV_set, lowTo_succ h]
      simp only [within, Bool.and_eq_true, decide_eq_true_eq] at hw
      obtain ⟨w1, w2⟩ := hw
      simp only [g1, g2, g3, g5, hn, byte_wrap, w1, w2, e1, go_sem]
      repeat' ((first | apply qa | apply qb | apply qc | apply qd | apply qe | apply qf | apply qg | apply qh | apply qi | apply qj | apply qk) <;> intro hp <;> simp only [hp, g1, g2, g3, g5, hn, byte_wrap, w1, w2, e1, go_sem])
      exact ih'
    | false =>
      rw [lowTo_skip h (low1_no hw)] at ih'
      simp only [within, Bool.and_eq_false_iff, decide_eq_false_iff_not] at hw
      simp only [g1, g2, g3, g5, hn, byte_wrap, go_sem]
      repeat' ((first | apply qa | apply qb | apply qc | apply qd | apply qe | apply qf | apply qg | apply qh | apply qi | apply qj | apply qk) <;> intro hp <;> simp only [hp, g1, g2, g3, g5, hn, byte_wrap, go_sem])
      all_goals first
        | exact ih'
        | (exfalso; clear ih ih'; simp_all; done)
        | (exfalso; clear ih ih'; simp only [decide_eq_true_eq] at *; omega)
  · have g1 : ¬ (i : Int) < s.length := by omega
    simp only [g1, hn, go_sem]
    repeat' ((first | apply qa | apply qb | apply qc | apply qd | apply qe | apply qf | apply qg | apply qh | apply qi | apply qj | apply qk) <;> intro hp <;> simp only [hp, g1, hn, go_sem])
    simp only [fin_mk, finV, resL, resV1, resIn, endA, listIn, Option.some_or, Option.none_or, oneOrTup, go_sem]
    rw [← hr]
    rw [lowTo_end h]
theorem isPrefixOf_len {t s : List UInt8} (h : t.isPrefixOf s = true) : t.length ≤ s.length := (List.isPrefixOf_iff_prefix.1 h).length_le
theorem isPrefixOf_short {t s : List UInt8} (h : s.length < t.length) : t.isPrefixOf s = false := by
  cases hp : t.isPrefixOf s with
  | false => rfl
  | true => have := isPrefixOf_len hp; omega
theorem isPrefixOf_take (s t : List UInt8) : t.isPrefixOf s = (s.take t.length == t) := by
  rw [Bool.eq_iff_iff, List.isPrefixOf_iff_prefix, beq_iff_eq, List.prefix_iff_eq_take]
  exact ⟨fun h => h.symm, fun h => h.symm⟩
def cutPrefix (s t : List UInt8) : List UInt8 := if t.isPrefixOf s = true then s.drop t.length else s
open Classical in
noncomputable def spHasPrefix : VM.Spec := { modes := [.rd, .rd], run := fun | [.str s, .str t] => if s.length ≤ 1099511627776 ∧ t.length ≤ 1099511627776 then some (.bool (t.isPrefixOf s), []) else none | _ => none, need := [] }
attribute [go_sem] spHasPrefix
theorem spHasPrefix_in {ins : List V} {r : V} {outs : List V} (h : spHasPrefix.run ins = some (r, outs)) : ∃ (s : (List UInt8)) (t : (List UInt8)), ins = [.str s, .str t] ∧ (s.length ≤ 1099511627776 ∧ t.length ≤ 1099511627776) ∧ .bool (t.isPrefixOf s) = r ∧ outs = [] := by
  unfold spHasPrefix at h
  simp only at h
  split at h
  · rename_i s t
    split at h
    case isFalse => cases h
    rename_i hc
    simp only [Option.some.injEq, Prod.mk.injEq] at h
    obtain ⟨h1, h2⟩ := h
    exact ⟨s, t, rfl, hc, h1, h2.symm⟩
  · cases h
def T_internal_stringslite_HasPrefix : Hints := ⟨lk [], lk [], lk [(0, [0, 1]), (1, [4])], lk []⟩
noncomputable def Phi_internal_stringslite_HasPrefix : Tab := lk []
attribute [go_sem] T_internal_stringslite_HasPrefix Phi_internal_stringslite_HasPrefix
theorem phi_internal_stringslite_HasPrefix : ∀ f sp, Phi_internal_stringslite_HasPrefix f = some sp → FnOk Tryd.prog f sp ∧ ∀ n ∈ sp.need, n ∈ ([] : List String) := phi_nil
theorem ok_internal_stringslite_HasPrefix : FnOk Tryd.prog 85 spHasPrefix := by
  refine fn_ok (Φ := Phi_internal_stringslite_HasPrefix) (T := T_internal_stringslite_HasPrefix) phi_internal_stringslite_HasPrefix mixed Tryd.func85 rfl rfl rfl (by decide) ?_
  intro ins r outs hr hl
  clear hl
  have hs := spHasPrefix_in hr
  clear hr
  obtain ⟨s, t, rfl, hc, hr, rfl⟩ := hs
  simp only [spHasPrefix, Tryd.f85, Go.VM.initS]
  obtain ⟨h1, h2⟩ := hc
  rcases Nat.lt_or_ge s.length t.length with h | h
  · have g1 : ¬ (t.length : Int) ≤ s.length := by omega
    simp only [g1, go_sem]
    repeat' ((first | apply qa | apply qb | apply qc | apply qd | apply qe | apply qf | apply qg | apply qh | apply qi | apply qj | apply qk) <;> intro hp <;> simp only [hp, g1, go_sem])
    simp only [fin_mk, finV, resL, resV1, resIn, endA, listIn, Option.some_or, Option.none_or, oneOrTup, go_sem]
    rw [← hr]
    rw [isPrefixOf_short h]
  · have g1 : (t.length : Int) ≤ s.length := by omega
    have g2 : (0 : Int) ≤ t.length := by omega
    simp only [g1, g2, h, Nat.zero_le, List.drop_zero, Int.toNat_natCast, go_sem]
    repeat' ((first | apply qa | apply qb | apply qc | apply qd | apply qe | apply qf | apply qg | apply qh | apply qi | apply qj | apply qk) <;> intro hp <;> simp only [hp, g1, g2, h, Nat.zero_le, List.drop_zero, Int.toNat_natCast, go_sem])
    simp only [fin_mk, finV, resL, resV1, resIn, endA, listIn, Option.some_or, Option.none_or, oneOrTup, go_sem]
    rw [← hr]
    rw [isPrefixOf_take]
open Classical in
noncomputable def spCutPrefix : VM.Spec := { modes := [.rd, .rd], run := fun | [.str s, .str t] => if s.length ≤ 1099511627776 ∧ t.length ≤ 1099511627776 then some (.tup [.str (cutPrefix s t), .bool (t.isPrefixOf s)], []) else none | _ => none, need := [] }
attribute [go_sem] spCutPrefix
theorem spCutPrefix_in {ins : List V} {r : V} {outs : List V} (h : spCutPrefix.run ins = some (r, outs)) : ∃ (s : (List UInt8)) (t : (List UInt8)), ins = [.str s, .str t] ∧ (s.length ≤ 1099511627776 ∧ t.length ≤ 1099511627776) ∧ .tup [.str (cutPrefix s t), .bool (t.isPrefixOf s)] = r ∧ outs = [] := by
  unfold spCutPrefix at h
  simp only at h
  split at h
  · rename_i s t
    split at h
    case isFalse => cases h
    rename_i hc
    simp only [Option.some.injEq, Prod.mk.injEq] at h
    obtain ⟨h1, h2⟩ := h
    exact ⟨s, t, rfl, hc, h1, h2.symm⟩
  · cases h
def T_internal_stringslite_CutPrefix : Hints := ⟨lk [], lk [], lk [(0, [0, 1]), (1, [0, 1, 9]), (2, [4, 5]), (3, [4, 5])], lk []⟩
noncomputable def Phi_internal_stringslite_CutPrefix : Tab := lk [(85, spHasPrefix)]
attribute [go_sem] T_internal_stringslite_CutPrefix Phi_internal_stringslite_CutPrefix
theorem phi_internal_stringslite_CutPrefix : ∀ f sp, Phi_internal_stringslite_CutPrefix f = some sp → FnOk Tryd.prog f sp ∧ ∀ n ∈ sp.need, n ∈ ([] : List String) := phi_cons ok_internal_stringslite_HasPrefix (n0 rfl) (phi_nil)
theorem ok_internal_stringslite_CutPrefix : FnOk Tryd.prog 70 spCutPrefix := by
  refine fn_ok (Φ := Phi_internal_stringslite_CutPrefix) (T := T_internal_stringslite_CutPrefix) phi_internal_stringslite_CutPrefix mixed Tryd.func70 rfl rfl rfl (by decide) ?_
  intro ins r outs hr hl
  clear hl
  have hs := spCutPrefix_in hr
  clear hr
  obtain ⟨s, t, rfl, hc, hr, rfl⟩ := hs
  simp only [spCutPrefix, Tryd.f70, Go.VM.initS]
  obtain ⟨h1, h2⟩ := hc
  cases hp : t.isPrefixOf s with
  | false =>
    simp only [hp, h1, h2, go_sem]
    repeat' ((first | apply qa | apply qb | apply qc | apply qd | apply qe | apply qf | apply qg | apply qh | apply qi | apply qj | apply qk) <;> intro hp <;> simp only [hp, hp, h1, h2, go_sem])
    simp only [fin_mk, finV, resL, resV1, resIn, endA, listIn, Option.some_or, Option.none_or, oneOrTup, go_sem]
    rw [← hr]
    simp only [cutPrefix, hp, Bool.false_eq_true, if_false]
  | true =>
    have h3 := isPrefixOf_len hp
    have g2 : (0 : Int) ≤ t.length := by omega
    simp only [hp, h1, h2, h3, g2, Int.toNat_natCast, List.take_length, Nat.le_refl, go_sem]
    repeat' ((first | apply qa | apply qb | apply qc | apply qd | apply qe | apply qf | apply qg | apply qh | apply qi | apply qj | apply qk) <;> intro hp <;> simp only [hp, hp, h1, h2, h3, g2, Int.toNat_natCast, List.take_length, Nat.le_refl, go_sem])
    simp only [fin_mk, finV, resL, resV1, resIn, endA, listIn, Option.some_or, Option.none_or, oneOrTup, go_sem]
    rw [← hr]
    simp only [cutPrefix, hp, if_true]
def T_strings_CutPrefix : Hints := ⟨lk [], lk [], lk [(0, [0, 1]), (1, [4, 5])], lk []⟩
noncomputable def Phi_strings_CutPrefix : Tab := lk [(70, spCutPrefix)]
attribute [go_sem] T_strings_CutPrefix Phi_strings_CutPrefix
theorem phi_strings_CutPrefix : ∀ f sp, Phi_strings_CutPrefix f = some sp → FnOk Tryd.prog f sp ∧ ∀ n ∈ sp.need, n ∈ ([] : List String) := phi_cons ok_internal_stringslite_CutPrefix (n0 rfl) (phi_nil)
theorem ok_strings_CutPrefix : FnOk Tryd.prog 61 spCutPrefix := by
  refine fn_ok (Φ := Phi_strings_CutPrefix) (T := T_strings_CutPrefix) phi_strings_CutPrefix mixed Tryd.func61 rfl rfl rfl (by decide) ?_
  intro ins r outs hr hl
  clear hl
  have hs := spCutPrefix_in hr
  clear hr
  obtain ⟨s, t, rfl, hc, hr, rfl⟩ := hs
  simp only [spCutPrefix, Tryd.f61, Go.VM.initS]
  obtain ⟨h1, h2⟩ := hc
  simp only [h1, h2, go_sem]
  repeat' ((first | apply qa | apply qb | apply qc | apply qd | apply qe | apply qf | apply qg | apply qh | apply qi | apply qj | apply qk) <;> intro hp <;> simp only [hp, h1, h2, go_sem])
  simp only [fin_mk, finV, resL, resV1, resIn, endA, listIn, Option.some_or, Option.none_or, oneOrTup, go_sem]
  rw [← hr]
def re_ : List UInt8 := [114, 101, 58]
def fwd_ : List UInt8 := [102, 119, 100, 58]
def baseL : Nat → List UInt8 → List UInt8
  | 0, s => s
  | n + 1, s => if re_.isPrefixOf s = true then baseL n (trim (s.drop 3)) else if fwd_.isPrefixOf s = true then baseL n (trim (s.drop 4)) else s
theorem drop_lt {t s : List UInt8} {k : Nat} (hp : t.isPrefixOf s = true) (hk : t.length = k) (h0 : 0 < k) : (trim (s.drop k)).length < s.length := by
  have h1 := isPrefixOf_len hp
  have h2 := trim_len (s.drop k)
  rw [List.length_drop] at h2
  omega
theorem baseL_more : ∀ (n : Nat) (s : List UInt8), s.length ≤ n → baseL n s = baseL (n + 1) s
  | 0, s, h => by
    have : s = [] := List.eq_nil_of_length_eq_zero (by omega)
    subst this
    rfl
  | n + 1, s, h => by
    rw [baseL, baseL]
    cases h1 : re_.isPrefixOf s with
    | true =>
      have := drop_lt h1 (k := 3) rfl (by decide)
      simp only [if_true]
      exact baseL_more n _ (by omega)
    | false =>
      cases h2 : fwd_.isPrefixOf s with
      | true =>
        have := drop_lt h2 (k := 4) rfl (by decide)
        simp only [if_true, Bool.false_eq_true, if_false]
        exact baseL_more n _ (by omega)
      | false => simp only [Bool.false_eq_true, if_false]
theorem baseL_any {n : Nat} {s : List UInt8} (h : s.length ≤ n) : baseL n s = baseL s.length s := by
  induction n with
  | zero => rw [show s.length = 0 by omega]
  | succ n ih =>
    rcases Nat.lt_or_ge n s.length with h1 | h1
    · rw [show s.length = n + 1 by omega]
    · rw [← baseL_more n s h1, ih h1]
def base (s : List UInt8) : List UInt8 := baseL s.length s
theorem base_re {s : List UInt8} (h : re_.isPrefixOf s = true) : base s = base (trim (s.drop 3)) := by
  have h1 := drop_lt h (k := 3) rfl (by decide)
  unfold base
  rw [← baseL_any (n := s.length) (Nat.le_refl _)]
  obtain ⟨n, hn⟩ : ∃ n, s.length = n + 1 := ⟨s.length - 1, by omega⟩
  rw [hn, baseL, if_pos h, baseL_any (by omega)]
theorem base_fwd {s : List UInt8} (h0 : re_.isPrefixOf s = false) (h : fwd_.isPrefixOf s = true) : base s = base (trim (s.drop 4)) := by
  have h1 := drop_lt h (k := 4) rfl (by decide)
  unfold base
  obtain ⟨n, hn⟩ : ∃ n, s.length = n + 1 := ⟨s.length - 1, by omega⟩
  rw [hn, baseL, if_neg (by rw [h0]; simp), if_pos h, baseL_any (by omega)]
theorem base_end {s : List UInt8} (h0 : re_.isPrefixOf s = false) (h : fwd_.isPrefixOf s = false) : base s = s := by
  unfold base
  cases s.length with
  | zero => rfl
  | succ n => rw [baseL, if_neg (by rw [h0]; simp), if_neg (by rw [h]; simp)]
theorem isB_low (b : UInt8) : isB 32 (low1 b) = isB 32 b := by
  unfold low1
  split
  · rename_i h
    have : (b + 32).toNat = b.toNat + 32 := by
      rw [UInt8.toNat_add]
      have e : UInt8.toNat 32 = 32 := rfl
      rw [e]; omega
    have e1 : isB 32 b = false := by unfold isB; rw [beq_eq_false_iff_ne]; omega
    have e2 : isB 32 (b + 32) = false := by unfold isB; rw [beq_eq_false_iff_ne]; omega
    rw [e1, e2]
  · rfl
theorem dropWhile_low (s : List UInt8) : (s.map low1).dropWhile (isB 32) = (s.dropWhile (isB 32)).map low1 := by
  induction s with
  | nil => rfl
  | cons b s ih =>
    rw [List.map_cons, List.dropWhile_cons, List.dropWhile_cons, isB_low]
    cases isB 32 b with
    | true => exact ih
    | false => rfl
theorem trim_low (s : List UInt8) : trim (lowS s) = lowS (trim s) := by
  unfold trim trimL trimR lowS
  rw [← List.map_reverse, dropWhile_low, ← List.map_reverse, dropWhile_low]
def baseSubject (s : List UInt8) : List UInt8 := base (trim (lowS s))
open Classical in
noncomputable def spBaseSubject : VM.Spec := { modes := [.rd], run := fun | [.str s] => if s.length ≤ 1099511627776 then some (.str (baseSubject s), []) else none | _ => none, need := [] }
attribute [go_sem] spBaseSubject
theorem spBaseSubject_in {ins : List V} {r : V} {outs : List V} (h : spBaseSubject.run ins = some (r, outs)) : ∃ (s : (List UInt8)), ins = [.str s] ∧ (s.length ≤ 1099511627776) ∧ .str (baseSubject s) = r ∧ outs = [] := by
  unfold spBaseSubject at h
  simp only at h
  split at h
  · rename_i s
    split at h
    case isFalse => cases h
    rename_i hc
    simp only [Option.some.injEq, Prod.mk.injEq] at h
    obtain ⟨h1, h2⟩ := h
    exact ⟨s, rfl, hc, h1, h2.symm⟩
  · cases h
def T_impl_BaseSubject : Hints := ⟨lk [], lk [(2, [0])], lk [(0, [0]), (1, [0]), (2, [0, 3, 4]), (3, [0, 3, 4, 14]), (4, [0, 3, 4]), (5, [0, 3, 21]), (6, [2]), (7, [0])], lk []⟩
noncomputable def Phi_impl_BaseSubject : Tab := lk [(62, spLow), (63, spTrim), (61, spCutPrefix)]
attribute [go_sem] T_impl_BaseSubject Phi_impl_BaseSubject
theorem phi_impl_BaseSubject : ∀ f sp, Phi_impl_BaseSubject f = some sp → FnOk Tryd.prog f sp ∧ ∀ n ∈ sp.need, n ∈ ([] : List String) := phi_cons ok_impl_lower (n0 rfl) (phi_cons ok_strings_Trim (n0 rfl) (phi_cons ok_strings_CutPrefix (n0 rfl) (phi_nil)))
theorem ok_impl_BaseSubject : FnOk Tryd.prog 48 spBaseSubject := by
  refine fn_ok (Φ := Phi_impl_BaseSubject) (T := T_impl_BaseSubject) phi_impl_BaseSubject mixed Tryd.func48 rfl rfl rfl (by decide) ?_
  intro ins r outs hr hl
  clear hl
  have hs := spBaseSubject_in hr
  clear hr
  obtain ⟨s, rfl, hc, hr, rfl⟩ := hs
  simp only [spBaseSubject, Tryd.f48, Go.VM.initS]
  have h1 : (lowS s).length ≤ 1099511627776 := by rw [lowS_len]; exact hc
  have h2 := Nat.le_trans (trim_len (lowS s)) h1
  have e32 : (([32] : List UInt8) = [32]) = True := eq_self _
  simp only [hc, h1, e32, go_sem]
  repeat' ((first | apply qa | apply qb | apply qc | apply qd | apply qe | apply qf | apply qg | apply qh | apply qi | apply qj | apply qk) <;> intro hp <;> simp only [hp, hc, h1, e32, go_sem])
  refine loop_go (fun u : List UInt8 => [(0, .str u)]) (fun _ => []) (fun u => u.length) (fun u => u.length ≤ 1099511627776 ∧ base u = baseSubject s) (trim (lowS s)) ⟨h2, rfl⟩ rfl rfl ?_
  rintro u ⟨hu, he⟩ ih
  have r3 : (3 : Nat) ≤ 1099511627776 := by decide
  have r4 : (4 : Nat) ≤ 1099511627776 := by decide
  cases hr1 : re_.isPrefixOf u with
  | true =>
    have hr1' : ([114, 101, 58] : List UInt8).isPrefixOf u = true := hr1
    have hd : (u.drop 3).length ≤ 1099511627776 := by rw [List.length_drop]; omega
    have ih' := ih (trim (u.drop 3)) ⟨Nat.le_trans (trim_len _) hd, by rw [← base_re hr1, he]⟩ (drop_lt hr1 rfl (by decide))
    simp only [hu, hr1', cutPrefix, hd, e32, go_sem]
    repeat' ((first | apply qa | apply qb | apply qc | apply qd | apply qe | apply qf | apply qg | apply qh | apply qi | apply qj | apply qk) <;> intro hp <;> simp only [hp, hu, hr1', cutPrefix, hd, e32, go_sem])
    exact ih'
  | false =>
    have hr1' : ([114, 101, 58] : List UInt8).isPrefixOf u = false := hr1
    cases hr2 : fwd_.isPrefixOf u with
    | true =>
      have hr2' : ([102, 119, 100, 58] : List UInt8).isPrefixOf u = true := hr2
      have hd : (u.drop 4).length ≤ 1099511627776 := by rw [List.length_drop]; omega
      have ih' := ih (trim (u.drop 4)) ⟨Nat.le_trans (trim_len _) hd, by rw [← base_fwd hr1 hr2, he]⟩ (drop_lt hr2 rfl (by decide))
      simp only [hu, hr1', hr2', cutPrefix, hd, e32, go_sem]
      repeat' ((first | apply qa | apply qb | apply qc | apply qd | apply qe | apply qf | apply qg | apply qh | apply qi | apply qj | apply qk) <;> intro hp <;> simp only [hp, hu, hr1', hr2', cutPrefix, hd, e32, go_sem])
      exact ih'
    | false =>
      have hr2' : ([102, 119, 100, 58] : List UInt8).isPrefixOf u = false := hr2
      simp only [hu, hr1', hr2', cutPrefix, e32, go_sem]
      repeat' ((first | apply qa | apply qb | apply qc | apply qd | apply qe | apply qf | apply qg | apply qh | apply qi | apply qj | apply qk) <;> intro hp <;> simp only [hp, hu, hr1', hr2', cutPrefix, e32, go_sem])
      simp only [fin_mk, finV, resL, resV1, resIn, endA, listIn, Option.some_or, Option.none_or, oneOrTup, go_sem]
      rw [← hr]
      rw [← he, base_end hr1 hr2]
def T_spec_BaseSubject : Hints := ⟨lk [], lk [(3, [0])], lk [(0, [0]), (1, [0]), (3, [0, 7]), (4, [0]), (5, [0, 19]), (6, [0]), (2, [2])], lk []⟩
noncomputable def Phi_spec_BaseSubject : Tab := lk [(53, spLow), (54, spTrim1)]
attribute [go_sem] T_spec_BaseSubject Phi_spec_BaseSubject
theorem phi_spec_BaseSubject : ∀ f sp, Phi_spec_BaseSubject f = some sp → FnOk Tryd.prog f sp ∧ ∀ n ∈ sp.need, n ∈ ([] : List String) := phi_cons ok_spec_l06Low (n0 rfl) (phi_cons ok_spec_l07Trim (n0 rfl) (phi_nil))
theorem ok_spec_BaseSubject : FnOk Tryd.prog 42 spBaseSubject := by
  refine fn_ok (Φ := Phi_spec_BaseSubject) (T := T_spec_BaseSubject) phi_spec_BaseSubject mixed Tryd.func42 rfl rfl rfl (by decide) ?_
  intro ins r outs hr hl
  clear hl
  have hs := spBaseSubject_in hr
  clear hr
  obtain ⟨s, rfl, hc, hr, rfl⟩ := hs
  simp only [spBaseSubject, Tryd.f42, Go.VM.initS]
  have h1 : (trim s).length ≤ 1099511627776 := Nat.le_trans (trim_len s) hc
  have h2 : (lowS (trim s)).length ≤ 1099511627776 := by rw [lowS_len]; exact h1
  simp only [hc, h1, go_sem]
  repeat' ((first | apply qa | apply qb | apply qc | apply qd | apply qe | apply qf | apply qg | apply qh | apply qi | apply qj | apply qk) <;> intro hp <;> simp only [hp, hc, h1, go_sem])
  refine loop_go (fun u : List UInt8 => [(0, .str u)]) (fun _ => []) (fun u => u.length) (fun u => u.length ≤ 1099511627776 ∧ base u = baseSubject s) (lowS (trim s)) ⟨h2, by rw [← trim_low]; rfl⟩ rfl rfl ?_
  rintro u ⟨hu, he⟩ ih
  have c3 : ¬ (3 : Int) ≤ u.length ↔ u.length < 3 := by omega
  have lenlt : ∀ {t : List UInt8}, t.isPrefixOf u = true → t.length ≤ u.length := isPrefixOf_len
  cases hr1 : re_.isPrefixOf u with
  | true =>
    have g0 : 3 ≤ u.length := lenlt hr1
    have g1 : (3 : Int) ≤ u.length := by omega
    have g2 : (u.take 3 == [114, 101, 58]) = true := by rw [← hr1, isPrefixOf_take]; rfl
    have hd : (u.drop 3).length ≤ 1099511627776 := by rw [List.length_drop]; omega
    have ih' := ih (trim (u.drop 3)) ⟨Nat.le_trans (trim_len _) hd, by rw [← base_re hr1, he]⟩ (drop_lt hr1 rfl (by decide))
    simp only [hu, g0, g1, g2, hd, List.take_length, Int.reduceToNat, Nat.zero_le, Nat.le_refl, go_sem]
    repeat' ((first | apply qa | apply qb | apply qc | apply qd | apply qe | apply qf | apply qg | apply qh | apply qi | apply qj | apply qk) <;> intro hp <;> simp only [hp, hu, g0, g1, g2, hd, List.take_length, Int.reduceToNat, Nat.zero_le, Nat.le_refl, go_sem])
    exact ih'
  | false =>
    have q1 : (3 : Int) ≤ u.length → (u.take 3 == [114, 101, 58]) = false := fun _ => by rw [← hr1, isPrefixOf_take]; rfl
    cases hr2 : fwd_.isPrefixOf u with
    | true =>
      have g0 : 4 ≤ u.length := lenlt hr2
      have g0' : 3 ≤ u.length := by omega
      have g1 : (4 : Int) ≤ u.length := by omega
      have g1' : (3 : Int) ≤ u.length := by omega
      have g2' := q1 g1'
      have g2 : (u.take 4 == [102, 119, 100, 58]) = true := by rw [← hr2, isPrefixOf_take]; rfl
      have hd : (u.drop 4).length ≤ 1099511627776 := by rw [List.length_drop]; omega
      have ih' := ih (trim (u.drop 4)) ⟨Nat.le_trans (trim_len _) hd, by rw [← base_fwd hr1 hr2, he]⟩ (drop_lt hr2 rfl (by decide))
      simp only [hu, g0, g0', g1, g1', g2, g2', hd, List.take_length, Int.reduceToNat, Nat.zero_le, Nat.le_refl, go_sem]
      repeat' ((first | apply qa | apply qb | apply qc | apply qd | apply qe | apply qf | apply qg | apply qh | apply qi | apply qj | apply qk) <;> intro hp <;> simp only [hp, hu, g0, g0', g1, g1', g2, g2', hd, List.take_length, Int.reduceToNat, Nat.zero_le, Nat.le_refl, go_sem])
      exact ih'
    | false =>
      have q2 : (4 : Int) ≤ u.length → (u.take 4 == [102, 119, 100, 58]) = false := fun _ => by rw [← hr2, isPrefixOf_take]; rfl
      by_cases l3 : (3 : Int) ≤ u.length
      · have g0' : 3 ≤ u.length := by omega
        have g2' := q1 l3
        by_cases l4 : (4 : Int) ≤ u.length
        · have g0 : 4 ≤ u.length := by omega
          have g2 := q2 l4
          simp only [l3, l4, g0, g0', g2, g2', Int.reduceToNat, Nat.zero_le, go_sem]
          repeat' ((first | apply qa | apply qb | apply qc | apply qd | apply qe | apply qf | apply qg | apply qh | apply qi | apply qj | apply qk) <;> intro hp <;> simp only [hp, l3, l4, g0, g0', g2, g2', Int.reduceToNat, Nat.zero_le, go_sem])
          simp only [fin_mk, finV, resL, resV1, resIn, endA, listIn, Option.some_or, Option.none_or, oneOrTup, go_sem]
          rw [← hr]
          rw [← he, base_end hr1 hr2]
        · simp only [l3, l4, g0', g2', Int.reduceToNat, Nat.zero_le, go_sem]
          repeat' ((first | apply qa | apply qb | apply qc | apply qd | apply qe | apply qf | apply qg | apply qh | apply qi | apply qj | apply qk) <;> intro hp <;> simp only [hp, l3, l4, g0', g2', Int.reduceToNat, Nat.zero_le, go_sem])
          simp only [fin_mk, finV, resL, resV1, resIn, endA, listIn, Option.some_or, Option.none_or, oneOrTup, go_sem]
          rw [← hr]
          rw [← he, base_end hr1 hr2]
      · have l4 : ¬ (4 : Int) ≤ u.length := by omega
        simp only [l3, l4, go_sem]
        repeat' ((first | apply qa | apply qb | apply qc | apply qd | apply qe | apply qf | apply qg | apply qh | apply qi | apply qj | apply qk) <;> intro hp <;> simp only [hp, l3, l4, go_sem])
        simp only [fin_mk, finV, resL, resV1, resIn, endA, listIn, Option.some_or, Option.none_or, oneOrTup, go_sem]
        rw [← hr]
        rw [← he, base_end hr1 hr2]
end Go.Proofs.YtghmjnggmacohaaDoor.L

