/- Contracts of functions, and the facts that they need. No condition. -/
import Derived.Test.YtonjbbfgdloljaaGreatDoorVFacts
import Derived.Test.YtonjbbfgdloljaaGreatDoorProg
import Derived.KernelRfl
import Derived.Test.YtonjbbfgdloljaaGreatDoorVmCur
import Derived.Test.YtonjbbfgdloljaaGreatDoorVmLoop

namespace Go.Proofs.YtonjbbfgdloljaaGreatDoor.L
open Go Go.VM
set_option maxRecDepth 100000
set_option linter.unusedSimpArgs false
set_option linter.unusedVariables false
theorem mixed : Tryz.prog.follows .mixedOrders = true := by decide +kernel
def within (n lo hi : Int) : Bool := decide (lo ≤ n) && decide (n ≤ hi)
open Classical in
noncomputable def spWithin : VM.Spec := { modes := [.rd, .rd, .rd], run := fun | [.int .i64 n, .int .i64 lo, .int .i64 hi] => some (.bool (within n lo hi), []) | _ => none, need := [] }
attribute [go_sem] spWithin
theorem spWithin_in {ins : List V} {r : V} {outs : List V} (h : spWithin.run ins = some (r, outs)) : ∃ (n : Int) (lo : Int) (hi : Int), ins = [.int .i64 n, .int .i64 lo, .int .i64 hi] ∧ .bool (within n lo hi) = r ∧ outs = [] := by
  unfold spWithin at h
  simp only at h
  split at h
  · rename_i n lo hi
    simp only [Option.some.injEq, Prod.mk.injEq] at h
    obtain ⟨h1, h2⟩ := h
    exact ⟨n, lo, hi, rfl, h1, h2.symm⟩
  · cases h
def T_impl_within : Hints := ⟨lk [], lk [], lk [(0, [0, 1, 2]), (1, [6])], lk []⟩
noncomputable def Phi_impl_within : Tab := lk []
attribute [go_sem] T_impl_within Phi_impl_within
theorem phi_impl_within : ∀ f sp, Phi_impl_within f = some sp → FnOk Tryz.prog f sp ∧ ∀ n ∈ sp.need, n ∈ ([] : List String) := phi_nil
theorem ok_impl_within : FnOk Tryz.prog 41 spWithin := by
  refine fn_ok (Φ := Phi_impl_within) (T := T_impl_within) phi_impl_within mixed Tryz.func41 rfl rfl rfl (by decide) ?_
  intro ins r outs hr hl
  clear hl
  have hs := spWithin_in hr
  clear hr
  obtain ⟨n, lo, hi, rfl, hr, rfl⟩ := hs
  simp only [spWithin, Tryz.f41, Go.VM.initS]
  simp only [go_sem]
  repeat' ((first | apply qa | apply qb | apply qc | apply qd | apply qe | apply qf | apply qg | apply qh | apply qi | apply qj | apply qk) <;> intro hp <;> simp only [hp, go_sem])
  all_goals (simp only [fin_mk, finV, resL, resV1, resIn, endA, listIn, Option.some_or, Option.none_or, oneOrTup, go_sem]; rw [← hr])
  all_goals simp [within, hp]
def T_spec_l01In : Hints := ⟨lk [], lk [], lk [(0, [0, 1, 2]), (1, [6])], lk []⟩
noncomputable def Phi_spec_l01In : Tab := lk []
attribute [go_sem] T_spec_l01In Phi_spec_l01In
theorem phi_spec_l01In : ∀ f sp, Phi_spec_l01In f = some sp → FnOk Tryz.prog f sp ∧ ∀ n ∈ sp.need, n ∈ ([] : List String) := phi_nil
theorem ok_spec_l01In : FnOk Tryz.prog 38 spWithin := by
  refine fn_ok (Φ := Phi_spec_l01In) (T := T_spec_l01In) phi_spec_l01In mixed Tryz.func38 rfl rfl rfl (by decide) ?_
  intro ins r outs hr hl
  clear hl
  have hs := spWithin_in hr
  clear hr
  obtain ⟨n, lo, hi, rfl, hr, rfl⟩ := hs
  simp only [spWithin, Tryz.f38, Go.VM.initS]
  simp only [go_sem]
  repeat' ((first | apply qa | apply qb | apply qc | apply qd | apply qe | apply qf | apply qg | apply qh | apply qi | apply qj | apply qk) <;> intro hp <;> simp only [hp, go_sem])
  all_goals (simp only [fin_mk, finV, resL, resV1, resIn, endA, listIn, Option.some_or, Option.none_or, oneOrTup, go_sem]; rw [← hr])
  all_goals simp [within, hp]
open Classical in
noncomputable def spUid : VM.Spec := { modes := [.rd], run := fun | [.int .i64 n] => some (.bool (within n 1 9999), []) | _ => none, need := [] }
attribute [go_sem] spUid
theorem spUid_in {ins : List V} {r : V} {outs : List V} (h : spUid.run ins = some (r, outs)) : ∃ (n : Int), ins = [.int .i64 n] ∧ .bool (within n 1 9999) = r ∧ outs = [] := by
  unfold spUid at h
  simp only at h
  split at h
  · rename_i n
    simp only [Option.some.injEq, Prod.mk.injEq] at h
    obtain ⟨h1, h2⟩ := h
    exact ⟨n, rfl, h1, h2.symm⟩
  · cases h
def T_impl_isUid : Hints := ⟨lk [], lk [], lk [(0, [0]), (1, [2])], lk []⟩
noncomputable def Phi_impl_isUid : Tab := lk [(41, spWithin)]
attribute [go_sem] T_impl_isUid Phi_impl_isUid
theorem phi_impl_isUid : ∀ f sp, Phi_impl_isUid f = some sp → FnOk Tryz.prog f sp ∧ ∀ n ∈ sp.need, n ∈ ([] : List String) := phi_cons ok_impl_within (n0 rfl) (phi_nil)
theorem ok_impl_isUid : FnOk Tryz.prog 42 spUid := by
  refine fn_ok (Φ := Phi_impl_isUid) (T := T_impl_isUid) phi_impl_isUid mixed Tryz.func42 rfl rfl rfl (by decide) ?_
  intro ins r outs hr hl
  clear hl
  have hs := spUid_in hr
  clear hr
  obtain ⟨n, rfl, hr, rfl⟩ := hs
  simp only [spUid, Tryz.f42, Go.VM.initS]
  simp only [go_sem]
  simp only [fin_mk, finV, resL, resV1, resIn, endA, listIn, Option.some_or, Option.none_or, oneOrTup, go_sem]
  rw [← hr]
open Classical in
noncomputable def spMod : VM.Spec := { modes := [.rd], run := fun | [.int .i64 n] => some (.bool (within n 1 100000), []) | _ => none, need := [] }
attribute [go_sem] spMod
def low (c : UInt8) : Bool := within (c.toNat : Int) 97 122
def boxName (s : List UInt8) : Bool := s.all low && within s.length 1 8
theorem boxName_bad {s : List UInt8} {i : Nat} (h : i < s.length) (hb : low s[i] = false) : boxName s = false := by
  have : s.all low = false := List.all_eq_false.2 ⟨s[i], List.getElem_mem h, by simp [hb]⟩
  rw [boxName, this]; rfl
theorem boxName_end {s : List UInt8} {i : Nat} (h : s.length ≤ i) (ha : (s.take i).all low = true) : boxName s = within s.length 1 8 := by
  rw [List.take_of_length_le h] at ha
  rw [boxName, ha]; rfl
theorem all_take_succ {α : Type} {s : List α} {p : α → Bool} {i : Nat} (h : i < s.length) (ha : (s.take i).all p = true) (hb : p s[i] = true) : (s.take (i + 1)).all p = true := by
  rw [take_succ' h, List.all_append, ha]; simp [hb]
theorem byte_wrap (c : UInt8) : IntKind.i64.wrap ((c.toNat : Nat) : Int) = c.toNat := wrap64 (by omega) (by have := c.toNat_lt; omega)
open Classical in
noncomputable def spBoxName : VM.Spec := { modes := [.rd], run := fun | [.str s] => if s.length ≤ 1099511627776 then some (.bool (boxName s), []) else none | _ => none, need := [] }
attribute [go_sem] spBoxName
theorem spBoxName_in {ins : List V} {r : V} {outs : List V} (h : spBoxName.run ins = some (r, outs)) : ∃ (s : (List UInt8)), ins = [.str s] ∧ (s.length ≤ 1099511627776) ∧ .bool (boxName s) = r ∧ outs = [] := by
  unfold spBoxName at h
  simp only at h
  split at h
  · rename_i s
    split at h
    case isFalse => cases h
    rename_i hc
    simp only [Option.some.injEq, Prod.mk.injEq] at h
    obtain ⟨h1, h2⟩ := h
    exact ⟨s, rfl, hc, h1, h2.symm⟩
  · cases h
def T_impl_BoxName : Hints := ⟨lk [], lk [(2, [0, 5, 6])], lk [(0, [0]), (1, [0, 5, 6]), (2, [0, 5, 6, 7]), (3, [0, 3, 5, 6]), (4, [0, 5, 6, 14]), (5, [2]), (6, [0, 5, 6]), (7, [2])], lk []⟩
noncomputable def Phi_impl_BoxName : Tab := lk [(41, spWithin)]
attribute [go_sem] T_impl_BoxName Phi_impl_BoxName
theorem phi_impl_BoxName : ∀ f sp, Phi_impl_BoxName f = some sp → FnOk Tryz.prog f sp ∧ ∀ n ∈ sp.need, n ∈ ([] : List String) := phi_cons ok_impl_within (n0 rfl) (phi_nil)
theorem ok_impl_BoxName : FnOk Tryz.prog 98 spBoxName := by
  refine fn_ok (Φ := Phi_impl_BoxName) (T := T_impl_BoxName) phi_impl_BoxName mixed Tryz.func98 rfl rfl rfl (by decide) ?_
  intro ins r outs hr hl
  clear hl
  have hs := spBoxName_in hr
  clear hr
  obtain ⟨s, rfl, hc, hr, rfl⟩ := hs
  simp only [spBoxName, Tryz.f98, Go.VM.initS]
  simp only [go_sem]
  refine loop_go (fun i : Nat => [(6, .int .i64 (i : Int))]) (fun _ => []) (fun i => s.length - i) (fun i => i ≤ s.length ∧ (s.take i).all low = true) 0 ⟨Nat.zero_le _, rfl⟩ rfl rfl ?_
  intro i ⟨hi, ha⟩ ih
  rcases Nat.lt_or_ge i s.length with h | h
  · have g1 : (i : Int) < s.length := by omega
    have g2 : (0 : Int) ≤ i := by omega
    have g3 : s[i]? = some s[i] := List.getElem?_eq_getElem h
    have g5 := wrap_succ h (by omega)
    simp only [g1, g2, g3, g5, byte_wrap, go_sem]
    repeat' ((first | apply qa | apply qb | apply qc | apply qd | apply qe | apply qf | apply qg | apply qh | apply qi | apply qj | apply qk) <;> intro hp <;> simp only [hp, g1, g2, g3, g5, byte_wrap, go_sem])
    · simp only [fin_mk, finV, resL, resV1, resIn, endA, listIn, Option.some_or, Option.none_or, oneOrTup, go_sem]
      rw [← hr]
      rw [boxName_bad h (by simpa [low] using hp)]
    · exact ih (i + 1) ⟨h, all_take_succ h ha (by simpa [low] using hp)⟩ (by omega)
  · have g1 : ¬ (i : Int) < s.length := by omega
    simp only [g1, go_sem]
    simp only [fin_mk, finV, resL, resV1, resIn, endA, listIn, Option.some_or, Option.none_or, oneOrTup, go_sem]
    rw [← hr]
    rw [boxName_end h ha]
def T_spec_BoxName : Hints := ⟨lk [], lk [(2, [0, 3])], lk [(0, [0]), (1, [0, 3]), (2, [0, 3, 7]), (4, [0, 3, 19]), (5, [2]), (3, [0, 3]), (6, [2])], lk []⟩
noncomputable def Phi_spec_BoxName : Tab := lk [(38, spWithin)]
attribute [go_sem] T_spec_BoxName Phi_spec_BoxName
theorem phi_spec_BoxName : ∀ f sp, Phi_spec_BoxName f = some sp → FnOk Tryz.prog f sp ∧ ∀ n ∈ sp.need, n ∈ ([] : List String) := phi_cons ok_spec_l01In (n0 rfl) (phi_nil)
theorem ok_spec_BoxName : FnOk Tryz.prog 141 spBoxName := by
  refine fn_ok (Φ := Phi_spec_BoxName) (T := T_spec_BoxName) phi_spec_BoxName mixed Tryz.func141 rfl rfl rfl (by decide) ?_
  intro ins r outs hr hl
  clear hl
  have hs := spBoxName_in hr
  clear hr
  obtain ⟨s, rfl, hc, hr, rfl⟩ := hs
  simp only [spBoxName, Tryz.f141, Go.VM.initS]
  simp only [go_sem]
  refine loop_go (fun i : Nat => [(3, .int .i64 (i : Int))]) (fun _ => []) (fun i => s.length - i) (fun i => i ≤ s.length ∧ (s.take i).all low = true) 0 ⟨Nat.zero_le _, rfl⟩ rfl rfl ?_
  intro i ⟨hi, ha⟩ ih
  rcases Nat.lt_or_ge i s.length with h | h
  · have g1 : (i : Int) < s.length := by omega
    have g2 : (0 : Int) ≤ i := by omega
    have g3 : s[i]? = some s[i] := List.getElem?_eq_getElem h
    have g5 := wrap_succ h (by omega)
    simp only [g1, g2, g3, g5, byte_wrap, go_sem]
    repeat' ((first | apply qa | apply qb | apply qc | apply qd | apply qe | apply qf | apply qg | apply qh | apply qi | apply qj | apply qk) <;> intro hp <;> simp only [hp, g1, g2, g3, g5, byte_wrap, go_sem])
    all_goals first
      | (refine fin_mk.2 ?_; simp only [fin_mk, finV, resL, resV1, resIn, endA, listIn, Option.some_or, Option.none_or, oneOrTup, go_sem]; rw [← hr, boxName_bad h (by clear ih; simp only [low, within, Bool.and_eq_false_iff, decide_eq_false_iff_not]; simp_all <;> omega)])
      | exact ih (i + 1) ⟨h, all_take_succ h ha (by clear ih; simp only [low, within, Bool.and_eq_true, decide_eq_true_eq]; simp_all <;> omega)⟩ (by omega)
  · have g1 : ¬ (i : Int) < s.length := by omega
    simp only [g1, go_sem]
    simp only [fin_mk, finV, resL, resV1, resIn, endA, listIn, Option.some_or, Option.none_or, oneOrTup, go_sem]
    rw [← hr]
    rw [boxName_end h ha]
end Go.Proofs.YtonjbbfgdloljaaGreatDoor.L

namespace Go.Proofs.YtonjbbfgdloljaaGreatDoor.L
open Go Go.VM
set_option maxRecDepth 100000
set_option maxHeartbeats 4000000
set_option linter.unusedSimpArgs false
set_option linter.unusedVariables false
def andI (a b : Int) : Int := IntKind.i64.wrap (BitVec.ofInt IntKind.i64.bits a &&& BitVec.ofInt IntKind.i64.bits b).toNat
def xorI (a b : Int) : Int := IntKind.i64.wrap (BitVec.ofInt IntKind.i64.bits a ^^^ BitVec.ofInt IntKind.i64.bits b).toNat
theorem andI_255 (a : Int) : 0 ≤ andI a 255 ∧ andI a 255 ≤ 255 := by
  have h : (BitVec.ofInt 64 a &&& BitVec.ofInt 64 255).toNat ≤ 255 := by
    rw [BitVec.toNat_and]; exact Nat.and_le_right
  have e : andI a 255 = ((BitVec.ofInt 64 a &&& BitVec.ofInt 64 255).toNat : Int) := by
    show IntKind.i64.wrap (((BitVec.ofInt 64 a &&& BitVec.ofInt 64 255).toNat : Nat) : Int) = _
    exact wrap64 (by omega) (by omega)
  rw [e]; omega
def newStep (h c : Int) : Int := andI (IntKind.i64.wrap (IntKind.i64.wrap (IntKind.i64.wrap (h * 131) + IntKind.i64.wrap c) + 7)) 1073741823
def newH : List Int → Int → Int
  | [], h => h
  | c :: l, h => newH l (newStep h c)
def cur0 (code : List Int) : Cur := ⟨code, 0, newH (code.take 4000) (IntKind.i64.wrap (35201 + (code.length : Int)))⟩
open Classical in
noncomputable def spNew : VM.Spec := { modes := [.rd], run := fun | [.lst 1 code'] => (decL dU8 code').bind fun code => if code.length ≤ 4194304 then some (.rptr (Cur.enc (cur0 code)), []) else none | _ => none, need := [] }
attribute [go_sem] spNew
theorem spNew_in {ins : List V} {r : V} {outs : List V} (h : spNew.run ins = some (r, outs)) : ∃ (code : (List Int)), ins = [.lst 1 ((code).map eU8)] ∧ (code.length ≤ 4194304) ∧ .rptr (Cur.enc (cur0 code)) = r ∧ outs = [] := by
  unfold spNew at h
  simp only at h
  split at h
  · rename_i code'
    simp only [Option.bind_eq_some_iff] at h
    obtain ⟨code, h_code, h⟩ := h
    split at h
    case isFalse => cases h
    rename_i hc
    simp only [Option.some.injEq, Prod.mk.injEq] at h
    obtain ⟨h1, h2⟩ := h
    have h_code := decL_some (fun _ _ h => dU8_some h) h_code
    subst h_code
    exact ⟨code, rfl, hc, h1, h2.symm⟩
  · cases h
def T_spec_l01New : Hints := ⟨lk [], lk [(3, [0, 3, 4])], lk [(0, [0]), (1, [0, 3]), (2, [0, 3, 4]), (3, [0, 3, 4, 15]), (5, [0, 3, 4]), (4, [0, 3, 4]), (6, [2])], lk []⟩
noncomputable def Phi_spec_l01New : Tab := lk []
attribute [go_sem] T_spec_l01New Phi_spec_l01New
theorem phi_spec_l01New : ∀ f sp, Phi_spec_l01New f = some sp → FnOk Tryz.prog f sp ∧ ∀ n ∈ sp.need, n ∈ ([] : List String) := phi_nil
theorem ok_spec_l01New : FnOk Tryz.prog 26 spNew := by
  refine fn_ok (Φ := Phi_spec_l01New) (T := T_spec_l01New) phi_spec_l01New mixed Tryz.func26 rfl rfl rfl (by decide) ?_
  intro ins r outs hr hl
  clear hl
  have hs := spNew_in hr
  clear hr
  obtain ⟨code, rfl, hc, hr, rfl⟩ := hs
  simp only [spNew, Tryz.f26, Go.VM.initS]
  simp only [go_sem]
  repeat' ((first | apply qa | apply qb | apply qc | apply qd | apply qe | apply qf | apply qg | apply qh | apply qi | apply qj | apply qk) <;> intro hp <;> simp only [hp, go_sem])
  refine loop_go (fun p : Int × Nat => [(3, .int .i64 p.1), (4, .int .i64 (p.2 : Int))]) (fun _ => []) (fun p => 4000 - p.2) (fun p => p.2 ≤ 4000 ∧ p.2 ≤ code.length ∧ newH ((code.take 4000).drop p.2) p.1 = (cur0 code).h) (IntKind.i64.wrap (35201 + (code.length : Int)), 0) ⟨Nat.zero_le _, Nat.zero_le _, rfl⟩ rfl rfl ?_
  rintro ⟨h, i⟩ ⟨hi, hl, he⟩ ih
  simp only at hi hl he ih
  rcases Nat.lt_or_ge i code.length with g | g
  · have g1 : (i : Int) < code.length := by omega
    rcases Nat.lt_or_ge i 4000 with k | k
    · have g2 : (i : Int) < 4000 := by omega
      have g3 : (0 : Int) ≤ i := by omega
      have g4 : code[i]? = some code[i] := List.getElem?_eq_getElem g
      have g5 := wrap_succ g (by omega)
      have hlt : i < (code.take 4000).length := by rw [List.length_take]; omega
      rw [List.drop_eq_getElem_cons hlt, newH, List.getElem_take] at he
      have ih' := ih (newStep h code[i], i + 1) ⟨k, g, he⟩ (by simp only; omega)
      simp only at ih'
      simp only [g1, g2, g3, g4, g5, go_sem]
      repeat' ((first | apply qa | apply qb | apply qc | apply qd | apply qe | apply qf | apply qg | apply qh | apply qi | apply qj | apply qk) <;> intro hp <;> simp only [hp, g1, g2, g3, g4, g5, go_sem])
      exact ih'
    · have g2 : ¬ (i : Int) < 4000 := by omega
      have e : (code.take 4000).drop i = [] := List.drop_of_length_le (by rw [List.length_take]; omega)
      rw [e, newH] at he
      simp only [g1, g2, go_sem]
      repeat' ((first | apply qa | apply qb | apply qc | apply qd | apply qe | apply qf | apply qg | apply qh | apply qi | apply qj | apply qk) <;> intro hp <;> simp only [hp, g1, g2, go_sem])
      simp only [fin_mk, finV, resL, resV1, resIn, endA, listIn, Option.some_or, Option.none_or, oneOrTup, go_sem]
      rw [← hr]
      simp only [cur0, he]; rfl
  · have g1 : ¬ (i : Int) < code.length := by omega
    have e : (code.take 4000).drop i = [] := List.drop_of_length_le (by rw [List.length_take]; omega)
    rw [e, newH] at he
    simp only [g1, go_sem]
    repeat' ((first | apply qa | apply qb | apply qc | apply qd | apply qe | apply qf | apply qg | apply qh | apply qi | apply qj | apply qk) <;> intro hp <;> simp only [hp, g1, go_sem])
    simp only [fin_mk, finV, resL, resV1, resIn, endA, listIn, Option.some_or, Option.none_or, oneOrTup, go_sem]
    rw [← hr]
    simp only [cur0, he]; rfl
def curI (c : Cur) : Prop := 0 ≤ c.i ∧ c.i ≤ c.b.length ∧ c.b.length ≤ 4194304
def bytH (h : Int) : Int := IntKind.i64.wrap (IntKind.i64.wrap (h * 6364136223846793005) + 1442695040888963407)
def bytX (h : Int) : Int := andI (xorI (Int.fdiv h (2 ^ 33)) (Int.fdiv h (2 ^ 45))) 255
def bytO (c : Cur) : Int × Cur := if c.i < c.b.length then (andI (IntKind.i64.wrap (bytX (bytH c.h) + IntKind.i64.wrap (c.b.getD c.i.toNat 0))) 255, ⟨c.b, c.i + 1, bytH c.h⟩) else (bytX (bytH c.h), ⟨c.b, c.i, bytH c.h⟩)
theorem bytO_in {c : Cur} (h : curI c) : curI (bytO c).2 ∧ 0 ≤ (bytO c).1 ∧ (bytO c).1 ≤ 255 := by
  obtain ⟨h0, h1, h2⟩ := h
  unfold bytO
  split
  · exact ⟨⟨by simp only; omega, by simp only; omega, h2⟩, andI_255 _⟩
  · exact ⟨⟨h0, h1, h2⟩, andI_255 _⟩
open Classical in
noncomputable def spByte : VM.Spec := { modes := [.ptr], run := fun | [.rptr (c')] => (Cur.dec c').bind fun c => if curI c then some (.int .i64 ((bytO c).1), [.rptr (Cur.enc ((bytO c).2))]) else none | _ => none, need := [] }
attribute [go_sem] spByte
theorem spByte_in {ins : List V} {r : V} {outs : List V} (h : spByte.run ins = some (r, outs)) : ∃ (c : Cur), ins = [.rptr (Cur.enc c)] ∧ (curI c) ∧ .int .i64 ((bytO c).1) = r ∧ outs = [.rptr (Cur.enc ((bytO c).2))] := by
  unfold spByte at h
  simp only at h
  split at h
  · rename_i c'
    simp only [Option.bind_eq_some_iff] at h
    obtain ⟨c, h_c, h⟩ := h
    split at h
    case isFalse => cases h
    rename_i hc
    simp only [Option.some.injEq, Prod.mk.injEq] at h
    obtain ⟨h1, h2⟩ := h
    have h_c := Cur.dec_some h_c
    subst h_c
    exact ⟨c, rfl, hc, h1, h2.symm⟩
  · cases h
def T_spec_l01Byte : Hints := ⟨lk [(2, []), (3, []), (4, [])], lk [], lk [(0, [0]), (1, [0]), (2, [0, 3]), (3, [0, 3, 34]), (4, [0, 3]), (5, [3]), (6, [2])], lk []⟩
noncomputable def Phi_spec_l01Byte : Tab := lk []
attribute [go_sem] T_spec_l01Byte Phi_spec_l01Byte
theorem phi_spec_l01Byte : ∀ f sp, Phi_spec_l01Byte f = some sp → FnOk Tryz.prog f sp ∧ ∀ n ∈ sp.need, n ∈ ([] : List String) := phi_nil
theorem ok_spec_l01Byte : FnOk Tryz.prog 54 spByte := by
  refine fn_ok (Φ := Phi_spec_l01Byte) (T := T_spec_l01Byte) phi_spec_l01Byte mixed Tryz.func54 rfl rfl rfl (by decide) ?_
  intro ins r outs hr hl
  clear hl
  have hs := spByte_in hr
  clear hr
  obtain ⟨c, rfl, hc, hr, rfl⟩ := hs
  simp only [spByte, Tryz.f54, Go.VM.initS]
  obtain ⟨b, i, h⟩ := c
  obtain ⟨h0, h1, h2⟩ := hc
  simp only at h0 h1 h2
  obtain ⟨k, rfl⟩ : ∃ k : Nat, i = k := ⟨i.toNat, by omega⟩
  have hx : IntKind.i64.wrap (BitVec.ofInt IntKind.i64.bits (IntKind.i64.wrap (BitVec.ofInt IntKind.i64.bits (Int.fdiv (bytH h) (2 ^ 33)) ^^^ BitVec.ofInt IntKind.i64.bits (Int.fdiv (bytH h) (2 ^ 45))).toNat) &&& BitVec.ofInt IntKind.i64.bits 255).toNat = bytX (bytH h) := rfl
  by_cases g1 : (k : Int) < b.length
  · have g2 : k < b.length := by omega
    have e : bytO ⟨b, k, h⟩ = (andI (IntKind.i64.wrap (bytX (bytH h) + IntKind.i64.wrap b[k])) 255, ⟨b, ((k + 1 : Nat) : Int), bytH h⟩) := by
      rw [bytO, if_pos g1]
      simp only [Int.toNat_natCast, getD_lt g2]; rfl
    rw [e] at hr
    have g3 : b[k]? = some b[k] := List.getElem?_eq_getElem g2
    have g4 := wrap_succ g2 (by omega)
    simp only [g1, g3, g4, h0, go_sem]
    repeat' ((first | ((first | apply qa | apply qb | apply qc | apply qd | apply qe | apply qf | apply qg | apply qh | apply qi | apply qj | apply qk) <;> intro hp) | ((first | refine ql rfl rfl (by decide +kernel) ?_ | refine qm _ rfl rfl (by decide +kernel) ?_) <;> have hp := True.intro)) <;> simp only [hp, g1, g3, g4, h0, go_sem])
    simp only [fin_mk, finV, resL, resV1, resIn, endA, listIn, Option.some_or, Option.none_or, oneOrTup, go_sem]
    rw [← hr]
    simp only [e]; rfl
  · have e : bytO ⟨b, k, h⟩ = (bytX (bytH h), ⟨b, k, bytH h⟩) := by rw [bytO, if_neg g1]
    rw [e] at hr
    simp only [g1, go_sem]
    repeat' ((first | ((first | apply qa | apply qb | apply qc | apply qd | apply qe | apply qf | apply qg | apply qh | apply qi | apply qj | apply qk) <;> intro hp) | ((first | refine ql rfl rfl (by decide +kernel) ?_ | refine qm _ rfl rfl (by decide +kernel) ?_) <;> have hp := True.intro)) <;> simp only [hp, g1, go_sem])
    simp only [fin_mk, finV, resL, resV1, resIn, endA, listIn, Option.some_or, Option.none_or, oneOrTup, go_sem]
    rw [← hr]
    simp only [e]; rfl
def belO (c : Cur) (n : Int) : Int × Cur :=
  if n ≤ 0 then (0, c) else if n ≤ 256 then ((bytO c).1.tmod n, (bytO c).2) else
  (((bytO c).1 * 16777216 + (bytO (bytO c).2).1 * 65536 + (bytO (bytO (bytO c).2).2).1 * 256 + (bytO (bytO (bytO (bytO c).2).2).2).1).tmod n, (bytO (bytO (bytO (bytO c).2).2).2).2)
theorem belO_in {c : Cur} {n : Int} (h : curI c) : curI (belO c n).2 ∧ 0 ≤ (belO c n).1 ∧ (0 < n → (belO c n).1 < n) := by
  have h1 := bytO_in h
  have h2 := bytO_in h1.1
  have h3 := bytO_in h2.1
  have h4 := bytO_in h3.1
  unfold belO
  split
  · exact ⟨h, Int.le_refl 0, fun e => by omega⟩
  · split
    · exact ⟨h1.1, Int.tmod_nonneg _ h1.2.1, fun e => Int.tmod_lt_of_pos _ e⟩
    · exact ⟨h4.1, Int.tmod_nonneg _ (by omega), fun e => Int.tmod_lt_of_pos _ e⟩
open Classical in
noncomputable def spBelow : VM.Spec := { modes := [.ptr, .rd], run := fun | [.rptr (c'), .int .i64 n] => (Cur.dec c').bind fun c => if curI c then some (.int .i64 ((belO c n).1), [.rptr (Cur.enc ((belO c n).2))]) else none | _ => none, need := [] }
attribute [go_sem] spBelow
theorem spBelow_in {ins : List V} {r : V} {outs : List V} (h : spBelow.run ins = some (r, outs)) : ∃ (c : Cur) (n : Int), ins = [.rptr (Cur.enc c), .int .i64 n] ∧ (curI c) ∧ .int .i64 ((belO c n).1) = r ∧ outs = [.rptr (Cur.enc ((belO c n).2))] := by
  unfold spBelow at h
  simp only at h
  split at h
  · rename_i c' n
    simp only [Option.bind_eq_some_iff] at h
    obtain ⟨c, h_c, h⟩ := h
    split at h
    case isFalse => cases h
    rename_i hc
    simp only [Option.some.injEq, Prod.mk.injEq] at h
    obtain ⟨h1, h2⟩ := h
    have h_c := Cur.dec_some h_c
    subst h_c
    exact ⟨c, n, rfl, hc, h1, h2.symm⟩
  · cases h
def T_spec_l01Below : Hints := ⟨lk [], lk [], lk [(0, [0, 1]), (1, [0, 1, 10]), (2, [4]), (3, [0, 1, 12]), (4, [4]), (5, [0, 1, 5]), (6, [0, 1, 5, 6]), (7, [0, 1, 5, 6, 7]), (8, [1, 5, 6, 7, 8]), (9, [4])], lk []⟩
noncomputable def Phi_spec_l01Below : Tab := lk [(54, spByte)]
attribute [go_sem] T_spec_l01Below Phi_spec_l01Below
theorem phi_spec_l01Below : ∀ f sp, Phi_spec_l01Below f = some sp → FnOk Tryz.prog f sp ∧ ∀ n ∈ sp.need, n ∈ ([] : List String) := phi_cons ok_spec_l01Byte (n0 rfl) (phi_nil)
theorem ok_spec_l01Below : FnOk Tryz.prog 31 spBelow := by
  refine fn_ok (Φ := Phi_spec_l01Below) (T := T_spec_l01Below) phi_spec_l01Below mixed Tryz.func31 rfl rfl rfl (by decide) ?_
  intro ins r outs hr hl
  clear hl
  have hs := spBelow_in hr
  clear hr
  obtain ⟨c, n, rfl, hc, hr, rfl⟩ := hs
  simp only [spBelow, Tryz.f31, Go.VM.initS]
  by_cases g1 : n ≤ 0
  · have e : belO c n = (0, c) := by rw [belO, if_pos g1]
    rw [e] at hr
    simp only [g1, go_sem]
    repeat' ((first | apply qa | apply qb | apply qc | apply qd | apply qe | apply qf | apply qg | apply qh | apply qi | apply qj | apply qk) <;> intro hp <;> simp only [hp, g1, go_sem])
    simp only [fin_mk, finV, resL, resV1, resIn, endA, listIn, Option.some_or, Option.none_or, oneOrTup, go_sem]
    rw [← hr]
    simp only [e]
  · by_cases g2 : n ≤ 256
    · have e : belO c n = ((bytO c).1.tmod n, (bytO c).2) := by rw [belO, if_neg g1, if_pos g2]
      rw [e] at hr
      have g3 : ¬ n = 0 := by omega
      simp only [hc, g1, g2, g3, go_sem]
      repeat' ((first | apply qa | apply qb | apply qc | apply qd | apply qe | apply qf | apply qg | apply qh | apply qi | apply qj | apply qk) <;> intro hp <;> simp only [hp, hc, g1, g2, g3, go_sem])
      simp only [fin_mk, finV, resL, resV1, resIn, endA, listIn, Option.some_or, Option.none_or, oneOrTup, go_sem]
      rw [← hr]
      simp only [e]
    · have e : belO c n = (((bytO c).1 * 16777216 + (bytO (bytO c).2).1 * 65536 + (bytO (bytO (bytO c).2).2).1 * 256 + (bytO (bytO (bytO (bytO c).2).2).2).1).tmod n, (bytO (bytO (bytO (bytO c).2).2).2).2) := by rw [belO, if_neg g1, if_neg g2]
      rw [e] at hr
      have h1 := bytO_in hc
      obtain ⟨⟨v1, c1⟩, e1⟩ : ∃ x, bytO c = x := ⟨_, rfl⟩
      rw [e1] at h1 hr e
      simp only at h1 hr e
      have h2 := bytO_in h1.1
      obtain ⟨⟨v2, c2⟩, e2⟩ : ∃ x, bytO c1 = x := ⟨_, rfl⟩
      rw [e2] at h2 hr e
      simp only at h2 hr e
      have h3 := bytO_in h2.1
      obtain ⟨⟨v3, c3⟩, e3⟩ : ∃ x, bytO c2 = x := ⟨_, rfl⟩
      rw [e3] at h3 hr e
      simp only at h3 hr e
      have h4 := bytO_in h3.1
      obtain ⟨⟨v4, c4⟩, e4⟩ : ∃ x, bytO c3 = x := ⟨_, rfl⟩
      rw [e4] at h4 hr e
      simp only at h4 hr e
      have g3 : ¬ n = 0 := by omega
      have w1 : IntKind.i64.wrap (v1 * 16777216) = v1 * 16777216 := wrap64 (by omega) (by omega)
      have w2 : IntKind.i64.wrap (v2 * 65536) = v2 * 65536 := wrap64 (by omega) (by omega)
      have w3 : IntKind.i64.wrap (v3 * 256) = v3 * 256 := wrap64 (by omega) (by omega)
      have w4 : IntKind.i64.wrap (v1 * 16777216 + v2 * 65536) = v1 * 16777216 + v2 * 65536 := wrap64 (by omega) (by omega)
      have w5 : IntKind.i64.wrap (v1 * 16777216 + v2 * 65536 + v3 * 256) = v1 * 16777216 + v2 * 65536 + v3 * 256 := wrap64 (by omega) (by omega)
      have w6 : IntKind.i64.wrap (v1 * 16777216 + v2 * 65536 + v3 * 256 + v4) = v1 * 16777216 + v2 * 65536 + v3 * 256 + v4 := wrap64 (by omega) (by omega)
      simp only [hc, h1.1, h2.1, h3.1, h4.1, e1, e2, e3, e4, g1, g2, g3, w1, w2, w3, w4, w5, w6, go_sem]
      repeat' ((first | apply qa | apply qb | apply qc | apply qd | apply qe | apply qf | apply qg | apply qh | apply qi | apply qj | apply qk) <;> intro hp <;> simp only [hp, hc, h1.1, h2.1, h3.1, h4.1, e1, e2, e3, e4, g1, g2, g3, w1, w2, w3, w4, w5, w6, go_sem])
      simp only [fin_mk, finV, resL, resV1, resIn, endA, listIn, Option.some_or, Option.none_or, oneOrTup, go_sem]
      rw [← hr]
      simp only [e]
def plc : Nat → Cur → List Int → List Int
  | 0, _, a => a
  | k + 1, c, a => plc k (belO c 10000).2 (a ++ [(belO c 10000).1])
def places (code : List Int) : List Int := plc 12 (bytO (cur0 code)).2 []
theorem plc_in : ∀ (k : Nat) {c : Cur} {a : List Int}, curI c → (∀ x ∈ a, 0 ≤ x ∧ x < 10000) → (plc k c a).length = a.length + k ∧ ∀ x ∈ plc k c a, 0 ≤ x ∧ x < 10000
  | 0, c, a, _, ha => ⟨rfl, ha⟩
  | k + 1, c, a, hc, ha => by
    have h := belO_in (n := 10000) hc
    obtain ⟨h1, h2⟩ := plc_in k (a := a ++ [(belO c 10000).1]) h.1 fun x hx => by
      rcases List.mem_append.1 hx with hx | hx
      · exact ha x hx
      · simp only [List.mem_singleton] at hx; subst hx; exact ⟨h.2.1, h.2.2 (by decide)⟩
    refine ⟨?_, h2⟩
    rw [plc, h1, List.length_append]; simp; omega
theorem cur0_in {code : List Int} (h : code.length ≤ 4194304) : curI (cur0 code) := ⟨Int.le_refl 0, by simp only [cur0]; omega, h⟩
theorem places_in {code : List Int} (h : code.length ≤ 4194304) : (places code).length = 12 ∧ ∀ x ∈ places code, 0 ≤ x ∧ x < 10000 := by
  have := plc_in 12 (c := (bytO (cur0 code)).2) (a := []) (bytO_in (cur0_in h)).1 (by simp)
  unfold places
  simpa using this
open Classical in
noncomputable def spPlaces : VM.Spec := { modes := [.rd], run := fun | [.lst 1 code'] => (decL dU8 code').bind fun code => if code.length ≤ 4194304 then some (.lst 1 ((places code).map eInt), []) else none | _ => none, need := [] }
attribute [go_sem] spPlaces
theorem spPlaces_in {ins : List V} {r : V} {outs : List V} (h : spPlaces.run ins = some (r, outs)) : ∃ (code : (List Int)), ins = [.lst 1 ((code).map eU8)] ∧ (code.length ≤ 4194304) ∧ .lst 1 ((places code).map eInt) = r ∧ outs = [] := by
  unfold spPlaces at h
  simp only at h
  split at h
  · rename_i code'
    simp only [Option.bind_eq_some_iff] at h
    obtain ⟨code, h_code, h⟩ := h
    split at h
    case isFalse => cases h
    rename_i hc
    simp only [Option.some.injEq, Prod.mk.injEq] at h
    obtain ⟨h1, h2⟩ := h
    have h_code := decL_some (fun _ _ h => dU8_some h) h_code
    subst h_code
    exact ⟨code, rfl, hc, h1, h2.symm⟩
  · cases h
def T_spec_DrawPlaces : Hints := ⟨lk [], lk [(5, [3, 4, 5])], lk [(0, [0]), (1, [3]), (2, [3]), (3, [3, 4]), (4, [3, 4, 5]), (5, [3, 4, 5, 12]), (7, [3, 4, 5]), (6, [3, 4, 5]), (8, [2])], lk []⟩
noncomputable def Phi_spec_DrawPlaces : Tab := lk [(26, spNew), (54, spByte), (31, spBelow)]
attribute [go_sem] T_spec_DrawPlaces Phi_spec_DrawPlaces
theorem phi_spec_DrawPlaces : ∀ f sp, Phi_spec_DrawPlaces f = some sp → FnOk Tryz.prog f sp ∧ ∀ n ∈ sp.need, n ∈ ([] : List String) := phi_cons ok_spec_l01New (n0 rfl) (phi_cons ok_spec_l01Byte (n0 rfl) (phi_cons ok_spec_l01Below (n0 rfl) (phi_nil)))
theorem ok_spec_DrawPlaces : FnOk Tryz.prog 19 spPlaces := by
  refine fn_ok (Φ := Phi_spec_DrawPlaces) (T := T_spec_DrawPlaces) phi_spec_DrawPlaces mixed Tryz.func19 rfl rfl rfl (by decide) ?_
  intro ins r outs hr hl
  clear hl
  have hs := spPlaces_in hr
  clear hr
  obtain ⟨code, rfl, hc, hr, rfl⟩ := hs
  simp only [spPlaces, Tryz.f19, Go.VM.initS]
  have i0 := cur0_in hc
  have i1 := (bytO_in i0).1
  rw [places] at hr
  obtain ⟨d, hd⟩ : ∃ d, cur0 code = d := ⟨_, rfl⟩
  rw [hd] at i0 i1 hr
  simp only [hc, i0, hd, go_sem]
  repeat' ((first | apply qa | apply qb | apply qc | apply qd | apply qe | apply qf | apply qg | apply qh | apply qi | apply qj | apply qk) <;> intro hp <;> simp only [hp, hc, i0, hd, go_sem])
  refine loop_go (fun p : Nat × Cur × List Int => [(5, .int .i64 (p.1 : Int))]) (fun p => [(0, ⟨.box, 3, [p.2.1.enc]⟩), (1, ⟨.arr, 1, p.2.2.map eInt⟩)]) (fun p => 12 - p.1) (fun p => p.1 ≤ 12 ∧ curI p.2.1 ∧ p.2.2.length = p.1 ∧ plc (12 - p.1) p.2.1 p.2.2 = plc 12 (bytO d).2 []) (0, (bytO d).2, []) ⟨Nat.zero_le _, i1, rfl, rfl⟩ rfl rfl ?_
  rintro ⟨i, c, a⟩ ⟨hi, hci, hl, he⟩ ih
  simp only at hi hci hl he ih
  rcases Nat.lt_or_ge i 12 with h | h
  · have g1 : (i : Int) < 12 := by omega
    have g5 := wrap_succ h (by omega)
    rw [show 12 - i = (12 - (i + 1)) + 1 by omega, plc] at he
    have ih' := ih (i + 1, (belO c 10000).2, a ++ [(belO c 10000).1]) ⟨h, (belO_in hci).1, by simp [hl], he⟩ (by simp only; omega)
    simp only [List.map_append, List.map_cons, List.map_nil] at ih'
    have g6 : a.length + 1 ≤ 140737488355328 := by omega
    have g7 : a.length ≤ 9223372036854775806 := by omega
    have g8 : a.length ≤ 17592186044415 := by omega
    simp only [hci, g1, g5, g6, g7, g8, go_sem]
    repeat' ((first | apply qa | apply qb | apply qc | apply qd | apply qe | apply qf | apply qg | apply qh | apply qi | apply qj | apply qk) <;> intro hp <;> simp only [hp, hci, g1, g5, g6, g7, g8, go_sem])
    all_goals first | exact ih' | (clear ih'; omega)
  · have h12 : i = 12 := by omega
    subst h12
    have he' : a = plc 12 (bytO d).2 [] := he
    have g1 : ¬ (((12 : Nat) : Int)) < 12 := by decide
    simp only [g1, go_sem]
    repeat' ((first | apply qa | apply qb | apply qc | apply qd | apply qe | apply qf | apply qg | apply qh | apply qi | apply qj | apply qk) <;> intro hp <;> simp only [hp, g1, go_sem])
    simp only [fin_mk, finV, resL, resV1, resIn, endA, listIn, Option.some_or, Option.none_or, oneOrTup, go_sem]
    rw [← hr]
    rw [he']
end Go.Proofs.YtonjbbfgdloljaaGreatDoor.L

namespace Go.Proofs.YtonjbbfgdloljaaGreatDoor.L
open Go Go.VM
set_option maxRecDepth 100000
set_option maxHeartbeats 4000000
set_option linter.unusedSimpArgs false
set_option linter.unusedVariables false
def pickO (c : Cur) (l : List (List UInt8)) : List UInt8 × Cur := (l.getD (belO c l.length).1.toNat [], (belO c l.length).2)
theorem pickO_in {c : Cur} {l : List (List UInt8)} (h : curI c) (hl : 0 < l.length) : curI (pickO c l).2 ∧ (pickO c l).1 ∈ l := by
  have h1 := belO_in (n := (l.length : Int)) h
  have h2 := h1.2.2 (by omega)
  refine ⟨h1.1, ?_⟩
  have h3 : (belO c l.length).1.toNat < l.length := by omega
  rw [pickO]
  simp only [getD_lt h3]
  exact List.getElem_mem h3
open Classical in
noncomputable def spOnce : VM.Spec := { modes := [.ptr, .rd], run := fun | [.rptr (c'), .int .i64 n] => (Cur.dec c').bind fun c => if curI c then some (.bool (((belO c n).1 == 0)), [.rptr (Cur.enc ((belO c n).2))]) else none | _ => none, need := [] }
attribute [go_sem] spOnce
theorem spOnce_in {ins : List V} {r : V} {outs : List V} (h : spOnce.run ins = some (r, outs)) : ∃ (c : Cur) (n : Int), ins = [.rptr (Cur.enc c), .int .i64 n] ∧ (curI c) ∧ .bool (((belO c n).1 == 0)) = r ∧ outs = [.rptr (Cur.enc ((belO c n).2))] := by
  unfold spOnce at h
  simp only at h
  split at h
  · rename_i c' n
    simp only [Option.bind_eq_some_iff] at h
    obtain ⟨c, h_c, h⟩ := h
    split at h
    case isFalse => cases h
    rename_i hc
    simp only [Option.some.injEq, Prod.mk.injEq] at h
    obtain ⟨h1, h2⟩ := h
    have h_c := Cur.dec_some h_c
    subst h_c
    exact ⟨c, n, rfl, hc, h1, h2.symm⟩
  · cases h
def T_spec_l01Once : Hints := ⟨lk [], lk [], lk [(0, [0, 1]), (1, [4])], lk []⟩
noncomputable def Phi_spec_l01Once : Tab := lk [(31, spBelow)]
attribute [go_sem] T_spec_l01Once Phi_spec_l01Once
theorem phi_spec_l01Once : ∀ f sp, Phi_spec_l01Once f = some sp → FnOk Tryz.prog f sp ∧ ∀ n ∈ sp.need, n ∈ ([] : List String) := phi_cons ok_spec_l01Below (n0 rfl) (phi_nil)
theorem ok_spec_l01Once : FnOk Tryz.prog 95 spOnce := by
  refine fn_ok (Φ := Phi_spec_l01Once) (T := T_spec_l01Once) phi_spec_l01Once mixed Tryz.func95 rfl rfl rfl (by decide) ?_
  intro ins r outs hr hl
  clear hl
  have hs := spOnce_in hr
  clear hr
  obtain ⟨c, n, rfl, hc, hr, rfl⟩ := hs
  simp only [spOnce, Tryz.f95, Go.VM.initS]
  simp only [hc, go_sem]
  repeat' ((first | apply qa | apply qb | apply qc | apply qd | apply qe | apply qf | apply qg | apply qh | apply qi | apply qj | apply qk) <;> intro hp <;> simp only [hp, hc, go_sem])
  simp only [fin_mk, finV, resL, resV1, resIn, endA, listIn, Option.some_or, Option.none_or, oneOrTup, go_sem]
  rw [← hr]
open Classical in
noncomputable def spPick : VM.Spec := { modes := [.ptr, .use], run := fun | [.rptr (c'), .lst 1 l'] => (Cur.dec c').bind fun c => (decL dStr l').bind fun l => if curI c ∧ 0 < l.length ∧ l.length ≤ 4194304 then some (.str ((pickO c l).1), [.rptr (Cur.enc ((pickO c l).2))]) else none | _ => none, need := [] }
attribute [go_sem] spPick
theorem spPick_in {ins : List V} {r : V} {outs : List V} (h : spPick.run ins = some (r, outs)) : ∃ (c : Cur) (l : (List (List UInt8))), ins = [.rptr (Cur.enc c), .lst 1 ((l).map eStr)] ∧ (curI c ∧ 0 < l.length ∧ l.length ≤ 4194304) ∧ .str ((pickO c l).1) = r ∧ outs = [.rptr (Cur.enc ((pickO c l).2))] := by
  unfold spPick at h
  simp only at h
  split at h
  · rename_i c' l'
    simp only [Option.bind_eq_some_iff] at h
    obtain ⟨c, h_c, l, h_l, h⟩ := h
    split at h
    case isFalse => cases h
    rename_i hc
    simp only [Option.some.injEq, Prod.mk.injEq] at h
    obtain ⟨h1, h2⟩ := h
    have h_c := Cur.dec_some h_c
    subst h_c
    have h_l := decL_some (fun _ _ h => dStr_some h) h_l
    subst h_l
    exact ⟨c, l, rfl, hc, h1, h2.symm⟩
  · cases h
def T_spec_l01Pick : Hints := ⟨lk [], lk [], lk [(0, [0, 1]), (1, [4])], lk []⟩
noncomputable def Phi_spec_l01Pick : Tab := lk [(31, spBelow)]
attribute [go_sem] T_spec_l01Pick Phi_spec_l01Pick
theorem phi_spec_l01Pick : ∀ f sp, Phi_spec_l01Pick f = some sp → FnOk Tryz.prog f sp ∧ ∀ n ∈ sp.need, n ∈ ([] : List String) := phi_cons ok_spec_l01Below (n0 rfl) (phi_nil)
theorem ok_spec_l01Pick : FnOk Tryz.prog 32 spPick := by
  refine fn_ok (Φ := Phi_spec_l01Pick) (T := T_spec_l01Pick) phi_spec_l01Pick mixed Tryz.func32 rfl rfl rfl (by decide) ?_
  intro ins r outs hr hl
  clear hl
  have hs := spPick_in hr
  clear hr
  obtain ⟨c, l, rfl, hc, hr, rfl⟩ := hs
  simp only [spPick, Tryz.f32, Go.VM.initS]
  obtain ⟨hc, hl, hl2⟩ := hc
  have h1 := belO_in (n := (l.length : Int)) hc
  have h2 := h1.2.2 (by omega)
  obtain ⟨⟨v, d⟩, e⟩ : ∃ x, belO c l.length = x := ⟨_, rfl⟩
  rw [e] at h1 h2
  simp only at h1 h2
  obtain ⟨k, rfl⟩ : ∃ k : Nat, v = k := ⟨v.toNat, by omega⟩
  have g2 : k < l.length := by omega
  have e2 : pickO c l = (l[k], d) := by rw [pickO, e]; simp only [Int.toNat_natCast, getD_lt g2]
  rw [e2] at hr
  have g1 : (0 : Int) ≤ k := by omega
  have g3 : l[k]? = some l[k] := List.getElem?_eq_getElem g2
  have g4 : (k : Int) < l.length := by omega
  simp only [hc, e, g1, g3, g4, go_sem]
  repeat' ((first | apply qa | apply qb | apply qc | apply qd | apply qe | apply qf | apply qg | apply qh | apply qi | apply qj | apply qk) <;> intro hp <;> simp only [hp, hc, e, g1, g3, g4, go_sem])
  simp only [fin_mk, finV, resL, resV1, resIn, endA, listIn, Option.some_or, Option.none_or, oneOrTup, go_sem]
  rw [← hr]
  first | rfl | (simp only [e2]; rfl) | simp only [e2]
def pickI (c : Cur) (l : List Int) : Int × Cur := (l.getD (belO c l.length).1.toNat 0, (belO c l.length).2)
open Classical in
noncomputable def spPickI : VM.Spec := { modes := [.ptr, .use], run := fun | [.rptr (c'), .lst 1 l'] => (Cur.dec c').bind fun c => (decL dInt l').bind fun l => if curI c ∧ 0 < l.length ∧ l.length ≤ 4194304 then some (.int .i64 ((pickI c l).1), [.rptr (Cur.enc ((pickI c l).2))]) else none | _ => none, need := [] }
attribute [go_sem] spPickI
end Go.Proofs.YtonjbbfgdloljaaGreatDoor.L

namespace Go.Proofs.YtonjbbfgdloljaaGreatDoor.L
open Go Go.VM
set_option maxRecDepth 100000
set_option maxHeartbeats 4000000
set_option linter.unusedSimpArgs false
set_option linter.unusedVariables false
def isB (c : Int) (b : UInt8) : Bool := (b.toNat : Int) == c
def trimL (c : Int) (s : List UInt8) : List UInt8 := s.dropWhile (isB c)
def trimR (c : Int) (s : List UInt8) : List UInt8 := (s.reverse.dropWhile (isB c)).reverse
def trim (s : List UInt8) : List UInt8 := trimL 32 (trimR 32 s)
theorem trimL_hit {c : Int} {b : UInt8} {s : List UInt8} (h : isB c b = true) : trimL c (b :: s) = trimL c s := by simp [trimL, List.dropWhile_cons, h]
theorem trimL_miss {c : Int} {b : UInt8} {s : List UInt8} (h : isB c b = false) : trimL c (b :: s) = b :: s := by simp [trimL, List.dropWhile_cons, h]
theorem trimR_hit {c : Int} {b : UInt8} {s : List UInt8} (h : isB c b = true) : trimR c (s ++ [b]) = trimR c s := by simp [trimR, List.dropWhile_cons, h]
theorem trimR_miss {c : Int} {b : UInt8} {s : List UInt8} (h : isB c b = false) : trimR c (s ++ [b]) = s ++ [b] := by simp [trimR, List.dropWhile_cons, h]
theorem trimL_len (c : Int) (s : List UInt8) : (trimL c s).length ≤ s.length := by
  induction s with
  | nil => simp [trimL]
  | cons b s ih =>
    cases h : isB c b with
    | true => rw [trimL_hit h]; simp; omega
    | false => rw [trimL_miss h]; simp
theorem trimR_len (c : Int) (s : List UInt8) : (trimR c s).length ≤ s.length := by
  have := trimL_len c s.reverse
  simp only [trimL, List.length_reverse] at this
  simpa [trimR] using this
theorem trim_len (s : List UInt8) : (trim s).length ≤ s.length := Nat.le_trans (trimL_len _ _) (trimR_len _ _)
theorem no0 : ¬ (0 : Int) < ((0 : Nat) : Int) := by decide
theorem snoc_of {u : List UInt8} {n : Nat} (h : u.length = n + 1) : u = u.take n ++ [u[n]] := by
  have := take_succ' (x := u) (i := n) (by omega)
  rw [← this, List.take_of_length_le (by omega)]
open Classical in
noncomputable def spTrimL : VM.Spec := { modes := [.rd, .rd], run := fun | [.str s, .int .u8 c] => if s.length ≤ 1099511627776 then some (.str (trimL c s), []) else none | _ => none, need := [] }
attribute [go_sem] spTrimL
theorem spTrimL_in {ins : List V} {r : V} {outs : List V} (h : spTrimL.run ins = some (r, outs)) : ∃ (s : (List UInt8)) (c : Int), ins = [.str s, .int .u8 c] ∧ (s.length ≤ 1099511627776) ∧ .str (trimL c s) = r ∧ outs = [] := by
  unfold spTrimL at h
  simp only at h
  split at h
  · rename_i s c
    split at h
    case isFalse => cases h
    rename_i hc
    simp only [Option.some.injEq, Prod.mk.injEq] at h
    obtain ⟨h1, h2⟩ := h
    exact ⟨s, c, rfl, hc, h1, h2.symm⟩
  · cases h
def T_strings_trimLeftByte : Hints := ⟨lk [], lk [(1, [0, 1])], lk [(0, [0, 1]), (1, [0, 1, 13]), (2, [0, 1]), (3, [4])], lk []⟩
noncomputable def Phi_strings_trimLeftByte : Tab := lk []
attribute [go_sem] T_strings_trimLeftByte Phi_strings_trimLeftByte
theorem phi_strings_trimLeftByte : ∀ f sp, Phi_strings_trimLeftByte f = some sp → FnOk Tryz.prog f sp ∧ ∀ n ∈ sp.need, n ∈ ([] : List String) := phi_nil
theorem ok_strings_trimLeftByte : FnOk Tryz.prog 152 spTrimL := by
  refine fn_ok (Φ := Phi_strings_trimLeftByte) (T := T_strings_trimLeftByte) phi_strings_trimLeftByte mixed Tryz.func152 rfl rfl rfl (by decide) ?_
  intro ins r outs hr hl
  clear hl
  have hs := spTrimL_in hr
  clear hr
  obtain ⟨s, c, rfl, hc, hr, rfl⟩ := hs
  simp only [spTrimL, Tryz.f152, Go.VM.initS]
  simp only [go_sem]
  refine loop_go (fun u : List UInt8 => [(0, .str u)]) (fun _ => []) (fun u => u.length) (fun u => u.length ≤ s.length ∧ trimL c u = trimL c s) s ⟨Nat.le_refl _, rfl⟩ rfl rfl ?_
  rintro u ⟨hu, he⟩ ih
  cases u with
  | nil =>
    simp only [no0, go_sem]
    simp only [fin_mk, finV, resL, resV1, resIn, endA, listIn, Option.some_or, Option.none_or, oneOrTup, go_sem]
    rw [← hr]
    rw [← he]; rfl
  | cons b u =>
    have g1 : (0 : Int) < ((u.length + 1 : Nat) : Int) := by omega
    have g2 : 1 ≤ u.length + 1 := by omega
    simp only [List.length_cons] at hu
    cases hb : isB c b with
    | true =>
      have hb' : ((b.toNat : Int) == c) = true := hb
      have ih' := ih u ⟨by omega, by rw [← he, trimL_hit hb]⟩ (by simp)
      simp only [g1, g2, hb', List.take_succ_cons, List.take_length, List.drop_succ_cons, Nat.le_refl, Int.reduceToNat, go_sem]
      repeat' ((first | apply qa | apply qb | apply qc | apply qd | apply qe | apply qf | apply qg | apply qh | apply qi | apply qj | apply qk) <;> intro hp <;> simp only [hp, g1, g2, hb', List.take_succ_cons, List.take_length, List.drop_succ_cons, Nat.le_refl, Int.reduceToNat, go_sem])
      exact ih'
    | false =>
      have hb' : ((b.toNat : Int) == c) = false := hb
      simp only [g1, hb', go_sem]
      repeat' ((first | apply qa | apply qb | apply qc | apply qd | apply qe | apply qf | apply qg | apply qh | apply qi | apply qj | apply qk) <;> intro hp <;> simp only [hp, g1, hb', go_sem])
      simp only [fin_mk, finV, resL, resV1, resIn, endA, listIn, Option.some_or, Option.none_or, oneOrTup, go_sem]
      rw [← hr]
      rw [← he, trimL_miss hb]
open Classical in
noncomputable def spTrimR : VM.Spec := { modes := [.rd, .rd], run := fun | [.str s, .int .u8 c] => if s.length ≤ 1099511627776 then some (.str (trimR c s), []) else none | _ => none, need := [] }
attribute [go_sem] spTrimR
theorem spTrimR_in {ins : List V} {r : V} {outs : List V} (h : spTrimR.run ins = some (r, outs)) : ∃ (s : (List UInt8)) (c : Int), ins = [.str s, .int .u8 c] ∧ (s.length ≤ 1099511627776) ∧ .str (trimR c s) = r ∧ outs = [] := by
  unfold spTrimR at h
  simp only at h
  split at h
  · rename_i s c
    split at h
    case isFalse => cases h
    rename_i hc
    simp only [Option.some.injEq, Prod.mk.injEq] at h
    obtain ⟨h1, h2⟩ := h
    exact ⟨s, c, rfl, hc, h1, h2.symm⟩
  · cases h
def T_strings_trimRightByte : Hints := ⟨lk [], lk [(1, [0, 1])], lk [(0, [0, 1]), (1, [0, 1, 16]), (2, [0, 1]), (3, [4])], lk []⟩
noncomputable def Phi_strings_trimRightByte : Tab := lk []
attribute [go_sem] T_strings_trimRightByte Phi_strings_trimRightByte
theorem phi_strings_trimRightByte : ∀ f sp, Phi_strings_trimRightByte f = some sp → FnOk Tryz.prog f sp ∧ ∀ n ∈ sp.need, n ∈ ([] : List String) := phi_nil
theorem ok_strings_trimRightByte : FnOk Tryz.prog 153 spTrimR := by
  refine fn_ok (Φ := Phi_strings_trimRightByte) (T := T_strings_trimRightByte) phi_strings_trimRightByte mixed Tryz.func153 rfl rfl rfl (by decide) ?_
  intro ins r outs hr hl
  clear hl
  have hs := spTrimR_in hr
  clear hr
  obtain ⟨s, c, rfl, hc, hr, rfl⟩ := hs
  simp only [spTrimR, Tryz.f153, Go.VM.initS]
  simp only [go_sem]
  refine loop_go (fun u : List UInt8 => [(0, .str u)]) (fun _ => []) (fun u => u.length) (fun u => u.length ≤ s.length ∧ trimR c u = trimR c s) s ⟨Nat.le_refl _, rfl⟩ rfl rfl ?_
  rintro u ⟨hu, he⟩ ih
  cases hn : u.length with
  | zero =>
    simp only [hn, no0, go_sem]
    simp only [fin_mk, finV, resL, resV1, resIn, endA, listIn, Option.some_or, Option.none_or, oneOrTup, go_sem]
    rw [← hr]
    have : u = [] := List.eq_nil_of_length_eq_zero hn
    subst this
    rw [← he]; rfl
  | succ n =>
    have g1 : (0 : Int) < ((n + 1 : Nat) : Int) := by omega
    have g2 : n ≤ n + 1 := by omega
    have g3 : (0 : Int) ≤ n := by omega
    have g4 : IntKind.i64.wrap (((n + 1 : Nat) : Int) - 1) = n := (wrap64 (by omega) (by omega)).trans (by omega)
    have g5 : u[n]? = some (u[n]'(by omega)) := List.getElem?_eq_getElem (by omega)
    have es := snoc_of hn
    cases hb : isB c (u[n]'(by omega)) with
    | true =>
      have hb' : (((u[n]'(by omega)).toNat : Int) == c) = true := hb
      have ih' := ih (u.take n) ⟨by rw [List.length_take]; omega, by rw [← he]; conv => rhs; rw [es, trimR_hit hb]⟩ (by rw [List.length_take]; omega)
      simp only [g1, g2, g3, g4, g5, hn, hb', Int.toNat_natCast, List.drop_zero, Nat.zero_le, go_sem]
      repeat' ((first | apply qa | apply qb | apply qc | apply qd | apply qe | apply qf | apply qg | apply qh | apply qi | apply qj | apply qk) <;> intro hp <;> simp only [hp, g1, g2, g3, g4, g5, hn, hb', Int.toNat_natCast, List.drop_zero, Nat.zero_le, go_sem])
      exact ih'
    | false =>
      have hb' : (((u[n]'(by omega)).toNat : Int) == c) = false := hb
      simp only [g1, g3, g4, g5, hn, hb', go_sem]
      repeat' ((first | apply qa | apply qb | apply qc | apply qd | apply qe | apply qf | apply qg | apply qh | apply qi | apply qj | apply qk) <;> intro hp <;> simp only [hp, g1, g3, g4, g5, hn, hb', go_sem])
      simp only [fin_mk, finV, resL, resV1, resIn, endA, listIn, Option.some_or, Option.none_or, oneOrTup, go_sem]
      rw [← hr]
      rw [← he]; conv => rhs; rw [es, trimR_miss hb, ← es]
open Classical in
noncomputable def spTrim : VM.Spec := { modes := [.rd, .rd], run := fun | [.str s, .str t] => if t = [32] ∧ s.length ≤ 1099511627776 then some (.str (trim s), []) else none | _ => none, need := [] }
attribute [go_sem] spTrim
theorem spTrim_in {ins : List V} {r : V} {outs : List V} (h : spTrim.run ins = some (r, outs)) : ∃ (s : (List UInt8)) (t : (List UInt8)), ins = [.str s, .str t] ∧ (t = [32] ∧ s.length ≤ 1099511627776) ∧ .str (trim s) = r ∧ outs = [] := by
  unfold spTrim at h
  simp only at h
  split at h
  · rename_i s t
    split at h
    case isFalse => cases h
    rename_i hc
    simp only [Option.some.injEq, Prod.mk.injEq] at h
    obtain ⟨h1, h2⟩ := h
    exact ⟨s, t, rfl, hc, h1, h2.symm⟩
  · cases h
def T_strings_Trim : Hints := ⟨lk [(4, [])], lk [], lk [(0, [0, 1]), (1, [0, 1, 12]), (2, [4]), (3, [0, 1, 21]), (4, [4]), (5, [0, 1, 5, 6]), (6, [0, 1, 5, 34]), (7, [4]), (8, [4])], lk []⟩
noncomputable def Phi_strings_Trim : Tab := lk [(152, spTrimL), (153, spTrimR)]
attribute [go_sem] T_strings_Trim Phi_strings_Trim
theorem phi_strings_Trim : ∀ f sp, Phi_strings_Trim f = some sp → FnOk Tryz.prog f sp ∧ ∀ n ∈ sp.need, n ∈ ([] : List String) := phi_cons ok_strings_trimLeftByte (n0 rfl) (phi_cons ok_strings_trimRightByte (n0 rfl) (phi_nil))
theorem ok_strings_Trim : FnOk Tryz.prog 130 spTrim := by
  refine fn_ok (Φ := Phi_strings_Trim) (T := T_strings_Trim) phi_strings_Trim mixed Tryz.func130 rfl rfl rfl (by decide) ?_
  intro ins r outs hr hl
  clear hl
  have hs := spTrim_in hr
  clear hr
  obtain ⟨s, t, rfl, hc, hr, rfl⟩ := hs
  simp only [spTrim, Tryz.f130, Go.VM.initS]
  obtain ⟨rfl, hl⟩ := hc
  have hl' := Nat.le_trans (trimR_len 32 s) hl
  have c32 : ((UInt8.toNat 32 : Nat) : Int) = 32 := rfl
  have c1 : (((1 : Nat) : Int) == 1) = true := rfl
  have c2 : (([32] : List UInt8) == []) = false := rfl
  cases he : (s == []) with
  | true =>
    simp only [he, go_sem]
    repeat' ((first | ((first | apply qa | apply qb | apply qc | apply qd | apply qe | apply qf | apply qg | apply qh | apply qi | apply qj | apply qk) <;> intro hp) | ((first | refine ql rfl rfl (by decide +kernel) ?_ | refine qm _ rfl rfl (by decide +kernel) ?_) <;> have hp := True.intro)) <;> simp only [hp, he, go_sem])
    simp only [fin_mk, finV, resL, resV1, resIn, endA, listIn, Option.some_or, Option.none_or, oneOrTup, go_sem]
    rw [← hr]
    rw [show s = [] by simpa using he]
    rfl
  | false =>
    simp only [hl, hl', he, c32, c1, c2, go_sem]
    repeat' ((first | ((first | apply qa | apply qb | apply qc | apply qd | apply qe | apply qf | apply qg | apply qh | apply qi | apply qj | apply qk) <;> intro hp) | ((first | refine ql rfl rfl (by decide +kernel) ?_ | refine qm _ rfl rfl (by decide +kernel) ?_) <;> have hp := True.intro)) <;> simp only [hp, hl, hl', he, c32, c1, c2, go_sem])
    simp only [fin_mk, finV, resL, resV1, resIn, endA, listIn, Option.some_or, Option.none_or, oneOrTup, go_sem]
    rw [← hr]
    rfl
theorem dropWhile_append_nil {p : UInt8 → Bool} {a b : List UInt8} (h : a.dropWhile p = []) : (a ++ b).dropWhile p = b.dropWhile p := by
  induction a with
  | nil => rfl
  | cons x a ih =>
    rw [List.dropWhile_cons] at h
    cases hx : p x with
    | true => rw [hx] at h; rw [List.cons_append, List.dropWhile_cons, hx]; exact ih h
    | false => rw [hx] at h; simp at h
theorem dropWhile_append_ne {p : UInt8 → Bool} {a b : List UInt8} (h : a.dropWhile p ≠ []) : (a ++ b).dropWhile p = a.dropWhile p ++ b := by
  induction a with
  | nil => simp at h
  | cons x a ih =>
    rw [List.dropWhile_cons] at h
    cases hx : p x with
    | true => rw [hx] at h; rw [List.cons_append, List.dropWhile_cons, hx, List.dropWhile_cons, hx]; exact ih h
    | false => rw [List.cons_append, List.dropWhile_cons, hx, List.dropWhile_cons, hx]; rfl
theorem trim_comm (s : List UInt8) : trimR 32 (trimL 32 s) = trim s := by
  unfold trim
  induction s with
  | nil => rfl
  | cons b s ih =>
    cases hb : isB 32 b with
    | true =>
      rw [trimL_hit hb, ih]
      by_cases h : s.reverse.dropWhile (isB 32) = []
      · have e1 : trimR 32 s = [] := by simp [trimR, h]
        have e2 : trimR 32 (b :: s) = [] := by
          simp only [trimR, List.reverse_cons]
          rw [dropWhile_append_nil h]
          simp [List.dropWhile_cons, hb]
        rw [e1, e2]
      · have e2 : trimR 32 (b :: s) = b :: trimR 32 s := by
          simp only [trimR, List.reverse_cons]
          rw [dropWhile_append_ne h]
          simp
        rw [e2, trimL_hit hb]
    | false =>
      rw [trimL_miss hb]
      have e2 : ∃ t, trimR 32 (b :: s) = b :: t := by
        simp only [trimR, List.reverse_cons]
        by_cases h : s.reverse.dropWhile (isB 32) = []
        · rw [dropWhile_append_nil h]
          exact ⟨[], by simp [List.dropWhile_cons, hb]⟩
        · rw [dropWhile_append_ne h]
          exact ⟨(s.reverse.dropWhile (isB 32)).reverse, by simp⟩
      obtain ⟨t, e2⟩ := e2
      rw [e2, trimL_miss hb]
open Classical in
noncomputable def spTrim1 : VM.Spec := { modes := [.rd], run := fun | [.str s] => if s.length ≤ 1099511627776 then some (.str (trim s), []) else none | _ => none, need := [] }
attribute [go_sem] spTrim1
theorem spTrim1_in {ins : List V} {r : V} {outs : List V} (h : spTrim1.run ins = some (r, outs)) : ∃ (s : (List UInt8)), ins = [.str s] ∧ (s.length ≤ 1099511627776) ∧ .str (trim s) = r ∧ outs = [] := by
  unfold spTrim1 at h
  simp only at h
  split at h
  · rename_i s
    split at h
    case isFalse => cases h
    rename_i hc
    simp only [Option.some.injEq, Prod.mk.injEq] at h
    obtain ⟨h1, h2⟩ := h
    exact ⟨s, rfl, hc, h1, h2.symm⟩
  · cases h
def T_spec_l07Trim : Hints := ⟨lk [], lk [(1, [0]), (3, [0])], lk [(0, [0]), (1, [0, 10]), (2, [0]), (3, [0, 23]), (4, [0]), (5, [2])], lk []⟩
noncomputable def Phi_spec_l07Trim : Tab := lk []
attribute [go_sem] T_spec_l07Trim Phi_spec_l07Trim
theorem phi_spec_l07Trim : ∀ f sp, Phi_spec_l07Trim f = some sp → FnOk Tryz.prog f sp ∧ ∀ n ∈ sp.need, n ∈ ([] : List String) := phi_nil
theorem ok_spec_l07Trim : FnOk Tryz.prog 109 spTrim1 := by
  refine fn_ok (Φ := Phi_spec_l07Trim) (T := T_spec_l07Trim) phi_spec_l07Trim mixed Tryz.func109 rfl rfl rfl (by decide) ?_
  intro ins r outs hr hl
  clear hl
  have hs := spTrim1_in hr
  clear hr
  obtain ⟨s, rfl, hc, hr, rfl⟩ := hs
  simp only [spTrim1, Tryz.f109, Go.VM.initS]
  simp only [go_sem]
  refine loop_go (fun u : List UInt8 => [(0, .str u)]) (fun _ => []) (fun u => u.length) (fun u => u.length ≤ s.length ∧ trimL 32 u = trimL 32 s) s ⟨Nat.le_refl _, rfl⟩ rfl rfl ?_
  rintro u ⟨hu, he⟩ ih
  have c32 : ((UInt8.toNat 32 : Nat) : Int) = 32 := rfl
  cases u with
  | cons b u =>
    have g1 : (0 : Int) < ((u.length + 1 : Nat) : Int) := by omega
    have g2 : 1 ≤ u.length + 1 := by omega
    simp only [List.length_cons] at hu
    cases hb : isB 32 b with
    | true =>
      have hb' : ((b.toNat : Int) == 32) = true := hb
      have ih' := ih u ⟨by omega, by rw [← he, trimL_hit hb]⟩ (by simp)
      simp only [g1, g2, hb', List.take_succ_cons, List.take_length, List.drop_succ_cons, Nat.le_refl, Int.reduceToNat, go_sem]
      repeat' ((first | apply qa | apply qb | apply qc | apply qd | apply qe | apply qf | apply qg | apply qh | apply qi | apply qj | apply qk) <;> intro hp <;> simp only [hp, g1, g2, hb', List.take_succ_cons, List.take_length, List.drop_succ_cons, Nat.le_refl, Int.reduceToNat, go_sem])
      exact ih'
    | false =>
      have hb' : ((b.toNat : Int) == 32) = false := hb
      have hs1 : trimL 32 s = b :: u := by rw [← he, trimL_miss hb]
      have hs2 : trim s = trimR 32 (b :: u) := by rw [← trim_comm, hs1]
      simp only [g1, hb', go_sem]
      repeat' ((first | apply qa | apply qb | apply qc | apply qd | apply qe | apply qf | apply qg | apply qh | apply qi | apply qj | apply qk) <;> intro hp <;> simp only [hp, g1, hb', go_sem])
      refine loop_go (fun v : List UInt8 => [(0, .str v)]) (fun _ => []) (fun v => v.length) (fun v => v.length ≤ s.length ∧ trimR 32 v = trimR 32 (b :: u)) (b :: u) ⟨by simpa using hu, rfl⟩ rfl rfl ?_
      clear ih
      rintro v ⟨hv, hev⟩ ih
      cases hn : v.length with
      | zero =>
        simp only [hn, no0, go_sem]
        simp only [fin_mk, finV, resL, resV1, resIn, endA, listIn, Option.some_or, Option.none_or, oneOrTup, go_sem]
        rw [← hr]
        have : v = [] := List.eq_nil_of_length_eq_zero hn
        subst this
        rw [hs2, ← hev]; rfl
      | succ n =>
        have g1 : (0 : Int) < ((n + 1 : Nat) : Int) := by omega
        have g2 : n ≤ n + 1 := by omega
        have g3 : (0 : Int) ≤ n := by omega
        have g4 : IntKind.i64.wrap (((n + 1 : Nat) : Int) - 1) = n := (wrap64 (by omega) (by omega)).trans (by omega)
        have g5 : v[n]? = some (v[n]'(by omega)) := List.getElem?_eq_getElem (by omega)
        have es := snoc_of hn
        cases hb : isB 32 (v[n]'(by omega)) with
        | true =>
          have hb' : (((v[n]'(by omega)).toNat : Int) == 32) = true := hb
          have ih' := ih (v.take n) ⟨by rw [List.length_take]; omega, by rw [← hev]; conv => rhs; rw [es, trimR_hit hb]⟩ (by rw [List.length_take]; omega)
          simp only [g1, g2, g3, g4, g5, hn, hb', Int.toNat_natCast, List.drop_zero, Nat.zero_le, go_sem]
          repeat' ((first | apply qa | apply qb | apply qc | apply qd | apply qe | apply qf | apply qg | apply qh | apply qi | apply qj | apply qk) <;> intro hp <;> simp only [hp, g1, g2, g3, g4, g5, hn, hb', Int.toNat_natCast, List.drop_zero, Nat.zero_le, go_sem])
          exact ih'
        | false =>
          have hb' : (((v[n]'(by omega)).toNat : Int) == 32) = false := hb
          simp only [g1, g3, g4, g5, hn, hb', go_sem]
          repeat' ((first | apply qa | apply qb | apply qc | apply qd | apply qe | apply qf | apply qg | apply qh | apply qi | apply qj | apply qk) <;> intro hp <;> simp only [hp, g1, g3, g4, g5, hn, hb', go_sem])
          simp only [fin_mk, finV, resL, resV1, resIn, endA, listIn, Option.some_or, Option.none_or, oneOrTup, go_sem]
          rw [← hr]
          rw [hs2, ← hev]; conv => rhs; rw [es, trimR_miss hb, ← es]
  | nil =>
    have hs2 : trim s = [] := by rw [← trim_comm, ← he]; rfl
    simp only [no0, go_sem]
    repeat' ((first | apply qa | apply qb | apply qc | apply qd | apply qe | apply qf | apply qg | apply qh | apply qi | apply qj | apply qk) <;> intro hp <;> simp only [hp, no0, go_sem])
    refine loop_go (fun _ : Unit => []) (fun _ => []) (fun _ => 0) (fun _ => True) () trivial rfl rfl ?_
    intro _ _ _
    simp only [no0, go_sem]
    repeat' ((first | apply qa | apply qb | apply qc | apply qd | apply qe | apply qf | apply qg | apply qh | apply qi | apply qj | apply qk) <;> intro hp <;> simp only [hp, no0, go_sem])
    simp only [fin_mk, finV, resL, resV1, resIn, endA, listIn, Option.some_or, Option.none_or, oneOrTup, go_sem]
    rw [← hr]
    rw [hs2]
def low1 (b : UInt8) : UInt8 := if 65 ≤ b.toNat ∧ b.toNat ≤ 90 then b + 32 else b
def lowS (s : List UInt8) : List UInt8 := s.map low1
theorem lowS_len (s : List UInt8) : (lowS s).length = s.length := by simp [lowS]
def lowTo (s : List UInt8) (i : Nat) : List UInt8 := (s.take i).map low1 ++ s.drop i
theorem lowTo_len (s : List UInt8) (i : Nat) : (lowTo s i).length = s.length := by simp [lowTo]; omega
theorem lowTo_get {s : List UInt8} {i : Nat} (h : i < s.length) : (lowTo s i)[i]? = some s[i] := by
  have h1 : ((s.take i).map low1).length = i := by simp; omega
  rw [lowTo, List.getElem?_append_right (by omega), h1, Nat.sub_self, List.getElem?_drop, Nat.add_zero]
  exact List.getElem?_eq_getElem h
theorem lowTo_succ {s : List UInt8} {i : Nat} (h : i < s.length) : (lowTo s i).set i (low1 s[i]) = lowTo s (i + 1) := by
  have h1 : ((s.take i).map low1).length = i := by simp; omega
  rw [lowTo, lowTo, List.set_append_right _ _ (by omega), h1, Nat.sub_self, List.drop_eq_getElem_cons h, List.set_cons_zero, take_succ' h, List.map_append, List.append_assoc]
  rfl
theorem lowTo_skip {s : List UInt8} {i : Nat} (h : i < s.length) (hn : low1 s[i] = s[i]) : lowTo s (i + 1) = lowTo s i := by
  rw [← lowTo_succ h, hn]
  apply List.ext_getElem?
  intro j
  rw [List.getElem?_set]
  split
  · rename_i e
    subst e
    rw [if_pos (by rw [lowTo_len]; exact h), lowTo_get h]
  · rfl
theorem lowTo_end {s : List UInt8} {i : Nat} (h : s.length ≤ i) : lowTo s i = lowS s := by simp [lowTo, lowS, List.take_of_length_le h, List.drop_of_length_le h]
theorem low1_up {b : UInt8} (h : within b.toNat 65 90 = true) : IntKind.u8.wrap ((b.toNat : Int) + 32) = (low1 b).toNat := by
  have hb : 65 ≤ b.toNat ∧ b.toNat ≤ 90 := by
    simp only [within, Bool.and_eq_true, decide_eq_true_eq] at h; omega
  have : (low1 b).toNat = b.toNat + 32 := by
    rw [low1, if_pos hb, UInt8.toNat_add]
    have e : UInt8.toNat 32 = 32 := rfl
    rw [e]; omega
  rw [this]
  simp only [IntKind.wrap, IntKind.signed, IntKind.bits]
  simp; omega
theorem low1_no {b : UInt8} (h : within b.toNat 65 90 = false) : low1 b = b := by
  have hb : ¬ (65 ≤ b.toNat ∧ b.toNat ≤ 90) := by
    intro hb
    simp only [within, Bool.and_eq_false_iff, decide_eq_false_iff_not] at h; omega
  rw [low1, if_neg hb]
open Classical in
noncomputable def spLow : VM.Spec := { modes := [.rd], run := fun | [.str s] => if s.length ≤ 1099511627776 then some (.str (lowS s), []) else none | _ => none, need := [] }
attribute [go_sem] spLow
theorem spLow_in {ins : List V} {r : V} {outs : List V} (h : spLow.run ins = some (r, outs)) : ∃ (s : (List UInt8)), ins = [.str s] ∧ (s.length ≤ 1099511627776) ∧ .str (lowS s) = r ∧ outs = [] := by
  unfold spLow at h
  simp only at h
  split at h
  · rename_i s
    split at h
    case isFalse => cases h
    rename_i hc
    simp only [Option.some.injEq, Prod.mk.injEq] at h
    obtain ⟨h1, h2⟩ := h
    exact ⟨s, rfl, hc, h1, h2.symm⟩
  · cases h
def T_impl_lower : Hints := ⟨lk [], lk [(3, [3, 8, 9, 10])], lk [(0, [0]), (1, [3]), (2, [3, 8, 9, 10]), (3, [3, 8, 9, 10, 11]), (4, [3, 4, 5, 8, 9, 10]), (5, [3, 4, 5, 8, 9, 10, 17]), (6, [3, 8, 9, 10]), (7, [3, 8, 9, 10]), (8, [2])], lk []⟩
noncomputable def Phi_impl_lower : Tab := lk [(41, spWithin)]
attribute [go_sem] T_impl_lower Phi_impl_lower
theorem phi_impl_lower : ∀ f sp, Phi_impl_lower f = some sp → FnOk Tryz.prog f sp ∧ ∀ n ∈ sp.need, n ∈ ([] : List String) := phi_cons ok_impl_within (n0 rfl) (phi_nil)
theorem ok_impl_lower : FnOk Tryz.prog 62 spLow := by
  refine fn_ok (Φ := Phi_impl_lower) (T := T_impl_lower) phi_impl_lower mixed Tryz.func62 rfl rfl rfl (by decide) ?_
  intro ins r outs hr hl
  clear hl
  have hs := spLow_in hr
  clear hr
  obtain ⟨s, rfl, hc, hr, rfl⟩ := hs
  simp only [spLow, Tryz.f62, Go.VM.initS]
  have hl : s.length ≤ 9223372036854775807 := by omega
  simp only [hl, go_sem]
  repeat' ((first | apply qa | apply qb | apply qc | apply qd | apply qe | apply qf | apply qg | apply qh | apply qi | apply qj | apply qk) <;> intro hp <;> simp only [hp, hl, go_sem])
  refine loop_go (fun i : Nat => [(10, .int .i64 (i : Int))]) (fun i => [(0, ⟨.arr, 1, bytesV (lowTo s i)⟩)]) (fun i => s.length - i) (fun i => i ≤ s.length) 0 (Nat.zero_le _) rfl rfl ?_
  intro i hi ih
  have hn := lowTo_len s i
  rcases Nat.lt_or_ge i s.length with h | h
  · have g1 : (i : Int) < s.length := by omega
    have g2 : (0 : Int) ≤ i := by omega
    have g3 := lowTo_get h
    have g5 := wrap_succ h (by omega)
    have ih' := ih (i + 1) h (by omega)
    cases hw : within (s[i].toNat : Int) 65 90 with
    | true =>
      have g6 := low1_up hw
      have e1 : (bytesV (lowTo s i)).set i (.int .u8 (IntKind.u8.wrap ((s[i].toNat : Int) + 32))) = bytesV (lowTo s (i + 1)) := by rw [g6, bytesV_set, lowTo_succ h]
      simp only [g1, g2, g3, g5, hn, byte_wrap, hw, e1, go_sem]
      repeat' ((first | apply qa | apply qb | apply qc | apply qd | apply qe | apply qf | apply qg | apply qh | apply qi | apply qj | apply qk) <;> intro hp <;> simp only [hp, g1, g2, g3, g5, hn, byte_wrap, hw, e1, go_sem])
      exact ih'
    | false =>
      rw [lowTo_skip h (low1_no hw)] at ih'
      simp only [g1, g2, g3, g5, hn, byte_wrap, hw, go_sem]
      repeat' ((first | apply qa | apply qb | apply qc | apply qd | apply qe | apply qf | apply qg | apply qh | apply qi | apply qj | apply qk) <;> intro hp <;> simp only [hp, g1, g2, g3, g5, hn, byte_wrap, hw, go_sem])
      exact ih'
  · have g1 : ¬ (i : Int) < s.length := by omega
    simp only [g1, hn, go_sem]
    repeat' ((first | apply qa | apply qb | apply qc | apply qd | apply qe | apply qf | apply qg | apply qh | apply qi | apply qj | apply qk) <;> intro hp <;> simp only [hp, g1, hn, go_sem])
    simp only [fin_mk, finV, resL, resV1, resIn, endA, listIn, Option.some_or, Option.none_or, oneOrTup, go_sem]
    rw [← hr]
    rw [lowTo_end h]
def T_spec_l06Low : Hints := ⟨lk [], lk [(3, [3, 4])], lk [(0, [0]), (1, [3]), (2, [3, 4]), (3, [3, 4, 10]), (5, [3, 4, 24]), (6, [3, 4]), (4, [3, 4]), (7, [2])], lk []⟩
noncomputable def Phi_spec_l06Low : Tab := lk []
attribute [go_sem] T_spec_l06Low Phi_spec_l06Low
theorem phi_spec_l06Low : ∀ f sp, Phi_spec_l06Low f = some sp → FnOk Tryz.prog f sp ∧ ∀ n ∈ sp.need, n ∈ ([] : List String) := phi_nil
theorem ok_spec_l06Low : FnOk Tryz.prog 69 spLow := by
  refine fn_ok (Φ := Phi_spec_l06Low) (T := T_spec_l06Low) phi_spec_l06Low mixed Tryz.func69 rfl rfl rfl (by decide) ?_
  intro ins r outs hr hl
  clear hl
  have hs := spLow_in hr
  clear hr
  obtain ⟨s, rfl, hc, hr, rfl⟩ := hs
  simp only [spLow, Tryz.f69, Go.VM.initS]
  have hl : s.length ≤ 9223372036854775807 := by omega
  simp only [hl, go_sem]
  repeat' ((first | apply qa | apply qb | apply qc | apply qd | apply qe | apply qf | apply qg | apply qh | apply qi | apply qj | apply qk) <;> intro hp <;> simp only [hp, hl, go_sem])
  refine loop_go (fun i : Nat => [(4, .int .i64 (i : Int))]) (fun i => [(0, ⟨.arr, 1, bytesV (lowTo s i)⟩)]) (fun i => s.length - i) (fun i => i ≤ s.length) 0 (Nat.zero_le _) rfl rfl ?_
  intro i hi ih
  have hn := lowTo_len s i
  rcases Nat.lt_or_ge i s.length with h | h
  · have g1 : (i : Int) < s.length := by omega
    have g2 : (0 : Int) ≤ i := by omega
    have g3 := lowTo_get h
    have g5 := wrap_succ h (by omega)
    have ih' := ih (i + 1) h (by omega)
    cases hw : within (s[i].toNat : Int) 65 90 with
    | true =>
      have g6 := low1_up hw
      have e1 : (bytesV (lowTo s i)).set i (.int .u8 (IntKind.u8.wrap ((s[i].toNat : Int) + 32))) = bytesV (lowTo s (i + 1)) := by rw [g6, bytesV_set, lowTo_succ h]
      simp only [within, Bool.and_eq_true, decide_eq_true_eq] at hw
      obtain ⟨w1, w2⟩ := hw
      simp only [g1, g2, g3, g5, hn, byte_wrap, w1, w2, e1, go_sem]
      repeat' ((first | apply qa | apply qb | apply qc | apply qd | apply qe | apply qf | apply qg | apply qh | apply qi | apply qj | apply qk) <;> intro hp <;> simp only [hp, g1, g2, g3, g5, hn, byte_wrap, w1, w2, e1, go_sem])
      exact ih'
    | false =>
      rw [lowTo_skip h (low1_no hw)] at ih'
      simp only [within, Bool.and_eq_false_iff, decide_eq_false_iff_not] at hw
      simp only [g1, g2, g3, g5, hn, byte_wrap, go_sem]
      repeat' ((first | apply qa | apply qb | apply qc | apply qd | apply qe | apply qf | apply qg | apply qh | apply qi | apply qj | apply qk) <;> intro hp <;> simp only [hp, g1, g2, g3, g5, hn, byte_wrap, go_sem])
      all_goals first
        | exact ih'
        | (exfalso; clear ih ih'; simp_all; done)
        | (exfalso; clear ih ih'; simp only [decide_eq_true_eq] at *; omega)
  · have g1 : ¬ (i : Int) < s.length := by omega
    simp only [g1, hn, go_sem]
    repeat' ((first | apply qa | apply qb | apply qc | apply qd | apply qe | apply qf | apply qg | apply qh | apply qi | apply qj | apply qk) <;> intro hp <;> simp only [hp, g1, hn, go_sem])
    simp only [fin_mk, finV, resL, resV1, resIn, endA, listIn, Option.some_or, Option.none_or, oneOrTup, go_sem]
    rw [← hr]
    rw [lowTo_end h]
theorem isPrefixOf_len {t s : List UInt8} (h : t.isPrefixOf s = true) : t.length ≤ s.length := (List.isPrefixOf_iff_prefix.1 h).length_le
theorem isPrefixOf_short {t s : List UInt8} (h : s.length < t.length) : t.isPrefixOf s = false := by
  cases hp : t.isPrefixOf s with
  | false => rfl
  | true => have := isPrefixOf_len hp; omega
theorem isPrefixOf_take (s t : List UInt8) : t.isPrefixOf s = (s.take t.length == t) := by
  rw [Bool.eq_iff_iff, List.isPrefixOf_iff_prefix, beq_iff_eq, List.prefix_iff_eq_take]
  exact ⟨fun h => h.symm, fun h => h.symm⟩
def cutPrefix (s t : List UInt8) : List UInt8 := if t.isPrefixOf s = true then s.drop t.length else s
open Classical in
noncomputable def spHasPrefix : VM.Spec := { modes := [.rd, .rd], run := fun | [.str s, .str t] => if s.length ≤ 1099511627776 ∧ t.length ≤ 1099511627776 then some (.bool (t.isPrefixOf s), []) else none | _ => none, need := [] }
attribute [go_sem] spHasPrefix
theorem spHasPrefix_in {ins : List V} {r : V} {outs : List V} (h : spHasPrefix.run ins = some (r, outs)) : ∃ (s : (List UInt8)) (t : (List UInt8)), ins = [.str s, .str t] ∧ (s.length ≤ 1099511627776 ∧ t.length ≤ 1099511627776) ∧ .bool (t.isPrefixOf s) = r ∧ outs = [] := by
  unfold spHasPrefix at h
  simp only at h
  split at h
  · rename_i s t
    split at h
    case isFalse => cases h
    rename_i hc
    simp only [Option.some.injEq, Prod.mk.injEq] at h
    obtain ⟨h1, h2⟩ := h
    exact ⟨s, t, rfl, hc, h1, h2.symm⟩
  · cases h
def T_internal_stringslite_HasPrefix : Hints := ⟨lk [], lk [], lk [(0, [0, 1]), (1, [4])], lk []⟩
noncomputable def Phi_internal_stringslite_HasPrefix : Tab := lk []
attribute [go_sem] T_internal_stringslite_HasPrefix Phi_internal_stringslite_HasPrefix
theorem phi_internal_stringslite_HasPrefix : ∀ f sp, Phi_internal_stringslite_HasPrefix f = some sp → FnOk Tryz.prog f sp ∧ ∀ n ∈ sp.need, n ∈ ([] : List String) := phi_nil
theorem ok_internal_stringslite_HasPrefix : FnOk Tryz.prog 136 spHasPrefix := by
  refine fn_ok (Φ := Phi_internal_stringslite_HasPrefix) (T := T_internal_stringslite_HasPrefix) phi_internal_stringslite_HasPrefix mixed Tryz.func136 rfl rfl rfl (by decide) ?_
  intro ins r outs hr hl
  clear hl
  have hs := spHasPrefix_in hr
  clear hr
  obtain ⟨s, t, rfl, hc, hr, rfl⟩ := hs
  simp only [spHasPrefix, Tryz.f136, Go.VM.initS]
  obtain ⟨h1, h2⟩ := hc
  rcases Nat.lt_or_ge s.length t.length with h | h
  · have g1 : ¬ (t.length : Int) ≤ s.length := by omega
    simp only [g1, go_sem]
    repeat' ((first | apply qa | apply qb | apply qc | apply qd | apply qe | apply qf | apply qg | apply qh | apply qi | apply qj | apply qk) <;> intro hp <;> simp only [hp, g1, go_sem])
    simp only [fin_mk, finV, resL, resV1, resIn, endA, listIn, Option.some_or, Option.none_or, oneOrTup, go_sem]
    rw [← hr]
    rw [isPrefixOf_short h]
  · have g1 : (t.length : Int) ≤ s.length := by omega
    have g2 : (0 : Int) ≤ t.length := by omega
    simp only [g1, g2, h, Nat.zero_le, List.drop_zero, Int.toNat_natCast, go_sem]
    repeat' ((first | apply qa | apply qb | apply qc | apply qd | apply qe | apply qf | apply qg | apply qh | apply qi | apply qj | apply qk) <;> intro hp <;> simp only [hp, g1, g2, h, Nat.zero_le, List.drop_zero, Int.toNat_natCast, go_sem])
    simp only [fin_mk, finV, resL, resV1, resIn, endA, listIn, Option.some_or, Option.none_or, oneOrTup, go_sem]
    rw [← hr]
    rw [isPrefixOf_take]
open Classical in
noncomputable def spCutPrefix : VM.Spec := { modes := [.rd, .rd], run := fun | [.str s, .str t] => if s.length ≤ 1099511627776 ∧ t.length ≤ 1099511627776 then some (.tup [.str (cutPrefix s t), .bool (t.isPrefixOf s)], []) else none | _ => none, need := [] }
attribute [go_sem] spCutPrefix
theorem spCutPrefix_in {ins : List V} {r : V} {outs : List V} (h : spCutPrefix.run ins = some (r, outs)) : ∃ (s : (List UInt8)) (t : (List UInt8)), ins = [.str s, .str t] ∧ (s.length ≤ 1099511627776 ∧ t.length ≤ 1099511627776) ∧ .tup [.str (cutPrefix s t), .bool (t.isPrefixOf s)] = r ∧ outs = [] := by
  unfold spCutPrefix at h
  simp only at h
  split at h
  · rename_i s t
    split at h
    case isFalse => cases h
    rename_i hc
    simp only [Option.some.injEq, Prod.mk.injEq] at h
    obtain ⟨h1, h2⟩ := h
    exact ⟨s, t, rfl, hc, h1, h2.symm⟩
  · cases h
def T_internal_stringslite_CutPrefix : Hints := ⟨lk [], lk [], lk [(0, [0, 1]), (1, [0, 1, 9]), (2, [4, 5]), (3, [4, 5])], lk []⟩
noncomputable def Phi_internal_stringslite_CutPrefix : Tab := lk [(136, spHasPrefix)]
attribute [go_sem] T_internal_stringslite_CutPrefix Phi_internal_stringslite_CutPrefix
theorem phi_internal_stringslite_CutPrefix : ∀ f sp, Phi_internal_stringslite_CutPrefix f = some sp → FnOk Tryz.prog f sp ∧ ∀ n ∈ sp.need, n ∈ ([] : List String) := phi_cons ok_internal_stringslite_HasPrefix (n0 rfl) (phi_nil)
theorem ok_internal_stringslite_CutPrefix : FnOk Tryz.prog 116 spCutPrefix := by
  refine fn_ok (Φ := Phi_internal_stringslite_CutPrefix) (T := T_internal_stringslite_CutPrefix) phi_internal_stringslite_CutPrefix mixed Tryz.func116 rfl rfl rfl (by decide) ?_
  intro ins r outs hr hl
  clear hl
  have hs := spCutPrefix_in hr
  clear hr
  obtain ⟨s, t, rfl, hc, hr, rfl⟩ := hs
  simp only [spCutPrefix, Tryz.f116, Go.VM.initS]
  obtain ⟨h1, h2⟩ := hc
  cases hp : t.isPrefixOf s with
  | false =>
    simp only [hp, h1, h2, go_sem]
    repeat' ((first | apply qa | apply qb | apply qc | apply qd | apply qe | apply qf | apply qg | apply qh | apply qi | apply qj | apply qk) <;> intro hp <;> simp only [hp, hp, h1, h2, go_sem])
    simp only [fin_mk, finV, resL, resV1, resIn, endA, listIn, Option.some_or, Option.none_or, oneOrTup, go_sem]
    rw [← hr]
    simp only [cutPrefix, hp, Bool.false_eq_true, if_false]
  | true =>
    have h3 := isPrefixOf_len hp
    have g2 : (0 : Int) ≤ t.length := by omega
    simp only [hp, h1, h2, h3, g2, Int.toNat_natCast, List.take_length, Nat.le_refl, go_sem]
    repeat' ((first | apply qa | apply qb | apply qc | apply qd | apply qe | apply qf | apply qg | apply qh | apply qi | apply qj | apply qk) <;> intro hp <;> simp only [hp, hp, h1, h2, h3, g2, Int.toNat_natCast, List.take_length, Nat.le_refl, go_sem])
    simp only [fin_mk, finV, resL, resV1, resIn, endA, listIn, Option.some_or, Option.none_or, oneOrTup, go_sem]
    rw [← hr]
    simp only [cutPrefix, hp, if_true]
def T_strings_CutPrefix : Hints := ⟨lk [], lk [], lk [(0, [0, 1]), (1, [4, 5])], lk []⟩
noncomputable def Phi_strings_CutPrefix : Tab := lk [(116, spCutPrefix)]
attribute [go_sem] T_strings_CutPrefix Phi_strings_CutPrefix
theorem phi_strings_CutPrefix : ∀ f sp, Phi_strings_CutPrefix f = some sp → FnOk Tryz.prog f sp ∧ ∀ n ∈ sp.need, n ∈ ([] : List String) := phi_cons ok_internal_stringslite_CutPrefix (n0 rfl) (phi_nil)
theorem ok_strings_CutPrefix : FnOk Tryz.prog 76 spCutPrefix := by
  refine fn_ok (Φ := Phi_strings_CutPrefix) (T := T_strings_CutPrefix) phi_strings_CutPrefix mixed Tryz.func76 rfl rfl rfl (by decide) ?_
  intro ins r outs hr hl
  clear hl
  have hs := spCutPrefix_in hr
  clear hr
  obtain ⟨s, t, rfl, hc, hr, rfl⟩ := hs
  simp only [spCutPrefix, Tryz.f76, Go.VM.initS]
  obtain ⟨h1, h2⟩ := hc
  simp only [h1, h2, go_sem]
  repeat' ((first | apply qa | apply qb | apply qc | apply qd | apply qe | apply qf | apply qg | apply qh | apply qi | apply qj | apply qk) <;> intro hp <;> simp only [hp, h1, h2, go_sem])
  simp only [fin_mk, finV, resL, resV1, resIn, endA, listIn, Option.some_or, Option.none_or, oneOrTup, go_sem]
  rw [← hr]
def re_ : List UInt8 := [114, 101, 58]
def fwd_ : List UInt8 := [102, 119, 100, 58]
def baseL : Nat → List UInt8 → List UInt8
  | 0, s => s
  | n + 1, s => if re_.isPrefixOf s = true then baseL n (trim (s.drop 3)) else if fwd_.isPrefixOf s = true then baseL n (trim (s.drop 4)) else s
theorem drop_lt {t s : List UInt8} {k : Nat} (hp : t.isPrefixOf s = true) (hk : t.length = k) (h0 : 0 < k) : (trim (s.drop k)).length < s.length := by
  have h1 := isPrefixOf_len hp
  have h2 := trim_len (s.drop k)
  rw [List.length_drop] at h2
  omega
theorem baseL_more : ∀ (n : Nat) (s : List UInt8), s.length ≤ n → baseL n s = baseL (n + 1) s
  | 0, s, h => by
    have : s = [] := List.eq_nil_of_length_eq_zero (by omega)
    subst this
    rfl
  | n + 1, s, h => by
    rw [baseL, baseL]
    cases h1 : re_.isPrefixOf s with
    | true =>
      have := drop_lt h1 (k := 3) rfl (by decide)
      simp only [if_true]
      exact baseL_more n _ (by omega)
    | false =>
      cases h2 : fwd_.isPrefixOf s with
      | true =>
        have := drop_lt h2 (k := 4) rfl (by decide)
        simp only [if_true, Bool.false_eq_true, if_false]
        exact baseL_more n _ (by omega)
      | false => simp only [Bool.false_eq_true, if_false]
theorem baseL_any {n : Nat} {s : List UInt8} (h : s.length ≤ n) : baseL n s = baseL s.length s := by
  induction n with
  | zero => rw [show s.length = 0 by omega]
  | succ n ih =>
    rcases Nat.lt_or_ge n s.length with h1 | h1
    · rw [show s.length = n + 1 by omega]
    · rw [← baseL_more n s h1, ih h1]
def base (s : List UInt8) : List UInt8 := baseL s.length s
theorem base_re {s : List UInt8} (h : re_.isPrefixOf s = true) : base s = base (trim (s.drop 3)) := by
  have h1 := drop_lt h (k := 3) rfl (by decide)
  unfold base
  rw [← baseL_any (n := s.length) (Nat.le_refl _)]
  obtain ⟨n, hn⟩ : ∃ n, s.length = n + 1 := ⟨s.length - 1, by omega⟩
  rw [hn, baseL, if_pos h, baseL_any (by omega)]
theorem base_fwd {s : List UInt8} (h0 : re_.isPrefixOf s = false) (h : fwd_.isPrefixOf s = true) : base s = base (trim (s.drop 4)) := by
  have h1 := drop_lt h (k := 4) rfl (by decide)
  unfold base
  obtain ⟨n, hn⟩ : ∃ n, s.length = n + 1 := ⟨s.length - 1, by omega⟩
  rw [hn, baseL, if_neg (by rw [h0]; simp), if_pos h, baseL_any (by omega)]
theorem base_end {s : List UInt8} (h0 : re_.isPrefixOf s = false) (h : fwd_.isPrefixOf s = false) : base s = s := by
  unfold base
  cases s.length with
  | zero => rfl
  | succ n => rw [baseL, if_neg (by rw [h0]; simp), if_neg (by rw [h]; simp)]
theorem isB_low (b : UInt8) : isB 32 (low1 b) = isB 32 b := by
  unfold low1
  split
  · rename_i h
    have : (b + 32).toNat = b.toNat + 32 := by
      rw [UInt8.toNat_add]
      have e : UInt8.toNat 32 = 32 := rfl
      rw [e]; omega
    have e1 : isB 32 b = false := by unfold isB; rw [beq_eq_false_iff_ne]; omega
    have e2 : isB 32 (b + 32) = false := by unfold isB; rw [beq_eq_false_iff_ne]; omega
    rw [e1, e2]
  · rfl
theorem dropWhile_low (s : List UInt8) : (s.map low1).dropWhile (isB 32) = (s.dropWhile (isB 32)).map low1 := by
  induction s with
  | nil => rfl
  | cons b s ih =>
    rw [List.map_cons, List.dropWhile_cons, List.dropWhile_cons, isB_low]
    cases isB 32 b with
    | true => exact ih
    | false => rfl
theorem trim_low (s : List UInt8) : trim (lowS s) = lowS (trim s) := by
  unfold trim trimL trimR lowS
  rw [← List.map_reverse, dropWhile_low, ← List.map_reverse, dropWhile_low]
def baseSubject (s : List UInt8) : List UInt8 := base (trim (lowS s))
open Classical in
noncomputable def spBaseSubject : VM.Spec := { modes := [.rd], run := fun | [.str s] => if s.length ≤ 1099511627776 then some (.str (baseSubject s), []) else none | _ => none, need := [] }
attribute [go_sem] spBaseSubject
theorem spBaseSubject_in {ins : List V} {r : V} {outs : List V} (h : spBaseSubject.run ins = some (r, outs)) : ∃ (s : (List UInt8)), ins = [.str s] ∧ (s.length ≤ 1099511627776) ∧ .str (baseSubject s) = r ∧ outs = [] := by
  unfold spBaseSubject at h
  simp only at h
  split at h
  · rename_i s
    split at h
    case isFalse => cases h
    rename_i hc
    simp only [Option.some.injEq, Prod.mk.injEq] at h
    obtain ⟨h1, h2⟩ := h
    exact ⟨s, rfl, hc, h1, h2.symm⟩
  · cases h
def T_impl_BaseSubject : Hints := ⟨lk [], lk [(2, [0])], lk [(0, [0]), (1, [0]), (2, [0, 3, 4]), (3, [0, 3, 4, 14]), (4, [0, 3, 4]), (5, [0, 3, 21]), (6, [2]), (7, [0])], lk []⟩
noncomputable def Phi_impl_BaseSubject : Tab := lk [(62, spLow), (130, spTrim), (76, spCutPrefix)]
attribute [go_sem] T_impl_BaseSubject Phi_impl_BaseSubject
theorem phi_impl_BaseSubject : ∀ f sp, Phi_impl_BaseSubject f = some sp → FnOk Tryz.prog f sp ∧ ∀ n ∈ sp.need, n ∈ ([] : List String) := phi_cons ok_impl_lower (n0 rfl) (phi_cons ok_strings_Trim (n0 rfl) (phi_cons ok_strings_CutPrefix (n0 rfl) (phi_nil)))
theorem ok_impl_BaseSubject : FnOk Tryz.prog 103 spBaseSubject := by
  refine fn_ok (Φ := Phi_impl_BaseSubject) (T := T_impl_BaseSubject) phi_impl_BaseSubject mixed Tryz.func103 rfl rfl rfl (by decide) ?_
  intro ins r outs hr hl
  clear hl
  have hs := spBaseSubject_in hr
  clear hr
  obtain ⟨s, rfl, hc, hr, rfl⟩ := hs
  simp only [spBaseSubject, Tryz.f103, Go.VM.initS]
  have h1 : (lowS s).length ≤ 1099511627776 := by rw [lowS_len]; exact hc
  have h2 := Nat.le_trans (trim_len (lowS s)) h1
  have e32 : (([32] : List UInt8) = [32]) = True := eq_self _
  simp only [hc, h1, e32, go_sem]
  repeat' ((first | apply qa | apply qb | apply qc | apply qd | apply qe | apply qf | apply qg | apply qh | apply qi | apply qj | apply qk) <;> intro hp <;> simp only [hp, hc, h1, e32, go_sem])
  refine loop_go (fun u : List UInt8 => [(0, .str u)]) (fun _ => []) (fun u => u.length) (fun u => u.length ≤ 1099511627776 ∧ base u = baseSubject s) (trim (lowS s)) ⟨h2, rfl⟩ rfl rfl ?_
  rintro u ⟨hu, he⟩ ih
  have r3 : (3 : Nat) ≤ 1099511627776 := by decide
  have r4 : (4 : Nat) ≤ 1099511627776 := by decide
  cases hr1 : re_.isPrefixOf u with
  | true =>
    have hr1' : ([114, 101, 58] : List UInt8).isPrefixOf u = true := hr1
    have hd : (u.drop 3).length ≤ 1099511627776 := by rw [List.length_drop]; omega
    have ih' := ih (trim (u.drop 3)) ⟨Nat.le_trans (trim_len _) hd, by rw [← base_re hr1, he]⟩ (drop_lt hr1 rfl (by decide))
    simp only [hu, hr1', cutPrefix, hd, e32, go_sem]
    repeat' ((first | apply qa | apply qb | apply qc | apply qd | apply qe | apply qf | apply qg | apply qh | apply qi | apply qj | apply qk) <;> intro hp <;> simp only [hp, hu, hr1', cutPrefix, hd, e32, go_sem])
    exact ih'
  | false =>
    have hr1' : ([114, 101, 58] : List UInt8).isPrefixOf u = false := hr1
    cases hr2 : fwd_.isPrefixOf u with
    | true =>
      have hr2' : ([102, 119, 100, 58] : List UInt8).isPrefixOf u = true := hr2
      have hd : (u.drop 4).length ≤ 1099511627776 := by rw [List.length_drop]; omega
      have ih' := ih (trim (u.drop 4)) ⟨Nat.le_trans (trim_len _) hd, by rw [← base_fwd hr1 hr2, he]⟩ (drop_lt hr2 rfl (by decide))
      simp only [hu, hr1', hr2', cutPrefix, hd, e32, go_sem]
      repeat' ((first | apply qa | apply qb | apply qc | apply qd | apply qe | apply qf | apply qg | apply qh | apply qi | apply qj | apply qk) <;> intro hp <;> simp only [hp, hu, hr1', hr2', cutPrefix, hd, e32, go_sem])
      exact ih'
    | false =>
      have hr2' : ([102, 119, 100, 58] : List UInt8).isPrefixOf u = false := hr2
      simp only [hu, hr1', hr2', cutPrefix, e32, go_sem]
      repeat' ((first | apply qa | apply qb | apply qc | apply qd | apply qe | apply qf | apply qg | apply qh | apply qi | apply qj | apply qk) <;> intro hp <;> simp only [hp, hu, hr1', hr2', cutPrefix, e32, go_sem])
      simp only [fin_mk, finV, resL, resV1, resIn, endA, listIn, Option.some_or, Option.none_or, oneOrTup, go_sem]
      rw [← hr]
      rw [← he, base_end hr1 hr2]
def T_spec_BaseSubject : Hints := ⟨lk [], lk [(3, [0])], lk [(0, [0]), (1, [0]), (3, [0, 7]), (4, [0]), (5, [0, 19]), (6, [0]), (2, [2])], lk []⟩
noncomputable def Phi_spec_BaseSubject : Tab := lk [(69, spLow), (109, spTrim1)]
attribute [go_sem] T_spec_BaseSubject Phi_spec_BaseSubject
theorem phi_spec_BaseSubject : ∀ f sp, Phi_spec_BaseSubject f = some sp → FnOk Tryz.prog f sp ∧ ∀ n ∈ sp.need, n ∈ ([] : List String) := phi_cons ok_spec_l06Low (n0 rfl) (phi_cons ok_spec_l07Trim (n0 rfl) (phi_nil))
theorem ok_spec_BaseSubject : FnOk Tryz.prog 68 spBaseSubject := by
  refine fn_ok (Φ := Phi_spec_BaseSubject) (T := T_spec_BaseSubject) phi_spec_BaseSubject mixed Tryz.func68 rfl rfl rfl (by decide) ?_
  intro ins r outs hr hl
  clear hl
  have hs := spBaseSubject_in hr
  clear hr
  obtain ⟨s, rfl, hc, hr, rfl⟩ := hs
  simp only [spBaseSubject, Tryz.f68, Go.VM.initS]
  have h1 : (trim s).length ≤ 1099511627776 := Nat.le_trans (trim_len s) hc
  have h2 : (lowS (trim s)).length ≤ 1099511627776 := by rw [lowS_len]; exact h1
  simp only [hc, h1, go_sem]
  repeat' ((first | apply qa | apply qb | apply qc | apply qd | apply qe | apply qf | apply qg | apply qh | apply qi | apply qj | apply qk) <;> intro hp <;> simp only [hp, hc, h1, go_sem])
  refine loop_go (fun u : List UInt8 => [(0, .str u)]) (fun _ => []) (fun u => u.length) (fun u => u.length ≤ 1099511627776 ∧ base u = baseSubject s) (lowS (trim s)) ⟨h2, by rw [← trim_low]; rfl⟩ rfl rfl ?_
  rintro u ⟨hu, he⟩ ih
  have c3 : ¬ (3 : Int) ≤ u.length ↔ u.length < 3 := by omega
  have lenlt : ∀ {t : List UInt8}, t.isPrefixOf u = true → t.length ≤ u.length := isPrefixOf_len
  cases hr1 : re_.isPrefixOf u with
  | true =>
    have g0 : 3 ≤ u.length := lenlt hr1
    have g1 : (3 : Int) ≤ u.length := by omega
    have g2 : (u.take 3 == [114, 101, 58]) = true := by rw [← hr1, isPrefixOf_take]; rfl
    have hd : (u.drop 3).length ≤ 1099511627776 := by rw [List.length_drop]; omega
    have ih' := ih (trim (u.drop 3)) ⟨Nat.le_trans (trim_len _) hd, by rw [← base_re hr1, he]⟩ (drop_lt hr1 rfl (by decide))
    simp only [hu, g0, g1, g2, hd, List.take_length, Int.reduceToNat, Nat.zero_le, Nat.le_refl, go_sem]
    repeat' ((first | apply qa | apply qb | apply qc | apply qd | apply qe | apply qf | apply qg | apply qh | apply qi | apply qj | apply qk) <;> intro hp <;> simp only [hp, hu, g0, g1, g2, hd, List.take_length, Int.reduceToNat, Nat.zero_le, Nat.le_refl, go_sem])
    exact ih'
  | false =>
    have q1 : (3 : Int) ≤ u.length → (u.take 3 == [114, 101, 58]) = false := fun _ => by rw [← hr1, isPrefixOf_take]; rfl
    cases hr2 : fwd_.isPrefixOf u with
    | true =>
      have g0 : 4 ≤ u.length := lenlt hr2
      have g0' : 3 ≤ u.length := by omega
      have g1 : (4 : Int) ≤ u.length := by omega
      have g1' : (3 : Int) ≤ u.length := by omega
      have g2' := q1 g1'
      have g2 : (u.take 4 == [102, 119, 100, 58]) = true := by rw [← hr2, isPrefixOf_take]; rfl
      have hd : (u.drop 4).length ≤ 1099511627776 := by rw [List.length_drop]; omega
      have ih' := ih (trim (u.drop 4)) ⟨Nat.le_trans (trim_len _) hd, by rw [← base_fwd hr1 hr2, he]⟩ (drop_lt hr2 rfl (by decide))
      simp only [hu, g0, g0', g1, g1', g2, g2', hd, List.take_length, Int.reduceToNat, Nat.zero_le, Nat.le_refl, go_sem]
      repeat' ((first | apply qa | apply qb | apply qc | apply qd | apply qe | apply qf | apply qg | apply qh | apply qi | apply qj | apply qk) <;> intro hp <;> simp only [hp, hu, g0, g0', g1, g1', g2, g2', hd, List.take_length, Int.reduceToNat, Nat.zero_le, Nat.le_refl, go_sem])
      exact ih'
    | false =>
      have q2 : (4 : Int) ≤ u.length → (u.take 4 == [102, 119, 100, 58]) = false := fun _ => by rw [← hr2, isPrefixOf_take]; rfl
      by_cases l3 : (3 : Int) ≤ u.length
      · have g0' : 3 ≤ u.length := by omega
        have g2' := q1 l3
        by_cases l4 : (4 : Int) ≤ u.length
        · have g0 : 4 ≤ u.length := by omega
          have g2 := q2 l4
          simp only [l3, l4, g0, g0', g2, g2', Int.reduceToNat, Nat.zero_le, go_sem]
          repeat' ((first | apply qa | apply qb | apply qc | apply qd | apply qe | apply qf | apply qg | apply qh | apply qi | apply qj | apply qk) <;> intro hp <;> simp only [hp, l3, l4, g0, g0', g2, g2', Int.reduceToNat, Nat.zero_le, go_sem])
          simp only [fin_mk, finV, resL, resV1, resIn, endA, listIn, Option.some_or, Option.none_or, oneOrTup, go_sem]
          rw [← hr]
          rw [← he, base_end hr1 hr2]
        · simp only [l3, l4, g0', g2', Int.reduceToNat, Nat.zero_le, go_sem]
          repeat' ((first | apply qa | apply qb | apply qc | apply qd | apply qe | apply qf | apply qg | apply qh | apply qi | apply qj | apply qk) <;> intro hp <;> simp only [hp, l3, l4, g0', g2', Int.reduceToNat, Nat.zero_le, go_sem])
          simp only [fin_mk, finV, resL, resV1, resIn, endA, listIn, Option.some_or, Option.none_or, oneOrTup, go_sem]
          rw [← hr]
          rw [← he, base_end hr1 hr2]
      · have l4 : ¬ (4 : Int) ≤ u.length := by omega
        simp only [l3, l4, go_sem]
        repeat' ((first | apply qa | apply qb | apply qc | apply qd | apply qe | apply qf | apply qg | apply qh | apply qi | apply qj | apply qk) <;> intro hp <;> simp only [hp, l3, l4, go_sem])
        simp only [fin_mk, finV, resL, resV1, resIn, endA, listIn, Option.some_or, Option.none_or, oneOrTup, go_sem]
        rw [← hr]
        rw [← he, base_end hr1 hr2]
end Go.Proofs.YtonjbbfgdloljaaGreatDoor.L

