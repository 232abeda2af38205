/- Draws: a cursor over bytes, bytes and numbers drawn, places. -/
import Derived.Test.YtimiccneikhkgaaGreatDoorVLA
import Derived.Test.YtimiccneikhkgaaGreatDoorVmCur
import Derived.Test.YtimiccneikhkgaaGreatDoorVmLoop
namespace Go.Proofs.YtimiccneikhkgaaGreatDoor.L
open Go Go.VM
set_option maxRecDepth 100000
set_option maxHeartbeats 4000000
set_option linter.unusedSimpArgs false
set_option linter.unusedVariables false
def andI (a b : Int) : Int := IntKind.i64.wrap (BitVec.ofInt IntKind.i64.bits a &&& BitVec.ofInt IntKind.i64.bits b).toNat
def xorI (a b : Int) : Int := IntKind.i64.wrap (BitVec.ofInt IntKind.i64.bits a ^^^ BitVec.ofInt IntKind.i64.bits b).toNat
theorem andI_255 (a : Int) : 0 ≤ andI a 255 ∧ andI a 255 ≤ 255 := by
  have h : (BitVec.ofInt 64 a &&& BitVec.ofInt 64 255).toNat ≤ 255 := by
    rw [BitVec.toNat_and]; exact Nat.and_le_right
  have e : andI a 255 = ((BitVec.ofInt 64 a &&& BitVec.ofInt 64 255).toNat : Int) := by
    show IntKind.i64.wrap (((BitVec.ofInt 64 a &&& BitVec.ofInt 64 255).toNat : Nat) : Int) = _
    exact wrap64 (by omega) (by omega)
  rw [e]; omega
def newStep (h c : Int) : Int := andI (IntKind.i64.wrap (IntKind.i64.wrap (IntKind.i64.wrap (h * 131) + IntKind.i64.wrap c) + 7)) 1073741823
def newH : List Int → Int → Int
  | [], h => h
  | c :: l, h => newH l (newStep h c)
def cur0 (code : List Int) : Cur := ⟨code, 0, newH (code.take 4000) (IntKind.i64.wrap (35201 + (code.length : Int)))⟩
open Classical in
noncomputable def spNew : VM.Spec := { modes := [.rd], run := fun | [.lst 1 code'] => (decL dU8 code').bind fun code => if code.length ≤ 4194304 then some (.rptr (Cur.enc (cur0 code)), []) else none | _ => none, need := [] }
attribute [go_sem] spNew
theorem spNew_in {ins : List V} {r : V} {outs : List V} (h : spNew.run ins = some (r, outs)) : ∃ (code : (List Int)), ins = [.lst 1 ((code).map eU8)] ∧ (code.length ≤ 4194304) ∧ .rptr (Cur.enc (cur0 code)) = r ∧ outs = [] := by
  unfold spNew at h
  simp only at h
  split at h
  · rename_i code'
    simp only [Option.bind_eq_some_iff] at h
    obtain ⟨code, h_code, h⟩ := h
    split at h
    case isFalse => cases h
    rename_i hc
    simp only [Option.some.injEq, Prod.mk.injEq] at h
    obtain ⟨h1, h2⟩ := h
    have h_code := decL_some (fun _ _ h => dU8_some h) h_code
    subst h_code
    exact ⟨code, rfl, hc, h1, h2.symm⟩
  · cases h
def T_spec_l01New : Hints := ⟨fun _ => none, fun i => if i = 3 then some [0, 3, 4] else none, fun i => if i = 0 then some [0] else if i = 1 then some [0, 3] else if i = 2 then some [0, 3, 4] else if i = 3 then some [0, 3, 4, 15] else if i = 5 then some [0, 3, 4] else if i = 4 then some [0, 3, 4] else if i = 6 then some [2] else none, fun _ => none⟩
noncomputable def Phi_spec_l01New : Tab := fun f => none
attribute [go_sem] T_spec_l01New Phi_spec_l01New
theorem phi_spec_l01New : ∀ f sp, Phi_spec_l01New f = some sp → FnOk Tryz.prog f sp ∧ ∀ n ∈ sp.need, n ∈ ([] : List String) := by
  intro f sp h
  unfold Phi_spec_l01New at h
  cases h
theorem ok_spec_l01New : FnOk Tryz.prog 38 spNew := by
  refine fn_ok (Φ := Phi_spec_l01New) (T := T_spec_l01New) phi_spec_l01New mixed Tryz.func38 rfl rfl rfl (by decide) ?_
  intro ins r outs hr hl
  clear hl
  have hs := spNew_in hr
  clear hr
  obtain ⟨code, rfl, hc, hr, rfl⟩ := hs
  simp only [spNew, Tryz.f38, Go.VM.initS]
  simp only [go_sem]
  repeat' ((first | ((first | apply qa | apply qb | apply qc | apply qd | apply qe | apply qf | apply qg | apply qh | apply qi | apply qj | apply qk) <;> intro hp) | ((first | refine ql rfl rfl (by decide +kernel) ?_ | refine qm _ rfl rfl (by decide +kernel) ?_ | refine goes_opn rfl ?_ | refine goes_opnD rfl rfl (by decide +kernel) ?_) <;> have hp := True.intro)) <;> simp only [hp, go_sem])
  refine loop_go (fun p : Int × Nat => [(3, .int .i64 p.1), (4, .int .i64 (p.2 : Int))]) (fun _ => []) (fun p => 4000 - p.2) (fun p => p.2 ≤ 4000 ∧ p.2 ≤ code.length ∧ newH ((code.take 4000).drop p.2) p.1 = (cur0 code).h) (IntKind.i64.wrap (35201 + (code.length : Int)), 0) ⟨Nat.zero_le _, Nat.zero_le _, rfl⟩ rfl rfl ?_
  rintro ⟨h, i⟩ ⟨hi, hl, he⟩ ih
  simp only at hi hl he ih
  rcases Nat.lt_or_ge i code.length with g | g
  · have g1 : (i : Int) < code.length := by omega
    rcases Nat.lt_or_ge i 4000 with k | k
    · have g2 : (i : Int) < 4000 := by omega
      have g3 : (0 : Int) ≤ i := by omega
      have g4 : code[i]? = some code[i] := List.getElem?_eq_getElem g
      have g5 := wrap_succ g (by omega)
      have hlt : i < (code.take 4000).length := by rw [List.length_take]; omega
      rw [List.drop_eq_getElem_cons hlt, newH, List.getElem_take] at he
      have ih' := ih (newStep h code[i], i + 1) ⟨k, g, he⟩ (by simp only; omega)
      simp only at ih'
      simp only [g1, g2, g3, g4, g5, go_sem]
      repeat' ((first | ((first | apply qa | apply qb | apply qc | apply qd | apply qe | apply qf | apply qg | apply qh | apply qi | apply qj | apply qk) <;> intro hp) | ((first | refine ql rfl rfl (by decide +kernel) ?_ | refine qm _ rfl rfl (by decide +kernel) ?_ | refine goes_opn rfl ?_ | refine goes_opnD rfl rfl (by decide +kernel) ?_) <;> have hp := True.intro)) <;> simp only [hp, g1, g2, g3, g4, g5, go_sem])
      exact ih'
    · have g2 : ¬ (i : Int) < 4000 := by omega
      have e : (code.take 4000).drop i = [] := List.drop_of_length_le (by rw [List.length_take]; omega)
      rw [e, newH] at he
      simp only [g1, g2, go_sem]
      repeat' ((first | ((first | apply qa | apply qb | apply qc | apply qd | apply qe | apply qf | apply qg | apply qh | apply qi | apply qj | apply qk) <;> intro hp) | ((first | refine ql rfl rfl (by decide +kernel) ?_ | refine qm _ rfl rfl (by decide +kernel) ?_ | refine goes_opn rfl ?_ | refine goes_opnD rfl rfl (by decide +kernel) ?_) <;> have hp := True.intro)) <;> simp only [hp, g1, g2, go_sem])
      simp only [fin_mk, finV, resL, resV1, resIn, endA, listIn, Option.some_or, Option.none_or, oneOrTup, go_sem]
      rw [← hr]
      simp only [cur0, he]; rfl
  · have g1 : ¬ (i : Int) < code.length := by omega
    have e : (code.take 4000).drop i = [] := List.drop_of_length_le (by rw [List.length_take]; omega)
    rw [e, newH] at he
    simp only [g1, go_sem]
    repeat' ((first | ((first | apply qa | apply qb | apply qc | apply qd | apply qe | apply qf | apply qg | apply qh | apply qi | apply qj | apply qk) <;> intro hp) | ((first | refine ql rfl rfl (by decide +kernel) ?_ | refine qm _ rfl rfl (by decide +kernel) ?_ | refine goes_opn rfl ?_ | refine goes_opnD rfl rfl (by decide +kernel) ?_) <;> have hp := True.intro)) <;> simp only [hp, g1, go_sem])
    simp only [fin_mk, finV, resL, resV1, resIn, endA, listIn, Option.some_or, Option.none_or, oneOrTup, go_sem]
    rw [← hr]
    simp only [cur0, he]; rfl
def curI (c : Cur) : Prop := 0 ≤ c.i ∧ c.i ≤ c.b.length ∧ c.b.length ≤ 4194304
def bytH (h : Int) : Int := IntKind.i64.wrap (IntKind.i64.wrap (h * 6364136223846793005) + 1442695040888963407)
def bytX (h : Int) : Int := andI (xorI (Int.fdiv h (2 ^ 33)) (Int.fdiv h (2 ^ 45))) 255
def bytO (c : Cur) : Int × Cur := if c.i < c.b.length then (andI (IntKind.i64.wrap (bytX (bytH c.h) + IntKind.i64.wrap (c.b.getD c.i.toNat 0))) 255, ⟨c.b, c.i + 1, bytH c.h⟩) else (bytX (bytH c.h), ⟨c.b, c.i, bytH c.h⟩)
theorem bytO_in {c : Cur} (h : curI c) : curI (bytO c).2 ∧ 0 ≤ (bytO c).1 ∧ (bytO c).1 ≤ 255 := by
  obtain ⟨h0, h1, h2⟩ := h
  unfold bytO
  split
  · exact ⟨⟨by simp only; omega, by simp only; omega, h2⟩, andI_255 _⟩
  · exact ⟨⟨h0, h1, h2⟩, andI_255 _⟩
open Classical in
noncomputable def spByte : VM.Spec := { modes := [.ptr], run := fun | [.rptr (c')] => (Cur.dec c').bind fun c => if curI c then some (.int .i64 ((bytO c).1), [.rptr (Cur.enc ((bytO c).2))]) else none | _ => none, need := [] }
attribute [go_sem] spByte
theorem spByte_in {ins : List V} {r : V} {outs : List V} (h : spByte.run ins = some (r, outs)) : ∃ (c : Cur), ins = [.rptr (Cur.enc c)] ∧ (curI c) ∧ .int .i64 ((bytO c).1) = r ∧ outs = [.rptr (Cur.enc ((bytO c).2))] := by
  unfold spByte at h
  simp only at h
  split at h
  · rename_i c'
    simp only [Option.bind_eq_some_iff] at h
    obtain ⟨c, h_c, h⟩ := h
    split at h
    case isFalse => cases h
    rename_i hc
    simp only [Option.some.injEq, Prod.mk.injEq] at h
    obtain ⟨h1, h2⟩ := h
    have h_c := Cur.dec_some h_c
    subst h_c
    exact ⟨c, rfl, hc, h1, h2.symm⟩
  · cases h
def T_spec_l01Byte : Hints := ⟨fun i => if i = 2 then some [] else if i = 3 then some [] else if i = 4 then some [] else none, fun _ => none, fun i => if i = 0 then some [0] else if i = 1 then some [0] else if i = 2 then some [0, 3] else if i = 3 then some [0, 3, 34] else if i = 4 then some [0, 3] else if i = 5 then some [3] else if i = 6 then some [2] else none, fun _ => none⟩
noncomputable def Phi_spec_l01Byte : Tab := fun f => none
attribute [go_sem] T_spec_l01Byte Phi_spec_l01Byte
theorem phi_spec_l01Byte : ∀ f sp, Phi_spec_l01Byte f = some sp → FnOk Tryz.prog f sp ∧ ∀ n ∈ sp.need, n ∈ ([] : List String) := by
  intro f sp h
  unfold Phi_spec_l01Byte at h
  cases h
theorem ok_spec_l01Byte : FnOk Tryz.prog 108 spByte := by
  refine fn_ok (Φ := Phi_spec_l01Byte) (T := T_spec_l01Byte) phi_spec_l01Byte mixed Tryz.func108 rfl rfl rfl (by decide) ?_
  intro ins r outs hr hl
  clear hl
  have hs := spByte_in hr
  clear hr
  obtain ⟨c, rfl, hc, hr, rfl⟩ := hs
  simp only [spByte, Tryz.f108, Go.VM.initS]
  obtain ⟨b, i, h⟩ := c
  obtain ⟨h0, h1, h2⟩ := hc
  simp only at h0 h1 h2
  obtain ⟨k, rfl⟩ : ∃ k : Nat, i = k := ⟨i.toNat, by omega⟩
  have hx : IntKind.i64.wrap (BitVec.ofInt IntKind.i64.bits (IntKind.i64.wrap (BitVec.ofInt IntKind.i64.bits (Int.fdiv (bytH h) (2 ^ 33)) ^^^ BitVec.ofInt IntKind.i64.bits (Int.fdiv (bytH h) (2 ^ 45))).toNat) &&& BitVec.ofInt IntKind.i64.bits 255).toNat = bytX (bytH h) := rfl
  by_cases g1 : (k : Int) < b.length
  · have g2 : k < b.length := by omega
    have e : bytO ⟨b, k, h⟩ = (andI (IntKind.i64.wrap (bytX (bytH h) + IntKind.i64.wrap b[k])) 255, ⟨b, ((k + 1 : Nat) : Int), bytH h⟩) := by
      rw [bytO, if_pos g1]
      simp only [Int.toNat_natCast, getD_lt g2]; rfl
    rw [e] at hr
    have g3 : b[k]? = some b[k] := List.getElem?_eq_getElem g2
    have g4 := wrap_succ g2 (by omega)
    simp only [g1, g3, g4, h0, go_sem]
    repeat' ((first | ((first | apply qa | apply qb | apply qc | apply qd | apply qe | apply qf | apply qg | apply qh | apply qi | apply qj | apply qk) <;> intro hp) | ((first | refine ql rfl rfl (by decide +kernel) ?_ | refine qm _ rfl rfl (by decide +kernel) ?_ | refine goes_opn rfl ?_ | refine goes_opnD rfl rfl (by decide +kernel) ?_) <;> have hp := True.intro)) <;> simp only [hp, g1, g3, g4, h0, go_sem])
    simp only [fin_mk, finV, resL, resV1, resIn, endA, listIn, Option.some_or, Option.none_or, oneOrTup, go_sem]
    rw [← hr]
    simp only [e]; rfl
  · have e : bytO ⟨b, k, h⟩ = (bytX (bytH h), ⟨b, k, bytH h⟩) := by rw [bytO, if_neg g1]
    rw [e] at hr
    simp only [g1, go_sem]
    repeat' ((first | ((first | apply qa | apply qb | apply qc | apply qd | apply qe | apply qf | apply qg | apply qh | apply qi | apply qj | apply qk) <;> intro hp) | ((first | refine ql rfl rfl (by decide +kernel) ?_ | refine qm _ rfl rfl (by decide +kernel) ?_ | refine goes_opn rfl ?_ | refine goes_opnD rfl rfl (by decide +kernel) ?_) <;> have hp := True.intro)) <;> simp only [hp, g1, go_sem])
    simp only [fin_mk, finV, resL, resV1, resIn, endA, listIn, Option.some_or, Option.none_or, oneOrTup, go_sem]
    rw [← hr]
    simp only [e]; rfl
def belO (c : Cur) (n : Int) : Int × Cur :=
  if n ≤ 0 then (0, c) else if n ≤ 256 then ((bytO c).1.tmod n, (bytO c).2) else
  (((bytO c).1 * 16777216 + (bytO (bytO c).2).1 * 65536 + (bytO (bytO (bytO c).2).2).1 * 256 + (bytO (bytO (bytO (bytO c).2).2).2).1).tmod n, (bytO (bytO (bytO (bytO c).2).2).2).2)
theorem belO_in {c : Cur} {n : Int} (h : curI c) : curI (belO c n).2 ∧ 0 ≤ (belO c n).1 ∧ (0 < n → (belO c n).1 < n) := by
  have h1 := bytO_in h
  have h2 := bytO_in h1.1
  have h3 := bytO_in h2.1
  have h4 := bytO_in h3.1
  unfold belO
  split
  · exact ⟨h, Int.le_refl 0, fun e => by omega⟩
  · split
    · exact ⟨h1.1, Int.tmod_nonneg _ h1.2.1, fun e => Int.tmod_lt_of_pos _ e⟩
    · exact ⟨h4.1, Int.tmod_nonneg _ (by omega), fun e => Int.tmod_lt_of_pos _ e⟩
open Classical in
noncomputable def spBelow : VM.Spec := { modes := [.ptr, .rd], run := fun | [.rptr (c'), .int .i64 n] => (Cur.dec c').bind fun c => if curI c then some (.int .i64 ((belO c n).1), [.rptr (Cur.enc ((belO c n).2))]) else none | _ => none, need := [] }
attribute [go_sem] spBelow
theorem spBelow_in {ins : List V} {r : V} {outs : List V} (h : spBelow.run ins = some (r, outs)) : ∃ (c : Cur) (n : Int), ins = [.rptr (Cur.enc c), .int .i64 n] ∧ (curI c) ∧ .int .i64 ((belO c n).1) = r ∧ outs = [.rptr (Cur.enc ((belO c n).2))] := by
  unfold spBelow at h
  simp only at h
  split at h
  · rename_i c' n
    simp only [Option.bind_eq_some_iff] at h
    obtain ⟨c, h_c, h⟩ := h
    split at h
    case isFalse => cases h
    rename_i hc
    simp only [Option.some.injEq, Prod.mk.injEq] at h
    obtain ⟨h1, h2⟩ := h
    have h_c := Cur.dec_some h_c
    subst h_c
    exact ⟨c, n, rfl, hc, h1, h2.symm⟩
  · cases h
def T_spec_l01Below : Hints := ⟨fun _ => none, fun _ => none, fun i => if i = 0 then some [0, 1] else if i = 1 then some [0, 1, 10] else if i = 2 then some [4] else if i = 3 then some [0, 1, 12] else if i = 4 then some [4] else if i = 5 then some [0, 1, 5] else if i = 6 then some [0, 1, 5, 6] else if i = 7 then some [0, 1, 5, 6, 7] else if i = 8 then some [1, 5, 6, 7, 8] else if i = 9 then some [4] else none, fun _ => none⟩
noncomputable def Phi_spec_l01Below : Tab := fun f => if f = 108 then some spByte else none
attribute [go_sem] T_spec_l01Below Phi_spec_l01Below
theorem phi_spec_l01Below : ∀ f sp, Phi_spec_l01Below f = some sp → FnOk Tryz.prog f sp ∧ ∀ n ∈ sp.need, n ∈ ([] : List String) := by
  intro f sp h
  unfold Phi_spec_l01Below at h
  by_cases e : f = 108
  · rw [if_pos e] at h; cases h; rw [e]; exact ⟨ok_spec_l01Byte, (fun n (h : n ∈ ([] : List String)) => (nomatch h))⟩
  rw [if_neg e] at h
  cases h
theorem ok_spec_l01Below : FnOk Tryz.prog 46 spBelow := by
  refine fn_ok (Φ := Phi_spec_l01Below) (T := T_spec_l01Below) phi_spec_l01Below mixed Tryz.func46 rfl rfl rfl (by decide) ?_
  intro ins r outs hr hl
  clear hl
  have hs := spBelow_in hr
  clear hr
  obtain ⟨c, n, rfl, hc, hr, rfl⟩ := hs
  simp only [spBelow, Tryz.f46, Go.VM.initS]
  by_cases g1 : n ≤ 0
  · have e : belO c n = (0, c) := by rw [belO, if_pos g1]
    rw [e] at hr
    simp only [g1, go_sem]
    repeat' ((first | ((first | apply qa | apply qb | apply qc | apply qd | apply qe | apply qf | apply qg | apply qh | apply qi | apply qj | apply qk) <;> intro hp) | ((first | refine ql rfl rfl (by decide +kernel) ?_ | refine qm _ rfl rfl (by decide +kernel) ?_ | refine goes_opn rfl ?_ | refine goes_opnD rfl rfl (by decide +kernel) ?_) <;> have hp := True.intro)) <;> simp only [hp, g1, go_sem])
    simp only [fin_mk, finV, resL, resV1, resIn, endA, listIn, Option.some_or, Option.none_or, oneOrTup, go_sem]
    rw [← hr]
    simp only [e]
  · by_cases g2 : n ≤ 256
    · have e : belO c n = ((bytO c).1.tmod n, (bytO c).2) := by rw [belO, if_neg g1, if_pos g2]
      rw [e] at hr
      have g3 : ¬ n = 0 := by omega
      simp only [hc, g1, g2, g3, go_sem]
      repeat' ((first | ((first | apply qa | apply qb | apply qc | apply qd | apply qe | apply qf | apply qg | apply qh | apply qi | apply qj | apply qk) <;> intro hp) | ((first | refine ql rfl rfl (by decide +kernel) ?_ | refine qm _ rfl rfl (by decide +kernel) ?_ | refine goes_opn rfl ?_ | refine goes_opnD rfl rfl (by decide +kernel) ?_) <;> have hp := True.intro)) <;> simp only [hp, hc, g1, g2, g3, go_sem])
      simp only [fin_mk, finV, resL, resV1, resIn, endA, listIn, Option.some_or, Option.none_or, oneOrTup, go_sem]
      rw [← hr]
      simp only [e]
    · have e : belO c n = (((bytO c).1 * 16777216 + (bytO (bytO c).2).1 * 65536 + (bytO (bytO (bytO c).2).2).1 * 256 + (bytO (bytO (bytO (bytO c).2).2).2).1).tmod n, (bytO (bytO (bytO (bytO c).2).2).2).2) := by rw [belO, if_neg g1, if_neg g2]
      rw [e] at hr
      have h1 := bytO_in hc
      obtain ⟨⟨v1, c1⟩, e1⟩ : ∃ x, bytO c = x := ⟨_, rfl⟩
      rw [e1] at h1 hr e
      simp only at h1 hr e
      have h2 := bytO_in h1.1
      obtain ⟨⟨v2, c2⟩, e2⟩ : ∃ x, bytO c1 = x := ⟨_, rfl⟩
      rw [e2] at h2 hr e
      simp only at h2 hr e
      have h3 := bytO_in h2.1
      obtain ⟨⟨v3, c3⟩, e3⟩ : ∃ x, bytO c2 = x := ⟨_, rfl⟩
      rw [e3] at h3 hr e
      simp only at h3 hr e
      have h4 := bytO_in h3.1
      obtain ⟨⟨v4, c4⟩, e4⟩ : ∃ x, bytO c3 = x := ⟨_, rfl⟩
      rw [e4] at h4 hr e
      simp only at h4 hr e
      have g3 : ¬ n = 0 := by omega
      have w1 : IntKind.i64.wrap (v1 * 16777216) = v1 * 16777216 := wrap64 (by omega) (by omega)
      have w2 : IntKind.i64.wrap (v2 * 65536) = v2 * 65536 := wrap64 (by omega) (by omega)
      have w3 : IntKind.i64.wrap (v3 * 256) = v3 * 256 := wrap64 (by omega) (by omega)
      have w4 : IntKind.i64.wrap (v1 * 16777216 + v2 * 65536) = v1 * 16777216 + v2 * 65536 := wrap64 (by omega) (by omega)
      have w5 : IntKind.i64.wrap (v1 * 16777216 + v2 * 65536 + v3 * 256) = v1 * 16777216 + v2 * 65536 + v3 * 256 := wrap64 (by omega) (by omega)
      have w6 : IntKind.i64.wrap (v1 * 16777216 + v2 * 65536 + v3 * 256 + v4) = v1 * 16777216 + v2 * 65536 + v3 * 256 + v4 := wrap64 (by omega) (by omega)
      simp only [hc, h1.1, h2.1, h3.1, h4.1, e1, e2, e3, e4, g1, g2, g3, w1, w2, w3, w4, w5, w6, go_sem]
      repeat' ((first | ((first | apply qa | apply qb | apply qc | apply qd | apply qe | apply qf | apply qg | apply qh | apply qi | apply qj | apply qk) <;> intro hp) | ((first | refine ql rfl rfl (by decide +kernel) ?_ | refine qm _ rfl rfl (by decide +kernel) ?_ | refine goes_opn rfl ?_ | refine goes_opnD rfl rfl (by decide +kernel) ?_) <;> have hp := True.intro)) <;> simp only [hp, hc, h1.1, h2.1, h3.1, h4.1, e1, e2, e3, e4, g1, g2, g3, w1, w2, w3, w4, w5, w6, go_sem])
      simp only [fin_mk, finV, resL, resV1, resIn, endA, listIn, Option.some_or, Option.none_or, oneOrTup, go_sem]
      rw [← hr]
      simp only [e]
def plc : Nat → Cur → List Int → List Int
  | 0, _, a => a
  | k + 1, c, a => plc k (belO c 10000).2 (a ++ [(belO c 10000).1])
def places (code : List Int) : List Int := plc 12 (bytO (cur0 code)).2 []
theorem plc_in : ∀ (k : Nat) {c : Cur} {a : List Int}, curI c → (∀ x ∈ a, 0 ≤ x ∧ x < 10000) → (plc k c a).length = a.length + k ∧ ∀ x ∈ plc k c a, 0 ≤ x ∧ x < 10000
  | 0, c, a, _, ha => ⟨rfl, ha⟩
  | k + 1, c, a, hc, ha => by
    have h := belO_in (n := 10000) hc
    obtain ⟨h1, h2⟩ := plc_in k (a := a ++ [(belO c 10000).1]) h.1 fun x hx => by
      rcases List.mem_append.1 hx with hx | hx
      · exact ha x hx
      · simp only [List.mem_singleton] at hx; subst hx; exact ⟨h.2.1, h.2.2 (by decide)⟩
    refine ⟨?_, h2⟩
    rw [plc, h1, List.length_append]; simp; omega
theorem cur0_in {code : List Int} (h : code.length ≤ 4194304) : curI (cur0 code) := ⟨Int.le_refl 0, by simp only [cur0]; omega, h⟩
theorem places_in {code : List Int} (h : code.length ≤ 4194304) : (places code).length = 12 ∧ ∀ x ∈ places code, 0 ≤ x ∧ x < 10000 := by
  have := plc_in 12 (c := (bytO (cur0 code)).2) (a := []) (bytO_in (cur0_in h)).1 (by simp)
  unfold places
  simpa using this
open Classical in
noncomputable def spPlaces : VM.Spec := { modes := [.rd], run := fun | [.lst 1 code'] => (decL dU8 code').bind fun code => if code.length ≤ 4194304 then some (.lst 1 ((places code).map eInt), []) else none | _ => none, need := [] }
attribute [go_sem] spPlaces
theorem spPlaces_in {ins : List V} {r : V} {outs : List V} (h : spPlaces.run ins = some (r, outs)) : ∃ (code : (List Int)), ins = [.lst 1 ((code).map eU8)] ∧ (code.length ≤ 4194304) ∧ .lst 1 ((places code).map eInt) = r ∧ outs = [] := by
  unfold spPlaces at h
  simp only at h
  split at h
  · rename_i code'
    simp only [Option.bind_eq_some_iff] at h
    obtain ⟨code, h_code, h⟩ := h
    split at h
    case isFalse => cases h
    rename_i hc
    simp only [Option.some.injEq, Prod.mk.injEq] at h
    obtain ⟨h1, h2⟩ := h
    have h_code := decL_some (fun _ _ h => dU8_some h) h_code
    subst h_code
    exact ⟨code, rfl, hc, h1, h2.symm⟩
  · cases h
end Go.Proofs.YtimiccneikhkgaaGreatDoor.L
