/- Texts: small letters, blanks taken off at the ends, beginnings cut off. -/
import Derived.Test.YtnbkmmjnpbfhnaaDoorVLA
import Derived.Test.YtnbkmmjnpbfhnaaDoorVmStr
namespace Go.Proofs.YtnbkmmjnpbfhnaaDoor.L
open Go Go.VM
set_option maxRecDepth 100000
set_option maxHeartbeats 4000000
set_option linter.unusedSimpArgs false
set_option linter.unusedVariables false
/-- A byte is the number c. -/
def isB (c : Int) (b : UInt8) : Bool := (b.toNat : Int) == c
def trimL (c : Int) (s : List UInt8) : List UInt8 := s.dropWhile (isB c)
def trimR (c : Int) (s : List UInt8) : List UInt8 := (s.reverse.dropWhile (isB c)).reverse
def trim (s : List UInt8) : List UInt8 := trimL 32 (trimR 32 s)
theorem trimL_nil (c : Int) : trimL c [] = [] := rfl
theorem trimL_hit {c : Int} {b : UInt8} {s : List UInt8} (h : isB c b = true) : trimL c (b :: s) = trimL c s := by simp [trimL, List.dropWhile_cons, h]
theorem trimL_miss {c : Int} {b : UInt8} {s : List UInt8} (h : isB c b = false) : trimL c (b :: s) = b :: s := by simp [trimL, List.dropWhile_cons, h]
theorem trimR_hit {c : Int} {b : UInt8} {s : List UInt8} (h : isB c b = true) : trimR c (s ++ [b]) = trimR c s := by simp [trimR, List.dropWhile_cons, h]
theorem trimR_miss {c : Int} {b : UInt8} {s : List UInt8} (h : isB c b = false) : trimR c (s ++ [b]) = s ++ [b] := by simp [trimR, List.dropWhile_cons, h]
theorem trimL_len (c : Int) (s : List UInt8) : (trimL c s).length ≤ s.length := by
  induction s with
  | nil => simp [trimL]
  | cons b s ih =>
    cases h : isB c b with
    | true => rw [trimL_hit h]; simp; omega
    | false => rw [trimL_miss h]; simp
theorem trimR_len (c : Int) (s : List UInt8) : (trimR c s).length ≤ s.length := by
  have := trimL_len c s.reverse
  simp only [trimL, List.length_reverse] at this
  simpa [trimR] using this
theorem trim_len (s : List UInt8) : (trim s).length ≤ s.length := Nat.le_trans (trimL_len _ _) (trimR_len _ _)
theorem no0 : ¬ (0 : Int) < ((0 : Nat) : Int) := by decide
theorem snoc_of {u : List UInt8} {n : Nat} (h : u.length = n + 1) : u = u.take n ++ [u[n]] := by
  have := take_succ' (x := u) (i := n) (by omega)
  rw [← this, List.take_of_length_le (by omega)]
open Classical in
noncomputable def spTrimL : VM.Spec := { modes := [.rd, .rd], run := fun | [.str s, .int .u8 c] => if s.length ≤ 1099511627776 then some (.str (trimL c s), []) else none | _ => none, need := [] }
attribute [go_sem] spTrimL
theorem spTrimL_in {ins : List V} {r : V} {outs : List V} (h : spTrimL.run ins = some (r, outs)) : ∃ (s : (List UInt8)) (c : Int), ins = [.str s, .int .u8 c] ∧ (s.length ≤ 1099511627776) ∧ .str (trimL c s) = r ∧ outs = [] := by
  unfold spTrimL at h
  simp only at h
  split at h
  · rename_i s c
    split at h
    case isFalse => cases h
    rename_i hc
    simp only [Option.some.injEq, Prod.mk.injEq] at h
    obtain ⟨h1, h2⟩ := h
    exact ⟨s, c, rfl, hc, h1, h2.symm⟩
  · cases h
open Classical in
noncomputable def spTrimR : VM.Spec := { modes := [.rd, .rd], run := fun | [.str s, .int .u8 c] => if s.length ≤ 1099511627776 then some (.str (trimR c s), []) else none | _ => none, need := [] }
attribute [go_sem] spTrimR
theorem spTrimR_in {ins : List V} {r : V} {outs : List V} (h : spTrimR.run ins = some (r, outs)) : ∃ (s : (List UInt8)) (c : Int), ins = [.str s, .int .u8 c] ∧ (s.length ≤ 1099511627776) ∧ .str (trimR c s) = r ∧ outs = [] := by
  unfold spTrimR at h
  simp only at h
  split at h
  · rename_i s c
    split at h
    case isFalse => cases h
    rename_i hc
    simp only [Option.some.injEq, Prod.mk.injEq] at h
    obtain ⟨h1, h2⟩ := h
    exact ⟨s, c, rfl, hc, h1, h2.symm⟩
  · cases h
open Classical in
noncomputable def spTrim : VM.Spec := { modes := [.rd, .rd], run := fun | [.str s, .str t] => if t = [32] ∧ s.length ≤ 1099511627776 then some (.str (trim s), []) else none | _ => none, need := [] }
attribute [go_sem] spTrim
theorem spTrim_in {ins : List V} {r : V} {outs : List V} (h : spTrim.run ins = some (r, outs)) : ∃ (s : (List UInt8)) (t : (List UInt8)), ins = [.str s, .str t] ∧ (t = [32] ∧ s.length ≤ 1099511627776) ∧ .str (trim s) = r ∧ outs = [] := by
  unfold spTrim at h
  simp only at h
  split at h
  · rename_i s t
    split at h
    case isFalse => cases h
    rename_i hc
    simp only [Option.some.injEq, Prod.mk.injEq] at h
    obtain ⟨h1, h2⟩ := h
    exact ⟨s, t, rfl, hc, h1, h2.symm⟩
  · cases h
theorem dropWhile_append_nil {p : UInt8 → Bool} {a b : List UInt8} (h : a.dropWhile p = []) : (a ++ b).dropWhile p = b.dropWhile p := by
  induction a with
  | nil => rfl
  | cons x a ih =>
    rw [List.dropWhile_cons] at h
    cases hx : p x with
    | true => rw [hx] at h; rw [List.cons_append, List.dropWhile_cons, hx]; exact ih h
    | false => rw [hx] at h; simp at h
theorem dropWhile_append_ne {p : UInt8 → Bool} {a b : List UInt8} (h : a.dropWhile p ≠ []) : (a ++ b).dropWhile p = a.dropWhile p ++ b := by
  induction a with
  | nil => simp at h
  | cons x a ih =>
    rw [List.dropWhile_cons] at h
    cases hx : p x with
    | true => rw [hx] at h; rw [List.cons_append, List.dropWhile_cons, hx, List.dropWhile_cons, hx]; exact ih h
    | false => rw [List.cons_append, List.dropWhile_cons, hx, List.dropWhile_cons, hx]; rfl
theorem all_of_dropWhile {p : UInt8 → Bool} {a : List UInt8} (h : a.dropWhile p = []) : ∀ x ∈ a, p x = true := by
  induction a with
  | nil => simp
  | cons x a ih =>
    rw [List.dropWhile_cons] at h
    cases hx : p x with
    | true =>
      rw [hx] at h
      intro y hy
      rcases List.mem_cons.1 hy with rfl | hy
      · exact hx
      · exact ih h y hy
    | false => rw [hx] at h; simp at h
theorem dropWhile_of_all {p : UInt8 → Bool} {a : List UInt8} (h : ∀ x ∈ a, p x = true) : a.dropWhile p = [] := by
  induction a with
  | nil => rfl
  | cons x a ih => rw [List.dropWhile_cons, h x (by simp)]; exact ih fun y hy => h y (by simp [hy])
/-- The two ends may be cut in whatever order. -/
theorem trim_comm (s : List UInt8) : trimR 32 (trimL 32 s) = trim s := by
  unfold trim
  induction s with
  | nil => rfl
  | cons b s ih =>
    cases hb : isB 32 b with
    | true =>
      rw [trimL_hit hb, ih]
      by_cases h : s.reverse.dropWhile (isB 32) = []
      · have e1 : trimR 32 s = [] := by simp [trimR, h]
        have e2 : trimR 32 (b :: s) = [] := by
          simp only [trimR, List.reverse_cons]
          rw [dropWhile_append_nil h]
          simp [List.dropWhile_cons, hb]
        rw [e1, e2]
      · have e2 : trimR 32 (b :: s) = b :: trimR 32 s := by
          simp only [trimR, List.reverse_cons]
          rw [dropWhile_append_ne h]
          simp
        rw [e2, trimL_hit hb]
    | false =>
      rw [trimL_miss hb]
      have e2 : ∃ t, trimR 32 (b :: s) = b :: t := by
        simp only [trimR, List.reverse_cons]
        by_cases h : s.reverse.dropWhile (isB 32) = []
        · rw [dropWhile_append_nil h]
          exact ⟨[], by simp [List.dropWhile_cons, hb]⟩
        · rw [dropWhile_append_ne h]
          exact ⟨(s.reverse.dropWhile (isB 32)).reverse, by simp⟩
      obtain ⟨t, e2⟩ := e2
      rw [e2, trimL_miss hb]
open Classical in
noncomputable def spTrim1 : VM.Spec := { modes := [.rd], run := fun | [.str s] => if s.length ≤ 1099511627776 then some (.str (trim s), []) else none | _ => none, need := [] }
attribute [go_sem] spTrim1
theorem spTrim1_in {ins : List V} {r : V} {outs : List V} (h : spTrim1.run ins = some (r, outs)) : ∃ (s : (List UInt8)), ins = [.str s] ∧ (s.length ≤ 1099511627776) ∧ .str (trim s) = r ∧ outs = [] := by
  unfold spTrim1 at h
  simp only at h
  split at h
  · rename_i s
    split at h
    case isFalse => cases h
    rename_i hc
    simp only [Option.some.injEq, Prod.mk.injEq] at h
    obtain ⟨h1, h2⟩ := h
    exact ⟨s, rfl, hc, h1, h2.symm⟩
  · cases h
def low1 (b : UInt8) : UInt8 := if 65 ≤ b.toNat ∧ b.toNat ≤ 90 then b + 32 else b
def lowS (s : List UInt8) : List UInt8 := s.map low1
theorem lowS_len (s : List UInt8) : (lowS s).length = s.length := by simp [lowS]
def lowTo (s : List UInt8) (i : Nat) : List UInt8 := (s.take i).map low1 ++ s.drop i
theorem lowTo_len (s : List UInt8) (i : Nat) : (lowTo s i).length = s.length := by simp [lowTo]; omega
theorem lowTo_get {s : List UInt8} {i : Nat} (h : i < s.length) : (lowTo s i)[i]? = some s[i] := by
  have h1 : ((s.take i).map low1).length = i := by simp; omega
  rw [lowTo, List.getElem?_append_right (by omega), h1, Nat.sub_self, List.getElem?_drop, Nat.add_zero]
  exact List.getElem?_eq_getElem h
theorem lowTo_succ {s : List UInt8} {i : Nat} (h : i < s.length) : (lowTo s i).set i (low1 s[i]) = lowTo s (i + 1) := by
  have h1 : ((s.take i).map low1).length = i := by simp; omega
  rw [lowTo, lowTo, List.set_append_right _ _ (by omega), h1, Nat.sub_self, List.drop_eq_getElem_cons h, List.set_cons_zero, take_succ' h, List.map_append, List.append_assoc]
  rfl
theorem lowTo_skip {s : List UInt8} {i : Nat} (h : i < s.length) (hn : low1 s[i] = s[i]) : lowTo s (i + 1) = lowTo s i := by
  rw [← lowTo_succ h, hn]
  apply List.ext_getElem?
  intro j
  rw [List.getElem?_set]
  split
  · rename_i e
    subst e
    rw [if_pos (by rw [lowTo_len]; exact h), lowTo_get h]
  · rfl
theorem lowTo_end {s : List UInt8} {i : Nat} (h : s.length ≤ i) : lowTo s i = lowS s := by simp [lowTo, lowS, List.take_of_length_le h, List.drop_of_length_le h]
theorem low1_up {b : UInt8} (h : within b.toNat 65 90 = true) : IntKind.u8.wrap ((b.toNat : Int) + 32) = (low1 b).toNat := by
  have hb : 65 ≤ b.toNat ∧ b.toNat ≤ 90 := by
    simp only [within, Bool.and_eq_true, decide_eq_true_eq] at h; omega
  have : (low1 b).toNat = b.toNat + 32 := by
    rw [low1, if_pos hb, UInt8.toNat_add]
    have e : UInt8.toNat 32 = 32 := rfl
    rw [e]; omega
  rw [this]
  simp only [IntKind.wrap, IntKind.signed, IntKind.bits]
  simp; omega
theorem low1_no {b : UInt8} (h : within b.toNat 65 90 = false) : low1 b = b := by
  have hb : ¬ (65 ≤ b.toNat ∧ b.toNat ≤ 90) := by
    intro hb
    simp only [within, Bool.and_eq_false_iff, decide_eq_false_iff_not] at h; omega
  rw [low1, if_neg hb]
open Classical in
noncomputable def spLow : VM.Spec := { modes := [.rd], run := fun | [.str s] => if s.length ≤ 1099511627776 then some (.str (lowS s), []) else none | _ => none, need := [] }
attribute [go_sem] spLow
theorem spLow_in {ins : List V} {r : V} {outs : List V} (h : spLow.run ins = some (r, outs)) : ∃ (s : (List UInt8)), ins = [.str s] ∧ (s.length ≤ 1099511627776) ∧ .str (lowS s) = r ∧ outs = [] := by
  unfold spLow at h
  simp only at h
  split at h
  · rename_i s
    split at h
    case isFalse => cases h
    rename_i hc
    simp only [Option.some.injEq, Prod.mk.injEq] at h
    obtain ⟨h1, h2⟩ := h
    exact ⟨s, rfl, hc, h1, h2.symm⟩
  · cases h
theorem isPrefixOf_len {t s : List UInt8} (h : t.isPrefixOf s = true) : t.length ≤ s.length := (List.isPrefixOf_iff_prefix.1 h).length_le
theorem isPrefixOf_short {t s : List UInt8} (h : s.length < t.length) : t.isPrefixOf s = false := by
  cases hp : t.isPrefixOf s with
  | false => rfl
  | true => have := isPrefixOf_len hp; omega
theorem isPrefixOf_take (s t : List UInt8) : t.isPrefixOf s = (s.take t.length == t) := by
  rw [Bool.eq_iff_iff, List.isPrefixOf_iff_prefix, beq_iff_eq, List.prefix_iff_eq_take]
  exact ⟨fun h => h.symm, fun h => h.symm⟩
def cutPrefix (s t : List UInt8) : List UInt8 := if t.isPrefixOf s = true then s.drop t.length else s
open Classical in
noncomputable def spHasPrefix : VM.Spec := { modes := [.rd, .rd], run := fun | [.str s, .str t] => if s.length ≤ 1099511627776 ∧ t.length ≤ 1099511627776 then some (.bool (t.isPrefixOf s), []) else none | _ => none, need := [] }
attribute [go_sem] spHasPrefix
theorem spHasPrefix_in {ins : List V} {r : V} {outs : List V} (h : spHasPrefix.run ins = some (r, outs)) : ∃ (s : (List UInt8)) (t : (List UInt8)), ins = [.str s, .str t] ∧ (s.length ≤ 1099511627776 ∧ t.length ≤ 1099511627776) ∧ .bool (t.isPrefixOf s) = r ∧ outs = [] := by
  unfold spHasPrefix at h
  simp only at h
  split at h
  · rename_i s t
    split at h
    case isFalse => cases h
    rename_i hc
    simp only [Option.some.injEq, Prod.mk.injEq] at h
    obtain ⟨h1, h2⟩ := h
    exact ⟨s, t, rfl, hc, h1, h2.symm⟩
  · cases h
def T_internal_stringslite_HasPrefix : Hints := ⟨lk [], lk [], lk [(0, [0, 1]), (1, [4])], lk []⟩
noncomputable def Phi_internal_stringslite_HasPrefix : Tab := lk []
attribute [go_sem] T_internal_stringslite_HasPrefix Phi_internal_stringslite_HasPrefix
theorem phi_internal_stringslite_HasPrefix : ∀ f sp, Phi_internal_stringslite_HasPrefix f = some sp → FnOk Tryd.prog f sp ∧ ∀ n ∈ sp.need, n ∈ ([] : List String) := phi_nil
theorem ok_internal_stringslite_HasPrefix : FnOk Tryd.prog 44 spHasPrefix := by
  refine fn_ok (Φ := Phi_internal_stringslite_HasPrefix) (T := T_internal_stringslite_HasPrefix) phi_internal_stringslite_HasPrefix mixed Tryd.func44 rfl rfl rfl (by decide) ?_
  intro ins r outs hr hl
  clear hl
  have hs := spHasPrefix_in hr
  clear hr
  obtain ⟨s, t, rfl, hc, hr, rfl⟩ := hs
  simp only [spHasPrefix, Tryd.f44, Go.VM.initS]
  obtain ⟨h1, h2⟩ := hc
  rcases Nat.lt_or_ge s.length t.length with h | h
  · have g1 : ¬ (t.length : Int) ≤ s.length := by omega
    simp only [g1, go_sem]
    repeat' ((first | apply qa | apply qb | apply qc | apply qd | apply qe | apply qf | apply qg | apply qh | apply qi | apply qj | apply qk) <;> intro hp <;> simp only [hp, g1, go_sem])
    simp only [fin_mk, finV, resL, resV1, resIn, endA, listIn, Option.some_or, Option.none_or, oneOrTup, go_sem]
    rw [← hr]
    rw [isPrefixOf_short h]
  · have g1 : (t.length : Int) ≤ s.length := by omega
    have g2 : (0 : Int) ≤ t.length := by omega
    simp only [g1, g2, h, Nat.zero_le, List.drop_zero, Int.toNat_natCast, go_sem]
    repeat' ((first | apply qa | apply qb | apply qc | apply qd | apply qe | apply qf | apply qg | apply qh | apply qi | apply qj | apply qk) <;> intro hp <;> simp only [hp, g1, g2, h, Nat.zero_le, List.drop_zero, Int.toNat_natCast, go_sem])
    simp only [fin_mk, finV, resL, resV1, resIn, endA, listIn, Option.some_or, Option.none_or, oneOrTup, go_sem]
    rw [← hr]
    rw [isPrefixOf_take]
open Classical in
noncomputable def spCutPrefix : VM.Spec := { modes := [.rd, .rd], run := fun | [.str s, .str t] => if s.length ≤ 1099511627776 ∧ t.length ≤ 1099511627776 then some (.tup [.str (cutPrefix s t), .bool (t.isPrefixOf s)], []) else none | _ => none, need := [] }
attribute [go_sem] spCutPrefix
theorem spCutPrefix_in {ins : List V} {r : V} {outs : List V} (h : spCutPrefix.run ins = some (r, outs)) : ∃ (s : (List UInt8)) (t : (List UInt8)), ins = [.str s, .str t] ∧ (s.length ≤ 1099511627776 ∧ t.length ≤ 1099511627776) ∧ .tup [.str (cutPrefix s t), .bool (t.isPrefixOf s)] = r ∧ outs = [] := by
  unfold spCutPrefix at h
  simp only at h
  split at h
  · rename_i s t
    split at h
    case isFalse => cases h
    rename_i hc
    simp only [Option.some.injEq, Prod.mk.injEq] at h
    obtain ⟨h1, h2⟩ := h
    exact ⟨s, t, rfl, hc, h1, h2.symm⟩
  · cases h
def T_internal_stringslite_CutPrefix : Hints := ⟨lk [], lk [], lk [(0, [0, 1]), (1, [0, 1, 9]), (2, [4, 5]), (3, [4, 5])], lk []⟩
noncomputable def Phi_internal_stringslite_CutPrefix : Tab := lk [(44, spHasPrefix)]
attribute [go_sem] T_internal_stringslite_CutPrefix Phi_internal_stringslite_CutPrefix
theorem phi_internal_stringslite_CutPrefix : ∀ f sp, Phi_internal_stringslite_CutPrefix f = some sp → FnOk Tryd.prog f sp ∧ ∀ n ∈ sp.need, n ∈ ([] : List String) := phi_cons ok_internal_stringslite_HasPrefix (n0 rfl) (phi_nil)
theorem ok_internal_stringslite_CutPrefix : FnOk Tryd.prog 34 spCutPrefix := by
  refine fn_ok (Φ := Phi_internal_stringslite_CutPrefix) (T := T_internal_stringslite_CutPrefix) phi_internal_stringslite_CutPrefix mixed Tryd.func34 rfl rfl rfl (by decide) ?_
  intro ins r outs hr hl
  clear hl
  have hs := spCutPrefix_in hr
  clear hr
  obtain ⟨s, t, rfl, hc, hr, rfl⟩ := hs
  simp only [spCutPrefix, Tryd.f34, Go.VM.initS]
  obtain ⟨h1, h2⟩ := hc
  cases hp : t.isPrefixOf s with
  | false =>
    simp only [hp, h1, h2, go_sem]
    repeat' ((first | apply qa | apply qb | apply qc | apply qd | apply qe | apply qf | apply qg | apply qh | apply qi | apply qj | apply qk) <;> intro hp <;> simp only [hp, hp, h1, h2, go_sem])
    simp only [fin_mk, finV, resL, resV1, resIn, endA, listIn, Option.some_or, Option.none_or, oneOrTup, go_sem]
    rw [← hr]
    simp only [cutPrefix, hp, Bool.false_eq_true, if_false]
  | true =>
    have h3 := isPrefixOf_len hp
    have g2 : (0 : Int) ≤ t.length := by omega
    simp only [hp, h1, h2, h3, g2, Int.toNat_natCast, List.take_length, Nat.le_refl, go_sem]
    repeat' ((first | apply qa | apply qb | apply qc | apply qd | apply qe | apply qf | apply qg | apply qh | apply qi | apply qj | apply qk) <;> intro hp <;> simp only [hp, hp, h1, h2, h3, g2, Int.toNat_natCast, List.take_length, Nat.le_refl, go_sem])
    simp only [fin_mk, finV, resL, resV1, resIn, endA, listIn, Option.some_or, Option.none_or, oneOrTup, go_sem]
    rw [← hr]
    simp only [cutPrefix, hp, if_true]
def T_strings_CutPrefix : Hints := ⟨lk [], lk [], lk [(0, [0, 1]), (1, [4, 5])], lk []⟩
noncomputable def Phi_strings_CutPrefix : Tab := lk [(34, spCutPrefix)]
attribute [go_sem] T_strings_CutPrefix Phi_strings_CutPrefix
theorem phi_strings_CutPrefix : ∀ f sp, Phi_strings_CutPrefix f = some sp → FnOk Tryd.prog f sp ∧ ∀ n ∈ sp.need, n ∈ ([] : List String) := phi_cons ok_internal_stringslite_CutPrefix (n0 rfl) (phi_nil)
theorem ok_strings_CutPrefix : FnOk Tryd.prog 27 spCutPrefix := by
  refine fn_ok (Φ := Phi_strings_CutPrefix) (T := T_strings_CutPrefix) phi_strings_CutPrefix mixed Tryd.func27 rfl rfl rfl (by decide) ?_
  intro ins r outs hr hl
  clear hl
  have hs := spCutPrefix_in hr
  clear hr
  obtain ⟨s, t, rfl, hc, hr, rfl⟩ := hs
  simp only [spCutPrefix, Tryd.f27, Go.VM.initS]
  obtain ⟨h1, h2⟩ := hc
  simp only [h1, h2, go_sem]
  repeat' ((first | apply qa | apply qb | apply qc | apply qd | apply qe | apply qf | apply qg | apply qh | apply qi | apply qj | apply qk) <;> intro hp <;> simp only [hp, h1, h2, go_sem])
  simp only [fin_mk, finV, resL, resV1, resIn, endA, listIn, Option.some_or, Option.none_or, oneOrTup, go_sem]
  rw [← hr]
def re_ : List UInt8 := [114, 101, 58]
def fwd_ : List UInt8 := [102, 119, 100, 58]
def baseL : Nat → List UInt8 → List UInt8
  | 0, s => s
  | n + 1, s => if re_.isPrefixOf s = true then baseL n (trim (s.drop 3)) else if fwd_.isPrefixOf s = true then baseL n (trim (s.drop 4)) else s
theorem drop_lt {t s : List UInt8} {k : Nat} (hp : t.isPrefixOf s = true) (hk : t.length = k) (h0 : 0 < k) : (trim (s.drop k)).length < s.length := by
  have h1 := isPrefixOf_len hp
  have h2 := trim_len (s.drop k)
  rw [List.length_drop] at h2
  omega
theorem baseL_more : ∀ (n : Nat) (s : List UInt8), s.length ≤ n → baseL n s = baseL (n + 1) s
  | 0, s, h => by
    have : s = [] := List.eq_nil_of_length_eq_zero (by omega)
    subst this
    rfl
  | n + 1, s, h => by
    rw [baseL, baseL]
    cases h1 : re_.isPrefixOf s with
    | true =>
      have := drop_lt h1 (k := 3) rfl (by decide)
      simp only [if_true]
      exact baseL_more n _ (by omega)
    | false =>
      cases h2 : fwd_.isPrefixOf s with
      | true =>
        have := drop_lt h2 (k := 4) rfl (by decide)
        simp only [if_true, Bool.false_eq_true, if_false]
        exact baseL_more n _ (by omega)
      | false => simp only [Bool.false_eq_true, if_false]
theorem baseL_any {n : Nat} {s : List UInt8} (h : s.length ≤ n) : baseL n s = baseL s.length s := by
  induction n with
  | zero => rw [show s.length = 0 by omega]
  | succ n ih =>
    rcases Nat.lt_or_ge n s.length with h1 | h1
    · rw [show s.length = n + 1 by omega]
    · rw [← baseL_more n s h1, ih h1]
def base (s : List UInt8) : List UInt8 := baseL s.length s
theorem base_re {s : List UInt8} (h : re_.isPrefixOf s = true) : base s = base (trim (s.drop 3)) := by
  have h1 := drop_lt h (k := 3) rfl (by decide)
  unfold base
  rw [← baseL_any (n := s.length) (Nat.le_refl _)]
  obtain ⟨n, hn⟩ : ∃ n, s.length = n + 1 := ⟨s.length - 1, by omega⟩
  rw [hn, baseL, if_pos h, baseL_any (by omega)]
theorem base_fwd {s : List UInt8} (h0 : re_.isPrefixOf s = false) (h : fwd_.isPrefixOf s = true) : base s = base (trim (s.drop 4)) := by
  have h1 := drop_lt h (k := 4) rfl (by decide)
  unfold base
  obtain ⟨n, hn⟩ : ∃ n, s.length = n + 1 := ⟨s.length - 1, by omega⟩
  rw [hn, baseL, if_neg (by rw [h0]; simp), if_pos h, baseL_any (by omega)]
theorem base_end {s : List UInt8} (h0 : re_.isPrefixOf s = false) (h : fwd_.isPrefixOf s = false) : base s = s := by
  unfold base
  cases s.length with
  | zero => rfl
  | succ n => rw [baseL, if_neg (by rw [h0]; simp), if_neg (by rw [h]; simp)]
theorem isB_low (b : UInt8) : isB 32 (low1 b) = isB 32 b := by
  unfold low1
  split
  · rename_i h
    have : (b + 32).toNat = b.toNat + 32 := by
      rw [UInt8.toNat_add]
      have e : UInt8.toNat 32 = 32 := rfl
      rw [e]; omega
    have e1 : isB 32 b = false := by unfold isB; rw [beq_eq_false_iff_ne]; omega
    have e2 : isB 32 (b + 32) = false := by unfold isB; rw [beq_eq_false_iff_ne]; omega
    rw [e1, e2]
  · rfl
theorem dropWhile_low (s : List UInt8) : (s.map low1).dropWhile (isB 32) = (s.dropWhile (isB 32)).map low1 := by
  induction s with
  | nil => rfl
  | cons b s ih =>
    rw [List.map_cons, List.dropWhile_cons, List.dropWhile_cons, isB_low]
    cases isB 32 b with
    | true => exact ih
    | false => rfl
theorem trim_low (s : List UInt8) : trim (lowS s) = lowS (trim s) := by
  unfold trim trimL trimR lowS
  rw [← List.map_reverse, dropWhile_low, ← List.map_reverse, dropWhile_low]
def baseSubject (s : List UInt8) : List UInt8 := base (trim (lowS s))
open Classical in
noncomputable def spBaseSubject : VM.Spec := { modes := [.rd], run := fun | [.str s] => if s.length ≤ 1099511627776 then some (.str (baseSubject s), []) else none | _ => none, need := [] }
attribute [go_sem] spBaseSubject
theorem spBaseSubject_in {ins : List V} {r : V} {outs : List V} (h : spBaseSubject.run ins = some (r, outs)) : ∃ (s : (List UInt8)), ins = [.str s] ∧ (s.length ≤ 1099511627776) ∧ .str (baseSubject s) = r ∧ outs = [] := by
  unfold spBaseSubject at h
  simp only at h
  split at h
  · rename_i s
    split at h
    case isFalse => cases h
    rename_i hc
    simp only [Option.some.injEq, Prod.mk.injEq] at h
    obtain ⟨h1, h2⟩ := h
    exact ⟨s, rfl, hc, h1, h2.symm⟩
  · cases h
end Go.Proofs.YtnbkmmjnpbfhnaaDoor.L
