/- Texts: small letters, blanks taken off at the ends, beginnings cut off. -/
import Derived.Test.YtghmjnggmacohaaGreatDoorVLFl
import Derived.Test.YtghmjnggmacohaaGreatDoorVmCur
namespace Go.Proofs.YtghmjnggmacohaaGreatDoor.L
open Go Go.VM
set_option maxRecDepth 100000
set_option maxHeartbeats 4000000
set_option linter.unusedSimpArgs false
set_option linter.unusedVariables false
/-- A byte is the number c. -/
def isB (c : Int) (b : UInt8) : Bool := (b.toNat : Int) == c
def trimL (c : Int) (s : List UInt8) : List UInt8 := s.dropWhile (isB c)
def trimR (c : Int) (s : List UInt8) : List UInt8 := (s.reverse.dropWhile (isB c)).reverse
def trim (s : List UInt8) : List UInt8 := trimL 32 (trimR 32 s)
theorem trimL_hit {c : Int} {b : UInt8} {s : List UInt8} (h : isB c b = true) : trimL c (b :: s) = trimL c s := by simp [trimL, List.dropWhile_cons, h]
theorem trimL_miss {c : Int} {b : UInt8} {s : List UInt8} (h : isB c b = false) : trimL c (b :: s) = b :: s := by simp [trimL, List.dropWhile_cons, h]
theorem trimR_hit {c : Int} {b : UInt8} {s : List UInt8} (h : isB c b = true) : trimR c (s ++ [b]) = trimR c s := by simp [trimR, List.dropWhile_cons, h]
theorem trimR_miss {c : Int} {b : UInt8} {s : List UInt8} (h : isB c b = false) : trimR c (s ++ [b]) = s ++ [b] := by simp [trimR, List.dropWhile_cons, h]
theorem trimL_len (c : Int) (s : List UInt8) : (trimL c s).length ≤ s.length := by
  induction s with
  | nil => simp [trimL]
  | cons b s ih =>
    cases h : isB c b with
    | true => rw [trimL_hit h]; simp; omega
    | false => rw [trimL_miss h]; simp
theorem trimR_len (c : Int) (s : List UInt8) : (trimR c s).length ≤ s.length := by
  have := trimL_len c s.reverse
  simp only [trimL, List.length_reverse] at this
  simpa [trimR] using this
theorem trim_len (s : List UInt8) : (trim s).length ≤ s.length := Nat.le_trans (trimL_len _ _) (trimR_len _ _)
theorem no0 : ¬ (0 : Int) < ((0 : Nat) : Int) := by decide
theorem snoc_of {u : List UInt8} {n : Nat} (h : u.length = n + 1) : u = u.take n ++ [u[n]] := by
  have := take_succ' (x := u) (i := n) (by omega)
  rw [← this, List.take_of_length_le (by omega)]
open Classical in
noncomputable def spTrimL : VM.Spec := { modes := [.rd, .rd], run := fun | [.str s, .int .u8 c] => if s.length ≤ 1099511627776 then some (.str (trimL c s), []) else none | _ => none, need := [] }
attribute [go_sem] spTrimL
theorem spTrimL_in {ins : List V} {r : V} {outs : List V} (h : spTrimL.run ins = some (r, outs)) : ∃ (s : (List UInt8)) (c : Int), ins = [.str s, .int .u8 c] ∧ (s.length ≤ 1099511627776) ∧ .str (trimL c s) = r ∧ outs = [] := by
  unfold spTrimL at h
  simp only at h
  split at h
  · rename_i s c
    split at h
    case isFalse => cases h
    rename_i hc
    simp only [Option.some.injEq, Prod.mk.injEq] at h
    obtain ⟨h1, h2⟩ := h
    exact ⟨s, c, rfl, hc, h1, h2.symm⟩
  · cases h
def T_strings_trimLeftByte : Hints := ⟨lk [], lk [(1, [0, 1])], lk [(0, [0, 1]), (1, [0, 1, 13]), (2, [0, 1]), (3, [4])], lk [], lf []⟩
noncomputable def Phi_strings_trimLeftByte : Tab := lk []
attribute [go_sem] T_strings_trimLeftByte Phi_strings_trimLeftByte
theorem phi_strings_trimLeftByte : ∀ f sp, Phi_strings_trimLeftByte f = some sp → FnOk Tryz.prog f sp ∧ ∀ n ∈ sp.need, n ∈ ([] : List String) := phi_nil
theorem ok_strings_trimLeftByte : FnOk Tryz.prog 106 spTrimL := by
  refine fn_ok (Φ := Phi_strings_trimLeftByte) (T := T_strings_trimLeftByte) phi_strings_trimLeftByte mixed Tryz.func106 rfl rfl rfl (by decide) ?_
  intro ins r outs hr hl
  clear hl
  have hs := spTrimL_in hr
  clear hr
  obtain ⟨s, c, rfl, hc, hr, rfl⟩ := hs
  simp only [spTrimL, Tryz.f106, Go.VM.initS]
  simp only [go_sem]
  refine loop_go (fun u : List UInt8 => [(0, .str u)]) (fun _ => []) (fun u => u.length) (fun u => u.length ≤ s.length ∧ trimL c u = trimL c s) s ⟨Nat.le_refl _, rfl⟩ rfl rfl ?_
  rintro u ⟨hu, he⟩ ih
  cases u with
  | nil =>
    simp only [no0, go_sem]
    simp only [fin_mk, finV, resL, resV1, resIn, endA, listIn, Option.some_or, Option.none_or, oneOrTup, go_sem]
    rw [← hr]
    rw [← he]; rfl
  | cons b u =>
    have g1 : (0 : Int) < ((u.length + 1 : Nat) : Int) := by omega
    have g2 : 1 ≤ u.length + 1 := by omega
    simp only [List.length_cons] at hu
    cases hb : isB c b with
    | true =>
      have hb' : ((b.toNat : Int) == c) = true := hb
      have ih' := ih u ⟨by omega, by rw [← he, trimL_hit hb]⟩ (by simp)
      simp only [g1, g2, hb', List.take_succ_cons, List.take_length, List.drop_succ_cons, Nat.le_refl, Int.reduceToNat, go_sem]
      repeat' ((first | apply qa | apply qb | apply qc | apply qd | apply qe | apply qf | apply qg | apply qh | apply qi | apply qj | apply qk) <;> intro hp <;> simp only [hp, g1, g2, hb', List.take_succ_cons, List.take_length, List.drop_succ_cons, Nat.le_refl, Int.reduceToNat, go_sem])
      exact ih'
    | false =>
      have hb' : ((b.toNat : Int) == c) = false := hb
      simp only [g1, hb', go_sem]
      repeat' ((first | apply qa | apply qb | apply qc | apply qd | apply qe | apply qf | apply qg | apply qh | apply qi | apply qj | apply qk) <;> intro hp <;> simp only [hp, g1, hb', go_sem])
      simp only [fin_mk, finV, resL, resV1, resIn, endA, listIn, Option.some_or, Option.none_or, oneOrTup, go_sem]
      rw [← hr]
      rw [← he, trimL_miss hb]
open Classical in
noncomputable def spTrimR : VM.Spec := { modes := [.rd, .rd], run := fun | [.str s, .int .u8 c] => if s.length ≤ 1099511627776 then some (.str (trimR c s), []) else none | _ => none, need := [] }
attribute [go_sem] spTrimR
theorem spTrimR_in {ins : List V} {r : V} {outs : List V} (h : spTrimR.run ins = some (r, outs)) : ∃ (s : (List UInt8)) (c : Int), ins = [.str s, .int .u8 c] ∧ (s.length ≤ 1099511627776) ∧ .str (trimR c s) = r ∧ outs = [] := by
  unfold spTrimR at h
  simp only at h
  split at h
  · rename_i s c
    split at h
    case isFalse => cases h
    rename_i hc
    simp only [Option.some.injEq, Prod.mk.injEq] at h
    obtain ⟨h1, h2⟩ := h
    exact ⟨s, c, rfl, hc, h1, h2.symm⟩
  · cases h
def T_strings_trimRightByte : Hints := ⟨lk [], lk [(1, [0, 1])], lk [(0, [0, 1]), (1, [0, 1, 16]), (2, [0, 1]), (3, [4])], lk [], lf []⟩
noncomputable def Phi_strings_trimRightByte : Tab := lk []
attribute [go_sem] T_strings_trimRightByte Phi_strings_trimRightByte
theorem phi_strings_trimRightByte : ∀ f sp, Phi_strings_trimRightByte f = some sp → FnOk Tryz.prog f sp ∧ ∀ n ∈ sp.need, n ∈ ([] : List String) := phi_nil
theorem ok_strings_trimRightByte : FnOk Tryz.prog 107 spTrimR := by
  refine fn_ok (Φ := Phi_strings_trimRightByte) (T := T_strings_trimRightByte) phi_strings_trimRightByte mixed Tryz.func107 rfl rfl rfl (by decide) ?_
  intro ins r outs hr hl
  clear hl
  have hs := spTrimR_in hr
  clear hr
  obtain ⟨s, c, rfl, hc, hr, rfl⟩ := hs
  simp only [spTrimR, Tryz.f107, Go.VM.initS]
  simp only [go_sem]
  refine loop_go (fun u : List UInt8 => [(0, .str u)]) (fun _ => []) (fun u => u.length) (fun u => u.length ≤ s.length ∧ trimR c u = trimR c s) s ⟨Nat.le_refl _, rfl⟩ rfl rfl ?_
  rintro u ⟨hu, he⟩ ih
  cases hn : u.length with
  | zero =>
    simp only [hn, no0, go_sem]
    simp only [fin_mk, finV, resL, resV1, resIn, endA, listIn, Option.some_or, Option.none_or, oneOrTup, go_sem]
    rw [← hr]
    have : u = [] := List.eq_nil_of_length_eq_zero hn
    subst this
    rw [← he]; rfl
  | succ n =>
    have g1 : (0 : Int) < ((n + 1 : Nat) : Int) := by omega
    have g2 : n ≤ n + 1 := by omega
    have g3 : (0 : Int) ≤ n := by omega
    have g4 : IntKind.i64.wrap (((n + 1 : Nat) : Int) - 1) = n := (wrap64 (by omega) (by omega)).trans (by omega)
    have g5 : u[n]? = some (u[n]'(by omega)) := List.getElem?_eq_getElem (by omega)
    have es := snoc_of hn
    cases hb : isB c (u[n]'(by omega)) with
    | true =>
      have hb' : (((u[n]'(by omega)).toNat : Int) == c) = true := hb
      have ih' := ih (u.take n) ⟨by rw [List.length_take]; omega, by rw [← he]; conv => rhs; rw [es, trimR_hit hb]⟩ (by rw [List.length_take]; omega)
      simp only [g1, g2, g3, g4, g5, hn, hb', Int.toNat_natCast, List.drop_zero, Nat.zero_le, go_sem]
      repeat' ((first | apply qa | apply qb | apply qc | apply qd | apply qe | apply qf | apply qg | apply qh | apply qi | apply qj | apply qk) <;> intro hp <;> simp only [hp, g1, g2, g3, g4, g5, hn, hb', Int.toNat_natCast, List.drop_zero, Nat.zero_le, go_sem])
      exact ih'
    | false =>
      have hb' : (((u[n]'(by omega)).toNat : Int) == c) = false := hb
      simp only [g1, g3, g4, g5, hn, hb', go_sem]
      repeat' ((first | apply qa | apply qb | apply qc | apply qd | apply qe | apply qf | apply qg | apply qh | apply qi | apply qj | apply qk) <;> intro hp <;> simp only [hp, g1, g3, g4, g5, hn, hb', go_sem])
      simp only [fin_mk, finV, resL, resV1, resIn, endA, listIn, Option.some_or, Option.none_or, oneOrTup, go_sem]
      rw [← hr]
      rw [← he]; conv => rhs; rw [es, trimR_miss hb, ← es]
open Classical in
noncomputable def spTrim : VM.Spec := { modes := [.rd, .rd], run := fun | [.str s, .str t] => if t = [32] ∧ s.length ≤ 1099511627776 then some (.str (trim s), []) else none | _ => none, need := [] }
attribute [go_sem] spTrim
theorem spTrim_in {ins : List V} {r : V} {outs : List V} (h : spTrim.run ins = some (r, outs)) : ∃ (s : (List UInt8)) (t : (List UInt8)), ins = [.str s, .str t] ∧ (t = [32] ∧ s.length ≤ 1099511627776) ∧ .str (trim s) = r ∧ outs = [] := by
  unfold spTrim at h
  simp only at h
  split at h
  · rename_i s t
    split at h
    case isFalse => cases h
    rename_i hc
    simp only [Option.some.injEq, Prod.mk.injEq] at h
    obtain ⟨h1, h2⟩ := h
    exact ⟨s, t, rfl, hc, h1, h2.symm⟩
  · cases h
def T_strings_Trim : Hints := ⟨lk [(4, [])], lk [], lk [(0, [0, 1]), (1, [0, 1, 12]), (2, [4]), (3, [0, 1, 21]), (4, [4]), (5, [0, 1, 5, 6]), (6, [0, 1, 5, 34]), (7, [4]), (8, [4])], lk [], lf []⟩
noncomputable def Phi_strings_Trim : Tab := lk [(106, spTrimL), (107, spTrimR)]
attribute [go_sem] T_strings_Trim Phi_strings_Trim
theorem phi_strings_Trim : ∀ f sp, Phi_strings_Trim f = some sp → FnOk Tryz.prog f sp ∧ ∀ n ∈ sp.need, n ∈ ([] : List String) := phi_cons ok_strings_trimLeftByte (n0 rfl) (phi_cons ok_strings_trimRightByte (n0 rfl) (phi_nil))
theorem ok_strings_Trim : FnOk Tryz.prog 92 spTrim := by
  refine fn_ok (Φ := Phi_strings_Trim) (T := T_strings_Trim) phi_strings_Trim mixed Tryz.func92 rfl rfl rfl (by decide) ?_
  intro ins r outs hr hl
  clear hl
  have hs := spTrim_in hr
  clear hr
  obtain ⟨s, t, rfl, hc, hr, rfl⟩ := hs
  simp only [spTrim, Tryz.f92, Go.VM.initS]
  obtain ⟨rfl, hl⟩ := hc
  have hl' := Nat.le_trans (trimR_len 32 s) hl
  have c32 : ((UInt8.toNat 32 : Nat) : Int) = 32 := rfl
  have c1 : (((1 : Nat) : Int) == 1) = true := rfl
  have c2 : (([32] : List UInt8) == []) = false := rfl
  cases he : (s == []) with
  | true =>
    simp only [he, go_sem]
    repeat' ((first | ((first | apply qa | apply qb | apply qc | apply qd | apply qe | apply qf | apply qg | apply qh | apply qi | apply qj | apply qk) <;> intro hp) | ((first | refine ql rfl rfl (by decide +kernel) ?_ | refine qm _ rfl rfl (by decide +kernel) ?_) <;> have hp := True.intro)) <;> simp only [hp, he, go_sem])
    simp only [fin_mk, finV, resL, resV1, resIn, endA, listIn, Option.some_or, Option.none_or, oneOrTup, go_sem]
    rw [← hr]
    rw [show s = [] by simpa using he]
    rfl
  | false =>
    simp only [hl, hl', he, c32, c1, c2, go_sem]
    repeat' ((first | ((first | apply qa | apply qb | apply qc | apply qd | apply qe | apply qf | apply qg | apply qh | apply qi | apply qj | apply qk) <;> intro hp) | ((first | refine ql rfl rfl (by decide +kernel) ?_ | refine qm _ rfl rfl (by decide +kernel) ?_) <;> have hp := True.intro)) <;> simp only [hp, hl, hl', he, c32, c1, c2, go_sem])
    simp only [fin_mk, finV, resL, resV1, resIn, endA, listIn, Option.some_or, Option.none_or, oneOrTup, go_sem]
    rw [← hr]
    rfl
theorem dropWhile_append_nil {p : UInt8 → Bool} {a b : List UInt8} (h : a.dropWhile p = []) : (a ++ b).dropWhile p = b.dropWhile p := by
  induction a with
  | nil => rfl
  | cons x a ih =>
    rw [List.dropWhile_cons] at h
    cases hx : p x with
    | true => rw [hx] at h; rw [List.cons_append, List.dropWhile_cons, hx]; exact ih h
    | false => rw [hx] at h; simp at h
theorem dropWhile_append_ne {p : UInt8 → Bool} {a b : List UInt8} (h : a.dropWhile p ≠ []) : (a ++ b).dropWhile p = a.dropWhile p ++ b := by
  induction a with
  | nil => simp at h
  | cons x a ih =>
    rw [List.dropWhile_cons] at h
    cases hx : p x with
    | true => rw [hx] at h; rw [List.cons_append, List.dropWhile_cons, hx, List.dropWhile_cons, hx]; exact ih h
    | false => rw [List.cons_append, List.dropWhile_cons, hx, List.dropWhile_cons, hx]; rfl
/-- The two ends may be cut in whatever order. -/
theorem trim_comm (s : List UInt8) : trimR 32 (trimL 32 s) = trim s := by
  unfold trim
  induction s with
  | nil => rfl
  | cons b s ih =>
    cases hb : isB 32 b with
    | true =>
      rw [trimL_hit hb, ih]
      by_cases h : s.reverse.dropWhile (isB 32) = []
      · have e1 : trimR 32 s = [] := by simp [trimR, h]
        have e2 : trimR 32 (b :: s) = [] := by
          simp only [trimR, List.reverse_cons]
          rw [dropWhile_append_nil h]
          simp [List.dropWhile_cons, hb]
        rw [e1, e2]
      · have e2 : trimR 32 (b :: s) = b :: trimR 32 s := by
          simp only [trimR, List.reverse_cons]
          rw [dropWhile_append_ne h]
          simp
        rw [e2, trimL_hit hb]
    | false =>
      rw [trimL_miss hb]
      have e2 : ∃ t, trimR 32 (b :: s) = b :: t := by
        simp only [trimR, List.reverse_cons]
        by_cases h : s.reverse.dropWhile (isB 32) = []
        · rw [dropWhile_append_nil h]
          exact ⟨[], by simp [List.dropWhile_cons, hb]⟩
        · rw [dropWhile_append_ne h]
          exact ⟨(s.reverse.dropWhile (isB 32)).reverse, by simp⟩
      obtain ⟨t, e2⟩ := e2
      rw [e2, trimL_miss hb]
open Classical in
noncomputable def spTrim1 : VM.Spec := { modes := [.rd], run := fun | [.str s] => if s.length ≤ 1099511627776 then some (.str (trim s), []) else none | _ => none, need := [] }
attribute [go_sem] spTrim1
theorem spTrim1_in {ins : List V} {r : V} {outs : List V} (h : spTrim1.run ins = some (r, outs)) : ∃ (s : (List UInt8)), ins = [.str s] ∧ (s.length ≤ 1099511627776) ∧ .str (trim s) = r ∧ outs = [] := by
  unfold spTrim1 at h
  simp only at h
  split at h
  · rename_i s
    split at h
    case isFalse => cases h
    rename_i hc
    simp only [Option.some.injEq, Prod.mk.injEq] at h
    obtain ⟨h1, h2⟩ := h
    exact ⟨s, rfl, hc, h1, h2.symm⟩
  · cases h
def T_spec_l07Trim : Hints := ⟨lk [], lk [(1, [0]), (3, [0])], lk [(0, [0]), (1, [0, 10]), (2, [0]), (3, [0, 23]), (4, [0]), (5, [2])], lk [], lf []⟩
noncomputable def Phi_spec_l07Trim : Tab := lk []
attribute [go_sem] T_spec_l07Trim Phi_spec_l07Trim
theorem phi_spec_l07Trim : ∀ f sp, Phi_spec_l07Trim f = some sp → FnOk Tryz.prog f sp ∧ ∀ n ∈ sp.need, n ∈ ([] : List String) := phi_nil
theorem ok_spec_l07Trim : FnOk Tryz.prog 81 spTrim1 := by
  refine fn_ok (Φ := Phi_spec_l07Trim) (T := T_spec_l07Trim) phi_spec_l07Trim mixed Tryz.func81 rfl rfl rfl (by decide) ?_
  intro ins r outs hr hl
  clear hl
  have hs := spTrim1_in hr
  clear hr
  obtain ⟨s, rfl, hc, hr, rfl⟩ := hs
  simp only [spTrim1, Tryz.f81, Go.VM.initS]
  simp only [go_sem]
  refine loop_go (fun u : List UInt8 => [(0, .str u)]) (fun _ => []) (fun u => u.length) (fun u => u.length ≤ s.length ∧ trimL 32 u = trimL 32 s) s ⟨Nat.le_refl _, rfl⟩ rfl rfl ?_
  rintro u ⟨hu, he⟩ ih
  have c32 : ((UInt8.toNat 32 : Nat) : Int) = 32 := rfl
  cases u with
  | cons b u =>
    have g1 : (0 : Int) < ((u.length + 1 : Nat) : Int) := by omega
    have g2 : 1 ≤ u.length + 1 := by omega
    simp only [List.length_cons] at hu
    cases hb : isB 32 b with
    | true =>
      have hb' : ((b.toNat : Int) == 32) = true := hb
      have ih' := ih u ⟨by omega, by rw [← he, trimL_hit hb]⟩ (by simp)
      simp only [g1, g2, hb', List.take_succ_cons, List.take_length, List.drop_succ_cons, Nat.le_refl, Int.reduceToNat, go_sem]
      repeat' ((first | apply qa | apply qb | apply qc | apply qd | apply qe | apply qf | apply qg | apply qh | apply qi | apply qj | apply qk) <;> intro hp <;> simp only [hp, g1, g2, hb', List.take_succ_cons, List.take_length, List.drop_succ_cons, Nat.le_refl, Int.reduceToNat, go_sem])
      exact ih'
    | false =>
      have hb' : ((b.toNat : Int) == 32) = false := hb
      have hs1 : trimL 32 s = b :: u := by rw [← he, trimL_miss hb]
      have hs2 : trim s = trimR 32 (b :: u) := by rw [← trim_comm, hs1]
      simp only [g1, hb', go_sem]
      repeat' ((first | apply qa | apply qb | apply qc | apply qd | apply qe | apply qf | apply qg | apply qh | apply qi | apply qj | apply qk) <;> intro hp <;> simp only [hp, g1, hb', go_sem])
      refine loop_go (fun v : List UInt8 => [(0, .str v)]) (fun _ => []) (fun v => v.length) (fun v => v.length ≤ s.length ∧ trimR 32 v = trimR 32 (b :: u)) (b :: u) ⟨by simpa using hu, rfl⟩ rfl rfl ?_
      clear ih
      rintro v ⟨hv, hev⟩ ih
      cases hn : v.length with
      | zero =>
        simp only [hn, no0, go_sem]
        simp only [fin_mk, finV, resL, resV1, resIn, endA, listIn, Option.some_or, Option.none_or, oneOrTup, go_sem]
        rw [← hr]
        have : v = [] := List.eq_nil_of_length_eq_zero hn
        subst this
        rw [hs2, ← hev]; rfl
      | succ n =>
        have g1 : (0 : Int) < ((n + 1 : Nat) : Int) := by omega
        have g2 : n ≤ n + 1 := by omega
        have g3 : (0 : Int) ≤ n := by omega
        have g4 : IntKind.i64.wrap (((n + 1 : Nat) : Int) - 1) = n := (wrap64 (by omega) (by omega)).trans (by omega)
        have g5 : v[n]? = some (v[n]'(by omega)) := List.getElem?_eq_getElem (by omega)
        have es := snoc_of hn
        cases hb : isB 32 (v[n]'(by omega)) with
        | true =>
          have hb' : (((v[n]'(by omega)).toNat : Int) == 32) = true := hb
          have ih' := ih (v.take n) ⟨by rw [List.length_take]; omega, by rw [← hev]; conv => rhs; rw [es, trimR_hit hb]⟩ (by rw [List.length_take]; omega)
          simp only [g1, g2, g3, g4, g5, hn, hb', Int.toNat_natCast, List.drop_zero, Nat.zero_le, go_sem]
          repeat' ((first | apply qa | apply qb | apply qc | apply qd | apply qe | apply qf | apply qg | apply qh | apply qi | apply qj | apply qk) <;> intro hp <;> simp only [hp, g1, g2, g3, g4, g5, hn, hb', Int.toNat_natCast, List.drop_zero, Nat.zero_le, go_sem])
          exact ih'
        | false =>
          have hb' : (((v[n]'(by omega)).toNat : Int) == 32) = false := hb
          simp only [g1, g3, g4, g5, hn, hb', go_sem]
          repeat' ((first | apply qa | apply qb | apply qc | apply qd | apply qe | apply qf | apply qg | apply qh | apply qi | apply qj | apply qk) <;> intro hp <;> simp only [hp, g1, g3, g4, g5, hn, hb', go_sem])
          simp only [fin_mk, finV, resL, resV1, resIn, endA, listIn, Option.some_or, Option.none_or, oneOrTup, go_sem]
          rw [← hr]
          rw [hs2, ← hev]; conv => rhs; rw [es, trimR_miss hb, ← es]
  | nil =>
    have hs2 : trim s = [] := by rw [← trim_comm, ← he]; rfl
    simp only [no0, go_sem]
    repeat' ((first | apply qa | apply qb | apply qc | apply qd | apply qe | apply qf | apply qg | apply qh | apply qi | apply qj | apply qk) <;> intro hp <;> simp only [hp, no0, go_sem])
    refine loop_go (fun _ : Unit => []) (fun _ => []) (fun _ => 0) (fun _ => True) () trivial rfl rfl ?_
    intro _ _ _
    simp only [no0, go_sem]
    repeat' ((first | apply qa | apply qb | apply qc | apply qd | apply qe | apply qf | apply qg | apply qh | apply qi | apply qj | apply qk) <;> intro hp <;> simp only [hp, no0, go_sem])
    simp only [fin_mk, finV, resL, resV1, resIn, endA, listIn, Option.some_or, Option.none_or, oneOrTup, go_sem]
    rw [← hr]
    rw [hs2]
def low1 (b : UInt8) : UInt8 := if 65 ≤ b.toNat ∧ b.toNat ≤ 90 then b + 32 else b
def lowS (s : List UInt8) : List UInt8 := s.map low1
theorem lowS_len (s : List UInt8) : (lowS s).length = s.length := by simp [lowS]
def lowTo (s : List UInt8) (i : Nat) : List UInt8 := (s.take i).map low1 ++ s.drop i
theorem lowTo_len (s : List UInt8) (i : Nat) : (lowTo s i).length = s.length := by simp [lowTo]; omega
theorem lowTo_get {s : List UInt8} {i : Nat} (h : i < s.length) : (lowTo s i)[i]? = some s[i] := by
  have h1 : ((s.take i).map low1).length = i := by simp; omega
  rw [lowTo, List.getElem?_append_right (by omega), h1, Nat.sub_self, List.getElem?_drop, Nat.add_zero]
  exact List.getElem?_eq_getElem h
theorem lowTo_succ {s : List UInt8} {i : Nat} (h : i < s.length) : (lowTo s i).set i (low1 s[i]) = lowTo s (i + 1) := by
  have h1 : ((s.take i).map low1).length = i := by simp; omega
  rw [lowTo, lowTo, List.set_append_right _ _ (by omega), h1, Nat.sub_self, List.drop_eq_getElem_cons h, List.set_cons_zero, take_succ' h, List.map_append, List.append_assoc]
  rfl
theorem lowTo_skip {s : List UInt8} {i : Nat} (h : i < s.length) (hn : low1 s[i] = s[i]) : lowTo s (i + 1) = lowTo s i := by
  rw [← lowTo_succ h, hn]
  apply List.ext_getElem?
  intro j
  rw [List.getElem?_set]
  split
  · rename_i e
    subst e
    rw [if_pos (by rw [lowTo_len]; exact h), lowTo_get h]
  · rfl
theorem lowTo_end {s : List UInt8} {i : Nat} (h : s.length ≤ i) : lowTo s i = lowS s := by simp [lowTo, lowS, List.take_of_length_le h, List.drop_of_length_le h]
theorem low1_up {b : UInt8} (h : within b.toNat 65 90 = true) : IntKind.u8.wrap ((b.toNat : Int) + 32) = (low1 b).toNat := by
  have hb : 65 ≤ b.toNat ∧ b.toNat ≤ 90 := by
    simp only [within, Bool.and_eq_true, decide_eq_true_eq] at h; omega
  have : (low1 b).toNat = b.toNat + 32 := by
    rw [low1, if_pos hb, UInt8.toNat_add]
    have e : UInt8.toNat 32 = 32 := rfl
    rw [e]; omega
  rw [this]
  simp only [IntKind.wrap, IntKind.signed, IntKind.bits]
  simp; omega
theorem low1_no {b : UInt8} (h : within b.toNat 65 90 = false) : low1 b = b := by
  have hb : ¬ (65 ≤ b.toNat ∧ b.toNat ≤ 90) := by
    intro hb
    simp only [within, Bool.and_eq_false_iff, decide_eq_false_iff_not] at h; omega
  rw [low1, if_neg hb]
open Classical in
noncomputable def spLow : VM.Spec := { modes := [.rd], run := fun | [.str s] => if s.length ≤ 1099511627776 then some (.str (lowS s), []) else none | _ => none, need := [] }
attribute [go_sem] spLow
theorem spLow_in {ins : List V} {r : V} {outs : List V} (h : spLow.run ins = some (r, outs)) : ∃ (s : (List UInt8)), ins = [.str s] ∧ (s.length ≤ 1099511627776) ∧ .str (lowS s) = r ∧ outs = [] := by
  unfold spLow at h
  simp only at h
  split at h
  · rename_i s
    split at h
    case isFalse => cases h
    rename_i hc
    simp only [Option.some.injEq, Prod.mk.injEq] at h
    obtain ⟨h1, h2⟩ := h
    exact ⟨s, rfl, hc, h1, h2.symm⟩
  · cases h
def T_impl_lower : Hints := ⟨lk [], lk [(3, [3, 8, 9, 10])], lk [(0, [0]), (1, [3]), (2, [3, 8, 9, 10]), (3, [3, 8, 9, 10, 11]), (4, [3, 4, 5, 8, 9, 10]), (5, [3, 4, 5, 8, 9, 10, 17]), (6, [3, 8, 9, 10]), (7, [3, 8, 9, 10]), (8, [2])], lk [], lf []⟩
noncomputable def Phi_impl_lower : Tab := lk [(83, spWithin)]
attribute [go_sem] T_impl_lower Phi_impl_lower
theorem phi_impl_lower : ∀ f sp, Phi_impl_lower f = some sp → FnOk Tryz.prog f sp ∧ ∀ n ∈ sp.need, n ∈ ([] : List String) := phi_cons ok_impl_within (n0 rfl) (phi_nil)
theorem ok_impl_lower : FnOk Tryz.prog 91 spLow := by
  refine fn_ok (Φ := Phi_impl_lower) (T := T_impl_lower) phi_impl_lower mixed Tryz.func91 rfl rfl rfl (by decide) ?_
  intro ins r outs hr hl
  clear hl
  have hs := spLow_in hr
  clear hr
  obtain ⟨s, rfl, hc, hr, rfl⟩ := hs
  simp only [spLow, Tryz.f91, Go.VM.initS]
  have hl : s.length ≤ 9223372036854775807 := by omega
  simp only [hl, go_sem]
  repeat' ((first | apply qa | apply qb | apply qc | apply qd | apply qe | apply qf | apply qg | apply qh | apply qi | apply qj | apply qk) <;> intro hp <;> simp only [hp, hl, go_sem])
  refine loop_go (fun i : Nat => [(10, .int .i64 (i : Int))]) (fun i => [(0, ⟨.arr, 1, bytesV (lowTo s i)⟩)]) (fun i => s.length - i) (fun i => i ≤ s.length) 0 (Nat.zero_le _) rfl rfl ?_
  intro i hi ih
  have hn := lowTo_len s i
  rcases Nat.lt_or_ge i s.length with h | h
  · have g1 : (i : Int) < s.length := by omega
    have g2 : (0 : Int) ≤ i := by omega
    have g3 := lowTo_get h
    have g5 := wrap_succ h (by omega)
    have ih' := ih (i + 1) h (by omega)
    cases hw : within (s[i].toNat : Int) 65 90 with
    | true =>
      have g6 := low1_up hw
      have e1 : (bytesV (lowTo s i)).set i (.int .u8 (IntKind.u8.wrap ((s[i].toNat : Int) + 32))) = bytesV (lowTo s (i + 1)) := by rw [g6, bytesV_set, lowTo_succ h]
      simp only [g1, g2, g3, g5, hn, byte_wrap, hw, e1, go_sem]
      repeat' ((first | apply qa | apply qb | apply qc | apply qd | apply qe | apply qf | apply qg | apply qh | apply qi | apply qj | apply qk) <;> intro hp <;> simp only [hp, g1, g2, g3, g5, hn, byte_wrap, hw, e1, go_sem])
      exact ih'
    | false =>
      rw [lowTo_skip h (low1_no hw)] at ih'
      simp only [g1, g2, g3, g5, hn, byte_wrap, hw, go_sem]
      repeat' ((first | apply qa | apply qb | apply qc | apply qd | apply qe | apply qf | apply qg | apply qh | apply qi | apply qj | apply qk) <;> intro hp <;> simp only [hp, g1, g2, g3, g5, hn, byte_wrap, hw, go_sem])
      exact ih'
  · have g1 : ¬ (i : Int) < s.length := by omega
    simp only [g1, hn, go_sem]
    repeat' ((first | apply qa | apply qb | apply qc | apply qd | apply qe | apply qf | apply qg | apply qh | apply qi | apply qj | apply qk) <;> intro hp <;> simp only [hp, g1, hn, go_sem])
    simp only [fin_mk, finV, resL, resV1, resIn, endA, listIn, Option.some_or, Option.none_or, oneOrTup, go_sem]
    rw [← hr]
    rw [lowTo_end h]
def T_spec_l06Low : Hints := ⟨lk [], lk [(3, [3, 4])], lk [(0, [0]), (1, [3]), (2, [3, 4]), (3, [3, 4, 10]), (5, [3, 4, 24]), (6, [3, 4]), (4, [3, 4]), (7, [2])], lk [], lf []⟩
noncomputable def Phi_spec_l06Low : Tab := lk []
attribute [go_sem] T_spec_l06Low Phi_spec_l06Low
theorem phi_spec_l06Low : ∀ f sp, Phi_spec_l06Low f = some sp → FnOk Tryz.prog f sp ∧ ∀ n ∈ sp.need, n ∈ ([] : List String) := phi_nil
theorem ok_spec_l06Low : FnOk Tryz.prog 80 spLow := by
  refine fn_ok (Φ := Phi_spec_l06Low) (T := T_spec_l06Low) phi_spec_l06Low mixed Tryz.func80 rfl rfl rfl (by decide) ?_
  intro ins r outs hr hl
  clear hl
  have hs := spLow_in hr
  clear hr
  obtain ⟨s, rfl, hc, hr, rfl⟩ := hs
  simp only [spLow, Tryz.f80, Go.VM.initS]
  have hl : s.length ≤ 9223372036854775807 := by omega
  simp only [hl, go_sem]
  repeat' ((first | apply qa | apply qb | apply qc | apply qd | apply qe | apply qf | apply qg | apply qh | apply qi | apply qj | apply qk) <;> intro hp <;> simp only [hp, hl, go_sem])
  refine loop_go (fun i : Nat => [(4, .int .i64 (i : Int))]) (fun i => [(0, ⟨.arr, 1, bytesV (lowTo s i)⟩)]) (fun i => s.length - i) (fun i => i ≤ s.length) 0 (Nat.zero_le _) rfl rfl ?_
  intro i hi ih
  have hn := lowTo_len s i
  rcases Nat.lt_or_ge i s.length with h | h
  · have g1 : (i : Int) < s.length := by omega
    have g2 : (0 : Int) ≤ i := by omega
    have g3 := lowTo_get h
    have g5 := wrap_succ h (by omega)
    have ih' := ih (i + 1) h (by omega)
    cases hw : within (s[i].toNat : Int) 65 90 with
    | true =>
      have g6 := low1_up hw
      have e1 : (bytesV (lowTo s i)).set i (.int .u8 (IntKind.u8.wrap ((s[i].toNat : Int) + 32))) = bytesV (lowTo s (i + 1)) := by rw [g6, bytesV_set, lowTo_succ h]
      simp only [within, Bool.and_eq_true, decide_eq_true_eq] at hw
      obtain ⟨w1, w2⟩ := hw
      simp only [g1, g2, g3, g5, hn, byte_wrap, w1, w2, e1, go_sem]
      repeat' ((first | apply qa | apply qb | apply qc | apply qd | apply qe | apply qf | apply qg | apply qh | apply qi | apply qj | apply qk) <;> intro hp <;> simp only [hp, g1, g2, g3, g5, hn, byte_wrap, w1, w2, e1, go_sem])
      exact ih'
    | false =>
      rw [lowTo_skip h (low1_no hw)] at ih'
      simp only [within, Bool.and_eq_false_iff, decide_eq_false_iff_not] at hw
      simp only [g1, g2, g3, g5, hn, byte_wrap, go_sem]
      repeat' ((first | apply qa | apply qb | apply qc | apply qd | apply qe | apply qf | apply qg | apply qh | apply qi | apply qj | apply qk) <;> intro hp <;> simp only [hp, g1, g2, g3, g5, hn, byte_wrap, go_sem])
      all_goals first
        | exact ih'
        | (exfalso; clear ih ih'; simp_all; done)
        | (exfalso; clear ih ih'; simp only [decide_eq_true_eq] at *; omega)
  · have g1 : ¬ (i : Int) < s.length := by omega
    simp only [g1, hn, go_sem]
    repeat' ((first | apply qa | apply qb | apply qc | apply qd | apply qe | apply qf | apply qg | apply qh | apply qi | apply qj | apply qk) <;> intro hp <;> simp only [hp, g1, hn, go_sem])
    simp only [fin_mk, finV, resL, resV1, resIn, endA, listIn, Option.some_or, Option.none_or, oneOrTup, go_sem]
    rw [← hr]
    rw [lowTo_end h]
theorem isPrefixOf_len {t s : List UInt8} (h : t.isPrefixOf s = true) : t.length ≤ s.length := (List.isPrefixOf_iff_prefix.1 h).length_le
theorem isPrefixOf_short {t s : List UInt8} (h : s.length < t.length) : t.isPrefixOf s = false := by
  cases hp : t.isPrefixOf s with
  | false => rfl
  | true => have := isPrefixOf_len hp; omega
theorem isPrefixOf_take (s t : List UInt8) : t.isPrefixOf s = (s.take t.length == t) := by
  rw [Bool.eq_iff_iff, List.isPrefixOf_iff_prefix, beq_iff_eq, List.prefix_iff_eq_take]
  exact ⟨fun h => h.symm, fun h => h.symm⟩
def cutPrefix (s t : List UInt8) : List UInt8 := if t.isPrefixOf s = true then s.drop t.length else s
open Classical in
noncomputable def spHasPrefix : VM.Spec := { modes := [.rd, .rd], run := fun | [.str s, .str t] => if s.length ≤ 1099511627776 ∧ t.length ≤ 1099511627776 then some (.bool (t.isPrefixOf s), []) else none | _ => none, need := [] }
attribute [go_sem] spHasPrefix
theorem spHasPrefix_in {ins : List V} {r : V} {outs : List V} (h : spHasPrefix.run ins = some (r, outs)) : ∃ (s : (List UInt8)) (t : (List UInt8)), ins = [.str s, .str t] ∧ (s.length ≤ 1099511627776 ∧ t.length ≤ 1099511627776) ∧ .bool (t.isPrefixOf s) = r ∧ outs = [] := by
  unfold spHasPrefix at h
  simp only at h
  split at h
  · rename_i s t
    split at h
    case isFalse => cases h
    rename_i hc
    simp only [Option.some.injEq, Prod.mk.injEq] at h
    obtain ⟨h1, h2⟩ := h
    exact ⟨s, t, rfl, hc, h1, h2.symm⟩
  · cases h
def T_internal_stringslite_HasPrefix : Hints := ⟨lk [], lk [], lk [(0, [0, 1]), (1, [4])], lk [], lf []⟩
noncomputable def Phi_internal_stringslite_HasPrefix : Tab := lk []
attribute [go_sem] T_internal_stringslite_HasPrefix Phi_internal_stringslite_HasPrefix
theorem phi_internal_stringslite_HasPrefix : ∀ f sp, Phi_internal_stringslite_HasPrefix f = some sp → FnOk Tryz.prog f sp ∧ ∀ n ∈ sp.need, n ∈ ([] : List String) := phi_nil
theorem ok_internal_stringslite_HasPrefix : FnOk Tryz.prog 122 spHasPrefix := by
  refine fn_ok (Φ := Phi_internal_stringslite_HasPrefix) (T := T_internal_stringslite_HasPrefix) phi_internal_stringslite_HasPrefix mixed Tryz.func122 rfl rfl rfl (by decide) ?_
  intro ins r outs hr hl
  clear hl
  have hs := spHasPrefix_in hr
  clear hr
  obtain ⟨s, t, rfl, hc, hr, rfl⟩ := hs
  simp only [spHasPrefix, Tryz.f122, Go.VM.initS]
  obtain ⟨h1, h2⟩ := hc
  rcases Nat.lt_or_ge s.length t.length with h | h
  · have g1 : ¬ (t.length : Int) ≤ s.length := by omega
    simp only [g1, go_sem]
    repeat' ((first | apply qa | apply qb | apply qc | apply qd | apply qe | apply qf | apply qg | apply qh | apply qi | apply qj | apply qk) <;> intro hp <;> simp only [hp, g1, go_sem])
    simp only [fin_mk, finV, resL, resV1, resIn, endA, listIn, Option.some_or, Option.none_or, oneOrTup, go_sem]
    rw [← hr]
    rw [isPrefixOf_short h]
  · have g1 : (t.length : Int) ≤ s.length := by omega
    have g2 : (0 : Int) ≤ t.length := by omega
    simp only [g1, g2, h, Nat.zero_le, List.drop_zero, Int.toNat_natCast, go_sem]
    repeat' ((first | apply qa | apply qb | apply qc | apply qd | apply qe | apply qf | apply qg | apply qh | apply qi | apply qj | apply qk) <;> intro hp <;> simp only [hp, g1, g2, h, Nat.zero_le, List.drop_zero, Int.toNat_natCast, go_sem])
    simp only [fin_mk, finV, resL, resV1, resIn, endA, listIn, Option.some_or, Option.none_or, oneOrTup, go_sem]
    rw [← hr]
    rw [isPrefixOf_take]
open Classical in
noncomputable def spCutPrefix : VM.Spec := { modes := [.rd, .rd], run := fun | [.str s, .str t] => if s.length ≤ 1099511627776 ∧ t.length ≤ 1099511627776 then some (.tup [.str (cutPrefix s t), .bool (t.isPrefixOf s)], []) else none | _ => none, need := [] }
attribute [go_sem] spCutPrefix
theorem spCutPrefix_in {ins : List V} {r : V} {outs : List V} (h : spCutPrefix.run ins = some (r, outs)) : ∃ (s : (List UInt8)) (t : (List UInt8)), ins = [.str s, .str t] ∧ (s.length ≤ 1099511627776 ∧ t.length ≤ 1099511627776) ∧ .tup [.str (cutPrefix s t), .bool (t.isPrefixOf s)] = r ∧ outs = [] := by
  unfold spCutPrefix at h
  simp only at h
  split at h
  · rename_i s t
    split at h
    case isFalse => cases h
    rename_i hc
    simp only [Option.some.injEq, Prod.mk.injEq] at h
    obtain ⟨h1, h2⟩ := h
    exact ⟨s, t, rfl, hc, h1, h2.symm⟩
  · cases h
def T_internal_stringslite_CutPrefix : Hints := ⟨lk [], lk [], lk [(0, [0, 1]), (1, [0, 1, 9]), (2, [4, 5]), (3, [4, 5])], lk [], lf []⟩
noncomputable def Phi_internal_stringslite_CutPrefix : Tab := lk [(122, spHasPrefix)]
attribute [go_sem] T_internal_stringslite_CutPrefix Phi_internal_stringslite_CutPrefix
theorem phi_internal_stringslite_CutPrefix : ∀ f sp, Phi_internal_stringslite_CutPrefix f = some sp → FnOk Tryz.prog f sp ∧ ∀ n ∈ sp.need, n ∈ ([] : List String) := phi_cons ok_internal_stringslite_HasPrefix (n0 rfl) (phi_nil)
theorem ok_internal_stringslite_CutPrefix : FnOk Tryz.prog 105 spCutPrefix := by
  refine fn_ok (Φ := Phi_internal_stringslite_CutPrefix) (T := T_internal_stringslite_CutPrefix) phi_internal_stringslite_CutPrefix mixed Tryz.func105 rfl rfl rfl (by decide) ?_
  intro ins r outs hr hl
  clear hl
  have hs := spCutPrefix_in hr
  clear hr
  obtain ⟨s, t, rfl, hc, hr, rfl⟩ := hs
  simp only [spCutPrefix, Tryz.f105, Go.VM.initS]
  obtain ⟨h1, h2⟩ := hc
  cases hp : t.isPrefixOf s with
  | false =>
    simp only [hp, h1, h2, go_sem]
    repeat' ((first | apply qa | apply qb | apply qc | apply qd | apply qe | apply qf | apply qg | apply qh | apply qi | apply qj | apply qk) <;> intro hp <;> simp only [hp, hp, h1, h2, go_sem])
    simp only [fin_mk, finV, resL, resV1, resIn, endA, listIn, Option.some_or, Option.none_or, oneOrTup, go_sem]
    rw [← hr]
    simp only [cutPrefix, hp, Bool.false_eq_true, if_false]
  | true =>
    have h3 := isPrefixOf_len hp
    have g2 : (0 : Int) ≤ t.length := by omega
    simp only [hp, h1, h2, h3, g2, Int.toNat_natCast, List.take_length, Nat.le_refl, go_sem]
    repeat' ((first | apply qa | apply qb | apply qc | apply qd | apply qe | apply qf | apply qg | apply qh | apply qi | apply qj | apply qk) <;> intro hp <;> simp only [hp, hp, h1, h2, h3, g2, Int.toNat_natCast, List.take_length, Nat.le_refl, go_sem])
    simp only [fin_mk, finV, resL, resV1, resIn, endA, listIn, Option.some_or, Option.none_or, oneOrTup, go_sem]
    rw [← hr]
    simp only [cutPrefix, hp, if_true]
def T_strings_CutPrefix : Hints := ⟨lk [], lk [], lk [(0, [0, 1]), (1, [4, 5])], lk [], lf []⟩
noncomputable def Phi_strings_CutPrefix : Tab := lk [(105, spCutPrefix)]
attribute [go_sem] T_strings_CutPrefix Phi_strings_CutPrefix
theorem phi_strings_CutPrefix : ∀ f sp, Phi_strings_CutPrefix f = some sp → FnOk Tryz.prog f sp ∧ ∀ n ∈ sp.need, n ∈ ([] : List String) := phi_cons ok_internal_stringslite_CutPrefix (n0 rfl) (phi_nil)
theorem ok_strings_CutPrefix : FnOk Tryz.prog 90 spCutPrefix := by
  refine fn_ok (Φ := Phi_strings_CutPrefix) (T := T_strings_CutPrefix) phi_strings_CutPrefix mixed Tryz.func90 rfl rfl rfl (by decide) ?_
  intro ins r outs hr hl
  clear hl
  have hs := spCutPrefix_in hr
  clear hr
  obtain ⟨s, t, rfl, hc, hr, rfl⟩ := hs
  simp only [spCutPrefix, Tryz.f90, Go.VM.initS]
  obtain ⟨h1, h2⟩ := hc
  simp only [h1, h2, go_sem]
  repeat' ((first | apply qa | apply qb | apply qc | apply qd | apply qe | apply qf | apply qg | apply qh | apply qi | apply qj | apply qk) <;> intro hp <;> simp only [hp, h1, h2, go_sem])
  simp only [fin_mk, finV, resL, resV1, resIn, endA, listIn, Option.some_or, Option.none_or, oneOrTup, go_sem]
  rw [← hr]
def re_ : List UInt8 := [114, 101, 58]
def fwd_ : List UInt8 := [102, 119, 100, 58]
def baseL : Nat → List UInt8 → List UInt8
  | 0, s => s
  | n + 1, s => if re_.isPrefixOf s = true then baseL n (trim (s.drop 3)) else if fwd_.isPrefixOf s = true then baseL n (trim (s.drop 4)) else s
theorem drop_lt {t s : List UInt8} {k : Nat} (hp : t.isPrefixOf s = true) (hk : t.length = k) (h0 : 0 < k) : (trim (s.drop k)).length < s.length := by
  have h1 := isPrefixOf_len hp
  have h2 := trim_len (s.drop k)
  rw [List.length_drop] at h2
  omega
theorem baseL_more : ∀ (n : Nat) (s : List UInt8), s.length ≤ n → baseL n s = baseL (n + 1) s
  | 0, s, h => by
    have : s = [] := List.eq_nil_of_length_eq_zero (by omega)
    subst this
    rfl
  | n + 1, s, h => by
    rw [baseL, baseL]
    cases h1 : re_.isPrefixOf s with
    | true =>
      have := drop_lt h1 (k := 3) rfl (by decide)
      simp only [if_true]
      exact baseL_more n _ (by omega)
    | false =>
      cases h2 : fwd_.isPrefixOf s with
      | true =>
        have := drop_lt h2 (k := 4) rfl (by decide)
        simp only [if_true, Bool.false_eq_true, if_false]
        exact baseL_more n _ (by omega)
      | false => simp only [Bool.false_eq_true, if_false]
theorem baseL_any {n : Nat} {s : List UInt8} (h : s.length ≤ n) : baseL n s = baseL s.length s := by
  induction n with
  | zero => rw [show s.length = 0 by omega]
  | succ n ih =>
    rcases Nat.lt_or_ge n s.length with h1 | h1
    · rw [show s.length = n + 1 by omega]
    · rw [← baseL_more n s h1, ih h1]
def base (s : List UInt8) : List UInt8 := baseL s.length s
theorem base_re {s : List UInt8} (h : re_.isPrefixOf s = true) : base s = base (trim (s.drop 3)) := by
  have h1 := drop_lt h (k := 3) rfl (by decide)
  unfold base
  rw [← baseL_any (n := s.length) (Nat.le_refl _)]
  obtain ⟨n, hn⟩ : ∃ n, s.length = n + 1 := ⟨s.length - 1, by omega⟩
  rw [hn, baseL, if_pos h, baseL_any (by omega)]
theorem base_fwd {s : List UInt8} (h0 : re_.isPrefixOf s = false) (h : fwd_.isPrefixOf s = true) : base s = base (trim (s.drop 4)) := by
  have h1 := drop_lt h (k := 4) rfl (by decide)
  unfold base
  obtain ⟨n, hn⟩ : ∃ n, s.length = n + 1 := ⟨s.length - 1, by omega⟩
  rw [hn, baseL, if_neg (by rw [h0]; simp), if_pos h, baseL_any (by omega)]
theorem base_end {s : List UInt8} (h0 : re_.isPrefixOf s = false) (h : fwd_.isPrefixOf s = false) : base s = s := by
  unfold base
  cases s.length with
  | zero => rfl
  | succ n => rw [baseL, if_neg (by rw [h0]; simp), if_neg (by rw [h]; simp)]
theorem isB_low (b : UInt8) : isB 32 (low1 b) = isB 32 b := by
  unfold low1
  split
  · rename_i h
    have : (b + 32).toNat = b.toNat + 32 := by
      rw [UInt8.toNat_add]
      have e : UInt8.toNat 32 = 32 := rfl
      rw [e]; omega
    have e1 : isB 32 b = false := by unfold isB; rw [beq_eq_false_iff_ne]; omega
    have e2 : isB 32 (b + 32) = false := by unfold isB; rw [beq_eq_false_iff_ne]; omega
    rw [e1, e2]
  · rfl
theorem dropWhile_low (s : List UInt8) : (s.map low1).dropWhile (isB 32) = (s.dropWhile (isB 32)).map low1 := by
  induction s with
  | nil => rfl
  | cons b s ih =>
    rw [List.map_cons, List.dropWhile_cons, List.dropWhile_cons, isB_low]
    cases isB 32 b with
    | true => exact ih
    | false => rfl
theorem trim_low (s : List UInt8) : trim (lowS s) = lowS (trim s) := by
  unfold trim trimL trimR lowS
  rw [← List.map_reverse, dropWhile_low, ← List.map_reverse, dropWhile_low]
def baseSubject (s : List UInt8) : List UInt8 := base (trim (lowS s))
open Classical in
noncomputable def spBaseSubject : VM.Spec := { modes := [.rd], run := fun | [.str s] => if s.length ≤ 1099511627776 then some (.str (baseSubject s), []) else none | _ => none, need := [] }
attribute [go_sem] spBaseSubject
theorem spBaseSubject_in {ins : List V} {r : V} {outs : List V} (h : spBaseSubject.run ins = some (r, outs)) : ∃ (s : (List UInt8)), ins = [.str s] ∧ (s.length ≤ 1099511627776) ∧ .str (baseSubject s) = r ∧ outs = [] := by
  unfold spBaseSubject at h
  simp only at h
  split at h
  · rename_i s
    split at h
    case isFalse => cases h
    rename_i hc
    simp only [Option.some.injEq, Prod.mk.injEq] at h
    obtain ⟨h1, h2⟩ := h
    exact ⟨s, rfl, hc, h1, h2.symm⟩
  · cases h
def T_impl_BaseSubject : Hints := ⟨lk [], lk [(2, [0])], lk [(0, [0]), (1, [0]), (2, [0, 3, 4]), (3, [0, 3, 4, 14]), (4, [0, 3, 4]), (5, [0, 3, 21]), (6, [2]), (7, [0])], lk [], lf []⟩
noncomputable def Phi_impl_BaseSubject : Tab := lk [(91, spLow), (92, spTrim), (90, spCutPrefix)]
attribute [go_sem] T_impl_BaseSubject Phi_impl_BaseSubject
theorem phi_impl_BaseSubject : ∀ f sp, Phi_impl_BaseSubject f = some sp → FnOk Tryz.prog f sp ∧ ∀ n ∈ sp.need, n ∈ ([] : List String) := phi_cons ok_impl_lower (n0 rfl) (phi_cons ok_strings_Trim (n0 rfl) (phi_cons ok_strings_CutPrefix (n0 rfl) (phi_nil)))
theorem ok_impl_BaseSubject : FnOk Tryz.prog 64 spBaseSubject := by
  refine fn_ok (Φ := Phi_impl_BaseSubject) (T := T_impl_BaseSubject) phi_impl_BaseSubject mixed Tryz.func64 rfl rfl rfl (by decide) ?_
  intro ins r outs hr hl
  clear hl
  have hs := spBaseSubject_in hr
  clear hr
  obtain ⟨s, rfl, hc, hr, rfl⟩ := hs
  simp only [spBaseSubject, Tryz.f64, Go.VM.initS]
  have h1 : (lowS s).length ≤ 1099511627776 := by rw [lowS_len]; exact hc
  have h2 := Nat.le_trans (trim_len (lowS s)) h1
  have e32 : (([32] : List UInt8) = [32]) = True := eq_self _
  simp only [hc, h1, e32, go_sem]
  repeat' ((first | apply qa | apply qb | apply qc | apply qd | apply qe | apply qf | apply qg | apply qh | apply qi | apply qj | apply qk) <;> intro hp <;> simp only [hp, hc, h1, e32, go_sem])
  refine loop_go (fun u : List UInt8 => [(0, .str u)]) (fun _ => []) (fun u => u.length) (fun u => u.length ≤ 1099511627776 ∧ base u = baseSubject s) (trim (lowS s)) ⟨h2, rfl⟩ rfl rfl ?_
  rintro u ⟨hu, he⟩ ih
  have r3 : (3 : Nat) ≤ 1099511627776 := by decide
  have r4 : (4 : Nat) ≤ 1099511627776 := by decide
  cases hr1 : re_.isPrefixOf u with
  | true =>
    have hr1' : ([114, 101, 58] : List UInt8).isPrefixOf u = true := hr1
    have hd : (u.drop 3).length ≤ 1099511627776 := by rw [List.length_drop]; omega
    have ih' := ih (trim (u.drop 3)) ⟨Nat.le_trans (trim_len _) hd, by rw [← base_re hr1, he]⟩ (drop_lt hr1 rfl (by decide))
    simp only [hu, hr1', cutPrefix, hd, e32, go_sem]
    repeat' ((first | apply qa | apply qb | apply qc | apply qd | apply qe | apply qf | apply qg | apply qh | apply qi | apply qj | apply qk) <;> intro hp <;> simp only [hp, hu, hr1', cutPrefix, hd, e32, go_sem])
    exact ih'
  | false =>
    have hr1' : ([114, 101, 58] : List UInt8).isPrefixOf u = false := hr1
    cases hr2 : fwd_.isPrefixOf u with
    | true =>
      have hr2' : ([102, 119, 100, 58] : List UInt8).isPrefixOf u = true := hr2
      have hd : (u.drop 4).length ≤ 1099511627776 := by rw [List.length_drop]; omega
      have ih' := ih (trim (u.drop 4)) ⟨Nat.le_trans (trim_len _) hd, by rw [← base_fwd hr1 hr2, he]⟩ (drop_lt hr2 rfl (by decide))
      simp only [hu, hr1', hr2', cutPrefix, hd, e32, go_sem]
      repeat' ((first | apply qa | apply qb | apply qc | apply qd | apply qe | apply qf | apply qg | apply qh | apply qi | apply qj | apply qk) <;> intro hp <;> simp only [hp, hu, hr1', hr2', cutPrefix, hd, e32, go_sem])
      exact ih'
    | false =>
      have hr2' : ([102, 119, 100, 58] : List UInt8).isPrefixOf u = false := hr2
      simp only [hu, hr1', hr2', cutPrefix, e32, go_sem]
      repeat' ((first | apply qa | apply qb | apply qc | apply qd | apply qe | apply qf | apply qg | apply qh | apply qi | apply qj | apply qk) <;> intro hp <;> simp only [hp, hu, hr1', hr2', cutPrefix, e32, go_sem])
      simp only [fin_mk, finV, resL, resV1, resIn, endA, listIn, Option.some_or, Option.none_or, oneOrTup, go_sem]
      rw [← hr]
      rw [← he, base_end hr1 hr2]
def T_spec_BaseSubject : Hints := ⟨lk [], lk [(3, [0])], lk [(0, [0]), (1, [0]), (3, [0, 7]), (4, [0]), (5, [0, 19]), (6, [0]), (2, [2])], lk [], lf []⟩
noncomputable def Phi_spec_BaseSubject : Tab := lk [(80, spLow), (81, spTrim1)]
attribute [go_sem] T_spec_BaseSubject Phi_spec_BaseSubject
theorem phi_spec_BaseSubject : ∀ f sp, Phi_spec_BaseSubject f = some sp → FnOk Tryz.prog f sp ∧ ∀ n ∈ sp.need, n ∈ ([] : List String) := phi_cons ok_spec_l06Low (n0 rfl) (phi_cons ok_spec_l07Trim (n0 rfl) (phi_nil))
theorem ok_spec_BaseSubject : FnOk Tryz.prog 56 spBaseSubject := by
  refine fn_ok (Φ := Phi_spec_BaseSubject) (T := T_spec_BaseSubject) phi_spec_BaseSubject mixed Tryz.func56 rfl rfl rfl (by decide) ?_
  intro ins r outs hr hl
  clear hl
  have hs := spBaseSubject_in hr
  clear hr
  obtain ⟨s, rfl, hc, hr, rfl⟩ := hs
  simp only [spBaseSubject, Tryz.f56, Go.VM.initS]
  have h1 : (trim s).length ≤ 1099511627776 := Nat.le_trans (trim_len s) hc
  have h2 : (lowS (trim s)).length ≤ 1099511627776 := by rw [lowS_len]; exact h1
  simp only [hc, h1, go_sem]
  repeat' ((first | apply qa | apply qb | apply qc | apply qd | apply qe | apply qf | apply qg | apply qh | apply qi | apply qj | apply qk) <;> intro hp <;> simp only [hp, hc, h1, go_sem])
  refine loop_go (fun u : List UInt8 => [(0, .str u)]) (fun _ => []) (fun u => u.length) (fun u => u.length ≤ 1099511627776 ∧ base u = baseSubject s) (lowS (trim s)) ⟨h2, by rw [← trim_low]; rfl⟩ rfl rfl ?_
  rintro u ⟨hu, he⟩ ih
  have c3 : ¬ (3 : Int) ≤ u.length ↔ u.length < 3 := by omega
  have lenlt : ∀ {t : List UInt8}, t.isPrefixOf u = true → t.length ≤ u.length := isPrefixOf_len
  cases hr1 : re_.isPrefixOf u with
  | true =>
    have g0 : 3 ≤ u.length := lenlt hr1
    have g1 : (3 : Int) ≤ u.length := by omega
    have g2 : (u.take 3 == [114, 101, 58]) = true := by rw [← hr1, isPrefixOf_take]; rfl
    have hd : (u.drop 3).length ≤ 1099511627776 := by rw [List.length_drop]; omega
    have ih' := ih (trim (u.drop 3)) ⟨Nat.le_trans (trim_len _) hd, by rw [← base_re hr1, he]⟩ (drop_lt hr1 rfl (by decide))
    simp only [hu, g0, g1, g2, hd, List.take_length, Int.reduceToNat, Nat.zero_le, Nat.le_refl, go_sem]
    repeat' ((first | apply qa | apply qb | apply qc | apply qd | apply qe | apply qf | apply qg | apply qh | apply qi | apply qj | apply qk) <;> intro hp <;> simp only [hp, hu, g0, g1, g2, hd, List.take_length, Int.reduceToNat, Nat.zero_le, Nat.le_refl, go_sem])
    exact ih'
  | false =>
    have q1 : (3 : Int) ≤ u.length → (u.take 3 == [114, 101, 58]) = false := fun _ => by rw [← hr1, isPrefixOf_take]; rfl
    cases hr2 : fwd_.isPrefixOf u with
    | true =>
      have g0 : 4 ≤ u.length := lenlt hr2
      have g0' : 3 ≤ u.length := by omega
      have g1 : (4 : Int) ≤ u.length := by omega
      have g1' : (3 : Int) ≤ u.length := by omega
      have g2' := q1 g1'
      have g2 : (u.take 4 == [102, 119, 100, 58]) = true := by rw [← hr2, isPrefixOf_take]; rfl
      have hd : (u.drop 4).length ≤ 1099511627776 := by rw [List.length_drop]; omega
      have ih' := ih (trim (u.drop 4)) ⟨Nat.le_trans (trim_len _) hd, by rw [← base_fwd hr1 hr2, he]⟩ (drop_lt hr2 rfl (by decide))
      simp only [hu, g0, g0', g1, g1', g2, g2', hd, List.take_length, Int.reduceToNat, Nat.zero_le, Nat.le_refl, go_sem]
      repeat' ((first | apply qa | apply qb | apply qc | apply qd | apply qe | apply qf | apply qg | apply qh | apply qi | apply qj | apply qk) <;> intro hp <;> simp only [hp, hu, g0, g0', g1, g1', g2, g2', hd, List.take_length, Int.reduceToNat, Nat.zero_le, Nat.le_refl, go_sem])
      exact ih'
    | false =>
      have q2 : (4 : Int) ≤ u.length → (u.take 4 == [102, 119, 100, 58]) = false := fun _ => by rw [← hr2, isPrefixOf_take]; rfl
      by_cases l3 : (3 : Int) ≤ u.length
      · have g0' : 3 ≤ u.length := by omega
        have g2' := q1 l3
        by_cases l4 : (4 : Int) ≤ u.length
        · have g0 : 4 ≤ u.length := by omega
          have g2 := q2 l4
          simp only [l3, l4, g0, g0', g2, g2', Int.reduceToNat, Nat.zero_le, go_sem]
          repeat' ((first | apply qa | apply qb | apply qc | apply qd | apply qe | apply qf | apply qg | apply qh | apply qi | apply qj | apply qk) <;> intro hp <;> simp only [hp, l3, l4, g0, g0', g2, g2', Int.reduceToNat, Nat.zero_le, go_sem])
          simp only [fin_mk, finV, resL, resV1, resIn, endA, listIn, Option.some_or, Option.none_or, oneOrTup, go_sem]
          rw [← hr]
          rw [← he, base_end hr1 hr2]
        · simp only [l3, l4, g0', g2', Int.reduceToNat, Nat.zero_le, go_sem]
          repeat' ((first | apply qa | apply qb | apply qc | apply qd | apply qe | apply qf | apply qg | apply qh | apply qi | apply qj | apply qk) <;> intro hp <;> simp only [hp, l3, l4, g0', g2', Int.reduceToNat, Nat.zero_le, go_sem])
          simp only [fin_mk, finV, resL, resV1, resIn, endA, listIn, Option.some_or, Option.none_or, oneOrTup, go_sem]
          rw [← hr]
          rw [← he, base_end hr1 hr2]
      · have l4 : ¬ (4 : Int) ≤ u.length := by omega
        simp only [l3, l4, go_sem]
        repeat' ((first | apply qa | apply qb | apply qc | apply qd | apply qe | apply qf | apply qg | apply qh | apply qi | apply qj | apply qk) <;> intro hp <;> simp only [hp, l3, l4, go_sem])
        simp only [fin_mk, finV, resL, resV1, resIn, endA, listIn, Option.some_or, Option.none_or, oneOrTup, go_sem]
        rw [← hr]
        rw [← he, base_end hr1 hr2]
end Go.Proofs.YtghmjnggmacohaaGreatDoor.L
