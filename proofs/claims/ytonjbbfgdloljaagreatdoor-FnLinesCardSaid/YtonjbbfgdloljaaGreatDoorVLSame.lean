/- Contracts of functions, and the facts that they need. No condition. -/
import Derived.Test.YtonjbbfgdloljaaGreatDoorVLLn
import Derived.Test.YtonjbbfgdloljaaGreatDoorVLKe
import Derived.Test.YtonjbbfgdloljaaGreatDoorVLDr6
namespace Go.Proofs.YtonjbbfgdloljaaGreatDoor.L
open Go Go.VM
set_option maxRecDepth 100000
set_option maxHeartbeats 4000000
set_option linter.unusedSimpArgs false
set_option linter.unusedVariables false
def flF (a x : List UInt8) : List UInt8 := a ++ [32] ++ x
def flagsW (w : List (List UInt8)) : List UInt8 := ((w.drop 7).take (w.length - 9)).foldl flF (w.getD 6 [])
def lastW (w : List (List UInt8)) : List UInt8 := w.getD (w.length - 1) []
def guessW (t : List UInt8) (w : List (List UInt8)) : Line :=
  if (t == [111, 107]) = true then ⟨7, 0, 0, 0, 0, [], false⟩
  else if (t == [98, 121, 101]) = true then ⟨9, 0, 0, 0, 0, [], false⟩
  else if w.length = 2 ∧ (w.getD 0 [] == [110, 111]) = true then ⟨8, decN (w.getD 1 []), 0, 0, 0, [], false⟩
  else if w.length = 3 ∧ (w.getD 2 [] == [101, 120, 105, 115, 116, 115]) = true then ⟨1, decN (w.getD 1 []), 0, 0, 0, [], false⟩
  else if w.length = 3 ∧ (w.getD 2 [] == [101, 120, 112, 117, 110, 103, 101]) = true then ⟨2, decN (w.getD 1 []), 0, 0, 0, [], false⟩
  else if 2 ≤ w.length ∧ (w.getD 1 [] == [118, 97, 110, 105, 115, 104, 101, 100]) = true then ⟨4, 0, 0, 0, 0, readSet (lastW w) 1, false⟩
  else if 2 ≤ w.length ∧ (w.getD 1 [] == [115, 101, 97, 114, 99, 104]) = true then ⟨6, 0, 0, 0, 0, (if 2 < w.length then readSet (lastW w) 1 else []), false⟩
  else if 5 ≤ w.length ∧ (w.getD 1 [] == [118, 97, 108, 105, 100]) = true then ⟨5, decN (w.getD 2 []), 0, 0, decN (w.getD 4 []), [], decide (5 < w.length)⟩
  else if 8 ≤ w.length ∧ (w.getD 2 [] == [102, 101, 116, 99, 104]) = true then ⟨3, decN (w.getD 1 []), decN (w.getD 4 []), (readFl (flagsW w)).getD 0, (if 1 < (lastW w).length then decN ((lastW w).take ((lastW w).length - 1)) else 0), [], false⟩
  else ⟨0, 0, 0, 0, 0, [], false⟩
theorem guessW_le (t : List UInt8) (w : List (List UInt8)) : (guessW t w).le 4194304 := by
  unfold guessW
  repeat' (first | exact line_le _ _ _ _ _ _ _ (readSet_len _ _) | exact line_le _ _ _ _ _ _ _ (Nat.zero_le _) | (refine line_le _ _ _ _ _ _ _ ?_; split; exact readSet_len _ _; exact Nat.zero_le _) | split)
def sumW : List (List UInt8) → Nat
  | [] => 0
  | x :: l => x.length + 1 + sumW l
theorem sumW_app : ∀ (a b : List (List UInt8)), sumW (a ++ b) = sumW a + sumW b
  | [], b => by simp [sumW]
  | x :: a, b => by rw [List.cons_append, sumW, sumW, sumW_app a b]; omega
theorem splitOn_sum (c : UInt8) (s : List UInt8) : sumW (splitOn c s) = s.length + 1 := by
  induction s with
  | nil => rfl
  | cons b s ih =>
    rw [splitOn]
    split
    · rw [sumW, ih, List.length_cons]; simp; omega
    · have := splitOn_ne c s
      cases hq : splitOn c s with
      | nil => exact absurd hq this
      | cons h r =>
        rw [hq] at ih
        simp only [consHead, sumW, List.length_cons] at ih ⊢; omega
theorem flF_len : ∀ (l : List (List UInt8)) (a : List UInt8), (l.foldl flF a).length = a.length + sumW l
  | [], a => by simp [sumW]
  | x :: l, a => by rw [List.foldl_cons, flF_len l, sumW, flF]; simp only [List.length_append, List.length_cons, List.length_nil]; omega
theorem sumW_take (l : List (List UInt8)) (n : Nat) : sumW (l.take n) ≤ sumW l := by
  have := sumW_app (l.take n) (l.drop n)
  rw [List.take_append_drop] at this; omega
theorem flagsW_len {t : List UInt8} {w : List (List UInt8)} (h : splitOn 32 t = w) (h8 : 8 ≤ w.length) : (flagsW w).length ≤ t.length := by
  have h1 := splitOn_sum 32 t
  rw [h] at h1
  have h2 := sumW_app (w.take 6) (w.drop 6)
  rw [List.take_append_drop, List.drop_eq_getElem_cons (show 6 < w.length by omega), sumW] at h2
  have h3 := sumW_take (w.drop 7) (w.length - 9)
  have h4 : w.getD 6 [] = w[6] := by rw [List.getD_eq_getElem?_getD, List.getElem?_eq_getElem (by omega)]; rfl
  have h5 : sumW (w.drop (6 + 1)) = sumW (w.drop 7) := rfl
  have h6 : ∀ l : List (List UInt8), l.length ≤ sumW l := by
    intro l
    induction l with
    | nil => simp [sumW]
    | cons x l ih => rw [sumW, List.length_cons]; omega
  have h7 := h6 (w.take 6)
  rw [List.length_take] at h7
  rw [flagsW, flF_len, h4]; omega
theorem at_word {t : List UInt8} {w : List (List UInt8)} (h : splitOn 32 t = w) (ht : t.length ≤ 4194304) {k : Nat} (hk : k < w.length) : ∃ x, w[k]? = some x ∧ w.getD k [] = x ∧ x.length ≤ 4194304 := by
  refine ⟨w[k], List.getElem?_eq_getElem hk, by rw [List.getD_eq_getElem?_getD, List.getElem?_eq_getElem hk]; rfl, ?_⟩
  subst h
  exact Nat.le_trans (splitOn_mem 32 t _ (List.getElem_mem hk)) ht
open Classical in
noncomputable def spGuess : VM.Spec := { modes := [.rd], run := fun | [.str t] => if t.length ≤ 4194304 then some (Line.enc (guessW t (splitOn 32 t)), []) else none | _ => none, need := ["internal/bytealg.MaxLen"] }
attribute [go_sem] spGuess
theorem spGuess_in {ins : List V} {r : V} {outs : List V} (h : spGuess.run ins = some (r, outs)) : ∃ (t : (List UInt8)), ins = [.str t] ∧ (t.length ≤ 4194304) ∧ Line.enc (guessW t (splitOn 32 t)) = r ∧ outs = [] := by
  unfold spGuess at h
  simp only at h
  split at h
  · rename_i t
    split at h
    case isFalse => cases h
    rename_i hc
    simp only [Option.some.injEq, Prod.mk.injEq] at h
    obtain ⟨h1, h2⟩ := h
    exact ⟨t, rfl, hc, h1, h2.symm⟩
  · cases h
def T_spec_l13Guess : Hints := ⟨lk [], lk [(35, [2, 3, 4, 5, 6, 7])], lk [(0, [0, 2]), (1, [0, 2, 3]), (2, [0, 2, 3, 4]), (3, [0, 2, 3, 4, 5]), (4, [0, 2, 3, 4, 5, 14]), (5, [2, 4]), (6, [2, 3, 4, 5, 18]), (7, [2, 4]), (8, [2, 3, 4, 5, 22]), (9, [2, 3, 4]), (10, [2, 4]), (11, [2, 3, 4, 5, 40]), (12, [2, 3, 4]), (13, [2, 4]), (14, [2, 3, 4, 5, 58]), (15, [2, 3, 4]), (16, [2, 4]), (17, [2, 3, 4, 5, 76]), (18, [2, 3, 4, 5]), (19, [2, 4]), (20, [2, 3, 4, 5, 96]), (21, [2, 3, 4, 5]), (22, [2, 3, 4, 5, 107]), (23, [2, 4]), (24, [2, 3, 4, 5, 118]), (25, [2, 3, 4, 5]), (26, [2, 3, 4, 5]), (27, [2, 4, 5]), (28, [2, 4]), (29, [2, 3, 4, 5, 147]), (30, [2, 3, 4, 5]), (31, [2, 3, 4, 5]), (32, [2, 3, 4, 5]), (33, [2, 3, 4, 5, 6]), (34, [2, 3, 4, 5, 6, 7]), (35, [2, 3, 4, 5, 6, 7, 179]), (37, [2, 3, 4, 5, 6, 7]), (36, [2, 3, 4, 5, 6, 7]), (38, [2, 3, 4, 5]), (39, [2, 4, 8]), (40, [2, 4, 8, 202]), (41, [2, 4]), (42, [2])], lk []⟩
noncomputable def Phi_spec_l13Guess : Tab := lk [(82, spWords13), (52, spReadDec), (51, spReadSet), (83, spReadFlags)]
attribute [go_sem] T_spec_l13Guess Phi_spec_l13Guess
theorem phi_spec_l13Guess : ∀ f sp, Phi_spec_l13Guess f = some sp → FnOk Tryz.prog f sp ∧ ∀ n ∈ sp.need, n ∈ (["internal/bytealg.MaxLen"] : List String) := phi_cons ok_spec_l13Words (n0 rfl) (phi_cons ok_spec_ReadDecimal (n0 rfl) (phi_cons ok_spec_ReadSet (fun n (h : n ∈ (["internal/bytealg.MaxLen"] : List String)) => by simp only [List.mem_cons, List.not_mem_nil, or_false] at h; rcases h with rfl <;> simp) (phi_cons ok_spec_ReadFlags (fun n (h : n ∈ (["internal/bytealg.MaxLen"] : List String)) => by simp only [List.mem_cons, List.not_mem_nil, or_false] at h; rcases h with rfl <;> simp) (phi_nil))))
theorem ok_spec_l13Guess : FnOk Tryz.prog 34 spGuess := by
  refine fn_ok (Φ := Phi_spec_l13Guess) (T := T_spec_l13Guess) phi_spec_l13Guess mixed Tryz.func34 rfl rfl rfl (by decide) ?_
  intro ins r outs hr hl
  clear hl
  have hs := spGuess_in hr
  clear hr
  obtain ⟨t, rfl, hc, hr, rfl⟩ := hs
  simp only [spGuess, Tryz.f34, Go.VM.initS]
  obtain ⟨w, hW⟩ : ∃ w, splitOn 32 t = w := ⟨_, rfl⟩
  rw [hW] at hr
  have hlen := splitOn_len 32 t
  rw [hW] at hlen
  have h1n : 1 ≤ w.length := by
    have := splitOn_ne 32 t
    rw [hW] at this
    cases w with
    | nil => exact absurd rfl this
    | cons a b => simp
  have wn : IntKind.i64.wrap ((w.length : Int) - 1) = ((w.length - 1 : Nat) : Int) := (wrap64 (by omega) (by omega)).trans (by omega)
  have v1 : (0 : Int) ≤ ((w.length - 1 : Nat) : Int) := by omega
  have v2 : ((w.length - 1 : Nat) : Int) < w.length := by omega
  have q1 : (1 : Int) ≤ 9999 := by decide
  cases c1 : (t == [111, 107]) with
  | true =>
    simp only [hc, hW, c1, go_sem]
    repeat' ((first | apply qa | apply qb | apply qc | apply qd | apply qe | apply qf | apply qg | apply qh | apply qi | apply qj | apply qk) <;> intro hp <;> simp only [hp, hc, hW, c1, go_sem])
    simp only [fin_mk, finV, resL, resV1, resIn, endA, listIn, Option.some_or, Option.none_or, oneOrTup, go_sem]
    rw [← hr]
    rw [guessW, if_pos c1]; rfl
  | false =>
  have n1 : ¬ (t == [111, 107]) = true := by rw [c1]; simp
  cases c2 : (t == [98, 121, 101]) with
  | true =>
    simp only [hc, hW, c1, c2, go_sem]
    repeat' ((first | apply qa | apply qb | apply qc | apply qd | apply qe | apply qf | apply qg | apply qh | apply qi | apply qj | apply qk) <;> intro hp <;> simp only [hp, hc, hW, c1, c2, go_sem])
    simp only [fin_mk, finV, resL, resV1, resIn, endA, listIn, Option.some_or, Option.none_or, oneOrTup, go_sem]
    rw [← hr]
    rw [guessW, if_neg n1, if_pos c2]; rfl
  | false =>
  have n2 : ¬ (t == [98, 121, 101]) = true := by rw [c2]; simp

  have hcases : w.length = 1 ∨ w.length = 2 ∨ w.length = 3 ∨ w.length = 4 ∨ (5 ≤ w.length ∧ w.length < 8) ∨ 8 ≤ w.length := by omega
  rcases hcases with hn | hn | hn | hn | hn | hn
  · -- one
    obtain ⟨xl, gl, yl, ll⟩ := at_word hW hc (show w.length - 1 < w.length by omega)
    have e2 : ((w.length : Int) == 2) = false := by simp; omega
    have e3 : ((w.length : Int) == 3) = false := by simp; omega
    have e4 : ¬ (2 : Int) ≤ (w.length : Int) := by omega
    have e5 : ¬ (2 : Int) < (w.length : Int) := by omega
    have e6 : ¬ (5 : Int) ≤ (w.length : Int) := by omega
    have e7 : ¬ (8 : Int) ≤ (w.length : Int) := by omega
    have n3 : ¬ (w.length = 2 ∧ (w.getD 0 [] == [110, 111]) = true) := fun h => by have := h.1; omega
    have n4 : ¬ (w.length = 3 ∧ (w.getD 2 [] == [101, 120, 105, 115, 116, 115]) = true) := fun h => by have := h.1; omega
    have n5 : ¬ (w.length = 3 ∧ (w.getD 2 [] == [101, 120, 112, 117, 110, 103, 101]) = true) := fun h => by have := h.1; omega
    have n6 : ¬ (2 ≤ w.length ∧ (w.getD 1 [] == [118, 97, 110, 105, 115, 104, 101, 100]) = true) := fun h => by have := h.1; omega
    have n7 : ¬ (2 ≤ w.length ∧ (w.getD 1 [] == [115, 101, 97, 114, 99, 104]) = true) := fun h => by have := h.1; omega
    have n8 : ¬ (5 ≤ w.length ∧ (w.getD 1 [] == [118, 97, 108, 105, 100]) = true) := fun h => by have := h.1; omega
    have n9 : ¬ (8 ≤ w.length ∧ (w.getD 2 [] == [102, 101, 116, 99, 104]) = true) := fun h => by have := h.1; omega
    simp only [hc, hW, c1, c2, wn, v1, v2, gl, ll, e2, e3, e4, e5, e6, e7, go_sem]
    repeat' ((first | apply qa | apply qb | apply qc | apply qd | apply qe | apply qf | apply qg | apply qh | apply qi | apply qj | apply qk) <;> intro hp <;> simp only [hp, hc, hW, c1, c2, wn, v1, v2, gl, ll, e2, e3, e4, e5, e6, e7, go_sem])
    simp only [fin_mk, finV, resL, resV1, resIn, endA, listIn, Option.some_or, Option.none_or, oneOrTup, go_sem]
    rw [← hr]
    rw [guessW, if_neg n1, if_neg n2, if_neg n3, if_neg n4, if_neg n5, if_neg n6, if_neg n7, if_neg n8, if_neg n9]; rfl
  · -- two
    obtain ⟨x0, g0, y0, l0⟩ := at_word hW hc (show 0 < w.length by omega)
    have u0 : (0 : Int) < (w.length : Int) := by omega
    obtain ⟨x1, g1, y1, l1⟩ := at_word hW hc (show 1 < w.length by omega)
    have u1 : (1 : Int) < (w.length : Int) := by omega
    obtain ⟨xl, gl, yl, ll⟩ := at_word hW hc (show w.length - 1 < w.length by omega)
    have e2 : ((w.length : Int) == 2) = true := by simp; omega
    have e3 : ((w.length : Int) == 3) = false := by simp; omega
    have e4 : (2 : Int) ≤ (w.length : Int) := by omega
    have e5 : ¬ (2 : Int) < (w.length : Int) := by omega
    have e6 : ¬ (5 : Int) ≤ (w.length : Int) := by omega
    have e7 : ¬ (8 : Int) ≤ (w.length : Int) := by omega
    cases t3 : (x0 == [110, 111]) with
    | true =>
      simp only [hc, hW, c1, c2, wn, v1, v2, gl, ll, e2, e3, e4, e5, e6, e7, g0, g1, u0, u1, l0, l1, t3, q1, go_sem]
      repeat' ((first | apply qa | apply qb | apply qc | apply qd | apply qe | apply qf | apply qg | apply qh | apply qi | apply qj | apply qk) <;> intro hp <;> simp only [hp, hc, hW, c1, c2, wn, v1, v2, gl, ll, e2, e3, e4, e5, e6, e7, g0, g1, u0, u1, l0, l1, t3, q1, go_sem])
      simp only [fin_mk, finV, resL, resV1, resIn, endA, listIn, Option.some_or, Option.none_or, oneOrTup, go_sem]
      rw [← hr]
      rw [guessW, if_neg n1, if_neg n2, if_pos ⟨by omega, by rw [y0]; exact t3⟩, y1]; rfl
    | false =>
    have n3 : ¬ (w.length = 2 ∧ (w.getD 0 [] == [110, 111]) = true) := by rw [y0, t3]; simp
    have n4 : ¬ (w.length = 3 ∧ (w.getD 2 [] == [101, 120, 105, 115, 116, 115]) = true) := fun h => by have := h.1; omega
    have n5 : ¬ (w.length = 3 ∧ (w.getD 2 [] == [101, 120, 112, 117, 110, 103, 101]) = true) := fun h => by have := h.1; omega
    cases t6 : (x1 == [118, 97, 110, 105, 115, 104, 101, 100]) with
    | true =>
      simp only [hc, hW, c1, c2, wn, v1, v2, gl, ll, e2, e3, e4, e5, e6, e7, g0, g1, u0, u1, l0, l1, t3, t6, q1, go_sem]
      repeat' ((first | apply qa | apply qb | apply qc | apply qd | apply qe | apply qf | apply qg | apply qh | apply qi | apply qj | apply qk) <;> intro hp <;> simp only [hp, hc, hW, c1, c2, wn, v1, v2, gl, ll, e2, e3, e4, e5, e6, e7, g0, g1, u0, u1, l0, l1, t3, t6, q1, go_sem])
      simp only [fin_mk, finV, resL, resV1, resIn, endA, listIn, Option.some_or, Option.none_or, oneOrTup, go_sem]
      rw [← hr]
      rw [guessW, if_neg n1, if_neg n2, if_neg n3, if_neg n4, if_neg n5, if_pos ⟨by omega, by rw [y1]; exact t6⟩, lastW, yl]; rfl
    | false =>
    have n6 : ¬ (2 ≤ w.length ∧ (w.getD 1 [] == [118, 97, 110, 105, 115, 104, 101, 100]) = true) := by rw [y1, t6]; simp
    cases t7 : (x1 == [115, 101, 97, 114, 99, 104]) with
    | true =>
      simp only [hc, hW, c1, c2, wn, v1, v2, gl, ll, e2, e3, e4, e5, e6, e7, g0, g1, u0, u1, l0, l1, t3, t6, t7, q1, go_sem]
      repeat' ((first | apply qa | apply qb | apply qc | apply qd | apply qe | apply qf | apply qg | apply qh | apply qi | apply qj | apply qk) <;> intro hp <;> simp only [hp, hc, hW, c1, c2, wn, v1, v2, gl, ll, e2, e3, e4, e5, e6, e7, g0, g1, u0, u1, l0, l1, t3, t6, t7, q1, go_sem])
      simp only [fin_mk, finV, resL, resV1, resIn, endA, listIn, Option.some_or, Option.none_or, oneOrTup, go_sem]
      rw [← hr]
      rw [guessW, if_neg n1, if_neg n2, if_neg n3, if_neg n4, if_neg n5, if_neg n6, if_pos ⟨by omega, by rw [y1]; exact t7⟩, if_neg (by omega)]; rfl
    | false =>
    have n7 : ¬ (2 ≤ w.length ∧ (w.getD 1 [] == [115, 101, 97, 114, 99, 104]) = true) := by rw [y1, t7]; simp
    have n8 : ¬ (5 ≤ w.length ∧ (w.getD 1 [] == [118, 97, 108, 105, 100]) = true) := fun h => by have := h.1; omega
    have n9 : ¬ (8 ≤ w.length ∧ (w.getD 2 [] == [102, 101, 116, 99, 104]) = true) := fun h => by have := h.1; omega
    simp only [hc, hW, c1, c2, wn, v1, v2, gl, ll, e2, e3, e4, e5, e6, e7, g0, g1, u0, u1, l0, l1, t3, t6, t7, go_sem]
    repeat' ((first | apply qa | apply qb | apply qc | apply qd | apply qe | apply qf | apply qg | apply qh | apply qi | apply qj | apply qk) <;> intro hp <;> simp only [hp, hc, hW, c1, c2, wn, v1, v2, gl, ll, e2, e3, e4, e5, e6, e7, g0, g1, u0, u1, l0, l1, t3, t6, t7, go_sem])
    simp only [fin_mk, finV, resL, resV1, resIn, endA, listIn, Option.some_or, Option.none_or, oneOrTup, go_sem]
    rw [← hr]
    rw [guessW, if_neg n1, if_neg n2, if_neg n3, if_neg n4, if_neg n5, if_neg n6, if_neg n7, if_neg n8, if_neg n9]; rfl
  · -- three
    obtain ⟨x0, g0, y0, l0⟩ := at_word hW hc (show 0 < w.length by omega)
    have u0 : (0 : Int) < (w.length : Int) := by omega
    obtain ⟨x1, g1, y1, l1⟩ := at_word hW hc (show 1 < w.length by omega)
    have u1 : (1 : Int) < (w.length : Int) := by omega
    obtain ⟨x2, g2, y2, l2⟩ := at_word hW hc (show 2 < w.length by omega)
    have u2 : (2 : Int) < (w.length : Int) := by omega
    obtain ⟨xl, gl, yl, ll⟩ := at_word hW hc (show w.length - 1 < w.length by omega)
    have e2 : ((w.length : Int) == 2) = false := by simp; omega
    have e3 : ((w.length : Int) == 3) = true := by simp; omega
    have e4 : (2 : Int) ≤ (w.length : Int) := by omega
    have e5 : (2 : Int) < (w.length : Int) := by omega
    have e6 : ¬ (5 : Int) ≤ (w.length : Int) := by omega
    have e7 : ¬ (8 : Int) ≤ (w.length : Int) := by omega
    have n3 : ¬ (w.length = 2 ∧ (w.getD 0 [] == [110, 111]) = true) := fun h => by have := h.1; omega
    cases t4 : (x2 == [101, 120, 105, 115, 116, 115]) with
    | true =>
      simp only [hc, hW, c1, c2, wn, v1, v2, gl, ll, e2, e3, e4, e5, e6, e7, g0, g1, g2, u0, u1, u2, l0, l1, l2, t4, q1, go_sem]
      repeat' ((first | apply qa | apply qb | apply qc | apply qd | apply qe | apply qf | apply qg | apply qh | apply qi | apply qj | apply qk) <;> intro hp <;> simp only [hp, hc, hW, c1, c2, wn, v1, v2, gl, ll, e2, e3, e4, e5, e6, e7, g0, g1, g2, u0, u1, u2, l0, l1, l2, t4, q1, go_sem])
      simp only [fin_mk, finV, resL, resV1, resIn, endA, listIn, Option.some_or, Option.none_or, oneOrTup, go_sem]
      rw [← hr]
      rw [guessW, if_neg n1, if_neg n2, if_neg n3, if_pos ⟨by omega, by rw [y2]; exact t4⟩, y1]; rfl
    | false =>
    have n4 : ¬ (w.length = 3 ∧ (w.getD 2 [] == [101, 120, 105, 115, 116, 115]) = true) := by rw [y2, t4]; simp
    cases t5 : (x2 == [101, 120, 112, 117, 110, 103, 101]) with
    | true =>
      simp only [hc, hW, c1, c2, wn, v1, v2, gl, ll, e2, e3, e4, e5, e6, e7, g0, g1, g2, u0, u1, u2, l0, l1, l2, t4, t5, q1, go_sem]
      repeat' ((first | apply qa | apply qb | apply qc | apply qd | apply qe | apply qf | apply qg | apply qh | apply qi | apply qj | apply qk) <;> intro hp <;> simp only [hp, hc, hW, c1, c2, wn, v1, v2, gl, ll, e2, e3, e4, e5, e6, e7, g0, g1, g2, u0, u1, u2, l0, l1, l2, t4, t5, q1, go_sem])
      simp only [fin_mk, finV, resL, resV1, resIn, endA, listIn, Option.some_or, Option.none_or, oneOrTup, go_sem]
      rw [← hr]
      rw [guessW, if_neg n1, if_neg n2, if_neg n3, if_neg n4, if_pos ⟨by omega, by rw [y2]; exact t5⟩, y1]; rfl
    | false =>
    have n5 : ¬ (w.length = 3 ∧ (w.getD 2 [] == [101, 120, 112, 117, 110, 103, 101]) = true) := by rw [y2, t5]; simp
    cases t6 : (x1 == [118, 97, 110, 105, 115, 104, 101, 100]) with
    | true =>
      simp only [hc, hW, c1, c2, wn, v1, v2, gl, ll, e2, e3, e4, e5, e6, e7, g0, g1, g2, u0, u1, u2, l0, l1, l2, t4, t5, t6, q1, go_sem]
      repeat' ((first | apply qa | apply qb | apply qc | apply qd | apply qe | apply qf | apply qg | apply qh | apply qi | apply qj | apply qk) <;> intro hp <;> simp only [hp, hc, hW, c1, c2, wn, v1, v2, gl, ll, e2, e3, e4, e5, e6, e7, g0, g1, g2, u0, u1, u2, l0, l1, l2, t4, t5, t6, q1, go_sem])
      simp only [fin_mk, finV, resL, resV1, resIn, endA, listIn, Option.some_or, Option.none_or, oneOrTup, go_sem]
      rw [← hr]
      rw [guessW, if_neg n1, if_neg n2, if_neg n3, if_neg n4, if_neg n5, if_pos ⟨by omega, by rw [y1]; exact t6⟩, lastW, yl]; rfl
    | false =>
    have n6 : ¬ (2 ≤ w.length ∧ (w.getD 1 [] == [118, 97, 110, 105, 115, 104, 101, 100]) = true) := by rw [y1, t6]; simp
    cases t7 : (x1 == [115, 101, 97, 114, 99, 104]) with
    | true =>
      simp only [hc, hW, c1, c2, wn, v1, v2, gl, ll, e2, e3, e4, e5, e6, e7, g0, g1, g2, u0, u1, u2, l0, l1, l2, t4, t5, t6, t7, q1, go_sem]
      repeat' ((first | apply qa | apply qb | apply qc | apply qd | apply qe | apply qf | apply qg | apply qh | apply qi | apply qj | apply qk) <;> intro hp <;> simp only [hp, hc, hW, c1, c2, wn, v1, v2, gl, ll, e2, e3, e4, e5, e6, e7, g0, g1, g2, u0, u1, u2, l0, l1, l2, t4, t5, t6, t7, q1, go_sem])
      simp only [fin_mk, finV, resL, resV1, resIn, endA, listIn, Option.some_or, Option.none_or, oneOrTup, go_sem]
      rw [← hr]
      rw [guessW, if_neg n1, if_neg n2, if_neg n3, if_neg n4, if_neg n5, if_neg n6, if_pos ⟨by omega, by rw [y1]; exact t7⟩, if_pos (by omega), lastW, yl]; rfl
    | false =>
    have n7 : ¬ (2 ≤ w.length ∧ (w.getD 1 [] == [115, 101, 97, 114, 99, 104]) = true) := by rw [y1, t7]; simp
    have n8 : ¬ (5 ≤ w.length ∧ (w.getD 1 [] == [118, 97, 108, 105, 100]) = true) := fun h => by have := h.1; omega
    have n9 : ¬ (8 ≤ w.length ∧ (w.getD 2 [] == [102, 101, 116, 99, 104]) = true) := fun h => by have := h.1; omega
    simp only [hc, hW, c1, c2, wn, v1, v2, gl, ll, e2, e3, e4, e5, e6, e7, g0, g1, g2, u0, u1, u2, l0, l1, l2, t4, t5, t6, t7, go_sem]
    repeat' ((first | apply qa | apply qb | apply qc | apply qd | apply qe | apply qf | apply qg | apply qh | apply qi | apply qj | apply qk) <;> intro hp <;> simp only [hp, hc, hW, c1, c2, wn, v1, v2, gl, ll, e2, e3, e4, e5, e6, e7, g0, g1, g2, u0, u1, u2, l0, l1, l2, t4, t5, t6, t7, go_sem])
    simp only [fin_mk, finV, resL, resV1, resIn, endA, listIn, Option.some_or, Option.none_or, oneOrTup, go_sem]
    rw [← hr]
    rw [guessW, if_neg n1, if_neg n2, if_neg n3, if_neg n4, if_neg n5, if_neg n6, if_neg n7, if_neg n8, if_neg n9]; rfl
  · -- four
    obtain ⟨x0, g0, y0, l0⟩ := at_word hW hc (show 0 < w.length by omega)
    have u0 : (0 : Int) < (w.length : Int) := by omega
    obtain ⟨x1, g1, y1, l1⟩ := at_word hW hc (show 1 < w.length by omega)
    have u1 : (1 : Int) < (w.length : Int) := by omega
    obtain ⟨x2, g2, y2, l2⟩ := at_word hW hc (show 2 < w.length by omega)
    have u2 : (2 : Int) < (w.length : Int) := by omega
    obtain ⟨xl, gl, yl, ll⟩ := at_word hW hc (show w.length - 1 < w.length by omega)
    have e2 : ((w.length : Int) == 2) = false := by simp; omega
    have e3 : ((w.length : Int) == 3) = false := by simp; omega
    have e4 : (2 : Int) ≤ (w.length : Int) := by omega
    have e5 : (2 : Int) < (w.length : Int) := by omega
    have e6 : ¬ (5 : Int) ≤ (w.length : Int) := by omega
    have e7 : ¬ (8 : Int) ≤ (w.length : Int) := by omega
    have n3 : ¬ (w.length = 2 ∧ (w.getD 0 [] == [110, 111]) = true) := fun h => by have := h.1; omega
    have n4 : ¬ (w.length = 3 ∧ (w.getD 2 [] == [101, 120, 105, 115, 116, 115]) = true) := fun h => by have := h.1; omega
    have n5 : ¬ (w.length = 3 ∧ (w.getD 2 [] == [101, 120, 112, 117, 110, 103, 101]) = true) := fun h => by have := h.1; omega
    cases t6 : (x1 == [118, 97, 110, 105, 115, 104, 101, 100]) with
    | true =>
      simp only [hc, hW, c1, c2, wn, v1, v2, gl, ll, e2, e3, e4, e5, e6, e7, g0, g1, g2, u0, u1, u2, l0, l1, l2, t6, q1, go_sem]
      repeat' ((first | apply qa | apply qb | apply qc | apply qd | apply qe | apply qf | apply qg | apply qh | apply qi | apply qj | apply qk) <;> intro hp <;> simp only [hp, hc, hW, c1, c2, wn, v1, v2, gl, ll, e2, e3, e4, e5, e6, e7, g0, g1, g2, u0, u1, u2, l0, l1, l2, t6, q1, go_sem])
      simp only [fin_mk, finV, resL, resV1, resIn, endA, listIn, Option.some_or, Option.none_or, oneOrTup, go_sem]
      rw [← hr]
      rw [guessW, if_neg n1, if_neg n2, if_neg n3, if_neg n4, if_neg n5, if_pos ⟨by omega, by rw [y1]; exact t6⟩, lastW, yl]; rfl
    | false =>
    have n6 : ¬ (2 ≤ w.length ∧ (w.getD 1 [] == [118, 97, 110, 105, 115, 104, 101, 100]) = true) := by rw [y1, t6]; simp
    cases t7 : (x1 == [115, 101, 97, 114, 99, 104]) with
    | true =>
      simp only [hc, hW, c1, c2, wn, v1, v2, gl, ll, e2, e3, e4, e5, e6, e7, g0, g1, g2, u0, u1, u2, l0, l1, l2, t6, t7, q1, go_sem]
      repeat' ((first | apply qa | apply qb | apply qc | apply qd | apply qe | apply qf | apply qg | apply qh | apply qi | apply qj | apply qk) <;> intro hp <;> simp only [hp, hc, hW, c1, c2, wn, v1, v2, gl, ll, e2, e3, e4, e5, e6, e7, g0, g1, g2, u0, u1, u2, l0, l1, l2, t6, t7, q1, go_sem])
      simp only [fin_mk, finV, resL, resV1, resIn, endA, listIn, Option.some_or, Option.none_or, oneOrTup, go_sem]
      rw [← hr]
      rw [guessW, if_neg n1, if_neg n2, if_neg n3, if_neg n4, if_neg n5, if_neg n6, if_pos ⟨by omega, by rw [y1]; exact t7⟩, if_pos (by omega), lastW, yl]; rfl
    | false =>
    have n7 : ¬ (2 ≤ w.length ∧ (w.getD 1 [] == [115, 101, 97, 114, 99, 104]) = true) := by rw [y1, t7]; simp
    have n8 : ¬ (5 ≤ w.length ∧ (w.getD 1 [] == [118, 97, 108, 105, 100]) = true) := fun h => by have := h.1; omega
    have n9 : ¬ (8 ≤ w.length ∧ (w.getD 2 [] == [102, 101, 116, 99, 104]) = true) := fun h => by have := h.1; omega
    simp only [hc, hW, c1, c2, wn, v1, v2, gl, ll, e2, e3, e4, e5, e6, e7, g0, g1, g2, u0, u1, u2, l0, l1, l2, t6, t7, go_sem]
    repeat' ((first | apply qa | apply qb | apply qc | apply qd | apply qe | apply qf | apply qg | apply qh | apply qi | apply qj | apply qk) <;> intro hp <;> simp only [hp, hc, hW, c1, c2, wn, v1, v2, gl, ll, e2, e3, e4, e5, e6, e7, g0, g1, g2, u0, u1, u2, l0, l1, l2, t6, t7, go_sem])
    simp only [fin_mk, finV, resL, resV1, resIn, endA, listIn, Option.some_or, Option.none_or, oneOrTup, go_sem]
    rw [← hr]
    rw [guessW, if_neg n1, if_neg n2, if_neg n3, if_neg n4, if_neg n5, if_neg n6, if_neg n7, if_neg n8, if_neg n9]; rfl
  · -- five
    obtain ⟨x0, g0, y0, l0⟩ := at_word hW hc (show 0 < w.length by omega)
    have u0 : (0 : Int) < (w.length : Int) := by omega
    obtain ⟨x1, g1, y1, l1⟩ := at_word hW hc (show 1 < w.length by omega)
    have u1 : (1 : Int) < (w.length : Int) := by omega
    obtain ⟨x2, g2, y2, l2⟩ := at_word hW hc (show 2 < w.length by omega)
    have u2 : (2 : Int) < (w.length : Int) := by omega
    obtain ⟨x4, g4, y4, l4⟩ := at_word hW hc (show 4 < w.length by omega)
    have u4 : (4 : Int) < (w.length : Int) := by omega
    obtain ⟨xl, gl, yl, ll⟩ := at_word hW hc (show w.length - 1 < w.length by omega)
    have e2 : ((w.length : Int) == 2) = false := by simp; omega
    have e3 : ((w.length : Int) == 3) = false := by simp; omega
    have e4 : (2 : Int) ≤ (w.length : Int) := by omega
    have e5 : (2 : Int) < (w.length : Int) := by omega
    have e6 : (5 : Int) ≤ (w.length : Int) := by omega
    have e7 : ¬ (8 : Int) ≤ (w.length : Int) := by omega
    have n3 : ¬ (w.length = 2 ∧ (w.getD 0 [] == [110, 111]) = true) := fun h => by have := h.1; omega
    have n4 : ¬ (w.length = 3 ∧ (w.getD 2 [] == [101, 120, 105, 115, 116, 115]) = true) := fun h => by have := h.1; omega
    have n5 : ¬ (w.length = 3 ∧ (w.getD 2 [] == [101, 120, 112, 117, 110, 103, 101]) = true) := fun h => by have := h.1; omega
    cases t6 : (x1 == [118, 97, 110, 105, 115, 104, 101, 100]) with
    | true =>
      simp only [hc, hW, c1, c2, wn, v1, v2, gl, ll, e2, e3, e4, e5, e6, e7, g0, g1, g2, g4, u0, u1, u2, u4, l0, l1, l2, l4, t6, q1, go_sem]
      repeat' ((first | apply qa | apply qb | apply qc | apply qd | apply qe | apply qf | apply qg | apply qh | apply qi | apply qj | apply qk) <;> intro hp <;> simp only [hp, hc, hW, c1, c2, wn, v1, v2, gl, ll, e2, e3, e4, e5, e6, e7, g0, g1, g2, g4, u0, u1, u2, u4, l0, l1, l2, l4, t6, q1, go_sem])
      simp only [fin_mk, finV, resL, resV1, resIn, endA, listIn, Option.some_or, Option.none_or, oneOrTup, go_sem]
      rw [← hr]
      rw [guessW, if_neg n1, if_neg n2, if_neg n3, if_neg n4, if_neg n5, if_pos ⟨by omega, by rw [y1]; exact t6⟩, lastW, yl]; rfl
    | false =>
    have n6 : ¬ (2 ≤ w.length ∧ (w.getD 1 [] == [118, 97, 110, 105, 115, 104, 101, 100]) = true) := by rw [y1, t6]; simp
    cases t7 : (x1 == [115, 101, 97, 114, 99, 104]) with
    | true =>
      simp only [hc, hW, c1, c2, wn, v1, v2, gl, ll, e2, e3, e4, e5, e6, e7, g0, g1, g2, g4, u0, u1, u2, u4, l0, l1, l2, l4, t6, t7, q1, go_sem]
      repeat' ((first | apply qa | apply qb | apply qc | apply qd | apply qe | apply qf | apply qg | apply qh | apply qi | apply qj | apply qk) <;> intro hp <;> simp only [hp, hc, hW, c1, c2, wn, v1, v2, gl, ll, e2, e3, e4, e5, e6, e7, g0, g1, g2, g4, u0, u1, u2, u4, l0, l1, l2, l4, t6, t7, q1, go_sem])
      simp only [fin_mk, finV, resL, resV1, resIn, endA, listIn, Option.some_or, Option.none_or, oneOrTup, go_sem]
      rw [← hr]
      rw [guessW, if_neg n1, if_neg n2, if_neg n3, if_neg n4, if_neg n5, if_neg n6, if_pos ⟨by omega, by rw [y1]; exact t7⟩, if_pos (by omega), lastW, yl]; rfl
    | false =>
    have n7 : ¬ (2 ≤ w.length ∧ (w.getD 1 [] == [115, 101, 97, 114, 99, 104]) = true) := by rw [y1, t7]; simp
    cases t8 : (x1 == [118, 97, 108, 105, 100]) with
    | true =>
      by_cases h5 : 5 < w.length
      · have h5' : (5 : Int) < (w.length : Int) := by omega
        simp only [hc, hW, c1, c2, wn, v1, v2, gl, ll, e2, e3, e4, e5, e6, e7, g0, g1, g2, g4, u0, u1, u2, u4, l0, l1, l2, l4, t6, t7, t8, h5', go_sem]
        repeat' ((first | apply qa | apply qb | apply qc | apply qd | apply qe | apply qf | apply qg | apply qh | apply qi | apply qj | apply qk) <;> intro hp <;> simp only [hp, hc, hW, c1, c2, wn, v1, v2, gl, ll, e2, e3, e4, e5, e6, e7, g0, g1, g2, g4, u0, u1, u2, u4, l0, l1, l2, l4, t6, t7, t8, h5', go_sem])
        simp only [fin_mk, finV, resL, resV1, resIn, endA, listIn, Option.some_or, Option.none_or, oneOrTup, go_sem]
        rw [← hr]
        rw [guessW, if_neg n1, if_neg n2, if_neg n3, if_neg n4, if_neg n5, if_neg n6, if_neg n7, if_pos ⟨by omega, by rw [y1]; exact t8⟩, y2, y4, decide_eq_true h5]; rfl
      · have h5' : ¬ (5 : Int) < (w.length : Int) := by omega
        simp only [hc, hW, c1, c2, wn, v1, v2, gl, ll, e2, e3, e4, e5, e6, e7, g0, g1, g2, g4, u0, u1, u2, u4, l0, l1, l2, l4, t6, t7, t8, h5', go_sem]
        repeat' ((first | apply qa | apply qb | apply qc | apply qd | apply qe | apply qf | apply qg | apply qh | apply qi | apply qj | apply qk) <;> intro hp <;> simp only [hp, hc, hW, c1, c2, wn, v1, v2, gl, ll, e2, e3, e4, e5, e6, e7, g0, g1, g2, g4, u0, u1, u2, u4, l0, l1, l2, l4, t6, t7, t8, h5', go_sem])
        simp only [fin_mk, finV, resL, resV1, resIn, endA, listIn, Option.some_or, Option.none_or, oneOrTup, go_sem]
        rw [← hr]
        rw [guessW, if_neg n1, if_neg n2, if_neg n3, if_neg n4, if_neg n5, if_neg n6, if_neg n7, if_pos ⟨by omega, by rw [y1]; exact t8⟩, y2, y4, decide_eq_false h5]; rfl
    | false =>
    have n8 : ¬ (5 ≤ w.length ∧ (w.getD 1 [] == [118, 97, 108, 105, 100]) = true) := by rw [y1, t8]; simp
    have n9 : ¬ (8 ≤ w.length ∧ (w.getD 2 [] == [102, 101, 116, 99, 104]) = true) := fun h => by have := h.1; omega
    simp only [hc, hW, c1, c2, wn, v1, v2, gl, ll, e2, e3, e4, e5, e6, e7, g0, g1, g2, g4, u0, u1, u2, u4, l0, l1, l2, l4, t6, t7, t8, go_sem]
    repeat' ((first | apply qa | apply qb | apply qc | apply qd | apply qe | apply qf | apply qg | apply qh | apply qi | apply qj | apply qk) <;> intro hp <;> simp only [hp, hc, hW, c1, c2, wn, v1, v2, gl, ll, e2, e3, e4, e5, e6, e7, g0, g1, g2, g4, u0, u1, u2, u4, l0, l1, l2, l4, t6, t7, t8, go_sem])
    simp only [fin_mk, finV, resL, resV1, resIn, endA, listIn, Option.some_or, Option.none_or, oneOrTup, go_sem]
    rw [← hr]
    rw [guessW, if_neg n1, if_neg n2, if_neg n3, if_neg n4, if_neg n5, if_neg n6, if_neg n7, if_neg n8, if_neg n9]; rfl
  · -- eight
    obtain ⟨x0, g0, y0, l0⟩ := at_word hW hc (show 0 < w.length by omega)
    have u0 : (0 : Int) < (w.length : Int) := by omega
    obtain ⟨x1, g1, y1, l1⟩ := at_word hW hc (show 1 < w.length by omega)
    have u1 : (1 : Int) < (w.length : Int) := by omega
    obtain ⟨x2, g2, y2, l2⟩ := at_word hW hc (show 2 < w.length by omega)
    have u2 : (2 : Int) < (w.length : Int) := by omega
    obtain ⟨x4, g4, y4, l4⟩ := at_word hW hc (show 4 < w.length by omega)
    have u4 : (4 : Int) < (w.length : Int) := by omega
    obtain ⟨x6, g6, y6, l6⟩ := at_word hW hc (show 6 < w.length by omega)
    have u6 : (6 : Int) < (w.length : Int) := by omega
    obtain ⟨xl, gl, yl, ll⟩ := at_word hW hc (show w.length - 1 < w.length by omega)
    have e2 : ((w.length : Int) == 2) = false := by simp; omega
    have e3 : ((w.length : Int) == 3) = false := by simp; omega
    have e4 : (2 : Int) ≤ (w.length : Int) := by omega
    have e5 : (2 : Int) < (w.length : Int) := by omega
    have e6 : (5 : Int) ≤ (w.length : Int) := by omega
    have e7 : (8 : Int) ≤ (w.length : Int) := by omega
    have n3 : ¬ (w.length = 2 ∧ (w.getD 0 [] == [110, 111]) = true) := fun h => by have := h.1; omega
    have n4 : ¬ (w.length = 3 ∧ (w.getD 2 [] == [101, 120, 105, 115, 116, 115]) = true) := fun h => by have := h.1; omega
    have n5 : ¬ (w.length = 3 ∧ (w.getD 2 [] == [101, 120, 112, 117, 110, 103, 101]) = true) := fun h => by have := h.1; omega
    cases t6 : (x1 == [118, 97, 110, 105, 115, 104, 101, 100]) with
    | true =>
      simp only [hc, hW, c1, c2, wn, v1, v2, gl, ll, e2, e3, e4, e5, e6, e7, g0, g1, g2, g4, g6, u0, u1, u2, u4, u6, l0, l1, l2, l4, l6, t6, q1, go_sem]
      repeat' ((first | apply qa | apply qb | apply qc | apply qd | apply qe | apply qf | apply qg | apply qh | apply qi | apply qj | apply qk) <;> intro hp <;> simp only [hp, hc, hW, c1, c2, wn, v1, v2, gl, ll, e2, e3, e4, e5, e6, e7, g0, g1, g2, g4, g6, u0, u1, u2, u4, u6, l0, l1, l2, l4, l6, t6, q1, go_sem])
      simp only [fin_mk, finV, resL, resV1, resIn, endA, listIn, Option.some_or, Option.none_or, oneOrTup, go_sem]
      rw [← hr]
      rw [guessW, if_neg n1, if_neg n2, if_neg n3, if_neg n4, if_neg n5, if_pos ⟨by omega, by rw [y1]; exact t6⟩, lastW, yl]; rfl
    | false =>
    have n6 : ¬ (2 ≤ w.length ∧ (w.getD 1 [] == [118, 97, 110, 105, 115, 104, 101, 100]) = true) := by rw [y1, t6]; simp
    cases t7 : (x1 == [115, 101, 97, 114, 99, 104]) with
    | true =>
      simp only [hc, hW, c1, c2, wn, v1, v2, gl, ll, e2, e3, e4, e5, e6, e7, g0, g1, g2, g4, g6, u0, u1, u2, u4, u6, l0, l1, l2, l4, l6, t6, t7, q1, go_sem]
      repeat' ((first | apply qa | apply qb | apply qc | apply qd | apply qe | apply qf | apply qg | apply qh | apply qi | apply qj | apply qk) <;> intro hp <;> simp only [hp, hc, hW, c1, c2, wn, v1, v2, gl, ll, e2, e3, e4, e5, e6, e7, g0, g1, g2, g4, g6, u0, u1, u2, u4, u6, l0, l1, l2, l4, l6, t6, t7, q1, go_sem])
      simp only [fin_mk, finV, resL, resV1, resIn, endA, listIn, Option.some_or, Option.none_or, oneOrTup, go_sem]
      rw [← hr]
      rw [guessW, if_neg n1, if_neg n2, if_neg n3, if_neg n4, if_neg n5, if_neg n6, if_pos ⟨by omega, by rw [y1]; exact t7⟩, if_pos (by omega), lastW, yl]; rfl
    | false =>
    have n7 : ¬ (2 ≤ w.length ∧ (w.getD 1 [] == [115, 101, 97, 114, 99, 104]) = true) := by rw [y1, t7]; simp
    cases t8 : (x1 == [118, 97, 108, 105, 100]) with
    | true =>
      by_cases h5 : 5 < w.length
      · have h5' : (5 : Int) < (w.length : Int) := by omega
        simp only [hc, hW, c1, c2, wn, v1, v2, gl, ll, e2, e3, e4, e5, e6, e7, g0, g1, g2, g4, g6, u0, u1, u2, u4, u6, l0, l1, l2, l4, l6, t6, t7, t8, h5', go_sem]
        repeat' ((first | apply qa | apply qb | apply qc | apply qd | apply qe | apply qf | apply qg | apply qh | apply qi | apply qj | apply qk) <;> intro hp <;> simp only [hp, hc, hW, c1, c2, wn, v1, v2, gl, ll, e2, e3, e4, e5, e6, e7, g0, g1, g2, g4, g6, u0, u1, u2, u4, u6, l0, l1, l2, l4, l6, t6, t7, t8, h5', go_sem])
        simp only [fin_mk, finV, resL, resV1, resIn, endA, listIn, Option.some_or, Option.none_or, oneOrTup, go_sem]
        rw [← hr]
        rw [guessW, if_neg n1, if_neg n2, if_neg n3, if_neg n4, if_neg n5, if_neg n6, if_neg n7, if_pos ⟨by omega, by rw [y1]; exact t8⟩, y2, y4, decide_eq_true h5]; rfl
      · have h5' : ¬ (5 : Int) < (w.length : Int) := by omega
        simp only [hc, hW, c1, c2, wn, v1, v2, gl, ll, e2, e3, e4, e5, e6, e7, g0, g1, g2, g4, g6, u0, u1, u2, u4, u6, l0, l1, l2, l4, l6, t6, t7, t8, h5', go_sem]
        repeat' ((first | apply qa | apply qb | apply qc | apply qd | apply qe | apply qf | apply qg | apply qh | apply qi | apply qj | apply qk) <;> intro hp <;> simp only [hp, hc, hW, c1, c2, wn, v1, v2, gl, ll, e2, e3, e4, e5, e6, e7, g0, g1, g2, g4, g6, u0, u1, u2, u4, u6, l0, l1, l2, l4, l6, t6, t7, t8, h5', go_sem])
        simp only [fin_mk, finV, resL, resV1, resIn, endA, listIn, Option.some_or, Option.none_or, oneOrTup, go_sem]
        rw [← hr]
        rw [guessW, if_neg n1, if_neg n2, if_neg n3, if_neg n4, if_neg n5, if_neg n6, if_neg n7, if_pos ⟨by omega, by rw [y1]; exact t8⟩, y2, y4, decide_eq_false h5]; rfl
    | false =>
    have n8 : ¬ (5 ≤ w.length ∧ (w.getD 1 [] == [118, 97, 108, 105, 100]) = true) := by rw [y1, t8]; simp
    cases t9 : (x2 == [102, 101, 116, 99, 104]) with
    | true =>
      have hfl := flagsW_len hW (by omega)
      have hfl2 : (flagsW w).length ≤ 4194304 := by omega
      have e9 : guessW t w = ⟨3, decN x1, decN x4, (readFl (flagsW w)).getD 0, (if 1 < xl.length then decN (xl.take (xl.length - 1)) else 0), [], false⟩ := by rw [guessW, if_neg n1, if_neg n2, if_neg n3, if_neg n4, if_neg n5, if_neg n6, if_neg n7, if_neg n8, if_pos ⟨by omega, by rw [y2]; exact t9⟩, y4, lastW, yl, y1]
      rw [e9] at hr
      simp only [hc, hW, c1, c2, wn, v1, v2, gl, ll, e2, e3, e4, e5, e6, e7, g0, g1, g2, g4, g6, u0, u1, u2, u4, u6, l0, l1, l2, l4, l6, t6, t7, t8, t9, go_sem]
      repeat' ((first | apply qa | apply qb | apply qc | apply qd | apply qe | apply qf | apply qg | apply qh | apply qi | apply qj | apply qk) <;> intro hp <;> simp only [hp, hc, hW, c1, c2, wn, v1, v2, gl, ll, e2, e3, e4, e5, e6, e7, g0, g1, g2, g4, g6, u0, u1, u2, u4, u6, l0, l1, l2, l4, l6, t6, t7, t8, t9, go_sem])
      refine loop_go (fun p : Nat × List UInt8 => [(6, .str p.2), (7, .int .i64 (p.1 : Int))]) (fun _ => []) (fun p => w.length - p.1) (fun p => 7 ≤ p.1 ∧ p.1 + 1 ≤ w.length ∧ ((w.drop p.1).take (w.length - 2 - p.1)).foldl flF p.2 = flagsW w) (7, x6) ⟨Nat.le_refl _, by simp only; omega, by simp only; rw [flagsW, y6, show w.length - 2 - 7 = w.length - 9 by omega]⟩ rfl rfl ?_
      rintro ⟨i, a⟩ ⟨hi7, hi1, he⟩ ih
      simp only at hi7 hi1 he ih
      have gi : (0 : Int) ≤ i := by omega
      have wi2 : IntKind.i64.wrap ((i : Int) + 2) = ((i + 2 : Nat) : Int) := (wrap64 (by omega) (by omega)).trans (by omega)
      have wi1 : IntKind.i64.wrap ((i : Int) + 1) = ((i + 1 : Nat) : Int) := (wrap64 (by omega) (by omega)).trans (by omega)
      by_cases hlt : i + 2 < w.length
      · have m1 : ((i + 2 : Nat) : Int) < w.length := by omega
        have m2 : (i : Int) < w.length := by omega
        obtain ⟨z, gz, yz, lz⟩ := at_word hW hc (show i < w.length by omega)
        have hz : w[i] = z := by rw [List.getElem?_eq_getElem (by omega)] at gz; exact Option.some.inj gz
        have hd : (w.drop i).take (w.length - 2 - i) = z :: (w.drop (i + 1)).take (w.length - 2 - (i + 1)) := by
          rw [List.drop_eq_getElem_cons (show i < w.length by omega), hz, show w.length - 2 - i = (w.length - 2 - (i + 1)) + 1 by omega, List.take_succ_cons]
        rw [hd, List.foldl_cons] at he
        have al : a.length ≤ 4194304 := by
          have := congrArg List.length he
          rw [flF_len, flF] at this
          simp only [List.length_append] at this; omega
        have o1 : a.length ≤ 9223372036854775806 := by omega
        have o2 : (a ++ [32]).length + z.length ≤ 9223372036854775807 := by simp only [List.length_append, List.length_cons, List.length_nil]; omega
        have ih' := ih (i + 1, flF a z) ⟨by simp only; omega, by simp only; omega, he⟩ (by simp only; omega)
        simp only [flF] at ih'
        clear ih
        simp only [gi, wi1, wi2, m1, m2, gz, o1, o2, go_sem]
        repeat' ((first | apply qa | apply qb | apply qc | apply qd | apply qe | apply qf | apply qg | apply qh | apply qi | apply qj | apply qk) <;> intro hp <;> simp only [hp, gi, wi1, wi2, m1, m2, gz, o1, o2, go_sem])
        exact ih'
      have m1 : ¬ ((i + 2 : Nat) : Int) < w.length := by omega
      have e0 : w.length - 2 - i = 0 := by omega
      rw [e0, List.take_zero, List.foldl_nil] at he
      clear ih
      rw [← he] at hfl2 hr
      by_cases hl1 : 1 < xl.length
      · have p1 : (1 : Int) < (xl.length : Int) := by omega
        have p2 : IntKind.i64.wrap ((xl.length : Int) - 1) = ((xl.length - 1 : Nat) : Int) := (wrap64 (by omega) (by omega)).trans (by omega)
        have p3 : (0 : Int) ≤ ((xl.length - 1 : Nat) : Int) := by omega
        have p4 : ((xl.length - 1 : Nat) : Int) ≤ xl.length := by omega
        have p5 : xl.length - 1 ≤ xl.length := by omega
        have p6 : (xl.take (xl.length - 1)).length ≤ 4194304 := by rw [List.length_take]; omega
        rw [if_pos hl1] at hr
        simp only [gi, wi2, m1, hfl2, wn, v1, v2, gl, ll, p1, p2, p3, p4, p5, p6, Int.toNat_natCast, List.drop_zero, Nat.zero_le, go_sem]
        repeat' ((first | apply qa | apply qb | apply qc | apply qd | apply qe | apply qf | apply qg | apply qh | apply qi | apply qj | apply qk) <;> intro hp <;> simp only [hp, gi, wi2, m1, hfl2, wn, v1, v2, gl, ll, p1, p2, p3, p4, p5, p6, Int.toNat_natCast, List.drop_zero, Nat.zero_le, go_sem])
        simp only [fin_mk, finV, resL, resV1, resIn, endA, listIn, Option.some_or, Option.none_or, oneOrTup, go_sem]
        rw [← hr]
        try rfl
      · have p1 : ¬ (1 : Int) < (xl.length : Int) := by omega
        rw [if_neg hl1] at hr
        simp only [gi, wi2, m1, hfl2, wn, v1, v2, gl, ll, p1, go_sem]
        repeat' ((first | apply qa | apply qb | apply qc | apply qd | apply qe | apply qf | apply qg | apply qh | apply qi | apply qj | apply qk) <;> intro hp <;> simp only [hp, gi, wi2, m1, hfl2, wn, v1, v2, gl, ll, p1, go_sem])
        simp only [fin_mk, finV, resL, resV1, resIn, endA, listIn, Option.some_or, Option.none_or, oneOrTup, go_sem]
        rw [← hr]
        try rfl
    | false =>
    have n9 : ¬ (8 ≤ w.length ∧ (w.getD 2 [] == [102, 101, 116, 99, 104]) = true) := by rw [y2, t9]; simp
    simp only [hc, hW, c1, c2, wn, v1, v2, gl, ll, e2, e3, e4, e5, e6, e7, g0, g1, g2, g4, g6, u0, u1, u2, u4, u6, l0, l1, l2, l4, l6, t6, t7, t8, t9, go_sem]
    repeat' ((first | apply qa | apply qb | apply qc | apply qd | apply qe | apply qf | apply qg | apply qh | apply qi | apply qj | apply qk) <;> intro hp <;> simp only [hp, hc, hW, c1, c2, wn, v1, v2, gl, ll, e2, e3, e4, e5, e6, e7, g0, g1, g2, g4, g6, u0, u1, u2, u4, u6, l0, l1, l2, l4, l6, t6, t7, t8, t9, go_sem])
    simp only [fin_mk, finV, resL, resV1, resIn, endA, listIn, Option.some_or, Option.none_or, oneOrTup, go_sem]
    rw [← hr]
    rw [guessW, if_neg n1, if_neg n2, if_neg n3, if_neg n4, if_neg n5, if_neg n6, if_neg n7, if_neg n8, if_neg n9]; rfl
end Go.Proofs.YtonjbbfgdloljaaGreatDoor.L

namespace Go.Proofs.YtonjbbfgdloljaaGreatDoor.L
open Go Go.VM
set_option maxRecDepth 100000
set_option maxHeartbeats 4000000
set_option linter.unusedSimpArgs false
set_option linter.unusedVariables false
theorem cut_gen {d sep r : List UInt8} (h : ∀ j, j < d.length → sep.isPrefixOf ((d ++ (sep ++ r)).drop j) = false) : cut1 (d ++ (sep ++ r)) sep = d ∧ cut2 (d ++ (sep ++ r)) sep = r := by
  have hp : sep.isPrefixOf (sep ++ r) = true := List.isPrefixOf_iff_prefix.2 (List.prefix_append _ _)
  have hi : Lib.index (d ++ (sep ++ r)) sep = d.length := Lib.index_first (by simp) (by rw [Lib.occAt, List.drop_left]; exact hp) h
  have hb : cutB (d ++ (sep ++ r)) sep = true := by rw [cutB, hi]; simp
  refine ⟨?_, ?_⟩
  · rw [cut1, if_pos hb, hi, Int.toNat_natCast, List.take_left]
  · rw [cut2, if_pos hb, hi, Int.toNat_natCast, ← List.append_assoc, show d.length + sep.length = (d ++ sep).length by simp, List.drop_left]
theorem cut_sp {d s r : List UInt8} (h : ∀ x ∈ d, notB 32 x = true) : cut1 (d ++ ((32 :: s) ++ r)) (32 :: s) = d ∧ cut2 (d ++ ((32 :: s) ++ r)) (32 :: s) = r := by
  refine cut_gen fun j hj => ?_
  rw [List.drop_append_of_le_length (by omega), List.drop_eq_getElem_cons hj, List.cons_append]
  have := h _ (List.getElem_mem hj)
  simp only [notB, bne_iff_ne, ne_eq] at this
  simp only [List.isPrefixOf, Bool.and_eq_false_iff, beq_eq_false_iff_ne]
  exact .inl fun e => this e.symm
theorem pre_long {p a r : List UInt8} (h : p.length ≤ a.length) : p.isPrefixOf (a ++ r) = p.isPrefixOf a := by
  rw [isPrefixOf_take, isPrefixOf_take, List.take_append_of_le_length h]
theorem flags_free : ∀ f : Fin 32, ((List.range (flagsText (f.val : Int)).length).all fun j => !(([32, 109, 111, 100, 115, 101, 113, 32] : List UInt8).isPrefixOf ((flagsText (f.val : Int) ++ [32, 109, 111, 100, 115, 101, 113, 32]).drop j))) = true := by decide +kernel
theorem cut_flags {f : Int} (h0 : 0 ≤ f) (h1 : f ≤ 31) (r : List UInt8) : cut1 (flagsText f ++ ([32, 109, 111, 100, 115, 101, 113, 32] ++ r)) [32, 109, 111, 100, 115, 101, 113, 32] = flagsText f ∧ cut2 (flagsText f ++ ([32, 109, 111, 100, 115, 101, 113, 32] ++ r)) [32, 109, 111, 100, 115, 101, 113, 32] = r := by
  obtain ⟨n, rfl⟩ : ∃ n : Nat, f = n := ⟨f.toNat, by omega⟩
  refine cut_gen fun j hj => ?_
  have := flags_free ⟨n, by omega⟩
  rw [List.all_eq_true] at this
  have h2 := this j (List.mem_range.2 hj)
  rw [← List.append_assoc, List.drop_append_of_le_length (by rw [List.length_append]; omega), pre_long (by rw [List.length_drop, List.length_append]; omega)]
  simpa using h2
theorem flags_back : ∀ f : Fin 32, readFl (flagsText (f.val : Int)) = some (f.val : Int) := by decide +kernel
theorem flags_read {f : Int} (h0 : 0 ≤ f) (h1 : f ≤ 31) : (readFl (flagsText f)).getD 0 = f := by
  obtain ⟨n, rfl⟩ : ∃ n : Nat, f = n := ⟨f.toNat, by omega⟩
  rw [flags_back ⟨n, by omega⟩]; rfl
theorem fig {n : Int} (h : 0 ≤ n) : ∃ c m, Lib.itoa n = c :: m ∧ 48 ≤ c.toNat ∧ c.toNat ≤ 57 := by
  have h1 := itoa_ne h
  obtain ⟨h2, _⟩ := itoa_read h
  cases hq : Lib.itoa n with
  | nil => exact absurd hq h1
  | cons c m =>
    rw [hq, List.all_cons, Bool.and_eq_true] at h2
    have := digB_iff h2.1
    exact ⟨c, m, rfl, by omega, by omega⟩
theorem fig_no {n : Int} (h : 0 ≤ n) : ∀ x ∈ Lib.itoa n, notB 32 x = true := dig_no (itoa_read h).1 32 (by decide)
theorem fig_ne {n : Int} (h : 0 ≤ n) (r : List UInt8) {c : UInt8} {l : List UInt8} (hc : 57 < c.toNat) : (Lib.itoa n ++ r == c :: l) = false := by
  obtain ⟨d, m, e, h1, h2⟩ := fig h
  rw [e, beq_eq_false_iff_ne, List.cons_append]
  intro h3
  have := (List.cons.inj h3).1
  rw [this] at h2; omega
theorem fig_ne' {n : Int} (h : 0 ≤ n) {c : UInt8} {l : List UInt8} (hc : 57 < c.toNat) : (Lib.itoa n == c :: l) = false := by
  have := fig_ne h [] (l := l) hc
  rwa [List.append_nil] at this
theorem cutP_pre (p r : List UInt8) : p.isPrefixOf (p ++ r) = true ∧ cutPrefix (p ++ r) p = r := by
  have hp : p.isPrefixOf (p ++ r) = true := List.isPrefixOf_iff_prefix.2 (List.prefix_append _ _)
  exact ⟨hp, by rw [cutPrefix, if_pos hp, List.drop_left]⟩
theorem cutSuf_app (a t : List UInt8) : sufB (a ++ t) t = true ∧ cutSuf (a ++ t) t = a := by
  have h : sufB (a ++ t) t = true := by
    rw [sufB, decide_eq_true (by simp), Bool.true_and, List.length_append, Nat.add_sub_cancel, List.drop_left, beq_self_eq_true]
  exact ⟨h, by rw [cutSuf, if_pos h, List.length_append, Nat.add_sub_cancel, List.take_left]⟩
theorem suf_fig {n : Int} (h : 0 ≤ n) (a : List UInt8) : sufB (a ++ Lib.itoa n) [32, 97, 108, 108] = false := by
  cases hs : sufB (a ++ Lib.itoa n) [32, 97, 108, 108] with
  | false => rfl
  | true =>
    simp only [sufB, Bool.and_eq_true, decide_eq_true_eq, beq_iff_eq] at hs
    obtain ⟨h1, h2⟩ := hs
    have h3 : (a ++ Lib.itoa n).getLast? = some 108 := by
      rw [← List.take_append_drop ((a ++ Lib.itoa n).length - ([32, 97, 108, 108] : List UInt8).length) (a ++ Lib.itoa n), h2, List.getLast?_append]; rfl
    have h4 := itoa_ne h
    have h5 : (a ++ Lib.itoa n).getLast? = (Lib.itoa n).getLast? := by
      rw [List.getLast?_append]
      cases hq : (Lib.itoa n).getLast? with
      | none => rw [List.getLast?_eq_none_iff] at hq; exact absurd hq h4
      | some x => rfl
    rw [h5] at h3
    have h6 := List.all_eq_true.1 (itoa_read h).1 108 (List.mem_of_getLast? h3)
    revert h6; decide
theorem setText_chars {S : List Range} : ∀ x ∈ setText S, digB x = true ∨ x = 58 ∨ x = 44 := by
  unfold setText
  split
  · rename_i hs
    intro x h
    have jm : ∀ {l : List (List UInt8)}, x ∈ Lib.join l [44] → x ∈ ([44] : List UInt8) ∨ ∃ y ∈ l, x ∈ y := by
      intro l
      cases l with
      | nil => intro h; simp [Lib.join_nil] at h
      | cons y l =>
        intro h
        rw [Lib.join_cons, List.mem_append] at h
        rcases h with h | h
        · exact .inr ⟨y, by simp, h⟩
        · simp only [Lib.joinTail, List.mem_flatten, List.mem_map] at h
          obtain ⟨z, ⟨w, hw, rfl⟩, hx⟩ := h
          rcases List.mem_append.1 hx with hx | hx
          · exact .inl hx
          · exact .inr ⟨w, by simp [hw], hx⟩
    rcases jm h with h | ⟨y, hy, h⟩
    · simp only [List.mem_singleton] at h; exact .inr (.inr h)
    · obtain ⟨r, hr, rfl⟩ := List.mem_map.1 hy
      obtain ⟨i, hi, rfl⟩ := List.mem_iff_getElem.1 hr
      have hb := setOk_at hs hi
      have h1 := (itoa_read (n := S[i].Lo) (by omega)).1
      have h2 := (itoa_read (n := S[i].Hi) (by omega)).1
      unfold partOf at h
      split at h
      · rw [List.mem_append, List.mem_cons] at h
        rcases h with h | h | h
        · exact .inl (List.all_eq_true.1 h1 x h)
        · exact .inr (.inl h)
        · exact .inl (List.all_eq_true.1 h2 x h)
      · exact .inl (List.all_eq_true.1 h1 x h)
  · intro x h; simp at h
theorem set_no (S : List Range) : ∀ x ∈ setText S, notB 32 x = true := by
  intro x hx
  rw [notB, bne_iff_ne]
  rintro rfl
  rcases setText_chars 32 hx with h | h | h <;> revert h <;> decide
theorem set_ne (S : List Range) {c : UInt8} {l : List UInt8} (hc : 58 < c.toNat) : (setText S == c :: l) = false := by
  rw [beq_eq_false_iff_ne]
  intro e
  rcases setText_chars (S := S) c (by rw [e]; simp) with h | h | h
  · have := digB_iff h; omega
  · subst h; revert hc; decide
  · subst h; revert hc; decide
theorem split_sp : ∀ (a r : List UInt8), splitOn 32 (a ++ 32 :: r) = splitOn 32 a ++ splitOn 32 r
  | [], r => rfl
  | b :: a, r => by
    rw [List.cons_append, splitOn, splitOn, split_sp a r]
    split
    · rfl
    · have := splitOn_ne 32 a
      cases hq : splitOn 32 a with
      | nil => exact absurd hq this
      | cons h t => rfl
theorem split_no {a : List UInt8} (h : ∀ x ∈ a, notB 32 x = true) (r : List UInt8) : splitOn 32 (a ++ 32 :: r) = a :: splitOn 32 r := by
  rw [split_sp, splitOn_none h]; rfl
theorem join_words : ∀ (s : List UInt8), ∃ h l, splitOn 32 s = h :: l ∧ l.foldl flF h = s
  | [] => ⟨[], [], rfl, rfl⟩
  | b :: s => by
    have shift : ∀ (l : List (List UInt8)) (a c : List UInt8), l.foldl flF (a ++ c) = a ++ l.foldl flF c := by
      intro l
      induction l with
      | nil => intro a c; rfl
      | cons x l ih => intro a c; rw [List.foldl_cons, List.foldl_cons, flF, List.append_assoc, List.append_assoc, ih, flF, List.append_assoc]
    obtain ⟨h, l, h1, h2⟩ := join_words s
    rw [splitOn, h1]
    by_cases hb : b = 32
    · rw [if_pos hb]
      refine ⟨[], h :: l, rfl, ?_⟩
      rw [List.foldl_cons, flF, List.nil_append, shift, h2, hb]; rfl
    · rw [if_neg hb]
      refine ⟨b :: h, l, rfl, ?_⟩
      have := shift l [b] h
      rw [List.singleton_append] at this
      rw [this, h2]; rfl
theorem ne_head {a c : UInt8} {l m : List UInt8} (h : a ≠ c) : (a :: l == c :: m) = false := by
  rw [beq_eq_false_iff_ne]; intro e; exact h (List.cons.inj e).1
theorem lineOf_star (r : List UInt8) : lineOfV ([42, 32] ++ r) =
    if (r == [115, 101, 97, 114, 99, 104]) = true then ⟨6, 0, 0, 0, 0, [], false⟩
    else if (cut1 r [32] == [115, 101, 97, 114, 99, 104]) = true then ⟨6, 0, 0, 0, 0, readSet (cut2 r [32]) 9999, false⟩
    else if (cut1 r [32] == [118, 97, 110, 105, 115, 104, 101, 100]) = true then ⟨4, 0, 0, 0, 0, readSet (cut2 r [32]) 9999, false⟩
    else if (cut1 r [32] == [118, 97, 108, 105, 100]) = true then validV (cut2 r [32])
    else numbV r := by
  obtain ⟨h1, h2⟩ := cutP_pre [42, 32] r
  have c1 : ([42, 32] ++ r == [111, 107]) = false := ne_head (by decide)
  have c2 : ([42, 32] ++ r == [98, 121, 101]) = false := ne_head (by decide)
  have c3 : ([110, 111, 32] : List UInt8).isPrefixOf ([42, 32] ++ r) = false := rfl
  rw [lineOfV, c1, c2, c3, h1, h2]
  rfl
theorem numb_cut {n : Int} (h : 0 ≤ n) (r : List UInt8) : cut1 (Lib.itoa n ++ (32 :: r)) [32] = Lib.itoa n ∧ cut2 (Lib.itoa n ++ (32 :: r)) [32] = r := cut_sp (s := []) (fig_no h)
theorem lineOf_numb {n : Int} (h : 0 ≤ n) (r : List UInt8) : lineOfV ([42, 32] ++ (Lib.itoa n ++ (32 :: r))) = numbV (Lib.itoa n ++ (32 :: r)) := by
  obtain ⟨k1, _⟩ := numb_cut h r
  rw [lineOf_star, k1, fig_ne h _ (by decide), fig_ne' h (by decide), fig_ne' h (by decide), fig_ne' h (by decide)]
  rfl
theorem back1 {n : Int} (h0 : 0 ≤ n) (h : n ≤ 1000000000) : lineOfV (tStar ++ (Lib.itoa n ++ tExists)) = ⟨1, n, 0, 0, 0, [], false⟩ := by
  have := lineOf_numb h0 [101, 120, 105, 115, 116, 115]
  obtain ⟨k1, k2⟩ := numb_cut h0 [101, 120, 105, 115, 116, 115]
  rw [show tStar = [42, 32] from rfl, show tExists = 32 :: [101, 120, 105, 115, 116, 115] from rfl, this, numbV, k1, k2, (dec_back h0 h).2]
  rfl
theorem back2 {n : Int} (h0 : 0 ≤ n) (h : n ≤ 1000000000) : lineOfV (tStar ++ (Lib.itoa n ++ tExpunge)) = ⟨2, n, 0, 0, 0, [], false⟩ := by
  have := lineOf_numb h0 [101, 120, 112, 117, 110, 103, 101]
  obtain ⟨k1, k2⟩ := numb_cut h0 [101, 120, 112, 117, 110, 103, 101]
  rw [show tStar = [42, 32] from rfl, show tExpunge = 32 :: [101, 120, 112, 117, 110, 103, 101] from rfl, this, numbV, k1, k2, (dec_back h0 h).2]
  rfl
theorem back3 {n u f m : Int} (hn : 0 ≤ n ∧ n ≤ 1000000000) (hu : 0 ≤ u ∧ u ≤ 1000000000) (hf : 0 ≤ f ∧ f ≤ 31) (hm : 0 ≤ m ∧ m ≤ 1000000000) :
    lineOfV (tStar ++ (Lib.itoa n ++ (tFetch ++ (Lib.itoa u ++ (tFlags ++ (flagsText f ++ (tMod ++ (Lib.itoa m ++ [41])))))))) = ⟨3, n, u, f, m, [], false⟩ := by
  have e : tFetch ++ (Lib.itoa u ++ (tFlags ++ (flagsText f ++ (tMod ++ (Lib.itoa m ++ [41]))))) = 32 :: ([102, 101, 116, 99, 104, 32, 40, 117, 105, 100, 32] ++ (Lib.itoa u ++ ([32, 102, 108, 97, 103, 115, 32] ++ (flagsText f ++ ([32, 109, 111, 100, 115, 101, 113, 32] ++ (Lib.itoa m ++ [41])))))) := rfl
  rw [e, show tStar = [42, 32] from rfl, lineOf_numb hn.1, numbV]
  obtain ⟨k1, k2⟩ := numb_cut hn.1 ([102, 101, 116, 99, 104, 32, 40, 117, 105, 100, 32] ++ (Lib.itoa u ++ ([32, 102, 108, 97, 103, 115, 32] ++ (flagsText f ++ ([32, 109, 111, 100, 115, 101, 113, 32] ++ (Lib.itoa m ++ [41]))))))
  obtain ⟨p1, p2⟩ := cutP_pre [102, 101, 116, 99, 104, 32, 40, 117, 105, 100, 32] (Lib.itoa u ++ ([32, 102, 108, 97, 103, 115, 32] ++ (flagsText f ++ ([32, 109, 111, 100, 115, 101, 113, 32] ++ (Lib.itoa m ++ [41])))))
  obtain ⟨u1, u2⟩ := cut_sp (d := Lib.itoa u) (s := [102, 108, 97, 103, 115, 32]) (r := flagsText f ++ ([32, 109, 111, 100, 115, 101, 113, 32] ++ (Lib.itoa m ++ [41]))) (fig_no hu.1)
  obtain ⟨f1, f2⟩ := cut_flags hf.1 hf.2 (Lib.itoa m ++ [41])
  have c1 : ([102, 101, 116, 99, 104, 32, 40, 117, 105, 100, 32] ++ (Lib.itoa u ++ ([32, 102, 108, 97, 103, 115, 32] ++ (flagsText f ++ ([32, 109, 111, 100, 115, 101, 113, 32] ++ (Lib.itoa m ++ [41]))))) == [101, 120, 105, 115, 116, 115]) = false := ne_head (by decide)
  have c2 : ([102, 101, 116, 99, 104, 32, 40, 117, 105, 100, 32] ++ (Lib.itoa u ++ ([32, 102, 108, 97, 103, 115, 32] ++ (flagsText f ++ ([32, 109, 111, 100, 115, 101, 113, 32] ++ (Lib.itoa m ++ [41]))))) == [101, 120, 112, 117, 110, 103, 101]) = false := rfl
  rw [k1, k2, c1, c2, p1, p2, u1, u2, f1, f2, (cutSuf_app (Lib.itoa m) [41]).2, (dec_back hn.1 hn.2).2, (dec_back hu.1 hu.2).2, (dec_back hm.1 hm.2).2, flags_read hf.1 hf.2]
  rfl
theorem back4 {S : List Range} (h : setOk S = true) (hne : S ≠ []) : lineOfV (tVanished ++ setText S) = ⟨4, 0, 0, 0, 0, S, false⟩ := by
  obtain ⟨k1, k2⟩ := cut_sp (d := [118, 97, 110, 105, 115, 104, 101, 100]) (s := []) (r := setText S) (by decide)
  rw [show tVanished ++ setText S = [42, 32] ++ ([118, 97, 110, 105, 115, 104, 101, 100] ++ ((32 :: []) ++ setText S)) from rfl, lineOf_star, k1, k2, (set_back h hne (by decide) (by decide)).2]
  have c1 : ([118, 97, 110, 105, 115, 104, 101, 100] ++ ((32 :: []) ++ setText S) == [115, 101, 97, 114, 99, 104]) = false := ne_head (by decide)
  rw [c1]
  rfl
theorem back5 {n m : Int} (hn : 0 ≤ n ∧ n ≤ 1000000000) (hm : 0 ≤ m ∧ m ≤ 1000000000) (a : Bool) : lineOfV (tValid ++ (Lib.itoa n ++ (tMod ++ (Lib.itoa m ++ (if a = true then tAll else []))))) = ⟨5, n, 0, 0, m, [], a⟩ := by
  have key : ∀ R : List UInt8, lineOfV (tValid ++ R) = validV R := by
    intro R
    obtain ⟨k1, k2⟩ := cut_sp (d := [118, 97, 108, 105, 100]) (s := []) (r := R) (by decide)
    have c1 : ([118, 97, 108, 105, 100] ++ ((32 :: []) ++ R) == [115, 101, 97, 114, 99, 104]) = false := ne_head (by decide)
    rw [show tValid ++ R = [42, 32] ++ ([118, 97, 108, 105, 100] ++ ((32 :: []) ++ R)) from rfl, lineOf_star, k1, k2, c1]
    rfl
  obtain ⟨u1, u2⟩ := cut_sp (d := Lib.itoa n) (s := [109, 111, 100, 115, 101, 113, 32]) (r := Lib.itoa m) (fig_no hn.1)
  rw [key]
  cases a with
  | true =>
    have e : Lib.itoa n ++ (tMod ++ (Lib.itoa m ++ (if true = true then tAll else []))) = (Lib.itoa n ++ ([32, 109, 111, 100, 115, 101, 113, 32] ++ Lib.itoa m)) ++ [32, 97, 108, 108] := by
      rw [if_pos rfl, List.append_assoc, List.append_assoc]; rfl
    obtain ⟨s1, s2⟩ := cutSuf_app (Lib.itoa n ++ ([32, 109, 111, 100, 115, 101, 113, 32] ++ Lib.itoa m)) [32, 97, 108, 108]
    rw [e, validV, s1, s2, u1, u2, (dec_back hn.1 hn.2).2, (dec_back hm.1 hm.2).2]
  | false =>
    have e : Lib.itoa n ++ (tMod ++ (Lib.itoa m ++ (if false = true then tAll else []))) = Lib.itoa n ++ ([32, 109, 111, 100, 115, 101, 113, 32] ++ Lib.itoa m) := by
      rw [if_neg (by decide), List.append_nil]; rfl
    have s1 : sufB (Lib.itoa n ++ ([32, 109, 111, 100, 115, 101, 113, 32] ++ Lib.itoa m)) [32, 97, 108, 108] = false := by
      rw [← List.append_assoc]; exact suf_fig hm.1 _
    have s2 : cutSuf (Lib.itoa n ++ ([32, 109, 111, 100, 115, 101, 113, 32] ++ Lib.itoa m)) [32, 97, 108, 108] = Lib.itoa n ++ ([32, 109, 111, 100, 115, 101, 113, 32] ++ Lib.itoa m) := by rw [cutSuf, if_neg (by rw [s1]; simp)]
    rw [e, validV, s1, s2, u1, u2, (dec_back hn.1 hn.2).2, (dec_back hm.1 hm.2).2]
theorem back6 {S : List Range} (h : setOk S = true) : lineOfV (if S = [] then tSearch else tSearch ++ (32 :: setText S)) = ⟨6, 0, 0, 0, 0, S, false⟩ := by
  by_cases hne : S = []
  · rw [if_pos hne, show tSearch = [42, 32] ++ [115, 101, 97, 114, 99, 104] from rfl, lineOf_star, hne]; rfl
  · obtain ⟨k1, k2⟩ := cut_sp (d := [115, 101, 97, 114, 99, 104]) (s := []) (r := setText S) (by decide)
    have c1 : ([115, 101, 97, 114, 99, 104] ++ ((32 :: []) ++ setText S) == [115, 101, 97, 114, 99, 104]) = false := rfl
    rw [if_neg hne, show tSearch ++ (32 :: setText S) = [42, 32] ++ ([115, 101, 97, 114, 99, 104] ++ ((32 :: []) ++ setText S)) from rfl, lineOf_star, k1, k2, c1, (set_back h hne (by decide) (by decide)).2]
    rfl
theorem back8 {n : Int} (h0 : 0 ≤ n) (h : n ≤ 1000000000) : lineOfV (tNo ++ Lib.itoa n) = ⟨8, n, 0, 0, 0, [], false⟩ := by
  obtain ⟨h1, h2⟩ := cutP_pre [110, 111, 32] (Lib.itoa n)
  have c1 : ([110, 111, 32] ++ Lib.itoa n == [111, 107]) = false := ne_head (by decide)
  have c2 : ([110, 111, 32] ++ Lib.itoa n == [98, 121, 101]) = false := ne_head (by decide)
  rw [show tNo = [110, 111, 32] from rfl, lineOfV, c1, c2, h1, h2, (dec_back h0 h).2]
  rfl
theorem line_kinds {x : Line} (h : lineOk x = true) :
    (∃ n, (0 ≤ n ∧ n ≤ 9999) ∧ x = ⟨1, n, 0, 0, 0, [], false⟩) ∨ (∃ n, (0 ≤ n ∧ n ≤ 9999) ∧ x = ⟨2, n, 0, 0, 0, [], false⟩) ∨
    (∃ n u f m, (0 ≤ n ∧ n ≤ 9999) ∧ (0 ≤ u ∧ u ≤ 9999) ∧ (0 ≤ f ∧ f ≤ 31) ∧ (0 ≤ m ∧ m ≤ 100000) ∧ x = ⟨3, n, u, f, m, [], false⟩) ∨
    (∃ S, setOk S = true ∧ S ≠ [] ∧ x = ⟨4, 0, 0, 0, 0, S, false⟩) ∨ (∃ n m a, (0 ≤ n ∧ n ≤ 9999) ∧ (0 ≤ m ∧ m ≤ 100000) ∧ x = ⟨5, n, 0, 0, m, [], a⟩) ∨
    (∃ S, setOk S = true ∧ x = ⟨6, 0, 0, 0, 0, S, false⟩) ∨ x = ⟨7, 0, 0, 0, 0, [], false⟩ ∨ (∃ n, (0 ≤ n ∧ n ≤ 9999) ∧ x = ⟨8, n, 0, 0, 0, [], false⟩) ∨ x = ⟨9, 0, 0, 0, 0, [], false⟩ := by
  obtain ⟨K, N, U, F, M, S, A⟩ := x
  unfold lineOk at h
  simp only at h
  split at h
  · rename_i hk; subst hk
    simp only [within, Bool.and_eq_true, decide_eq_true_eq, beq_iff_eq, List.isEmpty_iff, Bool.not_eq_true'] at h
    obtain ⟨⟨a1, a2⟩, ⟨⟨⟨a3, a4⟩, a5⟩, a6⟩, a7⟩ := h
    subst a3 a4 a5 a6 a7
    exact .inl ⟨N, ⟨a1, by omega⟩, rfl⟩
  split at h
  · rename_i hk; subst hk
    simp only [within, Bool.and_eq_true, decide_eq_true_eq, beq_iff_eq, List.isEmpty_iff, Bool.not_eq_true'] at h
    obtain ⟨⟨a1, a2⟩, ⟨⟨⟨a3, a4⟩, a5⟩, a6⟩, a7⟩ := h
    subst a3 a4 a5 a6 a7
    exact .inr (.inl ⟨N, ⟨by omega, by omega⟩, rfl⟩)
  split at h
  · rename_i hk; subst hk
    simp only [within, flagsOk, Bool.and_eq_true, decide_eq_true_eq, beq_iff_eq, List.isEmpty_iff, Bool.not_eq_true'] at h
    obtain ⟨⟨⟨⟨⟨a1, a2⟩, a3, a4⟩, a5, a6⟩, a7, a8⟩, a9, b1⟩ := h
    subst a9 b1
    exact .inr (.inr (.inl ⟨N, U, F, M, ⟨by omega, by omega⟩, ⟨by omega, by omega⟩, ⟨by omega, by omega⟩, ⟨by omega, by omega⟩, rfl⟩))
  split at h
  · rename_i hk; subst hk
    simp only [Bool.and_eq_true, beq_iff_eq, Bool.not_eq_true'] at h
    obtain ⟨⟨a1, a2⟩, ⟨⟨⟨a3, a4⟩, a5⟩, a6⟩, a7⟩ := h
    subst a3 a4 a5 a6 a7
    exact .inr (.inr (.inr (.inl ⟨S, a1, (fun e => by subst e; cases a2), rfl⟩)))
  split at h
  · rename_i hk; subst hk
    simp only [within, Bool.and_eq_true, decide_eq_true_eq, beq_iff_eq, List.isEmpty_iff] at h
    obtain ⟨⟨⟨a1, a2⟩, a3, a4⟩, ⟨a5, a6⟩, a7⟩ := h
    subst a5 a6 a7
    exact .inr (.inr (.inr (.inr (.inl ⟨N, M, A, ⟨by omega, by omega⟩, ⟨by omega, by omega⟩, rfl⟩))))
  split at h
  · rename_i hk; subst hk
    simp only [Bool.and_eq_true, beq_iff_eq, Bool.not_eq_true'] at h
    obtain ⟨a1, ⟨⟨⟨a3, a4⟩, a5⟩, a6⟩, a7⟩ := h
    subst a3 a4 a5 a6 a7
    exact .inr (.inr (.inr (.inr (.inr (.inl ⟨S, a1, rfl⟩)))))
  split at h
  · rename_i hk; subst hk
    simp only [within, Bool.and_eq_true, decide_eq_true_eq, beq_iff_eq, List.isEmpty_iff, Bool.not_eq_true'] at h
    obtain ⟨⟨a1, a2⟩, ⟨⟨⟨a3, a4⟩, a5⟩, a6⟩, a7⟩ := h
    subst a3 a4 a5 a6 a7
    exact .inr (.inr (.inr (.inr (.inr (.inr (.inr (.inl ⟨N, ⟨by omega, by omega⟩, rfl⟩)))))))
  split at h
  · rename_i hk
    simp only [Bool.and_eq_true, beq_iff_eq, List.isEmpty_iff, Bool.not_eq_true'] at h
    obtain ⟨⟨⟨⟨⟨a2, a3⟩, a4⟩, a5⟩, a6⟩, a7⟩ := h
    subst a2 a3 a4 a5 a6 a7
    rcases hk with rfl | rfl
    · exact .inr (.inr (.inr (.inr (.inr (.inr (.inl rfl))))))
    · exact .inr (.inr (.inr (.inr (.inr (.inr (.inr (.inr rfl)))))))
  · cases h
theorem line_back {x : Line} (h : lineOk x = true) : lineOfV (lineText x) = x := by
  have hx := line_kinds h
  rw [lineText, if_pos h]
  rcases hx with ⟨n, hn, rfl⟩ | ⟨n, hn, rfl⟩ | ⟨n, u, f, m, hn, hu, hf, hm, rfl⟩ | ⟨S, hS, hne, rfl⟩ | ⟨n, m, a, hn, hm, rfl⟩ | ⟨S, hS, rfl⟩ | rfl | ⟨n, hn, rfl⟩ | rfl
  · exact back1 hn.1 (Int.le_trans hn.2 (by decide))
  · exact back2 hn.1 (Int.le_trans hn.2 (by decide))
  · exact back3 ⟨hn.1, Int.le_trans hn.2 (by decide)⟩ ⟨hu.1, Int.le_trans hu.2 (by decide)⟩ hf ⟨hm.1, Int.le_trans hm.2 (by decide)⟩
  · exact back4 hS hne
  · exact back5 ⟨hn.1, Int.le_trans hn.2 (by decide)⟩ ⟨hm.1, Int.le_trans hm.2 (by decide)⟩ a
  · exact back6 hS
  · rfl
  · exact back8 hn.1 (Int.le_trans hn.2 (by decide))
  · rfl
end Go.Proofs.YtonjbbfgdloljaaGreatDoor.L

namespace Go.Proofs.YtonjbbfgdloljaaGreatDoor.L
open Go Go.VM
set_option maxRecDepth 100000
set_option maxHeartbeats 4000000
set_option linter.unusedSimpArgs false
set_option linter.unusedVariables false
theorem star_ne (r : List UInt8) : (42 :: r == [111, 107]) = false ∧ (42 :: r == [98, 121, 101]) = false := ⟨ne_head (by decide), ne_head (by decide)⟩
theorem gback1 {n : Int} (h0 : 0 ≤ n) (h : n ≤ 1000000000) : guessW (tStar ++ (Lib.itoa n ++ tExists)) (splitOn 32 (tStar ++ (Lib.itoa n ++ tExists))) = ⟨1, n, 0, 0, 0, [], false⟩ := by
  have w : splitOn 32 (tStar ++ (Lib.itoa n ++ tExists)) = [[42], Lib.itoa n, [101, 120, 105, 115, 116, 115]] := by
    rw [show tStar ++ (Lib.itoa n ++ tExists) = [42] ++ 32 :: (Lib.itoa n ++ 32 :: [101, 120, 105, 115, 116, 115]) from rfl, split_no (by decide), split_no (fig_no h0), splitOn_none (by decide)]
  obtain ⟨c1, c2⟩ := star_ne (32 :: (Lib.itoa n ++ tExists))
  rw [w, guessW, show tStar ++ (Lib.itoa n ++ tExists) = 42 :: (32 :: (Lib.itoa n ++ tExists)) from rfl, c1, c2]
  show (⟨1, decN (Lib.itoa n), 0, 0, 0, [], false⟩ : Line) = _
  rw [(dec_back h0 h).2]
theorem gback2 {n : Int} (h0 : 0 ≤ n) (h : n ≤ 1000000000) : guessW (tStar ++ (Lib.itoa n ++ tExpunge)) (splitOn 32 (tStar ++ (Lib.itoa n ++ tExpunge))) = ⟨2, n, 0, 0, 0, [], false⟩ := by
  have w : splitOn 32 (tStar ++ (Lib.itoa n ++ tExpunge)) = [[42], Lib.itoa n, [101, 120, 112, 117, 110, 103, 101]] := by
    rw [show tStar ++ (Lib.itoa n ++ tExpunge) = [42] ++ 32 :: (Lib.itoa n ++ 32 :: [101, 120, 112, 117, 110, 103, 101]) from rfl, split_no (by decide), split_no (fig_no h0), splitOn_none (by decide)]
  obtain ⟨c1, c2⟩ := star_ne (32 :: (Lib.itoa n ++ tExpunge))
  rw [w, guessW, show tStar ++ (Lib.itoa n ++ tExpunge) = 42 :: (32 :: (Lib.itoa n ++ tExpunge)) from rfl, c1, c2]
  show (⟨2, decN (Lib.itoa n), 0, 0, 0, [], false⟩ : Line) = _
  rw [(dec_back h0 h).2]
theorem gback8 {n : Int} (h0 : 0 ≤ n) (h : n ≤ 1000000000) : guessW (tNo ++ Lib.itoa n) (splitOn 32 (tNo ++ Lib.itoa n)) = ⟨8, n, 0, 0, 0, [], false⟩ := by
  have w : splitOn 32 (tNo ++ Lib.itoa n) = [[110, 111], Lib.itoa n] := by
    rw [show tNo ++ Lib.itoa n = [110, 111] ++ 32 :: Lib.itoa n from rfl, split_no (by decide), splitOn_none (fig_no h0)]
  have c1 : (tNo ++ Lib.itoa n == [111, 107]) = false := ne_head (by decide)
  have c2 : (tNo ++ Lib.itoa n == [98, 121, 101]) = false := ne_head (by decide)
  rw [w, guessW, c1, c2]
  show (⟨8, decN (Lib.itoa n), 0, 0, 0, [], false⟩ : Line) = _
  rw [(dec_back h0 h).2]
theorem gback4 {S : List Range} (h : setOk S = true) (hne : S ≠ []) : guessW (tVanished ++ setText S) (splitOn 32 (tVanished ++ setText S)) = ⟨4, 0, 0, 0, 0, S, false⟩ := by
  have w : splitOn 32 (tVanished ++ setText S) = [[42], [118, 97, 110, 105, 115, 104, 101, 100], setText S] := by
    rw [show tVanished ++ setText S = [42] ++ 32 :: ([118, 97, 110, 105, 115, 104, 101, 100] ++ 32 :: setText S) from rfl, split_no (by decide), split_no (by decide), splitOn_none (set_no S)]
  obtain ⟨c1, c2⟩ := star_ne (32 :: ([118, 97, 110, 105, 115, 104, 101, 100] ++ 32 :: setText S))
  have e1 : (([[42], [118, 97, 110, 105, 115, 104, 101, 100], setText S] : List (List UInt8)).getD 2 [] == [101, 120, 105, 115, 116, 115]) = false := set_ne S (by decide)
  have e2 : (([[42], [118, 97, 110, 105, 115, 104, 101, 100], setText S] : List (List UInt8)).getD 2 [] == [101, 120, 112, 117, 110, 103, 101]) = false := set_ne S (by decide)
  rw [w, guessW, show tVanished ++ setText S = 42 :: (32 :: ([118, 97, 110, 105, 115, 104, 101, 100] ++ 32 :: setText S)) from rfl, c1, c2, e1, e2]
  show (⟨4, 0, 0, 0, 0, readSet (setText S) 1, false⟩ : Line) = _
  rw [(set_back h hne (by decide) (by decide)).2]
theorem gback6 {S : List Range} (h : setOk S = true) (hne : S ≠ []) : guessW (tSearch ++ (32 :: setText S)) (splitOn 32 (tSearch ++ (32 :: setText S))) = ⟨6, 0, 0, 0, 0, S, false⟩ := by
  have w : splitOn 32 (tSearch ++ (32 :: setText S)) = [[42], [115, 101, 97, 114, 99, 104], setText S] := by
    rw [show tSearch ++ (32 :: setText S) = [42] ++ 32 :: ([115, 101, 97, 114, 99, 104] ++ 32 :: setText S) from rfl, split_no (by decide), split_no (by decide), splitOn_none (set_no S)]
  obtain ⟨c1, c2⟩ := star_ne (32 :: ([115, 101, 97, 114, 99, 104] ++ 32 :: setText S))
  have e1 : (([[42], [115, 101, 97, 114, 99, 104], setText S] : List (List UInt8)).getD 2 [] == [101, 120, 105, 115, 116, 115]) = false := set_ne S (by decide)
  have e2 : (([[42], [115, 101, 97, 114, 99, 104], setText S] : List (List UInt8)).getD 2 [] == [101, 120, 112, 117, 110, 103, 101]) = false := set_ne S (by decide)
  rw [w, guessW, show tSearch ++ (32 :: setText S) = 42 :: (32 :: ([115, 101, 97, 114, 99, 104] ++ 32 :: setText S)) from rfl, c1, c2, e1, e2]
  show (⟨6, 0, 0, 0, 0, readSet (setText S) 1, false⟩ : Line) = _
  rw [(set_back h hne (by decide) (by decide)).2]
theorem gback5 {n m : Int} (hn : 0 ≤ n ∧ n ≤ 1000000000) (hm : 0 ≤ m ∧ m ≤ 1000000000) (a : Bool) : guessW (tValid ++ (Lib.itoa n ++ (tMod ++ (Lib.itoa m ++ (if a = true then tAll else []))))) (splitOn 32 (tValid ++ (Lib.itoa n ++ (tMod ++ (Lib.itoa m ++ (if a = true then tAll else [])))))) = ⟨5, n, 0, 0, m, [], a⟩ := by
  cases a with
  | true =>
    have e0 : tValid ++ (Lib.itoa n ++ (tMod ++ (Lib.itoa m ++ (if true = true then tAll else [])))) = [42] ++ 32 :: ([118, 97, 108, 105, 100] ++ 32 :: (Lib.itoa n ++ 32 :: ([109, 111, 100, 115, 101, 113] ++ 32 :: (Lib.itoa m ++ 32 :: [97, 108, 108])))) := rfl
    have w : splitOn 32 ([42] ++ 32 :: ([118, 97, 108, 105, 100] ++ 32 :: (Lib.itoa n ++ 32 :: ([109, 111, 100, 115, 101, 113] ++ 32 :: (Lib.itoa m ++ 32 :: [97, 108, 108]))))) = [[42], [118, 97, 108, 105, 100], Lib.itoa n, [109, 111, 100, 115, 101, 113], Lib.itoa m, [97, 108, 108]] := by
      rw [split_no (by decide), split_no (by decide), split_no (fig_no hn.1), split_no (by decide), split_no (fig_no hm.1), splitOn_none (by decide)]
    obtain ⟨c1, c2⟩ := star_ne (32 :: ([118, 97, 108, 105, 100] ++ 32 :: (Lib.itoa n ++ 32 :: ([109, 111, 100, 115, 101, 113] ++ 32 :: (Lib.itoa m ++ 32 :: [97, 108, 108])))))
    rw [e0, w, guessW, show [42] ++ 32 :: ([118, 97, 108, 105, 100] ++ 32 :: (Lib.itoa n ++ 32 :: ([109, 111, 100, 115, 101, 113] ++ 32 :: (Lib.itoa m ++ 32 :: [97, 108, 108])))) = 42 :: (32 :: ([118, 97, 108, 105, 100] ++ 32 :: (Lib.itoa n ++ 32 :: ([109, 111, 100, 115, 101, 113] ++ 32 :: (Lib.itoa m ++ 32 :: [97, 108, 108]))))) from rfl, c1, c2]
    show (⟨5, decN (Lib.itoa n), 0, 0, decN (Lib.itoa m), [], true⟩ : Line) = _
    rw [(dec_back hn.1 hn.2).2, (dec_back hm.1 hm.2).2]
  | false =>
    have e0 : tValid ++ (Lib.itoa n ++ (tMod ++ (Lib.itoa m ++ (if false = true then tAll else [])))) = [42] ++ 32 :: ([118, 97, 108, 105, 100] ++ 32 :: (Lib.itoa n ++ 32 :: ([109, 111, 100, 115, 101, 113] ++ 32 :: Lib.itoa m))) := by
      rw [if_neg (by decide), List.append_nil]; rfl
    have w : splitOn 32 ([42] ++ 32 :: ([118, 97, 108, 105, 100] ++ 32 :: (Lib.itoa n ++ 32 :: ([109, 111, 100, 115, 101, 113] ++ 32 :: Lib.itoa m)))) = [[42], [118, 97, 108, 105, 100], Lib.itoa n, [109, 111, 100, 115, 101, 113], Lib.itoa m] := by
      rw [split_no (by decide), split_no (by decide), split_no (fig_no hn.1), split_no (by decide), splitOn_none (fig_no hm.1)]
    obtain ⟨c1, c2⟩ := star_ne (32 :: ([118, 97, 108, 105, 100] ++ 32 :: (Lib.itoa n ++ 32 :: ([109, 111, 100, 115, 101, 113] ++ 32 :: Lib.itoa m))))
    rw [e0, w, guessW, show [42] ++ 32 :: ([118, 97, 108, 105, 100] ++ 32 :: (Lib.itoa n ++ 32 :: ([109, 111, 100, 115, 101, 113] ++ 32 :: Lib.itoa m))) = 42 :: (32 :: ([118, 97, 108, 105, 100] ++ 32 :: (Lib.itoa n ++ 32 :: ([109, 111, 100, 115, 101, 113] ++ 32 :: Lib.itoa m)))) from rfl, c1, c2]
    show (⟨5, decN (Lib.itoa n), 0, 0, decN (Lib.itoa m), [], false⟩ : Line) = _
    rw [(dec_back hn.1 hn.2).2, (dec_back hm.1 hm.2).2]
theorem gback3 {n u f m : Int} (hn : 0 ≤ n ∧ n ≤ 1000000000) (hu : 0 ≤ u ∧ u ≤ 1000000000) (hf : 0 ≤ f ∧ f ≤ 31) (hm : 0 ≤ m ∧ m ≤ 1000000000) :
    guessW (tStar ++ (Lib.itoa n ++ (tFetch ++ (Lib.itoa u ++ (tFlags ++ (flagsText f ++ (tMod ++ (Lib.itoa m ++ [41])))))))) (splitOn 32 (tStar ++ (Lib.itoa n ++ (tFetch ++ (Lib.itoa u ++ (tFlags ++ (flagsText f ++ (tMod ++ (Lib.itoa m ++ [41]))))))))) = ⟨3, n, u, f, m, [], false⟩ := by
  have e0 : tStar ++ (Lib.itoa n ++ (tFetch ++ (Lib.itoa u ++ (tFlags ++ (flagsText f ++ (tMod ++ (Lib.itoa m ++ [41]))))))) = [42] ++ 32 :: (Lib.itoa n ++ 32 :: ([102, 101, 116, 99, 104] ++ 32 :: ([40, 117, 105, 100] ++ 32 :: (Lib.itoa u ++ 32 :: ([102, 108, 97, 103, 115] ++ 32 :: (flagsText f ++ 32 :: ([109, 111, 100, 115, 101, 113] ++ 32 :: (Lib.itoa m ++ [41])))))))) := rfl
  obtain ⟨p, P, hP, hj⟩ := join_words (flagsText f)
  have hm41 : ∀ x ∈ Lib.itoa m ++ [41], notB 32 x = true := fun x hx => by
    rcases List.mem_append.1 hx with h | h
    · exact fig_no hm.1 x h
    · simp only [List.mem_singleton] at h; subst h; decide
  obtain ⟨W, hW⟩ : ∃ W, W = ([42] : List UInt8) :: Lib.itoa n :: [102, 101, 116, 99, 104] :: [40, 117, 105, 100] :: Lib.itoa u :: [102, 108, 97, 103, 115] :: p :: (P ++ [[109, 111, 100, 115, 101, 113], Lib.itoa m ++ [41]]) := ⟨_, rfl⟩
  have w : splitOn 32 ([42] ++ 32 :: (Lib.itoa n ++ 32 :: ([102, 101, 116, 99, 104] ++ 32 :: ([40, 117, 105, 100] ++ 32 :: (Lib.itoa u ++ 32 :: ([102, 108, 97, 103, 115] ++ 32 :: (flagsText f ++ 32 :: ([109, 111, 100, 115, 101, 113] ++ 32 :: (Lib.itoa m ++ [41]))))))))) = W := by
    rw [split_no (by decide), split_no (fig_no hn.1), split_no (by decide), split_no (by decide), split_no (fig_no hu.1), split_no (by decide), split_sp (flagsText f), hP, split_no (by decide), splitOn_none hm41, hW]; rfl
  obtain ⟨c1, c2⟩ := star_ne (32 :: (Lib.itoa n ++ 32 :: ([102, 101, 116, 99, 104] ++ 32 :: ([40, 117, 105, 100] ++ 32 :: (Lib.itoa u ++ 32 :: ([102, 108, 97, 103, 115] ++ 32 :: (flagsText f ++ 32 :: ([109, 111, 100, 115, 101, 113] ++ 32 :: (Lib.itoa m ++ [41])))))))))
  have hl : W.length = P.length + 9 := by rw [hW]; simp
  have w1 : W.getD 1 [] = Lib.itoa n := by rw [hW]; rfl
  have w2 : W.getD 2 [] = [102, 101, 116, 99, 104] := by rw [hW]; rfl
  have w4 : W.getD 4 [] = Lib.itoa u := by rw [hW]; rfl
  have w6 : W.getD 6 [] = p := by rw [hW]; rfl
  have wd : W.drop 7 = P ++ [[109, 111, 100, 115, 101, 113], Lib.itoa m ++ [41]] := by rw [hW]; rfl
  have wl : lastW W = Lib.itoa m ++ [41] := by
    rw [lastW, hl, List.getD_eq_getElem?_getD, show P.length + 9 - 1 = 7 + (P.length + 1) by omega, ← List.getElem?_drop, wd, List.getElem?_append_right (by omega), show P.length + 1 - P.length = 1 by omega]; rfl
  have wf : flagsW W = flagsText f := by
    rw [flagsW, w6, wd, hl, show P.length + 9 - 9 = P.length by omega, List.take_left, hj]
  have ml := List.length_pos_iff.2 (itoa_ne hm.1)
  have wlen : 1 < (lastW W).length := by rw [wl, List.length_append, List.length_singleton]; omega
  have wt : (lastW W).take ((lastW W).length - 1) = Lib.itoa m := by rw [wl, List.length_append, List.length_singleton, Nat.add_sub_cancel, List.take_left]
  rw [e0, w, guessW, show [42] ++ 32 :: (Lib.itoa n ++ 32 :: ([102, 101, 116, 99, 104] ++ 32 :: ([40, 117, 105, 100] ++ 32 :: (Lib.itoa u ++ 32 :: ([102, 108, 97, 103, 115] ++ 32 :: (flagsText f ++ 32 :: ([109, 111, 100, 115, 101, 113] ++ 32 :: (Lib.itoa m ++ [41])))))))) = 42 :: (32 :: (Lib.itoa n ++ 32 :: ([102, 101, 116, 99, 104] ++ 32 :: ([40, 117, 105, 100] ++ 32 :: (Lib.itoa u ++ 32 :: ([102, 108, 97, 103, 115] ++ 32 :: (flagsText f ++ 32 :: ([109, 111, 100, 115, 101, 113] ++ 32 :: (Lib.itoa m ++ [41]))))))))) from rfl, c1, c2,
    w1, w2, w4, wf, wt, if_pos wlen, fig_ne' hn.1 (by decide), fig_ne' hn.1 (by decide), fig_ne' hn.1 (by decide),
    if_neg (by simp), if_neg (by simp), if_neg (fun h => by have := h.1; omega), if_neg (fun h => by have := h.1; omega), if_neg (fun h => by have := h.1; omega), if_neg (by simp), if_neg (by simp), if_neg (by simp), if_pos ⟨by omega, rfl⟩,
    (dec_back hn.1 hn.2).2, (dec_back hu.1 hu.2).2, (dec_back hm.1 hm.2).2, flags_read hf.1 hf.2]
theorem guess_back {x : Line} (h : lineOk x = true) : guessW (lineText x) (splitOn 32 (lineText x)) = x := by
  have hx := line_kinds h
  rw [lineText, if_pos h]
  rcases hx with ⟨n, hn, rfl⟩ | ⟨n, hn, rfl⟩ | ⟨n, u, f, m, hn, hu, hf, hm, rfl⟩ | ⟨S, hS, hne, rfl⟩ | ⟨n, m, a, hn, hm, rfl⟩ | ⟨S, hS, rfl⟩ | rfl | ⟨n, hn, rfl⟩ | rfl
  · exact gback1 hn.1 (Int.le_trans hn.2 (by decide))
  · exact gback2 hn.1 (Int.le_trans hn.2 (by decide))
  · exact gback3 ⟨hn.1, Int.le_trans hn.2 (by decide)⟩ ⟨hu.1, Int.le_trans hu.2 (by decide)⟩ hf ⟨hm.1, Int.le_trans hm.2 (by decide)⟩
  · exact gback4 hS hne
  · exact gback5 ⟨hn.1, Int.le_trans hn.2 (by decide)⟩ ⟨hm.1, Int.le_trans hm.2 (by decide)⟩ a
  · by_cases hne : S = []
    · subst hne; rfl
    · show guessW (if S = [] then tSearch else tSearch ++ (32 :: setText S)) (splitOn 32 (if S = [] then tSearch else tSearch ++ (32 :: setText S))) = _
      rw [if_neg hne]
      exact gback6 hS hne
  · rfl
  · exact gback8 hn.1 (Int.le_trans hn.2 (by decide))
  · rfl
theorem tell_same (t : List UInt8) : tellV (guessW t (splitOn 32 t)) t = tellV (lineOfV t) t := by
  by_cases h1 : lineOk (lineOfV t) = true ∧ (lineText (lineOfV t) == t) = true
  · have e := guess_back h1.1
    rw [eq_of_beq h1.2] at e
    rw [e]
  · by_cases h2 : lineOk (guessW t (splitOn 32 t)) = true ∧ (lineText (guessW t (splitOn 32 t)) == t) = true
    · have e := line_back h2.1
      rw [eq_of_beq h2.2] at e
      rw [e]
    · rw [tellV, if_neg h2, tellV, if_neg h1]
open Classical in
noncomputable def spReadLineS : VM.Spec := { modes := [.rd], run := fun | [.str t] => if t.length ≤ 4194304 then some (.tup [Line.enc ((tellV (lineOfV t) t).1), .bool ((tellV (lineOfV t) t).2)], []) else none | _ => none, need := ["internal/bytealg.MaxLen", "internal/strconv.uint64pow10"] }
attribute [go_sem] spReadLineS
theorem spReadLineS_in {ins : List V} {r : V} {outs : List V} (h : spReadLineS.run ins = some (r, outs)) : ∃ (t : (List UInt8)), ins = [.str t] ∧ (t.length ≤ 4194304) ∧ .tup [Line.enc ((tellV (lineOfV t) t).1), .bool ((tellV (lineOfV t) t).2)] = r ∧ outs = [] := by
  unfold spReadLineS at h
  simp only at h
  split at h
  · rename_i t
    split at h
    case isFalse => cases h
    rename_i hc
    simp only [Option.some.injEq, Prod.mk.injEq] at h
    obtain ⟨h1, h2⟩ := h
    exact ⟨t, rfl, hc, h1, h2.symm⟩
  · cases h
def T_spec_ReadLine : Hints := ⟨lk [], lk [], lk [(0, [0, 2]), (1, [0, 2, 4]), (2, [0, 2, 4, 5, 6]), (3, [2, 4, 20]), (4, [2, 3]), (5, [2, 3])], lk []⟩
noncomputable def Phi_spec_ReadLine : Tab := lk [(34, spGuess), (11, spLineText)]
attribute [go_sem] T_spec_ReadLine Phi_spec_ReadLine
theorem phi_spec_ReadLine : ∀ f sp, Phi_spec_ReadLine f = some sp → FnOk Tryz.prog f sp ∧ ∀ n ∈ sp.need, n ∈ (["internal/bytealg.MaxLen", "internal/strconv.uint64pow10"] : List String) := phi_cons ok_spec_l13Guess (fun n (h : n ∈ (["internal/bytealg.MaxLen"] : List String)) => by simp only [List.mem_cons, List.not_mem_nil, or_false] at h; rcases h with rfl <;> simp) (phi_cons ok_spec_LineText (fun n (h : n ∈ (["internal/strconv.uint64pow10"] : List String)) => by simp only [List.mem_cons, List.not_mem_nil, or_false] at h; rcases h with rfl <;> simp) (phi_nil))
theorem ok_spec_ReadLine : FnOk Tryz.prog 10 spReadLineS := by
  refine fn_ok (Φ := Phi_spec_ReadLine) (T := T_spec_ReadLine) phi_spec_ReadLine mixed Tryz.func10 rfl rfl rfl (by decide) ?_
  intro ins r outs hr hl
  clear hl
  have hs := spReadLineS_in hr
  clear hr
  obtain ⟨t, rfl, hc, hr, rfl⟩ := hs
  simp only [spReadLineS, Tryz.f10, Go.VM.initS]
  have hx := guessW_le t (splitOn 32 t)
  rw [← tell_same t] at hr
  cases c1 : lineOk (guessW t (splitOn 32 t)) with
  | false =>
    have e : tellV (guessW t (splitOn 32 t)) t = (lineNil, false) := by rw [tellV, if_neg (by rw [c1]; simp)]
    rw [e] at hr
    simp only [hc, hx, c1, go_sem]
    repeat' ((first | apply qa | apply qb | apply qc | apply qd | apply qe | apply qf | apply qg | apply qh | apply qi | apply qj | apply qk) <;> intro hp <;> simp only [hp, hc, hx, c1, go_sem])
    simp only [fin_mk, finV, resL, resV1, resIn, endA, listIn, Option.some_or, Option.none_or, oneOrTup, go_sem]
    rw [← hr]
    rfl
  | true =>
  cases c2 : (lineText (guessW t (splitOn 32 t)) == t) with
  | false =>
    have c2' : (lineText (guessW t (splitOn 32 t)) != t) = true := by rw [bne, c2]; rfl
    have e : tellV (guessW t (splitOn 32 t)) t = (lineNil, false) := by rw [tellV, if_neg (by rw [c2]; simp)]
    rw [e] at hr
    simp only [hc, hx, c1, c2', go_sem]
    repeat' ((first | apply qa | apply qb | apply qc | apply qd | apply qe | apply qf | apply qg | apply qh | apply qi | apply qj | apply qk) <;> intro hp <;> simp only [hp, hc, hx, c1, c2', go_sem])
    simp only [fin_mk, finV, resL, resV1, resIn, endA, listIn, Option.some_or, Option.none_or, oneOrTup, go_sem]
    rw [← hr]
    rfl
  | true =>
    have c2' : (lineText (guessW t (splitOn 32 t)) != t) = false := by rw [bne, c2]; rfl
    have e : tellV (guessW t (splitOn 32 t)) t = (guessW t (splitOn 32 t), true) := by rw [tellV, if_pos ⟨c1, c2⟩]
    rw [e] at hr
    simp only [hc, hx, c1, c2', go_sem]
    repeat' ((first | apply qa | apply qb | apply qc | apply qd | apply qe | apply qf | apply qg | apply qh | apply qi | apply qj | apply qk) <;> intro hp <;> simp only [hp, hc, hx, c1, c2', go_sem])
    simp only [fin_mk, finV, resL, resV1, resIn, endA, listIn, Option.some_or, Option.none_or, oneOrTup, go_sem]
    rw [← hr]
    try rfl
theorem tellV_le (t : List UInt8) : (tellV (lineOfV t) t).1.le 4194304 := by
  unfold tellV
  split
  · exact lineOfV_le t
  · exact line_le _ _ _ _ _ _ _ (Nat.zero_le _)
end Go.Proofs.YtonjbbfgdloljaaGreatDoor.L

namespace Go.Proofs.YtonjbbfgdloljaaGreatDoor.L
open Go Go.VM
set_option maxRecDepth 100000
set_option maxHeartbeats 4000000
set_option linter.unusedSimpArgs false
set_option linter.unusedVariables false
theorem range_beq (a b : Range) : (a.Lo == b.Lo && a.Hi == b.Hi) = decide (a = b) := by
  cases a; cases b; rw [Bool.eq_iff_iff]; simp
open Classical in
noncomputable def spSameSet : VM.Spec := { modes := [.rd, .rd], run := fun | [.lst 2 x', .lst 2 y'] => (decL Range.dec x').bind fun x => (decL Range.dec y').bind fun y => if x.length ≤ 4194304 ∧ y.length ≤ 4194304 then some (.bool (decide (x = y)), []) else none | _ => none, need := [] }
attribute [go_sem] spSameSet
theorem spSameSet_in {ins : List V} {r : V} {outs : List V} (h : spSameSet.run ins = some (r, outs)) : ∃ (x : (List Range)) (y : (List Range)), ins = [.lst 2 ((x).map Range.enc), .lst 2 ((y).map Range.enc)] ∧ (x.length ≤ 4194304 ∧ y.length ≤ 4194304) ∧ .bool (decide (x = y)) = r ∧ outs = [] := by
  unfold spSameSet at h
  simp only at h
  split at h
  · rename_i x' y'
    simp only [Option.bind_eq_some_iff] at h
    obtain ⟨x, h_x, y, h_y, h⟩ := h
    split at h
    case isFalse => cases h
    rename_i hc
    simp only [Option.some.injEq, Prod.mk.injEq] at h
    obtain ⟨h1, h2⟩ := h
    have h_x := decL_some (fun _ _ h => Range.dec_some h) h_x
    subst h_x
    have h_y := decL_some (fun _ _ h => Range.dec_some h) h_y
    subst h_y
    exact ⟨x, y, rfl, hc, h1, h2.symm⟩
  · cases h
def T_laws_sameSet : Hints := ⟨lk [(6, [])], lk [(4, [0, 1, 5])], lk [(0, [0, 1]), (1, [0, 1, 10]), (2, [4]), (3, [0, 1, 5]), (4, [0, 1, 5, 14]), (6, [0, 1, 5, 25]), (7, [4]), (5, [0, 1, 5]), (8, [4])], lk []⟩
noncomputable def Phi_laws_sameSet : Tab := lk []
attribute [go_sem] T_laws_sameSet Phi_laws_sameSet
theorem phi_laws_sameSet : ∀ f sp, Phi_laws_sameSet f = some sp → FnOk Tryz.prog f sp ∧ ∀ n ∈ sp.need, n ∈ ([] : List String) := phi_nil
theorem ok_laws_sameSet : FnOk Tryz.prog 46 spSameSet := by
  refine fn_ok (Φ := Phi_laws_sameSet) (T := T_laws_sameSet) phi_laws_sameSet mixed Tryz.func46 rfl rfl rfl (by decide) ?_
  intro ins r outs hr hl
  clear hl
  have hs := spSameSet_in hr
  clear hr
  obtain ⟨x, y, rfl, hc, hr, rfl⟩ := hs
  simp only [spSameSet, Tryz.f46, Go.VM.initS]
  obtain ⟨hx, hy⟩ := hc
  by_cases hl : x.length = y.length
  case neg =>
    have g : ((x.length : Int) == y.length) = false := by rw [beq_eq_false_iff_ne]; omega
    have g' : ((x.length : Int) != y.length) = true := by rw [bne_iff_ne]; omega
    have hne : x ≠ y := fun e => hl (by rw [e])
    simp only [g, g', go_sem]
    repeat' ((first | ((first | apply qa | apply qb | apply qc | apply qd | apply qe | apply qf | apply qg | apply qh | apply qi | apply qj | apply qk) <;> intro hp) | ((first | refine ql rfl rfl (by decide +kernel) ?_ | refine qm _ rfl rfl (by decide +kernel) ?_) <;> have hp := True.intro)) <;> simp only [hp, g, g', go_sem])
    simp only [fin_mk, finV, resL, resV1, resIn, endA, listIn, Option.some_or, Option.none_or, oneOrTup, go_sem]
    rw [← hr]
    simp only [hne, decide_false]
  have hl' : (x.length : Int) = y.length := by omega
  simp only [hl, bne_self_eq_false, go_sem]
  repeat' ((first | ((first | apply qa | apply qb | apply qc | apply qd | apply qe | apply qf | apply qg | apply qh | apply qi | apply qj | apply qk) <;> intro hp) | ((first | refine ql rfl rfl (by decide +kernel) ?_ | refine qm _ rfl rfl (by decide +kernel) ?_) <;> have hp := True.intro)) <;> simp only [hp, hl, bne_self_eq_false, go_sem])
  refine loop_go (fun i : Nat => [(5, .int .i64 (i : Int))]) (fun _ => []) (fun i => x.length - i) (fun i => i ≤ x.length ∧ x.take i = y.take i) 0 ⟨Nat.zero_le _, by simp⟩ rfl rfl ?_
  intro i ⟨hi, he⟩ ih
  rcases Nat.lt_or_ge i x.length with h | h
  · have g1 : (i : Int) < x.length := by omega
    have g1' : (i : Int) < y.length := by omega
    have g2 : (0 : Int) ≤ i := by omega
    have g3 : x[i]? = some x[i] := List.getElem?_eq_getElem h
    have g4 : y[i]? = some (y[i]'(by omega)) := List.getElem?_eq_getElem (by omega)
    have g5 := wrap_succ h (by omega)
    by_cases hv : x[i] = (y[i]'(by omega))
    · simp only [g1, g1', g2, g3, g4, g5, hv, bne_self_eq_false, Bool.or_false, go_sem]
      repeat' ((first | ((first | apply qa | apply qb | apply qc | apply qd | apply qe | apply qf | apply qg | apply qh | apply qi | apply qj | apply qk) <;> intro hp) | ((first | refine ql rfl rfl (by decide +kernel) ?_ | refine qm _ rfl rfl (by decide +kernel) ?_) <;> have hp := True.intro)) <;> simp only [hp, g1, g1', g2, g3, g4, g5, hv, bne_self_eq_false, Bool.or_false, go_sem])
      exact ih (i + 1) ⟨h, by rw [List.take_add_one, List.take_add_one, he, g3, g4, hv]⟩ (by omega)
    · have hne : x ≠ y := by rintro rfl; exact hv rfl
      have hv2 := range_beq x[i] (y[i]'(by omega))
      rw [decide_eq_false hv] at hv2
      simp only [g1, g1', g2, g3, g4, g5, hv2, go_sem]
      repeat' ((first | ((first | apply qa | apply qb | apply qc | apply qd | apply qe | apply qf | apply qg | apply qh | apply qi | apply qj | apply qk) <;> intro hp) | ((first | refine ql rfl rfl (by decide +kernel) ?_ | refine qm _ rfl rfl (by decide +kernel) ?_) <;> have hp := True.intro)) <;> simp only [hp, g1, g1', g2, g3, g4, g5, hv2, go_sem])
      simp only [fin_mk, finV, resL, resV1, resIn, endA, listIn, Option.some_or, Option.none_or, oneOrTup, go_sem]
      rw [← hr]
      simp only [hne, decide_false]
  · have g1 : ¬ (i : Int) < x.length := by omega
    have g1' : ¬ (i : Int) < y.length := by omega
    simp only [g1, g1', go_sem]
    simp only [fin_mk, finV, resL, resV1, resIn, endA, listIn, Option.some_or, Option.none_or, oneOrTup, go_sem]
    rw [← hr]
    rw [List.take_of_length_le h, List.take_of_length_le (by omega)] at he
    simp only [he, decide_true]
theorem mail_beq (a b : Mail) : (a.Uid == b.Uid && (a.Flags == b.Flags && (a.Mod == b.Mod && a.Text == b.Text))) = decide (a = b) := by
  cases a; cases b; rw [Bool.eq_iff_iff]; simp
open Classical in
noncomputable def spSameMails : VM.Spec := { modes := [.rd, .rd], run := fun | [.lst 4 x', .lst 4 y'] => (decL Mail.dec x').bind fun x => (decL Mail.dec y').bind fun y => if x.length ≤ 4194304 ∧ y.length ≤ 4194304 then some (.bool (decide (x = y)), []) else none | _ => none, need := [] }
attribute [go_sem] spSameMails
theorem spSameMails_in {ins : List V} {r : V} {outs : List V} (h : spSameMails.run ins = some (r, outs)) : ∃ (x : (List Mail)) (y : (List Mail)), ins = [.lst 4 ((x).map Mail.enc), .lst 4 ((y).map Mail.enc)] ∧ (x.length ≤ 4194304 ∧ y.length ≤ 4194304) ∧ .bool (decide (x = y)) = r ∧ outs = [] := by
  unfold spSameMails at h
  simp only at h
  split at h
  · rename_i x' y'
    simp only [Option.bind_eq_some_iff] at h
    obtain ⟨x, h_x, y, h_y, h⟩ := h
    split at h
    case isFalse => cases h
    rename_i hc
    simp only [Option.some.injEq, Prod.mk.injEq] at h
    obtain ⟨h1, h2⟩ := h
    have h_x := decL_some (fun _ _ h => Mail.dec_some h) h_x
    subst h_x
    have h_y := decL_some (fun _ _ h => Mail.dec_some h) h_y
    subst h_y
    exact ⟨x, y, rfl, hc, h1, h2.symm⟩
  · cases h
open Classical in
noncomputable def spSameInts : VM.Spec := { modes := [.rd, .rd], run := fun | [.lst 1 x', .lst 1 y'] => (decL dInt x').bind fun x => (decL dInt y').bind fun y => if x.length ≤ 4194304 ∧ y.length ≤ 4194304 then some (.bool (decide (x = y)), []) else none | _ => none, need := [] }
attribute [go_sem] spSameInts
theorem spSameInts_in {ins : List V} {r : V} {outs : List V} (h : spSameInts.run ins = some (r, outs)) : ∃ (x : (List Int)) (y : (List Int)), ins = [.lst 1 ((x).map eInt), .lst 1 ((y).map eInt)] ∧ (x.length ≤ 4194304 ∧ y.length ≤ 4194304) ∧ .bool (decide (x = y)) = r ∧ outs = [] := by
  unfold spSameInts at h
  simp only at h
  split at h
  · rename_i x' y'
    simp only [Option.bind_eq_some_iff] at h
    obtain ⟨x, h_x, y, h_y, h⟩ := h
    split at h
    case isFalse => cases h
    rename_i hc
    simp only [Option.some.injEq, Prod.mk.injEq] at h
    obtain ⟨h1, h2⟩ := h
    have h_x := decL_some (fun _ _ h => dInt_some h) h_x
    subst h_x
    have h_y := decL_some (fun _ _ h => dInt_some h) h_y
    subst h_y
    exact ⟨x, y, rfl, hc, h1, h2.symm⟩
  · cases h
def sameE (a b : Edit) : Bool := decide (a = b)
open Classical in
noncomputable def spSameEdit : VM.Spec := { modes := [.rd, .rd], run := fun | [x', y'] => (Edit.dec x').bind fun x => (Edit.dec y').bind fun y => if x.le 4194304 ∧ y.le 4194304 then some (.bool (sameE x y), []) else none | _ => none, need := [] }
attribute [go_sem] spSameEdit
theorem spSameEdit_in {ins : List V} {r : V} {outs : List V} (h : spSameEdit.run ins = some (r, outs)) : ∃ (x : Edit) (y : Edit), ins = [Edit.enc x, Edit.enc y] ∧ (x.le 4194304 ∧ y.le 4194304) ∧ .bool (sameE x y) = r ∧ outs = [] := by
  unfold spSameEdit at h
  simp only at h
  split at h
  · rename_i x' y'
    simp only [Option.bind_eq_some_iff] at h
    obtain ⟨x, h_x, y, h_y, h⟩ := h
    split at h
    case isFalse => cases h
    rename_i hc
    simp only [Option.some.injEq, Prod.mk.injEq] at h
    obtain ⟨h1, h2⟩ := h
    have h_x := Edit.dec_some h_x
    subst h_x
    have h_y := Edit.dec_some h_y
    subst h_y
    exact ⟨x, y, rfl, hc, h1, h2.symm⟩
  · cases h
def sameL (a b : Line) : Bool := decide (a = b)
open Classical in
noncomputable def spSameLine : VM.Spec := { modes := [.rd, .rd], run := fun | [x', y'] => (Line.dec x').bind fun x => (Line.dec y').bind fun y => if x.le 4194304 ∧ y.le 4194304 then some (.bool (sameL x y), []) else none | _ => none, need := [] }
attribute [go_sem] spSameLine
theorem spSameLine_in {ins : List V} {r : V} {outs : List V} (h : spSameLine.run ins = some (r, outs)) : ∃ (x : Line) (y : Line), ins = [Line.enc x, Line.enc y] ∧ (x.le 4194304 ∧ y.le 4194304) ∧ .bool (sameL x y) = r ∧ outs = [] := by
  unfold spSameLine at h
  simp only at h
  split at h
  · rename_i x' y'
    simp only [Option.bind_eq_some_iff] at h
    obtain ⟨x, h_x, y, h_y, h⟩ := h
    split at h
    case isFalse => cases h
    rename_i hc
    simp only [Option.some.injEq, Prod.mk.injEq] at h
    obtain ⟨h1, h2⟩ := h
    have h_x := Line.dec_some h_x
    subst h_x
    have h_y := Line.dec_some h_y
    subst h_y
    exact ⟨x, y, rfl, hc, h1, h2.symm⟩
  · cases h
def T_laws_sameLine : Hints := ⟨lk [], lk [], lk [(0, [2, 3]), (1, [4])], lk []⟩
noncomputable def Phi_laws_sameLine : Tab := lk [(46, spSameSet)]
attribute [go_sem] T_laws_sameLine Phi_laws_sameLine
theorem phi_laws_sameLine : ∀ f sp, Phi_laws_sameLine f = some sp → FnOk Tryz.prog f sp ∧ ∀ n ∈ sp.need, n ∈ ([] : List String) := phi_cons ok_laws_sameSet (n0 rfl) (phi_nil)
theorem ok_laws_sameLine : FnOk Tryz.prog 14 spSameLine := by
  refine fn_ok (Φ := Phi_laws_sameLine) (T := T_laws_sameLine) phi_laws_sameLine mixed Tryz.func14 rfl rfl rfl (by decide) ?_
  intro ins r outs hr hl
  clear hl
  have hs := spSameLine_in hr
  clear hr
  obtain ⟨x, y, rfl, hc, hr, rfl⟩ := hs
  simp only [spSameLine, Tryz.f14, Go.VM.initS]
  obtain ⟨K, N, U, F, M, S, A⟩ := x
  obtain ⟨K', N', U', F', M', S', A'⟩ := y
  have l1 : S.length ≤ 4194304 := hc.1.1
  have l2 : S'.length ≤ 4194304 := hc.2.1
  clear hc
  simp only [l1, l2, go_sem]
  repeat' ((first | apply qa | apply qb | apply qc | apply qd | apply qe | apply qf | apply qg | apply qh | apply qi | apply qj | apply qk) <;> intro hp <;> simp only [hp, l1, l2, go_sem])
  all_goals (simp only [fin_mk, finV, resL, resV1, resIn, endA, listIn, Option.some_or, Option.none_or, oneOrTup, go_sem]; rw [← hr])
  all_goals (refine congrArg (fun b => some (V.bool b, [])) ?_; simp only [sameL]; rw [Bool.eq_iff_iff]; simp_all)
end Go.Proofs.YtonjbbfgdloljaaGreatDoor.L

