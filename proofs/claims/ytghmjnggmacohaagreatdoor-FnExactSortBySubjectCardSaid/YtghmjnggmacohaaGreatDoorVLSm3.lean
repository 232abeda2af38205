/- Contracts of functions, and the facts that they need. No condition. -/
import Derived.Test.YtghmjnggmacohaaGreatDoorVLS
import Derived.Test.YtghmjnggmacohaaGreatDoorVLShelf
import Derived.Test.YtghmjnggmacohaaGreatDoorVmShelf

import Derived.Test.YtghmjnggmacohaaGreatDoorVmBase
namespace Go.Proofs.YtghmjnggmacohaaGreatDoor.L
open Go Go.VM
set_option maxRecDepth 100000
set_option maxHeartbeats 4000000
set_option linter.unusedSimpArgs false
set_option linter.unusedVariables false
open Classical in
noncomputable def spSplit : VM.Spec := { modes := [.rd, .rd], run := fun | [.str s, .str t] => if 1 ≤ t.length ∧ s.length < 4294967281 then some (.lst 1 ((Lib.splitK t 0 (Lib.count s t) s).map eStr), []) else none | _ => none, need := ["internal/bytealg.MaxLen"] }
attribute [go_sem] spSplit
theorem spSplit_in {ins : List V} {r : V} {outs : List V} (h : spSplit.run ins = some (r, outs)) : ∃ (s : (List UInt8)) (t : (List UInt8)), ins = [.str s, .str t] ∧ (1 ≤ t.length ∧ s.length < 4294967281) ∧ .lst 1 ((Lib.splitK t 0 (Lib.count s t) s).map eStr) = r ∧ outs = [] := by
  unfold spSplit at h
  simp only at h
  split at h
  · rename_i s t
    split at h
    case isFalse => cases h
    rename_i hc
    simp only [Option.some.injEq, Prod.mk.injEq] at h
    obtain ⟨h1, h2⟩ := h
    exact ⟨s, t, rfl, hc, h1, h2.symm⟩
  · cases h
theorem ok_strings_Split : FnOk Tryz.prog 89 spSplit :=
  split_ok Tryz.func89 rfl (by kernel_rfl) (g := 0) (by kernel_rfl) (by simp [spSplit]) rfl (fun _ _ _ h => spSplit_in h) Tryz.strings_Split
def consHead (b : UInt8) : List (List UInt8) → List (List UInt8)
  | [] => [[b]]
  | h :: t => (b :: h) :: t
def splitOn (c : UInt8) : List UInt8 → List (List UInt8)
  | [] => [[]]
  | b :: s => if b = c then [] :: splitOn c s else consHead b (splitOn c s)
theorem splitK_skip {c b : UInt8} (hb : b ≠ c) (s : List UInt8) (k : Nat) : Lib.splitK [c] 0 k (b :: s) = consHead b (Lib.splitK [c] 0 k s) := by
  cases k with
  | zero => rfl
  | succ k =>
    have hp : [c].isPrefixOf (b :: s) = false := by simp [List.isPrefixOf]; exact fun h => hb h.symm
    rw [Lib.splitK, Lib.splitK]
    have hge := Lib.index_ge s [c]
    by_cases hi : Lib.index s [c] = -1
    · have h1 : Lib.index (b :: s) [c] = -1 := by simp [Lib.index, hp, hi]
      rw [h1, hi]; rfl
    · have h0 : (Lib.index s [c] == -1) = false := beq_eq_false_iff_ne.2 hi
      have h1 : Lib.index (b :: s) [c] = Lib.index s [c] + 1 := by simp [Lib.index, hp, h0]
      have h2 : (Lib.index s [c] + 1 == -1) = false := beq_eq_false_iff_ne.2 (by omega)
      rw [h1, h0, h2]
      obtain ⟨i, hi'⟩ : ∃ i : Nat, Lib.index s [c] = i := ⟨(Lib.index s [c]).toNat, by omega⟩
      rw [hi']
      have e1 : ((i : Int) + 1).toNat = i + 1 := by omega
      rw [e1]
      simp [consHead]
theorem split_eq (c : UInt8) (s : List UInt8) : Lib.splitK [c] 0 (Lib.count s [c]) s = splitOn c s := by
  rw [Lib.count_one]
  induction s with
  | nil => rfl
  | cons b s ih =>
    by_cases hb : b = c
    · subst hb
      rw [List.count_cons_self, splitOn, if_pos rfl, ← ih, Lib.splitK]
      have h1 : Lib.index (b :: s) [b] = 0 := by simp [Lib.index, List.isPrefixOf]
      rw [h1]; simp
    · rw [List.count_cons_of_ne hb, splitK_skip hb, ih, splitOn, if_neg hb]
def notB (c : UInt8) (b : UInt8) : Bool := b != c
theorem splitOn_first (c : UInt8) (s : List UInt8) : splitOn c s = s.takeWhile (notB c) :: (if c ∈ s then splitOn c (s.drop ((s.takeWhile (notB c)).length + 1)) else []) := by
  induction s with
  | nil => simp [splitOn]
  | cons b s ih =>
    rw [splitOn]
    by_cases hb : b = c
    · subst hb
      simp [List.takeWhile_cons, notB]
    · have h1 : notB c b = true := by simpa [notB] using hb
      rw [if_neg hb, ih, consHead]
      simp only [List.takeWhile_cons, h1, if_true, List.mem_cons, List.length_cons, List.drop_succ_cons]
      congr 1
      by_cases hc : c ∈ s
      · simp [hc]
      · simp [hc, Ne.symm hb]
theorem splitOn_len (c : UInt8) (s : List UInt8) : (splitOn c s).length ≤ s.length + 1 := by
  induction s with
  | nil => simp [splitOn]
  | cons b s ih =>
    rw [splitOn]
    split
    · simp; omega
    · cases h : splitOn c s with
      | nil => simp [consHead]
      | cons x t => rw [h] at ih; simp [consHead] at ih ⊢; omega
theorem splitOn_mem (c : UInt8) (s : List UInt8) : ∀ x ∈ splitOn c s, x.length ≤ s.length := by
  induction s with
  | nil => simp [splitOn]
  | cons b s ih =>
    rw [splitOn]
    split
    · intro x hx
      rcases List.mem_cons.1 hx with rfl | hx
      · simp
      · have := ih x hx; simp; omega
    · cases h : splitOn c s with
      | nil => intro x hx; simp [consHead] at hx; subst hx; simp
      | cons y t =>
        rw [h] at ih
        intro x hx
        simp only [consHead] at hx
        rcases List.mem_cons.1 hx with rfl | hx
        · have := ih y (by simp); simp; omega
        · have := ih x (by simp [hx]); simp; omega
def hit (nm l : List UInt8) : Bool := (lowS nm ++ [58]).isPrefixOf (lowS l)
def headIn (nm : List UInt8) : List (List UInt8) → List UInt8 × Bool
  | [] => ([], false)
  | l :: ls => if l = [] then ([], false) else if hit nm l = true then (trim (l.drop (nm.length + 1)), true) else headIn nm ls
def headOf (t nm : List UInt8) : List UInt8 × Bool := headIn nm (splitOn 10 t)
theorem low1_colon (b : UInt8) : (low1 b == 58) = (b == 58) := by
  unfold low1
  split
  · rename_i h
    have h1 : (b + 32).toNat = b.toNat + 32 := by
      rw [UInt8.toNat_add]
      have e : UInt8.toNat 32 = 32 := rfl
      rw [e]; omega
    have e1 : ¬ b = 58 := by rintro rfl; exact absurd h.1 (by decide)
    have e2 : ¬ b + 32 = 58 := by
      intro h2
      rw [h2] at h1
      have : (58 : UInt8).toNat = 58 := rfl
      omega
    rw [beq_eq_false_iff_ne.2 e1, beq_eq_false_iff_ne.2 e2]
  · rfl
theorem hit_short {nm l : List UInt8} (h : l.length ≤ nm.length) : hit nm l = false := by
  unfold hit
  apply isPrefixOf_short
  simp [lowS]; omega
theorem hit_long {nm l : List UInt8} (h : nm.length < l.length) : hit nm l = ((lowS (l.take nm.length) == lowS nm) && (l[nm.length] == 58)) := by
  have e : (lowS l).take (nm.length + 1) = lowS (l.take nm.length) ++ [low1 l[nm.length]] := by
    simp only [lowS, ← List.map_take]
    rw [take_succ' h, List.map_append]; rfl
  unfold hit
  rw [isPrefixOf_take]
  have hl : (lowS nm ++ [58]).length = nm.length + 1 := by simp [lowS]
  rw [hl, e, ← low1_colon]
  have h1 : (lowS (l.take nm.length)).length = (lowS nm).length := by simp [lowS]; omega
  rw [Bool.eq_iff_iff]
  simp only [beq_iff_eq, Bool.and_eq_true]
  constructor
  · intro h2
    have := List.append_inj h2 h1
    exact ⟨this.1, by simpa using this.2⟩
  · rintro ⟨h2, h3⟩
    rw [h2, h3]
open Classical in
noncomputable def spHeadOf : VM.Spec := { modes := [.rd, .rd], run := fun | [.str t, .str nm] => if t.length ≤ 4194304 ∧ nm.length ≤ 4194304 then some (.tup [.str ((headOf t nm).1), .bool ((headOf t nm).2)], []) else none | _ => none, need := ["internal/bytealg.MaxLen"] }
attribute [go_sem] spHeadOf
theorem spHeadOf_in {ins : List V} {r : V} {outs : List V} (h : spHeadOf.run ins = some (r, outs)) : ∃ (t : (List UInt8)) (nm : (List UInt8)), ins = [.str t, .str nm] ∧ (t.length ≤ 4194304 ∧ nm.length ≤ 4194304) ∧ .tup [.str ((headOf t nm).1), .bool ((headOf t nm).2)] = r ∧ outs = [] := by
  unfold spHeadOf at h
  simp only at h
  split at h
  · rename_i t nm
    split at h
    case isFalse => cases h
    rename_i hc
    simp only [Option.some.injEq, Prod.mk.injEq] at h
    obtain ⟨h1, h2⟩ := h
    exact ⟨t, nm, rfl, hc, h1, h2.symm⟩
  · cases h
def T_impl_HeadOf : Hints := ⟨lk [], lk [(2, [1, 11, 12, 13])], lk [(0, [0, 1]), (1, [1, 11, 12, 13]), (2, [1, 11, 12, 13, 14]), (3, [1, 7, 11, 12, 13]), (4, [1, 7, 11, 12, 13, 18]), (5, [1, 7, 8, 9, 11, 12, 13]), (6, [1, 7, 8, 11, 12, 13, 28]), (7, [4, 5]), (8, [1, 11, 12, 13]), (9, [4, 5])], lk []⟩
noncomputable def Phi_impl_HeadOf : Tab := lk [(91, spLow), (89, spSplit), (90, spCutPrefix), (92, spTrim)]
attribute [go_sem] T_impl_HeadOf Phi_impl_HeadOf
theorem phi_impl_HeadOf : ∀ f sp, Phi_impl_HeadOf f = some sp → FnOk Tryz.prog f sp ∧ ∀ n ∈ sp.need, n ∈ (["internal/bytealg.MaxLen"] : List String) := phi_cons ok_impl_lower (n0 rfl) (phi_cons ok_strings_Split (fun n (h : n ∈ (["internal/bytealg.MaxLen"] : List String)) => by simp only [List.mem_cons, List.not_mem_nil, or_false] at h; rcases h with rfl <;> simp) (phi_cons ok_strings_CutPrefix (n0 rfl) (phi_cons ok_strings_Trim (n0 rfl) (phi_nil))))
theorem ok_impl_HeadOf : FnOk Tryz.prog 63 spHeadOf := by
  refine fn_ok (Φ := Phi_impl_HeadOf) (T := T_impl_HeadOf) phi_impl_HeadOf mixed Tryz.func63 rfl rfl rfl (by decide) ?_
  intro ins r outs hr hl
  clear hl
  have hs := spHeadOf_in hr
  clear hr
  obtain ⟨t, nm, rfl, hc, hr, rfl⟩ := hs
  simp only [spHeadOf, Tryz.f63, Go.VM.initS]
  obtain ⟨ht, hn⟩ := hc
  have b1 : t.length < 4294967281 := by omega
  have b2 : (1 : Nat) ≤ [(10 : UInt8)].length := by decide
  have hS := split_eq 10 t
  have e32 : (([32] : List UInt8) = [32]) = True := eq_self _
  simp only [b1, hS, go_sem]
  repeat' ((first | apply qa | apply qb | apply qc | apply qd | apply qe | apply qf | apply qg | apply qh | apply qi | apply qj | apply qk) <;> intro hp <;> simp only [hp, b1, hS, go_sem])
  have hL1 := splitOn_len 10 t
  have hL2 := splitOn_mem 10 t
  have hO : headOf t nm = headIn nm (splitOn 10 t) := rfl
  rw [hO] at hr
  clear hO hS
  generalize splitOn 10 t = L at *
  refine loop_go (fun i : Nat => [(13, .int .i64 (i : Int))]) (fun _ => []) (fun i => L.length - i) (fun i => i ≤ L.length ∧ headIn nm (L.drop i) = headIn nm L) 0 ⟨Nat.zero_le _, rfl⟩ rfl rfl ?_
  intro i ⟨hi, hh⟩ ih
  rcases Nat.lt_or_ge i L.length with h | h
  · have g1 : (i : Int) < L.length := by omega
    have g2 : (0 : Int) ≤ i := by omega
    have g3 : L[i]? = some L[i] := List.getElem?_eq_getElem h
    have g5 := wrap_succ h (by omega)
    have hd := List.drop_eq_getElem_cons h
    rw [hd, headIn] at hh
    have hx := hL2 _ (List.getElem_mem h)
    have c1 : L[i].length ≤ 1099511627776 := by omega
    have c2 : (lowS L[i]).length ≤ 1099511627776 := by rw [lowS_len]; exact c1
    have c3 : nm.length ≤ 1099511627776 := by omega
    have c4 : (lowS nm).length + 1 ≤ 1099511627776 := by rw [lowS_len]; omega
    have c5 : (lowS nm).length + 1 ≤ 9223372036854775807 := by rw [lowS_len]; omega
    cases he : (L[i] == []) with
    | true =>
      have he' : L[i] = [] := by simpa using he
      rw [if_pos he'] at hh
      simp only [g1, g2, g3, g5, he, go_sem]
      repeat' ((first | apply qa | apply qb | apply qc | apply qd | apply qe | apply qf | apply qg | apply qh | apply qi | apply qj | apply qk) <;> intro hp <;> simp only [hp, g1, g2, g3, g5, he, go_sem])
      simp only [fin_mk, finV, resL, resV1, resIn, endA, listIn, Option.some_or, Option.none_or, oneOrTup, go_sem]
      rw [← hr]
      rw [← hh]
    | false =>
      have he' : ¬ L[i] = [] := by simpa using he
      rw [if_neg he'] at hh
      cases hp : hit nm L[i] with
      | false =>
        rw [hp, if_neg (by simp)] at hh
        have hp' : (lowS nm ++ [58]).isPrefixOf (lowS L[i]) = false := hp
        have ih' := ih (i + 1) ⟨h, hh⟩ (by omega)
        simp only [g1, g2, g3, g5, he, hp', c1, c2, c3, c4, c5, List.length_append, go_sem]
        repeat' ((first | apply qa | apply qb | apply qc | apply qd | apply qe | apply qf | apply qg | apply qh | apply qi | apply qj | apply qk) <;> intro hp <;> simp only [hp, g1, g2, g3, g5, he, hp', c1, c2, c3, c4, c5, List.length_append, go_sem])
        exact ih'
      | true =>
        rw [hp, if_pos rfl] at hh
        have hp' : (lowS nm ++ [58]).isPrefixOf (lowS L[i]) = true := hp
        have hlen := isPrefixOf_len hp'
        simp only [List.length_append, List.length_cons, List.length_nil, lowS_len] at hlen
        have d1 : cutPrefix (lowS L[i]) (lowS nm ++ [58]) = (lowS L[i]).drop (nm.length + 1) := by simp [cutPrefix, hp', lowS_len]
        have d2 : ((lowS L[i]).drop (nm.length + 1)).length = L[i].length - (nm.length + 1) := by rw [List.length_drop, lowS_len]
        have w1 : IntKind.i64.wrap ((L[i].length : Int) - ((L[i].length - (nm.length + 1) : Nat) : Int)) = ((nm.length + 1 : Nat) : Int) := (wrap64 (by omega) (by omega)).trans (by omega)
        have g6 : (0 : Int) ≤ ((nm.length + 1 : Nat) : Int) := by omega
        have g7 : nm.length + 1 ≤ L[i].length := by omega
        have g8 : (L[i].drop (nm.length + 1)).length ≤ 1099511627776 := by rw [List.length_drop]; omega
        simp only [g1, g2, g3, g5, he, hp', c1, c2, c3, c4, c5, d1, d2, w1, g6, g7, g8, e32, List.length_append, List.take_length, Nat.le_refl, go_sem]
        repeat' ((first | apply qa | apply qb | apply qc | apply qd | apply qe | apply qf | apply qg | apply qh | apply qi | apply qj | apply qk) <;> intro hp <;> simp only [hp, g1, g2, g3, g5, he, hp', c1, c2, c3, c4, c5, d1, d2, w1, g6, g7, g8, e32, List.length_append, List.take_length, Nat.le_refl, go_sem])
        simp only [fin_mk, finV, resL, resV1, resIn, endA, listIn, Option.some_or, Option.none_or, oneOrTup, go_sem]
        rw [← hr]
        rw [← hh]
  · have g1 : ¬ (i : Int) < L.length := by omega
    rw [List.drop_of_length_le h, headIn] at hh
    simp only [g1, go_sem]
    repeat' ((first | apply qa | apply qb | apply qc | apply qd | apply qe | apply qf | apply qg | apply qh | apply qi | apply qj | apply qk) <;> intro hp <;> simp only [hp, g1, go_sem])
    simp only [fin_mk, finV, resL, resV1, resIn, endA, listIn, Option.some_or, Option.none_or, oneOrTup, go_sem]
    rw [← hr]
    rw [← hh]
theorem takeWhile_at {α : Type} {p : α → Bool} : ∀ {l : List α} {n : Nat}, (∀ x ∈ l.take n, p x = true) → (h : n < l.length) → p l[n] = false → l.takeWhile p = l.take n
  | [], n, _, h, _ => by simp at h
  | b :: l, 0, _, _, hp => by simp only [List.getElem_cons_zero] at hp; simp [List.takeWhile_cons, hp]
  | b :: l, n + 1, ha, h, hp => by
    have h1 : p b = true := ha b (by simp)
    rw [List.takeWhile_cons, if_pos h1, List.take_succ_cons, takeWhile_at (n := n) (fun x hx => ha x (by simp [hx])) (by simpa using h) (by simpa using hp)]
theorem takeWhile_mem {α : Type} {p : α → Bool} {l : List α} {x : α} (h : x ∈ l.takeWhile p) : p x = true := by
  induction l with
  | nil => simp at h
  | cons b l ih =>
    rw [List.takeWhile_cons] at h
    split at h
    · rename_i hb
      rcases List.mem_cons.1 h with rfl | h
      · exact hb
      · exact ih h
    · simp at h
theorem takeWhile_all {α : Type} {p : α → Bool} {l : List α} (h : ∀ x ∈ l, p x = true) : l.takeWhile p = l := by
  induction l with
  | nil => rfl
  | cons b l ih => rw [List.takeWhile_cons, if_pos (h b (by simp)), ih fun x hx => h x (by simp [hx])]
def lineAt (t : List UInt8) (a : Nat) : List UInt8 := (t.drop a).takeWhile (notB 10)
def nextAt (t : List UInt8) (a : Nat) : Int := if t.length ≤ a then -1 else if 10 ∈ t.drop a then ((a + (lineAt t a).length + 1 : Nat) : Int) else t.length
theorem notB_bool (b : UInt8) : notB 10 b = !((b.toNat : Int) == 10) := by
  unfold notB
  have : (b == 10) = ((b.toNat : Int) == 10) := by
    rw [Bool.eq_iff_iff, beq_iff_eq, beq_iff_eq]
    constructor
    · rintro rfl; rfl
    · intro h
      have : b.toNat = (10 : UInt8).toNat := by show b.toNat = 10; omega
      exact UInt8.toNat_inj.1 this
  rw [← this]; rfl
theorem take_drop_succ {t : List UInt8} {a i : Nat} (ha : a ≤ i) (h : i < t.length) : (t.take (i + 1)).drop a = (t.take i).drop a ++ [t[i]] := by
  rw [take_succ' h, List.drop_append_of_le_length (by rw [List.length_take]; omega)]
open Classical in
noncomputable def spLine : VM.Spec := { modes := [.rd, .rd], run := fun | [.str t, .int .i64 a] => if t.length ≤ 4194304 ∧ 0 ≤ a then some (.tup [.str (lineAt t a.toNat), .int .i64 (nextAt t a.toNat)], []) else none | _ => none, need := [] }
attribute [go_sem] spLine
theorem spLine_in {ins : List V} {r : V} {outs : List V} (h : spLine.run ins = some (r, outs)) : ∃ (t : (List UInt8)) (a : Int), ins = [.str t, .int .i64 a] ∧ (t.length ≤ 4194304 ∧ 0 ≤ a) ∧ .tup [.str (lineAt t a.toNat), .int .i64 (nextAt t a.toNat)] = r ∧ outs = [] := by
  unfold spLine at h
  simp only at h
  split at h
  · rename_i t a
    split at h
    case isFalse => cases h
    rename_i hc
    simp only [Option.some.injEq, Prod.mk.injEq] at h
    obtain ⟨h1, h2⟩ := h
    exact ⟨t, a, rfl, hc, h1, h2.symm⟩
  · cases h
def T_spec_l07Line : Hints := ⟨lk [], lk [(4, [0, 1, 6])], lk [(0, [0, 1]), (1, [0, 1, 10]), (2, [4, 5]), (3, [0, 1, 6]), (4, [0, 1, 6, 15]), (6, [0, 1, 6, 21]), (7, [4, 5]), (5, [0, 1, 6]), (8, [4, 5])], lk []⟩
noncomputable def Phi_spec_l07Line : Tab := lk []
attribute [go_sem] T_spec_l07Line Phi_spec_l07Line
theorem phi_spec_l07Line : ∀ f sp, Phi_spec_l07Line f = some sp → FnOk Tryz.prog f sp ∧ ∀ n ∈ sp.need, n ∈ ([] : List String) := phi_nil
theorem ok_spec_l07Line : FnOk Tryz.prog 79 spLine := by
  refine fn_ok (Φ := Phi_spec_l07Line) (T := T_spec_l07Line) phi_spec_l07Line mixed Tryz.func79 rfl rfl rfl (by decide) ?_
  intro ins r outs hr hl
  clear hl
  have hs := spLine_in hr
  clear hr
  obtain ⟨t, a, rfl, hc, hr, rfl⟩ := hs
  simp only [spLine, Tryz.f79, Go.VM.initS]
  obtain ⟨ht, h0⟩ := hc
  obtain ⟨a, rfl⟩ : ∃ n : Nat, a = n := ⟨a.toNat, by omega⟩
  simp only [Int.toNat_natCast] at hr
  rcases Nat.lt_or_ge a t.length with hlt | hge
  · have q1 : ¬ (t.length : Int) ≤ a := by omega
    have hN : ¬ t.length ≤ a := by omega
    simp only [q1, go_sem]
    repeat' ((first | apply qa | apply qb | apply qc | apply qd | apply qe | apply qf | apply qg | apply qh | apply qi | apply qj | apply qk) <;> intro hp <;> simp only [hp, q1, go_sem])
    refine loop_go (fun i : Nat => [(6, .int .i64 (i : Int))]) (fun _ => []) (fun i => t.length - i) (fun i => a ≤ i ∧ i ≤ t.length ∧ ∀ x ∈ (t.take i).drop a, notB 10 x = true) a ⟨Nat.le_refl _, by omega, by rw [List.drop_of_length_le (by rw [List.length_take]; omega)]; simp⟩ rfl rfl ?_
    intro i ⟨hi1, hi, ha⟩ ih
    have q2 : (0 : Int) ≤ a := by omega
    have q3 : a ≤ i := hi1
    rcases Nat.lt_or_ge i t.length with h | h
    · have g1 : (i : Int) < t.length := by omega
      have g2 : (0 : Int) ≤ i := by omega
      have g3 : t[i]? = some t[i] := List.getElem?_eq_getElem h
      have g4 : i ≤ t.length := by omega
      have g5 := wrap_succ h (by omega)
      have hi2 : i - a < (t.drop a).length := by rw [List.length_drop]; omega
      have hget : (t.drop a)[i - a] = t[i] := by rw [List.getElem_drop]; congr 1; omega
      have htk : (t.drop a).take (i - a) = (t.take i).drop a := by rw [List.drop_take]
      cases hb : ((t[i].toNat : Int) == 10) with
      | true =>
        have e1 : lineAt t a = (t.take i).drop a := by
          unfold lineAt
          rw [takeWhile_at (n := i - a) (by rw [htk]; exact ha) hi2 (by rw [hget, notB_bool, hb]; rfl), htk]
        have e2 : nextAt t a = ((i + 1 : Nat) : Int) := by
          unfold nextAt
          have hmem : (10 : UInt8) ∈ t.drop a := by
            have : t[i] = 10 := by
              have h1 : t[i].toNat = (10 : UInt8).toNat := by simp only [beq_iff_eq] at hb; show t[i].toNat = 10; omega
              exact UInt8.toNat_inj.1 h1
            rw [← this, ← hget]; exact List.getElem_mem _
          rw [if_neg hN, if_pos hmem, e1, List.length_drop, List.length_take]
          congr 1; omega
        simp only [g1, g2, g3, g4, g5, q2, q3, hb, go_sem]
        repeat' ((first | apply qa | apply qb | apply qc | apply qd | apply qe | apply qf | apply qg | apply qh | apply qi | apply qj | apply qk) <;> intro hp <;> simp only [hp, g1, g2, g3, g4, g5, q2, q3, hb, go_sem])
        simp only [fin_mk, finV, resL, resV1, resIn, endA, listIn, Option.some_or, Option.none_or, oneOrTup, go_sem]
        rw [← hr]
        rw [e1, e2]
      | false =>
        have ih' := ih (i + 1) ⟨by omega, h, by
          rw [take_drop_succ hi1 h]
          intro x hx
          rcases List.mem_append.1 hx with hx | hx
          · exact ha x hx
          · simp only [List.mem_singleton] at hx; rw [hx, notB_bool, hb]; rfl⟩ (by omega)
        simp only [g1, g2, g3, g5, hb, go_sem]
        repeat' ((first | apply qa | apply qb | apply qc | apply qd | apply qe | apply qf | apply qg | apply qh | apply qi | apply qj | apply qk) <;> intro hp <;> simp only [hp, g1, g2, g3, g5, hb, go_sem])
        exact ih'
    · have g1 : ¬ (i : Int) < t.length := by omega
      have g4 : a ≤ t.length := by omega
      have hall : ∀ x ∈ t.drop a, notB 10 x = true := by rw [List.take_of_length_le h] at ha; exact ha
      have e1 : lineAt t a = t.drop a := takeWhile_all hall
      have e2 : nextAt t a = t.length := by
        unfold nextAt
        rw [if_neg hN, if_neg]
        intro hm
        have := hall _ hm
        simp [notB] at this
      simp only [g1, q2, g4, List.take_length, Nat.le_refl, go_sem]
      repeat' ((first | apply qa | apply qb | apply qc | apply qd | apply qe | apply qf | apply qg | apply qh | apply qi | apply qj | apply qk) <;> intro hp <;> simp only [hp, g1, q2, g4, List.take_length, Nat.le_refl, go_sem])
      simp only [fin_mk, finV, resL, resV1, resIn, endA, listIn, Option.some_or, Option.none_or, oneOrTup, go_sem]
      rw [← hr]
      rw [e1, e2]
  · have q1 : (t.length : Int) ≤ a := by omega
    simp only [q1, go_sem]
    repeat' ((first | apply qa | apply qb | apply qc | apply qd | apply qe | apply qf | apply qg | apply qh | apply qi | apply qj | apply qk) <;> intro hp <;> simp only [hp, q1, go_sem])
    simp only [fin_mk, finV, resL, resV1, resIn, endA, listIn, Option.some_or, Option.none_or, oneOrTup, go_sem]
    rw [← hr]
    rw [lineAt, nextAt, if_pos hge, List.drop_of_length_le hge]; rfl
def T_spec_HeadOf : Hints := ⟨lk [], lk [(2, [0, 1, 6])], lk [(0, [0, 1]), (1, [0, 1, 6]), (2, [0, 1, 7, 8]), (3, [0, 1, 7, 8, 21]), (4, [4, 5]), (5, [0, 1, 7, 8, 9]), (6, [0, 1, 7, 8, 9, 42]), (7, [4, 5]), (8, [0, 1, 6])], lk []⟩
noncomputable def Phi_spec_HeadOf : Tab := lk [(79, spLine), (80, spLow), (81, spTrim1)]
attribute [go_sem] T_spec_HeadOf Phi_spec_HeadOf
theorem phi_spec_HeadOf : ∀ f sp, Phi_spec_HeadOf f = some sp → FnOk Tryz.prog f sp ∧ ∀ n ∈ sp.need, n ∈ (["internal/bytealg.MaxLen"] : List String) := phi_cons ok_spec_l07Line (n0 rfl) (phi_cons ok_spec_l06Low (n0 rfl) (phi_cons ok_spec_l07Trim (n0 rfl) (phi_nil)))
theorem ok_spec_HeadOf : FnOk Tryz.prog 55 spHeadOf := by
  refine fn_ok (Φ := Phi_spec_HeadOf) (T := T_spec_HeadOf) phi_spec_HeadOf mixed Tryz.func55 rfl rfl rfl (by decide) ?_
  intro ins r outs hr hl
  clear hl
  have hs := spHeadOf_in hr
  clear hr
  obtain ⟨t, nm, rfl, hc, hr, rfl⟩ := hs
  simp only [spHeadOf, Tryz.f55, Go.VM.initS]
  obtain ⟨ht, hn⟩ := hc
  simp only [go_sem]
  repeat' ((first | apply qa | apply qb | apply qc | apply qd | apply qe | apply qf | apply qg | apply qh | apply qi | apply qj | apply qk) <;> intro hp <;> simp only [hp, go_sem])
  refine loop_go (fun a : Nat => [(6, .int .i64 (a : Int))]) (fun _ => []) (fun a => t.length - a) (fun a => a ≤ t.length ∧ headIn nm (splitOn 10 (t.drop a)) = headOf t nm) 0 ⟨Nat.zero_le _, rfl⟩ rfl rfl ?_
  intro a ⟨ha, hh⟩ ih
  have q2 : (0 : Int) ≤ a := by omega
  rcases Nat.lt_or_ge a t.length with h | h
  · have hN : ¬ t.length ≤ a := by omega
    have hn0 : 0 ≤ nextAt t a := by unfold nextAt; rw [if_neg hN]; split <;> omega
    have q3 : ¬ nextAt t a < 0 := by omega
    have hF := splitOn_first 10 (t.drop a)
    have hle : lineAt t a = (t.drop a).takeWhile (notB 10) := rfl
    rw [← hle] at hF
    rw [hF, headIn] at hh
    have hll : (lineAt t a).length ≤ t.length := by
      have := (List.takeWhile_sublist (l := t.drop a) (notB 10)).length_le
      rw [List.length_drop] at this
      rw [hle]; omega
    generalize hl : lineAt t a = l at *
    cases he : (l == []) with
    | true =>
      have he' : l = [] := by simpa using he
      rw [if_pos he'] at hh
      simp only [ht, q2, q3, hl, he, Int.toNat_natCast, go_sem]
      repeat' ((first | apply qa | apply qb | apply qc | apply qd | apply qe | apply qf | apply qg | apply qh | apply qi | apply qj | apply qk) <;> intro hp <;> simp only [hp, ht, q2, q3, hl, he, Int.toNat_natCast, go_sem])
      simp only [fin_mk, finV, resL, resV1, resIn, endA, listIn, Option.some_or, Option.none_or, oneOrTup, go_sem]
      rw [← hr]
      rw [← hh]
    | false =>
      have he' : ¬ l = [] := by simpa using he
      rw [if_neg he'] at hh
      have c1 : nm.length ≤ 1099511627776 := by omega
      cases hp : hit nm l with
      | true =>
        rw [hp, if_pos rfl] at hh
        have hlt : nm.length < l.length := by
          rcases Nat.lt_or_ge nm.length l.length with h1 | h1
          · exact h1
          · rw [hit_short h1] at hp; cases hp
        rw [hit_long hlt, Bool.and_eq_true] at hp
        obtain ⟨p1, p2⟩ := hp
        have p2' : ((l[nm.length].toNat : Int) == 58) = true := by
          have : l[nm.length] = 58 := by simpa using p2
          rw [this]; rfl
        have g1 : (nm.length : Int) < l.length := by omega
        have g2 : (0 : Int) ≤ nm.length := by omega
        have g3 : l[nm.length]? = some l[nm.length] := List.getElem?_eq_getElem hlt
        have g4 : nm.length ≤ l.length := by omega
        have g5 : IntKind.i64.wrap ((nm.length : Int) + 1) = ((nm.length + 1 : Nat) : Int) := wrap_succ hlt (by omega)
        have g6 : (0 : Int) ≤ ((nm.length + 1 : Nat) : Int) := by omega
        have g7 : nm.length + 1 ≤ l.length := by omega
        have g8 : (l.take nm.length).length ≤ 1099511627776 := by rw [List.length_take]; omega
        have g9 : (l.drop (nm.length + 1)).length ≤ 1099511627776 := by rw [List.length_drop]; omega
        simp only [ht, q2, q3, hl, he, c1, g1, g2, g3, g4, g5, g6, g7, g8, g9, p1, p2', Int.toNat_natCast, List.drop_zero, List.take_length, Nat.zero_le, Nat.le_refl, go_sem]
        repeat' ((first | apply qa | apply qb | apply qc | apply qd | apply qe | apply qf | apply qg | apply qh | apply qi | apply qj | apply qk) <;> intro hp <;> simp only [hp, ht, q2, q3, hl, he, c1, g1, g2, g3, g4, g5, g6, g7, g8, g9, p1, p2', Int.toNat_natCast, List.drop_zero, List.take_length, Nat.zero_le, Nat.le_refl, go_sem])
        simp only [fin_mk, finV, resL, resV1, resIn, endA, listIn, Option.some_or, Option.none_or, oneOrTup, go_sem]
        rw [← hr]
        rw [← hh]
      | false =>
        rw [hp, if_neg (by simp)] at hh
        obtain ⟨b, hb, hb1, hb2⟩ : ∃ b : Nat, nextAt t a = b ∧ b ≤ t.length ∧ a < b ∧ headIn nm (splitOn 10 (t.drop b)) = headOf t nm := by
          unfold nextAt
          rw [if_neg hN, hl]
          by_cases hm : (10 : UInt8) ∈ t.drop a
          · rw [if_pos hm] at hh ⊢
            have hlt : l.length < (t.drop a).length := by
              rcases Nat.lt_or_ge l.length (t.drop a).length with h1 | h1
              · exact h1
              · exfalso
                have e1 : l = t.drop a := (List.takeWhile_sublist (l := t.drop a) (notB 10)).eq_of_length_le (by rw [← hle]; exact h1) |> fun e => hle.trans e
                have e2 : (10 : UInt8) ∈ l := by rw [e1]; exact hm
                rw [hle] at e2
                have := takeWhile_mem e2
                simp [notB] at this
            rw [List.length_drop] at hlt
            refine ⟨_, rfl, by omega, by omega, ?_⟩
            rw [← hh, List.drop_drop]
            congr 3
          · rw [if_neg hm] at hh ⊢
            refine ⟨_, rfl, Nat.le_refl _, h, ?_⟩
            rw [← hh, List.drop_length]; rfl
        have ih' := ih b ⟨hb1, hb2.2⟩ (by omega)
        rw [← hb] at ih'
        rcases Nat.lt_or_ge nm.length l.length with hlt | hge
        · rw [hit_long hlt] at hp
          have g1 : (nm.length : Int) < l.length := by omega
          have g2 : (0 : Int) ≤ nm.length := by omega
          have g3 : l[nm.length]? = some l[nm.length] := List.getElem?_eq_getElem hlt
          have g4 : nm.length ≤ l.length := by omega
          have g8 : (l.take nm.length).length ≤ 1099511627776 := by rw [List.length_take]; omega
          cases p1 : (lowS (l.take nm.length) == lowS nm) with
          | false =>
            simp only [ht, q2, q3, hl, he, c1, g1, g2, g3, g4, g8, p1, Int.toNat_natCast, List.drop_zero, Nat.zero_le, go_sem]
            repeat' ((first | apply qa | apply qb | apply qc | apply qd | apply qe | apply qf | apply qg | apply qh | apply qi | apply qj | apply qk) <;> intro hp <;> simp only [hp, ht, q2, q3, hl, he, c1, g1, g2, g3, g4, g8, p1, Int.toNat_natCast, List.drop_zero, Nat.zero_le, go_sem])
            exact ih'
          | true =>
            rw [p1, Bool.true_and] at hp
            have p2' : ((l[nm.length].toNat : Int) == 58) = false := by
              rw [beq_eq_false_iff_ne] at hp ⊢
              intro h2
              apply hp
              have h3 : l[nm.length].toNat = (58 : UInt8).toNat := by show l[nm.length].toNat = 58; omega
              exact UInt8.toNat_inj.1 h3
            simp only [ht, q2, q3, hl, he, c1, g1, g2, g3, g4, g8, p1, p2', Int.toNat_natCast, List.drop_zero, Nat.zero_le, go_sem]
            repeat' ((first | apply qa | apply qb | apply qc | apply qd | apply qe | apply qf | apply qg | apply qh | apply qi | apply qj | apply qk) <;> intro hp <;> simp only [hp, ht, q2, q3, hl, he, c1, g1, g2, g3, g4, g8, p1, p2', Int.toNat_natCast, List.drop_zero, Nat.zero_le, go_sem])
            exact ih'
        · have g1 : ¬ (nm.length : Int) < l.length := by omega
          simp only [ht, q2, q3, hl, he, g1, Int.toNat_natCast, go_sem]
          repeat' ((first | apply qa | apply qb | apply qc | apply qd | apply qe | apply qf | apply qg | apply qh | apply qi | apply qj | apply qk) <;> intro hp <;> simp only [hp, ht, q2, q3, hl, he, g1, Int.toNat_natCast, go_sem])
          exact ih'
  · have ea : a = t.length := by omega
    have e1 : nextAt t a = -1 := by rw [nextAt, if_pos h]
    rw [ea, List.drop_length] at hh
    have e2 : headOf t nm = ([], false) := by rw [← hh]; rfl
    simp only [ht, q2, e1, Int.toNat_natCast, go_sem]
    repeat' ((first | apply qa | apply qb | apply qc | apply qd | apply qe | apply qf | apply qg | apply qh | apply qi | apply qj | apply qk) <;> intro hp <;> simp only [hp, ht, q2, e1, Int.toNat_natCast, go_sem])
    simp only [fin_mk, finV, resL, resV1, resIn, endA, listIn, Option.some_or, Option.none_or, oneOrTup, go_sem]
    rw [← hr]
    rw [e2]
end Go.Proofs.YtghmjnggmacohaaGreatDoor.L

namespace Go.Proofs.YtghmjnggmacohaaGreatDoor.L
open Go Go.VM
set_option maxRecDepth 100000
set_option maxHeartbeats 4000000
set_option linter.unusedSimpArgs false
set_option linter.unusedVariables false
open Classical in
noncomputable def spHasRead : VM.Spec := { modes := [.rd, .rd], run := fun | [.int .i64 n, .rptr (.lst 2 l')] => (decL Range.dec l').bind fun l => if l.length ≤ 8388608 then some (.bool (hasR l n), []) else none | _ => none, need := [] }
attribute [go_sem] spHasRead
def setR (l : List Range) : List Range := scan ((nums 9999).filter fun n => hasR l n)
/-! ### numbers in texts -/
def digB (b : UInt8) : Bool := within (b.toNat : Int) 48 57
def stepM (n : Int) (b : UInt8) : Int := (10 * n + ((b.toNat : Int) - 48)).tmod 1000000000
def stepV (n : Int) (b : UInt8) : Int := 10 * n + ((b.toNat : Int) - 48)
def numM (s : List UInt8) : Int := s.foldl stepM 0
def numV (s : List UInt8) : Int := s.foldl stepV 0
def numOk (s : List UInt8) : Bool := within s.length 1 4 && s.all digB && decide (1 ≤ numV s)
def uidN (s : List UInt8) (last : Int) : Int := if s = [42] then last else if s.all digB = true then numM s else 0
def uidB (s : List UInt8) : Bool := if s = [42] then true else s.all digB && (within s.length 1 4 && decide (0 < numM s))
def numN (s : List UInt8) (last : Int) : Int := if s = [42] then last else if (within s.length 1 4 && s.all digB) = true then numV s else 0
def numB (s : List UInt8) : Bool := if s = [42] then true else within s.length 1 4 && s.all digB && decide (1 ≤ numV s)
open Classical in
noncomputable def spReadUid : VM.Spec := { modes := [.rd, .rd], run := fun | [.str s, .int .i64 last] => if s.length ≤ 4194304 then some (.tup [.int .i64 (uidN s last), .bool (uidB s)], []) else none | _ => none, need := [] }
attribute [go_sem] spReadUid
open Classical in
noncomputable def spNum : VM.Spec := { modes := [.rd, .rd], run := fun | [.str s, .int .i64 last] => if s.length ≤ 4194304 then some (.tup [.int .i64 (numN s last), .bool (numB s)], []) else none | _ => none, need := [] }
attribute [go_sem] spNum
end Go.Proofs.YtghmjnggmacohaaGreatDoor.L

namespace Go.Proofs.YtghmjnggmacohaaGreatDoor.L
open Go Go.VM
set_option maxRecDepth 100000
set_option maxHeartbeats 4000000
set_option linter.unusedSimpArgs false
set_option linter.unusedVariables false
open Classical in
noncomputable def spIndex : VM.Spec := { modes := [.rd, .rd], run := fun | [.str s, .str t] => if s.length < 4294967281 then some (.int .i64 (Lib.index s t), []) else none | _ => none, need := ["internal/bytealg.MaxLen"] }
attribute [go_sem] spIndex
def cutB (s t : List UInt8) : Bool := decide (0 ≤ Lib.index s t)
def cut1 (s t : List UInt8) : List UInt8 := if cutB s t = true then s.take (Lib.index s t).toNat else s
def cut2 (s t : List UInt8) : List UInt8 := if cutB s t = true then s.drop ((Lib.index s t).toNat + t.length) else []
open Classical in
noncomputable def spCut : VM.Spec := { modes := [.rd, .rd], run := fun | [.str s, .str t] => if s.length ≤ 4194304 ∧ t.length ≤ 4194304 then some (.tup [.str (cut1 s t), .str (cut2 s t), .bool (cutB s t)], []) else none | _ => none, need := ["internal/bytealg.MaxLen"] }
attribute [go_sem] spCut
def first (p : List UInt8) : List UInt8 := p.takeWhile (notB 58)
def second (p : List UInt8) : List UInt8 := p.drop ((first p).length + 1)
def partB (p : List UInt8) : Bool := if 58 ∈ p then numB (first p) && numB (second p) else numB p
def partLo (p : List UInt8) (last : Int) : Int := if 58 ∈ p then min (numN (first p) last) (numN (second p) last) else numN p last
def partHi (p : List UInt8) (last : Int) : Int := if 58 ∈ p then max (numN (first p) last) (numN (second p) last) else numN p last
open Classical in
noncomputable def spPart : VM.Spec := { modes := [.rd, .rd], run := fun | [.str t, .int .i64 last] => if t.length ≤ 4194304 then some (.tup [.int .i64 (partLo t last), .int .i64 (partHi t last), .bool (partB t)], []) else none | _ => none, need := [] }
attribute [go_sem] spPart
def rangesOf (last : Int) : List (List UInt8) → Option (List Range)
  | [] => some []
  | p :: ps => if partB p = true then (rangesOf last ps).map fun l => ⟨partLo p last, partHi p last⟩ :: l else none
def readOk (t : List UInt8) (last : Int) : Bool := within last 1 9999 && (match rangesOf last (splitOn 44 t) with | some l => decide ((setR l).length ≤ 40) | none => false)
def readSet (t : List UInt8) (last : Int) : List Range := if readOk t last = true then (match rangesOf last (splitOn 44 t) with | some l => setR l | none => []) else []
open Classical in
noncomputable def spReadSet : VM.Spec := { modes := [.rd, .rd], run := fun | [.str t, .int .i64 last] => if t.length ≤ 4194304 then some (.tup [.lst 2 ((readSet t last).map Range.enc), .bool (readOk t last)], []) else none | _ => none, need := ["internal/bytealg.MaxLen"] }
attribute [go_sem] spReadSet
end Go.Proofs.YtghmjnggmacohaaGreatDoor.L

namespace Go.Proofs.YtghmjnggmacohaaGreatDoor.L
open Go Go.VM
set_option maxRecDepth 100000
set_option maxHeartbeats 4000000
set_option linter.unusedSimpArgs false
set_option linter.unusedVariables false
end Go.Proofs.YtghmjnggmacohaaGreatDoor.L

namespace Go.Proofs.YtghmjnggmacohaaGreatDoor.L
open Go Go.VM
set_option maxRecDepth 100000
set_option maxHeartbeats 4000000
set_option linter.unusedSimpArgs false
set_option linter.unusedVariables false
theorem headIn_len (nm : List UInt8) (n : Nat) : ∀ ls : List (List UInt8), (∀ x ∈ ls, x.length ≤ n) → (headIn nm ls).1.length ≤ n
  | [], _ => by simp [headIn]
  | l :: ls, h => by
    rw [headIn]
    split
    · simp
    · split
      · have h1 := trim_len (l.drop (nm.length + 1))
        have h2 := h l (by simp)
        rw [List.length_drop] at h1
        simp only; omega
      · exact headIn_len nm n ls fun x hx => h x (by simp [hx])
theorem headOf_len (t nm : List UInt8) : (headOf t nm).1.length ≤ t.length := headIn_len nm _ _ (splitOn_mem 10 t)
def hasT (s t : List UInt8) : Bool := decide (0 ≤ Lib.index s t)
open Classical in
noncomputable def spHasT : VM.Spec := { modes := [.rd, .rd], run := fun | [.str s, .str t] => if s.length ≤ 4194304 ∧ t.length ≤ 4194304 then some (.bool (hasT s t), []) else none | _ => none, need := ["internal/bytealg.MaxLen"] }
attribute [go_sem] spHasT
def subjectOf (m : Mail) : List UInt8 := baseSubject (headOf m.Text [115, 117, 98, 106, 101, 99, 116]).1
open Classical in
noncomputable def spSubjectOf : VM.Spec := { modes := [.rd], run := fun | [m'] => (Mail.dec m').bind fun m => if m.le 4194304 then some (.str (subjectOf m), []) else none | _ => none, need := ["internal/bytealg.MaxLen"] }
attribute [go_sem] spSubjectOf
theorem spSubjectOf_in {ins : List V} {r : V} {outs : List V} (h : spSubjectOf.run ins = some (r, outs)) : ∃ (m : Mail), ins = [Mail.enc m] ∧ (m.le 4194304) ∧ .str (subjectOf m) = r ∧ outs = [] := by
  unfold spSubjectOf at h
  simp only at h
  split at h
  · rename_i m'
    simp only [Option.bind_eq_some_iff] at h
    obtain ⟨m, h_m, h⟩ := h
    split at h
    case isFalse => cases h
    rename_i hc
    simp only [Option.some.injEq, Prod.mk.injEq] at h
    obtain ⟨h1, h2⟩ := h
    have h_m := Mail.dec_some h_m
    subst h_m
    exact ⟨m, rfl, hc, h1, h2.symm⟩
  · cases h
def T_impl_subjectOf : Hints := ⟨lk [], lk [], lk [(0, [1]), (1, [3]), (2, [2])], lk []⟩
noncomputable def Phi_impl_subjectOf : Tab := lk [(63, spHeadOf), (64, spBaseSubject)]
attribute [go_sem] T_impl_subjectOf Phi_impl_subjectOf
theorem phi_impl_subjectOf : ∀ f sp, Phi_impl_subjectOf f = some sp → FnOk Tryz.prog f sp ∧ ∀ n ∈ sp.need, n ∈ (["internal/bytealg.MaxLen"] : List String) := phi_cons ok_impl_HeadOf (fun n (h : n ∈ (["internal/bytealg.MaxLen"] : List String)) => by simp only [List.mem_cons, List.not_mem_nil, or_false] at h; rcases h with rfl <;> simp) (phi_cons ok_impl_BaseSubject (n0 rfl) (phi_nil))
theorem ok_impl_subjectOf : FnOk Tryz.prog 38 spSubjectOf := by
  refine fn_ok (Φ := Phi_impl_subjectOf) (T := T_impl_subjectOf) phi_impl_subjectOf mixed Tryz.func38 rfl rfl rfl (by decide) ?_
  intro ins r outs hr hl
  clear hl
  have hs := spSubjectOf_in hr
  clear hr
  obtain ⟨m, rfl, hc, hr, rfl⟩ := hs
  simp only [spSubjectOf, Tryz.f38, Go.VM.initS]
  have hT : m.Text.length ≤ 4194304 := hc
  have h1 := headOf_len m.Text [115, 117, 98, 106, 101, 99, 116]
  have h2 : (headOf m.Text [115, 117, 98, 106, 101, 99, 116]).1.length ≤ 1099511627776 := by omega
  simp only [hT, h2, go_sem]
  repeat' ((first | apply qa | apply qb | apply qc | apply qd | apply qe | apply qf | apply qg | apply qh | apply qi | apply qj | apply qk) <;> intro hp <;> simp only [hp, hT, h2, go_sem])
  simp only [fin_mk, finV, resL, resV1, resIn, endA, listIn, Option.some_or, Option.none_or, oneOrTup, go_sem]
  rw [← hr]
  rfl
def matchB (m : Mail) (k : Key) : Bool :=
  if k.Kind = 1 then true
  else if k.Kind = 2 then flagsOk m.Flags && flagsOk k.Num && decide (0 < andN m.Flags k.Num)
  else if k.Kind = 3 then flagsOk m.Flags && flagsOk k.Num && (andN m.Flags k.Num == 0)
  else if k.Kind = 4 then hasT (subjectOf m) (lowS k.Text)
  else if k.Kind = 5 then hasT (lowS m.Text) (lowS k.Text)
  else if k.Kind = 6 then hasR (readSet k.Text 9999) m.Uid
  else if k.Kind = 7 then decide (k.Num < m.Mod) else false
open Classical in
noncomputable def spMatches : VM.Spec := { modes := [.rd, .rd], run := fun | [m', k'] => (Mail.dec m').bind fun m => (Key.dec k').bind fun k => if m.le 4194304 ∧ k.le 4194304 then some (.bool (matchB m k), []) else none | _ => none, need := ["internal/bytealg.MaxLen"] }
attribute [go_sem] spMatches
end Go.Proofs.YtghmjnggmacohaaGreatDoor.L

namespace Go.VM.SM
set_option linter.unusedVariables false
set_option linter.unusedSimpArgs false
variable {α : Type}
structure Ord (lt : α → α → Bool) (U : α → α → Prop) (R : α → α → Prop) : Prop where
  trans : ∀ {x y z}, R x y → R y z → R x z
  asym : ∀ {x y}, R x y → ¬ R y x
  up : ∀ {x y}, U x y → (lt y x = true ↔ R y x)
  down : ∀ {x y}, U x y → lt y x = false → R x y
def bs (p : Nat → Bool) : Nat → Nat → Nat → Nat
  | 0, i, _ => i
  | f + 1, i, j => if i < j then (if p ((i + j) / 2) = true then bs p f ((i + j) / 2 + 1) j else bs p f i ((i + j) / 2)) else i
theorem bs_ok {p : Nat → Bool} : ∀ (f i j : Nat), i ≤ j → j - i ≤ f → (∀ a b, i ≤ a → a ≤ b → b < j → p b = true → p a = true) →
    i ≤ bs p f i j ∧ bs p f i j ≤ j ∧ (∀ k, i ≤ k → k < bs p f i j → p k = true) ∧ (∀ k, bs p f i j ≤ k → k < j → p k = false)
  | 0, i, j, h, hf, hm => by
    rw [bs]
    exact ⟨Nat.le_refl _, h, fun k h1 h2 => by omega, fun k h1 h2 => by omega⟩
  | f + 1, i, j, h, hf, hm => by
    rw [bs]
    split
    · rename_i hlt
      have d1 : i ≤ (i + j) / 2 := by omega
      have d2 : (i + j) / 2 < j := by omega
      generalize hh : (i + j) / 2 = m at *
      split
      · rename_i hp
        obtain ⟨a1, a2, a3, a4⟩ := bs_ok f (m + 1) j (by omega) (by omega) (fun a b h1 h2 h3 => hm a b (by omega) h2 h3)
        refine ⟨by omega, a2, fun k h1 h2 => ?_, a4⟩
        rcases Nat.lt_or_ge m k with h3 | h3
        · exact a3 k h3 h2
        · exact hm k m h1 h3 d2 hp
      · rename_i hp
        obtain ⟨a1, a2, a3, a4⟩ := bs_ok f i m (by omega) (by omega) (fun a b h1 h2 h3 => hm a b h1 h2 (by omega))
        refine ⟨a1, by omega, a3, fun k h1 h2 => ?_⟩
        rcases Nat.lt_or_ge k m with h3 | h3
        · exact a4 k h1 h3
        · cases hk : p k with
          | false => rfl
          | true => exact absurd (hm m k d1 h3 h2 hk) hp
    · exact ⟨Nat.le_refl _, h, fun k h1 h2 => by omega, fun k h1 h2 => by omega⟩
def sw (l : List α) (i j : Nat) : List α := match l[i]?, l[j]? with
  | some x, some y => (l.set i y).set j x
  | _, _ => l
theorem sw_len (l : List α) (i j : Nat) : (sw l i j).length = l.length := by
  unfold sw; split <;> simp
theorem sw_eq {l : List α} {i j : Nat} (hi : i < l.length) (hj : j < l.length) : sw l i j = (l.set i l[j]).set j l[i] := by
  unfold sw
  rw [List.getElem?_eq_getElem hi, List.getElem?_eq_getElem hj]
def swR (l : List α) (a b : Nat) : Nat → List α
  | 0 => l
  | n + 1 => sw (swR l a b n) (a + n) (b + n)
theorem swR_len (l : List α) (a b : Nat) : ∀ n, (swR l a b n).length = l.length
  | 0 => rfl
  | n + 1 => by rw [swR, sw_len, swR_len l a b n]
theorem swR_get (l : List α) (a b : Nat) : ∀ n, a + n ≤ b → b + n ≤ l.length → ∀ k, (swR l a b n)[k]? = if a ≤ k ∧ k < a + n then l[k - a + b]? else if b ≤ k ∧ k < b + n then l[k - b + a]? else l[k]?
  | 0, h1, h2, k => by
    rw [swR, if_neg (by omega), if_neg (by omega)]
  | n + 1, h1, h2, k => by
    have hl := swR_len l a b n
    rw [swR, sw_eq (by omega) (by omega), List.getElem?_set, List.getElem?_set, List.length_set]
    have g1 := swR_get l a b n (by omega) (by omega) (a + n)
    have g2 := swR_get l a b n (by omega) (by omega) (b + n)
    have g3 := swR_get l a b n (by omega) (by omega) k
    rw [if_neg (by omega), if_neg (by omega)] at g1 g2
    rw [List.getElem?_eq_getElem (by omega)] at g1 g2
    by_cases e1 : b + n = k
    · subst e1
      have q1 : ¬ (a ≤ b + n ∧ b + n < a + (n + 1)) := by omega
      have q2 : b ≤ b + n ∧ b + n < b + (n + 1) := by omega
      rw [if_pos rfl, if_pos (by omega), if_neg q1, if_pos q2, g1]
      congr 1; omega
    · rw [if_neg e1]
      by_cases e2 : a + n = k
      · subst e2
        have q1 : a ≤ a + n ∧ a + n < a + (n + 1) := by omega
        rw [if_pos rfl, if_pos (by omega), if_pos q1, g2]
        congr 1; omega
      · rw [if_neg e2, g3]
        by_cases c1 : a ≤ k ∧ k < a + n
        · have q1 : a ≤ k ∧ k < a + (n + 1) := by omega
          rw [if_pos c1, if_pos q1]
        · have q1 : ¬ (a ≤ k ∧ k < a + (n + 1)) := by omega
          rw [if_neg c1, if_neg q1]
          by_cases c2 : b ≤ k ∧ k < b + n
          · have q2 : b ≤ k ∧ k < b + (n + 1) := by omega
            rw [if_pos c2, if_pos q2]
          · have q2 : ¬ (b ≤ k ∧ k < b + (n + 1)) := by omega
            rw [if_neg c2, if_neg q2]
theorem get5 (A P M Q B : List α) (k : Nat) : (A ++ (P ++ (M ++ (Q ++ B))))[k]? =
    if k < A.length then A[k]? else if k < A.length + P.length then P[k - A.length]? else if k < A.length + P.length + M.length then M[k - A.length - P.length]?
    else if k < A.length + P.length + M.length + Q.length then Q[k - A.length - P.length - M.length]? else B[k - A.length - P.length - M.length - Q.length]? := by
  simp only [List.getElem?_append]
  by_cases c0 : k < A.length
  · simp only [if_pos c0]
  have d1 : (k - A.length < P.length) = (k < A.length + P.length) := propext (by omega)
  simp only [if_neg c0, d1]
  by_cases c1 : k < A.length + P.length
  · simp only [if_pos c1]
  have d2 : (k - A.length - P.length < M.length) = (k < A.length + P.length + M.length) := propext (by omega)
  simp only [if_neg c1, d2]
  by_cases c2 : k < A.length + P.length + M.length
  · simp only [if_pos c2]
  have d3 : (k - A.length - P.length - M.length < Q.length) = (k < A.length + P.length + M.length + Q.length) := propext (by omega)
  simp only [if_neg c2, d3]
theorem swR_parts (A P M Q B : List α) (h : P.length = Q.length) : swR (A ++ (P ++ (M ++ (Q ++ B)))) A.length (A.length + P.length + M.length) P.length = A ++ (Q ++ (M ++ (P ++ B))) := by
  apply List.ext_getElem?
  intro k
  rw [swR_get _ _ _ _ (by omega) (by simp only [List.length_append]; omega), get5, get5, get5, get5]
  by_cases c0 : k < A.length
  · rw [if_neg (by omega), if_neg (by omega), if_pos c0, if_pos c0]
  by_cases c1 : k < A.length + P.length
  · rw [if_pos (by omega), if_neg (by omega), if_neg (by omega), if_neg (by omega), if_pos (by omega), if_neg c0, if_pos (by omega)]
    congr 1; omega
  by_cases c2 : k < A.length + P.length + M.length
  · rw [if_neg (by omega), if_neg (by omega), if_neg c0, if_neg c1, if_pos c2, if_neg c0, if_neg (by omega), if_pos (by omega)]
    congr 1; omega
  by_cases c3 : k < A.length + P.length + M.length + P.length
  · rw [if_neg (by omega), if_pos (by omega), if_neg (by omega), if_pos (by omega), if_neg c0, if_neg (by omega), if_neg (by omega), if_pos (by omega)]
    congr 1; omega
  · rw [if_neg (by omega), if_neg (by omega), if_neg c0, if_neg c1, if_neg c2, if_neg (by omega), if_neg c0, if_neg (by omega), if_neg (by omega), if_neg (by omega)]
    congr 1; omega
def rot (m : Nat) : Nat → List α → Nat → Nat → List α
  | 0, l, _, _ => l
  | f + 1, l, i, j => if i = j then swR l (m - i) m i else if j < i then rot m f (swR l (m - i) m j) (i - j) j else rot m f (swR l (m - i) (m + j - i) i) i (j - i)
theorem rot_ok : ∀ (f : Nat) (A P Q B : List α), 0 < P.length → 0 < Q.length → P.length + Q.length ≤ f → rot (A.length + P.length) f (A ++ (P ++ (Q ++ B))) P.length Q.length = A ++ (Q ++ (P ++ B))
  | 0, A, P, Q, B, h1, h2, h3 => by omega
  | f + 1, A, P, Q, B, h1, h2, h3 => by
    rw [rot]
    by_cases e : P.length = Q.length
    · rw [if_pos e]
      have := swR_parts A P [] Q B e
      simp only [List.nil_append, List.length_nil, Nat.add_zero] at this
      rw [Nat.add_sub_cancel, this]
    rw [if_neg e]
    by_cases g : Q.length < P.length
    · rw [if_pos g]
      obtain ⟨P1, P2, rfl, k⟩ : ∃ P1 P2, P = P1 ++ P2 ∧ P1.length = Q.length := ⟨P.take Q.length, P.drop Q.length, (List.take_append_drop _ _).symm, by rw [List.length_take]; omega⟩
      rw [List.length_append] at h1 h3 e g ⊢
      have s := swR_parts A P1 P2 Q B k
      have r := rot_ok f (A ++ Q) P2 P1 B (by omega) (by omega) (by omega)
      rw [List.append_assoc P1, Nat.add_sub_cancel, ← k]
      rw [show A.length + (P1.length + P2.length) = A.length + P1.length + P2.length by omega, s]
      rw [List.length_append, ← k] at r
      rw [show P1.length + P2.length - P1.length = P2.length by omega]
      simp only [List.append_assoc] at r ⊢
      rw [show A.length + P1.length + P2.length = A.length + (P1.length) + P2.length by omega]
      exact r
    · rw [if_neg g]
      obtain ⟨Q1, Q2, rfl, k⟩ : ∃ Q1 Q2, Q = Q1 ++ Q2 ∧ Q2.length = P.length := ⟨Q.take (Q.length - P.length), Q.drop (Q.length - P.length), (List.take_append_drop _ _).symm, by rw [List.length_drop]; omega⟩
      rw [List.length_append] at h2 h3 e g ⊢
      have s := swR_parts A P Q1 Q2 B k.symm
      have r := rot_ok f A Q2 Q1 (P ++ B) (by omega) (by omega) (by omega)
      rw [List.append_assoc Q1, Nat.add_sub_cancel]
      rw [show A.length + P.length + (Q1.length + Q2.length) - P.length = A.length + P.length + Q1.length by omega, s]
      rw [show Q1.length + Q2.length - P.length = Q1.length by omega, ← k]
      rw [List.append_assoc Q1]
      exact r
def up1 (l : List α) (a : Nat) : Nat → List α
  | 0 => l
  | n + 1 => sw (up1 l a n) (a + n) (a + n + 1)
theorem sw_mid (A : List α) (x y : α) (B : List α) : sw (A ++ (x :: y :: B)) A.length (A.length + 1) = A ++ (y :: x :: B) := by
  rw [sw_eq (by simp) (by simp)]
  rw [List.getElem_append_right (by omega), List.getElem_append_right (by omega), List.set_append_right _ _ (by omega), List.set_append_right _ _ (by omega)]
  simp
theorem sw_mid' (A : List α) (x y : α) (B : List α) : sw (A ++ (x :: y :: B)) (A.length + 1) A.length = A ++ (y :: x :: B) := by
  rw [sw_eq (by simp) (by simp)]
  rw [List.getElem_append_right (by omega), List.getElem_append_right (by omega), List.set_append_right _ _ (by omega), List.set_append_right _ _ (by omega)]
  simp
theorem snoc_of {n : Nat} {W : List α} (h : W.length = n + 1) : ∃ V y, W = V ++ [y] ∧ V.length = n := by
  refine ⟨W.dropLast, W.getLast (by intro e; subst e; cases h), (List.dropLast_concat_getLast _).symm, by rw [List.length_dropLast]; omega⟩
theorem up1_ok (A : List α) (x : α) : ∀ (n : Nat) (W B : List α), W.length = n → up1 (A ++ (x :: (W ++ B))) A.length n = A ++ (W ++ (x :: B))
  | 0, W, B, h => by
    have : W = [] := List.length_eq_zero_iff.1 h
    subst this; rfl
  | n + 1, W, B, h => by
    obtain ⟨V, y, rfl, hV⟩ := snoc_of h
    rw [up1, List.append_assoc, List.singleton_append, up1_ok A x n V (y :: B) hV, ← List.append_assoc, ← hV, ← List.length_append, sw_mid]
    simp
def dn1 (l : List α) (m : Nat) : Nat → List α
  | 0 => l
  | n + 1 => sw (dn1 l m n) (m - n) (m - n - 1)
theorem dn1_ok (x : α) : ∀ (n : Nat) (A W B : List α), W.length = n → ∀ m, m = A.length + n → dn1 (A ++ (W ++ (x :: B))) m n = A ++ (x :: (W ++ B))
  | 0, A, W, B, h, m, hm => by
    have : W = [] := List.length_eq_zero_iff.1 h
    subst this; rfl
  | n + 1, A, W, B, h, m, hm => by
    match W, h with
    | y :: V, h =>
      rw [List.length_cons] at h
      have r := dn1_ok x n (A ++ [y]) V B (by omega) m (by rw [List.length_append, List.length_singleton]; omega)
      rw [List.append_assoc, List.singleton_append, List.append_assoc, List.singleton_append] at r
      rw [dn1, List.cons_append, r, show m - n = A.length + 1 by omega, Nat.add_sub_cancel, sw_mid']
      rfl
def ltA (lt : α → α → Bool) (l : List α) (i j : Nat) : Bool := match l[i]?, l[j]? with
  | some x, some y => lt x y
  | _, _ => false
theorem ltA_eq {lt : α → α → Bool} {l : List α} {i j : Nat} (hi : i < l.length) (hj : j < l.length) : ltA lt l i j = lt l[i] l[j] := by
  unfold ltA
  rw [List.getElem?_eq_getElem hi, List.getElem?_eq_getElem hj]
def sink (lt : α → α → Bool) (a : Nat) (l : List α) : Nat → List α
  | 0 => l
  | j + 1 => if a < j + 1 ∧ ltA lt l (j + 1) j = true then sink lt a (sw l (j + 1) j) j else l
theorem sink_len {lt : α → α → Bool} {a : Nat} : ∀ (j : Nat) (l : List α), (sink lt a l j).length = l.length
  | 0, l => rfl
  | j + 1, l => by
    rw [sink]
    split
    · rw [sink_len, sw_len]
    · rfl
def insS (lt : α → α → Bool) (a : Nat) (l : List α) : Nat → List α
  | 0 => l
  | n + 1 => sink lt a (insS lt a l n) (a + 1 + n)
theorem insS_len {lt : α → α → Bool} {a : Nat} {l : List α} : ∀ n, (insS lt a l n).length = l.length
  | 0 => rfl
  | n + 1 => by rw [insS, sink_len, insS_len]
section
variable {lt : α → α → Bool} {U R : α → α → Prop}
theorem sink_ok (o : Ord lt U R) (A : List α) (x : α) : ∀ (n : Nat) (S B : List α), S.length = n → S.Pairwise R → (∀ s ∈ S, U s x) →
    ∃ Z, sink lt A.length (A ++ (S ++ (x :: B))) (A.length + n) = A ++ (Z ++ B) ∧ Z.Perm (S ++ [x]) ∧ Z.Pairwise R
  | 0, S, B, h, hs, hu => by
    have : S = [] := List.length_eq_zero_iff.1 h
    subst this
    refine ⟨[x], ?_, List.Perm.refl _, List.pairwise_singleton _ _⟩
    cases hA : A.length with
    | zero => rfl
    | succ k => rw [Nat.add_zero, sink, if_neg (by omega)]; rfl
  | n + 1, S, B, h, hs, hu => by
    obtain ⟨V, y, rfl, hV⟩ := snoc_of h
    have hu' : U y x := hu y (by simp)
    obtain ⟨p1, p2, p3⟩ := List.pairwise_append.1 hs
    have e : A ++ (V ++ [y] ++ (x :: B)) = (A ++ V) ++ (y :: x :: B) := by simp
    have hlen : A.length + n = (A ++ V).length := by rw [List.length_append, hV]
    have hlt : ltA lt ((A ++ V) ++ (y :: x :: B)) ((A ++ V).length + 1) (A ++ V).length = lt x y := by
      rw [ltA_eq (by simp; omega) (by simp), List.getElem_append_right (by omega), List.getElem_append_right (by omega)]
      simp
    rw [← Nat.add_assoc, sink, e, hlen, hlt]
    by_cases hc : lt x y = true
    · rw [if_pos ⟨by rw [List.length_append]; omega, hc⟩, sw_mid']
      obtain ⟨Z, z1, z2, z3⟩ := sink_ok o A x n V (y :: B) hV p1 (fun s hs => hu s (by simp [hs]))
      rw [hlen] at z1
      refine ⟨Z ++ [y], ?_, ?_, ?_⟩
      · rw [List.append_assoc, z1]; simp
      · refine (z2.append_right [y]).trans ?_
        rw [List.append_assoc, List.append_assoc]
        exact List.Perm.append_left V (List.Perm.swap y x [])
      · refine List.pairwise_append.2 ⟨z3, List.pairwise_singleton _ _, fun s hs' t ht => ?_⟩
        rw [List.mem_singleton] at ht
        subst ht
        rcases List.mem_append.1 (z2.mem_iff.1 hs') with k | k
        · exact p3 s k _ (by simp)
        · rw [List.mem_singleton] at k; subst k; exact (o.up hu').1 hc
    · rw [if_neg (fun k => hc k.2)]
      refine ⟨V ++ [y] ++ [x], by simp, List.Perm.refl _, List.pairwise_append.2 ⟨hs, List.pairwise_singleton _ _, fun s hs t ht => ?_⟩⟩
      rw [List.mem_singleton] at ht
      subst ht
      have hyx : R y t := o.down hu' (by simpa using hc)
      rcases List.mem_append.1 hs with k | k
      · exact o.trans (p3 s k y (by simp)) hyx
      · rw [List.mem_singleton] at k; subst k; exact hyx
theorem insS_ok (o : Ord lt U R) (A : List α) : ∀ (n : Nat) (X B : List α), X.length = n + 1 → X.Pairwise U →
    ∃ Z, insS lt A.length (A ++ (X ++ B)) n = A ++ (Z ++ B) ∧ Z.Perm X ∧ Z.Pairwise R
  | 0, X, B, h, hu => by
    match X, h with
    | [x], _ => exact ⟨[x], rfl, List.Perm.refl _, List.pairwise_singleton _ _⟩
  | n + 1, X, B, h, hu => by
    obtain ⟨V, y, rfl, hV⟩ := snoc_of h
    obtain ⟨p1, p2, p3⟩ := List.pairwise_append.1 hu
    obtain ⟨Z, z1, z2, z3⟩ := insS_ok o A n V (y :: B) hV p1
    obtain ⟨Y, y1, y2, y3⟩ := sink_ok o A y (n + 1) Z B (by rw [z2.length_eq, hV]) z3 (fun s hs => p3 s (z2.mem_iff.1 hs) y (by simp))
    refine ⟨Y, ?_, y2.trans (z2.append_right [y]), y3⟩
    rw [insS, List.append_assoc, List.singleton_append, z1, ← y1, show A.length + 1 + n = A.length + (n + 1) by omega]
end
end Go.VM.SM

namespace Go.VM.SM
set_option linter.unusedVariables false
set_option linter.unusedSimpArgs false
variable {α : Type}
def symS (m a b : Nat) : Nat := if (a + b) / 2 < m then (a + b) / 2 + m - b else a
def symR (m a b : Nat) : Nat := if (a + b) / 2 < m then (a + b) / 2 else m
def symAt (lt : α → α → Bool) (l : List α) (a m b : Nat) : Nat := bs (fun c => !ltA lt l ((a + b) / 2 + m - 1 - c) c) (symR m a b - symS m a b) (symS m a b) (symR m a b)
def symT (l : List α) (m s e : Nat) : List α := if s < m ∧ m < e then rot m (e - s) l (m - s) (e - m) else l
def symM (lt : α → α → Bool) : Nat → List α → Nat → Nat → Nat → List α
  | 0, l, _, _, _ => l
  | f + 1, l, a, m, b =>
    if m = a + 1 then up1 l a (bs (fun h => ltA lt l h a) (b - m) m b - 1 - a)
    else if b = m + 1 then dn1 l m (m - bs (fun h => !ltA lt l m h) (m - a) a m)
    else
      let s := symAt lt l a m b
      let d := (a + b) / 2
      let e := d + m - s
      let l1 := symT l m s e
      let l2 := if a < s ∧ s < d then symM lt f l1 a s d else l1
      if d < e ∧ e < b then symM lt f l2 d e b else l2
section
variable {lt : α → α → Bool} {U R : α → α → Prop}
theorem ge_x (A X Y B : List α) {k : Nat} (h : k < X.length) : (A ++ (X ++ (Y ++ B)))[A.length + k]? = X[k]? := by
  rw [List.getElem?_append_right (by omega), Nat.add_sub_cancel_left, List.getElem?_append_left h]
theorem ge_y (A X Y B : List α) {k : Nat} (h : k < Y.length) : (A ++ (X ++ (Y ++ B)))[A.length + X.length + k]? = Y[k]? := by
  rw [List.getElem?_append_right (by omega), Nat.add_assoc, Nat.add_sub_cancel_left, List.getElem?_append_right (by omega), Nat.add_sub_cancel_left, List.getElem?_append_left h]
theorem lt_yx (A X Y B : List α) {i j : Nat} (hi : i < Y.length) (hj : j < X.length) : ltA lt (A ++ (X ++ (Y ++ B))) (A.length + X.length + i) (A.length + j) = lt Y[i] X[j] := by
  rw [ltA, ge_y A X Y B hi, ge_x A X Y B hj, List.getElem?_eq_getElem hi, List.getElem?_eq_getElem hj]
theorem pw_get {l : List α} (h : l.Pairwise R) {i j : Nat} (hj : j < l.length) (hij : i < j) : R l[i] l[j] := List.pairwise_iff_getElem.1 h i j (by omega) hj hij
theorem pw_le {l : List α} (h : l.Pairwise R) {i j : Nat} (hj : j < l.length) (hij : i ≤ j) : l[i] = l[j] ∨ R l[i] l[j] := by
  rcases Nat.lt_or_ge i j with k | k
  · exact .inr (pw_get h hj k)
  · have : i = j := by omega
    subst this; exact .inl rfl
theorem sym_left (o : Ord lt U R) (A : List α) (x : α) (Y B : List α) (hy : Y.Pairwise R) (hu : ∀ y ∈ Y, U x y) :
    ∃ Z, up1 (A ++ (x :: (Y ++ B))) A.length (bs (fun h => ltA lt (A ++ (x :: (Y ++ B))) h A.length) Y.length (A.length + 1) (A.length + 1 + Y.length) - 1 - A.length) = A ++ (Z ++ B) ∧ Z.Perm (x :: Y) ∧ Z.Pairwise R := by
  have hp : ∀ k (h : k < Y.length), ltA lt (A ++ (x :: (Y ++ B))) (A.length + 1 + k) A.length = lt Y[k] x := fun k h => lt_yx A [x] Y B (j := 0) h (by simp)
  have hm : ∀ i j, A.length + 1 ≤ i → i ≤ j → j < A.length + 1 + Y.length → ltA lt (A ++ (x :: (Y ++ B))) j A.length = true → ltA lt (A ++ (x :: (Y ++ B))) i A.length = true := by
    intro i j h1 h2 h3 h4
    obtain ⟨i, rfl⟩ := Nat.exists_eq_add_of_le h1
    obtain ⟨j, rfl⟩ := Nat.exists_eq_add_of_le (Nat.le_trans h1 h2)
    rw [hp j (by omega)] at h4
    rw [hp i (by omega)]
    have r := (o.up (hu _ (List.getElem_mem (show j < Y.length by omega)))).1 h4
    refine (o.up (hu _ (List.getElem_mem (show i < Y.length by omega)))).2 ?_
    rcases pw_le hy (i := i) (j := j) (by omega) (by omega) with k | k
    · rw [k]; exact r
    · exact o.trans k r
  obtain ⟨b1, b2, b3, b4⟩ := bs_ok (p := fun h => ltA lt (A ++ (x :: (Y ++ B))) h A.length) Y.length (A.length + 1) (A.length + 1 + Y.length) (by omega) (by omega) hm
  generalize hr : bs (fun h => ltA lt (A ++ (x :: (Y ++ B))) h A.length) Y.length (A.length + 1) (A.length + 1 + Y.length) = r at *
  obtain ⟨v, rfl⟩ := Nat.exists_eq_add_of_le b1
  have hv : v ≤ Y.length := by omega
  have e : Y = Y.take v ++ Y.drop v := (List.take_append_drop v Y).symm
  refine ⟨Y.take v ++ (x :: Y.drop v), ?_, ?_, ?_⟩
  · have := up1_ok A x v (Y.take v) (Y.drop v ++ B) (by rw [List.length_take]; omega)
    rw [← List.append_assoc, List.take_append_drop] at this
    rw [show A.length + 1 + v - 1 - A.length = v by omega, this]
    simp
  · refine List.perm_middle.trans ?_
    rw [List.take_append_drop]
  · have ht : ∀ y ∈ Y.take v, R y x := by
      intro y hy'
      obtain ⟨i, hi, rfl⟩ := List.mem_iff_getElem.1 hy'
      rw [List.length_take] at hi
      rw [List.getElem_take]
      have h1 := b3 (A.length + 1 + i) (by omega) (by omega)
      rw [hp i (by omega)] at h1
      exact (o.up (hu _ (List.getElem_mem _))).1 h1
    have hd : ∀ y ∈ Y.drop v, R x y := by
      intro y hy'
      obtain ⟨i, hi, rfl⟩ := List.mem_iff_getElem.1 hy'
      rw [List.length_drop] at hi
      rw [List.getElem_drop]
      have h1 := b4 (A.length + 1 + (v + i)) (by omega) (by omega)
      rw [hp (v + i) (by omega)] at h1
      exact o.down (hu _ (List.getElem_mem _)) h1
    have hy2 := hy
    rw [e] at hy2
    obtain ⟨p1, p2, p3⟩ := List.pairwise_append.1 hy2
    refine List.pairwise_append.2 ⟨p1, List.pairwise_cons.2 ⟨hd, p2⟩, fun s hs t ht' => ?_⟩
    rcases List.mem_cons.1 ht' with rfl | k
    · exact ht s hs
    · exact p3 s hs t k
theorem sym_right (o : Ord lt U R) (A X : List α) (y : α) (B : List α) (hx : X.Pairwise R) (hu : ∀ x ∈ X, U x y) :
    ∃ Z, dn1 (A ++ (X ++ (y :: B))) (A.length + X.length) (A.length + X.length - bs (fun h => !ltA lt (A ++ (X ++ (y :: B))) (A.length + X.length) h) X.length A.length (A.length + X.length)) = A ++ (Z ++ B) ∧ Z.Perm (X ++ [y]) ∧ Z.Pairwise R := by
  have hp : ∀ k (h : k < X.length), ltA lt (A ++ (X ++ (y :: B))) (A.length + X.length) (A.length + k) = lt y X[k] := fun k h => lt_yx A X [y] B (i := 0) (by simp) h
  have hm : ∀ i j, A.length ≤ i → i ≤ j → j < A.length + X.length → (!ltA lt (A ++ (X ++ (y :: B))) (A.length + X.length) j) = true → (!ltA lt (A ++ (X ++ (y :: B))) (A.length + X.length) i) = true := by
    intro i j h1 h2 h3 h4
    obtain ⟨i, rfl⟩ := Nat.exists_eq_add_of_le h1
    obtain ⟨j, rfl⟩ := Nat.exists_eq_add_of_le (Nat.le_trans h1 h2)
    rw [hp j (by omega)] at h4
    rw [hp i (by omega)]
    have r := o.down (hu _ (List.getElem_mem (show j < X.length by omega))) (by simpa using h4)
    cases hc : lt y (X[i]'(by omega)) with
    | false => rfl
    | true =>
      have r2 := (o.up (hu _ (List.getElem_mem (show i < X.length by omega)))).1 hc
      rcases pw_le hx (i := i) (j := j) (by omega) (by omega) with k | k
      · rw [k] at r2; exact absurd r2 (o.asym r)
      · exact absurd (o.trans r2 k) (o.asym r)
  obtain ⟨b1, b2, b3, b4⟩ := bs_ok (p := fun h => !ltA lt (A ++ (X ++ (y :: B))) (A.length + X.length) h) X.length A.length (A.length + X.length) (by omega) (by omega) hm
  generalize hr : bs (fun h => !ltA lt (A ++ (X ++ (y :: B))) (A.length + X.length) h) X.length A.length (A.length + X.length) = r at *
  obtain ⟨v, rfl⟩ := Nat.exists_eq_add_of_le b1
  have hv : v ≤ X.length := by omega
  have e : X = X.take v ++ X.drop v := (List.take_append_drop v X).symm
  refine ⟨X.take v ++ (y :: X.drop v), ?_, ?_, ?_⟩
  · have := dn1_ok y (X.length - v) (A ++ X.take v) (X.drop v) B (by rw [List.length_drop]) (A.length + X.length) (by rw [List.length_append, List.length_take]; omega)
    rw [List.append_assoc, ← List.append_assoc (X.take v), List.take_append_drop] at this
    rw [show A.length + X.length - (A.length + v) = X.length - v by omega, this]
    simp
  · refine List.perm_middle.trans ?_
    rw [List.take_append_drop]
    exact (List.perm_append_singleton y X).symm
  · have ht : ∀ x ∈ X.take v, R x y := by
      intro x hx'
      obtain ⟨i, hi, rfl⟩ := List.mem_iff_getElem.1 hx'
      rw [List.length_take] at hi
      rw [List.getElem_take]
      have h1 := b3 (A.length + i) (by omega) (by omega)
      rw [hp i (by omega)] at h1
      exact o.down (hu _ (List.getElem_mem _)) (by simpa using h1)
    have hd : ∀ x ∈ X.drop v, R y x := by
      intro x hx'
      obtain ⟨i, hi, rfl⟩ := List.mem_iff_getElem.1 hx'
      rw [List.length_drop] at hi
      rw [List.getElem_drop]
      have h1 := b4 (A.length + (v + i)) (by omega) (by omega)
      rw [hp (v + i) (by omega)] at h1
      exact (o.up (hu _ (List.getElem_mem _))).1 (by simpa using h1)
    have hx2 := hx
    rw [e] at hx2
    obtain ⟨p1, p2, p3⟩ := List.pairwise_append.1 hx2
    refine List.pairwise_append.2 ⟨p1, List.pairwise_cons.2 ⟨hd, p2⟩, fun s hs t ht' => ?_⟩
    rcases List.mem_cons.1 ht' with rfl | k
    · exact ht s hs
    · exact p3 s hs t k
theorem sym_at (o : Ord lt U R) (A X Y B : List α) (hx : X.Pairwise R) (hy : Y.Pairwise R) (hu : ∀ x ∈ X, ∀ y ∈ Y, U x y) (h1 : 0 < X.length) (h2 : 0 < Y.length) :
    ∃ u v, symAt lt (A ++ (X ++ (Y ++ B))) A.length (A.length + X.length) (A.length + X.length + Y.length) = A.length + u ∧ u ≤ X.length ∧ v ≤ Y.length ∧
      u + v = (X.length + Y.length) / 2 ∧ (∀ x ∈ X.take u, ∀ y ∈ Y.drop v, R x y) ∧ (∀ y ∈ Y.take v, ∀ x ∈ X.drop u, R y x) := by
  generalize hl : A ++ (X ++ (Y ++ B)) = l at *
  generalize ha : A.length = a at *
  generalize hxl : X.length = x at *
  generalize hyl : Y.length = y at *
  have hd : (a + (a + x + y)) / 2 = a + (x + y) / 2 := by omega
  have hp : ∀ c, (c1 : c < x) → (x + y) / 2 ≤ c + y → c < x → c + 1 ≤ (x + y) / 2 + x → (hq : (x + y) / 2 - 1 - c < y) → c ≤ (x + y) / 2 - 1 → 1 ≤ (x + y) / 2 →
      ltA lt l (a + (x + y) / 2 + (a + x) - 1 - (a + c)) (a + c) = lt (Y[(x + y) / 2 - 1 - c]'(by omega)) (X[c]'(by omega)) := by
    intro c c1 c2 c3 c4 hq c5 c6
    rw [show a + (x + y) / 2 + (a + x) - 1 - (a + c) = a + x + ((x + y) / 2 - 1 - c) by omega, ← hl]
    subst ha hxl
    exact lt_yx A X Y B (by omega) (by omega)
  have hR : symR (a + x) a (a + x + y) = a + min x ((x + y) / 2) := by rw [symR, hd]; split <;> omega
  have hS : symS (a + x) a (a + x + y) = a + ((x + y) / 2 - y) := by rw [symS, hd]; split <;> omega
  have hm : ∀ i j, a + ((x + y) / 2 - y) ≤ i → i ≤ j → j < a + min x ((x + y) / 2) → (!ltA lt l ((a + (a + x + y)) / 2 + (a + x) - 1 - j) j) = true → (!ltA lt l ((a + (a + x + y)) / 2 + (a + x) - 1 - i) i) = true := by
    intro i j k1 k2 k3 k4
    obtain ⟨i, rfl⟩ := Nat.exists_eq_add_of_le (show a ≤ i by omega)
    obtain ⟨j, rfl⟩ := Nat.exists_eq_add_of_le (show a ≤ j by omega)
    rw [hd, hp j (by omega) (by omega) (by omega) (by omega) (by omega) (by omega) (by omega)] at k4
    rw [hd, hp i (by omega) (by omega) (by omega) (by omega) (by omega) (by omega) (by omega)]
    have r := o.down (hu _ (List.getElem_mem (show j < X.length by omega)) _ (List.getElem_mem (show (x + y) / 2 - 1 - j < Y.length by omega))) (by simpa using k4)
    cases hc : lt (Y[(x + y) / 2 - 1 - i]'(by omega)) (X[i]'(by omega)) with
    | false => rfl
    | true =>
      have r2 := (o.up (hu _ (List.getElem_mem (show i < X.length by omega)) _ (List.getElem_mem (show (x + y) / 2 - 1 - i < Y.length by omega)))).1 hc
      have r3 : R (X[i]'(by omega)) (Y[(x + y) / 2 - 1 - j]'(by omega)) := by
        rcases pw_le hx (i := i) (j := j) (by omega) (by omega) with k | k
        · rw [k]; exact r
        · exact o.trans k r
      rcases pw_le hy (i := (x + y) / 2 - 1 - j) (j := (x + y) / 2 - 1 - i) (by omega) (by omega) with k | k
      · rw [← k] at r2; exact absurd r2 (o.asym r3)
      · exact absurd (o.trans r3 k) (o.asym r2)
  obtain ⟨b1, b2, b3, b4⟩ := bs_ok (p := fun c => !ltA lt l ((a + (a + x + y)) / 2 + (a + x) - 1 - c) c) (a + min x ((x + y) / 2) - (a + ((x + y) / 2 - y))) (a + ((x + y) / 2 - y)) (a + min x ((x + y) / 2)) (by omega) (by omega) hm
  rw [symAt, hR, hS]
  generalize hs : bs (fun c => !ltA lt l ((a + (a + x + y)) / 2 + (a + x) - 1 - c) c) (a + min x ((x + y) / 2) - (a + ((x + y) / 2 - y))) (a + ((x + y) / 2 - y)) (a + min x ((x + y) / 2)) = s at *
  obtain ⟨u, rfl⟩ := Nat.exists_eq_add_of_le (show a ≤ s by omega)
  refine ⟨u, (x + y) / 2 - u, rfl, by omega, by omega, by omega, ?_, ?_⟩
  · intro p hp' q hq'
    obtain ⟨i, hi, rfl⟩ := List.mem_iff_getElem.1 hp'
    obtain ⟨j, hj, rfl⟩ := List.mem_iff_getElem.1 hq'
    rw [List.length_take] at hi
    rw [List.length_drop] at hj
    rw [List.getElem_take, List.getElem_drop]
    have k := b3 (a + (u - 1)) (by omega) (by omega)
    rw [hd, hp (u - 1) (by omega) (by omega) (by omega) (by omega) (by omega) (by omega) (by omega)] at k
    have r := o.down (hu _ (List.getElem_mem (show u - 1 < X.length by omega)) _ (List.getElem_mem (show (x + y) / 2 - 1 - (u - 1) < Y.length by omega))) (by simpa using k)
    have r1 : R (X[i]'(by omega)) (Y[(x + y) / 2 - 1 - (u - 1)]'(by omega)) := by
      rcases pw_le hx (i := i) (j := u - 1) (by omega) (by omega) with k | k
      · rw [k]; exact r
      · exact o.trans k r
    rcases pw_le hy (i := (x + y) / 2 - 1 - (u - 1)) (j := (x + y) / 2 - u + j) (by omega) (by omega) with k | k
    · rw [← k]; exact r1
    · exact o.trans r1 k
  · intro q hq' p hp'
    obtain ⟨j, hj, rfl⟩ := List.mem_iff_getElem.1 hq'
    obtain ⟨i, hi, rfl⟩ := List.mem_iff_getElem.1 hp'
    rw [List.length_take] at hj
    rw [List.length_drop] at hi
    rw [List.getElem_take, List.getElem_drop]
    have k := b4 (a + u) (by omega) (by omega)
    rw [hd, hp u (by omega) (by omega) (by omega) (by omega) (by omega) (by omega) (by omega)] at k
    have r := (o.up (hu _ (List.getElem_mem (show u < X.length by omega)) _ (List.getElem_mem (show (x + y) / 2 - 1 - u < Y.length by omega)))).1 (by simpa using k)
    have r1 : R (Y[j]'(by omega)) (X[u]'(by omega)) := by
      rcases pw_le hy (i := j) (j := (x + y) / 2 - 1 - u) (by omega) (by omega) with k | k
      · rw [k]; exact r
      · exact o.trans k r
    rcases pw_le hx (i := u) (j := u + i) (by omega) (by omega) with k | k
    · rw [← k]; exact r1
    · exact o.trans r1 k
theorem symM_ok (o : Ord lt U R) : ∀ (f : Nat) (A X Y B : List α), 0 < X.length → 0 < Y.length → X.length + Y.length ≤ f + 1 → X.Pairwise R → Y.Pairwise R → (∀ x ∈ X, ∀ y ∈ Y, U x y) →
    ∃ Z, symM lt f (A ++ (X ++ (Y ++ B))) A.length (A.length + X.length) (A.length + X.length + Y.length) = A ++ (Z ++ B) ∧ Z.Perm (X ++ Y) ∧ Z.Pairwise R
  | 0, A, X, Y, B, h1, h2, h3, hx, hy, hu => by omega
  | f + 1, A, X, Y, B, h1, h2, h3, hx, hy, hu => by
    rw [symM]
    by_cases c1 : A.length + X.length = A.length + 1
    · rw [if_pos c1]
      obtain ⟨x, rfl⟩ := List.length_eq_one_iff.1 (show X.length = 1 by omega)
      have := sym_left o A x Y B hy (hu x (by simp))
      rw [List.length_singleton, Nat.add_sub_cancel_left]
      exact this
    rw [if_neg c1]
    by_cases c2 : A.length + X.length + Y.length = A.length + X.length + 1
    · rw [if_pos c2]
      obtain ⟨y, rfl⟩ := List.length_eq_one_iff.1 (show Y.length = 1 by omega)
      have := sym_right o A X y B hx (fun x hx => hu x hx y (by simp))
      rw [Nat.add_sub_cancel_left]
      exact this
    rw [if_neg c2]
    obtain ⟨u, v, e0, hu1, hv1, huv, f1, f2⟩ := sym_at o A X Y B hx hy hu h1 h2
    simp only [e0]
    rw [show (A.length + (A.length + X.length + Y.length)) / 2 = A.length + (u + v) by omega]
    rw [show A.length + (u + v) + (A.length + X.length) - (A.length + u) = A.length + X.length + v by omega]
    have ex : X = X.take u ++ X.drop u := (List.take_append_drop u X).symm
    have ey : Y = Y.take v ++ Y.drop v := (List.take_append_drop v Y).symm
    have lx1 : (X.take u).length = u := by rw [List.length_take]; omega
    have lx2 : (X.drop u).length = X.length - u := List.length_drop
    have ly1 : (Y.take v).length = v := by rw [List.length_take]; omega
    have ly2 : (Y.drop v).length = Y.length - v := List.length_drop
    generalize hxl : X.length = xl at *
    generalize hyl : Y.length = yl at *
    generalize X.take u = X1 at *
    generalize X.drop u = X2 at *
    generalize Y.take v = Y1 at *
    generalize Y.drop v = Y2 at *
    subst ex ey
    obtain ⟨px1, px2, px3⟩ := List.pairwise_append.1 hx
    obtain ⟨py1, py2, py3⟩ := List.pairwise_append.1 hy
    have t : symT (A ++ (X1 ++ X2 ++ (Y1 ++ Y2 ++ B))) (A.length + xl) (A.length + u) (A.length + xl + v) = A ++ (X1 ++ (Y1 ++ (X2 ++ (Y2 ++ B)))) := by
      unfold symT
      split
      · have := rot_ok (X2.length + Y1.length) (A ++ X1) X2 Y1 (Y2 ++ B) (by omega) (by omega) (by omega)
        rw [List.length_append, lx1, lx2, ly1] at this
        rw [show A.length + u + (xl - u) = A.length + xl by omega] at this
        rw [show A.length + xl + v - (A.length + u) = xl - u + v by omega, show A.length + xl - (A.length + u) = xl - u by omega, show A.length + xl + v - (A.length + xl) = v by omega]
        simp only [List.append_assoc] at this ⊢
        exact this
      · rename_i k
        have : X2 = [] ∨ Y1 = [] := by
          rcases Nat.eq_zero_or_pos X2.length with k1 | k1
          · exact .inl (List.length_eq_zero_iff.1 k1)
          · exact .inr (List.length_eq_zero_iff.1 (by omega))
        rcases this with rfl | rfl <;> simp
    rw [t]
    obtain ⟨Z1, z1, z2, z3⟩ : ∃ Z1, (if A.length < A.length + u ∧ A.length + u < A.length + (u + v) then symM lt f (A ++ (X1 ++ (Y1 ++ (X2 ++ (Y2 ++ B))))) A.length (A.length + u) (A.length + (u + v)) else A ++ (X1 ++ (Y1 ++ (X2 ++ (Y2 ++ B))))) = A ++ (Z1 ++ (X2 ++ (Y2 ++ B))) ∧ Z1.Perm (X1 ++ Y1) ∧ Z1.Pairwise R := by
      split
      · have := symM_ok o f A X1 Y1 (X2 ++ (Y2 ++ B)) (by omega) (by omega) (by omega) px1 py1 (fun x hx y hy => hu x (by simp [hx]) y (by simp [hy]))
        rw [lx1, ly1, Nat.add_assoc] at this
        exact this
      · rename_i k
        refine ⟨X1 ++ Y1, by simp, List.Perm.refl _, ?_⟩
        rcases Nat.eq_zero_or_pos X1.length with k1 | k1
        · rw [List.length_eq_zero_iff.1 k1]; simpa using py1
        · rw [List.length_eq_zero_iff.1 (show Y1.length = 0 by omega), List.append_nil]; exact px1
    rw [z1]
    have lz : Z1.length = u + v := by rw [z2.length_eq, List.length_append, lx1, ly1]
    obtain ⟨Z2, w1, w2, w3⟩ : ∃ Z2, (if A.length + (u + v) < A.length + xl + v ∧ A.length + xl + v < A.length + xl + yl then symM lt f (A ++ (Z1 ++ (X2 ++ (Y2 ++ B)))) (A.length + (u + v)) (A.length + xl + v) (A.length + xl + yl) else A ++ (Z1 ++ (X2 ++ (Y2 ++ B)))) = A ++ (Z1 ++ (Z2 ++ B)) ∧ Z2.Perm (X2 ++ Y2) ∧ Z2.Pairwise R := by
      split
      · have := symM_ok o f (A ++ Z1) X2 Y2 B (by omega) (by omega) (by omega) px2 py2 (fun x hx y hy => hu x (by simp [hx]) y (by simp [hy]))
        rw [lx2, ly2, List.length_append, lz, show A.length + (u + v) + (xl - u) = A.length + xl + v by omega, show A.length + xl + v + (yl - v) = A.length + xl + yl by omega] at this
        simp only [List.append_assoc] at this
        exact this
      · rename_i k
        refine ⟨X2 ++ Y2, by simp, List.Perm.refl _, ?_⟩
        rcases Nat.eq_zero_or_pos X2.length with k1 | k1
        · rw [List.length_eq_zero_iff.1 k1]; simpa using py2
        · rw [List.length_eq_zero_iff.1 (show Y2.length = 0 by omega), List.append_nil]; exact px2
    refine ⟨Z1 ++ Z2, by rw [w1]; simp, ?_, List.pairwise_append.2 ⟨z3, w3, fun s hs t ht => ?_⟩⟩
    · refine (z2.append w2).trans ?_
      have : (X1 ++ Y1 ++ (X2 ++ Y2)).Perm (X1 ++ X2 ++ (Y1 ++ Y2)) := by
        rw [List.append_assoc, List.append_assoc]
        refine List.Perm.append_left X1 ?_
        rw [← List.append_assoc, ← List.append_assoc]
        exact List.Perm.append_right Y2 (List.perm_append_comm)
      exact this
    · rcases List.mem_append.1 (z2.mem_iff.1 hs) with k | k <;> rcases List.mem_append.1 (w2.mem_iff.1 ht) with k' | k'
      · exact px3 s k t k'
      · exact f1 s k t k'
      · exact f2 s k t k'
      · exact py3 s k t k'
end
end Go.VM.SM

namespace Go.VM.SM
set_option linter.unusedVariables false
set_option linter.unusedSimpArgs false
variable {α : Type}
def posD (lt : α → α → Bool) (M : List α) (x : α) : Nat → Nat
  | 0 => 0
  | k + 1 => if (M[k]?.map fun y => lt x y) = some true then posD lt M x k else k + 1
def insM (lt : α → α → Bool) (M : List α) (x : α) : List α := M.take (posD lt M x M.length) ++ x :: M.drop (posD lt M x M.length)
def sortI (lt : α → α → Bool) (L : List α) : List α := L.foldl (insM lt) []
def stab (lt : α → α → Bool) (L : List α) : List α :=
  if 20 < L.length then symM lt 100 (insS lt 20 (insS lt 0 L 19) (L.length - 21)) 0 20 L.length else insS lt 0 L (L.length - 1)
section
variable {lt : α → α → Bool} {U R : α → α → Prop}
theorem posD_ok (M : List α) (x : α) : ∀ k, k ≤ M.length → posD lt M x k ≤ k ∧ (∀ i (h : i < M.length), posD lt M x k ≤ i → i < k → lt x M[i] = true) ∧ ∀ i, i + 1 = posD lt M x k → ∃ h : i < M.length, lt x M[i] = false
  | 0, _ => ⟨Nat.le_refl _, fun i h h1 h2 => by omega, fun i h => by simp [posD] at h⟩
  | k + 1, hk => by
    have hlt : k < M.length := hk
    rw [posD, List.getElem?_eq_getElem hlt, Option.map_some]
    obtain ⟨h1, h2, h3⟩ := posD_ok M x k (by omega)
    cases hc : lt x M[k] with
    | true =>
      rw [if_pos rfl]
      refine ⟨by omega, fun i hi a b => ?_, h3⟩
      rcases Nat.lt_or_ge i k with c | c
      · exact h2 i hi a c
      · have : i = k := by omega
        subst this; exact hc
    | false =>
      rw [if_neg (by simp)]
      exact ⟨Nat.le_refl _, fun i hi a b => by omega, fun i hi => by
        have : i = k := by omega
        subst this; exact ⟨hlt, hc⟩⟩
theorem insM_ok (o : Ord lt U R) {M : List α} {x : α} (hM : M.Pairwise R) (hu : ∀ m ∈ M, U m x) : (insM lt M x).Perm (M ++ [x]) ∧ (insM lt M x).Pairwise R := by
  obtain ⟨h1, h2, h3⟩ := posD_ok (lt := lt) M x M.length (Nat.le_refl _)
  unfold insM
  generalize posD lt M x M.length = p at *
  refine ⟨?_, ?_⟩
  · refine List.perm_middle.trans ?_
    rw [List.take_append_drop]
    exact (List.perm_append_singleton x M).symm
  · have e : M = M.take p ++ M.drop p := (List.take_append_drop p M).symm
    have hM2 := hM
    rw [e] at hM2
    obtain ⟨p1, p2, p3⟩ := List.pairwise_append.1 hM2
    have ht : ∀ m ∈ M.take p, R m x := by
      intro m hm
      obtain ⟨i, hi, rfl⟩ := List.mem_iff_getElem.1 hm
      rw [List.length_take] at hi
      rw [List.getElem_take]
      obtain ⟨hp, hq⟩ := h3 (p - 1) (by omega)
      have r := o.down (hu _ (List.getElem_mem hp)) hq
      rcases pw_le hM (i := i) (j := p - 1) hp (by omega) with k | k
      · rw [k]; exact r
      · exact o.trans k r
    have hd : ∀ m ∈ M.drop p, R x m := by
      intro m hm
      obtain ⟨i, hi, rfl⟩ := List.mem_iff_getElem.1 hm
      rw [List.length_drop] at hi
      rw [List.getElem_drop]
      exact (o.up (hu _ (List.getElem_mem _))).1 (h2 (p + i) (by omega) (by omega) (by omega))
    refine List.pairwise_append.2 ⟨p1, List.pairwise_cons.2 ⟨hd, p2⟩, fun s hs t ht' => ?_⟩
    rcases List.mem_cons.1 ht' with rfl | k
    · exact ht s hs
    · exact p3 s hs t k
theorem foldl_ins (o : Ord lt U R) : ∀ (L M : List α), M.Pairwise R → (∀ m ∈ M, ∀ x ∈ L, U m x) → L.Pairwise U → (L.foldl (insM lt) M).Perm (M ++ L) ∧ (L.foldl (insM lt) M).Pairwise R
  | [], M, hM, hu, hL => ⟨by simp, hM⟩
  | x :: L, M, hM, hu, hL => by
    obtain ⟨h1, h2⟩ := insM_ok o hM (fun m hm => hu m hm x (by simp))
    have hL' := List.pairwise_cons.1 hL
    obtain ⟨h3, h4⟩ := foldl_ins o L (insM lt M x) h2 (fun m hm y hy => by
      rcases List.mem_append.1 (h1.mem_iff.1 hm) with k | k
      · exact hu m k y (by simp [hy])
      · rw [List.mem_singleton] at k; subst k; exact hL'.1 y hy) hL'.2
    refine ⟨?_, h4⟩
    refine h3.trans ((h1.append_right L).trans ?_)
    simp
theorem sortI_ok (o : Ord lt U R) {L : List α} (hL : L.Pairwise U) : (sortI lt L).Perm L ∧ (sortI lt L).Pairwise R := by
  have := foldl_ins o L [] List.Pairwise.nil (fun m hm => by cases hm) hL
  simpa [sortI] using this
theorem stab_ok (o : Ord lt U R) {L : List α} (hL : L.Pairwise U) (h30 : L.length ≤ 30) : (stab lt L).Perm L ∧ (stab lt L).Pairwise R := by
  unfold stab
  split
  · rename_i h
    have e : L = L.take 20 ++ L.drop 20 := (List.take_append_drop 20 L).symm
    have l1 : (L.take 20).length = 20 := by rw [List.length_take]; omega
    have l2 : (L.drop 20).length = L.length - 20 := List.length_drop
    have hu := hL
    generalize hn : L.length = n at *
    generalize L.take 20 = X at *
    generalize L.drop 20 = Y at *
    subst e
    obtain ⟨u1, u2, u3⟩ := List.pairwise_append.1 hu
    obtain ⟨Z, z1, z2, z3⟩ := insS_ok o [] 19 X Y l1 u1
    rw [List.length_nil, List.nil_append, List.nil_append] at z1
    rw [z1]
    have lz : Z.length = 20 := by rw [z2.length_eq, l1]
    obtain ⟨W, w1, w2, w3⟩ := insS_ok o Z (n - 21) Y [] (by omega) u2
    rw [List.append_nil, List.append_nil, lz] at w1
    rw [w1]
    obtain ⟨V, v1, v2, v3⟩ := symM_ok o 100 [] Z W [] (by omega) (by rw [w2.length_eq]; omega) (by rw [lz, w2.length_eq]; omega) z3 w3 (fun x hx y hy => u3 x (z2.mem_iff.1 hx) y (w2.mem_iff.1 hy))
    rw [List.length_nil, List.nil_append, List.append_nil, List.append_nil, List.nil_append, Nat.zero_add, lz, w2.length_eq, l2, show 20 + (n - 20) = n by omega] at v1
    rw [v1]
    exact ⟨v2.trans (z2.append w2), v3⟩
  · match L, hL with
    | [], _ => exact ⟨List.Perm.refl _, List.Pairwise.nil⟩
    | x :: L, hL =>
      obtain ⟨Z, z1, z2, z3⟩ := insS_ok o [] L.length (x :: L) [] rfl hL
      rw [List.length_nil, List.nil_append, List.nil_append, List.append_nil, List.append_nil] at z1
      rw [List.length_cons, Nat.add_sub_cancel, z1]
      exact ⟨z2, z3⟩
theorem stab_eq (o : Ord lt U R) {L : List α} (hL : L.Pairwise U) (h30 : L.length ≤ 30) : stab lt L = sortI lt L := by
  obtain ⟨a1, a2⟩ := stab_ok o hL h30
  obtain ⟨b1, b2⟩ := sortI_ok o hL
  exact List.Perm.eq_of_pairwise (fun x y _ _ h1 h2 => absurd h2 (o.asym h1)) a2 b2 (a1.trans b1.symm)
end
end Go.VM.SM

