/- Contracts of functions, and the facts that they need. No condition. -/
import Derived.Test.YtonjbbfgdloljaaGreatDoorVLS
import Derived.Test.YtonjbbfgdloljaaGreatDoorVLShelf
import Derived.Test.YtonjbbfgdloljaaGreatDoorVmShelf

import Derived.Test.YtonjbbfgdloljaaGreatDoorVmCur
namespace Go.Proofs.YtonjbbfgdloljaaGreatDoor.L
open Go Go.VM
set_option maxRecDepth 100000
set_option maxHeartbeats 4000000
set_option linter.unusedSimpArgs false
set_option linter.unusedVariables false
open Classical in
noncomputable def spSplit : VM.Spec := { modes := [.rd, .rd], run := fun | [.str s, .str t] => if 1 ≤ t.length ∧ s.length < 4294967281 then some (.lst 1 ((Lib.splitK t 0 (Lib.count s t) s).map eStr), []) else none | _ => none, need := ["internal/bytealg.MaxLen"] }
attribute [go_sem] spSplit
theorem spSplit_in {ins : List V} {r : V} {outs : List V} (h : spSplit.run ins = some (r, outs)) : ∃ (s : (List UInt8)) (t : (List UInt8)), ins = [.str s, .str t] ∧ (1 ≤ t.length ∧ s.length < 4294967281) ∧ .lst 1 ((Lib.splitK t 0 (Lib.count s t) s).map eStr) = r ∧ outs = [] := by
  unfold spSplit at h
  simp only at h
  split at h
  · rename_i s t
    split at h
    case isFalse => cases h
    rename_i hc
    simp only [Option.some.injEq, Prod.mk.injEq] at h
    obtain ⟨h1, h2⟩ := h
    exact ⟨s, t, rfl, hc, h1, h2.symm⟩
  · cases h
theorem ok_strings_Split : FnOk Tryz.prog 104 spSplit :=
  split_ok Tryz.func104 rfl (by kernel_rfl) (g := 0) (by kernel_rfl) (by simp [spSplit]) rfl (fun _ _ _ h => spSplit_in h) Tryz.strings_Split
def consHead (b : UInt8) : List (List UInt8) → List (List UInt8)
  | [] => [[b]]
  | h :: t => (b :: h) :: t
def splitOn (c : UInt8) : List UInt8 → List (List UInt8)
  | [] => [[]]
  | b :: s => if b = c then [] :: splitOn c s else consHead b (splitOn c s)
theorem splitK_skip {c b : UInt8} (hb : b ≠ c) (s : List UInt8) (k : Nat) : Lib.splitK [c] 0 k (b :: s) = consHead b (Lib.splitK [c] 0 k s) := by
  cases k with
  | zero => rfl
  | succ k =>
    have hp : [c].isPrefixOf (b :: s) = false := by simp [List.isPrefixOf]; exact fun h => hb h.symm
    rw [Lib.splitK, Lib.splitK]
    have hge := Lib.index_ge s [c]
    by_cases hi : Lib.index s [c] = -1
    · have h1 : Lib.index (b :: s) [c] = -1 := by simp [Lib.index, hp, hi]
      rw [h1, hi]; rfl
    · have h0 : (Lib.index s [c] == -1) = false := beq_eq_false_iff_ne.2 hi
      have h1 : Lib.index (b :: s) [c] = Lib.index s [c] + 1 := by simp [Lib.index, hp, h0]
      have h2 : (Lib.index s [c] + 1 == -1) = false := beq_eq_false_iff_ne.2 (by omega)
      rw [h1, h0, h2]
      obtain ⟨i, hi'⟩ : ∃ i : Nat, Lib.index s [c] = i := ⟨(Lib.index s [c]).toNat, by omega⟩
      rw [hi']
      have e1 : ((i : Int) + 1).toNat = i + 1 := by omega
      rw [e1]
      simp [consHead]
theorem split_eq (c : UInt8) (s : List UInt8) : Lib.splitK [c] 0 (Lib.count s [c]) s = splitOn c s := by
  rw [Lib.count_one]
  induction s with
  | nil => rfl
  | cons b s ih =>
    by_cases hb : b = c
    · subst hb
      rw [List.count_cons_self, splitOn, if_pos rfl, ← ih, Lib.splitK]
      have h1 : Lib.index (b :: s) [b] = 0 := by simp [Lib.index, List.isPrefixOf]
      rw [h1]; simp
    · rw [List.count_cons_of_ne hb, splitK_skip hb, ih, splitOn, if_neg hb]
def notB (c : UInt8) (b : UInt8) : Bool := b != c
theorem splitOn_first (c : UInt8) (s : List UInt8) : splitOn c s = s.takeWhile (notB c) :: (if c ∈ s then splitOn c (s.drop ((s.takeWhile (notB c)).length + 1)) else []) := by
  induction s with
  | nil => simp [splitOn]
  | cons b s ih =>
    rw [splitOn]
    by_cases hb : b = c
    · subst hb
      simp [List.takeWhile_cons, notB]
    · have h1 : notB c b = true := by simpa [notB] using hb
      rw [if_neg hb, ih, consHead]
      simp only [List.takeWhile_cons, h1, if_true, List.mem_cons, List.length_cons, List.drop_succ_cons]
      congr 1
      by_cases hc : c ∈ s
      · simp [hc]
      · simp [hc, Ne.symm hb]
theorem splitOn_len (c : UInt8) (s : List UInt8) : (splitOn c s).length ≤ s.length + 1 := by
  induction s with
  | nil => simp [splitOn]
  | cons b s ih =>
    rw [splitOn]
    split
    · simp; omega
    · cases h : splitOn c s with
      | nil => simp [consHead]
      | cons x t => rw [h] at ih; simp [consHead] at ih ⊢; omega
theorem splitOn_mem (c : UInt8) (s : List UInt8) : ∀ x ∈ splitOn c s, x.length ≤ s.length := by
  induction s with
  | nil => simp [splitOn]
  | cons b s ih =>
    rw [splitOn]
    split
    · intro x hx
      rcases List.mem_cons.1 hx with rfl | hx
      · simp
      · have := ih x hx; simp; omega
    · cases h : splitOn c s with
      | nil => intro x hx; simp [consHead] at hx; subst hx; simp
      | cons y t =>
        rw [h] at ih
        intro x hx
        simp only [consHead] at hx
        rcases List.mem_cons.1 hx with rfl | hx
        · have := ih y (by simp); simp; omega
        · have := ih x (by simp [hx]); simp; omega
def hit (nm l : List UInt8) : Bool := (lowS nm ++ [58]).isPrefixOf (lowS l)
def headIn (nm : List UInt8) : List (List UInt8) → List UInt8 × Bool
  | [] => ([], false)
  | l :: ls => if l = [] then ([], false) else if hit nm l = true then (trim (l.drop (nm.length + 1)), true) else headIn nm ls
def headOf (t nm : List UInt8) : List UInt8 × Bool := headIn nm (splitOn 10 t)
theorem low1_colon (b : UInt8) : (low1 b == 58) = (b == 58) := by
  unfold low1
  split
  · rename_i h
    have h1 : (b + 32).toNat = b.toNat + 32 := by
      rw [UInt8.toNat_add]
      have e : UInt8.toNat 32 = 32 := rfl
      rw [e]; omega
    have e1 : ¬ b = 58 := by rintro rfl; exact absurd h.1 (by decide)
    have e2 : ¬ b + 32 = 58 := by
      intro h2
      rw [h2] at h1
      have : (58 : UInt8).toNat = 58 := rfl
      omega
    rw [beq_eq_false_iff_ne.2 e1, beq_eq_false_iff_ne.2 e2]
  · rfl
theorem hit_short {nm l : List UInt8} (h : l.length ≤ nm.length) : hit nm l = false := by
  unfold hit
  apply isPrefixOf_short
  simp [lowS]; omega
theorem hit_long {nm l : List UInt8} (h : nm.length < l.length) : hit nm l = ((lowS (l.take nm.length) == lowS nm) && (l[nm.length] == 58)) := by
  have e : (lowS l).take (nm.length + 1) = lowS (l.take nm.length) ++ [low1 l[nm.length]] := by
    simp only [lowS, ← List.map_take]
    rw [take_succ' h, List.map_append]; rfl
  unfold hit
  rw [isPrefixOf_take]
  have hl : (lowS nm ++ [58]).length = nm.length + 1 := by simp [lowS]
  rw [hl, e, ← low1_colon]
  have h1 : (lowS (l.take nm.length)).length = (lowS nm).length := by simp [lowS]; omega
  rw [Bool.eq_iff_iff]
  simp only [beq_iff_eq, Bool.and_eq_true]
  constructor
  · intro h2
    have := List.append_inj h2 h1
    exact ⟨this.1, by simpa using this.2⟩
  · rintro ⟨h2, h3⟩
    rw [h2, h3]
open Classical in
noncomputable def spHeadOf : VM.Spec := { modes := [.rd, .rd], run := fun | [.str t, .str nm] => if t.length ≤ 4194304 ∧ nm.length ≤ 4194304 then some (.tup [.str ((headOf t nm).1), .bool ((headOf t nm).2)], []) else none | _ => none, need := ["internal/bytealg.MaxLen"] }
attribute [go_sem] spHeadOf
theorem spHeadOf_in {ins : List V} {r : V} {outs : List V} (h : spHeadOf.run ins = some (r, outs)) : ∃ (t : (List UInt8)) (nm : (List UInt8)), ins = [.str t, .str nm] ∧ (t.length ≤ 4194304 ∧ nm.length ≤ 4194304) ∧ .tup [.str ((headOf t nm).1), .bool ((headOf t nm).2)] = r ∧ outs = [] := by
  unfold spHeadOf at h
  simp only at h
  split at h
  · rename_i t nm
    split at h
    case isFalse => cases h
    rename_i hc
    simp only [Option.some.injEq, Prod.mk.injEq] at h
    obtain ⟨h1, h2⟩ := h
    exact ⟨t, nm, rfl, hc, h1, h2.symm⟩
  · cases h
def T_impl_HeadOf : Hints := ⟨lk [], lk [(2, [1, 11, 12, 13])], lk [(0, [0, 1]), (1, [1, 11, 12, 13]), (2, [1, 11, 12, 13, 14]), (3, [1, 7, 11, 12, 13]), (4, [1, 7, 11, 12, 13, 18]), (5, [1, 7, 8, 9, 11, 12, 13]), (6, [1, 7, 8, 11, 12, 13, 28]), (7, [4, 5]), (8, [1, 11, 12, 13]), (9, [4, 5])], lk []⟩
noncomputable def Phi_impl_HeadOf : Tab := lk [(62, spLow), (104, spSplit), (76, spCutPrefix), (130, spTrim)]
attribute [go_sem] T_impl_HeadOf Phi_impl_HeadOf
theorem phi_impl_HeadOf : ∀ f sp, Phi_impl_HeadOf f = some sp → FnOk Tryz.prog f sp ∧ ∀ n ∈ sp.need, n ∈ (["internal/bytealg.MaxLen"] : List String) := phi_cons ok_impl_lower (n0 rfl) (phi_cons ok_strings_Split (fun n (h : n ∈ (["internal/bytealg.MaxLen"] : List String)) => by simp only [List.mem_cons, List.not_mem_nil, or_false] at h; rcases h with rfl <;> simp) (phi_cons ok_strings_CutPrefix (n0 rfl) (phi_cons ok_strings_Trim (n0 rfl) (phi_nil))))
theorem ok_impl_HeadOf : FnOk Tryz.prog 102 spHeadOf := by
  refine fn_ok (Φ := Phi_impl_HeadOf) (T := T_impl_HeadOf) phi_impl_HeadOf mixed Tryz.func102 rfl rfl rfl (by decide) ?_
  intro ins r outs hr hl
  clear hl
  have hs := spHeadOf_in hr
  clear hr
  obtain ⟨t, nm, rfl, hc, hr, rfl⟩ := hs
  simp only [spHeadOf, Tryz.f102, Go.VM.initS]
  obtain ⟨ht, hn⟩ := hc
  have b1 : t.length < 4294967281 := by omega
  have b2 : (1 : Nat) ≤ [(10 : UInt8)].length := by decide
  have hS := split_eq 10 t
  have e32 : (([32] : List UInt8) = [32]) = True := eq_self _
  simp only [b1, hS, go_sem]
  repeat' ((first | apply qa | apply qb | apply qc | apply qd | apply qe | apply qf | apply qg | apply qh | apply qi | apply qj | apply qk) <;> intro hp <;> simp only [hp, b1, hS, go_sem])
  have hL1 := splitOn_len 10 t
  have hL2 := splitOn_mem 10 t
  have hO : headOf t nm = headIn nm (splitOn 10 t) := rfl
  rw [hO] at hr
  clear hO hS
  generalize splitOn 10 t = L at *
  refine loop_go (fun i : Nat => [(13, .int .i64 (i : Int))]) (fun _ => []) (fun i => L.length - i) (fun i => i ≤ L.length ∧ headIn nm (L.drop i) = headIn nm L) 0 ⟨Nat.zero_le _, rfl⟩ rfl rfl ?_
  intro i ⟨hi, hh⟩ ih
  rcases Nat.lt_or_ge i L.length with h | h
  · have g1 : (i : Int) < L.length := by omega
    have g2 : (0 : Int) ≤ i := by omega
    have g3 : L[i]? = some L[i] := List.getElem?_eq_getElem h
    have g5 := wrap_succ h (by omega)
    have hd := List.drop_eq_getElem_cons h
    rw [hd, headIn] at hh
    have hx := hL2 _ (List.getElem_mem h)
    have c1 : L[i].length ≤ 1099511627776 := by omega
    have c2 : (lowS L[i]).length ≤ 1099511627776 := by rw [lowS_len]; exact c1
    have c3 : nm.length ≤ 1099511627776 := by omega
    have c4 : (lowS nm).length + 1 ≤ 1099511627776 := by rw [lowS_len]; omega
    have c5 : (lowS nm).length + 1 ≤ 9223372036854775807 := by rw [lowS_len]; omega
    cases he : (L[i] == []) with
    | true =>
      have he' : L[i] = [] := by simpa using he
      rw [if_pos he'] at hh
      simp only [g1, g2, g3, g5, he, go_sem]
      repeat' ((first | apply qa | apply qb | apply qc | apply qd | apply qe | apply qf | apply qg | apply qh | apply qi | apply qj | apply qk) <;> intro hp <;> simp only [hp, g1, g2, g3, g5, he, go_sem])
      simp only [fin_mk, finV, resL, resV1, resIn, endA, listIn, Option.some_or, Option.none_or, oneOrTup, go_sem]
      rw [← hr]
      rw [← hh]
    | false =>
      have he' : ¬ L[i] = [] := by simpa using he
      rw [if_neg he'] at hh
      cases hp : hit nm L[i] with
      | false =>
        rw [hp, if_neg (by simp)] at hh
        have hp' : (lowS nm ++ [58]).isPrefixOf (lowS L[i]) = false := hp
        have ih' := ih (i + 1) ⟨h, hh⟩ (by omega)
        simp only [g1, g2, g3, g5, he, hp', c1, c2, c3, c4, c5, List.length_append, go_sem]
        repeat' ((first | apply qa | apply qb | apply qc | apply qd | apply qe | apply qf | apply qg | apply qh | apply qi | apply qj | apply qk) <;> intro hp <;> simp only [hp, g1, g2, g3, g5, he, hp', c1, c2, c3, c4, c5, List.length_append, go_sem])
        exact ih'
      | true =>
        rw [hp, if_pos rfl] at hh
        have hp' : (lowS nm ++ [58]).isPrefixOf (lowS L[i]) = true := hp
        have hlen := isPrefixOf_len hp'
        simp only [List.length_append, List.length_cons, List.length_nil, lowS_len] at hlen
        have d1 : cutPrefix (lowS L[i]) (lowS nm ++ [58]) = (lowS L[i]).drop (nm.length + 1) := by simp [cutPrefix, hp', lowS_len]
        have d2 : ((lowS L[i]).drop (nm.length + 1)).length = L[i].length - (nm.length + 1) := by rw [List.length_drop, lowS_len]
        have w1 : IntKind.i64.wrap ((L[i].length : Int) - ((L[i].length - (nm.length + 1) : Nat) : Int)) = ((nm.length + 1 : Nat) : Int) := (wrap64 (by omega) (by omega)).trans (by omega)
        have g6 : (0 : Int) ≤ ((nm.length + 1 : Nat) : Int) := by omega
        have g7 : nm.length + 1 ≤ L[i].length := by omega
        have g8 : (L[i].drop (nm.length + 1)).length ≤ 1099511627776 := by rw [List.length_drop]; omega
        simp only [g1, g2, g3, g5, he, hp', c1, c2, c3, c4, c5, d1, d2, w1, g6, g7, g8, e32, List.length_append, List.take_length, Nat.le_refl, go_sem]
        repeat' ((first | apply qa | apply qb | apply qc | apply qd | apply qe | apply qf | apply qg | apply qh | apply qi | apply qj | apply qk) <;> intro hp <;> simp only [hp, g1, g2, g3, g5, he, hp', c1, c2, c3, c4, c5, d1, d2, w1, g6, g7, g8, e32, List.length_append, List.take_length, Nat.le_refl, go_sem])
        simp only [fin_mk, finV, resL, resV1, resIn, endA, listIn, Option.some_or, Option.none_or, oneOrTup, go_sem]
        rw [← hr]
        rw [← hh]
  · have g1 : ¬ (i : Int) < L.length := by omega
    rw [List.drop_of_length_le h, headIn] at hh
    simp only [g1, go_sem]
    repeat' ((first | apply qa | apply qb | apply qc | apply qd | apply qe | apply qf | apply qg | apply qh | apply qi | apply qj | apply qk) <;> intro hp <;> simp only [hp, g1, go_sem])
    simp only [fin_mk, finV, resL, resV1, resIn, endA, listIn, Option.some_or, Option.none_or, oneOrTup, go_sem]
    rw [← hr]
    rw [← hh]
theorem takeWhile_at {α : Type} {p : α → Bool} : ∀ {l : List α} {n : Nat}, (∀ x ∈ l.take n, p x = true) → (h : n < l.length) → p l[n] = false → l.takeWhile p = l.take n
  | [], n, _, h, _ => by simp at h
  | b :: l, 0, _, _, hp => by simp only [List.getElem_cons_zero] at hp; simp [List.takeWhile_cons, hp]
  | b :: l, n + 1, ha, h, hp => by
    have h1 : p b = true := ha b (by simp)
    rw [List.takeWhile_cons, if_pos h1, List.take_succ_cons, takeWhile_at (n := n) (fun x hx => ha x (by simp [hx])) (by simpa using h) (by simpa using hp)]
theorem takeWhile_mem {α : Type} {p : α → Bool} {l : List α} {x : α} (h : x ∈ l.takeWhile p) : p x = true := by
  induction l with
  | nil => simp at h
  | cons b l ih =>
    rw [List.takeWhile_cons] at h
    split at h
    · rename_i hb
      rcases List.mem_cons.1 h with rfl | h
      · exact hb
      · exact ih h
    · simp at h
theorem takeWhile_all {α : Type} {p : α → Bool} {l : List α} (h : ∀ x ∈ l, p x = true) : l.takeWhile p = l := by
  induction l with
  | nil => rfl
  | cons b l ih => rw [List.takeWhile_cons, if_pos (h b (by simp)), ih fun x hx => h x (by simp [hx])]
def lineAt (t : List UInt8) (a : Nat) : List UInt8 := (t.drop a).takeWhile (notB 10)
def nextAt (t : List UInt8) (a : Nat) : Int := if t.length ≤ a then -1 else if 10 ∈ t.drop a then ((a + (lineAt t a).length + 1 : Nat) : Int) else t.length
theorem notB_bool (b : UInt8) : notB 10 b = !((b.toNat : Int) == 10) := by
  unfold notB
  have : (b == 10) = ((b.toNat : Int) == 10) := by
    rw [Bool.eq_iff_iff, beq_iff_eq, beq_iff_eq]
    constructor
    · rintro rfl; rfl
    · intro h
      have : b.toNat = (10 : UInt8).toNat := by show b.toNat = 10; omega
      exact UInt8.toNat_inj.1 this
  rw [← this]; rfl
theorem take_drop_succ {t : List UInt8} {a i : Nat} (ha : a ≤ i) (h : i < t.length) : (t.take (i + 1)).drop a = (t.take i).drop a ++ [t[i]] := by
  rw [take_succ' h, List.drop_append_of_le_length (by rw [List.length_take]; omega)]
open Classical in
noncomputable def spLine : VM.Spec := { modes := [.rd, .rd], run := fun | [.str t, .int .i64 a] => if t.length ≤ 4194304 ∧ 0 ≤ a then some (.tup [.str (lineAt t a.toNat), .int .i64 (nextAt t a.toNat)], []) else none | _ => none, need := [] }
attribute [go_sem] spLine
theorem spLine_in {ins : List V} {r : V} {outs : List V} (h : spLine.run ins = some (r, outs)) : ∃ (t : (List UInt8)) (a : Int), ins = [.str t, .int .i64 a] ∧ (t.length ≤ 4194304 ∧ 0 ≤ a) ∧ .tup [.str (lineAt t a.toNat), .int .i64 (nextAt t a.toNat)] = r ∧ outs = [] := by
  unfold spLine at h
  simp only at h
  split at h
  · rename_i t a
    split at h
    case isFalse => cases h
    rename_i hc
    simp only [Option.some.injEq, Prod.mk.injEq] at h
    obtain ⟨h1, h2⟩ := h
    exact ⟨t, a, rfl, hc, h1, h2.symm⟩
  · cases h
def T_spec_l07Line : Hints := ⟨lk [], lk [(4, [0, 1, 6])], lk [(0, [0, 1]), (1, [0, 1, 10]), (2, [4, 5]), (3, [0, 1, 6]), (4, [0, 1, 6, 15]), (6, [0, 1, 6, 21]), (7, [4, 5]), (5, [0, 1, 6]), (8, [4, 5])], lk []⟩
noncomputable def Phi_spec_l07Line : Tab := lk []
attribute [go_sem] T_spec_l07Line Phi_spec_l07Line
theorem phi_spec_l07Line : ∀ f sp, Phi_spec_l07Line f = some sp → FnOk Tryz.prog f sp ∧ ∀ n ∈ sp.need, n ∈ ([] : List String) := phi_nil
theorem ok_spec_l07Line : FnOk Tryz.prog 108 spLine := by
  refine fn_ok (Φ := Phi_spec_l07Line) (T := T_spec_l07Line) phi_spec_l07Line mixed Tryz.func108 rfl rfl rfl (by decide) ?_
  intro ins r outs hr hl
  clear hl
  have hs := spLine_in hr
  clear hr
  obtain ⟨t, a, rfl, hc, hr, rfl⟩ := hs
  simp only [spLine, Tryz.f108, Go.VM.initS]
  obtain ⟨ht, h0⟩ := hc
  obtain ⟨a, rfl⟩ : ∃ n : Nat, a = n := ⟨a.toNat, by omega⟩
  simp only [Int.toNat_natCast] at hr
  rcases Nat.lt_or_ge a t.length with hlt | hge
  · have q1 : ¬ (t.length : Int) ≤ a := by omega
    have hN : ¬ t.length ≤ a := by omega
    simp only [q1, go_sem]
    repeat' ((first | apply qa | apply qb | apply qc | apply qd | apply qe | apply qf | apply qg | apply qh | apply qi | apply qj | apply qk) <;> intro hp <;> simp only [hp, q1, go_sem])
    refine loop_go (fun i : Nat => [(6, .int .i64 (i : Int))]) (fun _ => []) (fun i => t.length - i) (fun i => a ≤ i ∧ i ≤ t.length ∧ ∀ x ∈ (t.take i).drop a, notB 10 x = true) a ⟨Nat.le_refl _, by omega, by rw [List.drop_of_length_le (by rw [List.length_take]; omega)]; simp⟩ rfl rfl ?_
    intro i ⟨hi1, hi, ha⟩ ih
    have q2 : (0 : Int) ≤ a := by omega
    have q3 : a ≤ i := hi1
    rcases Nat.lt_or_ge i t.length with h | h
    · have g1 : (i : Int) < t.length := by omega
      have g2 : (0 : Int) ≤ i := by omega
      have g3 : t[i]? = some t[i] := List.getElem?_eq_getElem h
      have g4 : i ≤ t.length := by omega
      have g5 := wrap_succ h (by omega)
      have hi2 : i - a < (t.drop a).length := by rw [List.length_drop]; omega
      have hget : (t.drop a)[i - a] = t[i] := by rw [List.getElem_drop]; congr 1; omega
      have htk : (t.drop a).take (i - a) = (t.take i).drop a := by rw [List.drop_take]
      cases hb : ((t[i].toNat : Int) == 10) with
      | true =>
        have e1 : lineAt t a = (t.take i).drop a := by
          unfold lineAt
          rw [takeWhile_at (n := i - a) (by rw [htk]; exact ha) hi2 (by rw [hget, notB_bool, hb]; rfl), htk]
        have e2 : nextAt t a = ((i + 1 : Nat) : Int) := by
          unfold nextAt
          have hmem : (10 : UInt8) ∈ t.drop a := by
            have : t[i] = 10 := by
              have h1 : t[i].toNat = (10 : UInt8).toNat := by simp only [beq_iff_eq] at hb; show t[i].toNat = 10; omega
              exact UInt8.toNat_inj.1 h1
            rw [← this, ← hget]; exact List.getElem_mem _
          rw [if_neg hN, if_pos hmem, e1, List.length_drop, List.length_take]
          congr 1; omega
        simp only [g1, g2, g3, g4, g5, q2, q3, hb, go_sem]
        repeat' ((first | apply qa | apply qb | apply qc | apply qd | apply qe | apply qf | apply qg | apply qh | apply qi | apply qj | apply qk) <;> intro hp <;> simp only [hp, g1, g2, g3, g4, g5, q2, q3, hb, go_sem])
        simp only [fin_mk, finV, resL, resV1, resIn, endA, listIn, Option.some_or, Option.none_or, oneOrTup, go_sem]
        rw [← hr]
        rw [e1, e2]
      | false =>
        have ih' := ih (i + 1) ⟨by omega, h, by
          rw [take_drop_succ hi1 h]
          intro x hx
          rcases List.mem_append.1 hx with hx | hx
          · exact ha x hx
          · simp only [List.mem_singleton] at hx; rw [hx, notB_bool, hb]; rfl⟩ (by omega)
        simp only [g1, g2, g3, g5, hb, go_sem]
        repeat' ((first | apply qa | apply qb | apply qc | apply qd | apply qe | apply qf | apply qg | apply qh | apply qi | apply qj | apply qk) <;> intro hp <;> simp only [hp, g1, g2, g3, g5, hb, go_sem])
        exact ih'
    · have g1 : ¬ (i : Int) < t.length := by omega
      have g4 : a ≤ t.length := by omega
      have hall : ∀ x ∈ t.drop a, notB 10 x = true := by rw [List.take_of_length_le h] at ha; exact ha
      have e1 : lineAt t a = t.drop a := takeWhile_all hall
      have e2 : nextAt t a = t.length := by
        unfold nextAt
        rw [if_neg hN, if_neg]
        intro hm
        have := hall _ hm
        simp [notB] at this
      simp only [g1, q2, g4, List.take_length, Nat.le_refl, go_sem]
      repeat' ((first | apply qa | apply qb | apply qc | apply qd | apply qe | apply qf | apply qg | apply qh | apply qi | apply qj | apply qk) <;> intro hp <;> simp only [hp, g1, q2, g4, List.take_length, Nat.le_refl, go_sem])
      simp only [fin_mk, finV, resL, resV1, resIn, endA, listIn, Option.some_or, Option.none_or, oneOrTup, go_sem]
      rw [← hr]
      rw [e1, e2]
  · have q1 : (t.length : Int) ≤ a := by omega
    simp only [q1, go_sem]
    repeat' ((first | apply qa | apply qb | apply qc | apply qd | apply qe | apply qf | apply qg | apply qh | apply qi | apply qj | apply qk) <;> intro hp <;> simp only [hp, q1, go_sem])
    simp only [fin_mk, finV, resL, resV1, resIn, endA, listIn, Option.some_or, Option.none_or, oneOrTup, go_sem]
    rw [← hr]
    rw [lineAt, nextAt, if_pos hge, List.drop_of_length_le hge]; rfl
def T_spec_HeadOf : Hints := ⟨lk [], lk [(2, [0, 1, 6])], lk [(0, [0, 1]), (1, [0, 1, 6]), (2, [0, 1, 7, 8]), (3, [0, 1, 7, 8, 21]), (4, [4, 5]), (5, [0, 1, 7, 8, 9]), (6, [0, 1, 7, 8, 9, 42]), (7, [4, 5]), (8, [0, 1, 6])], lk []⟩
noncomputable def Phi_spec_HeadOf : Tab := lk [(108, spLine), (69, spLow), (109, spTrim1)]
attribute [go_sem] T_spec_HeadOf Phi_spec_HeadOf
theorem phi_spec_HeadOf : ∀ f sp, Phi_spec_HeadOf f = some sp → FnOk Tryz.prog f sp ∧ ∀ n ∈ sp.need, n ∈ (["internal/bytealg.MaxLen"] : List String) := phi_cons ok_spec_l07Line (n0 rfl) (phi_cons ok_spec_l06Low (n0 rfl) (phi_cons ok_spec_l07Trim (n0 rfl) (phi_nil)))
theorem ok_spec_HeadOf : FnOk Tryz.prog 66 spHeadOf := by
  refine fn_ok (Φ := Phi_spec_HeadOf) (T := T_spec_HeadOf) phi_spec_HeadOf mixed Tryz.func66 rfl rfl rfl (by decide) ?_
  intro ins r outs hr hl
  clear hl
  have hs := spHeadOf_in hr
  clear hr
  obtain ⟨t, nm, rfl, hc, hr, rfl⟩ := hs
  simp only [spHeadOf, Tryz.f66, Go.VM.initS]
  obtain ⟨ht, hn⟩ := hc
  simp only [go_sem]
  repeat' ((first | apply qa | apply qb | apply qc | apply qd | apply qe | apply qf | apply qg | apply qh | apply qi | apply qj | apply qk) <;> intro hp <;> simp only [hp, go_sem])
  refine loop_go (fun a : Nat => [(6, .int .i64 (a : Int))]) (fun _ => []) (fun a => t.length - a) (fun a => a ≤ t.length ∧ headIn nm (splitOn 10 (t.drop a)) = headOf t nm) 0 ⟨Nat.zero_le _, rfl⟩ rfl rfl ?_
  intro a ⟨ha, hh⟩ ih
  have q2 : (0 : Int) ≤ a := by omega
  rcases Nat.lt_or_ge a t.length with h | h
  · have hN : ¬ t.length ≤ a := by omega
    have hn0 : 0 ≤ nextAt t a := by unfold nextAt; rw [if_neg hN]; split <;> omega
    have q3 : ¬ nextAt t a < 0 := by omega
    have hF := splitOn_first 10 (t.drop a)
    have hle : lineAt t a = (t.drop a).takeWhile (notB 10) := rfl
    rw [← hle] at hF
    rw [hF, headIn] at hh
    have hll : (lineAt t a).length ≤ t.length := by
      have := (List.takeWhile_sublist (l := t.drop a) (notB 10)).length_le
      rw [List.length_drop] at this
      rw [hle]; omega
    generalize hl : lineAt t a = l at *
    cases he : (l == []) with
    | true =>
      have he' : l = [] := by simpa using he
      rw [if_pos he'] at hh
      simp only [ht, q2, q3, hl, he, Int.toNat_natCast, go_sem]
      repeat' ((first | apply qa | apply qb | apply qc | apply qd | apply qe | apply qf | apply qg | apply qh | apply qi | apply qj | apply qk) <;> intro hp <;> simp only [hp, ht, q2, q3, hl, he, Int.toNat_natCast, go_sem])
      simp only [fin_mk, finV, resL, resV1, resIn, endA, listIn, Option.some_or, Option.none_or, oneOrTup, go_sem]
      rw [← hr]
      rw [← hh]
    | false =>
      have he' : ¬ l = [] := by simpa using he
      rw [if_neg he'] at hh
      have c1 : nm.length ≤ 1099511627776 := by omega
      cases hp : hit nm l with
      | true =>
        rw [hp, if_pos rfl] at hh
        have hlt : nm.length < l.length := by
          rcases Nat.lt_or_ge nm.length l.length with h1 | h1
          · exact h1
          · rw [hit_short h1] at hp; cases hp
        rw [hit_long hlt, Bool.and_eq_true] at hp
        obtain ⟨p1, p2⟩ := hp
        have p2' : ((l[nm.length].toNat : Int) == 58) = true := by
          have : l[nm.length] = 58 := by simpa using p2
          rw [this]; rfl
        have g1 : (nm.length : Int) < l.length := by omega
        have g2 : (0 : Int) ≤ nm.length := by omega
        have g3 : l[nm.length]? = some l[nm.length] := List.getElem?_eq_getElem hlt
        have g4 : nm.length ≤ l.length := by omega
        have g5 : IntKind.i64.wrap ((nm.length : Int) + 1) = ((nm.length + 1 : Nat) : Int) := wrap_succ hlt (by omega)
        have g6 : (0 : Int) ≤ ((nm.length + 1 : Nat) : Int) := by omega
        have g7 : nm.length + 1 ≤ l.length := by omega
        have g8 : (l.take nm.length).length ≤ 1099511627776 := by rw [List.length_take]; omega
        have g9 : (l.drop (nm.length + 1)).length ≤ 1099511627776 := by rw [List.length_drop]; omega
        simp only [ht, q2, q3, hl, he, c1, g1, g2, g3, g4, g5, g6, g7, g8, g9, p1, p2', Int.toNat_natCast, List.drop_zero, List.take_length, Nat.zero_le, Nat.le_refl, go_sem]
        repeat' ((first | apply qa | apply qb | apply qc | apply qd | apply qe | apply qf | apply qg | apply qh | apply qi | apply qj | apply qk) <;> intro hp <;> simp only [hp, ht, q2, q3, hl, he, c1, g1, g2, g3, g4, g5, g6, g7, g8, g9, p1, p2', Int.toNat_natCast, List.drop_zero, List.take_length, Nat.zero_le, Nat.le_refl, go_sem])
        simp only [fin_mk, finV, resL, resV1, resIn, endA, listIn, Option.some_or, Option.none_or, oneOrTup, go_sem]
        rw [← hr]
        rw [← hh]
      | false =>
        rw [hp, if_neg (by simp)] at hh
        obtain ⟨b, hb, hb1, hb2⟩ : ∃ b : Nat, nextAt t a = b ∧ b ≤ t.length ∧ a < b ∧ headIn nm (splitOn 10 (t.drop b)) = headOf t nm := by
          unfold nextAt
          rw [if_neg hN, hl]
          by_cases hm : (10 : UInt8) ∈ t.drop a
          · rw [if_pos hm] at hh ⊢
            have hlt : l.length < (t.drop a).length := by
              rcases Nat.lt_or_ge l.length (t.drop a).length with h1 | h1
              · exact h1
              · exfalso
                have e1 : l = t.drop a := (List.takeWhile_sublist (l := t.drop a) (notB 10)).eq_of_length_le (by rw [← hle]; exact h1) |> fun e => hle.trans e
                have e2 : (10 : UInt8) ∈ l := by rw [e1]; exact hm
                rw [hle] at e2
                have := takeWhile_mem e2
                simp [notB] at this
            rw [List.length_drop] at hlt
            refine ⟨_, rfl, by omega, by omega, ?_⟩
            rw [← hh, List.drop_drop]
            congr 3
          · rw [if_neg hm] at hh ⊢
            refine ⟨_, rfl, Nat.le_refl _, h, ?_⟩
            rw [← hh, List.drop_length]; rfl
        have ih' := ih b ⟨hb1, hb2.2⟩ (by omega)
        rw [← hb] at ih'
        rcases Nat.lt_or_ge nm.length l.length with hlt | hge
        · rw [hit_long hlt] at hp
          have g1 : (nm.length : Int) < l.length := by omega
          have g2 : (0 : Int) ≤ nm.length := by omega
          have g3 : l[nm.length]? = some l[nm.length] := List.getElem?_eq_getElem hlt
          have g4 : nm.length ≤ l.length := by omega
          have g8 : (l.take nm.length).length ≤ 1099511627776 := by rw [List.length_take]; omega
          cases p1 : (lowS (l.take nm.length) == lowS nm) with
          | false =>
            simp only [ht, q2, q3, hl, he, c1, g1, g2, g3, g4, g8, p1, Int.toNat_natCast, List.drop_zero, Nat.zero_le, go_sem]
            repeat' ((first | apply qa | apply qb | apply qc | apply qd | apply qe | apply qf | apply qg | apply qh | apply qi | apply qj | apply qk) <;> intro hp <;> simp only [hp, ht, q2, q3, hl, he, c1, g1, g2, g3, g4, g8, p1, Int.toNat_natCast, List.drop_zero, Nat.zero_le, go_sem])
            exact ih'
          | true =>
            rw [p1, Bool.true_and] at hp
            have p2' : ((l[nm.length].toNat : Int) == 58) = false := by
              rw [beq_eq_false_iff_ne] at hp ⊢
              intro h2
              apply hp
              have h3 : l[nm.length].toNat = (58 : UInt8).toNat := by show l[nm.length].toNat = 58; omega
              exact UInt8.toNat_inj.1 h3
            simp only [ht, q2, q3, hl, he, c1, g1, g2, g3, g4, g8, p1, p2', Int.toNat_natCast, List.drop_zero, Nat.zero_le, go_sem]
            repeat' ((first | apply qa | apply qb | apply qc | apply qd | apply qe | apply qf | apply qg | apply qh | apply qi | apply qj | apply qk) <;> intro hp <;> simp only [hp, ht, q2, q3, hl, he, c1, g1, g2, g3, g4, g8, p1, p2', Int.toNat_natCast, List.drop_zero, Nat.zero_le, go_sem])
            exact ih'
        · have g1 : ¬ (nm.length : Int) < l.length := by omega
          simp only [ht, q2, q3, hl, he, g1, Int.toNat_natCast, go_sem]
          repeat' ((first | apply qa | apply qb | apply qc | apply qd | apply qe | apply qf | apply qg | apply qh | apply qi | apply qj | apply qk) <;> intro hp <;> simp only [hp, ht, q2, q3, hl, he, g1, Int.toNat_natCast, go_sem])
          exact ih'
  · have ea : a = t.length := by omega
    have e1 : nextAt t a = -1 := by rw [nextAt, if_pos h]
    rw [ea, List.drop_length] at hh
    have e2 : headOf t nm = ([], false) := by rw [← hh]; rfl
    simp only [ht, q2, e1, Int.toNat_natCast, go_sem]
    repeat' ((first | apply qa | apply qb | apply qc | apply qd | apply qe | apply qf | apply qg | apply qh | apply qi | apply qj | apply qk) <;> intro hp <;> simp only [hp, ht, q2, e1, Int.toNat_natCast, go_sem])
    simp only [fin_mk, finV, resL, resV1, resIn, endA, listIn, Option.some_or, Option.none_or, oneOrTup, go_sem]
    rw [← hr]
    rw [e2]
end Go.Proofs.YtonjbbfgdloljaaGreatDoor.L

namespace Go.Proofs.YtonjbbfgdloljaaGreatDoor.L
open Go Go.VM
set_option maxRecDepth 100000
set_option maxHeartbeats 4000000
set_option linter.unusedSimpArgs false
set_option linter.unusedVariables false
def flagsOk (n : Int) : Bool := within n 0 31
open Classical in
noncomputable def spFlagsOk : VM.Spec := { modes := [.rd], run := fun | [.int .i64 n] => some (.bool (flagsOk n), []) | _ => none, need := [] }
attribute [go_sem] spFlagsOk
theorem spFlagsOk_in {ins : List V} {r : V} {outs : List V} (h : spFlagsOk.run ins = some (r, outs)) : ∃ (n : Int), ins = [.int .i64 n] ∧ .bool (flagsOk n) = r ∧ outs = [] := by
  unfold spFlagsOk at h
  simp only at h
  split at h
  · rename_i n
    simp only [Option.some.injEq, Prod.mk.injEq] at h
    obtain ⟨h1, h2⟩ := h
    exact ⟨n, rfl, h1, h2.symm⟩
  · cases h
def T_impl_FlagsOk : Hints := ⟨lk [], lk [], lk [(0, [0]), (1, [2])], lk []⟩
noncomputable def Phi_impl_FlagsOk : Tab := lk [(41, spWithin)]
attribute [go_sem] T_impl_FlagsOk Phi_impl_FlagsOk
theorem phi_impl_FlagsOk : ∀ f sp, Phi_impl_FlagsOk f = some sp → FnOk Tryz.prog f sp ∧ ∀ n ∈ sp.need, n ∈ ([] : List String) := phi_cons ok_impl_within (n0 rfl) (phi_nil)
theorem ok_impl_FlagsOk : FnOk Tryz.prog 43 spFlagsOk := by
  refine fn_ok (Φ := Phi_impl_FlagsOk) (T := T_impl_FlagsOk) phi_impl_FlagsOk mixed Tryz.func43 rfl rfl rfl (by decide) ?_
  intro ins r outs hr hl
  clear hl
  have hs := spFlagsOk_in hr
  clear hr
  obtain ⟨n, rfl, hr, rfl⟩ := hs
  simp only [spFlagsOk, Tryz.f43, Go.VM.initS]
  simp only [go_sem]
  simp only [fin_mk, finV, resL, resV1, resIn, endA, listIn, Option.some_or, Option.none_or, oneOrTup, go_sem]
  rw [← hr]
  rfl
def T_spec_FlagsOk : Hints := ⟨lk [], lk [], lk [(0, [0]), (1, [2])], lk []⟩
noncomputable def Phi_spec_FlagsOk : Tab := lk [(38, spWithin)]
attribute [go_sem] T_spec_FlagsOk Phi_spec_FlagsOk
theorem phi_spec_FlagsOk : ∀ f sp, Phi_spec_FlagsOk f = some sp → FnOk Tryz.prog f sp ∧ ∀ n ∈ sp.need, n ∈ ([] : List String) := phi_cons ok_spec_l01In (n0 rfl) (phi_nil)
theorem ok_spec_FlagsOk : FnOk Tryz.prog 40 spFlagsOk := by
  refine fn_ok (Φ := Phi_spec_FlagsOk) (T := T_spec_FlagsOk) phi_spec_FlagsOk mixed Tryz.func40 rfl rfl rfl (by decide) ?_
  intro ins r outs hr hl
  clear hl
  have hs := spFlagsOk_in hr
  clear hr
  obtain ⟨n, rfl, hr, rfl⟩ := hs
  simp only [spFlagsOk, Tryz.f40, Go.VM.initS]
  simp only [go_sem]
  simp only [fin_mk, finV, resL, resV1, resIn, endA, listIn, Option.some_or, Option.none_or, oneOrTup, go_sem]
  rw [← hr]
  rfl
theorem ok_internal_bytealg_IndexByteString : FnOk Tryz.prog 174 spIndexByte :=
  indexByte_ext Tryz.func174 (by kernel_rfl) (by kernel_rfl) (by kernel_rfl) (by kernel_rfl)
def T_internal_stringslite_IndexByte : Hints := ⟨lk [], lk [], lk [(0, [0, 1]), (1, [4])], lk []⟩
noncomputable def Phi_internal_stringslite_IndexByte : Tab := lk [(174, spIndexByte)]
attribute [go_sem] T_internal_stringslite_IndexByte Phi_internal_stringslite_IndexByte
theorem phi_internal_stringslite_IndexByte : ∀ f sp, Phi_internal_stringslite_IndexByte f = some sp → FnOk Tryz.prog f sp ∧ ∀ n ∈ sp.need, n ∈ ([] : List String) := phi_cons ok_internal_bytealg_IndexByteString (n0 rfl) (phi_nil)
theorem ok_internal_stringslite_IndexByte : FnOk Tryz.prog 148 spIndexByte := by
  refine fn_ok (Φ := Phi_internal_stringslite_IndexByte) (T := T_internal_stringslite_IndexByte) phi_internal_stringslite_IndexByte mixed Tryz.func148 rfl rfl rfl (by decide) ?_
  intro ins r outs hr hl
  clear hl
  have hs := spIndexByte_in hr
  clear hr
  obtain ⟨s, c, rfl, hr, rfl⟩ := hs
  simp only [spIndexByte, Tryz.f148, Go.VM.initS]
  simp only [go_sem]
  simp only [fin_mk, finV, resL, resV1, resIn, endA, listIn, Option.some_or, Option.none_or, oneOrTup, go_sem]
  rw [← hr]
def T_strings_IndexByte : Hints := ⟨lk [], lk [], lk [(0, [0, 1]), (1, [4])], lk []⟩
noncomputable def Phi_strings_IndexByte : Tab := lk [(148, spIndexByte)]
attribute [go_sem] T_strings_IndexByte Phi_strings_IndexByte
theorem phi_strings_IndexByte : ∀ f sp, Phi_strings_IndexByte f = some sp → FnOk Tryz.prog f sp ∧ ∀ n ∈ sp.need, n ∈ ([] : List String) := phi_cons ok_internal_stringslite_IndexByte (n0 rfl) (phi_nil)
theorem ok_strings_IndexByte : FnOk Tryz.prog 144 spIndexByte := by
  refine fn_ok (Φ := Phi_strings_IndexByte) (T := T_strings_IndexByte) phi_strings_IndexByte mixed Tryz.func144 rfl rfl rfl (by decide) ?_
  intro ins r outs hr hl
  clear hl
  have hs := spIndexByte_in hr
  clear hr
  obtain ⟨s, c, rfl, hr, rfl⟩ := hs
  simp only [spIndexByte, Tryz.f144, Go.VM.initS]
  simp only [go_sem]
  simp only [fin_mk, finV, resL, resV1, resIn, endA, listIn, Option.some_or, Option.none_or, oneOrTup, go_sem]
  rw [← hr]
def mailOk (s : List UInt8) : Bool := within s.length 1 200 && !s.contains 0
open Classical in
noncomputable def spMailOk : VM.Spec := { modes := [.rd], run := fun | [.str s] => if s.length ≤ 4194304 then some (.bool (mailOk s), []) else none | _ => none, need := [] }
attribute [go_sem] spMailOk
theorem spMailOk_in {ins : List V} {r : V} {outs : List V} (h : spMailOk.run ins = some (r, outs)) : ∃ (s : (List UInt8)), ins = [.str s] ∧ (s.length ≤ 4194304) ∧ .bool (mailOk s) = r ∧ outs = [] := by
  unfold spMailOk at h
  simp only at h
  split at h
  · rename_i s
    split at h
    case isFalse => cases h
    rename_i hc
    simp only [Option.some.injEq, Prod.mk.injEq] at h
    obtain ⟨h1, h2⟩ := h
    exact ⟨s, rfl, hc, h1, h2.symm⟩
  · cases h
def T_impl_MailOk : Hints := ⟨lk [], lk [], lk [(0, [0]), (1, [2])], lk []⟩
noncomputable def Phi_impl_MailOk : Tab := lk [(41, spWithin), (144, spIndexByte)]
attribute [go_sem] T_impl_MailOk Phi_impl_MailOk
theorem phi_impl_MailOk : ∀ f sp, Phi_impl_MailOk f = some sp → FnOk Tryz.prog f sp ∧ ∀ n ∈ sp.need, n ∈ ([] : List String) := phi_cons ok_impl_within (n0 rfl) (phi_cons ok_strings_IndexByte (n0 rfl) (phi_nil))
theorem ok_impl_MailOk : FnOk Tryz.prog 125 spMailOk := by
  refine fn_ok (Φ := Phi_impl_MailOk) (T := T_impl_MailOk) phi_impl_MailOk mixed Tryz.func125 rfl rfl rfl (by decide) ?_
  intro ins r outs hr hl
  clear hl
  have hs := spMailOk_in hr
  clear hr
  obtain ⟨s, rfl, hc, hr, rfl⟩ := hs
  simp only [spMailOk, Tryz.f125, Go.VM.initS]
  have e : decide (Lib.indexByte s (Nat.toUInt8 0) < 0) = !s.contains 0 := by
    by_cases hm : (0 : UInt8) ∈ s
    · have : ¬ Lib.indexByte s 0 < 0 := fun h => (indexByte_neg s 0).1 h hm
      simp [this, hm]
    · have := (indexByte_neg s 0).2 hm
      simp [this, hm]
  simp only [e, go_sem]
  repeat' ((first | apply qa | apply qb | apply qc | apply qd | apply qe | apply qf | apply qg | apply qh | apply qi | apply qj | apply qk) <;> intro hp <;> simp only [hp, e, go_sem])
  all_goals (simp only [fin_mk, finV, resL, resV1, resIn, endA, listIn, Option.some_or, Option.none_or, oneOrTup, go_sem]; rw [← hr])
  all_goals simp only [mailOk, hp, Bool.true_and, Bool.false_and]
def T_spec_MailOk : Hints := ⟨lk [], lk [(2, [0, 3])], lk [(0, [0]), (1, [0, 3]), (2, [0, 3, 7]), (4, [0, 3, 13]), (5, [2]), (3, [0, 3]), (6, [2])], lk []⟩
noncomputable def Phi_spec_MailOk : Tab := lk [(38, spWithin)]
attribute [go_sem] T_spec_MailOk Phi_spec_MailOk
theorem phi_spec_MailOk : ∀ f sp, Phi_spec_MailOk f = some sp → FnOk Tryz.prog f sp ∧ ∀ n ∈ sp.need, n ∈ ([] : List String) := phi_cons ok_spec_l01In (n0 rfl) (phi_nil)
theorem ok_spec_MailOk : FnOk Tryz.prog 142 spMailOk := by
  refine fn_ok (Φ := Phi_spec_MailOk) (T := T_spec_MailOk) phi_spec_MailOk mixed Tryz.func142 rfl rfl rfl (by decide) ?_
  intro ins r outs hr hl
  clear hl
  have hs := spMailOk_in hr
  clear hr
  obtain ⟨s, rfl, hc, hr, rfl⟩ := hs
  simp only [spMailOk, Tryz.f142, Go.VM.initS]
  simp only [go_sem]
  refine loop_go (fun i : Nat => [(3, .int .i64 (i : Int))]) (fun _ => []) (fun i => s.length - i) (fun i => i ≤ s.length ∧ (s.take i).contains 0 = false) 0 ⟨Nat.zero_le _, by simp⟩ rfl rfl ?_
  intro i ⟨hi, ha⟩ ih
  rcases Nat.lt_or_ge i s.length with h | h
  · have g1 : (i : Int) < s.length := by omega
    have g2 : (0 : Int) ≤ i := by omega
    have g3 : s[i]? = some s[i] := List.getElem?_eq_getElem h
    have g5 := wrap_succ h (by omega)
    by_cases hz : s[i] = 0
    · have e : ((s[i].toNat : Int) == 0) = true := by rw [hz]; rfl
      simp only [g1, g2, g3, g5, e, go_sem]
      repeat' ((first | apply qa | apply qb | apply qc | apply qd | apply qe | apply qf | apply qg | apply qh | apply qi | apply qj | apply qk) <;> intro hp <;> simp only [hp, g1, g2, g3, g5, e, go_sem])
      simp only [fin_mk, finV, resL, resV1, resIn, endA, listIn, Option.some_or, Option.none_or, oneOrTup, go_sem]
      rw [← hr]
      have : s.contains 0 = true := by rw [List.contains_iff_mem]; exact hz ▸ List.getElem_mem h
      rw [mailOk, this, Bool.not_true, Bool.and_false]
    · have e : ((s[i].toNat : Int) == 0) = false := by
        rw [beq_eq_false_iff_ne]
        intro hh
        exact hz (UInt8.toNat_inj.1 (by simpa using hh))
      simp only [g1, g2, g3, g5, e, go_sem]
      repeat' ((first | apply qa | apply qb | apply qc | apply qd | apply qe | apply qf | apply qg | apply qh | apply qi | apply qj | apply qk) <;> intro hp <;> simp only [hp, g1, g2, g3, g5, e, go_sem])
      refine ih (i + 1) ⟨h, ?_⟩ (by omega)
      rw [take_succ' h]
      simp only [List.contains_eq_mem, List.mem_append, List.mem_singleton, decide_eq_false_iff_not, not_or] at ha ⊢
      exact ⟨ha, fun hh => hz hh.symm⟩
  · have g1 : ¬ (i : Int) < s.length := by omega
    simp only [g1, go_sem]
    simp only [fin_mk, finV, resL, resV1, resIn, endA, listIn, Option.some_or, Option.none_or, oneOrTup, go_sem]
    rw [← hr]
    rw [List.take_of_length_le h] at ha
    rw [mailOk, ha, Bool.not_false, Bool.and_true]
def rangeAt (x : List Range) (i : Nat) : Bool := within (x.getD i default).Lo 1 9999 && within (x.getD i default).Hi (x.getD i default).Lo 9999 && (i == 0 || decide ((x.getD (i - 1) default).Hi + 1 < (x.getD i default).Lo))
def setOk (x : List Range) : Bool := allN x.length (rangeAt x) && decide (x.length ≤ 40)
theorem rangeAt_hi {x : List Range} {i : Nat} (h : i < x.length) (hb : rangeAt x i = true) : 1 ≤ x[i].Lo ∧ x[i].Lo ≤ x[i].Hi ∧ x[i].Hi ≤ 9999 := by
  simp only [rangeAt, getD_lt h, Bool.and_eq_true, within, decide_eq_true_eq] at hb
  omega
open Classical in
noncomputable def spSetOk : VM.Spec := { modes := [.rd], run := fun | [.lst 2 x'] => (decL Range.dec x').bind fun x => if x.length ≤ 4194304 then some (.bool (setOk x), []) else none | _ => none, need := [] }
attribute [go_sem] spSetOk
theorem spSetOk_in {ins : List V} {r : V} {outs : List V} (h : spSetOk.run ins = some (r, outs)) : ∃ (x : (List Range)), ins = [.lst 2 ((x).map Range.enc)] ∧ (x.length ≤ 4194304) ∧ .bool (setOk x) = r ∧ outs = [] := by
  unfold spSetOk at h
  simp only at h
  split at h
  · rename_i x'
    simp only [Option.bind_eq_some_iff] at h
    obtain ⟨x, h_x, h⟩ := h
    split at h
    case isFalse => cases h
    rename_i hc
    simp only [Option.some.injEq, Prod.mk.injEq] at h
    obtain ⟨h1, h2⟩ := h
    have h_x := decL_some (fun _ _ h => Range.dec_some h) h_x
    subst h_x
    exact ⟨x, rfl, hc, h1, h2.symm⟩
  · cases h
def T_impl_SetOk : Hints := ⟨lk [(4, [])], lk [(2, [0, 5, 6, 7])], lk [(0, [0]), (1, [0, 5, 6, 7]), (2, [0, 5, 6, 7, 8]), (3, [0, 3, 4, 5, 6, 7]), (4, [0, 5, 6, 7, 39]), (5, [2]), (6, [0, 5, 6, 7]), (7, [2])], lk []⟩
noncomputable def Phi_impl_SetOk : Tab := lk [(41, spWithin), (42, spUid)]
attribute [go_sem] T_impl_SetOk Phi_impl_SetOk
theorem phi_impl_SetOk : ∀ f sp, Phi_impl_SetOk f = some sp → FnOk Tryz.prog f sp ∧ ∀ n ∈ sp.need, n ∈ ([] : List String) := phi_cons ok_impl_within (n0 rfl) (phi_cons ok_impl_isUid (n0 rfl) (phi_nil))
theorem ok_impl_SetOk : FnOk Tryz.prog 45 spSetOk := by
  refine fn_ok (Φ := Phi_impl_SetOk) (T := T_impl_SetOk) phi_impl_SetOk mixed Tryz.func45 rfl rfl rfl (by decide) ?_
  intro ins r outs hr hl
  clear hl
  have hs := spSetOk_in hr
  clear hr
  obtain ⟨x, rfl, hc, hr, rfl⟩ := hs
  simp only [spSetOk, Tryz.f45, Go.VM.initS]
  simp only [go_sem]
  refine loop_go (fun i : Nat => [(7, .int .i64 (i : Int))]) (fun _ => []) (fun i => x.length - i) (fun i => i ≤ x.length ∧ ∀ j, j < i → rangeAt x j = true) 0 ⟨Nat.zero_le _, fun j hj => absurd hj (by omega)⟩ rfl rfl ?_
  intro i ⟨hi, ha⟩ ih
  rcases Nat.lt_or_ge i x.length with h | h
  · have g1 : (i : Int) < x.length := by omega
    have g2 : (0 : Int) ≤ i := by omega
    have g3 : x[i]? = some x[i] := List.getElem?_eq_getElem h
    have g5 := wrap_succ h (by omega)
    simp only [g1, g2, g3, go_sem]
    refine goes_valD 39 V.bool (!rangeAt x i) rfl rfl rfl (by decide +kernel) ?_ ?_
    · intro G hG
      clear ih hr
      rcases Nat.eq_zero_or_pos i with h0 | h0
      · have k1 : ¬ (0 : Int) < i := by omega
        have g6 : rangeAt x i = (within x[i].Lo 1 9999 && within x[i].Hi x[i].Lo 9999) := by
          have : (i == 0) = true := by simp [h0]
          simp only [rangeAt, getD_lt h, this, Bool.true_or, Bool.and_true]
        simp only [g1, g2, g3, k1, go_sem]
        repeat' ((first | ((first | apply qa | apply qb | apply qc | apply qd | apply qe | apply qf | apply qg | apply qh | apply qi | apply qj | apply qk) <;> intro hp) | ((first | refine ql rfl rfl (by decide +kernel) ?_ | refine qm _ rfl rfl (by decide +kernel) ?_) <;> have hp := True.intro)) <;> simp only [hp, g1, g2, g3, k1, go_sem])
        all_goals (refine hG _ ?_; clear hG; rw [g6]; simp_all [within] <;> omega)
      · have k1 : (0 : Int) < i := by omega
        have k2 := wrap_pred h0 (by omega)
        have k3 : (0 : Int) ≤ ((i - 1 : Nat) : Int) := by omega
        have k4 : ((i - 1 : Nat) : Int) < x.length := by omega
        have k5 : x[i - 1]? = some (x[i - 1]'(by omega)) := List.getElem?_eq_getElem (by omega)
        have k6 := rangeAt_hi (i := i - 1) (by omega) (ha (i - 1) (by omega))
        have k7 : IntKind.i64.wrap ((x[i - 1]'(by omega)).Hi + 1) = (x[i - 1]'(by omega)).Hi + 1 := wrap64 (by omega) (by omega)
        have g6 : rangeAt x i = (within x[i].Lo 1 9999 && within x[i].Hi x[i].Lo 9999 && decide ((x[i - 1]'(by omega)).Hi + 1 < x[i].Lo)) := by
          have : (i == 0) = false := by simp; omega
          simp only [rangeAt, getD_lt h, getD_lt (show i - 1 < x.length by omega), this, Bool.false_or]
        clear ha
        simp only [g1, g2, g3, k1, k2, k3, k4, k5, k7, go_sem]
        repeat' ((first | ((first | apply qa | apply qb | apply qc | apply qd | apply qe | apply qf | apply qg | apply qh | apply qi | apply qj | apply qk) <;> intro hp) | ((first | refine ql rfl rfl (by decide +kernel) ?_ | refine qm _ rfl rfl (by decide +kernel) ?_) <;> have hp := True.intro)) <;> simp only [hp, g1, g2, g3, k1, k2, k3, k4, k5, k7, go_sem])
        all_goals (refine hG _ ?_; clear hG k2 k5 k7; rw [g6]; rcases Int.lt_or_le ((x[i - 1]'(by omega)).Hi + 1) x[i].Lo with q | q <;> simp_all [within] <;> first | omega | (rw [decide_eq_false (by omega), decide_eq_true (by omega)]; rfl))
    · simp only [g5, go_sem]
      repeat' ((first | ((first | apply qa | apply qb | apply qc | apply qd | apply qe | apply qf | apply qg | apply qh | apply qi | apply qj | apply qk) <;> intro hp) | ((first | refine ql rfl rfl (by decide +kernel) ?_ | refine qm _ rfl rfl (by decide +kernel) ?_) <;> have hp := True.intro)) <;> simp only [hp, g5, go_sem])
      · simp only [fin_mk, finV, resL, resV1, resIn, endA, listIn, Option.some_or, Option.none_or, oneOrTup, go_sem]
        rw [← hr]
        rw [setOk, allN_bad h hp]; rfl
      · exact ih (i + 1) ⟨h, all_succ ha hp⟩ (by omega)
  · have g1 : ¬ (i : Int) < x.length := by omega
    simp only [g1, go_sem]
    simp only [fin_mk, finV, resL, resV1, resIn, endA, listIn, Option.some_or, Option.none_or, oneOrTup, go_sem]
    rw [← hr]
    rw [setOk, allN_all h ha, Bool.true_and]
    congr 2
    simp
    omega
def T_spec_SetOk : Hints := ⟨lk [(4, [])], lk [(2, [0, 3])], lk [(0, [0]), (1, [0, 3]), (2, [0, 3, 7]), (4, [0, 3, 48]), (5, [2]), (3, [0, 3]), (6, [2])], lk []⟩
noncomputable def Phi_spec_SetOk : Tab := lk [(38, spWithin)]
attribute [go_sem] T_spec_SetOk Phi_spec_SetOk
theorem phi_spec_SetOk : ∀ f sp, Phi_spec_SetOk f = some sp → FnOk Tryz.prog f sp ∧ ∀ n ∈ sp.need, n ∈ ([] : List String) := phi_cons ok_spec_l01In (n0 rfl) (phi_nil)
theorem ok_spec_SetOk : FnOk Tryz.prog 39 spSetOk := by
  refine fn_ok (Φ := Phi_spec_SetOk) (T := T_spec_SetOk) phi_spec_SetOk mixed Tryz.func39 rfl rfl rfl (by decide) ?_
  intro ins r outs hr hl
  clear hl
  have hs := spSetOk_in hr
  clear hr
  obtain ⟨x, rfl, hc, hr, rfl⟩ := hs
  simp only [spSetOk, Tryz.f39, Go.VM.initS]
  simp only [go_sem]
  refine loop_go (fun i : Nat => [(3, .int .i64 (i : Int))]) (fun _ => []) (fun i => x.length - i) (fun i => i ≤ x.length ∧ ∀ j, j < i → rangeAt x j = true) 0 ⟨Nat.zero_le _, fun j hj => absurd hj (by omega)⟩ rfl rfl ?_
  intro i ⟨hi, ha⟩ ih
  rcases Nat.lt_or_ge i x.length with h | h
  · have g1 : (i : Int) < x.length := by omega
    have g2 : (0 : Int) ≤ i := by omega
    have g3 : x[i]? = some x[i] := List.getElem?_eq_getElem h
    have g5 := wrap_succ h (by omega)
    simp only [g1, g2, g3, go_sem]
    refine goes_valD 48 V.bool (!rangeAt x i) rfl rfl rfl (by decide +kernel) ?_ ?_
    · intro G hG
      clear ih hr
      rcases Nat.eq_zero_or_pos i with h0 | h0
      · have k1 : ¬ (0 : Int) < i := by omega
        have g6 : rangeAt x i = (within x[i].Lo 1 9999 && within x[i].Hi x[i].Lo 9999) := by
          have : (i == 0) = true := by simp [h0]
          simp only [rangeAt, getD_lt h, this, Bool.true_or, Bool.and_true]
        simp only [g1, g2, g3, k1, go_sem]
        repeat' ((first | ((first | apply qa | apply qb | apply qc | apply qd | apply qe | apply qf | apply qg | apply qh | apply qi | apply qj | apply qk) <;> intro hp) | ((first | refine ql rfl rfl (by decide +kernel) ?_ | refine qm _ rfl rfl (by decide +kernel) ?_) <;> have hp := True.intro)) <;> simp only [hp, g1, g2, g3, k1, go_sem])
        all_goals (refine hG _ ?_; clear hG; rw [g6]; simp_all [within] <;> omega)
      · have k1 : (0 : Int) < i := by omega
        have k2 := wrap_pred h0 (by omega)
        have k3 : (0 : Int) ≤ ((i - 1 : Nat) : Int) := by omega
        have k4 : ((i - 1 : Nat) : Int) < x.length := by omega
        have k5 : x[i - 1]? = some (x[i - 1]'(by omega)) := List.getElem?_eq_getElem (by omega)
        have k6 := rangeAt_hi (i := i - 1) (by omega) (ha (i - 1) (by omega))
        have k7 : IntKind.i64.wrap ((x[i - 1]'(by omega)).Hi + 1) = (x[i - 1]'(by omega)).Hi + 1 := wrap64 (by omega) (by omega)
        have g6 : rangeAt x i = (within x[i].Lo 1 9999 && within x[i].Hi x[i].Lo 9999 && decide ((x[i - 1]'(by omega)).Hi + 1 < x[i].Lo)) := by
          have : (i == 0) = false := by simp; omega
          simp only [rangeAt, getD_lt h, getD_lt (show i - 1 < x.length by omega), this, Bool.false_or]
        clear ha
        simp only [g1, g2, g3, k1, k2, k3, k4, k5, k7, go_sem]
        repeat' ((first | ((first | apply qa | apply qb | apply qc | apply qd | apply qe | apply qf | apply qg | apply qh | apply qi | apply qj | apply qk) <;> intro hp) | ((first | refine ql rfl rfl (by decide +kernel) ?_ | refine qm _ rfl rfl (by decide +kernel) ?_) <;> have hp := True.intro)) <;> simp only [hp, g1, g2, g3, k1, k2, k3, k4, k5, k7, go_sem])
        all_goals (refine hG _ ?_; clear hG k2 k5 k7; rw [g6]; rcases Int.lt_or_le ((x[i - 1]'(by omega)).Hi + 1) x[i].Lo with q | q <;> simp_all [within] <;> first | omega | (rw [decide_eq_false (by omega), decide_eq_true (by omega)]; rfl))
    · simp only [g5, go_sem]
      repeat' ((first | ((first | apply qa | apply qb | apply qc | apply qd | apply qe | apply qf | apply qg | apply qh | apply qi | apply qj | apply qk) <;> intro hp) | ((first | refine ql rfl rfl (by decide +kernel) ?_ | refine qm _ rfl rfl (by decide +kernel) ?_) <;> have hp := True.intro)) <;> simp only [hp, g5, go_sem])
      · simp only [fin_mk, finV, resL, resV1, resIn, endA, listIn, Option.some_or, Option.none_or, oneOrTup, go_sem]
        rw [← hr]
        rw [setOk, allN_bad h hp]; rfl
      · exact ih (i + 1) ⟨h, all_succ ha hp⟩ (by omega)
  · have g1 : ¬ (i : Int) < x.length := by omega
    simp only [g1, go_sem]
    simp only [fin_mk, finV, resL, resV1, resIn, endA, listIn, Option.some_or, Option.none_or, oneOrTup, go_sem]
    rw [← hr]
    rw [setOk, allN_all h ha, Bool.true_and]
    congr 2
    simp
    omega
end Go.Proofs.YtonjbbfgdloljaaGreatDoor.L

namespace Go.Proofs.YtonjbbfgdloljaaGreatDoor.L
open Go Go.VM
set_option maxRecDepth 100000
set_option maxHeartbeats 4000000
set_option linter.unusedSimpArgs false
set_option linter.unusedVariables false
def varN (n : Nat) : List UInt8 := if 127 < n then UInt8.ofNat (n % 128 + 128) :: varN (n / 128) else [UInt8.ofNat n]
termination_by n
decreasing_by omega
theorem tmod_nat (m k : Nat) : (m : Int).tmod k = ((m % k : Nat) : Int) := by
  rw [Int.tmod_eq_emod_of_nonneg (by omega)]; omega
theorem tdiv_nat (m k : Nat) : (m : Int).tdiv k = ((m / k : Nat) : Int) := by
  rw [Int.tdiv_eq_ediv_of_nonneg (by omega)]; omega
def varText (n : Int) : List UInt8 := if within n 0 1000000000 = true then varN n.toNat else []
def shortText (s : List UInt8) : List UInt8 := if s.length ≤ 20000 then varN s.length ++ s else []
open Classical in
noncomputable def spVarText : VM.Spec := { modes := [.rd], run := fun | [.int .i64 n] => some (.tup [.str (varText n), .bool (within n 0 1000000000)], []) | _ => none, need := [] }
attribute [go_sem] spVarText
open Classical in
noncomputable def spVarBytes : VM.Spec := { modes := [.rd], run := fun | [.int .i64 n] => if 0 ≤ n ∧ n ≤ 70368744177664 then some (.str (varN n.toNat), []) else none | _ => none, need := [] }
attribute [go_sem] spVarBytes
open Classical in
noncomputable def spShortText : VM.Spec := { modes := [.rd], run := fun | [.str s] => if s.length ≤ 4194304 then some (.tup [.str (shortText s), .bool (decide (s.length ≤ 20000))], []) else none | _ => none, need := [] }
attribute [go_sem] spShortText
open Classical in
noncomputable def spShort : VM.Spec := { modes := [.rd], run := fun | [.str s] => if s.length ≤ 20000 then some (.str (varN s.length ++ s), []) else none | _ => none, need := [] }
attribute [go_sem] spShort
open Classical in
noncomputable def spItoa : VM.Spec := { modes := [.rd], run := fun | [.int .i64 n] => if -9223372036854775808 ≤ n ∧ n ≤ 9223372036854775807 then some (.str (Lib.itoa n), []) else none | _ => none, need := ["internal/strconv.uint64pow10"] }
attribute [go_sem] spItoa
theorem spItoa_in {ins : List V} {r : V} {outs : List V} (h : spItoa.run ins = some (r, outs)) : ∃ (n : Int), ins = [.int .i64 n] ∧ (-9223372036854775808 ≤ n ∧ n ≤ 9223372036854775807) ∧ .str (Lib.itoa n) = r ∧ outs = [] := by
  unfold spItoa at h
  simp only at h
  split at h
  · rename_i n
    split at h
    case isFalse => cases h
    rename_i hc
    simp only [Option.some.injEq, Prod.mk.injEq] at h
    obtain ⟨h1, h2⟩ := h
    exact ⟨n, rfl, hc, h1, h2.symm⟩
  · cases h
theorem ok_strconv_Itoa : FnOk Tryz.prog 73 spItoa :=
  itoa_ok Tryz.func73 rfl (by kernel_rfl) (by simp [spItoa]) rfl (fun _ _ _ h => spItoa_in h) Tryz.strconv_Itoa
theorem nDigits_le : ∀ (k u : Nat), u < 10 ^ (k + 1) → Lib.nDigits u ≤ k + 1
  | 0, u, h => by rw [Lib.nDigits_small (by simpa using h)]; omega
  | k + 1, u, h => by
    by_cases hu : u < 10
    · rw [Lib.nDigits_small hu]; omega
    · rw [Lib.nDigits_big hu]
      have := nDigits_le k (u / 10) (by rw [Nat.pow_succ] at h; omega)
      omega
theorem itoa_len {n : Int} {k : Nat} (h0 : 0 ≤ n) (h : n < 10 ^ (k + 1)) : (Lib.itoa n).length ≤ k + 1 := by
  rw [Lib.itoa, if_neg (by omega), Lib.decDigits_length]
  exact nDigits_le k n.toNat (by
    have e : ((n.toNat : Nat) : Int) = n := by omega
    have : ((n.toNat : Nat) : Int) < ((10 ^ (k + 1) : Nat) : Int) := by rw [e]; simpa using h
    exact_mod_cast this)
theorem itoa10 {n : Int} (h0 : 0 ≤ n) (h : n ≤ 1000000000) : (Lib.itoa n).length ≤ 10 := itoa_len (k := 9) h0 (by omega)
def dig (m : Nat) : List UInt8 := if m = 0 then [] else Lib.decDigits m
theorem dig_step {m : Nat} (h : m ≠ 0) : dig m = dig (m / 10) ++ [UInt8.ofNat (48 + m % 10)] := by
  unfold dig
  rw [if_neg h, Lib.decDigits]
  by_cases h1 : m < 10
  · rw [dif_pos h1, if_pos (by omega), Nat.mod_eq_of_lt h1]; rfl
  · rw [dif_neg h1, if_neg (by omega)]
theorem dig_len (m : Nat) : (dig m).length ≤ m := by
  induction m using Nat.strongRecOn with
  | ind m ih =>
    by_cases h : m = 0
    · subst h; simp [dig]
    · rw [dig_step h, List.length_append]
      have := ih (m / 10) (by omega)
      simp; omega
open Classical in
noncomputable def spDecimal : VM.Spec := { modes := [.rd], run := fun | [.int .i64 n] => if 0 ≤ n ∧ n ≤ 1000000000 then some (.str (Lib.itoa n), []) else none | _ => none, need := ["internal/strconv.uint64pow10"] }
attribute [go_sem] spDecimal
theorem spDecimal_in {ins : List V} {r : V} {outs : List V} (h : spDecimal.run ins = some (r, outs)) : ∃ (n : Int), ins = [.int .i64 n] ∧ (0 ≤ n ∧ n ≤ 1000000000) ∧ .str (Lib.itoa n) = r ∧ outs = [] := by
  unfold spDecimal at h
  simp only at h
  split at h
  · rename_i n
    split at h
    case isFalse => cases h
    rename_i hc
    simp only [Option.some.injEq, Prod.mk.injEq] at h
    obtain ⟨h1, h2⟩ := h
    exact ⟨n, rfl, hc, h1, h2.symm⟩
  · cases h
def T_impl_Decimal : Hints := ⟨lk [], lk [], lk [(0, [0]), (1, [2])], lk []⟩
noncomputable def Phi_impl_Decimal : Tab := lk [(73, spItoa)]
attribute [go_sem] T_impl_Decimal Phi_impl_Decimal
theorem phi_impl_Decimal : ∀ f sp, Phi_impl_Decimal f = some sp → FnOk Tryz.prog f sp ∧ ∀ n ∈ sp.need, n ∈ (["internal/strconv.uint64pow10"] : List String) := phi_cons ok_strconv_Itoa (fun n (h : n ∈ (["internal/strconv.uint64pow10"] : List String)) => by simp only [List.mem_cons, List.not_mem_nil, or_false] at h; rcases h with rfl <;> simp) (phi_nil)
theorem ok_impl_Decimal : FnOk Tryz.prog 27 spDecimal := by
  refine fn_ok (Φ := Phi_impl_Decimal) (T := T_impl_Decimal) phi_impl_Decimal mixed Tryz.func27 rfl rfl rfl (by decide) ?_
  intro ins r outs hr hl
  clear hl
  have hs := spDecimal_in hr
  clear hr
  obtain ⟨n, rfl, hc, hr, rfl⟩ := hs
  simp only [spDecimal, Tryz.f27, Go.VM.initS]
  have h1 : (-9223372036854775808 : Int) ≤ n := by omega
  have h2 : n ≤ 9223372036854775807 := by omega
  simp only [h1, h2, go_sem]
  repeat' ((first | apply qa | apply qb | apply qc | apply qd | apply qe | apply qf | apply qg | apply qh | apply qi | apply qj | apply qk) <;> intro hp <;> simp only [hp, h1, h2, go_sem])
  simp only [fin_mk, finV, resL, resV1, resIn, endA, listIn, Option.some_or, Option.none_or, oneOrTup, go_sem]
  rw [← hr]
open Classical in
noncomputable def spFigure : VM.Spec := { modes := [.rd], run := fun | [.int .i64 x] => if 0 ≤ x ∧ x < 10 then some (.int .u8 (48 + x), []) else none | _ => none, need := [] }
attribute [go_sem] spFigure
theorem spFigure_in {ins : List V} {r : V} {outs : List V} (h : spFigure.run ins = some (r, outs)) : ∃ (x : Int), ins = [.int .i64 x] ∧ (0 ≤ x ∧ x < 10) ∧ .int .u8 (48 + x) = r ∧ outs = [] := by
  unfold spFigure at h
  simp only at h
  split at h
  · rename_i x
    split at h
    case isFalse => cases h
    rename_i hc
    simp only [Option.some.injEq, Prod.mk.injEq] at h
    obtain ⟨h1, h2⟩ := h
    exact ⟨x, rfl, hc, h1, h2.symm⟩
  · cases h
def T_spec_l01Figure : Hints := ⟨lk [], lk [], lk [(0, [0]), (1, [0, 4]), (2, [2]), (3, [2])], lk []⟩
noncomputable def Phi_spec_l01Figure : Tab := lk []
attribute [go_sem] T_spec_l01Figure Phi_spec_l01Figure
theorem phi_spec_l01Figure : ∀ f sp, Phi_spec_l01Figure f = some sp → FnOk Tryz.prog f sp ∧ ∀ n ∈ sp.need, n ∈ ([] : List String) := phi_nil
theorem ok_spec_l01Figure : FnOk Tryz.prog 84 spFigure := by
  refine fn_ok (Φ := Phi_spec_l01Figure) (T := T_spec_l01Figure) phi_spec_l01Figure mixed Tryz.func84 rfl rfl rfl (by decide) ?_
  intro ins r outs hr hl
  clear hl
  have hs := spFigure_in hr
  clear hr
  obtain ⟨x, rfl, hc, hr, rfl⟩ := hs
  simp only [spFigure, Tryz.f84, Go.VM.initS]
  obtain ⟨h0, h1⟩ := hc
  have e : IntKind.u8.wrap (IntKind.i64.wrap (48 + x)) = 48 + x := by
    rw [wrap64 (by omega) (by omega)]
    simp only [IntKind.wrap, IntKind.signed, IntKind.bits]
    simp; omega
  simp only [h1, e, go_sem]
  repeat' ((first | apply qa | apply qb | apply qc | apply qd | apply qe | apply qf | apply qg | apply qh | apply qi | apply qj | apply qk) <;> intro hp <;> simp only [hp, h1, e, go_sem])
  simp only [fin_mk, finV, resL, resV1, resIn, endA, listIn, Option.some_or, Option.none_or, oneOrTup, go_sem]
  rw [← hr]
def T_spec_Decimal : Hints := ⟨lk [], lk [(5, [0, 3, 4])], lk [(0, [0]), (1, [0, 7]), (2, [2]), (3, [0, 3]), (4, [0, 3, 4]), (5, [0, 3, 4, 11]), (6, [0, 3, 4, 5]), (7, [0, 3, 4, 5, 15]), (8, [0, 3, 4, 5]), (9, [0, 3, 4]), (10, [0, 3, 4]), (11, [4, 26]), (12, [2]), (13, [2])], lk []⟩
noncomputable def Phi_spec_Decimal : Tab := lk [(84, spFigure)]
attribute [go_sem] T_spec_Decimal Phi_spec_Decimal
end Go.Proofs.YtonjbbfgdloljaaGreatDoor.L

