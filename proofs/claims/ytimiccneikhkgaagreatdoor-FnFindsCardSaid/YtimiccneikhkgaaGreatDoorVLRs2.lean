/- Contracts of functions, and the facts that they need. No condition. -/
import Derived.Test.YtimiccneikhkgaaGreatDoorVLS
import Derived.Test.YtimiccneikhkgaaGreatDoorVLShelf
import Derived.Test.YtimiccneikhkgaaGreatDoorVmShelf
import Derived.Test.YtimiccneikhkgaaGreatDoorVLFl
namespace Go.Proofs.YtimiccneikhkgaaGreatDoor.L
open Go Go.VM
set_option maxRecDepth 100000
set_option maxHeartbeats 4000000
set_option linter.unusedSimpArgs false
set_option linter.unusedVariables false
open Classical in
noncomputable def spSplit : VM.Spec := { modes := [.rd, .rd], run := fun | [.str s, .str t] => if 1 ≤ t.length ∧ s.length < 4294967281 then some (.lst 1 ((Lib.splitK t 0 (Lib.count s t) s).map eStr), []) else none | _ => none, need := ["internal/bytealg.MaxLen"] }
attribute [go_sem] spSplit
theorem spSplit_in {ins : List V} {r : V} {outs : List V} (h : spSplit.run ins = some (r, outs)) : ∃ (s : (List UInt8)) (t : (List UInt8)), ins = [.str s, .str t] ∧ (1 ≤ t.length ∧ s.length < 4294967281) ∧ .lst 1 ((Lib.splitK t 0 (Lib.count s t) s).map eStr) = r ∧ outs = [] := by
  unfold spSplit at h
  simp only at h
  split at h
  · rename_i s t
    split at h
    case isFalse => cases h
    rename_i hc
    simp only [Option.some.injEq, Prod.mk.injEq] at h
    obtain ⟨h1, h2⟩ := h
    exact ⟨s, t, rfl, hc, h1, h2.symm⟩
  · cases h
theorem ok_strings_Split : FnOk Tryz.prog 104 spSplit :=
  split_ok Tryz.func104 rfl (by kernel_rfl) (g := 0) (by kernel_rfl) (by simp [spSplit]) rfl (fun _ _ _ h => spSplit_in h) Tryz.strings_Split
def consHead (b : UInt8) : List (List UInt8) → List (List UInt8)
  | [] => [[b]]
  | h :: t => (b :: h) :: t
def splitOn (c : UInt8) : List UInt8 → List (List UInt8)
  | [] => [[]]
  | b :: s => if b = c then [] :: splitOn c s else consHead b (splitOn c s)
theorem splitK_skip {c b : UInt8} (hb : b ≠ c) (s : List UInt8) (k : Nat) : Lib.splitK [c] 0 k (b :: s) = consHead b (Lib.splitK [c] 0 k s) := by
  cases k with
  | zero => rfl
  | succ k =>
    have hp : [c].isPrefixOf (b :: s) = false := by simp [List.isPrefixOf]; exact fun h => hb h.symm
    rw [Lib.splitK, Lib.splitK]
    have hge := Lib.index_ge s [c]
    by_cases hi : Lib.index s [c] = -1
    · have h1 : Lib.index (b :: s) [c] = -1 := by simp [Lib.index, hp, hi]
      rw [h1, hi]; rfl
    · have h0 : (Lib.index s [c] == -1) = false := beq_eq_false_iff_ne.2 hi
      have h1 : Lib.index (b :: s) [c] = Lib.index s [c] + 1 := by simp [Lib.index, hp, h0]
      have h2 : (Lib.index s [c] + 1 == -1) = false := beq_eq_false_iff_ne.2 (by omega)
      rw [h1, h0, h2]
      obtain ⟨i, hi'⟩ : ∃ i : Nat, Lib.index s [c] = i := ⟨(Lib.index s [c]).toNat, by omega⟩
      rw [hi']
      have e1 : ((i : Int) + 1).toNat = i + 1 := by omega
      rw [e1]
      simp [consHead]
theorem split_eq (c : UInt8) (s : List UInt8) : Lib.splitK [c] 0 (Lib.count s [c]) s = splitOn c s := by
  rw [Lib.count_one]
  induction s with
  | nil => rfl
  | cons b s ih =>
    by_cases hb : b = c
    · subst hb
      rw [List.count_cons_self, splitOn, if_pos rfl, ← ih, Lib.splitK]
      have h1 : Lib.index (b :: s) [b] = 0 := by simp [Lib.index, List.isPrefixOf]
      rw [h1]; simp
    · rw [List.count_cons_of_ne hb, splitK_skip hb, ih, splitOn, if_neg hb]
theorem splitOn_ne (c : UInt8) (s : List UInt8) : splitOn c s ≠ [] := by
  cases s with
  | nil => simp [splitOn]
  | cons b s =>
    rw [splitOn]
    split
    · simp
    · cases splitOn c s <;> simp [consHead]
def notB (c : UInt8) (b : UInt8) : Bool := b != c
theorem splitOn_first (c : UInt8) (s : List UInt8) : splitOn c s = s.takeWhile (notB c) :: (if c ∈ s then splitOn c (s.drop ((s.takeWhile (notB c)).length + 1)) else []) := by
  induction s with
  | nil => simp [splitOn]
  | cons b s ih =>
    rw [splitOn]
    by_cases hb : b = c
    · subst hb
      simp [List.takeWhile_cons, notB]
    · have h1 : notB c b = true := by simpa [notB] using hb
      rw [if_neg hb, ih, consHead]
      simp only [List.takeWhile_cons, h1, if_true, List.mem_cons, List.length_cons, List.drop_succ_cons]
      congr 1
      by_cases hc : c ∈ s
      · simp [hc]
      · simp [hc, Ne.symm hb]
theorem splitOn_len (c : UInt8) (s : List UInt8) : (splitOn c s).length ≤ s.length + 1 := by
  induction s with
  | nil => simp [splitOn]
  | cons b s ih =>
    rw [splitOn]
    split
    · simp; omega
    · cases h : splitOn c s with
      | nil => simp [consHead]
      | cons x t => rw [h] at ih; simp [consHead] at ih ⊢; omega
theorem splitOn_mem (c : UInt8) (s : List UInt8) : ∀ x ∈ splitOn c s, x.length ≤ s.length := by
  induction s with
  | nil => simp [splitOn]
  | cons b s ih =>
    rw [splitOn]
    split
    · intro x hx
      rcases List.mem_cons.1 hx with rfl | hx
      · simp
      · have := ih x hx; simp; omega
    · cases h : splitOn c s with
      | nil => intro x hx; simp [consHead] at hx; subst hx; simp
      | cons y t =>
        rw [h] at ih
        intro x hx
        simp only [consHead] at hx
        rcases List.mem_cons.1 hx with rfl | hx
        · have := ih y (by simp); simp; omega
        · have := ih x (by simp [hx]); simp; omega
def hit (nm l : List UInt8) : Bool := (lowS nm ++ [58]).isPrefixOf (lowS l)
def headIn (nm : List UInt8) : List (List UInt8) → List UInt8 × Bool
  | [] => ([], false)
  | l :: ls => if l = [] then ([], false) else if hit nm l = true then (trim (l.drop (nm.length + 1)), true) else headIn nm ls
def headOf (t nm : List UInt8) : List UInt8 × Bool := headIn nm (splitOn 10 t)
theorem low1_colon (b : UInt8) : (low1 b == 58) = (b == 58) := by
  unfold low1
  split
  · rename_i h
    have h1 : (b + 32).toNat = b.toNat + 32 := by
      rw [UInt8.toNat_add]
      have e : UInt8.toNat 32 = 32 := rfl
      rw [e]; omega
    have e1 : ¬ b = 58 := by rintro rfl; exact absurd h.1 (by decide)
    have e2 : ¬ b + 32 = 58 := by
      intro h2
      rw [h2] at h1
      have : (58 : UInt8).toNat = 58 := rfl
      omega
    rw [beq_eq_false_iff_ne.2 e1, beq_eq_false_iff_ne.2 e2]
  · rfl
theorem hit_short {nm l : List UInt8} (h : l.length ≤ nm.length) : hit nm l = false := by
  unfold hit
  apply isPrefixOf_short
  simp [lowS]; omega
theorem hit_long {nm l : List UInt8} (h : nm.length < l.length) : hit nm l = ((lowS (l.take nm.length) == lowS nm) && (l[nm.length] == 58)) := by
  have e : (lowS l).take (nm.length + 1) = lowS (l.take nm.length) ++ [low1 l[nm.length]] := by
    simp only [lowS, ← List.map_take]
    rw [take_succ' h, List.map_append]; rfl
  unfold hit
  rw [isPrefixOf_take]
  have hl : (lowS nm ++ [58]).length = nm.length + 1 := by simp [lowS]
  rw [hl, e, ← low1_colon]
  have h1 : (lowS (l.take nm.length)).length = (lowS nm).length := by simp [lowS]; omega
  rw [Bool.eq_iff_iff]
  simp only [beq_iff_eq, Bool.and_eq_true]
  constructor
  · intro h2
    have := List.append_inj h2 h1
    exact ⟨this.1, by simpa using this.2⟩
  · rintro ⟨h2, h3⟩
    rw [h2, h3]
open Classical in
noncomputable def spHeadOf : VM.Spec := { modes := [.rd, .rd], run := fun | [.str t, .str nm] => if t.length ≤ 4194304 ∧ nm.length ≤ 4194304 then some (.tup [.str ((headOf t nm).1), .bool ((headOf t nm).2)], []) else none | _ => none, need := ["internal/bytealg.MaxLen"] }
attribute [go_sem] spHeadOf
theorem spHeadOf_in {ins : List V} {r : V} {outs : List V} (h : spHeadOf.run ins = some (r, outs)) : ∃ (t : (List UInt8)) (nm : (List UInt8)), ins = [.str t, .str nm] ∧ (t.length ≤ 4194304 ∧ nm.length ≤ 4194304) ∧ .tup [.str ((headOf t nm).1), .bool ((headOf t nm).2)] = r ∧ outs = [] := by
  unfold spHeadOf at h
  simp only at h
  split at h
  · rename_i t nm
    split at h
    case isFalse => cases h
    rename_i hc
    simp only [Option.some.injEq, Prod.mk.injEq] at h
    obtain ⟨h1, h2⟩ := h
    exact ⟨t, nm, rfl, hc, h1, h2.symm⟩
  · cases h
def T_impl_HeadOf : Hints := ⟨fun _ => none, fun i => if i = 2 then some [1, 11, 12, 13] else none, fun i => if i = 0 then some [0, 1] else if i = 1 then some [1, 11, 12, 13] else if i = 2 then some [1, 11, 12, 13, 14] else if i = 3 then some [1, 7, 11, 12, 13] else if i = 4 then some [1, 7, 11, 12, 13, 18] else if i = 5 then some [1, 7, 8, 9, 11, 12, 13] else if i = 6 then some [1, 7, 8, 11, 12, 13, 28] else if i = 7 then some [4, 5] else if i = 8 then some [1, 11, 12, 13] else if i = 9 then some [4, 5] else none, fun _ => none⟩
noncomputable def Phi_impl_HeadOf : Tab := fun f => if f = 75 then some spLow else if f = 104 then some spSplit else if f = 171 then some spCutPrefix else if f = 172 then some spTrim else none
attribute [go_sem] T_impl_HeadOf Phi_impl_HeadOf
theorem phi_impl_HeadOf : ∀ f sp, Phi_impl_HeadOf f = some sp → FnOk Tryz.prog f sp ∧ ∀ n ∈ sp.need, n ∈ (["internal/bytealg.MaxLen"] : List String) := by
  intro f sp h
  unfold Phi_impl_HeadOf at h
  by_cases e : f = 75
  · rw [if_pos e] at h; cases h; rw [e]; exact ⟨ok_impl_lower, (fun n (h : n ∈ ([] : List String)) => (nomatch h))⟩
  rw [if_neg e] at h
  by_cases e : f = 104
  · rw [if_pos e] at h; cases h; rw [e]; exact ⟨ok_strings_Split, (fun n (h : n ∈ (["internal/bytealg.MaxLen"] : List String)) => by simp only [List.mem_cons, List.not_mem_nil, or_false] at h; rcases h with rfl <;> simp)⟩
  rw [if_neg e] at h
  by_cases e : f = 171
  · rw [if_pos e] at h; cases h; rw [e]; exact ⟨ok_strings_CutPrefix, (fun n (h : n ∈ ([] : List String)) => (nomatch h))⟩
  rw [if_neg e] at h
  by_cases e : f = 172
  · rw [if_pos e] at h; cases h; rw [e]; exact ⟨ok_strings_Trim, (fun n (h : n ∈ ([] : List String)) => (nomatch h))⟩
  rw [if_neg e] at h
  cases h
theorem ok_impl_HeadOf : FnOk Tryz.prog 132 spHeadOf := by
  refine fn_ok (Φ := Phi_impl_HeadOf) (T := T_impl_HeadOf) phi_impl_HeadOf mixed Tryz.func132 rfl rfl rfl (by decide) ?_
  intro ins r outs hr hl
  clear hl
  have hs := spHeadOf_in hr
  clear hr
  obtain ⟨t, nm, rfl, hc, hr, rfl⟩ := hs
  simp only [spHeadOf, Tryz.f132, Go.VM.initS]
  obtain ⟨ht, hn⟩ := hc
  have b1 : t.length < 4294967281 := by omega
  have b2 : (1 : Nat) ≤ [(10 : UInt8)].length := by decide
  have hS := split_eq 10 t
  have e32 : (([32] : List UInt8) = [32]) = True := eq_self _
  simp only [b1, hS, go_sem]
  repeat' ((first | apply qa | apply qb | apply qc | apply qd | apply qe | apply qf | apply qg | apply qh | apply qi | apply qj | apply qk) <;> intro hp <;> simp only [hp, b1, hS, go_sem])
  have hL1 := splitOn_len 10 t
  have hL2 := splitOn_mem 10 t
  have hO : headOf t nm = headIn nm (splitOn 10 t) := rfl
  rw [hO] at hr
  clear hO hS
  generalize splitOn 10 t = L at *
  refine loop_go (fun i : Nat => [(13, .int .i64 (i : Int))]) (fun _ => []) (fun i => L.length - i) (fun i => i ≤ L.length ∧ headIn nm (L.drop i) = headIn nm L) 0 ⟨Nat.zero_le _, rfl⟩ rfl rfl ?_
  intro i ⟨hi, hh⟩ ih
  rcases Nat.lt_or_ge i L.length with h | h
  · have g1 : (i : Int) < L.length := by omega
    have g2 : (0 : Int) ≤ i := by omega
    have g3 : L[i]? = some L[i] := List.getElem?_eq_getElem h
    have g5 := wrap_succ h (by omega)
    have hd := List.drop_eq_getElem_cons h
    rw [hd, headIn] at hh
    have hx := hL2 _ (List.getElem_mem h)
    have c1 : L[i].length ≤ 1099511627776 := by omega
    have c2 : (lowS L[i]).length ≤ 1099511627776 := by rw [lowS_len]; exact c1
    have c3 : nm.length ≤ 1099511627776 := by omega
    have c4 : (lowS nm).length + 1 ≤ 1099511627776 := by rw [lowS_len]; omega
    have c5 : (lowS nm).length + 1 ≤ 9223372036854775807 := by rw [lowS_len]; omega
    cases he : (L[i] == []) with
    | true =>
      have he' : L[i] = [] := by simpa using he
      rw [if_pos he'] at hh
      simp only [g1, g2, g3, g5, he, go_sem]
      repeat' ((first | apply qa | apply qb | apply qc | apply qd | apply qe | apply qf | apply qg | apply qh | apply qi | apply qj | apply qk) <;> intro hp <;> simp only [hp, g1, g2, g3, g5, he, go_sem])
      simp only [fin_mk, finV, resL, resV1, resIn, endA, listIn, Option.some_or, Option.none_or, oneOrTup, go_sem]
      rw [← hr]
      rw [← hh]
    | false =>
      have he' : ¬ L[i] = [] := by simpa using he
      rw [if_neg he'] at hh
      cases hp : hit nm L[i] with
      | false =>
        rw [hp, if_neg (by simp)] at hh
        have hp' : (lowS nm ++ [58]).isPrefixOf (lowS L[i]) = false := hp
        have ih' := ih (i + 1) ⟨h, hh⟩ (by omega)
        simp only [g1, g2, g3, g5, he, hp', c1, c2, c3, c4, c5, List.length_append, go_sem]
        repeat' ((first | apply qa | apply qb | apply qc | apply qd | apply qe | apply qf | apply qg | apply qh | apply qi | apply qj | apply qk) <;> intro hp <;> simp only [hp, g1, g2, g3, g5, he, hp', c1, c2, c3, c4, c5, List.length_append, go_sem])
        exact ih'
      | true =>
        rw [hp, if_pos rfl] at hh
        have hp' : (lowS nm ++ [58]).isPrefixOf (lowS L[i]) = true := hp
        have hlen := isPrefixOf_len hp'
        simp only [List.length_append, List.length_cons, List.length_nil, lowS_len] at hlen
        have d1 : cutPrefix (lowS L[i]) (lowS nm ++ [58]) = (lowS L[i]).drop (nm.length + 1) := by simp [cutPrefix, hp', lowS_len]
        have d2 : ((lowS L[i]).drop (nm.length + 1)).length = L[i].length - (nm.length + 1) := by rw [List.length_drop, lowS_len]
        have w1 : IntKind.i64.wrap ((L[i].length : Int) - ((L[i].length - (nm.length + 1) : Nat) : Int)) = ((nm.length + 1 : Nat) : Int) := (wrap64 (by omega) (by omega)).trans (by omega)
        have g6 : (0 : Int) ≤ ((nm.length + 1 : Nat) : Int) := by omega
        have g7 : nm.length + 1 ≤ L[i].length := by omega
        have g8 : (L[i].drop (nm.length + 1)).length ≤ 1099511627776 := by rw [List.length_drop]; omega
        simp only [g1, g2, g3, g5, he, hp', c1, c2, c3, c4, c5, d1, d2, w1, g6, g7, g8, e32, List.length_append, List.take_length, Nat.le_refl, go_sem]
        repeat' ((first | apply qa | apply qb | apply qc | apply qd | apply qe | apply qf | apply qg | apply qh | apply qi | apply qj | apply qk) <;> intro hp <;> simp only [hp, g1, g2, g3, g5, he, hp', c1, c2, c3, c4, c5, d1, d2, w1, g6, g7, g8, e32, List.length_append, List.take_length, Nat.le_refl, go_sem])
        simp only [fin_mk, finV, resL, resV1, resIn, endA, listIn, Option.some_or, Option.none_or, oneOrTup, go_sem]
        rw [← hr]
        rw [← hh]
  · have g1 : ¬ (i : Int) < L.length := by omega
    rw [List.drop_of_length_le h, headIn] at hh
    simp only [g1, go_sem]
    repeat' ((first | apply qa | apply qb | apply qc | apply qd | apply qe | apply qf | apply qg | apply qh | apply qi | apply qj | apply qk) <;> intro hp <;> simp only [hp, g1, go_sem])
    simp only [fin_mk, finV, resL, resV1, resIn, endA, listIn, Option.some_or, Option.none_or, oneOrTup, go_sem]
    rw [← hr]
    rw [← hh]
theorem takeWhile_at {α : Type} {p : α → Bool} : ∀ {l : List α} {n : Nat}, (∀ x ∈ l.take n, p x = true) → (h : n < l.length) → p l[n] = false → l.takeWhile p = l.take n
  | [], n, _, h, _ => by simp at h
  | b :: l, 0, _, _, hp => by simp only [List.getElem_cons_zero] at hp; simp [List.takeWhile_cons, hp]
  | b :: l, n + 1, ha, h, hp => by
    have h1 : p b = true := ha b (by simp)
    rw [List.takeWhile_cons, if_pos h1, List.take_succ_cons, takeWhile_at (n := n) (fun x hx => ha x (by simp [hx])) (by simpa using h) (by simpa using hp)]
theorem takeWhile_mem {α : Type} {p : α → Bool} {l : List α} {x : α} (h : x ∈ l.takeWhile p) : p x = true := by
  induction l with
  | nil => simp at h
  | cons b l ih =>
    rw [List.takeWhile_cons] at h
    split at h
    · rename_i hb
      rcases List.mem_cons.1 h with rfl | h
      · exact hb
      · exact ih h
    · simp at h
theorem takeWhile_all {α : Type} {p : α → Bool} {l : List α} (h : ∀ x ∈ l, p x = true) : l.takeWhile p = l := by
  induction l with
  | nil => rfl
  | cons b l ih => rw [List.takeWhile_cons, if_pos (h b (by simp)), ih fun x hx => h x (by simp [hx])]
def lineAt (t : List UInt8) (a : Nat) : List UInt8 := (t.drop a).takeWhile (notB 10)
def nextAt (t : List UInt8) (a : Nat) : Int := if t.length ≤ a then -1 else if 10 ∈ t.drop a then ((a + (lineAt t a).length + 1 : Nat) : Int) else t.length
theorem notB_bool (b : UInt8) : notB 10 b = !((b.toNat : Int) == 10) := by
  unfold notB
  have : (b == 10) = ((b.toNat : Int) == 10) := by
    rw [Bool.eq_iff_iff, beq_iff_eq, beq_iff_eq]
    constructor
    · rintro rfl; rfl
    · intro h
      have : b.toNat = (10 : UInt8).toNat := by show b.toNat = 10; omega
      exact UInt8.toNat_inj.1 this
  rw [← this]; rfl
theorem take_drop_succ {t : List UInt8} {a i : Nat} (ha : a ≤ i) (h : i < t.length) : (t.take (i + 1)).drop a = (t.take i).drop a ++ [t[i]] := by
  rw [take_succ' h, List.drop_append_of_le_length (by rw [List.length_take]; omega)]
open Classical in
noncomputable def spLine : VM.Spec := { modes := [.rd, .rd], run := fun | [.str t, .int .i64 a] => if t.length ≤ 4194304 ∧ 0 ≤ a then some (.tup [.str (lineAt t a.toNat), .int .i64 (nextAt t a.toNat)], []) else none | _ => none, need := [] }
attribute [go_sem] spLine
theorem spLine_in {ins : List V} {r : V} {outs : List V} (h : spLine.run ins = some (r, outs)) : ∃ (t : (List UInt8)) (a : Int), ins = [.str t, .int .i64 a] ∧ (t.length ≤ 4194304 ∧ 0 ≤ a) ∧ .tup [.str (lineAt t a.toNat), .int .i64 (nextAt t a.toNat)] = r ∧ outs = [] := by
  unfold spLine at h
  simp only at h
  split at h
  · rename_i t a
    split at h
    case isFalse => cases h
    rename_i hc
    simp only [Option.some.injEq, Prod.mk.injEq] at h
    obtain ⟨h1, h2⟩ := h
    exact ⟨t, a, rfl, hc, h1, h2.symm⟩
  · cases h
def T_spec_l07Line : Hints := ⟨fun _ => none, fun i => if i = 4 then some [0, 1, 6] else none, fun i => if i = 0 then some [0, 1] else if i = 1 then some [0, 1, 10] else if i = 2 then some [4, 5] else if i = 3 then some [0, 1, 6] else if i = 4 then some [0, 1, 6, 15] else if i = 6 then some [0, 1, 6, 21] else if i = 7 then some [4, 5] else if i = 5 then some [0, 1, 6] else if i = 8 then some [4, 5] else none, fun _ => none⟩
noncomputable def Phi_spec_l07Line : Tab := fun f => none
attribute [go_sem] T_spec_l07Line Phi_spec_l07Line
theorem phi_spec_l07Line : ∀ f sp, Phi_spec_l07Line f = some sp → FnOk Tryz.prog f sp ∧ ∀ n ∈ sp.need, n ∈ ([] : List String) := by
  intro f sp h
  unfold Phi_spec_l07Line at h
  cases h
theorem ok_spec_l07Line : FnOk Tryz.prog 173 spLine := by
  refine fn_ok (Φ := Phi_spec_l07Line) (T := T_spec_l07Line) phi_spec_l07Line mixed Tryz.func173 rfl rfl rfl (by decide) ?_
  intro ins r outs hr hl
  clear hl
  have hs := spLine_in hr
  clear hr
  obtain ⟨t, a, rfl, hc, hr, rfl⟩ := hs
  simp only [spLine, Tryz.f173, Go.VM.initS]
  obtain ⟨ht, h0⟩ := hc
  obtain ⟨a, rfl⟩ : ∃ n : Nat, a = n := ⟨a.toNat, by omega⟩
  simp only [Int.toNat_natCast] at hr
  rcases Nat.lt_or_ge a t.length with hlt | hge
  · have q1 : ¬ (t.length : Int) ≤ a := by omega
    have hN : ¬ t.length ≤ a := by omega
    simp only [q1, go_sem]
    repeat' ((first | apply qa | apply qb | apply qc | apply qd | apply qe | apply qf | apply qg | apply qh | apply qi | apply qj | apply qk) <;> intro hp <;> simp only [hp, q1, go_sem])
    refine loop_go (fun i : Nat => [(6, .int .i64 (i : Int))]) (fun _ => []) (fun i => t.length - i) (fun i => a ≤ i ∧ i ≤ t.length ∧ ∀ x ∈ (t.take i).drop a, notB 10 x = true) a ⟨Nat.le_refl _, by omega, by rw [List.drop_of_length_le (by rw [List.length_take]; omega)]; simp⟩ rfl rfl ?_
    intro i ⟨hi1, hi, ha⟩ ih
    have q2 : (0 : Int) ≤ a := by omega
    have q3 : a ≤ i := hi1
    rcases Nat.lt_or_ge i t.length with h | h
    · have g1 : (i : Int) < t.length := by omega
      have g2 : (0 : Int) ≤ i := by omega
      have g3 : t[i]? = some t[i] := List.getElem?_eq_getElem h
      have g4 : i ≤ t.length := by omega
      have g5 := wrap_succ h (by omega)
      have hi2 : i - a < (t.drop a).length := by rw [List.length_drop]; omega
      have hget : (t.drop a)[i - a] = t[i] := by rw [List.getElem_drop]; congr 1; omega
      have htk : (t.drop a).take (i - a) = (t.take i).drop a := by rw [List.drop_take]
      cases hb : ((t[i].toNat : Int) == 10) with
      | true =>
        have e1 : lineAt t a = (t.take i).drop a := by
          unfold lineAt
          rw [takeWhile_at (n := i - a) (by rw [htk]; exact ha) hi2 (by rw [hget, notB_bool, hb]; rfl), htk]
        have e2 : nextAt t a = ((i + 1 : Nat) : Int) := by
          unfold nextAt
          have hmem : (10 : UInt8) ∈ t.drop a := by
            have : t[i] = 10 := by
              have h1 : t[i].toNat = (10 : UInt8).toNat := by simp only [beq_iff_eq] at hb; show t[i].toNat = 10; omega
              exact UInt8.toNat_inj.1 h1
            rw [← this, ← hget]; exact List.getElem_mem _
          rw [if_neg hN, if_pos hmem, e1, List.length_drop, List.length_take]
          congr 1; omega
        simp only [g1, g2, g3, g4, g5, q2, q3, hb, go_sem]
        repeat' ((first | apply qa | apply qb | apply qc | apply qd | apply qe | apply qf | apply qg | apply qh | apply qi | apply qj | apply qk) <;> intro hp <;> simp only [hp, g1, g2, g3, g4, g5, q2, q3, hb, go_sem])
        simp only [fin_mk, finV, resL, resV1, resIn, endA, listIn, Option.some_or, Option.none_or, oneOrTup, go_sem]
        rw [← hr]
        rw [e1, e2]
      | false =>
        have ih' := ih (i + 1) ⟨by omega, h, by
          rw [take_drop_succ hi1 h]
          intro x hx
          rcases List.mem_append.1 hx with hx | hx
          · exact ha x hx
          · simp only [List.mem_singleton] at hx; rw [hx, notB_bool, hb]; rfl⟩ (by omega)
        simp only [g1, g2, g3, g5, hb, go_sem]
        repeat' ((first | apply qa | apply qb | apply qc | apply qd | apply qe | apply qf | apply qg | apply qh | apply qi | apply qj | apply qk) <;> intro hp <;> simp only [hp, g1, g2, g3, g5, hb, go_sem])
        exact ih'
    · have g1 : ¬ (i : Int) < t.length := by omega
      have g4 : a ≤ t.length := by omega
      have hall : ∀ x ∈ t.drop a, notB 10 x = true := by rw [List.take_of_length_le h] at ha; exact ha
      have e1 : lineAt t a = t.drop a := takeWhile_all hall
      have e2 : nextAt t a = t.length := by
        unfold nextAt
        rw [if_neg hN, if_neg]
        intro hm
        have := hall _ hm
        simp [notB] at this
      simp only [g1, q2, g4, List.take_length, Nat.le_refl, go_sem]
      repeat' ((first | apply qa | apply qb | apply qc | apply qd | apply qe | apply qf | apply qg | apply qh | apply qi | apply qj | apply qk) <;> intro hp <;> simp only [hp, g1, q2, g4, List.take_length, Nat.le_refl, go_sem])
      simp only [fin_mk, finV, resL, resV1, resIn, endA, listIn, Option.some_or, Option.none_or, oneOrTup, go_sem]
      rw [← hr]
      rw [e1, e2]
  · have q1 : (t.length : Int) ≤ a := by omega
    simp only [q1, go_sem]
    repeat' ((first | apply qa | apply qb | apply qc | apply qd | apply qe | apply qf | apply qg | apply qh | apply qi | apply qj | apply qk) <;> intro hp <;> simp only [hp, q1, go_sem])
    simp only [fin_mk, finV, resL, resV1, resIn, endA, listIn, Option.some_or, Option.none_or, oneOrTup, go_sem]
    rw [← hr]
    rw [lineAt, nextAt, if_pos hge, List.drop_of_length_le hge]; rfl
def T_spec_HeadOf : Hints := ⟨fun _ => none, fun i => if i = 2 then some [0, 1, 6] else none, fun i => if i = 0 then some [0, 1] else if i = 1 then some [0, 1, 6] else if i = 2 then some [0, 1, 7, 8] else if i = 3 then some [0, 1, 7, 8, 21] else if i = 4 then some [4, 5] else if i = 5 then some [0, 1, 7, 8, 9] else if i = 6 then some [0, 1, 7, 8, 9, 42] else if i = 7 then some [4, 5] else if i = 8 then some [0, 1, 6] else none, fun _ => none⟩
noncomputable def Phi_spec_HeadOf : Tab := fun f => if f = 173 then some spLine else if f = 139 then some spLow else if f = 174 then some spTrim1 else none
attribute [go_sem] T_spec_HeadOf Phi_spec_HeadOf
theorem phi_spec_HeadOf : ∀ f sp, Phi_spec_HeadOf f = some sp → FnOk Tryz.prog f sp ∧ ∀ n ∈ sp.need, n ∈ (["internal/bytealg.MaxLen"] : List String) := by
  intro f sp h
  unfold Phi_spec_HeadOf at h
  by_cases e : f = 173
  · rw [if_pos e] at h; cases h; rw [e]; exact ⟨ok_spec_l07Line, (fun n (h : n ∈ ([] : List String)) => (nomatch h))⟩
  rw [if_neg e] at h
  by_cases e : f = 139
  · rw [if_pos e] at h; cases h; rw [e]; exact ⟨ok_spec_l06Low, (fun n (h : n ∈ ([] : List String)) => (nomatch h))⟩
  rw [if_neg e] at h
  by_cases e : f = 174
  · rw [if_pos e] at h; cases h; rw [e]; exact ⟨ok_spec_l07Trim, (fun n (h : n ∈ ([] : List String)) => (nomatch h))⟩
  rw [if_neg e] at h
  cases h
theorem ok_spec_HeadOf : FnOk Tryz.prog 136 spHeadOf := by
  refine fn_ok (Φ := Phi_spec_HeadOf) (T := T_spec_HeadOf) phi_spec_HeadOf mixed Tryz.func136 rfl rfl rfl (by decide) ?_
  intro ins r outs hr hl
  clear hl
  have hs := spHeadOf_in hr
  clear hr
  obtain ⟨t, nm, rfl, hc, hr, rfl⟩ := hs
  simp only [spHeadOf, Tryz.f136, Go.VM.initS]
  obtain ⟨ht, hn⟩ := hc
  simp only [go_sem]
  repeat' ((first | apply qa | apply qb | apply qc | apply qd | apply qe | apply qf | apply qg | apply qh | apply qi | apply qj | apply qk) <;> intro hp <;> simp only [hp, go_sem])
  refine loop_go (fun a : Nat => [(6, .int .i64 (a : Int))]) (fun _ => []) (fun a => t.length - a) (fun a => a ≤ t.length ∧ headIn nm (splitOn 10 (t.drop a)) = headOf t nm) 0 ⟨Nat.zero_le _, rfl⟩ rfl rfl ?_
  intro a ⟨ha, hh⟩ ih
  have q2 : (0 : Int) ≤ a := by omega
  rcases Nat.lt_or_ge a t.length with h | h
  · have hN : ¬ t.length ≤ a := by omega
    have hn0 : 0 ≤ nextAt t a := by unfold nextAt; rw [if_neg hN]; split <;> omega
    have q3 : ¬ nextAt t a < 0 := by omega
    have hF := splitOn_first 10 (t.drop a)
    have hle : lineAt t a = (t.drop a).takeWhile (notB 10) := rfl
    rw [← hle] at hF
    rw [hF, headIn] at hh
    have hll : (lineAt t a).length ≤ t.length := by
      have := (List.takeWhile_sublist (l := t.drop a) (notB 10)).length_le
      rw [List.length_drop] at this
      rw [hle]; omega
    generalize hl : lineAt t a = l at *
    cases he : (l == []) with
    | true =>
      have he' : l = [] := by simpa using he
      rw [if_pos he'] at hh
      simp only [ht, q2, q3, hl, he, Int.toNat_natCast, go_sem]
      repeat' ((first | apply qa | apply qb | apply qc | apply qd | apply qe | apply qf | apply qg | apply qh | apply qi | apply qj | apply qk) <;> intro hp <;> simp only [hp, ht, q2, q3, hl, he, Int.toNat_natCast, go_sem])
      simp only [fin_mk, finV, resL, resV1, resIn, endA, listIn, Option.some_or, Option.none_or, oneOrTup, go_sem]
      rw [← hr]
      rw [← hh]
    | false =>
      have he' : ¬ l = [] := by simpa using he
      rw [if_neg he'] at hh
      have c1 : nm.length ≤ 1099511627776 := by omega
      cases hp : hit nm l with
      | true =>
        rw [hp, if_pos rfl] at hh
        have hlt : nm.length < l.length := by
          rcases Nat.lt_or_ge nm.length l.length with h1 | h1
          · exact h1
          · rw [hit_short h1] at hp; cases hp
        rw [hit_long hlt, Bool.and_eq_true] at hp
        obtain ⟨p1, p2⟩ := hp
        have p2' : ((l[nm.length].toNat : Int) == 58) = true := by
          have : l[nm.length] = 58 := by simpa using p2
          rw [this]; rfl
        have g1 : (nm.length : Int) < l.length := by omega
        have g2 : (0 : Int) ≤ nm.length := by omega
        have g3 : l[nm.length]? = some l[nm.length] := List.getElem?_eq_getElem hlt
        have g4 : nm.length ≤ l.length := by omega
        have g5 : IntKind.i64.wrap ((nm.length : Int) + 1) = ((nm.length + 1 : Nat) : Int) := wrap_succ hlt (by omega)
        have g6 : (0 : Int) ≤ ((nm.length + 1 : Nat) : Int) := by omega
        have g7 : nm.length + 1 ≤ l.length := by omega
        have g8 : (l.take nm.length).length ≤ 1099511627776 := by rw [List.length_take]; omega
        have g9 : (l.drop (nm.length + 1)).length ≤ 1099511627776 := by rw [List.length_drop]; omega
        simp only [ht, q2, q3, hl, he, c1, g1, g2, g3, g4, g5, g6, g7, g8, g9, p1, p2', Int.toNat_natCast, List.drop_zero, List.take_length, Nat.zero_le, Nat.le_refl, go_sem]
        repeat' ((first | apply qa | apply qb | apply qc | apply qd | apply qe | apply qf | apply qg | apply qh | apply qi | apply qj | apply qk) <;> intro hp <;> simp only [hp, ht, q2, q3, hl, he, c1, g1, g2, g3, g4, g5, g6, g7, g8, g9, p1, p2', Int.toNat_natCast, List.drop_zero, List.take_length, Nat.zero_le, Nat.le_refl, go_sem])
        simp only [fin_mk, finV, resL, resV1, resIn, endA, listIn, Option.some_or, Option.none_or, oneOrTup, go_sem]
        rw [← hr]
        rw [← hh]
      | false =>
        rw [hp, if_neg (by simp)] at hh
        obtain ⟨b, hb, hb1, hb2⟩ : ∃ b : Nat, nextAt t a = b ∧ b ≤ t.length ∧ a < b ∧ headIn nm (splitOn 10 (t.drop b)) = headOf t nm := by
          unfold nextAt
          rw [if_neg hN, hl]
          by_cases hm : (10 : UInt8) ∈ t.drop a
          · rw [if_pos hm] at hh ⊢
            have hlt : l.length < (t.drop a).length := by
              rcases Nat.lt_or_ge l.length (t.drop a).length with h1 | h1
              · exact h1
              · exfalso
                have e1 : l = t.drop a := (List.takeWhile_sublist (l := t.drop a) (notB 10)).eq_of_length_le (by rw [← hle]; exact h1) |> fun e => hle.trans e
                have e2 : (10 : UInt8) ∈ l := by rw [e1]; exact hm
                rw [hle] at e2
                have := takeWhile_mem e2
                simp [notB] at this
            rw [List.length_drop] at hlt
            refine ⟨_, rfl, by omega, by omega, ?_⟩
            rw [← hh, List.drop_drop]
            congr 3
          · rw [if_neg hm] at hh ⊢
            refine ⟨_, rfl, Nat.le_refl _, h, ?_⟩
            rw [← hh, List.drop_length]; rfl
        have ih' := ih b ⟨hb1, hb2.2⟩ (by omega)
        rw [← hb] at ih'
        rcases Nat.lt_or_ge nm.length l.length with hlt | hge
        · rw [hit_long hlt] at hp
          have g1 : (nm.length : Int) < l.length := by omega
          have g2 : (0 : Int) ≤ nm.length := by omega
          have g3 : l[nm.length]? = some l[nm.length] := List.getElem?_eq_getElem hlt
          have g4 : nm.length ≤ l.length := by omega
          have g8 : (l.take nm.length).length ≤ 1099511627776 := by rw [List.length_take]; omega
          cases p1 : (lowS (l.take nm.length) == lowS nm) with
          | false =>
            simp only [ht, q2, q3, hl, he, c1, g1, g2, g3, g4, g8, p1, Int.toNat_natCast, List.drop_zero, Nat.zero_le, go_sem]
            repeat' ((first | apply qa | apply qb | apply qc | apply qd | apply qe | apply qf | apply qg | apply qh | apply qi | apply qj | apply qk) <;> intro hp <;> simp only [hp, ht, q2, q3, hl, he, c1, g1, g2, g3, g4, g8, p1, Int.toNat_natCast, List.drop_zero, Nat.zero_le, go_sem])
            exact ih'
          | true =>
            rw [p1, Bool.true_and] at hp
            have p2' : ((l[nm.length].toNat : Int) == 58) = false := by
              rw [beq_eq_false_iff_ne] at hp ⊢
              intro h2
              apply hp
              have h3 : l[nm.length].toNat = (58 : UInt8).toNat := by show l[nm.length].toNat = 58; omega
              exact UInt8.toNat_inj.1 h3
            simp only [ht, q2, q3, hl, he, c1, g1, g2, g3, g4, g8, p1, p2', Int.toNat_natCast, List.drop_zero, Nat.zero_le, go_sem]
            repeat' ((first | apply qa | apply qb | apply qc | apply qd | apply qe | apply qf | apply qg | apply qh | apply qi | apply qj | apply qk) <;> intro hp <;> simp only [hp, ht, q2, q3, hl, he, c1, g1, g2, g3, g4, g8, p1, p2', Int.toNat_natCast, List.drop_zero, Nat.zero_le, go_sem])
            exact ih'
        · have g1 : ¬ (nm.length : Int) < l.length := by omega
          simp only [ht, q2, q3, hl, he, g1, Int.toNat_natCast, go_sem]
          repeat' ((first | apply qa | apply qb | apply qc | apply qd | apply qe | apply qf | apply qg | apply qh | apply qi | apply qj | apply qk) <;> intro hp <;> simp only [hp, ht, q2, q3, hl, he, g1, Int.toNat_natCast, go_sem])
          exact ih'
  · have ea : a = t.length := by omega
    have e1 : nextAt t a = -1 := by rw [nextAt, if_pos h]
    rw [ea, List.drop_length] at hh
    have e2 : headOf t nm = ([], false) := by rw [← hh]; rfl
    simp only [ht, q2, e1, Int.toNat_natCast, go_sem]
    repeat' ((first | apply qa | apply qb | apply qc | apply qd | apply qe | apply qf | apply qg | apply qh | apply qi | apply qj | apply qk) <;> intro hp <;> simp only [hp, ht, q2, e1, Int.toNat_natCast, go_sem])
    simp only [fin_mk, finV, resL, resV1, resIn, endA, listIn, Option.some_or, Option.none_or, oneOrTup, go_sem]
    rw [← hr]
    rw [e2]
end Go.Proofs.YtimiccneikhkgaaGreatDoor.L

namespace Go.Proofs.YtimiccneikhkgaaGreatDoor.L
open Go Go.VM
set_option maxRecDepth 100000
set_option maxHeartbeats 4000000
set_option linter.unusedSimpArgs false
set_option linter.unusedVariables false
open Classical in
noncomputable def spHasRead : VM.Spec := { modes := [.rd, .rd], run := fun | [.int .i64 n, .rptr (.lst 2 l')] => (decL Range.dec l').bind fun l => if l.length ≤ 8388608 then some (.bool (hasR l n), []) else none | _ => none, need := [] }
attribute [go_sem] spHasRead
theorem spHasRead_in {ins : List V} {r : V} {outs : List V} (h : spHasRead.run ins = some (r, outs)) : ∃ (n : Int) (l : (List Range)), ins = [.int .i64 n, .rptr (.lst 2 ((l).map Range.enc))] ∧ (l.length ≤ 8388608) ∧ .bool (hasR l n) = r ∧ outs = [] := by
  unfold spHasRead at h
  simp only at h
  split at h
  · rename_i n l'
    simp only [Option.bind_eq_some_iff] at h
    obtain ⟨l, h_l, h⟩ := h
    split at h
    case isFalse => cases h
    rename_i hc
    simp only [Option.some.injEq, Prod.mk.injEq] at h
    obtain ⟨h1, h2⟩ := h
    have h_l := decL_some (fun _ _ h => Range.dec_some h) h_l
    subst h_l
    exact ⟨n, l, rfl, hc, h1, h2.symm⟩
  · cases h
def T_impl_ReadSet_1 : Hints := ⟨fun _ => none, fun _ => none, fun i => if i = 0 then some [0, 1] else if i = 1 then some [3] else none, fun _ => none⟩
noncomputable def Phi_impl_ReadSet_1 : Tab := fun f => if f = 19 then some spSetHas else none
attribute [go_sem] T_impl_ReadSet_1 Phi_impl_ReadSet_1
theorem phi_impl_ReadSet_1 : ∀ f sp, Phi_impl_ReadSet_1 f = some sp → FnOk Tryz.prog f sp ∧ ∀ n ∈ sp.need, n ∈ ([] : List String) := by
  intro f sp h
  unfold Phi_impl_ReadSet_1 at h
  by_cases e : f = 19
  · rw [if_pos e] at h; cases h; rw [e]; exact ⟨ok_impl_SetHas, (fun n (h : n ∈ ([] : List String)) => (nomatch h))⟩
  rw [if_neg e] at h
  cases h
theorem ok_impl_ReadSet_1 : FnOk Tryz.prog 107 spHasRead := by
  refine fn_ok (Φ := Phi_impl_ReadSet_1) (T := T_impl_ReadSet_1) phi_impl_ReadSet_1 mixed Tryz.func107 rfl rfl rfl (by decide) ?_
  intro ins r outs hr hl
  clear hl
  have hs := spHasRead_in hr
  clear hr
  obtain ⟨n, l, rfl, hc, hr, rfl⟩ := hs
  simp only [spHasRead, Tryz.f107, Go.VM.initS]
  simp only [hc, go_sem]
  repeat' ((first | apply qa | apply qb | apply qc | apply qd | apply qe | apply qf | apply qg | apply qh | apply qi | apply qj | apply qk) <;> intro hp <;> simp only [hp, hc, go_sem])
  simp only [fin_mk, finV, resL, resV1, resIn, endA, listIn, Option.some_or, Option.none_or, oneOrTup, go_sem]
  rw [← hr]
def setR (l : List Range) : List Range := scan ((nums 9999).filter fun n => hasR l n)
open Classical in
noncomputable def spSetOfRead : VM.Spec := { modes := [.rd], run := fun | [.fn 107 [.rptr (.lst 2 l')]] => (decL Range.dec l').bind fun l => if l.length ≤ 8388608 then some (.tup [.lst 2 ((setR l).map Range.enc), .bool (decide ((setR l).length ≤ 40))], []) else none | _ => none, need := [] }
attribute [go_sem] spSetOfRead
theorem spSetOfRead_in {ins : List V} {r : V} {outs : List V} (h : spSetOfRead.run ins = some (r, outs)) : ∃ (l : (List Range)), ins = [.fn 107 [.rptr (.lst 2 ((l).map Range.enc))]] ∧ (l.length ≤ 8388608) ∧ .tup [.lst 2 ((setR l).map Range.enc), .bool (decide ((setR l).length ≤ 40))] = r ∧ outs = [] := by
  unfold spSetOfRead at h
  simp only at h
  split at h
  · rename_i l'
    simp only [Option.bind_eq_some_iff] at h
    obtain ⟨l, h_l, h⟩ := h
    split at h
    case isFalse => cases h
    rename_i hc
    simp only [Option.some.injEq, Prod.mk.injEq] at h
    obtain ⟨h1, h2⟩ := h
    have h_l := decL_some (fun _ _ h => Range.dec_some h) h_l
    subst h_l
    exact ⟨l, rfl, hc, h1, h2.symm⟩
  · cases h
def T_impl_setOf : Hints := ⟨fun _ => none, fun i => if i = 3 then some [0, 4, 5] else none, fun i => if i = 0 then some [0] else if i = 1 then some [0, 4] else if i = 2 then some [0, 4, 5] else if i = 3 then some [0, 4, 5, 9] else if i = 5 then some [0, 4, 5, 15] else if i = 6 then some [0, 4, 5, 6] else if i = 7 then some [0, 4, 5, 6, 30] else if i = 8 then some [0, 4, 5] else if i = 9 then some [0, 4, 5] else if i = 4 then some [0, 4, 5] else if i = 10 then some [2, 3] else none, fun _ => none⟩
noncomputable def Phi_impl_setOf : Tab := fun f => if f = 107 then some spHasRead else none
attribute [go_sem] T_impl_setOf Phi_impl_setOf
theorem phi_impl_setOf : ∀ f sp, Phi_impl_setOf f = some sp → FnOk Tryz.prog f sp ∧ ∀ n ∈ sp.need, n ∈ ([] : List String) := by
  intro f sp h
  unfold Phi_impl_setOf at h
  by_cases e : f = 107
  · rw [if_pos e] at h; cases h; rw [e]; exact ⟨ok_impl_ReadSet_1, (fun n (h : n ∈ ([] : List String)) => (nomatch h))⟩
  rw [if_neg e] at h
  cases h
theorem ok_impl_setOf : FnOk Tryz.prog 76 spSetOfRead := by
  refine fn_ok (Φ := Phi_impl_setOf) (T := T_impl_setOf) phi_impl_setOf mixed Tryz.func76 rfl rfl rfl (by decide) ?_
  intro ins r outs hr hl
  clear hl
  have hs := spSetOfRead_in hr
  clear hr
  obtain ⟨l, rfl, hc, hr, rfl⟩ := hs
  simp only [spSetOfRead, Tryz.f76, Go.VM.initS]
  simp only [go_sem]
  repeat' ((first | apply qa | apply qb | apply qc | apply qd | apply qe | apply qf | apply qg | apply qh | apply qi | apply qj | apply qk) <;> intro hp <;> simp only [hp, go_sem])
  refine loop_go (fun i : Nat => [(5, .int .i64 ((i + 1 : Nat) : Int))]) (fun i => [(0, ⟨.arr, 2, (scan ((nums i).filter fun n => hasR l n)).map Range.enc⟩)]) (fun i => 9999 - i) (fun i => i ≤ 9999) 0 (Nat.zero_le _) rfl rfl ?_
  intro i hi ih
  have hsl : (scan ((nums i).filter fun n => hasR l n)).length ≤ i := by
    refine Nat.le_trans (scan_len _) (Nat.le_trans (List.length_filter_le _ _) ?_)
    simp [nums]
  rcases Nat.lt_or_ge i 9999 with h | h
  · have g1 : ((i + 1 : Nat) : Int) ≤ 9999 := by omega
    have g5 : IntKind.i64.wrap (((i + 1 : Nat) : Int) + 1) = ((i + 1 + 1 : Nat) : Int) := wrap_succ (n := 10002) (by omega) (by omega)
    have g6 : IntKind.i64.wrap (((i + 1 : Nat) : Int) - 1) = (i : Int) := (wrap64 (by omega) (by omega)).trans (by omega)
    have ih' := ih (i + 1) h (by omega)
    rw [filter_nums_succ] at ih'
    clear ih
    cases hm : hasR l ((i + 1 : Nat) : Int) with
    | false =>
      rw [hm, if_neg (by simp), List.append_nil] at ih'
      simp only [hc, g1, g5, hm, go_sem]
      repeat' ((first | apply qa | apply qb | apply qc | apply qd | apply qe | apply qf | apply qg | apply qh | apply qi | apply qj | apply qk) <;> intro hp <;> simp only [hp, hc, g1, g5, hm, go_sem])
      exact ih'
    | true =>
      rw [hm, if_pos rfl, scan_snoc] at ih'
      generalize hO : scan ((nums i).filter fun n => hasR l n) = O at *
      rcases snoc_cases O with rfl | ⟨a, r', rfl⟩
      · rw [push_nil] at ih'
        have b3 : IntKind.i64.wrap (((0 : Nat) : Int) - 1) = -1 := rfl
        simp only [hc, g1, g5, hm, b3, go_sem]
        repeat' ((first | apply qa | apply qb | apply qc | apply qd | apply qe | apply qf | apply qg | apply qh | apply qi | apply qj | apply qk) <;> intro hp <;> simp only [hp, hc, g1, g5, hm, b3, go_sem])
        exact ih'
      · have hla : a.length + 1 ≤ i := by simpa using hsl
        have b3 : IntKind.i64.wrap (((a.length + 1 : Nat) : Int) - 1) = (a.length : Int) := (wrap64 (by omega) (by omega)).trans (by omega)
        have b4 : (0 : Int) ≤ (a.length : Int) := by omega
        have b5 : (a.length : Int) < ((a.length + 1 : Nat) : Int) := by omega
        have b6 : (List.map Range.enc (a ++ [r']))[a.length]? = some r'.enc := by simp
        have b7 : (List.map Range.enc (a ++ [r'])).set a.length (V.agg [.int .i64 r'.Lo, .int .i64 ((i + 1 : Nat) : Int)]) = List.map Range.enc (a ++ [⟨r'.Lo, ((i + 1 : Nat) : Int)⟩]) := by
          simp [Range.enc]
        have b8 : (List.map Range.enc (a ++ [r'])).length = a.length + 1 := by simp
        have b9 : (a ++ [r']).length = a.length + 1 := by simp
        have b10 : (a.length + 1 + 1) * 16 ≤ 140737488355328 := by omega
        have b11 : a.length + 1 ≤ 9223372036854775806 := by omega
        have b12 : a.length ≤ 9223372036854775805 := by omega
        rw [push_snoc] at ih'
        cases hH : (r'.Hi == (i : Int)) with
        | true =>
          have hH' : r'.Hi = ((i + 1 : Nat) : Int) - 1 := by simp only [beq_iff_eq] at hH; omega
          rw [if_pos hH', ← b7] at ih'
          clear b7
          generalize hX : List.map Range.enc (a ++ [r']) = X at *
          simp only [hc, g1, g5, g6, hm, b3, b4, b5, b6, b8, b9, hH, go_sem]
          repeat' ((first | apply qa | apply qb | apply qc | apply qd | apply qe | apply qf | apply qg | apply qh | apply qi | apply qj | apply qk) <;> intro hp <;> simp only [hp, hc, g1, g5, g6, hm, b3, b4, b5, b6, b8, b9, hH, go_sem])
          exact ih'
        | false =>
          have hH' : ¬ r'.Hi = ((i + 1 : Nat) : Int) - 1 := by rw [beq_eq_false_iff_ne] at hH; omega
          rw [if_neg hH', List.map_append, List.map_cons, List.map_nil] at ih'
          clear b7
          generalize hX : List.map Range.enc (a ++ [r']) = X at *
          simp only [hc, g1, g5, g6, hm, b3, b4, b5, b6, b8, b9, b10, b11, b12, hH, go_sem]
          repeat' ((first | apply qa | apply qb | apply qc | apply qd | apply qe | apply qf | apply qg | apply qh | apply qi | apply qj | apply qk) <;> intro hp <;> simp only [hp, hc, g1, g5, g6, hm, b3, b4, b5, b6, b8, b9, b10, b11, b12, hH, go_sem])
          all_goals first | exact ih' | (clear ih'; omega)
  · have hi9 : i = 9999 := by omega
    subst hi9
    have g1 : ¬ (((9999 + 1 : Nat) : Int)) ≤ 9999 := by decide
    have hB : scan ((nums 9999).filter fun n => hasR l n) = setR l := rfl
    rw [hB]
    have e : decide (((setR l).length : Int) ≤ 40) = decide ((setR l).length ≤ 40) := by rw [Bool.eq_iff_iff]; simp; omega
    simp only [g1, e, go_sem]
    repeat' ((first | apply qa | apply qb | apply qc | apply qd | apply qe | apply qf | apply qg | apply qh | apply qi | apply qj | apply qk) <;> intro hp <;> simp only [hp, g1, e, go_sem])
    all_goals (simp only [fin_mk, finV, resL, resV1, resIn, endA, listIn, Option.some_or, Option.none_or, oneOrTup, go_sem]; rw [← hr])
/-! ### numbers in texts -/
def digB (b : UInt8) : Bool := within (b.toNat : Int) 48 57
def stepM (n : Int) (b : UInt8) : Int := (10 * n + ((b.toNat : Int) - 48)).tmod 1000000000
def stepV (n : Int) (b : UInt8) : Int := 10 * n + ((b.toNat : Int) - 48)
def numM (s : List UInt8) : Int := s.foldl stepM 0
def numV (s : List UInt8) : Int := s.foldl stepV 0
theorem numM_snoc (s : List UInt8) (b : UInt8) : numM (s ++ [b]) = stepM (numM s) b := by simp [numM]
theorem numV_snoc (s : List UInt8) (b : UInt8) : numV (s ++ [b]) = stepV (numV s) b := by simp [numV]
theorem digB_iff {b : UInt8} (h : digB b = true) : 48 ≤ (b.toNat : Int) ∧ (b.toNat : Int) ≤ 57 := by simpa only [digB, within, Bool.and_eq_true, decide_eq_true_eq] using h
theorem numM_bound (s : List UInt8) : s.all digB = true → 0 ≤ numM s ∧ numM s < 1000000000 := by
  refine snoc_ind (P := fun s => s.all digB = true → 0 ≤ numM s ∧ numM s < 1000000000) (by simp [numM]) ?_ s
  intro l x ih h
  rw [List.all_append, Bool.and_eq_true] at h
  have h1 := ih h.1
  have h2 := digB_iff (b := x) (by simpa using h.2)
  rw [numM_snoc, stepM, Int.tmod_eq_emod_of_nonneg (by omega)]
  omega
theorem numV_bound (s : List UInt8) : s.all digB = true → 0 ≤ numV s ∧ numV s < 10 ^ s.length := by
  refine snoc_ind (P := fun s => s.all digB = true → 0 ≤ numV s ∧ numV s < 10 ^ s.length) (by simp [numV]) ?_ s
  intro l x ih h
  rw [List.all_append, Bool.and_eq_true] at h
  have h1 := ih h.1
  have h2 := digB_iff (b := x) (by simpa using h.2)
  rw [numV_snoc, stepV, List.length_append, List.length_singleton, Int.pow_succ]
  omega
theorem pow_le9 {n : Nat} (h : n ≤ 9) : (10 : Int) ^ n ≤ 1000000000 := by
  have : ∀ n : Fin 10, (10 : Int) ^ n.val ≤ 1000000000 := by decide
  exact this ⟨n, by omega⟩
theorem pow_le4 {n : Nat} (h : n ≤ 4) : (10 : Int) ^ n ≤ 10000 := by
  have : ∀ n : Fin 5, (10 : Int) ^ n.val ≤ 10000 := by decide
  exact this ⟨n, by omega⟩
theorem numM_eq (s : List UInt8) : s.all digB = true → s.length ≤ 9 → numM s = numV s := by
  refine snoc_ind (P := fun s => s.all digB = true → s.length ≤ 9 → numM s = numV s) (fun _ _ => rfl) ?_ s
  intro l x ih h hl
  have hb := numV_bound _ h
  rw [List.all_append, Bool.and_eq_true] at h
  rw [List.length_append, List.length_singleton] at hl
  rw [numM_snoc, ih h.1 (by omega), numV_snoc, stepM]
  rw [numV_snoc, stepV, List.length_append, List.length_singleton] at hb
  have := pow_le9 hl
  rw [Int.tmod_eq_emod_of_nonneg hb.1, Int.emod_eq_of_lt hb.1 (by omega)]
  rfl
def numOk (s : List UInt8) : Bool := within s.length 1 4 && s.all digB && decide (1 ≤ numV s)
def uidN (s : List UInt8) (last : Int) : Int := if s = [42] then last else if s.all digB = true then numM s else 0
def uidB (s : List UInt8) : Bool := if s = [42] then true else s.all digB && (within s.length 1 4 && decide (0 < numM s))
def numN (s : List UInt8) (last : Int) : Int := if s = [42] then last else if (within s.length 1 4 && s.all digB) = true then numV s else 0
def numB (s : List UInt8) : Bool := if s = [42] then true else within s.length 1 4 && s.all digB && decide (1 ≤ numV s)
theorem within_len {s : List UInt8} (h : within s.length 1 4 = true) : 1 ≤ s.length ∧ s.length ≤ 4 := by
  simp only [within, Bool.and_eq_true, decide_eq_true_eq] at h; omega
theorem uidB_eq (s : List UInt8) : uidB s = numB s := by
  unfold uidB numB
  split
  · rfl
  · cases hd : s.all digB with
    | false => simp
    | true =>
      cases hw : within s.length 1 4 with
      | false => simp
      | true =>
        rw [numM_eq s hd (by have := within_len hw; omega), Bool.eq_iff_iff]
        simp; omega
theorem uidN_eq {s : List UInt8} {last : Int} (h : numB s = true) : uidN s last = numN s last := by
  unfold uidN numN
  unfold numB at h
  split
  · rfl
  · rename_i h0
    rw [if_neg h0, Bool.and_eq_true, Bool.and_eq_true] at h
    rw [if_pos h.1.2, if_pos (by rw [h.1.1, h.1.2]; rfl), numM_eq s h.1.2 (by have := within_len h.1.1; omega)]
theorem numN_in {s : List UInt8} {last : Int} (hl : 1 ≤ last ∧ last ≤ 9999) (h : numB s = true) : 1 ≤ numN s last ∧ numN s last ≤ 9999 := by
  unfold numN
  unfold numB at h
  split
  · exact hl
  · rename_i h0
    rw [if_neg h0, Bool.and_eq_true, Bool.and_eq_true, decide_eq_true_eq] at h
    rw [if_pos (by rw [h.1.1, h.1.2]; rfl)]
    have h1 := (numV_bound s h.1.2).2
    have h2 := pow_le4 (within_len h.1.1).2
    omega
open Classical in
noncomputable def spReadUid : VM.Spec := { modes := [.rd, .rd], run := fun | [.str s, .int .i64 last] => if s.length ≤ 4194304 then some (.tup [.int .i64 (uidN s last), .bool (uidB s)], []) else none | _ => none, need := [] }
attribute [go_sem] spReadUid
theorem spReadUid_in {ins : List V} {r : V} {outs : List V} (h : spReadUid.run ins = some (r, outs)) : ∃ (s : (List UInt8)) (last : Int), ins = [.str s, .int .i64 last] ∧ (s.length ≤ 4194304) ∧ .tup [.int .i64 (uidN s last), .bool (uidB s)] = r ∧ outs = [] := by
  unfold spReadUid at h
  simp only at h
  split at h
  · rename_i s last
    split at h
    case isFalse => cases h
    rename_i hc
    simp only [Option.some.injEq, Prod.mk.injEq] at h
    obtain ⟨h1, h2⟩ := h
    exact ⟨s, last, rfl, hc, h1, h2.symm⟩
  · cases h
def T_impl_readUid : Hints := ⟨fun _ => none, fun i => if i = 5 then some [0, 6, 12, 13] else none, fun i => if i = 0 then some [0, 1] else if i = 1 then some [0, 1, 9] else if i = 2 then some [4, 5] else if i = 3 then some [0, 6] else if i = 4 then some [0, 6, 12, 13] else if i = 5 then some [0, 6, 12, 13, 14] else if i = 6 then some [0, 6, 7, 12, 13] else if i = 7 then some [0, 6, 7, 12, 13, 21] else if i = 8 then some [4, 5] else if i = 9 then some [0, 6, 12, 13] else if i = 10 then some [0, 6, 12, 13] else if i = 11 then some [4, 5] else none, fun _ => none⟩
noncomputable def Phi_impl_readUid : Tab := fun f => if f = 59 then some spWithin else none
attribute [go_sem] T_impl_readUid Phi_impl_readUid
theorem phi_impl_readUid : ∀ f sp, Phi_impl_readUid f = some sp → FnOk Tryz.prog f sp ∧ ∀ n ∈ sp.need, n ∈ ([] : List String) := by
  intro f sp h
  unfold Phi_impl_readUid at h
  by_cases e : f = 59
  · rw [if_pos e] at h; cases h; rw [e]; exact ⟨ok_impl_within, (fun n (h : n ∈ ([] : List String)) => (nomatch h))⟩
  rw [if_neg e] at h
  cases h
theorem ok_impl_readUid : FnOk Tryz.prog 106 spReadUid := by
  refine fn_ok (Φ := Phi_impl_readUid) (T := T_impl_readUid) phi_impl_readUid mixed Tryz.func106 rfl rfl rfl (by decide) ?_
  intro ins r outs hr hl
  clear hl
  have hs := spReadUid_in hr
  clear hr
  obtain ⟨s, last, rfl, hc, hr, rfl⟩ := hs
  simp only [spReadUid, Tryz.f106, Go.VM.initS]
  cases hst : (s == [42]) with
  | true =>
    have h0 : s = [42] := by simpa using hst
    subst h0
    simp only [go_sem]
    repeat' ((first | apply qa | apply qb | apply qc | apply qd | apply qe | apply qf | apply qg | apply qh | apply qi | apply qj | apply qk) <;> intro hp <;> simp only [hp, go_sem])
    simp only [fin_mk, finV, resL, resV1, resIn, endA, listIn, Option.some_or, Option.none_or, oneOrTup, go_sem]
    rw [← hr]
    rfl
  | false =>
    have h0 : ¬ s = [42] := by simpa using hst
    have hN : uidN s last = if s.all digB = true then numM s else 0 := by rw [uidN, if_neg h0]
    have hB : uidB s = (s.all digB && (within s.length 1 4 && decide (0 < numM s))) := by rw [uidB, if_neg h0]
    rw [hN, hB] at hr
    clear hN hB
    simp only [hst, go_sem]
    repeat' ((first | apply qa | apply qb | apply qc | apply qd | apply qe | apply qf | apply qg | apply qh | apply qi | apply qj | apply qk) <;> intro hp <;> simp only [hp, hst, go_sem])
    refine loop_go (fun i : Nat => [(6, .int .i64 (numM (s.take i))), (13, .int .i64 (i : Int))]) (fun _ => []) (fun i => s.length - i) (fun i => i ≤ s.length ∧ (s.take i).all digB = true) 0 ⟨Nat.zero_le _, rfl⟩ rfl rfl ?_
    intro i ⟨hi, ha⟩ ih
    rcases Nat.lt_or_ge i s.length with h | h
    · have g1 : (i : Int) < s.length := by omega
      have g2 : (0 : Int) ≤ i := by omega
      have g3 : s[i]? = some s[i] := List.getElem?_eq_getElem h
      have g5 := wrap_succ h (by omega)
      have hm := numM_bound _ ha
      cases hb : digB s[i] with
      | false =>
        have hb' : within (s[i].toNat : Int) 48 57 = false := hb
        have hall : s.all digB = false := List.all_eq_false.2 ⟨s[i], List.getElem_mem h, by simp [hb]⟩
        simp only [g1, g2, g3, byte_wrap, hb', go_sem]
        repeat' ((first | apply qa | apply qb | apply qc | apply qd | apply qe | apply qf | apply qg | apply qh | apply qi | apply qj | apply qk) <;> intro hp <;> simp only [hp, g1, g2, g3, byte_wrap, hb', go_sem])
        simp only [fin_mk, finV, resL, resV1, resIn, endA, listIn, Option.some_or, Option.none_or, oneOrTup, go_sem]
        rw [← hr]
        rw [hall]; rfl
      | true =>
        have hb' : within (s[i].toNat : Int) 48 57 = true := hb
        have hd := digB_iff hb
        have w1 : IntKind.i64.wrap (10 * numM (s.take i)) = 10 * numM (s.take i) := wrap64 (by omega) (by omega)
        have w2 : IntKind.u8.wrap ((s[i].toNat : Int) - 48) = (s[i].toNat : Int) - 48 := by
          simp only [IntKind.wrap, IntKind.signed, IntKind.bits]
          simp; omega
        have w3 : IntKind.i64.wrap ((s[i].toNat : Int) - 48) = (s[i].toNat : Int) - 48 := wrap64 (by omega) (by omega)
        have w4 : IntKind.i64.wrap (10 * numM (s.take i) + ((s[i].toNat : Int) - 48)) = 10 * numM (s.take i) + ((s[i].toNat : Int) - 48) := wrap64 (by omega) (by omega)
        have ih' := ih (i + 1) ⟨h, all_take_succ h ha hb⟩ (by omega)
        rw [take_succ' h, numM_snoc] at ih'
        clear ih
        simp only [g1, g2, g3, g5, byte_wrap, hb', w1, w2, w3, w4, go_sem]
        repeat' ((first | apply qa | apply qb | apply qc | apply qd | apply qe | apply qf | apply qg | apply qh | apply qi | apply qj | apply qk) <;> intro hp <;> simp only [hp, g1, g2, g3, g5, byte_wrap, hb', w1, w2, w3, w4, go_sem])
        exact ih'
    · have g1 : ¬ (i : Int) < s.length := by omega
      have ht : s.take i = s := List.take_of_length_le h
      rw [ht] at ha ⊢
      rw [ha] at hr
      cases hw : within s.length 1 4 with
      | false =>
        rw [hw] at hr
        simp only [g1, hw, go_sem]
        repeat' ((first | apply qa | apply qb | apply qc | apply qd | apply qe | apply qf | apply qg | apply qh | apply qi | apply qj | apply qk) <;> intro hp <;> simp only [hp, g1, hw, go_sem])
        simp only [fin_mk, finV, resL, resV1, resIn, endA, listIn, Option.some_or, Option.none_or, oneOrTup, go_sem]
        rw [← hr]
        rfl
      | true =>
        rw [hw] at hr
        simp only [g1, hw, go_sem]
        repeat' ((first | apply qa | apply qb | apply qc | apply qd | apply qe | apply qf | apply qg | apply qh | apply qi | apply qj | apply qk) <;> intro hp <;> simp only [hp, g1, hw, go_sem])
        simp only [fin_mk, finV, resL, resV1, resIn, endA, listIn, Option.some_or, Option.none_or, oneOrTup, go_sem]
        rw [← hr]
        rfl
open Classical in
noncomputable def spNum : VM.Spec := { modes := [.rd, .rd], run := fun | [.str s, .int .i64 last] => if s.length ≤ 4194304 then some (.tup [.int .i64 (numN s last), .bool (numB s)], []) else none | _ => none, need := [] }
attribute [go_sem] spNum
theorem spNum_in {ins : List V} {r : V} {outs : List V} (h : spNum.run ins = some (r, outs)) : ∃ (s : (List UInt8)) (last : Int), ins = [.str s, .int .i64 last] ∧ (s.length ≤ 4194304) ∧ .tup [.int .i64 (numN s last), .bool (numB s)] = r ∧ outs = [] := by
  unfold spNum at h
  simp only at h
  split at h
  · rename_i s last
    split at h
    case isFalse => cases h
    rename_i hc
    simp only [Option.some.injEq, Prod.mk.injEq] at h
    obtain ⟨h1, h2⟩ := h
    exact ⟨s, last, rfl, hc, h1, h2.symm⟩
  · cases h
def T_spec_l05Num : Hints := ⟨fun _ => none, fun i => if i = 7 then some [0, 6, 7] else none, fun i => if i = 0 then some [0, 1] else if i = 1 then some [0, 1, 9] else if i = 2 then some [4, 5] else if i = 3 then some [0, 14] else if i = 4 then some [4, 5] else if i = 5 then some [0, 6] else if i = 6 then some [0, 6, 7] else if i = 7 then some [0, 6, 7, 18] else if i = 9 then some [0, 6, 7, 30] else if i = 10 then some [4, 5] else if i = 11 then some [0, 6, 7] else if i = 8 then some [0, 6, 7] else if i = 12 then some [4, 5] else none, fun _ => none⟩
noncomputable def Phi_spec_l05Num : Tab := fun f => if f = 53 then some spWithin else none
attribute [go_sem] T_spec_l05Num Phi_spec_l05Num
theorem phi_spec_l05Num : ∀ f sp, Phi_spec_l05Num f = some sp → FnOk Tryz.prog f sp ∧ ∀ n ∈ sp.need, n ∈ ([] : List String) := by
  intro f sp h
  unfold Phi_spec_l05Num at h
  by_cases e : f = 53
  · rw [if_pos e] at h; cases h; rw [e]; exact ⟨ok_spec_l01In, (fun n (h : n ∈ ([] : List String)) => (nomatch h))⟩
  rw [if_neg e] at h
  cases h
theorem ok_spec_l05Num : FnOk Tryz.prog 162 spNum := by
  refine fn_ok (Φ := Phi_spec_l05Num) (T := T_spec_l05Num) phi_spec_l05Num mixed Tryz.func162 rfl rfl rfl (by decide) ?_
  intro ins r outs hr hl
  clear hl
  have hs := spNum_in hr
  clear hr
  obtain ⟨s, last, rfl, hc, hr, rfl⟩ := hs
  simp only [spNum, Tryz.f162, Go.VM.initS]
  cases hst : (s == [42]) with
  | true =>
    have h0 : s = [42] := by simpa using hst
    subst h0
    simp only [go_sem]
    repeat' ((first | apply qa | apply qb | apply qc | apply qd | apply qe | apply qf | apply qg | apply qh | apply qi | apply qj | apply qk) <;> intro hp <;> simp only [hp, go_sem])
    simp only [fin_mk, finV, resL, resV1, resIn, endA, listIn, Option.some_or, Option.none_or, oneOrTup, go_sem]
    rw [← hr]
    rfl
  | false =>
    have h0 : ¬ s = [42] := by simpa using hst
    have hN : numN s last = if (within s.length 1 4 && s.all digB) = true then numV s else 0 := by rw [numN, if_neg h0]
    have hB : numB s = (within s.length 1 4 && s.all digB && decide (1 ≤ numV s)) := by rw [numB, if_neg h0]
    rw [hN, hB] at hr
    clear hN hB
    cases hw : within s.length 1 4 with
    | false =>
      rw [hw] at hr
      simp only [hst, hw, go_sem]
      repeat' ((first | apply qa | apply qb | apply qc | apply qd | apply qe | apply qf | apply qg | apply qh | apply qi | apply qj | apply qk) <;> intro hp <;> simp only [hp, hst, hw, go_sem])
      simp only [fin_mk, finV, resL, resV1, resIn, endA, listIn, Option.some_or, Option.none_or, oneOrTup, go_sem]
      rw [← hr]
      rfl
    | true =>
      rw [hw] at hr
      have hl4 := within_len hw
      simp only [hst, hw, go_sem]
      repeat' ((first | apply qa | apply qb | apply qc | apply qd | apply qe | apply qf | apply qg | apply qh | apply qi | apply qj | apply qk) <;> intro hp <;> simp only [hp, hst, hw, go_sem])
      refine loop_go (fun i : Nat => [(6, .int .i64 (numV (s.take i))), (7, .int .i64 (i : Int))]) (fun _ => []) (fun i => s.length - i) (fun i => i ≤ s.length ∧ (s.take i).all digB = true) 0 ⟨Nat.zero_le _, rfl⟩ rfl rfl ?_
      intro i ⟨hi, ha⟩ ih
      rcases Nat.lt_or_ge i s.length with h | h
      · have g1 : (i : Int) < s.length := by omega
        have g2 : (0 : Int) ≤ i := by omega
        have g3 : s[i]? = some s[i] := List.getElem?_eq_getElem h
        have g5 := wrap_succ h (by omega)
        have hm := numV_bound _ ha
        have hp := pow_le9 (n := (s.take i).length) (by rw [List.length_take]; omega)
        cases hb : digB s[i] with
        | false =>
          have hall : s.all digB = false := List.all_eq_false.2 ⟨s[i], List.getElem_mem h, by simp [hb]⟩
          rw [hall] at hr
          by_cases c1 : (s[i].toNat : Int) < 48
          · simp only [g1, g2, g3, c1, go_sem]
            repeat' ((first | apply qa | apply qb | apply qc | apply qd | apply qe | apply qf | apply qg | apply qh | apply qi | apply qj | apply qk) <;> intro hp <;> simp only [hp, g1, g2, g3, c1, go_sem])
            simp only [fin_mk, finV, resL, resV1, resIn, endA, listIn, Option.some_or, Option.none_or, oneOrTup, go_sem]
            rw [← hr]
            rfl
          · have c2 : (57 : Int) < s[i].toNat := by
              simp only [digB, within, Bool.and_eq_false_iff, decide_eq_false_iff_not] at hb; omega
            simp only [g1, g2, g3, c1, c2, go_sem]
            repeat' ((first | apply qa | apply qb | apply qc | apply qd | apply qe | apply qf | apply qg | apply qh | apply qi | apply qj | apply qk) <;> intro hp <;> simp only [hp, g1, g2, g3, c1, c2, go_sem])
            simp only [fin_mk, finV, resL, resV1, resIn, endA, listIn, Option.some_or, Option.none_or, oneOrTup, go_sem]
            rw [← hr]
            rfl
        | true =>
          have hd := digB_iff hb
          have c1 : ¬ (s[i].toNat : Int) < 48 := by omega
          have c2 : ¬ (57 : Int) < s[i].toNat := by omega
          have w1 : IntKind.i64.wrap (10 * numV (s.take i)) = 10 * numV (s.take i) := wrap64 (by omega) (by omega)
          have w4 : IntKind.i64.wrap (10 * numV (s.take i) + (s[i].toNat : Int)) = 10 * numV (s.take i) + (s[i].toNat : Int) := wrap64 (by omega) (by omega)
          have w5 : IntKind.i64.wrap (10 * numV (s.take i) + (s[i].toNat : Int) - 48) = stepV (numV (s.take i)) s[i] := (wrap64 (by omega) (by omega)).trans (by unfold stepV; omega)
          have ih' := ih (i + 1) ⟨h, all_take_succ h ha hb⟩ (by omega)
          rw [take_succ' h, numV_snoc] at ih'
          clear ih
          simp only [g1, g2, g3, g5, byte_wrap, c1, c2, w1, w4, w5, go_sem]
          repeat' ((first | apply qa | apply qb | apply qc | apply qd | apply qe | apply qf | apply qg | apply qh | apply qi | apply qj | apply qk) <;> intro hp <;> simp only [hp, g1, g2, g3, g5, byte_wrap, c1, c2, w1, w4, w5, go_sem])
          exact ih'
      · have g1 : ¬ (i : Int) < s.length := by omega
        have ht : s.take i = s := List.take_of_length_le h
        rw [ht] at ha ⊢
        rw [ha] at hr
        simp only [g1, go_sem]
        repeat' ((first | apply qa | apply qb | apply qc | apply qd | apply qe | apply qf | apply qg | apply qh | apply qi | apply qj | apply qk) <;> intro hp <;> simp only [hp, g1, go_sem])
        simp only [fin_mk, finV, resL, resV1, resIn, endA, listIn, Option.some_or, Option.none_or, oneOrTup, go_sem]
        rw [← hr]
        rfl
end Go.Proofs.YtimiccneikhkgaaGreatDoor.L

namespace Go.Proofs.YtimiccneikhkgaaGreatDoor.L
open Go Go.VM
set_option maxRecDepth 100000
set_option maxHeartbeats 4000000
set_option linter.unusedSimpArgs false
set_option linter.unusedVariables false
open Classical in
noncomputable def spIndex : VM.Spec := { modes := [.rd, .rd], run := fun | [.str s, .str t] => if s.length < 4294967281 then some (.int .i64 (Lib.index s t), []) else none | _ => none, need := ["internal/bytealg.MaxLen"] }
attribute [go_sem] spIndex
theorem spIndex_in {ins : List V} {r : V} {outs : List V} (h : spIndex.run ins = some (r, outs)) : ∃ (s : (List UInt8)) (t : (List UInt8)), ins = [.str s, .str t] ∧ (s.length < 4294967281) ∧ .int .i64 (Lib.index s t) = r ∧ outs = [] := by
  unfold spIndex at h
  simp only at h
  split at h
  · rename_i s t
    split at h
    case isFalse => cases h
    rename_i hc
    simp only [Option.some.injEq, Prod.mk.injEq] at h
    obtain ⟨h1, h2⟩ := h
    exact ⟨s, t, rfl, hc, h1, h2.symm⟩
  · cases h
theorem ok_internal_stringslite_Index : FnOk Tryz.prog 170 spIndex :=
  index_ok Tryz.func170 rfl (by kernel_rfl) (g := 0) (by kernel_rfl) (by simp [spIndex]) rfl (fun _ _ _ h => spIndex_in h) Tryz.stringslite_Index
theorem index_room {s t : List UInt8} (h : 0 ≤ Lib.index s t) : Lib.index s t + t.length ≤ s.length := by
  induction s with
  | nil =>
    unfold Lib.index at h ⊢
    split
    · rename_i ht
      have : t = [] := by simpa using ht
      subst this; simp
    · rename_i ht; rw [if_neg ht] at h; omega
  | cons b s ih =>
    unfold Lib.index at h ⊢
    split
    · rename_i hp
      have := isPrefixOf_len hp
      omega
    · rename_i hp
      rw [if_neg hp] at h
      split
      · rename_i he; rw [if_pos he] at h; omega
      · rename_i he
        rw [if_neg he] at h
        have h1 := Lib.index_ge s t
        have h2 : Lib.index s t ≠ -1 := by simpa using he
        have := ih (by omega)
        simp only [List.length_cons]; omega
def cutB (s t : List UInt8) : Bool := decide (0 ≤ Lib.index s t)
def cut1 (s t : List UInt8) : List UInt8 := if cutB s t = true then s.take (Lib.index s t).toNat else s
def cut2 (s t : List UInt8) : List UInt8 := if cutB s t = true then s.drop ((Lib.index s t).toNat + t.length) else []
open Classical in
noncomputable def spCut : VM.Spec := { modes := [.rd, .rd], run := fun | [.str s, .str t] => if s.length ≤ 4194304 ∧ t.length ≤ 4194304 then some (.tup [.str (cut1 s t), .str (cut2 s t), .bool (cutB s t)], []) else none | _ => none, need := ["internal/bytealg.MaxLen"] }
attribute [go_sem] spCut
theorem spCut_in {ins : List V} {r : V} {outs : List V} (h : spCut.run ins = some (r, outs)) : ∃ (s : (List UInt8)) (t : (List UInt8)), ins = [.str s, .str t] ∧ (s.length ≤ 4194304 ∧ t.length ≤ 4194304) ∧ .tup [.str (cut1 s t), .str (cut2 s t), .bool (cutB s t)] = r ∧ outs = [] := by
  unfold spCut at h
  simp only at h
  split at h
  · rename_i s t
    split at h
    case isFalse => cases h
    rename_i hc
    simp only [Option.some.injEq, Prod.mk.injEq] at h
    obtain ⟨h1, h2⟩ := h
    exact ⟨s, t, rfl, hc, h1, h2.symm⟩
  · cases h
def T_internal_stringslite_Cut : Hints := ⟨fun i => if i = 3 then some [] else none, fun _ => none, fun i => if i = 0 then some [0, 1] else if i = 1 then some [0, 1, 7] else if i = 2 then some [0, 1, 7, 12] else if i = 3 then some [4, 5, 6] else if i = 4 then some [4, 5, 6] else none, fun _ => none⟩
noncomputable def Phi_internal_stringslite_Cut : Tab := fun f => if f = 170 then some spIndex else none
attribute [go_sem] T_internal_stringslite_Cut Phi_internal_stringslite_Cut
theorem phi_internal_stringslite_Cut : ∀ f sp, Phi_internal_stringslite_Cut f = some sp → FnOk Tryz.prog f sp ∧ ∀ n ∈ sp.need, n ∈ (["internal/bytealg.MaxLen"] : List String) := by
  intro f sp h
  unfold Phi_internal_stringslite_Cut at h
  by_cases e : f = 170
  · rw [if_pos e] at h; cases h; rw [e]; exact ⟨ok_internal_stringslite_Index, (fun n (h : n ∈ (["internal/bytealg.MaxLen"] : List String)) => by simp only [List.mem_cons, List.not_mem_nil, or_false] at h; rcases h with rfl <;> simp)⟩
  rw [if_neg e] at h
  cases h
theorem ok_internal_stringslite_Cut : FnOk Tryz.prog 160 spCut := by
  refine fn_ok (Φ := Phi_internal_stringslite_Cut) (T := T_internal_stringslite_Cut) phi_internal_stringslite_Cut mixed Tryz.func160 rfl rfl rfl (by decide) ?_
  intro ins r outs hr hl
  clear hl
  have hs := spCut_in hr
  clear hr
  obtain ⟨s, t, rfl, hc, hr, rfl⟩ := hs
  simp only [spCut, Tryz.f160, Go.VM.initS]
  obtain ⟨hs, ht⟩ := hc
  have h1 : s.length < 4294967281 := by omega
  by_cases h : 0 ≤ Lib.index s t
  · have hr2 := index_room h
    obtain ⟨k, hk⟩ : ∃ k : Nat, Lib.index s t = k := ⟨(Lib.index s t).toNat, by omega⟩
    rw [hk] at hr2
    have hB : cutB s t = true := by simp [cutB, h]
    simp only [cut1, cut2, hB, if_true, hk, Int.toNat_natCast] at hr
    have g1 : (0 : Int) ≤ k := by omega
    have g2 : k ≤ s.length := by omega
    have g3 : IntKind.i64.wrap ((k : Int) + (t.length : Int)) = ((k + t.length : Nat) : Int) := (wrap64 (by omega) (by omega)).trans (by omega)
    have g4 : (0 : Int) ≤ ((k + t.length : Nat) : Int) := by omega
    have g5 : k + t.length ≤ s.length := by omega
    simp only [h1, hk, g1, g2, g3, g4, g5, Int.toNat_natCast, List.take_length, List.drop_zero, Nat.zero_le, Nat.le_refl, go_sem]
    repeat' ((first | ((first | apply qa | apply qb | apply qc | apply qd | apply qe | apply qf | apply qg | apply qh | apply qi | apply qj | apply qk) <;> intro hp) | ((first | refine ql rfl rfl (by decide +kernel) ?_ | refine qm _ rfl rfl (by decide +kernel) ?_) <;> have hp := True.intro)) <;> simp only [hp, h1, hk, g1, g2, g3, g4, g5, Int.toNat_natCast, List.take_length, List.drop_zero, Nat.zero_le, Nat.le_refl, go_sem])
    simp only [fin_mk, finV, resL, resV1, resIn, endA, listIn, Option.some_or, Option.none_or, oneOrTup, go_sem]
    rw [← hr]
  · have hB : cutB s t = false := by simp [cutB]; omega
    simp only [cut1, cut2, hB, Bool.false_eq_true, if_false] at hr
    simp only [h1, h, go_sem]
    repeat' ((first | ((first | apply qa | apply qb | apply qc | apply qd | apply qe | apply qf | apply qg | apply qh | apply qi | apply qj | apply qk) <;> intro hp) | ((first | refine ql rfl rfl (by decide +kernel) ?_ | refine qm _ rfl rfl (by decide +kernel) ?_) <;> have hp := True.intro)) <;> simp only [hp, h1, h, go_sem])
    simp only [fin_mk, finV, resL, resV1, resIn, endA, listIn, Option.some_or, Option.none_or, oneOrTup, go_sem]
    rw [← hr]
def T_strings_Cut : Hints := ⟨fun _ => none, fun _ => none, fun i => if i = 0 then some [0, 1] else if i = 1 then some [4, 5, 6] else none, fun _ => none⟩
noncomputable def Phi_strings_Cut : Tab := fun f => if f = 160 then some spCut else none
attribute [go_sem] T_strings_Cut Phi_strings_Cut
theorem phi_strings_Cut : ∀ f sp, Phi_strings_Cut f = some sp → FnOk Tryz.prog f sp ∧ ∀ n ∈ sp.need, n ∈ (["internal/bytealg.MaxLen"] : List String) := by
  intro f sp h
  unfold Phi_strings_Cut at h
  by_cases e : f = 160
  · rw [if_pos e] at h; cases h; rw [e]; exact ⟨ok_internal_stringslite_Cut, (fun n (h : n ∈ (["internal/bytealg.MaxLen"] : List String)) => by simp only [List.mem_cons, List.not_mem_nil, or_false] at h; rcases h with rfl <;> simp)⟩
  rw [if_neg e] at h
  cases h
theorem ok_strings_Cut : FnOk Tryz.prog 105 spCut := by
  refine fn_ok (Φ := Phi_strings_Cut) (T := T_strings_Cut) phi_strings_Cut mixed Tryz.func105 rfl rfl rfl (by decide) ?_
  intro ins r outs hr hl
  clear hl
  have hs := spCut_in hr
  clear hr
  obtain ⟨s, t, rfl, hc, hr, rfl⟩ := hs
  simp only [spCut, Tryz.f105, Go.VM.initS]
  obtain ⟨hs, ht⟩ := hc
  simp only [hs, ht, go_sem]
  repeat' ((first | apply qa | apply qb | apply qc | apply qd | apply qe | apply qf | apply qg | apply qh | apply qi | apply qj | apply qk) <;> intro hp <;> simp only [hp, hs, ht, go_sem])
  simp only [fin_mk, finV, resL, resV1, resIn, endA, listIn, Option.some_or, Option.none_or, oneOrTup, go_sem]
  rw [← hr]
theorem index_one (c : UInt8) (s : List UInt8) : Lib.index s [c] = if c ∈ s then ((s.takeWhile (notB c)).length : Int) else -1 := by
  induction s with
  | nil => rfl
  | cons b s ih =>
    by_cases hb : b = c
    · subst hb
      simp [Lib.index, List.isPrefixOf, List.takeWhile_cons, notB]
    · have hp : [c].isPrefixOf (b :: s) = false := by simp [List.isPrefixOf]; exact fun h => hb h.symm
      have hn : notB c b = true := by simpa [notB] using hb
      rw [Lib.index, hp, ih, List.takeWhile_cons, hn]
      by_cases hm : c ∈ s
      · have : ((((s.takeWhile (notB c)).length : Nat) : Int) == -1) = false := beq_eq_false_iff_ne.2 (by omega)
        simp [hm, this]
      · simp [hm, Ne.symm hb]
theorem takeWhile_take {α : Type} (p : α → Bool) (s : List α) : s.take (s.takeWhile p).length = s.takeWhile p := by
  induction s with
  | nil => rfl
  | cons b s ih =>
    rw [List.takeWhile_cons]
    split
    · rw [List.length_cons, List.take_succ_cons, ih]
    · rfl
def first (p : List UInt8) : List UInt8 := p.takeWhile (notB 58)
def second (p : List UInt8) : List UInt8 := p.drop ((first p).length + 1)
def partB (p : List UInt8) : Bool := if 58 ∈ p then numB (first p) && numB (second p) else numB p
def partLo (p : List UInt8) (last : Int) : Int := if 58 ∈ p then min (numN (first p) last) (numN (second p) last) else numN p last
def partHi (p : List UInt8) (last : Int) : Int := if 58 ∈ p then max (numN (first p) last) (numN (second p) last) else numN p last
theorem part_in {p : List UInt8} {last : Int} (hl : 1 ≤ last ∧ last ≤ 9999) (h : partB p = true) : 1 ≤ partLo p last ∧ partLo p last ≤ partHi p last ∧ partHi p last ≤ 9999 := by
  unfold partB at h
  unfold partLo partHi
  split
  · rename_i hm
    rw [if_pos hm, Bool.and_eq_true] at h
    have h1 := numN_in hl h.1
    have h2 := numN_in hl h.2
    omega
  · rename_i hm
    rw [if_neg hm] at h
    have h1 := numN_in hl h
    omega
open Classical in
noncomputable def spPart : VM.Spec := { modes := [.rd, .rd], run := fun | [.str t, .int .i64 last] => if t.length ≤ 4194304 then some (.tup [.int .i64 (partLo t last), .int .i64 (partHi t last), .bool (partB t)], []) else none | _ => none, need := [] }
attribute [go_sem] spPart
theorem spPart_in {ins : List V} {r : V} {outs : List V} (h : spPart.run ins = some (r, outs)) : ∃ (t : (List UInt8)) (last : Int), ins = [.str t, .int .i64 last] ∧ (t.length ≤ 4194304) ∧ .tup [.int .i64 (partLo t last), .int .i64 (partHi t last), .bool (partB t)] = r ∧ outs = [] := by
  unfold spPart at h
  simp only at h
  split at h
  · rename_i t last
    split at h
    case isFalse => cases h
    rename_i hc
    simp only [Option.some.injEq, Prod.mk.injEq] at h
    obtain ⟨h1, h2⟩ := h
    exact ⟨t, last, rfl, hc, h1, h2.symm⟩
  · cases h
def T_spec_l05Part : Hints := ⟨fun _ => none, fun i => if i = 2 then some [0, 1, 7] else none, fun i => if i = 0 then some [0, 1] else if i = 1 then some [0, 1, 7] else if i = 2 then some [0, 1, 7, 17] else if i = 4 then some [0, 1, 7, 23] else if i = 5 then some [0, 1, 7, 8, 9] else if i = 6 then some [8, 9, 10, 11] else if i = 7 then some [8, 9, 10, 11, 43] else if i = 8 then some [8, 9, 10, 11] else if i = 9 then some [4, 5, 6] else if i = 3 then some [0, 1, 7] else if i = 10 then some [12, 13] else if i = 11 then some [4, 5, 6] else none, fun _ => none⟩
noncomputable def Phi_spec_l05Part : Tab := fun f => if f = 162 then some spNum else none
attribute [go_sem] T_spec_l05Part Phi_spec_l05Part
theorem phi_spec_l05Part : ∀ f sp, Phi_spec_l05Part f = some sp → FnOk Tryz.prog f sp ∧ ∀ n ∈ sp.need, n ∈ ([] : List String) := by
  intro f sp h
  unfold Phi_spec_l05Part at h
  by_cases e : f = 162
  · rw [if_pos e] at h; cases h; rw [e]; exact ⟨ok_spec_l05Num, (fun n (h : n ∈ ([] : List String)) => (nomatch h))⟩
  rw [if_neg e] at h
  cases h
theorem ok_spec_l05Part : FnOk Tryz.prog 115 spPart := by
  refine fn_ok (Φ := Phi_spec_l05Part) (T := T_spec_l05Part) phi_spec_l05Part mixed Tryz.func115 rfl rfl rfl (by decide) ?_
  intro ins r outs hr hl
  clear hl
  have hs := spPart_in hr
  clear hr
  obtain ⟨t, last, rfl, hc, hr, rfl⟩ := hs
  simp only [spPart, Tryz.f115, Go.VM.initS]
  simp only [go_sem]
  repeat' ((first | apply qa | apply qb | apply qc | apply qd | apply qe | apply qf | apply qg | apply qh | apply qi | apply qj | apply qk) <;> intro hp <;> simp only [hp, go_sem])
  refine loop_go (fun i : Nat => [(7, .int .i64 (i : Int))]) (fun _ => []) (fun i => t.length - i) (fun i => i ≤ t.length ∧ ∀ x ∈ t.take i, notB 58 x = true) 0 ⟨Nat.zero_le _, by simp⟩ rfl rfl ?_
  intro i ⟨hi, ha⟩ ih
  rcases Nat.lt_or_ge i t.length with h | h
  · have g1 : (i : Int) < t.length := by omega
    have g2 : (0 : Int) ≤ i := by omega
    have g3 : t[i]? = some t[i] := List.getElem?_eq_getElem h
    have g4 : i ≤ t.length := by omega
    have g5 := wrap_succ h (by omega)
    have g6 : (0 : Int) ≤ ((i + 1 : Nat) : Int) := by omega
    have g7 : i + 1 ≤ t.length := by omega
    cases hb : ((t[i].toNat : Int) == 58) with
    | true =>
      have h58 : t[i] = 58 := by
        have h1 : t[i].toNat = (58 : UInt8).toNat := by simp only [beq_iff_eq] at hb; show t[i].toNat = 58; omega
        exact UInt8.toNat_inj.1 h1
      have hm : (58 : UInt8) ∈ t := by rw [← h58]; exact List.getElem_mem h
      have e1 : first t = t.take i := takeWhile_at ha h (by rw [h58]; rfl)
      have e2 : second t = t.drop (i + 1) := by rw [second, e1, List.length_take, Nat.min_eq_left (by omega)]
      have l1 : (t.take i).length ≤ 4194304 := by rw [List.length_take]; omega
      have l2 : (t.drop (i + 1)).length ≤ 4194304 := by rw [List.length_drop]; omega
      simp only [partLo, partHi, partB, if_pos hm, e1, e2] at hr
      generalize hX : numN (t.take i) last = X at *
      generalize hY : numN (t.drop (i + 1)) last = Y at *
      generalize hA : numB (t.take i) = A at *
      generalize hB : numB (t.drop (i + 1)) = B at *
      by_cases hlt : Y < X
      · rw [Int.min_eq_right (by omega), Int.max_eq_left (by omega)] at hr
        simp only [g1, g2, g3, g4, g5, g6, g7, hb, l1, l2, hX, hY, hA, hB, hlt, List.take_length, List.drop_zero, Nat.zero_le, Nat.le_refl, go_sem]
        repeat' ((first | apply qa | apply qb | apply qc | apply qd | apply qe | apply qf | apply qg | apply qh | apply qi | apply qj | apply qk) <;> intro hp <;> simp only [hp, g1, g2, g3, g4, g5, g6, g7, hb, l1, l2, hX, hY, hA, hB, hlt, List.take_length, List.drop_zero, Nat.zero_le, Nat.le_refl, go_sem])
        all_goals (simp only [fin_mk, finV, resL, resV1, resIn, endA, listIn, Option.some_or, Option.none_or, oneOrTup, go_sem]; rw [← hr])
        all_goals (rw [hp]; rfl)
      · rw [Int.min_eq_left (by omega), Int.max_eq_right (by omega)] at hr
        simp only [g1, g2, g3, g4, g5, g6, g7, hb, l1, l2, hX, hY, hA, hB, hlt, List.take_length, List.drop_zero, Nat.zero_le, Nat.le_refl, go_sem]
        repeat' ((first | apply qa | apply qb | apply qc | apply qd | apply qe | apply qf | apply qg | apply qh | apply qi | apply qj | apply qk) <;> intro hp <;> simp only [hp, g1, g2, g3, g4, g5, g6, g7, hb, l1, l2, hX, hY, hA, hB, hlt, List.take_length, List.drop_zero, Nat.zero_le, Nat.le_refl, go_sem])
        all_goals (simp only [fin_mk, finV, resL, resV1, resIn, endA, listIn, Option.some_or, Option.none_or, oneOrTup, go_sem]; rw [← hr])
        all_goals (rw [hp]; rfl)
    | false =>
      have ih' := ih (i + 1) ⟨h, by
        rw [take_succ' h]
        intro x hx
        rcases List.mem_append.1 hx with hx | hx
        · exact ha x hx
        · simp only [List.mem_singleton] at hx
          subst hx
          unfold notB
          rw [bne_iff_ne]
          intro e
          rw [e] at hb
          exact absurd hb (by decide)⟩ (by omega)
      simp only [g1, g2, g3, g5, hb, go_sem]
      repeat' ((first | apply qa | apply qb | apply qc | apply qd | apply qe | apply qf | apply qg | apply qh | apply qi | apply qj | apply qk) <;> intro hp <;> simp only [hp, g1, g2, g3, g5, hb, go_sem])
      exact ih'
  · have g1 : ¬ (i : Int) < t.length := by omega
    rw [List.take_of_length_le h] at ha
    have hm : ¬ (58 : UInt8) ∈ t := fun hm => by have := ha _ hm; simp [notB] at this
    simp only [partLo, partHi, partB, if_neg hm] at hr
    simp only [hc, g1, go_sem]
    repeat' ((first | apply qa | apply qb | apply qc | apply qd | apply qe | apply qf | apply qg | apply qh | apply qi | apply qj | apply qk) <;> intro hp <;> simp only [hp, hc, g1, go_sem])
    simp only [fin_mk, finV, resL, resV1, resIn, endA, listIn, Option.some_or, Option.none_or, oneOrTup, go_sem]
    rw [← hr]
def rangesOf (last : Int) : List (List UInt8) → Option (List Range)
  | [] => some []
  | p :: ps => if partB p = true then (rangesOf last ps).map fun l => ⟨partLo p last, partHi p last⟩ :: l else none
theorem rangesOf_append (last : Int) : ∀ (a b : List (List UInt8)), rangesOf last (a ++ b) = (rangesOf last a).bind fun l => (rangesOf last b).map (l ++ ·)
  | [], b => by simp [rangesOf]
  | p :: a, b => by
    simp only [List.cons_append, rangesOf]
    split
    · rw [rangesOf_append last a b]
      cases rangesOf last a with
      | none => rfl
      | some l => cases rangesOf last b <;> simp
    · rfl
theorem rangesOf_in {last : Int} (hl : 1 ≤ last ∧ last ≤ 9999) : ∀ {ps : List (List UInt8)} {l : List Range}, rangesOf last ps = some l → (∀ r ∈ l, 1 ≤ r.Lo ∧ r.Lo ≤ r.Hi ∧ r.Hi ≤ 9999) ∧ l.length = ps.length
  | [], l, h => by simp only [rangesOf, Option.some.injEq] at h; subst h; simp
  | p :: ps, l, h => by
    simp only [rangesOf] at h
    split at h
    · rename_i hp
      simp only [Option.map_eq_some_iff] at h
      obtain ⟨m, hm, rfl⟩ := h
      obtain ⟨h1, h2⟩ := rangesOf_in hl hm
      refine ⟨fun r hr => ?_, by simp [h2]⟩
      rcases List.mem_cons.1 hr with rfl | hr
      · exact part_in hl hp
      · exact h1 r hr
    · cases h
def readOk (t : List UInt8) (last : Int) : Bool := within last 1 9999 && (match rangesOf last (splitOn 44 t) with | some l => decide ((setR l).length ≤ 40) | none => false)
def readSet (t : List UInt8) (last : Int) : List Range := if readOk t last = true then (match rangesOf last (splitOn 44 t) with | some l => setR l | none => []) else []
theorem cutB_one (p : List UInt8) : cutB p [58] = decide (58 ∈ p) := by
  rw [cutB, index_one, Bool.eq_iff_iff]
  split <;> simp_all
theorem cut1_one (p : List UInt8) : cut1 p [58] = first p := by
  rw [cut1, cutB_one, index_one]
  by_cases h : (58 : UInt8) ∈ p
  · simp only [h, decide_true, if_true, Int.toNat_natCast]
    exact takeWhile_take _ _
  · simp only [h, decide_false, Bool.false_eq_true, if_false]
    exact (takeWhile_all fun x hx => by simp only [notB, bne_iff_ne]; rintro rfl; exact h hx).symm
theorem cut2_one (p : List UInt8) : cut2 p [58] = if 58 ∈ p then second p else [] := by
  rw [cut2, cutB_one, index_one]
  by_cases h : (58 : UInt8) ∈ p
  · simp only [h, decide_true, if_true, Int.toNat_natCast]; rfl
  · simp only [h, decide_false, Bool.false_eq_true, if_false]
theorem first_none {p : List UInt8} (h : ¬ (58 : UInt8) ∈ p) : first p = p := takeWhile_all fun x hx => by simp only [notB, bne_iff_ne]; rintro rfl; exact h hx
open Classical in
noncomputable def spReadSet : VM.Spec := { modes := [.rd, .rd], run := fun | [.str t, .int .i64 last] => if t.length ≤ 4194304 then some (.tup [.lst 2 ((readSet t last).map Range.enc), .bool (readOk t last)], []) else none | _ => none, need := ["internal/bytealg.MaxLen"] }
attribute [go_sem] spReadSet
theorem spReadSet_in {ins : List V} {r : V} {outs : List V} (h : spReadSet.run ins = some (r, outs)) : ∃ (t : (List UInt8)) (last : Int), ins = [.str t, .int .i64 last] ∧ (t.length ≤ 4194304) ∧ .tup [.lst 2 ((readSet t last).map Range.enc), .bool (readOk t last)] = r ∧ outs = [] := by
  unfold spReadSet at h
  simp only at h
  split at h
  · rename_i t last
    split at h
    case isFalse => cases h
    rename_i hc
    simp only [Option.some.injEq, Prod.mk.injEq] at h
    obtain ⟨h1, h2⟩ := h
    exact ⟨t, last, rfl, hc, h1, h2.symm⟩
  · cases h
def T_impl_ReadSet : Hints := ⟨fun _ => none, fun i => if i = 5 then some [1, 6, 24, 25, 26] else none, fun i => if i = 0 then some [0, 1] else if i = 1 then some [0, 1, 21] else if i = 2 then some [4, 5] else if i = 3 then some [0, 1, 6] else if i = 4 then some [1, 6, 24, 25, 26] else if i = 5 then some [1, 6, 24, 25, 26, 27] else if i = 6 then some [1, 6, 8, 24, 25, 26] else if i = 7 then some [1, 6, 9, 10, 11, 24, 25, 26] else if i = 8 then some [1, 6, 10, 11, 12, 13, 24, 25, 26] else if i = 9 then some [1, 6, 10, 11, 12, 13, 14, 24, 25, 26] else if i = 10 then some [1, 6, 10, 12, 13, 14, 24, 25, 26, 43] else if i = 11 then some [1, 6, 12, 13, 15, 16, 24, 25, 26] else if i = 12 then some [1, 6, 12, 13, 14, 24, 25, 26] else if i = 13 then some [1, 6, 12, 14, 24, 25, 26, 56] else if i = 14 then some [4, 5] else if i = 15 then some [1, 6, 24, 25, 26] else if i = 16 then some [1, 6, 24, 25, 26] else if i = 17 then some [17, 18] else if i = 18 then some [17, 74] else if i = 19 then some [4, 5] else if i = 20 then some [4, 5] else none, fun _ => none⟩
noncomputable def Phi_impl_ReadSet : Tab := fun f => if f = 103 then some spUid else if f = 104 then some spSplit else if f = 105 then some spCut else if f = 106 then some spReadUid else if f = 76 then some spSetOfRead else if f = 107 then some spHasRead else none
attribute [go_sem] T_impl_ReadSet Phi_impl_ReadSet
theorem phi_impl_ReadSet : ∀ f sp, Phi_impl_ReadSet f = some sp → FnOk Tryz.prog f sp ∧ ∀ n ∈ sp.need, n ∈ (["internal/bytealg.MaxLen"] : List String) := by
  intro f sp h
  unfold Phi_impl_ReadSet at h
  by_cases e : f = 103
  · rw [if_pos e] at h; cases h; rw [e]; exact ⟨ok_impl_isUid, (fun n (h : n ∈ ([] : List String)) => (nomatch h))⟩
  rw [if_neg e] at h
  by_cases e : f = 104
  · rw [if_pos e] at h; cases h; rw [e]; exact ⟨ok_strings_Split, (fun n (h : n ∈ (["internal/bytealg.MaxLen"] : List String)) => by simp only [List.mem_cons, List.not_mem_nil, or_false] at h; rcases h with rfl <;> simp)⟩
  rw [if_neg e] at h
  by_cases e : f = 105
  · rw [if_pos e] at h; cases h; rw [e]; exact ⟨ok_strings_Cut, (fun n (h : n ∈ (["internal/bytealg.MaxLen"] : List String)) => by simp only [List.mem_cons, List.not_mem_nil, or_false] at h; rcases h with rfl <;> simp)⟩
  rw [if_neg e] at h
  by_cases e : f = 106
  · rw [if_pos e] at h; cases h; rw [e]; exact ⟨ok_impl_readUid, (fun n (h : n ∈ ([] : List String)) => (nomatch h))⟩
  rw [if_neg e] at h
  by_cases e : f = 76
  · rw [if_pos e] at h; cases h; rw [e]; exact ⟨ok_impl_setOf, (fun n (h : n ∈ ([] : List String)) => (nomatch h))⟩
  rw [if_neg e] at h
  by_cases e : f = 107
  · rw [if_pos e] at h; cases h; rw [e]; exact ⟨ok_impl_ReadSet_1, (fun n (h : n ∈ ([] : List String)) => (nomatch h))⟩
  rw [if_neg e] at h
  cases h
theorem ok_impl_ReadSet : FnOk Tryz.prog 45 spReadSet := by
  refine fn_ok (Φ := Phi_impl_ReadSet) (T := T_impl_ReadSet) phi_impl_ReadSet mixed Tryz.func45 rfl rfl rfl (by decide) ?_
  intro ins r outs hr hl
  clear hl
  have hs := spReadSet_in hr
  clear hr
  obtain ⟨t, last, rfl, hc, hr, rfl⟩ := hs
  simp only [spReadSet, Tryz.f45, Go.VM.initS]
  cases hw : within last 1 9999 with
  | false =>
    simp only [hw, go_sem]
    repeat' ((first | apply qa | apply qb | apply qc | apply qd | apply qe | apply qf | apply qg | apply qh | apply qi | apply qj | apply qk) <;> intro hp <;> simp only [hp, hw, go_sem])
    simp only [fin_mk, finV, resL, resV1, resIn, endA, listIn, Option.some_or, Option.none_or, oneOrTup, go_sem]
    rw [← hr]
    simp only [readSet, readOk, hw, Bool.false_and, Bool.false_eq_true, if_false]
    rfl
  | true =>
    have hl : 1 ≤ last ∧ last ≤ 9999 := by simpa only [within, Bool.and_eq_true, decide_eq_true_eq] using hw
    have b1 : t.length < 4294967281 := by omega
    have hS := split_eq 44 t
    have hP1 := splitOn_len 44 t
    have hP2 := splitOn_mem 44 t
    have hro : readOk t last = (match rangesOf last (splitOn 44 t) with | some l => decide ((setR l).length ≤ 40) | none => false) := by rw [readOk, hw, Bool.true_and]
    have hrs : readSet t last = if readOk t last = true then (match rangesOf last (splitOn 44 t) with | some l => setR l | none => []) else [] := rfl
    rw [hrs, hro] at hr
    clear hrs hro
    simp only [hw, b1, hS, go_sem]
    repeat' ((first | apply qa | apply qb | apply qc | apply qd | apply qe | apply qf | apply qg | apply qh | apply qi | apply qj | apply qk) <;> intro hp <;> simp only [hp, hw, b1, hS, go_sem])
    generalize splitOn 44 t = P at *
    clear hS
    refine loop_go (fun q : Nat × List Range => [(26, .int .i64 (q.1 : Int))]) (fun q => [(2, ⟨.arr, 2, q.2.map Range.enc⟩)]) (fun q => P.length - q.1) (fun q => q.1 ≤ P.length ∧ rangesOf last (P.take q.1) = some q.2) (0, []) ⟨Nat.zero_le _, rfl⟩ rfl rfl ?_
    rintro ⟨i, L⟩ ⟨hi, hL⟩ ih
    simp only at hi hL ih
    have hLl : L.length = i := by rw [(rangesOf_in hl hL).2, List.length_take]; omega
    rcases Nat.lt_or_ge i P.length with h | h
    · have g1 : (i : Int) < P.length := by omega
      have g2 : (0 : Int) ≤ i := by omega
      have g3 : P[i]? = some P[i] := List.getElem?_eq_getElem h
      have g5 := wrap_succ h (by omega)
      have hx := hP2 _ (List.getElem_mem h)
      have hstep : rangesOf last (P.take (i + 1)) = if partB P[i] = true then some (L ++ [⟨partLo P[i] last, partHi P[i] last⟩]) else none := by
        rw [take_succ' h, rangesOf_append, hL, Option.bind_some, rangesOf]
        split <;> simp [rangesOf]
      have hbad : partB P[i] = false → rangesOf last P = none := fun hf => by
        rw [hf, if_neg (by simp)] at hstep
        have := rangesOf_append last (P.take (i + 1)) (P.drop (i + 1))
        rw [List.take_append_drop, hstep] at this
        exact this
      generalize hp : P[i] = p at *
      have c1 : p.length ≤ 4194304 := by omega
      have c2 : (first p).length ≤ 4194304 := Nat.le_trans (List.takeWhile_sublist (l := p) (notB 58)).length_le c1
      have c3 : (second p).length ≤ 4194304 := by rw [second, List.length_drop]; omega
      have f1 := cut1_one p
      have f2 := cut2_one p
      have f3 := cutB_one p
      have b4 : (i + 1) * 16 ≤ 140737488355328 := by omega
      have b5 : i ≤ 9223372036854775806 := by omega
      by_cases hm : (58 : UInt8) ∈ p
      · rw [if_pos hm] at f2
        rw [decide_eq_true hm] at f3
        have hPB : partB p = (numB (first p) && numB (second p)) := by rw [partB, if_pos hm]
        have hLo : partLo p last = min (numN (first p) last) (numN (second p) last) := by rw [partLo, if_pos hm]
        have hHi : partHi p last = max (numN (first p) last) (numN (second p) last) := by rw [partHi, if_pos hm]
        rw [hPB, hLo, hHi] at hstep
        rw [hPB] at hbad
        have u1 := uidB_eq (first p)
        have u2 := uidB_eq (second p)
        cases k1 : numB (first p) with
        | false =>
          rw [k1] at u1 hbad
          rw [hbad rfl] at hr
          simp only [g1, g2, g3, c1, c2, c3, f1, f2, f3, u1, u2, go_sem]
          repeat' ((first | apply qa | apply qb | apply qc | apply qd | apply qe | apply qf | apply qg | apply qh | apply qi | apply qj | apply qk) <;> intro hp <;> simp only [hp, g1, g2, g3, c1, c2, c3, f1, f2, f3, u1, u2, go_sem])
          all_goals (simp only [fin_mk, finV, resL, resV1, resIn, endA, listIn, Option.some_or, Option.none_or, oneOrTup, go_sem]; rw [← hr])
          all_goals rfl
        | true =>
          cases k2 : numB (second p) with
          | false =>
            rw [k1] at u1 hbad
            rw [k2] at u2 hbad
            rw [hbad rfl] at hr
            simp only [g1, g2, g3, c1, c2, c3, f1, f2, f3, u1, u2, go_sem]
            repeat' ((first | apply qa | apply qb | apply qc | apply qd | apply qe | apply qf | apply qg | apply qh | apply qi | apply qj | apply qk) <;> intro hp <;> simp only [hp, g1, g2, g3, c1, c2, c3, f1, f2, f3, u1, u2, go_sem])
            all_goals (simp only [fin_mk, finV, resL, resV1, resIn, endA, listIn, Option.some_or, Option.none_or, oneOrTup, go_sem]; rw [← hr])
            all_goals rfl
          | true =>
            have v1 := uidN_eq (last := last) k1
            have v2 := uidN_eq (last := last) k2
            rw [k1] at u1
            rw [k2] at u2
            rw [k1, k2] at hstep
            simp only [Bool.and_self, if_true] at hstep
            have ih' := ih (i + 1, _) ⟨h, hstep⟩ (by simp only; omega)
            simp only [List.map_append, List.map_cons, List.map_nil] at ih'
            clear ih hbad
            generalize hX : numN (first p) last = X at *
            generalize hY : numN (second p) last = Y at *
            have m1 : (if Y < X then Y else X) = min X Y := by split <;> omega
            have m2 : (if X < Y then Y else X) = max X Y := by split <;> omega
            simp only [g1, g2, g3, g5, c1, c2, c3, f1, f2, f3, u1, u2, v1, v2, m1, m2, hLl, b4, b5, go_sem]
            repeat' ((first | apply qa | apply qb | apply qc | apply qd | apply qe | apply qf | apply qg | apply qh | apply qi | apply qj | apply qk) <;> intro hp <;> simp only [hp, g1, g2, g3, g5, c1, c2, c3, f1, f2, f3, u1, u2, v1, v2, m1, m2, hLl, b4, b5, go_sem])
            all_goals first | exact ih' | (clear ih'; omega)
      · rw [if_neg hm] at f2
        rw [decide_eq_false hm] at f3
        rw [first_none hm] at f1
        have hPB : partB p = numB p := by rw [partB, if_neg hm]
        have hLo : partLo p last = numN p last := by rw [partLo, if_neg hm]
        have hHi : partHi p last = numN p last := by rw [partHi, if_neg hm]
        rw [hPB, hLo, hHi] at hstep
        rw [hPB] at hbad
        have u1 := uidB_eq p
        cases k1 : numB p with
        | false =>
          rw [k1] at u1 hbad
          rw [hbad rfl] at hr
          simp only [g1, g2, g3, c1, c2, c3, f1, f2, f3, u1, go_sem]
          repeat' ((first | apply qa | apply qb | apply qc | apply qd | apply qe | apply qf | apply qg | apply qh | apply qi | apply qj | apply qk) <;> intro hp <;> simp only [hp, g1, g2, g3, c1, c2, c3, f1, f2, f3, u1, go_sem])
          all_goals (simp only [fin_mk, finV, resL, resV1, resIn, endA, listIn, Option.some_or, Option.none_or, oneOrTup, go_sem]; rw [← hr])
          all_goals rfl
        | true =>
          have v1 := uidN_eq (last := last) k1
          rw [k1] at u1
          rw [k1, if_pos rfl] at hstep
          have ih' := ih (i + 1, _) ⟨h, hstep⟩ (by simp only; omega)
          simp only [List.map_append, List.map_cons, List.map_nil] at ih'
          clear ih hbad
          generalize hX : numN p last = X at *
          have m1 : (if X < X then X else X) = X := by split <;> rfl
          simp only [g1, g2, g3, g5, c1, c2, c3, f1, f2, f3, u1, v1, m1, hLl, b4, b5, go_sem]
          repeat' ((first | apply qa | apply qb | apply qc | apply qd | apply qe | apply qf | apply qg | apply qh | apply qi | apply qj | apply qk) <;> intro hp <;> simp only [hp, g1, g2, g3, g5, c1, c2, c3, f1, f2, f3, u1, v1, m1, hLl, b4, b5, go_sem])
          all_goals first | exact ih' | (clear ih'; omega)
    · have g1 : ¬ (i : Int) < P.length := by omega
      rw [List.take_of_length_le h] at hL
      rw [hL] at hr
      simp only [decide_eq_true_eq] at hr
      have hLl2 : L.length ≤ 8388608 := by omega
      by_cases hk : (setR L).length ≤ 40
      · rw [if_pos hk, decide_eq_true hk] at hr
        have d1 : decide ((setR L).length ≤ 40) = true := decide_eq_true hk
        simp only [g1, hLl2, hk, d1, go_sem]
        repeat' ((first | apply qa | apply qb | apply qc | apply qd | apply qe | apply qf | apply qg | apply qh | apply qi | apply qj | apply qk) <;> intro hp <;> simp only [hp, g1, hLl2, hk, d1, go_sem])
        simp only [fin_mk, finV, resL, resV1, resIn, endA, listIn, Option.some_or, Option.none_or, oneOrTup, go_sem]
        rw [← hr]
      · rw [if_neg hk, decide_eq_false hk] at hr
        have d1 : decide ((setR L).length ≤ 40) = false := decide_eq_false hk
        simp only [g1, hLl2, hk, d1, go_sem]
        repeat' ((first | apply qa | apply qb | apply qc | apply qd | apply qe | apply qf | apply qg | apply qh | apply qi | apply qj | apply qk) <;> intro hp <;> simp only [hp, g1, hLl2, hk, d1, go_sem])
        simp only [fin_mk, finV, resL, resV1, resIn, endA, listIn, Option.some_or, Option.none_or, oneOrTup, go_sem]
        rw [← hr]
        rfl
end Go.Proofs.YtimiccneikhkgaaGreatDoor.L

