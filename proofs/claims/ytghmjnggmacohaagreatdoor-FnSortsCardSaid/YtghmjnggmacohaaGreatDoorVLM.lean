/- Contracts of functions, and the facts that they need. No condition. -/
import Derived.Test.YtghmjnggmacohaaGreatDoorVLS
import Derived.Test.YtghmjnggmacohaaGreatDoorVLShelf
import Derived.Test.YtghmjnggmacohaaGreatDoorVmShelf
import Derived.Test.YtghmjnggmacohaaGreatDoorVLFl
namespace Go.Proofs.YtghmjnggmacohaaGreatDoor.L
open Go Go.VM
set_option maxRecDepth 100000
set_option maxHeartbeats 4000000
set_option linter.unusedSimpArgs false
set_option linter.unusedVariables false
open Classical in
noncomputable def spSplit : VM.Spec := { modes := [.rd, .rd], run := fun | [.str s, .str t] => if 1 ≤ t.length ∧ s.length < 4294967281 then some (.lst 1 ((Lib.splitK t 0 (Lib.count s t) s).map eStr), []) else none | _ => none, need := ["internal/bytealg.MaxLen"] }
attribute [go_sem] spSplit
theorem spSplit_in {ins : List V} {r : V} {outs : List V} (h : spSplit.run ins = some (r, outs)) : ∃ (s : (List UInt8)) (t : (List UInt8)), ins = [.str s, .str t] ∧ (1 ≤ t.length ∧ s.length < 4294967281) ∧ .lst 1 ((Lib.splitK t 0 (Lib.count s t) s).map eStr) = r ∧ outs = [] := by
  unfold spSplit at h
  simp only at h
  split at h
  · rename_i s t
    split at h
    case isFalse => cases h
    rename_i hc
    simp only [Option.some.injEq, Prod.mk.injEq] at h
    obtain ⟨h1, h2⟩ := h
    exact ⟨s, t, rfl, hc, h1, h2.symm⟩
  · cases h
theorem ok_strings_Split : FnOk Tryz.prog 89 spSplit :=
  split_ok Tryz.func89 rfl (by kernel_rfl) (g := 0) (by kernel_rfl) (by simp [spSplit]) rfl (fun _ _ _ h => spSplit_in h) Tryz.strings_Split
def consHead (b : UInt8) : List (List UInt8) → List (List UInt8)
  | [] => [[b]]
  | h :: t => (b :: h) :: t
def splitOn (c : UInt8) : List UInt8 → List (List UInt8)
  | [] => [[]]
  | b :: s => if b = c then [] :: splitOn c s else consHead b (splitOn c s)
theorem splitK_skip {c b : UInt8} (hb : b ≠ c) (s : List UInt8) (k : Nat) : Lib.splitK [c] 0 k (b :: s) = consHead b (Lib.splitK [c] 0 k s) := by
  cases k with
  | zero => rfl
  | succ k =>
    have hp : [c].isPrefixOf (b :: s) = false := by simp [List.isPrefixOf]; exact fun h => hb h.symm
    rw [Lib.splitK, Lib.splitK]
    have hge := Lib.index_ge s [c]
    by_cases hi : Lib.index s [c] = -1
    · have h1 : Lib.index (b :: s) [c] = -1 := by simp [Lib.index, hp, hi]
      rw [h1, hi]; rfl
    · have h0 : (Lib.index s [c] == -1) = false := beq_eq_false_iff_ne.2 hi
      have h1 : Lib.index (b :: s) [c] = Lib.index s [c] + 1 := by simp [Lib.index, hp, h0]
      have h2 : (Lib.index s [c] + 1 == -1) = false := beq_eq_false_iff_ne.2 (by omega)
      rw [h1, h0, h2]
      obtain ⟨i, hi'⟩ : ∃ i : Nat, Lib.index s [c] = i := ⟨(Lib.index s [c]).toNat, by omega⟩
      rw [hi']
      have e1 : ((i : Int) + 1).toNat = i + 1 := by omega
      rw [e1]
      simp [consHead]
theorem split_eq (c : UInt8) (s : List UInt8) : Lib.splitK [c] 0 (Lib.count s [c]) s = splitOn c s := by
  rw [Lib.count_one]
  induction s with
  | nil => rfl
  | cons b s ih =>
    by_cases hb : b = c
    · subst hb
      rw [List.count_cons_self, splitOn, if_pos rfl, ← ih, Lib.splitK]
      have h1 : Lib.index (b :: s) [b] = 0 := by simp [Lib.index, List.isPrefixOf]
      rw [h1]; simp
    · rw [List.count_cons_of_ne hb, splitK_skip hb, ih, splitOn, if_neg hb]
def notB (c : UInt8) (b : UInt8) : Bool := b != c
theorem splitOn_first (c : UInt8) (s : List UInt8) : splitOn c s = s.takeWhile (notB c) :: (if c ∈ s then splitOn c (s.drop ((s.takeWhile (notB c)).length + 1)) else []) := by
  induction s with
  | nil => simp [splitOn]
  | cons b s ih =>
    rw [splitOn]
    by_cases hb : b = c
    · subst hb
      simp [List.takeWhile_cons, notB]
    · have h1 : notB c b = true := by simpa [notB] using hb
      rw [if_neg hb, ih, consHead]
      simp only [List.takeWhile_cons, h1, if_true, List.mem_cons, List.length_cons, List.drop_succ_cons]
      congr 1
      by_cases hc : c ∈ s
      · simp [hc]
      · simp [hc, Ne.symm hb]
theorem splitOn_len (c : UInt8) (s : List UInt8) : (splitOn c s).length ≤ s.length + 1 := by
  induction s with
  | nil => simp [splitOn]
  | cons b s ih =>
    rw [splitOn]
    split
    · simp; omega
    · cases h : splitOn c s with
      | nil => simp [consHead]
      | cons x t => rw [h] at ih; simp [consHead] at ih ⊢; omega
theorem splitOn_mem (c : UInt8) (s : List UInt8) : ∀ x ∈ splitOn c s, x.length ≤ s.length := by
  induction s with
  | nil => simp [splitOn]
  | cons b s ih =>
    rw [splitOn]
    split
    · intro x hx
      rcases List.mem_cons.1 hx with rfl | hx
      · simp
      · have := ih x hx; simp; omega
    · cases h : splitOn c s with
      | nil => intro x hx; simp [consHead] at hx; subst hx; simp
      | cons y t =>
        rw [h] at ih
        intro x hx
        simp only [consHead] at hx
        rcases List.mem_cons.1 hx with rfl | hx
        · have := ih y (by simp); simp; omega
        · have := ih x (by simp [hx]); simp; omega
def hit (nm l : List UInt8) : Bool := (lowS nm ++ [58]).isPrefixOf (lowS l)
def headIn (nm : List UInt8) : List (List UInt8) → List UInt8 × Bool
  | [] => ([], false)
  | l :: ls => if l = [] then ([], false) else if hit nm l = true then (trim (l.drop (nm.length + 1)), true) else headIn nm ls
def headOf (t nm : List UInt8) : List UInt8 × Bool := headIn nm (splitOn 10 t)
theorem low1_colon (b : UInt8) : (low1 b == 58) = (b == 58) := by
  unfold low1
  split
  · rename_i h
    have h1 : (b + 32).toNat = b.toNat + 32 := by
      rw [UInt8.toNat_add]
      have e : UInt8.toNat 32 = 32 := rfl
      rw [e]; omega
    have e1 : ¬ b = 58 := by rintro rfl; exact absurd h.1 (by decide)
    have e2 : ¬ b + 32 = 58 := by
      intro h2
      rw [h2] at h1
      have : (58 : UInt8).toNat = 58 := rfl
      omega
    rw [beq_eq_false_iff_ne.2 e1, beq_eq_false_iff_ne.2 e2]
  · rfl
theorem hit_short {nm l : List UInt8} (h : l.length ≤ nm.length) : hit nm l = false := by
  unfold hit
  apply isPrefixOf_short
  simp [lowS]; omega
theorem hit_long {nm l : List UInt8} (h : nm.length < l.length) : hit nm l = ((lowS (l.take nm.length) == lowS nm) && (l[nm.length] == 58)) := by
  have e : (lowS l).take (nm.length + 1) = lowS (l.take nm.length) ++ [low1 l[nm.length]] := by
    simp only [lowS, ← List.map_take]
    rw [take_succ' h, List.map_append]; rfl
  unfold hit
  rw [isPrefixOf_take]
  have hl : (lowS nm ++ [58]).length = nm.length + 1 := by simp [lowS]
  rw [hl, e, ← low1_colon]
  have h1 : (lowS (l.take nm.length)).length = (lowS nm).length := by simp [lowS]; omega
  rw [Bool.eq_iff_iff]
  simp only [beq_iff_eq, Bool.and_eq_true]
  constructor
  · intro h2
    have := List.append_inj h2 h1
    exact ⟨this.1, by simpa using this.2⟩
  · rintro ⟨h2, h3⟩
    rw [h2, h3]
open Classical in
noncomputable def spHeadOf : VM.Spec := { modes := [.rd, .rd], run := fun | [.str t, .str nm] => if t.length ≤ 4194304 ∧ nm.length ≤ 4194304 then some (.tup [.str ((headOf t nm).1), .bool ((headOf t nm).2)], []) else none | _ => none, need := ["internal/bytealg.MaxLen"] }
attribute [go_sem] spHeadOf
theorem spHeadOf_in {ins : List V} {r : V} {outs : List V} (h : spHeadOf.run ins = some (r, outs)) : ∃ (t : (List UInt8)) (nm : (List UInt8)), ins = [.str t, .str nm] ∧ (t.length ≤ 4194304 ∧ nm.length ≤ 4194304) ∧ .tup [.str ((headOf t nm).1), .bool ((headOf t nm).2)] = r ∧ outs = [] := by
  unfold spHeadOf at h
  simp only at h
  split at h
  · rename_i t nm
    split at h
    case isFalse => cases h
    rename_i hc
    simp only [Option.some.injEq, Prod.mk.injEq] at h
    obtain ⟨h1, h2⟩ := h
    exact ⟨t, nm, rfl, hc, h1, h2.symm⟩
  · cases h
def T_impl_HeadOf : Hints := ⟨lk [], lk [(2, [1, 11, 12, 13])], lk [(0, [0, 1]), (1, [1, 11, 12, 13]), (2, [1, 11, 12, 13, 14]), (3, [1, 7, 11, 12, 13]), (4, [1, 7, 11, 12, 13, 18]), (5, [1, 7, 8, 9, 11, 12, 13]), (6, [1, 7, 8, 11, 12, 13, 28]), (7, [4, 5]), (8, [1, 11, 12, 13]), (9, [4, 5])], lk [], lf []⟩
noncomputable def Phi_impl_HeadOf : Tab := lk [(91, spLow), (89, spSplit), (90, spCutPrefix), (92, spTrim)]
attribute [go_sem] T_impl_HeadOf Phi_impl_HeadOf
theorem phi_impl_HeadOf : ∀ f sp, Phi_impl_HeadOf f = some sp → FnOk Tryz.prog f sp ∧ ∀ n ∈ sp.need, n ∈ (["internal/bytealg.MaxLen"] : List String) := phi_cons ok_impl_lower (n0 rfl) (phi_cons ok_strings_Split (fun n (h : n ∈ (["internal/bytealg.MaxLen"] : List String)) => by simp only [List.mem_cons, List.not_mem_nil, or_false] at h; rcases h with rfl <;> simp) (phi_cons ok_strings_CutPrefix (n0 rfl) (phi_cons ok_strings_Trim (n0 rfl) (phi_nil))))
theorem ok_impl_HeadOf : FnOk Tryz.prog 63 spHeadOf := by
  refine fn_ok (Φ := Phi_impl_HeadOf) (T := T_impl_HeadOf) phi_impl_HeadOf mixed Tryz.func63 rfl rfl rfl (by decide) ?_
  intro ins r outs hr hl
  clear hl
  have hs := spHeadOf_in hr
  clear hr
  obtain ⟨t, nm, rfl, hc, hr, rfl⟩ := hs
  simp only [spHeadOf, Tryz.f63, Go.VM.initS]
  obtain ⟨ht, hn⟩ := hc
  have b1 : t.length < 4294967281 := by omega
  have b2 : (1 : Nat) ≤ [(10 : UInt8)].length := by decide
  have hS := split_eq 10 t
  have e32 : (([32] : List UInt8) = [32]) = True := eq_self _
  simp only [b1, hS, go_sem]
  repeat' ((first | apply qa | apply qb | apply qc | apply qd | apply qe | apply qf | apply qg | apply qh | apply qi | apply qj | apply qk) <;> intro hp <;> simp only [hp, b1, hS, go_sem])
  have hL1 := splitOn_len 10 t
  have hL2 := splitOn_mem 10 t
  have hO : headOf t nm = headIn nm (splitOn 10 t) := rfl
  rw [hO] at hr
  clear hO hS
  generalize splitOn 10 t = L at *
  refine loop_go (fun i : Nat => [(13, .int .i64 (i : Int))]) (fun _ => []) (fun i => L.length - i) (fun i => i ≤ L.length ∧ headIn nm (L.drop i) = headIn nm L) 0 ⟨Nat.zero_le _, rfl⟩ rfl rfl ?_
  intro i ⟨hi, hh⟩ ih
  rcases Nat.lt_or_ge i L.length with h | h
  · have g1 : (i : Int) < L.length := by omega
    have g2 : (0 : Int) ≤ i := by omega
    have g3 : L[i]? = some L[i] := List.getElem?_eq_getElem h
    have g5 := wrap_succ h (by omega)
    have hd := List.drop_eq_getElem_cons h
    rw [hd, headIn] at hh
    have hx := hL2 _ (List.getElem_mem h)
    have c1 : L[i].length ≤ 1099511627776 := by omega
    have c2 : (lowS L[i]).length ≤ 1099511627776 := by rw [lowS_len]; exact c1
    have c3 : nm.length ≤ 1099511627776 := by omega
    have c4 : (lowS nm).length + 1 ≤ 1099511627776 := by rw [lowS_len]; omega
    have c5 : (lowS nm).length + 1 ≤ 9223372036854775807 := by rw [lowS_len]; omega
    cases he : (L[i] == []) with
    | true =>
      have he' : L[i] = [] := by simpa using he
      rw [if_pos he'] at hh
      simp only [g1, g2, g3, g5, he, go_sem]
      repeat' ((first | apply qa | apply qb | apply qc | apply qd | apply qe | apply qf | apply qg | apply qh | apply qi | apply qj | apply qk) <;> intro hp <;> simp only [hp, g1, g2, g3, g5, he, go_sem])
      simp only [fin_mk, finV, resL, resV1, resIn, endA, listIn, Option.some_or, Option.none_or, oneOrTup, go_sem]
      rw [← hr]
      rw [← hh]
    | false =>
      have he' : ¬ L[i] = [] := by simpa using he
      rw [if_neg he'] at hh
      cases hp : hit nm L[i] with
      | false =>
        rw [hp, if_neg (by simp)] at hh
        have hp' : (lowS nm ++ [58]).isPrefixOf (lowS L[i]) = false := hp
        have ih' := ih (i + 1) ⟨h, hh⟩ (by omega)
        simp only [g1, g2, g3, g5, he, hp', c1, c2, c3, c4, c5, List.length_append, go_sem]
        repeat' ((first | apply qa | apply qb | apply qc | apply qd | apply qe | apply qf | apply qg | apply qh | apply qi | apply qj | apply qk) <;> intro hp <;> simp only [hp, g1, g2, g3, g5, he, hp', c1, c2, c3, c4, c5, List.length_append, go_sem])
        exact ih'
      | true =>
        rw [hp, if_pos rfl] at hh
        have hp' : (lowS nm ++ [58]).isPrefixOf (lowS L[i]) = true := hp
        have hlen := isPrefixOf_len hp'
        simp only [List.length_append, List.length_cons, List.length_nil, lowS_len] at hlen
        have d1 : cutPrefix (lowS L[i]) (lowS nm ++ [58]) = (lowS L[i]).drop (nm.length + 1) := by simp [cutPrefix, hp', lowS_len]
        have d2 : ((lowS L[i]).drop (nm.length + 1)).length = L[i].length - (nm.length + 1) := by rw [List.length_drop, lowS_len]
        have w1 : IntKind.i64.wrap ((L[i].length : Int) - ((L[i].length - (nm.length + 1) : Nat) : Int)) = ((nm.length + 1 : Nat) : Int) := (wrap64 (by omega) (by omega)).trans (by omega)
        have g6 : (0 : Int) ≤ ((nm.length + 1 : Nat) : Int) := by omega
        have g7 : nm.length + 1 ≤ L[i].length := by omega
        have g8 : (L[i].drop (nm.length + 1)).length ≤ 1099511627776 := by rw [List.length_drop]; omega
        simp only [g1, g2, g3, g5, he, hp', c1, c2, c3, c4, c5, d1, d2, w1, g6, g7, g8, e32, List.length_append, List.take_length, Nat.le_refl, go_sem]
        repeat' ((first | apply qa | apply qb | apply qc | apply qd | apply qe | apply qf | apply qg | apply qh | apply qi | apply qj | apply qk) <;> intro hp <;> simp only [hp, g1, g2, g3, g5, he, hp', c1, c2, c3, c4, c5, d1, d2, w1, g6, g7, g8, e32, List.length_append, List.take_length, Nat.le_refl, go_sem])
        simp only [fin_mk, finV, resL, resV1, resIn, endA, listIn, Option.some_or, Option.none_or, oneOrTup, go_sem]
        rw [← hr]
        rw [← hh]
  · have g1 : ¬ (i : Int) < L.length := by omega
    rw [List.drop_of_length_le h, headIn] at hh
    simp only [g1, go_sem]
    repeat' ((first | apply qa | apply qb | apply qc | apply qd | apply qe | apply qf | apply qg | apply qh | apply qi | apply qj | apply qk) <;> intro hp <;> simp only [hp, g1, go_sem])
    simp only [fin_mk, finV, resL, resV1, resIn, endA, listIn, Option.some_or, Option.none_or, oneOrTup, go_sem]
    rw [← hr]
    rw [← hh]
theorem takeWhile_at {α : Type} {p : α → Bool} : ∀ {l : List α} {n : Nat}, (∀ x ∈ l.take n, p x = true) → (h : n < l.length) → p l[n] = false → l.takeWhile p = l.take n
  | [], n, _, h, _ => by simp at h
  | b :: l, 0, _, _, hp => by simp only [List.getElem_cons_zero] at hp; simp [List.takeWhile_cons, hp]
  | b :: l, n + 1, ha, h, hp => by
    have h1 : p b = true := ha b (by simp)
    rw [List.takeWhile_cons, if_pos h1, List.take_succ_cons, takeWhile_at (n := n) (fun x hx => ha x (by simp [hx])) (by simpa using h) (by simpa using hp)]
theorem takeWhile_mem {α : Type} {p : α → Bool} {l : List α} {x : α} (h : x ∈ l.takeWhile p) : p x = true := by
  induction l with
  | nil => simp at h
  | cons b l ih =>
    rw [List.takeWhile_cons] at h
    split at h
    · rename_i hb
      rcases List.mem_cons.1 h with rfl | h
      · exact hb
      · exact ih h
    · simp at h
theorem takeWhile_all {α : Type} {p : α → Bool} {l : List α} (h : ∀ x ∈ l, p x = true) : l.takeWhile p = l := by
  induction l with
  | nil => rfl
  | cons b l ih => rw [List.takeWhile_cons, if_pos (h b (by simp)), ih fun x hx => h x (by simp [hx])]
def lineAt (t : List UInt8) (a : Nat) : List UInt8 := (t.drop a).takeWhile (notB 10)
def nextAt (t : List UInt8) (a : Nat) : Int := if t.length ≤ a then -1 else if 10 ∈ t.drop a then ((a + (lineAt t a).length + 1 : Nat) : Int) else t.length
theorem notB_bool (b : UInt8) : notB 10 b = !((b.toNat : Int) == 10) := by
  unfold notB
  have : (b == 10) = ((b.toNat : Int) == 10) := by
    rw [Bool.eq_iff_iff, beq_iff_eq, beq_iff_eq]
    constructor
    · rintro rfl; rfl
    · intro h
      have : b.toNat = (10 : UInt8).toNat := by show b.toNat = 10; omega
      exact UInt8.toNat_inj.1 this
  rw [← this]; rfl
theorem take_drop_succ {t : List UInt8} {a i : Nat} (ha : a ≤ i) (h : i < t.length) : (t.take (i + 1)).drop a = (t.take i).drop a ++ [t[i]] := by
  rw [take_succ' h, List.drop_append_of_le_length (by rw [List.length_take]; omega)]
open Classical in
noncomputable def spLine : VM.Spec := { modes := [.rd, .rd], run := fun | [.str t, .int .i64 a] => if t.length ≤ 4194304 ∧ 0 ≤ a then some (.tup [.str (lineAt t a.toNat), .int .i64 (nextAt t a.toNat)], []) else none | _ => none, need := [] }
attribute [go_sem] spLine
theorem spLine_in {ins : List V} {r : V} {outs : List V} (h : spLine.run ins = some (r, outs)) : ∃ (t : (List UInt8)) (a : Int), ins = [.str t, .int .i64 a] ∧ (t.length ≤ 4194304 ∧ 0 ≤ a) ∧ .tup [.str (lineAt t a.toNat), .int .i64 (nextAt t a.toNat)] = r ∧ outs = [] := by
  unfold spLine at h
  simp only at h
  split at h
  · rename_i t a
    split at h
    case isFalse => cases h
    rename_i hc
    simp only [Option.some.injEq, Prod.mk.injEq] at h
    obtain ⟨h1, h2⟩ := h
    exact ⟨t, a, rfl, hc, h1, h2.symm⟩
  · cases h
def T_spec_l07Line : Hints := ⟨lk [], lk [(4, [0, 1, 6])], lk [(0, [0, 1]), (1, [0, 1, 10]), (2, [4, 5]), (3, [0, 1, 6]), (4, [0, 1, 6, 15]), (6, [0, 1, 6, 21]), (7, [4, 5]), (5, [0, 1, 6]), (8, [4, 5])], lk [], lf []⟩
noncomputable def Phi_spec_l07Line : Tab := lk []
attribute [go_sem] T_spec_l07Line Phi_spec_l07Line
theorem phi_spec_l07Line : ∀ f sp, Phi_spec_l07Line f = some sp → FnOk Tryz.prog f sp ∧ ∀ n ∈ sp.need, n ∈ ([] : List String) := phi_nil
theorem ok_spec_l07Line : FnOk Tryz.prog 79 spLine := by
  refine fn_ok (Φ := Phi_spec_l07Line) (T := T_spec_l07Line) phi_spec_l07Line mixed Tryz.func79 rfl rfl rfl (by decide) ?_
  intro ins r outs hr hl
  clear hl
  have hs := spLine_in hr
  clear hr
  obtain ⟨t, a, rfl, hc, hr, rfl⟩ := hs
  simp only [spLine, Tryz.f79, Go.VM.initS]
  obtain ⟨ht, h0⟩ := hc
  obtain ⟨a, rfl⟩ : ∃ n : Nat, a = n := ⟨a.toNat, by omega⟩
  simp only [Int.toNat_natCast] at hr
  rcases Nat.lt_or_ge a t.length with hlt | hge
  · have q1 : ¬ (t.length : Int) ≤ a := by omega
    have hN : ¬ t.length ≤ a := by omega
    simp only [q1, go_sem]
    repeat' ((first | apply qa | apply qb | apply qc | apply qd | apply qe | apply qf | apply qg | apply qh | apply qi | apply qj | apply qk) <;> intro hp <;> simp only [hp, q1, go_sem])
    refine loop_go (fun i : Nat => [(6, .int .i64 (i : Int))]) (fun _ => []) (fun i => t.length - i) (fun i => a ≤ i ∧ i ≤ t.length ∧ ∀ x ∈ (t.take i).drop a, notB 10 x = true) a ⟨Nat.le_refl _, by omega, by rw [List.drop_of_length_le (by rw [List.length_take]; omega)]; simp⟩ rfl rfl ?_
    intro i ⟨hi1, hi, ha⟩ ih
    have q2 : (0 : Int) ≤ a := by omega
    have q3 : a ≤ i := hi1
    rcases Nat.lt_or_ge i t.length with h | h
    · have g1 : (i : Int) < t.length := by omega
      have g2 : (0 : Int) ≤ i := by omega
      have g3 : t[i]? = some t[i] := List.getElem?_eq_getElem h
      have g4 : i ≤ t.length := by omega
      have g5 := wrap_succ h (by omega)
      have hi2 : i - a < (t.drop a).length := by rw [List.length_drop]; omega
      have hget : (t.drop a)[i - a] = t[i] := by rw [List.getElem_drop]; congr 1; omega
      have htk : (t.drop a).take (i - a) = (t.take i).drop a := by rw [List.drop_take]
      cases hb : ((t[i].toNat : Int) == 10) with
      | true =>
        have e1 : lineAt t a = (t.take i).drop a := by
          unfold lineAt
          rw [takeWhile_at (n := i - a) (by rw [htk]; exact ha) hi2 (by rw [hget, notB_bool, hb]; rfl), htk]
        have e2 : nextAt t a = ((i + 1 : Nat) : Int) := by
          unfold nextAt
          have hmem : (10 : UInt8) ∈ t.drop a := by
            have : t[i] = 10 := by
              have h1 : t[i].toNat = (10 : UInt8).toNat := by simp only [beq_iff_eq] at hb; show t[i].toNat = 10; omega
              exact UInt8.toNat_inj.1 h1
            rw [← this, ← hget]; exact List.getElem_mem _
          rw [if_neg hN, if_pos hmem, e1, List.length_drop, List.length_take]
          congr 1; omega
        simp only [g1, g2, g3, g4, g5, q2, q3, hb, go_sem]
        repeat' ((first | apply qa | apply qb | apply qc | apply qd | apply qe | apply qf | apply qg | apply qh | apply qi | apply qj | apply qk) <;> intro hp <;> simp only [hp, g1, g2, g3, g4, g5, q2, q3, hb, go_sem])
        simp only [fin_mk, finV, resL, resV1, resIn, endA, listIn, Option.some_or, Option.none_or, oneOrTup, go_sem]
        rw [← hr]
        rw [e1, e2]
      | false =>
        have ih' := ih (i + 1) ⟨by omega, h, by
          rw [take_drop_succ hi1 h]
          intro x hx
          rcases List.mem_append.1 hx with hx | hx
          · exact ha x hx
          · simp only [List.mem_singleton] at hx; rw [hx, notB_bool, hb]; rfl⟩ (by omega)
        simp only [g1, g2, g3, g5, hb, go_sem]
        repeat' ((first | apply qa | apply qb | apply qc | apply qd | apply qe | apply qf | apply qg | apply qh | apply qi | apply qj | apply qk) <;> intro hp <;> simp only [hp, g1, g2, g3, g5, hb, go_sem])
        exact ih'
    · have g1 : ¬ (i : Int) < t.length := by omega
      have g4 : a ≤ t.length := by omega
      have hall : ∀ x ∈ t.drop a, notB 10 x = true := by rw [List.take_of_length_le h] at ha; exact ha
      have e1 : lineAt t a = t.drop a := takeWhile_all hall
      have e2 : nextAt t a = t.length := by
        unfold nextAt
        rw [if_neg hN, if_neg]
        intro hm
        have := hall _ hm
        simp [notB] at this
      simp only [g1, q2, g4, List.take_length, Nat.le_refl, go_sem]
      repeat' ((first | apply qa | apply qb | apply qc | apply qd | apply qe | apply qf | apply qg | apply qh | apply qi | apply qj | apply qk) <;> intro hp <;> simp only [hp, g1, q2, g4, List.take_length, Nat.le_refl, go_sem])
      simp only [fin_mk, finV, resL, resV1, resIn, endA, listIn, Option.some_or, Option.none_or, oneOrTup, go_sem]
      rw [← hr]
      rw [e1, e2]
  · have q1 : (t.length : Int) ≤ a := by omega
    simp only [q1, go_sem]
    repeat' ((first | apply qa | apply qb | apply qc | apply qd | apply qe | apply qf | apply qg | apply qh | apply qi | apply qj | apply qk) <;> intro hp <;> simp only [hp, q1, go_sem])
    simp only [fin_mk, finV, resL, resV1, resIn, endA, listIn, Option.some_or, Option.none_or, oneOrTup, go_sem]
    rw [← hr]
    rw [lineAt, nextAt, if_pos hge, List.drop_of_length_le hge]; rfl
def T_spec_HeadOf : Hints := ⟨lk [], lk [(2, [0, 1, 6])], lk [(0, [0, 1]), (1, [0, 1, 6]), (2, [0, 1, 7, 8]), (3, [0, 1, 7, 8, 21]), (4, [4, 5]), (5, [0, 1, 7, 8, 9]), (6, [0, 1, 7, 8, 9, 42]), (7, [4, 5]), (8, [0, 1, 6])], lk [], lf []⟩
noncomputable def Phi_spec_HeadOf : Tab := lk [(79, spLine), (80, spLow), (81, spTrim1)]
attribute [go_sem] T_spec_HeadOf Phi_spec_HeadOf
theorem phi_spec_HeadOf : ∀ f sp, Phi_spec_HeadOf f = some sp → FnOk Tryz.prog f sp ∧ ∀ n ∈ sp.need, n ∈ (["internal/bytealg.MaxLen"] : List String) := phi_cons ok_spec_l07Line (n0 rfl) (phi_cons ok_spec_l06Low (n0 rfl) (phi_cons ok_spec_l07Trim (n0 rfl) (phi_nil)))
theorem ok_spec_HeadOf : FnOk Tryz.prog 55 spHeadOf := by
  refine fn_ok (Φ := Phi_spec_HeadOf) (T := T_spec_HeadOf) phi_spec_HeadOf mixed Tryz.func55 rfl rfl rfl (by decide) ?_
  intro ins r outs hr hl
  clear hl
  have hs := spHeadOf_in hr
  clear hr
  obtain ⟨t, nm, rfl, hc, hr, rfl⟩ := hs
  simp only [spHeadOf, Tryz.f55, Go.VM.initS]
  obtain ⟨ht, hn⟩ := hc
  simp only [go_sem]
  repeat' ((first | apply qa | apply qb | apply qc | apply qd | apply qe | apply qf | apply qg | apply qh | apply qi | apply qj | apply qk) <;> intro hp <;> simp only [hp, go_sem])
  refine loop_go (fun a : Nat => [(6, .int .i64 (a : Int))]) (fun _ => []) (fun a => t.length - a) (fun a => a ≤ t.length ∧ headIn nm (splitOn 10 (t.drop a)) = headOf t nm) 0 ⟨Nat.zero_le _, rfl⟩ rfl rfl ?_
  intro a ⟨ha, hh⟩ ih
  have q2 : (0 : Int) ≤ a := by omega
  rcases Nat.lt_or_ge a t.length with h | h
  · have hN : ¬ t.length ≤ a := by omega
    have hn0 : 0 ≤ nextAt t a := by unfold nextAt; rw [if_neg hN]; split <;> omega
    have q3 : ¬ nextAt t a < 0 := by omega
    have hF := splitOn_first 10 (t.drop a)
    have hle : lineAt t a = (t.drop a).takeWhile (notB 10) := rfl
    rw [← hle] at hF
    rw [hF, headIn] at hh
    have hll : (lineAt t a).length ≤ t.length := by
      have := (List.takeWhile_sublist (l := t.drop a) (notB 10)).length_le
      rw [List.length_drop] at this
      rw [hle]; omega
    generalize hl : lineAt t a = l at *
    cases he : (l == []) with
    | true =>
      have he' : l = [] := by simpa using he
      rw [if_pos he'] at hh
      simp only [ht, q2, q3, hl, he, Int.toNat_natCast, go_sem]
      repeat' ((first | apply qa | apply qb | apply qc | apply qd | apply qe | apply qf | apply qg | apply qh | apply qi | apply qj | apply qk) <;> intro hp <;> simp only [hp, ht, q2, q3, hl, he, Int.toNat_natCast, go_sem])
      simp only [fin_mk, finV, resL, resV1, resIn, endA, listIn, Option.some_or, Option.none_or, oneOrTup, go_sem]
      rw [← hr]
      rw [← hh]
    | false =>
      have he' : ¬ l = [] := by simpa using he
      rw [if_neg he'] at hh
      have c1 : nm.length ≤ 1099511627776 := by omega
      cases hp : hit nm l with
      | true =>
        rw [hp, if_pos rfl] at hh
        have hlt : nm.length < l.length := by
          rcases Nat.lt_or_ge nm.length l.length with h1 | h1
          · exact h1
          · rw [hit_short h1] at hp; cases hp
        rw [hit_long hlt, Bool.and_eq_true] at hp
        obtain ⟨p1, p2⟩ := hp
        have p2' : ((l[nm.length].toNat : Int) == 58) = true := by
          have : l[nm.length] = 58 := by simpa using p2
          rw [this]; rfl
        have g1 : (nm.length : Int) < l.length := by omega
        have g2 : (0 : Int) ≤ nm.length := by omega
        have g3 : l[nm.length]? = some l[nm.length] := List.getElem?_eq_getElem hlt
        have g4 : nm.length ≤ l.length := by omega
        have g5 : IntKind.i64.wrap ((nm.length : Int) + 1) = ((nm.length + 1 : Nat) : Int) := wrap_succ hlt (by omega)
        have g6 : (0 : Int) ≤ ((nm.length + 1 : Nat) : Int) := by omega
        have g7 : nm.length + 1 ≤ l.length := by omega
        have g8 : (l.take nm.length).length ≤ 1099511627776 := by rw [List.length_take]; omega
        have g9 : (l.drop (nm.length + 1)).length ≤ 1099511627776 := by rw [List.length_drop]; omega
        simp only [ht, q2, q3, hl, he, c1, g1, g2, g3, g4, g5, g6, g7, g8, g9, p1, p2', Int.toNat_natCast, List.drop_zero, List.take_length, Nat.zero_le, Nat.le_refl, go_sem]
        repeat' ((first | apply qa | apply qb | apply qc | apply qd | apply qe | apply qf | apply qg | apply qh | apply qi | apply qj | apply qk) <;> intro hp <;> simp only [hp, ht, q2, q3, hl, he, c1, g1, g2, g3, g4, g5, g6, g7, g8, g9, p1, p2', Int.toNat_natCast, List.drop_zero, List.take_length, Nat.zero_le, Nat.le_refl, go_sem])
        simp only [fin_mk, finV, resL, resV1, resIn, endA, listIn, Option.some_or, Option.none_or, oneOrTup, go_sem]
        rw [← hr]
        rw [← hh]
      | false =>
        rw [hp, if_neg (by simp)] at hh
        obtain ⟨b, hb, hb1, hb2⟩ : ∃ b : Nat, nextAt t a = b ∧ b ≤ t.length ∧ a < b ∧ headIn nm (splitOn 10 (t.drop b)) = headOf t nm := by
          unfold nextAt
          rw [if_neg hN, hl]
          by_cases hm : (10 : UInt8) ∈ t.drop a
          · rw [if_pos hm] at hh ⊢
            have hlt : l.length < (t.drop a).length := by
              rcases Nat.lt_or_ge l.length (t.drop a).length with h1 | h1
              · exact h1
              · exfalso
                have e1 : l = t.drop a := (List.takeWhile_sublist (l := t.drop a) (notB 10)).eq_of_length_le (by rw [← hle]; exact h1) |> fun e => hle.trans e
                have e2 : (10 : UInt8) ∈ l := by rw [e1]; exact hm
                rw [hle] at e2
                have := takeWhile_mem e2
                simp [notB] at this
            rw [List.length_drop] at hlt
            refine ⟨_, rfl, by omega, by omega, ?_⟩
            rw [← hh, List.drop_drop]
            congr 3
          · rw [if_neg hm] at hh ⊢
            refine ⟨_, rfl, Nat.le_refl _, h, ?_⟩
            rw [← hh, List.drop_length]; rfl
        have ih' := ih b ⟨hb1, hb2.2⟩ (by omega)
        rw [← hb] at ih'
        rcases Nat.lt_or_ge nm.length l.length with hlt | hge
        · rw [hit_long hlt] at hp
          have g1 : (nm.length : Int) < l.length := by omega
          have g2 : (0 : Int) ≤ nm.length := by omega
          have g3 : l[nm.length]? = some l[nm.length] := List.getElem?_eq_getElem hlt
          have g4 : nm.length ≤ l.length := by omega
          have g8 : (l.take nm.length).length ≤ 1099511627776 := by rw [List.length_take]; omega
          cases p1 : (lowS (l.take nm.length) == lowS nm) with
          | false =>
            simp only [ht, q2, q3, hl, he, c1, g1, g2, g3, g4, g8, p1, Int.toNat_natCast, List.drop_zero, Nat.zero_le, go_sem]
            repeat' ((first | apply qa | apply qb | apply qc | apply qd | apply qe | apply qf | apply qg | apply qh | apply qi | apply qj | apply qk) <;> intro hp <;> simp only [hp, ht, q2, q3, hl, he, c1, g1, g2, g3, g4, g8, p1, Int.toNat_natCast, List.drop_zero, Nat.zero_le, go_sem])
            exact ih'
          | true =>
            rw [p1, Bool.true_and] at hp
            have p2' : ((l[nm.length].toNat : Int) == 58) = false := by
              rw [beq_eq_false_iff_ne] at hp ⊢
              intro h2
              apply hp
              have h3 : l[nm.length].toNat = (58 : UInt8).toNat := by show l[nm.length].toNat = 58; omega
              exact UInt8.toNat_inj.1 h3
            simp only [ht, q2, q3, hl, he, c1, g1, g2, g3, g4, g8, p1, p2', Int.toNat_natCast, List.drop_zero, Nat.zero_le, go_sem]
            repeat' ((first | apply qa | apply qb | apply qc | apply qd | apply qe | apply qf | apply qg | apply qh | apply qi | apply qj | apply qk) <;> intro hp <;> simp only [hp, ht, q2, q3, hl, he, c1, g1, g2, g3, g4, g8, p1, p2', Int.toNat_natCast, List.drop_zero, Nat.zero_le, go_sem])
            exact ih'
        · have g1 : ¬ (nm.length : Int) < l.length := by omega
          simp only [ht, q2, q3, hl, he, g1, Int.toNat_natCast, go_sem]
          repeat' ((first | apply qa | apply qb | apply qc | apply qd | apply qe | apply qf | apply qg | apply qh | apply qi | apply qj | apply qk) <;> intro hp <;> simp only [hp, ht, q2, q3, hl, he, g1, Int.toNat_natCast, go_sem])
          exact ih'
  · have ea : a = t.length := by omega
    have e1 : nextAt t a = -1 := by rw [nextAt, if_pos h]
    rw [ea, List.drop_length] at hh
    have e2 : headOf t nm = ([], false) := by rw [← hh]; rfl
    simp only [ht, q2, e1, Int.toNat_natCast, go_sem]
    repeat' ((first | apply qa | apply qb | apply qc | apply qd | apply qe | apply qf | apply qg | apply qh | apply qi | apply qj | apply qk) <;> intro hp <;> simp only [hp, ht, q2, e1, Int.toNat_natCast, go_sem])
    simp only [fin_mk, finV, resL, resV1, resIn, endA, listIn, Option.some_or, Option.none_or, oneOrTup, go_sem]
    rw [← hr]
    rw [e2]
end Go.Proofs.YtghmjnggmacohaaGreatDoor.L

namespace Go.Proofs.YtghmjnggmacohaaGreatDoor.L
open Go Go.VM
set_option maxRecDepth 100000
set_option maxHeartbeats 4000000
set_option linter.unusedSimpArgs false
set_option linter.unusedVariables false
open Classical in
noncomputable def spHasRead : VM.Spec := { modes := [.rd, .rd], run := fun | [.int .i64 n, .rptr (.lst 2 l')] => (decL Range.dec l').bind fun l => if l.length ≤ 8388608 then some (.bool (hasR l n), []) else none | _ => none, need := [] }
attribute [go_sem] spHasRead
def setR (l : List Range) : List Range := scan ((nums 9999).filter fun n => hasR l n)
/-! ### numbers in texts -/
def digB (b : UInt8) : Bool := within (b.toNat : Int) 48 57
def stepM (n : Int) (b : UInt8) : Int := (10 * n + ((b.toNat : Int) - 48)).tmod 1000000000
def stepV (n : Int) (b : UInt8) : Int := 10 * n + ((b.toNat : Int) - 48)
def numM (s : List UInt8) : Int := s.foldl stepM 0
def numV (s : List UInt8) : Int := s.foldl stepV 0
def numOk (s : List UInt8) : Bool := within s.length 1 4 && s.all digB && decide (1 ≤ numV s)
def uidN (s : List UInt8) (last : Int) : Int := if s = [42] then last else if s.all digB = true then numM s else 0
def uidB (s : List UInt8) : Bool := if s = [42] then true else s.all digB && (within s.length 1 4 && decide (0 < numM s))
def numN (s : List UInt8) (last : Int) : Int := if s = [42] then last else if (within s.length 1 4 && s.all digB) = true then numV s else 0
def numB (s : List UInt8) : Bool := if s = [42] then true else within s.length 1 4 && s.all digB && decide (1 ≤ numV s)
open Classical in
noncomputable def spReadUid : VM.Spec := { modes := [.rd, .rd], run := fun | [.str s, .int .i64 last] => if s.length ≤ 4194304 then some (.tup [.int .i64 (uidN s last), .bool (uidB s)], []) else none | _ => none, need := [] }
attribute [go_sem] spReadUid
open Classical in
noncomputable def spNum : VM.Spec := { modes := [.rd, .rd], run := fun | [.str s, .int .i64 last] => if s.length ≤ 4194304 then some (.tup [.int .i64 (numN s last), .bool (numB s)], []) else none | _ => none, need := [] }
attribute [go_sem] spNum
end Go.Proofs.YtghmjnggmacohaaGreatDoor.L

namespace Go.Proofs.YtghmjnggmacohaaGreatDoor.L
open Go Go.VM
set_option maxRecDepth 100000
set_option maxHeartbeats 4000000
set_option linter.unusedSimpArgs false
set_option linter.unusedVariables false
open Classical in
noncomputable def spIndex : VM.Spec := { modes := [.rd, .rd], run := fun | [.str s, .str t] => if s.length < 4294967281 then some (.int .i64 (Lib.index s t), []) else none | _ => none, need := ["internal/bytealg.MaxLen"] }
attribute [go_sem] spIndex
def cutB (s t : List UInt8) : Bool := decide (0 ≤ Lib.index s t)
def cut1 (s t : List UInt8) : List UInt8 := if cutB s t = true then s.take (Lib.index s t).toNat else s
def cut2 (s t : List UInt8) : List UInt8 := if cutB s t = true then s.drop ((Lib.index s t).toNat + t.length) else []
open Classical in
noncomputable def spCut : VM.Spec := { modes := [.rd, .rd], run := fun | [.str s, .str t] => if s.length ≤ 4194304 ∧ t.length ≤ 4194304 then some (.tup [.str (cut1 s t), .str (cut2 s t), .bool (cutB s t)], []) else none | _ => none, need := ["internal/bytealg.MaxLen"] }
attribute [go_sem] spCut
def first (p : List UInt8) : List UInt8 := p.takeWhile (notB 58)
def second (p : List UInt8) : List UInt8 := p.drop ((first p).length + 1)
def partB (p : List UInt8) : Bool := if 58 ∈ p then numB (first p) && numB (second p) else numB p
def partLo (p : List UInt8) (last : Int) : Int := if 58 ∈ p then min (numN (first p) last) (numN (second p) last) else numN p last
def partHi (p : List UInt8) (last : Int) : Int := if 58 ∈ p then max (numN (first p) last) (numN (second p) last) else numN p last
open Classical in
noncomputable def spPart : VM.Spec := { modes := [.rd, .rd], run := fun | [.str t, .int .i64 last] => if t.length ≤ 4194304 then some (.tup [.int .i64 (partLo t last), .int .i64 (partHi t last), .bool (partB t)], []) else none | _ => none, need := [] }
attribute [go_sem] spPart
def rangesOf (last : Int) : List (List UInt8) → Option (List Range)
  | [] => some []
  | p :: ps => if partB p = true then (rangesOf last ps).map fun l => ⟨partLo p last, partHi p last⟩ :: l else none
def readOk (t : List UInt8) (last : Int) : Bool := within last 1 9999 && (match rangesOf last (splitOn 44 t) with | some l => decide ((setR l).length ≤ 40) | none => false)
def readSet (t : List UInt8) (last : Int) : List Range := if readOk t last = true then (match rangesOf last (splitOn 44 t) with | some l => setR l | none => []) else []
open Classical in
noncomputable def spReadSet : VM.Spec := { modes := [.rd, .rd], run := fun | [.str t, .int .i64 last] => if t.length ≤ 4194304 then some (.tup [.lst 2 ((readSet t last).map Range.enc), .bool (readOk t last)], []) else none | _ => none, need := ["internal/bytealg.MaxLen"] }
attribute [go_sem] spReadSet
end Go.Proofs.YtghmjnggmacohaaGreatDoor.L

namespace Go.Proofs.YtghmjnggmacohaaGreatDoor.L
open Go Go.VM
set_option maxRecDepth 100000
set_option maxHeartbeats 4000000
set_option linter.unusedSimpArgs false
set_option linter.unusedVariables false
end Go.Proofs.YtghmjnggmacohaaGreatDoor.L

namespace Go.Proofs.YtghmjnggmacohaaGreatDoor.L
open Go Go.VM
set_option maxRecDepth 100000
set_option maxHeartbeats 4000000
set_option linter.unusedSimpArgs false
set_option linter.unusedVariables false
theorem headIn_len (nm : List UInt8) (n : Nat) : ∀ ls : List (List UInt8), (∀ x ∈ ls, x.length ≤ n) → (headIn nm ls).1.length ≤ n
  | [], _ => by simp [headIn]
  | l :: ls, h => by
    rw [headIn]
    split
    · simp
    · split
      · have h1 := trim_len (l.drop (nm.length + 1))
        have h2 := h l (by simp)
        rw [List.length_drop] at h1
        simp only; omega
      · exact headIn_len nm n ls fun x hx => h x (by simp [hx])
theorem headOf_len (t nm : List UInt8) : (headOf t nm).1.length ≤ t.length := headIn_len nm _ _ (splitOn_mem 10 t)
def hasT (s t : List UInt8) : Bool := decide (0 ≤ Lib.index s t)
open Classical in
noncomputable def spHasT : VM.Spec := { modes := [.rd, .rd], run := fun | [.str s, .str t] => if s.length ≤ 4194304 ∧ t.length ≤ 4194304 then some (.bool (hasT s t), []) else none | _ => none, need := ["internal/bytealg.MaxLen"] }
attribute [go_sem] spHasT
def subjectOf (m : Mail) : List UInt8 := baseSubject (headOf m.Text [115, 117, 98, 106, 101, 99, 116]).1
open Classical in
noncomputable def spSubjectOf : VM.Spec := { modes := [.rd], run := fun | [m'] => (Mail.dec m').bind fun m => if m.le 4194304 then some (.str (subjectOf m), []) else none | _ => none, need := ["internal/bytealg.MaxLen"] }
attribute [go_sem] spSubjectOf
theorem spSubjectOf_in {ins : List V} {r : V} {outs : List V} (h : spSubjectOf.run ins = some (r, outs)) : ∃ (m : Mail), ins = [Mail.enc m] ∧ (m.le 4194304) ∧ .str (subjectOf m) = r ∧ outs = [] := by
  unfold spSubjectOf at h
  simp only at h
  split at h
  · rename_i m'
    simp only [Option.bind_eq_some_iff] at h
    obtain ⟨m, h_m, h⟩ := h
    split at h
    case isFalse => cases h
    rename_i hc
    simp only [Option.some.injEq, Prod.mk.injEq] at h
    obtain ⟨h1, h2⟩ := h
    have h_m := Mail.dec_some h_m
    subst h_m
    exact ⟨m, rfl, hc, h1, h2.symm⟩
  · cases h
def T_impl_subjectOf : Hints := ⟨lk [], lk [], lk [(0, [1]), (1, [3]), (2, [2])], lk [], lf []⟩
noncomputable def Phi_impl_subjectOf : Tab := lk [(63, spHeadOf), (64, spBaseSubject)]
attribute [go_sem] T_impl_subjectOf Phi_impl_subjectOf
theorem phi_impl_subjectOf : ∀ f sp, Phi_impl_subjectOf f = some sp → FnOk Tryz.prog f sp ∧ ∀ n ∈ sp.need, n ∈ (["internal/bytealg.MaxLen"] : List String) := phi_cons ok_impl_HeadOf (fun n (h : n ∈ (["internal/bytealg.MaxLen"] : List String)) => by simp only [List.mem_cons, List.not_mem_nil, or_false] at h; rcases h with rfl <;> simp) (phi_cons ok_impl_BaseSubject (n0 rfl) (phi_nil))
theorem ok_impl_subjectOf : FnOk Tryz.prog 38 spSubjectOf := by
  refine fn_ok (Φ := Phi_impl_subjectOf) (T := T_impl_subjectOf) phi_impl_subjectOf mixed Tryz.func38 rfl rfl rfl (by decide) ?_
  intro ins r outs hr hl
  clear hl
  have hs := spSubjectOf_in hr
  clear hr
  obtain ⟨m, rfl, hc, hr, rfl⟩ := hs
  simp only [spSubjectOf, Tryz.f38, Go.VM.initS]
  have hT : m.Text.length ≤ 4194304 := hc
  have h1 := headOf_len m.Text [115, 117, 98, 106, 101, 99, 116]
  have h2 : (headOf m.Text [115, 117, 98, 106, 101, 99, 116]).1.length ≤ 1099511627776 := by omega
  simp only [hT, h2, go_sem]
  repeat' ((first | apply qa | apply qb | apply qc | apply qd | apply qe | apply qf | apply qg | apply qh | apply qi | apply qj | apply qk) <;> intro hp <;> simp only [hp, hT, h2, go_sem])
  simp only [fin_mk, finV, resL, resV1, resIn, endA, listIn, Option.some_or, Option.none_or, oneOrTup, go_sem]
  rw [← hr]
  rfl
def matchB (m : Mail) (k : Key) : Bool :=
  if k.Kind = 1 then true
  else if k.Kind = 2 then flagsOk m.Flags && flagsOk k.Num && decide (0 < andN m.Flags k.Num)
  else if k.Kind = 3 then flagsOk m.Flags && flagsOk k.Num && (andN m.Flags k.Num == 0)
  else if k.Kind = 4 then hasT (subjectOf m) (lowS k.Text)
  else if k.Kind = 5 then hasT (lowS m.Text) (lowS k.Text)
  else if k.Kind = 6 then hasR (readSet k.Text 9999) m.Uid
  else if k.Kind = 7 then decide (k.Num < m.Mod) else false
open Classical in
noncomputable def spMatches : VM.Spec := { modes := [.rd, .rd], run := fun | [m', k'] => (Mail.dec m').bind fun m => (Key.dec k').bind fun k => if m.le 4194304 ∧ k.le 4194304 then some (.bool (matchB m k), []) else none | _ => none, need := ["internal/bytealg.MaxLen"] }
attribute [go_sem] spMatches
end Go.Proofs.YtghmjnggmacohaaGreatDoor.L

