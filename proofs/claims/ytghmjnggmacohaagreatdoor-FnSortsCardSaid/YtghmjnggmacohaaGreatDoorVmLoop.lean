/- Loops by what changes in a round; small facts on numbers and lists. No condition. -/
import Derived.Test.YtghmjnggmacohaaGreatDoorVmRun
set_option linter.unusedVariables false
set_option linter.unusedSimpArgs false
namespace Go.VM
open Go

def pickE : List (Nat × V) → Nat → V → V
  | [], _, v => v
  | (k', w) :: c, k, v => if k' = k then w else pickE c k v
def setE (c : List (Nat × V)) : List (Nat × V) → List (Nat × V)
  | [] => []
  | (k, v) :: l => (k, pickE c k v) :: setE c l
def pickH : List (Nat × Blk) → Nat → Blk → Blk
  | [], _, v => v
  | (k', w) :: c, k, v => if k' = k then w else pickH c k v
def setH (c : List (Nat × Blk)) : List (Nat × Blk) → List (Nat × Blk)
  | [] => []
  | (k, v) :: l => (k, pickH c k v) :: setH c l
/-- The state at a loop's head: what stood there, but for what changes. -/
def stL (E : List (Nat × V)) (H : List (Nat × Blk)) (n nt : Nat) (io : List V) (e : List (Nat × V)) (h : List (Nat × Blk)) : St := ⟨eOf (setE e E), hOf (setH h H), n, nt, io⟩
theorem loop_go {P : Program} {Φ : Tab} {T : Hints} {α : Type} {c : Code} {k : List Item} {Q : St → Prop} {E : List (Nat × V)} {H : List (Nat × Blk)} {n nt : Nat} {io : List V}
    (ch : α → List (Nat × V)) (hh : α → List (Nat × Blk)) (μ : α → Nat) (I : α → Prop) (a : α) (ha : I a) (hE : setE (ch a) E = E) (hH : setH (hh a) H = H)
    (round : ∀ x, I x → (∀ y, I y → μ y < μ x → Head (P := P) (Φ := Φ) (T := T) c k (stL E H n nt io (ch y) (hh y)) Q) → Goes P Φ T (.code c :: .inLoop c :: k) (stL E H n nt io (ch x) (hh x)) Q) :
    Head (P := P) (Φ := Φ) (T := T) c k ⟨eOf E, hOf H, n, nt, io⟩ Q := by
  have := loop_ind (P := P) (Φ := Φ) (T := T) (c := c) (k := k) (Q := Q) (fun x => stL E H n nt io (ch x) (hh x)) μ I round a ha
  simp only [stL, hE, hH] at this
  exact this
theorem wrap64 {n : Int} (h1 : -9223372036854775808 ≤ n) (h2 : n ≤ 9223372036854775807) : IntKind.i64.wrap n = n := by
  simp only [IntKind.wrap, IntKind.signed, IntKind.bits, Bool.true_and]
  split <;> simp_all <;> omega
theorem wrap_succ {i n : Nat} (h : i < n) (hn : n ≤ 4611686018427387904) : IntKind.i64.wrap ((i : Int) + 1) = ((i + 1 : Nat) : Int) := (wrap64 (by omega) (by omega)).trans (by omega)
theorem take_succ' {α : Type} {x : List α} {i : Nat} (h : i < x.length) : x.take (i + 1) = x.take i ++ [x[i]] := by
  rw [List.take_add_one, List.getElem?_eq_getElem h]; rfl
/-- Something holds of all numbers below n. -/
def allN (n : Nat) (p : Nat → Bool) : Bool := (List.range n).all p
theorem allN_bad {n : Nat} {p : Nat → Bool} {i : Nat} (h : i < n) (hb : p i = false) : allN n p = false := by
  rw [allN, List.all_eq_false]
  exact ⟨i, List.mem_range.2 h, by simp [hb]⟩
theorem allN_all {n i : Nat} {p : Nat → Bool} (hi : n ≤ i) (h : ∀ j, j < i → p j = true) : allN n p = true := by
  rw [allN, List.all_eq_true]
  exact fun j hj => h j (by have := List.mem_range.1 hj; omega)
theorem allN_get {n : Nat} {p : Nat → Bool} (h : allN n p = true) {i : Nat} (hi : i < n) : p i = true := by
  rw [allN, List.all_eq_true] at h
  exact h i (List.mem_range.2 hi)
theorem all_succ {p : Nat → Bool} {i : Nat} (h : ∀ j, j < i → p j = true) (hb : p i = true) : ∀ j, j < i + 1 → p j = true := fun j hj => by
  rcases Nat.lt_or_ge j i with h1 | h1
  · exact h j h1
  · have : j = i := by omega
    subst this; exact hb
theorem getD_lt {α : Type} {x : List α} {i : Nat} {d : α} (h : i < x.length) : x.getD i d = x[i] := by simp [h]
theorem wrap_pred {i : Nat} (h : 0 < i) (hn : i ≤ 4611686018427387904) : IntKind.i64.wrap ((i : Int) - 1) = ((i - 1 : Nat) : Int) := (wrap64 (by omega) (by omega)).trans (by omega)
theorem take_map {α β : Type} (f : α → β) (n : Nat) (l : List α) : List.take n (List.map f l) = List.map f (List.take n l) := List.map_take.symm
theorem drop_map {α β : Type} (f : α → β) (n : Nat) (l : List α) : List.drop n (List.map f l) = List.map f (List.drop n l) := List.map_drop.symm
/-- The place of the first element that has it; -1 without one. -/
def idxL {α : Type} (p : α → Bool) : List α → Int
  | [] => -1
  | x :: l => if p x then 0 else if idxL p l = -1 then -1 else idxL p l + 1
theorem idxL_ge {α : Type} (p : α → Bool) : ∀ l : List α, -1 ≤ idxL p l ∧ idxL p l < l.length
  | [] => by simp [idxL]
  | x :: l => by
    have := idxL_ge p l
    simp only [idxL, List.length_cons]
    split
    · omega
    · split <;> omega
theorem idxL_hit {α : Type} {p : α → Bool} : ∀ {l : List α} {i : Nat} (h : i < l.length), (∀ j (hj : j < i), p (l[j]'(by omega)) = false) → p l[i] = true → idxL p l = i
  | x :: l, 0, _, _, hp => by
    simp only [List.getElem_cons_zero] at hp
    simp [idxL, hp]
  | x :: l, i + 1, h, ha, hp => by
    have h0 := ha 0 (by omega)
    simp only [List.getElem_cons_zero] at h0
    have := idxL_hit (p := p) (l := l) (i := i) (by simpa using h) (fun j hj => by have := ha (j + 1) (by omega); simpa using this) (by simpa using hp)
    simp only [idxL, h0, Bool.false_eq_true, if_false, this]
    rw [if_neg (by omega)]; omega
theorem idxL_miss {α : Type} {p : α → Bool} : ∀ {l : List α}, (∀ j (hj : j < l.length), p l[j] = false) → idxL p l = -1
  | [], _ => rfl
  | x :: l, ha => by
    have h0 := ha 0 (by simp)
    simp only [List.getElem_cons_zero] at h0
    have := idxL_miss (p := p) (l := l) (fun j hj => by have := ha (j + 1) (by simpa using hj); simpa using this)
    simp [idxL, h0, this]
theorem idxL_any {α : Type} (p : α → Bool) : ∀ l : List α, decide (0 ≤ idxL p l) = l.any p
  | [] => by simp [idxL]
  | x :: l => by
    have h1 := idxL_any p l
    have h2 := idxL_ge p l
    simp only [idxL, List.any_cons]
    by_cases hx : p x = true
    · simp [hx]
    · have hx' : p x = false := by simpa using hx
      simp only [hx', Bool.false_eq_true, if_false, Bool.false_or]
      rw [← h1]
      split
      · simp_all
      · have : 0 ≤ idxL p l := by omega
        have h4 : (0 : Int) ≤ idxL p l + 1 := by omega
        simp [this, h4]
theorem any_bad {α : Type} {p : α → Bool} {l : List α} {i : Nat} (h : i < l.length) (hp : p l[i] = true) : l.any p = true := List.any_eq_true.2 ⟨_, List.getElem_mem h, hp⟩
theorem any_take_end {α : Type} {p : α → Bool} {l : List α} {i : Nat} (h : l.length ≤ i) (hp : (l.take i).any p = false) : l.any p = false := by rwa [List.take_of_length_le h] at hp
theorem any_take_succ {α : Type} {p : α → Bool} {l : List α} {i : Nat} (h : i < l.length) (ha : (l.take i).any p = false) (hp : p l[i] = false) : (l.take (i + 1)).any p = false := by
  rw [take_succ' h, List.any_append, ha]; simp [hp]
end Go.VM
