/- Sizes, marks and looks at marks: on lists, of whatever element. No condition. -/
import Derived.Test.YtglldabpgobimaaVmData2
import Derived.Test.YtglldabpgobimaaVmLoop
set_option linter.unusedVariables false
set_option linter.unusedSimpArgs false
namespace Go.VM
open Go
/-! ### how great a thing is -/
def leL {α : Type} (p : Nat → α → Prop) (b : Nat) (l : List α) : Prop := l.length ≤ b ∧ ∀ y ∈ l, p b y
def leI (b : Nat) (x : Int) : Prop := True
def leS (b : Nat) (x : List UInt8) : Prop := x.length ≤ b
theorem leL.mono {α : Type} {p : Nat → α → Prop} (hp : ∀ x b c, b ≤ c → p b x → p c x) {b c : Nat} {l : List α} (h : b ≤ c) (hl : leL p b l) : leL p c l :=
  ⟨by have := hl.1; omega, fun y hy => hp y b c h (hl.2 y hy)⟩
theorem leI.mono (x : Int) (b c : Nat) (h : b ≤ c) (hx : leI b x) : leI c x := hx
theorem leS.mono (x : List UInt8) (b c : Nat) (h : b ≤ c) (hx : leS b x) : leS c x := by unfold leS at *; omega
theorem leL_flat {α : Type} {p : Nat → α → Prop} (hp : ∀ b x, p b x) {b : Nat} {l : List α} (h : l.length ≤ b) : leL p b l := ⟨h, fun y _ => hp b y⟩
def subSz (n : Int) (k : Nat) : Int := if n - k < 0 then -1 else n - k
def thenSz (m : Int) (f : Int → Int) : Int := if m < 0 then -1 else f m
def szL {α : Type} (f : α → Int → Int) : List α → Int → Int
  | [], n => n
  | x :: l, n => thenSz (f x n) (szL f l)
def szLL {α : Type} (f : α → Int → Int) (l : List α) (n : Int) : Int := thenSz (subSz n l.length) (szL f l)
def szF {α : Type} (l : List α) (n : Int) : Int := subSz n l.length
/-- What a size that is left says. -/
def SzOk {α : Type} (p : Nat → α → Prop) (f : α → Int → Int) : Prop := ∀ (x : α) (n : Int) (b : Nat), 0 ≤ n → n ≤ b → (f x n = -1 ∨ (0 ≤ f x n ∧ f x n ≤ n ∧ p b x))
theorem szL_ok {α : Type} {p : Nat → α → Prop} {f : α → Int → Int} (h : SzOk p f) : ∀ (l : List α) (n : Int) (b : Nat), 0 ≤ n → n ≤ b → (szL f l n = -1 ∨ (0 ≤ szL f l n ∧ szL f l n ≤ n ∧ ∀ y ∈ l, p b y))
  | [], n, b, h0, h1 => .inr ⟨h0, Int.le_refl _, fun y hy => by simp at hy⟩
  | x :: l, n, b, h0, h1 => by
    rcases h x n b h0 h1 with e | ⟨e1, e2, e3⟩
    · left; simp [szL, thenSz, e]
    · have e4 : ¬ f x n < 0 := by omega
      rcases szL_ok h l (f x n) b e1 (by omega) with k | ⟨k1, k2, k3⟩
      · left; simp [szL, thenSz, e4, k]
      · right
        simp only [szL, thenSz, e4, if_false]
        refine ⟨k1, by omega, fun y hy => ?_⟩
        rcases List.mem_cons.1 hy with rfl | hy
        · exact e3
        · exact k3 y hy
theorem subSz_ok (n : Int) (k b : Nat) (h0 : 0 ≤ n) (h1 : n ≤ b) : subSz n k = -1 ∨ (0 ≤ subSz n k ∧ subSz n k ≤ n ∧ k ≤ b) := by
  unfold subSz
  split
  · exact .inl rfl
  · right; exact ⟨by omega, by omega, by omega⟩
theorem szLL_ok {α : Type} {p : Nat → α → Prop} {f : α → Int → Int} (h : SzOk p f) : SzOk (leL p) (szLL f) := by
  intro l n b h0 h1
  unfold szLL
  rcases subSz_ok n l.length b h0 h1 with e | ⟨e1, e2, e3⟩
  · left; rw [e]; rfl
  · have e4 : ¬ subSz n l.length < 0 := by omega
    rcases szL_ok h l _ b e1 (by omega) with k | ⟨k1, k2, k3⟩
    · left; simp [thenSz, e4, k]
    · right; simp only [thenSz, e4, if_false]
      exact ⟨k1, by omega, e3, k3⟩
theorem szF_ok {α : Type} {p : Nat → α → Prop} (hp : ∀ b x, p b x) : SzOk (leL p) (szF (α := α)) := by
  intro l n b h0 h1
  rcases subSz_ok n l.length b h0 h1 with e | ⟨e1, e2, e3⟩
  · exact .inl e
  · exact .inr ⟨e1, e2, leL_flat hp e3⟩
theorem szS_ok : SzOk leS (fun (x : List UInt8) n => subSz n x.length) := fun x n b h0 h1 => subSz_ok n x.length b h0 h1
theorem szL_take {α : Type} {f : α → Int → Int} : ∀ (l : List α) (i : Nat) (n : Int) (h : i < l.length), (∀ m, f l[i] m < 0 → f l[i] m = -1) → 0 ≤ szL f (l.take i) n → 0 ≤ n → szL f (l.take (i + 1)) n = f l[i] (szL f (l.take i) n)
  | x :: l, 0, n, _, hf, _, _ => by
    simp only [List.take_succ_cons, List.take_zero, szL, thenSz, List.getElem_cons_zero]
    split
    · rename_i h; simp at hf; exact (hf n h).symm
    · rfl
  | x :: l, i + 1, n, h, hf, h0, hn => by
    simp only [List.take_succ_cons, szL, thenSz] at h0 ⊢
    split
    · rename_i hx; rw [if_pos hx] at h0; omega
    · rename_i hx
      rw [if_neg hx] at h0
      have := szL_take l i (f x n) (by simpa using h) (by simpa using hf) h0 (by omega)
      simpa using this
/-- A size that came to nothing stays nothing. -/
theorem szL_bad {α : Type} {f : α → Int → Int} : ∀ (l : List α) (i : Nat) (n : Int) (h : i < l.length), 0 ≤ szL f (l.take i) n → f l[i] (szL f (l.take i) n) < 0 → szL f l n = -1
  | x :: l, 0, n, _, _, hb => by
    simp only [List.take_zero, szL, List.getElem_cons_zero] at hb
    simp [szL, thenSz, hb]
  | x :: l, i + 1, n, h, h0, hb => by
    simp only [List.take_succ_cons, szL, thenSz, List.getElem_cons_succ] at h0 hb ⊢
    split
    · rfl
    · rename_i hx
      rw [if_neg hx] at h0 hb
      exact szL_bad l i (f x n) (by simpa using h) h0 hb
/-! ### marks -/
def markGo (k : Int) (out : List UInt8) : List UInt8 := if 0 < k then markGo (k.tdiv 10) (UInt8.ofNat (48 + k.tmod 10).toNat :: out) else out
termination_by k.toNat
decreasing_by
  have : k.tdiv 10 = k / 10 := Int.tdiv_eq_ediv_of_nonneg (by omega)
  omega
def markText (k : Int) : List UInt8 := if k ≤ 0 then [109, 48] else 109 :: markGo k []
def markL {α : Type} (f : α → Int → α × Int) : List α → Int → List α × Int
  | [], k => ([], k)
  | x :: l, k => ((f x k).1 :: (markL f l (f x k).2).1, (markL f l (f x k).2).2)
def heldL {α : Type} (f : α → Int → Option Int) : List α → Int → Option Int
  | [], k => some k
  | x :: l, k => (f x k).bind (heldL f l)
open Classical in
noncomputable def heOf {α : Type} (f : α → Int → α × Int) (x : α) (k : Int) : Option Int := if (f x k).1 = x then some (f x k).2 else none
theorem markL_len {α : Type} (f : α → Int → α × Int) : ∀ (l : List α) (k : Int), (markL f l k).1.length = l.length
  | [], k => rfl
  | x :: l, k => by simp [markL, markL_len f l]
theorem markL_step {α : Type} (f : α → Int → α × Int) : ∀ (l : List α) (k : Int) (x : α), markL f (l ++ [x]) k = ((markL f l k).1 ++ [(f x (markL f l k).2).1], (f x (markL f l k).2).2)
  | [], k, x => rfl
  | y :: l, k, x => by simp [markL, markL_step f l]
theorem mark_round {α : Type} {f : α → Int → α × Int} {e : α → V} {x : List α} {i : Nat} {k : Int} {els : List V} (h : i < x.length) (he : els = ((markL f (x.take i) k).1 ++ x.drop i).map e) :
    els[i]? = some (e x[i]) ∧ els.length = x.length ∧ els.set i (e (f x[i] (markL f (x.take i) k).2).1) = ((markL f (x.take (i + 1)) k).1 ++ x.drop (i + 1)).map e ∧
      (f x[i] (markL f (x.take i) k).2).2 = (markL f (x.take (i + 1)) k).2 := by
  have hl : ((markL f (x.take i) k).1).length = i := by rw [markL_len]; simp; omega
  refine ⟨?_, ?_, ?_, ?_⟩
  · rw [he, List.getElem?_map, List.getElem?_append_right (by omega), hl, Nat.sub_self, List.getElem?_drop]
    simp [h]
  · rw [he]; simp [hl]; omega
  · rw [he, take_succ' h, markL_step, List.map_append, List.set_append_right _ _ (by simp [hl]), List.drop_eq_getElem_cons h, List.length_map, hl, Nat.sub_self, List.map_cons, List.set_cons_zero, List.map_append, List.map_append, List.append_assoc]
    rfl
  · rw [take_succ' h, markL_step]
theorem heldL_take {α : Type} {f : α → Int → Option Int} : ∀ (l : List α) (k : Int) (x : α), heldL f (l ++ [x]) k = (heldL f l k).bind (f x)
  | [], k, x => by simp [heldL]
  | y :: l, k, x => by
    simp only [List.cons_append, heldL]
    cases h : f y k with
    | none => simp
    | some m => simp [heldL_take l m x]
theorem heldL_append_none {α : Type} {f : α → Int → Option Int} : ∀ (l m : List α) (k : Int), heldL f l k = none → heldL f (l ++ m) k = none
  | [], m, k, h => by simp [heldL] at h
  | y :: l, m, k, h => by
    simp only [List.cons_append, heldL] at h ⊢
    cases hy : f y k with
    | none => simp
    | some r => rw [hy] at h; simp at h ⊢; exact heldL_append_none l m r h
theorem heldL_bad {α : Type} {f : α → Int → Option Int} {x : List α} {i : Nat} {k r : Int} (h : i < x.length) (h0 : heldL f (x.take i) k = some r) (hb : f x[i] r = none) : heldL f x k = none := by
  have : heldL f (x.take (i + 1)) k = none := by rw [take_succ' h, heldL_take, h0]; exact hb
  rw [← List.take_append_drop (i + 1) x]
  exact heldL_append_none _ _ _ this
theorem heldL_good {α : Type} {f : α → Int → Option Int} {x : List α} {i : Nat} {k r s : Int} (h : i < x.length) (h0 : heldL f (x.take i) k = some r) (hb : f x[i] r = some s) : heldL f (x.take (i + 1)) k = some s := by
  rw [take_succ' h, heldL_take, h0]; exact hb
/-- What is marked is held as marked. -/
theorem held_marked {α : Type} {f : α → Int → α × Int} {g : α → Int → Option Int} (h : ∀ x k, g (f x k).1 k = some (f x k).2) : ∀ (l : List α) (k : Int), heldL g (markL f l k).1 k = some (markL f l k).2
  | [], k => rfl
  | x :: l, k => by simp [markL, heldL, h, held_marked h l]
theorem heOf_marked {α : Type} {f : α → Int → α × Int} (h : ∀ x k, f (f x k).1 k = f x k) (x : α) (k : Int) : heOf f (f x k).1 k = some (f x k).2 := by
  unfold heOf
  rw [h x k, if_pos rfl]
/-- How far marks count on. -/
theorem markL_k {α : Type} {f : α → Int → α × Int} {c : Nat} (h : ∀ x k, (f x k).2 = k + c) : ∀ (l : List α) (k : Int), (markL f l k).2 = k + c * l.length
  | [], k => by simp [markL]
  | x :: l, k => by
    simp only [markL, markL_k h l, h, List.length_cons]
    push_cast
    rw [Int.mul_add]; omega
theorem heldL_k {α : Type} {f : α → Int → Option Int} {c : Nat} (h : ∀ x k r, f x k = some r → r = k + c) : ∀ (l : List α) (k r : Int), heldL f l k = some r → r = k + c * l.length
  | [], k, r, e => by simp [heldL] at e; simp [e]
  | x :: l, k, r, e => by
    simp only [heldL] at e
    cases hx : f x k with
    | none => rw [hx] at e; simp at e
    | some m =>
      rw [hx] at e
      have := heldL_k h l m r (by simpa using e)
      rw [this, h x k m hx, List.length_cons]
      push_cast
      rw [Int.mul_add]; omega
theorem heOf_k {α : Type} {f : α → Int → α × Int} {c : Nat} (h : ∀ x k, (f x k).2 = k + c) (x : α) (k r : Int) (e : heOf f x k = some r) : r = k + c := by
  unfold heOf at e
  split at e
  · cases e; exact h x k
  · cases e
def meInt (x : Int) (k : Int) : Int × Int := (k, k + 1)
def meStr (x : List UInt8) (k : Int) : List UInt8 × Int := (markText k, k + 1)
theorem meInt_k (x k : Int) : (meInt x k).2 = k + (1 : Nat) := rfl
theorem meStr_k (x : List UInt8) (k : Int) : (meStr x k).2 = k + (1 : Nat) := rfl
theorem meInt_again (x k : Int) : meInt (meInt x k).1 k = meInt x k := rfl
theorem meStr_again (x : List UInt8) (k : Int) : meStr (meStr x k).1 k = meStr x k := rfl
theorem leL_marked {α : Type} {f : α → Int → α × Int} {p : Nat → α → Prop} {b : Nat} (h : ∀ x k, p b x → p b (f x k).1) : ∀ {l : List α} {k : Int}, leL p b l → leL p b (markL f l k).1 := by
  intro l k hl
  refine ⟨by rw [markL_len]; exact hl.1, ?_⟩
  have key : ∀ (l : List α) (k : Int), (∀ y ∈ l, p b y) → ∀ y ∈ (markL f l k).1, p b y := by
    intro l
    induction l with
    | nil => intro k _ y hy; simp [markL] at hy
    | cons x l ih =>
      intro k hx y hy
      simp only [markL, List.mem_cons] at hy
      rcases hy with rfl | hy
      · exact h x k (hx x (by simp))
      · exact ih _ (fun z hz => hx z (by simp [hz])) y hy
  exact key l k hl.2
end Go.VM
