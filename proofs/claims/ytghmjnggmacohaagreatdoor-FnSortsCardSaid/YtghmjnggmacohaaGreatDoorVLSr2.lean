/- Contracts of functions, and the facts that they need. No condition. -/
import Derived.Test.YtghmjnggmacohaaGreatDoorVmBase
import Derived.Test.YtghmjnggmacohaaGreatDoorVLM
namespace Go.VM.SM
set_option linter.unusedVariables false
set_option linter.unusedSimpArgs false
variable {α : Type}
structure Ord (lt : α → α → Bool) (U : α → α → Prop) (R : α → α → Prop) : Prop where
  trans : ∀ {x y z}, R x y → R y z → R x z
  asym : ∀ {x y}, R x y → ¬ R y x
  up : ∀ {x y}, U x y → (lt y x = true ↔ R y x)
  down : ∀ {x y}, U x y → lt y x = false → R x y
def bs (p : Nat → Bool) : Nat → Nat → Nat → Nat
  | 0, i, _ => i
  | f + 1, i, j => if i < j then (if p ((i + j) / 2) = true then bs p f ((i + j) / 2 + 1) j else bs p f i ((i + j) / 2)) else i
theorem bs_ok {p : Nat → Bool} : ∀ (f i j : Nat), i ≤ j → j - i ≤ f → (∀ a b, i ≤ a → a ≤ b → b < j → p b = true → p a = true) →
    i ≤ bs p f i j ∧ bs p f i j ≤ j ∧ (∀ k, i ≤ k → k < bs p f i j → p k = true) ∧ (∀ k, bs p f i j ≤ k → k < j → p k = false)
  | 0, i, j, h, hf, hm => by
    rw [bs]
    exact ⟨Nat.le_refl _, h, fun k h1 h2 => by omega, fun k h1 h2 => by omega⟩
  | f + 1, i, j, h, hf, hm => by
    rw [bs]
    split
    · rename_i hlt
      have d1 : i ≤ (i + j) / 2 := by omega
      have d2 : (i + j) / 2 < j := by omega
      generalize hh : (i + j) / 2 = m at *
      split
      · rename_i hp
        obtain ⟨a1, a2, a3, a4⟩ := bs_ok f (m + 1) j (by omega) (by omega) (fun a b h1 h2 h3 => hm a b (by omega) h2 h3)
        refine ⟨by omega, a2, fun k h1 h2 => ?_, a4⟩
        rcases Nat.lt_or_ge m k with h3 | h3
        · exact a3 k h3 h2
        · exact hm k m h1 h3 d2 hp
      · rename_i hp
        obtain ⟨a1, a2, a3, a4⟩ := bs_ok f i m (by omega) (by omega) (fun a b h1 h2 h3 => hm a b h1 h2 (by omega))
        refine ⟨a1, by omega, a3, fun k h1 h2 => ?_⟩
        rcases Nat.lt_or_ge k m with h3 | h3
        · exact a4 k h1 h3
        · cases hk : p k with
          | false => rfl
          | true => exact absurd (hm m k d1 h3 h2 hk) hp
    · exact ⟨Nat.le_refl _, h, fun k h1 h2 => by omega, fun k h1 h2 => by omega⟩
def sw (l : List α) (i j : Nat) : List α := match l[i]?, l[j]? with
  | some x, some y => (l.set i y).set j x
  | _, _ => l
theorem sw_len (l : List α) (i j : Nat) : (sw l i j).length = l.length := by
  unfold sw; split <;> simp
theorem sw_eq {l : List α} {i j : Nat} (hi : i < l.length) (hj : j < l.length) : sw l i j = (l.set i l[j]).set j l[i] := by
  unfold sw
  rw [List.getElem?_eq_getElem hi, List.getElem?_eq_getElem hj]
def swR (l : List α) (a b : Nat) : Nat → List α
  | 0 => l
  | n + 1 => sw (swR l a b n) (a + n) (b + n)
theorem swR_len (l : List α) (a b : Nat) : ∀ n, (swR l a b n).length = l.length
  | 0 => rfl
  | n + 1 => by rw [swR, sw_len, swR_len l a b n]
theorem swR_get (l : List α) (a b : Nat) : ∀ n, a + n ≤ b → b + n ≤ l.length → ∀ k, (swR l a b n)[k]? = if a ≤ k ∧ k < a + n then l[k - a + b]? else if b ≤ k ∧ k < b + n then l[k - b + a]? else l[k]?
  | 0, h1, h2, k => by
    rw [swR, if_neg (by omega), if_neg (by omega)]
  | n + 1, h1, h2, k => by
    have hl := swR_len l a b n
    rw [swR, sw_eq (by omega) (by omega), List.getElem?_set, List.getElem?_set, List.length_set]
    have g1 := swR_get l a b n (by omega) (by omega) (a + n)
    have g2 := swR_get l a b n (by omega) (by omega) (b + n)
    have g3 := swR_get l a b n (by omega) (by omega) k
    rw [if_neg (by omega), if_neg (by omega)] at g1 g2
    rw [List.getElem?_eq_getElem (by omega)] at g1 g2
    by_cases e1 : b + n = k
    · subst e1
      have q1 : ¬ (a ≤ b + n ∧ b + n < a + (n + 1)) := by omega
      have q2 : b ≤ b + n ∧ b + n < b + (n + 1) := by omega
      rw [if_pos rfl, if_pos (by omega), if_neg q1, if_pos q2, g1]
      congr 1; omega
    · rw [if_neg e1]
      by_cases e2 : a + n = k
      · subst e2
        have q1 : a ≤ a + n ∧ a + n < a + (n + 1) := by omega
        rw [if_pos rfl, if_pos (by omega), if_pos q1, g2]
        congr 1; omega
      · rw [if_neg e2, g3]
        by_cases c1 : a ≤ k ∧ k < a + n
        · have q1 : a ≤ k ∧ k < a + (n + 1) := by omega
          rw [if_pos c1, if_pos q1]
        · have q1 : ¬ (a ≤ k ∧ k < a + (n + 1)) := by omega
          rw [if_neg c1, if_neg q1]
          by_cases c2 : b ≤ k ∧ k < b + n
          · have q2 : b ≤ k ∧ k < b + (n + 1) := by omega
            rw [if_pos c2, if_pos q2]
          · have q2 : ¬ (b ≤ k ∧ k < b + (n + 1)) := by omega
            rw [if_neg c2, if_neg q2]
theorem get5 (A P M Q B : List α) (k : Nat) : (A ++ (P ++ (M ++ (Q ++ B))))[k]? =
    if k < A.length then A[k]? else if k < A.length + P.length then P[k - A.length]? else if k < A.length + P.length + M.length then M[k - A.length - P.length]?
    else if k < A.length + P.length + M.length + Q.length then Q[k - A.length - P.length - M.length]? else B[k - A.length - P.length - M.length - Q.length]? := by
  simp only [List.getElem?_append]
  by_cases c0 : k < A.length
  · simp only [if_pos c0]
  have d1 : (k - A.length < P.length) = (k < A.length + P.length) := propext (by omega)
  simp only [if_neg c0, d1]
  by_cases c1 : k < A.length + P.length
  · simp only [if_pos c1]
  have d2 : (k - A.length - P.length < M.length) = (k < A.length + P.length + M.length) := propext (by omega)
  simp only [if_neg c1, d2]
  by_cases c2 : k < A.length + P.length + M.length
  · simp only [if_pos c2]
  have d3 : (k - A.length - P.length - M.length < Q.length) = (k < A.length + P.length + M.length + Q.length) := propext (by omega)
  simp only [if_neg c2, d3]
theorem swR_parts (A P M Q B : List α) (h : P.length = Q.length) : swR (A ++ (P ++ (M ++ (Q ++ B)))) A.length (A.length + P.length + M.length) P.length = A ++ (Q ++ (M ++ (P ++ B))) := by
  apply List.ext_getElem?
  intro k
  rw [swR_get _ _ _ _ (by omega) (by simp only [List.length_append]; omega), get5, get5, get5, get5]
  by_cases c0 : k < A.length
  · rw [if_neg (by omega), if_neg (by omega), if_pos c0, if_pos c0]
  by_cases c1 : k < A.length + P.length
  · rw [if_pos (by omega), if_neg (by omega), if_neg (by omega), if_neg (by omega), if_pos (by omega), if_neg c0, if_pos (by omega)]
    congr 1; omega
  by_cases c2 : k < A.length + P.length + M.length
  · rw [if_neg (by omega), if_neg (by omega), if_neg c0, if_neg c1, if_pos c2, if_neg c0, if_neg (by omega), if_pos (by omega)]
    congr 1; omega
  by_cases c3 : k < A.length + P.length + M.length + P.length
  · rw [if_neg (by omega), if_pos (by omega), if_neg (by omega), if_pos (by omega), if_neg c0, if_neg (by omega), if_neg (by omega), if_pos (by omega)]
    congr 1; omega
  · rw [if_neg (by omega), if_neg (by omega), if_neg c0, if_neg c1, if_neg c2, if_neg (by omega), if_neg c0, if_neg (by omega), if_neg (by omega), if_neg (by omega)]
    congr 1; omega
def rot (m : Nat) : Nat → List α → Nat → Nat → List α
  | 0, l, _, _ => l
  | f + 1, l, i, j => if i = j then swR l (m - i) m i else if j < i then rot m f (swR l (m - i) m j) (i - j) j else rot m f (swR l (m - i) (m + j - i) i) i (j - i)
theorem rot_ok : ∀ (f : Nat) (A P Q B : List α), 0 < P.length → 0 < Q.length → P.length + Q.length ≤ f → rot (A.length + P.length) f (A ++ (P ++ (Q ++ B))) P.length Q.length = A ++ (Q ++ (P ++ B))
  | 0, A, P, Q, B, h1, h2, h3 => by omega
  | f + 1, A, P, Q, B, h1, h2, h3 => by
    rw [rot]
    by_cases e : P.length = Q.length
    · rw [if_pos e]
      have := swR_parts A P [] Q B e
      simp only [List.nil_append, List.length_nil, Nat.add_zero] at this
      rw [Nat.add_sub_cancel, this]
    rw [if_neg e]
    by_cases g : Q.length < P.length
    · rw [if_pos g]
      obtain ⟨P1, P2, rfl, k⟩ : ∃ P1 P2, P = P1 ++ P2 ∧ P1.length = Q.length := ⟨P.take Q.length, P.drop Q.length, (List.take_append_drop _ _).symm, by rw [List.length_take]; omega⟩
      rw [List.length_append] at h1 h3 e g ⊢
      have s := swR_parts A P1 P2 Q B k
      have r := rot_ok f (A ++ Q) P2 P1 B (by omega) (by omega) (by omega)
      rw [List.append_assoc P1, Nat.add_sub_cancel, ← k]
      rw [show A.length + (P1.length + P2.length) = A.length + P1.length + P2.length by omega, s]
      rw [List.length_append, ← k] at r
      rw [show P1.length + P2.length - P1.length = P2.length by omega]
      simp only [List.append_assoc] at r ⊢
      rw [show A.length + P1.length + P2.length = A.length + (P1.length) + P2.length by omega]
      exact r
    · rw [if_neg g]
      obtain ⟨Q1, Q2, rfl, k⟩ : ∃ Q1 Q2, Q = Q1 ++ Q2 ∧ Q2.length = P.length := ⟨Q.take (Q.length - P.length), Q.drop (Q.length - P.length), (List.take_append_drop _ _).symm, by rw [List.length_drop]; omega⟩
      rw [List.length_append] at h2 h3 e g ⊢
      have s := swR_parts A P Q1 Q2 B k.symm
      have r := rot_ok f A Q2 Q1 (P ++ B) (by omega) (by omega) (by omega)
      rw [List.append_assoc Q1, Nat.add_sub_cancel]
      rw [show A.length + P.length + (Q1.length + Q2.length) - P.length = A.length + P.length + Q1.length by omega, s]
      rw [show Q1.length + Q2.length - P.length = Q1.length by omega, ← k]
      rw [List.append_assoc Q1]
      exact r
def up1 (l : List α) (a : Nat) : Nat → List α
  | 0 => l
  | n + 1 => sw (up1 l a n) (a + n) (a + n + 1)
theorem sw_mid (A : List α) (x y : α) (B : List α) : sw (A ++ (x :: y :: B)) A.length (A.length + 1) = A ++ (y :: x :: B) := by
  rw [sw_eq (by simp) (by simp)]
  rw [List.getElem_append_right (by omega), List.getElem_append_right (by omega), List.set_append_right _ _ (by omega), List.set_append_right _ _ (by omega)]
  simp
theorem sw_mid' (A : List α) (x y : α) (B : List α) : sw (A ++ (x :: y :: B)) (A.length + 1) A.length = A ++ (y :: x :: B) := by
  rw [sw_eq (by simp) (by simp)]
  rw [List.getElem_append_right (by omega), List.getElem_append_right (by omega), List.set_append_right _ _ (by omega), List.set_append_right _ _ (by omega)]
  simp
theorem snoc_of {n : Nat} {W : List α} (h : W.length = n + 1) : ∃ V y, W = V ++ [y] ∧ V.length = n := by
  refine ⟨W.dropLast, W.getLast (by intro e; subst e; cases h), (List.dropLast_concat_getLast _).symm, by rw [List.length_dropLast]; omega⟩
theorem up1_ok (A : List α) (x : α) : ∀ (n : Nat) (W B : List α), W.length = n → up1 (A ++ (x :: (W ++ B))) A.length n = A ++ (W ++ (x :: B))
  | 0, W, B, h => by
    have : W = [] := List.length_eq_zero_iff.1 h
    subst this; rfl
  | n + 1, W, B, h => by
    obtain ⟨V, y, rfl, hV⟩ := snoc_of h
    rw [up1, List.append_assoc, List.singleton_append, up1_ok A x n V (y :: B) hV, ← List.append_assoc, ← hV, ← List.length_append, sw_mid]
    simp
def dn1 (l : List α) (m : Nat) : Nat → List α
  | 0 => l
  | n + 1 => sw (dn1 l m n) (m - n) (m - n - 1)
theorem dn1_ok (x : α) : ∀ (n : Nat) (A W B : List α), W.length = n → ∀ m, m = A.length + n → dn1 (A ++ (W ++ (x :: B))) m n = A ++ (x :: (W ++ B))
  | 0, A, W, B, h, m, hm => by
    have : W = [] := List.length_eq_zero_iff.1 h
    subst this; rfl
  | n + 1, A, W, B, h, m, hm => by
    match W, h with
    | y :: V, h =>
      rw [List.length_cons] at h
      have r := dn1_ok x n (A ++ [y]) V B (by omega) m (by rw [List.length_append, List.length_singleton]; omega)
      rw [List.append_assoc, List.singleton_append, List.append_assoc, List.singleton_append] at r
      rw [dn1, List.cons_append, r, show m - n = A.length + 1 by omega, Nat.add_sub_cancel, sw_mid']
      rfl
def ltA (lt : α → α → Bool) (l : List α) (i j : Nat) : Bool := match l[i]?, l[j]? with
  | some x, some y => lt x y
  | _, _ => false
theorem ltA_eq {lt : α → α → Bool} {l : List α} {i j : Nat} (hi : i < l.length) (hj : j < l.length) : ltA lt l i j = lt l[i] l[j] := by
  unfold ltA
  rw [List.getElem?_eq_getElem hi, List.getElem?_eq_getElem hj]
def sink (lt : α → α → Bool) (a : Nat) (l : List α) : Nat → List α
  | 0 => l
  | j + 1 => if a < j + 1 ∧ ltA lt l (j + 1) j = true then sink lt a (sw l (j + 1) j) j else l
theorem sink_len {lt : α → α → Bool} {a : Nat} : ∀ (j : Nat) (l : List α), (sink lt a l j).length = l.length
  | 0, l => rfl
  | j + 1, l => by
    rw [sink]
    split
    · rw [sink_len, sw_len]
    · rfl
def insS (lt : α → α → Bool) (a : Nat) (l : List α) : Nat → List α
  | 0 => l
  | n + 1 => sink lt a (insS lt a l n) (a + 1 + n)
theorem insS_len {lt : α → α → Bool} {a : Nat} {l : List α} : ∀ n, (insS lt a l n).length = l.length
  | 0 => rfl
  | n + 1 => by rw [insS, sink_len, insS_len]
section
variable {lt : α → α → Bool} {U R : α → α → Prop}
theorem sink_ok (o : Ord lt U R) (A : List α) (x : α) : ∀ (n : Nat) (S B : List α), S.length = n → S.Pairwise R → (∀ s ∈ S, U s x) →
    ∃ Z, sink lt A.length (A ++ (S ++ (x :: B))) (A.length + n) = A ++ (Z ++ B) ∧ Z.Perm (S ++ [x]) ∧ Z.Pairwise R
  | 0, S, B, h, hs, hu => by
    have : S = [] := List.length_eq_zero_iff.1 h
    subst this
    refine ⟨[x], ?_, List.Perm.refl _, List.pairwise_singleton _ _⟩
    cases hA : A.length with
    | zero => rfl
    | succ k => rw [Nat.add_zero, sink, if_neg (by omega)]; rfl
  | n + 1, S, B, h, hs, hu => by
    obtain ⟨V, y, rfl, hV⟩ := snoc_of h
    have hu' : U y x := hu y (by simp)
    obtain ⟨p1, p2, p3⟩ := List.pairwise_append.1 hs
    have e : A ++ (V ++ [y] ++ (x :: B)) = (A ++ V) ++ (y :: x :: B) := by simp
    have hlen : A.length + n = (A ++ V).length := by rw [List.length_append, hV]
    have hlt : ltA lt ((A ++ V) ++ (y :: x :: B)) ((A ++ V).length + 1) (A ++ V).length = lt x y := by
      rw [ltA_eq (by simp; omega) (by simp), List.getElem_append_right (by omega), List.getElem_append_right (by omega)]
      simp
    rw [← Nat.add_assoc, sink, e, hlen, hlt]
    by_cases hc : lt x y = true
    · rw [if_pos ⟨by rw [List.length_append]; omega, hc⟩, sw_mid']
      obtain ⟨Z, z1, z2, z3⟩ := sink_ok o A x n V (y :: B) hV p1 (fun s hs => hu s (by simp [hs]))
      rw [hlen] at z1
      refine ⟨Z ++ [y], ?_, ?_, ?_⟩
      · rw [List.append_assoc, z1]; simp
      · refine (z2.append_right [y]).trans ?_
        rw [List.append_assoc, List.append_assoc]
        exact List.Perm.append_left V (List.Perm.swap y x [])
      · refine List.pairwise_append.2 ⟨z3, List.pairwise_singleton _ _, fun s hs' t ht => ?_⟩
        rw [List.mem_singleton] at ht
        subst ht
        rcases List.mem_append.1 (z2.mem_iff.1 hs') with k | k
        · exact p3 s k _ (by simp)
        · rw [List.mem_singleton] at k; subst k; exact (o.up hu').1 hc
    · rw [if_neg (fun k => hc k.2)]
      refine ⟨V ++ [y] ++ [x], by simp, List.Perm.refl _, List.pairwise_append.2 ⟨hs, List.pairwise_singleton _ _, fun s hs t ht => ?_⟩⟩
      rw [List.mem_singleton] at ht
      subst ht
      have hyx : R y t := o.down hu' (by simpa using hc)
      rcases List.mem_append.1 hs with k | k
      · exact o.trans (p3 s k y (by simp)) hyx
      · rw [List.mem_singleton] at k; subst k; exact hyx
theorem insS_ok (o : Ord lt U R) (A : List α) : ∀ (n : Nat) (X B : List α), X.length = n + 1 → X.Pairwise U →
    ∃ Z, insS lt A.length (A ++ (X ++ B)) n = A ++ (Z ++ B) ∧ Z.Perm X ∧ Z.Pairwise R
  | 0, X, B, h, hu => by
    match X, h with
    | [x], _ => exact ⟨[x], rfl, List.Perm.refl _, List.pairwise_singleton _ _⟩
  | n + 1, X, B, h, hu => by
    obtain ⟨V, y, rfl, hV⟩ := snoc_of h
    obtain ⟨p1, p2, p3⟩ := List.pairwise_append.1 hu
    obtain ⟨Z, z1, z2, z3⟩ := insS_ok o A n V (y :: B) hV p1
    obtain ⟨Y, y1, y2, y3⟩ := sink_ok o A y (n + 1) Z B (by rw [z2.length_eq, hV]) z3 (fun s hs => p3 s (z2.mem_iff.1 hs) y (by simp))
    refine ⟨Y, ?_, y2.trans (z2.append_right [y]), y3⟩
    rw [insS, List.append_assoc, List.singleton_append, z1, ← y1, show A.length + 1 + n = A.length + (n + 1) by omega]
end
end Go.VM.SM

namespace Go.VM.SM
set_option linter.unusedVariables false
set_option linter.unusedSimpArgs false
variable {α : Type}
def symS (m a b : Nat) : Nat := if (a + b) / 2 < m then (a + b) / 2 + m - b else a
def symR (m a b : Nat) : Nat := if (a + b) / 2 < m then (a + b) / 2 else m
def symAt (lt : α → α → Bool) (l : List α) (a m b : Nat) : Nat := bs (fun c => !ltA lt l ((a + b) / 2 + m - 1 - c) c) (symR m a b - symS m a b) (symS m a b) (symR m a b)
def symT (l : List α) (m s e : Nat) : List α := if s < m ∧ m < e then rot m (e - s) l (m - s) (e - m) else l
def symM (lt : α → α → Bool) : Nat → List α → Nat → Nat → Nat → List α
  | 0, l, _, _, _ => l
  | f + 1, l, a, m, b =>
    if m = a + 1 then up1 l a (bs (fun h => ltA lt l h a) (b - m) m b - 1 - a)
    else if b = m + 1 then dn1 l m (m - bs (fun h => !ltA lt l m h) (m - a) a m)
    else
      let s := symAt lt l a m b
      let d := (a + b) / 2
      let e := d + m - s
      let l1 := symT l m s e
      let l2 := if a < s ∧ s < d then symM lt f l1 a s d else l1
      if d < e ∧ e < b then symM lt f l2 d e b else l2
section
variable {lt : α → α → Bool} {U R : α → α → Prop}
theorem ge_x (A X Y B : List α) {k : Nat} (h : k < X.length) : (A ++ (X ++ (Y ++ B)))[A.length + k]? = X[k]? := by
  rw [List.getElem?_append_right (by omega), Nat.add_sub_cancel_left, List.getElem?_append_left h]
theorem ge_y (A X Y B : List α) {k : Nat} (h : k < Y.length) : (A ++ (X ++ (Y ++ B)))[A.length + X.length + k]? = Y[k]? := by
  rw [List.getElem?_append_right (by omega), Nat.add_assoc, Nat.add_sub_cancel_left, List.getElem?_append_right (by omega), Nat.add_sub_cancel_left, List.getElem?_append_left h]
theorem lt_yx (A X Y B : List α) {i j : Nat} (hi : i < Y.length) (hj : j < X.length) : ltA lt (A ++ (X ++ (Y ++ B))) (A.length + X.length + i) (A.length + j) = lt Y[i] X[j] := by
  rw [ltA, ge_y A X Y B hi, ge_x A X Y B hj, List.getElem?_eq_getElem hi, List.getElem?_eq_getElem hj]
theorem pw_get {l : List α} (h : l.Pairwise R) {i j : Nat} (hj : j < l.length) (hij : i < j) : R l[i] l[j] := List.pairwise_iff_getElem.1 h i j (by omega) hj hij
theorem pw_le {l : List α} (h : l.Pairwise R) {i j : Nat} (hj : j < l.length) (hij : i ≤ j) : l[i] = l[j] ∨ R l[i] l[j] := by
  rcases Nat.lt_or_ge i j with k | k
  · exact .inr (pw_get h hj k)
  · have : i = j := by omega
    subst this; exact .inl rfl
theorem sym_left (o : Ord lt U R) (A : List α) (x : α) (Y B : List α) (hy : Y.Pairwise R) (hu : ∀ y ∈ Y, U x y) :
    ∃ Z, up1 (A ++ (x :: (Y ++ B))) A.length (bs (fun h => ltA lt (A ++ (x :: (Y ++ B))) h A.length) Y.length (A.length + 1) (A.length + 1 + Y.length) - 1 - A.length) = A ++ (Z ++ B) ∧ Z.Perm (x :: Y) ∧ Z.Pairwise R := by
  have hp : ∀ k (h : k < Y.length), ltA lt (A ++ (x :: (Y ++ B))) (A.length + 1 + k) A.length = lt Y[k] x := fun k h => lt_yx A [x] Y B (j := 0) h (by simp)
  have hm : ∀ i j, A.length + 1 ≤ i → i ≤ j → j < A.length + 1 + Y.length → ltA lt (A ++ (x :: (Y ++ B))) j A.length = true → ltA lt (A ++ (x :: (Y ++ B))) i A.length = true := by
    intro i j h1 h2 h3 h4
    obtain ⟨i, rfl⟩ := Nat.exists_eq_add_of_le h1
    obtain ⟨j, rfl⟩ := Nat.exists_eq_add_of_le (Nat.le_trans h1 h2)
    rw [hp j (by omega)] at h4
    rw [hp i (by omega)]
    have r := (o.up (hu _ (List.getElem_mem (show j < Y.length by omega)))).1 h4
    refine (o.up (hu _ (List.getElem_mem (show i < Y.length by omega)))).2 ?_
    rcases pw_le hy (i := i) (j := j) (by omega) (by omega) with k | k
    · rw [k]; exact r
    · exact o.trans k r
  obtain ⟨b1, b2, b3, b4⟩ := bs_ok (p := fun h => ltA lt (A ++ (x :: (Y ++ B))) h A.length) Y.length (A.length + 1) (A.length + 1 + Y.length) (by omega) (by omega) hm
  generalize hr : bs (fun h => ltA lt (A ++ (x :: (Y ++ B))) h A.length) Y.length (A.length + 1) (A.length + 1 + Y.length) = r at *
  obtain ⟨v, rfl⟩ := Nat.exists_eq_add_of_le b1
  have hv : v ≤ Y.length := by omega
  have e : Y = Y.take v ++ Y.drop v := (List.take_append_drop v Y).symm
  refine ⟨Y.take v ++ (x :: Y.drop v), ?_, ?_, ?_⟩
  · have := up1_ok A x v (Y.take v) (Y.drop v ++ B) (by rw [List.length_take]; omega)
    rw [← List.append_assoc, List.take_append_drop] at this
    rw [show A.length + 1 + v - 1 - A.length = v by omega, this]
    simp
  · refine List.perm_middle.trans ?_
    rw [List.take_append_drop]
  · have ht : ∀ y ∈ Y.take v, R y x := by
      intro y hy'
      obtain ⟨i, hi, rfl⟩ := List.mem_iff_getElem.1 hy'
      rw [List.length_take] at hi
      rw [List.getElem_take]
      have h1 := b3 (A.length + 1 + i) (by omega) (by omega)
      rw [hp i (by omega)] at h1
      exact (o.up (hu _ (List.getElem_mem _))).1 h1
    have hd : ∀ y ∈ Y.drop v, R x y := by
      intro y hy'
      obtain ⟨i, hi, rfl⟩ := List.mem_iff_getElem.1 hy'
      rw [List.length_drop] at hi
      rw [List.getElem_drop]
      have h1 := b4 (A.length + 1 + (v + i)) (by omega) (by omega)
      rw [hp (v + i) (by omega)] at h1
      exact o.down (hu _ (List.getElem_mem _)) h1
    have hy2 := hy
    rw [e] at hy2
    obtain ⟨p1, p2, p3⟩ := List.pairwise_append.1 hy2
    refine List.pairwise_append.2 ⟨p1, List.pairwise_cons.2 ⟨hd, p2⟩, fun s hs t ht' => ?_⟩
    rcases List.mem_cons.1 ht' with rfl | k
    · exact ht s hs
    · exact p3 s hs t k
theorem sym_right (o : Ord lt U R) (A X : List α) (y : α) (B : List α) (hx : X.Pairwise R) (hu : ∀ x ∈ X, U x y) :
    ∃ Z, dn1 (A ++ (X ++ (y :: B))) (A.length + X.length) (A.length + X.length - bs (fun h => !ltA lt (A ++ (X ++ (y :: B))) (A.length + X.length) h) X.length A.length (A.length + X.length)) = A ++ (Z ++ B) ∧ Z.Perm (X ++ [y]) ∧ Z.Pairwise R := by
  have hp : ∀ k (h : k < X.length), ltA lt (A ++ (X ++ (y :: B))) (A.length + X.length) (A.length + k) = lt y X[k] := fun k h => lt_yx A X [y] B (i := 0) (by simp) h
  have hm : ∀ i j, A.length ≤ i → i ≤ j → j < A.length + X.length → (!ltA lt (A ++ (X ++ (y :: B))) (A.length + X.length) j) = true → (!ltA lt (A ++ (X ++ (y :: B))) (A.length + X.length) i) = true := by
    intro i j h1 h2 h3 h4
    obtain ⟨i, rfl⟩ := Nat.exists_eq_add_of_le h1
    obtain ⟨j, rfl⟩ := Nat.exists_eq_add_of_le (Nat.le_trans h1 h2)
    rw [hp j (by omega)] at h4
    rw [hp i (by omega)]
    have r := o.down (hu _ (List.getElem_mem (show j < X.length by omega))) (by simpa using h4)
    cases hc : lt y (X[i]'(by omega)) with
    | false => rfl
    | true =>
      have r2 := (o.up (hu _ (List.getElem_mem (show i < X.length by omega)))).1 hc
      rcases pw_le hx (i := i) (j := j) (by omega) (by omega) with k | k
      · rw [k] at r2; exact absurd r2 (o.asym r)
      · exact absurd (o.trans r2 k) (o.asym r)
  obtain ⟨b1, b2, b3, b4⟩ := bs_ok (p := fun h => !ltA lt (A ++ (X ++ (y :: B))) (A.length + X.length) h) X.length A.length (A.length + X.length) (by omega) (by omega) hm
  generalize hr : bs (fun h => !ltA lt (A ++ (X ++ (y :: B))) (A.length + X.length) h) X.length A.length (A.length + X.length) = r at *
  obtain ⟨v, rfl⟩ := Nat.exists_eq_add_of_le b1
  have hv : v ≤ X.length := by omega
  have e : X = X.take v ++ X.drop v := (List.take_append_drop v X).symm
  refine ⟨X.take v ++ (y :: X.drop v), ?_, ?_, ?_⟩
  · have := dn1_ok y (X.length - v) (A ++ X.take v) (X.drop v) B (by rw [List.length_drop]) (A.length + X.length) (by rw [List.length_append, List.length_take]; omega)
    rw [List.append_assoc, ← List.append_assoc (X.take v), List.take_append_drop] at this
    rw [show A.length + X.length - (A.length + v) = X.length - v by omega, this]
    simp
  · refine List.perm_middle.trans ?_
    rw [List.take_append_drop]
    exact (List.perm_append_singleton y X).symm
  · have ht : ∀ x ∈ X.take v, R x y := by
      intro x hx'
      obtain ⟨i, hi, rfl⟩ := List.mem_iff_getElem.1 hx'
      rw [List.length_take] at hi
      rw [List.getElem_take]
      have h1 := b3 (A.length + i) (by omega) (by omega)
      rw [hp i (by omega)] at h1
      exact o.down (hu _ (List.getElem_mem _)) (by simpa using h1)
    have hd : ∀ x ∈ X.drop v, R y x := by
      intro x hx'
      obtain ⟨i, hi, rfl⟩ := List.mem_iff_getElem.1 hx'
      rw [List.length_drop] at hi
      rw [List.getElem_drop]
      have h1 := b4 (A.length + (v + i)) (by omega) (by omega)
      rw [hp (v + i) (by omega)] at h1
      exact (o.up (hu _ (List.getElem_mem _))).1 (by simpa using h1)
    have hx2 := hx
    rw [e] at hx2
    obtain ⟨p1, p2, p3⟩ := List.pairwise_append.1 hx2
    refine List.pairwise_append.2 ⟨p1, List.pairwise_cons.2 ⟨hd, p2⟩, fun s hs t ht' => ?_⟩
    rcases List.mem_cons.1 ht' with rfl | k
    · exact ht s hs
    · exact p3 s hs t k
theorem sym_at (o : Ord lt U R) (A X Y B : List α) (hx : X.Pairwise R) (hy : Y.Pairwise R) (hu : ∀ x ∈ X, ∀ y ∈ Y, U x y) (h1 : 0 < X.length) (h2 : 0 < Y.length) :
    ∃ u v, symAt lt (A ++ (X ++ (Y ++ B))) A.length (A.length + X.length) (A.length + X.length + Y.length) = A.length + u ∧ u ≤ X.length ∧ v ≤ Y.length ∧
      u + v = (X.length + Y.length) / 2 ∧ (∀ x ∈ X.take u, ∀ y ∈ Y.drop v, R x y) ∧ (∀ y ∈ Y.take v, ∀ x ∈ X.drop u, R y x) := by
  generalize hl : A ++ (X ++ (Y ++ B)) = l at *
  generalize ha : A.length = a at *
  generalize hxl : X.length = x at *
  generalize hyl : Y.length = y at *
  have hd : (a + (a + x + y)) / 2 = a + (x + y) / 2 := by omega
  have hp : ∀ c, (c1 : c < x) → (x + y) / 2 ≤ c + y → c < x → c + 1 ≤ (x + y) / 2 + x → (hq : (x + y) / 2 - 1 - c < y) → c ≤ (x + y) / 2 - 1 → 1 ≤ (x + y) / 2 →
      ltA lt l (a + (x + y) / 2 + (a + x) - 1 - (a + c)) (a + c) = lt (Y[(x + y) / 2 - 1 - c]'(by omega)) (X[c]'(by omega)) := by
    intro c c1 c2 c3 c4 hq c5 c6
    rw [show a + (x + y) / 2 + (a + x) - 1 - (a + c) = a + x + ((x + y) / 2 - 1 - c) by omega, ← hl]
    subst ha hxl
    exact lt_yx A X Y B (by omega) (by omega)
  have hR : symR (a + x) a (a + x + y) = a + min x ((x + y) / 2) := by rw [symR, hd]; split <;> omega
  have hS : symS (a + x) a (a + x + y) = a + ((x + y) / 2 - y) := by rw [symS, hd]; split <;> omega
  have hm : ∀ i j, a + ((x + y) / 2 - y) ≤ i → i ≤ j → j < a + min x ((x + y) / 2) → (!ltA lt l ((a + (a + x + y)) / 2 + (a + x) - 1 - j) j) = true → (!ltA lt l ((a + (a + x + y)) / 2 + (a + x) - 1 - i) i) = true := by
    intro i j k1 k2 k3 k4
    obtain ⟨i, rfl⟩ := Nat.exists_eq_add_of_le (show a ≤ i by omega)
    obtain ⟨j, rfl⟩ := Nat.exists_eq_add_of_le (show a ≤ j by omega)
    rw [hd, hp j (by omega) (by omega) (by omega) (by omega) (by omega) (by omega) (by omega)] at k4
    rw [hd, hp i (by omega) (by omega) (by omega) (by omega) (by omega) (by omega) (by omega)]
    have r := o.down (hu _ (List.getElem_mem (show j < X.length by omega)) _ (List.getElem_mem (show (x + y) / 2 - 1 - j < Y.length by omega))) (by simpa using k4)
    cases hc : lt (Y[(x + y) / 2 - 1 - i]'(by omega)) (X[i]'(by omega)) with
    | false => rfl
    | true =>
      have r2 := (o.up (hu _ (List.getElem_mem (show i < X.length by omega)) _ (List.getElem_mem (show (x + y) / 2 - 1 - i < Y.length by omega)))).1 hc
      have r3 : R (X[i]'(by omega)) (Y[(x + y) / 2 - 1 - j]'(by omega)) := by
        rcases pw_le hx (i := i) (j := j) (by omega) (by omega) with k | k
        · rw [k]; exact r
        · exact o.trans k r
      rcases pw_le hy (i := (x + y) / 2 - 1 - j) (j := (x + y) / 2 - 1 - i) (by omega) (by omega) with k | k
      · rw [← k] at r2; exact absurd r2 (o.asym r3)
      · exact absurd (o.trans r3 k) (o.asym r2)
  obtain ⟨b1, b2, b3, b4⟩ := bs_ok (p := fun c => !ltA lt l ((a + (a + x + y)) / 2 + (a + x) - 1 - c) c) (a + min x ((x + y) / 2) - (a + ((x + y) / 2 - y))) (a + ((x + y) / 2 - y)) (a + min x ((x + y) / 2)) (by omega) (by omega) hm
  rw [symAt, hR, hS]
  generalize hs : bs (fun c => !ltA lt l ((a + (a + x + y)) / 2 + (a + x) - 1 - c) c) (a + min x ((x + y) / 2) - (a + ((x + y) / 2 - y))) (a + ((x + y) / 2 - y)) (a + min x ((x + y) / 2)) = s at *
  obtain ⟨u, rfl⟩ := Nat.exists_eq_add_of_le (show a ≤ s by omega)
  refine ⟨u, (x + y) / 2 - u, rfl, by omega, by omega, by omega, ?_, ?_⟩
  · intro p hp' q hq'
    obtain ⟨i, hi, rfl⟩ := List.mem_iff_getElem.1 hp'
    obtain ⟨j, hj, rfl⟩ := List.mem_iff_getElem.1 hq'
    rw [List.length_take] at hi
    rw [List.length_drop] at hj
    rw [List.getElem_take, List.getElem_drop]
    have k := b3 (a + (u - 1)) (by omega) (by omega)
    rw [hd, hp (u - 1) (by omega) (by omega) (by omega) (by omega) (by omega) (by omega) (by omega)] at k
    have r := o.down (hu _ (List.getElem_mem (show u - 1 < X.length by omega)) _ (List.getElem_mem (show (x + y) / 2 - 1 - (u - 1) < Y.length by omega))) (by simpa using k)
    have r1 : R (X[i]'(by omega)) (Y[(x + y) / 2 - 1 - (u - 1)]'(by omega)) := by
      rcases pw_le hx (i := i) (j := u - 1) (by omega) (by omega) with k | k
      · rw [k]; exact r
      · exact o.trans k r
    rcases pw_le hy (i := (x + y) / 2 - 1 - (u - 1)) (j := (x + y) / 2 - u + j) (by omega) (by omega) with k | k
    · rw [← k]; exact r1
    · exact o.trans r1 k
  · intro q hq' p hp'
    obtain ⟨j, hj, rfl⟩ := List.mem_iff_getElem.1 hq'
    obtain ⟨i, hi, rfl⟩ := List.mem_iff_getElem.1 hp'
    rw [List.length_take] at hj
    rw [List.length_drop] at hi
    rw [List.getElem_take, List.getElem_drop]
    have k := b4 (a + u) (by omega) (by omega)
    rw [hd, hp u (by omega) (by omega) (by omega) (by omega) (by omega) (by omega) (by omega)] at k
    have r := (o.up (hu _ (List.getElem_mem (show u < X.length by omega)) _ (List.getElem_mem (show (x + y) / 2 - 1 - u < Y.length by omega)))).1 (by simpa using k)
    have r1 : R (Y[j]'(by omega)) (X[u]'(by omega)) := by
      rcases pw_le hy (i := j) (j := (x + y) / 2 - 1 - u) (by omega) (by omega) with k | k
      · rw [k]; exact r
      · exact o.trans k r
    rcases pw_le hx (i := u) (j := u + i) (by omega) (by omega) with k | k
    · rw [← k]; exact r1
    · exact o.trans r1 k
theorem symM_ok (o : Ord lt U R) : ∀ (f : Nat) (A X Y B : List α), 0 < X.length → 0 < Y.length → X.length + Y.length ≤ f + 1 → X.Pairwise R → Y.Pairwise R → (∀ x ∈ X, ∀ y ∈ Y, U x y) →
    ∃ Z, symM lt f (A ++ (X ++ (Y ++ B))) A.length (A.length + X.length) (A.length + X.length + Y.length) = A ++ (Z ++ B) ∧ Z.Perm (X ++ Y) ∧ Z.Pairwise R
  | 0, A, X, Y, B, h1, h2, h3, hx, hy, hu => by omega
  | f + 1, A, X, Y, B, h1, h2, h3, hx, hy, hu => by
    rw [symM]
    by_cases c1 : A.length + X.length = A.length + 1
    · rw [if_pos c1]
      obtain ⟨x, rfl⟩ := List.length_eq_one_iff.1 (show X.length = 1 by omega)
      have := sym_left o A x Y B hy (hu x (by simp))
      rw [List.length_singleton, Nat.add_sub_cancel_left]
      exact this
    rw [if_neg c1]
    by_cases c2 : A.length + X.length + Y.length = A.length + X.length + 1
    · rw [if_pos c2]
      obtain ⟨y, rfl⟩ := List.length_eq_one_iff.1 (show Y.length = 1 by omega)
      have := sym_right o A X y B hx (fun x hx => hu x hx y (by simp))
      rw [Nat.add_sub_cancel_left]
      exact this
    rw [if_neg c2]
    obtain ⟨u, v, e0, hu1, hv1, huv, f1, f2⟩ := sym_at o A X Y B hx hy hu h1 h2
    simp only [e0]
    rw [show (A.length + (A.length + X.length + Y.length)) / 2 = A.length + (u + v) by omega]
    rw [show A.length + (u + v) + (A.length + X.length) - (A.length + u) = A.length + X.length + v by omega]
    have ex : X = X.take u ++ X.drop u := (List.take_append_drop u X).symm
    have ey : Y = Y.take v ++ Y.drop v := (List.take_append_drop v Y).symm
    have lx1 : (X.take u).length = u := by rw [List.length_take]; omega
    have lx2 : (X.drop u).length = X.length - u := List.length_drop
    have ly1 : (Y.take v).length = v := by rw [List.length_take]; omega
    have ly2 : (Y.drop v).length = Y.length - v := List.length_drop
    generalize hxl : X.length = xl at *
    generalize hyl : Y.length = yl at *
    generalize X.take u = X1 at *
    generalize X.drop u = X2 at *
    generalize Y.take v = Y1 at *
    generalize Y.drop v = Y2 at *
    subst ex ey
    obtain ⟨px1, px2, px3⟩ := List.pairwise_append.1 hx
    obtain ⟨py1, py2, py3⟩ := List.pairwise_append.1 hy
    have t : symT (A ++ (X1 ++ X2 ++ (Y1 ++ Y2 ++ B))) (A.length + xl) (A.length + u) (A.length + xl + v) = A ++ (X1 ++ (Y1 ++ (X2 ++ (Y2 ++ B)))) := by
      unfold symT
      split
      · have := rot_ok (X2.length + Y1.length) (A ++ X1) X2 Y1 (Y2 ++ B) (by omega) (by omega) (by omega)
        rw [List.length_append, lx1, lx2, ly1] at this
        rw [show A.length + u + (xl - u) = A.length + xl by omega] at this
        rw [show A.length + xl + v - (A.length + u) = xl - u + v by omega, show A.length + xl - (A.length + u) = xl - u by omega, show A.length + xl + v - (A.length + xl) = v by omega]
        simp only [List.append_assoc] at this ⊢
        exact this
      · rename_i k
        have : X2 = [] ∨ Y1 = [] := by
          rcases Nat.eq_zero_or_pos X2.length with k1 | k1
          · exact .inl (List.length_eq_zero_iff.1 k1)
          · exact .inr (List.length_eq_zero_iff.1 (by omega))
        rcases this with rfl | rfl <;> simp
    rw [t]
    obtain ⟨Z1, z1, z2, z3⟩ : ∃ Z1, (if A.length < A.length + u ∧ A.length + u < A.length + (u + v) then symM lt f (A ++ (X1 ++ (Y1 ++ (X2 ++ (Y2 ++ B))))) A.length (A.length + u) (A.length + (u + v)) else A ++ (X1 ++ (Y1 ++ (X2 ++ (Y2 ++ B))))) = A ++ (Z1 ++ (X2 ++ (Y2 ++ B))) ∧ Z1.Perm (X1 ++ Y1) ∧ Z1.Pairwise R := by
      split
      · have := symM_ok o f A X1 Y1 (X2 ++ (Y2 ++ B)) (by omega) (by omega) (by omega) px1 py1 (fun x hx y hy => hu x (by simp [hx]) y (by simp [hy]))
        rw [lx1, ly1, Nat.add_assoc] at this
        exact this
      · rename_i k
        refine ⟨X1 ++ Y1, by simp, List.Perm.refl _, ?_⟩
        rcases Nat.eq_zero_or_pos X1.length with k1 | k1
        · rw [List.length_eq_zero_iff.1 k1]; simpa using py1
        · rw [List.length_eq_zero_iff.1 (show Y1.length = 0 by omega), List.append_nil]; exact px1
    rw [z1]
    have lz : Z1.length = u + v := by rw [z2.length_eq, List.length_append, lx1, ly1]
    obtain ⟨Z2, w1, w2, w3⟩ : ∃ Z2, (if A.length + (u + v) < A.length + xl + v ∧ A.length + xl + v < A.length + xl + yl then symM lt f (A ++ (Z1 ++ (X2 ++ (Y2 ++ B)))) (A.length + (u + v)) (A.length + xl + v) (A.length + xl + yl) else A ++ (Z1 ++ (X2 ++ (Y2 ++ B)))) = A ++ (Z1 ++ (Z2 ++ B)) ∧ Z2.Perm (X2 ++ Y2) ∧ Z2.Pairwise R := by
      split
      · have := symM_ok o f (A ++ Z1) X2 Y2 B (by omega) (by omega) (by omega) px2 py2 (fun x hx y hy => hu x (by simp [hx]) y (by simp [hy]))
        rw [lx2, ly2, List.length_append, lz, show A.length + (u + v) + (xl - u) = A.length + xl + v by omega, show A.length + xl + v + (yl - v) = A.length + xl + yl by omega] at this
        simp only [List.append_assoc] at this
        exact this
      · rename_i k
        refine ⟨X2 ++ Y2, by simp, List.Perm.refl _, ?_⟩
        rcases Nat.eq_zero_or_pos X2.length with k1 | k1
        · rw [List.length_eq_zero_iff.1 k1]; simpa using py2
        · rw [List.length_eq_zero_iff.1 (show Y2.length = 0 by omega), List.append_nil]; exact px2
    refine ⟨Z1 ++ Z2, by rw [w1]; simp, ?_, List.pairwise_append.2 ⟨z3, w3, fun s hs t ht => ?_⟩⟩
    · refine (z2.append w2).trans ?_
      have : (X1 ++ Y1 ++ (X2 ++ Y2)).Perm (X1 ++ X2 ++ (Y1 ++ Y2)) := by
        rw [List.append_assoc, List.append_assoc]
        refine List.Perm.append_left X1 ?_
        rw [← List.append_assoc, ← List.append_assoc]
        exact List.Perm.append_right Y2 (List.perm_append_comm)
      exact this
    · rcases List.mem_append.1 (z2.mem_iff.1 hs) with k | k <;> rcases List.mem_append.1 (w2.mem_iff.1 ht) with k' | k'
      · exact px3 s k t k'
      · exact f1 s k t k'
      · exact f2 s k t k'
      · exact py3 s k t k'
end
end Go.VM.SM

namespace Go.VM.SM
set_option linter.unusedVariables false
set_option linter.unusedSimpArgs false
variable {α : Type}
def posD (lt : α → α → Bool) (M : List α) (x : α) : Nat → Nat
  | 0 => 0
  | k + 1 => if (M[k]?.map fun y => lt x y) = some true then posD lt M x k else k + 1
def insM (lt : α → α → Bool) (M : List α) (x : α) : List α := M.take (posD lt M x M.length) ++ x :: M.drop (posD lt M x M.length)
def sortI (lt : α → α → Bool) (L : List α) : List α := L.foldl (insM lt) []
def stab (lt : α → α → Bool) (L : List α) : List α :=
  if 20 < L.length then symM lt 100 (insS lt 20 (insS lt 0 L 19) (L.length - 21)) 0 20 L.length else insS lt 0 L (L.length - 1)
section
variable {lt : α → α → Bool} {U R : α → α → Prop}
theorem posD_ok (M : List α) (x : α) : ∀ k, k ≤ M.length → posD lt M x k ≤ k ∧ (∀ i (h : i < M.length), posD lt M x k ≤ i → i < k → lt x M[i] = true) ∧ ∀ i, i + 1 = posD lt M x k → ∃ h : i < M.length, lt x M[i] = false
  | 0, _ => ⟨Nat.le_refl _, fun i h h1 h2 => by omega, fun i h => by simp [posD] at h⟩
  | k + 1, hk => by
    have hlt : k < M.length := hk
    rw [posD, List.getElem?_eq_getElem hlt, Option.map_some]
    obtain ⟨h1, h2, h3⟩ := posD_ok M x k (by omega)
    cases hc : lt x M[k] with
    | true =>
      rw [if_pos rfl]
      refine ⟨by omega, fun i hi a b => ?_, h3⟩
      rcases Nat.lt_or_ge i k with c | c
      · exact h2 i hi a c
      · have : i = k := by omega
        subst this; exact hc
    | false =>
      rw [if_neg (by simp)]
      exact ⟨Nat.le_refl _, fun i hi a b => by omega, fun i hi => by
        have : i = k := by omega
        subst this; exact ⟨hlt, hc⟩⟩
theorem insM_ok (o : Ord lt U R) {M : List α} {x : α} (hM : M.Pairwise R) (hu : ∀ m ∈ M, U m x) : (insM lt M x).Perm (M ++ [x]) ∧ (insM lt M x).Pairwise R := by
  obtain ⟨h1, h2, h3⟩ := posD_ok (lt := lt) M x M.length (Nat.le_refl _)
  unfold insM
  generalize posD lt M x M.length = p at *
  refine ⟨?_, ?_⟩
  · refine List.perm_middle.trans ?_
    rw [List.take_append_drop]
    exact (List.perm_append_singleton x M).symm
  · have e : M = M.take p ++ M.drop p := (List.take_append_drop p M).symm
    have hM2 := hM
    rw [e] at hM2
    obtain ⟨p1, p2, p3⟩ := List.pairwise_append.1 hM2
    have ht : ∀ m ∈ M.take p, R m x := by
      intro m hm
      obtain ⟨i, hi, rfl⟩ := List.mem_iff_getElem.1 hm
      rw [List.length_take] at hi
      rw [List.getElem_take]
      obtain ⟨hp, hq⟩ := h3 (p - 1) (by omega)
      have r := o.down (hu _ (List.getElem_mem hp)) hq
      rcases pw_le hM (i := i) (j := p - 1) hp (by omega) with k | k
      · rw [k]; exact r
      · exact o.trans k r
    have hd : ∀ m ∈ M.drop p, R x m := by
      intro m hm
      obtain ⟨i, hi, rfl⟩ := List.mem_iff_getElem.1 hm
      rw [List.length_drop] at hi
      rw [List.getElem_drop]
      exact (o.up (hu _ (List.getElem_mem _))).1 (h2 (p + i) (by omega) (by omega) (by omega))
    refine List.pairwise_append.2 ⟨p1, List.pairwise_cons.2 ⟨hd, p2⟩, fun s hs t ht' => ?_⟩
    rcases List.mem_cons.1 ht' with rfl | k
    · exact ht s hs
    · exact p3 s hs t k
theorem foldl_ins (o : Ord lt U R) : ∀ (L M : List α), M.Pairwise R → (∀ m ∈ M, ∀ x ∈ L, U m x) → L.Pairwise U → (L.foldl (insM lt) M).Perm (M ++ L) ∧ (L.foldl (insM lt) M).Pairwise R
  | [], M, hM, hu, hL => ⟨by simp, hM⟩
  | x :: L, M, hM, hu, hL => by
    obtain ⟨h1, h2⟩ := insM_ok o hM (fun m hm => hu m hm x (by simp))
    have hL' := List.pairwise_cons.1 hL
    obtain ⟨h3, h4⟩ := foldl_ins o L (insM lt M x) h2 (fun m hm y hy => by
      rcases List.mem_append.1 (h1.mem_iff.1 hm) with k | k
      · exact hu m k y (by simp [hy])
      · rw [List.mem_singleton] at k; subst k; exact hL'.1 y hy) hL'.2
    refine ⟨?_, h4⟩
    refine h3.trans ((h1.append_right L).trans ?_)
    simp
theorem sortI_ok (o : Ord lt U R) {L : List α} (hL : L.Pairwise U) : (sortI lt L).Perm L ∧ (sortI lt L).Pairwise R := by
  have := foldl_ins o L [] List.Pairwise.nil (fun m hm => by cases hm) hL
  simpa [sortI] using this
theorem stab_ok (o : Ord lt U R) {L : List α} (hL : L.Pairwise U) (h30 : L.length ≤ 30) : (stab lt L).Perm L ∧ (stab lt L).Pairwise R := by
  unfold stab
  split
  · rename_i h
    have e : L = L.take 20 ++ L.drop 20 := (List.take_append_drop 20 L).symm
    have l1 : (L.take 20).length = 20 := by rw [List.length_take]; omega
    have l2 : (L.drop 20).length = L.length - 20 := List.length_drop
    have hu := hL
    generalize hn : L.length = n at *
    generalize L.take 20 = X at *
    generalize L.drop 20 = Y at *
    subst e
    obtain ⟨u1, u2, u3⟩ := List.pairwise_append.1 hu
    obtain ⟨Z, z1, z2, z3⟩ := insS_ok o [] 19 X Y l1 u1
    rw [List.length_nil, List.nil_append, List.nil_append] at z1
    rw [z1]
    have lz : Z.length = 20 := by rw [z2.length_eq, l1]
    obtain ⟨W, w1, w2, w3⟩ := insS_ok o Z (n - 21) Y [] (by omega) u2
    rw [List.append_nil, List.append_nil, lz] at w1
    rw [w1]
    obtain ⟨V, v1, v2, v3⟩ := symM_ok o 100 [] Z W [] (by omega) (by rw [w2.length_eq]; omega) (by rw [lz, w2.length_eq]; omega) z3 w3 (fun x hx y hy => u3 x (z2.mem_iff.1 hx) y (w2.mem_iff.1 hy))
    rw [List.length_nil, List.nil_append, List.append_nil, List.append_nil, List.nil_append, Nat.zero_add, lz, w2.length_eq, l2, show 20 + (n - 20) = n by omega] at v1
    rw [v1]
    exact ⟨v2.trans (z2.append w2), v3⟩
  · match L, hL with
    | [], _ => exact ⟨List.Perm.refl _, List.Pairwise.nil⟩
    | x :: L, hL =>
      obtain ⟨Z, z1, z2, z3⟩ := insS_ok o [] L.length (x :: L) [] rfl hL
      rw [List.length_nil, List.nil_append, List.nil_append, List.append_nil, List.append_nil] at z1
      rw [List.length_cons, Nat.add_sub_cancel, z1]
      exact ⟨z2, z3⟩
theorem stab_eq (o : Ord lt U R) {L : List α} (hL : L.Pairwise U) (h30 : L.length ≤ 30) : stab lt L = sortI lt L := by
  obtain ⟨a1, a2⟩ := stab_ok o hL h30
  obtain ⟨b1, b2⟩ := sortI_ok o hL
  exact List.Perm.eq_of_pairwise (fun x y _ _ h1 h2 => absurd h2 (o.asym h1)) a2 b2 (a1.trans b1.symm)
end
end Go.VM.SM

namespace Go.Proofs.YtghmjnggmacohaaGreatDoor.L
open Go Go.VM
set_option maxRecDepth 100000
set_option maxHeartbeats 4000000
set_option linter.unusedSimpArgs false
set_option linter.unusedVariables false
def cmpT (a b : List UInt8) : Int := if Op.bytesLess a b = true then -1 else if (!(Op.bytesLess a b || a == b)) = true then 1 else 0
theorem cmpT_neg (a b : List UInt8) : cmpT a b < 0 ↔ Op.bytesLess a b = true := by
  unfold cmpT
  split
  · rename_i h; exact ⟨fun _ => h, fun _ => by decide⟩
  · rename_i h
    split
    · exact ⟨fun k => absurd k (by decide), fun k => absurd k h⟩
    · exact ⟨fun k => absurd k (by decide), fun k => absurd k h⟩
def ltS (x y : Mail) : Bool := Op.bytesLess (subjectOf x) (subjectOf y)
theorem ltS_t {x y : Mail} (h : ltS x y = true) : cmpT (subjectOf x) (subjectOf y) < 0 := (cmpT_neg _ _).2 h
theorem ltS_f {x y : Mail} (h : ltS x y = false) : ¬ cmpT (subjectOf x) (subjectOf y) < 0 := fun k => by have := (cmpT_neg _ _).1 k; rw [ltS] at h; rw [h] at this; cases this
def mailsLe (l : List Mail) : Prop := ∀ m ∈ l, Mail.le 4194304 m
theorem sw_le {l : List Mail} {i j : Nat} (h : mailsLe l) : mailsLe (SM.sw l i j) := by
  unfold SM.sw
  split
  · rename_i x y hx hy
    intro m hm
    rcases List.mem_or_eq_of_mem_set hm with hm | rfl
    · rcases List.mem_or_eq_of_mem_set hm with hm | rfl
      · exact h m hm
      · exact h _ (List.mem_of_getElem? hy)
    · exact h _ (List.mem_of_getElem? hx)
  · exact h
theorem sw_map {l : List Mail} {i j : Nat} {x y : Mail} (hi : l[i]? = some x) (hj : l[j]? = some y) : (SM.sw l i j).map Mail.enc = ((l.map Mail.enc).set i y.enc).set j x.enc := by
  unfold SM.sw
  rw [hi, hj]
  simp only [List.map_set]
theorem set_get {M : List Mail} {u v : Nat} (hv : v < M.length) (X : V) : ((M.map Mail.enc).set u X)[v]? = some (if u = v then X else Mail.enc M[v]) := by
  rw [List.getElem?_set, List.length_map, List.getElem?_map, List.getElem?_eq_getElem hv, Option.map_some]
  split
  · rename_i h; subst h; rw [if_pos hv]
  · rfl
open Classical in
noncomputable def spNaN : VM.Spec := { modes := [.rd], run := fun | [.str x] => some (.bool false, []) | _ => none, need := [] }
attribute [go_sem] spNaN
theorem spNaN_in {ins : List V} {r : V} {outs : List V} (h : spNaN.run ins = some (r, outs)) : ∃ (x : (List UInt8)), ins = [.str x] ∧ .bool false = r ∧ outs = [] := by
  unfold spNaN at h
  simp only at h
  split at h
  · rename_i x
    simp only [Option.some.injEq, Prod.mk.injEq] at h
    obtain ⟨h1, h2⟩ := h
    exact ⟨x, rfl, h1, h2.symm⟩
  · cases h
def T_cmp_isNaN_string : Hints := ⟨lk [], lk [], lk [(0, [0]), (1, [2])], lk [], lf []⟩
noncomputable def Phi_cmp_isNaN_string : Tab := lk []
attribute [go_sem] T_cmp_isNaN_string Phi_cmp_isNaN_string
theorem phi_cmp_isNaN_string : ∀ f sp, Phi_cmp_isNaN_string f = some sp → FnOk Tryz.prog f sp ∧ ∀ n ∈ sp.need, n ∈ ([] : List String) := phi_nil
theorem ok_cmp_isNaN_string : FnOk Tryz.prog 62 spNaN := by
  refine fn_ok (Φ := Phi_cmp_isNaN_string) (T := T_cmp_isNaN_string) phi_cmp_isNaN_string mixed Tryz.func62 rfl rfl rfl (by decide) ?_
  intro ins r outs hr hl
  clear hl
  have hs := spNaN_in hr
  clear hr
  obtain ⟨x, rfl, hr, rfl⟩ := hs
  simp only [spNaN, Tryz.f62, Go.VM.initS]
  simp only [bne_self_eq_false, go_sem]
  repeat' ((first | apply qa | apply qb | apply qc | apply qd | apply qe | apply qf | apply qg | apply qh | apply qi | apply qj | apply qk) <;> intro hp <;> simp only [hp, bne_self_eq_false, go_sem])
  simp only [fin_mk, finV, resL, resV1, resIn, endA, listIn, Option.some_or, Option.none_or, oneOrTup, go_sem]
  rw [← hr]
open Classical in
noncomputable def spCmpT : VM.Spec := { modes := [.rd, .rd], run := fun | [.str x, .str y] => some (.int .i64 (cmpT x y), []) | _ => none, need := [] }
attribute [go_sem] spCmpT
theorem spCmpT_in {ins : List V} {r : V} {outs : List V} (h : spCmpT.run ins = some (r, outs)) : ∃ (x : (List UInt8)) (y : (List UInt8)), ins = [.str x, .str y] ∧ .int .i64 (cmpT x y) = r ∧ outs = [] := by
  unfold spCmpT at h
  simp only at h
  split at h
  · rename_i x y
    simp only [Option.some.injEq, Prod.mk.injEq] at h
    obtain ⟨h1, h2⟩ := h
    exact ⟨x, y, rfl, h1, h2.symm⟩
  · cases h
def T_cmp_Compare_string : Hints := ⟨lk [], lk [], lk [(0, [0, 1]), (1, [0, 1, 5]), (2, [0, 1, 5, 6]), (3, [0, 1, 6, 11]), (4, [12]), (5, [4]), (6, [4]), (7, [0, 1, 13]), (8, [4]), (9, [0, 1, 16]), (10, [4]), (11, [19]), (12, [4]), (13, [4])], lk [], lf []⟩
noncomputable def Phi_cmp_Compare_string : Tab := lk [(62, spNaN)]
attribute [go_sem] T_cmp_Compare_string Phi_cmp_Compare_string
theorem phi_cmp_Compare_string : ∀ f sp, Phi_cmp_Compare_string f = some sp → FnOk Tryz.prog f sp ∧ ∀ n ∈ sp.need, n ∈ ([] : List String) := phi_cons ok_cmp_isNaN_string (n0 rfl) (phi_nil)
theorem ok_cmp_Compare_string : FnOk Tryz.prog 37 spCmpT := by
  refine fn_ok (Φ := Phi_cmp_Compare_string) (T := T_cmp_Compare_string) phi_cmp_Compare_string mixed Tryz.func37 rfl rfl rfl (by decide) ?_
  intro ins r outs hr hl
  clear hl
  have hs := spCmpT_in hr
  clear hr
  obtain ⟨x, y, rfl, hr, rfl⟩ := hs
  simp only [spCmpT, Tryz.f37, Go.VM.initS]
  cases h1 : Op.bytesLess x y with
  | true =>
    simp only [h1, go_sem]
    repeat' ((first | apply qa | apply qb | apply qc | apply qd | apply qe | apply qf | apply qg | apply qh | apply qi | apply qj | apply qk) <;> intro hp <;> simp only [hp, h1, go_sem])
    simp only [fin_mk, finV, resL, resV1, resIn, endA, listIn, Option.some_or, Option.none_or, oneOrTup, go_sem]
    rw [← hr]
    simp only [cmpT, h1, if_true]
  | false =>
    cases h2 : (x == y) with
    | true =>
      simp only [h1, h2, Bool.or_true, Bool.or_false, Bool.false_or, Bool.not_true, Bool.not_false, go_sem]
      repeat' ((first | apply qa | apply qb | apply qc | apply qd | apply qe | apply qf | apply qg | apply qh | apply qi | apply qj | apply qk) <;> intro hp <;> simp only [hp, h1, h2, Bool.or_true, Bool.or_false, Bool.false_or, Bool.not_true, Bool.not_false, go_sem])
      simp only [fin_mk, finV, resL, resV1, resIn, endA, listIn, Option.some_or, Option.none_or, oneOrTup, go_sem]
      rw [← hr]
      simp only [cmpT, h1, h2, Bool.or_true, Bool.not_true, Bool.false_eq_true, if_false]
    | false =>
      simp only [h1, h2, Bool.or_true, Bool.or_false, Bool.false_or, Bool.not_true, Bool.not_false, go_sem]
      repeat' ((first | apply qa | apply qb | apply qc | apply qd | apply qe | apply qf | apply qg | apply qh | apply qi | apply qj | apply qk) <;> intro hp <;> simp only [hp, h1, h2, Bool.or_true, Bool.or_false, Bool.false_or, Bool.not_true, Bool.not_false, go_sem])
      simp only [fin_mk, finV, resL, resV1, resIn, endA, listIn, Option.some_or, Option.none_or, oneOrTup, go_sem]
      rw [← hr]
      simp only [cmpT, h1, h2, Bool.or_false, Bool.not_false, Bool.false_eq_true, if_false, if_true]
open Classical in
noncomputable def spCmpM : VM.Spec := { modes := [.rd, .rd], run := fun | [x', y'] => (Mail.dec x').bind fun x => (Mail.dec y').bind fun y => if x.le 4194304 ∧ y.le 4194304 then some (.int .i64 (cmpT (subjectOf x) (subjectOf y)), []) else none | _ => none, need := ["internal/bytealg.MaxLen"] }
attribute [go_sem] spCmpM
theorem spCmpM_in {ins : List V} {r : V} {outs : List V} (h : spCmpM.run ins = some (r, outs)) : ∃ (x : Mail) (y : Mail), ins = [Mail.enc x, Mail.enc y] ∧ (x.le 4194304 ∧ y.le 4194304) ∧ .int .i64 (cmpT (subjectOf x) (subjectOf y)) = r ∧ outs = [] := by
  unfold spCmpM at h
  simp only at h
  split at h
  · rename_i x' y'
    simp only [Option.bind_eq_some_iff] at h
    obtain ⟨x, h_x, y, h_y, h⟩ := h
    split at h
    case isFalse => cases h
    rename_i hc
    simp only [Option.some.injEq, Prod.mk.injEq] at h
    obtain ⟨h1, h2⟩ := h
    have h_x := Mail.dec_some h_x
    subst h_x
    have h_y := Mail.dec_some h_y
    subst h_y
    exact ⟨x, y, rfl, hc, h1, h2.symm⟩
  · cases h
def T_impl_SortBySubject_1 : Hints := ⟨lk [(1, [(1, 2)])], lk [], lk [(0, [2, 3]), (1, [4])], lk [], lf []⟩
noncomputable def Phi_impl_SortBySubject_1 : Tab := lk [(38, spSubjectOf), (37, spCmpT)]
attribute [go_sem] T_impl_SortBySubject_1 Phi_impl_SortBySubject_1
theorem phi_impl_SortBySubject_1 : ∀ f sp, Phi_impl_SortBySubject_1 f = some sp → FnOk Tryz.prog f sp ∧ ∀ n ∈ sp.need, n ∈ (["internal/bytealg.MaxLen"] : List String) := phi_cons ok_impl_subjectOf (fun n (h : n ∈ (["internal/bytealg.MaxLen"] : List String)) => by simp only [List.mem_cons, List.not_mem_nil, or_false] at h; rcases h with rfl <;> simp) (phi_cons ok_cmp_Compare_string (n0 rfl) (phi_nil))
theorem ok_impl_SortBySubject_1 : FnOk Tryz.prog 36 spCmpM := by
  refine fn_ok (Φ := Phi_impl_SortBySubject_1) (T := T_impl_SortBySubject_1) phi_impl_SortBySubject_1 mixed Tryz.func36 rfl rfl rfl (by decide) ?_
  intro ins r outs hr hl
  clear hl
  have hs := spCmpM_in hr
  clear hr
  obtain ⟨x, y, rfl, hc, hr, rfl⟩ := hs
  simp only [spCmpM, Tryz.f36, Go.VM.initS]
  obtain ⟨hx, hy⟩ := hc
  simp only [hx, hy, go_sem]
  repeat' ((first | ((first | apply qa | apply qb | apply qc | apply qd | apply qe | apply qf | apply qg | apply qh | apply qi | apply qj | apply qk) <;> intro hp) | ((first | refine ql rfl rfl (by decide +kernel) ?_ | refine qm _ rfl rfl (by decide +kernel) ?_) <;> have hp := True.intro)) <;> simp only [hp, hx, hy, go_sem])
  simp only [fin_mk, finV, resL, resV1, resIn, endA, listIn, Option.some_or, Option.none_or, oneOrTup, go_sem]
  rw [← hr]
open Classical in
noncomputable def spSwR : VM.Spec := { modes := [.io, .rd, .rd, .rd, .rd], run := fun | [.lst 4 l', .int .i64 a, .int .i64 b, .int .i64 n, .fn 36 []] => (decL Mail.dec l').bind fun l => if (0 ≤ a ∧ 0 ≤ b ∧ 0 ≤ n) ∧ a + n ≤ l.length ∧ b + n ≤ l.length ∧ l.length ≤ 30 ∧ mailsLe l then some (.tup [], [.lst 4 ((SM.swR l a.toNat b.toNat n.toNat).map Mail.enc)]) else none | _ => none, need := [] }
attribute [go_sem] spSwR
theorem spSwR_in {ins : List V} {r : V} {outs : List V} (h : spSwR.run ins = some (r, outs)) : ∃ (l : (List Mail)) (a : Int) (b : Int) (n : Int), ins = [.lst 4 ((l).map Mail.enc), .int .i64 a, .int .i64 b, .int .i64 n, .fn 36 []] ∧ ((0 ≤ a ∧ 0 ≤ b ∧ 0 ≤ n) ∧ a + n ≤ l.length ∧ b + n ≤ l.length ∧ l.length ≤ 30 ∧ mailsLe l) ∧ .tup [] = r ∧ outs = [.lst 4 ((SM.swR l a.toNat b.toNat n.toNat).map Mail.enc)] := by
  unfold spSwR at h
  simp only at h
  split at h
  · rename_i l' a b n
    simp only [Option.bind_eq_some_iff] at h
    obtain ⟨l, h_l, h⟩ := h
    split at h
    case isFalse => cases h
    rename_i hc
    simp only [Option.some.injEq, Prod.mk.injEq] at h
    obtain ⟨h1, h2⟩ := h
    have h_l := decL_some (fun _ _ h => Mail.dec_some h) h_l
    subst h_l
    exact ⟨l, a, b, n, rfl, hc, h1, h2.symm⟩
  · cases h
def T_slices_swapRangeCmpFunc_loop_example_g00247_impl_Mail : Hints := ⟨lk [(3, [])], lk [(1, [0, 1, 2, 3, 10])], lk [(0, [0, 1, 2, 3, 10]), (1, [0, 1, 2, 3, 10, 13]), (3, [0, 1, 2, 3, 10]), (2, [0, 1, 2, 3, 10])], lk [], lf []⟩
noncomputable def Phi_slices_swapRangeCmpFunc_loop_example_g00247_impl_Mail : Tab := lk []
attribute [go_sem] T_slices_swapRangeCmpFunc_loop_example_g00247_impl_Mail Phi_slices_swapRangeCmpFunc_loop_example_g00247_impl_Mail
theorem phi_slices_swapRangeCmpFunc_loop_example_g00247_impl_Mail : ∀ f sp, Phi_slices_swapRangeCmpFunc_loop_example_g00247_impl_Mail f = some sp → FnOk Tryz.prog f sp ∧ ∀ n ∈ sp.need, n ∈ ([] : List String) := phi_nil
theorem ok_slices_swapRangeCmpFunc_loop_example_g00247_impl_Mail : FnOk Tryz.prog 118 spSwR := by
  refine fn_ok (Φ := Phi_slices_swapRangeCmpFunc_loop_example_g00247_impl_Mail) (T := T_slices_swapRangeCmpFunc_loop_example_g00247_impl_Mail) phi_slices_swapRangeCmpFunc_loop_example_g00247_impl_Mail mixed Tryz.func118 rfl rfl rfl (by decide) ?_
  intro ins r outs hr hl
  clear hl
  have hs := spSwR_in hr
  clear hr
  obtain ⟨l, a, b, n, rfl, hc, hr, rfl⟩ := hs
  simp only [spSwR, Tryz.f118, Go.VM.initS]
  obtain ⟨⟨ha, hb, hn⟩, h1, h2, h3, hm⟩ := hc
  obtain ⟨a, rfl⟩ : ∃ k : Nat, a = k := ⟨a.toNat, by omega⟩
  obtain ⟨b, rfl⟩ : ∃ k : Nat, b = k := ⟨b.toNat, by omega⟩
  obtain ⟨n, rfl⟩ : ∃ k : Nat, n = k := ⟨n.toNat, by omega⟩
  simp only [Int.toNat_natCast]
  simp only [go_sem]
  refine loop_go (fun p : Nat × List Mail => [(10, .int .i64 (p.1 : Int))]) (fun p => [(0, ⟨.arr, 4, p.2.map Mail.enc⟩)]) (fun p => n - p.1) (fun p => p.1 ≤ n ∧ p.2 = SM.swR l a b p.1) (0, l) ⟨Nat.zero_le _, rfl⟩ rfl rfl ?_
  rintro ⟨i, M⟩ ⟨hi, hM⟩ ih
  simp only at hi hM ih
  have hl : M.length = l.length := by rw [hM, SM.swR_len]
  rcases Nat.lt_or_ge i n with h | h
  · have g1 : (i : Int) < n := by omega
    have w1 : IntKind.i64.wrap ((a : Int) + i) = ((a + i : Nat) : Int) := (wrap64 (by omega) (by omega)).trans (by omega)
    have w2 : IntKind.i64.wrap ((b : Int) + i) = ((b + i : Nat) : Int) := (wrap64 (by omega) (by omega)).trans (by omega)
    have g5 : IntKind.i64.wrap ((i : Int) + 1) = ((i + 1 : Nat) : Int) := wrap_succ h (by omega)
    have ih' := ih (i + 1, SM.sw M (a + i) (b + i)) ⟨h, by rw [SM.swR, hM]⟩ (by simp only; omega)
    clear ih
    obtain ⟨u, hu⟩ : ∃ u : Nat, u = a + i := ⟨_, rfl⟩
    obtain ⟨v, hv⟩ : ∃ v : Nat, v = b + i := ⟨_, rfl⟩
    rw [← hu] at w1 ih'
    rw [← hv] at w2 ih'
    have g2 : (0 : Int) ≤ u := by omega
    have g3 : (0 : Int) ≤ v := by omega
    have g6 : (u : Int) < M.length := by omega
    have g7 : (v : Int) < M.length := by omega
    have g8 : M[u]? = some M[u] := List.getElem?_eq_getElem (by omega)
    have g9 : M[v]? = some M[v] := List.getElem?_eq_getElem (by omega)
    simp only [sw_map g8 g9, Mail.enc] at ih'
    have g10 := set_get (u := u) (show v < M.length by omega)
    simp only [g1, w1, w2, g5, g2, g3, g6, g7, g8, g9, g10, List.length_set, List.length_map, go_sem]
    repeat' ((first | ((first | apply qa | apply qb | apply qc | apply qd | apply qe | apply qf | apply qg | apply qh | apply qi | apply qj | apply qk) <;> intro hp) | ((first | refine ql rfl rfl (by decide +kernel) ?_ | refine qm _ rfl rfl (by decide +kernel) ?_) <;> have hp := True.intro)) <;> simp only [hp, g1, w1, w2, g5, g2, g3, g6, g7, g8, g9, g10, List.length_set, List.length_map, go_sem])
    exact ih'
  · have g1 : ¬ (i : Int) < n := by omega
    have e : i = n := by omega
    subst e
    simp only [g1, go_sem]
    simp only [fin_mk, finV, resL, resV1, resIn, endA, listIn, Option.some_or, Option.none_or, oneOrTup, go_sem]
    rw [← hr]
    rw [hM]
end Go.Proofs.YtghmjnggmacohaaGreatDoor.L

namespace Go.Proofs.YtghmjnggmacohaaGreatDoor.L
open Go Go.VM
set_option maxRecDepth 100000
set_option maxHeartbeats 4000000
set_option linter.unusedSimpArgs false
set_option linter.unusedVariables false
theorem swR_le {l : List Mail} {a b : Nat} (h : mailsLe l) : ∀ n, mailsLe (SM.swR l a b n)
  | 0 => h
  | n + 1 => sw_le (swR_le h n)
theorem rot_le {m : Nat} : ∀ (f : Nat) {l : List Mail} {i j : Nat}, mailsLe l → mailsLe (SM.rot m f l i j)
  | 0, l, i, j, h => h
  | f + 1, l, i, j, h => by
    rw [SM.rot]
    repeat' split
    · exact swR_le h _
    · exact rot_le f (swR_le h _)
    · exact rot_le f (swR_le h _)
theorem rot_len {m : Nat} : ∀ (f : Nat) {l : List Mail} {i j : Nat}, (SM.rot m f l i j).length = l.length
  | 0, l, i, j => rfl
  | f + 1, l, i, j => by
    rw [SM.rot]
    repeat' split
    · exact SM.swR_len _ _ _ _
    · rw [rot_len f, SM.swR_len]
    · rw [rot_len f, SM.swR_len]
theorem sink_le {a : Nat} : ∀ (j : Nat) {l : List Mail}, mailsLe l → mailsLe (SM.sink ltS a l j)
  | 0, l, h => h
  | j + 1, l, h => by
    rw [SM.sink]
    split
    · exact sink_le j (sw_le h)
    · exact h
theorem insS_le {a : Nat} {l : List Mail} (h : mailsLe l) : ∀ n, mailsLe (SM.insS ltS a l n)
  | 0 => h
  | n + 1 => sink_le _ (insS_le h n)
open Classical in
noncomputable def spRot : VM.Spec := { modes := [.io, .rd, .rd, .rd, .rd], run := fun | [.lst 4 l', .int .i64 a, .int .i64 m, .int .i64 b, .fn 36 []] => (decL Mail.dec l').bind fun l => if (0 ≤ a ∧ a < m ∧ m < b) ∧ b ≤ l.length ∧ l.length ≤ 30 ∧ mailsLe l then some (.tup [], [.lst 4 ((SM.rot m.toNat (b.toNat - a.toNat) l (m.toNat - a.toNat) (b.toNat - m.toNat)).map Mail.enc)]) else none | _ => none, need := [] }
attribute [go_sem] spRot
theorem spRot_in {ins : List V} {r : V} {outs : List V} (h : spRot.run ins = some (r, outs)) : ∃ (l : (List Mail)) (a : Int) (m : Int) (b : Int), ins = [.lst 4 ((l).map Mail.enc), .int .i64 a, .int .i64 m, .int .i64 b, .fn 36 []] ∧ ((0 ≤ a ∧ a < m ∧ m < b) ∧ b ≤ l.length ∧ l.length ≤ 30 ∧ mailsLe l) ∧ .tup [] = r ∧ outs = [.lst 4 ((SM.rot m.toNat (b.toNat - a.toNat) l (m.toNat - a.toNat) (b.toNat - m.toNat)).map Mail.enc)] := by
  unfold spRot at h
  simp only at h
  split at h
  · rename_i l' a m b
    simp only [Option.bind_eq_some_iff] at h
    obtain ⟨l, h_l, h⟩ := h
    split at h
    case isFalse => cases h
    rename_i hc
    simp only [Option.some.injEq, Prod.mk.injEq] at h
    obtain ⟨h1, h2⟩ := h
    have h_l := decL_some (fun _ _ h => Mail.dec_some h) h_l
    subst h_l
    exact ⟨l, a, m, b, rfl, hc, h1, h2.symm⟩
  · cases h
def T_slices_rotateCmpFunc_loop_example_g00247_impl_Mail : Hints := ⟨lk [], lk [(2, [0, 2, 4, 10, 11])], lk [(0, [0, 2, 3, 4, 10]), (1, [0, 2, 4, 10, 11]), (2, [0, 2, 4, 10, 11, 20]), (3, [0, 2, 4, 10, 11, 23]), (4, [0, 2, 4, 10, 11]), (5, [0, 2, 4, 10, 11]), (6, [0, 2, 4, 10, 11]), (7, [0, 2, 4, 10, 11]), (8, [])], lk [], lf []⟩
noncomputable def Phi_slices_rotateCmpFunc_loop_example_g00247_impl_Mail : Tab := lk [(118, spSwR)]
attribute [go_sem] T_slices_rotateCmpFunc_loop_example_g00247_impl_Mail Phi_slices_rotateCmpFunc_loop_example_g00247_impl_Mail
theorem phi_slices_rotateCmpFunc_loop_example_g00247_impl_Mail : ∀ f sp, Phi_slices_rotateCmpFunc_loop_example_g00247_impl_Mail f = some sp → FnOk Tryz.prog f sp ∧ ∀ n ∈ sp.need, n ∈ ([] : List String) := phi_cons ok_slices_swapRangeCmpFunc_loop_example_g00247_impl_Mail (n0 rfl) (phi_nil)
theorem ok_slices_rotateCmpFunc_loop_example_g00247_impl_Mail : FnOk Tryz.prog 103 spRot := by
  refine fn_ok (Φ := Phi_slices_rotateCmpFunc_loop_example_g00247_impl_Mail) (T := T_slices_rotateCmpFunc_loop_example_g00247_impl_Mail) phi_slices_rotateCmpFunc_loop_example_g00247_impl_Mail mixed Tryz.func103 rfl rfl rfl (by decide) ?_
  intro ins r outs hr hl
  clear hl
  have hs := spRot_in hr
  clear hr
  obtain ⟨l, a, m, b, rfl, hc, hr, rfl⟩ := hs
  simp only [spRot, Tryz.f103, Go.VM.initS]
  obtain ⟨⟨ha, hb, hn⟩, h2, h3, hm⟩ := hc
  obtain ⟨a, rfl⟩ : ∃ k : Nat, a = k := ⟨a.toNat, by omega⟩
  obtain ⟨m, rfl⟩ : ∃ k : Nat, m = k := ⟨m.toNat, by omega⟩
  obtain ⟨b, rfl⟩ : ∃ k : Nat, b = k := ⟨b.toNat, by omega⟩
  simp only [Int.toNat_natCast]
  have w1 : IntKind.i64.wrap ((m : Int) - a) = ((m - a : Nat) : Int) := (wrap64 (by omega) (by omega)).trans (by omega)
  have w2 : IntKind.i64.wrap ((b : Int) - m) = ((b - m : Nat) : Int) := (wrap64 (by omega) (by omega)).trans (by omega)
  generalize hX : SM.rot m (b - a) l (m - a) (b - m) = X
  obtain ⟨i0, hi0⟩ : ∃ i : Nat, i = m - a := ⟨_, rfl⟩
  obtain ⟨j0, hj0⟩ : ∃ j : Nat, j = b - m := ⟨_, rfl⟩
  rw [← hi0] at w1 hX
  rw [← hj0] at w2 hX
  simp only [w1, w2, go_sem]
  refine loop_go (fun p : Nat × Nat × Nat × List Mail => [(10, .int .i64 (p.2.1 : Int)), (11, .int .i64 (p.2.2.1 : Int))]) (fun p => [(0, ⟨.arr, 4, p.2.2.2.map Mail.enc⟩)]) (fun p => p.2.1 + p.2.2.1)
    (fun p => 1 ≤ p.2.1 ∧ 1 ≤ p.2.2.1 ∧ p.2.1 ≤ m ∧ m + p.2.2.1 ≤ l.length ∧ p.2.1 + p.2.2.1 ≤ p.1 ∧ p.2.2.2.length = l.length ∧ mailsLe p.2.2.2 ∧ SM.rot m p.1 p.2.2.2 p.2.1 p.2.2.1 = X) (b - a, i0, j0, l) ⟨by simp only; omega, by simp only; omega, by simp only; omega, by simp only; omega, by simp only; omega, rfl, hm, hX⟩ rfl rfl ?_
  rintro ⟨fu, i, j, M⟩ ⟨q1, q2, q3, q4, q5, q6, q7, q8⟩ ih
  simp only at q1 q2 q3 q4 q5 q6 q7 q8 ih
  obtain ⟨fu, rfl⟩ : ∃ k, fu = k + 1 := ⟨fu - 1, by omega⟩
  rw [SM.rot] at q8
  obtain ⟨d, hd⟩ : ∃ d : Nat, d = m - i := ⟨_, rfl⟩
  rw [← hd] at q8
  have w3 : IntKind.i64.wrap ((m : Int) - i) = (d : Int) := (wrap64 (by omega) (by omega)).trans (by omega)
  have z0 : (0 : Int) ≤ d := by omega
  have z1 : (0 : Int) ≤ m := by omega
  have z2 : (0 : Int) ≤ i := by omega
  have z3 : (0 : Int) ≤ j := by omega
  have z9 : M.length ≤ 30 := by omega
  by_cases e : i = j
  · subst e
    rw [if_pos rfl] at q8
    have z4 : (d : Int) + i ≤ M.length := by omega
    have z5 : (m : Int) + i ≤ M.length := by omega
    clear ih
    simp only [w3, z0, z1, z2, z4, z5, z9, q7, bne_self_eq_false, Int.toNat_natCast, go_sem]
    repeat' ((first | apply qa | apply qb | apply qc | apply qd | apply qe | apply qf | apply qg | apply qh | apply qi | apply qj | apply qk) <;> intro hp <;> simp only [hp, w3, z0, z1, z2, z4, z5, z9, q7, bne_self_eq_false, Int.toNat_natCast, go_sem])
    simp only [fin_mk, finV, resL, resV1, resIn, endA, listIn, Option.some_or, Option.none_or, oneOrTup, go_sem]
    rw [← hr]
    rw [q8]
  · rw [if_neg e] at q8
    have hne : ((i : Int) != j) = true := by rw [bne_iff_ne]; omega
    by_cases g : j < i
    · rw [if_pos g] at q8
      have g1 : (j : Int) < i := by omega
      have z4 : (d : Int) + j ≤ M.length := by omega
      have z5 : (m : Int) + j ≤ M.length := by omega
      have w4 : IntKind.i64.wrap ((i : Int) - j) = ((i - j : Nat) : Int) := (wrap64 (by omega) (by omega)).trans (by omega)
      have ih' := ih (fu, i - j, j, SM.swR M d m j) ⟨by simp only; omega, q2, by simp only; omega, q4, by simp only; omega, by rw [SM.swR_len]; exact q6, swR_le q7 _, q8⟩ (by simp only; omega)
      clear ih
      simp only [w3, w4, hne, g1, z0, z1, z2, z3, z4, z5, z9, q7, Int.toNat_natCast, go_sem]
      repeat' ((first | apply qa | apply qb | apply qc | apply qd | apply qe | apply qf | apply qg | apply qh | apply qi | apply qj | apply qk) <;> intro hp <;> simp only [hp, w3, w4, hne, g1, z0, z1, z2, z3, z4, z5, z9, q7, Int.toNat_natCast, go_sem])
      exact ih'
    · rw [if_neg g] at q8
      have g1 : ¬ (j : Int) < i := by omega
      obtain ⟨c, hcc⟩ : ∃ c : Nat, c = m + j - i := ⟨_, rfl⟩
      rw [← hcc] at q8
      have w4 : IntKind.i64.wrap ((m : Int) + j) = (m + j : Int) := wrap64 (by omega) (by omega)
      have w5 : IntKind.i64.wrap ((m : Int) + j - i) = (c : Int) := (wrap64 (by omega) (by omega)).trans (by omega)
      have w6 : IntKind.i64.wrap ((j : Int) - i) = ((j - i : Nat) : Int) := (wrap64 (by omega) (by omega)).trans (by omega)
      have z4 : (d : Int) + i ≤ M.length := by omega
      have z5 : (c : Int) + i ≤ M.length := by omega
      have z6 : (0 : Int) ≤ c := by omega
      have ih' := ih (fu, i, j - i, SM.swR M d c i) ⟨q1, by simp only; omega, q3, by simp only; omega, by simp only; omega, by rw [SM.swR_len]; exact q6, swR_le q7 _, q8⟩ (by simp only; omega)
      clear ih
      simp only [w3, w4, w5, w6, hne, g1, z0, z2, z4, z5, z6, z9, q7, Int.toNat_natCast, go_sem]
      repeat' ((first | apply qa | apply qb | apply qc | apply qd | apply qe | apply qf | apply qg | apply qh | apply qi | apply qj | apply qk) <;> intro hp <;> simp only [hp, w3, w4, w5, w6, hne, g1, z0, z2, z4, z5, z6, z9, q7, Int.toNat_natCast, go_sem])
      exact ih'
open Classical in
noncomputable def spInsS : VM.Spec := { modes := [.io, .rd, .rd, .rd], run := fun | [.lst 4 l', .int .i64 a, .int .i64 b, .fn 36 []] => (decL Mail.dec l').bind fun l => if (0 ≤ a ∧ a ≤ b ∧ b ≤ l.length) ∧ l.length ≤ 30 ∧ mailsLe l then some (.tup [], [.lst 4 ((SM.insS ltS a.toNat l (b.toNat - a.toNat - 1)).map Mail.enc)]) else none | _ => none, need := ["internal/bytealg.MaxLen"] }
attribute [go_sem] spInsS
theorem spInsS_in {ins : List V} {r : V} {outs : List V} (h : spInsS.run ins = some (r, outs)) : ∃ (l : (List Mail)) (a : Int) (b : Int), ins = [.lst 4 ((l).map Mail.enc), .int .i64 a, .int .i64 b, .fn 36 []] ∧ ((0 ≤ a ∧ a ≤ b ∧ b ≤ l.length) ∧ l.length ≤ 30 ∧ mailsLe l) ∧ .tup [] = r ∧ outs = [.lst 4 ((SM.insS ltS a.toNat l (b.toNat - a.toNat - 1)).map Mail.enc)] := by
  unfold spInsS at h
  simp only at h
  split at h
  · rename_i l' a b
    simp only [Option.bind_eq_some_iff] at h
    obtain ⟨l, h_l, h⟩ := h
    split at h
    case isFalse => cases h
    rename_i hc
    simp only [Option.some.injEq, Prod.mk.injEq] at h
    obtain ⟨h1, h2⟩ := h
    have h_l := decL_some (fun _ _ h => Mail.dec_some h) h_l
    subst h_l
    exact ⟨l, a, b, rfl, hc, h1, h2.symm⟩
  · cases h
def T_slices_insertionSortCmpFunc_loop_example_g00247_impl_Mail : Hints := ⟨lk [(4, []), (6, [])], lk [(1, [0, 1, 2, 3, 8]), (4, [0, 1, 2, 3, 8, 9])], lk [(0, [0, 1, 2, 3, 8]), (1, [0, 1, 2, 3, 8, 14]), (3, [0, 1, 2, 3, 8, 9]), (4, [0, 1, 2, 3, 8, 9, 34]), (6, [0, 1, 2, 3, 8, 9]), (5, [0, 1, 2, 3, 8, 9]), (2, [0, 1, 2, 3, 8])], lk [], lf []⟩
noncomputable def Phi_slices_insertionSortCmpFunc_loop_example_g00247_impl_Mail : Tab := lk [(36, spCmpM)]
attribute [go_sem] T_slices_insertionSortCmpFunc_loop_example_g00247_impl_Mail Phi_slices_insertionSortCmpFunc_loop_example_g00247_impl_Mail
theorem phi_slices_insertionSortCmpFunc_loop_example_g00247_impl_Mail : ∀ f sp, Phi_slices_insertionSortCmpFunc_loop_example_g00247_impl_Mail f = some sp → FnOk Tryz.prog f sp ∧ ∀ n ∈ sp.need, n ∈ (["internal/bytealg.MaxLen"] : List String) := phi_cons ok_impl_SortBySubject_1 (fun n (h : n ∈ (["internal/bytealg.MaxLen"] : List String)) => by simp only [List.mem_cons, List.not_mem_nil, or_false] at h; rcases h with rfl <;> simp) (phi_nil)
theorem ok_slices_insertionSortCmpFunc_loop_example_g00247_impl_Mail : FnOk Tryz.prog 87 spInsS := by
  refine fn_ok (Φ := Phi_slices_insertionSortCmpFunc_loop_example_g00247_impl_Mail) (T := T_slices_insertionSortCmpFunc_loop_example_g00247_impl_Mail) phi_slices_insertionSortCmpFunc_loop_example_g00247_impl_Mail mixed Tryz.func87 rfl rfl rfl (by decide) ?_
  intro ins r outs hr hl
  clear hl
  have hs := spInsS_in hr
  clear hr
  obtain ⟨l, a, b, rfl, hc, hr, rfl⟩ := hs
  simp only [spInsS, Tryz.f87, Go.VM.initS]
  obtain ⟨⟨ha, hb, hn⟩, h3, hm⟩ := hc
  obtain ⟨a, rfl⟩ : ∃ k : Nat, a = k := ⟨a.toNat, by omega⟩
  obtain ⟨b, rfl⟩ : ∃ k : Nat, b = k := ⟨b.toNat, by omega⟩
  simp only [Int.toNat_natCast]
  have w1 : IntKind.i64.wrap ((a : Int) + 1) = ((a + 1 + 0 : Nat) : Int) := (wrap64 (by omega) (by omega)).trans (by omega)
  simp only [w1, go_sem]
  refine loop_go (fun p : Nat × List Mail => [(8, .int .i64 ((a + 1 + p.1 : Nat) : Int))]) (fun p => [(0, ⟨.arr, 4, p.2.map Mail.enc⟩)]) (fun p => b - (a + 1 + p.1)) (fun p => p.1 ≤ b - a - 1 ∧ p.2 = SM.insS ltS a l p.1) (0, l) ⟨Nat.zero_le _, rfl⟩ rfl rfl ?_
  rintro ⟨n, M⟩ ⟨hn1, hM⟩ ih
  simp only at hn1 hM ih
  have hl : M.length = l.length := by rw [hM, SM.insS_len]
  have hMle : mailsLe M := by rw [hM]; exact insS_le hm _
  obtain ⟨i, hi⟩ : ∃ i : Nat, i = a + 1 + n := ⟨_, rfl⟩
  rw [← hi]
  rcases Nat.lt_or_ge i b with h | h
  · have g1 : (i : Int) < b := by omega
    have w5 : IntKind.i64.wrap ((i : Int) + 1) = ((a + 1 + (n + 1) : Nat) : Int) := (wrap64 (by omega) (by omega)).trans (by omega)
    have ih' := ih (n + 1, SM.sink ltS a M i) ⟨by omega, by rw [SM.insS, ← hM, ← hi]⟩ (by simp only; omega)
    clear ih
    generalize hX : SM.sink ltS a M i = X at ih'
    simp only [g1, go_sem]
    refine loop_go (fun p : Nat × List Mail => [(9, .int .i64 (p.1 : Int))]) (fun p => [(0, ⟨.arr, 4, p.2.map Mail.enc⟩)]) (fun p => p.1) (fun p => a ≤ p.1 ∧ p.1 ≤ i ∧ p.2.length = l.length ∧ mailsLe p.2 ∧ SM.sink ltS a p.2 p.1 = X) (i, M) ⟨by simp only; omega, Nat.le_refl _, hl, hMle, hX⟩ rfl rfl ?_
    rintro ⟨j, N⟩ ⟨q1, q2, q3, q4, q5⟩ ih2
    simp only at q1 q2 q3 q4 q5 ih2
    rcases Nat.lt_or_ge a j with k | k
    · obtain ⟨j', hj'⟩ : ∃ j', j = j' + 1 := ⟨j - 1, by omega⟩
      have g2 : (a : Int) < j := by omega
      have w6 : IntKind.i64.wrap ((j : Int) - 1) = (j' : Int) := (wrap64 (by omega) (by omega)).trans (by omega)
      have y1 : (0 : Int) ≤ j := by omega
      have y2 : (0 : Int) ≤ j' := by omega
      have y3 : (j : Int) < N.length := by omega
      have y4 : (j' : Int) < N.length := by omega
      have y5 : N[j]? = some N[j] := List.getElem?_eq_getElem (by omega)
      have y6 : N[j']? = some N[j'] := List.getElem?_eq_getElem (by omega)
      have y7 : Mail.le 4194304 N[j] := q4 _ (List.getElem_mem _)
      have y8 : Mail.le 4194304 N[j'] := q4 _ (List.getElem_mem _)
      have hA : SM.ltA ltS N j j' = ltS N[j] N[j'] := SM.ltA_eq _ _
      cases hc : ltS N[j] N[j'] with
      | true =>
        have hX2 : SM.sink ltS a (SM.sw N j j') j' = X := by
          rw [hj', SM.sink, ← hj', hA, hc, if_pos ⟨k, rfl⟩] at q5
          exact q5
        have y9 := ltS_t hc
        have y10 := set_get (u := j) (show j' < N.length by omega)
        have ih3 := ih2 (j', SM.sw N j j') ⟨by omega, by omega, by rw [SM.sw_len]; exact q3, sw_le q4, hX2⟩ (by simp only; omega)
        simp only [sw_map y5 y6, Mail.enc] at ih3
        clear ih2 ih'
        simp only [g2, w6, y1, y2, y3, y4, y5, y6, y7, y8, y9, y10, and_self, List.length_set, List.length_map, go_sem]
        repeat' ((first | ((first | apply qa | apply qb | apply qc | apply qd | apply qe | apply qf | apply qg | apply qh | apply qi | apply qj | apply qk) <;> intro hp) | ((first | refine ql rfl rfl (by decide +kernel) ?_ | refine qm _ rfl rfl (by decide +kernel) ?_) <;> have hp := True.intro)) <;> simp only [hp, g2, w6, y1, y2, y3, y4, y5, y6, y7, y8, y9, y10, and_self, List.length_set, List.length_map, go_sem])
        exact ih3
      | false =>
        have hX2 : N = X := by
          rw [hj', SM.sink, ← hj', hA, hc, if_neg (by simp)] at q5
          exact q5
        have y9 := ltS_f hc
        subst hX2
        clear ih2
        simp only [g2, w6, y1, y2, y3, y4, y5, y6, y7, y8, y9, and_self, List.length_set, List.length_map, w5, go_sem]
        repeat' ((first | ((first | apply qa | apply qb | apply qc | apply qd | apply qe | apply qf | apply qg | apply qh | apply qi | apply qj | apply qk) <;> intro hp) | ((first | refine ql rfl rfl (by decide +kernel) ?_ | refine qm _ rfl rfl (by decide +kernel) ?_) <;> have hp := True.intro)) <;> simp only [hp, g2, w6, y1, y2, y3, y4, y5, y6, y7, y8, y9, and_self, List.length_set, List.length_map, w5, go_sem])
        exact ih'
    · have e : j = a := by omega
      subst e
      have g2 : ¬ (j : Int) < j := by omega
      have hX2 : N = X := by
        rw [← q5]
        cases j with
        | zero => rfl
        | succ j => rw [SM.sink, if_neg (by omega)]
      subst hX2
      clear ih2
      simp only [g2, w5, go_sem]
      repeat' ((first | ((first | apply qa | apply qb | apply qc | apply qd | apply qe | apply qf | apply qg | apply qh | apply qi | apply qj | apply qk) <;> intro hp) | ((first | refine ql rfl rfl (by decide +kernel) ?_ | refine qm _ rfl rfl (by decide +kernel) ?_) <;> have hp := True.intro)) <;> simp only [hp, g2, w5, go_sem])
      exact ih'
  · have g1 : ¬ (i : Int) < b := by omega
    have e : n = b - a - 1 := by omega
    clear ih
    simp only [g1, go_sem]
    simp only [fin_mk, finV, resL, resV1, resIn, endA, listIn, Option.some_or, Option.none_or, oneOrTup, go_sem]
    rw [← hr]
    rw [hM, e]
end Go.Proofs.YtghmjnggmacohaaGreatDoor.L

