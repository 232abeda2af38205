/- What is written is read: numbers, short texts, sets, edits. No program in sight. -/
import Derived.Test.YtimiccneikhkgaaGreatDoorVLRe
namespace Go.Proofs.YtimiccneikhkgaaGreatDoor.L
open Go Go.VM
set_option maxRecDepth 100000
set_option maxHeartbeats 1000000
set_option linter.unusedSimpArgs false
set_option linter.unusedVariables false
theorem varN_form (n : Nat) : ∃ a : List UInt8, ∃ c : UInt8, varN n = a ++ [c] ∧ (∀ x ∈ a, bigB x = true) ∧ bigB c = false ∧ valB (varN n) = n ∧ (a = [] ∨ c ≠ 0) := by
  induction n using Nat.strongRecOn with
  | ind n ih =>
    by_cases h : 127 < n
    · obtain ⟨a, c, h1, h2, h3, h4, h5⟩ := ih (n / 128) (by omega)
      have e : (UInt8.ofNat (n % 128 + 128)).toNat = n % 128 + 128 := UInt8.toNat_ofNat_of_lt' (by show n % 128 + 128 < 256; omega)
      refine ⟨UInt8.ofNat (n % 128 + 128) :: a, c, by rw [varN_big h, h1]; rfl, ?_, h3, ?_, ?_⟩
      · intro x hx
        rcases List.mem_cons.1 hx with rfl | hx
        · rw [bigB, e, decide_eq_true_eq]; omega
        · exact h2 x hx
      · rw [varN_big h, valB, h4, e]; omega
      · right
        rcases h5 with h5 | h5
        · subst h5
          intro hc
          subst hc
          rw [h1] at h4
          simp [valB] at h4
          omega
        · exact h5
    · have e : (UInt8.ofNat n).toNat = n := UInt8.toNat_ofNat_of_lt' (by show n < 256; omega)
      refine ⟨[], UInt8.ofNat n, varN_small h, by simp, by rw [bigB, e]; simp; omega, ?_, .inl rfl⟩
      rw [varN_small h, valB, valB, e]; omega
theorem varN_short : ∀ (k n : Nat), n < 128 ^ (k + 1) → (varN n).length ≤ k + 1
  | k, n, h => by
    by_cases hb : 127 < n
    · rw [varN_big hb, List.length_cons]
      match k, h with
      | 0, h => simp at h; omega
      | k + 1, h =>
        have := varN_short k (n / 128) (by rw [Nat.pow_succ] at h; omega)
        omega
    · rw [varN_small hb]; simp
theorem read_var {n : Nat} (hn : n ≤ 20000) (r : List UInt8) : rvB (varN n ++ r) = true ∧ rvV (varN n ++ r) = n ∧ stop (varN n ++ r) + 1 = (varN n).length := by
  obtain ⟨a, c, h1, h2, h3, h4, h5⟩ := varN_form n
  have hl := varN_short 2 n (by show n < 2097152; omega)
  have hs : stop (varN n ++ r) = a.length := by
    have e : (varN n ++ r).take a.length = a := by rw [h1, List.append_assoc]; exact List.take_left' rfl
    refine stop_at (by rw [e]; exact h2) (by rw [h1]; simp) ?_
    have : (varN n ++ r)[a.length]'(by rw [h1]; simp) = c := by
      simp only [h1, List.append_assoc]
      rw [List.getElem_append_right (Nat.le_refl _)]
      simp
    rw [this]; exact h3
  have hlen : (varN n).length = a.length + 1 := by rw [h1]; simp
  have ht : (varN n ++ r).take (a.length + 1) = varN n := List.take_left' hlen
  have hg : (varN n ++ r).getD a.length 0 = c := by
    simp only [h1, List.append_assoc]
    rw [List.getD_eq_getElem?_getD, List.getElem?_append_right (Nat.le_refl _)]
    simp
  have hB : rvB (varN n ++ r) = true := by
    rw [rvB, hs, ht, h4, hg]
    have e1 : a.length < (varN n ++ r).length := by rw [List.length_append]; omega
    have e2 : a.length < 5 := by omega
    have e3 : n ≤ 1000000000 := by omega
    rw [decide_eq_true e1, decide_eq_true e2, decide_eq_true e3]
    rcases h5 with h5 | h5
    · subst h5; rfl
    · have : (c == 0) = false := beq_eq_false_iff_ne.2 h5
      rw [this]; simp
  refine ⟨hB, ?_, by omega⟩
  rw [rvV, if_pos hB, hs, ht, h4]
theorem read_short {s : List UInt8} (hn : s.length ≤ 20000) (r : List UInt8) : shB (short s ++ r) = true ∧ shS (short s ++ r) = s ∧ ∀ a : Int, shN a (short s ++ r) = a + (short s).length := by
  have e : short s ++ r = varN s.length ++ (s ++ r) := by rw [short, List.append_assoc]
  obtain ⟨h1, h2, h3⟩ := read_var hn (s ++ r)
  have hl : (short s).length = (varN s.length).length + s.length := by rw [short, List.length_append]
  have hB : shB (short s ++ r) = true := by
    rw [e, shB, h1, h2, List.length_append, List.length_append, decide_eq_true (by omega), decide_eq_true (by omega)]; rfl
  refine ⟨hB, ?_, fun a => ?_⟩
  · rw [shS, if_pos hB, e, h2, h3, List.drop_left' rfl, Int.toNat_natCast, List.take_left' rfl]
  · rw [shN, if_pos hB, e, h2, hl]; omega
theorem rdShort_at {t s r : List UInt8} {p : Nat} (h : t.drop p = short s ++ r) (hn : s.length ≤ 20000) : rdShort ⟨t, p, false⟩ = (s, ⟨t, ((p + (short s).length : Nat) : Int), false⟩) := by
  obtain ⟨h1, h2, h3⟩ := read_short hn r
  rw [rdShort]
  simp only [Int.toNat_natCast, h, h1, h2, h3]
  rw [if_neg (by simp)]
  rfl
theorem rdOne_at {t r : List UInt8} {b : UInt8} (h : t = b :: r) : rdOne ⟨t, 0, false⟩ = ((b.toNat : Int), ⟨t, ((1 : Nat) : Int), false⟩) := by
  subst h
  rw [rdOne, if_neg (by simp)]
  rfl
/-! ### what the readers keep -/
theorem rdOne_in {c : Rd} (h : rdI c) : rdI (rdOne c).2 ∧ (rdOne c).2.text = c.text ∧ 0 ≤ (rdOne c).1 ∧ (rdOne c).1 ≤ 255 := by
  obtain ⟨h0, h1, h2⟩ := h
  unfold rdOne
  split
  · exact ⟨⟨h0, h1, h2⟩, rfl, by simp, by simp⟩
  · rename_i hn
    have hn' : ¬ (c.text.length : Int) ≤ c.pos := fun e => hn (.inr e)
    have := (c.text.getD c.pos.toNat 0).toNat_lt
    refine ⟨⟨by simp only; omega, by simp only; omega, h2⟩, rfl, by simp only; omega, by simp only; omega⟩
theorem rdVar_in {c : Rd} (h : rdI c) : rdI (rdVar c).2 ∧ (rdVar c).2.text = c.text ∧ 0 ≤ (rdVar c).1 ∧ (rdVar c).1 ≤ 1000000000 := by
  obtain ⟨h0, h1, h2⟩ := h
  unfold rdVar
  split
  · exact ⟨⟨h0, h1, h2⟩, rfl, by simp, by simp⟩
  · rename_i hn
    have hB : rvB (c.text.drop c.pos.toNat) = true := by
      cases hb : rvB (c.text.drop c.pos.toNat) with
      | true => rfl
      | false => exact absurd (.inr hb) hn
    obtain ⟨r1, r2, r3⟩ := rvB_in hB
    rw [List.length_drop] at r1
    refine ⟨⟨?_, ?_, h2⟩, rfl, r2, r3⟩
    · simp only [rvN, if_pos hB]; omega
    · simp only [rvN, if_pos hB]; omega
theorem rdShort_in {c : Rd} (h : rdI c) : rdI (rdShort c).2 ∧ (rdShort c).2.text = c.text ∧ (rdShort c).1.length ≤ c.text.length := by
  obtain ⟨h0, h1, h2⟩ := h
  unfold rdShort
  split
  · exact ⟨⟨h0, h1, h2⟩, rfl, by simp⟩
  · rename_i hn
    have hS : shB (c.text.drop c.pos.toNat) = true := by
      cases hb : shB (c.text.drop c.pos.toNat) with
      | true => rfl
      | false => exact absurd (.inr hb) hn
    have hS' := hS
    simp only [shB, Bool.and_eq_true, decide_eq_true_eq] at hS'
    obtain ⟨⟨hB, r4⟩, r5⟩ := hS'
    obtain ⟨r1, r2, r3⟩ := rvB_in hB
    rw [List.length_drop] at r1 r5
    refine ⟨⟨?_, ?_, h2⟩, rfl, ?_⟩
    · simp only [shN, if_pos hS]; omega
    · simp only [shN, if_pos hS]; omega
    · simp only [shS, if_pos hS, List.length_take, List.length_drop]; omega
/-! ### no star in a set's text -/
theorem decDigits_star (n : Nat) : (42 : UInt8) ∉ Lib.decDigits n := by
  induction n using Nat.strongRecOn with
  | ind n ih =>
    have hd : ∀ k : Nat, k < 10 → UInt8.ofNat (48 + k) ≠ 42 := by
      intro k hk
      have : ∀ m : Fin 10, UInt8.ofNat (48 + m.val) ≠ 42 := by decide
      exact this ⟨k, hk⟩
    rw [Lib.decDigits]
    by_cases h : n < 10
    · rw [dif_pos h]
      simpa using (hd n h).symm
    · rw [dif_neg h]
      simp only [List.mem_append, List.mem_singleton, not_or]
      exact ⟨ih (n / 10) (by omega), (hd (n % 10) (by omega)).symm⟩
theorem join_mem {x : UInt8} {t : List UInt8} : ∀ {l : List (List UInt8)}, x ∈ Lib.join l t → x ∈ t ∨ ∃ y ∈ l, x ∈ y
  | [], h => by simp [Lib.join_nil] at h
  | y :: l, h => by
    rw [Lib.join_cons, List.mem_append] at h
    rcases h with h | h
    · exact .inr ⟨y, by simp, h⟩
    · simp only [Lib.joinTail, List.mem_flatten, List.mem_map] at h
      obtain ⟨z, ⟨w, hw, rfl⟩, hx⟩ := h
      rcases List.mem_append.1 hx with hx | hx
      · exact .inl hx
      · exact .inr ⟨w, by simp [hw], hx⟩
theorem itoa_star {n : Int} (h : 0 ≤ n) : (42 : UInt8) ∉ Lib.itoa n := by
  rw [Lib.itoa, if_neg (by omega)]; exact decDigits_star _
theorem setText_star (s : List Range) : (42 : UInt8) ∉ setText s := by
  unfold setText
  split
  · rename_i hs
    intro h
    rcases join_mem h with h | ⟨y, hy, h⟩
    · revert h; decide
    · obtain ⟨r, hr, rfl⟩ := List.mem_map.1 hy
      obtain ⟨i, hi, rfl⟩ := List.mem_iff_getElem.1 hr
      have hb := setOk_at hs hi
      unfold partOf at h
      split at h
      · rw [List.mem_append, List.mem_cons] at h
        rcases h with h | h | h
        · exact itoa_star (by omega) h
        · revert h; decide
        · exact itoa_star (by omega) h
      · exact itoa_star (by omega) h
  · simp
theorem numN_star {s : List UInt8} (h : (42 : UInt8) ∉ s) (a b : Int) : numN s a = numN s b := by
  have : s ≠ [42] := fun e => h (by rw [e]; simp)
  rw [numN, numN, if_neg this, if_neg this]
theorem part_star {p : List UInt8} (h : (42 : UInt8) ∉ p) (a b : Int) : partLo p a = partLo p b ∧ partHi p a = partHi p b := by
  have h1 : (42 : UInt8) ∉ first p := fun e => h ((List.takeWhile_sublist (l := p) (notB 58)).subset e)
  have h2 : (42 : UInt8) ∉ second p := fun e => h (List.mem_of_mem_drop e)
  unfold partLo partHi
  rw [numN_star h1 a b, numN_star h2 a b, numN_star h a b]
  exact ⟨rfl, rfl⟩
theorem rangesOf_star : ∀ {l : List (List UInt8)}, (∀ p ∈ l, (42 : UInt8) ∉ p) → ∀ a b : Int, rangesOf a l = rangesOf b l
  | [], _, _, _ => rfl
  | p :: l, h, a, b => by
    obtain ⟨h1, h2⟩ := part_star (h p (by simp)) a b
    rw [rangesOf, rangesOf, h1, h2, rangesOf_star (fun q hq => h q (by simp [hq])) a b]
theorem splitOn_sub (c : UInt8) : ∀ s : List UInt8, ∀ p ∈ splitOn c s, ∀ x ∈ p, x ∈ s := by
  intro s
  induction h : s.length using Nat.strongRecOn generalizing s with
  | ind n ih =>
    intro p hp x hx
    rw [splitOn_first] at hp
    rcases List.mem_cons.1 hp with rfl | hp
    · exact (List.takeWhile_sublist (l := s) (notB c)).subset hx
    · split at hp
      · rename_i hm
        have hl : (s.drop ((s.takeWhile (notB c)).length + 1)).length < n := by
          have : s ≠ [] := fun e => by rw [e] at hm; simp at hm
          have := List.length_pos_iff.2 this
          rw [List.length_drop]; omega
        exact List.mem_of_mem_drop (ih _ hl _ rfl p hp x hx)
      · simp at hp
theorem read_star {t : List UInt8} (h : (42 : UInt8) ∉ t) : readOk t 1 = readOk t 9999 ∧ readSet t 1 = readSet t 9999 := by
  have e := rangesOf_star (l := splitOn 44 t) (fun p hp hm => h (splitOn_sub 44 t p hp 42 hm)) 1 9999
  have e1 : readOk t 1 = readOk t 9999 := by
    have w1 : within 1 1 9999 = true := by decide
    have w2 : within 9999 1 9999 = true := by decide
    rw [readOk, readOk, e, w1, w2]
  exact ⟨e1, by rw [readSet, readSet, e1, e]⟩
/-! ### edits -/
def rE1 (t : List UInt8) := rdOne ⟨t, 0, false⟩
def rE2 (t : List UInt8) := rdShort (rE1 t).2
def rE3 (t : List UInt8) := rdShort (rE2 t).2
def rE4 (t : List UInt8) := rdShort (rE3 t).2
def rE5 (t : List UInt8) := rdOne (rE4 t).2
def rE6 (t : List UInt8) := rdOne (rE5 t).2
def rE7 (t : List UInt8) := rdVar (rE6 t).2
def rE8 (t : List UInt8) := rdShort (rE7 t).2
def readEd (t : List UInt8) (last : Int) : Edit := ⟨(rE1 t).1, (rE2 t).1, (rE3 t).1, if ((rE4 t).1 == []) = true then [] else readSet (rE4 t).1 last, (rE5 t).1, (rE6 t).1, (rE7 t).1 - 1, (rE8 t).1⟩
def readB (t : List UInt8) : Bool := !(rE8 t).2.bad && (editOk (readEd t 9999) && editText (readEd t 9999) == t)
def editZero : Edit := ⟨0, [], [], [], 0, 0, 0, []⟩
def readE (t : List UInt8) : Edit := if readB t = true then readEd t 9999 else editZero
/-- A text of an edit, read, has the text of its set at its place. -/
theorem text_set {t : List UInt8} {last : Int} (hk : editOk (readEd t last) = true) (ht : editText (readEd t last) = t) : (rE4 t).1 = setText (readEd t last).Set := by
  obtain ⟨⟨k1, k2⟩, hB, hT, hS, _, _, _, hX⟩ := editOk_parts hk
  rw [editText, if_pos hk] at ht
  have hst := setText_len (readEd t last).Set
  obtain ⟨r3, h3⟩ : ∃ r, t = [UInt8.ofNat (readEd t last).Kind.toNat] ++ (short (readEd t last).Box ++ (short (readEd t last).To ++ (short (setText (readEd t last).Set) ++ r))) := ⟨_, by
    simp only [List.append_assoc] at ht
    exact ht.symm⟩
  generalize hE : readEd t last = e at *
  have p1 : rE1 t = (((UInt8.ofNat e.Kind.toNat).toNat : Int), ⟨t, ((1 : Nat) : Int), false⟩) := rdOne_at h3
  have d1 : t.drop 1 = short e.Box ++ (short e.To ++ (short (setText e.Set) ++ r3)) := by rw [h3]; rfl
  have p2 : rE2 t = (e.Box, ⟨t, ((1 + (short e.Box).length : Nat) : Int), false⟩) := by rw [rE2, p1]; exact rdShort_at d1 (by omega)
  have d2 : t.drop (1 + (short e.Box).length) = short e.To ++ (short (setText e.Set) ++ r3) := by rw [← List.drop_drop, d1]; exact List.drop_left' rfl
  have p3 : rE3 t = (e.To, ⟨t, ((1 + (short e.Box).length + (short e.To).length : Nat) : Int), false⟩) := by rw [rE3, p2]; exact rdShort_at d2 (by omega)
  have d3 : t.drop (1 + (short e.Box).length + (short e.To).length) = short (setText e.Set) ++ r3 := by rw [← List.drop_drop, d2]; exact List.drop_left' rfl
  have p4 : rE4 t = (setText e.Set, ⟨t, ((1 + (short e.Box).length + (short e.To).length + (short (setText e.Set)).length : Nat) : Int), false⟩) := by rw [rE4, p3]; exact rdShort_at d3 (by omega)
  rw [p4]
theorem setText_nil : setText [] = [] := by simp [setText, Lib.join_nil]
/-- What the reference asks: the same. -/
theorem readB_one (t : List UInt8) (h0 : ((rE4 t).1 == []) = false) : (readOk (rE4 t).1 1 && (!(rE8 t).2.bad && (editOk (readEd t 1) && editText (readEd t 1) == t))) = readB t ∧ (readB t = true → readEd t 1 = readEd t 9999) := by
  have key : ∀ last, editOk (readEd t last) = true → editText (readEd t last) = t → readOk (rE4 t).1 1 = readOk (rE4 t).1 9999 ∧ readEd t 1 = readEd t 9999 ∧ (readOk (rE4 t).1 last = true) := by
    intro last hk ht
    have hs := text_set hk ht
    have hst : (42 : UInt8) ∉ (rE4 t).1 := by rw [hs]; exact setText_star _
    obtain ⟨e1, e2⟩ := read_star hst
    refine ⟨e1, by simp only [readEd, h0, Bool.false_eq_true, if_false, e2], ?_⟩
    cases hr : readOk (rE4 t).1 last with
    | true => rfl
    | false =>
      have : (readEd t last).Set = [] := by simp only [readEd, h0, Bool.false_eq_true, if_false, readSet, hr]
      rw [this, setText_nil] at hs
      rw [hs] at h0
      cases h0
  constructor
  · rw [Bool.eq_iff_iff]
    constructor
    · intro h
      simp only [Bool.and_eq_true, beq_iff_eq] at h
      obtain ⟨h1, h2, h3, h4⟩ := h
      obtain ⟨_, e2, _⟩ := key 1 h3 h4
      rw [readB, ← e2, h2, h3, h4]
      simp
    · intro h
      have h' := h
      simp only [readB, Bool.and_eq_true, beq_iff_eq] at h
      obtain ⟨h2, h3, h4⟩ := h
      obtain ⟨e1, e2, e3⟩ := key 9999 h3 h4
      rw [e1, e3, e2]
      exact h'
  · intro h
    simp only [readB, Bool.and_eq_true, beq_iff_eq] at h
    exact (key 9999 h.2.1 h.2.2).2.1
theorem readEd_two (t : List UInt8) (h0 : ((rE4 t).1 == []) = true) (a b : Int) : readEd t a = readEd t b := by
  simp only [readEd, h0, if_true]
end Go.Proofs.YtimiccneikhkgaaGreatDoor.L
