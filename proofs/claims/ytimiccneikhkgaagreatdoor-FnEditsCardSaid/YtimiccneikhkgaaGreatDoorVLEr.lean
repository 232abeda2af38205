/- An edit's text is read as the edit. No program in sight. -/
import Derived.Test.YtimiccneikhkgaaGreatDoorVLRt
namespace Go.Proofs.YtimiccneikhkgaaGreatDoor.L
open Go Go.VM
set_option maxRecDepth 100000
set_option maxHeartbeats 1000000
set_option linter.unusedSimpArgs false
set_option linter.unusedVariables false
theorem read_var2 {n : Nat} (hn : n ≤ 200000) (r : List UInt8) : rvB (varN n ++ r) = true ∧ rvV (varN n ++ r) = n ∧ stop (varN n ++ r) + 1 = (varN n).length := by
  obtain ⟨a, c, h1, h2, h3, h4, h5⟩ := varN_form n
  have hl := varN_short 2 n (by show n < 2097152; omega)
  have hs : stop (varN n ++ r) = a.length := by
    have e : (varN n ++ r).take a.length = a := by rw [h1, List.append_assoc]; exact List.take_left' rfl
    refine stop_at (by rw [e]; exact h2) (by rw [h1]; simp) ?_
    have : (varN n ++ r)[a.length]'(by rw [h1]; simp) = c := by
      simp only [h1, List.append_assoc]
      rw [List.getElem_append_right (Nat.le_refl _)]
      simp
    rw [this]; exact h3
  have hlen : (varN n).length = a.length + 1 := by rw [h1]; simp
  have ht : (varN n ++ r).take (a.length + 1) = varN n := List.take_left' hlen
  have hg : (varN n ++ r).getD a.length 0 = c := by
    simp only [h1, List.append_assoc]
    rw [List.getD_eq_getElem?_getD, List.getElem?_append_right (Nat.le_refl _)]
    simp
  have hB : rvB (varN n ++ r) = true := by
    rw [rvB, hs, ht, h4, hg]
    have e1 : a.length < (varN n ++ r).length := by rw [List.length_append]; omega
    have e2 : a.length < 5 := by omega
    have e3 : n ≤ 1000000000 := by omega
    rw [decide_eq_true e1, decide_eq_true e2, decide_eq_true e3]
    rcases h5 with h5 | h5
    · subst h5; rfl
    · have : (c == 0) = false := beq_eq_false_iff_ne.2 h5
      rw [this]; simp
  refine ⟨hB, ?_, by omega⟩
  rw [rvV, if_pos hB, hs, ht, h4]
theorem rdVar_at {t r : List UInt8} {p n : Nat} (h : t.drop p = varN n ++ r) (hn : n ≤ 200000) : rdVar ⟨t, p, false⟩ = ((n : Int), ⟨t, ((p + (varN n).length : Nat) : Int), false⟩) := by
  obtain ⟨h1, h2, h3⟩ := read_var2 hn r
  rw [rdVar]
  simp only [Int.toNat_natCast, h, h1, h2, rvN, if_true]
  rw [if_neg (by simp)]
  have : (p : Int) + (stop (varN n ++ r) : Int) + 1 = ((p + (varN n).length : Nat) : Int) := by omega
  rw [this]
theorem rdOne_pos {t r : List UInt8} {p : Nat} {b : UInt8} (h : t.drop p = b :: r) : rdOne ⟨t, p, false⟩ = ((b.toNat : Int), ⟨t, ((p + 1 : Nat) : Int), false⟩) := by
  have hl : p < t.length := by
    rcases Nat.lt_or_ge p t.length with h1 | h1
    · exact h1
    · rw [List.drop_of_length_le h1] at h; cases h
  have hb : t.getD p 0 = b := by
    rw [List.getD_eq_getElem?_getD, ← List.head?_drop, h]; rfl
  rw [rdOne, if_neg (by simp; omega)]
  simp only [Int.toNat_natCast, hb]
  rfl
theorem u8_back {n : Int} (h0 : 0 ≤ n) (h : n ≤ 31) : (((UInt8.ofNat n.toNat).toNat : Nat) : Int) = n := by
  have : (UInt8.ofNat n.toNat).toNat = n.toNat := UInt8.toNat_ofNat_of_lt' (by show n.toNat < 256; omega)
  rw [this]; omega
theorem edit_back {e : Edit} (hk : editOk e = true) : readB (editText e) = true ∧ readE (editText e) = e := by
  obtain ⟨⟨k1, k2⟩, hB, hT, hS, ⟨w1, w2⟩, ⟨b1, b2⟩, ⟨s1, s2⟩, hX⟩ := editOk_parts hk
  have hst := setText_len e.Set
  obtain ⟨t, ht⟩ : ∃ t, editText e = t := ⟨_, rfl⟩
  rw [ht]
  have htx := ht
  rw [editText, if_pos hk] at ht
  have h3 : t = [UInt8.ofNat e.Kind.toNat] ++ (short e.Box ++ (short e.To ++ (short (setText e.Set) ++ ([UInt8.ofNat e.How.toNat] ++ ([UInt8.ofNat e.Bits.toNat] ++ (varN (e.Since + 1).toNat ++ (short e.Text ++ []))))))) := by
    rw [← ht]; simp [short]
  have p1 : rE1 t = (((UInt8.ofNat e.Kind.toNat).toNat : Int), ⟨t, ((1 : Nat) : Int), false⟩) := rdOne_at h3
  have d1 := congrArg (List.drop 1) h3
  rw [List.singleton_append, List.drop_succ_cons, List.drop_zero] at d1
  have p2 : rE2 t = (e.Box, ⟨t, ((1 + (short e.Box).length : Nat) : Int), false⟩) := by rw [rE2, p1]; exact rdShort_at d1 (by omega)
  have d2 := congrArg (List.drop (short e.Box).length) d1
  rw [List.drop_drop, List.drop_left' rfl] at d2
  have p3 : rE3 t = (e.To, ⟨t, ((1 + (short e.Box).length + (short e.To).length : Nat) : Int), false⟩) := by rw [rE3, p2]; exact rdShort_at d2 (by omega)
  have d3 := congrArg (List.drop (short e.To).length) d2
  rw [List.drop_drop, List.drop_left' rfl] at d3
  have p4 : rE4 t = (setText e.Set, ⟨t, ((1 + (short e.Box).length + (short e.To).length + (short (setText e.Set)).length : Nat) : Int), false⟩) := by rw [rE4, p3]; exact rdShort_at d3 (by omega)
  have d4 := congrArg (List.drop (short (setText e.Set)).length) d3
  rw [List.drop_drop, List.drop_left' rfl] at d4
  have p5 : rE5 t = (e.How, ⟨t, ((1 + (short e.Box).length + (short e.To).length + (short (setText e.Set)).length + 1 : Nat) : Int), false⟩) := by
    rw [rE5, p4, rdOne_pos d4, u8_back w1 (by omega)]
  have d5 := congrArg (List.drop 1) d4
  rw [List.drop_drop, List.singleton_append, List.drop_succ_cons, List.drop_zero] at d5
  have p6 : rE6 t = (e.Bits, ⟨t, ((1 + (short e.Box).length + (short e.To).length + (short (setText e.Set)).length + 1 + 1 : Nat) : Int), false⟩) := by
    rw [rE6, p5, rdOne_pos d5, u8_back b1 b2]
  have d6 := congrArg (List.drop 1) d5
  rw [List.drop_drop, List.singleton_append, List.drop_succ_cons, List.drop_zero] at d6
  have p7 : rE7 t = (e.Since + 1, ⟨t, ((1 + (short e.Box).length + (short e.To).length + (short (setText e.Set)).length + 1 + 1 + (varN (e.Since + 1).toNat).length : Nat) : Int), false⟩) := by
    rw [rE7, p6, rdVar_at d6 (by omega)]
    congr 1; omega
  have d7 := congrArg (List.drop (varN (e.Since + 1).toNat).length) d6
  rw [List.drop_drop, List.drop_left' rfl] at d7
  have p8 : rE8 t = (e.Text, ⟨t, ((1 + (short e.Box).length + (short e.To).length + (short (setText e.Set)).length + 1 + 1 + (varN (e.Since + 1).toNat).length + (short e.Text).length : Nat) : Int), false⟩) := by rw [rE8, p7]; exact rdShort_at d7 (by omega)
  have hset : (if (setText e.Set == []) = true then [] else readSet (setText e.Set) 9999) = e.Set := by
    by_cases h0 : e.Set = []
    · rw [h0, setText_nil]; rfl
    · have hn := setText_ne hS h0
      rw [if_neg (by rw [beq_iff_eq]; exact hn)]
      exact (set_back hS h0 (by omega) (by omega)).2
  have hre : readEd t 9999 = e := by
    rw [readEd, p1, p2, p3, p4, p5, p6, p7, p8]
    simp only
    rw [hset, u8_back (by omega) (by omega), show e.Since + 1 - 1 = e.Since by omega]
  have hb : readB t = true := by
    rw [readB, hre, p8, hk, htx]
    simp
  exact ⟨hb, by rw [readE, if_pos hb, hre]⟩
theorem edit_again {t : List UInt8} (h : readB t = true) : editText (readE t) = t := by
  rw [readE, if_pos h]
  simp only [readB, Bool.and_eq_true, beq_iff_eq] at h
  exact h.2.2
end Go.Proofs.YtimiccneikhkgaaGreatDoor.L
