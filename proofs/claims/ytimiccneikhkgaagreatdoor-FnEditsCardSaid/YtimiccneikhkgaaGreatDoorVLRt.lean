/- What is written of a set is read again, as it was. No program in sight. -/
import Derived.Test.YtimiccneikhkgaaGreatDoorVLRp
import Derived.Test.YtimiccneikhkgaaGreatDoorVLRs3
namespace Go.Proofs.YtimiccneikhkgaaGreatDoor.L
open Go Go.VM
set_option maxRecDepth 100000
set_option maxHeartbeats 1000000
set_option linter.unusedSimpArgs false
set_option linter.unusedVariables false
theorem canon_eq {m k : Int} : ∀ {A B : List Range}, Canon A m → Canon B k → (∀ n, hasR A n = hasR B n) → A = B
  | [], [], _, _, _ => rfl
  | [], b :: B, _, hB, h => by
    have h1 := h b.Lo
    have h2 := hB.1 b (by simp)
    have : hasR (b :: B) b.Lo = true := by rw [hasR, List.any_cons]; simp; omega
    rw [this] at h1
    simp [hasR] at h1
  | a :: A, [], hA, _, h => by
    have h1 := h a.Lo
    have h2 := hA.1 a (by simp)
    have : hasR (a :: A) a.Lo = true := by rw [hasR, List.any_cons]; simp; omega
    rw [this] at h1
    simp [hasR] at h1
  | a :: A, b :: B, hA, hB, h => by
    have ma := hA.1 a (by simp)
    have mb := hB.1 b (by simp)
    have pa := (List.pairwise_cons.1 hA.2).1
    have pb := (List.pairwise_cons.1 hB.2).1
    have mem : ∀ (l : List Range) (n : Int), hasR l n = true ↔ ∃ r ∈ l, r.Lo ≤ n ∧ n ≤ r.Hi := by intro l n; simp [hasR]
    have lo1 : b.Lo ≤ a.Lo := by
      obtain ⟨r, hr, h1, h2⟩ := (mem _ _).1 ((h a.Lo).symm.trans ((mem (a :: A) a.Lo).2 ⟨a, by simp, by omega, by omega⟩))
      rcases List.mem_cons.1 hr with rfl | hr
      · exact h1
      · have := pb r hr; omega
    have lo2 : a.Lo ≤ b.Lo := by
      obtain ⟨r, hr, h1, h2⟩ := (mem _ _).1 ((h b.Lo).trans ((mem (b :: B) b.Lo).2 ⟨b, by simp, by omega, by omega⟩))
      rcases List.mem_cons.1 hr with rfl | hr
      · exact h1
      · have := pa r hr; omega
    have hi1 : b.Hi ≤ a.Hi := by
      rcases Int.lt_or_le a.Hi b.Hi with hlt | hge
      · obtain ⟨r, hr, h1, h2⟩ := (mem _ _).1 ((h (a.Hi + 1)).trans ((mem (b :: B) (a.Hi + 1)).2 ⟨b, by simp, by omega, by omega⟩))
        rcases List.mem_cons.1 hr with rfl | hr
        · omega
        · have := pa r hr; omega
      · exact hge
    have hi2 : a.Hi ≤ b.Hi := by
      rcases Int.lt_or_le b.Hi a.Hi with hlt | hge
      · obtain ⟨r, hr, h1, h2⟩ := (mem _ _).1 ((h (b.Hi + 1)).symm.trans ((mem (a :: A) (b.Hi + 1)).2 ⟨a, by simp, by omega, by omega⟩))
        rcases List.mem_cons.1 hr with rfl | hr
        · omega
        · have := pb r hr; omega
      · exact hge
    have e : a = b := by
      obtain ⟨x, y⟩ := a
      obtain ⟨z, w⟩ := b
      simp only at lo1 lo2 hi1 hi2
      rw [show x = z by omega, show y = w by omega]
    subst e
    congr 1
    refine canon_eq (m := m) (k := k) ⟨fun r hr => hA.1 r (by simp [hr]), (List.pairwise_cons.1 hA.2).2⟩ ⟨fun r hr => hB.1 r (by simp [hr]), (List.pairwise_cons.1 hB.2).2⟩ fun n => ?_
    have hn := h n
    rw [Bool.eq_iff_iff, mem, mem] at hn ⊢
    constructor
    · rintro ⟨r, hr, h1, h2⟩
      obtain ⟨s, hs, h3, h4⟩ := hn.1 ⟨r, by simp [hr], h1, h2⟩
      rcases List.mem_cons.1 hs with rfl | hs
      · have := pa r hr; omega
      · exact ⟨s, hs, h3, h4⟩
    · rintro ⟨r, hr, h1, h2⟩
      obtain ⟨s, hs, h3, h4⟩ := hn.2 ⟨r, by simp [hr], h1, h2⟩
      rcases List.mem_cons.1 hs with rfl | hs
      · have := pb r hr; omega
      · exact ⟨s, hs, h3, h4⟩
theorem canon_of_ok {S : List Range} (h : setOk S = true) : Canon S 9999 := by
  simp only [setOk, Bool.and_eq_true] at h
  have hr : ∀ i, (hi : i < S.length) → rangeAt S i = true := fun i hi => allN_get h.1 hi
  refine ⟨fun r hx => ?_, ?_⟩
  · obtain ⟨i, hi, rfl⟩ := List.mem_iff_getElem.1 hx
    exact rangeAt_hi hi (hr i hi)
  · have adj : ∀ i, (hi : i + 1 < S.length) → S[i].Hi + 1 < S[i + 1].Lo := by
      intro i hi
      have := hr (i + 1) hi
      simp only [rangeAt, Bool.and_eq_true, Bool.or_eq_true, decide_eq_true_eq, Nat.add_sub_cancel, getD_lt hi, getD_lt (show i < S.length by omega), beq_iff_eq] at this
      rcases this.2 with h0 | h0
      · omega
      · exact h0
    have wf : ∀ i, (hi : i < S.length) → S[i].Lo ≤ S[i].Hi := fun i hi => (rangeAt_hi hi (hr i hi)).2.1
    rw [List.pairwise_iff_getElem]
    intro i j hi hj hij
    induction j with
    | zero => omega
    | succ j ih =>
      rcases Nat.lt_or_ge i j with h1 | h1
      · have a1 := ih (by omega) h1
        have a2 := adj j hj
        have a3 := wf j (by omega)
        omega
      · have : i = j := by omega
        subst this
        exact adj i hj
theorem setR_same {S : List Range} (h : setOk S = true) : setR S = S := by
  have hc := canon_of_ok h
  have ha : Asc ((nums 9999).filter fun n => hasR S n) 9999 := (nums_asc 9999).filter _
  refine canon_eq (scan_canon _ _ ha) hc fun n => ?_
  show hasR (scan _) n = _
  rw [hasR_scan _ _ _ ha, Bool.eq_iff_iff, decide_eq_true_eq, List.mem_filter, nums_mem]
  constructor
  · exact fun e => e.2
  · intro e
    refine ⟨?_, e⟩
    rw [hasR, List.any_eq_true] at e
    obtain ⟨r, hr, e⟩ := e
    simp only [Bool.and_eq_true, decide_eq_true_eq] at e
    have := hc.1 r hr
    omega
/-! ### numbers -/
theorem dec_read (n : Nat) : (Lib.decDigits n).all digB = true ∧ numV (Lib.decDigits n) = n := by
  induction n using Nat.strongRecOn with
  | ind n ih =>
    have key : ∀ k : Nat, k < 10 → digB (UInt8.ofNat (48 + k)) = true ∧ ((UInt8.ofNat (48 + k)).toNat : Int) = 48 + k := by
      intro k hk
      have e : (UInt8.ofNat (48 + k)).toNat = 48 + k := UInt8.toNat_ofNat_of_lt' (by show 48 + k < 256; omega)
      refine ⟨?_, by omega⟩
      simp only [digB, within, Bool.and_eq_true, decide_eq_true_eq, e]
      omega
    rw [Lib.decDigits]
    by_cases h : n < 10
    · rw [dif_pos h]
      obtain ⟨k1, k2⟩ := key n h
      refine ⟨by simp only [List.all_cons, List.all_nil, k1]; rfl, ?_⟩
      simp only [numV, List.foldl_cons, List.foldl_nil, stepV, k2]; omega
    · rw [dif_neg h]
      obtain ⟨i1, i2⟩ := ih (n / 10) (by omega)
      obtain ⟨k1, k2⟩ := key (n % 10) (by omega)
      refine ⟨by rw [List.all_append, i1]; simp only [List.all_cons, List.all_nil, k1]; rfl, ?_⟩
      rw [numV_snoc, i2, stepV, k2]; omega
theorem itoa_read {n : Int} (h : 0 ≤ n) : (Lib.itoa n).all digB = true ∧ numV (Lib.itoa n) = n := by
  rw [Lib.itoa, if_neg (by omega)]
  have := dec_read n.toNat
  exact ⟨this.1, by rw [this.2]; omega⟩
theorem itoa_ne {n : Int} (h : 0 ≤ n) : Lib.itoa n ≠ [] := by
  rw [Lib.itoa, if_neg (by omega)]
  intro e
  rw [Lib.decDigits] at e
  split at e <;> simp at e
theorem num_back {n : Int} (h1 : 1 ≤ n) (h2 : n ≤ 9999) (last : Int) : numB (Lib.itoa n) = true ∧ numN (Lib.itoa n) last = n := by
  obtain ⟨a1, a2⟩ := itoa_read (n := n) (by omega)
  have a3 := itoa4 (n := n) (by omega) h2
  have a4 := itoa_ne (n := n) (by omega)
  have a5 : Lib.itoa n ≠ [42] := by
    intro e; rw [e] at a1; revert a1; decide
  have a6 : within (Lib.itoa n).length 1 4 = true := by
    have := List.length_pos_iff.2 a4
    simp only [within, Bool.and_eq_true, decide_eq_true_eq]; omega
  refine ⟨?_, ?_⟩
  · rw [numB, if_neg a5, a6, a1, a2]; simp; omega
  · rw [numN, if_neg a5, a6, a1, if_pos (by rfl), a2]
theorem dig_no {s : List UInt8} (h : s.all digB = true) (c : UInt8) (hc : digB c = false) : ∀ x ∈ s, notB c x = true := by
  intro x hx
  have := List.all_eq_true.1 h x hx
  rw [notB, bne_iff_ne]
  rintro rfl
  rw [this] at hc; cases hc
theorem part_back {r : Range} (h1 : 1 ≤ r.Lo) (h2 : r.Lo ≤ r.Hi) (h3 : r.Hi ≤ 9999) (last : Int) : partB (partOf r) = true ∧ partLo (partOf r) last = r.Lo ∧ partHi (partOf r) last = r.Hi := by
  obtain ⟨a1, a2⟩ := num_back h1 (by omega) last
  obtain ⟨b1, b2⟩ := num_back (n := r.Hi) (by omega) h3 last
  have d1 := dig_no (itoa_read (n := r.Lo) (by omega)).1 58 (by decide)
  have d2 := dig_no (itoa_read (n := r.Hi) (by omega)).1 58 (by decide)
  unfold partOf
  split
  · rename_i hlt
    have hm : (58 : UInt8) ∈ Lib.itoa r.Lo ++ 58 :: Lib.itoa r.Hi := by simp
    have hf : first (Lib.itoa r.Lo ++ 58 :: Lib.itoa r.Hi) = Lib.itoa r.Lo := by
      rw [first, List.takeWhile_append_of_pos d1]
      simp [notB]
    have hs : second (Lib.itoa r.Lo ++ 58 :: Lib.itoa r.Hi) = Lib.itoa r.Hi := by
      rw [second, hf]
      rw [show Lib.itoa r.Lo ++ 58 :: Lib.itoa r.Hi = (Lib.itoa r.Lo ++ [58]) ++ Lib.itoa r.Hi by simp]
      exact List.drop_left' (by simp)
    refine ⟨by rw [partB, if_pos hm, hf, hs, a1, b1]; rfl, ?_, ?_⟩
    · rw [partLo, if_pos hm, hf, hs, a2, b2]; omega
    · rw [partHi, if_pos hm, hf, hs, a2, b2]; omega
  · have hm : ¬ (58 : UInt8) ∈ Lib.itoa r.Lo := fun e => by have := d1 _ e; simp [notB] at this
    refine ⟨by rw [partB, if_neg hm, a1], ?_, ?_⟩
    · rw [partLo, if_neg hm, a2]
    · rw [partHi, if_neg hm, a2]; omega
theorem part_no {r : Range} (h1 : 1 ≤ r.Lo) (h2 : r.Lo ≤ r.Hi) : ∀ x ∈ partOf r, notB 44 x = true := by
  have d1 := dig_no (itoa_read (n := r.Lo) (by omega)).1 44 (by decide)
  have d2 := dig_no (itoa_read (n := r.Hi) (by omega)).1 44 (by decide)
  intro x hx
  unfold partOf at hx
  split at hx
  · rcases List.mem_append.1 hx with hx | hx
    · exact d1 x hx
    · rcases List.mem_cons.1 hx with rfl | hx
      · decide
      · exact d2 x hx
  · exact d1 x hx
theorem join_split : ∀ {S : List Range}, S ≠ [] → (∀ r ∈ S, 1 ≤ r.Lo ∧ r.Lo ≤ r.Hi) → splitOn 44 (Lib.join (S.map partOf) [44]) = S.map partOf
  | [], h, _ => absurd rfl h
  | [r], _, hs => by
    obtain ⟨h1, h2⟩ := hs r (by simp)
    simp only [List.map_cons, List.map_nil, Lib.join_cons, Lib.joinTail, List.flatten_nil, List.append_nil]
    exact splitOn_none (part_no h1 h2)
  | r :: q :: S, _, hs => by
    obtain ⟨h1, h2⟩ := hs r (by simp)
    have ih := join_split (S := q :: S) (by simp) (fun x hx => hs x (by simp [hx]))
    have e : Lib.join ((r :: q :: S).map partOf) [44] = partOf r ++ 44 :: Lib.join ((q :: S).map partOf) [44] := by
      simp only [List.map_cons, Lib.join_cons, Lib.joinTail, List.map_map, List.flatten_cons, List.cons_append, List.nil_append]
    rw [e, splitOn_app _ (part_no h1 h2), ih]; rfl
theorem ranges_back (last : Int) : ∀ {S : List Range}, (∀ r ∈ S, 1 ≤ r.Lo ∧ r.Lo ≤ r.Hi ∧ r.Hi ≤ 9999) → rangesOf last (S.map partOf) = some S
  | [], _ => rfl
  | r :: S, hs => by
    obtain ⟨h1, h2, h3⟩ := hs r (by simp)
    obtain ⟨p1, p2, p3⟩ := part_back h1 h2 h3 last
    rw [List.map_cons, rangesOf, if_pos p1, ranges_back last (fun x hx => hs x (by simp [hx])), p2, p3]; rfl
/-- A set's text, read. -/
theorem set_back {S : List Range} {last : Int} (h : setOk S = true) (hne : S ≠ []) (h0 : 1 ≤ last) (h9 : last ≤ 9999) : readOk (setText S) last = true ∧ readSet (setText S) last = S := by
  have hb : ∀ r ∈ S, 1 ≤ r.Lo ∧ r.Lo ≤ r.Hi ∧ r.Hi ≤ 9999 := (canon_of_ok h).1
  have e1 : splitOn 44 (setText S) = S.map partOf := by rw [setText, if_pos h]; exact join_split hne fun r hr => ⟨(hb r hr).1, (hb r hr).2.1⟩
  have e2 : rangesOf last (splitOn 44 (setText S)) = some S := by rw [e1]; exact ranges_back last hb
  have e3 := setR_same h
  have e4 := setOk_len h
  have hw : within last 1 9999 = true := by simp only [within, Bool.and_eq_true, decide_eq_true_eq]; omega
  have hk : readOk (setText S) last = true := by rw [readOk, e2, hw]; simp only [e3, Bool.true_and, decide_eq_true_eq]; exact e4
  exact ⟨hk, by rw [readSet, if_pos hk, e2]; exact e3⟩
theorem setText_ne {S : List Range} (h : setOk S = true) (hne : S ≠ []) : setText S ≠ [] := by
  intro e
  have := (set_back (last := 1) h hne (by omega) (by omega)).2
  rw [e] at this
  have h2 : readSet [] 1 = [] := by
    have : readOk [] 1 = false := by decide
    rw [readSet, this]; rfl
  rw [h2] at this
  exact hne this.symm
end Go.Proofs.YtimiccneikhkgaaGreatDoor.L
