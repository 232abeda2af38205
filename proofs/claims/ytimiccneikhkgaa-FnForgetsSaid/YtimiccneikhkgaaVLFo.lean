/- What is right of a box stays right where tombs are forgotten. -/
import Derived.Test.YtimiccneikhkgaaVLVp
import Derived.Test.YtimiccneikhkgaaVLY
import Derived.Test.YtimiccneikhkgaaVLG2
namespace Go.Proofs.Ytimiccneikhkgaa.L
open Go Go.VM
set_option maxRecDepth 100000
set_option maxHeartbeats 4000000
set_option linter.unusedSimpArgs false
set_option linter.unusedVariables false
theorem pw_of_adj {α : Type} {R : α → α → Prop} (tr : ∀ a b c, R a b → R b c → R a c) : ∀ {l : List α}, (∀ i, (h : i + 1 < l.length) → R l[i] l[i + 1]) → l.Pairwise R
  | [], _ => List.Pairwise.nil
  | [x], _ => List.pairwise_singleton _ _
  | x :: y :: t, h => by
    have h1 : (y :: t).Pairwise R := pw_of_adj tr fun i hi => by
      have := h (i + 1) (by simpa using hi)
      simpa using this
    have h2 : R x y := by simpa using h 0 (by simp)
    refine List.Pairwise.cons (fun z hz => ?_) h1
    rcases List.mem_cons.1 hz with rfl | hz
    · exact h2
    · exact tr _ _ _ h2 ((List.pairwise_cons.1 h1).1 z hz)
def tombLt (x y : Tomb) : Prop := x.Mod < y.Mod ∨ (x.Mod = y.Mod ∧ x.Uid < y.Uid)
def tombHere (b : Box) (t : Tomb) : Prop := within t.Uid 1 (b.Next - 1) = true ∧ within t.Mod (b.Horizon + 1) b.Mod = true ∧ hasMail b.Mails t.Uid = false
theorem tombs_facts {b : Box} (h : boxOk b = true) : (∀ t ∈ b.Tombs, tombHere b t) ∧ b.Tombs.Pairwise tombLt := by
  constructor
  · intro x hx
    obtain ⟨i, hi, rfl⟩ := List.mem_iff_getElem.1 hx
    have h2 := tomb_of h hi
    simp only [tombAtOk, tombIn, Bool.and_eq_true, List.getD_eq_getElem?_getD, List.getElem?_eq_getElem hi, Option.getD_some, Bool.not_eq_true'] at h2
    exact ⟨h2.1.1.1.1, h2.1.1.1.2, h2.1.2⟩
  · refine pw_of_adj (fun a b c h1 h2 => by unfold tombLt at *; omega) fun i hi => ?_
    have h2 := tomb_of h hi
    simp only [tombAtOk, tombOrd, Bool.and_eq_true, Bool.or_eq_true, Bool.not_eq_true', Bool.or_eq_false_iff, decide_eq_false_iff_not, List.getD_eq_getElem?_getD, List.getElem?_eq_getElem hi, Option.getD_some, Nat.add_sub_cancel, List.getElem?_eq_getElem (show i < b.Tombs.length by omega), Bool.and_eq_false_iff, beq_eq_false_iff_ne] at h2
    rcases h2.2 with h3 | ⟨h3, h4⟩
    · simp at h3
    · unfold tombLt
      rcases h4 with h4 | h4 <;> omega
theorem tombs_back {b : Box} (h1 : ∀ t ∈ b.Tombs, tombHere b t) (h2 : b.Tombs.Pairwise tombLt) (h3 : (b.Tombs.map (·.Uid)).Pairwise (· ≠ ·)) (h4 : b.Tombs.length ≤ 40) : tombsOk b = true := by
  simp only [tombsOk, Bool.and_eq_true, decide_eq_true_eq]
  refine ⟨allN_all (Nat.le_refl _) fun i hi => ?_, h4⟩
  obtain ⟨a1, a2, a3⟩ := h1 _ (List.getElem_mem hi)
  rw [List.pairwise_map] at h3
  simp only [tombAtOk, tombIn, tombOrd, getD_lt hi, a1, a2, a3, Bool.true_and, Bool.not_false, Bool.and_true, Bool.and_eq_true, Bool.not_eq_true', Bool.or_eq_true, beq_iff_eq]
  refine ⟨?_, ?_⟩
  · rw [hasTomb, List.any_eq_false]
    intro x hx
    obtain ⟨j, hj, rfl⟩ := List.mem_take_iff_getElem.1 hx
    have := List.pairwise_iff_getElem.1 h3 j i (by omega) hi (by omega)
    simpa using this
  · rcases Nat.eq_zero_or_pos i with h0 | h0
    · exact .inl h0
    · right
      have := List.pairwise_iff_getElem.1 h2 (i - 1) i (by omega) hi (by omega)
      rw [getD_lt (show i - 1 < b.Tombs.length by omega)]
      unfold tombLt at this
      rw [Bool.or_eq_false_iff, decide_eq_false_iff_not, Bool.and_eq_false_iff, beq_eq_false_iff_ne, decide_eq_false_iff_not]
      omega
theorem forgetOut_ok {b : Box} {u : Int} (h : boxOk b = true) (h0 : 0 ≤ u) (h1 : u ≤ b.Mod) : boxOk (forgetOut b u) = true := by
  have hf := tombs_facts h
  have hn := tombs_ne h
  have hp := boxOk_parts h
  have hnn := numsOk_next hp.1
  obtain ⟨H, eH, hH0, hH1, hH2⟩ : ∃ H, (if b.Horizon < u then u else b.Horizon) = H ∧ 0 ≤ H ∧ H ≤ b.Mod ∧ (H = u ∨ (H = b.Horizon ∧ u ≤ H)) := ⟨_, rfl, by split <;> omega, by split <;> omega, by split <;> omega⟩
  have eO : forgetOut b u = ⟨b.Name, b.Valid, b.Next, b.Mod, b.Mails, b.Tombs.filter (fun x => !decide (x.Mod ≤ u)), H⟩ := by rw [forgetOut, eH]
  rw [eO]
  simp only [boxOk, Bool.and_eq_true] at h ⊢
  obtain ⟨⟨⟨k1, k2⟩, k3⟩, k4⟩ := h
  refine ⟨⟨⟨k1, ?_⟩, k3⟩, ?_⟩
  · simp only [numsOk, Bool.and_eq_true, within, decide_eq_true_eq] at k2 ⊢
    exact ⟨k2.1, hH0, hH1⟩
  · refine tombs_back (fun t ht => ?_) (hf.2.filter _) (hn.sublist (List.Sublist.map _ List.filter_sublist)) (Nat.le_trans (List.length_filter_le _ _) hp.2.2.1)
    obtain ⟨m1, m2⟩ := List.mem_filter.1 ht
    obtain ⟨a1, a2, a3⟩ := hf.1 t m1
    refine ⟨a1, ?_, a3⟩
    simp only [Bool.not_eq_true', decide_eq_false_iff_not] at m2
    simp only [within, Bool.and_eq_true, decide_eq_true_eq] at a2 ⊢
    omega
theorem forgetTombs_ok {b : Box} {u : Int} (h : boxOk b = true) : boxOk (forgetTombs b u) = true := by
  unfold forgetTombs
  split
  · rename_i hg
    simp only [forgetGood, Bool.and_eq_true, within, decide_eq_true_eq] at hg
    exact forgetOut_ok h hg.2.1 hg.2.2
  · exact h
/-- What is told behind a horizon is told of all tombs alike. -/
theorem vanU_forget {b : Box} {u since : Int} (h : u ≤ since) : vanU (b.Tombs.filter (fun x => !decide (x.Mod ≤ u))) since = vanU b.Tombs since := by
  unfold vanU
  rw [List.filter_filter]
  congr 1
  refine List.filter_congr fun t _ => ?_
  rw [Bool.eq_iff_iff]
  simp
  omega
theorem vanU_none {b : Box} (h : boxOk b = true) (l : List Tomb) (hl : ∀ t ∈ l, t ∈ b.Tombs) : vanU l b.Mod = [] := by
  have := (tombs_sorted h).2
  unfold vanU
  rw [List.map_eq_nil_iff, List.filter_eq_nil_iff]
  intro t ht
  have := this t (hl t ht)
  simp; omega
end Go.Proofs.Ytimiccneikhkgaa.L
