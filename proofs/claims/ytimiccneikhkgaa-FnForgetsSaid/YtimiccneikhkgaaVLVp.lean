/- Numbers of tombs that are told: the plain half. -/
import Derived.Test.YtimiccneikhkgaaVLU
import Derived.Test.YtimiccneikhkgaaVLH
namespace Go.Proofs.Ytimiccneikhkgaa.L
open Go Go.VM
set_option maxRecDepth 100000
set_option maxHeartbeats 4000000
set_option linter.unusedSimpArgs false
set_option linter.unusedVariables false
def vanU (l : List Tomb) (since : Int) : List Int := (l.filter fun t => decide (since < t.Mod)).map (·.Uid)
theorem vanU_succ {l : List Tomb} {since : Int} {i : Nat} (h : i < l.length) : vanU (l.take (i + 1)) since = vanU (l.take i) since ++ (if since < l[i].Mod then [l[i].Uid] else []) := by
  rw [vanU, filter_succ h, List.map_append]; congr 1
  by_cases hq : since < l[i].Mod
  · rw [if_pos hq, if_pos (by rw [decide_eq_true_eq]; exact hq)]; rfl
  · rw [if_neg hq, if_neg (by rw [decide_eq_true_eq]; exact hq)]; rfl
theorem vanU_len (l : List Tomb) (since : Int) : (vanU l since).length ≤ l.length := by rw [vanU, List.length_map]; exact List.length_filter_le _ _
theorem tomb_at {b : Box} (h : boxOk b = true) {i : Nat} (hi : i < b.Tombs.length) : 1 ≤ b.Tombs[i].Uid ∧ b.Tombs[i].Uid ≤ 9999 ∧ hasTomb (b.Tombs.take i) b.Tombs[i].Uid = false := by
  have hn := numsOk_next (boxOk_parts h).1
  simp only [boxOk, tombsOk, Bool.and_eq_true] at h
  have h2 := allN_get h.2.1 hi
  simp only [tombAtOk, tombIn, Bool.and_eq_true, within, decide_eq_true_eq, List.getD_eq_getElem?_getD, List.getElem?_eq_getElem hi, Option.getD_some, Bool.not_eq_true'] at h2
  exact ⟨h2.1.1.1.1.1, by omega, h2.1.1.2⟩
theorem tombs_ne {b : Box} (h : boxOk b = true) : (b.Tombs.map (·.Uid)).Pairwise (· ≠ ·) := by
  rw [List.pairwise_map, List.pairwise_iff_getElem]
  intro i j hi hj hij e
  have h2 := (tomb_at h hj).2.2
  rw [hasTomb, List.any_eq_false] at h2
  have := h2 b.Tombs[i] (List.mem_take_iff_getElem.2 ⟨i, by omega, rfl⟩)
  apply this
  rw [beq_iff_eq]; exact e
theorem vanU_in {b : Box} (h : boxOk b = true) (since : Int) : (vanU b.Tombs since).Pairwise (· ≠ ·) ∧ ∀ x ∈ vanU b.Tombs since, 1 ≤ x ∧ x ≤ 9999 := by
  constructor
  · exact (tombs_ne h).sublist (List.Sublist.map _ List.filter_sublist)
  · intro x hx
    obtain ⟨t, ht, rfl⟩ := List.mem_map.1 hx
    obtain ⟨i, hi, rfl⟩ := List.mem_iff_getElem.1 (List.mem_filter.1 ht).1
    have := tomb_at h hi
    exact ⟨this.1, this.2.1⟩
def vanOk (b : Box) (since : Int) : Bool := boxOk b && !decide (since < b.Horizon)
def vanished (b : Box) (since : Int) : List Range := if vanOk b since = true then setOf (vanU b.Tombs since) else []
theorem vanished_len (b : Box) (since : Int) : (vanished b since).length ≤ 4194304 := by
  unfold vanished
  split
  · rename_i h
    simp only [vanOk, Bool.and_eq_true] at h
    have hp := boxOk_parts h.1
    have h1 := setOf_len (vanU b.Tombs since)
    have h2 := vanU_len b.Tombs since
    omega
  · simp
end Go.Proofs.Ytimiccneikhkgaa.L
