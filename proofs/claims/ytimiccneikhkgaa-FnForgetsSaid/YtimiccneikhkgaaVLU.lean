/- The numbers of a right box's mails: they ascend. -/
import Derived.Test.YtimiccneikhkgaaVLK
namespace Go.Proofs.Ytimiccneikhkgaa.L
open Go Go.VM
set_option maxRecDepth 100000
set_option maxHeartbeats 4000000
set_option linter.unusedSimpArgs false
set_option linter.unusedVariables false
theorem asc_of_adj : ∀ {l : List Int}, (∀ i, (h : i + 1 < l.length) → l[i] < l[i + 1]) → l.Pairwise (· < ·)
  | [], _ => List.Pairwise.nil
  | [x], _ => List.pairwise_singleton _ _
  | x :: y :: t, h => by
    have h1 : (y :: t).Pairwise (· < ·) := asc_of_adj fun i hi => by
      have := h (i + 1) (by simpa using hi)
      simpa using this
    have h2 : x < y := by simpa using h 0 (by simp)
    refine List.Pairwise.cons (fun z hz => ?_) h1
    rcases List.mem_cons.1 hz with rfl | hz
    · exact h2
    · exact Int.lt_trans h2 ((List.pairwise_cons.1 h1).1 z hz)
theorem mailAt_of {b : Box} (h : boxOk b = true) {i : Nat} (hi : i < b.Mails.length) : mailAtOk b i = true := by
  simp only [boxOk, mailsOk, Bool.and_eq_true] at h
  exact allN_get h.1.2.1 hi
theorem mail_in {b : Box} (h : boxOk b = true) {i : Nat} (hi : i < b.Mails.length) : 1 ≤ b.Mails[i].Uid ∧ b.Mails[i].Uid ≤ 9998 ∧ flagsOk b.Mails[i].Flags = true := by
  have h1 := mailAt_of h hi
  have h2 := numsOk_next (boxOk_parts h).1
  simp only [mailAtOk, Bool.and_eq_true, within, decide_eq_true_eq, List.getD_eq_getElem?_getD, List.getElem?_eq_getElem hi, Option.getD_some] at h1
  exact ⟨h1.1.1.1.1.1, by omega, h1.1.1.2⟩
theorem uids_asc {b : Box} (h : boxOk b = true) : Asc (b.Mails.map (·.Uid)) 9999 := by
  refine ⟨asc_of_adj fun i hi => ?_, fun x hx => ?_⟩
  · rw [List.length_map] at hi
    have h1 := mailAt_of h hi
    simp only [mailAtOk, Bool.and_eq_true, Bool.or_eq_true, decide_eq_true_eq, List.getD_eq_getElem?_getD, List.getElem?_eq_getElem hi, Option.getD_some, Nat.add_sub_cancel, List.getElem?_eq_getElem (show i < b.Mails.length by omega)] at h1
    have h2 := h1.1.1.1.2
    simp only [List.getElem_map]
    rcases h2 with h2 | h2
    · simp at h2
    · exact h2
  · obtain ⟨m, hm, rfl⟩ := List.mem_map.1 hx
    obtain ⟨i, hi, rfl⟩ := List.mem_iff_getElem.1 hm
    have := mail_in h hi
    omega
theorem filter_asc {b : Box} (h : boxOk b = true) (p : Mail → Bool) : Asc ((b.Mails.filter p).map (·.Uid)) 9999 := by
  have hs : ((b.Mails.filter p).map (·.Uid)).Sublist (b.Mails.map (·.Uid)) := List.Sublist.map _ List.filter_sublist
  have ha := uids_asc h
  exact ⟨ha.1.sublist hs, fun x hx => ha.2 x (hs.subset hx)⟩
theorem asc_all {l : List Int} (h : Asc l 9999) : l.all (fun x => within x 1 9999) = true := by
  rw [List.all_eq_true]
  intro x hx
  have := h.2 x hx
  simp only [within, Bool.and_eq_true, decide_eq_true_eq]; omega
theorem uids_len (l : List Mail) (p : Mail → Bool) (i : Nat) : (((l.take i).filter p).map (·.Uid)).length ≤ l.length := by
  rw [List.length_map]
  have h1 := List.length_filter_le p (l.take i)
  have h2 : (l.take i).length ≤ l.length := by rw [List.length_take]; omega
  omega
theorem setOf_nil' : setOf [] = [] := by
  have : (nums 9999).filter (fun n => decide (n ∈ ([] : List Int))) = [] := List.filter_eq_nil_iff.2 (fun _ _ => by simp)
  rw [setOf, this]; rfl
end Go.Proofs.Ytimiccneikhkgaa.L
