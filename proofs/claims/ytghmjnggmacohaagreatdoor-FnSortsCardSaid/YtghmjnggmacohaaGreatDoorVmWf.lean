/- What the reading of an argument says of its shape, type by type. -/
import Derived.Test.YtghmjnggmacohaaGreatDoorVmLaw
import Derived.Test.YtghmjnggmacohaaGreatDoorVmData2
set_option linter.unusedVariables false
set_option linter.unusedSimpArgs false
namespace Go.VM
open Go
section
variable {P : Program} {n : Nat} {t : TypeId} {v : V}
theorem wf_slice {e : TypeId} (hu : P.underlying t = some (.slice e)) (h : WfV P (n + 1) t v) : ∃ l, v = .lst (P.cellsOf e) l ∧ l.length * P.bytesOf e ≤ reachBytes ∧ l.length ≤ maxLen ∧ ∀ x ∈ l, WfV P n e x := by
  unfold WfV at h
  rw [hu] at h
  cases v <;> try exact h.elim
  obtain ⟨rfl, h1, h2, h3⟩ := h
  exact ⟨_, rfl, h1, h2, h3⟩
theorem list_enc {α : Type} {e : α → V} {R : α → Prop} : ∀ {l : List V}, (∀ v ∈ l, ∃ a, v = e a ∧ R a) → ∃ xs : List α, l = xs.map e ∧ ∀ a ∈ xs, R a
  | [], _ => ⟨[], rfl, fun a h => by simp at h⟩
  | v :: l, h => by
    obtain ⟨a, rfl, ha⟩ := h v (by simp)
    obtain ⟨xs, rfl, hx⟩ := list_enc (l := l) fun v hv => h v (by simp [hv])
    exact ⟨a :: xs, rfl, by
      intro b hb
      rcases List.mem_cons.1 hb with rfl | hb
      · exact ha
      · exact hx b hb⟩
end
end Go.VM
