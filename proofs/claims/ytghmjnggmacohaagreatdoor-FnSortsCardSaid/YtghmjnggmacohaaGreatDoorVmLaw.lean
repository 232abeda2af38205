/- A law of the program that takes plain data and answers true: from what is known of its function to its statement. -/
import Derived.Test.YtghmjnggmacohaaGreatDoorVmRow
import Derived.ProofKit
import Derived.WalkKit
import Derived.ChangeOld
set_option linter.unusedVariables false
set_option linter.unusedSimpArgs false
namespace Go.VM
open Go Go.ChangeShapes Go.RowKit

section
variable {P : Program} {w : World}

def allRd : Nat → List Mode
  | 0 => []
  | n + 1 => .rd :: allRd n

theorem args_rd {S : Nat → Prop} : ∀ {vs : List V} {cs : List Value}, Two (RD w S) vs cs → ∃ Ns, ArgsOk w S (allRd vs.length) vs cs Ns ∧ ∀ k, ¬ AnyS Ns k
  | _, _, .nil => ⟨[], .nil, fun k ⟨N, hN, _⟩ => by simp at hN⟩
  | _, _, .cons h t => by
    obtain ⟨Ns, h1, h2⟩ := args_rd t
    refine ⟨_ :: Ns, .rd h h1, fun k hk => ?_⟩
    rcases AnyS.cons.1 hk with hk | hk
    · exact hk
    · exact h2 k hk

theorem calls_of_fn {f : FuncId} {sp : Spec} (hG : GBase P sp.need w) (he : Enters P f) (hf : FnOk P f sp) {vs : List V} {cs : List Value} (hm : sp.modes = allRd vs.length) (hr : sp.run vs = some (.bool true, [])) (ht : Two (RD w fun k => k < w.heap.size) vs cs) :
    Calls P f cs.toArray w fun e w' => e = .returned (.bool true) ∧ Below w.heap.size w w' := by
  obtain ⟨Ns, h1, h2⟩ := args_rd ht
  refine ((hf w _ vs _ _ cs Ns ⟨hG, fun k _ => h2 k⟩ hr (by rw [hm]; exact h1) (fun i j N M k hN _ hk _ => absurd ⟨N, List.mem_of_getElem? hN, hk⟩ (h2 k)) (fun k hk => absurd hk (h2 k)) (fun k hk => hk)).calls he).mono ?_
  rintro e w' ⟨cv, NR, NOs, rfl, fr, ow | ⟨_, _, _, _, _, hb, _⟩, _⟩
  rotate_left
  · cases hb
  cases ow
  exact ⟨rfl, ⟨fr.os, fr.tape, fr.output, fr.size, fun k hk => fr.block k hk (h2 k)⟩⟩
end

section
variable {H : Type} {enc : TypeId × Value → H} {P : Program} {W W' : World}

theorem okWide_cells {n : Nat} {t : TypeId} {v : Value} {base : Nat} (hok : okT P n t = true) (h : Value.okWide P W .any base t v) : (isStruct P t = true ∧ ∃ cs, v = .agg cs) ∨ (isScalarT P t = true ∧ v.cells = #[v]) := by
  cases n with
  | zero => simp [okT] at hok
  | succ n =>
    unfold okT at hok
    unfold Value.okWide at h
    unfold isStruct isScalarT
    split at hok <;> rename_i hu <;> (try simp only [hu] at h ⊢)
    · refine .inr ⟨trivial, ?_⟩
      cases v <;> first | rfl | (simp [Cell.okWide, Cell.ok, hu] at h)
    · refine .inr ⟨trivial, ?_⟩
      cases v <;> first | rfl | (simp [Cell.okWide, Cell.ok, hu] at h)
    · refine .inr ⟨trivial, ?_⟩
      cases v <;> first | rfl | (simp [Cell.okWide, Cell.ok, hu] at h)
    · refine .inr ⟨trivial, ?_⟩
      cases v <;> first | rfl | (simp [Cell.okWide, Cell.ok, hu] at h)
    · obtain ⟨cs, rfl, _⟩ := h
      exact .inl ⟨trivial, cs, rfl⟩
    · cases hok

theorem wf_struct {n : Nat} {t : TypeId} {v : V} (h : WfV P n t v) (hs : isStruct P t = true) : ∃ l, v = .agg l := by
  cases n with
  | zero => exact h.elim
  | succ n =>
    unfold WfV at h
    unfold isStruct at hs
    split at h <;> simp_all

theorem trodAll_rd {n base : Nat} : ∀ {ts : List TypeId} {vs : List Value} {ds : List (DataW H)} {ps : List MemPlace}, (∀ t ∈ ts, okT P n t = true) → (∀ (j : Nat) t v, ts[j]? = some t → vs[j]? = some v → Value.okWide P W .any base t v) → DataW.TrodAll enc P W 0 (fun _ => true) true ts vs ds ps →
    (∀ m ∈ DataW.weightsEach P ts ds, m ≤ reachBytes) → ∃ xs : List V, xs.length = ts.length ∧ (∀ (i : Nat) t x, ts[i]? = some t → xs[i]? = some x → WfV P n t x) ∧ Two (RD W fun k => k < W.heap.size) xs vs
  | [], [], [], _, _, _, _, _ => ⟨[], rfl, fun i t x h => by simp at h, .nil⟩
  | t :: ts, v :: vs, d :: ds, _, hok, hval, htr, hw => by
    obtain ⟨p, q, ⟨fuel, h1⟩, h2, rfl⟩ := htr
    obtain ⟨xs, e1, e2, e3⟩ := trodAll_rd (fun t ht => hok t (List.mem_cons_of_mem _ ht)) (fun j t' v' ht hv => hval (j + 1) t' v' (by simpa using ht) (by simpa using hv)) h2 (fun m hm => hw m (by simp only [DataW.weightsEach, List.mem_append]; exact .inr hm))
    obtain ⟨x, hx1, hx2, hx3⟩ := trod_rd n fuel t _ _ (hok t (by simp)) h1 (fun m hm => hw m (by simp only [DataW.weightsEach, List.mem_append]; exact .inl hm))
    have hrd : RD W (fun k => k < W.heap.size) x v := by
      rcases okWide_cells (hok t (by simp)) (hval 0 t v rfl rfl) with ⟨hs, cs, rfl⟩ | ⟨hs, hc⟩
      · obtain ⟨l, rfl⟩ := wf_struct hx1 hs
        simp only [Value.cells, V.cells] at hx2 hx3
        exact .agg l cs (by simpa using hx2) fun i y c hy hc => hx3 i y c hy (by simpa using hc)
      · rw [hc] at hx3
        exact hx3 0 x v (by rw [wf_scalar hx1 hs]; rfl) rfl
    refine ⟨x :: xs, by simp [e1], fun i t' y ht hy => ?_, .cons hrd e3⟩
    cases i with
    | zero => simp at ht hy; subst ht hy; exact hx1
    | succ i => exact e2 i t' y (by simpa using ht) (by simpa using hy)
  | [], _ :: _, _, _, _, _, h, _ => h.elim
  | [], [], _ :: _, _, _, _, h, _ => h.elim
  | _ :: _, [], _, _, _, _, h, _ => h.elim
  | _ :: _, _ :: _, [], _, _, _, h, _ => h.elim

theorem trodAll_len : ∀ {ts : List TypeId} {vs : List Value} {ds : List (DataW H)} {ps : List MemPlace}, DataW.TrodAll enc P W 0 (fun _ => true) true ts vs ds ps → vs.length = ts.length ∧ ds.length = ts.length
  | [], [], [], _, _ => ⟨rfl, rfl⟩
  | t :: ts, v :: vs, d :: ds, _, htr => by
    obtain ⟨p, q, h1, h2, rfl⟩ := htr
    have := trodAll_len h2
    simp [this.1, this.2]
  | [], _ :: _, _, _, h => h.elim
  | [], [], _ :: _, _, h => h.elim
  | _ :: _, [], _, _, h => h.elim
  | _ :: _, _ :: _, [], _, h => h.elim

theorem trodAll_below {sz : Nat} (hl : laidOutB P = true) (hb : Below W.heap.size W W') : ∀ {ts : List TypeId} {vs : List Value} {ds : List (DataW H)} {ps : List MemPlace}, (∀ t ∈ ts, P.readableRec t = true ∧ t < P.types.size) →
    DataW.TrodAll enc P W 0 (fun _ => true) true ts vs ds ps → DataW.TrodAll enc P W' 0 (fun b => decide (b < W.heap.size)) true ts vs ds ps
  | [], [], [], _, _, h => h
  | t :: ts, v :: vs, d :: ds, _, hok, htr => by
    obtain ⟨p, q, h1, h2, rfl⟩ := htr
    refine ⟨p, q, Below.trod hl (hok t (by simp)).1 (hok t (by simp)).2 h1 hb ?_, trodAll_below (sz := sz) hl hb (fun t ht => hok t (List.mem_cons_of_mem _ ht)) h2, rfl⟩
    obtain ⟨fuel, h1⟩ := h1
    exact DataW.trod_lt fuel t _ _ h1
  | [], _ :: _, _, _, _, h => h.elim
  | [], [], _ :: _, _, _, h => h.elim
  | _ :: _, [], _, _, _, h => h.elim
  | _ :: _, _ :: _, [], _, _, h => h.elim
end

end Go.VM
