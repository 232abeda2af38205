/- Elements that own arrays, moved as they lie: what is known of a function over raw cells is known over what the cells hold. No condition. -/
import Derived.Test.YtghmjnggmacohaaGreatDoorVmSet
import Derived.Test.YtghmjnggmacohaaGreatDoorVmStep
set_option linter.unusedVariables false
set_option linter.unusedSimpArgs false
namespace Go.VM
open Go
/-- A cell as it lies: an array's value told raw. -/
def rawC : V → Value → V
  | .lst _ _, .slice a n c => .raw a n c
  | v, _ => v
def rawA : V → (Nat → Value) → V
  | .agg l, F => .agg (l.mapIdx fun j y => rawC y (F j))
  | v, F => rawC v (F 0)
/-- A list of elements, and the same as it lies. -/
structure RawOf (E R : List V) (f : Nat → Nat → Value) : Prop where
  len : R.length = E.length
  at_ : ∀ (i : Nat) x, E[i]? = some x → R[i]? = some (rawA x (f i))
  lst : ∀ (i : Nat) x (j : Nat) sz l, E[i]? = some x → x.cells[j]? = some (.lst sz l) → ∃ a n c, f i j = .slice a n c
/-- Elements picked by their places. -/
def pickL {α : Type} (is : List Nat) (E : List α) : List α := is.filterMap fun i => E[i]?
/-! ### a region that draws its order, with named pairs, ahead of which an element is opened -/
def ContDC (P : Program) (Φ : Tab) (T : Hints) (c : Option (List Nat)) (need : List (Nat × Nat)) (b : Nat) (k : List Item) (next nt : Nat) (io : List V) (Q : St → Prop) (q : (Env × Heap) × List Fp) : Prop :=
  dynOk need q.2 = true ∧ Goes P Φ T k { env := cutV c q.1.1, heap := closeB q.1.2 b, next := next, nt := nt, io := io } Q
theorem contDC_pair {P : Program} {Φ : Tab} {T : Hints} {k : List Item} {Q : St → Prop} {c : Option (List Nat)} {need : List (Nat × Nat)} {b next nt : Nat} {io : List V} {e : Env} {h : Heap} {tr : List Fp} :
    ContDC P Φ T c need b k next nt io Q ((e, h), tr) ↔ dynOk need tr = true ∧ Goes P Φ T k { env := cutV c e, heap := closeB h b, next := next, nt := nt, io := io } Q := Iff.rfl
theorem goes_opnN {P : Program} {Φ : Tab} {T : Hints} {k : List Item} {s : St} {Q : St → Prop} {id : Nat} {ops : Array Oper} {q : (Nat × List (Option Nat)) × (Nat × List (Option Nat))} (need : List (Nat × Nat)) (hl : T.ord id = some need) (ho : T.opn id = some q) (hok : orderChkM ops need = true)
    (hg : OpenG s.heap s.next (openAt s.env s.heap q) fun b h => NextT P Φ ops s.nt (s.next + stride) 0 ops.toList [] (ContDC P Φ T (T.cut id) need b k (s.next + stride + stride * ops.size) s.nt s.io Q) (s.env, h)) :
    Goes P Φ T (.code (.region id ops true) :: k) s Q := by
  have hok' := orderChk_of hok
  cases h1 : openAt s.env s.heap q with
  | none => rw [h1] at hg; exact hg.elim
  | some p =>
    obtain ⟨b, i⟩ := p
    rw [h1, openG_some] at hg
    cases h2 : openB s.next s.heap b i with
    | none => rw [h2] at hg; exact hg.elim
    | some h =>
      rw [h2, openH_some] at hg
      unfold NextT at hg
      cases h3 : runOT P Φ ops s.nt (s.next + stride) 0 ops.toList (s.env, h) with
      | none => rw [h3] at hg; exact hg.elim
      | some r =>
        rw [h3, after_some] at hg
        obtain ⟨hd, hg⟩ := hg
        rw [List.nil_append] at hd
        exact (goes_step fun n => by simp [go, hl, hok', drawV_eq, h1, h2, h3, hd, cutS, ho, openS, closeS]).2 hg
attribute [go_sem] contDC_pair
end Go.VM
