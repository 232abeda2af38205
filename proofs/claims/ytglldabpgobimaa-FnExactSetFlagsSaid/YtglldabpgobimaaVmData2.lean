/- More forms of data: booleans, bytes, lists of lists. No condition. -/
import Derived.Test.YtglldabpgobimaaVmData
set_option linter.unusedVariables false
set_option linter.unusedSimpArgs false
namespace Go.VM
open Go
def eBool (b : Bool) : V := .bool b
def dBool : V → Option Bool
  | .bool b => some b
  | _ => none
theorem dBool_some {v : V} {n : Bool} (h : dBool v = some n) : v = eBool n := by
  unfold dBool at h
  split at h <;> cases h
  rfl
def eU8 (n : Int) : V := .int .u8 n
def dU8 : V → Option Int
  | .int .u8 n => some n
  | _ => none
theorem dU8_some {v : V} {n : Int} (h : dU8 v = some n) : v = eU8 n := by
  unfold dU8 at h
  split at h <;> cases h
  rfl
def eList {α : Type} (sz : Nat) (e : α → V) (l : List α) : V := .lst sz (l.map e)
def dList {α : Type} (sz : Nat) (d : V → Option α) : V → Option (List α)
  | .lst k l => if k = sz then decL d l else none
  | _ => none
theorem dList_some {α : Type} {sz : Nat} {d : V → Option α} {e : α → V} (hd : ∀ v x, d v = some x → v = e x) {v : V} {l : List α} (h : dList sz d v = some l) : v = eList sz e l := by
  unfold dList at h
  split at h
  · split at h
    · rename_i hk
      rw [decL_some hd h, hk]; rfl
    · cases h
  · cases h
theorem dList_eList {α : Type} {sz : Nat} {d : V → Option α} {e : α → V} (hd : ∀ x, d (e x) = some x) (l : List α) : dList sz d (eList sz e l) = some l := by
  simp [dList, eList, decL_map hd]
theorem decL_append {α : Type} (f : V → Option α) : ∀ a b : List V, decL f (a ++ b) = (decL f a).bind fun x => (decL f b).map (x ++ ·)
  | [], b => by cases h : decL f b <;> simp [decL, h]
  | v :: a, b => by
    simp only [List.cons_append, decL, decL_append f a b]
    cases f v <;> simp
    cases decL f a <;> simp
    cases decL f b <;> simp
theorem decL_bools (l : List Bool) : decL dBool (l.map eBool) = some l := decL_map (e := eBool) (fun _ => rfl) l
theorem decL_u8s (l : List Int) : decL dU8 (l.map eU8) = some l := decL_map (e := eU8) (fun _ => rfl) l
theorem decL_intLists (l : List (List Int)) : decL (dList 1 dInt) (l.map (eList 1 eInt)) = some l := decL_map (dList_eList dInt_eInt) l
end Go.VM
