/- What of the heap a value's reading depends on. No condition. -/
import Derived.Test.YtknagbmhmjcnkaaVmBase
set_option linter.unusedVariables false
set_option linter.unusedSimpArgs false
namespace Go.VM
open Go
section
variable {P : Program}
theorem idsC_sub {v : V} {id : Nat} (h : id ∈ idsC v) : id ∈ idsA v := by
  cases v <;> first | exact h | (simp [idsC] at h)
theorem ids_evA {e : Env} {t : TypeId} {x : Operand} : ∀ id ∈ idsA (evO P e t x), id ∈ idsOA e x := by
  intro id hid
  cases x with
  | tmp u => exact hid
  | const v =>
    simp only [evO, constV] at hid
    split at hid <;> try (simp [idsA, idsC] at hid; done)
    split at hid <;> simp [idsA, idsC] at hid
  | func f => simp [evO, idsA, idsC] at hid
  | global u => simp [evO, idsA, idsC] at hid
theorem clC_congr {h h' : Heap} {x : V} (hx : ∀ id ∈ idsC x, h id = h' id) : clC h x = clC h' x := by
  cases x <;> first | rfl | (simp only [clC]; rw [hx _ (by simp [idsC])])
theorem clL_congr {h h' : Heap} : ∀ {l : List V}, (∀ id ∈ idsL l, h id = h' id) → clL h l = clL h' l
  | [], _ => rfl
  | x :: l, hx => by
    simp only [clL]
    rw [clC_congr fun id hid => hx id (by simp [idsL, hid]), clL_congr (l := l) fun id hid => hx id (by simp [idsL, hid])]
theorem clA_congr {h h' : Heap} {x : V} (hx : ∀ id ∈ idsA x, h id = h' id) : clA h x = clA h' x := by
  cases x with
  | agg l => simp only [clA]; rw [clL_congr hx]
  | _ => exact clC_congr fun id hid => hx id (idsC_sub hid)
theorem clParts_congr {h h' : Heap} {sz : Nat} : ∀ {ps : List (Nat × V)} {els : List V}, (∀ p ∈ ps, ∀ id ∈ idsA p.2, h id = h' id) → clParts h sz ps els = clParts h' sz ps els
  | [], els, _ => rfl
  | (i, v) :: ps, els, hx => by
    simp only [clParts]
    rw [clA_congr fun id hid => hx (i, v) (by simp) id hid]
    congr 1
    funext y
    split
    · rw [clParts_congr (ps := ps) fun p hp => hx p (by simp [hp])]
    · rfl
theorem zeroCell_ids {t : TypeId} {c : Value} {z : V} (hz : zeroCell P t c = some z) : idsC z = [] := by
  unfold zeroCell at hz
  split at hz <;> first | (cases hz; done) | (cases hz; rfl) | skip
  · simp only [Option.map_eq_some_iff] at hz
    obtain ⟨_, _, rfl⟩ := hz; rfl
theorem zeroL_ids : ∀ {fs : List Field} {vs : List Value} {l : List V}, zeroL P fs vs = some l → idsL l = []
  | [], [], l, hz => by simp [zeroL] at hz; subst hz; rfl
  | [], _ :: _, l, hz => by simp [zeroL] at hz
  | _ :: _, [], l, hz => by simp [zeroL] at hz
  | f :: fs, v :: vs, l, hz => by
    simp only [zeroL, Option.bind_eq_some_iff, Option.map_eq_some_iff] at hz
    obtain ⟨x, hx, xs, hxs, rfl⟩ := hz
    simp [idsL, zeroCell_ids hx, zeroL_ids hxs]
theorem zeroV_ids {t : TypeId} {z : V} (hz : zeroV P t = some z) : idsA z = [] := by
  unfold zeroV at hz
  split at hz
  · split at hz
    · split at hz
      · simp only [Option.map_eq_some_iff] at hz
        obtain ⟨l, hl, rfl⟩ := hz
        exact zeroL_ids hl
      · cases hz
    · split at hz
      · have := zeroCell_ids hz
        cases z <;> first | exact this | skip
        rename_i l
        unfold zeroCell at hz
        split at hz <;> first | (cases hz; done) | skip
        · simp only [Option.map_eq_some_iff] at hz
          obtain ⟨_, _, hh⟩ := hz; cases hh
      · cases hz
  · cases hz
end
end Go.VM
