/- Lines: what is right of them. -/
import Derived.Test.YtimiccneikhkgaaGreatDoorVLC
namespace Go.Proofs.YtimiccneikhkgaaGreatDoor.L
open Go Go.VM
set_option maxRecDepth 100000
set_option maxHeartbeats 4000000
set_option linter.unusedSimpArgs false
set_option linter.unusedVariables false
def lineOk (x : Line) : Bool :=
  if x.Kind = 1 then within x.Num 0 30 && (x.Uid == 0 && x.Flags == 0 && x.Mod == 0 && x.Set.isEmpty && !x.All)
  else if x.Kind = 2 then within x.Num 1 30 && (x.Uid == 0 && x.Flags == 0 && x.Mod == 0 && x.Set.isEmpty && !x.All)
  else if x.Kind = 3 then within x.Num 1 30 && within x.Uid 1 9999 && flagsOk x.Flags && within x.Mod 1 100000 && (x.Set.isEmpty && !x.All)
  else if x.Kind = 4 then setOk x.Set && !x.Set.isEmpty && (x.Num == 0 && x.Uid == 0 && x.Flags == 0 && x.Mod == 0 && !x.All)
  else if x.Kind = 5 then within x.Num 1 9999 && within x.Mod 1 100000 && (x.Uid == 0 && x.Flags == 0 && x.Set.isEmpty)
  else if x.Kind = 6 then setOk x.Set && (x.Num == 0 && x.Uid == 0 && x.Flags == 0 && x.Mod == 0 && !x.All)
  else if x.Kind = 8 then within x.Num 1 9 && (x.Uid == 0 && x.Flags == 0 && x.Mod == 0 && x.Set.isEmpty && !x.All)
  else if x.Kind = 7 ∨ x.Kind = 9 then x.Num == 0 && x.Uid == 0 && x.Flags == 0 && x.Mod == 0 && x.Set.isEmpty && !x.All
  else false
theorem setOk_nil : setOk [] = true := rfl
theorem setOk_ne {S : List Range} (h : setOk S = false) : ¬ S = [] := by rintro rfl; cases h
open Classical in
noncomputable def spLineOk : VM.Spec := { modes := [.rd], run := fun | [x'] => (Line.dec x').bind fun x => if x.le 4194304 then some (.bool (lineOk x), []) else none | _ => none, need := [] }
attribute [go_sem] spLineOk
theorem spLineOk_in {ins : List V} {r : V} {outs : List V} (h : spLineOk.run ins = some (r, outs)) : ∃ (x : Line), ins = [Line.enc x] ∧ (x.le 4194304) ∧ .bool (lineOk x) = r ∧ outs = [] := by
  unfold spLineOk at h
  simp only at h
  split at h
  · rename_i x'
    simp only [Option.bind_eq_some_iff] at h
    obtain ⟨x, h_x, h⟩ := h
    split at h
    case isFalse => cases h
    rename_i hc
    simp only [Option.some.injEq, Prod.mk.injEq] at h
    obtain ⟨h1, h2⟩ := h
    have h_x := Line.dec_some h_x
    subst h_x
    exact ⟨x, rfl, hc, h1, h2.symm⟩
  · cases h
end Go.Proofs.YtimiccneikhkgaaGreatDoor.L
