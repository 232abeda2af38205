/- Stores: what is right of them. -/
import Derived.Test.YtgkjjgmjlldfmaaVLF
namespace Go.Proofs.Ytgkjjgmjlldfmaa.L
open Go Go.VM
set_option maxRecDepth 100000
set_option maxHeartbeats 4000000
set_option linter.unusedSimpArgs false
set_option linter.unusedVariables false
def storeAtOk (s : Store) (i : Nat) : Bool := boxOk (s.Boxes.getD i default) && (i == 0 || Op.bytesLess (s.Boxes.getD (i - 1) default).Name (s.Boxes.getD i default).Name) && decide ((s.Boxes.getD i default).Valid < s.Valid)
def storeOk (s : Store) : Bool := allN s.Boxes.length (storeAtOk s) && (within s.Boxes.length 1 4 && within s.Valid 2 9999)
open Classical in
noncomputable def spStoreOk : VM.Spec := { modes := [.rd], run := fun | [s'] => (Store.dec s').bind fun s => if s.le 4194304 then some (.bool (storeOk s), []) else none | _ => none, need := [] }
attribute [go_sem] spStoreOk
theorem spStoreOk_in {ins : List V} {r : V} {outs : List V} (h : spStoreOk.run ins = some (r, outs)) : ∃ (s : Store), ins = [Store.enc s] ∧ (s.le 4194304) ∧ .bool (storeOk s) = r ∧ outs = [] := by
  unfold spStoreOk at h
  simp only at h
  split at h
  · rename_i s'
    simp only [Option.bind_eq_some_iff] at h
    obtain ⟨s, h_s, h⟩ := h
    split at h
    case isFalse => cases h
    rename_i hc
    simp only [Option.some.injEq, Prod.mk.injEq] at h
    obtain ⟨h1, h2⟩ := h
    have h_s := Store.dec_some h_s
    subst h_s
    exact ⟨s, rfl, hc, h1, h2.symm⟩
  · cases h
end Go.Proofs.Ytgkjjgmjlldfmaa.L
