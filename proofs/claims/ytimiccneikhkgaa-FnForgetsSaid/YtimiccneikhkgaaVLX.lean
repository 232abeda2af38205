/- Mails that are taken out, tombs that are dropped: the library's DeleteFunc. -/
import Derived.Test.YtimiccneikhkgaaVLG
import Derived.Test.YtimiccneikhkgaaVLU
namespace Go.Proofs.Ytimiccneikhkgaa.L
open Go Go.VM
set_option maxRecDepth 100000
set_option maxHeartbeats 4000000
set_option linter.unusedSimpArgs false
set_option linter.unusedVariables false
def goneI (s : List Range) (m : Mail) : Bool := hasR s m.Uid && (IntKind.i64.wrap (BitVec.ofInt 64 m.Flags &&& BitVec.ofInt 64 8).toNat != 0)
open Classical in
noncomputable def spGone : VM.Spec := { modes := [.rd, .rd], run := fun | [m', .rptr (.lst 2 u')] => (Mail.dec m').bind fun m => (decL Range.dec u').bind fun u => if u.length ≤ 4194304 then some (.bool (goneI u m), []) else none | _ => none, need := [] }
attribute [go_sem] spGone
theorem spGone_in {ins : List V} {r : V} {outs : List V} (h : spGone.run ins = some (r, outs)) : ∃ (m : Mail) (u : (List Range)), ins = [Mail.enc m, .rptr (.lst 2 ((u).map Range.enc))] ∧ (u.length ≤ 4194304) ∧ .bool (goneI u m) = r ∧ outs = [] := by
  unfold spGone at h
  simp only at h
  split at h
  · rename_i m' u'
    simp only [Option.bind_eq_some_iff] at h
    obtain ⟨m, h_m, u, h_u, h⟩ := h
    split at h
    case isFalse => cases h
    rename_i hc
    simp only [Option.some.injEq, Prod.mk.injEq] at h
    obtain ⟨h1, h2⟩ := h
    have h_m := Mail.dec_some h_m
    subst h_m
    have h_u := decL_some (fun _ _ h => Range.dec_some h) h_u
    subst h_u
    exact ⟨m, u, rfl, hc, h1, h2.symm⟩
  · cases h
open Classical in
noncomputable def spLeast : VM.Spec := { modes := [.rd, .rd], run := fun | [t', .rptr (.int .i64 u)] => (Tomb.dec t').bind fun t => some (.bool ((t.Mod == u)), []) | _ => none, need := [] }
attribute [go_sem] spLeast
theorem spLeast_in {ins : List V} {r : V} {outs : List V} (h : spLeast.run ins = some (r, outs)) : ∃ (t : Tomb) (u : Int), ins = [Tomb.enc t, .rptr (.int .i64 u)] ∧ .bool ((t.Mod == u)) = r ∧ outs = [] := by
  unfold spLeast at h
  simp only at h
  split at h
  · rename_i t' u
    simp only [Option.bind_eq_some_iff] at h
    obtain ⟨t, h_t, h⟩ := h
    simp only [Option.some.injEq, Prod.mk.injEq] at h
    obtain ⟨h1, h2⟩ := h
    have h_t := Tomb.dec_some h_t
    subst h_t
    exact ⟨t, u, rfl, h1, h2.symm⟩
  · cases h
end Go.Proofs.Ytimiccneikhkgaa.L
