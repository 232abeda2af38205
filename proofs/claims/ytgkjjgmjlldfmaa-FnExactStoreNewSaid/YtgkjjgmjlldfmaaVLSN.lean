/- A new store. -/
import Derived.Test.YtgkjjgmjlldfmaaVLH
import Derived.Test.YtgkjjgmjlldfmaaVLI
namespace Go.Proofs.Ytgkjjgmjlldfmaa.L
open Go Go.VM
set_option maxRecDepth 100000
set_option maxHeartbeats 4000000
set_option linter.unusedSimpArgs false
set_option linter.unusedVariables false
def inboxName : List UInt8 := [105, 110, 98, 111, 120]
def storeNew : Store := ⟨[boxNew inboxName 1], 2⟩
theorem storeNew_le : storeNew.le 4194304 := by
  show leL Box.le 4194304 _
  refine ⟨by simp [storeNew], fun x hx => ?_⟩
  have : x = boxNew inboxName 1 := by simpa [storeNew] using hx
  subst this
  exact boxNew_le (by decide)
open Classical in
noncomputable def spStoreNew : VM.Spec := { modes := [], run := fun | [] => some (Store.enc storeNew, []) | _ => none, need := [] }
attribute [go_sem] spStoreNew
theorem spStoreNew_in {ins : List V} {r : V} {outs : List V} (h : spStoreNew.run ins = some (r, outs)) : ins = [] ∧ Store.enc storeNew = r ∧ outs = [] := by
  unfold spStoreNew at h
  simp only at h
  split at h
  · simp only [Option.some.injEq, Prod.mk.injEq] at h
    obtain ⟨h1, h2⟩ := h
    exact ⟨rfl, h1, h2.symm⟩
  · cases h
def T_impl_StoreNew : Hints := ⟨fun _ => none, fun _ => none, fun i => if i = 0 then some [0] else if i = 1 then some [0, 1] else if i = 2 then some [0] else none, fun _ => none⟩
noncomputable def Phi_impl_StoreNew : Tab := fun f => if f = 36 then some spBoxNew else none
attribute [go_sem] T_impl_StoreNew Phi_impl_StoreNew
theorem phi_impl_StoreNew : ∀ f sp, Phi_impl_StoreNew f = some sp → FnOk Try.prog f sp ∧ ∀ n ∈ sp.need, n ∈ ([] : List String) := by
  intro f sp h
  unfold Phi_impl_StoreNew at h
  by_cases e : f = 36
  · rw [if_pos e] at h; cases h; rw [e]; exact ⟨ok_impl_BoxNew, (fun n (h : n ∈ ([] : List String)) => (nomatch h))⟩
  rw [if_neg e] at h
  cases h
theorem ok_impl_StoreNew : FnOk Try.prog 16 spStoreNew := by
  refine fn_ok (Φ := Phi_impl_StoreNew) (T := T_impl_StoreNew) phi_impl_StoreNew mixed Try.func16 rfl rfl rfl (by decide) ?_
  intro ins r outs hr hl
  clear hl
  have hs := spStoreNew_in hr
  clear hr
  obtain ⟨rfl, hr, rfl⟩ := hs
  simp only [spStoreNew, Try.f16, Go.VM.initS]
  simp only [go_sem]
  repeat' ((first | ((first | apply qa | apply qb | apply qc | apply qd | apply qe | apply qf | apply qg | apply qh | apply qi | apply qj | apply qk) <;> intro hp) | ((first | refine ql rfl rfl (by decide +kernel) ?_ | refine qm _ rfl rfl (by decide +kernel) ?_ | refine goes_opn rfl ?_ | refine goes_opnD rfl rfl (by decide +kernel) ?_) <;> have hp := True.intro)) <;> simp only [hp, go_sem])
  simp only [fin_mk, finV, resL, resV1, resIn, endA, listIn, Option.some_or, Option.none_or, oneOrTup, go_sem]
  rw [← hr]
  rfl
def T_spec_StoreNew : Hints := ⟨fun _ => none, fun _ => none, fun i => if i = 0 then some [0] else if i = 1 then some [0, 1] else if i = 2 then some [0] else none, fun _ => none⟩
noncomputable def Phi_spec_StoreNew : Tab := fun f => if f = 35 then some spBoxNew else none
attribute [go_sem] T_spec_StoreNew Phi_spec_StoreNew
theorem phi_spec_StoreNew : ∀ f sp, Phi_spec_StoreNew f = some sp → FnOk Try.prog f sp ∧ ∀ n ∈ sp.need, n ∈ ([] : List String) := by
  intro f sp h
  unfold Phi_spec_StoreNew at h
  by_cases e : f = 35
  · rw [if_pos e] at h; cases h; rw [e]; exact ⟨ok_spec_BoxNew, (fun n (h : n ∈ ([] : List String)) => (nomatch h))⟩
  rw [if_neg e] at h
  cases h
theorem ok_spec_StoreNew : FnOk Try.prog 15 spStoreNew := by
  refine fn_ok (Φ := Phi_spec_StoreNew) (T := T_spec_StoreNew) phi_spec_StoreNew mixed Try.func15 rfl rfl rfl (by decide) ?_
  intro ins r outs hr hl
  clear hl
  have hs := spStoreNew_in hr
  clear hr
  obtain ⟨rfl, hr, rfl⟩ := hs
  simp only [spStoreNew, Try.f15, Go.VM.initS]
  simp only [go_sem]
  repeat' ((first | ((first | apply qa | apply qb | apply qc | apply qd | apply qe | apply qf | apply qg | apply qh | apply qi | apply qj | apply qk) <;> intro hp) | ((first | refine ql rfl rfl (by decide +kernel) ?_ | refine qm _ rfl rfl (by decide +kernel) ?_ | refine goes_opn rfl ?_ | refine goes_opnD rfl rfl (by decide +kernel) ?_) <;> have hp := True.intro)) <;> simp only [hp, go_sem])
  simp only [fin_mk, finV, resL, resV1, resIn, endA, listIn, Option.some_or, Option.none_or, oneOrTup, go_sem]
  rw [← hr]
  rfl
end Go.Proofs.Ytgkjjgmjlldfmaa.L
