/- The law FnExactStoreNew: the two functions that it calls answer alike, so it answers true. No condition. -/
import Derived.Test.YtgkjjgmjlldfmaaVLB
import Derived.Test.YtgkjjgmjlldfmaaVLSN
import Derived.Test.YtgkjjgmjlldfmaaRows
import Derived.KernelRfl
namespace Go.Proofs.Ytgkjjgmjlldfmaa.VStoreNew
open Go Go.VM Go.Proofs.Ytgkjjgmjlldfmaa.L
set_option maxRecDepth 100000
set_option maxHeartbeats 4000000
set_option linter.unusedSimpArgs false
set_option linter.unusedVariables false
open Classical in
noncomputable def spLaw : VM.Spec := { modes := [], run := fun | [] => some (.bool true, []) | _ => none, need := [] }
attribute [go_sem] spLaw
theorem spLaw_in {ins : List V} {r : V} {outs : List V} (h : spLaw.run ins = some (r, outs)) : ins = [] ∧ .bool true = r ∧ outs = [] := by
  unfold spLaw at h
  simp only at h
  split at h
  · simp only [Option.some.injEq, Prod.mk.injEq] at h
    obtain ⟨h1, h2⟩ := h
    exact ⟨rfl, h1, h2.symm⟩
  · cases h
def T_laws_FnExactStoreNew : Hints := ⟨fun _ => none, fun _ => none, fun i => if i = 0 then some [] else if i = 1 then some [1] else if i = 2 then some [1, 2] else if i = 3 then some [1, 2, 11] else if i = 4 then some [0] else if i = 5 then some [1, 2, 3] else if i = 6 then some [1, 2, 3] else if i = 7 then some [1, 2, 3, 4] else if i = 8 then some [1, 2, 3, 4] else if i = 9 then some [1, 2, 3, 4, 19] else if i = 10 then some [0] else if i = 11 then some [1, 2, 3, 22] else if i = 12 then some [0] else if i = 13 then some [1, 2, 3, 5] else if i = 14 then some [2, 3, 27] else if i = 15 then some [0] else if i = 16 then some [2, 3, 4] else if i = 17 then some [3, 4] else if i = 18 then some [3, 4, 32] else if i = 19 then some [0] else if i = 20 then some [35] else if i = 21 then some [0] else if i = 22 then some [0] else none, fun _ => none⟩
noncomputable def Phi_laws_FnExactStoreNew : Tab := fun f => if f = 11 then some spEqStore else if f = 12 then some spMarkStore else if f = 17 then some spHeldStore else if f = 15 then some spStoreNew else if f = 16 then some spStoreNew else none
attribute [go_sem] T_laws_FnExactStoreNew Phi_laws_FnExactStoreNew
theorem phi_laws_FnExactStoreNew : ∀ f sp, Phi_laws_FnExactStoreNew f = some sp → FnOk Try.prog f sp ∧ ∀ n ∈ sp.need, n ∈ ([] : List String) := by
  intro f sp h
  unfold Phi_laws_FnExactStoreNew at h
  by_cases e : f = 11
  · rw [if_pos e] at h; cases h; rw [e]; exact ⟨ok_laws_eqStore, (fun n (h : n ∈ ([] : List String)) => (nomatch h))⟩
  rw [if_neg e] at h
  by_cases e : f = 12
  · rw [if_pos e] at h; cases h; rw [e]; exact ⟨ok_laws_markStore, (fun n (h : n ∈ ([] : List String)) => (nomatch h))⟩
  rw [if_neg e] at h
  by_cases e : f = 17
  · rw [if_pos e] at h; cases h; rw [e]; exact ⟨ok_laws_heldStore, (fun n (h : n ∈ ([] : List String)) => (nomatch h))⟩
  rw [if_neg e] at h
  by_cases e : f = 15
  · rw [if_pos e] at h; cases h; rw [e]; exact ⟨ok_spec_StoreNew, (fun n (h : n ∈ ([] : List String)) => (nomatch h))⟩
  rw [if_neg e] at h
  by_cases e : f = 16
  · rw [if_pos e] at h; cases h; rw [e]; exact ⟨ok_impl_StoreNew, (fun n (h : n ∈ ([] : List String)) => (nomatch h))⟩
  rw [if_neg e] at h
  cases h
theorem ok_laws_FnExactStoreNew : FnOk Try.prog 4 spLaw := by
  refine fn_ok (Φ := Phi_laws_FnExactStoreNew) (T := T_laws_FnExactStoreNew) phi_laws_FnExactStoreNew mixed Try.func4 rfl rfl rfl (by decide) ?_
  intro ins r outs hr hl
  clear hl
  have hs := spLaw_in hr
  clear hr
  obtain ⟨rfl, hr, rfl⟩ := hs
  simp only [spLaw, Try.f4, Go.VM.initS]
  have q0 : (0 : Int) ≤ 1 := by decide
  have r0 : (storeNew).le 4194304 := storeNew_le
  have r0_Boxes : (storeNew).Boxes.length ≤ 4194304 := r0.1
  have mL0 : leL Box.ln 4194304 (storeNew).Boxes := boxes_ln r0
  have mM0 : (storeNew).Boxes.length ≤ 4194304 := mL0.1
  have me0 : (markL meBox (storeNew).Boxes (1)).2 ≤ 1 + 25165829 * (storeNew).Boxes.length := markBoxS_up mL0 _
  have mg0 : 1 ≤ (markL meBox (storeNew).Boxes (1)).2 := markBoxS_le _ _
  have mH0 : leL Box.ln 4194304 (markL meBox (storeNew).Boxes (1)).1 := boxes_lnm mL0
  have mp0 : 0 ≤ (markL meBox (storeNew).Boxes (1)).2 := by omega
  have mn0 : ¬ (markL meBox (storeNew).Boxes (1)).2 < 0 := by omega
  have mb0 : (markL meBox (storeNew).Boxes (1)).2 ≤ 288230376151711744 := by omega
  have mc0 : (markL meBox (storeNew).Boxes (1)).2 ≤ 1152921504606846976 := by omega
  have md0 : (markL meBox (storeNew).Boxes (1)).2 ≤ 144115188075855872 := by omega
  simp only [r0, r0_Boxes, mL0, mH0, markL_again meBox_again, mp0, mn0, mb0, mc0, md0, q0, Option.getD_some, bne_self_eq_false, go_sem]
  repeat' ((first | ((first | apply qa | apply qb | apply qc | apply qd | apply qe | apply qf | apply qg | apply qh | apply qi | apply qj | apply qk) <;> intro hp) | ((first | refine ql rfl rfl (by decide +kernel) ?_ | refine qm _ rfl rfl (by decide +kernel) ?_ | refine goes_opn rfl ?_ | refine goes_opnD rfl rfl (by decide +kernel) ?_) <;> have hp := True.intro)) <;> simp only [hp, r0, r0_Boxes, mL0, mH0, markL_again meBox_again, mp0, mn0, mb0, mc0, md0, q0, Option.getD_some, bne_self_eq_false, go_sem])
  all_goals (simp only [fin_mk, finV, resL, resV1, resIn, endA, listIn, Option.some_or, Option.none_or, oneOrTup, go_sem]; rw [← hr])
set_option maxRecDepth 100000 in
theorem own : ownKnob Try.prog.godebug = none := by kernel_rfl
theorem lifted (os : Os) (started : os.Started) (H : Type) (enc : TypeId × Value → H) :
    ReturnsInHanded {} Try.checked os 4 .any (Rows.fnExactStoreNewSpec.pre6 enc Try.prog Try.f4 Rows.fnExactStoreNewRow.domain false) (Rows.fnExactStoreNewSpec.post enc Try.prog Try.f4 false true false false) :=
  law_of_fn (C := Try.checked) (n := 1) own started (by kernel_rfl) Try.func4 rfl rfl
    (ChangeSpec.witness6 (enc := enc) (C := Try.checked) false ⟨#[], #[], []⟩ 8 (by kernel_rfl) (by kernel_rfl) (by kernel_rfl) (by kernel_rfl))
    rfl rfl Try.underlying4 (by kernel_rfl) (by
      intro t ht
      simp [Try.f4] at ht)
    (by
      intro ds hd
      match ds, hd with
      | [], _ => rfl)
    rfl ok_laws_FnExactStoreNew rfl (by
      intro xs hl hw
      match xs, hl with
      | [], _ =>
        rfl)
theorem over : Rows.fnExactStoreNewRow.holds Try.pinned (OpenSpec.ofChange Rows.fnExactStoreNewSpec) :=
  OpenClaim.holds_of_wide 4 Try.f4 rfl rfl rfl rfl rfl rfl rfl ⟨rfl, rfl, rfl, rfl, rfl⟩ rfl rfl rfl rfl rfl (by kernel_rfl) Try.func4 (by kernel_rfl)
    (of_decide_eq_true (by kernel_rfl)) (by unfold Func.isWrapper; first | (rw [if_pos (by decide +kernel)]; kernel_rfl) | (rw [if_neg (by decide +kernel)]; exact ⟨rfl, rfl⟩))
    (fun os started H enc _ => lifted os started H enc)
end Go.Proofs.Ytgkjjgmjlldfmaa.VStoreNew
namespace Go.Proofs.Ytgkjjgmjlldfmaa
theorem fnExactStoreNew_holds : Rows.FnExactStoreNewSaid := VStoreNew.over
#print axioms fnExactStoreNew_holds
end Go.Proofs.Ytgkjjgmjlldfmaa
