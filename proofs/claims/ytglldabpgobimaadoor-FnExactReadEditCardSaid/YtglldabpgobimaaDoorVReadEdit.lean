/- The law FnExactReadEdit: the two functions that it calls answer alike, so it answers true. No condition. -/
import Derived.Test.YtglldabpgobimaaDoorVLB
import Derived.Test.YtglldabpgobimaaDoorVLRq
import Derived.Test.YtglldabpgobimaaDoorVmDoor
import Derived.Test.YtglldabpgobimaaDoorTie
import Derived.Test.YtglldabpgobimaaDoorCards
import Derived.Test.YtglldabpgobimaaDoorRows
import Derived.KernelRfl
namespace Go.Proofs.YtglldabpgobimaaDoor.VReadEdit
open Go Go.VM Go.Proofs.YtglldabpgobimaaDoor.L
set_option maxRecDepth 100000
set_option maxHeartbeats 4000000
set_option linter.unusedSimpArgs false
set_option linter.unusedVariables false
open Classical in
noncomputable def spLaw : VM.Spec := { modes := [.rd], run := fun | [.str aT] => if aT.length ≤ 4611686018427387904 then some (.bool true, []) else none | _ => none, need := ["internal/bytealg.MaxLen", "internal/strconv.uint64pow10"] }
attribute [go_sem] spLaw
theorem spLaw_in {ins : List V} {r : V} {outs : List V} (h : spLaw.run ins = some (r, outs)) : ∃ (aT : (List UInt8)), ins = [.str aT] ∧ (aT.length ≤ 4611686018427387904) ∧ .bool true = r ∧ outs = [] := by
  unfold spLaw at h
  simp only at h
  split at h
  · rename_i aT
    split at h
    case isFalse => cases h
    rename_i hc
    simp only [Option.some.injEq, Prod.mk.injEq] at h
    obtain ⟨h1, h2⟩ := h
    exact ⟨aT, rfl, hc, h1, h2.symm⟩
  · cases h
def T_laws_FnExactReadEdit : Hints := ⟨fun _ => none, fun _ => none, fun i => if i = 0 then some [0] else if i = 1 then some [0, 13] else if i = 2 then some [2] else if i = 3 then some [0, 3, 4] else if i = 4 then some [0, 3, 4, 5, 6] else if i = 5 then some [0, 3, 4, 5, 32] else if i = 6 then some [2] else if i = 7 then some [0, 3, 4, 5, 7] else if i = 8 then some [0, 3, 4, 5, 7] else if i = 9 then some [0, 3, 4, 5, 7, 8] else if i = 10 then some [0, 3, 4, 5, 7, 8] else if i = 11 then some [0, 3, 4, 5, 7, 8, 40] else if i = 12 then some [2] else if i = 13 then some [0, 3, 4, 5, 7, 43] else if i = 14 then some [2] else if i = 15 then some [3, 4, 5, 7, 9, 10] else if i = 16 then some [5, 7, 57] else if i = 17 then some [2] else if i = 18 then some [5, 7, 8] else if i = 19 then some [7, 8] else if i = 20 then some [7, 8, 62] else if i = 21 then some [2] else if i = 22 then some [65] else if i = 23 then some [2] else if i = 24 then some [2] else none, fun _ => none⟩
noncomputable def Phi_laws_FnExactReadEdit : Tab := fun f => if f = 20 then some spEqEdit else if f = 21 then some spMarkEdit else if f = 22 then some spHeldEdit else if f = 18 then some spReadEdit else if f = 19 then some spReadEdit else none
attribute [go_sem] T_laws_FnExactReadEdit Phi_laws_FnExactReadEdit
theorem phi_laws_FnExactReadEdit : ∀ f sp, Phi_laws_FnExactReadEdit f = some sp → FnOk Tryd.prog f sp ∧ ∀ n ∈ sp.need, n ∈ (["internal/bytealg.MaxLen", "internal/strconv.uint64pow10"] : List String) := by
  intro f sp h
  unfold Phi_laws_FnExactReadEdit at h
  by_cases e : f = 20
  · rw [if_pos e] at h; cases h; rw [e]; exact ⟨ok_laws_eqEdit, (fun n (h : n ∈ ([] : List String)) => (nomatch h))⟩
  rw [if_neg e] at h
  by_cases e : f = 21
  · rw [if_pos e] at h; cases h; rw [e]; exact ⟨ok_laws_markEdit, (fun n (h : n ∈ ([] : List String)) => (nomatch h))⟩
  rw [if_neg e] at h
  by_cases e : f = 22
  · rw [if_pos e] at h; cases h; rw [e]; exact ⟨ok_laws_heldEdit, (fun n (h : n ∈ ([] : List String)) => (nomatch h))⟩
  rw [if_neg e] at h
  by_cases e : f = 18
  · rw [if_pos e] at h; cases h; rw [e]; exact ⟨ok_spec_ReadEdit, (fun n (h : n ∈ (["internal/bytealg.MaxLen", "internal/strconv.uint64pow10"] : List String)) => by simp only [List.mem_cons, List.not_mem_nil, or_false] at h; rcases h with rfl | rfl <;> simp)⟩
  rw [if_neg e] at h
  by_cases e : f = 19
  · rw [if_pos e] at h; cases h; rw [e]; exact ⟨ok_impl_ReadEdit, (fun n (h : n ∈ (["internal/bytealg.MaxLen", "internal/strconv.uint64pow10"] : List String)) => by simp only [List.mem_cons, List.not_mem_nil, or_false] at h; rcases h with rfl | rfl <;> simp)⟩
  rw [if_neg e] at h
  cases h
theorem ok_laws_FnExactReadEdit : FnOk Tryd.prog 4 spLaw := by
  refine fn_ok (Φ := Phi_laws_FnExactReadEdit) (T := T_laws_FnExactReadEdit) phi_laws_FnExactReadEdit mixed Tryd.func4 rfl rfl rfl (by decide) ?_
  intro ins r outs hr hl
  clear hl
  have hs := spLaw_in hr
  clear hr
  obtain ⟨aT, rfl, hc, hr, rfl⟩ := hs
  simp only [spLaw, Tryd.f4, Go.VM.initS]
  have w0 := hc
  by_cases s0 : (1048576 : Int) < aT.length
  · simp only [s0, go_sem]
    repeat' ((first | ((first | apply qa | apply qb | apply qc | apply qd | apply qe | apply qf | apply qg | apply qh | apply qi | apply qj | apply qk) <;> intro hp) | ((first | refine ql rfl rfl (by decide +kernel) ?_ | refine qm _ rfl rfl (by decide +kernel) ?_ | refine goes_opn rfl ?_ | refine goes_opnD rfl rfl (by decide +kernel) ?_) <;> have hp := True.intro)) <;> simp only [hp, s0, go_sem])
    simp only [fin_mk, finV, resL, resV1, resIn, endA, listIn, Option.some_or, Option.none_or, oneOrTup, go_sem]
    rw [← hr]
  have b0 : aT.length ≤ 4194304 := by omega
  have bb0 : aT.length ≤ 1099511627776 := by omega
  have q0 : (0 : Int) ≤ 1 := by decide
  have r0 : (readE aT).le 4194304 := readE_le b0
  have r0_Set : (readE aT).Set.length ≤ 4194304 := r0.2.2.1.1
  have me0 : (msEdit (readE aT) (1)).2 = 1 + (2 : Nat) * (readE aT).Set.length := msEdit_k _ _
  have mp0 : 0 ≤ (msEdit (readE aT) (1)).2 := by omega
  have mn0 : ¬ (msEdit (readE aT) (1)).2 < 0 := by omega
  have mb0 : (msEdit (readE aT) (1)).2 ≤ 288230376151711744 := by omega
  have mc0 : (msEdit (readE aT) (1)).2 ≤ 1152921504606846976 := by omega
  have md0 : (msEdit (readE aT) (1)).2 ≤ 144115188075855872 := by omega
  have mh0 : hsEdit ⟨(readE aT).Kind, (readE aT).Box, (readE aT).To, (msEdit (readE aT) (1)).1.Set, (readE aT).How, (readE aT).Bits, (readE aT).Since, (readE aT).Text⟩ (1) = some ((msEdit (readE aT) (1)).2) := hsEdit_marked _ _
  simp only [bb0, s0, b0, r0, r0_Set, mp0, mn0, mb0, mc0, md0, mh0, msEdit_Set, q0, Option.getD_some, bne_self_eq_false, go_sem]
  repeat' ((first | ((first | apply qa | apply qb | apply qc | apply qd | apply qe | apply qf | apply qg | apply qh | apply qi | apply qj | apply qk) <;> intro hp) | ((first | refine ql rfl rfl (by decide +kernel) ?_ | refine qm _ rfl rfl (by decide +kernel) ?_ | refine goes_opn rfl ?_ | refine goes_opnD rfl rfl (by decide +kernel) ?_) <;> have hp := True.intro)) <;> simp only [hp, bb0, s0, b0, r0, r0_Set, mp0, mn0, mb0, mc0, md0, mh0, msEdit_Set, q0, Option.getD_some, bne_self_eq_false, go_sem])
  all_goals (simp only [fin_mk, finV, resL, resV1, resIn, endA, listIn, Option.some_or, Option.none_or, oneOrTup, go_sem]; rw [← hr])
set_option maxRecDepth 100000 in
theorem gbase (W : World) (hL : laidMetH Tryd.prog Rows.fnExactReadEditRow.laid W) (hsh : W.ShapedOpen Tryd.prog) : GBase Tryd.prog spLaw.need W :=
  ⟨fun _ => laid_tab (g := 3) (t := 181) (by kernel_rfl) (by kernel_rfl) Tryd.underlying181 Tryd.underlying175 (by kernel_rfl) (by kernel_rfl) (by rw [MakeChecks.laidMetH_plain _ _ _ (by kernel_rfl)] at hL; exact hL) (by simp only [Rows.fnExactReadEditRow, List.mem_cons]; first | exact .inl rfl | exact .inr (.inl rfl) | exact .inr (.inr (.inl rfl)) | exact .inr (.inr (.inr (.inl rfl)))),
   fun _ => (let ⟨m, hm⟩ := Go.Proofs.cell_of_shapedOpen_int hsh (g := 0) (t := 3) (zero := #[.int .i64 0]) (of_decide_eq_true (by kernel_rfl)) (by kernel_rfl) rfl (by kernel_rfl) (by kernel_rfl) Tryd.underlying3; ⟨0, m, by kernel_rfl, hm⟩),
   fun h => absurd (show "strconv.ErrSyntax" ∈ (["internal/bytealg.MaxLen", "internal/strconv.uint64pow10"] : List String) from h) (by simp),
   fun h => absurd (show "strconv.ErrRange" ∈ (["internal/bytealg.MaxLen", "internal/strconv.uint64pow10"] : List String) from h) (by simp)⟩
set_option maxRecDepth 100000 in
theorem own : ownKnob Tryd.prog.godebug = none := by kernel_rfl
theorem lifted (os : Os) (started : os.Started) (H : Type) (enc : TypeId × Value → H) :
    ReturnsInHanded {} Tryd.checked os 4 .any (fun w args => (Rows.fnExactReadEditSpec.pre enc Tryd.prog Tryd.f4 [] false w args ∧ laidMetH Tryd.prog Rows.fnExactReadEditRow.laid w) ∧ sizedMet enc Tryd.prog Tryd.f4 (OpenSpec.ofChange Rows.fnExactReadEditSpec) false w args) (Rows.fnExactReadEditSpec.post enc Tryd.prog Tryd.f4 false true false false) :=
  laid_of_fn Rows.fnExactReadEditRow.laid (C := Tryd.checked) (n := 1) own started (by kernel_rfl) Tryd.func4 rfl rfl
    (ChangeSpec.witness_shaped (enc := enc) (C := Tryd.checked) (os := os) (X := fun w _ => laidMetH Tryd.prog Rows.fnExactReadEditRow.laid w) false (World.laidAll Tryd.prog os Rows.fnExactReadEditRow.laid) #[.string ByteArray.empty] 8 (World.laidAll_os _ _ _)
      (World.shaped_of_ZipB (by kernel_rfl) (by kernel_rfl)) (by kernel_rfl) (by kernel_rfl) (by kernel_rfl)
      (by rw [MakeChecks.laidMetH_plain _ _ _ (by kernel_rfl)]; exact laidMet_laidAll _ (by kernel_rfl) (by kernel_rfl)))
    rfl rfl Tryd.underlying4 (by kernel_rfl) (by
      intro t ht
      simp only [Tryd.f4, List.mem_cons, List.not_mem_nil, or_false] at ht
      subst ht; exact ⟨by kernel_rfl, by kernel_rfl, of_decide_eq_true (by kernel_rfl)⟩)
    (by
      intro ds hd
      match ds, hd with
      | [d0], _ => rfl)
    gbase ok_laws_FnExactReadEdit rfl (by
      intro xs hl hw
      match xs, hl with
      | [x0], _ =>
        obtain ⟨x0, rfl, c0⟩ := wf_string Tryd.underlying9 (hw 0 9 x0 rfl rfl)
        have c0 : x0.length ≤ 4611686018427387904 := by unfold reachBytes at c0; omega
        simp only [spLaw, Option.bind_some]
        exact if_pos c0)
theorem over : Rows.fnExactReadEditRow.holds Tryd.pinned (OpenSpec.ofChange Rows.fnExactReadEditSpec) :=
  OpenClaim.holds_of_wide 4 Tryd.f4 rfl rfl rfl rfl rfl rfl rfl ⟨rfl, rfl, rfl, rfl, rfl⟩ rfl rfl rfl rfl rfl (by kernel_rfl) Tryd.func4 (by kernel_rfl)
    (of_decide_eq_true (by kernel_rfl)) (by unfold Func.isWrapper; first | (rw [if_pos (by decide +kernel)]; kernel_rfl) | (rw [if_neg (by decide +kernel)]; exact ⟨rfl, rfl⟩))
    (fun os started H enc _ => lifted os started H enc)
theorem card : Rows.FnExactReadEditCardSaid :=
  Claim7.holds_tied_plain_at .later [] [.data, .data, .data, .data, .pinned] true (true, "976644844203f6787bcbffdc030bab41bd39efec87071d18a04074b88fb0e2b7") false over (fun _ h => by cases h) (by kernel_rfl) (fun _ h => by cases h) fnExactReadEdit_row_tie rfl ⟨rfl, rfl⟩ (by kernel_rfl) rfl
    (fun f fn hf hfn => by
      obtain rfl : f = 4 := Option.some.inj ((show Tryd.prog.funcNamed "loop.example/g00247/laws.FnExactReadEdit" = some 4 by kernel_rfl).symm.trans hf) |>.symm
      obtain rfl : fn = Tryd.f4 := (Option.some.inj (Tryd.func4.symm.trans hfn)).symm
      exact ⟨by kernel_rfl, fun j t ht => by
        have hm : t ∈ Tryd.f4.params.toList := Array.mem_toList_iff.2 (Array.mem_of_getElem? ht)
        have hall : (Tryd.f4.params.toList.all fun u => !Tryd.prog.wantsStandIn u) = true := by kernel_rfl
        exact (show Tryd.prog.wantsStandIn t = false by simpa using List.all_eq_true.1 hall t hm)⟩)
    (by kernel_rfl)
end Go.Proofs.YtglldabpgobimaaDoor.VReadEdit
namespace Go.Proofs.YtglldabpgobimaaDoor
theorem fnExactReadEdit_holds : Rows.FnExactReadEditCardSaid := VReadEdit.card
#print axioms fnExactReadEdit_holds
end Go.Proofs.YtglldabpgobimaaDoor
