/- The law FnExactReadLine: the two functions that it calls answer alike, so it answers true. No condition. -/
import Derived.Test.YtnbkmmjnpbfhnaaGreatDoorVLB
import Derived.Test.YtnbkmmjnpbfhnaaGreatDoorVLBl
import Derived.Test.YtnbkmmjnpbfhnaaGreatDoorVmDoor
import Derived.Test.YtnbkmmjnpbfhnaaGreatDoorTie
import Derived.Test.YtnbkmmjnpbfhnaaGreatDoorCards
import Derived.Stop.LaidErr
import Derived.Test.YtnbkmmjnpbfhnaaGreatDoorRows
import Derived.KernelRfl
namespace Go.Proofs.YtnbkmmjnpbfhnaaGreatDoor.VReadLine
open Go Go.VM Go.Proofs.YtnbkmmjnpbfhnaaGreatDoor.L
set_option maxRecDepth 100000
set_option maxHeartbeats 4000000
set_option linter.unusedSimpArgs false
set_option linter.unusedVariables false
open Classical in
noncomputable def spLaw : VM.Spec := { modes := [.rd], run := fun | [.str aT] => if aT.length ≤ 4611686018427387904 then some (.bool true, []) else none | _ => none, need := ["internal/bytealg.MaxLen", "internal/strconv.uint64pow10", "strconv.ErrSyntax", "strconv.ErrRange"] }
attribute [go_sem] spLaw
theorem spLaw_in {ins : List V} {r : V} {outs : List V} (h : spLaw.run ins = some (r, outs)) : ∃ (aT : (List UInt8)), ins = [.str aT] ∧ (aT.length ≤ 4611686018427387904) ∧ .bool true = r ∧ outs = [] := by
  unfold spLaw at h
  simp only at h
  split at h
  · rename_i aT
    split at h
    case isFalse => cases h
    rename_i hc
    simp only [Option.some.injEq, Prod.mk.injEq] at h
    obtain ⟨h1, h2⟩ := h
    exact ⟨aT, rfl, hc, h1, h2.symm⟩
  · cases h
def T_laws_FnExactReadLine : Hints := ⟨lk [], lk [], lk [(0, [0]), (1, [0, 13]), (2, [2]), (3, [0, 3, 4]), (4, [0, 3, 4, 5, 6]), (5, [0, 3, 4, 5, 32]), (6, [2]), (7, [0, 3, 4, 5, 7]), (8, [0, 3, 4, 5, 7]), (9, [0, 3, 4, 5, 7, 8]), (10, [0, 3, 4, 5, 7, 8]), (11, [0, 3, 4, 5, 7, 8, 40]), (12, [2]), (13, [0, 3, 4, 5, 7, 43]), (14, [2]), (15, [3, 4, 5, 7, 9, 10]), (16, [5, 7, 57]), (17, [2]), (18, [5, 7, 8]), (19, [7, 8]), (20, [7, 8, 62]), (21, [2]), (22, [65]), (23, [2]), (24, [2])], lk []⟩
noncomputable def Phi_laws_FnExactReadLine : Tab := lk [(6, spEqLine), (7, spMarkLine), (8, spHeldLine), (4, spReadLineS), (5, spReadLineI)]
attribute [go_sem] T_laws_FnExactReadLine Phi_laws_FnExactReadLine
theorem phi_laws_FnExactReadLine : ∀ f sp, Phi_laws_FnExactReadLine f = some sp → FnOk Tryz.prog f sp ∧ ∀ n ∈ sp.need, n ∈ (["internal/bytealg.MaxLen", "internal/strconv.uint64pow10", "strconv.ErrSyntax", "strconv.ErrRange"] : List String) := phi_cons ok_laws_eqLine (n0 rfl) (phi_cons ok_laws_markLine (n0 rfl) (phi_cons ok_laws_heldLine (n0 rfl) (phi_cons ok_spec_ReadLine (fun n (h : n ∈ (["internal/bytealg.MaxLen", "internal/strconv.uint64pow10"] : List String)) => by simp only [List.mem_cons, List.not_mem_nil, or_false] at h; rcases h with rfl | rfl <;> simp) (phi_cons ok_impl_ReadLine (fun n (h : n ∈ (["internal/bytealg.MaxLen", "internal/strconv.uint64pow10", "strconv.ErrSyntax", "strconv.ErrRange"] : List String)) => by simp only [List.mem_cons, List.not_mem_nil, or_false] at h; rcases h with rfl | rfl | rfl | rfl <;> simp) (phi_nil)))))
theorem ok_laws_FnExactReadLine : FnOk Tryz.prog 3 spLaw := by
  refine fn_ok (Φ := Phi_laws_FnExactReadLine) (T := T_laws_FnExactReadLine) phi_laws_FnExactReadLine mixed Tryz.func3 rfl rfl rfl (by decide) ?_
  intro ins r outs hr hl
  clear hl
  have hs := spLaw_in hr
  clear hr
  obtain ⟨aT, rfl, hc, hr, rfl⟩ := hs
  simp only [spLaw, Tryz.f3, Go.VM.initS]
  have w0 := hc
  by_cases s0 : (1048576 : Int) < aT.length
  · simp only [s0, go_sem]
    repeat' ((first | apply qa | apply qb | apply qc | apply qd | apply qe | apply qf | apply qg | apply qh | apply qi | apply qj | apply qk) <;> intro hp <;> simp only [hp, s0, go_sem])
    simp only [fin_mk, finV, resL, resV1, resIn, endA, listIn, Option.some_or, Option.none_or, oneOrTup, go_sem]
    rw [← hr]
  have b0 : aT.length ≤ 4194304 := by omega
  have bb0 : aT.length ≤ 1099511627776 := by omega
  have q0 : (0 : Int) ≤ 1 := by decide
  have r0 : ((tellV (lineOfV aT) aT).1).le 4194304 := tellV_le aT
  have r0_Set : ((tellV (lineOfV aT) aT).1).Set.length ≤ 4194304 := r0.1
  have me0 : (msLine ((tellV (lineOfV aT) aT).1) (1)).2 = 1 + (2 : Nat) * ((tellV (lineOfV aT) aT).1).Set.length := msLine_k _ _
  have mp0 : 0 ≤ (msLine ((tellV (lineOfV aT) aT).1) (1)).2 := by omega
  have mn0 : ¬ (msLine ((tellV (lineOfV aT) aT).1) (1)).2 < 0 := by omega
  have mb0 : (msLine ((tellV (lineOfV aT) aT).1) (1)).2 ≤ 288230376151711744 := by omega
  have mc0 : (msLine ((tellV (lineOfV aT) aT).1) (1)).2 ≤ 1152921504606846976 := by omega
  have md0 : (msLine ((tellV (lineOfV aT) aT).1) (1)).2 ≤ 144115188075855872 := by omega
  have mh0 : hsLine ⟨((tellV (lineOfV aT) aT).1).Kind, ((tellV (lineOfV aT) aT).1).Num, ((tellV (lineOfV aT) aT).1).Uid, ((tellV (lineOfV aT) aT).1).Flags, ((tellV (lineOfV aT) aT).1).Mod, (msLine ((tellV (lineOfV aT) aT).1) (1)).1.Set, ((tellV (lineOfV aT) aT).1).All⟩ (1) = some ((msLine ((tellV (lineOfV aT) aT).1) (1)).2) := hsLine_marked _ _
  simp only [bb0, s0, b0, r0, r0_Set, mp0, mn0, mb0, mc0, md0, mh0, msLine_Set, q0, Option.getD_some, bne_self_eq_false, go_sem]
  repeat' ((first | apply qa | apply qb | apply qc | apply qd | apply qe | apply qf | apply qg | apply qh | apply qi | apply qj | apply qk) <;> intro hp <;> simp only [hp, bb0, s0, b0, r0, r0_Set, mp0, mn0, mb0, mc0, md0, mh0, msLine_Set, q0, Option.getD_some, bne_self_eq_false, go_sem])
  all_goals (simp only [fin_mk, finV, resL, resV1, resIn, endA, listIn, Option.some_or, Option.none_or, oneOrTup, go_sem]; rw [← hr])
theorem errStar : "*" ++ "errors.errorString" = "*errors.errorString" := by decide
theorem errRow (u : TypeId) (h : Tryz.prog.typeName? 3 u = some "*errors.errorString") : u = 113 :=
  typeName_ptr_named (nm := "errors.errorString") (by rw [errStar]; kernel_rfl) (by kernel_rfl) (by decide) u (by rw [errStar]; exact h)
set_option maxRecDepth 100000 in
theorem gbase (W : World) (hL : laidMetH Tryz.prog Rows.fnExactReadLineRow.laid W) (hsh : W.ShapedOpen Tryz.prog) : GBase Tryz.prog spLaw.need W :=
  ⟨fun _ => laid_tab (g := 3) (t := 117) (by kernel_rfl) (by kernel_rfl) Tryz.underlying117 Tryz.underlying93 (by kernel_rfl) (by kernel_rfl) (by rw [MakeChecks.laidMetH_plain _ _ _ (by kernel_rfl)] at hL; exact hL) (by simp only [Rows.fnExactReadLineRow, List.mem_cons]; first | exact .inl rfl | exact .inr (.inl rfl) | exact .inr (.inr (.inl rfl)) | exact .inr (.inr (.inr (.inl rfl))) | exact .inr (.inr (.inr (.inr (.inl rfl)))) | exact .inr (.inr (.inr (.inr (.inr (.inl rfl)))))),
   fun _ => (let ⟨m, hm⟩ := Go.Proofs.cell_of_shapedOpen_int hsh (g := 0) (t := 3) (zero := #[.int .i64 0]) (of_decide_eq_true (by kernel_rfl)) (by kernel_rfl) rfl (by kernel_rfl) (by kernel_rfl) Tryz.underlying3; ⟨0, m, by kernel_rfl, hm⟩),
   fun _ => (let ⟨_, _, hv, _⟩ := laid_sentinel (g := 1) (ti := 63) (tp := 113) (te := 115) (ts := 9) (show laidMet Tryz.prog Rows.fnExactReadLineRow.laid W by rw [MakeChecks.laidMetH_plain _ _ _ (by kernel_rfl)] at hL; exact hL).tail.tail.tail.tail.tail (by kernel_rfl) (by kernel_rfl) Tryz.underlying63 errRow Tryz.underlying113 Tryz.underlying115 rfl rfl Tryz.underlying9 (by kernel_rfl) (by kernel_rfl); ⟨_, _, hv⟩),
   fun _ => (let ⟨_, _, hv, _⟩ := laid_sentinel (g := 2) (ti := 63) (tp := 113) (te := 115) (ts := 9) (show laidMet Tryz.prog Rows.fnExactReadLineRow.laid W by rw [MakeChecks.laidMetH_plain _ _ _ (by kernel_rfl)] at hL; exact hL).tail.tail.tail.tail (by kernel_rfl) (by kernel_rfl) Tryz.underlying63 errRow Tryz.underlying113 Tryz.underlying115 rfl rfl Tryz.underlying9 (by kernel_rfl) (by kernel_rfl); ⟨_, _, hv⟩)⟩
set_option maxRecDepth 100000 in
theorem own : ownKnob Tryz.prog.godebug = none := by kernel_rfl
theorem lifted (os : Os) (started : os.Started) (H : Type) (enc : TypeId × Value → H) :
    ReturnsInHanded {} Tryz.checked os 3 .any (fun w args => (Rows.fnExactReadLineSpec.pre enc Tryz.prog Tryz.f3 [] false w args ∧ laidMetH Tryz.prog Rows.fnExactReadLineRow.laid w) ∧ sizedMet enc Tryz.prog Tryz.f3 (OpenSpec.ofChange Rows.fnExactReadLineSpec) false w args) (Rows.fnExactReadLineSpec.post enc Tryz.prog Tryz.f3 false true false false) :=
  laid_of_fn Rows.fnExactReadLineRow.laid (C := Tryz.checked) (n := 1) own started (by kernel_rfl) Tryz.func3 rfl rfl
    (ChangeSpec.witness_shaped (enc := enc) (C := Tryz.checked) (os := os) (X := fun w _ => laidMetH Tryz.prog Rows.fnExactReadLineRow.laid w) false (World.laidAll Tryz.prog os Rows.fnExactReadLineRow.laid) #[.string ByteArray.empty] 8 (World.laidAll_os _ _ _)
      (World.shaped_of_ZipB (by kernel_rfl) (by kernel_rfl)) (by kernel_rfl) (by kernel_rfl) (by kernel_rfl)
      (by rw [MakeChecks.laidMetH_plain _ _ _ (by kernel_rfl)]; exact laidMet_laidAll _ (by kernel_rfl) (by kernel_rfl)))
    rfl rfl Tryz.underlying4 (by kernel_rfl) (by
      intro t ht
      simp only [Tryz.f3, List.mem_cons, List.not_mem_nil, or_false] at ht
      subst ht; exact ⟨by kernel_rfl, by kernel_rfl, of_decide_eq_true (by kernel_rfl)⟩)
    (by
      intro ds hd
      match ds, hd with
      | [d0], _ => rfl)
    gbase ok_laws_FnExactReadLine rfl (by
      intro xs hl hw
      match xs, hl with
      | [x0], _ =>
        obtain ⟨x0, rfl, c0⟩ := wf_string Tryz.underlying9 (hw 0 9 x0 rfl rfl)
        have c0 : x0.length ≤ 4611686018427387904 := by unfold reachBytes at c0; omega
        simp only [spLaw, Option.bind_some]
        exact if_pos c0)
theorem over : Rows.fnExactReadLineRow.holds Tryz.pinned (OpenSpec.ofChange Rows.fnExactReadLineSpec) :=
  OpenClaim.holds_of_wide 3 Tryz.f3 rfl rfl rfl rfl rfl rfl rfl ⟨rfl, rfl, rfl, rfl, rfl⟩ rfl rfl rfl rfl rfl (by kernel_rfl) Tryz.func3 (by kernel_rfl)
    (of_decide_eq_true (by kernel_rfl)) (by unfold Func.isWrapper; first | (rw [if_pos (by decide +kernel)]; kernel_rfl) | (rw [if_neg (by decide +kernel)]; exact ⟨rfl, rfl⟩))
    (fun os started H enc _ => lifted os started H enc)
theorem card : Rows.FnExactReadLineCardSaid :=
  Claim7.holds_tied_plain_at .later [] [.data, .data, .data, .data, .sentinel, .sentinel, .pinned] true (true, "2bad00e23d4ce50d77aca3331bef236e45b00b10355a1ec3cf149ed114406b90") true over (fun _ h => by cases h) (by kernel_rfl) (fun _ h => by cases h) fnExactReadLine_row_tie rfl ⟨rfl, rfl⟩ (by kernel_rfl) rfl
    (fun f fn hf hfn => by
      obtain rfl : f = 3 := Option.some.inj ((show Tryz.prog.funcNamed "loop.example/g00247/laws.FnExactReadLine" = some 3 by kernel_rfl).symm.trans hf) |>.symm
      obtain rfl : fn = Tryz.f3 := (Option.some.inj (Tryz.func3.symm.trans hfn)).symm
      exact ⟨by kernel_rfl, fun j t ht => by
        have hm : t ∈ Tryz.f3.params.toList := Array.mem_toList_iff.2 (Array.mem_of_getElem? ht)
        have hall : (Tryz.f3.params.toList.all fun u => !Tryz.prog.wantsStandIn u) = true := by kernel_rfl
        exact (show Tryz.prog.wantsStandIn t = false by simpa using List.all_eq_true.1 hall t hm)⟩)
    (by kernel_rfl)
end Go.Proofs.YtnbkmmjnpbfhnaaGreatDoor.VReadLine
namespace Go.Proofs.YtnbkmmjnpbfhnaaGreatDoor
theorem fnExactReadLine_holds : Rows.FnExactReadLineCardSaid := VReadLine.card
#print axioms fnExactReadLine_holds
end Go.Proofs.YtnbkmmjnpbfhnaaGreatDoor
