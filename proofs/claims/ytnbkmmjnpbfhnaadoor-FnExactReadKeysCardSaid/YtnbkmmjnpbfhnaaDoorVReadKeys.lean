/- The law FnExactReadKeys: the two functions that it calls answer alike, so it answers true. No condition. -/
import Derived.Test.YtnbkmmjnpbfhnaaDoorVLB
import Derived.Test.YtnbkmmjnpbfhnaaDoorVLKeI
import Derived.Test.YtnbkmmjnpbfhnaaDoorVmDoor
import Derived.Test.YtnbkmmjnpbfhnaaDoorTie
import Derived.Test.YtnbkmmjnpbfhnaaDoorCards
import Derived.Stop.LaidErr
import Derived.Test.YtnbkmmjnpbfhnaaDoorRows
import Derived.KernelRfl
namespace Go.Proofs.YtnbkmmjnpbfhnaaDoor.VReadKeys
open Go Go.VM Go.Proofs.YtnbkmmjnpbfhnaaDoor.L
set_option maxRecDepth 100000
set_option maxHeartbeats 4000000
set_option linter.unusedSimpArgs false
set_option linter.unusedVariables false
open Classical in
noncomputable def spLaw : VM.Spec := { modes := [.rd], run := fun | [.lst 1 aWords'] => (decL dStr aWords').bind fun aWords => if leL leS 4611686018427387904 aWords then some (.bool true, []) else none | _ => none, need := ["internal/bytealg.MaxLen", "internal/strconv.uint64pow10", "strconv.ErrSyntax", "strconv.ErrRange"] }
attribute [go_sem] spLaw
theorem spLaw_in {ins : List V} {r : V} {outs : List V} (h : spLaw.run ins = some (r, outs)) : ∃ (aWords : (List (List UInt8))), ins = [.lst 1 ((aWords).map eStr)] ∧ (leL leS 4611686018427387904 aWords) ∧ .bool true = r ∧ outs = [] := by
  unfold spLaw at h
  simp only at h
  split at h
  · rename_i aWords'
    simp only [Option.bind_eq_some_iff] at h
    obtain ⟨aWords, h_aWords, h⟩ := h
    split at h
    case isFalse => cases h
    rename_i hc
    simp only [Option.some.injEq, Prod.mk.injEq] at h
    obtain ⟨h1, h2⟩ := h
    have h_aWords := decL_some (fun _ _ h => dStr_some h) h_aWords
    subst h_aWords
    exact ⟨aWords, rfl, hc, h1, h2.symm⟩
  · cases h
def T_laws_FnExactReadKeys : Hints := ⟨lk [], lk [], lk [(0, [0]), (1, [0, 3]), (2, [0, 3]), (3, [0, 18]), (4, [2]), (5, [0, 4, 5]), (6, [0, 4, 5, 6]), (7, [0, 4, 5, 6, 7, 8]), (8, [0, 4, 5, 6, 7, 8, 40]), (9, [2]), (10, [0, 4, 5, 6, 7, 8, 45]), (11, [2]), (12, [0, 4, 5, 6, 7, 8, 9]), (13, [0, 4, 5, 7, 8, 9]), (14, [0, 4, 5, 7, 61]), (15, [2]), (16, [0, 4, 5, 7, 10]), (17, [0, 4, 5, 7, 10]), (18, [0, 4, 5, 7, 10, 11]), (19, [0, 4, 5, 7, 10, 11]), (20, [0, 4, 5, 7, 10, 11, 69]), (21, [2]), (22, [0, 4, 5, 7, 10, 72]), (23, [2]), (24, [4, 5, 7, 10, 12, 13]), (25, [7, 10, 87]), (26, [2]), (27, [7, 10, 11]), (28, [10, 11]), (29, [10, 11, 92]), (30, [2]), (31, [95]), (32, [2]), (33, [2])], lk []⟩
noncomputable def Phi_laws_FnExactReadKeys : Tab := lk [(4, spSzStringS), (6, spToStringS), (9, spEqStringS), (10, spMarkStringS), (8, spEqKeyS), (11, spMarkKeyS), (12, spHeldKeyS), (5, spReadKeys), (7, spReadKeysI)]
attribute [go_sem] T_laws_FnExactReadKeys Phi_laws_FnExactReadKeys
theorem phi_laws_FnExactReadKeys : ∀ f sp, Phi_laws_FnExactReadKeys f = some sp → FnOk Tryd.prog f sp ∧ ∀ n ∈ sp.need, n ∈ (["internal/bytealg.MaxLen", "internal/strconv.uint64pow10", "strconv.ErrSyntax", "strconv.ErrRange"] : List String) := phi_cons ok_laws_szStringS (n0 rfl) (phi_cons ok_laws_toStringS (n0 rfl) (phi_cons ok_laws_eqStringS (n0 rfl) (phi_cons ok_laws_markStringS (n0 rfl) (phi_cons ok_laws_eqKeyS (n0 rfl) (phi_cons ok_laws_markKeyS (n0 rfl) (phi_cons ok_laws_heldKeyS (n0 rfl) (phi_cons ok_spec_ReadKeys (fun n (h : n ∈ (["internal/bytealg.MaxLen"] : List String)) => by simp only [List.mem_cons, List.not_mem_nil, or_false] at h; rcases h with rfl <;> simp) (phi_cons ok_impl_ReadKeys (fun n (h : n ∈ (["internal/bytealg.MaxLen", "internal/strconv.uint64pow10", "strconv.ErrSyntax", "strconv.ErrRange"] : List String)) => by simp only [List.mem_cons, List.not_mem_nil, or_false] at h; rcases h with rfl | rfl | rfl | rfl <;> simp) (phi_nil)))))))))
theorem ok_laws_FnExactReadKeys : FnOk Tryd.prog 3 spLaw := by
  refine fn_ok (Φ := Phi_laws_FnExactReadKeys) (T := T_laws_FnExactReadKeys) phi_laws_FnExactReadKeys mixed Tryd.func3 rfl rfl rfl (by decide) ?_
  intro ins r outs hr hl
  clear hl
  have hs := spLaw_in hr
  clear hr
  obtain ⟨aWords, rfl, hc, hr, rfl⟩ := hs
  simp only [spLaw, Tryd.f3, Go.VM.initS]
  have w0 := hc
  have z0 : szLL szStr aWords (1048576) = -1 ∨ (0 ≤ szLL szStr aWords (1048576) ∧ szLL szStr aWords (1048576) ≤ 1048576 ∧ _) := szLL_ok szStr_ok aWords (1048576) 1048576 (by decide) (by decide)
  rcases z0 with z0 | ⟨z0, y0, x0⟩
  · simp only [w0, z0, go_sem]
    repeat' ((first | apply qa | apply qb | apply qc | apply qd | apply qe | apply qf | apply qg | apply qh | apply qi | apply qj | apply qk) <;> intro hp <;> simp only [hp, w0, z0, go_sem])
    simp only [fin_mk, finV, resL, resV1, resIn, endA, listIn, Option.some_or, Option.none_or, oneOrTup, go_sem]
    rw [← hr]
  have n0 : ¬ (szLL szStr aWords (1048576)) < 0 := Int.not_lt.2 z0
  have u0 : (szLL szStr aWords (1048576)) ≤ 4611686018427387904 := by omega
  have v0 : (szLL szStr aWords (1048576)) ≤ ((1048576 : Nat) : Int) := by omega
  have l0' : leL leS 4194304 aWords := leL.mono leS.mono (by decide) x0
  have l0 : aWords.length ≤ 4194304 := l0'.1
  have fw : (∀ w ∈ aWords, w.length ≤ 4194304) = True := eq_true l0'.2
  have q0 : (0 : Int) ≤ 1 := by decide
  have r0 : ((readKeys aWords).1).length ≤ 4194304 := Nat.le_trans (readKeys_in (n := 4194304) (fun w hw => l0'.2 w hw)).1 (by decide)
  have xe0 : (markL meStr (aWords) (1)).2 = 1 + (1 : Nat) * (aWords).length := markL_k meStr_k _ _
  have xp0 : 0 ≤ (markL meStr (aWords) (1)).2 := by omega
  have xn0 : ¬ (markL meStr (aWords) (1)).2 < 0 := by omega
  have xb0 : (markL meStr (aWords) (1)).2 ≤ 288230376151711744 := by omega
  have xc0 : (markL meStr (aWords) (1)).2 ≤ 1152921504606846976 := by omega
  have xd0 : (markL meStr (aWords) (1)).2 ≤ 144115188075855872 := by omega
  have me1 : (markL meKey ((readKeys aWords).1) (1)).2 = 1 + (3 : Nat) * ((readKeys aWords).1).length := markL_k meKey_k _ _
  have mp1 : 0 ≤ (markL meKey ((readKeys aWords).1) (1)).2 := by omega
  have mn1 : ¬ (markL meKey ((readKeys aWords).1) (1)).2 < 0 := by omega
  have mb1 : (markL meKey ((readKeys aWords).1) (1)).2 ≤ 288230376151711744 := by omega
  have mc1 : (markL meKey ((readKeys aWords).1) (1)).2 ≤ 1152921504606846976 := by omega
  have md1 : (markL meKey ((readKeys aWords).1) (1)).2 ≤ 144115188075855872 := by omega
  simp only [l0', w0, z0, n0, u0, l0, fw, r0, xp0, xn0, xb0, xc0, xd0, mp1, mn1, mb1, mc1, md1, held_marked heKey_marked, markL_len, q0, Option.getD_some, bne_self_eq_false, go_sem]
  repeat' ((first | apply qa | apply qb | apply qc | apply qd | apply qe | apply qf | apply qg | apply qh | apply qi | apply qj | apply qk) <;> intro hp <;> simp only [hp, l0', w0, z0, n0, u0, l0, fw, r0, xp0, xn0, xb0, xc0, xd0, mp1, mn1, mb1, mc1, md1, held_marked heKey_marked, markL_len, q0, Option.getD_some, bne_self_eq_false, go_sem])
  all_goals (simp only [fin_mk, finV, resL, resV1, resIn, endA, listIn, Option.some_or, Option.none_or, oneOrTup, go_sem]; rw [← hr])
theorem errStar : "*" ++ "errors.errorString" = "*errors.errorString" := by decide
theorem errRow (u : TypeId) (h : Tryd.prog.typeName? 3 u = some "*errors.errorString") : u = 99 :=
  typeName_ptr_named (nm := "errors.errorString") (by rw [errStar]; kernel_rfl) (by kernel_rfl) (by decide) u (by rw [errStar]; exact h)
set_option maxRecDepth 100000 in
theorem gbase (W : World) (hL : laidMetH Tryd.prog Rows.fnExactReadKeysRow.laid W) (hsh : W.ShapedOpen Tryd.prog) : GBase Tryd.prog spLaw.need W :=
  ⟨fun _ => laid_tab (g := 5) (t := 112) (by kernel_rfl) (by kernel_rfl) Tryd.underlying112 Tryd.underlying85 (by kernel_rfl) (by kernel_rfl) (by rw [MakeChecks.laidMetH_plain _ _ _ (by kernel_rfl)] at hL; exact hL) (by simp only [Rows.fnExactReadKeysRow, List.mem_cons]; first | exact .inl rfl | exact .inr (.inl rfl) | exact .inr (.inr (.inl rfl)) | exact .inr (.inr (.inr (.inl rfl))) | exact .inr (.inr (.inr (.inr (.inl rfl)))) | exact .inr (.inr (.inr (.inr (.inr (.inl rfl)))))),
   fun _ => (let ⟨m, hm⟩ := Go.Proofs.cell_of_shapedOpen_int hsh (g := 0) (t := 3) (zero := #[.int .i64 0]) (of_decide_eq_true (by kernel_rfl)) (by kernel_rfl) rfl (by kernel_rfl) (by kernel_rfl) Tryd.underlying3; ⟨0, m, by kernel_rfl, hm⟩),
   fun _ => (let ⟨_, _, hv, _⟩ := laid_sentinel (g := 1) (ti := 66) (tp := 99) (te := 101) (ts := 9) (show laidMet Tryd.prog Rows.fnExactReadKeysRow.laid W by rw [MakeChecks.laidMetH_plain _ _ _ (by kernel_rfl)] at hL; exact hL).tail.tail.tail.tail.tail (by kernel_rfl) (by kernel_rfl) Tryd.underlying66 errRow Tryd.underlying99 Tryd.underlying101 rfl rfl Tryd.underlying9 (by kernel_rfl) (by kernel_rfl); ⟨_, _, hv⟩),
   fun _ => (let ⟨_, _, hv, _⟩ := laid_sentinel (g := 2) (ti := 66) (tp := 99) (te := 101) (ts := 9) (show laidMet Tryd.prog Rows.fnExactReadKeysRow.laid W by rw [MakeChecks.laidMetH_plain _ _ _ (by kernel_rfl)] at hL; exact hL).tail.tail.tail.tail (by kernel_rfl) (by kernel_rfl) Tryd.underlying66 errRow Tryd.underlying99 Tryd.underlying101 rfl rfl Tryd.underlying9 (by kernel_rfl) (by kernel_rfl); ⟨_, _, hv⟩)⟩
set_option maxRecDepth 100000 in
theorem own : ownKnob Tryd.prog.godebug = none := by kernel_rfl
theorem lifted (os : Os) (started : os.Started) (H : Type) (enc : TypeId × Value → H) :
    ReturnsInHanded {} Tryd.checked os 3 .any (fun w args => (Rows.fnExactReadKeysSpec.pre enc Tryd.prog Tryd.f3 [] false w args ∧ laidMetH Tryd.prog Rows.fnExactReadKeysRow.laid w) ∧ sizedMet enc Tryd.prog Tryd.f3 (OpenSpec.ofChange Rows.fnExactReadKeysSpec) false w args) (Rows.fnExactReadKeysSpec.post enc Tryd.prog Tryd.f3 false true false false) :=
  laid_of_fn Rows.fnExactReadKeysRow.laid (C := Tryd.checked) (n := 2) own started (by kernel_rfl) Tryd.func3 rfl rfl
    (ChangeSpec.witness_shaped (enc := enc) (C := Tryd.checked) (os := os) (X := fun w _ => laidMetH Tryd.prog Rows.fnExactReadKeysRow.laid w) false (World.laidAll Tryd.prog os Rows.fnExactReadKeysRow.laid) #[.slice none 0 0] 8 (World.laidAll_os _ _ _)
      (World.shaped_of_ZipB (by kernel_rfl) (by kernel_rfl)) (by kernel_rfl) (by kernel_rfl) (by kernel_rfl)
      (by rw [MakeChecks.laidMetH_plain _ _ _ (by kernel_rfl)]; exact laidMet_laidAll _ (by kernel_rfl) (by kernel_rfl)))
    rfl rfl Tryd.underlying4 (by kernel_rfl) (by
      intro t ht
      simp only [Tryd.f3, List.mem_cons, List.not_mem_nil, or_false] at ht
      subst ht; exact ⟨by kernel_rfl, by kernel_rfl, of_decide_eq_true (by kernel_rfl)⟩)
    (by
      intro ds hd
      match ds, hd with
      | [d0], _ => rfl)
    gbase ok_laws_FnExactReadKeys rfl (by
      intro xs hl hw
      match xs, hl with
      | [x0], _ =>
        obtain ⟨x0, rfl, c0, _, e0⟩ := wf_slice Tryd.underlying22 (hw 0 22 x0 rfl rfl)
        rw [Ty.bytes_9] at c0
        have c0 : x0.length ≤ 4611686018427387904 := by unfold reachBytes at c0; omega
        obtain ⟨x0, rfl, d0⟩ := list_enc (e := eStr) (R := leS 4611686018427387904) fun v hv => by
          obtain ⟨m, rfl, cc⟩ := wf_string Tryd.underlying9 (e0 v hv)
          exact ⟨m, rfl, by unfold reachBytes at cc; unfold leS; omega⟩
        rw [List.length_map] at c0
        simp only [spLaw, Ty.cells_9, decL_strs, Option.bind_some]
        exact if_pos ⟨c0, d0⟩)
theorem over : Rows.fnExactReadKeysRow.holds Tryd.pinned (OpenSpec.ofChange Rows.fnExactReadKeysSpec) :=
  OpenClaim.holds_of_wide 3 Tryd.f3 rfl rfl rfl rfl rfl rfl rfl ⟨rfl, rfl, rfl, rfl, rfl⟩ rfl rfl rfl rfl rfl (by kernel_rfl) Tryd.func3 (by kernel_rfl)
    (of_decide_eq_true (by kernel_rfl)) (by unfold Func.isWrapper; first | (rw [if_pos (by decide +kernel)]; kernel_rfl) | (rw [if_neg (by decide +kernel)]; exact ⟨rfl, rfl⟩))
    (fun os started H enc _ => lifted os started H enc)
theorem card : Rows.FnExactReadKeysCardSaid :=
  Claim7.holds_tied_plain_at .later [] [.data, .data, .data, .data, .sentinel, .sentinel, .pinned] true (true, "cdaddc92f25a8d7cb937eec450ffe4f35b18297f32ad637126f638441fa7c6e7") true over (fun _ h => by cases h) (by kernel_rfl) (fun _ h => by cases h) fnExactReadKeys_row_tie rfl ⟨rfl, rfl⟩ (by kernel_rfl) rfl
    (fun f fn hf hfn => by
      obtain rfl : f = 3 := Option.some.inj ((show Tryd.prog.funcNamed "loop.example/g00247/laws.FnExactReadKeys" = some 3 by kernel_rfl).symm.trans hf) |>.symm
      obtain rfl : fn = Tryd.f3 := (Option.some.inj (Tryd.func3.symm.trans hfn)).symm
      exact ⟨by kernel_rfl, fun j t ht => by
        have hm : t ∈ Tryd.f3.params.toList := Array.mem_toList_iff.2 (Array.mem_of_getElem? ht)
        have hall : (Tryd.f3.params.toList.all fun u => !Tryd.prog.wantsStandIn u) = true := by kernel_rfl
        exact (show Tryd.prog.wantsStandIn t = false by simpa using List.all_eq_true.1 hall t hm)⟩)
    (by kernel_rfl)
end Go.Proofs.YtnbkmmjnpbfhnaaDoor.VReadKeys
namespace Go.Proofs.YtnbkmmjnpbfhnaaDoor
theorem fnExactReadKeys_holds : Rows.FnExactReadKeysCardSaid := VReadKeys.card
#print axioms fnExactReadKeys_holds
end Go.Proofs.YtnbkmmjnpbfhnaaDoor
