/- The law FnLines: a drawn right line comes back from its text; drawn bytes that are one are the bytes of it. No condition. -/
import Derived.Test.YtonjbbfgdloljaaGreatDoorVLRs
import Derived.Test.YtonjbbfgdloljaaGreatDoorVLSame

import Derived.Test.YtonjbbfgdloljaaGreatDoorVmDoor
import Derived.Stop.LaidErr
import Derived.Test.YtonjbbfgdloljaaGreatDoorTie
import Derived.Test.YtonjbbfgdloljaaGreatDoorCards
import Derived.Test.YtonjbbfgdloljaaGreatDoorRows
import Derived.KernelRfl
namespace Go.Proofs.YtonjbbfgdloljaaGreatDoor.VLines
open Go Go.VM Go.Proofs.YtonjbbfgdloljaaGreatDoor.L
set_option maxRecDepth 100000
set_option maxHeartbeats 4000000
set_option linter.unusedSimpArgs false
set_option linter.unusedVariables false
theorem wf_u8 {P : Program} {n : Nat} {t : TypeId} {v : V} (hu : P.underlying t = some (.int .u8)) (h : WfV P (n + 1) t v) : ∃ m, v = .int .u8 m := by
  unfold WfV at h
  rw [hu] at h
  cases v <;> try exact h.elim
  obtain ⟨rfl, h1, h2⟩ := h
  exact ⟨_, rfl⟩
open Classical in
noncomputable def spBig : VM.Spec := { modes := [.rd], run := fun | [.lst 1 code'] => (decL dU8 code').bind fun code => if code.length ≤ 4611686018427387904 then some (.bool (decide (1048576 < code.length)), []) else none | _ => none, need := [] }
attribute [go_sem] spBig
theorem spBig_in {ins : List V} {r : V} {outs : List V} (h : spBig.run ins = some (r, outs)) : ∃ (code : (List Int)), ins = [.lst 1 ((code).map eU8)] ∧ (code.length ≤ 4611686018427387904) ∧ .bool (decide (1048576 < code.length)) = r ∧ outs = [] := by
  unfold spBig at h
  simp only at h
  split at h
  · rename_i code'
    simp only [Option.bind_eq_some_iff] at h
    obtain ⟨code, h_code, h⟩ := h
    split at h
    case isFalse => cases h
    rename_i hc
    simp only [Option.some.injEq, Prod.mk.injEq] at h
    obtain ⟨h1, h2⟩ := h
    have h_code := decL_some (fun _ _ h => dU8_some h) h_code
    subst h_code
    exact ⟨code, rfl, hc, h1, h2.symm⟩
  · cases h
def T_laws_big : Hints := ⟨lk [], lk [], lk [(0, [0]), (1, [2])], lk []⟩
noncomputable def Phi_laws_big : Tab := lk []
attribute [go_sem] T_laws_big Phi_laws_big
theorem phi_laws_big : ∀ f sp, Phi_laws_big f = some sp → FnOk Tryz.prog f sp ∧ ∀ n ∈ sp.need, n ∈ ([] : List String) := phi_nil
theorem ok_laws_big : FnOk Tryz.prog 5 spBig := by
  refine fn_ok (Φ := Phi_laws_big) (T := T_laws_big) phi_laws_big mixed Tryz.func5 rfl rfl rfl (by decide) ?_
  intro ins r outs hr hl
  clear hl
  have hs := spBig_in hr
  clear hr
  obtain ⟨code, rfl, hc, hr, rfl⟩ := hs
  simp only [spBig, Tryz.f5, Go.VM.initS]
  have e : decide ((1048576 : Int) < (code.length : Int)) = decide (1048576 < code.length) := by rw [Bool.eq_iff_iff]; simp; omega
  simp only [e, go_sem]
  repeat' ((first | apply qa | apply qb | apply qc | apply qd | apply qe | apply qf | apply qg | apply qh | apply qi | apply qj | apply qk) <;> intro hp <;> simp only [hp, e, go_sem])
  simp only [fin_mk, finV, resL, resV1, resIn, endA, listIn, Option.some_or, Option.none_or, oneOrTup, go_sem]
  rw [← hr]
theorem tell_back {x : Line} (h : lineOk x = true) : tellV (lineOfV (lineText x)) (lineText x) = (x, true) := by
  rw [line_back h, tellV, if_pos ⟨h, beq_self_eq_true _⟩]
theorem tell_again {t : List UInt8} (h : (tellV (lineOfV t) t).2 = true) : (lineText (tellV (lineOfV t) t).1 == t) = true := by
  unfold tellV at h ⊢
  split at h
  · rename_i hh; rw [if_pos hh]; exact hh.2
  · cases h
open Classical in
noncomputable def spLaw : VM.Spec := { modes := [.rd], run := fun | [.lst 1 code'] => (decL dU8 code').bind fun code => if code.length ≤ 4611686018427387904 then some (.bool true, []) else none | _ => none, need := ["internal/bytealg.MaxLen", "internal/strconv.uint64pow10", "strconv.ErrSyntax", "strconv.ErrRange"] }
attribute [go_sem] spLaw
theorem spLaw_in {ins : List V} {r : V} {outs : List V} (h : spLaw.run ins = some (r, outs)) : ∃ (code : (List Int)), ins = [.lst 1 ((code).map eU8)] ∧ (code.length ≤ 4611686018427387904) ∧ .bool true = r ∧ outs = [] := by
  unfold spLaw at h
  simp only at h
  split at h
  · rename_i code'
    simp only [Option.bind_eq_some_iff] at h
    obtain ⟨code, h_code, h⟩ := h
    split at h
    case isFalse => cases h
    rename_i hc
    simp only [Option.some.injEq, Prod.mk.injEq] at h
    obtain ⟨h1, h2⟩ := h
    have h_code := decL_some (fun _ _ h => dU8_some h) h_code
    subst h_code
    exact ⟨code, rfl, hc, h1, h2.symm⟩
  · cases h
def T_laws_FnLines : Hints := ⟨lk [], lk [], lk [(0, [0]), (1, [0, 18]), (2, [2]), (3, [0, 3]), (4, [0, 3, 4, 5]), (5, [0, 3, 4, 5, 6, 7]), (6, [3, 4, 5, 6, 7, 8]), (7, [3, 4, 5, 6, 7, 8, 9, 10]), (8, [3, 4, 5, 6, 7, 8, 9, 10, 12]), (9, [3, 4, 5, 6, 7, 8, 10, 12, 13]), (10, [3, 4, 5, 6, 7, 8, 10, 12, 13, 15, 16]), (11, [2])], lk []⟩
noncomputable def Phi_laws_FnLines : Tab := lk [(5, spBig), (6, spDrawLineT), (7, spLineText), (8, spReadLineI), (9, spDrawReadLine), (10, spReadLineS), (11, spLineText), (12, spLineOk), (13, spLineOk), (14, spSameLine)]
attribute [go_sem] T_laws_FnLines Phi_laws_FnLines
theorem phi_laws_FnLines : ∀ f sp, Phi_laws_FnLines f = some sp → FnOk Tryz.prog f sp ∧ ∀ n ∈ sp.need, n ∈ (["internal/bytealg.MaxLen", "internal/strconv.uint64pow10", "strconv.ErrSyntax", "strconv.ErrRange"] : List String) := phi_cons ok_laws_big (n0 rfl) (phi_cons ok_spec_DrawLineText (n0 rfl) (phi_cons ok_impl_LineText (fun n (h : n ∈ (["internal/strconv.uint64pow10"] : List String)) => by simp only [List.mem_cons, List.not_mem_nil, or_false] at h; rcases h with rfl <;> simp) (phi_cons ok_impl_ReadLine (fun n (h : n ∈ (["internal/bytealg.MaxLen", "internal/strconv.uint64pow10", "strconv.ErrSyntax", "strconv.ErrRange"] : List String)) => by simp only [List.mem_cons, List.not_mem_nil, or_false] at h; rcases h with rfl | rfl | rfl | rfl <;> simp) (phi_cons ok_spec_DrawReadLine (fun n (h : n ∈ (["internal/strconv.uint64pow10"] : List String)) => by simp only [List.mem_cons, List.not_mem_nil, or_false] at h; rcases h with rfl <;> simp) (phi_cons ok_spec_ReadLine (fun n (h : n ∈ (["internal/bytealg.MaxLen", "internal/strconv.uint64pow10"] : List String)) => by simp only [List.mem_cons, List.not_mem_nil, or_false] at h; rcases h with rfl | rfl <;> simp) (phi_cons ok_spec_LineText (fun n (h : n ∈ (["internal/strconv.uint64pow10"] : List String)) => by simp only [List.mem_cons, List.not_mem_nil, or_false] at h; rcases h with rfl <;> simp) (phi_cons ok_spec_LineOk (n0 rfl) (phi_cons ok_impl_LineOk (n0 rfl) (phi_cons ok_laws_sameLine (n0 rfl) (phi_nil))))))))))
theorem ok_laws_FnLines : FnOk Tryz.prog 3 spLaw := by
  refine fn_ok (Φ := Phi_laws_FnLines) (T := T_laws_FnLines) phi_laws_FnLines mixed Tryz.func3 rfl rfl rfl (by decide) ?_
  intro ins r outs hr hl
  clear hl
  have hs := spLaw_in hr
  clear hr
  obtain ⟨code, rfl, hc, hr, rfl⟩ := hs
  simp only [spLaw, Tryz.f3, Go.VM.initS]
  by_cases hb : 1048576 < code.length
  · simp only [hc, hb, go_sem]
    repeat' ((first | apply qa | apply qb | apply qc | apply qd | apply qe | apply qf | apply qg | apply qh | apply qi | apply qj | apply qk) <;> intro hp <;> simp only [hp, hc, hb, go_sem])
    simp only [fin_mk, finV, resL, resV1, resIn, endA, listIn, Option.some_or, Option.none_or, oneOrTup, go_sem]
    rw [← hr]
  have hc4 : code.length ≤ 4194304 := by omega
  have i0 := cur0_in hc4
  have iX := (lineA_in i0).1
  obtain ⟨X, hX⟩ : ∃ X, (lineA (cur0 code)).1 = X := ⟨_, rfl⟩
  rw [hX] at iX
  have lX : X.le 4194304 := ⟨Nat.le_trans iX (by decide), fun _ _ => trivial⟩
  have lS : (lineText X).length ≤ 4194304 := by have := lineText_len X; omega
  have lT := drawRL_len hc4
  obtain ⟨T, hT⟩ : ∃ T, drawRL code = T := ⟨_, rfl⟩
  rw [hT] at lT
  have lY := tellV_le (lineText X)
  have lZ := tellV_le T
  have sX : sameL X X = true := by simp [sameL]
  cases hk : lineOk X with
  | true =>
    have r1 := tell_back hk
    cases hm : (tellV (lineOfV T) T).2 with
    | true =>
      have r4 := tell_again hm
      simp only [hc, hb, hc4, hX, lX, lS, hT, lT, lY, lZ, hk, r1, sX, hm, r4, beq_self_eq_true, bne_self_eq_false, go_sem]
      repeat' ((first | apply qa | apply qb | apply qc | apply qd | apply qe | apply qf | apply qg | apply qh | apply qi | apply qj | apply qk) <;> intro hp <;> simp only [hp, hc, hb, hc4, hX, lX, lS, hT, lT, lY, lZ, hk, r1, sX, hm, r4, beq_self_eq_true, bne_self_eq_false, go_sem])
      all_goals (simp only [fin_mk, finV, resL, resV1, resIn, endA, listIn, Option.some_or, Option.none_or, oneOrTup, go_sem]; rw [← hr])
      all_goals first | rfl | skip
    | false =>
      simp only [hc, hb, hc4, hX, lX, lS, hT, lT, lY, lZ, hk, r1, sX, hm, beq_self_eq_true, bne_self_eq_false, go_sem]
      repeat' ((first | apply qa | apply qb | apply qc | apply qd | apply qe | apply qf | apply qg | apply qh | apply qi | apply qj | apply qk) <;> intro hp <;> simp only [hp, hc, hb, hc4, hX, lX, lS, hT, lT, lY, lZ, hk, r1, sX, hm, beq_self_eq_true, bne_self_eq_false, go_sem])
      all_goals (simp only [fin_mk, finV, resL, resV1, resIn, endA, listIn, Option.some_or, Option.none_or, oneOrTup, go_sem]; rw [← hr])
      all_goals first | rfl | skip
  | false =>
    cases hm : (tellV (lineOfV T) T).2 with
    | true =>
      have r4 := tell_again hm
      simp only [hc, hb, hc4, hX, lX, lS, hT, lT, lY, lZ, hk, hm, r4, beq_self_eq_true, bne_self_eq_false, go_sem]
      repeat' ((first | apply qa | apply qb | apply qc | apply qd | apply qe | apply qf | apply qg | apply qh | apply qi | apply qj | apply qk) <;> intro hp <;> simp only [hp, hc, hb, hc4, hX, lX, lS, hT, lT, lY, lZ, hk, hm, r4, beq_self_eq_true, bne_self_eq_false, go_sem])
      all_goals (simp only [fin_mk, finV, resL, resV1, resIn, endA, listIn, Option.some_or, Option.none_or, oneOrTup, go_sem]; rw [← hr])
      all_goals first | rfl | skip
    | false =>
      simp only [hc, hb, hc4, hX, lX, lS, hT, lT, lY, lZ, hk, hm, beq_self_eq_true, bne_self_eq_false, go_sem]
      repeat' ((first | apply qa | apply qb | apply qc | apply qd | apply qe | apply qf | apply qg | apply qh | apply qi | apply qj | apply qk) <;> intro hp <;> simp only [hp, hc, hb, hc4, hX, lX, lS, hT, lT, lY, lZ, hk, hm, beq_self_eq_true, bne_self_eq_false, go_sem])
      all_goals (simp only [fin_mk, finV, resL, resV1, resIn, endA, listIn, Option.some_or, Option.none_or, oneOrTup, go_sem]; rw [← hr])
      all_goals first | rfl | skip
theorem errStar : "*" ++ "errors.errorString" = "*errors.errorString" := by decide
theorem errRow (u : TypeId) (h : Tryz.prog.typeName? 3 u = some "*errors.errorString") : u = 198 :=
  typeName_ptr_named (nm := "errors.errorString") (by rw [errStar]; kernel_rfl) (by kernel_rfl) (by decide) u (by rw [errStar]; exact h)
set_option maxRecDepth 100000 in
theorem gbase (W : World) (hL : laidMetH Tryz.prog Rows.fnLinesRow.laid W) (hsh : W.ShapedOpen Tryz.prog) : GBase Tryz.prog spLaw.need W :=
  ⟨fun _ => laid_tab (g := 1) (t := 187) (by kernel_rfl) (by kernel_rfl) Tryz.underlying187 Tryz.underlying165 (by kernel_rfl) (by kernel_rfl) (by rw [MakeChecks.laidMetH_plain _ _ _ (by kernel_rfl)] at hL; exact hL) (by simp only [Rows.fnLinesRow, List.mem_cons]; first | exact .inl rfl | exact .inr (.inl rfl) | exact .inr (.inr (.inl rfl)) | exact .inr (.inr (.inr (.inl rfl))) | exact .inr (.inr (.inr (.inr (.inl rfl)))) | exact .inr (.inr (.inr (.inr (.inr (.inl rfl)))))),
   fun _ => (let ⟨m, hm⟩ := Go.Proofs.cell_of_shapedOpen_int hsh (g := 0) (t := 3) (zero := #[.int .i64 0]) (of_decide_eq_true (by kernel_rfl)) (by kernel_rfl) rfl (by kernel_rfl) (by kernel_rfl) Tryz.underlying3; ⟨0, m, by kernel_rfl, hm⟩),
   fun _ => (let ⟨_, _, hv, _⟩ := laid_sentinel (g := 2) (ti := 135) (tp := 198) (te := 200) (ts := 9) (show laidMet Tryz.prog Rows.fnLinesRow.laid W by rw [MakeChecks.laidMetH_plain _ _ _ (by kernel_rfl)] at hL; exact hL).tail.tail.tail.tail.tail (by kernel_rfl) (by kernel_rfl) Tryz.underlying135 errRow Tryz.underlying198 Tryz.underlying200 rfl rfl Tryz.underlying9 (by kernel_rfl) (by kernel_rfl); ⟨_, _, hv⟩),
   fun _ => (let ⟨_, _, hv, _⟩ := laid_sentinel (g := 3) (ti := 135) (tp := 198) (te := 200) (ts := 9) (show laidMet Tryz.prog Rows.fnLinesRow.laid W by rw [MakeChecks.laidMetH_plain _ _ _ (by kernel_rfl)] at hL; exact hL).tail.tail.tail.tail (by kernel_rfl) (by kernel_rfl) Tryz.underlying135 errRow Tryz.underlying198 Tryz.underlying200 rfl rfl Tryz.underlying9 (by kernel_rfl) (by kernel_rfl); ⟨_, _, hv⟩)⟩
set_option maxRecDepth 100000 in
theorem own : ownKnob Tryz.prog.godebug = none := by kernel_rfl
theorem lifted (os : Os) (started : os.Started) (H : Type) (enc : TypeId × Value → H) :
    ReturnsInHanded {} Tryz.checked os 3 .any (fun w args => (Rows.fnLinesSpec.pre enc Tryz.prog Tryz.f3 [] false w args ∧ laidMetH Tryz.prog Rows.fnLinesRow.laid w) ∧ sizedMet enc Tryz.prog Tryz.f3 (OpenSpec.ofChange Rows.fnLinesSpec) false w args) (Rows.fnLinesSpec.post enc Tryz.prog Tryz.f3 false true false false) :=
  laid_of_fn Rows.fnLinesRow.laid (C := Tryz.checked) (n := 2) own started (by kernel_rfl) Tryz.func3 rfl rfl
    (ChangeSpec.witness_shaped (enc := enc) (C := Tryz.checked) (os := os) (X := fun w _ => laidMetH Tryz.prog Rows.fnLinesRow.laid w) false (World.laidAll Tryz.prog os Rows.fnLinesRow.laid) #[.slice none 0 0] 8 (World.laidAll_os _ _ _)
      (World.shaped_of_ZipB (by kernel_rfl) (by kernel_rfl)) (by kernel_rfl) (by kernel_rfl) (by kernel_rfl)
      (by rw [MakeChecks.laidMetH_plain _ _ _ (by kernel_rfl)]; exact laidMet_laidAll _ (by kernel_rfl) (by kernel_rfl)))
    rfl rfl Tryz.underlying4 (by kernel_rfl) (by
      intro t ht
      simp only [Tryz.f3, List.mem_cons, List.not_mem_nil, or_false] at ht
      subst ht; exact ⟨by kernel_rfl, by kernel_rfl, of_decide_eq_true (by kernel_rfl)⟩)
    (by
      intro ds hd
      match ds, hd with
      | [d0], _ => rfl)
    gbase ok_laws_FnLines rfl (by
      intro xs hl hw
      match xs, hl with
      | [x0], _ =>
        obtain ⟨x0, rfl, c0, _, e0⟩ := wf_slice Tryz.underlying22 (hw 0 22 x0 rfl rfl)
        rw [Ty.bytes_5] at c0
        have c0 : x0.length ≤ 4611686018427387904 := by unfold reachBytes at c0; omega
        obtain ⟨x0, rfl, d0⟩ := list_enc (e := eU8) (R := fun _ => True) fun v hv => by
          obtain ⟨m, rfl⟩ := wf_u8 Tryz.underlying5 (e0 v hv)
          exact ⟨m, rfl, trivial⟩
        rw [List.length_map] at c0
        simp only [spLaw, Ty.cells_5, decL_u8s, Option.bind_some]
        exact if_pos c0)
theorem over : Rows.fnLinesRow.holds Tryz.pinned (OpenSpec.ofChange Rows.fnLinesSpec) :=
  OpenClaim.holds_of_wide 3 Tryz.f3 rfl rfl rfl rfl rfl rfl rfl ⟨rfl, rfl, rfl, rfl, rfl⟩ rfl rfl rfl rfl rfl (by kernel_rfl) Tryz.func3 (by kernel_rfl)
    (of_decide_eq_true (by kernel_rfl)) (by unfold Func.isWrapper; first | (rw [if_pos (by decide +kernel)]; kernel_rfl) | (rw [if_neg (by decide +kernel)]; exact ⟨rfl, rfl⟩))
    (fun os started H enc _ => lifted os started H enc)
theorem card : Rows.FnLinesCardSaid :=
  Claim7.holds_tied_plain_at .later [] [.data, .data, .data, .data, .sentinel, .sentinel, .pinned] true (true, "0e1dfcf6cc4e3f58725566107fa22ea2c0b757fda16c1adcadd4d3a5014eee48") true over (fun _ h => by cases h) (by kernel_rfl) (fun _ h => by cases h) fnLines_row_tie rfl ⟨rfl, rfl⟩ (by kernel_rfl) rfl
    (fun f fn hf hfn => by
      obtain rfl : f = 3 := Option.some.inj ((show Tryz.prog.funcNamed "loop.example/g00247/laws.FnLines" = some 3 by kernel_rfl).symm.trans hf) |>.symm
      obtain rfl : fn = Tryz.f3 := (Option.some.inj (Tryz.func3.symm.trans hfn)).symm
      exact ⟨by kernel_rfl, fun j t ht => by
        have hm : t ∈ Tryz.f3.params.toList := Array.mem_toList_iff.2 (Array.mem_of_getElem? ht)
        have hall : (Tryz.f3.params.toList.all fun u => !Tryz.prog.wantsStandIn u) = true := by kernel_rfl
        exact (show Tryz.prog.wantsStandIn t = false by simpa using List.all_eq_true.1 hall t hm)⟩)
    (by kernel_rfl)
end Go.Proofs.YtonjbbfgdloljaaGreatDoor.VLines
namespace Go.Proofs.YtonjbbfgdloljaaGreatDoor
theorem fnLines_holds : Rows.FnLinesCardSaid := VLines.card
#print axioms fnLines_holds
end Go.Proofs.YtonjbbfgdloljaaGreatDoor
