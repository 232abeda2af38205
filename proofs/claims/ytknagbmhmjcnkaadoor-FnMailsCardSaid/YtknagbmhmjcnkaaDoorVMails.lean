/- The law FnMails: a drawn mail is its parts, put together; its head is found, and its body. No condition. -/
import Derived.Test.YtknagbmhmjcnkaaDoorVLMa
import Derived.Test.YtknagbmhmjcnkaaDoorVLPo
import Derived.Test.YtknagbmhmjcnkaaDoorVmDoor
import Derived.Test.YtknagbmhmjcnkaaDoorTie
import Derived.Test.YtknagbmhmjcnkaaDoorCards
import Derived.Test.YtknagbmhmjcnkaaDoorRows
import Derived.KernelRfl
namespace Go.Proofs.YtknagbmhmjcnkaaDoor.VMails
open Go Go.VM Go.Proofs.YtknagbmhmjcnkaaDoor.L
set_option maxRecDepth 100000
set_option maxHeartbeats 4000000
set_option linter.unusedSimpArgs false
set_option linter.unusedVariables false
theorem wf_u8 {P : Program} {n : Nat} {t : TypeId} {v : V} (hu : P.underlying t = some (.int .u8)) (h : WfV P (n + 1) t v) : ∃ m, v = .int .u8 m := by
  unfold WfV at h
  rw [hu] at h
  cases v <;> try exact h.elim
  obtain ⟨rfl, h1, h2⟩ := h
  exact ⟨_, rfl⟩
open Classical in
noncomputable def spBig : VM.Spec := { modes := [.rd], run := fun | [.lst 1 code'] => (decL dU8 code').bind fun code => if code.length ≤ 4611686018427387904 then some (.bool (decide (1048576 < code.length)), []) else none | _ => none, need := [] }
attribute [go_sem] spBig
theorem spBig_in {ins : List V} {r : V} {outs : List V} (h : spBig.run ins = some (r, outs)) : ∃ (code : (List Int)), ins = [.lst 1 ((code).map eU8)] ∧ (code.length ≤ 4611686018427387904) ∧ .bool (decide (1048576 < code.length)) = r ∧ outs = [] := by
  unfold spBig at h
  simp only at h
  split at h
  · rename_i code'
    simp only [Option.bind_eq_some_iff] at h
    obtain ⟨code, h_code, h⟩ := h
    split at h
    case isFalse => cases h
    rename_i hc
    simp only [Option.some.injEq, Prod.mk.injEq] at h
    obtain ⟨h1, h2⟩ := h
    have h_code := decL_some (fun _ _ h => dU8_some h) h_code
    subst h_code
    exact ⟨code, rfl, hc, h1, h2.symm⟩
  · cases h
def T_laws_big : Hints := ⟨fun _ => none, fun _ => none, fun i => if i = 0 then some [0] else if i = 1 then some [2] else none, fun _ => none⟩
noncomputable def Phi_laws_big : Tab := fun f => none
attribute [go_sem] T_laws_big Phi_laws_big
theorem phi_laws_big : ∀ f sp, Phi_laws_big f = some sp → FnOk Tryd.prog f sp ∧ ∀ n ∈ sp.need, n ∈ ([] : List String) := by
  intro f sp h
  unfold Phi_laws_big at h
  cases h
theorem ok_laws_big : FnOk Tryd.prog 6 spBig := by
  refine fn_ok (Φ := Phi_laws_big) (T := T_laws_big) phi_laws_big mixed Tryd.func6 rfl rfl rfl (by decide) ?_
  intro ins r outs hr hl
  clear hl
  have hs := spBig_in hr
  clear hr
  obtain ⟨code, rfl, hc, hr, rfl⟩ := hs
  simp only [spBig, Tryd.f6, Go.VM.initS]
  have e : decide ((1048576 : Int) < (code.length : Int)) = decide (1048576 < code.length) := by rw [Bool.eq_iff_iff]; simp; omega
  simp only [e, go_sem]
  repeat' ((first | ((first | apply qa | apply qb | apply qc | apply qd | apply qe | apply qf | apply qg | apply qh | apply qi | apply qj | apply qk) <;> intro hp) | ((first | refine ql rfl rfl (by decide +kernel) ?_ | refine qm _ rfl rfl (by decide +kernel) ?_ | refine goes_opn rfl ?_ | refine goes_opnD rfl rfl (by decide +kernel) ?_) <;> have hp := True.intro)) <;> simp only [hp, e, go_sem])
  simp only [fin_mk, finV, resL, resV1, resIn, endA, listIn, Option.some_or, Option.none_or, oneOrTup, go_sem]
  rw [← hr]
open Classical in
noncomputable def spLaw : VM.Spec := { modes := [.rd], run := fun | [.lst 1 code'] => (decL dU8 code').bind fun code => if code.length ≤ 4611686018427387904 then some (.bool true, []) else none | _ => none, need := ["internal/bytealg.MaxLen"] }
attribute [go_sem] spLaw
theorem spLaw_in {ins : List V} {r : V} {outs : List V} (h : spLaw.run ins = some (r, outs)) : ∃ (code : (List Int)), ins = [.lst 1 ((code).map eU8)] ∧ (code.length ≤ 4611686018427387904) ∧ .bool true = r ∧ outs = [] := by
  unfold spLaw at h
  simp only at h
  split at h
  · rename_i code'
    simp only [Option.bind_eq_some_iff] at h
    obtain ⟨code, h_code, h⟩ := h
    split at h
    case isFalse => cases h
    rename_i hc
    simp only [Option.some.injEq, Prod.mk.injEq] at h
    obtain ⟨h1, h2⟩ := h
    have h_code := decL_some (fun _ _ h => dU8_some h) h_code
    subst h_code
    exact ⟨code, rfl, hc, h1, h2.symm⟩
  · cases h
def T_laws_FnMails : Hints := ⟨fun _ => none, fun _ => none, fun i => if i = 0 then some [0] else if i = 1 then some [0, 17] else if i = 2 then some [2] else if i = 3 then some [0, 3] else if i = 4 then some [0, 3, 4] else if i = 5 then some [0, 3, 5] else if i = 6 then some [0, 3, 5, 6] else if i = 7 then some [0, 3, 5, 6, 7, 8] else if i = 8 then some [0, 3, 5, 6, 7, 8, 9, 10] else if i = 9 then some [0, 3, 5, 6, 7, 8, 9, 10, 12] else if i = 10 then some [3, 5, 6, 7, 8, 9, 10, 12, 13, 14, 15] else if i = 11 then some [2] else none, fun _ => none⟩
noncomputable def Phi_laws_FnMails : Tab := fun f => if f = 6 then some spBig else if f = 9 then some spDrawMail else if f = 7 then some spPlaces else if f = 12 then some spDrawPart else if f = 10 then some spBodyOf else if f = 11 then some spHeadOf else if f = 13 then some spMailOk else if f = 14 then some spPartOf else if f = 15 then some spPartOf else none
attribute [go_sem] T_laws_FnMails Phi_laws_FnMails
theorem phi_laws_FnMails : ∀ f sp, Phi_laws_FnMails f = some sp → FnOk Tryd.prog f sp ∧ ∀ n ∈ sp.need, n ∈ (["internal/bytealg.MaxLen"] : List String) := by
  intro f sp h
  unfold Phi_laws_FnMails at h
  by_cases e : f = 6
  · rw [if_pos e] at h; cases h; rw [e]; exact ⟨ok_laws_big, (fun n (h : n ∈ ([] : List String)) => (nomatch h))⟩
  rw [if_neg e] at h
  by_cases e : f = 9
  · rw [if_pos e] at h; cases h; rw [e]; exact ⟨ok_spec_DrawMail, (fun n (h : n ∈ ([] : List String)) => (nomatch h))⟩
  rw [if_neg e] at h
  by_cases e : f = 7
  · rw [if_pos e] at h; cases h; rw [e]; exact ⟨ok_spec_DrawPlaces, (fun n (h : n ∈ ([] : List String)) => (nomatch h))⟩
  rw [if_neg e] at h
  by_cases e : f = 12
  · rw [if_pos e] at h; cases h; rw [e]; exact ⟨ok_spec_DrawPartOf, (fun n (h : n ∈ ([] : List String)) => (nomatch h))⟩
  rw [if_neg e] at h
  by_cases e : f = 10
  · rw [if_pos e] at h; cases h; rw [e]; exact ⟨ok_impl_BodyOf, (fun n (h : n ∈ (["internal/bytealg.MaxLen"] : List String)) => by simp only [List.mem_cons, List.not_mem_nil, or_false] at h; rcases h with rfl <;> simp)⟩
  rw [if_neg e] at h
  by_cases e : f = 11
  · rw [if_pos e] at h; cases h; rw [e]; exact ⟨ok_impl_HeadOf, (fun n (h : n ∈ (["internal/bytealg.MaxLen"] : List String)) => by simp only [List.mem_cons, List.not_mem_nil, or_false] at h; rcases h with rfl <;> simp)⟩
  rw [if_neg e] at h
  by_cases e : f = 13
  · rw [if_pos e] at h; cases h; rw [e]; exact ⟨ok_impl_MailOk, (fun n (h : n ∈ ([] : List String)) => (nomatch h))⟩
  rw [if_neg e] at h
  by_cases e : f = 14
  · rw [if_pos e] at h; cases h; rw [e]; exact ⟨ok_impl_PartOf, (fun n (h : n ∈ ([] : List String)) => (nomatch h))⟩
  rw [if_neg e] at h
  by_cases e : f = 15
  · rw [if_pos e] at h; cases h; rw [e]; exact ⟨ok_spec_PartOf, (fun n (h : n ∈ ([] : List String)) => (nomatch h))⟩
  rw [if_neg e] at h
  cases h
theorem ok_laws_FnMails : FnOk Tryd.prog 4 spLaw := by
  refine fn_ok (Φ := Phi_laws_FnMails) (T := T_laws_FnMails) phi_laws_FnMails mixed Tryd.func4 rfl rfl rfl (by decide) ?_
  intro ins r outs hr hl
  clear hl
  have hs := spLaw_in hr
  clear hr
  obtain ⟨code, rfl, hc, hr, rfl⟩ := hs
  simp only [spLaw, Tryd.f4, Go.VM.initS]
  by_cases hb : 1048576 < code.length
  · simp only [hc, hb, go_sem]
    repeat' ((first | ((first | apply qa | apply qb | apply qc | apply qd | apply qe | apply qf | apply qg | apply qh | apply qi | apply qj | apply qk) <;> intro hp) | ((first | refine ql rfl rfl (by decide +kernel) ?_ | refine qm _ rfl rfl (by decide +kernel) ?_ | refine goes_opn rfl ?_ | refine goes_opnD rfl rfl (by decide +kernel) ?_) <;> have hp := True.intro)) <;> simp only [hp, hc, hb, go_sem])
    simp only [fin_mk, finV, resL, resV1, resIn, endA, listIn, Option.some_or, Option.none_or, oneOrTup, go_sem]
    rw [← hr]
  have hc4 : code.length ≤ 4194304 := by omega
  have i0 := cur0_in hc4
  have chk := mailO_check i0
  have hTl := (mailO_len i0).1
  obtain ⟨T, hT⟩ : ∃ T, (mailO (cur0 code)).1 = T := ⟨_, rfl⟩
  rw [hT] at chk hTl
  simp only [checkM, Bool.and_eq_true, decide_eq_true_eq, beq_iff_eq, Bool.not_eq_true'] at chk
  obtain ⟨m1, s1, s2, s3, s4, b1, b2⟩ := chk
  obtain ⟨B, hB⟩ : ∃ B, bodyT T = B := ⟨_, rfl⟩
  rw [hB] at b1 b2
  obtain ⟨hPl, hPm⟩ := places_in hc4
  obtain ⟨P, hP⟩ : ∃ P, places code = P := ⟨_, rfl⟩
  rw [hP] at hPl hPm
  have p0 : 0 < P.length := by omega
  have m0 := hPm _ (List.getElem_mem p0)
  have q0 : P[0]? = some P[0] := List.getElem?_eq_getElem p0
  have z0 : (0 : Int) < ((12 : Nat) : Int) := by decide
  have w1 : IntKind.i64.wrap ((T.length : Int) + 1) = ((T.length + 1 : Nat) : Int) := (wrap64 (by omega) (by omega)).trans (by omega)
  have n0 : ¬ ((T.length + 1 : Nat) : Int) = 0 := by omega
  obtain ⟨k, hk, hk2⟩ : ∃ k : Nat, P[0].tmod ((T.length + 1 : Nat) : Int) = k ∧ k ≤ T.length := by
    have h1 := Int.tmod_nonneg ((T.length + 1 : Nat) : Int) m0.1
    have h2 := Int.tmod_lt_of_pos P[0] (show (0 : Int) < ((T.length + 1 : Nat) : Int) by omega)
    exact ⟨(P[0].tmod ((T.length + 1 : Nat) : Int)).toNat, by omega, by omega⟩
  have hTL : T.length ≤ 4194304 := by omega
  have e1 : partT T 0 k = T.take k := by rw [partT, if_pos ⟨Int.le_refl 0, by omega, by omega⟩]; rfl
  have e2 : partT T k T.length = T.drop k := by
    rw [partT, if_pos ⟨by omega, by omega, by omega⟩]
    simp only [Int.toNat_natCast]
    exact List.take_of_length_le (by rw [List.length_drop]; omega)
  have e3 : T.take k ++ T.drop k = T := List.take_append_drop k T
  have l1 : (T.take k).length = k := by rw [List.length_take]; omega
  have l2 : (T.drop k).length = T.length - k := List.length_drop
  have l3 : k + (T.length - k) ≤ 9223372036854775807 := by omega
  have b1i : (B.length : Int) ≤ (T.length : Int) := by omega
  have w2 : IntKind.i64.wrap ((T.length : Int) - (B.length : Int)) = ((T.length - B.length : Nat) : Int) := (wrap64 (by omega) (by omega)).trans (by omega)
  have w3 : (0 : Int) ≤ ((T.length - B.length : Nat) : Int) := by omega
  have w4 : T.length - B.length ≤ T.length := by omega
  have j1 := placeO_in i0
  have j2 := (pickI_in (l := [0, 1, 5, 300, -1, 9223372036854775807]) j1 (by decide)).1
  have l4 : (anyO (partC code).2).1.length ≤ 4194304 := by have := (anyO_len (c := (partC code).2) j2).1; omega
  simp only [hc, hb, hc4, hT, hB, hP, hPl, q0, z0, w1, n0, hk, hTL, m1, s1, s2, s3, s4, e1, e2, e3, l1, l2, l3, b1i, w2, w3, w4, b2, l4, List.take_length, Nat.le_refl, go_sem]
  repeat' ((first | ((first | apply qa | apply qb | apply qc | apply qd | apply qe | apply qf | apply qg | apply qh | apply qi | apply qj | apply qk) <;> intro hp) | ((first | refine ql rfl rfl (by decide +kernel) ?_ | refine qm _ rfl rfl (by decide +kernel) ?_ | refine goes_opn rfl ?_ | refine goes_opnD rfl rfl (by decide +kernel) ?_) <;> have hp := True.intro)) <;> simp only [hp, hc, hb, hc4, hT, hB, hP, hPl, q0, z0, w1, n0, hk, hTL, m1, s1, s2, s3, s4, e1, e2, e3, l1, l2, l3, b1i, w2, w3, w4, b2, l4, List.take_length, Nat.le_refl, go_sem])
  simp only [fin_mk, finV, resL, resV1, resIn, endA, listIn, Option.some_or, Option.none_or, oneOrTup, go_sem]
  rw [← hr]
set_option maxRecDepth 100000 in
theorem gbase (W : World) (hL : laidMetH Tryd.prog Rows.fnMailsRow.laid W) (hsh : W.ShapedOpen Tryd.prog) : GBase Tryd.prog spLaw.need W :=
  ⟨fun h => absurd (show "internal/strconv.uint64pow10" ∈ (["internal/bytealg.MaxLen"] : List String) from h) (by simp),
   fun _ => (let ⟨m, hm⟩ := Go.Proofs.cell_of_shapedOpen_int hsh (g := 0) (t := 3) (zero := #[.int .i64 0]) (of_decide_eq_true (by kernel_rfl)) (by kernel_rfl) rfl (by kernel_rfl) (by kernel_rfl) Tryd.underlying3; ⟨0, m, by kernel_rfl, hm⟩),
   fun h => absurd (show "strconv.ErrSyntax" ∈ (["internal/bytealg.MaxLen"] : List String) from h) (by simp),
   fun h => absurd (show "strconv.ErrRange" ∈ (["internal/bytealg.MaxLen"] : List String) from h) (by simp)⟩
set_option maxRecDepth 100000 in
theorem own : ownKnob Tryd.prog.godebug = none := by kernel_rfl
theorem lifted (os : Os) (started : os.Started) (H : Type) (enc : TypeId × Value → H) :
    ReturnsInHanded {} Tryd.checked os 4 .any (fun w args => (Rows.fnMailsSpec.pre enc Tryd.prog Tryd.f4 [] false w args ∧ laidMetH Tryd.prog Rows.fnMailsRow.laid w) ∧ sizedMet enc Tryd.prog Tryd.f4 (OpenSpec.ofChange Rows.fnMailsSpec) false w args) (Rows.fnMailsSpec.post enc Tryd.prog Tryd.f4 false true false false) :=
  laid_of_fn Rows.fnMailsRow.laid (C := Tryd.checked) (n := 2) own started (by kernel_rfl) Tryd.func4 rfl rfl
    (ChangeSpec.witness_shaped (enc := enc) (C := Tryd.checked) (os := os) (X := fun w _ => laidMetH Tryd.prog Rows.fnMailsRow.laid w) false (World.laidAll Tryd.prog os Rows.fnMailsRow.laid) #[.slice none 0 0] 8 (World.laidAll_os _ _ _)
      (World.shaped_of_ZipB (by kernel_rfl) (by kernel_rfl)) (by kernel_rfl) (by kernel_rfl) (by kernel_rfl)
      (by rw [MakeChecks.laidMetH_plain _ _ _ (by kernel_rfl)]; exact laidMet_laidAll _ (by kernel_rfl) (by kernel_rfl)))
    rfl rfl Tryd.underlying4 (by kernel_rfl) (by
      intro t ht
      simp only [Tryd.f4, List.mem_cons, List.not_mem_nil, or_false] at ht
      subst ht; exact ⟨by kernel_rfl, by kernel_rfl, of_decide_eq_true (by kernel_rfl)⟩)
    (by
      intro ds hd
      match ds, hd with
      | [d0], _ => rfl)
    gbase ok_laws_FnMails rfl (by
      intro xs hl hw
      match xs, hl with
      | [x0], _ =>
        obtain ⟨x0, rfl, c0, _, e0⟩ := wf_slice Tryd.underlying22 (hw 0 22 x0 rfl rfl)
        rw [Ty.bytes_5] at c0
        have c0 : x0.length ≤ 4611686018427387904 := by unfold reachBytes at c0; omega
        obtain ⟨x0, rfl, d0⟩ := list_enc (e := eU8) (R := fun _ => True) fun v hv => by
          obtain ⟨m, rfl⟩ := wf_u8 Tryd.underlying5 (e0 v hv)
          exact ⟨m, rfl, trivial⟩
        rw [List.length_map] at c0
        simp only [spLaw, Ty.cells_5, decL_u8s, Option.bind_some]
        exact if_pos c0)
theorem over : Rows.fnMailsRow.holds Tryd.pinned (OpenSpec.ofChange Rows.fnMailsSpec) :=
  OpenClaim.holds_of_wide 4 Tryd.f4 rfl rfl rfl rfl rfl rfl rfl ⟨rfl, rfl, rfl, rfl, rfl⟩ rfl rfl rfl rfl rfl (by kernel_rfl) Tryd.func4 (by kernel_rfl)
    (of_decide_eq_true (by kernel_rfl)) (by unfold Func.isWrapper; first | (rw [if_pos (by decide +kernel)]; kernel_rfl) | (rw [if_neg (by decide +kernel)]; exact ⟨rfl, rfl⟩))
    (fun os started H enc _ => lifted os started H enc)
theorem card : Rows.FnMailsCardSaid :=
  Claim7.holds_tied_plain_at .later [] [.data, .pinned] true (true, "e7993d0e1b1222d9438608ce3533ce37c95a14b99203bcfb80008266cb4146ef") false over (fun _ h => by cases h) (by kernel_rfl) (fun _ h => by cases h) fnMails_row_tie rfl ⟨rfl, rfl⟩ (by kernel_rfl) rfl
    (fun f fn hf hfn => by
      obtain rfl : f = 4 := Option.some.inj ((show Tryd.prog.funcNamed "loop.example/g00247/laws.FnMails" = some 4 by kernel_rfl).symm.trans hf) |>.symm
      obtain rfl : fn = Tryd.f4 := (Option.some.inj (Tryd.func4.symm.trans hfn)).symm
      exact ⟨by kernel_rfl, fun j t ht => by
        have hm : t ∈ Tryd.f4.params.toList := Array.mem_toList_iff.2 (Array.mem_of_getElem? ht)
        have hall : (Tryd.f4.params.toList.all fun u => !Tryd.prog.wantsStandIn u) = true := by kernel_rfl
        exact (show Tryd.prog.wantsStandIn t = false by simpa using List.all_eq_true.1 hall t hm)⟩)
    (by kernel_rfl)
end Go.Proofs.YtknagbmhmjcnkaaDoor.VMails
namespace Go.Proofs.YtknagbmhmjcnkaaDoor
theorem fnMails_holds : Rows.FnMailsCardSaid := VMails.card
#print axioms fnMails_holds
end Go.Proofs.YtknagbmhmjcnkaaDoor
