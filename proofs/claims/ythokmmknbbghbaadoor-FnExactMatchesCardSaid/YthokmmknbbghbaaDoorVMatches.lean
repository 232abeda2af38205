/- The law FnExactMatches: the two functions that it calls answer alike, so it answers true. No condition. -/
import Derived.Test.YthokmmknbbghbaaDoorVLB
import Derived.Test.YthokmmknbbghbaaDoorVLM
import Derived.Test.YthokmmknbbghbaaDoorVmDoor
import Derived.Test.YthokmmknbbghbaaDoorTie
import Derived.Test.YthokmmknbbghbaaDoorCards
import Derived.Test.YthokmmknbbghbaaDoorRows
import Derived.KernelRfl
namespace Go.Proofs.YthokmmknbbghbaaDoor.VMatches
open Go Go.VM Go.Proofs.YthokmmknbbghbaaDoor.L
set_option maxRecDepth 100000
set_option maxHeartbeats 4000000
set_option linter.unusedSimpArgs false
set_option linter.unusedVariables false
theorem wf_Mail {n : Nat} {v : V} (h : WfV Tryd.prog (n + 2) 65 v) : ∃ x : Mail, v = x.enc ∧ x.le 4611686018427387904 := by
  obtain ⟨l, rfl, hl, hf⟩ := wf_fields Tryd.underlying65 h
  match l, hl with
  | [f0, f1, f2, f3], _ =>
    obtain ⟨f0, rfl, _⟩ := wf_int Tryd.underlying3 (hf 0 _ f0 rfl rfl)
    obtain ⟨f1, rfl, _⟩ := wf_int Tryd.underlying3 (hf 1 _ f1 rfl rfl)
    obtain ⟨f2, rfl, _⟩ := wf_int Tryd.underlying3 (hf 2 _ f2 rfl rfl)
    obtain ⟨f3, rfl, c3⟩ := wf_string Tryd.underlying9 (hf 3 _ f3 rfl rfl)
    have c3 : f3.length ≤ 4611686018427387904 := by unfold reachBytes at c3; omega
    exact ⟨⟨f0, f1, f2, f3⟩, by simp [Mail.enc], c3⟩
theorem wf_Key {n : Nat} {v : V} (h : WfV Tryd.prog (n + 2) 67 v) : ∃ x : Key, v = x.enc ∧ x.le 4611686018427387904 := by
  obtain ⟨l, rfl, hl, hf⟩ := wf_fields Tryd.underlying67 h
  match l, hl with
  | [f0, f1, f2], _ =>
    obtain ⟨f0, rfl, _⟩ := wf_int Tryd.underlying3 (hf 0 _ f0 rfl rfl)
    obtain ⟨f1, rfl, _⟩ := wf_int Tryd.underlying3 (hf 1 _ f1 rfl rfl)
    obtain ⟨f2, rfl, c2⟩ := wf_string Tryd.underlying9 (hf 2 _ f2 rfl rfl)
    have c2 : f2.length ≤ 4611686018427387904 := by unfold reachBytes at c2; omega
    exact ⟨⟨f0, f1, f2⟩, by simp [Key.enc], c2⟩
open Classical in
noncomputable def spLaw : VM.Spec := { modes := [.rd, .rd], run := fun | [aM', aK'] => (Mail.dec aM').bind fun aM => (Key.dec aK').bind fun aK => if aM.le 4611686018427387904 ∧ aK.le 4611686018427387904 then some (.bool true, []) else none | _ => none, need := ["internal/bytealg.MaxLen"] }
theorem spLaw_in {ins : List V} {r : V} {outs : List V} (h : spLaw.run ins = some (r, outs)) : ∃ (aM : Mail) (aK : Key), ins = [Mail.enc aM, Key.enc aK] ∧ (aM.le 4611686018427387904 ∧ aK.le 4611686018427387904) ∧ .bool true = r ∧ outs = [] := by
  unfold spLaw at h
  simp only at h
  split at h
  · rename_i aM' aK'
    simp only [Option.bind_eq_some_iff] at h
    obtain ⟨aM, h_aM, aK, h_aK, h⟩ := h
    split at h
    case isFalse => cases h
    rename_i hc
    simp only [Option.some.injEq, Prod.mk.injEq] at h
    obtain ⟨h1, h2⟩ := h
    have h_aM := Mail.dec_some h_aM
    subst h_aM
    have h_aK := Key.dec_some h_aK
    subst h_aK
    exact ⟨aM, aK, rfl, hc, h1, h2.symm⟩
  · cases h
def T_laws_FnExactMatches : Hints := ⟨fun i => if i = 8 then some [(1, 2)] else if i = 9 then some [(1, 2)] else none, fun _ => none, fun i => if i = 0 then some [2, 3] else if i = 1 then some [2, 3, 5] else if i = 2 then some [2, 3, 5] else if i = 3 then some [2, 3, 5, 12] else if i = 4 then some [4] else if i = 5 then some [2, 3, 5] else if i = 6 then some [2, 3, 17] else if i = 7 then some [4] else if i = 8 then some [2, 3, 6] else if i = 9 then some [6, 7] else if i = 10 then some [30] else if i = 11 then some [4] else if i = 12 then some [4] else none⟩
noncomputable def Phi_laws_FnExactMatches : Tab := fun f => if f = 47 then some spSzMail else if f = 50 then some spToMail else if f = 48 then some spSzKey else if f = 51 then some spToKey else if f = 117 then some spEqKey else if f = 49 then some spMatches else if f = 52 then some spMatches else none
theorem phi_laws_FnExactMatches : ∀ f sp, Phi_laws_FnExactMatches f = some sp → FnOk Tryd.prog f sp ∧ ∀ n ∈ sp.need, n ∈ (["internal/bytealg.MaxLen"] : List String) := by
  intro f sp h
  unfold Phi_laws_FnExactMatches at h
  split at h
  · rename_i e; cases h; rw [e]; exact ⟨ok_laws_szMail, (fun n (h : n ∈ ([] : List String)) => (nomatch h))⟩
  split at h
  · rename_i e; cases h; rw [e]; exact ⟨ok_laws_toMail, (fun n (h : n ∈ ([] : List String)) => (nomatch h))⟩
  split at h
  · rename_i e; cases h; rw [e]; exact ⟨ok_laws_szKey, (fun n (h : n ∈ ([] : List String)) => (nomatch h))⟩
  split at h
  · rename_i e; cases h; rw [e]; exact ⟨ok_laws_toKey, (fun n (h : n ∈ ([] : List String)) => (nomatch h))⟩
  split at h
  · rename_i e; cases h; rw [e]; exact ⟨ok_laws_eqKey, (fun n (h : n ∈ ([] : List String)) => (nomatch h))⟩
  split at h
  · rename_i e; cases h; rw [e]; exact ⟨ok_spec_Matches, (fun n (h : n ∈ (["internal/bytealg.MaxLen"] : List String)) => by simp only [List.mem_cons, List.not_mem_nil, or_false] at h; rcases h with rfl <;> simp)⟩
  split at h
  · rename_i e; cases h; rw [e]; exact ⟨ok_impl_Matches, (fun n (h : n ∈ (["internal/bytealg.MaxLen"] : List String)) => by simp only [List.mem_cons, List.not_mem_nil, or_false] at h; rcases h with rfl <;> simp)⟩
  cases h
theorem ok_laws_FnExactMatches : FnOk Tryd.prog 11 spLaw := by
  refine fn_ok (Φ := Phi_laws_FnExactMatches) (T := T_laws_FnExactMatches) phi_laws_FnExactMatches mixed Tryd.func11 rfl rfl rfl (by decide) ?_
  intro ins r outs hr hl
  clear hl
  have hs := spLaw_in hr
  clear hr
  obtain ⟨aM, aK, rfl, hc, hr, rfl⟩ := hs
  simp only [spLaw, Tryd.f11, Go.VM.initS]
  obtain ⟨w0, w1⟩ := hc
  have z0 : Mail.sz aM (1048576) = -1 ∨ (0 ≤ Mail.sz aM (1048576) ∧ Mail.sz aM (1048576) ≤ 1048576 ∧ _) := Mail.sz_ok aM (1048576) 1048576 (by decide) (by decide)
  rcases z0 with z0 | ⟨z0, y0, x0⟩
  · simp only [w0, z0, Phi_laws_FnExactMatches, T_laws_FnExactMatches, spEqKey, spMatches, spSzKey, spSzMail, spToKey, spToMail, go_sem, reduceIte, reduceCtorEq, Nat.reduceEqDiff, Nat.reduceBEq, Nat.reduceBNe, Nat.reduceMul, Nat.reduceAdd, Nat.reduceLT, Nat.reduceLeDiff, Nat.reduceSub, Int.reduceLT, Int.reduceLE, Int.reduceEq, Int.reduceNeg, Int.reduceAdd, Int.reduceSub, Int.reduceToNat, Int.reduceBEq, Int.reduceBNe, Array.reduceGetElem?]
    repeat' ((first | refine after_iteT.2 ⟨fun hp => ?_, fun hp => ?_⟩ | refine after_iteF.2 ⟨fun hp => ?_, fun hp => ?_⟩ | refine after_ite.2 ⟨fun hp => ?_, fun hp => ?_⟩ | refine grd_not.2 ⟨fun hp => ?_, fun hp => ?_⟩ | refine grd_beq.2 ⟨fun hp => ?_, fun hp => ?_⟩ | refine grd_dec.2 ⟨fun hp => ?_, fun hp => ?_⟩ | refine grd_bool.2 ⟨fun hp => ?_, fun hp => ?_⟩ | refine condG_not.2 ⟨fun hp => ?_, fun hp => ?_⟩ | refine condG_beq.2 ⟨fun hp => ?_, fun hp => ?_⟩ | refine condG_dec.2 ⟨fun hp => ?_, fun hp => ?_⟩ | refine condG_bool.2 ⟨fun hp => ?_, fun hp => ?_⟩ | (refine (goes_draw0 rfl (by decide +kernel)).2 ?_; have hp := True.intro) | (refine (goes_drawM _ rfl (by decide +kernel)).2 ?_; have hp := True.intro)) <;> simp only [hp, w0, z0, Phi_laws_FnExactMatches, T_laws_FnExactMatches, spEqKey, spMatches, spSzKey, spSzMail, spToKey, spToMail, go_sem, reduceIte, reduceCtorEq, Nat.reduceEqDiff, Nat.reduceBEq, Nat.reduceBNe, Nat.reduceMul, Nat.reduceAdd, Nat.reduceLT, Nat.reduceLeDiff, Nat.reduceSub, Int.reduceLT, Int.reduceLE, Int.reduceEq, Int.reduceNeg, Int.reduceAdd, Int.reduceSub, Int.reduceToNat, Int.reduceBEq, Int.reduceBNe, Array.reduceGetElem?])
    simp only [fin_mk, finV, resL, resV1, allUse, oneOrTup, List.take, List.drop, List.take_succ_cons, List.take_zero, List.drop_succ_cons, List.drop_zero, Phi_laws_FnExactMatches, T_laws_FnExactMatches, spEqKey, spMatches, spSzKey, spSzMail, spToKey, spToMail, go_sem, reduceIte, reduceCtorEq, Nat.reduceEqDiff, Nat.reduceBEq, Nat.reduceBNe, Nat.reduceMul, Nat.reduceAdd, Nat.reduceLT, Nat.reduceLeDiff, Nat.reduceSub, Int.reduceLT, Int.reduceLE, Int.reduceEq, Int.reduceNeg, Int.reduceAdd, Int.reduceSub, Int.reduceToNat, Int.reduceBEq, Int.reduceBNe, Array.reduceGetElem?]
    rw [← hr]
  have n0 : ¬ (Mail.sz aM (1048576)) < 0 := Int.not_lt.2 z0
  have u0 : (Mail.sz aM (1048576)) ≤ 4611686018427387904 := by omega
  have v0 : (Mail.sz aM (1048576)) ≤ ((1048576 : Nat) : Int) := by omega
  have l0 : aM.le 4194304 := Mail.le_mono _ _ _ (by decide) x0
  have z1 : Key.sz aK (Mail.sz aM (1048576)) = -1 ∨ (0 ≤ Key.sz aK (Mail.sz aM (1048576)) ∧ Key.sz aK (Mail.sz aM (1048576)) ≤ Mail.sz aM (1048576) ∧ _) := Key.sz_ok aK (Mail.sz aM (1048576)) 1048576 z0 v0
  rcases z1 with z1 | ⟨z1, y1, x1⟩
  · simp only [w0, z0, n0, u0, l0, w1, z1, Phi_laws_FnExactMatches, T_laws_FnExactMatches, spEqKey, spMatches, spSzKey, spSzMail, spToKey, spToMail, go_sem, reduceIte, reduceCtorEq, Nat.reduceEqDiff, Nat.reduceBEq, Nat.reduceBNe, Nat.reduceMul, Nat.reduceAdd, Nat.reduceLT, Nat.reduceLeDiff, Nat.reduceSub, Int.reduceLT, Int.reduceLE, Int.reduceEq, Int.reduceNeg, Int.reduceAdd, Int.reduceSub, Int.reduceToNat, Int.reduceBEq, Int.reduceBNe, Array.reduceGetElem?]
    repeat' ((first | refine after_iteT.2 ⟨fun hp => ?_, fun hp => ?_⟩ | refine after_iteF.2 ⟨fun hp => ?_, fun hp => ?_⟩ | refine after_ite.2 ⟨fun hp => ?_, fun hp => ?_⟩ | refine grd_not.2 ⟨fun hp => ?_, fun hp => ?_⟩ | refine grd_beq.2 ⟨fun hp => ?_, fun hp => ?_⟩ | refine grd_dec.2 ⟨fun hp => ?_, fun hp => ?_⟩ | refine grd_bool.2 ⟨fun hp => ?_, fun hp => ?_⟩ | refine condG_not.2 ⟨fun hp => ?_, fun hp => ?_⟩ | refine condG_beq.2 ⟨fun hp => ?_, fun hp => ?_⟩ | refine condG_dec.2 ⟨fun hp => ?_, fun hp => ?_⟩ | refine condG_bool.2 ⟨fun hp => ?_, fun hp => ?_⟩ | (refine (goes_draw0 rfl (by decide +kernel)).2 ?_; have hp := True.intro) | (refine (goes_drawM _ rfl (by decide +kernel)).2 ?_; have hp := True.intro)) <;> simp only [hp, w0, z0, n0, u0, l0, w1, z1, Phi_laws_FnExactMatches, T_laws_FnExactMatches, spEqKey, spMatches, spSzKey, spSzMail, spToKey, spToMail, go_sem, reduceIte, reduceCtorEq, Nat.reduceEqDiff, Nat.reduceBEq, Nat.reduceBNe, Nat.reduceMul, Nat.reduceAdd, Nat.reduceLT, Nat.reduceLeDiff, Nat.reduceSub, Int.reduceLT, Int.reduceLE, Int.reduceEq, Int.reduceNeg, Int.reduceAdd, Int.reduceSub, Int.reduceToNat, Int.reduceBEq, Int.reduceBNe, Array.reduceGetElem?])
    simp only [fin_mk, finV, resL, resV1, allUse, oneOrTup, List.take, List.drop, List.take_succ_cons, List.take_zero, List.drop_succ_cons, List.drop_zero, Phi_laws_FnExactMatches, T_laws_FnExactMatches, spEqKey, spMatches, spSzKey, spSzMail, spToKey, spToMail, go_sem, reduceIte, reduceCtorEq, Nat.reduceEqDiff, Nat.reduceBEq, Nat.reduceBNe, Nat.reduceMul, Nat.reduceAdd, Nat.reduceLT, Nat.reduceLeDiff, Nat.reduceSub, Int.reduceLT, Int.reduceLE, Int.reduceEq, Int.reduceNeg, Int.reduceAdd, Int.reduceSub, Int.reduceToNat, Int.reduceBEq, Int.reduceBNe, Array.reduceGetElem?]
    rw [← hr]
  have n1 : ¬ (Key.sz aK (Mail.sz aM (1048576))) < 0 := Int.not_lt.2 z1
  have u1 : (Key.sz aK (Mail.sz aM (1048576))) ≤ 4611686018427387904 := by omega
  have v1 : (Key.sz aK (Mail.sz aM (1048576))) ≤ ((1048576 : Nat) : Int) := by omega
  have l1 : aK.le 4194304 := Key.le_mono _ _ _ (by decide) x1
  simp only [w0, z0, n0, u0, l0, w1, z1, n1, u1, l1, Phi_laws_FnExactMatches, T_laws_FnExactMatches, spEqKey, spMatches, spSzKey, spSzMail, spToKey, spToMail, go_sem, reduceIte, reduceCtorEq, Nat.reduceEqDiff, Nat.reduceBEq, Nat.reduceBNe, Nat.reduceMul, Nat.reduceAdd, Nat.reduceLT, Nat.reduceLeDiff, Nat.reduceSub, Int.reduceLT, Int.reduceLE, Int.reduceEq, Int.reduceNeg, Int.reduceAdd, Int.reduceSub, Int.reduceToNat, Int.reduceBEq, Int.reduceBNe, Array.reduceGetElem?]
  repeat' ((first | refine after_iteT.2 ⟨fun hp => ?_, fun hp => ?_⟩ | refine after_iteF.2 ⟨fun hp => ?_, fun hp => ?_⟩ | refine after_ite.2 ⟨fun hp => ?_, fun hp => ?_⟩ | refine grd_not.2 ⟨fun hp => ?_, fun hp => ?_⟩ | refine grd_beq.2 ⟨fun hp => ?_, fun hp => ?_⟩ | refine grd_dec.2 ⟨fun hp => ?_, fun hp => ?_⟩ | refine grd_bool.2 ⟨fun hp => ?_, fun hp => ?_⟩ | refine condG_not.2 ⟨fun hp => ?_, fun hp => ?_⟩ | refine condG_beq.2 ⟨fun hp => ?_, fun hp => ?_⟩ | refine condG_dec.2 ⟨fun hp => ?_, fun hp => ?_⟩ | refine condG_bool.2 ⟨fun hp => ?_, fun hp => ?_⟩ | (refine (goes_draw0 rfl (by decide +kernel)).2 ?_; have hp := True.intro) | (refine (goes_drawM _ rfl (by decide +kernel)).2 ?_; have hp := True.intro)) <;> simp only [hp, w0, z0, n0, u0, l0, w1, z1, n1, u1, l1, Phi_laws_FnExactMatches, T_laws_FnExactMatches, spEqKey, spMatches, spSzKey, spSzMail, spToKey, spToMail, go_sem, reduceIte, reduceCtorEq, Nat.reduceEqDiff, Nat.reduceBEq, Nat.reduceBNe, Nat.reduceMul, Nat.reduceAdd, Nat.reduceLT, Nat.reduceLeDiff, Nat.reduceSub, Int.reduceLT, Int.reduceLE, Int.reduceEq, Int.reduceNeg, Int.reduceAdd, Int.reduceSub, Int.reduceToNat, Int.reduceBEq, Int.reduceBNe, Array.reduceGetElem?])
  all_goals (simp only [fin_mk, finV, resL, resV1, allUse, oneOrTup, List.take, List.drop, List.take_succ_cons, List.take_zero, List.drop_succ_cons, List.drop_zero, Phi_laws_FnExactMatches, T_laws_FnExactMatches, spEqKey, spMatches, spSzKey, spSzMail, spToKey, spToMail, go_sem, reduceIte, reduceCtorEq, Nat.reduceEqDiff, Nat.reduceBEq, Nat.reduceBNe, Nat.reduceMul, Nat.reduceAdd, Nat.reduceLT, Nat.reduceLeDiff, Nat.reduceSub, Int.reduceLT, Int.reduceLE, Int.reduceEq, Int.reduceNeg, Int.reduceAdd, Int.reduceSub, Int.reduceToNat, Int.reduceBEq, Int.reduceBNe, Array.reduceGetElem?]; rw [← hr])
set_option maxRecDepth 100000 in
theorem gbase (W : World) (hL : laidMetH Tryd.prog Rows.fnExactMatchesRow.laid W) (hsh : W.ShapedOpen Tryd.prog) : GBase Tryd.prog spLaw.need W :=
  ⟨fun h => absurd (show "internal/strconv.uint64pow10" ∈ (["internal/bytealg.MaxLen"] : List String) from h) (by simp),
   fun _ => (let ⟨m, hm⟩ := Go.Proofs.cell_of_shapedOpen_int hsh (g := 0) (t := 3) (zero := #[.int .i64 0]) (of_decide_eq_true (by kernel_rfl)) (by kernel_rfl) rfl (by kernel_rfl) (by kernel_rfl) Tryd.underlying3; ⟨0, m, by kernel_rfl, hm⟩),
   fun h => absurd (show "strconv.ErrSyntax" ∈ (["internal/bytealg.MaxLen"] : List String) from h) (by simp),
   fun h => absurd (show "strconv.ErrRange" ∈ (["internal/bytealg.MaxLen"] : List String) from h) (by simp)⟩
set_option maxRecDepth 100000 in
theorem own : ownKnob Tryd.prog.godebug = none := by kernel_rfl
theorem lifted (os : Os) (started : os.Started) (H : Type) (enc : TypeId × Value → H) :
    ReturnsInHanded {} Tryd.checked os 11 .any (fun w args => (Rows.fnExactMatchesSpec.pre enc Tryd.prog Tryd.f11 [] false w args ∧ laidMetH Tryd.prog Rows.fnExactMatchesRow.laid w) ∧ sizedMet enc Tryd.prog Tryd.f11 (OpenSpec.ofChange Rows.fnExactMatchesSpec) false w args) (Rows.fnExactMatchesSpec.post enc Tryd.prog Tryd.f11 false true false false) :=
  laid_of_fn Rows.fnExactMatchesRow.laid (C := Tryd.checked) (n := 2) own started (by kernel_rfl) Tryd.func11 rfl rfl
    (ChangeSpec.witness_shaped (enc := enc) (C := Tryd.checked) (os := os) (X := fun w _ => laidMetH Tryd.prog Rows.fnExactMatchesRow.laid w) false (World.laidAll Tryd.prog os Rows.fnExactMatchesRow.laid) #[.agg #[.int .i64 0, .int .i64 0, .int .i64 0, .string ByteArray.empty], .agg #[.int .i64 0, .int .i64 0, .string ByteArray.empty]] 8 (World.laidAll_os _ _ _)
      (World.shaped_of_ZipB (by kernel_rfl) (by kernel_rfl)) (by kernel_rfl) (by kernel_rfl) (by kernel_rfl)
      (by rw [MakeChecks.laidMetH_plain _ _ _ (by kernel_rfl)]; exact laidMet_laidAll _ (by kernel_rfl) (by kernel_rfl)))
    rfl rfl Tryd.underlying4 (by kernel_rfl) (by
      intro t ht
      simp only [Tryd.f11, List.mem_cons, List.not_mem_nil, or_false] at ht
      rcases ht with rfl | rfl <;> exact ⟨by kernel_rfl, by kernel_rfl, of_decide_eq_true (by kernel_rfl)⟩)
    (by
      intro ds hd
      match ds, hd with
      | [d0, d1], _ => rfl)
    gbase ok_laws_FnExactMatches rfl (by
      intro xs hl hw
      match xs, hl with
      | [x0, x1], _ =>
        obtain ⟨x0, rfl, c0⟩ := wf_Mail (hw 0 65 x0 rfl rfl)
        obtain ⟨x1, rfl, c1⟩ := wf_Key (hw 1 67 x1 rfl rfl)
        simp only [spLaw, Mail.dec_enc, Key.dec_enc, Option.bind_some]
        exact if_pos ⟨c0, c1⟩)
theorem over : Rows.fnExactMatchesRow.holds Tryd.pinned (OpenSpec.ofChange Rows.fnExactMatchesSpec) :=
  OpenClaim.holds_of_wide 11 Tryd.f11 rfl rfl rfl rfl rfl rfl rfl ⟨rfl, rfl, rfl, rfl, rfl⟩ rfl rfl rfl rfl rfl (by kernel_rfl) Tryd.func11 (by kernel_rfl)
    (of_decide_eq_true (by kernel_rfl)) (by unfold Func.isWrapper; first | (rw [if_pos (by decide +kernel)]; kernel_rfl) | (rw [if_neg (by decide +kernel)]; exact ⟨rfl, rfl⟩))
    (fun os started H enc _ => lifted os started H enc)
theorem card : Rows.FnExactMatchesCardSaid :=
  Claim7.holds_tied_plain_at .later [] [.data, .pinned] true (true, "0d244fbf734e7a49ab39064b6cddcff7760c76f0cc8a9fbd24f31b4b9582e6bd") true over (fun _ h => by cases h) (by kernel_rfl) (fun _ h => by cases h) fnExactMatches_row_tie rfl ⟨rfl, rfl⟩ (by kernel_rfl) rfl
    (fun f fn hf hfn => by
      obtain rfl : f = 11 := Option.some.inj ((show Tryd.prog.funcNamed "loop.example/g00247/laws.FnExactMatches" = some 11 by kernel_rfl).symm.trans hf) |>.symm
      obtain rfl : fn = Tryd.f11 := (Option.some.inj (Tryd.func11.symm.trans hfn)).symm
      exact ⟨by kernel_rfl, fun j t ht => by
        have hm : t ∈ Tryd.f11.params.toList := Array.mem_toList_iff.2 (Array.mem_of_getElem? ht)
        have hall : (Tryd.f11.params.toList.all fun u => !Tryd.prog.wantsStandIn u) = true := by kernel_rfl
        exact (show Tryd.prog.wantsStandIn t = false by simpa using List.all_eq_true.1 hall t hm)⟩)
    (by kernel_rfl)
end Go.Proofs.YthokmmknbbghbaaDoor.VMatches
namespace Go.Proofs.YthokmmknbbghbaaDoor
theorem fnExactMatches_holds : Rows.FnExactMatchesCardSaid := VMatches.card
#print axioms fnExactMatches_holds
end Go.Proofs.YthokmmknbbghbaaDoor
