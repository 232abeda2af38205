/- The law FnExactApply: the two functions that it calls answer alike, so it answers true. No condition. -/
import Derived.Test.YtjkhhplhjbmhjaaGreatVLB
import Derived.Test.YtjkhhplhjbmhjaaGreatVLAp
import Derived.Test.YtjkhhplhjbmhjaaGreatRows
import Derived.KernelRfl
namespace Go.Proofs.YtjkhhplhjbmhjaaGreat.VApply
open Go Go.VM Go.Proofs.YtjkhhplhjbmhjaaGreat.L
set_option maxRecDepth 100000
set_option maxHeartbeats 4000000
set_option linter.unusedSimpArgs false
set_option linter.unusedVariables false
theorem wf_Mail {n : Nat} {v : V} (h : WfV Tryz.prog (n + 2) 152 v) : ∃ x : Mail, v = x.enc ∧ x.le 4611686018427387904 := by
  obtain ⟨l, rfl, hl, hf⟩ := wf_fields Tryz.underlying152 h
  match l, hl with
  | [f0, f1, f2, f3], _ =>
    obtain ⟨f0, rfl, _⟩ := wf_int Tryz.underlying3 (hf 0 _ f0 rfl rfl)
    obtain ⟨f1, rfl, _⟩ := wf_int Tryz.underlying3 (hf 1 _ f1 rfl rfl)
    obtain ⟨f2, rfl, _⟩ := wf_int Tryz.underlying3 (hf 2 _ f2 rfl rfl)
    obtain ⟨f3, rfl, c3⟩ := wf_string Tryz.underlying9 (hf 3 _ f3 rfl rfl)
    have c3 : f3.length ≤ 4611686018427387904 := by unfold reachBytes at c3; omega
    exact ⟨⟨f0, f1, f2, f3⟩, by simp [Mail.enc], c3⟩
theorem wf_Tomb {n : Nat} {v : V} (h : WfV Tryz.prog (n + 2) 155 v) : ∃ x : Tomb, v = x.enc ∧ x.le 4611686018427387904 := by
  obtain ⟨l, rfl, hl, hf⟩ := wf_fields Tryz.underlying155 h
  match l, hl with
  | [f0, f1], _ =>
    obtain ⟨f0, rfl, _⟩ := wf_int Tryz.underlying3 (hf 0 _ f0 rfl rfl)
    obtain ⟨f1, rfl, _⟩ := wf_int Tryz.underlying3 (hf 1 _ f1 rfl rfl)
    exact ⟨⟨f0, f1⟩, by simp [Tomb.enc], trivial⟩
theorem wf_Box {n : Nat} {v : V} (h : WfV Tryz.prog (n + 4) 114 v) : ∃ x : Box, v = x.enc ∧ x.le 4611686018427387904 := by
  obtain ⟨l, rfl, hl, hf⟩ := wf_fields Tryz.underlying114 h
  match l, hl with
  | [f0, f1, f2, f3, f4, f5, f6], _ =>
    obtain ⟨f0, rfl, c0⟩ := wf_string Tryz.underlying9 (hf 0 _ f0 rfl rfl)
    have c0 : f0.length ≤ 4611686018427387904 := by unfold reachBytes at c0; omega
    obtain ⟨f1, rfl, _⟩ := wf_int Tryz.underlying3 (hf 1 _ f1 rfl rfl)
    obtain ⟨f2, rfl, _⟩ := wf_int Tryz.underlying3 (hf 2 _ f2 rfl rfl)
    obtain ⟨f3, rfl, _⟩ := wf_int Tryz.underlying3 (hf 3 _ f3 rfl rfl)
    obtain ⟨f4, rfl, c4, _, e4⟩ := wf_slice Tryz.underlying111 (hf 4 _ f4 rfl rfl)
    rw [Ty.bytes_152] at c4
    have c4 : f4.length ≤ 4611686018427387904 := by unfold reachBytes at c4; omega
    obtain ⟨f4, rfl, d4⟩ := list_enc (e := Mail.enc) (R := Mail.le 4611686018427387904) fun v hv => wf_Mail (e4 v hv)
    rw [List.length_map] at c4
    obtain ⟨f5, rfl, c5, _, e5⟩ := wf_slice Tryz.underlying112 (hf 5 _ f5 rfl rfl)
    rw [Ty.bytes_155] at c5
    have c5 : f5.length ≤ 4611686018427387904 := by unfold reachBytes at c5; omega
    obtain ⟨f5, rfl, d5⟩ := list_enc (e := Tomb.enc) (R := Tomb.le 4611686018427387904) fun v hv => wf_Tomb (e5 v hv)
    rw [List.length_map] at c5
    obtain ⟨f6, rfl, _⟩ := wf_int Tryz.underlying3 (hf 6 _ f6 rfl rfl)
    exact ⟨⟨f0, f1, f2, f3, f4, f5, f6⟩, by simp [Box.enc, Ty.cells_152, Ty.cells_155], ⟨c0, ⟨c4, d4⟩, ⟨c5, d5⟩⟩⟩
theorem wf_Store {n : Nat} {v : V} (h : WfV Tryz.prog (n + 6) 43 v) : ∃ x : Store, v = x.enc ∧ x.le 4611686018427387904 := by
  obtain ⟨l, rfl, hl, hf⟩ := wf_fields Tryz.underlying43 h
  match l, hl with
  | [f0, f1], _ =>
    obtain ⟨f0, rfl, c0, _, e0⟩ := wf_slice Tryz.underlying41 (hf 0 _ f0 rfl rfl)
    rw [Ty.bytes_114] at c0
    have c0 : f0.length ≤ 4611686018427387904 := by unfold reachBytes at c0; omega
    obtain ⟨f0, rfl, d0⟩ := list_enc (e := Box.enc) (R := Box.le 4611686018427387904) fun v hv => wf_Box (e0 v hv)
    rw [List.length_map] at c0
    obtain ⟨f1, rfl, _⟩ := wf_int Tryz.underlying3 (hf 1 _ f1 rfl rfl)
    exact ⟨⟨f0, f1⟩, by simp [Store.enc, Ty.cells_114], ⟨c0, d0⟩⟩
theorem wf_Range {n : Nat} {v : V} (h : WfV Tryz.prog (n + 2) 118 v) : ∃ x : Range, v = x.enc ∧ x.le 4611686018427387904 := by
  obtain ⟨l, rfl, hl, hf⟩ := wf_fields Tryz.underlying118 h
  match l, hl with
  | [f0, f1], _ =>
    obtain ⟨f0, rfl, _⟩ := wf_int Tryz.underlying3 (hf 0 _ f0 rfl rfl)
    obtain ⟨f1, rfl, _⟩ := wf_int Tryz.underlying3 (hf 1 _ f1 rfl rfl)
    exact ⟨⟨f0, f1⟩, by simp [Range.enc], trivial⟩
theorem wf_Edit {n : Nat} {v : V} (h : WfV Tryz.prog (n + 4) 46 v) : ∃ x : Edit, v = x.enc ∧ x.le 4611686018427387904 := by
  obtain ⟨l, rfl, hl, hf⟩ := wf_fields Tryz.underlying46 h
  match l, hl with
  | [f0, f1, f2, f3, f4, f5, f6, f7], _ =>
    obtain ⟨f0, rfl, _⟩ := wf_int Tryz.underlying3 (hf 0 _ f0 rfl rfl)
    obtain ⟨f1, rfl, c1⟩ := wf_string Tryz.underlying9 (hf 1 _ f1 rfl rfl)
    have c1 : f1.length ≤ 4611686018427387904 := by unfold reachBytes at c1; omega
    obtain ⟨f2, rfl, c2⟩ := wf_string Tryz.underlying9 (hf 2 _ f2 rfl rfl)
    have c2 : f2.length ≤ 4611686018427387904 := by unfold reachBytes at c2; omega
    obtain ⟨f3, rfl, c3, _, e3⟩ := wf_slice Tryz.underlying44 (hf 3 _ f3 rfl rfl)
    rw [Ty.bytes_118] at c3
    have c3 : f3.length ≤ 4611686018427387904 := by unfold reachBytes at c3; omega
    obtain ⟨f3, rfl, d3⟩ := list_enc (e := Range.enc) (R := Range.le 4611686018427387904) fun v hv => wf_Range (e3 v hv)
    rw [List.length_map] at c3
    obtain ⟨f4, rfl, _⟩ := wf_int Tryz.underlying3 (hf 4 _ f4 rfl rfl)
    obtain ⟨f5, rfl, _⟩ := wf_int Tryz.underlying3 (hf 5 _ f5 rfl rfl)
    obtain ⟨f6, rfl, _⟩ := wf_int Tryz.underlying3 (hf 6 _ f6 rfl rfl)
    obtain ⟨f7, rfl, c7⟩ := wf_string Tryz.underlying9 (hf 7 _ f7 rfl rfl)
    have c7 : f7.length ≤ 4611686018427387904 := by unfold reachBytes at c7; omega
    exact ⟨⟨f0, f1, f2, f3, f4, f5, f6, f7⟩, by simp [Edit.enc, Ty.cells_118], ⟨c1, c2, ⟨c3, d3⟩, c7⟩⟩
open Classical in
noncomputable def spLaw : VM.Spec := { modes := [.rd, .rd], run := fun | [aS', aE'] => (Store.dec aS').bind fun aS => (Edit.dec aE').bind fun aE => if aS.le 4611686018427387904 ∧ aE.le 4611686018427387904 then some (.bool true, []) else none | _ => none, need := [] }
attribute [go_sem] spLaw
theorem spLaw_in {ins : List V} {r : V} {outs : List V} (h : spLaw.run ins = some (r, outs)) : ∃ (aS : Store) (aE : Edit), ins = [Store.enc aS, Edit.enc aE] ∧ (aS.le 4611686018427387904 ∧ aE.le 4611686018427387904) ∧ .bool true = r ∧ outs = [] := by
  unfold spLaw at h
  simp only at h
  split at h
  · rename_i aS' aE'
    simp only [Option.bind_eq_some_iff] at h
    obtain ⟨aS, h_aS, aE, h_aE, h⟩ := h
    split at h
    case isFalse => cases h
    rename_i hc
    simp only [Option.some.injEq, Prod.mk.injEq] at h
    obtain ⟨h1, h2⟩ := h
    have h_aS := Store.dec_some h_aS
    subst h_aS
    have h_aE := Edit.dec_some h_aE
    subst h_aE
    exact ⟨aS, aE, rfl, hc, h1, h2.symm⟩
  · cases h
def T_laws_FnExactApply : Hints := ⟨lk [(8, [(1, 2), (0, 8), (1, 8), (2, 8), (3, 8), (4, 8)]), (14, [(0, 2)]), (16, [(0, 2)]), (31, [(1, 2), (0, 8), (1, 8), (2, 8), (3, 8), (4, 8)])], lk [], lk [(0, [2, 3]), (1, [2, 3, 5]), (2, [2, 3, 5]), (3, [2, 3, 5, 21]), (4, [4]), (5, [2, 3, 5]), (6, [2, 3, 26]), (7, [4]), (8, [2, 3, 6, 7]), (9, [2, 3, 6, 7, 8]), (10, [2, 3, 6, 7, 8, 9]), (11, [2, 3, 6, 7, 8, 9, 10, 11]), (12, [2, 3, 6, 7, 8, 9, 10, 11, 53]), (13, [4]), (14, [2, 3, 6, 7, 8, 9, 10, 11, 58]), (15, [4]), (16, [2, 3, 6, 7, 8, 9, 10, 11, 63]), (17, [4]), (18, [2, 3, 6, 7, 8, 9, 10, 11, 12]), (19, [2, 3, 6, 7, 9, 10, 11, 12]), (20, [2, 3, 6, 7, 10, 11, 12]), (21, [2, 3, 6, 7, 10, 82]), (22, [4]), (23, [2, 3, 6, 7, 10, 13]), (24, [2, 3, 6, 7, 10, 13]), (25, [2, 3, 6, 7, 10, 13, 14]), (26, [2, 3, 6, 7, 10, 13, 14]), (27, [2, 3, 6, 7, 10, 13, 14, 90]), (28, [4]), (29, [2, 3, 6, 7, 10, 13, 93]), (30, [4]), (31, [6, 7, 10, 13, 15, 16]), (32, [10, 13, 110]), (33, [4]), (34, [10, 13, 14]), (35, [13, 14]), (36, [13, 14, 115]), (37, [4]), (38, [118]), (39, [4]), (40, [4])], lk []⟩
noncomputable def Phi_laws_FnExactApply : Tab := lk [(11, spSzStore), (14, spToStore), (16, spEqStore), (18, spMarkStore), (12, spSzEdit), (15, spToEdit), (17, spEqEdit), (19, spMarkEdit), (20, spHeldStore), (13, spApply), (8, spApply)]
attribute [go_sem] T_laws_FnExactApply Phi_laws_FnExactApply
theorem phi_laws_FnExactApply : ∀ f sp, Phi_laws_FnExactApply f = some sp → FnOk Tryz.prog f sp ∧ ∀ n ∈ sp.need, n ∈ ([] : List String) := phi_cons ok_laws_szStore (n0 rfl) (phi_cons ok_laws_toStore (n0 rfl) (phi_cons ok_laws_eqStore (n0 rfl) (phi_cons ok_laws_markStore (n0 rfl) (phi_cons ok_laws_szEdit (n0 rfl) (phi_cons ok_laws_toEdit (n0 rfl) (phi_cons ok_laws_eqEdit (n0 rfl) (phi_cons ok_laws_markEdit (n0 rfl) (phi_cons ok_laws_heldStore (n0 rfl) (phi_cons ok_spec_Apply (n0 rfl) (phi_cons ok_impl_Apply (n0 rfl) (phi_nil)))))))))))
theorem ok_laws_FnExactApply : FnOk Tryz.prog 4 spLaw := by
  refine fn_ok (Φ := Phi_laws_FnExactApply) (T := T_laws_FnExactApply) phi_laws_FnExactApply mixed Tryz.func4 rfl rfl rfl (by decide) ?_
  intro ins r outs hr hl
  clear hl
  have hs := spLaw_in hr
  clear hr
  obtain ⟨aS, aE, rfl, hc, hr, rfl⟩ := hs
  simp only [spLaw, Tryz.f4, Go.VM.initS]
  obtain ⟨w0, w1⟩ := hc
  have z0 : Store.sz aS (1048576) = -1 ∨ (0 ≤ Store.sz aS (1048576) ∧ Store.sz aS (1048576) ≤ 1048576 ∧ _) := Store.sz_ok aS (1048576) 1048576 (by decide) (by decide)
  rcases z0 with z0 | ⟨z0, y0, x0⟩
  · simp only [w0, z0, go_sem]
    repeat' ((first | ((first | apply qa | apply qb | apply qc | apply qd | apply qe | apply qf | apply qg | apply qh | apply qi | apply qj | apply qk) <;> intro hp) | ((first | refine ql rfl rfl (by decide +kernel) ?_ | refine qm _ rfl rfl (by decide +kernel) ?_) <;> have hp := True.intro)) <;> simp only [hp, w0, z0, go_sem])
    simp only [fin_mk, finV, resL, resV1, resIn, endA, listIn, Option.some_or, Option.none_or, oneOrTup, go_sem]
    rw [← hr]
  have n0 : ¬ (Store.sz aS (1048576)) < 0 := Int.not_lt.2 z0
  have u0 : (Store.sz aS (1048576)) ≤ 4611686018427387904 := by omega
  have v0 : (Store.sz aS (1048576)) ≤ ((1048576 : Nat) : Int) := by omega
  have l0 : aS.le 4194304 := Store.le_mono _ _ _ (by decide) x0
  have z1 : Edit.sz aE (Store.sz aS (1048576)) = -1 ∨ (0 ≤ Edit.sz aE (Store.sz aS (1048576)) ∧ Edit.sz aE (Store.sz aS (1048576)) ≤ Store.sz aS (1048576) ∧ _) := Edit.sz_ok aE (Store.sz aS (1048576)) 1048576 z0 v0
  rcases z1 with z1 | ⟨z1, y1, x1⟩
  · simp only [w0, z0, n0, u0, l0, w1, z1, go_sem]
    repeat' ((first | ((first | apply qa | apply qb | apply qc | apply qd | apply qe | apply qf | apply qg | apply qh | apply qi | apply qj | apply qk) <;> intro hp) | ((first | refine ql rfl rfl (by decide +kernel) ?_ | refine qm _ rfl rfl (by decide +kernel) ?_) <;> have hp := True.intro)) <;> simp only [hp, w0, z0, n0, u0, l0, w1, z1, go_sem])
    simp only [fin_mk, finV, resL, resV1, resIn, endA, listIn, Option.some_or, Option.none_or, oneOrTup, go_sem]
    rw [← hr]
  have n1 : ¬ (Edit.sz aE (Store.sz aS (1048576))) < 0 := Int.not_lt.2 z1
  have u1 : (Edit.sz aE (Store.sz aS (1048576))) ≤ 4611686018427387904 := by omega
  have v1 : (Edit.sz aE (Store.sz aS (1048576))) ≤ ((1048576 : Nat) : Int) := by omega
  have l1 : aE.le 4194304 := Edit.le_mono _ _ _ (by decide) x1
  have q0 : (0 : Int) ≤ 1 := by decide
  have r0 : ((applyS aS aE).1).le 4194304 := applyS_le l0 l1
  have r0_Boxes : ((applyS aS aE).1).Boxes.length ≤ 4194304 := r0.1
  have l0_Boxes : aS.Boxes.length ≤ 4194304 := l0.1
  have l1_Set : aE.Set.length ≤ 4194304 := l1.2.2.1.1
  have xL0 : leL Box.ln 4194304 (aS).Boxes := boxes_ln l0
  have xM0 : (aS).Boxes.length ≤ 4194304 := xL0.1
  have xe0 : (markL meBox (aS).Boxes (1)).2 ≤ 1 + 25165829 * (aS).Boxes.length := markBoxS_up xL0 _
  have xg0 : 1 ≤ (markL meBox (aS).Boxes (1)).2 := markBoxS_le _ _
  have xp0 : 0 ≤ (markL meBox (aS).Boxes (1)).2 := by omega
  have xn0 : ¬ (markL meBox (aS).Boxes (1)).2 < 0 := by omega
  have xb0 : (markL meBox (aS).Boxes (1)).2 ≤ 288230376151711744 := by omega
  have xc0 : (markL meBox (aS).Boxes (1)).2 ≤ 1152921504606846976 := by omega
  have xd0 : (markL meBox (aS).Boxes (1)).2 ≤ 144115188075855872 := by omega
  have xe1 : (msEdit (aE) ((markL meBox (aS).Boxes (1)).2)).2 = (markL meBox (aS).Boxes (1)).2 + (2 : Nat) * (aE).Set.length := msEdit_k _ _
  have xp1 : 0 ≤ (msEdit (aE) ((markL meBox (aS).Boxes (1)).2)).2 := by omega
  have xn1 : ¬ (msEdit (aE) ((markL meBox (aS).Boxes (1)).2)).2 < 0 := by omega
  have xb1 : (msEdit (aE) ((markL meBox (aS).Boxes (1)).2)).2 ≤ 288230376151711744 := by omega
  have xc1 : (msEdit (aE) ((markL meBox (aS).Boxes (1)).2)).2 ≤ 1152921504606846976 := by omega
  have xd1 : (msEdit (aE) ((markL meBox (aS).Boxes (1)).2)).2 ≤ 144115188075855872 := by omega
  have mL2 : leL Box.ln 4194304 ((applyS aS aE).1).Boxes := boxes_ln r0
  have mM2 : ((applyS aS aE).1).Boxes.length ≤ 4194304 := mL2.1
  have me2 : (markL meBox ((applyS aS aE).1).Boxes (1)).2 ≤ 1 + 25165829 * ((applyS aS aE).1).Boxes.length := markBoxS_up mL2 _
  have mg2 : 1 ≤ (markL meBox ((applyS aS aE).1).Boxes (1)).2 := markBoxS_le _ _
  have mH2 : leL Box.ln 4194304 (markL meBox ((applyS aS aE).1).Boxes (1)).1 := boxes_lnm mL2
  have mp2 : 0 ≤ (markL meBox ((applyS aS aE).1).Boxes (1)).2 := by omega
  have mn2 : ¬ (markL meBox ((applyS aS aE).1).Boxes (1)).2 < 0 := by omega
  have mb2 : (markL meBox ((applyS aS aE).1).Boxes (1)).2 ≤ 288230376151711744 := by omega
  have mc2 : (markL meBox ((applyS aS aE).1).Boxes (1)).2 ≤ 1152921504606846976 := by omega
  have md2 : (markL meBox ((applyS aS aE).1).Boxes (1)).2 ≤ 144115188075855872 := by omega
  simp only [w0, z0, n0, u0, l0, w1, z1, n1, u1, l1, r0, r0_Boxes, l0_Boxes, l1_Set, xL0, xp0, xn0, xb0, xc0, xd0, xp1, xn1, xb1, xc1, xd1, mL2, mH2, markL_again meBox_again, mp2, mn2, mb2, mc2, md2, q0, Option.getD_some, bne_self_eq_false, go_sem]
  repeat' ((first | ((first | apply qa | apply qb | apply qc | apply qd | apply qe | apply qf | apply qg | apply qh | apply qi | apply qj | apply qk) <;> intro hp) | ((first | refine ql rfl rfl (by decide +kernel) ?_ | refine qm _ rfl rfl (by decide +kernel) ?_) <;> have hp := True.intro)) <;> simp only [hp, w0, z0, n0, u0, l0, w1, z1, n1, u1, l1, r0, r0_Boxes, l0_Boxes, l1_Set, xL0, xp0, xn0, xb0, xc0, xd0, xp1, xn1, xb1, xc1, xd1, mL2, mH2, markL_again meBox_again, mp2, mn2, mb2, mc2, md2, q0, Option.getD_some, bne_self_eq_false, go_sem])
  all_goals (simp only [fin_mk, finV, resL, resV1, resIn, endA, listIn, Option.some_or, Option.none_or, oneOrTup, go_sem]; rw [← hr])
set_option maxRecDepth 100000 in
theorem own : ownKnob Tryz.prog.godebug = none := by kernel_rfl
theorem lifted (os : Os) (started : os.Started) (H : Type) (enc : TypeId × Value → H) :
    ReturnsInHanded {} Tryz.checked os 4 .any (Rows.fnExactApplySpec.pre6 enc Tryz.prog Tryz.f4 Rows.fnExactApplyRow.domain false) (Rows.fnExactApplySpec.post enc Tryz.prog Tryz.f4 false true false false) :=
  law_of_fn (C := Tryz.checked) (n := 6) own started (by kernel_rfl) Tryz.func4 rfl rfl
    (ChangeSpec.witness6 (enc := enc) (C := Tryz.checked) false ⟨#[], #[.agg #[.slice none 0 0, .int .i64 0], .agg #[.int .i64 0, .string ByteArray.empty, .string ByteArray.empty, .slice none 0 0, .int .i64 0, .int .i64 0, .int .i64 0, .string ByteArray.empty]], []⟩ 8 (by kernel_rfl) (by kernel_rfl) (by kernel_rfl) (by kernel_rfl))
    rfl rfl Tryz.underlying4 (by kernel_rfl) (by
      intro t ht
      simp only [Tryz.f4, List.mem_cons, List.not_mem_nil, or_false] at ht
      rcases ht with rfl | rfl <;> exact ⟨by kernel_rfl, by kernel_rfl, of_decide_eq_true (by kernel_rfl)⟩)
    (by
      intro ds hd
      match ds, hd with
      | [d0, d1], _ => rfl)
    rfl ok_laws_FnExactApply rfl (by
      intro xs hl hw
      match xs, hl with
      | [x0, x1], _ =>
        obtain ⟨x0, rfl, c0⟩ := wf_Store (hw 0 43 x0 rfl rfl)
        obtain ⟨x1, rfl, c1⟩ := wf_Edit (hw 1 46 x1 rfl rfl)
        simp only [spLaw, Store.dec_enc, Edit.dec_enc, Option.bind_some]
        exact if_pos ⟨c0, c1⟩)
theorem over : Rows.fnExactApplyRow.holds Tryz.pinned (OpenSpec.ofChange Rows.fnExactApplySpec) :=
  OpenClaim.holds_of_wide 4 Tryz.f4 rfl rfl rfl rfl rfl rfl rfl ⟨rfl, rfl, rfl, rfl, rfl⟩ rfl rfl rfl rfl rfl (by kernel_rfl) Tryz.func4 (by kernel_rfl)
    (of_decide_eq_true (by kernel_rfl)) (by unfold Func.isWrapper; first | (rw [if_pos (by decide +kernel)]; kernel_rfl) | (rw [if_neg (by decide +kernel)]; exact ⟨rfl, rfl⟩))
    (fun os started H enc _ => lifted os started H enc)
end Go.Proofs.YtjkhhplhjbmhjaaGreat.VApply
namespace Go.Proofs.YtjkhhplhjbmhjaaGreat
theorem fnExactApply_holds : Rows.FnExactApplySaid := VApply.over
#print axioms fnExactApply_holds
end Go.Proofs.YtjkhhplhjbmhjaaGreat
