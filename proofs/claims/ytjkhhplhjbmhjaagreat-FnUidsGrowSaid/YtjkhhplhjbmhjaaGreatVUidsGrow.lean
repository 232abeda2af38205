/- The law FnUidsGrow: whatever is done to a drawn store, a box that stays never gives a number again, and its counts never go back. No condition. -/
import Derived.Test.YtjkhhplhjbmhjaaGreatVLGw
import Derived.Test.YtjkhhplhjbmhjaaGreatVmLaw
import Derived.Test.YtjkhhplhjbmhjaaGreatRows
import Derived.KernelRfl
namespace Go.Proofs.YtjkhhplhjbmhjaaGreat.VUidsGrow
open Go Go.VM Go.Proofs.YtjkhhplhjbmhjaaGreat.L
set_option maxRecDepth 100000
set_option maxHeartbeats 4000000
set_option linter.unusedSimpArgs false
set_option linter.unusedVariables false
theorem wf_u8 {P : Program} {n : Nat} {t : TypeId} {v : V} (hu : P.underlying t = some (.int .u8)) (h : WfV P (n + 1) t v) : ∃ m, v = .int .u8 m := by
  unfold WfV at h
  rw [hu] at h
  cases v <;> try exact h.elim
  obtain ⟨rfl, h1, h2⟩ := h
  exact ⟨_, rfl⟩
open Classical in
noncomputable def spBig : VM.Spec := { modes := [.rd], run := fun | [.lst 1 code'] => (decL dU8 code').bind fun code => if code.length ≤ 4611686018427387904 then some (.bool (decide (1048576 < code.length)), []) else none | _ => none, need := [] }
attribute [go_sem] spBig
theorem spBig_in {ins : List V} {r : V} {outs : List V} (h : spBig.run ins = some (r, outs)) : ∃ (code : (List Int)), ins = [.lst 1 ((code).map eU8)] ∧ (code.length ≤ 4611686018427387904) ∧ .bool (decide (1048576 < code.length)) = r ∧ outs = [] := by
  unfold spBig at h
  simp only at h
  split at h
  · rename_i code'
    simp only [Option.bind_eq_some_iff] at h
    obtain ⟨code, h_code, h⟩ := h
    split at h
    case isFalse => cases h
    rename_i hc
    simp only [Option.some.injEq, Prod.mk.injEq] at h
    obtain ⟨h1, h2⟩ := h
    have h_code := decL_some (fun _ _ h => dU8_some h) h_code
    subst h_code
    exact ⟨code, rfl, hc, h1, h2.symm⟩
  · cases h
def T_laws_big : Hints := ⟨lk [], lk [], lk [(0, [0]), (1, [2])], lk []⟩
noncomputable def Phi_laws_big : Tab := lk []
attribute [go_sem] T_laws_big Phi_laws_big
theorem phi_laws_big : ∀ f sp, Phi_laws_big f = some sp → FnOk Tryz.prog f sp ∧ ∀ n ∈ sp.need, n ∈ ([] : List String) := phi_nil
theorem ok_laws_big : FnOk Tryz.prog 5 spBig := by
  refine fn_ok (Φ := Phi_laws_big) (T := T_laws_big) phi_laws_big mixed Tryz.func5 rfl rfl rfl (by decide) ?_
  intro ins r outs hr hl
  clear hl
  have hs := spBig_in hr
  clear hr
  obtain ⟨code, rfl, hc, hr, rfl⟩ := hs
  simp only [spBig, Tryz.f5, Go.VM.initS]
  have e : decide ((1048576 : Int) < (code.length : Int)) = decide (1048576 < code.length) := by rw [Bool.eq_iff_iff]; simp; omega
  simp only [e, go_sem]
  repeat' ((first | apply qa | apply qb | apply qc | apply qd | apply qe | apply qf | apply qg | apply qh | apply qi | apply qj | apply qk) <;> intro hp <;> simp only [hp, e, go_sem])
  simp only [fin_mk, finV, resL, resV1, resIn, endA, listIn, Option.some_or, Option.none_or, oneOrTup, go_sem]
  rw [← hr]
open Classical in
noncomputable def spLaw : VM.Spec := { modes := [.rd], run := fun | [.lst 1 code'] => (decL dU8 code').bind fun code => if code.length ≤ 4611686018427387904 then some (.bool true, []) else none | _ => none, need := [] }
attribute [go_sem] spLaw
theorem spLaw_in {ins : List V} {r : V} {outs : List V} (h : spLaw.run ins = some (r, outs)) : ∃ (code : (List Int)), ins = [.lst 1 ((code).map eU8)] ∧ (code.length ≤ 4611686018427387904) ∧ .bool true = r ∧ outs = [] := by
  unfold spLaw at h
  simp only at h
  split at h
  · rename_i code'
    simp only [Option.bind_eq_some_iff] at h
    obtain ⟨code, h_code, h⟩ := h
    split at h
    case isFalse => cases h
    rename_i hc
    simp only [Option.some.injEq, Prod.mk.injEq] at h
    obtain ⟨h1, h2⟩ := h
    have h_code := decL_some (fun _ _ h => dU8_some h) h_code
    subst h_code
    exact ⟨code, rfl, hc, h1, h2.symm⟩
  · cases h
def T_laws_FnUidsGrow : Hints := ⟨lk [(9, [(0, 11), (1, 11), (2, 11), (4, 11), (5, 11), (6, 11), (7, 11)]), (13, [])], lk [(7, [3, 4, 5, 6, 7])], lk [(0, [0]), (1, [0, 11]), (2, [2]), (3, [0, 3]), (4, [3, 4]), (5, [3, 4, 5, 6]), (6, [3, 4, 5, 6, 7]), (7, [3, 4, 5, 6, 7, 26]), (9, [3, 4, 5, 6, 7, 8, 9]), (10, [3, 4, 5, 6, 7, 8, 41]), (11, [3, 4, 5, 6, 7, 48]), (12, [2]), (13, [3, 4, 5, 6, 7, 90]), (14, [2]), (8, [3, 4, 5, 6, 7]), (15, [2])], lk []⟩
noncomputable def Phi_laws_FnUidsGrow : Tab := lk [(5, spBig), (6, spDrawStore), (7, spDrawEdit), (8, spApply), (9, spBoxAt), (10, spStoreOk)]
attribute [go_sem] T_laws_FnUidsGrow Phi_laws_FnUidsGrow
theorem phi_laws_FnUidsGrow : ∀ f sp, Phi_laws_FnUidsGrow f = some sp → FnOk Tryz.prog f sp ∧ ∀ n ∈ sp.need, n ∈ ([] : List String) := phi_cons ok_laws_big (n0 rfl) (phi_cons ok_spec_DrawStore (n0 rfl) (phi_cons ok_spec_DrawEdit (n0 rfl) (phi_cons ok_impl_Apply (n0 rfl) (phi_cons ok_impl_BoxAt (n0 rfl) (phi_cons ok_impl_StoreOk (n0 rfl) (phi_nil))))))
theorem ok_laws_FnUidsGrow : FnOk Tryz.prog 3 spLaw := by
  refine fn_ok (Φ := Phi_laws_FnUidsGrow) (T := T_laws_FnUidsGrow) phi_laws_FnUidsGrow mixed Tryz.func3 rfl rfl rfl (by decide) ?_
  intro ins r outs hr hl
  clear hl
  have hs := spLaw_in hr
  clear hr
  obtain ⟨code, rfl, hc, hr, rfl⟩ := hs
  simp only [spLaw, Tryz.f3, Go.VM.initS]
  by_cases hb : 1048576 < code.length
  · simp only [hc, hb, go_sem]
    repeat' ((first | ((first | apply qa | apply qb | apply qc | apply qd | apply qe | apply qf | apply qg | apply qh | apply qi | apply qj | apply qk) <;> intro hp) | ((first | refine ql rfl rfl (by decide +kernel) ?_ | refine qm _ rfl rfl (by decide +kernel) ?_) <;> have hp := True.intro)) <;> simp only [hp, hc, hb, go_sem])
    simp only [fin_mk, finV, resL, resV1, resIn, endA, listIn, Option.some_or, Option.none_or, oneOrTup, go_sem]
    rw [← hr]
  have hc4 : code.length ≤ 4194304 := by omega
  have i0 := cur0_in hc4
  have iE := (editD_in i0).1.le
  obtain ⟨E, hE⟩ : ∃ E, (editD (cur0 code)).1 = E := ⟨_, rfl⟩
  rw [hE] at iE
  obtain ⟨hP, lS, _⟩ := storeL_in 24 0 i0 storeNew_ok storeNew_le
  obtain ⟨S, hS⟩ : ∃ S, drawStore code = S := ⟨_, rfl⟩
  have hS2 : (storeL 24 0 (cur0 code) storeNew).1 = S := hS
  rw [hS2] at hP lS
  obtain ⟨a1, a2, a3⟩ := apply_ok (e := E) hP
  have lN := applyS_le lS iE
  obtain ⟨N, hN⟩ : ∃ N, (applyS S E).1 = N := ⟨_, rfl⟩
  obtain ⟨Z, hZ⟩ : ∃ Z, (applyS S E).2 = Z := ⟨_, rfl⟩
  rw [hN] at a1 a2 a3 lN
  rw [hZ] at a3
  have a4 := store_p.2 a1
  have hl := hP.len
  simp only [hc, hb, hc4, hS, hE, iE, lS, hN, hZ, go_sem]
  repeat' ((first | ((first | apply qa | apply qb | apply qc | apply qd | apply qe | apply qf | apply qg | apply qh | apply qi | apply qj | apply qk) <;> intro hp) | ((first | refine ql rfl rfl (by decide +kernel) ?_ | refine qm _ rfl rfl (by decide +kernel) ?_) <;> have hp := True.intro)) <;> simp only [hp, hc, hb, hc4, hS, hE, iE, lS, hN, hZ, go_sem])
  refine loop_go (fun i : Nat => [(7, .int .i64 (i : Int))]) (fun _ => []) (fun i => S.Boxes.length - i) (fun i => i ≤ S.Boxes.length) 0 (Nat.zero_le _) rfl rfl ?_
  intro i hi ih
  rcases Nat.lt_or_ge i S.Boxes.length with h | h
  · have g1 : (i : Int) < S.Boxes.length := by omega
    have g2 : (0 : Int) ≤ i := by omega
    have g3 : S.Boxes[i]? = some S.Boxes[i] := List.getElem?_eq_getElem h
    have g5 := wrap_succ h (by omega)
    have ih' := ih (i + 1) h (by omega)
    clear ih
    rcases a3 _ (List.getElem_mem h) with ⟨c, hcm, g⟩ | ⟨k1, k2, k3⟩
    · obtain ⟨b1, b2⟩ := get_in a1.inc hcm
      rw [g.name] at b1 b2
      have v1 : (c.Valid != S.Boxes[i].Valid) = false := by rw [g.valid]; simp
      have v2 : ¬ c.Next < S.Boxes[i].Next := by have := g.next; omega
      have v3 : ¬ c.Mod < S.Boxes[i].Mod := by have := g.mod_; omega
      have v4 : ¬ c.Horizon < S.Boxes[i].Horizon := by have := g.hor; omega
      simp only [lN, g1, g2, g3, g5, b1, b2, v1, v2, v3, v4, go_sem]
      repeat' ((first | ((first | apply qa | apply qb | apply qc | apply qd | apply qe | apply qf | apply qg | apply qh | apply qi | apply qj | apply qk) <;> intro hp) | ((first | refine ql rfl rfl (by decide +kernel) ?_ | refine qm _ rfl rfl (by decide +kernel) ?_) <;> have hp := True.intro)) <;> simp only [hp, lN, g1, g2, g3, g5, b1, b2, v1, v2, v3, v4, go_sem])
      exact ih'
    · have v1 : (E.Kind != 2) = false := by rw [k1]; rfl
      have v2 : (Z != 0) = false := by rw [k2]; rfl
      simp only [lN, g1, g2, g3, g5, k3, v1, v2, go_sem]
      repeat' ((first | ((first | apply qa | apply qb | apply qc | apply qd | apply qe | apply qf | apply qg | apply qh | apply qi | apply qj | apply qk) <;> intro hp) | ((first | refine ql rfl rfl (by decide +kernel) ?_ | refine qm _ rfl rfl (by decide +kernel) ?_) <;> have hp := True.intro)) <;> simp only [hp, lN, g1, g2, g3, g5, k3, v1, v2, go_sem])
      exact ih'
  · have g1 : ¬ (i : Int) < S.Boxes.length := by omega
    clear ih
    simp only [lN, g1, a4, a2, go_sem]
    repeat' ((first | ((first | apply qa | apply qb | apply qc | apply qd | apply qe | apply qf | apply qg | apply qh | apply qi | apply qj | apply qk) <;> intro hp) | ((first | refine ql rfl rfl (by decide +kernel) ?_ | refine qm _ rfl rfl (by decide +kernel) ?_) <;> have hp := True.intro)) <;> simp only [hp, lN, g1, a4, a2, go_sem])
    all_goals (simp only [fin_mk, finV, resL, resV1, resIn, endA, listIn, Option.some_or, Option.none_or, oneOrTup, go_sem]; rw [← hr])
    all_goals first | rfl | skip
set_option maxRecDepth 100000 in
theorem own : ownKnob Tryz.prog.godebug = none := by kernel_rfl
theorem lifted (os : Os) (started : os.Started) (H : Type) (enc : TypeId × Value → H) :
    ReturnsInHanded {} Tryz.checked os 3 .any (Rows.fnUidsGrowSpec.pre6 enc Tryz.prog Tryz.f3 Rows.fnUidsGrowRow.domain false) (Rows.fnUidsGrowSpec.post enc Tryz.prog Tryz.f3 false true false false) :=
  law_of_fn (C := Tryz.checked) (n := 2) own started (by kernel_rfl) Tryz.func3 rfl rfl
    (ChangeSpec.witness6 (enc := enc) (C := Tryz.checked) false ⟨#[], #[.slice none 0 0], []⟩ 8 (by kernel_rfl) (by kernel_rfl) (by kernel_rfl) (by kernel_rfl))
    rfl rfl Tryz.underlying4 (by kernel_rfl) (by
      intro t ht
      simp only [Tryz.f3, List.mem_cons, List.not_mem_nil, or_false] at ht
      subst ht; exact ⟨by kernel_rfl, by kernel_rfl, of_decide_eq_true (by kernel_rfl)⟩)
    (by
      intro ds hd
      match ds, hd with
      | [d0], _ => rfl)
    rfl ok_laws_FnUidsGrow rfl (by
      intro xs hl hw
      match xs, hl with
      | [x0], _ =>
        obtain ⟨x0, rfl, c0, _, e0⟩ := wf_slice Tryz.underlying22 (hw 0 22 x0 rfl rfl)
        rw [Ty.bytes_5] at c0
        have c0 : x0.length ≤ 4611686018427387904 := by unfold reachBytes at c0; omega
        obtain ⟨x0, rfl, d0⟩ := list_enc (e := eU8) (R := fun _ => True) fun v hv => by
          obtain ⟨m, rfl⟩ := wf_u8 Tryz.underlying5 (e0 v hv)
          exact ⟨m, rfl, trivial⟩
        rw [List.length_map] at c0
        simp only [spLaw, Ty.cells_5, decL_u8s, Option.bind_some]
        exact if_pos c0)
theorem over : Rows.fnUidsGrowRow.holds Tryz.pinned (OpenSpec.ofChange Rows.fnUidsGrowSpec) :=
  OpenClaim.holds_of_wide 3 Tryz.f3 rfl rfl rfl rfl rfl rfl rfl ⟨rfl, rfl, rfl, rfl, rfl⟩ rfl rfl rfl rfl rfl (by kernel_rfl) Tryz.func3 (by kernel_rfl)
    (of_decide_eq_true (by kernel_rfl)) (by unfold Func.isWrapper; first | (rw [if_pos (by decide +kernel)]; kernel_rfl) | (rw [if_neg (by decide +kernel)]; exact ⟨rfl, rfl⟩))
    (fun os started H enc _ => lifted os started H enc)
end Go.Proofs.YtjkhhplhjbmhjaaGreat.VUidsGrow
namespace Go.Proofs.YtjkhhplhjbmhjaaGreat
theorem fnUidsGrow_holds : Rows.FnUidsGrowSaid := VUidsGrow.over
#print axioms fnUidsGrow_holds
end Go.Proofs.YtjkhhplhjbmhjaaGreat
