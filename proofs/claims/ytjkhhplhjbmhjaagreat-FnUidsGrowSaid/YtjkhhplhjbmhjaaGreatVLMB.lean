/- Contracts of functions, and the facts that they need. No condition. -/
import Derived.Test.YtjkhhplhjbmhjaaGreatVLH

import Derived.Test.YtjkhhplhjbmhjaaGreatVLIns3


namespace Go.Proofs.YtjkhhplhjbmhjaaGreat.L
open Go Go.VM
set_option maxRecDepth 100000
set_option maxHeartbeats 4000000
set_option linter.unusedSimpArgs false
set_option linter.unusedVariables false
theorem boxes_le {s : Store} (h : s.le 4194304) : leL Box.le 4194304 s.Boxes := h
open Classical in
noncomputable def spCopyStore : VM.Spec := { modes := [.rd], run := fun | [s'] => (Store.dec s').bind fun s => if s.le 4194304 then some (Store.enc s, []) else none | _ => none, need := [] }
attribute [go_sem] spCopyStore
theorem spCopyStore_in {ins : List V} {r : V} {outs : List V} (h : spCopyStore.run ins = some (r, outs)) : ∃ (s : Store), ins = [Store.enc s] ∧ (s.le 4194304) ∧ Store.enc s = r ∧ outs = [] := by
  unfold spCopyStore at h
  simp only at h
  split at h
  · rename_i s'
    simp only [Option.bind_eq_some_iff] at h
    obtain ⟨s, h_s, h⟩ := h
    split at h
    case isFalse => cases h
    rename_i hc
    simp only [Option.some.injEq, Prod.mk.injEq] at h
    obtain ⟨h1, h2⟩ := h
    have h_s := Store.dec_some h_s
    subst h_s
    exact ⟨s, rfl, hc, h1, h2.symm⟩
  · cases h
def T_impl_copyStore : Hints := ⟨lk [(5, [(0, 3), (1, 3), (0, 4), (1, 4)])], lk [(3, [2, 3, 10, 11, 12])], lk [(0, [1, 2]), (1, [1, 2, 3]), (2, [2, 3, 10, 11, 12]), (3, [2, 3, 10, 11, 12, 13]), (4, [2, 3, 5, 10, 11, 12]), (5, [2, 3, 10, 11, 12]), (6, [2, 3, 10, 11, 12]), (7, [2])], lk []⟩
noncomputable def Phi_impl_copyStore : Tab := lk [(33, spCopyBox)]
attribute [go_sem] T_impl_copyStore Phi_impl_copyStore
theorem phi_impl_copyStore : ∀ f sp, Phi_impl_copyStore f = some sp → FnOk Tryz.prog f sp ∧ ∀ n ∈ sp.need, n ∈ ([] : List String) := phi_cons ok_impl_copyBox (n0 rfl) (phi_nil)
theorem ok_impl_copyStore : FnOk Tryz.prog 25 spCopyStore := by
  refine fn_ok (Φ := Phi_impl_copyStore) (T := T_impl_copyStore) phi_impl_copyStore mixed Tryz.func25 rfl rfl rfl (by decide) ?_
  intro ins r outs hr hl
  clear hl
  have hs := spCopyStore_in hr
  clear hr
  obtain ⟨s, rfl, hc, hr, rfl⟩ := hs
  simp only [spCopyStore, Tryz.f25, Go.VM.initS]
  obtain ⟨hl, hd⟩ := boxes_le hc
  rcases Nat.eq_zero_or_pos s.Boxes.length with h0 | h0
  · have e0 : s.Boxes = [] := List.eq_nil_of_length_eq_zero h0
    have g0 : ¬ (0 : Int) < s.Boxes.length := by omega
    simp only [go_sem]
    refine head_goes.2 ?_
    simp only [g0, go_sem]
    repeat' ((first | ((first | apply qa | apply qb | apply qc | apply qd | apply qe | apply qf | apply qg | apply qh | apply qi | apply qj | apply qk) <;> intro hp) | ((first | refine ql rfl rfl (by decide +kernel) ?_ | refine qm _ rfl rfl (by decide +kernel) ?_) <;> have hp := True.intro)) <;> simp only [hp, g0, go_sem])
    simp only [fin_mk, finV, resL, resV1, resIn, endA, listIn, Option.some_or, Option.none_or, oneOrTup, go_sem]
    rw [← hr]
    rw [Store.enc, e0]; rfl
  have i1 : (0 : Int) < s.Boxes.length := by omega
  have i3 : s.Boxes[0]? = some s.Boxes[0] := List.getElem?_eq_getElem h0
  have ix := hd _ (List.getElem_mem h0)
  simp only [go_sem]
  refine head_goes.2 ?_
  simp only [i1, i3, ix, go_sem]
  repeat' ((first | ((first | apply qa | apply qb | apply qc | apply qd | apply qe | apply qf | apply qg | apply qh | apply qi | apply qj | apply qk) <;> intro hp) | ((first | refine ql rfl rfl (by decide +kernel) ?_ | refine qm _ rfl rfl (by decide +kernel) ?_) <;> have hp := True.intro)) <;> simp only [hp, i1, i3, ix, go_sem])
  refine loop_go (fun i : Nat => [(12, .int .i64 (i : Int))]) (fun i => [(2, ⟨.arr, 7, (s.Boxes.take i).map Box.enc⟩)]) (fun i => s.Boxes.length - i) (fun i => 0 < i ∧ i ≤ s.Boxes.length) 1 ⟨by omega, h0⟩ rfl (by rw [List.take_add_one, i3]; rfl) ?_
  rintro i ⟨hp0, hi⟩ ih
  rcases Nat.lt_or_ge i s.Boxes.length with h | h
  · have g1 : (i : Int) < s.Boxes.length := by omega
    have g2 : (0 : Int) ≤ i := by omega
    have g3 : s.Boxes[i]? = some s.Boxes[i] := List.getElem?_eq_getElem h
    have g5 := wrap_succ h (by omega)
    have gx := hd _ (List.getElem_mem h)
    have gl : (s.Boxes.take i).length = i := by rw [List.length_take]; omega
    have g6 : (i + 1) * 96 ≤ 140737488355328 := by omega
    have g7 : i + 1 ≤ 9223372036854775807 := by omega
    have ih' := ih (i + 1) ⟨by omega, h⟩ (by omega)
    rw [take_succ_map _ h] at ih'
    simp only [g1, g2, g3, g5, gx, gl, g6, g7, go_sem]
    repeat' ((first | ((first | apply qa | apply qb | apply qc | apply qd | apply qe | apply qf | apply qg | apply qh | apply qi | apply qj | apply qk) <;> intro hp) | ((first | refine ql rfl rfl (by decide +kernel) ?_ | refine qm _ rfl rfl (by decide +kernel) ?_) <;> have hp := True.intro)) <;> simp only [hp, g1, g2, g3, g5, gx, gl, g6, g7, go_sem])
    exact ih'
  · have g1 : ¬ (i : Int) < s.Boxes.length := by omega
    simp only [g1, go_sem]
    repeat' ((first | ((first | apply qa | apply qb | apply qc | apply qd | apply qe | apply qf | apply qg | apply qh | apply qi | apply qj | apply qk) <;> intro hp) | ((first | refine ql rfl rfl (by decide +kernel) ?_ | refine qm _ rfl rfl (by decide +kernel) ?_) <;> have hp := True.intro)) <;> simp only [hp, g1, go_sem])
    simp only [fin_mk, finV, resL, resV1, resIn, endA, listIn, Option.some_or, Option.none_or, oneOrTup, go_sem]
    rw [← hr]
    rw [List.take_of_length_le h]; rfl
def T_spec_l09Copy : Hints := ⟨lk [(5, [(0, 7), (1, 7), (0, 8), (1, 8)])], lk [(3, [1, 2, 3, 4])], lk [(0, [1, 2]), (1, [1, 2, 3]), (2, [1, 2, 3, 4]), (3, [1, 2, 3, 4, 12]), (5, [1, 2, 3, 4]), (4, [1, 2, 3, 4]), (6, [2])], lk []⟩
noncomputable def Phi_spec_l09Copy : Tab := lk [(90, spCopyBox)]
attribute [go_sem] T_spec_l09Copy Phi_spec_l09Copy
theorem phi_spec_l09Copy : ∀ f sp, Phi_spec_l09Copy f = some sp → FnOk Tryz.prog f sp ∧ ∀ n ∈ sp.need, n ∈ ([] : List String) := phi_cons ok_spec_l08Copy (n0 rfl) (phi_nil)
theorem ok_spec_l09Copy : FnOk Tryz.prog 40 spCopyStore := by
  refine fn_ok (Φ := Phi_spec_l09Copy) (T := T_spec_l09Copy) phi_spec_l09Copy mixed Tryz.func40 rfl rfl rfl (by decide) ?_
  intro ins r outs hr hl
  clear hl
  have hs := spCopyStore_in hr
  clear hr
  obtain ⟨s, rfl, hc, hr, rfl⟩ := hs
  simp only [spCopyStore, Tryz.f40, Go.VM.initS]
  obtain ⟨hl, hd⟩ := boxes_le hc
  rcases Nat.eq_zero_or_pos s.Boxes.length with h0 | h0
  · have e0 : s.Boxes = [] := List.eq_nil_of_length_eq_zero h0
    have g0 : ¬ (0 : Int) < s.Boxes.length := by omega
    simp only [go_sem]
    refine head_goes.2 ?_
    simp only [g0, go_sem]
    repeat' ((first | ((first | apply qa | apply qb | apply qc | apply qd | apply qe | apply qf | apply qg | apply qh | apply qi | apply qj | apply qk) <;> intro hp) | ((first | refine ql rfl rfl (by decide +kernel) ?_ | refine qm _ rfl rfl (by decide +kernel) ?_) <;> have hp := True.intro)) <;> simp only [hp, g0, go_sem])
    simp only [fin_mk, finV, resL, resV1, resIn, endA, listIn, Option.some_or, Option.none_or, oneOrTup, go_sem]
    rw [← hr]
    rw [Store.enc, e0]; rfl
  have i1 : (0 : Int) < s.Boxes.length := by omega
  have i3 : s.Boxes[0]? = some s.Boxes[0] := List.getElem?_eq_getElem h0
  have ix := hd _ (List.getElem_mem h0)
  simp only [go_sem]
  refine head_goes.2 ?_
  simp only [i1, i3, ix, go_sem]
  repeat' ((first | ((first | apply qa | apply qb | apply qc | apply qd | apply qe | apply qf | apply qg | apply qh | apply qi | apply qj | apply qk) <;> intro hp) | ((first | refine ql rfl rfl (by decide +kernel) ?_ | refine qm _ rfl rfl (by decide +kernel) ?_) <;> have hp := True.intro)) <;> simp only [hp, i1, i3, ix, go_sem])
  refine loop_go (fun i : Nat => [(4, .int .i64 (i : Int))]) (fun i => [(3, ⟨.arr, 7, (s.Boxes.take i).map Box.enc⟩)]) (fun i => s.Boxes.length - i) (fun i => 0 < i ∧ i ≤ s.Boxes.length) 1 ⟨by omega, h0⟩ rfl (by rw [List.take_add_one, i3]; rfl) ?_
  rintro i ⟨hp0, hi⟩ ih
  rcases Nat.lt_or_ge i s.Boxes.length with h | h
  · have g1 : (i : Int) < s.Boxes.length := by omega
    have g2 : (0 : Int) ≤ i := by omega
    have g3 : s.Boxes[i]? = some s.Boxes[i] := List.getElem?_eq_getElem h
    have g5 := wrap_succ h (by omega)
    have gx := hd _ (List.getElem_mem h)
    have gl : (s.Boxes.take i).length = i := by rw [List.length_take]; omega
    have g6 : (i + 1) * 96 ≤ 140737488355328 := by omega
    have g7 : i + 1 ≤ 9223372036854775807 := by omega
    have ih' := ih (i + 1) ⟨by omega, h⟩ (by omega)
    rw [take_succ_map _ h] at ih'
    simp only [g1, g2, g3, g5, gx, gl, g6, g7, go_sem]
    repeat' ((first | ((first | apply qa | apply qb | apply qc | apply qd | apply qe | apply qf | apply qg | apply qh | apply qi | apply qj | apply qk) <;> intro hp) | ((first | refine ql rfl rfl (by decide +kernel) ?_ | refine qm _ rfl rfl (by decide +kernel) ?_) <;> have hp := True.intro)) <;> simp only [hp, g1, g2, g3, g5, gx, gl, g6, g7, go_sem])
    exact ih'
  · have g1 : ¬ (i : Int) < s.Boxes.length := by omega
    simp only [g1, go_sem]
    repeat' ((first | ((first | apply qa | apply qb | apply qc | apply qd | apply qe | apply qf | apply qg | apply qh | apply qi | apply qj | apply qk) <;> intro hp) | ((first | refine ql rfl rfl (by decide +kernel) ?_ | refine qm _ rfl rfl (by decide +kernel) ?_) <;> have hp := True.intro)) <;> simp only [hp, g1, go_sem])
    simp only [fin_mk, finV, resL, resV1, resIn, endA, listIn, Option.some_or, Option.none_or, oneOrTup, go_sem]
    rw [← hr]
    rw [List.take_of_length_le h]; rfl
def nameIx (s : List Box) (name : List UInt8) : Int := idxL (fun b : Box => b.Name == name) s
def boxGet (s : Store) (name : List UInt8) : Box := if 0 ≤ nameIx s.Boxes name then s.Boxes.getD (nameIx s.Boxes name).toNat boxZero else boxZero
def boxHas (s : Store) (name : List UInt8) : Bool := decide (0 ≤ nameIx s.Boxes name)
open Classical in
noncomputable def spSameName : VM.Spec := { modes := [.rd, .rd], run := fun | [b', .rptr (.str name)] => (Box.dec b').bind fun b => some (.bool ((b.Name == name)), []) | _ => none, need := [] }
attribute [go_sem] spSameName
theorem spSameName_in {ins : List V} {r : V} {outs : List V} (h : spSameName.run ins = some (r, outs)) : ∃ (b : Box) (name : (List UInt8)), ins = [Box.enc b, .rptr (.str name)] ∧ .bool ((b.Name == name)) = r ∧ outs = [] := by
  unfold spSameName at h
  simp only at h
  split at h
  · rename_i b' name
    simp only [Option.bind_eq_some_iff] at h
    obtain ⟨b, h_b, h⟩ := h
    simp only [Option.some.injEq, Prod.mk.injEq] at h
    obtain ⟨h1, h2⟩ := h
    have h_b := Box.dec_some h_b
    subst h_b
    exact ⟨b, name, rfl, h1, h2.symm⟩
  · cases h
def T_impl_boxAt_1 : Hints := ⟨lk [], lk [], lk [(0, [1, 2]), (1, [3])], lk []⟩
noncomputable def Phi_impl_boxAt_1 : Tab := lk []
attribute [go_sem] T_impl_boxAt_1 Phi_impl_boxAt_1
theorem phi_impl_boxAt_1 : ∀ f sp, Phi_impl_boxAt_1 f = some sp → FnOk Tryz.prog f sp ∧ ∀ n ∈ sp.need, n ∈ ([] : List String) := phi_nil
theorem ok_impl_boxAt_1 : FnOk Tryz.prog 78 spSameName := by
  refine fn_ok (Φ := Phi_impl_boxAt_1) (T := T_impl_boxAt_1) phi_impl_boxAt_1 mixed Tryz.func78 rfl rfl rfl (by decide) ?_
  intro ins r outs hr hl
  clear hl
  have hs := spSameName_in hr
  clear hr
  obtain ⟨b, name, rfl, hr, rfl⟩ := hs
  simp only [spSameName, Tryz.f78, Go.VM.initS]
  simp only [go_sem]
  repeat' ((first | apply qa | apply qb | apply qc | apply qd | apply qe | apply qf | apply qg | apply qh | apply qi | apply qj | apply qk) <;> intro hp <;> simp only [hp, go_sem])
  simp only [fin_mk, finV, resL, resV1, resIn, endA, listIn, Option.some_or, Option.none_or, oneOrTup, go_sem]
  rw [← hr]
open Classical in
noncomputable def spIdxName : VM.Spec := { modes := [.rd, .rd], run := fun | [.lst 7 l', .fn 78 [.rptr (.str name)]] => (decL Box.dec l').bind fun l => if l.length ≤ 4194304 then some (.int .i64 (nameIx l name), []) else none | _ => none, need := [] }
attribute [go_sem] spIdxName
theorem spIdxName_in {ins : List V} {r : V} {outs : List V} (h : spIdxName.run ins = some (r, outs)) : ∃ (l : (List Box)) (name : (List UInt8)), ins = [.lst 7 ((l).map Box.enc), .fn 78 [.rptr (.str name)]] ∧ (l.length ≤ 4194304) ∧ .int .i64 (nameIx l name) = r ∧ outs = [] := by
  unfold spIdxName at h
  simp only at h
  split at h
  · rename_i l' name
    simp only [Option.bind_eq_some_iff] at h
    obtain ⟨l, h_l, h⟩ := h
    split at h
    case isFalse => cases h
    rename_i hc
    simp only [Option.some.injEq, Prod.mk.injEq] at h
    obtain ⟨h1, h2⟩ := h
    have h_l := decL_some (fun _ _ h => Box.dec_some h) h_l
    subst h_l
    exact ⟨l, name, rfl, hc, h1, h2.symm⟩
  · cases h
def T_slices_IndexFunc_loop_example_g00247_impl_Box_loop_example_g00247_impl_Box : Hints := ⟨lk [], lk [(2, [0, 1, 7, 8])], lk [(0, [0, 1]), (1, [0, 1, 7, 8]), (2, [0, 1, 7, 8, 9]), (3, [0, 1, 5, 7, 8]), (4, [0, 1, 5, 7, 8, 16]), (5, [4]), (6, [0, 1, 7, 8]), (7, [4])], lk []⟩
noncomputable def Phi_slices_IndexFunc_loop_example_g00247_impl_Box_loop_example_g00247_impl_Box : Tab := lk [(78, spSameName)]
attribute [go_sem] T_slices_IndexFunc_loop_example_g00247_impl_Box_loop_example_g00247_impl_Box Phi_slices_IndexFunc_loop_example_g00247_impl_Box_loop_example_g00247_impl_Box
theorem phi_slices_IndexFunc_loop_example_g00247_impl_Box_loop_example_g00247_impl_Box : ∀ f sp, Phi_slices_IndexFunc_loop_example_g00247_impl_Box_loop_example_g00247_impl_Box f = some sp → FnOk Tryz.prog f sp ∧ ∀ n ∈ sp.need, n ∈ ([] : List String) := phi_cons ok_impl_boxAt_1 (n0 rfl) (phi_nil)
theorem ok_slices_IndexFunc_loop_example_g00247_impl_Box_loop_example_g00247_impl_Box : FnOk Tryz.prog 77 spIdxName := by
  refine fn_ok (Φ := Phi_slices_IndexFunc_loop_example_g00247_impl_Box_loop_example_g00247_impl_Box) (T := T_slices_IndexFunc_loop_example_g00247_impl_Box_loop_example_g00247_impl_Box) phi_slices_IndexFunc_loop_example_g00247_impl_Box_loop_example_g00247_impl_Box mixed Tryz.func77 rfl rfl rfl (by decide) ?_
  intro ins r outs hr hl
  clear hl
  have hs := spIdxName_in hr
  clear hr
  obtain ⟨l, name, rfl, hc, hr, rfl⟩ := hs
  simp only [spIdxName, Tryz.f77, Go.VM.initS]
  simp only [go_sem]
  refine loop_go (fun i : Nat => [(8, .int .i64 (i : Int))]) (fun _ => []) (fun i => l.length - i) (fun i => i ≤ l.length ∧ ∀ j (hj : j < i) (hj' : j < l.length), (l[j].Name == name) = false) 0 ⟨Nat.zero_le _, fun j hj => by omega⟩ rfl rfl ?_
  rintro i ⟨hi, ha⟩ ih
  rcases Nat.lt_or_ge i l.length with h | h
  · have g1 : (i : Int) < l.length := by omega
    have g2 : (0 : Int) ≤ i := by omega
    have g3 : l[i]? = some l[i] := List.getElem?_eq_getElem h
    have g5 := wrap_succ h (by omega)
    cases hq : (l[i].Name == name) with
    | true =>
      simp only [g1, g2, g3, g5, hq, go_sem]
      repeat' ((first | apply qa | apply qb | apply qc | apply qd | apply qe | apply qf | apply qg | apply qh | apply qi | apply qj | apply qk) <;> intro hp <;> simp only [hp, g1, g2, g3, g5, hq, go_sem])
      simp only [fin_mk, finV, resL, resV1, resIn, endA, listIn, Option.some_or, Option.none_or, oneOrTup, go_sem]
      rw [← hr]
      rw [nameIx, idxL_hit h (fun j hj => ha j hj (by omega)) hq]
    | false =>
      simp only [g1, g2, g3, g5, hq, go_sem]
      repeat' ((first | apply qa | apply qb | apply qc | apply qd | apply qe | apply qf | apply qg | apply qh | apply qi | apply qj | apply qk) <;> intro hp <;> simp only [hp, g1, g2, g3, g5, hq, go_sem])
      refine ih (i + 1) ⟨h, fun j hj hj' => ?_⟩ (by omega)
      rcases Nat.lt_or_ge j i with h1 | h1
      · exact ha j h1 hj'
      · have : j = i := by omega
        subst this; exact hq
  · have g1 : ¬ (i : Int) < l.length := by omega
    simp only [g1, go_sem]
    simp only [fin_mk, finV, resL, resV1, resIn, endA, listIn, Option.some_or, Option.none_or, oneOrTup, go_sem]
    rw [← hr]
    rw [nameIx, idxL_miss fun j hj => ha j (by omega) hj]
open Classical in
noncomputable def spBoxIx : VM.Spec := { modes := [.rd, .rd], run := fun | [s', .str name] => (Store.dec s').bind fun s => if s.le 4194304 then some (.int .i64 (nameIx s.Boxes name), []) else none | _ => none, need := [] }
attribute [go_sem] spBoxIx
theorem spBoxIx_in {ins : List V} {r : V} {outs : List V} (h : spBoxIx.run ins = some (r, outs)) : ∃ (s : Store) (name : (List UInt8)), ins = [Store.enc s, .str name] ∧ (s.le 4194304) ∧ .int .i64 (nameIx s.Boxes name) = r ∧ outs = [] := by
  unfold spBoxIx at h
  simp only at h
  split at h
  · rename_i s' name
    simp only [Option.bind_eq_some_iff] at h
    obtain ⟨s, h_s, h⟩ := h
    split at h
    case isFalse => cases h
    rename_i hc
    simp only [Option.some.injEq, Prod.mk.injEq] at h
    obtain ⟨h1, h2⟩ := h
    have h_s := Store.dec_some h_s
    subst h_s
    exact ⟨s, name, rfl, hc, h1, h2.symm⟩
  · cases h
def T_impl_boxAt : Hints := ⟨lk [], lk [], lk [(0, [2, 3]), (1, [4])], lk []⟩
noncomputable def Phi_impl_boxAt : Tab := lk [(77, spIdxName)]
attribute [go_sem] T_impl_boxAt Phi_impl_boxAt
theorem phi_impl_boxAt : ∀ f sp, Phi_impl_boxAt f = some sp → FnOk Tryz.prog f sp ∧ ∀ n ∈ sp.need, n ∈ ([] : List String) := phi_cons ok_slices_IndexFunc_loop_example_g00247_impl_Box_loop_example_g00247_impl_Box (n0 rfl) (phi_nil)
theorem ok_impl_boxAt : FnOk Tryz.prog 32 spBoxIx := by
  refine fn_ok (Φ := Phi_impl_boxAt) (T := T_impl_boxAt) phi_impl_boxAt mixed Tryz.func32 rfl rfl rfl (by decide) ?_
  intro ins r outs hr hl
  clear hl
  have hs := spBoxIx_in hr
  clear hr
  obtain ⟨s, name, rfl, hc, hr, rfl⟩ := hs
  simp only [spBoxIx, Tryz.f32, Go.VM.initS]
  have hl := (boxes_le hc).1
  simp only [hl, go_sem]
  repeat' ((first | apply qa | apply qb | apply qc | apply qd | apply qe | apply qf | apply qg | apply qh | apply qi | apply qj | apply qk) <;> intro hp <;> simp only [hp, hl, go_sem])
  simp only [fin_mk, finV, resL, resV1, resIn, endA, listIn, Option.some_or, Option.none_or, oneOrTup, go_sem]
  rw [← hr]
theorem nameIx_at {l : List Box} {name : List UInt8} (h : 0 ≤ nameIx l name) : ∃ hi : (nameIx l name).toNat < l.length, ((nameIx l name).toNat : Int) = nameIx l name ∧ (l[(nameIx l name).toNat].Name == name) = true := by
  have h1 := idxL_ge (fun b : Box => b.Name == name) l
  have h2 : (nameIx l name).toNat < l.length := by have := h1.2; unfold nameIx at h ⊢; omega
  refine ⟨h2, by omega, ?_⟩
  have key : ∀ (l : List Box), 0 ≤ nameIx l name → ∀ h2 : (nameIx l name).toNat < l.length, (l[(nameIx l name).toNat].Name == name) = true := by
    intro l
    induction l with
    | nil => intro h; simp [nameIx, idxL] at h
    | cons x l ih =>
      intro h0 h2
      by_cases hx : (x.Name == name) = true
      · have e : nameIx (x :: l) name = 0 := by simp [nameIx, idxL, hx]
        simp only [e, Int.toNat_zero, List.getElem_cons_zero]; exact hx
      · have hge := idxL_ge (fun b : Box => b.Name == name) l
        have e : nameIx (x :: l) name = if nameIx l name = -1 then -1 else nameIx l name + 1 := by
          rw [nameIx, idxL, if_neg hx]; rfl
        by_cases hm : nameIx l name = -1
        · rw [e, if_pos hm] at h0; omega
        · rw [if_neg hm] at e
          have h3 : 0 ≤ nameIx l name := by have := hge.1; unfold nameIx at hm ⊢; omega
          have h4 : (nameIx (x :: l) name).toNat = (nameIx l name).toNat + 1 := by rw [e]; omega
          simp only [h4, List.getElem_cons_succ]
          exact ih h3 (by have := hge.2; unfold nameIx at h3 ⊢; omega)
  exact key l h h2
theorem boxGet_at {s : Store} {name : List UInt8} (h : 0 ≤ nameIx s.Boxes name) (hi : (nameIx s.Boxes name).toNat < s.Boxes.length) : boxGet s name = s.Boxes[(nameIx s.Boxes name).toNat] := by
  rw [boxGet, if_pos h, getD_lt hi]
theorem boxZero_le : boxZero.le 4194304 := ⟨by simp [boxZero, leS], ⟨by simp [boxZero], by simp [boxZero]⟩, ⟨by simp [boxZero], by simp [boxZero]⟩⟩
theorem boxGet_le {s : Store} {name : List UInt8} (hc : s.le 4194304) : (boxGet s name).le 4194304 := by
  unfold boxGet
  split
  · rename_i h
    obtain ⟨hi, _, _⟩ := nameIx_at h
    rw [getD_lt hi]
    exact (boxes_le hc).2 _ (List.getElem_mem hi)
  · exact boxZero_le
open Classical in
noncomputable def spBoxAt : VM.Spec := { modes := [.rd, .rd], run := fun | [s', .str name] => (Store.dec s').bind fun s => if s.le 4194304 then some (.tup [Box.enc (boxGet s name), .bool (boxHas s name)], []) else none | _ => none, need := [] }
attribute [go_sem] spBoxAt
theorem spBoxAt_in {ins : List V} {r : V} {outs : List V} (h : spBoxAt.run ins = some (r, outs)) : ∃ (s : Store) (name : (List UInt8)), ins = [Store.enc s, .str name] ∧ (s.le 4194304) ∧ .tup [Box.enc (boxGet s name), .bool (boxHas s name)] = r ∧ outs = [] := by
  unfold spBoxAt at h
  simp only at h
  split at h
  · rename_i s' name
    simp only [Option.bind_eq_some_iff] at h
    obtain ⟨s, h_s, h⟩ := h
    split at h
    case isFalse => cases h
    rename_i hc
    simp only [Option.some.injEq, Prod.mk.injEq] at h
    obtain ⟨h1, h2⟩ := h
    have h_s := Store.dec_some h_s
    subst h_s
    exact ⟨s, name, rfl, hc, h1, h2.symm⟩
  · cases h
def T_impl_BoxAt : Hints := ⟨lk [], lk [], lk [(0, [1, 2, 4]), (1, [2, 4, 6]), (2, [2, 4, 6, 11]), (3, [4, 5]), (4, [4, 5])], lk []⟩
noncomputable def Phi_impl_BoxAt : Tab := lk [(32, spBoxIx), (33, spCopyBox)]
attribute [go_sem] T_impl_BoxAt Phi_impl_BoxAt
theorem phi_impl_BoxAt : ∀ f sp, Phi_impl_BoxAt f = some sp → FnOk Tryz.prog f sp ∧ ∀ n ∈ sp.need, n ∈ ([] : List String) := phi_cons ok_impl_boxAt (n0 rfl) (phi_cons ok_impl_copyBox (n0 rfl) (phi_nil))
theorem ok_impl_BoxAt : FnOk Tryz.prog 9 spBoxAt := by
  refine fn_ok (Φ := Phi_impl_BoxAt) (T := T_impl_BoxAt) phi_impl_BoxAt mixed Tryz.func9 rfl rfl rfl (by decide) ?_
  intro ins r outs hr hl
  clear hl
  have hs := spBoxAt_in hr
  clear hr
  obtain ⟨s, name, rfl, hc, hr, rfl⟩ := hs
  simp only [spBoxAt, Tryz.f9, Go.VM.initS]
  have hl := (boxes_le hc).1
  by_cases h : 0 ≤ nameIx s.Boxes name
  · obtain ⟨hi, h1, h2⟩ := nameIx_at h
    have g1 : ¬ nameIx s.Boxes name < 0 := by omega
    have g2 : nameIx s.Boxes name < s.Boxes.length := by omega
    have g3 : s.Boxes[(nameIx s.Boxes name).toNat]? = some s.Boxes[(nameIx s.Boxes name).toNat] := List.getElem?_eq_getElem hi
    have gx := (boxes_le hc).2 _ (List.getElem_mem hi)
    simp only [hc, hl, g1, g2, g3, gx, h, go_sem]
    repeat' ((first | apply qa | apply qb | apply qc | apply qd | apply qe | apply qf | apply qg | apply qh | apply qi | apply qj | apply qk) <;> intro hp <;> simp only [hp, hc, hl, g1, g2, g3, gx, h, go_sem])
    simp only [fin_mk, finV, resL, resV1, resIn, endA, listIn, Option.some_or, Option.none_or, oneOrTup, go_sem]
    rw [← hr]
    rw [boxGet_at h hi, boxHas]
    simp only [h, decide_true]; rfl
  · have g1 : nameIx s.Boxes name < 0 := by omega
    simp only [hc, hl, g1, go_sem]
    repeat' ((first | apply qa | apply qb | apply qc | apply qd | apply qe | apply qf | apply qg | apply qh | apply qi | apply qj | apply qk) <;> intro hp <;> simp only [hp, hc, hl, g1, go_sem])
    simp only [fin_mk, finV, resL, resV1, resIn, endA, listIn, Option.some_or, Option.none_or, oneOrTup, go_sem]
    rw [← hr]
    rw [boxGet, if_neg h, boxHas]
    simp only [h, decide_false]; rfl
def T_spec_BoxAt : Hints := ⟨lk [], lk [(2, [1, 2, 4, 6])], lk [(0, [1, 2, 4]), (1, [1, 2, 4, 6]), (2, [1, 2, 4, 6, 11]), (4, [1, 2, 4, 6, 21]), (5, [4, 5]), (3, [1, 2, 4, 6]), (6, [4, 5])], lk []⟩
noncomputable def Phi_spec_BoxAt : Tab := lk [(90, spCopyBox)]
attribute [go_sem] T_spec_BoxAt Phi_spec_BoxAt
theorem phi_spec_BoxAt : ∀ f sp, Phi_spec_BoxAt f = some sp → FnOk Tryz.prog f sp ∧ ∀ n ∈ sp.need, n ∈ ([] : List String) := phi_cons ok_spec_l08Copy (n0 rfl) (phi_nil)
theorem ok_spec_BoxAt : FnOk Tryz.prog 42 spBoxAt := by
  refine fn_ok (Φ := Phi_spec_BoxAt) (T := T_spec_BoxAt) phi_spec_BoxAt mixed Tryz.func42 rfl rfl rfl (by decide) ?_
  intro ins r outs hr hl
  clear hl
  have hs := spBoxAt_in hr
  clear hr
  obtain ⟨s, name, rfl, hc, hr, rfl⟩ := hs
  simp only [spBoxAt, Tryz.f42, Go.VM.initS]
  have hl := (boxes_le hc).1
  simp only [go_sem]
  refine loop_go (fun i : Nat => [(6, .int .i64 (i : Int))]) (fun _ => []) (fun i => s.Boxes.length - i) (fun i => i ≤ s.Boxes.length ∧ ∀ j (hj : j < i) (hj' : j < s.Boxes.length), (s.Boxes[j].Name == name) = false) 0 ⟨Nat.zero_le _, fun j hj => by omega⟩ rfl rfl ?_
  rintro i ⟨hi, ha⟩ ih
  rcases Nat.lt_or_ge i s.Boxes.length with h | h
  · have g1 : (i : Int) < s.Boxes.length := by omega
    have g2 : (0 : Int) ≤ i := by omega
    have g3 : s.Boxes[i]? = some s.Boxes[i] := List.getElem?_eq_getElem h
    have g5 := wrap_succ h (by omega)
    have gx := (boxes_le hc).2 _ (List.getElem_mem h)
    cases hq : (s.Boxes[i].Name == name) with
    | true =>
      simp only [g1, g2, g3, g5, gx, hq, go_sem]
      repeat' ((first | apply qa | apply qb | apply qc | apply qd | apply qe | apply qf | apply qg | apply qh | apply qi | apply qj | apply qk) <;> intro hp <;> simp only [hp, g1, g2, g3, g5, gx, hq, go_sem])
      simp only [fin_mk, finV, resL, resV1, resIn, endA, listIn, Option.some_or, Option.none_or, oneOrTup, go_sem]
      rw [← hr]
      have e : nameIx s.Boxes name = i := idxL_hit h (fun j hj => ha j hj (by omega)) hq
      have e0 : 0 ≤ nameIx s.Boxes name := by omega
      rw [boxHas, boxGet, if_pos e0]
      simp only [e0, decide_true, e, Int.toNat_natCast, getD_lt h]; rfl
    | false =>
      simp only [g1, g2, g3, g5, gx, hq, go_sem]
      repeat' ((first | apply qa | apply qb | apply qc | apply qd | apply qe | apply qf | apply qg | apply qh | apply qi | apply qj | apply qk) <;> intro hp <;> simp only [hp, g1, g2, g3, g5, gx, hq, go_sem])
      refine ih (i + 1) ⟨h, fun j hj hj' => ?_⟩ (by omega)
      rcases Nat.lt_or_ge j i with h1 | h1
      · exact ha j h1 hj'
      · have : j = i := by omega
        subst this; exact hq
  · have g1 : ¬ (i : Int) < s.Boxes.length := by omega
    simp only [g1, go_sem]
    simp only [fin_mk, finV, resL, resV1, resIn, endA, listIn, Option.some_or, Option.none_or, oneOrTup, go_sem]
    rw [← hr]
    have e : nameIx s.Boxes name = -1 := idxL_miss fun j hj => ha j (by omega) hj
    rw [boxHas, boxGet, e]; rfl
def putBox (s : Store) (b : Box) : Store := if 0 ≤ nameIx s.Boxes b.Name then { s with Boxes := s.Boxes.set (nameIx s.Boxes b.Name).toNat b } else s
theorem putBox_le {s : Store} {b : Box} (hs : s.le 4194304) (hb : b.le 4194304) : (putBox s b).le 4194304 := by
  unfold putBox
  split
  · show leL Box.le 4194304 _
    refine ⟨by rw [List.length_set]; exact (boxes_le hs).1, fun x hx => ?_⟩
    rcases List.mem_or_eq_of_mem_set hx with h | rfl
    · exact (boxes_le hs).2 x h
    · exact hb
  · exact hs
open Classical in
noncomputable def spPutBox : VM.Spec := { modes := [.rd, .rd], run := fun | [s', b'] => (Store.dec s').bind fun s => (Box.dec b').bind fun b => if s.le 4194304 ∧ b.le 4194304 then some (Store.enc (putBox s b), []) else none | _ => none, need := [] }
attribute [go_sem] spPutBox
theorem spPutBox_in {ins : List V} {r : V} {outs : List V} (h : spPutBox.run ins = some (r, outs)) : ∃ (s : Store) (b : Box), ins = [Store.enc s, Box.enc b] ∧ (s.le 4194304 ∧ b.le 4194304) ∧ Store.enc (putBox s b) = r ∧ outs = [] := by
  unfold spPutBox at h
  simp only at h
  split at h
  · rename_i s' b'
    simp only [Option.bind_eq_some_iff] at h
    obtain ⟨s, h_s, b, h_b, h⟩ := h
    split at h
    case isFalse => cases h
    rename_i hc
    simp only [Option.some.injEq, Prod.mk.injEq] at h
    obtain ⟨h1, h2⟩ := h
    have h_s := Store.dec_some h_s
    subst h_s
    have h_b := Box.dec_some h_b
    subst h_b
    exact ⟨s, b, rfl, hc, h1, h2.symm⟩
  · cases h
def T_impl_PutBox : Hints := ⟨lk [(4, [(0, 4), (1, 4)])], lk [], lk [(0, [2, 3, 4]), (1, [2, 3, 4, 5]), (2, [3, 4, 5, 6]), (3, [3, 4, 5, 6, 14]), (4, [4, 5]), (5, [4])], lk []⟩
noncomputable def Phi_impl_PutBox : Tab := lk [(25, spCopyStore), (32, spBoxIx), (33, spCopyBox)]
attribute [go_sem] T_impl_PutBox Phi_impl_PutBox
theorem phi_impl_PutBox : ∀ f sp, Phi_impl_PutBox f = some sp → FnOk Tryz.prog f sp ∧ ∀ n ∈ sp.need, n ∈ ([] : List String) := phi_cons ok_impl_copyStore (n0 rfl) (phi_cons ok_impl_boxAt (n0 rfl) (phi_cons ok_impl_copyBox (n0 rfl) (phi_nil)))
theorem ok_impl_PutBox : FnOk Tryz.prog 31 spPutBox := by
  refine fn_ok (Φ := Phi_impl_PutBox) (T := T_impl_PutBox) phi_impl_PutBox mixed Tryz.func31 rfl rfl rfl (by decide) ?_
  intro ins r outs hr hl
  clear hl
  have hs := spPutBox_in hr
  clear hr
  obtain ⟨s, b, rfl, hc, hr, rfl⟩ := hs
  simp only [spPutBox, Tryz.f31, Go.VM.initS]
  obtain ⟨hc, hb⟩ := hc
  have hl := (boxes_le hc).1
  by_cases h : 0 ≤ nameIx s.Boxes b.Name
  · obtain ⟨hi, h1, h2⟩ := nameIx_at h
    have g2 : nameIx s.Boxes b.Name < s.Boxes.length := by omega
    have g3 : s.Boxes[(nameIx s.Boxes b.Name).toNat]? = some s.Boxes[(nameIx s.Boxes b.Name).toNat] := List.getElem?_eq_getElem hi
    simp only [hc, hl, hb, h, g2, g3, go_sem]
    repeat' ((first | ((first | apply qa | apply qb | apply qc | apply qd | apply qe | apply qf | apply qg | apply qh | apply qi | apply qj | apply qk) <;> intro hp) | ((first | refine ql rfl rfl (by decide +kernel) ?_ | refine qm _ rfl rfl (by decide +kernel) ?_) <;> have hp := True.intro)) <;> simp only [hp, hc, hl, hb, h, g2, g3, go_sem])
    simp only [fin_mk, finV, resL, resV1, resIn, endA, listIn, Option.some_or, Option.none_or, oneOrTup, go_sem]
    rw [← hr]
    rw [putBox, if_pos h]
    simp only [Store.enc, List.map_set, Box.enc]
  · simp only [hc, hl, hb, h, go_sem]
    repeat' ((first | ((first | apply qa | apply qb | apply qc | apply qd | apply qe | apply qf | apply qg | apply qh | apply qi | apply qj | apply qk) <;> intro hp) | ((first | refine ql rfl rfl (by decide +kernel) ?_ | refine qm _ rfl rfl (by decide +kernel) ?_) <;> have hp := True.intro)) <;> simp only [hp, hc, hl, hb, h, go_sem])
    simp only [fin_mk, finV, resL, resV1, resIn, endA, listIn, Option.some_or, Option.none_or, oneOrTup, go_sem]
    rw [← hr]
    rw [putBox, if_neg h]; rfl
def T_spec_PutBox : Hints := ⟨lk [(5, []), (6, [(0, 4), (1, 4)])], lk [(3, [3, 4, 5, 6])], lk [(0, [2, 3, 4]), (1, [3, 4, 5]), (2, [3, 4, 5, 6]), (3, [3, 4, 5, 6, 13]), (5, [3, 4, 5, 6, 24]), (6, [4, 5]), (7, [4]), (4, [3, 4, 5, 6]), (8, [4])], lk []⟩
noncomputable def Phi_spec_PutBox : Tab := lk [(40, spCopyStore), (90, spCopyBox)]
attribute [go_sem] T_spec_PutBox Phi_spec_PutBox
theorem phi_spec_PutBox : ∀ f sp, Phi_spec_PutBox f = some sp → FnOk Tryz.prog f sp ∧ ∀ n ∈ sp.need, n ∈ ([] : List String) := phi_cons ok_spec_l09Copy (n0 rfl) (phi_cons ok_spec_l08Copy (n0 rfl) (phi_nil))
theorem ok_spec_PutBox : FnOk Tryz.prog 94 spPutBox := by
  refine fn_ok (Φ := Phi_spec_PutBox) (T := T_spec_PutBox) phi_spec_PutBox mixed Tryz.func94 rfl rfl rfl (by decide) ?_
  intro ins r outs hr hl
  clear hl
  have hs := spPutBox_in hr
  clear hr
  obtain ⟨s, b, rfl, hc, hr, rfl⟩ := hs
  simp only [spPutBox, Tryz.f94, Go.VM.initS]
  obtain ⟨hc, hb⟩ := hc
  have hl := (boxes_le hc).1
  simp only [hc, go_sem]
  refine loop_go (fun i : Nat => [(6, .int .i64 (i : Int))]) (fun _ => []) (fun i => s.Boxes.length - i) (fun i => i ≤ s.Boxes.length ∧ ∀ j (hj : j < i) (hj' : j < s.Boxes.length), (s.Boxes[j].Name == b.Name) = false) 0 ⟨Nat.zero_le _, fun j hj => by omega⟩ rfl rfl ?_
  rintro i ⟨hi, ha⟩ ih
  rcases Nat.lt_or_ge i s.Boxes.length with h | h
  · have g1 : (i : Int) < s.Boxes.length := by omega
    have g2 : (0 : Int) ≤ i := by omega
    have g3 : s.Boxes[i]? = some s.Boxes[i] := List.getElem?_eq_getElem h
    have g5 := wrap_succ h (by omega)
    cases hq : (s.Boxes[i].Name == b.Name) with
    | true =>
      simp only [g1, g2, g3, g5, hb, hq, h, go_sem]
      repeat' ((first | ((first | apply qa | apply qb | apply qc | apply qd | apply qe | apply qf | apply qg | apply qh | apply qi | apply qj | apply qk) <;> intro hp) | ((first | refine ql rfl rfl (by decide +kernel) ?_ | refine qm _ rfl rfl (by decide +kernel) ?_) <;> have hp := True.intro)) <;> simp only [hp, g1, g2, g3, g5, hb, hq, h, go_sem])
      simp only [fin_mk, finV, resL, resV1, resIn, endA, listIn, Option.some_or, Option.none_or, oneOrTup, go_sem]
      rw [← hr]
      have e : nameIx s.Boxes b.Name = i := idxL_hit h (fun j hj => ha j hj (by omega)) hq
      have e0 : 0 ≤ nameIx s.Boxes b.Name := by omega
      rw [putBox, if_pos e0]
      simp only [Store.enc, List.map_set, Box.enc, e, Int.toNat_natCast]
    | false =>
      simp only [g1, g2, g3, g5, hb, hq, go_sem]
      repeat' ((first | ((first | apply qa | apply qb | apply qc | apply qd | apply qe | apply qf | apply qg | apply qh | apply qi | apply qj | apply qk) <;> intro hp) | ((first | refine ql rfl rfl (by decide +kernel) ?_ | refine qm _ rfl rfl (by decide +kernel) ?_) <;> have hp := True.intro)) <;> simp only [hp, g1, g2, g3, g5, hb, hq, go_sem])
      refine ih (i + 1) ⟨h, fun j hj hj' => ?_⟩ (by omega)
      rcases Nat.lt_or_ge j i with h1 | h1
      · exact ha j h1 hj'
      · have : j = i := by omega
        subst this; exact hq
  · have g1 : ¬ (i : Int) < s.Boxes.length := by omega
    simp only [g1, go_sem]
    repeat' ((first | ((first | apply qa | apply qb | apply qc | apply qd | apply qe | apply qf | apply qg | apply qh | apply qi | apply qj | apply qk) <;> intro hp) | ((first | refine ql rfl rfl (by decide +kernel) ?_ | refine qm _ rfl rfl (by decide +kernel) ?_) <;> have hp := True.intro)) <;> simp only [hp, g1, go_sem])
    simp only [fin_mk, finV, resL, resV1, resIn, endA, listIn, Option.some_or, Option.none_or, oneOrTup, go_sem]
    rw [← hr]
    have e : nameIx s.Boxes b.Name = -1 := idxL_miss fun j hj => ha j (by omega) hj
    rw [putBox, e]; rfl
end Go.Proofs.YtjkhhplhjbmhjaaGreat.L

namespace Go.Proofs.YtjkhhplhjbmhjaaGreat.L
open Go Go.VM
set_option maxRecDepth 100000
set_option maxHeartbeats 4000000
set_option linter.unusedSimpArgs false
set_option linter.unusedVariables false
theorem storeOk_inc {s : Store} (h : storeOk s = true) : Inc s.Boxes ∧ 1 ≤ s.Boxes.length ∧ s.Boxes.length ≤ 4 := by
  unfold storeOk at h
  rw [Bool.and_eq_true, Bool.and_eq_true] at h
  obtain ⟨h1, h2, h3⟩ := h
  refine ⟨fun i hi => ?_, ?_⟩
  · have h4 := allN_get h1 hi
    simp only [storeAtOk, Bool.and_eq_true] at h4
    have h5 := h4.1.2
    have e : (i + 1 == 0) = false := by simp
    rw [e, Bool.false_or, Nat.add_sub_cancel, getD_lt (show i < s.Boxes.length by omega), getD_lt hi] at h5
    exact h5
  · simp only [within, Bool.and_eq_true, decide_eq_true_eq] at h2
    omega
def inboxN : List UInt8 := [105, 110, 98, 111, 120]
def dropBox (s : Store) (name : List UInt8) : Store × Int :=
  if storeOk s = false ∨ (name == inboxN) = true then (s, 4)
  else if nameIx s.Boxes name < 0 then (s, 1)
  else if s.Boxes.length = 1 then (s, 4)
  else ({ s with Boxes := s.Boxes.take (nameIx s.Boxes name).toNat ++ s.Boxes.drop ((nameIx s.Boxes name).toNat + 1) }, 0)
theorem dropBox_le {s : Store} {name : List UInt8} (h : s.le 4194304) : (dropBox s name).1.le 4194304 := by
  unfold dropBox
  repeat' split
  all_goals first | exact h | skip
  refine ⟨by have := h.1; simp only [List.length_append, List.length_take, List.length_drop]; omega, fun x hx => ?_⟩
  rcases List.mem_append.1 hx with hx | hx
  · exact h.2 x (List.mem_of_mem_take hx)
  · exact h.2 x (List.mem_of_mem_drop hx)
theorem drop_filter {s : Store} {name : List UInt8} (h : storeOk s = true) (h0 : 0 ≤ nameIx s.Boxes name) :
    s.Boxes.filter (fun b => !(b.Name == name)) = s.Boxes.take (nameIx s.Boxes name).toNat ++ s.Boxes.drop ((nameIx s.Boxes name).toNat + 1) := by
  obtain ⟨hi, _, h2⟩ := nameIx_at h0
  exact filter_del (storeOk_inc h).1 hi (beq_iff_eq.1 h2)
theorem drop_filter_len {s : Store} {name : List UInt8} (h : storeOk s = true) (h0 : 0 ≤ nameIx s.Boxes name) :
    (s.Boxes.filter (fun b => !(b.Name == name))).length = s.Boxes.length - 1 := by
  obtain ⟨hi, _, _⟩ := nameIx_at h0
  rw [drop_filter h h0, List.length_append, List.length_take, List.length_drop]
  omega
open Classical in
noncomputable def spDropBox : VM.Spec := { modes := [.rd, .rd], run := fun | [s', .str name] => (Store.dec s').bind fun s => if s.le 4194304 then some (.tup [Store.enc ((dropBox s name).1), .int .i64 ((dropBox s name).2)], []) else none | _ => none, need := [] }
attribute [go_sem] spDropBox
theorem spDropBox_in {ins : List V} {r : V} {outs : List V} (h : spDropBox.run ins = some (r, outs)) : ∃ (s : Store) (name : (List UInt8)), ins = [Store.enc s, .str name] ∧ (s.le 4194304) ∧ .tup [Store.enc ((dropBox s name).1), .int .i64 ((dropBox s name).2)] = r ∧ outs = [] := by
  unfold spDropBox at h
  simp only at h
  split at h
  · rename_i s' name
    simp only [Option.bind_eq_some_iff] at h
    obtain ⟨s, h_s, h⟩ := h
    split at h
    case isFalse => cases h
    rename_i hc
    simp only [Option.some.injEq, Prod.mk.injEq] at h
    obtain ⟨h1, h2⟩ := h
    have h_s := Store.dec_some h_s
    subst h_s
    exact ⟨s, name, rfl, hc, h1, h2.symm⟩
  · cases h
def T_impl_DropBox : Hints := ⟨lk [], lk [], lk [(0, [1, 2, 4]), (1, [1, 2, 4, 6]), (2, [1, 2, 4, 6, 7]), (3, [4, 6, 7, 13]), (4, [4, 5]), (5, [4, 6, 7, 32]), (6, [4, 5]), (7, [4, 6]), (8, [4, 5])], lk []⟩
noncomputable def Phi_impl_DropBox : Tab := lk [(25, spCopyStore), (32, spBoxIx), (10, spStoreOk), (69, spDelBox)]
attribute [go_sem] T_impl_DropBox Phi_impl_DropBox
theorem phi_impl_DropBox : ∀ f sp, Phi_impl_DropBox f = some sp → FnOk Tryz.prog f sp ∧ ∀ n ∈ sp.need, n ∈ ([] : List String) := phi_cons ok_impl_copyStore (n0 rfl) (phi_cons ok_impl_boxAt (n0 rfl) (phi_cons ok_impl_StoreOk (n0 rfl) (phi_cons ok_slices_Delete_loop_example_g00247_impl_Box_loop_example_g00247_impl_Box (n0 rfl) (phi_nil))))
theorem ok_impl_DropBox : FnOk Tryz.prog 27 spDropBox := by
  refine fn_ok (Φ := Phi_impl_DropBox) (T := T_impl_DropBox) phi_impl_DropBox mixed Tryz.func27 rfl rfl rfl (by decide) ?_
  intro ins r outs hr hl
  clear hl
  have hs := spDropBox_in hr
  clear hr
  obtain ⟨s, name, rfl, hc, hr, rfl⟩ := hs
  simp only [spDropBox, Tryz.f27, Go.VM.initS]
  have hl := (boxes_le hc).1
  cases k1 : storeOk s with
  | false =>
    simp only [hc, hl, k1, go_sem]
    repeat' ((first | apply qa | apply qb | apply qc | apply qd | apply qe | apply qf | apply qg | apply qh | apply qi | apply qj | apply qk) <;> intro hp <;> simp only [hp, hc, hl, k1, go_sem])
    simp only [fin_mk, finV, resL, resV1, resIn, endA, listIn, Option.some_or, Option.none_or, oneOrTup, go_sem]
    rw [← hr]
    rw [dropBox, if_pos (.inl k1)]; rfl
  | true =>
  obtain ⟨_, hb1, hb4⟩ := storeOk_inc k1
  cases k2 : (name == inboxN) with
  | true =>
    have k2' : (name == [105, 110, 98, 111, 120]) = true := k2
    simp only [hc, hl, k1, k2', go_sem]
    repeat' ((first | apply qa | apply qb | apply qc | apply qd | apply qe | apply qf | apply qg | apply qh | apply qi | apply qj | apply qk) <;> intro hp <;> simp only [hp, hc, hl, k1, k2', go_sem])
    simp only [fin_mk, finV, resL, resV1, resIn, endA, listIn, Option.some_or, Option.none_or, oneOrTup, go_sem]
    rw [← hr]
    rw [dropBox, if_pos (.inr k2)]; rfl
  | false =>
  have k2' : (name == [105, 110, 98, 111, 120]) = false := k2
  have nk : ¬ (storeOk s = false ∨ (name == inboxN) = true) := by rw [k1, k2]; simp
  by_cases h : 0 ≤ nameIx s.Boxes name
  · obtain ⟨hi, h1, h2⟩ := nameIx_at h
    obtain ⟨k, hk⟩ : ∃ k : Nat, nameIx s.Boxes name = k := ⟨_, h1.symm⟩
    rw [hk, Int.toNat_natCast] at hi
    have g1 : ¬ (k : Int) < 0 := by omega
    have g2 : (0 : Int) ≤ k := by omega
    by_cases h4 : s.Boxes.length = 1
    · have k4 : ((s.Boxes.length : Int) == 1) = true := by rw [h4]; rfl
      simp only [hc, hl, k1, k2', hk, g1, g2, k4, go_sem]
      repeat' ((first | apply qa | apply qb | apply qc | apply qd | apply qe | apply qf | apply qg | apply qh | apply qi | apply qj | apply qk) <;> intro hp <;> simp only [hp, hc, hl, k1, k2', hk, g1, g2, k4, go_sem])
      simp only [fin_mk, finV, resL, resV1, resIn, endA, listIn, Option.some_or, Option.none_or, oneOrTup, go_sem]
      rw [← hr]
      rw [dropBox, if_neg nk, if_neg (by omega), if_pos h4]; rfl
    · have k4 : ((s.Boxes.length : Int) == 1) = false := beq_eq_false_iff_ne.2 (by omega)
      have g5 := wrap_succ hi (by omega)
      have g6 : s.Boxes.length ≤ 1000000 := by omega
      have g7 : (k : Int) < ((k + 1 : Nat) : Int) := by omega
      have g8 : ((k + 1 : Nat) : Int) ≤ s.Boxes.length := by omega
      simp only [hc, hl, k1, k2', hk, g1, g2, k4, g5, g6, g7, g8, Int.toNat_natCast, go_sem]
      repeat' ((first | apply qa | apply qb | apply qc | apply qd | apply qe | apply qf | apply qg | apply qh | apply qi | apply qj | apply qk) <;> intro hp <;> simp only [hp, hc, hl, k1, k2', hk, g1, g2, k4, g5, g6, g7, g8, Int.toNat_natCast, go_sem])
      simp only [fin_mk, finV, resL, resV1, resIn, endA, listIn, Option.some_or, Option.none_or, oneOrTup, go_sem]
      rw [← hr]
      rw [dropBox, if_neg nk, if_neg (by omega), if_neg h4, hk]; rfl
  · have g0 : nameIx s.Boxes name < 0 := by omega
    simp only [hc, hl, k1, k2', h, g0, go_sem]
    repeat' ((first | apply qa | apply qb | apply qc | apply qd | apply qe | apply qf | apply qg | apply qh | apply qi | apply qj | apply qk) <;> intro hp <;> simp only [hp, hc, hl, k1, k2', h, g0, go_sem])
    simp only [fin_mk, finV, resL, resV1, resIn, endA, listIn, Option.some_or, Option.none_or, oneOrTup, go_sem]
    rw [← hr]
    rw [dropBox, if_neg nk, if_pos g0]; rfl
def holeB (b : Box) : V := .agg [.str b.Name, .int .i64 b.Valid, .int .i64 b.Next, .int .i64 b.Mod, .hole, .hole, .int .i64 b.Horizon]
def movedL (p : Box → Bool) (i : Nat) (l : List Box) : List V := (l.take i).map (fun b => if p b then holeB b else b.enc) ++ (l.drop i).map Box.enc
theorem movedL_len {p : Box → Bool} {i : Nat} {l : List Box} (h : i ≤ l.length) : (movedL p i l).length = l.length := by
  simp only [movedL, List.length_append, List.length_map, List.length_take, List.length_drop]; omega
theorem movedL_at {p : Box → Bool} {i : Nat} {l : List Box} (h : i < l.length) : (movedL p i l)[i]? = some l[i].enc := by
  rw [movedL, List.getElem?_append_right (by rw [List.length_map, List.length_take]; omega), List.length_map, List.length_take, Nat.min_eq_left (by omega), Nat.sub_self, List.getElem?_map, List.getElem?_drop, Nat.add_zero, List.getElem?_eq_getElem h]
  rfl
theorem movedL_set {p : Box → Bool} {i : Nat} {l : List Box} (h : i < l.length) (hp : p l[i] = true) : (movedL p i l).set i (holeB l[i]) = movedL p (i + 1) l := by
  have e1 : l.drop i = l[i] :: l.drop (i + 1) := (List.getElem_cons_drop ..).symm
  rw [movedL, movedL, List.set_append_right _ _ (by rw [List.length_map, List.length_take]; omega), List.length_map, List.length_take, Nat.min_eq_left (by omega), Nat.sub_self, e1, List.map_cons, List.set_cons_zero, take_succ_map _ h, if_pos hp]
  simp
theorem movedL_skip {p : Box → Bool} {i : Nat} {l : List Box} (h : i < l.length) (hp : p l[i] = false) : movedL p i l = movedL p (i + 1) l := by
  have e1 : l.drop i = l[i] :: l.drop (i + 1) := (List.getElem_cons_drop ..).symm
  rw [movedL, movedL, take_succ_map _ h, e1, hp, List.map_cons]
  simp only [Bool.false_eq_true, if_false, List.append_assoc, List.cons_append, List.nil_append]
theorem movedL_none {p : Box → Bool} {i : Nat} {l : List Box} (hp : (l.take i).filter p = []) : movedL p i l = l.map Box.enc := by
  have e2 : (l.take i).map (fun b => if p b then holeB b else b.enc) = (l.take i).map Box.enc := by
    apply List.map_congr_left
    intro b hb
    rw [List.filter_eq_nil_iff] at hp
    rw [if_neg (hp b hb)]
  rw [movedL, e2, ← List.map_append, List.take_append_drop]
theorem filter_take_succ {α : Type} {p : α → Bool} {l : List α} {i : Nat} (h : i < l.length) : (l.take (i + 1)).filter p = (l.take i).filter p ++ (if p l[i] then [l[i]] else []) := by
  rw [take_succ' h, List.filter_append]
  cases hp : p l[i] <;> simp [hp]
def T_spec_DropBox : Hints := ⟨lk [(12, [(0, 7), (1, 7)])], lk [(9, [1, 4, 6, 9, 10])], lk [(0, [1, 2, 4]), (1, [1, 2, 4, 6]), (2, [1, 2, 4, 6, 19]), (3, [4, 5]), (4, [1, 2, 4, 6, 8]), (5, [1, 2, 4, 6, 28]), (6, [4, 5]), (7, [1, 4, 6, 9]), (8, [1, 4, 6, 9, 10]), (9, [1, 4, 6, 9, 10, 37]), (11, [1, 4, 6, 9, 10, 47]), (12, [1, 4, 6, 9, 10]), (10, [1, 4, 6, 9, 10]), (13, [4, 6, 9, 61]), (14, [4, 5]), (15, [4, 5])], lk [(12, ((6, [none, some 0]), (10, [])))]⟩
noncomputable def Phi_spec_DropBox : Tab := lk [(38, spStoreOk), (40, spCopyStore), (42, spBoxAt)]
attribute [go_sem] T_spec_DropBox Phi_spec_DropBox
theorem phi_spec_DropBox : ∀ f sp, Phi_spec_DropBox f = some sp → FnOk Tryz.prog f sp ∧ ∀ n ∈ sp.need, n ∈ ([] : List String) := phi_cons ok_spec_StoreOk (n0 rfl) (phi_cons ok_spec_l09Copy (n0 rfl) (phi_cons ok_spec_BoxAt (n0 rfl) (phi_nil)))
theorem ok_spec_DropBox : FnOk Tryz.prog 43 spDropBox := by
  refine fn_ok (Φ := Phi_spec_DropBox) (T := T_spec_DropBox) phi_spec_DropBox mixed Tryz.func43 rfl rfl rfl (by decide) ?_
  intro ins r outs hr hl
  clear hl
  have hs := spDropBox_in hr
  clear hr
  obtain ⟨s, name, rfl, hc, hr, rfl⟩ := hs
  simp only [spDropBox, Tryz.f43, Go.VM.initS]
  have hl := (boxes_le hc).1
  cases k1 : storeOk s with
  | false =>
    simp only [hc, hl, k1, go_sem]
    repeat' ((first | ((first | apply qa | apply qb | apply qc | apply qd | apply qe | apply qf | apply qg | apply qh | apply qi | apply qj | apply qk) <;> intro hp) | ((first | refine ql rfl rfl (by decide +kernel) ?_ | refine qm _ rfl rfl (by decide +kernel) ?_ | refine goes_opn rfl ?_ | refine goes_opnD rfl rfl (by decide +kernel) ?_ | refine goes_opnN _ rfl rfl (by decide +kernel) ?_) <;> have hp := True.intro)) <;> simp only [hp, hc, hl, k1, go_sem])
    simp only [fin_mk, finV, resL, resV1, resIn, endA, listIn, Option.some_or, Option.none_or, oneOrTup, go_sem]
    rw [← hr]
    rw [dropBox, if_pos (.inl k1)]; rfl
  | true =>
  obtain ⟨_, hb1, hb4⟩ := storeOk_inc k1
  cases k2 : (name == inboxN) with
  | true =>
    have k2' : (name == [105, 110, 98, 111, 120]) = true := k2
    simp only [hc, hl, k1, k2', go_sem]
    repeat' ((first | ((first | apply qa | apply qb | apply qc | apply qd | apply qe | apply qf | apply qg | apply qh | apply qi | apply qj | apply qk) <;> intro hp) | ((first | refine ql rfl rfl (by decide +kernel) ?_ | refine qm _ rfl rfl (by decide +kernel) ?_ | refine goes_opn rfl ?_ | refine goes_opnD rfl rfl (by decide +kernel) ?_ | refine goes_opnN _ rfl rfl (by decide +kernel) ?_) <;> have hp := True.intro)) <;> simp only [hp, hc, hl, k1, k2', go_sem])
    simp only [fin_mk, finV, resL, resV1, resIn, endA, listIn, Option.some_or, Option.none_or, oneOrTup, go_sem]
    rw [← hr]
    rw [dropBox, if_pos (.inr k2)]; rfl
  | false =>
  have k2' : (name == [105, 110, 98, 111, 120]) = false := k2
  have nk : ¬ (storeOk s = false ∨ (name == inboxN) = true) := by rw [k1, k2]; simp
  by_cases h : 0 ≤ nameIx s.Boxes name
  · have kh : boxHas s name = true := by simp [boxHas, h]
    simp only [hc, hl, k1, k2', kh, go_sem]
    repeat' ((first | ((first | apply qa | apply qb | apply qc | apply qd | apply qe | apply qf | apply qg | apply qh | apply qi | apply qj | apply qk) <;> intro hp) | ((first | refine ql rfl rfl (by decide +kernel) ?_ | refine qm _ rfl rfl (by decide +kernel) ?_ | refine goes_opn rfl ?_ | refine goes_opnD rfl rfl (by decide +kernel) ?_ | refine goes_opnN _ rfl rfl (by decide +kernel) ?_) <;> have hp := True.intro)) <;> simp only [hp, hc, hl, k1, k2', kh, go_sem])
    have hf := drop_filter k1 h
    have hn := drop_filter_len k1 h
    refine loop_two (fun i : Nat => [(10, .int .i64 (i : Int))]) (fun _ => []) (fun i => s.Boxes.length - i) (fun i => i ≤ s.Boxes.length ∧ (s.Boxes.take i).filter (fun b => !(b.Name == name)) = [])
      5 (fun i : Nat => [(1, .str name), (4, .ptr 0 0 none), (6, .ptr 1 0 none), (9, .ptr 2 0 none), (10, .int .i64 (i : Int))])
      (fun i => [(0, ⟨.box, 2, [.agg [.nils 7, .int .i64 0]]⟩), (1, ⟨.box, 2, [.agg [.own 3, .int .i64 s.Valid]]⟩), (2, ⟨.box, 2, [.agg [.own 4, .int .i64 s.Valid]]⟩), (3, ⟨.arr, 7, movedL (fun b => !(b.Name == name)) i s.Boxes⟩), (4, ⟨.arr, 7, ((s.Boxes.take i).filter (fun b => !(b.Name == name))).map Box.enc⟩)])
      (fun i => s.Boxes.length - i) (fun i => i ≤ s.Boxes.length ∧ 0 < ((s.Boxes.take i).filter (fun b => !(b.Name == name))).length)
      0 ⟨Nat.zero_le _, rfl⟩ rfl rfl ?_ ?_
    · rintro i ⟨hi, h0⟩ ih
      rcases Nat.lt_or_ge i s.Boxes.length with h | h
      · have g1 : (i : Int) < s.Boxes.length := by omega
        have g2 : (0 : Int) ≤ i := by omega
        have g3 := movedL_at (p := fun b => !(b.Name == name)) h
        have g4 := movedL_len (p := fun b => !(b.Name == name)) (Nat.le_of_lt h)
        have g5 := wrap_succ h (by omega)
        have gs := filter_take_succ (p := fun b => !(b.Name == name)) h
        cases hq : (s.Boxes[i].Name == name) with
        | false =>
          have hq2 : (s.Boxes[i].Name != name) = true := by rw [bne, hq]; rfl
          have gl : ((s.Boxes.take i).filter (fun b => !(b.Name == name))).length ≤ 4 := by
            have := List.length_filter_le (fun b : Box => !(b.Name == name)) (s.Boxes.take i); rw [List.length_take] at this; omega
          have g6 : (((s.Boxes.take i).filter (fun b => !(b.Name == name))).length + 1) * 96 ≤ 140737488355328 := by omega
          have g7 : ((s.Boxes.take i).filter (fun b => !(b.Name == name))).length + 1 ≤ 9223372036854775807 := by omega
          simp only [hq, Bool.not_false, if_true] at gs
          have ih' := ih (i + 1) ⟨h, by rw [gs]; simp⟩ (by omega)
          rw [gs, ← movedL_set h (by rw [hq]; rfl), List.map_append] at ih'
          simp only [g1, g2, g3, g4, g5, hq2, g6, g7, h, go_sem]
          repeat' ((first | ((first | apply qa | apply qb | apply qc | apply qd | apply qe | apply qf | apply qg | apply qh | apply qi | apply qj | apply qk) <;> intro hp) | ((first | refine ql rfl rfl (by decide +kernel) ?_ | refine qm _ rfl rfl (by decide +kernel) ?_ | refine goes_opn rfl ?_ | refine goes_opnD rfl rfl (by decide +kernel) ?_ | refine goes_opnN _ rfl rfl (by decide +kernel) ?_) <;> have hp := True.intro)) <;> simp only [hp, g1, g2, g3, g4, g5, hq2, g6, g7, h, go_sem])
          exact ih'
        | true =>
          have hq2 : (s.Boxes[i].Name != name) = false := by rw [bne, hq]; rfl
          simp only [hq, Bool.not_true, Bool.false_eq_true, if_false, List.append_nil] at gs
          have ih' := ih (i + 1) ⟨h, by rw [gs]; exact h0⟩ (by omega)
          rw [gs, ← movedL_skip h (by rw [hq]; rfl)] at ih'
          simp only [g1, g2, g3, g4, g5, hq2, h, go_sem]
          repeat' ((first | ((first | apply qa | apply qb | apply qc | apply qd | apply qe | apply qf | apply qg | apply qh | apply qi | apply qj | apply qk) <;> intro hp) | ((first | refine ql rfl rfl (by decide +kernel) ?_ | refine qm _ rfl rfl (by decide +kernel) ?_ | refine goes_opn rfl ?_ | refine goes_opnD rfl rfl (by decide +kernel) ?_ | refine goes_opnN _ rfl rfl (by decide +kernel) ?_) <;> have hp := True.intro)) <;> simp only [hp, g1, g2, g3, g4, g5, hq2, h, go_sem])
          exact ih'
      · have g1 : ¬ (i : Int) < s.Boxes.length := by omega
        have g4 := movedL_len (p := fun b => !(b.Name == name)) hi
        rw [List.take_of_length_le h] at h0 ⊢
        have g6 : ((((s.Boxes.filter (fun b => !(b.Name == name))).length : Nat) : Int) == 0) = false := beq_eq_false_iff_ne.2 (by omega)
        simp only [g1, g4, g6, go_sem]
        repeat' ((first | ((first | apply qa | apply qb | apply qc | apply qd | apply qe | apply qf | apply qg | apply qh | apply qi | apply qj | apply qk) <;> intro hp) | ((first | refine ql rfl rfl (by decide +kernel) ?_ | refine qm _ rfl rfl (by decide +kernel) ?_ | refine goes_opn rfl ?_ | refine goes_opnD rfl rfl (by decide +kernel) ?_ | refine goes_opnN _ rfl rfl (by decide +kernel) ?_) <;> have hp := True.intro)) <;> simp only [hp, g1, g4, g6, go_sem])
        simp only [fin_mk, finV, resL, resV1, resIn, endA, listIn, Option.some_or, Option.none_or, oneOrTup, go_sem]
        rw [← hr]
        rw [dropBox, if_neg nk, if_neg (by omega), if_neg (by omega), hf]; rfl
    · rintro i ⟨hi, h0⟩ ih ih2
      rcases Nat.lt_or_ge i s.Boxes.length with h | h
      · have g1 : (i : Int) < s.Boxes.length := by omega
        have g2 : (0 : Int) ≤ i := by omega
        have g3 : s.Boxes[i]? = some s.Boxes[i] := List.getElem?_eq_getElem h
        have g5 := wrap_succ h (by omega)
        have gs := filter_take_succ (p := fun b => !(b.Name == name)) h
        cases hq : (s.Boxes[i].Name == name) with
        | false =>
          have hq2 : (s.Boxes[i].Name != name) = true := by rw [bne, hq]; rfl
          simp only [hq, Bool.not_false, if_true, h0, List.nil_append] at gs
          have ih' := ih2 (i + 1) ⟨h, by rw [gs]; simp⟩
          rw [gs, ← movedL_set h (by rw [hq]; rfl), movedL_none h0] at ih'
          simp only [g1, g2, g3, g5, hq2, h, go_sem]
          repeat' ((first | ((first | apply qa | apply qb | apply qc | apply qd | apply qe | apply qf | apply qg | apply qh | apply qi | apply qj | apply qk) <;> intro hp) | ((first | refine ql rfl rfl (by decide +kernel) ?_ | refine qm _ rfl rfl (by decide +kernel) ?_ | refine goes_opn rfl ?_ | refine goes_opnD rfl rfl (by decide +kernel) ?_ | refine goes_opnN _ rfl rfl (by decide +kernel) ?_) <;> have hp := True.intro)) <;> simp only [hp, g1, g2, g3, g5, hq2, h, go_sem])
          exact ih'
        | true =>
          have hq2 : (s.Boxes[i].Name != name) = false := by rw [bne, hq]; rfl
          simp only [hq, Bool.not_true, Bool.false_eq_true, if_false, List.append_nil, h0] at gs
          have ih' := ih (i + 1) ⟨h, gs⟩ (by omega)
          simp only [g1, g2, g3, g5, hq2, h, go_sem]
          repeat' ((first | ((first | apply qa | apply qb | apply qc | apply qd | apply qe | apply qf | apply qg | apply qh | apply qi | apply qj | apply qk) <;> intro hp) | ((first | refine ql rfl rfl (by decide +kernel) ?_ | refine qm _ rfl rfl (by decide +kernel) ?_ | refine goes_opn rfl ?_ | refine goes_opnD rfl rfl (by decide +kernel) ?_ | refine goes_opnN _ rfl rfl (by decide +kernel) ?_) <;> have hp := True.intro)) <;> simp only [hp, g1, g2, g3, g5, hq2, h, go_sem])
          exact ih'
      · have g1 : ¬ (i : Int) < s.Boxes.length := by omega
        rw [List.take_of_length_le h] at h0
        have : s.Boxes.length = 1 := by rw [h0] at hn; simp at hn; omega
        have gz : (((0 : Nat) : Int) == 0) = true := rfl
        simp only [g1, gz, go_sem]
        repeat' ((first | ((first | apply qa | apply qb | apply qc | apply qd | apply qe | apply qf | apply qg | apply qh | apply qi | apply qj | apply qk) <;> intro hp) | ((first | refine ql rfl rfl (by decide +kernel) ?_ | refine qm _ rfl rfl (by decide +kernel) ?_ | refine goes_opn rfl ?_ | refine goes_opnD rfl rfl (by decide +kernel) ?_ | refine goes_opnN _ rfl rfl (by decide +kernel) ?_) <;> have hp := True.intro)) <;> simp only [hp, g1, gz, go_sem])
        simp only [fin_mk, finV, resL, resV1, resIn, endA, listIn, Option.some_or, Option.none_or, oneOrTup, go_sem]
        rw [← hr]
        rw [dropBox, if_neg nk, if_neg (by omega), if_pos this]; rfl
  · have kh : boxHas s name = false := by simp [boxHas, h]
    have g0 : nameIx s.Boxes name < 0 := by omega
    simp only [hc, hl, k1, k2', kh, go_sem]
    repeat' ((first | ((first | apply qa | apply qb | apply qc | apply qd | apply qe | apply qf | apply qg | apply qh | apply qi | apply qj | apply qk) <;> intro hp) | ((first | refine ql rfl rfl (by decide +kernel) ?_ | refine qm _ rfl rfl (by decide +kernel) ?_ | refine goes_opn rfl ?_ | refine goes_opnD rfl rfl (by decide +kernel) ?_ | refine goes_opnN _ rfl rfl (by decide +kernel) ?_) <;> have hp := True.intro)) <;> simp only [hp, hc, hl, k1, k2', kh, go_sem])
    simp only [fin_mk, finV, resL, resV1, resIn, endA, listIn, Option.some_or, Option.none_or, oneOrTup, go_sem]
    rw [← hr]
    rw [dropBox, if_neg nk, if_pos g0]; rfl
end Go.Proofs.YtjkhhplhjbmhjaaGreat.L

namespace Go.Proofs.YtjkhhplhjbmhjaaGreat.L
open Go Go.VM
set_option maxRecDepth 100000
set_option maxHeartbeats 4000000
set_option linter.unusedSimpArgs false
set_option linter.unusedVariables false
def ltB (name : List UInt8) (b : Box) : Bool := Op.bytesLess b.Name name
def gtB (name : List UInt8) (b : Box) : Bool := !(Op.bytesLess b.Name name || b.Name == name)
def posIx (l : List Box) (name : List UInt8) : Nat := (l.filter (ltB name)).length
def fullB (s : Store) : Bool := decide (4 ≤ (s.Boxes.length : Int)) || decide (9999 ≤ s.Valid)
def makeBox (s : Store) (name : List UInt8) : Store × Int :=
  if storeOk s = false ∨ boxName name = false then (s, 4)
  else if 0 ≤ nameIx s.Boxes name then (s, 2)
  else if fullB s = true then (s, 3)
  else (⟨s.Boxes.take (posIx s.Boxes name) ++ [boxNew name s.Valid] ++ s.Boxes.drop (posIx s.Boxes name), s.Valid + 1⟩, 0)
theorem boxName_len {name : List UInt8} (h : boxName name = true) : name.length ≤ 8 := by
  simp only [boxName, within, Bool.and_eq_true, decide_eq_true_eq] at h; omega
theorem makeBox_le {s : Store} {name : List UInt8} (h : s.le 4194304) : (makeBox s name).1.le 4194304 := by
  unfold makeBox
  repeat' split
  all_goals first | exact h | skip
  rename_i h1 h2 h3
  rw [not_or, Bool.not_eq_false, Bool.not_eq_false] at h1
  have h4 := boxName_len h1.2
  obtain ⟨_, _, h5⟩ := storeOk_inc h1.1
  refine ⟨by simp only [List.length_append, List.length_take, List.length_drop, List.length_singleton]; omega, fun x hx => ?_⟩
  rcases List.mem_append.1 hx with hx | hx
  · rcases List.mem_append.1 hx with hx | hx
    · exact h.2 x (List.mem_of_mem_take hx)
    · rw [List.mem_singleton] at hx; subst hx; exact boxNew_le (by omega)
  · exact h.2 x (List.mem_of_mem_drop hx)
theorem storeOk_valid {s : Store} (h : storeOk s = true) : 2 ≤ s.Valid ∧ s.Valid ≤ 9999 := by
  unfold storeOk at h
  simp only [within, Bool.and_eq_true, decide_eq_true_eq] at h
  omega
theorem pos_at {l : List Box} (hi : Inc l) {name : List UInt8} {k : Nat} (hk : k ≤ l.length) (h1 : ∀ j (hj : j < l.length), j < k → Op.bytesLess l[j].Name name = true) (h2 : ∀ hk : k < l.length, Op.bytesLess l[k].Name name = false) : posIx l name = k := by
  have := filter_lt hi h1 h2
  show (l.filter (fun b => Op.bytesLess b.Name name)).length = k
  rw [this, List.length_take]; omega
theorem idxL_neg {α : Type} {p : α → Bool} : ∀ {l : List α}, ¬ 0 ≤ idxL p l → ∀ j (hj : j < l.length), p l[j] = false := by
  intro l h j hj
  -- the first that fits is found
  suffices H : ∀ n j (hj : j < l.length), j ≤ n → p l[j] = false from H j j hj (Nat.le_refl _)
  intro n
  induction n with
  | zero =>
    intro j hj h0
    cases hq : p l[j] with
    | false => rfl
    | true =>
      exfalso; apply h
      rw [idxL_hit hj (fun i hi => by omega) hq]; omega
  | succ n ih =>
    intro j hj hjn
    cases hq : p l[j] with
    | false => rfl
    | true =>
      exfalso; apply h
      rw [idxL_hit hj (fun i hi => ih i (by omega) (by omega)) hq]; omega
theorem no_name {l : List Box} {name : List UInt8} (h : ¬ 0 ≤ nameIx l name) : ∀ j (hj : j < l.length), (l[j].Name == name) = false := by
  exact idxL_neg (p := fun b : Box => b.Name == name) h
theorem pos_ex {l : List Box} (hi : Inc l) (name : List UInt8) : posIx l name ≤ l.length ∧ (∀ j (hj : j < l.length), j < posIx l name → Op.bytesLess l[j].Name name = true) ∧ (∀ hk : posIx l name < l.length, Op.bytesLess (l[posIx l name]'hk).Name name = false) := by
  have h1 : ∀ j (hj : j < l.length), j < l.findIdx (fun b => !ltB name b) → Op.bytesLess l[j].Name name = true := by
    intro j hj hlt
    have := List.not_of_lt_findIdx hlt
    simpa [ltB] using this
  have h2 : ∀ hk : l.findIdx (fun b => !ltB name b) < l.length, Op.bytesLess (l[l.findIdx (fun b => !ltB name b)]'hk).Name name = false := by
    intro hk
    have := List.findIdx_getElem (w := hk)
    simpa [ltB] using this
  have h3 : l.findIdx (fun b => !ltB name b) ≤ l.length := List.findIdx_le_length
  have e := pos_at hi h3 h1 h2
  generalize l.findIdx (fun b => !ltB name b) = k at *
  subst e
  exact ⟨h3, h1, h2⟩
theorem lt_filter {l : List Box} (hi : Inc l) (name : List UInt8) : l.filter (ltB name) = l.take (posIx l name) := by
  obtain ⟨_, h1, h2⟩ := pos_ex hi name
  exact filter_lt hi h1 h2
theorem gt_filter {l : List Box} (hi : Inc l) {name : List UInt8} (hno : ∀ j (hj : j < l.length), (l[j].Name == name) = false) : l.filter (gtB name) = l.drop (posIx l name) := by
  obtain ⟨_, h1, h2⟩ := pos_ex hi name
  exact filter_gt hi h1 h2 hno
def moved2 (p q : Box → Bool) (i : Nat) (l : List Box) : List V := (l.take i).map (fun b => if p b = true ∨ q b = true then holeB b else b.enc) ++ (l.drop i).map (fun b => if p b = true then holeB b else b.enc)
theorem moved2_len {p q : Box → Bool} {i : Nat} {l : List Box} (h : i ≤ l.length) : (moved2 p q i l).length = l.length := by
  simp only [moved2, List.length_append, List.length_map, List.length_take, List.length_drop]; omega
theorem moved2_at {p q : Box → Bool} {i : Nat} {l : List Box} (h : i < l.length) : (moved2 p q i l)[i]? = some (if p l[i] = true then holeB l[i] else l[i].enc) := by
  rw [moved2, List.getElem?_append_right (by rw [List.length_map, List.length_take]; omega), List.length_map, List.length_take, Nat.min_eq_left (by omega), Nat.sub_self, List.getElem?_map, List.getElem?_drop, Nat.add_zero, List.getElem?_eq_getElem h]
  rfl
theorem moved2_set {p q : Box → Bool} {i : Nat} {l : List Box} (h : i < l.length) (hp : q l[i] = true) : (moved2 p q i l).set i (holeB l[i]) = moved2 p q (i + 1) l := by
  have e1 : l.drop i = l[i] :: l.drop (i + 1) := (List.getElem_cons_drop ..).symm
  rw [moved2, moved2, List.set_append_right _ _ (by rw [List.length_map, List.length_take]; omega), List.length_map, List.length_take, Nat.min_eq_left (by omega), Nat.sub_self, e1, List.map_cons, List.set_cons_zero, take_succ_map _ h, if_pos (.inr hp)]
  simp
theorem moved2_skip {p q : Box → Bool} {i : Nat} {l : List Box} (h : i < l.length) (hp : p l[i] = true) : moved2 p q i l = moved2 p q (i + 1) l := by
  have e1 : l.drop i = l[i] :: l.drop (i + 1) := (List.getElem_cons_drop ..).symm
  rw [moved2, moved2, take_succ_map _ h, e1, List.map_cons, if_pos hp, if_pos (.inl hp)]
  simp only [List.append_assoc, List.cons_append, List.nil_append]
theorem moved2_zero {p q : Box → Bool} {l : List Box} : moved2 p q 0 l = movedL p l.length l := by
  rw [moved2, movedL, List.take_length, List.drop_length]
  simp
open Classical in
noncomputable def spMakeBox : VM.Spec := { modes := [.rd, .rd], run := fun | [s', .str name] => (Store.dec s').bind fun s => if s.le 4194304 ∧ name.length ≤ 4194304 then some (.tup [Store.enc ((makeBox s name).1), .int .i64 ((makeBox s name).2)], []) else none | _ => none, need := [] }
attribute [go_sem] spMakeBox
theorem spMakeBox_in {ins : List V} {r : V} {outs : List V} (h : spMakeBox.run ins = some (r, outs)) : ∃ (s : Store) (name : (List UInt8)), ins = [Store.enc s, .str name] ∧ (s.le 4194304 ∧ name.length ≤ 4194304) ∧ .tup [Store.enc ((makeBox s name).1), .int .i64 ((makeBox s name).2)] = r ∧ outs = [] := by
  unfold spMakeBox at h
  simp only at h
  split at h
  · rename_i s' name
    simp only [Option.bind_eq_some_iff] at h
    obtain ⟨s, h_s, h⟩ := h
    split at h
    case isFalse => cases h
    rename_i hc
    simp only [Option.some.injEq, Prod.mk.injEq] at h
    obtain ⟨h1, h2⟩ := h
    have h_s := Store.dec_some h_s
    subst h_s
    exact ⟨s, name, rfl, hc, h1, h2.symm⟩
  · cases h
def T_impl_MakeBox : Hints := ⟨lk [], lk [(10, [1, 4, 6, 7, 9])], lk [(0, [1, 2, 4]), (1, [1, 2, 4, 6]), (2, [1, 2, 4, 6, 12]), (3, [4, 5]), (4, [1, 2, 4, 6, 22]), (5, [4, 5]), (6, [1, 2, 4, 6, 28]), (7, [4, 5]), (8, [1, 4, 6, 7]), (9, [1, 4, 6, 7, 9]), (10, [1, 4, 6, 7, 9, 60]), (11, [1, 4, 6, 7, 9]), (12, [4, 6]), (13, [4, 6]), (14, [4, 5])], lk []⟩
noncomputable def Phi_impl_MakeBox : Tab := lk [(25, spCopyStore), (32, spBoxIx), (10, spStoreOk), (60, spBoxName), (67, spBoxNew), (68, spIns)]
attribute [go_sem] T_impl_MakeBox Phi_impl_MakeBox
theorem phi_impl_MakeBox : ∀ f sp, Phi_impl_MakeBox f = some sp → FnOk Tryz.prog f sp ∧ ∀ n ∈ sp.need, n ∈ ([] : List String) := phi_cons ok_impl_copyStore (n0 rfl) (phi_cons ok_impl_boxAt (n0 rfl) (phi_cons ok_impl_StoreOk (n0 rfl) (phi_cons ok_impl_BoxName (n0 rfl) (phi_cons ok_impl_BoxNew (n0 rfl) (phi_cons ok_slices_Insert_loop_example_g00247_impl_Box_loop_example_g00247_impl_Box (n0 rfl) (phi_nil))))))
theorem ok_impl_MakeBox : FnOk Tryz.prog 26 spMakeBox := by
  refine fn_ok (Φ := Phi_impl_MakeBox) (T := T_impl_MakeBox) phi_impl_MakeBox mixed Tryz.func26 rfl rfl rfl (by decide) ?_
  intro ins r outs hr hl
  clear hl
  have hs := spMakeBox_in hr
  clear hr
  obtain ⟨s, name, rfl, hc, hr, rfl⟩ := hs
  simp only [spMakeBox, Tryz.f26, Go.VM.initS]
  obtain ⟨hc, hn⟩ := hc
  have hl := (boxes_le hc).1
  have hn' : name.length ≤ 1099511627776 := by omega
  cases k1 : storeOk s with
  | false =>
    simp only [hc, hl, k1, hn', go_sem]
    repeat' ((first | apply qa | apply qb | apply qc | apply qd | apply qe | apply qf | apply qg | apply qh | apply qi | apply qj | apply qk) <;> intro hp <;> simp only [hp, hc, hl, k1, hn', go_sem])
    simp only [fin_mk, finV, resL, resV1, resIn, endA, listIn, Option.some_or, Option.none_or, oneOrTup, go_sem]
    rw [← hr]
    rw [makeBox, if_pos (.inl k1)]; rfl
  | true =>
  obtain ⟨hinc, hb1, hb4⟩ := storeOk_inc k1
  obtain ⟨hv1, hv2⟩ := storeOk_valid k1
  cases k2 : boxName name with
  | false =>
    simp only [hc, hl, k1, k2, hn', go_sem]
    repeat' ((first | apply qa | apply qb | apply qc | apply qd | apply qe | apply qf | apply qg | apply qh | apply qi | apply qj | apply qk) <;> intro hp <;> simp only [hp, hc, hl, k1, k2, hn', go_sem])
    simp only [fin_mk, finV, resL, resV1, resIn, endA, listIn, Option.some_or, Option.none_or, oneOrTup, go_sem]
    rw [← hr]
    rw [makeBox, if_pos (.inr k2)]; rfl
  | true =>
  have nk : ¬ (storeOk s = false ∨ boxName name = false) := by rw [k1, k2]; simp
  by_cases h : 0 ≤ nameIx s.Boxes name
  · simp only [hc, hl, k1, k2, h, hn', go_sem]
    repeat' ((first | apply qa | apply qb | apply qc | apply qd | apply qe | apply qf | apply qg | apply qh | apply qi | apply qj | apply qk) <;> intro hp <;> simp only [hp, hc, hl, k1, k2, h, hn', go_sem])
    simp only [fin_mk, finV, resL, resV1, resIn, endA, listIn, Option.some_or, Option.none_or, oneOrTup, go_sem]
    rw [← hr]
    rw [makeBox, if_neg nk, if_pos h]; rfl
  by_cases h4 : s.Boxes.length = 4
  · have e4 : ((s.Boxes.length : Int) == 4) = true := by rw [h4]; rfl
    simp only [hc, hl, k1, k2, h, hn', e4, go_sem]
    repeat' ((first | apply qa | apply qb | apply qc | apply qd | apply qe | apply qf | apply qg | apply qh | apply qi | apply qj | apply qk) <;> intro hp <;> simp only [hp, hc, hl, k1, k2, h, hn', e4, go_sem])
    simp only [fin_mk, finV, resL, resV1, resIn, endA, listIn, Option.some_or, Option.none_or, oneOrTup, go_sem]
    rw [← hr]
    rw [makeBox, if_neg nk, if_neg h, if_pos (by simp [fullB, h4])]; rfl
  have e4 : ((s.Boxes.length : Int) == 4) = false := beq_eq_false_iff_ne.2 (by omega)
  by_cases h5 : s.Valid = 9999
  · have e5 : (s.Valid == 9999) = true := by rw [h5]; rfl
    simp only [hc, hl, k1, k2, h, hn', e4, e5, go_sem]
    repeat' ((first | apply qa | apply qb | apply qc | apply qd | apply qe | apply qf | apply qg | apply qh | apply qi | apply qj | apply qk) <;> intro hp <;> simp only [hp, hc, hl, k1, k2, h, hn', e4, e5, go_sem])
    simp only [fin_mk, finV, resL, resV1, resIn, endA, listIn, Option.some_or, Option.none_or, oneOrTup, go_sem]
    rw [← hr]
    rw [makeBox, if_neg nk, if_neg h, if_pos (by simp [fullB, h5])]; rfl
  have e5 : (s.Valid == 9999) = false := beq_eq_false_iff_ne.2 (by omega)
  have hfull : ¬ fullB s = true := by
    simp only [fullB, Bool.or_eq_true, decide_eq_true_eq]; omega
  have hlb := boxNew_le (name := name) (valid := s.Valid) hn
  have hw : IntKind.i64.wrap (s.Valid + 1) = s.Valid + 1 := wrap64 (by omega) (by omega)
  simp only [hc, hl, k1, k2, h, hn, hn', e4, e5, go_sem]
  repeat' ((first | apply qa | apply qb | apply qc | apply qd | apply qe | apply qf | apply qg | apply qh | apply qi | apply qj | apply qk) <;> intro hp <;> simp only [hp, hc, hl, k1, k2, h, hn, hn', e4, e5, go_sem])
  refine loop_go (fun i : Nat => [(9, .int .i64 (i : Int))]) (fun _ => []) (fun i => s.Boxes.length - i) (fun i => i ≤ s.Boxes.length ∧ ∀ j (hj : j < s.Boxes.length), j < i → Op.bytesLess s.Boxes[j].Name name = true) 0 ⟨Nat.zero_le _, fun j _ hj => by omega⟩ rfl rfl ?_
  rintro i ⟨hi, ha⟩ ih
  have g2 : (0 : Int) ≤ i := by omega
  have gi : (i : Int) ≤ s.Boxes.length := by omega
  have g6 : s.Boxes.length ≤ 1000000 := by omega
  have fin : ∀ (h2 : ∀ hk : i < s.Boxes.length, Op.bytesLess s.Boxes[i].Name name = false), makeBox s name = (⟨s.Boxes.take i ++ [boxNew name s.Valid] ++ s.Boxes.drop i, s.Valid + 1⟩, 0) := by
    intro h2
    rw [makeBox, if_neg nk, if_neg h, if_neg hfull, pos_at hinc hi ha h2]
  rcases Nat.lt_or_ge i s.Boxes.length with hlt | hge
  · have g1 : (i : Int) < s.Boxes.length := by omega
    have g3 : s.Boxes[i]? = some s.Boxes[i] := List.getElem?_eq_getElem hlt
    have g5 := wrap_succ hlt (by omega)
    cases hq : Op.bytesLess s.Boxes[i].Name name with
    | true =>
      have ih' := ih (i + 1) ⟨hlt, fun j hj hji => by
        rcases Nat.lt_or_ge j i with h1 | h1
        · exact ha j hj h1
        · have : j = i := by omega
          subst this; exact hq⟩ (by omega)
      simp only [g1, g2, g3, g5, hq, go_sem]
      repeat' ((first | apply qa | apply qb | apply qc | apply qd | apply qe | apply qf | apply qg | apply qh | apply qi | apply qj | apply qk) <;> intro hp <;> simp only [hp, g1, g2, g3, g5, hq, go_sem])
      exact ih'
    | false =>
      simp only [g1, g2, g3, g5, hq, gi, g6, hw, Int.toNat_natCast, go_sem]
      repeat' ((first | apply qa | apply qb | apply qc | apply qd | apply qe | apply qf | apply qg | apply qh | apply qi | apply qj | apply qk) <;> intro hp <;> simp only [hp, g1, g2, g3, g5, hq, gi, g6, hw, Int.toNat_natCast, go_sem])
      simp only [fin_mk, finV, resL, resV1, resIn, endA, listIn, Option.some_or, Option.none_or, oneOrTup, go_sem]
      rw [← hr]
      rw [fin fun _ => hq]; rfl
  · have g1 : ¬ (i : Int) < s.Boxes.length := by omega
    simp only [g1, g2, gi, g6, hw, Int.toNat_natCast, go_sem]
    repeat' ((first | apply qa | apply qb | apply qc | apply qd | apply qe | apply qf | apply qg | apply qh | apply qi | apply qj | apply qk) <;> intro hp <;> simp only [hp, g1, g2, gi, g6, hw, Int.toNat_natCast, go_sem])
    simp only [fin_mk, finV, resL, resV1, resIn, endA, listIn, Option.some_or, Option.none_or, oneOrTup, go_sem]
    rw [← hr]
    rw [fin fun hk => by omega]; rfl
def T_spec_MakeBox : Hints := ⟨lk [(15, [(0, 7), (1, 7)]), (21, [(0, 7), (1, 7)])], lk [(12, [1, 4, 6, 9, 11, 12]), (18, [1, 4, 6, 11, 13])], lk [(0, [1, 2, 4]), (1, [1, 2, 4, 6]), (2, [1, 2, 4, 6, 23]), (3, [4, 5]), (4, [1, 2, 4, 6, 8]), (5, [1, 2, 4, 6, 31]), (6, [4, 5]), (7, [1, 2, 4, 6, 41]), (8, [4, 5]), (9, [1, 2, 4, 6, 9]), (10, [1, 4, 6, 9, 11]), (11, [1, 4, 6, 9, 11, 12]), (12, [1, 4, 6, 9, 11, 12, 58]), (14, [1, 4, 6, 9, 11, 12, 68]), (15, [1, 4, 6, 9, 11, 12]), (13, [1, 4, 6, 9, 11, 12]), (16, [1, 4, 6, 11]), (17, [1, 4, 6, 11, 13]), (18, [1, 4, 6, 11, 13, 89]), (20, [1, 4, 6, 11, 13, 99]), (21, [1, 4, 6, 11, 13]), (19, [1, 4, 6, 11, 13]), (22, [4, 5])], lk [(15, ((6, [none, some 0]), (12, []))), (21, ((6, [none, some 0]), (13, [])))]⟩
noncomputable def Phi_spec_MakeBox : Tab := lk [(38, spStoreOk), (40, spCopyStore), (42, spBoxAt), (85, spBoxName), (91, spBoxNew)]
attribute [go_sem] T_spec_MakeBox Phi_spec_MakeBox
theorem phi_spec_MakeBox : ∀ f sp, Phi_spec_MakeBox f = some sp → FnOk Tryz.prog f sp ∧ ∀ n ∈ sp.need, n ∈ ([] : List String) := phi_cons ok_spec_StoreOk (n0 rfl) (phi_cons ok_spec_l09Copy (n0 rfl) (phi_cons ok_spec_BoxAt (n0 rfl) (phi_cons ok_spec_BoxName (n0 rfl) (phi_cons ok_spec_BoxNew (n0 rfl) (phi_nil)))))
theorem ok_spec_MakeBox : FnOk Tryz.prog 41 spMakeBox := by
  refine fn_ok (Φ := Phi_spec_MakeBox) (T := T_spec_MakeBox) phi_spec_MakeBox mixed Tryz.func41 rfl rfl rfl (by decide) ?_
  intro ins r outs hr hl
  clear hl
  have hs := spMakeBox_in hr
  clear hr
  obtain ⟨s, name, rfl, hc, hr, rfl⟩ := hs
  simp only [spMakeBox, Tryz.f41, Go.VM.initS]
  obtain ⟨hc, hn⟩ := hc
  have hl := (boxes_le hc).1
  have hn' : name.length ≤ 1099511627776 := by omega
  cases k1 : storeOk s with
  | false =>
    simp only [hc, hl, k1, hn', go_sem]
    repeat' ((first | ((first | apply qa | apply qb | apply qc | apply qd | apply qe | apply qf | apply qg | apply qh | apply qi | apply qj | apply qk) <;> intro hp) | ((first | refine ql rfl rfl (by decide +kernel) ?_ | refine qm _ rfl rfl (by decide +kernel) ?_ | refine goes_opn rfl ?_ | refine goes_opnD rfl rfl (by decide +kernel) ?_ | refine goes_opnN _ rfl rfl (by decide +kernel) ?_) <;> have hp := True.intro)) <;> simp only [hp, hc, hl, k1, hn', go_sem])
    simp only [fin_mk, finV, resL, resV1, resIn, endA, listIn, Option.some_or, Option.none_or, oneOrTup, go_sem]
    rw [← hr]
    rw [makeBox, if_pos (.inl k1)]; rfl
  | true =>
  obtain ⟨hinc, hb1, hb4⟩ := storeOk_inc k1
  obtain ⟨hv1, hv2⟩ := storeOk_valid k1
  cases k2 : boxName name with
  | false =>
    simp only [hc, hl, k1, k2, hn', go_sem]
    repeat' ((first | ((first | apply qa | apply qb | apply qc | apply qd | apply qe | apply qf | apply qg | apply qh | apply qi | apply qj | apply qk) <;> intro hp) | ((first | refine ql rfl rfl (by decide +kernel) ?_ | refine qm _ rfl rfl (by decide +kernel) ?_ | refine goes_opn rfl ?_ | refine goes_opnD rfl rfl (by decide +kernel) ?_ | refine goes_opnN _ rfl rfl (by decide +kernel) ?_) <;> have hp := True.intro)) <;> simp only [hp, hc, hl, k1, k2, hn', go_sem])
    simp only [fin_mk, finV, resL, resV1, resIn, endA, listIn, Option.some_or, Option.none_or, oneOrTup, go_sem]
    rw [← hr]
    rw [makeBox, if_pos (.inr k2)]; rfl
  | true =>
  have nk : ¬ (storeOk s = false ∨ boxName name = false) := by rw [k1, k2]; simp
  by_cases h : 0 ≤ nameIx s.Boxes name
  · have kh : boxHas s name = true := by simp [boxHas, h]
    simp only [hc, hl, k1, k2, kh, hn', go_sem]
    repeat' ((first | ((first | apply qa | apply qb | apply qc | apply qd | apply qe | apply qf | apply qg | apply qh | apply qi | apply qj | apply qk) <;> intro hp) | ((first | refine ql rfl rfl (by decide +kernel) ?_ | refine qm _ rfl rfl (by decide +kernel) ?_ | refine goes_opn rfl ?_ | refine goes_opnD rfl rfl (by decide +kernel) ?_ | refine goes_opnN _ rfl rfl (by decide +kernel) ?_) <;> have hp := True.intro)) <;> simp only [hp, hc, hl, k1, k2, kh, hn', go_sem])
    simp only [fin_mk, finV, resL, resV1, resIn, endA, listIn, Option.some_or, Option.none_or, oneOrTup, go_sem]
    rw [← hr]
    rw [makeBox, if_neg nk, if_pos h]; rfl
  have kh : boxHas s name = false := by simp [boxHas, h]
  by_cases h4 : 4 ≤ (s.Boxes.length : Int)
  · simp only [hc, hl, k1, k2, kh, hn', h4, go_sem]
    repeat' ((first | ((first | apply qa | apply qb | apply qc | apply qd | apply qe | apply qf | apply qg | apply qh | apply qi | apply qj | apply qk) <;> intro hp) | ((first | refine ql rfl rfl (by decide +kernel) ?_ | refine qm _ rfl rfl (by decide +kernel) ?_ | refine goes_opn rfl ?_ | refine goes_opnD rfl rfl (by decide +kernel) ?_ | refine goes_opnN _ rfl rfl (by decide +kernel) ?_) <;> have hp := True.intro)) <;> simp only [hp, hc, hl, k1, k2, kh, hn', h4, go_sem])
    simp only [fin_mk, finV, resL, resV1, resIn, endA, listIn, Option.some_or, Option.none_or, oneOrTup, go_sem]
    rw [← hr]
    rw [makeBox, if_neg nk, if_neg h, if_pos (by simp [fullB, h4])]; rfl
  by_cases h5 : 9999 ≤ s.Valid
  · simp only [hc, hl, k1, k2, kh, hn', h4, h5, go_sem]
    repeat' ((first | ((first | apply qa | apply qb | apply qc | apply qd | apply qe | apply qf | apply qg | apply qh | apply qi | apply qj | apply qk) <;> intro hp) | ((first | refine ql rfl rfl (by decide +kernel) ?_ | refine qm _ rfl rfl (by decide +kernel) ?_ | refine goes_opn rfl ?_ | refine goes_opnD rfl rfl (by decide +kernel) ?_ | refine goes_opnN _ rfl rfl (by decide +kernel) ?_) <;> have hp := True.intro)) <;> simp only [hp, hc, hl, k1, k2, kh, hn', h4, h5, go_sem])
    simp only [fin_mk, finV, resL, resV1, resIn, endA, listIn, Option.some_or, Option.none_or, oneOrTup, go_sem]
    rw [← hr]
    rw [makeBox, if_neg nk, if_neg h, if_pos (by simp [fullB, h5])]; rfl
  have hfull : ¬ fullB s = true := by
    simp only [fullB, Bool.or_eq_true, decide_eq_true_eq]; omega
  have hlb := boxNew_le (name := name) (valid := s.Valid) hn
  have hw : IntKind.i64.wrap (s.Valid + 1) = s.Valid + 1 := wrap64 (by omega) (by omega)
  simp only [hc, hl, k1, k2, kh, hn, hn', h4, h5, hw, go_sem]
  repeat' ((first | ((first | apply qa | apply qb | apply qc | apply qd | apply qe | apply qf | apply qg | apply qh | apply qi | apply qj | apply qk) <;> intro hp) | ((first | refine ql rfl rfl (by decide +kernel) ?_ | refine qm _ rfl rfl (by decide +kernel) ?_ | refine goes_opn rfl ?_ | refine goes_opnD rfl rfl (by decide +kernel) ?_ | refine goes_opnN _ rfl rfl (by decide +kernel) ?_) <;> have hp := True.intro)) <;> simp only [hp, hc, hl, k1, k2, kh, hn, hn', h4, h5, hw, go_sem])
  have fin : makeBox s name = (⟨s.Boxes.take (posIx s.Boxes name) ++ [boxNew name s.Valid] ++ s.Boxes.drop (posIx s.Boxes name), s.Valid + 1⟩, 0) := by
    rw [makeBox, if_neg nk, if_neg h, if_neg hfull]
  refine loop_two (fun i : Nat => [(12, .int .i64 (i : Int))]) (fun _ => []) (fun i => s.Boxes.length - i) (fun i => i ≤ s.Boxes.length ∧ (s.Boxes.take i).filter (ltB name) = [])
    8 (fun i : Nat => [(1, .str name), (4, .ptr 0 0 none), (6, .ptr 1 0 none), (9, .ptr 2 0 none), (11, .ptr 3 0 none), (12, .int .i64 (i : Int))])
    (fun i => [(0, ⟨.box, 2, [.agg [.nils 7, .int .i64 0]]⟩), (1, ⟨.box, 2, [.agg [.own 4, .int .i64 s.Valid]]⟩),
      (2, ⟨.box, 7, [.agg [.str (boxNew name s.Valid).Name, .int .i64 (boxNew name s.Valid).Valid, .int .i64 (boxNew name s.Valid).Next, .int .i64 (boxNew name s.Valid).Mod, .own 5, .own 6, .int .i64 (boxNew name s.Valid).Horizon]]⟩),
      (3, ⟨.box, 2, [.agg [.own 7, .int .i64 (s.Valid + 1)]]⟩), (4, ⟨.arr, 7, movedL (ltB name) i s.Boxes⟩), (5, ⟨.arr, 4, (boxNew name s.Valid).Mails.map Mail.enc⟩), (6, ⟨.arr, 2, (boxNew name s.Valid).Tombs.map Tomb.enc⟩), (7, ⟨.arr, 7, ((s.Boxes.take i).filter (ltB name)).map Box.enc⟩)])
    (fun i => s.Boxes.length - i) (fun i => i ≤ s.Boxes.length ∧ 0 < ((s.Boxes.take i).filter (ltB name)).length)
    0 ⟨Nat.zero_le _, rfl⟩ rfl rfl ?_ ?_
  · rintro i ⟨hi, h0⟩ ih
    have g4 := movedL_len (p := ltB name) hi
    have gl : ((s.Boxes.take i).filter (ltB name)).length ≤ 4 := by
      have := List.length_filter_le (ltB name) (s.Boxes.take i); rw [List.length_take] at this; omega
    have g6 : (((s.Boxes.take i).filter (ltB name)).length + 1) * 96 ≤ 140737488355328 := by omega
    have g7 : ((s.Boxes.take i).filter (ltB name)).length + 1 ≤ 9223372036854775807 := by omega
    rcases Nat.lt_or_ge i s.Boxes.length with hlt | hge
    · have g1 : (i : Int) < s.Boxes.length := by omega
      have g2 : (0 : Int) ≤ i := by omega
      have g3 := movedL_at (p := ltB name) hlt
      have g5 := wrap_succ hlt (by omega)
      have gs := filter_take_succ (p := ltB name) hlt
      cases hq : Op.bytesLess s.Boxes[i].Name name with
      | true =>
        have hp1 : ltB name s.Boxes[i] = true := hq
        rw [hp1, if_pos rfl] at gs
        have ih' := ih (i + 1) ⟨hlt, by rw [gs]; simp⟩ (by omega)
        rw [gs, ← movedL_set hlt hp1, List.map_append] at ih'
        simp only [g1, g2, g3, g4, g5, hq, g6, g7, hlt, go_sem]
        repeat' ((first | ((first | apply qa | apply qb | apply qc | apply qd | apply qe | apply qf | apply qg | apply qh | apply qi | apply qj | apply qk) <;> intro hp) | ((first | refine ql rfl rfl (by decide +kernel) ?_ | refine qm _ rfl rfl (by decide +kernel) ?_ | refine goes_opn rfl ?_ | refine goes_opnD rfl rfl (by decide +kernel) ?_ | refine goes_opnN _ rfl rfl (by decide +kernel) ?_) <;> have hp := True.intro)) <;> simp only [hp, g1, g2, g3, g4, g5, hq, g6, g7, hlt, go_sem])
        exact ih'
      | false =>
        have hp1 : ltB name s.Boxes[i] = false := hq
        rw [hp1, if_neg (by simp), List.append_nil] at gs
        have ih' := ih (i + 1) ⟨hlt, by rw [gs]; exact h0⟩ (by omega)
        rw [gs, ← movedL_skip hlt hp1] at ih'
        simp only [g1, g2, g3, g4, g5, hq, hlt, go_sem]
        repeat' ((first | ((first | apply qa | apply qb | apply qc | apply qd | apply qe | apply qf | apply qg | apply qh | apply qi | apply qj | apply qk) <;> intro hp) | ((first | refine ql rfl rfl (by decide +kernel) ?_ | refine qm _ rfl rfl (by decide +kernel) ?_ | refine goes_opn rfl ?_ | refine goes_opnD rfl rfl (by decide +kernel) ?_ | refine goes_opnN _ rfl rfl (by decide +kernel) ?_) <;> have hp := True.intro)) <;> simp only [hp, g1, g2, g3, g4, g5, hq, hlt, go_sem])
        exact ih'
    · have g1 : ¬ (i : Int) < s.Boxes.length := by omega
      have hi' : i = s.Boxes.length := by omega
      subst hi'
      rw [List.take_length] at g6 g7 ⊢
      simp only [g1, g4, g6, g7, hlb, go_sem]
      repeat' ((first | ((first | apply qa | apply qb | apply qc | apply qd | apply qe | apply qf | apply qg | apply qh | apply qi | apply qj | apply qk) <;> intro hp) | ((first | refine ql rfl rfl (by decide +kernel) ?_ | refine qm _ rfl rfl (by decide +kernel) ?_ | refine goes_opn rfl ?_ | refine goes_opnD rfl rfl (by decide +kernel) ?_ | refine goes_opnN _ rfl rfl (by decide +kernel) ?_) <;> have hp := True.intro)) <;> simp only [hp, g1, g4, g6, g7, hlb, go_sem])
      refine loop_go (fun i : Nat => [(13, .int .i64 (i : Int))]) (fun i => [(3, ⟨.arr, 7, moved2 (ltB name) (gtB name) i s.Boxes⟩), (4, ⟨.arr, 7, ((s.Boxes.filter (ltB name)).map Box.enc ++ [boxNew name s.Valid].map Box.enc) ++ ((s.Boxes.take i).filter (gtB name)).map Box.enc⟩)]) (fun i => s.Boxes.length - i) (fun i => i ≤ s.Boxes.length) 0 (Nat.zero_le _) rfl (by rw [moved2_zero, List.take_zero]; simp only [List.take_zero, List.filter_nil, List.map_nil, List.append_nil]; rfl) ?_
      intro i hi ih
      have gb : [boxNew name s.Valid].length = 1 := rfl
      have g4 := moved2_len (p := ltB name) (q := gtB name) hi
      have gl : ((s.Boxes.take i).filter (gtB name)).length ≤ 4 := by
        have := List.length_filter_le (gtB name) (s.Boxes.take i); rw [List.length_take] at this; omega
      have gl0 : (s.Boxes.filter (ltB name)).length ≤ 4 := by
        have := List.length_filter_le (ltB name) s.Boxes; omega
      rcases Nat.lt_or_ge i s.Boxes.length with hlt | hge
      · have g1 : (i : Int) < s.Boxes.length := by omega
        have g2 : (0 : Int) ≤ i := by omega
        have g3 := moved2_at (p := ltB name) (q := gtB name) hlt
        have g5 := wrap_succ hlt (by omega)
        have gs := filter_take_succ (p := gtB name) hlt
        have he := no_name h i hlt
        cases hq : Op.bytesLess s.Boxes[i].Name name with
        | false =>
          have hp1 : ltB name s.Boxes[i] = false := hq
          have hp2 : gtB name s.Boxes[i] = true := by rw [gtB, hq, he]; rfl
          rw [hp1, if_neg (by simp)] at g3
          rw [hp2, if_pos rfl] at gs
          have ih' := ih (i + 1) hlt (by omega)
          rw [gs, ← moved2_set hlt hp2, List.map_append] at ih'
          simp only [← List.append_assoc] at ih'
          simp only [g1, g2, g3, g4, g5, hq, he, hlt, Bool.or_self, go_sem]
          repeat' ((first | ((first | apply qa | apply qb | apply qc | apply qd | apply qe | apply qf | apply qg | apply qh | apply qi | apply qj | apply qk) <;> intro hp) | ((first | refine ql rfl rfl (by decide +kernel) ?_ | refine qm _ rfl rfl (by decide +kernel) ?_ | refine goes_opn rfl ?_ | refine goes_opnD rfl rfl (by decide +kernel) ?_ | refine goes_opnN _ rfl rfl (by decide +kernel) ?_) <;> have hp := True.intro)) <;> simp only [hp, g1, g2, g3, g4, g5, hq, he, hlt, Bool.or_self, go_sem])
          · exact ih'
          · exfalso; apply hp; simp only [List.length_append, List.length_map, List.length_cons, List.length_nil]; omega
        | true =>
          have hp1 : ltB name s.Boxes[i] = true := hq
          have hp2 : gtB name s.Boxes[i] = false := by rw [gtB, hq, he]; rfl
          rw [hp1, if_pos rfl, holeB] at g3
          rw [hp2, if_neg (by simp), List.append_nil] at gs
          have ih' := ih (i + 1) hlt (by omega)
          rw [gs, ← moved2_skip hlt hp1] at ih'
          simp only [g1, g2, g3, g4, g5, hq, he, hlt, Bool.true_or, go_sem]
          repeat' ((first | ((first | apply qa | apply qb | apply qc | apply qd | apply qe | apply qf | apply qg | apply qh | apply qi | apply qj | apply qk) <;> intro hp) | ((first | refine ql rfl rfl (by decide +kernel) ?_ | refine qm _ rfl rfl (by decide +kernel) ?_ | refine goes_opn rfl ?_ | refine goes_opnD rfl rfl (by decide +kernel) ?_ | refine goes_opnN _ rfl rfl (by decide +kernel) ?_) <;> have hp := True.intro)) <;> simp only [hp, g1, g2, g3, g4, g5, hq, he, hlt, Bool.true_or, go_sem])
          exact ih'
      · have g1 : ¬ (i : Int) < s.Boxes.length := by omega
        simp only [g1, g4, go_sem]
        repeat' ((first | ((first | apply qa | apply qb | apply qc | apply qd | apply qe | apply qf | apply qg | apply qh | apply qi | apply qj | apply qk) <;> intro hp) | ((first | refine ql rfl rfl (by decide +kernel) ?_ | refine qm _ rfl rfl (by decide +kernel) ?_ | refine goes_opn rfl ?_ | refine goes_opnD rfl rfl (by decide +kernel) ?_ | refine goes_opnN _ rfl rfl (by decide +kernel) ?_) <;> have hp := True.intro)) <;> simp only [hp, g1, g4, go_sem])
        simp only [fin_mk, finV, resL, resV1, resIn, endA, listIn, Option.some_or, Option.none_or, oneOrTup, go_sem]
        rw [← hr]
        rw [List.take_of_length_le hge, fin, gt_filter hinc (no_name h), lt_filter hinc]; simp only [Store.enc, List.map_append, List.map_cons, List.map_nil, List.nil_append]; rfl
  · rintro i ⟨hi, h0⟩ ih ih2
    rcases Nat.lt_or_ge i s.Boxes.length with hlt | hge
    · have g1 : (i : Int) < s.Boxes.length := by omega
      have g2 : (0 : Int) ≤ i := by omega
      have g3 : s.Boxes[i]? = some s.Boxes[i] := List.getElem?_eq_getElem hlt
      have g5 := wrap_succ hlt (by omega)
      have gs := filter_take_succ (p := ltB name) hlt
      cases hq : Op.bytesLess s.Boxes[i].Name name with
      | true =>
        have hp1 : ltB name s.Boxes[i] = true := hq
        rw [hp1, if_pos rfl, h0, List.nil_append] at gs
        have ih' := ih2 (i + 1) ⟨hlt, by rw [gs]; simp⟩
        rw [gs, ← movedL_set hlt hp1, movedL_none h0] at ih'
        simp only [g1, g2, g3, g5, hq, hlt, go_sem]
        repeat' ((first | ((first | apply qa | apply qb | apply qc | apply qd | apply qe | apply qf | apply qg | apply qh | apply qi | apply qj | apply qk) <;> intro hp) | ((first | refine ql rfl rfl (by decide +kernel) ?_ | refine qm _ rfl rfl (by decide +kernel) ?_ | refine goes_opn rfl ?_ | refine goes_opnD rfl rfl (by decide +kernel) ?_ | refine goes_opnN _ rfl rfl (by decide +kernel) ?_) <;> have hp := True.intro)) <;> simp only [hp, g1, g2, g3, g5, hq, hlt, go_sem])
        exact ih'
      | false =>
        have hp1 : ltB name s.Boxes[i] = false := hq
        rw [hp1, if_neg (by simp), List.append_nil, h0] at gs
        have ih' := ih (i + 1) ⟨hlt, gs⟩ (by omega)
        simp only [g1, g2, g3, g5, hq, hlt, go_sem]
        repeat' ((first | ((first | apply qa | apply qb | apply qc | apply qd | apply qe | apply qf | apply qg | apply qh | apply qi | apply qj | apply qk) <;> intro hp) | ((first | refine ql rfl rfl (by decide +kernel) ?_ | refine qm _ rfl rfl (by decide +kernel) ?_ | refine goes_opn rfl ?_ | refine goes_opnD rfl rfl (by decide +kernel) ?_ | refine goes_opnN _ rfl rfl (by decide +kernel) ?_) <;> have hp := True.intro)) <;> simp only [hp, g1, g2, g3, g5, hq, hlt, go_sem])
        exact ih'
    · have g1 : ¬ (i : Int) < s.Boxes.length := by omega
      have hi' : i = s.Boxes.length := by omega
      subst hi'
      rw [List.take_length] at h0
      simp only [g1, hlb, go_sem]
      repeat' ((first | ((first | apply qa | apply qb | apply qc | apply qd | apply qe | apply qf | apply qg | apply qh | apply qi | apply qj | apply qk) <;> intro hp) | ((first | refine ql rfl rfl (by decide +kernel) ?_ | refine qm _ rfl rfl (by decide +kernel) ?_ | refine goes_opn rfl ?_ | refine goes_opnD rfl rfl (by decide +kernel) ?_ | refine goes_opnN _ rfl rfl (by decide +kernel) ?_) <;> have hp := True.intro)) <;> simp only [hp, g1, hlb, go_sem])
      refine loop_go (fun i : Nat => [(13, .int .i64 (i : Int))]) (fun i => [(3, ⟨.arr, 7, moved2 (ltB name) (gtB name) i s.Boxes⟩), (4, ⟨.arr, 7, [boxNew name s.Valid].map Box.enc ++ ((s.Boxes.take i).filter (gtB name)).map Box.enc⟩)]) (fun i => s.Boxes.length - i) (fun i => i ≤ s.Boxes.length) 0 (Nat.zero_le _) rfl (by rw [moved2_zero, movedL_none (by rw [List.take_length]; exact h0)]; simp only [List.take_zero, List.filter_nil, List.map_nil, List.append_nil]; rfl) ?_
      intro i hi ih
      have gb : [boxNew name s.Valid].length = 1 := rfl
      have g4 := moved2_len (p := ltB name) (q := gtB name) hi
      have gl : ((s.Boxes.take i).filter (gtB name)).length ≤ 4 := by
        have := List.length_filter_le (gtB name) (s.Boxes.take i); rw [List.length_take] at this; omega
      have gl0 : (s.Boxes.filter (ltB name)).length ≤ 4 := by
        have := List.length_filter_le (ltB name) s.Boxes; omega
      rcases Nat.lt_or_ge i s.Boxes.length with hlt | hge
      · have g1 : (i : Int) < s.Boxes.length := by omega
        have g2 : (0 : Int) ≤ i := by omega
        have g3 := moved2_at (p := ltB name) (q := gtB name) hlt
        have g5 := wrap_succ hlt (by omega)
        have gs := filter_take_succ (p := gtB name) hlt
        have he := no_name h i hlt
        cases hq : Op.bytesLess s.Boxes[i].Name name with
        | false =>
          have hp1 : ltB name s.Boxes[i] = false := hq
          have hp2 : gtB name s.Boxes[i] = true := by rw [gtB, hq, he]; rfl
          rw [hp1, if_neg (by simp)] at g3
          rw [hp2, if_pos rfl] at gs
          have ih' := ih (i + 1) hlt (by omega)
          rw [gs, ← moved2_set hlt hp2, List.map_append] at ih'
          simp only [← List.append_assoc] at ih'
          simp only [g1, g2, g3, g4, g5, hq, he, hlt, Bool.or_self, go_sem]
          repeat' ((first | ((first | apply qa | apply qb | apply qc | apply qd | apply qe | apply qf | apply qg | apply qh | apply qi | apply qj | apply qk) <;> intro hp) | ((first | refine ql rfl rfl (by decide +kernel) ?_ | refine qm _ rfl rfl (by decide +kernel) ?_ | refine goes_opn rfl ?_ | refine goes_opnD rfl rfl (by decide +kernel) ?_ | refine goes_opnN _ rfl rfl (by decide +kernel) ?_) <;> have hp := True.intro)) <;> simp only [hp, g1, g2, g3, g4, g5, hq, he, hlt, Bool.or_self, go_sem])
          · exact ih'
          · exfalso; apply hp; omega
        | true =>
          have hp1 : ltB name s.Boxes[i] = true := hq
          have hp2 : gtB name s.Boxes[i] = false := by rw [gtB, hq, he]; rfl
          rw [hp1, if_pos rfl, holeB] at g3
          rw [hp2, if_neg (by simp), List.append_nil] at gs
          have ih' := ih (i + 1) hlt (by omega)
          rw [gs, ← moved2_skip hlt hp1] at ih'
          simp only [g1, g2, g3, g4, g5, hq, he, hlt, Bool.true_or, go_sem]
          repeat' ((first | ((first | apply qa | apply qb | apply qc | apply qd | apply qe | apply qf | apply qg | apply qh | apply qi | apply qj | apply qk) <;> intro hp) | ((first | refine ql rfl rfl (by decide +kernel) ?_ | refine qm _ rfl rfl (by decide +kernel) ?_ | refine goes_opn rfl ?_ | refine goes_opnD rfl rfl (by decide +kernel) ?_ | refine goes_opnN _ rfl rfl (by decide +kernel) ?_) <;> have hp := True.intro)) <;> simp only [hp, g1, g2, g3, g4, g5, hq, he, hlt, Bool.true_or, go_sem])
          exact ih'
      · have g1 : ¬ (i : Int) < s.Boxes.length := by omega
        simp only [g1, g4, go_sem]
        repeat' ((first | ((first | apply qa | apply qb | apply qc | apply qd | apply qe | apply qf | apply qg | apply qh | apply qi | apply qj | apply qk) <;> intro hp) | ((first | refine ql rfl rfl (by decide +kernel) ?_ | refine qm _ rfl rfl (by decide +kernel) ?_ | refine goes_opn rfl ?_ | refine goes_opnD rfl rfl (by decide +kernel) ?_ | refine goes_opnN _ rfl rfl (by decide +kernel) ?_) <;> have hp := True.intro)) <;> simp only [hp, g1, g4, go_sem])
        simp only [fin_mk, finV, resL, resV1, resIn, endA, listIn, Option.some_or, Option.none_or, oneOrTup, go_sem]
        rw [← hr]
        rw [List.take_of_length_le hge, fin, gt_filter hinc (no_name h), ← lt_filter hinc, h0]; simp only [Store.enc, List.map_append, List.map_cons, List.map_nil, List.nil_append]; rfl
end Go.Proofs.YtjkhhplhjbmhjaaGreat.L

