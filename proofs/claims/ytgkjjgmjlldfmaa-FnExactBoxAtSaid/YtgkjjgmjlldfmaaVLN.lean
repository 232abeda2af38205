/- Stores: copies, a box of a name, a box in its place. -/
import Derived.Test.YtgkjjgmjlldfmaaVLH
import Derived.Test.YtgkjjgmjlldfmaaVLI
namespace Go.Proofs.Ytgkjjgmjlldfmaa.L
open Go Go.VM
set_option maxRecDepth 100000
set_option maxHeartbeats 4000000
set_option linter.unusedSimpArgs false
set_option linter.unusedVariables false
theorem boxes_le {s : Store} (h : s.le 4194304) : leL Box.le 4194304 s.Boxes := h
open Classical in
noncomputable def spCopyStore : VM.Spec := { modes := [.rd], run := fun | [s'] => (Store.dec s').bind fun s => if s.le 4194304 then some (Store.enc s, []) else none | _ => none, need := [] }
attribute [go_sem] spCopyStore
theorem spCopyStore_in {ins : List V} {r : V} {outs : List V} (h : spCopyStore.run ins = some (r, outs)) : ∃ (s : Store), ins = [Store.enc s] ∧ (s.le 4194304) ∧ Store.enc s = r ∧ outs = [] := by
  unfold spCopyStore at h
  simp only at h
  split at h
  · rename_i s'
    simp only [Option.bind_eq_some_iff] at h
    obtain ⟨s, h_s, h⟩ := h
    split at h
    case isFalse => cases h
    rename_i hc
    simp only [Option.some.injEq, Prod.mk.injEq] at h
    obtain ⟨h1, h2⟩ := h
    have h_s := Store.dec_some h_s
    subst h_s
    exact ⟨s, rfl, hc, h1, h2.symm⟩
  · cases h
def T_impl_copyStore : Hints := ⟨fun i => if i = 5 then some [(0, 3), (1, 3), (0, 4), (1, 4)] else none, fun i => if i = 3 then some [2, 3, 10, 11, 12] else none, fun i => if i = 0 then some [1, 2] else if i = 1 then some [1, 2, 3] else if i = 2 then some [2, 3, 10, 11, 12] else if i = 3 then some [2, 3, 10, 11, 12, 13] else if i = 4 then some [2, 3, 5, 10, 11, 12] else if i = 5 then some [2, 3, 10, 11, 12] else if i = 6 then some [2, 3, 10, 11, 12] else if i = 7 then some [2] else none, fun _ => none⟩
noncomputable def Phi_impl_copyStore : Tab := fun f => if f = 26 then some spCopyBox else none
attribute [go_sem] T_impl_copyStore Phi_impl_copyStore
theorem phi_impl_copyStore : ∀ f sp, Phi_impl_copyStore f = some sp → FnOk Try.prog f sp ∧ ∀ n ∈ sp.need, n ∈ ([] : List String) := by
  intro f sp h
  unfold Phi_impl_copyStore at h
  by_cases e : f = 26
  · rw [if_pos e] at h; cases h; rw [e]; exact ⟨ok_impl_copyBox, (fun n (h : n ∈ ([] : List String)) => (nomatch h))⟩
  rw [if_neg e] at h
  cases h
theorem ok_impl_copyStore : FnOk Try.prog 43 spCopyStore := by
  refine fn_ok (Φ := Phi_impl_copyStore) (T := T_impl_copyStore) phi_impl_copyStore mixed Try.func43 rfl rfl rfl (by decide) ?_
  intro ins r outs hr hl
  clear hl
  have hs := spCopyStore_in hr
  clear hr
  obtain ⟨s, rfl, hc, hr, rfl⟩ := hs
  simp only [spCopyStore, Try.f43, Go.VM.initS]
  obtain ⟨hl, hd⟩ := boxes_le hc
  rcases Nat.eq_zero_or_pos s.Boxes.length with h0 | h0
  · have e0 : s.Boxes = [] := List.eq_nil_of_length_eq_zero h0
    have g0 : ¬ (0 : Int) < s.Boxes.length := by omega
    simp only [go_sem]
    refine head_goes.2 ?_
    simp only [g0, go_sem]
    repeat' ((first | ((first | apply qa | apply qb | apply qc | apply qd | apply qe | apply qf | apply qg | apply qh | apply qi | apply qj | apply qk) <;> intro hp) | ((first | refine ql rfl rfl (by decide +kernel) ?_ | refine qm _ rfl rfl (by decide +kernel) ?_ | refine goes_opn rfl ?_ | refine goes_opnD rfl rfl (by decide +kernel) ?_) <;> have hp := True.intro)) <;> simp only [hp, g0, go_sem])
    simp only [fin_mk, finV, resL, resV1, resIn, endA, listIn, Option.some_or, Option.none_or, oneOrTup, go_sem]
    rw [← hr]
    rw [Store.enc, e0]; rfl
  have i1 : (0 : Int) < s.Boxes.length := by omega
  have i3 : s.Boxes[0]? = some s.Boxes[0] := List.getElem?_eq_getElem h0
  have ix := hd _ (List.getElem_mem h0)
  simp only [go_sem]
  refine head_goes.2 ?_
  simp only [i1, i3, ix, go_sem]
  repeat' ((first | ((first | apply qa | apply qb | apply qc | apply qd | apply qe | apply qf | apply qg | apply qh | apply qi | apply qj | apply qk) <;> intro hp) | ((first | refine ql rfl rfl (by decide +kernel) ?_ | refine qm _ rfl rfl (by decide +kernel) ?_ | refine goes_opn rfl ?_ | refine goes_opnD rfl rfl (by decide +kernel) ?_) <;> have hp := True.intro)) <;> simp only [hp, i1, i3, ix, go_sem])
  refine loop_go (fun i : Nat => [(12, .int .i64 (i : Int))]) (fun i => [(2, ⟨.arr, 7, (s.Boxes.take i).map Box.enc⟩)]) (fun i => s.Boxes.length - i) (fun i => 0 < i ∧ i ≤ s.Boxes.length) 1 ⟨by omega, h0⟩ rfl (by rw [List.take_add_one, i3]; rfl) ?_
  rintro i ⟨hp0, hi⟩ ih
  rcases Nat.lt_or_ge i s.Boxes.length with h | h
  · have g1 : (i : Int) < s.Boxes.length := by omega
    have g2 : (0 : Int) ≤ i := by omega
    have g3 : s.Boxes[i]? = some s.Boxes[i] := List.getElem?_eq_getElem h
    have g5 := wrap_succ h (by omega)
    have gx := hd _ (List.getElem_mem h)
    have gl : (s.Boxes.take i).length = i := by rw [List.length_take]; omega
    have g6 : (i + 1) * 96 ≤ 140737488355328 := by omega
    have g7 : i + 1 ≤ 9223372036854775807 := by omega
    have ih' := ih (i + 1) ⟨by omega, h⟩ (by omega)
    rw [take_succ_map _ h] at ih'
    simp only [g1, g2, g3, g5, gx, gl, g6, g7, go_sem]
    repeat' ((first | ((first | apply qa | apply qb | apply qc | apply qd | apply qe | apply qf | apply qg | apply qh | apply qi | apply qj | apply qk) <;> intro hp) | ((first | refine ql rfl rfl (by decide +kernel) ?_ | refine qm _ rfl rfl (by decide +kernel) ?_ | refine goes_opn rfl ?_ | refine goes_opnD rfl rfl (by decide +kernel) ?_) <;> have hp := True.intro)) <;> simp only [hp, g1, g2, g3, g5, gx, gl, g6, g7, go_sem])
    exact ih'
  · have g1 : ¬ (i : Int) < s.Boxes.length := by omega
    simp only [g1, go_sem]
    repeat' ((first | ((first | apply qa | apply qb | apply qc | apply qd | apply qe | apply qf | apply qg | apply qh | apply qi | apply qj | apply qk) <;> intro hp) | ((first | refine ql rfl rfl (by decide +kernel) ?_ | refine qm _ rfl rfl (by decide +kernel) ?_ | refine goes_opn rfl ?_ | refine goes_opnD rfl rfl (by decide +kernel) ?_) <;> have hp := True.intro)) <;> simp only [hp, g1, go_sem])
    simp only [fin_mk, finV, resL, resV1, resIn, endA, listIn, Option.some_or, Option.none_or, oneOrTup, go_sem]
    rw [← hr]
    rw [List.take_of_length_le h]; rfl
def T_spec_l09Copy : Hints := ⟨fun i => if i = 5 then some [(0, 7), (1, 7), (0, 8), (1, 8)] else none, fun i => if i = 3 then some [1, 2, 3, 4] else none, fun i => if i = 0 then some [1, 2] else if i = 1 then some [1, 2, 3] else if i = 2 then some [1, 2, 3, 4] else if i = 3 then some [1, 2, 3, 4, 12] else if i = 5 then some [1, 2, 3, 4] else if i = 4 then some [1, 2, 3, 4] else if i = 6 then some [2] else none, fun _ => none⟩
noncomputable def Phi_spec_l09Copy : Tab := fun f => if f = 23 then some spCopyBox else none
attribute [go_sem] T_spec_l09Copy Phi_spec_l09Copy
theorem phi_spec_l09Copy : ∀ f sp, Phi_spec_l09Copy f = some sp → FnOk Try.prog f sp ∧ ∀ n ∈ sp.need, n ∈ ([] : List String) := by
  intro f sp h
  unfold Phi_spec_l09Copy at h
  by_cases e : f = 23
  · rw [if_pos e] at h; cases h; rw [e]; exact ⟨ok_spec_l08Copy, (fun n (h : n ∈ ([] : List String)) => (nomatch h))⟩
  rw [if_neg e] at h
  cases h
theorem ok_spec_l09Copy : FnOk Try.prog 40 spCopyStore := by
  refine fn_ok (Φ := Phi_spec_l09Copy) (T := T_spec_l09Copy) phi_spec_l09Copy mixed Try.func40 rfl rfl rfl (by decide) ?_
  intro ins r outs hr hl
  clear hl
  have hs := spCopyStore_in hr
  clear hr
  obtain ⟨s, rfl, hc, hr, rfl⟩ := hs
  simp only [spCopyStore, Try.f40, Go.VM.initS]
  obtain ⟨hl, hd⟩ := boxes_le hc
  rcases Nat.eq_zero_or_pos s.Boxes.length with h0 | h0
  · have e0 : s.Boxes = [] := List.eq_nil_of_length_eq_zero h0
    have g0 : ¬ (0 : Int) < s.Boxes.length := by omega
    simp only [go_sem]
    refine head_goes.2 ?_
    simp only [g0, go_sem]
    repeat' ((first | ((first | apply qa | apply qb | apply qc | apply qd | apply qe | apply qf | apply qg | apply qh | apply qi | apply qj | apply qk) <;> intro hp) | ((first | refine ql rfl rfl (by decide +kernel) ?_ | refine qm _ rfl rfl (by decide +kernel) ?_ | refine goes_opn rfl ?_ | refine goes_opnD rfl rfl (by decide +kernel) ?_) <;> have hp := True.intro)) <;> simp only [hp, g0, go_sem])
    simp only [fin_mk, finV, resL, resV1, resIn, endA, listIn, Option.some_or, Option.none_or, oneOrTup, go_sem]
    rw [← hr]
    rw [Store.enc, e0]; rfl
  have i1 : (0 : Int) < s.Boxes.length := by omega
  have i3 : s.Boxes[0]? = some s.Boxes[0] := List.getElem?_eq_getElem h0
  have ix := hd _ (List.getElem_mem h0)
  simp only [go_sem]
  refine head_goes.2 ?_
  simp only [i1, i3, ix, go_sem]
  repeat' ((first | ((first | apply qa | apply qb | apply qc | apply qd | apply qe | apply qf | apply qg | apply qh | apply qi | apply qj | apply qk) <;> intro hp) | ((first | refine ql rfl rfl (by decide +kernel) ?_ | refine qm _ rfl rfl (by decide +kernel) ?_ | refine goes_opn rfl ?_ | refine goes_opnD rfl rfl (by decide +kernel) ?_) <;> have hp := True.intro)) <;> simp only [hp, i1, i3, ix, go_sem])
  refine loop_go (fun i : Nat => [(4, .int .i64 (i : Int))]) (fun i => [(3, ⟨.arr, 7, (s.Boxes.take i).map Box.enc⟩)]) (fun i => s.Boxes.length - i) (fun i => 0 < i ∧ i ≤ s.Boxes.length) 1 ⟨by omega, h0⟩ rfl (by rw [List.take_add_one, i3]; rfl) ?_
  rintro i ⟨hp0, hi⟩ ih
  rcases Nat.lt_or_ge i s.Boxes.length with h | h
  · have g1 : (i : Int) < s.Boxes.length := by omega
    have g2 : (0 : Int) ≤ i := by omega
    have g3 : s.Boxes[i]? = some s.Boxes[i] := List.getElem?_eq_getElem h
    have g5 := wrap_succ h (by omega)
    have gx := hd _ (List.getElem_mem h)
    have gl : (s.Boxes.take i).length = i := by rw [List.length_take]; omega
    have g6 : (i + 1) * 96 ≤ 140737488355328 := by omega
    have g7 : i + 1 ≤ 9223372036854775807 := by omega
    have ih' := ih (i + 1) ⟨by omega, h⟩ (by omega)
    rw [take_succ_map _ h] at ih'
    simp only [g1, g2, g3, g5, gx, gl, g6, g7, go_sem]
    repeat' ((first | ((first | apply qa | apply qb | apply qc | apply qd | apply qe | apply qf | apply qg | apply qh | apply qi | apply qj | apply qk) <;> intro hp) | ((first | refine ql rfl rfl (by decide +kernel) ?_ | refine qm _ rfl rfl (by decide +kernel) ?_ | refine goes_opn rfl ?_ | refine goes_opnD rfl rfl (by decide +kernel) ?_) <;> have hp := True.intro)) <;> simp only [hp, g1, g2, g3, g5, gx, gl, g6, g7, go_sem])
    exact ih'
  · have g1 : ¬ (i : Int) < s.Boxes.length := by omega
    simp only [g1, go_sem]
    repeat' ((first | ((first | apply qa | apply qb | apply qc | apply qd | apply qe | apply qf | apply qg | apply qh | apply qi | apply qj | apply qk) <;> intro hp) | ((first | refine ql rfl rfl (by decide +kernel) ?_ | refine qm _ rfl rfl (by decide +kernel) ?_ | refine goes_opn rfl ?_ | refine goes_opnD rfl rfl (by decide +kernel) ?_) <;> have hp := True.intro)) <;> simp only [hp, g1, go_sem])
    simp only [fin_mk, finV, resL, resV1, resIn, endA, listIn, Option.some_or, Option.none_or, oneOrTup, go_sem]
    rw [← hr]
    rw [List.take_of_length_le h]; rfl
def nameIx (s : List Box) (name : List UInt8) : Int := idxL (fun b : Box => b.Name == name) s
def boxGet (s : Store) (name : List UInt8) : Box := if 0 ≤ nameIx s.Boxes name then s.Boxes.getD (nameIx s.Boxes name).toNat boxZero else boxZero
def boxHas (s : Store) (name : List UInt8) : Bool := decide (0 ≤ nameIx s.Boxes name)
open Classical in
noncomputable def spSameName : VM.Spec := { modes := [.rd, .rd], run := fun | [b', .rptr (.str name)] => (Box.dec b').bind fun b => some (.bool ((b.Name == name)), []) | _ => none, need := [] }
attribute [go_sem] spSameName
theorem spSameName_in {ins : List V} {r : V} {outs : List V} (h : spSameName.run ins = some (r, outs)) : ∃ (b : Box) (name : (List UInt8)), ins = [Box.enc b, .rptr (.str name)] ∧ .bool ((b.Name == name)) = r ∧ outs = [] := by
  unfold spSameName at h
  simp only at h
  split at h
  · rename_i b' name
    simp only [Option.bind_eq_some_iff] at h
    obtain ⟨b, h_b, h⟩ := h
    simp only [Option.some.injEq, Prod.mk.injEq] at h
    obtain ⟨h1, h2⟩ := h
    have h_b := Box.dec_some h_b
    subst h_b
    exact ⟨b, name, rfl, h1, h2.symm⟩
  · cases h
def T_impl_boxAt_1 : Hints := ⟨fun _ => none, fun _ => none, fun i => if i = 0 then some [1, 2] else if i = 1 then some [3] else none, fun _ => none⟩
noncomputable def Phi_impl_boxAt_1 : Tab := fun f => none
attribute [go_sem] T_impl_boxAt_1 Phi_impl_boxAt_1
theorem phi_impl_boxAt_1 : ∀ f sp, Phi_impl_boxAt_1 f = some sp → FnOk Try.prog f sp ∧ ∀ n ∈ sp.need, n ∈ ([] : List String) := by
  intro f sp h
  unfold Phi_impl_boxAt_1 at h
  cases h
theorem ok_impl_boxAt_1 : FnOk Try.prog 45 spSameName := by
  refine fn_ok (Φ := Phi_impl_boxAt_1) (T := T_impl_boxAt_1) phi_impl_boxAt_1 mixed Try.func45 rfl rfl rfl (by decide) ?_
  intro ins r outs hr hl
  clear hl
  have hs := spSameName_in hr
  clear hr
  obtain ⟨b, name, rfl, hr, rfl⟩ := hs
  simp only [spSameName, Try.f45, Go.VM.initS]
  simp only [go_sem]
  repeat' ((first | ((first | apply qa | apply qb | apply qc | apply qd | apply qe | apply qf | apply qg | apply qh | apply qi | apply qj | apply qk) <;> intro hp) | ((first | refine ql rfl rfl (by decide +kernel) ?_ | refine qm _ rfl rfl (by decide +kernel) ?_ | refine goes_opn rfl ?_ | refine goes_opnD rfl rfl (by decide +kernel) ?_) <;> have hp := True.intro)) <;> simp only [hp, go_sem])
  simp only [fin_mk, finV, resL, resV1, resIn, endA, listIn, Option.some_or, Option.none_or, oneOrTup, go_sem]
  rw [← hr]
open Classical in
noncomputable def spIdxName : VM.Spec := { modes := [.rd, .rd], run := fun | [.lst 7 l', .fn 45 [.rptr (.str name)]] => (decL Box.dec l').bind fun l => if l.length ≤ 4194304 then some (.int .i64 (nameIx l name), []) else none | _ => none, need := [] }
attribute [go_sem] spIdxName
theorem spIdxName_in {ins : List V} {r : V} {outs : List V} (h : spIdxName.run ins = some (r, outs)) : ∃ (l : (List Box)) (name : (List UInt8)), ins = [.lst 7 ((l).map Box.enc), .fn 45 [.rptr (.str name)]] ∧ (l.length ≤ 4194304) ∧ .int .i64 (nameIx l name) = r ∧ outs = [] := by
  unfold spIdxName at h
  simp only at h
  split at h
  · rename_i l' name
    simp only [Option.bind_eq_some_iff] at h
    obtain ⟨l, h_l, h⟩ := h
    split at h
    case isFalse => cases h
    rename_i hc
    simp only [Option.some.injEq, Prod.mk.injEq] at h
    obtain ⟨h1, h2⟩ := h
    have h_l := decL_some (fun _ _ h => Box.dec_some h) h_l
    subst h_l
    exact ⟨l, name, rfl, hc, h1, h2.symm⟩
  · cases h
def T_slices_IndexFunc_loop_example_g00247_impl_Box_loop_example_g00247_impl_Box : Hints := ⟨fun _ => none, fun i => if i = 2 then some [0, 1, 7, 8] else none, fun i => if i = 0 then some [0, 1] else if i = 1 then some [0, 1, 7, 8] else if i = 2 then some [0, 1, 7, 8, 9] else if i = 3 then some [0, 1, 5, 7, 8] else if i = 4 then some [0, 1, 5, 7, 8, 16] else if i = 5 then some [4] else if i = 6 then some [0, 1, 7, 8] else if i = 7 then some [4] else none, fun _ => none⟩
noncomputable def Phi_slices_IndexFunc_loop_example_g00247_impl_Box_loop_example_g00247_impl_Box : Tab := fun f => if f = 45 then some spSameName else none
attribute [go_sem] T_slices_IndexFunc_loop_example_g00247_impl_Box_loop_example_g00247_impl_Box Phi_slices_IndexFunc_loop_example_g00247_impl_Box_loop_example_g00247_impl_Box
theorem phi_slices_IndexFunc_loop_example_g00247_impl_Box_loop_example_g00247_impl_Box : ∀ f sp, Phi_slices_IndexFunc_loop_example_g00247_impl_Box_loop_example_g00247_impl_Box f = some sp → FnOk Try.prog f sp ∧ ∀ n ∈ sp.need, n ∈ ([] : List String) := by
  intro f sp h
  unfold Phi_slices_IndexFunc_loop_example_g00247_impl_Box_loop_example_g00247_impl_Box at h
  by_cases e : f = 45
  · rw [if_pos e] at h; cases h; rw [e]; exact ⟨ok_impl_boxAt_1, (fun n (h : n ∈ ([] : List String)) => (nomatch h))⟩
  rw [if_neg e] at h
  cases h
theorem ok_slices_IndexFunc_loop_example_g00247_impl_Box_loop_example_g00247_impl_Box : FnOk Try.prog 44 spIdxName := by
  refine fn_ok (Φ := Phi_slices_IndexFunc_loop_example_g00247_impl_Box_loop_example_g00247_impl_Box) (T := T_slices_IndexFunc_loop_example_g00247_impl_Box_loop_example_g00247_impl_Box) phi_slices_IndexFunc_loop_example_g00247_impl_Box_loop_example_g00247_impl_Box mixed Try.func44 rfl rfl rfl (by decide) ?_
  intro ins r outs hr hl
  clear hl
  have hs := spIdxName_in hr
  clear hr
  obtain ⟨l, name, rfl, hc, hr, rfl⟩ := hs
  simp only [spIdxName, Try.f44, Go.VM.initS]
  simp only [go_sem]
  refine loop_go (fun i : Nat => [(8, .int .i64 (i : Int))]) (fun _ => []) (fun i => l.length - i) (fun i => i ≤ l.length ∧ ∀ j (hj : j < i) (hj' : j < l.length), (l[j].Name == name) = false) 0 ⟨Nat.zero_le _, fun j hj => by omega⟩ rfl rfl ?_
  rintro i ⟨hi, ha⟩ ih
  rcases Nat.lt_or_ge i l.length with h | h
  · have g1 : (i : Int) < l.length := by omega
    have g2 : (0 : Int) ≤ i := by omega
    have g3 : l[i]? = some l[i] := List.getElem?_eq_getElem h
    have g5 := wrap_succ h (by omega)
    cases hq : (l[i].Name == name) with
    | true =>
      simp only [g1, g2, g3, g5, hq, go_sem]
      repeat' ((first | ((first | apply qa | apply qb | apply qc | apply qd | apply qe | apply qf | apply qg | apply qh | apply qi | apply qj | apply qk) <;> intro hp) | ((first | refine ql rfl rfl (by decide +kernel) ?_ | refine qm _ rfl rfl (by decide +kernel) ?_ | refine goes_opn rfl ?_ | refine goes_opnD rfl rfl (by decide +kernel) ?_) <;> have hp := True.intro)) <;> simp only [hp, g1, g2, g3, g5, hq, go_sem])
      simp only [fin_mk, finV, resL, resV1, resIn, endA, listIn, Option.some_or, Option.none_or, oneOrTup, go_sem]
      rw [← hr]
      rw [nameIx, idxL_hit h (fun j hj => ha j hj (by omega)) hq]
    | false =>
      simp only [g1, g2, g3, g5, hq, go_sem]
      repeat' ((first | ((first | apply qa | apply qb | apply qc | apply qd | apply qe | apply qf | apply qg | apply qh | apply qi | apply qj | apply qk) <;> intro hp) | ((first | refine ql rfl rfl (by decide +kernel) ?_ | refine qm _ rfl rfl (by decide +kernel) ?_ | refine goes_opn rfl ?_ | refine goes_opnD rfl rfl (by decide +kernel) ?_) <;> have hp := True.intro)) <;> simp only [hp, g1, g2, g3, g5, hq, go_sem])
      refine ih (i + 1) ⟨h, fun j hj hj' => ?_⟩ (by omega)
      rcases Nat.lt_or_ge j i with h1 | h1
      · exact ha j h1 hj'
      · have : j = i := by omega
        subst this; exact hq
  · have g1 : ¬ (i : Int) < l.length := by omega
    simp only [g1, go_sem]
    simp only [fin_mk, finV, resL, resV1, resIn, endA, listIn, Option.some_or, Option.none_or, oneOrTup, go_sem]
    rw [← hr]
    rw [nameIx, idxL_miss fun j hj => ha j (by omega) hj]
open Classical in
noncomputable def spBoxIx : VM.Spec := { modes := [.rd, .rd], run := fun | [s', .str name] => (Store.dec s').bind fun s => if s.le 4194304 then some (.int .i64 (nameIx s.Boxes name), []) else none | _ => none, need := [] }
attribute [go_sem] spBoxIx
theorem spBoxIx_in {ins : List V} {r : V} {outs : List V} (h : spBoxIx.run ins = some (r, outs)) : ∃ (s : Store) (name : (List UInt8)), ins = [Store.enc s, .str name] ∧ (s.le 4194304) ∧ .int .i64 (nameIx s.Boxes name) = r ∧ outs = [] := by
  unfold spBoxIx at h
  simp only at h
  split at h
  · rename_i s' name
    simp only [Option.bind_eq_some_iff] at h
    obtain ⟨s, h_s, h⟩ := h
    split at h
    case isFalse => cases h
    rename_i hc
    simp only [Option.some.injEq, Prod.mk.injEq] at h
    obtain ⟨h1, h2⟩ := h
    have h_s := Store.dec_some h_s
    subst h_s
    exact ⟨s, name, rfl, hc, h1, h2.symm⟩
  · cases h
def T_impl_boxAt : Hints := ⟨fun _ => none, fun _ => none, fun i => if i = 0 then some [2, 3] else if i = 1 then some [4] else none, fun _ => none⟩
noncomputable def Phi_impl_boxAt : Tab := fun f => if f = 44 then some spIdxName else none
attribute [go_sem] T_impl_boxAt Phi_impl_boxAt
theorem phi_impl_boxAt : ∀ f sp, Phi_impl_boxAt f = some sp → FnOk Try.prog f sp ∧ ∀ n ∈ sp.need, n ∈ ([] : List String) := by
  intro f sp h
  unfold Phi_impl_boxAt at h
  by_cases e : f = 44
  · rw [if_pos e] at h; cases h; rw [e]; exact ⟨ok_slices_IndexFunc_loop_example_g00247_impl_Box_loop_example_g00247_impl_Box, (fun n (h : n ∈ ([] : List String)) => (nomatch h))⟩
  rw [if_neg e] at h
  cases h
theorem ok_impl_boxAt : FnOk Try.prog 25 spBoxIx := by
  refine fn_ok (Φ := Phi_impl_boxAt) (T := T_impl_boxAt) phi_impl_boxAt mixed Try.func25 rfl rfl rfl (by decide) ?_
  intro ins r outs hr hl
  clear hl
  have hs := spBoxIx_in hr
  clear hr
  obtain ⟨s, name, rfl, hc, hr, rfl⟩ := hs
  simp only [spBoxIx, Try.f25, Go.VM.initS]
  have hl := (boxes_le hc).1
  simp only [hl, go_sem]
  repeat' ((first | ((first | apply qa | apply qb | apply qc | apply qd | apply qe | apply qf | apply qg | apply qh | apply qi | apply qj | apply qk) <;> intro hp) | ((first | refine ql rfl rfl (by decide +kernel) ?_ | refine qm _ rfl rfl (by decide +kernel) ?_ | refine goes_opn rfl ?_ | refine goes_opnD rfl rfl (by decide +kernel) ?_) <;> have hp := True.intro)) <;> simp only [hp, hl, go_sem])
  simp only [fin_mk, finV, resL, resV1, resIn, endA, listIn, Option.some_or, Option.none_or, oneOrTup, go_sem]
  rw [← hr]
theorem nameIx_at {l : List Box} {name : List UInt8} (h : 0 ≤ nameIx l name) : ∃ hi : (nameIx l name).toNat < l.length, ((nameIx l name).toNat : Int) = nameIx l name ∧ (l[(nameIx l name).toNat].Name == name) = true := by
  have h1 := idxL_ge (fun b : Box => b.Name == name) l
  have h2 : (nameIx l name).toNat < l.length := by have := h1.2; unfold nameIx at h ⊢; omega
  refine ⟨h2, by omega, ?_⟩
  have key : ∀ (l : List Box), 0 ≤ nameIx l name → ∀ h2 : (nameIx l name).toNat < l.length, (l[(nameIx l name).toNat].Name == name) = true := by
    intro l
    induction l with
    | nil => intro h; simp [nameIx, idxL] at h
    | cons x l ih =>
      intro h0 h2
      by_cases hx : (x.Name == name) = true
      · have e : nameIx (x :: l) name = 0 := by simp [nameIx, idxL, hx]
        simp only [e, Int.toNat_zero, List.getElem_cons_zero]; exact hx
      · have hge := idxL_ge (fun b : Box => b.Name == name) l
        have e : nameIx (x :: l) name = if nameIx l name = -1 then -1 else nameIx l name + 1 := by
          rw [nameIx, idxL, if_neg hx]; rfl
        by_cases hm : nameIx l name = -1
        · rw [e, if_pos hm] at h0; omega
        · rw [if_neg hm] at e
          have h3 : 0 ≤ nameIx l name := by have := hge.1; unfold nameIx at hm ⊢; omega
          have h4 : (nameIx (x :: l) name).toNat = (nameIx l name).toNat + 1 := by rw [e]; omega
          simp only [h4, List.getElem_cons_succ]
          exact ih h3 (by have := hge.2; unfold nameIx at h3 ⊢; omega)
  exact key l h h2
theorem boxGet_at {s : Store} {name : List UInt8} (h : 0 ≤ nameIx s.Boxes name) (hi : (nameIx s.Boxes name).toNat < s.Boxes.length) : boxGet s name = s.Boxes[(nameIx s.Boxes name).toNat] := by
  rw [boxGet, if_pos h, getD_lt hi]
theorem boxZero_le : boxZero.le 4194304 := ⟨by simp [boxZero, leS], ⟨by simp [boxZero], by simp [boxZero]⟩, ⟨by simp [boxZero], by simp [boxZero]⟩⟩
theorem boxGet_le {s : Store} {name : List UInt8} (hc : s.le 4194304) : (boxGet s name).le 4194304 := by
  unfold boxGet
  split
  · rename_i h
    obtain ⟨hi, _, _⟩ := nameIx_at h
    rw [getD_lt hi]
    exact (boxes_le hc).2 _ (List.getElem_mem hi)
  · exact boxZero_le
open Classical in
noncomputable def spBoxAt : VM.Spec := { modes := [.rd, .rd], run := fun | [s', .str name] => (Store.dec s').bind fun s => if s.le 4194304 then some (.tup [Box.enc (boxGet s name), .bool (boxHas s name)], []) else none | _ => none, need := [] }
attribute [go_sem] spBoxAt
theorem spBoxAt_in {ins : List V} {r : V} {outs : List V} (h : spBoxAt.run ins = some (r, outs)) : ∃ (s : Store) (name : (List UInt8)), ins = [Store.enc s, .str name] ∧ (s.le 4194304) ∧ .tup [Box.enc (boxGet s name), .bool (boxHas s name)] = r ∧ outs = [] := by
  unfold spBoxAt at h
  simp only at h
  split at h
  · rename_i s' name
    simp only [Option.bind_eq_some_iff] at h
    obtain ⟨s, h_s, h⟩ := h
    split at h
    case isFalse => cases h
    rename_i hc
    simp only [Option.some.injEq, Prod.mk.injEq] at h
    obtain ⟨h1, h2⟩ := h
    have h_s := Store.dec_some h_s
    subst h_s
    exact ⟨s, name, rfl, hc, h1, h2.symm⟩
  · cases h
def T_impl_BoxAt : Hints := ⟨fun _ => none, fun _ => none, fun i => if i = 0 then some [1, 2, 4] else if i = 1 then some [2, 4, 6] else if i = 2 then some [2, 4, 6, 11] else if i = 3 then some [4, 5] else if i = 4 then some [4, 5] else none, fun _ => none⟩
noncomputable def Phi_impl_BoxAt : Tab := fun f => if f = 25 then some spBoxIx else if f = 26 then some spCopyBox else none
attribute [go_sem] T_impl_BoxAt Phi_impl_BoxAt
theorem phi_impl_BoxAt : ∀ f sp, Phi_impl_BoxAt f = some sp → FnOk Try.prog f sp ∧ ∀ n ∈ sp.need, n ∈ ([] : List String) := by
  intro f sp h
  unfold Phi_impl_BoxAt at h
  by_cases e : f = 25
  · rw [if_pos e] at h; cases h; rw [e]; exact ⟨ok_impl_boxAt, (fun n (h : n ∈ ([] : List String)) => (nomatch h))⟩
  rw [if_neg e] at h
  by_cases e : f = 26
  · rw [if_pos e] at h; cases h; rw [e]; exact ⟨ok_impl_copyBox, (fun n (h : n ∈ ([] : List String)) => (nomatch h))⟩
  rw [if_neg e] at h
  cases h
theorem ok_impl_BoxAt : FnOk Try.prog 9 spBoxAt := by
  refine fn_ok (Φ := Phi_impl_BoxAt) (T := T_impl_BoxAt) phi_impl_BoxAt mixed Try.func9 rfl rfl rfl (by decide) ?_
  intro ins r outs hr hl
  clear hl
  have hs := spBoxAt_in hr
  clear hr
  obtain ⟨s, name, rfl, hc, hr, rfl⟩ := hs
  simp only [spBoxAt, Try.f9, Go.VM.initS]
  have hl := (boxes_le hc).1
  by_cases h : 0 ≤ nameIx s.Boxes name
  · obtain ⟨hi, h1, h2⟩ := nameIx_at h
    have g1 : ¬ nameIx s.Boxes name < 0 := by omega
    have g2 : nameIx s.Boxes name < s.Boxes.length := by omega
    have g3 : s.Boxes[(nameIx s.Boxes name).toNat]? = some s.Boxes[(nameIx s.Boxes name).toNat] := List.getElem?_eq_getElem hi
    have gx := (boxes_le hc).2 _ (List.getElem_mem hi)
    simp only [hc, hl, g1, g2, g3, gx, h, go_sem]
    repeat' ((first | ((first | apply qa | apply qb | apply qc | apply qd | apply qe | apply qf | apply qg | apply qh | apply qi | apply qj | apply qk) <;> intro hp) | ((first | refine ql rfl rfl (by decide +kernel) ?_ | refine qm _ rfl rfl (by decide +kernel) ?_ | refine goes_opn rfl ?_ | refine goes_opnD rfl rfl (by decide +kernel) ?_) <;> have hp := True.intro)) <;> simp only [hp, hc, hl, g1, g2, g3, gx, h, go_sem])
    simp only [fin_mk, finV, resL, resV1, resIn, endA, listIn, Option.some_or, Option.none_or, oneOrTup, go_sem]
    rw [← hr]
    rw [boxGet_at h hi, boxHas]
    simp only [h, decide_true]; rfl
  · have g1 : nameIx s.Boxes name < 0 := by omega
    simp only [hc, hl, g1, go_sem]
    repeat' ((first | ((first | apply qa | apply qb | apply qc | apply qd | apply qe | apply qf | apply qg | apply qh | apply qi | apply qj | apply qk) <;> intro hp) | ((first | refine ql rfl rfl (by decide +kernel) ?_ | refine qm _ rfl rfl (by decide +kernel) ?_ | refine goes_opn rfl ?_ | refine goes_opnD rfl rfl (by decide +kernel) ?_) <;> have hp := True.intro)) <;> simp only [hp, hc, hl, g1, go_sem])
    simp only [fin_mk, finV, resL, resV1, resIn, endA, listIn, Option.some_or, Option.none_or, oneOrTup, go_sem]
    rw [← hr]
    rw [boxGet, if_neg h, boxHas]
    simp only [h, decide_false]; rfl
def T_spec_BoxAt : Hints := ⟨fun _ => none, fun i => if i = 2 then some [1, 2, 4, 6] else none, fun i => if i = 0 then some [1, 2, 4] else if i = 1 then some [1, 2, 4, 6] else if i = 2 then some [1, 2, 4, 6, 11] else if i = 4 then some [1, 2, 4, 6, 21] else if i = 5 then some [4, 5] else if i = 3 then some [1, 2, 4, 6] else if i = 6 then some [4, 5] else none, fun _ => none⟩
noncomputable def Phi_spec_BoxAt : Tab := fun f => if f = 23 then some spCopyBox else none
attribute [go_sem] T_spec_BoxAt Phi_spec_BoxAt
theorem phi_spec_BoxAt : ∀ f sp, Phi_spec_BoxAt f = some sp → FnOk Try.prog f sp ∧ ∀ n ∈ sp.need, n ∈ ([] : List String) := by
  intro f sp h
  unfold Phi_spec_BoxAt at h
  by_cases e : f = 23
  · rw [if_pos e] at h; cases h; rw [e]; exact ⟨ok_spec_l08Copy, (fun n (h : n ∈ ([] : List String)) => (nomatch h))⟩
  rw [if_neg e] at h
  cases h
theorem ok_spec_BoxAt : FnOk Try.prog 7 spBoxAt := by
  refine fn_ok (Φ := Phi_spec_BoxAt) (T := T_spec_BoxAt) phi_spec_BoxAt mixed Try.func7 rfl rfl rfl (by decide) ?_
  intro ins r outs hr hl
  clear hl
  have hs := spBoxAt_in hr
  clear hr
  obtain ⟨s, name, rfl, hc, hr, rfl⟩ := hs
  simp only [spBoxAt, Try.f7, Go.VM.initS]
  have hl := (boxes_le hc).1
  simp only [go_sem]
  refine loop_go (fun i : Nat => [(6, .int .i64 (i : Int))]) (fun _ => []) (fun i => s.Boxes.length - i) (fun i => i ≤ s.Boxes.length ∧ ∀ j (hj : j < i) (hj' : j < s.Boxes.length), (s.Boxes[j].Name == name) = false) 0 ⟨Nat.zero_le _, fun j hj => by omega⟩ rfl rfl ?_
  rintro i ⟨hi, ha⟩ ih
  rcases Nat.lt_or_ge i s.Boxes.length with h | h
  · have g1 : (i : Int) < s.Boxes.length := by omega
    have g2 : (0 : Int) ≤ i := by omega
    have g3 : s.Boxes[i]? = some s.Boxes[i] := List.getElem?_eq_getElem h
    have g5 := wrap_succ h (by omega)
    have gx := (boxes_le hc).2 _ (List.getElem_mem h)
    cases hq : (s.Boxes[i].Name == name) with
    | true =>
      simp only [g1, g2, g3, g5, gx, hq, go_sem]
      repeat' ((first | ((first | apply qa | apply qb | apply qc | apply qd | apply qe | apply qf | apply qg | apply qh | apply qi | apply qj | apply qk) <;> intro hp) | ((first | refine ql rfl rfl (by decide +kernel) ?_ | refine qm _ rfl rfl (by decide +kernel) ?_ | refine goes_opn rfl ?_ | refine goes_opnD rfl rfl (by decide +kernel) ?_) <;> have hp := True.intro)) <;> simp only [hp, g1, g2, g3, g5, gx, hq, go_sem])
      simp only [fin_mk, finV, resL, resV1, resIn, endA, listIn, Option.some_or, Option.none_or, oneOrTup, go_sem]
      rw [← hr]
      have e : nameIx s.Boxes name = i := idxL_hit h (fun j hj => ha j hj (by omega)) hq
      have e0 : 0 ≤ nameIx s.Boxes name := by omega
      rw [boxHas, boxGet, if_pos e0]
      simp only [e0, decide_true, e, Int.toNat_natCast, getD_lt h]; rfl
    | false =>
      simp only [g1, g2, g3, g5, gx, hq, go_sem]
      repeat' ((first | ((first | apply qa | apply qb | apply qc | apply qd | apply qe | apply qf | apply qg | apply qh | apply qi | apply qj | apply qk) <;> intro hp) | ((first | refine ql rfl rfl (by decide +kernel) ?_ | refine qm _ rfl rfl (by decide +kernel) ?_ | refine goes_opn rfl ?_ | refine goes_opnD rfl rfl (by decide +kernel) ?_) <;> have hp := True.intro)) <;> simp only [hp, g1, g2, g3, g5, gx, hq, go_sem])
      refine ih (i + 1) ⟨h, fun j hj hj' => ?_⟩ (by omega)
      rcases Nat.lt_or_ge j i with h1 | h1
      · exact ha j h1 hj'
      · have : j = i := by omega
        subst this; exact hq
  · have g1 : ¬ (i : Int) < s.Boxes.length := by omega
    simp only [g1, go_sem]
    simp only [fin_mk, finV, resL, resV1, resIn, endA, listIn, Option.some_or, Option.none_or, oneOrTup, go_sem]
    rw [← hr]
    have e : nameIx s.Boxes name = -1 := idxL_miss fun j hj => ha j (by omega) hj
    rw [boxHas, boxGet, e]; rfl
def putBox (s : Store) (b : Box) : Store := if 0 ≤ nameIx s.Boxes b.Name then { s with Boxes := s.Boxes.set (nameIx s.Boxes b.Name).toNat b } else s
theorem putBox_le {s : Store} {b : Box} (hs : s.le 4194304) (hb : b.le 4194304) : (putBox s b).le 4194304 := by
  unfold putBox
  split
  · show leL Box.le 4194304 _
    refine ⟨by rw [List.length_set]; exact (boxes_le hs).1, fun x hx => ?_⟩
    rcases List.mem_or_eq_of_mem_set hx with h | rfl
    · exact (boxes_le hs).2 x h
    · exact hb
  · exact hs
open Classical in
noncomputable def spPutBox : VM.Spec := { modes := [.rd, .rd], run := fun | [s', b'] => (Store.dec s').bind fun s => (Box.dec b').bind fun b => if s.le 4194304 ∧ b.le 4194304 then some (Store.enc (putBox s b), []) else none | _ => none, need := [] }
attribute [go_sem] spPutBox
theorem spPutBox_in {ins : List V} {r : V} {outs : List V} (h : spPutBox.run ins = some (r, outs)) : ∃ (s : Store) (b : Box), ins = [Store.enc s, Box.enc b] ∧ (s.le 4194304 ∧ b.le 4194304) ∧ Store.enc (putBox s b) = r ∧ outs = [] := by
  unfold spPutBox at h
  simp only at h
  split at h
  · rename_i s' b'
    simp only [Option.bind_eq_some_iff] at h
    obtain ⟨s, h_s, b, h_b, h⟩ := h
    split at h
    case isFalse => cases h
    rename_i hc
    simp only [Option.some.injEq, Prod.mk.injEq] at h
    obtain ⟨h1, h2⟩ := h
    have h_s := Store.dec_some h_s
    subst h_s
    have h_b := Box.dec_some h_b
    subst h_b
    exact ⟨s, b, rfl, hc, h1, h2.symm⟩
  · cases h
def T_impl_PutBox : Hints := ⟨fun i => if i = 4 then some [(0, 4), (1, 4)] else none, fun _ => none, fun i => if i = 0 then some [2, 3, 4] else if i = 1 then some [2, 3, 4, 5] else if i = 2 then some [3, 4, 5, 6] else if i = 3 then some [3, 4, 5, 6, 14] else if i = 4 then some [4, 5] else if i = 5 then some [4] else none, fun _ => none⟩
noncomputable def Phi_impl_PutBox : Tab := fun f => if f = 43 then some spCopyStore else if f = 25 then some spBoxIx else if f = 26 then some spCopyBox else none
attribute [go_sem] T_impl_PutBox Phi_impl_PutBox
theorem phi_impl_PutBox : ∀ f sp, Phi_impl_PutBox f = some sp → FnOk Try.prog f sp ∧ ∀ n ∈ sp.need, n ∈ ([] : List String) := by
  intro f sp h
  unfold Phi_impl_PutBox at h
  by_cases e : f = 43
  · rw [if_pos e] at h; cases h; rw [e]; exact ⟨ok_impl_copyStore, (fun n (h : n ∈ ([] : List String)) => (nomatch h))⟩
  rw [if_neg e] at h
  by_cases e : f = 25
  · rw [if_pos e] at h; cases h; rw [e]; exact ⟨ok_impl_boxAt, (fun n (h : n ∈ ([] : List String)) => (nomatch h))⟩
  rw [if_neg e] at h
  by_cases e : f = 26
  · rw [if_pos e] at h; cases h; rw [e]; exact ⟨ok_impl_copyBox, (fun n (h : n ∈ ([] : List String)) => (nomatch h))⟩
  rw [if_neg e] at h
  cases h
theorem ok_impl_PutBox : FnOk Try.prog 21 spPutBox := by
  refine fn_ok (Φ := Phi_impl_PutBox) (T := T_impl_PutBox) phi_impl_PutBox mixed Try.func21 rfl rfl rfl (by decide) ?_
  intro ins r outs hr hl
  clear hl
  have hs := spPutBox_in hr
  clear hr
  obtain ⟨s, b, rfl, hc, hr, rfl⟩ := hs
  simp only [spPutBox, Try.f21, Go.VM.initS]
  obtain ⟨hc, hb⟩ := hc
  have hl := (boxes_le hc).1
  by_cases h : 0 ≤ nameIx s.Boxes b.Name
  · obtain ⟨hi, h1, h2⟩ := nameIx_at h
    have g2 : nameIx s.Boxes b.Name < s.Boxes.length := by omega
    have g3 : s.Boxes[(nameIx s.Boxes b.Name).toNat]? = some s.Boxes[(nameIx s.Boxes b.Name).toNat] := List.getElem?_eq_getElem hi
    simp only [hc, hl, hb, h, g2, g3, go_sem]
    repeat' ((first | ((first | apply qa | apply qb | apply qc | apply qd | apply qe | apply qf | apply qg | apply qh | apply qi | apply qj | apply qk) <;> intro hp) | ((first | refine ql rfl rfl (by decide +kernel) ?_ | refine qm _ rfl rfl (by decide +kernel) ?_ | refine goes_opn rfl ?_ | refine goes_opnD rfl rfl (by decide +kernel) ?_) <;> have hp := True.intro)) <;> simp only [hp, hc, hl, hb, h, g2, g3, go_sem])
    simp only [fin_mk, finV, resL, resV1, resIn, endA, listIn, Option.some_or, Option.none_or, oneOrTup, go_sem]
    rw [← hr]
    rw [putBox, if_pos h]
    simp only [Store.enc, List.map_set, Box.enc]
  · simp only [hc, hl, hb, h, go_sem]
    repeat' ((first | ((first | apply qa | apply qb | apply qc | apply qd | apply qe | apply qf | apply qg | apply qh | apply qi | apply qj | apply qk) <;> intro hp) | ((first | refine ql rfl rfl (by decide +kernel) ?_ | refine qm _ rfl rfl (by decide +kernel) ?_ | refine goes_opn rfl ?_ | refine goes_opnD rfl rfl (by decide +kernel) ?_) <;> have hp := True.intro)) <;> simp only [hp, hc, hl, hb, h, go_sem])
    simp only [fin_mk, finV, resL, resV1, resIn, endA, listIn, Option.some_or, Option.none_or, oneOrTup, go_sem]
    rw [← hr]
    rw [putBox, if_neg h]; rfl
def T_spec_PutBox : Hints := ⟨fun i => if i = 5 then some [] else if i = 6 then some [(0, 4), (1, 4)] else none, fun i => if i = 3 then some [3, 4, 5, 6] else none, fun i => if i = 0 then some [2, 3, 4] else if i = 1 then some [3, 4, 5] else if i = 2 then some [3, 4, 5, 6] else if i = 3 then some [3, 4, 5, 6, 13] else if i = 5 then some [3, 4, 5, 6, 24] else if i = 6 then some [4, 5] else if i = 7 then some [4] else if i = 4 then some [3, 4, 5, 6] else if i = 8 then some [4] else none, fun _ => none⟩
noncomputable def Phi_spec_PutBox : Tab := fun f => if f = 40 then some spCopyStore else if f = 23 then some spCopyBox else none
attribute [go_sem] T_spec_PutBox Phi_spec_PutBox
theorem phi_spec_PutBox : ∀ f sp, Phi_spec_PutBox f = some sp → FnOk Try.prog f sp ∧ ∀ n ∈ sp.need, n ∈ ([] : List String) := by
  intro f sp h
  unfold Phi_spec_PutBox at h
  by_cases e : f = 40
  · rw [if_pos e] at h; cases h; rw [e]; exact ⟨ok_spec_l09Copy, (fun n (h : n ∈ ([] : List String)) => (nomatch h))⟩
  rw [if_neg e] at h
  by_cases e : f = 23
  · rw [if_pos e] at h; cases h; rw [e]; exact ⟨ok_spec_l08Copy, (fun n (h : n ∈ ([] : List String)) => (nomatch h))⟩
  rw [if_neg e] at h
  cases h
theorem ok_spec_PutBox : FnOk Try.prog 19 spPutBox := by
  refine fn_ok (Φ := Phi_spec_PutBox) (T := T_spec_PutBox) phi_spec_PutBox mixed Try.func19 rfl rfl rfl (by decide) ?_
  intro ins r outs hr hl
  clear hl
  have hs := spPutBox_in hr
  clear hr
  obtain ⟨s, b, rfl, hc, hr, rfl⟩ := hs
  simp only [spPutBox, Try.f19, Go.VM.initS]
  obtain ⟨hc, hb⟩ := hc
  have hl := (boxes_le hc).1
  simp only [hc, go_sem]
  refine loop_go (fun i : Nat => [(6, .int .i64 (i : Int))]) (fun _ => []) (fun i => s.Boxes.length - i) (fun i => i ≤ s.Boxes.length ∧ ∀ j (hj : j < i) (hj' : j < s.Boxes.length), (s.Boxes[j].Name == b.Name) = false) 0 ⟨Nat.zero_le _, fun j hj => by omega⟩ rfl rfl ?_
  rintro i ⟨hi, ha⟩ ih
  rcases Nat.lt_or_ge i s.Boxes.length with h | h
  · have g1 : (i : Int) < s.Boxes.length := by omega
    have g2 : (0 : Int) ≤ i := by omega
    have g3 : s.Boxes[i]? = some s.Boxes[i] := List.getElem?_eq_getElem h
    have g5 := wrap_succ h (by omega)
    cases hq : (s.Boxes[i].Name == b.Name) with
    | true =>
      simp only [g1, g2, g3, g5, hb, hq, h, go_sem]
      repeat' ((first | ((first | apply qa | apply qb | apply qc | apply qd | apply qe | apply qf | apply qg | apply qh | apply qi | apply qj | apply qk) <;> intro hp) | ((first | refine ql rfl rfl (by decide +kernel) ?_ | refine qm _ rfl rfl (by decide +kernel) ?_ | refine goes_opn rfl ?_ | refine goes_opnD rfl rfl (by decide +kernel) ?_) <;> have hp := True.intro)) <;> simp only [hp, g1, g2, g3, g5, hb, hq, h, go_sem])
      simp only [fin_mk, finV, resL, resV1, resIn, endA, listIn, Option.some_or, Option.none_or, oneOrTup, go_sem]
      rw [← hr]
      have e : nameIx s.Boxes b.Name = i := idxL_hit h (fun j hj => ha j hj (by omega)) hq
      have e0 : 0 ≤ nameIx s.Boxes b.Name := by omega
      rw [putBox, if_pos e0]
      simp only [Store.enc, List.map_set, Box.enc, e, Int.toNat_natCast]
    | false =>
      simp only [g1, g2, g3, g5, hb, hq, go_sem]
      repeat' ((first | ((first | apply qa | apply qb | apply qc | apply qd | apply qe | apply qf | apply qg | apply qh | apply qi | apply qj | apply qk) <;> intro hp) | ((first | refine ql rfl rfl (by decide +kernel) ?_ | refine qm _ rfl rfl (by decide +kernel) ?_ | refine goes_opn rfl ?_ | refine goes_opnD rfl rfl (by decide +kernel) ?_) <;> have hp := True.intro)) <;> simp only [hp, g1, g2, g3, g5, hb, hq, go_sem])
      refine ih (i + 1) ⟨h, fun j hj hj' => ?_⟩ (by omega)
      rcases Nat.lt_or_ge j i with h1 | h1
      · exact ha j h1 hj'
      · have : j = i := by omega
        subst this; exact hq
  · have g1 : ¬ (i : Int) < s.Boxes.length := by omega
    simp only [g1, go_sem]
    repeat' ((first | ((first | apply qa | apply qb | apply qc | apply qd | apply qe | apply qf | apply qg | apply qh | apply qi | apply qj | apply qk) <;> intro hp) | ((first | refine ql rfl rfl (by decide +kernel) ?_ | refine qm _ rfl rfl (by decide +kernel) ?_ | refine goes_opn rfl ?_ | refine goes_opnD rfl rfl (by decide +kernel) ?_) <;> have hp := True.intro)) <;> simp only [hp, g1, go_sem])
    simp only [fin_mk, finV, resL, resV1, resIn, endA, listIn, Option.some_or, Option.none_or, oneOrTup, go_sem]
    rw [← hr]
    have e : nameIx s.Boxes b.Name = -1 := idxL_miss fun j hj => ha j (by omega) hj
    rw [putBox, e]; rfl
end Go.Proofs.Ytgkjjgmjlldfmaa.L
