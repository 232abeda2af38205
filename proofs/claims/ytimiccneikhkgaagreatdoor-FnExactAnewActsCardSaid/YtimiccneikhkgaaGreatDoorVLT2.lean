/- Sets and flags as texts. -/
import Derived.Test.YtimiccneikhkgaaGreatDoorVLT
namespace Go.Proofs.YtimiccneikhkgaaGreatDoor.L
open Go Go.VM
set_option maxRecDepth 100000
set_option maxHeartbeats 4000000
set_option linter.unusedSimpArgs false
set_option linter.unusedVariables false
open Classical in
noncomputable def spJoin : VM.Spec := { modes := [.rd, .rd], run := fun | [.lst 1 l', .str t] => (decL dStr l').bind fun l => if (Lib.join l t).length ≤ 140737488355328 ∧ l.length ≤ 140737488355328 then some (.str (Lib.join l t), []) else none | _ => none, need := [] }
attribute [go_sem] spJoin
theorem spJoin_in {ins : List V} {r : V} {outs : List V} (h : spJoin.run ins = some (r, outs)) : ∃ (l : (List (List UInt8))) (t : (List UInt8)), ins = [.lst 1 ((l).map eStr), .str t] ∧ ((Lib.join l t).length ≤ 140737488355328 ∧ l.length ≤ 140737488355328) ∧ .str (Lib.join l t) = r ∧ outs = [] := by
  unfold spJoin at h
  simp only at h
  split at h
  · rename_i l' t
    simp only [Option.bind_eq_some_iff] at h
    obtain ⟨l, h_l, h⟩ := h
    split at h
    case isFalse => cases h
    rename_i hc
    simp only [Option.some.injEq, Prod.mk.injEq] at h
    obtain ⟨h1, h2⟩ := h
    have h_l := decL_some (fun _ _ h => dStr_some h) h_l
    subst h_l
    exact ⟨l, t, rfl, hc, h1, h2.symm⟩
  · cases h
theorem ok_strings_Join : FnOk Tryz.prog 100 spJoin :=
  join_ok Tryz.func100 rfl (by kernel_rfl) rfl (fun _ _ _ h => spJoin_in h) Tryz.strings_Join_none Tryz.strings_Join
theorem join_snoc (l : List (List UInt8)) (x t : List UInt8) : Lib.join (l ++ [x]) t = if l = [] then x else Lib.join l t ++ (t ++ x) := by
  cases l with
  | nil => simp [Lib.join_one]
  | cons y l =>
    rw [List.cons_append, Lib.join_cons, Lib.join_cons, if_neg (by simp)]
    simp [Lib.joinTail]
theorem lens_bound {l : List (List UInt8)} {k : Nat} (h : ∀ x ∈ l, x.length ≤ k) : Lib.lens l ≤ k * l.length := by
  induction l with
  | nil => simp [Lib.lens]
  | cons y l ih =>
    have h1 := ih fun x hx => h x (by simp [hx])
    have h2 := h y (by simp)
    simp only [Lib.lens, List.map_cons, List.sum_cons, List.length_cons] at h1 ⊢
    rw [Nat.mul_add]; omega
theorem join_bound {l : List (List UInt8)} {t : List UInt8} {k : Nat} (h : ∀ x ∈ l, x.length ≤ k) : (Lib.join l t).length ≤ (t.length + k) * l.length := by
  cases l with
  | nil => simp [Lib.join_nil]
  | cons y l =>
    rw [Lib.join_length]
    have := lens_bound h
    simp only [List.length_cons] at this ⊢
    rw [Nat.add_mul, Nat.mul_add t.length]; omega
def partOf (r : Range) : List UInt8 := if r.Lo < r.Hi then Lib.itoa r.Lo ++ (58 :: Lib.itoa r.Hi) else Lib.itoa r.Lo
def setText (s : List Range) : List UInt8 := if setOk s = true then Lib.join (s.map partOf) [44] else []
theorem setOk_at {s : List Range} (h : setOk s = true) {i : Nat} (hi : i < s.length) : 1 ≤ s[i].Lo ∧ s[i].Lo ≤ s[i].Hi ∧ s[i].Hi ≤ 9999 := by
  simp only [setOk, Bool.and_eq_true] at h
  exact rangeAt_hi hi (allN_get h.1 hi)
theorem setOk_len {s : List Range} (h : setOk s = true) : s.length ≤ 40 := by
  simp only [setOk, Bool.and_eq_true, decide_eq_true_eq] at h; exact h.2
theorem partOf_len {r : Range} (h : 1 ≤ r.Lo ∧ r.Lo ≤ r.Hi ∧ r.Hi ≤ 9999) : (partOf r).length ≤ 9 := by
  have h1 := itoa4 (n := r.Lo) (by omega) (by omega)
  have h2 := itoa4 (n := r.Hi) (by omega) (by omega)
  unfold partOf
  split
  · simp; omega
  · omega
theorem parts_len {s : List Range} (h : setOk s = true) (n : Nat) : ∀ x ∈ (s.take n).map partOf, x.length ≤ 9 := by
  intro x hx
  obtain ⟨r, hr, rfl⟩ := List.mem_map.1 hx
  obtain ⟨i, hi, rfl⟩ := List.mem_iff_getElem.1 (List.mem_of_mem_take hr)
  exact partOf_len (setOk_at h hi)
theorem join_parts {s : List Range} (h : setOk s = true) (n : Nat) : (Lib.join ((s.take n).map partOf) [44]).length ≤ 400 := by
  have h1 := join_bound (t := [44]) (parts_len h n)
  have h2 := setOk_len h
  have h3 : ((s.take n).map partOf).length ≤ 40 := by simp; omega
  simp only [List.length_cons, List.length_nil] at h1
  omega
theorem setText_len (s : List Range) : (setText s).length ≤ 400 := by
  unfold setText
  split
  · rename_i h
    have := join_parts h s.length
    rwa [List.take_length] at this
  · simp
open Classical in
noncomputable def spSetText : VM.Spec := { modes := [.rd], run := fun | [.lst 2 s'] => (decL Range.dec s').bind fun s => if s.length ≤ 4194304 then some (.str (setText s), []) else none | _ => none, need := ["internal/strconv.uint64pow10"] }
attribute [go_sem] spSetText
theorem spSetText_in {ins : List V} {r : V} {outs : List V} (h : spSetText.run ins = some (r, outs)) : ∃ (s : (List Range)), ins = [.lst 2 ((s).map Range.enc)] ∧ (s.length ≤ 4194304) ∧ .str (setText s) = r ∧ outs = [] := by
  unfold spSetText at h
  simp only at h
  split at h
  · rename_i s'
    simp only [Option.bind_eq_some_iff] at h
    obtain ⟨s, h_s, h⟩ := h
    split at h
    case isFalse => cases h
    rename_i hc
    simp only [Option.some.injEq, Prod.mk.injEq] at h
    obtain ⟨h1, h2⟩ := h
    have h_s := decL_some (fun _ _ h => Range.dec_some h) h_s
    subst h_s
    exact ⟨s, rfl, hc, h1, h2.symm⟩
  · cases h
def T_impl_SetText : Hints := ⟨fun _ => none, fun i => if i = 5 then some [3, 11, 12, 13] else none, fun i => if i = 0 then some [0] else if i = 1 then some [0, 9] else if i = 2 then some [2] else if i = 3 then some [0, 3] else if i = 4 then some [3, 11, 12, 13] else if i = 5 then some [3, 11, 12, 13, 14] else if i = 6 then some [3, 5, 11, 12, 13] else if i = 7 then some [3, 5, 6, 11, 12, 13] else if i = 8 then some [3, 5, 6, 11, 12, 13, 24] else if i = 9 then some [3, 6, 11, 12, 13] else if i = 10 then some [3, 11, 12, 13] else if i = 11 then some [3, 11, 12, 13] else if i = 12 then some [2] else none, fun _ => none⟩
noncomputable def Phi_impl_SetText : Tab := fun f => if f = 64 then some spSetOk else if f = 99 then some spDecimal else if f = 100 then some spJoin else none
attribute [go_sem] T_impl_SetText Phi_impl_SetText
theorem phi_impl_SetText : ∀ f sp, Phi_impl_SetText f = some sp → FnOk Tryz.prog f sp ∧ ∀ n ∈ sp.need, n ∈ (["internal/strconv.uint64pow10"] : List String) := by
  intro f sp h
  unfold Phi_impl_SetText at h
  by_cases e : f = 64
  · rw [if_pos e] at h; cases h; rw [e]; exact ⟨ok_impl_SetOk, (fun n (h : n ∈ ([] : List String)) => (nomatch h))⟩
  rw [if_neg e] at h
  by_cases e : f = 99
  · rw [if_pos e] at h; cases h; rw [e]; exact ⟨ok_impl_Decimal, (fun n (h : n ∈ (["internal/strconv.uint64pow10"] : List String)) => by simp only [List.mem_cons, List.not_mem_nil, or_false] at h; rcases h with rfl <;> simp)⟩
  rw [if_neg e] at h
  by_cases e : f = 100
  · rw [if_pos e] at h; cases h; rw [e]; exact ⟨ok_strings_Join, (fun n (h : n ∈ ([] : List String)) => (nomatch h))⟩
  rw [if_neg e] at h
  cases h
theorem ok_impl_SetText : FnOk Tryz.prog 41 spSetText := by
  refine fn_ok (Φ := Phi_impl_SetText) (T := T_impl_SetText) phi_impl_SetText mixed Tryz.func41 rfl rfl rfl (by decide) ?_
  intro ins r outs hr hl
  clear hl
  have hs := spSetText_in hr
  clear hr
  obtain ⟨s, rfl, hc, hr, rfl⟩ := hs
  simp only [spSetText, Tryz.f41, Go.VM.initS]
  cases hk : setOk s with
  | false =>
    simp only [hc, hk, go_sem]
    repeat' ((first | ((first | apply qa | apply qb | apply qc | apply qd | apply qe | apply qf | apply qg | apply qh | apply qi | apply qj | apply qk) <;> intro hp) | ((first | refine ql rfl rfl (by decide +kernel) ?_ | refine qm _ rfl rfl (by decide +kernel) ?_ | refine goes_opn rfl ?_ | refine goes_opnD rfl rfl (by decide +kernel) ?_) <;> have hp := True.intro)) <;> simp only [hp, hc, hk, go_sem])
    simp only [fin_mk, finV, resL, resV1, resIn, endA, listIn, Option.some_or, Option.none_or, oneOrTup, go_sem]
    rw [← hr]
    rw [setText, hk, if_neg (by simp)]
  | true =>
    have hS : setText s = Lib.join (s.map partOf) [44] := by rw [setText, if_pos hk]
    rw [hS] at hr
    clear hS
    simp only [hc, hk, go_sem]
    repeat' ((first | ((first | apply qa | apply qb | apply qc | apply qd | apply qe | apply qf | apply qg | apply qh | apply qi | apply qj | apply qk) <;> intro hp) | ((first | refine ql rfl rfl (by decide +kernel) ?_ | refine qm _ rfl rfl (by decide +kernel) ?_ | refine goes_opn rfl ?_ | refine goes_opnD rfl rfl (by decide +kernel) ?_) <;> have hp := True.intro)) <;> simp only [hp, hc, hk, go_sem])
    refine loop_go (fun i : Nat => [(13, .int .i64 (i : Int))]) (fun i => [(0, ⟨.arr, 1, ((s.take i).map partOf).map eStr⟩)]) (fun i => s.length - i) (fun i => i ≤ s.length) 0 (Nat.zero_le _) rfl rfl ?_
    intro i hi ih
    have hl := setOk_len hk
    rcases Nat.lt_or_ge i s.length with h | h
    · have g1 : (i : Int) < s.length := by omega
      have g2 : (0 : Int) ≤ i := by omega
      have g3 : s[i]? = some s[i] := List.getElem?_eq_getElem h
      have g5 := wrap_succ h (by omega)
      have hb := setOk_at hk h
      have a1 : (0 : Int) ≤ s[i].Lo := by omega
      have a2 : s[i].Lo ≤ 1000000000 := by omega
      have a3 : (0 : Int) ≤ s[i].Hi := by omega
      have a4 : s[i].Hi ≤ 1000000000 := by omega
      have l1 := itoa4 (n := s[i].Lo) (by omega) (by omega)
      have l2 := itoa4 (n := s[i].Hi) (by omega) (by omega)
      have b1 : 1 + (Lib.itoa s[i].Hi).length ≤ 9223372036854775807 := by omega
      have b2 : (Lib.itoa s[i].Lo).length + ((Lib.itoa s[i].Hi).length + 1) ≤ 9223372036854775807 := by omega
      have b3 : ((s.take i).map partOf).length = i := by simp; omega
      have b4 : (i + 1) * 16 ≤ 140737488355328 := by omega
      have b5 : i + 1 ≤ 9223372036854775807 := by omega
      have b6 : min i s.length = i := by omega
      have ih' := ih (i + 1) h (by omega)
      rw [take_succ' h, List.map_append, List.map_append] at ih'
      by_cases hlt : s[i].Lo < s[i].Hi
      · have hp : partOf s[i] = Lib.itoa s[i].Lo ++ (58 :: Lib.itoa s[i].Hi) := by rw [partOf, if_pos hlt]
        simp only [List.map_cons, List.map_nil, hp] at ih'
        simp only [g1, g2, g3, g5, a1, a2, a3, a4, b1, b2, b3, b4, b5, b6, hlt, List.length_take, go_sem]
        repeat' ((first | ((first | apply qa | apply qb | apply qc | apply qd | apply qe | apply qf | apply qg | apply qh | apply qi | apply qj | apply qk) <;> intro hp) | ((first | refine ql rfl rfl (by decide +kernel) ?_ | refine qm _ rfl rfl (by decide +kernel) ?_ | refine goes_opn rfl ?_ | refine goes_opnD rfl rfl (by decide +kernel) ?_) <;> have hp := True.intro)) <;> simp only [hp, g1, g2, g3, g5, a1, a2, a3, a4, b1, b2, b3, b4, b5, b6, hlt, List.length_take, go_sem])
        exact ih'
      · have hp : partOf s[i] = Lib.itoa s[i].Lo := by rw [partOf, if_neg hlt]
        simp only [List.map_cons, List.map_nil, hp] at ih'
        simp only [g1, g2, g3, g5, a1, a2, a3, a4, b1, b2, b3, b4, b5, b6, hlt, List.length_take, go_sem]
        repeat' ((first | ((first | apply qa | apply qb | apply qc | apply qd | apply qe | apply qf | apply qg | apply qh | apply qi | apply qj | apply qk) <;> intro hp) | ((first | refine ql rfl rfl (by decide +kernel) ?_ | refine qm _ rfl rfl (by decide +kernel) ?_ | refine goes_opn rfl ?_ | refine goes_opnD rfl rfl (by decide +kernel) ?_) <;> have hp := True.intro)) <;> simp only [hp, g1, g2, g3, g5, a1, a2, a3, a4, b1, b2, b3, b4, b5, b6, hlt, List.length_take, go_sem])
        exact ih'
    · have g1 : ¬ (i : Int) < s.length := by omega
      have ht : s.take i = s := List.take_of_length_le h
      have hj := join_parts hk s.length
      rw [List.take_length] at hj
      have j1 : (Lib.join (s.map partOf) [44]).length ≤ 140737488355328 := by omega
      have j2 : s.length ≤ 140737488355328 := by omega
      simp only [g1, ht, j1, j2, go_sem]
      repeat' ((first | ((first | apply qa | apply qb | apply qc | apply qd | apply qe | apply qf | apply qg | apply qh | apply qi | apply qj | apply qk) <;> intro hp) | ((first | refine ql rfl rfl (by decide +kernel) ?_ | refine qm _ rfl rfl (by decide +kernel) ?_ | refine goes_opn rfl ?_ | refine goes_opnD rfl rfl (by decide +kernel) ?_) <;> have hp := True.intro)) <;> simp only [hp, g1, ht, j1, j2, go_sem])
      simp only [fin_mk, finV, resL, resV1, resIn, endA, listIn, Option.some_or, Option.none_or, oneOrTup, go_sem]
      rw [← hr]
def T_spec_SetText : Hints := ⟨fun i => if i = 10 then some [] else none, fun i => if i = 5 then some [0, 3, 4] else none, fun i => if i = 0 then some [0] else if i = 1 then some [0, 7] else if i = 2 then some [2] else if i = 3 then some [0, 3] else if i = 4 then some [0, 3, 4] else if i = 5 then some [0, 3, 4, 11] else if i = 7 then some [0, 3, 4, 15] else if i = 8 then some [0, 3, 4] else if i = 9 then some [0, 3, 4] else if i = 10 then some [0, 3, 4, 36] else if i = 11 then some [0, 3, 4] else if i = 6 then some [0, 3, 4] else if i = 12 then some [2] else none, fun _ => none⟩
noncomputable def Phi_spec_SetText : Tab := fun f => if f = 56 then some spSetOk else if f = 161 then some spDecimal else none
attribute [go_sem] T_spec_SetText Phi_spec_SetText
theorem phi_spec_SetText : ∀ f sp, Phi_spec_SetText f = some sp → FnOk Tryz.prog f sp ∧ ∀ n ∈ sp.need, n ∈ (["internal/strconv.uint64pow10"] : List String) := by
  intro f sp h
  unfold Phi_spec_SetText at h
  by_cases e : f = 56
  · rw [if_pos e] at h; cases h; rw [e]; exact ⟨ok_spec_SetOk, (fun n (h : n ∈ ([] : List String)) => (nomatch h))⟩
  rw [if_neg e] at h
  by_cases e : f = 161
  · rw [if_pos e] at h; cases h; rw [e]; exact ⟨ok_spec_Decimal, (fun n (h : n ∈ (["internal/strconv.uint64pow10"] : List String)) => by simp only [List.mem_cons, List.not_mem_nil, or_false] at h; rcases h with rfl <;> simp)⟩
  rw [if_neg e] at h
  cases h
theorem ok_spec_SetText : FnOk Tryz.prog 110 spSetText := by
  refine fn_ok (Φ := Phi_spec_SetText) (T := T_spec_SetText) phi_spec_SetText mixed Tryz.func110 rfl rfl rfl (by decide) ?_
  intro ins r outs hr hl
  clear hl
  have hs := spSetText_in hr
  clear hr
  obtain ⟨s, rfl, hc, hr, rfl⟩ := hs
  simp only [spSetText, Tryz.f110, Go.VM.initS]
  cases hk : setOk s with
  | false =>
    simp only [hc, hk, go_sem]
    repeat' ((first | ((first | apply qa | apply qb | apply qc | apply qd | apply qe | apply qf | apply qg | apply qh | apply qi | apply qj | apply qk) <;> intro hp) | ((first | refine ql rfl rfl (by decide +kernel) ?_ | refine qm _ rfl rfl (by decide +kernel) ?_ | refine goes_opn rfl ?_ | refine goes_opnD rfl rfl (by decide +kernel) ?_) <;> have hp := True.intro)) <;> simp only [hp, hc, hk, go_sem])
    simp only [fin_mk, finV, resL, resV1, resIn, endA, listIn, Option.some_or, Option.none_or, oneOrTup, go_sem]
    rw [← hr]
    rw [setText, hk, if_neg (by simp)]
  | true =>
    have hS : setText s = Lib.join (s.map partOf) [44] := by rw [setText, if_pos hk]
    rw [hS] at hr
    clear hS
    simp only [hc, hk, go_sem]
    repeat' ((first | ((first | apply qa | apply qb | apply qc | apply qd | apply qe | apply qf | apply qg | apply qh | apply qi | apply qj | apply qk) <;> intro hp) | ((first | refine ql rfl rfl (by decide +kernel) ?_ | refine qm _ rfl rfl (by decide +kernel) ?_ | refine goes_opn rfl ?_ | refine goes_opnD rfl rfl (by decide +kernel) ?_) <;> have hp := True.intro)) <;> simp only [hp, hc, hk, go_sem])
    refine loop_go (fun i : Nat => [(3, .str (Lib.join ((s.take i).map partOf) [44])), (4, .int .i64 (i : Int))]) (fun _ => []) (fun i => s.length - i) (fun i => i ≤ s.length) 0 (Nat.zero_le _) rfl rfl ?_
    intro i hi ih
    have hl := setOk_len hk
    rcases Nat.lt_or_ge i s.length with h | h
    · have g1 : (i : Int) < s.length := by omega
      have g2 : (0 : Int) ≤ i := by omega
      have g3 : s[i]? = some s[i] := List.getElem?_eq_getElem h
      have g5 := wrap_succ h (by omega)
      have hb := setOk_at hk h
      have a1 : (0 : Int) ≤ s[i].Lo := by omega
      have a2 : s[i].Lo ≤ 1000000000 := by omega
      have a3 : (0 : Int) ≤ s[i].Hi := by omega
      have a4 : s[i].Hi ≤ 1000000000 := by omega
      have l1 := itoa4 (n := s[i].Lo) (by omega) (by omega)
      have l2 := itoa4 (n := s[i].Hi) (by omega) (by omega)
      have lj := join_parts hk i
      have ih' := ih (i + 1) h (by omega)
      rw [take_succ' h, List.map_append] at ih'
      simp only [List.map_cons, List.map_nil, join_snoc] at ih'
      generalize hJ : Lib.join ((s.take i).map partOf) [44] = J at *
      have b0 : J.length ≤ 9223372036854775806 := by omega
      have b1 : J.length + 1 + (Lib.itoa s[i].Lo).length ≤ 9223372036854775807 := by omega
      have b1' : J.length + (Lib.itoa s[i].Lo).length ≤ 9223372036854775807 := by omega
      have b2 : J.length + 1 + (Lib.itoa s[i].Lo).length ≤ 9223372036854775806 := by omega
      have b2' : J.length + (Lib.itoa s[i].Lo).length ≤ 9223372036854775806 := by omega
      have b3 : J.length + 1 + (Lib.itoa s[i].Lo).length + 1 + (Lib.itoa s[i].Hi).length ≤ 9223372036854775807 := by omega
      have b3' : J.length + (Lib.itoa s[i].Lo).length + 1 + (Lib.itoa s[i].Hi).length ≤ 9223372036854775807 := by omega
      by_cases h0 : i = 0
      · subst h0
        have hJ0 : J = [] := by rw [← hJ]; rfl
        subst hJ0
        have z0 : ¬ (0 : Int) < ((0 : Nat) : Int) := by decide
        rw [if_pos (by simp)] at ih'
        by_cases hlt : s[0].Lo < s[0].Hi
        · have hp : partOf s[0] = Lib.itoa s[0].Lo ++ (58 :: Lib.itoa s[0].Hi) := by rw [partOf, if_pos hlt]
          rw [hp] at ih'
          simp only [g1, g2, g3, g5, z0, a1, a2, a3, a4, b0, b1, b1', b2, b2', b3, b3', hlt, List.length_append, List.append_assoc, List.cons_append, List.nil_append, go_sem]
          repeat' ((first | ((first | apply qa | apply qb | apply qc | apply qd | apply qe | apply qf | apply qg | apply qh | apply qi | apply qj | apply qk) <;> intro hp) | ((first | refine ql rfl rfl (by decide +kernel) ?_ | refine qm _ rfl rfl (by decide +kernel) ?_ | refine goes_opn rfl ?_ | refine goes_opnD rfl rfl (by decide +kernel) ?_) <;> have hp := True.intro)) <;> simp only [hp, g1, g2, g3, g5, z0, a1, a2, a3, a4, b0, b1, b1', b2, b2', b3, b3', hlt, List.length_append, List.append_assoc, List.cons_append, List.nil_append, go_sem])
          all_goals first | exact ih' | (clear ih ih'; omega)
        · have hp : partOf s[0] = Lib.itoa s[0].Lo := by rw [partOf, if_neg hlt]
          rw [hp] at ih'
          simp only [g1, g2, g3, g5, z0, a1, a2, a3, a4, b0, b1, b1', b2, b2', b3, b3', hlt, List.length_append, List.append_assoc, List.cons_append, List.nil_append, go_sem]
          repeat' ((first | ((first | apply qa | apply qb | apply qc | apply qd | apply qe | apply qf | apply qg | apply qh | apply qi | apply qj | apply qk) <;> intro hp) | ((first | refine ql rfl rfl (by decide +kernel) ?_ | refine qm _ rfl rfl (by decide +kernel) ?_ | refine goes_opn rfl ?_ | refine goes_opnD rfl rfl (by decide +kernel) ?_) <;> have hp := True.intro)) <;> simp only [hp, g1, g2, g3, g5, z0, a1, a2, a3, a4, b0, b1, b1', b2, b2', b3, b3', hlt, List.length_append, List.append_assoc, List.cons_append, List.nil_append, go_sem])
          all_goals first | exact ih' | (clear ih ih'; omega)
      · have z0 : (0 : Int) < (i : Int) := by omega
        have hne : ¬ (s.take i).map partOf = [] := by
          intro e
          have h2 : ((s.take i).map partOf).length = min i s.length := by rw [List.length_map, List.length_take]
          rw [e, List.length_nil] at h2
          omega
        rw [if_neg hne] at ih'
        simp only [List.cons_append, List.nil_append] at ih'
        by_cases hlt : s[i].Lo < s[i].Hi
        · have hp : partOf s[i] = Lib.itoa s[i].Lo ++ (58 :: Lib.itoa s[i].Hi) := by rw [partOf, if_pos hlt]
          rw [hp] at ih'
          simp only [g1, g2, g3, g5, z0, a1, a2, a3, a4, b0, b1, b1', b2, b2', b3, b3', hlt, List.length_append, List.append_assoc, List.cons_append, List.nil_append, go_sem]
          repeat' ((first | ((first | apply qa | apply qb | apply qc | apply qd | apply qe | apply qf | apply qg | apply qh | apply qi | apply qj | apply qk) <;> intro hp) | ((first | refine ql rfl rfl (by decide +kernel) ?_ | refine qm _ rfl rfl (by decide +kernel) ?_ | refine goes_opn rfl ?_ | refine goes_opnD rfl rfl (by decide +kernel) ?_) <;> have hp := True.intro)) <;> simp only [hp, g1, g2, g3, g5, z0, a1, a2, a3, a4, b0, b1, b1', b2, b2', b3, b3', hlt, List.length_append, List.append_assoc, List.cons_append, List.nil_append, go_sem])
          all_goals first | exact ih' | (clear ih ih'; omega)
        · have hp : partOf s[i] = Lib.itoa s[i].Lo := by rw [partOf, if_neg hlt]
          rw [hp] at ih'
          simp only [g1, g2, g3, g5, z0, a1, a2, a3, a4, b0, b1, b1', b2, b2', b3, b3', hlt, List.length_append, List.append_assoc, List.cons_append, List.nil_append, go_sem]
          repeat' ((first | ((first | apply qa | apply qb | apply qc | apply qd | apply qe | apply qf | apply qg | apply qh | apply qi | apply qj | apply qk) <;> intro hp) | ((first | refine ql rfl rfl (by decide +kernel) ?_ | refine qm _ rfl rfl (by decide +kernel) ?_ | refine goes_opn rfl ?_ | refine goes_opnD rfl rfl (by decide +kernel) ?_) <;> have hp := True.intro)) <;> simp only [hp, g1, g2, g3, g5, z0, a1, a2, a3, a4, b0, b1, b1', b2, b2', b3, b3', hlt, List.length_append, List.append_assoc, List.cons_append, List.nil_append, go_sem])
          all_goals first | exact ih' | (clear ih ih'; omega)
    · have g1 : ¬ (i : Int) < s.length := by omega
      have ht : s.take i = s := List.take_of_length_le h
      simp only [g1, ht, go_sem]
      repeat' ((first | ((first | apply qa | apply qb | apply qc | apply qd | apply qe | apply qf | apply qg | apply qh | apply qi | apply qj | apply qk) <;> intro hp) | ((first | refine ql rfl rfl (by decide +kernel) ?_ | refine qm _ rfl rfl (by decide +kernel) ?_ | refine goes_opn rfl ?_ | refine goes_opnD rfl rfl (by decide +kernel) ?_) <;> have hp := True.intro)) <;> simp only [hp, g1, ht, go_sem])
      simp only [fin_mk, finV, resL, resV1, resIn, endA, listIn, Option.some_or, Option.none_or, oneOrTup, go_sem]
      rw [← hr]
def flagNames : List (List UInt8) := [[115, 101, 101, 110], [97, 110, 115, 119, 101, 114, 101, 100], [102, 108, 97, 103, 103, 101, 100], [100, 101, 108, 101, 116, 101, 100], [100, 114, 97, 102, 116]]
/-- The names of the flags in b, of the first i. -/
def flagSel (b : Nat) : Nat → List (List UInt8)
  | 0 => []
  | i + 1 => flagSel b i ++ (if b.testBit i = true then [flagNames.getD i []] else [])
def flagsText (b : Int) : List UInt8 := if flagsOk b = true then 40 :: (Lib.join (flagSel b.toNat 5) [32] ++ [41]) else []
theorem flag_impl : ∀ b : Fin 32, ∀ i : Fin 5, ((IntKind.i64.wrap (BitVec.ofInt 64 (Int.fdiv (b.val : Int) (2 ^ (min i.val 64))) &&& BitVec.ofInt 64 1).toNat == 1) = b.val.testBit i.val) := by decide +kernel
theorem flag_spec : ∀ b : Fin 32, ∀ i : Fin 5, (((IntKind.i64.wrap ((b.val : Int).tdiv ((2 ^ i.val : Nat) : Int))).tmod 2 == 1) = b.val.testBit i.val) := by decide +kernel
theorem flag_names : ∀ i : Fin 5, flagNames[i.val]? = some (flagNames.getD i.val []) := by decide +kernel
theorem flag_sel_len : ∀ b : Fin 32, ∀ i : Fin 6, (flagSel b.val i.val).length ≤ 5 ∧ (Lib.join (flagSel b.val i.val) [32]).length ≤ 50 := by decide +kernel
theorem flag_sel_join : ∀ b : Fin 32, ∀ i : Fin 5, (Lib.join (flagSel b.val i.val) [32] = [] ↔ flagSel b.val i.val = []) := by decide +kernel
theorem flagsText_len (b : Int) : (flagsText b).length ≤ 60 := by
  unfold flagsText
  split
  · rename_i h
    have hb : 0 ≤ b ∧ b ≤ 31 := by simpa only [flagsOk, within, Bool.and_eq_true, decide_eq_true_eq] using h
    have := (flag_sel_len ⟨b.toNat, by omega⟩ ⟨5, by omega⟩).2
    simp only at this
    simp; omega
  · simp
open Classical in
noncomputable def spFlagNames : VM.Spec := { modes := [], run := fun | [] => some (.lst 1 ((flagNames).map eStr), []) | _ => none, need := [] }
attribute [go_sem] spFlagNames
theorem spFlagNames_in {ins : List V} {r : V} {outs : List V} (h : spFlagNames.run ins = some (r, outs)) : ins = [] ∧ .lst 1 ((flagNames).map eStr) = r ∧ outs = [] := by
  unfold spFlagNames at h
  simp only at h
  split at h
  · simp only [Option.some.injEq, Prod.mk.injEq] at h
    obtain ⟨h1, h2⟩ := h
    exact ⟨rfl, h1, h2.symm⟩
  · cases h
def T_spec_l06Names : Hints := ⟨fun _ => none, fun _ => none, fun i => if i = 0 then some [] else if i = 1 then some [0] else none, fun _ => none⟩
noncomputable def Phi_spec_l06Names : Tab := fun f => none
attribute [go_sem] T_spec_l06Names Phi_spec_l06Names
theorem phi_spec_l06Names : ∀ f sp, Phi_spec_l06Names f = some sp → FnOk Tryz.prog f sp ∧ ∀ n ∈ sp.need, n ∈ ([] : List String) := by
  intro f sp h
  unfold Phi_spec_l06Names at h
  cases h
theorem ok_spec_l06Names : FnOk Tryz.prog 166 spFlagNames := by
  refine fn_ok (Φ := Phi_spec_l06Names) (T := T_spec_l06Names) phi_spec_l06Names mixed Tryz.func166 rfl rfl rfl (by decide) ?_
  intro ins r outs hr hl
  clear hl
  have hs := spFlagNames_in hr
  clear hr
  obtain ⟨rfl, hr, rfl⟩ := hs
  simp only [spFlagNames, Tryz.f166, Go.VM.initS]
  simp only [go_sem]
  repeat' ((first | ((first | apply qa | apply qb | apply qc | apply qd | apply qe | apply qf | apply qg | apply qh | apply qi | apply qj | apply qk) <;> intro hp) | ((first | refine ql rfl rfl (by decide +kernel) ?_ | refine qm _ rfl rfl (by decide +kernel) ?_ | refine goes_opn rfl ?_ | refine goes_opnD rfl rfl (by decide +kernel) ?_) <;> have hp := True.intro)) <;> simp only [hp, go_sem])
  simp only [fin_mk, finV, resL, resV1, resIn, endA, listIn, Option.some_or, Option.none_or, oneOrTup, go_sem]
  rw [← hr]
  rfl
open Classical in
noncomputable def spFlagsText : VM.Spec := { modes := [.rd], run := fun | [.int .i64 n] => some (.str (flagsText n), []) | _ => none, need := [] }
attribute [go_sem] spFlagsText
theorem spFlagsText_in {ins : List V} {r : V} {outs : List V} (h : spFlagsText.run ins = some (r, outs)) : ∃ (n : Int), ins = [.int .i64 n] ∧ .str (flagsText n) = r ∧ outs = [] := by
  unfold spFlagsText at h
  simp only at h
  split at h
  · rename_i n
    simp only [Option.some.injEq, Prod.mk.injEq] at h
    obtain ⟨h1, h2⟩ := h
    exact ⟨n, rfl, h1, h2.symm⟩
  · cases h
end Go.Proofs.YtimiccneikhkgaaGreatDoor.L
