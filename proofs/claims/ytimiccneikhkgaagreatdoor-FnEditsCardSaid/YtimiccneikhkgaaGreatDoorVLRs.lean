/- Sets read from texts. -/
import Derived.Test.YtimiccneikhkgaaGreatDoorVLFl
import Derived.Test.YtimiccneikhkgaaGreatDoorVLS2
namespace Go.Proofs.YtimiccneikhkgaaGreatDoor.L
open Go Go.VM
set_option maxRecDepth 100000
set_option maxHeartbeats 4000000
set_option linter.unusedSimpArgs false
set_option linter.unusedVariables false
open Classical in
noncomputable def spHasRead : VM.Spec := { modes := [.rd, .rd], run := fun | [.int .i64 n, .rptr (.lst 2 l')] => (decL Range.dec l').bind fun l => if l.length ≤ 8388608 then some (.bool (hasR l n), []) else none | _ => none, need := [] }
attribute [go_sem] spHasRead
theorem spHasRead_in {ins : List V} {r : V} {outs : List V} (h : spHasRead.run ins = some (r, outs)) : ∃ (n : Int) (l : (List Range)), ins = [.int .i64 n, .rptr (.lst 2 ((l).map Range.enc))] ∧ (l.length ≤ 8388608) ∧ .bool (hasR l n) = r ∧ outs = [] := by
  unfold spHasRead at h
  simp only at h
  split at h
  · rename_i n l'
    simp only [Option.bind_eq_some_iff] at h
    obtain ⟨l, h_l, h⟩ := h
    split at h
    case isFalse => cases h
    rename_i hc
    simp only [Option.some.injEq, Prod.mk.injEq] at h
    obtain ⟨h1, h2⟩ := h
    have h_l := decL_some (fun _ _ h => Range.dec_some h) h_l
    subst h_l
    exact ⟨n, l, rfl, hc, h1, h2.symm⟩
  · cases h
def T_impl_ReadSet_1 : Hints := ⟨fun _ => none, fun _ => none, fun i => if i = 0 then some [0, 1] else if i = 1 then some [3] else none, fun _ => none⟩
noncomputable def Phi_impl_ReadSet_1 : Tab := fun f => if f = 19 then some spSetHas else none
attribute [go_sem] T_impl_ReadSet_1 Phi_impl_ReadSet_1
theorem phi_impl_ReadSet_1 : ∀ f sp, Phi_impl_ReadSet_1 f = some sp → FnOk Tryz.prog f sp ∧ ∀ n ∈ sp.need, n ∈ ([] : List String) := by
  intro f sp h
  unfold Phi_impl_ReadSet_1 at h
  by_cases e : f = 19
  · rw [if_pos e] at h; cases h; rw [e]; exact ⟨ok_impl_SetHas, (fun n (h : n ∈ ([] : List String)) => (nomatch h))⟩
  rw [if_neg e] at h
  cases h
theorem ok_impl_ReadSet_1 : FnOk Tryz.prog 107 spHasRead := by
  refine fn_ok (Φ := Phi_impl_ReadSet_1) (T := T_impl_ReadSet_1) phi_impl_ReadSet_1 mixed Tryz.func107 rfl rfl rfl (by decide) ?_
  intro ins r outs hr hl
  clear hl
  have hs := spHasRead_in hr
  clear hr
  obtain ⟨n, l, rfl, hc, hr, rfl⟩ := hs
  simp only [spHasRead, Tryz.f107, Go.VM.initS]
  simp only [hc, go_sem]
  repeat' ((first | ((first | apply qa | apply qb | apply qc | apply qd | apply qe | apply qf | apply qg | apply qh | apply qi | apply qj | apply qk) <;> intro hp) | ((first | refine ql rfl rfl (by decide +kernel) ?_ | refine qm _ rfl rfl (by decide +kernel) ?_ | refine goes_opn rfl ?_ | refine goes_opnD rfl rfl (by decide +kernel) ?_) <;> have hp := True.intro)) <;> simp only [hp, hc, go_sem])
  simp only [fin_mk, finV, resL, resV1, resIn, endA, listIn, Option.some_or, Option.none_or, oneOrTup, go_sem]
  rw [← hr]
def setR (l : List Range) : List Range := scan ((nums 9999).filter fun n => hasR l n)
open Classical in
noncomputable def spSetOfRead : VM.Spec := { modes := [.rd], run := fun | [.fn 107 [.rptr (.lst 2 l')]] => (decL Range.dec l').bind fun l => if l.length ≤ 8388608 then some (.tup [.lst 2 ((setR l).map Range.enc), .bool (decide ((setR l).length ≤ 40))], []) else none | _ => none, need := [] }
attribute [go_sem] spSetOfRead
theorem spSetOfRead_in {ins : List V} {r : V} {outs : List V} (h : spSetOfRead.run ins = some (r, outs)) : ∃ (l : (List Range)), ins = [.fn 107 [.rptr (.lst 2 ((l).map Range.enc))]] ∧ (l.length ≤ 8388608) ∧ .tup [.lst 2 ((setR l).map Range.enc), .bool (decide ((setR l).length ≤ 40))] = r ∧ outs = [] := by
  unfold spSetOfRead at h
  simp only at h
  split at h
  · rename_i l'
    simp only [Option.bind_eq_some_iff] at h
    obtain ⟨l, h_l, h⟩ := h
    split at h
    case isFalse => cases h
    rename_i hc
    simp only [Option.some.injEq, Prod.mk.injEq] at h
    obtain ⟨h1, h2⟩ := h
    have h_l := decL_some (fun _ _ h => Range.dec_some h) h_l
    subst h_l
    exact ⟨l, rfl, hc, h1, h2.symm⟩
  · cases h
def T_impl_setOf : Hints := ⟨fun _ => none, fun i => if i = 3 then some [0, 4, 5] else none, fun i => if i = 0 then some [0] else if i = 1 then some [0, 4] else if i = 2 then some [0, 4, 5] else if i = 3 then some [0, 4, 5, 9] else if i = 5 then some [0, 4, 5, 15] else if i = 6 then some [0, 4, 5, 6] else if i = 7 then some [0, 4, 5, 6, 30] else if i = 8 then some [0, 4, 5] else if i = 9 then some [0, 4, 5] else if i = 4 then some [0, 4, 5] else if i = 10 then some [2, 3] else none, fun _ => none⟩
noncomputable def Phi_impl_setOf : Tab := fun f => if f = 107 then some spHasRead else none
attribute [go_sem] T_impl_setOf Phi_impl_setOf
theorem phi_impl_setOf : ∀ f sp, Phi_impl_setOf f = some sp → FnOk Tryz.prog f sp ∧ ∀ n ∈ sp.need, n ∈ ([] : List String) := by
  intro f sp h
  unfold Phi_impl_setOf at h
  by_cases e : f = 107
  · rw [if_pos e] at h; cases h; rw [e]; exact ⟨ok_impl_ReadSet_1, (fun n (h : n ∈ ([] : List String)) => (nomatch h))⟩
  rw [if_neg e] at h
  cases h
theorem ok_impl_setOf : FnOk Tryz.prog 76 spSetOfRead := by
  refine fn_ok (Φ := Phi_impl_setOf) (T := T_impl_setOf) phi_impl_setOf mixed Tryz.func76 rfl rfl rfl (by decide) ?_
  intro ins r outs hr hl
  clear hl
  have hs := spSetOfRead_in hr
  clear hr
  obtain ⟨l, rfl, hc, hr, rfl⟩ := hs
  simp only [spSetOfRead, Tryz.f76, Go.VM.initS]
  simp only [go_sem]
  repeat' ((first | ((first | apply qa | apply qb | apply qc | apply qd | apply qe | apply qf | apply qg | apply qh | apply qi | apply qj | apply qk) <;> intro hp) | ((first | refine ql rfl rfl (by decide +kernel) ?_ | refine qm _ rfl rfl (by decide +kernel) ?_ | refine goes_opn rfl ?_ | refine goes_opnD rfl rfl (by decide +kernel) ?_) <;> have hp := True.intro)) <;> simp only [hp, go_sem])
  refine loop_go (fun i : Nat => [(5, .int .i64 ((i + 1 : Nat) : Int))]) (fun i => [(0, ⟨.arr, 2, (scan ((nums i).filter fun n => hasR l n)).map Range.enc⟩)]) (fun i => 9999 - i) (fun i => i ≤ 9999) 0 (Nat.zero_le _) rfl rfl ?_
  intro i hi ih
  have hsl : (scan ((nums i).filter fun n => hasR l n)).length ≤ i := by
    refine Nat.le_trans (scan_len _) (Nat.le_trans (List.length_filter_le _ _) ?_)
    simp [nums]
  rcases Nat.lt_or_ge i 9999 with h | h
  · have g1 : ((i + 1 : Nat) : Int) ≤ 9999 := by omega
    have g5 : IntKind.i64.wrap (((i + 1 : Nat) : Int) + 1) = ((i + 1 + 1 : Nat) : Int) := wrap_succ (n := 10002) (by omega) (by omega)
    have g6 : IntKind.i64.wrap (((i + 1 : Nat) : Int) - 1) = (i : Int) := (wrap64 (by omega) (by omega)).trans (by omega)
    have ih' := ih (i + 1) h (by omega)
    rw [filter_nums_succ] at ih'
    clear ih
    cases hm : hasR l ((i + 1 : Nat) : Int) with
    | false =>
      rw [hm, if_neg (by simp), List.append_nil] at ih'
      simp only [hc, g1, g5, hm, go_sem]
      repeat' ((first | ((first | apply qa | apply qb | apply qc | apply qd | apply qe | apply qf | apply qg | apply qh | apply qi | apply qj | apply qk) <;> intro hp) | ((first | refine ql rfl rfl (by decide +kernel) ?_ | refine qm _ rfl rfl (by decide +kernel) ?_ | refine goes_opn rfl ?_ | refine goes_opnD rfl rfl (by decide +kernel) ?_) <;> have hp := True.intro)) <;> simp only [hp, hc, g1, g5, hm, go_sem])
      exact ih'
    | true =>
      rw [hm, if_pos rfl, scan_snoc] at ih'
      generalize hO : scan ((nums i).filter fun n => hasR l n) = O at *
      rcases snoc_cases O with rfl | ⟨a, r', rfl⟩
      · rw [push_nil] at ih'
        have b3 : IntKind.i64.wrap (((0 : Nat) : Int) - 1) = -1 := rfl
        simp only [hc, g1, g5, hm, b3, go_sem]
        repeat' ((first | ((first | apply qa | apply qb | apply qc | apply qd | apply qe | apply qf | apply qg | apply qh | apply qi | apply qj | apply qk) <;> intro hp) | ((first | refine ql rfl rfl (by decide +kernel) ?_ | refine qm _ rfl rfl (by decide +kernel) ?_ | refine goes_opn rfl ?_ | refine goes_opnD rfl rfl (by decide +kernel) ?_) <;> have hp := True.intro)) <;> simp only [hp, hc, g1, g5, hm, b3, go_sem])
        exact ih'
      · have hla : a.length + 1 ≤ i := by simpa using hsl
        have b3 : IntKind.i64.wrap (((a.length + 1 : Nat) : Int) - 1) = (a.length : Int) := (wrap64 (by omega) (by omega)).trans (by omega)
        have b4 : (0 : Int) ≤ (a.length : Int) := by omega
        have b5 : (a.length : Int) < ((a.length + 1 : Nat) : Int) := by omega
        have b6 : (List.map Range.enc (a ++ [r']))[a.length]? = some r'.enc := by simp
        have b7 : (List.map Range.enc (a ++ [r'])).set a.length (V.agg [.int .i64 r'.Lo, .int .i64 ((i + 1 : Nat) : Int)]) = List.map Range.enc (a ++ [⟨r'.Lo, ((i + 1 : Nat) : Int)⟩]) := by
          simp [Range.enc]
        have b8 : (List.map Range.enc (a ++ [r'])).length = a.length + 1 := by simp
        have b9 : (a ++ [r']).length = a.length + 1 := by simp
        have b10 : (a.length + 1 + 1) * 16 ≤ 140737488355328 := by omega
        have b11 : a.length + 1 ≤ 9223372036854775806 := by omega
        have b12 : a.length ≤ 9223372036854775805 := by omega
        rw [push_snoc] at ih'
        cases hH : (r'.Hi == (i : Int)) with
        | true =>
          have hH' : r'.Hi = ((i + 1 : Nat) : Int) - 1 := by simp only [beq_iff_eq] at hH; omega
          rw [if_pos hH', ← b7] at ih'
          clear b7
          generalize hX : List.map Range.enc (a ++ [r']) = X at *
          simp only [hc, g1, g5, g6, hm, b3, b4, b5, b6, b8, b9, hH, go_sem]
          repeat' ((first | ((first | apply qa | apply qb | apply qc | apply qd | apply qe | apply qf | apply qg | apply qh | apply qi | apply qj | apply qk) <;> intro hp) | ((first | refine ql rfl rfl (by decide +kernel) ?_ | refine qm _ rfl rfl (by decide +kernel) ?_ | refine goes_opn rfl ?_ | refine goes_opnD rfl rfl (by decide +kernel) ?_) <;> have hp := True.intro)) <;> simp only [hp, hc, g1, g5, g6, hm, b3, b4, b5, b6, b8, b9, hH, go_sem])
          exact ih'
        | false =>
          have hH' : ¬ r'.Hi = ((i + 1 : Nat) : Int) - 1 := by rw [beq_eq_false_iff_ne] at hH; omega
          rw [if_neg hH', List.map_append, List.map_cons, List.map_nil] at ih'
          clear b7
          generalize hX : List.map Range.enc (a ++ [r']) = X at *
          simp only [hc, g1, g5, g6, hm, b3, b4, b5, b6, b8, b9, b10, b11, b12, hH, go_sem]
          repeat' ((first | ((first | apply qa | apply qb | apply qc | apply qd | apply qe | apply qf | apply qg | apply qh | apply qi | apply qj | apply qk) <;> intro hp) | ((first | refine ql rfl rfl (by decide +kernel) ?_ | refine qm _ rfl rfl (by decide +kernel) ?_ | refine goes_opn rfl ?_ | refine goes_opnD rfl rfl (by decide +kernel) ?_) <;> have hp := True.intro)) <;> simp only [hp, hc, g1, g5, g6, hm, b3, b4, b5, b6, b8, b9, b10, b11, b12, hH, go_sem])
          all_goals first | exact ih' | (clear ih'; omega)
  · have hi9 : i = 9999 := by omega
    subst hi9
    have g1 : ¬ (((9999 + 1 : Nat) : Int)) ≤ 9999 := by decide
    have hB : scan ((nums 9999).filter fun n => hasR l n) = setR l := rfl
    rw [hB]
    have e : decide (((setR l).length : Int) ≤ 40) = decide ((setR l).length ≤ 40) := by rw [Bool.eq_iff_iff]; simp; omega
    simp only [g1, e, go_sem]
    repeat' ((first | ((first | apply qa | apply qb | apply qc | apply qd | apply qe | apply qf | apply qg | apply qh | apply qi | apply qj | apply qk) <;> intro hp) | ((first | refine ql rfl rfl (by decide +kernel) ?_ | refine qm _ rfl rfl (by decide +kernel) ?_ | refine goes_opn rfl ?_ | refine goes_opnD rfl rfl (by decide +kernel) ?_) <;> have hp := True.intro)) <;> simp only [hp, g1, e, go_sem])
    all_goals (simp only [fin_mk, finV, resL, resV1, resIn, endA, listIn, Option.some_or, Option.none_or, oneOrTup, go_sem]; rw [← hr])
/-! ### numbers in texts -/
def digB (b : UInt8) : Bool := within (b.toNat : Int) 48 57
def stepM (n : Int) (b : UInt8) : Int := (10 * n + ((b.toNat : Int) - 48)).tmod 1000000000
def stepV (n : Int) (b : UInt8) : Int := 10 * n + ((b.toNat : Int) - 48)
def numM (s : List UInt8) : Int := s.foldl stepM 0
def numV (s : List UInt8) : Int := s.foldl stepV 0
theorem numM_snoc (s : List UInt8) (b : UInt8) : numM (s ++ [b]) = stepM (numM s) b := by simp [numM]
theorem numV_snoc (s : List UInt8) (b : UInt8) : numV (s ++ [b]) = stepV (numV s) b := by simp [numV]
theorem digB_iff {b : UInt8} (h : digB b = true) : 48 ≤ (b.toNat : Int) ∧ (b.toNat : Int) ≤ 57 := by simpa only [digB, within, Bool.and_eq_true, decide_eq_true_eq] using h
theorem numM_bound (s : List UInt8) : s.all digB = true → 0 ≤ numM s ∧ numM s < 1000000000 := by
  refine snoc_ind (P := fun s => s.all digB = true → 0 ≤ numM s ∧ numM s < 1000000000) (by simp [numM]) ?_ s
  intro l x ih h
  rw [List.all_append, Bool.and_eq_true] at h
  have h1 := ih h.1
  have h2 := digB_iff (b := x) (by simpa using h.2)
  rw [numM_snoc, stepM, Int.tmod_eq_emod_of_nonneg (by omega)]
  omega
theorem numV_bound (s : List UInt8) : s.all digB = true → 0 ≤ numV s ∧ numV s < 10 ^ s.length := by
  refine snoc_ind (P := fun s => s.all digB = true → 0 ≤ numV s ∧ numV s < 10 ^ s.length) (by simp [numV]) ?_ s
  intro l x ih h
  rw [List.all_append, Bool.and_eq_true] at h
  have h1 := ih h.1
  have h2 := digB_iff (b := x) (by simpa using h.2)
  rw [numV_snoc, stepV, List.length_append, List.length_singleton, Int.pow_succ]
  omega
theorem pow_le9 {n : Nat} (h : n ≤ 9) : (10 : Int) ^ n ≤ 1000000000 := by
  have : ∀ n : Fin 10, (10 : Int) ^ n.val ≤ 1000000000 := by decide
  exact this ⟨n, by omega⟩
theorem pow_le4 {n : Nat} (h : n ≤ 4) : (10 : Int) ^ n ≤ 10000 := by
  have : ∀ n : Fin 5, (10 : Int) ^ n.val ≤ 10000 := by decide
  exact this ⟨n, by omega⟩
theorem numM_eq (s : List UInt8) : s.all digB = true → s.length ≤ 9 → numM s = numV s := by
  refine snoc_ind (P := fun s => s.all digB = true → s.length ≤ 9 → numM s = numV s) (fun _ _ => rfl) ?_ s
  intro l x ih h hl
  have hb := numV_bound _ h
  rw [List.all_append, Bool.and_eq_true] at h
  rw [List.length_append, List.length_singleton] at hl
  rw [numM_snoc, ih h.1 (by omega), numV_snoc, stepM]
  rw [numV_snoc, stepV, List.length_append, List.length_singleton] at hb
  have := pow_le9 hl
  rw [Int.tmod_eq_emod_of_nonneg hb.1, Int.emod_eq_of_lt hb.1 (by omega)]
  rfl
def numOk (s : List UInt8) : Bool := within s.length 1 4 && s.all digB && decide (1 ≤ numV s)
def uidN (s : List UInt8) (last : Int) : Int := if s = [42] then last else if s.all digB = true then numM s else 0
def uidB (s : List UInt8) : Bool := if s = [42] then true else s.all digB && (within s.length 1 4 && decide (0 < numM s))
def numN (s : List UInt8) (last : Int) : Int := if s = [42] then last else if (within s.length 1 4 && s.all digB) = true then numV s else 0
def numB (s : List UInt8) : Bool := if s = [42] then true else within s.length 1 4 && s.all digB && decide (1 ≤ numV s)
theorem within_len {s : List UInt8} (h : within s.length 1 4 = true) : 1 ≤ s.length ∧ s.length ≤ 4 := by
  simp only [within, Bool.and_eq_true, decide_eq_true_eq] at h; omega
theorem uidB_eq (s : List UInt8) : uidB s = numB s := by
  unfold uidB numB
  split
  · rfl
  · cases hd : s.all digB with
    | false => simp
    | true =>
      cases hw : within s.length 1 4 with
      | false => simp
      | true =>
        rw [numM_eq s hd (by have := within_len hw; omega), Bool.eq_iff_iff]
        simp; omega
theorem uidN_eq {s : List UInt8} {last : Int} (h : numB s = true) : uidN s last = numN s last := by
  unfold uidN numN
  unfold numB at h
  split
  · rfl
  · rename_i h0
    rw [if_neg h0, Bool.and_eq_true, Bool.and_eq_true] at h
    rw [if_pos h.1.2, if_pos (by rw [h.1.1, h.1.2]; rfl), numM_eq s h.1.2 (by have := within_len h.1.1; omega)]
theorem numN_in {s : List UInt8} {last : Int} (hl : 1 ≤ last ∧ last ≤ 9999) (h : numB s = true) : 1 ≤ numN s last ∧ numN s last ≤ 9999 := by
  unfold numN
  unfold numB at h
  split
  · exact hl
  · rename_i h0
    rw [if_neg h0, Bool.and_eq_true, Bool.and_eq_true, decide_eq_true_eq] at h
    rw [if_pos (by rw [h.1.1, h.1.2]; rfl)]
    have h1 := (numV_bound s h.1.2).2
    have h2 := pow_le4 (within_len h.1.1).2
    omega
open Classical in
noncomputable def spReadUid : VM.Spec := { modes := [.rd, .rd], run := fun | [.str s, .int .i64 last] => if s.length ≤ 4194304 then some (.tup [.int .i64 (uidN s last), .bool (uidB s)], []) else none | _ => none, need := [] }
attribute [go_sem] spReadUid
theorem spReadUid_in {ins : List V} {r : V} {outs : List V} (h : spReadUid.run ins = some (r, outs)) : ∃ (s : (List UInt8)) (last : Int), ins = [.str s, .int .i64 last] ∧ (s.length ≤ 4194304) ∧ .tup [.int .i64 (uidN s last), .bool (uidB s)] = r ∧ outs = [] := by
  unfold spReadUid at h
  simp only at h
  split at h
  · rename_i s last
    split at h
    case isFalse => cases h
    rename_i hc
    simp only [Option.some.injEq, Prod.mk.injEq] at h
    obtain ⟨h1, h2⟩ := h
    exact ⟨s, last, rfl, hc, h1, h2.symm⟩
  · cases h
def T_impl_readUid : Hints := ⟨fun _ => none, fun i => if i = 5 then some [0, 6, 12, 13] else none, fun i => if i = 0 then some [0, 1] else if i = 1 then some [0, 1, 9] else if i = 2 then some [4, 5] else if i = 3 then some [0, 6] else if i = 4 then some [0, 6, 12, 13] else if i = 5 then some [0, 6, 12, 13, 14] else if i = 6 then some [0, 6, 7, 12, 13] else if i = 7 then some [0, 6, 7, 12, 13, 21] else if i = 8 then some [4, 5] else if i = 9 then some [0, 6, 12, 13] else if i = 10 then some [0, 6, 12, 13] else if i = 11 then some [4, 5] else none, fun _ => none⟩
noncomputable def Phi_impl_readUid : Tab := fun f => if f = 59 then some spWithin else none
attribute [go_sem] T_impl_readUid Phi_impl_readUid
theorem phi_impl_readUid : ∀ f sp, Phi_impl_readUid f = some sp → FnOk Tryz.prog f sp ∧ ∀ n ∈ sp.need, n ∈ ([] : List String) := by
  intro f sp h
  unfold Phi_impl_readUid at h
  by_cases e : f = 59
  · rw [if_pos e] at h; cases h; rw [e]; exact ⟨ok_impl_within, (fun n (h : n ∈ ([] : List String)) => (nomatch h))⟩
  rw [if_neg e] at h
  cases h
theorem ok_impl_readUid : FnOk Tryz.prog 106 spReadUid := by
  refine fn_ok (Φ := Phi_impl_readUid) (T := T_impl_readUid) phi_impl_readUid mixed Tryz.func106 rfl rfl rfl (by decide) ?_
  intro ins r outs hr hl
  clear hl
  have hs := spReadUid_in hr
  clear hr
  obtain ⟨s, last, rfl, hc, hr, rfl⟩ := hs
  simp only [spReadUid, Tryz.f106, Go.VM.initS]
  cases hst : (s == [42]) with
  | true =>
    have h0 : s = [42] := by simpa using hst
    subst h0
    simp only [go_sem]
    repeat' ((first | ((first | apply qa | apply qb | apply qc | apply qd | apply qe | apply qf | apply qg | apply qh | apply qi | apply qj | apply qk) <;> intro hp) | ((first | refine ql rfl rfl (by decide +kernel) ?_ | refine qm _ rfl rfl (by decide +kernel) ?_ | refine goes_opn rfl ?_ | refine goes_opnD rfl rfl (by decide +kernel) ?_) <;> have hp := True.intro)) <;> simp only [hp, go_sem])
    simp only [fin_mk, finV, resL, resV1, resIn, endA, listIn, Option.some_or, Option.none_or, oneOrTup, go_sem]
    rw [← hr]
    rfl
  | false =>
    have h0 : ¬ s = [42] := by simpa using hst
    have hN : uidN s last = if s.all digB = true then numM s else 0 := by rw [uidN, if_neg h0]
    have hB : uidB s = (s.all digB && (within s.length 1 4 && decide (0 < numM s))) := by rw [uidB, if_neg h0]
    rw [hN, hB] at hr
    clear hN hB
    simp only [hst, go_sem]
    repeat' ((first | ((first | apply qa | apply qb | apply qc | apply qd | apply qe | apply qf | apply qg | apply qh | apply qi | apply qj | apply qk) <;> intro hp) | ((first | refine ql rfl rfl (by decide +kernel) ?_ | refine qm _ rfl rfl (by decide +kernel) ?_ | refine goes_opn rfl ?_ | refine goes_opnD rfl rfl (by decide +kernel) ?_) <;> have hp := True.intro)) <;> simp only [hp, hst, go_sem])
    refine loop_go (fun i : Nat => [(6, .int .i64 (numM (s.take i))), (13, .int .i64 (i : Int))]) (fun _ => []) (fun i => s.length - i) (fun i => i ≤ s.length ∧ (s.take i).all digB = true) 0 ⟨Nat.zero_le _, rfl⟩ rfl rfl ?_
    intro i ⟨hi, ha⟩ ih
    rcases Nat.lt_or_ge i s.length with h | h
    · have g1 : (i : Int) < s.length := by omega
      have g2 : (0 : Int) ≤ i := by omega
      have g3 : s[i]? = some s[i] := List.getElem?_eq_getElem h
      have g5 := wrap_succ h (by omega)
      have hm := numM_bound _ ha
      cases hb : digB s[i] with
      | false =>
        have hb' : within (s[i].toNat : Int) 48 57 = false := hb
        have hall : s.all digB = false := List.all_eq_false.2 ⟨s[i], List.getElem_mem h, by simp [hb]⟩
        simp only [g1, g2, g3, byte_wrap, hb', go_sem]
        repeat' ((first | ((first | apply qa | apply qb | apply qc | apply qd | apply qe | apply qf | apply qg | apply qh | apply qi | apply qj | apply qk) <;> intro hp) | ((first | refine ql rfl rfl (by decide +kernel) ?_ | refine qm _ rfl rfl (by decide +kernel) ?_ | refine goes_opn rfl ?_ | refine goes_opnD rfl rfl (by decide +kernel) ?_) <;> have hp := True.intro)) <;> simp only [hp, g1, g2, g3, byte_wrap, hb', go_sem])
        simp only [fin_mk, finV, resL, resV1, resIn, endA, listIn, Option.some_or, Option.none_or, oneOrTup, go_sem]
        rw [← hr]
        rw [hall]; rfl
      | true =>
        have hb' : within (s[i].toNat : Int) 48 57 = true := hb
        have hd := digB_iff hb
        have w1 : IntKind.i64.wrap (10 * numM (s.take i)) = 10 * numM (s.take i) := wrap64 (by omega) (by omega)
        have w2 : IntKind.u8.wrap ((s[i].toNat : Int) - 48) = (s[i].toNat : Int) - 48 := by
          simp only [IntKind.wrap, IntKind.signed, IntKind.bits]
          simp; omega
        have w3 : IntKind.i64.wrap ((s[i].toNat : Int) - 48) = (s[i].toNat : Int) - 48 := wrap64 (by omega) (by omega)
        have w4 : IntKind.i64.wrap (10 * numM (s.take i) + ((s[i].toNat : Int) - 48)) = 10 * numM (s.take i) + ((s[i].toNat : Int) - 48) := wrap64 (by omega) (by omega)
        have ih' := ih (i + 1) ⟨h, all_take_succ h ha hb⟩ (by omega)
        rw [take_succ' h, numM_snoc] at ih'
        clear ih
        simp only [g1, g2, g3, g5, byte_wrap, hb', w1, w2, w3, w4, go_sem]
        repeat' ((first | ((first | apply qa | apply qb | apply qc | apply qd | apply qe | apply qf | apply qg | apply qh | apply qi | apply qj | apply qk) <;> intro hp) | ((first | refine ql rfl rfl (by decide +kernel) ?_ | refine qm _ rfl rfl (by decide +kernel) ?_ | refine goes_opn rfl ?_ | refine goes_opnD rfl rfl (by decide +kernel) ?_) <;> have hp := True.intro)) <;> simp only [hp, g1, g2, g3, g5, byte_wrap, hb', w1, w2, w3, w4, go_sem])
        exact ih'
    · have g1 : ¬ (i : Int) < s.length := by omega
      have ht : s.take i = s := List.take_of_length_le h
      rw [ht] at ha ⊢
      rw [ha] at hr
      cases hw : within s.length 1 4 with
      | false =>
        rw [hw] at hr
        simp only [g1, hw, go_sem]
        repeat' ((first | ((first | apply qa | apply qb | apply qc | apply qd | apply qe | apply qf | apply qg | apply qh | apply qi | apply qj | apply qk) <;> intro hp) | ((first | refine ql rfl rfl (by decide +kernel) ?_ | refine qm _ rfl rfl (by decide +kernel) ?_ | refine goes_opn rfl ?_ | refine goes_opnD rfl rfl (by decide +kernel) ?_) <;> have hp := True.intro)) <;> simp only [hp, g1, hw, go_sem])
        simp only [fin_mk, finV, resL, resV1, resIn, endA, listIn, Option.some_or, Option.none_or, oneOrTup, go_sem]
        rw [← hr]
        rfl
      | true =>
        rw [hw] at hr
        simp only [g1, hw, go_sem]
        repeat' ((first | ((first | apply qa | apply qb | apply qc | apply qd | apply qe | apply qf | apply qg | apply qh | apply qi | apply qj | apply qk) <;> intro hp) | ((first | refine ql rfl rfl (by decide +kernel) ?_ | refine qm _ rfl rfl (by decide +kernel) ?_ | refine goes_opn rfl ?_ | refine goes_opnD rfl rfl (by decide +kernel) ?_) <;> have hp := True.intro)) <;> simp only [hp, g1, hw, go_sem])
        simp only [fin_mk, finV, resL, resV1, resIn, endA, listIn, Option.some_or, Option.none_or, oneOrTup, go_sem]
        rw [← hr]
        rfl
open Classical in
noncomputable def spNum : VM.Spec := { modes := [.rd, .rd], run := fun | [.str s, .int .i64 last] => if s.length ≤ 4194304 then some (.tup [.int .i64 (numN s last), .bool (numB s)], []) else none | _ => none, need := [] }
attribute [go_sem] spNum
theorem spNum_in {ins : List V} {r : V} {outs : List V} (h : spNum.run ins = some (r, outs)) : ∃ (s : (List UInt8)) (last : Int), ins = [.str s, .int .i64 last] ∧ (s.length ≤ 4194304) ∧ .tup [.int .i64 (numN s last), .bool (numB s)] = r ∧ outs = [] := by
  unfold spNum at h
  simp only at h
  split at h
  · rename_i s last
    split at h
    case isFalse => cases h
    rename_i hc
    simp only [Option.some.injEq, Prod.mk.injEq] at h
    obtain ⟨h1, h2⟩ := h
    exact ⟨s, last, rfl, hc, h1, h2.symm⟩
  · cases h
def T_spec_l05Num : Hints := ⟨fun _ => none, fun i => if i = 7 then some [0, 6, 7] else none, fun i => if i = 0 then some [0, 1] else if i = 1 then some [0, 1, 9] else if i = 2 then some [4, 5] else if i = 3 then some [0, 14] else if i = 4 then some [4, 5] else if i = 5 then some [0, 6] else if i = 6 then some [0, 6, 7] else if i = 7 then some [0, 6, 7, 18] else if i = 9 then some [0, 6, 7, 30] else if i = 10 then some [4, 5] else if i = 11 then some [0, 6, 7] else if i = 8 then some [0, 6, 7] else if i = 12 then some [4, 5] else none, fun _ => none⟩
noncomputable def Phi_spec_l05Num : Tab := fun f => if f = 53 then some spWithin else none
attribute [go_sem] T_spec_l05Num Phi_spec_l05Num
theorem phi_spec_l05Num : ∀ f sp, Phi_spec_l05Num f = some sp → FnOk Tryz.prog f sp ∧ ∀ n ∈ sp.need, n ∈ ([] : List String) := by
  intro f sp h
  unfold Phi_spec_l05Num at h
  by_cases e : f = 53
  · rw [if_pos e] at h; cases h; rw [e]; exact ⟨ok_spec_l01In, (fun n (h : n ∈ ([] : List String)) => (nomatch h))⟩
  rw [if_neg e] at h
  cases h
theorem ok_spec_l05Num : FnOk Tryz.prog 162 spNum := by
  refine fn_ok (Φ := Phi_spec_l05Num) (T := T_spec_l05Num) phi_spec_l05Num mixed Tryz.func162 rfl rfl rfl (by decide) ?_
  intro ins r outs hr hl
  clear hl
  have hs := spNum_in hr
  clear hr
  obtain ⟨s, last, rfl, hc, hr, rfl⟩ := hs
  simp only [spNum, Tryz.f162, Go.VM.initS]
  cases hst : (s == [42]) with
  | true =>
    have h0 : s = [42] := by simpa using hst
    subst h0
    simp only [go_sem]
    repeat' ((first | ((first | apply qa | apply qb | apply qc | apply qd | apply qe | apply qf | apply qg | apply qh | apply qi | apply qj | apply qk) <;> intro hp) | ((first | refine ql rfl rfl (by decide +kernel) ?_ | refine qm _ rfl rfl (by decide +kernel) ?_ | refine goes_opn rfl ?_ | refine goes_opnD rfl rfl (by decide +kernel) ?_) <;> have hp := True.intro)) <;> simp only [hp, go_sem])
    simp only [fin_mk, finV, resL, resV1, resIn, endA, listIn, Option.some_or, Option.none_or, oneOrTup, go_sem]
    rw [← hr]
    rfl
  | false =>
    have h0 : ¬ s = [42] := by simpa using hst
    have hN : numN s last = if (within s.length 1 4 && s.all digB) = true then numV s else 0 := by rw [numN, if_neg h0]
    have hB : numB s = (within s.length 1 4 && s.all digB && decide (1 ≤ numV s)) := by rw [numB, if_neg h0]
    rw [hN, hB] at hr
    clear hN hB
    cases hw : within s.length 1 4 with
    | false =>
      rw [hw] at hr
      simp only [hst, hw, go_sem]
      repeat' ((first | ((first | apply qa | apply qb | apply qc | apply qd | apply qe | apply qf | apply qg | apply qh | apply qi | apply qj | apply qk) <;> intro hp) | ((first | refine ql rfl rfl (by decide +kernel) ?_ | refine qm _ rfl rfl (by decide +kernel) ?_ | refine goes_opn rfl ?_ | refine goes_opnD rfl rfl (by decide +kernel) ?_) <;> have hp := True.intro)) <;> simp only [hp, hst, hw, go_sem])
      simp only [fin_mk, finV, resL, resV1, resIn, endA, listIn, Option.some_or, Option.none_or, oneOrTup, go_sem]
      rw [← hr]
      rfl
    | true =>
      rw [hw] at hr
      have hl4 := within_len hw
      simp only [hst, hw, go_sem]
      repeat' ((first | ((first | apply qa | apply qb | apply qc | apply qd | apply qe | apply qf | apply qg | apply qh | apply qi | apply qj | apply qk) <;> intro hp) | ((first | refine ql rfl rfl (by decide +kernel) ?_ | refine qm _ rfl rfl (by decide +kernel) ?_ | refine goes_opn rfl ?_ | refine goes_opnD rfl rfl (by decide +kernel) ?_) <;> have hp := True.intro)) <;> simp only [hp, hst, hw, go_sem])
      refine loop_go (fun i : Nat => [(6, .int .i64 (numV (s.take i))), (7, .int .i64 (i : Int))]) (fun _ => []) (fun i => s.length - i) (fun i => i ≤ s.length ∧ (s.take i).all digB = true) 0 ⟨Nat.zero_le _, rfl⟩ rfl rfl ?_
      intro i ⟨hi, ha⟩ ih
      rcases Nat.lt_or_ge i s.length with h | h
      · have g1 : (i : Int) < s.length := by omega
        have g2 : (0 : Int) ≤ i := by omega
        have g3 : s[i]? = some s[i] := List.getElem?_eq_getElem h
        have g5 := wrap_succ h (by omega)
        have hm := numV_bound _ ha
        have hp := pow_le9 (n := (s.take i).length) (by rw [List.length_take]; omega)
        cases hb : digB s[i] with
        | false =>
          have hall : s.all digB = false := List.all_eq_false.2 ⟨s[i], List.getElem_mem h, by simp [hb]⟩
          rw [hall] at hr
          by_cases c1 : (s[i].toNat : Int) < 48
          · simp only [g1, g2, g3, c1, go_sem]
            repeat' ((first | ((first | apply qa | apply qb | apply qc | apply qd | apply qe | apply qf | apply qg | apply qh | apply qi | apply qj | apply qk) <;> intro hp) | ((first | refine ql rfl rfl (by decide +kernel) ?_ | refine qm _ rfl rfl (by decide +kernel) ?_ | refine goes_opn rfl ?_ | refine goes_opnD rfl rfl (by decide +kernel) ?_) <;> have hp := True.intro)) <;> simp only [hp, g1, g2, g3, c1, go_sem])
            simp only [fin_mk, finV, resL, resV1, resIn, endA, listIn, Option.some_or, Option.none_or, oneOrTup, go_sem]
            rw [← hr]
            rfl
          · have c2 : (57 : Int) < s[i].toNat := by
              simp only [digB, within, Bool.and_eq_false_iff, decide_eq_false_iff_not] at hb; omega
            simp only [g1, g2, g3, c1, c2, go_sem]
            repeat' ((first | ((first | apply qa | apply qb | apply qc | apply qd | apply qe | apply qf | apply qg | apply qh | apply qi | apply qj | apply qk) <;> intro hp) | ((first | refine ql rfl rfl (by decide +kernel) ?_ | refine qm _ rfl rfl (by decide +kernel) ?_ | refine goes_opn rfl ?_ | refine goes_opnD rfl rfl (by decide +kernel) ?_) <;> have hp := True.intro)) <;> simp only [hp, g1, g2, g3, c1, c2, go_sem])
            simp only [fin_mk, finV, resL, resV1, resIn, endA, listIn, Option.some_or, Option.none_or, oneOrTup, go_sem]
            rw [← hr]
            rfl
        | true =>
          have hd := digB_iff hb
          have c1 : ¬ (s[i].toNat : Int) < 48 := by omega
          have c2 : ¬ (57 : Int) < s[i].toNat := by omega
          have w1 : IntKind.i64.wrap (10 * numV (s.take i)) = 10 * numV (s.take i) := wrap64 (by omega) (by omega)
          have w4 : IntKind.i64.wrap (10 * numV (s.take i) + (s[i].toNat : Int)) = 10 * numV (s.take i) + (s[i].toNat : Int) := wrap64 (by omega) (by omega)
          have w5 : IntKind.i64.wrap (10 * numV (s.take i) + (s[i].toNat : Int) - 48) = stepV (numV (s.take i)) s[i] := (wrap64 (by omega) (by omega)).trans (by unfold stepV; omega)
          have ih' := ih (i + 1) ⟨h, all_take_succ h ha hb⟩ (by omega)
          rw [take_succ' h, numV_snoc] at ih'
          clear ih
          simp only [g1, g2, g3, g5, byte_wrap, c1, c2, w1, w4, w5, go_sem]
          repeat' ((first | ((first | apply qa | apply qb | apply qc | apply qd | apply qe | apply qf | apply qg | apply qh | apply qi | apply qj | apply qk) <;> intro hp) | ((first | refine ql rfl rfl (by decide +kernel) ?_ | refine qm _ rfl rfl (by decide +kernel) ?_ | refine goes_opn rfl ?_ | refine goes_opnD rfl rfl (by decide +kernel) ?_) <;> have hp := True.intro)) <;> simp only [hp, g1, g2, g3, g5, byte_wrap, c1, c2, w1, w4, w5, go_sem])
          exact ih'
      · have g1 : ¬ (i : Int) < s.length := by omega
        have ht : s.take i = s := List.take_of_length_le h
        rw [ht] at ha ⊢
        rw [ha] at hr
        simp only [g1, go_sem]
        repeat' ((first | ((first | apply qa | apply qb | apply qc | apply qd | apply qe | apply qf | apply qg | apply qh | apply qi | apply qj | apply qk) <;> intro hp) | ((first | refine ql rfl rfl (by decide +kernel) ?_ | refine qm _ rfl rfl (by decide +kernel) ?_ | refine goes_opn rfl ?_ | refine goes_opnD rfl rfl (by decide +kernel) ?_) <;> have hp := True.intro)) <;> simp only [hp, g1, go_sem])
        simp only [fin_mk, finV, resL, resV1, resIn, endA, listIn, Option.some_or, Option.none_or, oneOrTup, go_sem]
        rw [← hr]
        rfl
end Go.Proofs.YtimiccneikhkgaaGreatDoor.L
