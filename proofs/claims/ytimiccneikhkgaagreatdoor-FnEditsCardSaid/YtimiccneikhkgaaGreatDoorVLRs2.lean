/- Parts of sets in texts; sets read whole. -/
import Derived.Test.YtimiccneikhkgaaGreatDoorVLRs
namespace Go.Proofs.YtimiccneikhkgaaGreatDoor.L
open Go Go.VM
set_option maxRecDepth 100000
set_option maxHeartbeats 4000000
set_option linter.unusedSimpArgs false
set_option linter.unusedVariables false
open Classical in
noncomputable def spIndex : VM.Spec := { modes := [.rd, .rd], run := fun | [.str s, .str t] => if s.length < 4294967281 then some (.int .i64 (Lib.index s t), []) else none | _ => none, need := ["internal/bytealg.MaxLen"] }
attribute [go_sem] spIndex
theorem spIndex_in {ins : List V} {r : V} {outs : List V} (h : spIndex.run ins = some (r, outs)) : ∃ (s : (List UInt8)) (t : (List UInt8)), ins = [.str s, .str t] ∧ (s.length < 4294967281) ∧ .int .i64 (Lib.index s t) = r ∧ outs = [] := by
  unfold spIndex at h
  simp only at h
  split at h
  · rename_i s t
    split at h
    case isFalse => cases h
    rename_i hc
    simp only [Option.some.injEq, Prod.mk.injEq] at h
    obtain ⟨h1, h2⟩ := h
    exact ⟨s, t, rfl, hc, h1, h2.symm⟩
  · cases h
theorem ok_internal_stringslite_Index : FnOk Tryz.prog 170 spIndex :=
  index_ok Tryz.func170 rfl (by kernel_rfl) (g := 0) (by kernel_rfl) (by simp [spIndex]) rfl (fun _ _ _ h => spIndex_in h) Tryz.stringslite_Index
theorem index_room {s t : List UInt8} (h : 0 ≤ Lib.index s t) : Lib.index s t + t.length ≤ s.length := by
  induction s with
  | nil =>
    unfold Lib.index at h ⊢
    split
    · rename_i ht
      have : t = [] := by simpa using ht
      subst this; simp
    · rename_i ht; rw [if_neg ht] at h; omega
  | cons b s ih =>
    unfold Lib.index at h ⊢
    split
    · rename_i hp
      have := isPrefixOf_len hp
      omega
    · rename_i hp
      rw [if_neg hp] at h
      split
      · rename_i he; rw [if_pos he] at h; omega
      · rename_i he
        rw [if_neg he] at h
        have h1 := Lib.index_ge s t
        have h2 : Lib.index s t ≠ -1 := by simpa using he
        have := ih (by omega)
        simp only [List.length_cons]; omega
def cutB (s t : List UInt8) : Bool := decide (0 ≤ Lib.index s t)
def cut1 (s t : List UInt8) : List UInt8 := if cutB s t = true then s.take (Lib.index s t).toNat else s
def cut2 (s t : List UInt8) : List UInt8 := if cutB s t = true then s.drop ((Lib.index s t).toNat + t.length) else []
open Classical in
noncomputable def spCut : VM.Spec := { modes := [.rd, .rd], run := fun | [.str s, .str t] => if s.length ≤ 4194304 ∧ t.length ≤ 4194304 then some (.tup [.str (cut1 s t), .str (cut2 s t), .bool (cutB s t)], []) else none | _ => none, need := ["internal/bytealg.MaxLen"] }
attribute [go_sem] spCut
theorem spCut_in {ins : List V} {r : V} {outs : List V} (h : spCut.run ins = some (r, outs)) : ∃ (s : (List UInt8)) (t : (List UInt8)), ins = [.str s, .str t] ∧ (s.length ≤ 4194304 ∧ t.length ≤ 4194304) ∧ .tup [.str (cut1 s t), .str (cut2 s t), .bool (cutB s t)] = r ∧ outs = [] := by
  unfold spCut at h
  simp only at h
  split at h
  · rename_i s t
    split at h
    case isFalse => cases h
    rename_i hc
    simp only [Option.some.injEq, Prod.mk.injEq] at h
    obtain ⟨h1, h2⟩ := h
    exact ⟨s, t, rfl, hc, h1, h2.symm⟩
  · cases h
def T_internal_stringslite_Cut : Hints := ⟨fun i => if i = 3 then some [] else none, fun _ => none, fun i => if i = 0 then some [0, 1] else if i = 1 then some [0, 1, 7] else if i = 2 then some [0, 1, 7, 12] else if i = 3 then some [4, 5, 6] else if i = 4 then some [4, 5, 6] else none, fun _ => none⟩
noncomputable def Phi_internal_stringslite_Cut : Tab := fun f => if f = 170 then some spIndex else none
attribute [go_sem] T_internal_stringslite_Cut Phi_internal_stringslite_Cut
theorem phi_internal_stringslite_Cut : ∀ f sp, Phi_internal_stringslite_Cut f = some sp → FnOk Tryz.prog f sp ∧ ∀ n ∈ sp.need, n ∈ (["internal/bytealg.MaxLen"] : List String) := by
  intro f sp h
  unfold Phi_internal_stringslite_Cut at h
  by_cases e : f = 170
  · rw [if_pos e] at h; cases h; rw [e]; exact ⟨ok_internal_stringslite_Index, (fun n (h : n ∈ (["internal/bytealg.MaxLen"] : List String)) => by simp only [List.mem_cons, List.not_mem_nil, or_false] at h; rcases h with rfl <;> simp)⟩
  rw [if_neg e] at h
  cases h
theorem ok_internal_stringslite_Cut : FnOk Tryz.prog 160 spCut := by
  refine fn_ok (Φ := Phi_internal_stringslite_Cut) (T := T_internal_stringslite_Cut) phi_internal_stringslite_Cut mixed Tryz.func160 rfl rfl rfl (by decide) ?_
  intro ins r outs hr hl
  clear hl
  have hs := spCut_in hr
  clear hr
  obtain ⟨s, t, rfl, hc, hr, rfl⟩ := hs
  simp only [spCut, Tryz.f160, Go.VM.initS]
  obtain ⟨hs, ht⟩ := hc
  have h1 : s.length < 4294967281 := by omega
  by_cases h : 0 ≤ Lib.index s t
  · have hr2 := index_room h
    obtain ⟨k, hk⟩ : ∃ k : Nat, Lib.index s t = k := ⟨(Lib.index s t).toNat, by omega⟩
    rw [hk] at hr2
    have hB : cutB s t = true := by simp [cutB, h]
    simp only [cut1, cut2, hB, if_true, hk, Int.toNat_natCast] at hr
    have g1 : (0 : Int) ≤ k := by omega
    have g2 : k ≤ s.length := by omega
    have g3 : IntKind.i64.wrap ((k : Int) + (t.length : Int)) = ((k + t.length : Nat) : Int) := (wrap64 (by omega) (by omega)).trans (by omega)
    have g4 : (0 : Int) ≤ ((k + t.length : Nat) : Int) := by omega
    have g5 : k + t.length ≤ s.length := by omega
    simp only [h1, hk, g1, g2, g3, g4, g5, Int.toNat_natCast, List.take_length, List.drop_zero, Nat.zero_le, Nat.le_refl, go_sem]
    repeat' ((first | ((first | apply qa | apply qb | apply qc | apply qd | apply qe | apply qf | apply qg | apply qh | apply qi | apply qj | apply qk) <;> intro hp) | ((first | refine ql rfl rfl (by decide +kernel) ?_ | refine qm _ rfl rfl (by decide +kernel) ?_ | refine goes_opn rfl ?_ | refine goes_opnD rfl rfl (by decide +kernel) ?_) <;> have hp := True.intro)) <;> simp only [hp, h1, hk, g1, g2, g3, g4, g5, Int.toNat_natCast, List.take_length, List.drop_zero, Nat.zero_le, Nat.le_refl, go_sem])
    simp only [fin_mk, finV, resL, resV1, resIn, endA, listIn, Option.some_or, Option.none_or, oneOrTup, go_sem]
    rw [← hr]
  · have hB : cutB s t = false := by simp [cutB]; omega
    simp only [cut1, cut2, hB, Bool.false_eq_true, if_false] at hr
    simp only [h1, h, go_sem]
    repeat' ((first | ((first | apply qa | apply qb | apply qc | apply qd | apply qe | apply qf | apply qg | apply qh | apply qi | apply qj | apply qk) <;> intro hp) | ((first | refine ql rfl rfl (by decide +kernel) ?_ | refine qm _ rfl rfl (by decide +kernel) ?_ | refine goes_opn rfl ?_ | refine goes_opnD rfl rfl (by decide +kernel) ?_) <;> have hp := True.intro)) <;> simp only [hp, h1, h, go_sem])
    simp only [fin_mk, finV, resL, resV1, resIn, endA, listIn, Option.some_or, Option.none_or, oneOrTup, go_sem]
    rw [← hr]
def T_strings_Cut : Hints := ⟨fun _ => none, fun _ => none, fun i => if i = 0 then some [0, 1] else if i = 1 then some [4, 5, 6] else none, fun _ => none⟩
noncomputable def Phi_strings_Cut : Tab := fun f => if f = 160 then some spCut else none
attribute [go_sem] T_strings_Cut Phi_strings_Cut
theorem phi_strings_Cut : ∀ f sp, Phi_strings_Cut f = some sp → FnOk Tryz.prog f sp ∧ ∀ n ∈ sp.need, n ∈ (["internal/bytealg.MaxLen"] : List String) := by
  intro f sp h
  unfold Phi_strings_Cut at h
  by_cases e : f = 160
  · rw [if_pos e] at h; cases h; rw [e]; exact ⟨ok_internal_stringslite_Cut, (fun n (h : n ∈ (["internal/bytealg.MaxLen"] : List String)) => by simp only [List.mem_cons, List.not_mem_nil, or_false] at h; rcases h with rfl <;> simp)⟩
  rw [if_neg e] at h
  cases h
theorem ok_strings_Cut : FnOk Tryz.prog 105 spCut := by
  refine fn_ok (Φ := Phi_strings_Cut) (T := T_strings_Cut) phi_strings_Cut mixed Tryz.func105 rfl rfl rfl (by decide) ?_
  intro ins r outs hr hl
  clear hl
  have hs := spCut_in hr
  clear hr
  obtain ⟨s, t, rfl, hc, hr, rfl⟩ := hs
  simp only [spCut, Tryz.f105, Go.VM.initS]
  obtain ⟨hs, ht⟩ := hc
  simp only [hs, ht, go_sem]
  repeat' ((first | ((first | apply qa | apply qb | apply qc | apply qd | apply qe | apply qf | apply qg | apply qh | apply qi | apply qj | apply qk) <;> intro hp) | ((first | refine ql rfl rfl (by decide +kernel) ?_ | refine qm _ rfl rfl (by decide +kernel) ?_ | refine goes_opn rfl ?_ | refine goes_opnD rfl rfl (by decide +kernel) ?_) <;> have hp := True.intro)) <;> simp only [hp, hs, ht, go_sem])
  simp only [fin_mk, finV, resL, resV1, resIn, endA, listIn, Option.some_or, Option.none_or, oneOrTup, go_sem]
  rw [← hr]
/-- The place of one byte. -/
theorem index_one (c : UInt8) (s : List UInt8) : Lib.index s [c] = if c ∈ s then ((s.takeWhile (notB c)).length : Int) else -1 := by
  induction s with
  | nil => rfl
  | cons b s ih =>
    by_cases hb : b = c
    · subst hb
      simp [Lib.index, List.isPrefixOf, List.takeWhile_cons, notB]
    · have hp : [c].isPrefixOf (b :: s) = false := by simp [List.isPrefixOf]; exact fun h => hb h.symm
      have hn : notB c b = true := by simpa [notB] using hb
      rw [Lib.index, hp, ih, List.takeWhile_cons, hn]
      by_cases hm : c ∈ s
      · have : ((((s.takeWhile (notB c)).length : Nat) : Int) == -1) = false := beq_eq_false_iff_ne.2 (by omega)
        simp [hm, this]
      · simp [hm, Ne.symm hb]
theorem takeWhile_take {α : Type} (p : α → Bool) (s : List α) : s.take (s.takeWhile p).length = s.takeWhile p := by
  induction s with
  | nil => rfl
  | cons b s ih =>
    rw [List.takeWhile_cons]
    split
    · rw [List.length_cons, List.take_succ_cons, ih]
    · rfl
/-- What a part tells: from, to; whether it does. -/
def first (p : List UInt8) : List UInt8 := p.takeWhile (notB 58)
def second (p : List UInt8) : List UInt8 := p.drop ((first p).length + 1)
def partB (p : List UInt8) : Bool := if 58 ∈ p then numB (first p) && numB (second p) else numB p
def partLo (p : List UInt8) (last : Int) : Int := if 58 ∈ p then min (numN (first p) last) (numN (second p) last) else numN p last
def partHi (p : List UInt8) (last : Int) : Int := if 58 ∈ p then max (numN (first p) last) (numN (second p) last) else numN p last
theorem part_in {p : List UInt8} {last : Int} (hl : 1 ≤ last ∧ last ≤ 9999) (h : partB p = true) : 1 ≤ partLo p last ∧ partLo p last ≤ partHi p last ∧ partHi p last ≤ 9999 := by
  unfold partB at h
  unfold partLo partHi
  split
  · rename_i hm
    rw [if_pos hm, Bool.and_eq_true] at h
    have h1 := numN_in hl h.1
    have h2 := numN_in hl h.2
    omega
  · rename_i hm
    rw [if_neg hm] at h
    have h1 := numN_in hl h
    omega
open Classical in
noncomputable def spPart : VM.Spec := { modes := [.rd, .rd], run := fun | [.str t, .int .i64 last] => if t.length ≤ 4194304 then some (.tup [.int .i64 (partLo t last), .int .i64 (partHi t last), .bool (partB t)], []) else none | _ => none, need := [] }
attribute [go_sem] spPart
theorem spPart_in {ins : List V} {r : V} {outs : List V} (h : spPart.run ins = some (r, outs)) : ∃ (t : (List UInt8)) (last : Int), ins = [.str t, .int .i64 last] ∧ (t.length ≤ 4194304) ∧ .tup [.int .i64 (partLo t last), .int .i64 (partHi t last), .bool (partB t)] = r ∧ outs = [] := by
  unfold spPart at h
  simp only at h
  split at h
  · rename_i t last
    split at h
    case isFalse => cases h
    rename_i hc
    simp only [Option.some.injEq, Prod.mk.injEq] at h
    obtain ⟨h1, h2⟩ := h
    exact ⟨t, last, rfl, hc, h1, h2.symm⟩
  · cases h
def T_spec_l05Part : Hints := ⟨fun _ => none, fun i => if i = 2 then some [0, 1, 7] else none, fun i => if i = 0 then some [0, 1] else if i = 1 then some [0, 1, 7] else if i = 2 then some [0, 1, 7, 17] else if i = 4 then some [0, 1, 7, 23] else if i = 5 then some [0, 1, 7, 8, 9] else if i = 6 then some [8, 9, 10, 11] else if i = 7 then some [8, 9, 10, 11, 43] else if i = 8 then some [8, 9, 10, 11] else if i = 9 then some [4, 5, 6] else if i = 3 then some [0, 1, 7] else if i = 10 then some [12, 13] else if i = 11 then some [4, 5, 6] else none, fun _ => none⟩
noncomputable def Phi_spec_l05Part : Tab := fun f => if f = 162 then some spNum else none
attribute [go_sem] T_spec_l05Part Phi_spec_l05Part
theorem phi_spec_l05Part : ∀ f sp, Phi_spec_l05Part f = some sp → FnOk Tryz.prog f sp ∧ ∀ n ∈ sp.need, n ∈ ([] : List String) := by
  intro f sp h
  unfold Phi_spec_l05Part at h
  by_cases e : f = 162
  · rw [if_pos e] at h; cases h; rw [e]; exact ⟨ok_spec_l05Num, (fun n (h : n ∈ ([] : List String)) => (nomatch h))⟩
  rw [if_neg e] at h
  cases h
theorem ok_spec_l05Part : FnOk Tryz.prog 115 spPart := by
  refine fn_ok (Φ := Phi_spec_l05Part) (T := T_spec_l05Part) phi_spec_l05Part mixed Tryz.func115 rfl rfl rfl (by decide) ?_
  intro ins r outs hr hl
  clear hl
  have hs := spPart_in hr
  clear hr
  obtain ⟨t, last, rfl, hc, hr, rfl⟩ := hs
  simp only [spPart, Tryz.f115, Go.VM.initS]
  simp only [go_sem]
  repeat' ((first | ((first | apply qa | apply qb | apply qc | apply qd | apply qe | apply qf | apply qg | apply qh | apply qi | apply qj | apply qk) <;> intro hp) | ((first | refine ql rfl rfl (by decide +kernel) ?_ | refine qm _ rfl rfl (by decide +kernel) ?_ | refine goes_opn rfl ?_ | refine goes_opnD rfl rfl (by decide +kernel) ?_) <;> have hp := True.intro)) <;> simp only [hp, go_sem])
  refine loop_go (fun i : Nat => [(7, .int .i64 (i : Int))]) (fun _ => []) (fun i => t.length - i) (fun i => i ≤ t.length ∧ ∀ x ∈ t.take i, notB 58 x = true) 0 ⟨Nat.zero_le _, by simp⟩ rfl rfl ?_
  intro i ⟨hi, ha⟩ ih
  rcases Nat.lt_or_ge i t.length with h | h
  · have g1 : (i : Int) < t.length := by omega
    have g2 : (0 : Int) ≤ i := by omega
    have g3 : t[i]? = some t[i] := List.getElem?_eq_getElem h
    have g4 : i ≤ t.length := by omega
    have g5 := wrap_succ h (by omega)
    have g6 : (0 : Int) ≤ ((i + 1 : Nat) : Int) := by omega
    have g7 : i + 1 ≤ t.length := by omega
    cases hb : ((t[i].toNat : Int) == 58) with
    | true =>
      have h58 : t[i] = 58 := by
        have h1 : t[i].toNat = (58 : UInt8).toNat := by simp only [beq_iff_eq] at hb; show t[i].toNat = 58; omega
        exact UInt8.toNat_inj.1 h1
      have hm : (58 : UInt8) ∈ t := by rw [← h58]; exact List.getElem_mem h
      have e1 : first t = t.take i := takeWhile_at ha h (by rw [h58]; rfl)
      have e2 : second t = t.drop (i + 1) := by rw [second, e1, List.length_take, Nat.min_eq_left (by omega)]
      have l1 : (t.take i).length ≤ 4194304 := by rw [List.length_take]; omega
      have l2 : (t.drop (i + 1)).length ≤ 4194304 := by rw [List.length_drop]; omega
      simp only [partLo, partHi, partB, if_pos hm, e1, e2] at hr
      generalize hX : numN (t.take i) last = X at *
      generalize hY : numN (t.drop (i + 1)) last = Y at *
      generalize hA : numB (t.take i) = A at *
      generalize hB : numB (t.drop (i + 1)) = B at *
      by_cases hlt : Y < X
      · rw [Int.min_eq_right (by omega), Int.max_eq_left (by omega)] at hr
        simp only [g1, g2, g3, g4, g5, g6, g7, hb, l1, l2, hX, hY, hA, hB, hlt, List.take_length, List.drop_zero, Nat.zero_le, Nat.le_refl, go_sem]
        repeat' ((first | ((first | apply qa | apply qb | apply qc | apply qd | apply qe | apply qf | apply qg | apply qh | apply qi | apply qj | apply qk) <;> intro hp) | ((first | refine ql rfl rfl (by decide +kernel) ?_ | refine qm _ rfl rfl (by decide +kernel) ?_ | refine goes_opn rfl ?_ | refine goes_opnD rfl rfl (by decide +kernel) ?_) <;> have hp := True.intro)) <;> simp only [hp, g1, g2, g3, g4, g5, g6, g7, hb, l1, l2, hX, hY, hA, hB, hlt, List.take_length, List.drop_zero, Nat.zero_le, Nat.le_refl, go_sem])
        all_goals (simp only [fin_mk, finV, resL, resV1, resIn, endA, listIn, Option.some_or, Option.none_or, oneOrTup, go_sem]; rw [← hr])
        all_goals (rw [hp]; rfl)
      · rw [Int.min_eq_left (by omega), Int.max_eq_right (by omega)] at hr
        simp only [g1, g2, g3, g4, g5, g6, g7, hb, l1, l2, hX, hY, hA, hB, hlt, List.take_length, List.drop_zero, Nat.zero_le, Nat.le_refl, go_sem]
        repeat' ((first | ((first | apply qa | apply qb | apply qc | apply qd | apply qe | apply qf | apply qg | apply qh | apply qi | apply qj | apply qk) <;> intro hp) | ((first | refine ql rfl rfl (by decide +kernel) ?_ | refine qm _ rfl rfl (by decide +kernel) ?_ | refine goes_opn rfl ?_ | refine goes_opnD rfl rfl (by decide +kernel) ?_) <;> have hp := True.intro)) <;> simp only [hp, g1, g2, g3, g4, g5, g6, g7, hb, l1, l2, hX, hY, hA, hB, hlt, List.take_length, List.drop_zero, Nat.zero_le, Nat.le_refl, go_sem])
        all_goals (simp only [fin_mk, finV, resL, resV1, resIn, endA, listIn, Option.some_or, Option.none_or, oneOrTup, go_sem]; rw [← hr])
        all_goals (rw [hp]; rfl)
    | false =>
      have ih' := ih (i + 1) ⟨h, by
        rw [take_succ' h]
        intro x hx
        rcases List.mem_append.1 hx with hx | hx
        · exact ha x hx
        · simp only [List.mem_singleton] at hx
          subst hx
          unfold notB
          rw [bne_iff_ne]
          intro e
          rw [e] at hb
          exact absurd hb (by decide)⟩ (by omega)
      simp only [g1, g2, g3, g5, hb, go_sem]
      repeat' ((first | ((first | apply qa | apply qb | apply qc | apply qd | apply qe | apply qf | apply qg | apply qh | apply qi | apply qj | apply qk) <;> intro hp) | ((first | refine ql rfl rfl (by decide +kernel) ?_ | refine qm _ rfl rfl (by decide +kernel) ?_ | refine goes_opn rfl ?_ | refine goes_opnD rfl rfl (by decide +kernel) ?_) <;> have hp := True.intro)) <;> simp only [hp, g1, g2, g3, g5, hb, go_sem])
      exact ih'
  · have g1 : ¬ (i : Int) < t.length := by omega
    rw [List.take_of_length_le h] at ha
    have hm : ¬ (58 : UInt8) ∈ t := fun hm => by have := ha _ hm; simp [notB] at this
    simp only [partLo, partHi, partB, if_neg hm] at hr
    simp only [hc, g1, go_sem]
    repeat' ((first | ((first | apply qa | apply qb | apply qc | apply qd | apply qe | apply qf | apply qg | apply qh | apply qi | apply qj | apply qk) <;> intro hp) | ((first | refine ql rfl rfl (by decide +kernel) ?_ | refine qm _ rfl rfl (by decide +kernel) ?_ | refine goes_opn rfl ?_ | refine goes_opnD rfl rfl (by decide +kernel) ?_) <;> have hp := True.intro)) <;> simp only [hp, hc, g1, go_sem])
    simp only [fin_mk, finV, resL, resV1, resIn, endA, listIn, Option.some_or, Option.none_or, oneOrTup, go_sem]
    rw [← hr]
/-- What the parts tell; none where one does not. -/
def rangesOf (last : Int) : List (List UInt8) → Option (List Range)
  | [] => some []
  | p :: ps => if partB p = true then (rangesOf last ps).map fun l => ⟨partLo p last, partHi p last⟩ :: l else none
theorem rangesOf_append (last : Int) : ∀ (a b : List (List UInt8)), rangesOf last (a ++ b) = (rangesOf last a).bind fun l => (rangesOf last b).map (l ++ ·)
  | [], b => by simp [rangesOf]
  | p :: a, b => by
    simp only [List.cons_append, rangesOf]
    split
    · rw [rangesOf_append last a b]
      cases rangesOf last a with
      | none => rfl
      | some l => cases rangesOf last b <;> simp
    · rfl
theorem rangesOf_in {last : Int} (hl : 1 ≤ last ∧ last ≤ 9999) : ∀ {ps : List (List UInt8)} {l : List Range}, rangesOf last ps = some l → (∀ r ∈ l, 1 ≤ r.Lo ∧ r.Lo ≤ r.Hi ∧ r.Hi ≤ 9999) ∧ l.length = ps.length
  | [], l, h => by simp only [rangesOf, Option.some.injEq] at h; subst h; simp
  | p :: ps, l, h => by
    simp only [rangesOf] at h
    split at h
    · rename_i hp
      simp only [Option.map_eq_some_iff] at h
      obtain ⟨m, hm, rfl⟩ := h
      obtain ⟨h1, h2⟩ := rangesOf_in hl hm
      refine ⟨fun r hr => ?_, by simp [h2]⟩
      rcases List.mem_cons.1 hr with rfl | hr
      · exact part_in hl hp
      · exact h1 r hr
    · cases h
def readOk (t : List UInt8) (last : Int) : Bool := within last 1 9999 && (match rangesOf last (splitOn 44 t) with | some l => decide ((setR l).length ≤ 40) | none => false)
def readSet (t : List UInt8) (last : Int) : List Range := if readOk t last = true then (match rangesOf last (splitOn 44 t) with | some l => setR l | none => []) else []
/-- What Cut at ':' tells. -/
theorem cutB_one (p : List UInt8) : cutB p [58] = decide (58 ∈ p) := by
  rw [cutB, index_one, Bool.eq_iff_iff]
  split <;> simp_all
theorem cut1_one (p : List UInt8) : cut1 p [58] = first p := by
  rw [cut1, cutB_one, index_one]
  by_cases h : (58 : UInt8) ∈ p
  · simp only [h, decide_true, if_true, Int.toNat_natCast]
    exact takeWhile_take _ _
  · simp only [h, decide_false, Bool.false_eq_true, if_false]
    exact (takeWhile_all fun x hx => by simp only [notB, bne_iff_ne]; rintro rfl; exact h hx).symm
theorem cut2_one (p : List UInt8) : cut2 p [58] = if 58 ∈ p then second p else [] := by
  rw [cut2, cutB_one, index_one]
  by_cases h : (58 : UInt8) ∈ p
  · simp only [h, decide_true, if_true, Int.toNat_natCast]; rfl
  · simp only [h, decide_false, Bool.false_eq_true, if_false]
theorem first_none {p : List UInt8} (h : ¬ (58 : UInt8) ∈ p) : first p = p := takeWhile_all fun x hx => by simp only [notB, bne_iff_ne]; rintro rfl; exact h hx
open Classical in
noncomputable def spReadSet : VM.Spec := { modes := [.rd, .rd], run := fun | [.str t, .int .i64 last] => if t.length ≤ 4194304 then some (.tup [.lst 2 ((readSet t last).map Range.enc), .bool (readOk t last)], []) else none | _ => none, need := ["internal/bytealg.MaxLen"] }
attribute [go_sem] spReadSet
theorem spReadSet_in {ins : List V} {r : V} {outs : List V} (h : spReadSet.run ins = some (r, outs)) : ∃ (t : (List UInt8)) (last : Int), ins = [.str t, .int .i64 last] ∧ (t.length ≤ 4194304) ∧ .tup [.lst 2 ((readSet t last).map Range.enc), .bool (readOk t last)] = r ∧ outs = [] := by
  unfold spReadSet at h
  simp only at h
  split at h
  · rename_i t last
    split at h
    case isFalse => cases h
    rename_i hc
    simp only [Option.some.injEq, Prod.mk.injEq] at h
    obtain ⟨h1, h2⟩ := h
    exact ⟨t, last, rfl, hc, h1, h2.symm⟩
  · cases h
def T_impl_ReadSet : Hints := ⟨fun _ => none, fun i => if i = 5 then some [1, 6, 24, 25, 26] else none, fun i => if i = 0 then some [0, 1] else if i = 1 then some [0, 1, 21] else if i = 2 then some [4, 5] else if i = 3 then some [0, 1, 6] else if i = 4 then some [1, 6, 24, 25, 26] else if i = 5 then some [1, 6, 24, 25, 26, 27] else if i = 6 then some [1, 6, 8, 24, 25, 26] else if i = 7 then some [1, 6, 9, 10, 11, 24, 25, 26] else if i = 8 then some [1, 6, 10, 11, 12, 13, 24, 25, 26] else if i = 9 then some [1, 6, 10, 11, 12, 13, 14, 24, 25, 26] else if i = 10 then some [1, 6, 10, 12, 13, 14, 24, 25, 26, 43] else if i = 11 then some [1, 6, 12, 13, 15, 16, 24, 25, 26] else if i = 12 then some [1, 6, 12, 13, 14, 24, 25, 26] else if i = 13 then some [1, 6, 12, 14, 24, 25, 26, 56] else if i = 14 then some [4, 5] else if i = 15 then some [1, 6, 24, 25, 26] else if i = 16 then some [1, 6, 24, 25, 26] else if i = 17 then some [17, 18] else if i = 18 then some [17, 74] else if i = 19 then some [4, 5] else if i = 20 then some [4, 5] else none, fun _ => none⟩
noncomputable def Phi_impl_ReadSet : Tab := fun f => if f = 103 then some spUid else if f = 104 then some spSplit else if f = 105 then some spCut else if f = 106 then some spReadUid else if f = 76 then some spSetOfRead else if f = 107 then some spHasRead else none
attribute [go_sem] T_impl_ReadSet Phi_impl_ReadSet
theorem phi_impl_ReadSet : ∀ f sp, Phi_impl_ReadSet f = some sp → FnOk Tryz.prog f sp ∧ ∀ n ∈ sp.need, n ∈ (["internal/bytealg.MaxLen"] : List String) := by
  intro f sp h
  unfold Phi_impl_ReadSet at h
  by_cases e : f = 103
  · rw [if_pos e] at h; cases h; rw [e]; exact ⟨ok_impl_isUid, (fun n (h : n ∈ ([] : List String)) => (nomatch h))⟩
  rw [if_neg e] at h
  by_cases e : f = 104
  · rw [if_pos e] at h; cases h; rw [e]; exact ⟨ok_strings_Split, (fun n (h : n ∈ (["internal/bytealg.MaxLen"] : List String)) => by simp only [List.mem_cons, List.not_mem_nil, or_false] at h; rcases h with rfl <;> simp)⟩
  rw [if_neg e] at h
  by_cases e : f = 105
  · rw [if_pos e] at h; cases h; rw [e]; exact ⟨ok_strings_Cut, (fun n (h : n ∈ (["internal/bytealg.MaxLen"] : List String)) => by simp only [List.mem_cons, List.not_mem_nil, or_false] at h; rcases h with rfl <;> simp)⟩
  rw [if_neg e] at h
  by_cases e : f = 106
  · rw [if_pos e] at h; cases h; rw [e]; exact ⟨ok_impl_readUid, (fun n (h : n ∈ ([] : List String)) => (nomatch h))⟩
  rw [if_neg e] at h
  by_cases e : f = 76
  · rw [if_pos e] at h; cases h; rw [e]; exact ⟨ok_impl_setOf, (fun n (h : n ∈ ([] : List String)) => (nomatch h))⟩
  rw [if_neg e] at h
  by_cases e : f = 107
  · rw [if_pos e] at h; cases h; rw [e]; exact ⟨ok_impl_ReadSet_1, (fun n (h : n ∈ ([] : List String)) => (nomatch h))⟩
  rw [if_neg e] at h
  cases h
theorem ok_impl_ReadSet : FnOk Tryz.prog 45 spReadSet := by
  refine fn_ok (Φ := Phi_impl_ReadSet) (T := T_impl_ReadSet) phi_impl_ReadSet mixed Tryz.func45 rfl rfl rfl (by decide) ?_
  intro ins r outs hr hl
  clear hl
  have hs := spReadSet_in hr
  clear hr
  obtain ⟨t, last, rfl, hc, hr, rfl⟩ := hs
  simp only [spReadSet, Tryz.f45, Go.VM.initS]
  cases hw : within last 1 9999 with
  | false =>
    simp only [hw, go_sem]
    repeat' ((first | ((first | apply qa | apply qb | apply qc | apply qd | apply qe | apply qf | apply qg | apply qh | apply qi | apply qj | apply qk) <;> intro hp) | ((first | refine ql rfl rfl (by decide +kernel) ?_ | refine qm _ rfl rfl (by decide +kernel) ?_ | refine goes_opn rfl ?_ | refine goes_opnD rfl rfl (by decide +kernel) ?_) <;> have hp := True.intro)) <;> simp only [hp, hw, go_sem])
    simp only [fin_mk, finV, resL, resV1, resIn, endA, listIn, Option.some_or, Option.none_or, oneOrTup, go_sem]
    rw [← hr]
    simp only [readSet, readOk, hw, Bool.false_and, Bool.false_eq_true, if_false]
    rfl
  | true =>
    have hl : 1 ≤ last ∧ last ≤ 9999 := by simpa only [within, Bool.and_eq_true, decide_eq_true_eq] using hw
    have b1 : t.length < 4294967281 := by omega
    have hS := split_eq 44 t
    have hP1 := splitOn_len 44 t
    have hP2 := splitOn_mem 44 t
    have hro : readOk t last = (match rangesOf last (splitOn 44 t) with | some l => decide ((setR l).length ≤ 40) | none => false) := by rw [readOk, hw, Bool.true_and]
    have hrs : readSet t last = if readOk t last = true then (match rangesOf last (splitOn 44 t) with | some l => setR l | none => []) else [] := rfl
    rw [hrs, hro] at hr
    clear hrs hro
    simp only [hw, b1, hS, go_sem]
    repeat' ((first | ((first | apply qa | apply qb | apply qc | apply qd | apply qe | apply qf | apply qg | apply qh | apply qi | apply qj | apply qk) <;> intro hp) | ((first | refine ql rfl rfl (by decide +kernel) ?_ | refine qm _ rfl rfl (by decide +kernel) ?_ | refine goes_opn rfl ?_ | refine goes_opnD rfl rfl (by decide +kernel) ?_) <;> have hp := True.intro)) <;> simp only [hp, hw, b1, hS, go_sem])
    generalize splitOn 44 t = P at *
    clear hS
    refine loop_go (fun q : Nat × List Range => [(26, .int .i64 (q.1 : Int))]) (fun q => [(2, ⟨.arr, 2, q.2.map Range.enc⟩)]) (fun q => P.length - q.1) (fun q => q.1 ≤ P.length ∧ rangesOf last (P.take q.1) = some q.2) (0, []) ⟨Nat.zero_le _, rfl⟩ rfl rfl ?_
    rintro ⟨i, L⟩ ⟨hi, hL⟩ ih
    simp only at hi hL ih
    have hLl : L.length = i := by rw [(rangesOf_in hl hL).2, List.length_take]; omega
    rcases Nat.lt_or_ge i P.length with h | h
    · have g1 : (i : Int) < P.length := by omega
      have g2 : (0 : Int) ≤ i := by omega
      have g3 : P[i]? = some P[i] := List.getElem?_eq_getElem h
      have g5 := wrap_succ h (by omega)
      have hx := hP2 _ (List.getElem_mem h)
      have hstep : rangesOf last (P.take (i + 1)) = if partB P[i] = true then some (L ++ [⟨partLo P[i] last, partHi P[i] last⟩]) else none := by
        rw [take_succ' h, rangesOf_append, hL, Option.bind_some, rangesOf]
        split <;> simp [rangesOf]
      have hbad : partB P[i] = false → rangesOf last P = none := fun hf => by
        rw [hf, if_neg (by simp)] at hstep
        have := rangesOf_append last (P.take (i + 1)) (P.drop (i + 1))
        rw [List.take_append_drop, hstep] at this
        exact this
      generalize hp : P[i] = p at *
      have c1 : p.length ≤ 4194304 := by omega
      have c2 : (first p).length ≤ 4194304 := Nat.le_trans (List.takeWhile_sublist (l := p) (notB 58)).length_le c1
      have c3 : (second p).length ≤ 4194304 := by rw [second, List.length_drop]; omega
      have f1 := cut1_one p
      have f2 := cut2_one p
      have f3 := cutB_one p
      have b4 : (i + 1) * 16 ≤ 140737488355328 := by omega
      have b5 : i ≤ 9223372036854775806 := by omega
      by_cases hm : (58 : UInt8) ∈ p
      · rw [if_pos hm] at f2
        rw [decide_eq_true hm] at f3
        have hPB : partB p = (numB (first p) && numB (second p)) := by rw [partB, if_pos hm]
        have hLo : partLo p last = min (numN (first p) last) (numN (second p) last) := by rw [partLo, if_pos hm]
        have hHi : partHi p last = max (numN (first p) last) (numN (second p) last) := by rw [partHi, if_pos hm]
        rw [hPB, hLo, hHi] at hstep
        rw [hPB] at hbad
        have u1 := uidB_eq (first p)
        have u2 := uidB_eq (second p)
        cases k1 : numB (first p) with
        | false =>
          rw [k1] at u1 hbad
          rw [hbad rfl] at hr
          simp only [g1, g2, g3, c1, c2, c3, f1, f2, f3, u1, u2, go_sem]
          repeat' ((first | ((first | apply qa | apply qb | apply qc | apply qd | apply qe | apply qf | apply qg | apply qh | apply qi | apply qj | apply qk) <;> intro hp) | ((first | refine ql rfl rfl (by decide +kernel) ?_ | refine qm _ rfl rfl (by decide +kernel) ?_ | refine goes_opn rfl ?_ | refine goes_opnD rfl rfl (by decide +kernel) ?_) <;> have hp := True.intro)) <;> simp only [hp, g1, g2, g3, c1, c2, c3, f1, f2, f3, u1, u2, go_sem])
          all_goals (simp only [fin_mk, finV, resL, resV1, resIn, endA, listIn, Option.some_or, Option.none_or, oneOrTup, go_sem]; rw [← hr])
          all_goals rfl
        | true =>
          cases k2 : numB (second p) with
          | false =>
            rw [k1] at u1 hbad
            rw [k2] at u2 hbad
            rw [hbad rfl] at hr
            simp only [g1, g2, g3, c1, c2, c3, f1, f2, f3, u1, u2, go_sem]
            repeat' ((first | ((first | apply qa | apply qb | apply qc | apply qd | apply qe | apply qf | apply qg | apply qh | apply qi | apply qj | apply qk) <;> intro hp) | ((first | refine ql rfl rfl (by decide +kernel) ?_ | refine qm _ rfl rfl (by decide +kernel) ?_ | refine goes_opn rfl ?_ | refine goes_opnD rfl rfl (by decide +kernel) ?_) <;> have hp := True.intro)) <;> simp only [hp, g1, g2, g3, c1, c2, c3, f1, f2, f3, u1, u2, go_sem])
            all_goals (simp only [fin_mk, finV, resL, resV1, resIn, endA, listIn, Option.some_or, Option.none_or, oneOrTup, go_sem]; rw [← hr])
            all_goals rfl
          | true =>
            have v1 := uidN_eq (last := last) k1
            have v2 := uidN_eq (last := last) k2
            rw [k1] at u1
            rw [k2] at u2
            rw [k1, k2] at hstep
            simp only [Bool.and_self, if_true] at hstep
            have ih' := ih (i + 1, _) ⟨h, hstep⟩ (by simp only; omega)
            simp only [List.map_append, List.map_cons, List.map_nil] at ih'
            clear ih hbad
            generalize hX : numN (first p) last = X at *
            generalize hY : numN (second p) last = Y at *
            have m1 : (if Y < X then Y else X) = min X Y := by split <;> omega
            have m2 : (if X < Y then Y else X) = max X Y := by split <;> omega
            simp only [g1, g2, g3, g5, c1, c2, c3, f1, f2, f3, u1, u2, v1, v2, m1, m2, hLl, b4, b5, go_sem]
            repeat' ((first | ((first | apply qa | apply qb | apply qc | apply qd | apply qe | apply qf | apply qg | apply qh | apply qi | apply qj | apply qk) <;> intro hp) | ((first | refine ql rfl rfl (by decide +kernel) ?_ | refine qm _ rfl rfl (by decide +kernel) ?_ | refine goes_opn rfl ?_ | refine goes_opnD rfl rfl (by decide +kernel) ?_) <;> have hp := True.intro)) <;> simp only [hp, g1, g2, g3, g5, c1, c2, c3, f1, f2, f3, u1, u2, v1, v2, m1, m2, hLl, b4, b5, go_sem])
            all_goals first | exact ih' | (clear ih'; omega)
      · rw [if_neg hm] at f2
        rw [decide_eq_false hm] at f3
        rw [first_none hm] at f1
        have hPB : partB p = numB p := by rw [partB, if_neg hm]
        have hLo : partLo p last = numN p last := by rw [partLo, if_neg hm]
        have hHi : partHi p last = numN p last := by rw [partHi, if_neg hm]
        rw [hPB, hLo, hHi] at hstep
        rw [hPB] at hbad
        have u1 := uidB_eq p
        cases k1 : numB p with
        | false =>
          rw [k1] at u1 hbad
          rw [hbad rfl] at hr
          simp only [g1, g2, g3, c1, c2, c3, f1, f2, f3, u1, go_sem]
          repeat' ((first | ((first | apply qa | apply qb | apply qc | apply qd | apply qe | apply qf | apply qg | apply qh | apply qi | apply qj | apply qk) <;> intro hp) | ((first | refine ql rfl rfl (by decide +kernel) ?_ | refine qm _ rfl rfl (by decide +kernel) ?_ | refine goes_opn rfl ?_ | refine goes_opnD rfl rfl (by decide +kernel) ?_) <;> have hp := True.intro)) <;> simp only [hp, g1, g2, g3, c1, c2, c3, f1, f2, f3, u1, go_sem])
          all_goals (simp only [fin_mk, finV, resL, resV1, resIn, endA, listIn, Option.some_or, Option.none_or, oneOrTup, go_sem]; rw [← hr])
          all_goals rfl
        | true =>
          have v1 := uidN_eq (last := last) k1
          rw [k1] at u1
          rw [k1, if_pos rfl] at hstep
          have ih' := ih (i + 1, _) ⟨h, hstep⟩ (by simp only; omega)
          simp only [List.map_append, List.map_cons, List.map_nil] at ih'
          clear ih hbad
          generalize hX : numN p last = X at *
          have m1 : (if X < X then X else X) = X := by split <;> rfl
          simp only [g1, g2, g3, g5, c1, c2, c3, f1, f2, f3, u1, v1, m1, hLl, b4, b5, go_sem]
          repeat' ((first | ((first | apply qa | apply qb | apply qc | apply qd | apply qe | apply qf | apply qg | apply qh | apply qi | apply qj | apply qk) <;> intro hp) | ((first | refine ql rfl rfl (by decide +kernel) ?_ | refine qm _ rfl rfl (by decide +kernel) ?_ | refine goes_opn rfl ?_ | refine goes_opnD rfl rfl (by decide +kernel) ?_) <;> have hp := True.intro)) <;> simp only [hp, g1, g2, g3, g5, c1, c2, c3, f1, f2, f3, u1, v1, m1, hLl, b4, b5, go_sem])
          all_goals first | exact ih' | (clear ih'; omega)
    · have g1 : ¬ (i : Int) < P.length := by omega
      rw [List.take_of_length_le h] at hL
      rw [hL] at hr
      simp only [decide_eq_true_eq] at hr
      have hLl2 : L.length ≤ 8388608 := by omega
      by_cases hk : (setR L).length ≤ 40
      · rw [if_pos hk, decide_eq_true hk] at hr
        have d1 : decide ((setR L).length ≤ 40) = true := decide_eq_true hk
        simp only [g1, hLl2, hk, d1, go_sem]
        repeat' ((first | ((first | apply qa | apply qb | apply qc | apply qd | apply qe | apply qf | apply qg | apply qh | apply qi | apply qj | apply qk) <;> intro hp) | ((first | refine ql rfl rfl (by decide +kernel) ?_ | refine qm _ rfl rfl (by decide +kernel) ?_ | refine goes_opn rfl ?_ | refine goes_opnD rfl rfl (by decide +kernel) ?_) <;> have hp := True.intro)) <;> simp only [hp, g1, hLl2, hk, d1, go_sem])
        simp only [fin_mk, finV, resL, resV1, resIn, endA, listIn, Option.some_or, Option.none_or, oneOrTup, go_sem]
        rw [← hr]
      · rw [if_neg hk, decide_eq_false hk] at hr
        have d1 : decide ((setR L).length ≤ 40) = false := decide_eq_false hk
        simp only [g1, hLl2, hk, d1, go_sem]
        repeat' ((first | ((first | apply qa | apply qb | apply qc | apply qd | apply qe | apply qf | apply qg | apply qh | apply qi | apply qj | apply qk) <;> intro hp) | ((first | refine ql rfl rfl (by decide +kernel) ?_ | refine qm _ rfl rfl (by decide +kernel) ?_ | refine goes_opn rfl ?_ | refine goes_opnD rfl rfl (by decide +kernel) ?_) <;> have hp := True.intro)) <;> simp only [hp, g1, hLl2, hk, d1, go_sem])
        simp only [fin_mk, finV, resL, resV1, resIn, endA, listIn, Option.some_or, Option.none_or, oneOrTup, go_sem]
        rw [← hr]
        rfl
end Go.Proofs.YtimiccneikhkgaaGreatDoor.L
