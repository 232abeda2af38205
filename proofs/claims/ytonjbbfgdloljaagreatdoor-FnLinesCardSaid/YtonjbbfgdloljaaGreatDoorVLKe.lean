/- Contracts of functions, and the facts that they need. No condition. -/
import Derived.Test.YtonjbbfgdloljaaGreatDoorVLRs
import Derived.Test.YtonjbbfgdloljaaGreatDoorVLS
import Derived.Test.YtonjbbfgdloljaaGreatDoorVLDr5

namespace Go.Proofs.YtonjbbfgdloljaaGreatDoor.L
open Go Go.VM
set_option maxRecDepth 100000
set_option maxHeartbeats 4000000
set_option linter.unusedSimpArgs false
set_option linter.unusedVariables false
open Classical in
noncomputable def spIndex : VM.Spec := { modes := [.rd, .rd], run := fun | [.str s, .str t] => if s.length < 4294967281 then some (.int .i64 (Lib.index s t), []) else none | _ => none, need := ["internal/bytealg.MaxLen"] }
attribute [go_sem] spIndex
theorem spIndex_in {ins : List V} {r : V} {outs : List V} (h : spIndex.run ins = some (r, outs)) : ∃ (s : (List UInt8)) (t : (List UInt8)), ins = [.str s, .str t] ∧ (s.length < 4294967281) ∧ .int .i64 (Lib.index s t) = r ∧ outs = [] := by
  unfold spIndex at h
  simp only at h
  split at h
  · rename_i s t
    split at h
    case isFalse => cases h
    rename_i hc
    simp only [Option.some.injEq, Prod.mk.injEq] at h
    obtain ⟨h1, h2⟩ := h
    exact ⟨s, t, rfl, hc, h1, h2.symm⟩
  · cases h
theorem ok_internal_stringslite_Index : FnOk Tryz.prog 129 spIndex :=
  index_ok Tryz.func129 rfl (by kernel_rfl) (g := 0) (by kernel_rfl) (by simp [spIndex]) rfl (fun _ _ _ h => spIndex_in h) Tryz.stringslite_Index
theorem index_room {s t : List UInt8} (h : 0 ≤ Lib.index s t) : Lib.index s t + t.length ≤ s.length := by
  induction s with
  | nil =>
    unfold Lib.index at h ⊢
    split
    · rename_i ht
      have : t = [] := by simpa using ht
      subst this; simp
    · rename_i ht; rw [if_neg ht] at h; omega
  | cons b s ih =>
    unfold Lib.index at h ⊢
    split
    · rename_i hp
      have := isPrefixOf_len hp
      omega
    · rename_i hp
      rw [if_neg hp] at h
      split
      · rename_i he; rw [if_pos he] at h; omega
      · rename_i he
        rw [if_neg he] at h
        have h1 := Lib.index_ge s t
        have h2 : Lib.index s t ≠ -1 := by simpa using he
        have := ih (by omega)
        simp only [List.length_cons]; omega
def cutB (s t : List UInt8) : Bool := decide (0 ≤ Lib.index s t)
def cut1 (s t : List UInt8) : List UInt8 := if cutB s t = true then s.take (Lib.index s t).toNat else s
def cut2 (s t : List UInt8) : List UInt8 := if cutB s t = true then s.drop ((Lib.index s t).toNat + t.length) else []
open Classical in
noncomputable def spCut : VM.Spec := { modes := [.rd, .rd], run := fun | [.str s, .str t] => if s.length ≤ 4194304 ∧ t.length ≤ 4194304 then some (.tup [.str (cut1 s t), .str (cut2 s t), .bool (cutB s t)], []) else none | _ => none, need := ["internal/bytealg.MaxLen"] }
attribute [go_sem] spCut
theorem spCut_in {ins : List V} {r : V} {outs : List V} (h : spCut.run ins = some (r, outs)) : ∃ (s : (List UInt8)) (t : (List UInt8)), ins = [.str s, .str t] ∧ (s.length ≤ 4194304 ∧ t.length ≤ 4194304) ∧ .tup [.str (cut1 s t), .str (cut2 s t), .bool (cutB s t)] = r ∧ outs = [] := by
  unfold spCut at h
  simp only at h
  split at h
  · rename_i s t
    split at h
    case isFalse => cases h
    rename_i hc
    simp only [Option.some.injEq, Prod.mk.injEq] at h
    obtain ⟨h1, h2⟩ := h
    exact ⟨s, t, rfl, hc, h1, h2.symm⟩
  · cases h
def T_internal_stringslite_Cut : Hints := ⟨lk [(3, [])], lk [], lk [(0, [0, 1]), (1, [0, 1, 7]), (2, [0, 1, 7, 12]), (3, [4, 5, 6]), (4, [4, 5, 6])], lk []⟩
noncomputable def Phi_internal_stringslite_Cut : Tab := lk [(129, spIndex)]
attribute [go_sem] T_internal_stringslite_Cut Phi_internal_stringslite_Cut
theorem phi_internal_stringslite_Cut : ∀ f sp, Phi_internal_stringslite_Cut f = some sp → FnOk Tryz.prog f sp ∧ ∀ n ∈ sp.need, n ∈ (["internal/bytealg.MaxLen"] : List String) := phi_cons ok_internal_stringslite_Index (fun n (h : n ∈ (["internal/bytealg.MaxLen"] : List String)) => by simp only [List.mem_cons, List.not_mem_nil, or_false] at h; rcases h with rfl <;> simp) (phi_nil)
theorem ok_internal_stringslite_Cut : FnOk Tryz.prog 118 spCut := by
  refine fn_ok (Φ := Phi_internal_stringslite_Cut) (T := T_internal_stringslite_Cut) phi_internal_stringslite_Cut mixed Tryz.func118 rfl rfl rfl (by decide) ?_
  intro ins r outs hr hl
  clear hl
  have hs := spCut_in hr
  clear hr
  obtain ⟨s, t, rfl, hc, hr, rfl⟩ := hs
  simp only [spCut, Tryz.f118, Go.VM.initS]
  obtain ⟨hs, ht⟩ := hc
  have h1 : s.length < 4294967281 := by omega
  by_cases h : 0 ≤ Lib.index s t
  · have hr2 := index_room h
    obtain ⟨k, hk⟩ : ∃ k : Nat, Lib.index s t = k := ⟨(Lib.index s t).toNat, by omega⟩
    rw [hk] at hr2
    have hB : cutB s t = true := by simp [cutB, h]
    simp only [cut1, cut2, hB, if_true, hk, Int.toNat_natCast] at hr
    have g1 : (0 : Int) ≤ k := by omega
    have g2 : k ≤ s.length := by omega
    have g3 : IntKind.i64.wrap ((k : Int) + (t.length : Int)) = ((k + t.length : Nat) : Int) := (wrap64 (by omega) (by omega)).trans (by omega)
    have g4 : (0 : Int) ≤ ((k + t.length : Nat) : Int) := by omega
    have g5 : k + t.length ≤ s.length := by omega
    simp only [h1, hk, g1, g2, g3, g4, g5, Int.toNat_natCast, List.take_length, List.drop_zero, Nat.zero_le, Nat.le_refl, go_sem]
    repeat' ((first | ((first | apply qa | apply qb | apply qc | apply qd | apply qe | apply qf | apply qg | apply qh | apply qi | apply qj | apply qk) <;> intro hp) | ((first | refine ql rfl rfl (by decide +kernel) ?_ | refine qm _ rfl rfl (by decide +kernel) ?_) <;> have hp := True.intro)) <;> simp only [hp, h1, hk, g1, g2, g3, g4, g5, Int.toNat_natCast, List.take_length, List.drop_zero, Nat.zero_le, Nat.le_refl, go_sem])
    simp only [fin_mk, finV, resL, resV1, resIn, endA, listIn, Option.some_or, Option.none_or, oneOrTup, go_sem]
    rw [← hr]
  · have hB : cutB s t = false := by simp [cutB]; omega
    simp only [cut1, cut2, hB, Bool.false_eq_true, if_false] at hr
    simp only [h1, h, go_sem]
    repeat' ((first | ((first | apply qa | apply qb | apply qc | apply qd | apply qe | apply qf | apply qg | apply qh | apply qi | apply qj | apply qk) <;> intro hp) | ((first | refine ql rfl rfl (by decide +kernel) ?_ | refine qm _ rfl rfl (by decide +kernel) ?_) <;> have hp := True.intro)) <;> simp only [hp, h1, h, go_sem])
    simp only [fin_mk, finV, resL, resV1, resIn, endA, listIn, Option.some_or, Option.none_or, oneOrTup, go_sem]
    rw [← hr]
def T_strings_Cut : Hints := ⟨lk [], lk [], lk [(0, [0, 1]), (1, [4, 5, 6])], lk []⟩
noncomputable def Phi_strings_Cut : Tab := lk [(118, spCut)]
attribute [go_sem] T_strings_Cut Phi_strings_Cut
theorem phi_strings_Cut : ∀ f sp, Phi_strings_Cut f = some sp → FnOk Tryz.prog f sp ∧ ∀ n ∈ sp.need, n ∈ (["internal/bytealg.MaxLen"] : List String) := phi_cons ok_internal_stringslite_Cut (fun n (h : n ∈ (["internal/bytealg.MaxLen"] : List String)) => by simp only [List.mem_cons, List.not_mem_nil, or_false] at h; rcases h with rfl <;> simp) (phi_nil)
theorem ok_strings_Cut : FnOk Tryz.prog 78 spCut := by
  refine fn_ok (Φ := Phi_strings_Cut) (T := T_strings_Cut) phi_strings_Cut mixed Tryz.func78 rfl rfl rfl (by decide) ?_
  intro ins r outs hr hl
  clear hl
  have hs := spCut_in hr
  clear hr
  obtain ⟨s, t, rfl, hc, hr, rfl⟩ := hs
  simp only [spCut, Tryz.f78, Go.VM.initS]
  obtain ⟨hs, ht⟩ := hc
  simp only [hs, ht, go_sem]
  repeat' ((first | apply qa | apply qb | apply qc | apply qd | apply qe | apply qf | apply qg | apply qh | apply qi | apply qj | apply qk) <;> intro hp <;> simp only [hp, hs, ht, go_sem])
  simp only [fin_mk, finV, resL, resV1, resIn, endA, listIn, Option.some_or, Option.none_or, oneOrTup, go_sem]
  rw [← hr]
theorem index_one (c : UInt8) (s : List UInt8) : Lib.index s [c] = if c ∈ s then ((s.takeWhile (notB c)).length : Int) else -1 := by
  induction s with
  | nil => rfl
  | cons b s ih =>
    by_cases hb : b = c
    · subst hb
      simp [Lib.index, List.isPrefixOf, List.takeWhile_cons, notB]
    · have hp : [c].isPrefixOf (b :: s) = false := by simp [List.isPrefixOf]; exact fun h => hb h.symm
      have hn : notB c b = true := by simpa [notB] using hb
      rw [Lib.index, hp, ih, List.takeWhile_cons, hn]
      by_cases hm : c ∈ s
      · have : ((((s.takeWhile (notB c)).length : Nat) : Int) == -1) = false := beq_eq_false_iff_ne.2 (by omega)
        simp [hm, this]
      · simp [hm, Ne.symm hb]
theorem takeWhile_take {α : Type} (p : α → Bool) (s : List α) : s.take (s.takeWhile p).length = s.takeWhile p := by
  induction s with
  | nil => rfl
  | cons b s ih =>
    rw [List.takeWhile_cons]
    split
    · rw [List.length_cons, List.take_succ_cons, ih]
    · rfl
def first (p : List UInt8) : List UInt8 := p.takeWhile (notB 58)
def second (p : List UInt8) : List UInt8 := p.drop ((first p).length + 1)
def partB (p : List UInt8) : Bool := if 58 ∈ p then numB (first p) && numB (second p) else numB p
def partLo (p : List UInt8) (last : Int) : Int := if 58 ∈ p then min (numN (first p) last) (numN (second p) last) else numN p last
def partHi (p : List UInt8) (last : Int) : Int := if 58 ∈ p then max (numN (first p) last) (numN (second p) last) else numN p last
theorem part_in {p : List UInt8} {last : Int} (hl : 1 ≤ last ∧ last ≤ 9999) (h : partB p = true) : 1 ≤ partLo p last ∧ partLo p last ≤ partHi p last ∧ partHi p last ≤ 9999 := by
  unfold partB at h
  unfold partLo partHi
  split
  · rename_i hm
    rw [if_pos hm, Bool.and_eq_true] at h
    have h1 := numN_in hl h.1
    have h2 := numN_in hl h.2
    omega
  · rename_i hm
    rw [if_neg hm] at h
    have h1 := numN_in hl h
    omega
open Classical in
noncomputable def spPart : VM.Spec := { modes := [.rd, .rd], run := fun | [.str t, .int .i64 last] => if t.length ≤ 4194304 then some (.tup [.int .i64 (partLo t last), .int .i64 (partHi t last), .bool (partB t)], []) else none | _ => none, need := [] }
attribute [go_sem] spPart
theorem spPart_in {ins : List V} {r : V} {outs : List V} (h : spPart.run ins = some (r, outs)) : ∃ (t : (List UInt8)) (last : Int), ins = [.str t, .int .i64 last] ∧ (t.length ≤ 4194304) ∧ .tup [.int .i64 (partLo t last), .int .i64 (partHi t last), .bool (partB t)] = r ∧ outs = [] := by
  unfold spPart at h
  simp only at h
  split at h
  · rename_i t last
    split at h
    case isFalse => cases h
    rename_i hc
    simp only [Option.some.injEq, Prod.mk.injEq] at h
    obtain ⟨h1, h2⟩ := h
    exact ⟨t, last, rfl, hc, h1, h2.symm⟩
  · cases h
def T_spec_l05Part : Hints := ⟨lk [], lk [(2, [0, 1, 7])], lk [(0, [0, 1]), (1, [0, 1, 7]), (2, [0, 1, 7, 17]), (4, [0, 1, 7, 23]), (5, [0, 1, 7, 8, 9]), (6, [8, 9, 10, 11]), (7, [8, 9, 10, 11, 43]), (8, [8, 9, 10, 11]), (9, [4, 5, 6]), (3, [0, 1, 7]), (10, [12, 13]), (11, [4, 5, 6])], lk []⟩
noncomputable def Phi_spec_l05Part : Tab := lk [(122, spNum)]
attribute [go_sem] T_spec_l05Part Phi_spec_l05Part
theorem phi_spec_l05Part : ∀ f sp, Phi_spec_l05Part f = some sp → FnOk Tryz.prog f sp ∧ ∀ n ∈ sp.need, n ∈ ([] : List String) := phi_cons ok_spec_l05Num (n0 rfl) (phi_nil)
theorem ok_spec_l05Part : FnOk Tryz.prog 87 spPart := by
  refine fn_ok (Φ := Phi_spec_l05Part) (T := T_spec_l05Part) phi_spec_l05Part mixed Tryz.func87 rfl rfl rfl (by decide) ?_
  intro ins r outs hr hl
  clear hl
  have hs := spPart_in hr
  clear hr
  obtain ⟨t, last, rfl, hc, hr, rfl⟩ := hs
  simp only [spPart, Tryz.f87, Go.VM.initS]
  simp only [go_sem]
  repeat' ((first | apply qa | apply qb | apply qc | apply qd | apply qe | apply qf | apply qg | apply qh | apply qi | apply qj | apply qk) <;> intro hp <;> simp only [hp, go_sem])
  refine loop_go (fun i : Nat => [(7, .int .i64 (i : Int))]) (fun _ => []) (fun i => t.length - i) (fun i => i ≤ t.length ∧ ∀ x ∈ t.take i, notB 58 x = true) 0 ⟨Nat.zero_le _, by simp⟩ rfl rfl ?_
  intro i ⟨hi, ha⟩ ih
  rcases Nat.lt_or_ge i t.length with h | h
  · have g1 : (i : Int) < t.length := by omega
    have g2 : (0 : Int) ≤ i := by omega
    have g3 : t[i]? = some t[i] := List.getElem?_eq_getElem h
    have g4 : i ≤ t.length := by omega
    have g5 := wrap_succ h (by omega)
    have g6 : (0 : Int) ≤ ((i + 1 : Nat) : Int) := by omega
    have g7 : i + 1 ≤ t.length := by omega
    cases hb : ((t[i].toNat : Int) == 58) with
    | true =>
      have h58 : t[i] = 58 := by
        have h1 : t[i].toNat = (58 : UInt8).toNat := by simp only [beq_iff_eq] at hb; show t[i].toNat = 58; omega
        exact UInt8.toNat_inj.1 h1
      have hm : (58 : UInt8) ∈ t := by rw [← h58]; exact List.getElem_mem h
      have e1 : first t = t.take i := takeWhile_at ha h (by rw [h58]; rfl)
      have e2 : second t = t.drop (i + 1) := by rw [second, e1, List.length_take, Nat.min_eq_left (by omega)]
      have l1 : (t.take i).length ≤ 4194304 := by rw [List.length_take]; omega
      have l2 : (t.drop (i + 1)).length ≤ 4194304 := by rw [List.length_drop]; omega
      simp only [partLo, partHi, partB, if_pos hm, e1, e2] at hr
      generalize hX : numN (t.take i) last = X at *
      generalize hY : numN (t.drop (i + 1)) last = Y at *
      generalize hA : numB (t.take i) = A at *
      generalize hB : numB (t.drop (i + 1)) = B at *
      by_cases hlt : Y < X
      · rw [Int.min_eq_right (by omega), Int.max_eq_left (by omega)] at hr
        simp only [g1, g2, g3, g4, g5, g6, g7, hb, l1, l2, hX, hY, hA, hB, hlt, List.take_length, List.drop_zero, Nat.zero_le, Nat.le_refl, go_sem]
        repeat' ((first | apply qa | apply qb | apply qc | apply qd | apply qe | apply qf | apply qg | apply qh | apply qi | apply qj | apply qk) <;> intro hp <;> simp only [hp, g1, g2, g3, g4, g5, g6, g7, hb, l1, l2, hX, hY, hA, hB, hlt, List.take_length, List.drop_zero, Nat.zero_le, Nat.le_refl, go_sem])
        all_goals (simp only [fin_mk, finV, resL, resV1, resIn, endA, listIn, Option.some_or, Option.none_or, oneOrTup, go_sem]; rw [← hr])
        all_goals (rw [hp]; rfl)
      · rw [Int.min_eq_left (by omega), Int.max_eq_right (by omega)] at hr
        simp only [g1, g2, g3, g4, g5, g6, g7, hb, l1, l2, hX, hY, hA, hB, hlt, List.take_length, List.drop_zero, Nat.zero_le, Nat.le_refl, go_sem]
        repeat' ((first | apply qa | apply qb | apply qc | apply qd | apply qe | apply qf | apply qg | apply qh | apply qi | apply qj | apply qk) <;> intro hp <;> simp only [hp, g1, g2, g3, g4, g5, g6, g7, hb, l1, l2, hX, hY, hA, hB, hlt, List.take_length, List.drop_zero, Nat.zero_le, Nat.le_refl, go_sem])
        all_goals (simp only [fin_mk, finV, resL, resV1, resIn, endA, listIn, Option.some_or, Option.none_or, oneOrTup, go_sem]; rw [← hr])
        all_goals (rw [hp]; rfl)
    | false =>
      have ih' := ih (i + 1) ⟨h, by
        rw [take_succ' h]
        intro x hx
        rcases List.mem_append.1 hx with hx | hx
        · exact ha x hx
        · simp only [List.mem_singleton] at hx
          subst hx
          unfold notB
          rw [bne_iff_ne]
          intro e
          rw [e] at hb
          exact absurd hb (by decide)⟩ (by omega)
      simp only [g1, g2, g3, g5, hb, go_sem]
      repeat' ((first | apply qa | apply qb | apply qc | apply qd | apply qe | apply qf | apply qg | apply qh | apply qi | apply qj | apply qk) <;> intro hp <;> simp only [hp, g1, g2, g3, g5, hb, go_sem])
      exact ih'
  · have g1 : ¬ (i : Int) < t.length := by omega
    rw [List.take_of_length_le h] at ha
    have hm : ¬ (58 : UInt8) ∈ t := fun hm => by have := ha _ hm; simp [notB] at this
    simp only [partLo, partHi, partB, if_neg hm] at hr
    simp only [hc, g1, go_sem]
    repeat' ((first | apply qa | apply qb | apply qc | apply qd | apply qe | apply qf | apply qg | apply qh | apply qi | apply qj | apply qk) <;> intro hp <;> simp only [hp, hc, g1, go_sem])
    simp only [fin_mk, finV, resL, resV1, resIn, endA, listIn, Option.some_or, Option.none_or, oneOrTup, go_sem]
    rw [← hr]
def rangesOf (last : Int) : List (List UInt8) → Option (List Range)
  | [] => some []
  | p :: ps => if partB p = true then (rangesOf last ps).map fun l => ⟨partLo p last, partHi p last⟩ :: l else none
theorem rangesOf_append (last : Int) : ∀ (a b : List (List UInt8)), rangesOf last (a ++ b) = (rangesOf last a).bind fun l => (rangesOf last b).map (l ++ ·)
  | [], b => by simp [rangesOf]
  | p :: a, b => by
    simp only [List.cons_append, rangesOf]
    split
    · rw [rangesOf_append last a b]
      cases rangesOf last a with
      | none => rfl
      | some l => cases rangesOf last b <;> simp
    · rfl
theorem rangesOf_in {last : Int} (hl : 1 ≤ last ∧ last ≤ 9999) : ∀ {ps : List (List UInt8)} {l : List Range}, rangesOf last ps = some l → (∀ r ∈ l, 1 ≤ r.Lo ∧ r.Lo ≤ r.Hi ∧ r.Hi ≤ 9999) ∧ l.length = ps.length
  | [], l, h => by simp only [rangesOf, Option.some.injEq] at h; subst h; simp
  | p :: ps, l, h => by
    simp only [rangesOf] at h
    split at h
    · rename_i hp
      simp only [Option.map_eq_some_iff] at h
      obtain ⟨m, hm, rfl⟩ := h
      obtain ⟨h1, h2⟩ := rangesOf_in hl hm
      refine ⟨fun r hr => ?_, by simp [h2]⟩
      rcases List.mem_cons.1 hr with rfl | hr
      · exact part_in hl hp
      · exact h1 r hr
    · cases h
def readOk (t : List UInt8) (last : Int) : Bool := within last 1 9999 && (match rangesOf last (splitOn 44 t) with | some l => decide ((setR l).length ≤ 40) | none => false)
def readSet (t : List UInt8) (last : Int) : List Range := if readOk t last = true then (match rangesOf last (splitOn 44 t) with | some l => setR l | none => []) else []
theorem cutB_one (p : List UInt8) : cutB p [58] = decide (58 ∈ p) := by
  rw [cutB, index_one, Bool.eq_iff_iff]
  split <;> simp_all
theorem cut1_one (p : List UInt8) : cut1 p [58] = first p := by
  rw [cut1, cutB_one, index_one]
  by_cases h : (58 : UInt8) ∈ p
  · simp only [h, decide_true, if_true, Int.toNat_natCast]
    exact takeWhile_take _ _
  · simp only [h, decide_false, Bool.false_eq_true, if_false]
    exact (takeWhile_all fun x hx => by simp only [notB, bne_iff_ne]; rintro rfl; exact h hx).symm
theorem cut2_one (p : List UInt8) : cut2 p [58] = if 58 ∈ p then second p else [] := by
  rw [cut2, cutB_one, index_one]
  by_cases h : (58 : UInt8) ∈ p
  · simp only [h, decide_true, if_true, Int.toNat_natCast]; rfl
  · simp only [h, decide_false, Bool.false_eq_true, if_false]
theorem first_none {p : List UInt8} (h : ¬ (58 : UInt8) ∈ p) : first p = p := takeWhile_all fun x hx => by simp only [notB, bne_iff_ne]; rintro rfl; exact h hx
open Classical in
noncomputable def spReadSet : VM.Spec := { modes := [.rd, .rd], run := fun | [.str t, .int .i64 last] => if t.length ≤ 4194304 then some (.tup [.lst 2 ((readSet t last).map Range.enc), .bool (readOk t last)], []) else none | _ => none, need := ["internal/bytealg.MaxLen"] }
attribute [go_sem] spReadSet
theorem spReadSet_in {ins : List V} {r : V} {outs : List V} (h : spReadSet.run ins = some (r, outs)) : ∃ (t : (List UInt8)) (last : Int), ins = [.str t, .int .i64 last] ∧ (t.length ≤ 4194304) ∧ .tup [.lst 2 ((readSet t last).map Range.enc), .bool (readOk t last)] = r ∧ outs = [] := by
  unfold spReadSet at h
  simp only at h
  split at h
  · rename_i t last
    split at h
    case isFalse => cases h
    rename_i hc
    simp only [Option.some.injEq, Prod.mk.injEq] at h
    obtain ⟨h1, h2⟩ := h
    exact ⟨t, last, rfl, hc, h1, h2.symm⟩
  · cases h
def T_impl_ReadSet : Hints := ⟨lk [], lk [(5, [1, 6, 24, 25, 26])], lk [(0, [0, 1]), (1, [0, 1, 21]), (2, [4, 5]), (3, [0, 1, 6]), (4, [1, 6, 24, 25, 26]), (5, [1, 6, 24, 25, 26, 27]), (6, [1, 6, 8, 24, 25, 26]), (7, [1, 6, 9, 10, 11, 24, 25, 26]), (8, [1, 6, 10, 11, 12, 13, 24, 25, 26]), (9, [1, 6, 10, 11, 12, 13, 14, 24, 25, 26]), (10, [1, 6, 10, 12, 13, 14, 24, 25, 26, 43]), (11, [1, 6, 12, 13, 15, 16, 24, 25, 26]), (12, [1, 6, 12, 13, 14, 24, 25, 26]), (13, [1, 6, 12, 14, 24, 25, 26, 56]), (14, [4, 5]), (15, [1, 6, 24, 25, 26]), (16, [1, 6, 24, 25, 26]), (17, [17, 18]), (18, [17, 74]), (19, [4, 5]), (20, [4, 5])], lk []⟩
noncomputable def Phi_impl_ReadSet : Tab := lk [(42, spUid), (104, spSplit), (78, spCut), (105, spReadUid), (106, spSetOfRead), (107, spHasRead)]
attribute [go_sem] T_impl_ReadSet Phi_impl_ReadSet
theorem phi_impl_ReadSet : ∀ f sp, Phi_impl_ReadSet f = some sp → FnOk Tryz.prog f sp ∧ ∀ n ∈ sp.need, n ∈ (["internal/bytealg.MaxLen"] : List String) := phi_cons ok_impl_isUid (n0 rfl) (phi_cons ok_strings_Split (fun n (h : n ∈ (["internal/bytealg.MaxLen"] : List String)) => by simp only [List.mem_cons, List.not_mem_nil, or_false] at h; rcases h with rfl <;> simp) (phi_cons ok_strings_Cut (fun n (h : n ∈ (["internal/bytealg.MaxLen"] : List String)) => by simp only [List.mem_cons, List.not_mem_nil, or_false] at h; rcases h with rfl <;> simp) (phi_cons ok_impl_readUid (n0 rfl) (phi_cons ok_impl_setOf (n0 rfl) (phi_cons ok_impl_ReadSet_1 (n0 rfl) (phi_nil))))))
theorem ok_impl_ReadSet : FnOk Tryz.prog 63 spReadSet := by
  refine fn_ok (Φ := Phi_impl_ReadSet) (T := T_impl_ReadSet) phi_impl_ReadSet mixed Tryz.func63 rfl rfl rfl (by decide) ?_
  intro ins r outs hr hl
  clear hl
  have hs := spReadSet_in hr
  clear hr
  obtain ⟨t, last, rfl, hc, hr, rfl⟩ := hs
  simp only [spReadSet, Tryz.f63, Go.VM.initS]
  cases hw : within last 1 9999 with
  | false =>
    simp only [hw, go_sem]
    repeat' ((first | apply qa | apply qb | apply qc | apply qd | apply qe | apply qf | apply qg | apply qh | apply qi | apply qj | apply qk) <;> intro hp <;> simp only [hp, hw, go_sem])
    simp only [fin_mk, finV, resL, resV1, resIn, endA, listIn, Option.some_or, Option.none_or, oneOrTup, go_sem]
    rw [← hr]
    simp only [readSet, readOk, hw, Bool.false_and, Bool.false_eq_true, if_false]
    rfl
  | true =>
    have hl : 1 ≤ last ∧ last ≤ 9999 := by simpa only [within, Bool.and_eq_true, decide_eq_true_eq] using hw
    have b1 : t.length < 4294967281 := by omega
    have hS := split_eq 44 t
    have hP1 := splitOn_len 44 t
    have hP2 := splitOn_mem 44 t
    have hro : readOk t last = (match rangesOf last (splitOn 44 t) with | some l => decide ((setR l).length ≤ 40) | none => false) := by rw [readOk, hw, Bool.true_and]
    have hrs : readSet t last = if readOk t last = true then (match rangesOf last (splitOn 44 t) with | some l => setR l | none => []) else [] := rfl
    rw [hrs, hro] at hr
    clear hrs hro
    simp only [hw, b1, hS, go_sem]
    repeat' ((first | apply qa | apply qb | apply qc | apply qd | apply qe | apply qf | apply qg | apply qh | apply qi | apply qj | apply qk) <;> intro hp <;> simp only [hp, hw, b1, hS, go_sem])
    generalize splitOn 44 t = P at *
    clear hS
    refine loop_go (fun q : Nat × List Range => [(26, .int .i64 (q.1 : Int))]) (fun q => [(2, ⟨.arr, 2, q.2.map Range.enc⟩)]) (fun q => P.length - q.1) (fun q => q.1 ≤ P.length ∧ rangesOf last (P.take q.1) = some q.2) (0, []) ⟨Nat.zero_le _, rfl⟩ rfl rfl ?_
    rintro ⟨i, L⟩ ⟨hi, hL⟩ ih
    simp only at hi hL ih
    have hLl : L.length = i := by rw [(rangesOf_in hl hL).2, List.length_take]; omega
    rcases Nat.lt_or_ge i P.length with h | h
    · have g1 : (i : Int) < P.length := by omega
      have g2 : (0 : Int) ≤ i := by omega
      have g3 : P[i]? = some P[i] := List.getElem?_eq_getElem h
      have g5 := wrap_succ h (by omega)
      have hx := hP2 _ (List.getElem_mem h)
      have hstep : rangesOf last (P.take (i + 1)) = if partB P[i] = true then some (L ++ [⟨partLo P[i] last, partHi P[i] last⟩]) else none := by
        rw [take_succ' h, rangesOf_append, hL, Option.bind_some, rangesOf]
        split <;> simp [rangesOf]
      have hbad : partB P[i] = false → rangesOf last P = none := fun hf => by
        rw [hf, if_neg (by simp)] at hstep
        have := rangesOf_append last (P.take (i + 1)) (P.drop (i + 1))
        rw [List.take_append_drop, hstep] at this
        exact this
      generalize hp : P[i] = p at *
      have c1 : p.length ≤ 4194304 := by omega
      have c2 : (first p).length ≤ 4194304 := Nat.le_trans (List.takeWhile_sublist (l := p) (notB 58)).length_le c1
      have c3 : (second p).length ≤ 4194304 := by rw [second, List.length_drop]; omega
      have f1 := cut1_one p
      have f2 := cut2_one p
      have f3 := cutB_one p
      have b4 : (i + 1) * 16 ≤ 140737488355328 := by omega
      have b5 : i ≤ 9223372036854775806 := by omega
      by_cases hm : (58 : UInt8) ∈ p
      · rw [if_pos hm] at f2
        rw [decide_eq_true hm] at f3
        have hPB : partB p = (numB (first p) && numB (second p)) := by rw [partB, if_pos hm]
        have hLo : partLo p last = min (numN (first p) last) (numN (second p) last) := by rw [partLo, if_pos hm]
        have hHi : partHi p last = max (numN (first p) last) (numN (second p) last) := by rw [partHi, if_pos hm]
        rw [hPB, hLo, hHi] at hstep
        rw [hPB] at hbad
        have u1 := uidB_eq (first p)
        have u2 := uidB_eq (second p)
        cases k1 : numB (first p) with
        | false =>
          rw [k1] at u1 hbad
          rw [hbad rfl] at hr
          simp only [g1, g2, g3, c1, c2, c3, f1, f2, f3, u1, u2, go_sem]
          repeat' ((first | apply qa | apply qb | apply qc | apply qd | apply qe | apply qf | apply qg | apply qh | apply qi | apply qj | apply qk) <;> intro hp <;> simp only [hp, g1, g2, g3, c1, c2, c3, f1, f2, f3, u1, u2, go_sem])
          all_goals (simp only [fin_mk, finV, resL, resV1, resIn, endA, listIn, Option.some_or, Option.none_or, oneOrTup, go_sem]; rw [← hr])
          all_goals rfl
        | true =>
          cases k2 : numB (second p) with
          | false =>
            rw [k1] at u1 hbad
            rw [k2] at u2 hbad
            rw [hbad rfl] at hr
            simp only [g1, g2, g3, c1, c2, c3, f1, f2, f3, u1, u2, go_sem]
            repeat' ((first | apply qa | apply qb | apply qc | apply qd | apply qe | apply qf | apply qg | apply qh | apply qi | apply qj | apply qk) <;> intro hp <;> simp only [hp, g1, g2, g3, c1, c2, c3, f1, f2, f3, u1, u2, go_sem])
            all_goals (simp only [fin_mk, finV, resL, resV1, resIn, endA, listIn, Option.some_or, Option.none_or, oneOrTup, go_sem]; rw [← hr])
            all_goals rfl
          | true =>
            have v1 := uidN_eq (last := last) k1
            have v2 := uidN_eq (last := last) k2
            rw [k1] at u1
            rw [k2] at u2
            rw [k1, k2] at hstep
            simp only [Bool.and_self, if_true] at hstep
            have ih' := ih (i + 1, _) ⟨h, hstep⟩ (by simp only; omega)
            simp only [List.map_append, List.map_cons, List.map_nil] at ih'
            clear ih hbad
            generalize hX : numN (first p) last = X at *
            generalize hY : numN (second p) last = Y at *
            have m1 : (if Y < X then Y else X) = min X Y := by split <;> omega
            have m2 : (if X < Y then Y else X) = max X Y := by split <;> omega
            simp only [g1, g2, g3, g5, c1, c2, c3, f1, f2, f3, u1, u2, v1, v2, m1, m2, hLl, b4, b5, go_sem]
            repeat' ((first | apply qa | apply qb | apply qc | apply qd | apply qe | apply qf | apply qg | apply qh | apply qi | apply qj | apply qk) <;> intro hp <;> simp only [hp, g1, g2, g3, g5, c1, c2, c3, f1, f2, f3, u1, u2, v1, v2, m1, m2, hLl, b4, b5, go_sem])
            all_goals first | exact ih' | (clear ih'; omega)
      · rw [if_neg hm] at f2
        rw [decide_eq_false hm] at f3
        rw [first_none hm] at f1
        have hPB : partB p = numB p := by rw [partB, if_neg hm]
        have hLo : partLo p last = numN p last := by rw [partLo, if_neg hm]
        have hHi : partHi p last = numN p last := by rw [partHi, if_neg hm]
        rw [hPB, hLo, hHi] at hstep
        rw [hPB] at hbad
        have u1 := uidB_eq p
        cases k1 : numB p with
        | false =>
          rw [k1] at u1 hbad
          rw [hbad rfl] at hr
          simp only [g1, g2, g3, c1, c2, c3, f1, f2, f3, u1, go_sem]
          repeat' ((first | apply qa | apply qb | apply qc | apply qd | apply qe | apply qf | apply qg | apply qh | apply qi | apply qj | apply qk) <;> intro hp <;> simp only [hp, g1, g2, g3, c1, c2, c3, f1, f2, f3, u1, go_sem])
          all_goals (simp only [fin_mk, finV, resL, resV1, resIn, endA, listIn, Option.some_or, Option.none_or, oneOrTup, go_sem]; rw [← hr])
          all_goals rfl
        | true =>
          have v1 := uidN_eq (last := last) k1
          rw [k1] at u1
          rw [k1, if_pos rfl] at hstep
          have ih' := ih (i + 1, _) ⟨h, hstep⟩ (by simp only; omega)
          simp only [List.map_append, List.map_cons, List.map_nil] at ih'
          clear ih hbad
          generalize hX : numN p last = X at *
          have m1 : (if X < X then X else X) = X := by split <;> rfl
          simp only [g1, g2, g3, g5, c1, c2, c3, f1, f2, f3, u1, v1, m1, hLl, b4, b5, go_sem]
          repeat' ((first | apply qa | apply qb | apply qc | apply qd | apply qe | apply qf | apply qg | apply qh | apply qi | apply qj | apply qk) <;> intro hp <;> simp only [hp, g1, g2, g3, g5, c1, c2, c3, f1, f2, f3, u1, v1, m1, hLl, b4, b5, go_sem])
          all_goals first | exact ih' | (clear ih'; omega)
    · have g1 : ¬ (i : Int) < P.length := by omega
      rw [List.take_of_length_le h] at hL
      rw [hL] at hr
      simp only [decide_eq_true_eq] at hr
      have hLl2 : L.length ≤ 8388608 := by omega
      by_cases hk : (setR L).length ≤ 40
      · rw [if_pos hk, decide_eq_true hk] at hr
        have d1 : decide ((setR L).length ≤ 40) = true := decide_eq_true hk
        simp only [g1, hLl2, hk, d1, go_sem]
        repeat' ((first | apply qa | apply qb | apply qc | apply qd | apply qe | apply qf | apply qg | apply qh | apply qi | apply qj | apply qk) <;> intro hp <;> simp only [hp, g1, hLl2, hk, d1, go_sem])
        simp only [fin_mk, finV, resL, resV1, resIn, endA, listIn, Option.some_or, Option.none_or, oneOrTup, go_sem]
        rw [← hr]
      · rw [if_neg hk, decide_eq_false hk] at hr
        have d1 : decide ((setR L).length ≤ 40) = false := decide_eq_false hk
        simp only [g1, hLl2, hk, d1, go_sem]
        repeat' ((first | apply qa | apply qb | apply qc | apply qd | apply qe | apply qf | apply qg | apply qh | apply qi | apply qj | apply qk) <;> intro hp <;> simp only [hp, g1, hLl2, hk, d1, go_sem])
        simp only [fin_mk, finV, resL, resV1, resIn, endA, listIn, Option.some_or, Option.none_or, oneOrTup, go_sem]
        rw [← hr]
        rfl
end Go.Proofs.YtonjbbfgdloljaaGreatDoor.L

namespace Go.Proofs.YtonjbbfgdloljaaGreatDoor.L
open Go Go.VM
set_option maxRecDepth 100000
set_option maxHeartbeats 4000000
set_option linter.unusedSimpArgs false
set_option linter.unusedVariables false
theorem splitOn_none {c : UInt8} : ∀ {a : List UInt8}, (∀ x ∈ a, notB c x = true) → splitOn c a = [a]
  | [], _ => rfl
  | x :: a, h => by
    have hx : ¬ x = c := by simpa [notB] using h x (by simp)
    rw [splitOn, if_neg hx, splitOn_none fun y hy => h y (by simp [hy])]; rfl
theorem splitOn_app {c : UInt8} (r : List UInt8) : ∀ {a : List UInt8}, (∀ x ∈ a, notB c x = true) → splitOn c (a ++ c :: r) = a :: splitOn c r
  | [], _ => by rw [List.nil_append, splitOn, if_pos rfl]
  | x :: a, h => by
    have hx : ¬ x = c := by simpa [notB] using h x (by simp)
    rw [List.cons_append, splitOn, if_neg hx, splitOn_app r fun y hy => h y (by simp [hy])]; rfl
theorem splitOn_at {c : UInt8} {t : List UInt8} {b i : Nat} (hb : b ≤ i) (h : i < t.length) (hc : t[i] = c) (ha : ∀ x ∈ (t.take i).drop b, notB c x = true) : splitOn c (t.drop b) = (t.take i).drop b :: splitOn c (t.drop (i + 1)) := by
  have e : t.drop b = (t.take i).drop b ++ c :: t.drop (i + 1) := by
    have h1 : t = t.take i ++ c :: t.drop (i + 1) := by
      rw [← hc]; simp
    have h2 : b ≤ (t.take i).length := by rw [List.length_take]; omega
    conv => lhs; rw [h1]
    rw [List.drop_append_of_le_length h2]
  rw [e, splitOn_app _ ha]
theorem setR_gen {R : List Range} {N : Nat} (hN : N < 10001) : scan ((nums N).filter (markB (bitsOf (memN R)))) = scan ((nums N).filter fun n => hasR R n) := by
  congr 1
  apply List.filter_congr
  intro x hx
  rw [nums_mem] at hx
  rw [markB, List.getD_eq_getElem?_getD, bitsOf_get _ (by omega), Option.getD_some, memN]
  congr 1
  omega
theorem setR_bits {R : List Range} : scanB (bitsOf (memN R)) = setR R := setR_gen (by decide)
theorem memN_zero {R : List Range} (h : ∀ r ∈ R, 1 ≤ r.Lo ∧ r.Lo ≤ r.Hi ∧ r.Hi ≤ 9999) : (bitsOf (memN R)).getD 0 false = false := by
  rw [List.getD_eq_getElem?_getD, bitsOf_get _ (by omega), Option.getD_some, memN, hasR, List.any_eq_false]
  intro r hr
  have := h r hr
  simp; omega
theorem setR_ok (R : List Range) : setOk (setR R) = decide ((setR R).length ≤ 40) := by
  unfold setR
  rw [setOk_canon (scan_canon _ _ ((nums_asc 9999).filter _))]
theorem setR_nil : setR [] = [] := by
  have : (nums 9999).filter (fun n => hasR [] n) = [] := List.filter_eq_nil_iff.2 (fun _ _ => by simp [hasR])
  rw [setR, this]; rfl
theorem memN_nil : memN [] = fun _ => false := rfl
def T_spec_ReadSet : Hints := ⟨lk [], lk [(7, [0, 1, 6, 7, 8, 9]), (14, [0, 1, 6, 7, 9, 11, 13])], lk [(0, [0, 1]), (1, [0, 1, 6]), (2, [0, 1, 6, 17]), (3, [4, 5]), (4, [0, 1, 6, 7]), (5, [0, 1, 6, 7, 8]), (6, [0, 1, 6, 7, 8, 9]), (7, [0, 1, 6, 7, 8, 9, 23]), (9, [0, 1, 6, 7, 8, 9, 35]), (10, [0, 1, 6, 7, 9, 10, 11, 12]), (11, [0, 1, 6, 7, 9, 10, 11, 47]), (12, [4, 5]), (13, [0, 1, 6, 7, 9, 11, 13]), (14, [0, 1, 6, 7, 9, 11, 13, 52]), (16, [0, 1, 6, 7, 9, 11, 13]), (15, [0, 1, 6, 7, 9, 11, 13]), (17, [0, 1, 6, 7, 8, 9]), (8, [0, 1, 6, 7, 8, 9]), (18, [4, 5])], lk []⟩
noncomputable def Phi_spec_ReadSet : Tab := lk [(38, spWithin), (87, spPart), (88, spScanBits)]
attribute [go_sem] T_spec_ReadSet Phi_spec_ReadSet
theorem phi_spec_ReadSet : ∀ f sp, Phi_spec_ReadSet f = some sp → FnOk Tryz.prog f sp ∧ ∀ n ∈ sp.need, n ∈ (["internal/bytealg.MaxLen"] : List String) := phi_cons ok_spec_l01In (n0 rfl) (phi_cons ok_spec_l05Part (n0 rfl) (phi_cons ok_spec_l05Set (n0 rfl) (phi_nil)))
theorem ok_spec_ReadSet : FnOk Tryz.prog 51 spReadSet := by
  refine fn_ok (Φ := Phi_spec_ReadSet) (T := T_spec_ReadSet) phi_spec_ReadSet mixed Tryz.func51 rfl rfl rfl (by decide) ?_
  intro ins r outs hr hl
  clear hl
  have hs := spReadSet_in hr
  clear hr
  obtain ⟨t, last, rfl, hc, hr, rfl⟩ := hs
  simp only [spReadSet, Tryz.f51, Go.VM.initS]
  cases hw : within last 1 9999 with
  | false =>
    simp only [hw, go_sem]
    repeat' ((first | apply qa | apply qb | apply qc | apply qd | apply qe | apply qf | apply qg | apply qh | apply qi | apply qj | apply qk) <;> intro hp <;> simp only [hp, hw, go_sem])
    simp only [fin_mk, finV, resL, resV1, resIn, endA, listIn, Option.some_or, Option.none_or, oneOrTup, go_sem]
    rw [← hr]
    simp only [readSet, readOk, hw, Bool.false_and, Bool.false_eq_true, if_false]
    rfl
  | true =>
    have hl : 1 ≤ last ∧ last ≤ 9999 := by simpa only [within, Bool.and_eq_true, decide_eq_true_eq] using hw
    have hro : readOk t last = (match rangesOf last (splitOn 44 t) with | some l => decide ((setR l).length ≤ 40) | none => false) := by rw [readOk, hw, Bool.true_and] <;> rfl
    have hrs : readSet t last = if readOk t last = true then (match rangesOf last (splitOn 44 t) with | some l => setR l | none => []) else [] := rfl
    rw [hrs, hro] at hr
    clear hrs hro
    have hbt : (10001 : Int) * ((1 : Nat) : Int) ≤ 140737488355328 := by decide
    simp only [hw, replicate_bits, hbt, go_sem]
    repeat' ((first | apply qa | apply qb | apply qc | apply qd | apply qe | apply qf | apply qg | apply qh | apply qi | apply qj | apply qk) <;> intro hp <;> simp only [hp, hw, replicate_bits, hbt, go_sem])
    refine loop_go (fun q : Nat × Nat × List Range => [(8, .int .i64 (q.1 : Int)), (9, .int .i64 (q.2.1 : Int))]) (fun q => [(1, ⟨.arr, 1, (bitsOf (memN q.2.2)).map eBool⟩)]) (fun q => t.length + 1 - q.2.1) (fun q => (∀ r ∈ q.2.2, 1 ≤ r.Lo ∧ r.Lo ≤ r.Hi ∧ r.Hi ≤ 9999) ∧ ((q.2.1 ≤ t.length ∧ q.1 ≤ q.2.1 ∧ (∀ x ∈ (t.take q.2.1).drop q.1, notB 44 x = true) ∧ rangesOf last (splitOn 44 t) = (rangesOf last (splitOn 44 (t.drop q.1))).map (q.2.2 ++ ·)) ∨ (q.2.1 = t.length + 1 ∧ rangesOf last (splitOn 44 t) = some q.2.2))) (0, 0, []) ⟨by simp, .inl ⟨Nat.zero_le _, Nat.le_refl _, by simp, by simp⟩⟩ rfl rfl ?_
    rintro ⟨b, i, R⟩ ⟨hRin, hinv⟩ ih
    simp only at hRin hinv ih
    rcases hinv with ⟨hi, hbi, ha, hR⟩ | ⟨hi, hR⟩
    · have g2 : (0 : Int) ≤ i := by omega
      have g4 : (0 : Int) ≤ b := by omega
      have g5 := wrap_succ (n := t.length + 1) (i := i) (by omega) (by omega)
      have g0 : (i : Int) ≤ t.length := by omega
      rcases Nat.lt_or_ge i t.length with h | h
      · have g1 : (i : Int) < t.length := by omega
        have g3 : t[i]? = some t[i] := List.getElem?_eq_getElem h
        cases hb : ((t[i].toNat : Int) == 44) with
        | false =>
          have hn : notB 44 t[i] = true := by
            unfold notB
            rw [bne_iff_ne]
            intro e
            rw [e] at hb
            exact absurd hb (by decide)
          have ih' := ih (b, i + 1, R) ⟨hRin, .inl ⟨h, Nat.le_succ_of_le hbi, by
            rw [take_succ' h, List.drop_append_of_le_length (by rw [List.length_take]; omega)]
            intro x hx
            rcases List.mem_append.1 hx with hx | hx
            · exact ha x hx
            · simp only [List.mem_singleton] at hx
              subst hx
              exact hn, hR⟩⟩ (by simp only; omega)
          have hb2 : ((t[i].toNat : Int) != 44) = true := by rw [bne, hb]; rfl
          simp only [g0, g1, g2, g3, g5, hb, hb2, go_sem]
          repeat' ((first | apply qa | apply qb | apply qc | apply qd | apply qe | apply qf | apply qg | apply qh | apply qi | apply qj | apply qk) <;> intro hp <;> simp only [hp, g0, g1, g2, g3, g5, hb, hb2, go_sem])
          exact ih'
        | true =>
          have h44 : t[i] = 44 := by
            have h1 : t[i].toNat = (44 : UInt8).toNat := by simp only [beq_iff_eq] at hb; show t[i].toNat = 44; omega
            exact UInt8.toNat_inj.1 h1
          have hb2 : ((t[i].toNat : Int) != 44) = false := by rw [bne, hb]; rfl
          have hS := splitOn_at hbi h h44 ha
          generalize hpp : (t.take i).drop b = p at *
          have hP : rangesOf last (splitOn 44 t) = (rangesOf last (p :: splitOn 44 (t.drop (i + 1)))).map (R ++ ·) := by rw [hR, hS]
          have c1 : p.length ≤ 4194304 := by rw [← hpp, List.length_drop, List.length_take]; omega
          simp only [rangesOf] at hP
          cases hB : partB p with
          | false =>
            rw [hB] at hP
            simp only [Bool.false_eq_true, if_false, Option.map_none] at hP
            rw [hP] at hr
            simp only [Bool.false_eq_true, if_false] at hr
            simp only [g0, g1, g2, g3, g4, g5, hbi, hi, hb, hb2, hpp, c1, hB, go_sem]
            repeat' ((first | apply qa | apply qb | apply qc | apply qd | apply qe | apply qf | apply qg | apply qh | apply qi | apply qj | apply qk) <;> intro hp <;> simp only [hp, g0, g1, g2, g3, g4, g5, hbi, hi, hb, hb2, hpp, c1, hB, go_sem])
            simp only [fin_mk, finV, resL, resV1, resIn, endA, listIn, Option.some_or, Option.none_or, oneOrTup, go_sem]
            rw [← hr]
            rfl
          | true =>
            rw [hB] at hP
            simp only [if_true, Option.map_map] at hP
            have hin := part_in hl hB
            obtain ⟨lo, hlo⟩ : ∃ a : Nat, partLo p last = a := ⟨(partLo p last).toNat, by omega⟩
            obtain ⟨hh, hhi⟩ : ∃ a : Nat, partHi p last = a := ⟨(partHi p last).toNat, by omega⟩
            rw [hlo, hhi] at hin hP
            have e0 : (fun n => memN R n || (decide (lo ≤ n) && decide (n < lo))) = memN R := by
              funext n
              have : (decide (lo ≤ n) && decide (n < lo)) = false := by rw [Bool.and_eq_false_iff]; simp; omega
              rw [this, Bool.or_false]
            have e1 : (fun n => memN R n || (decide (lo ≤ n) && decide (n < hh + 1))) = memN (R ++ [⟨lo, hh⟩]) := by
              funext n
              unfold memN
              rw [hasR_append]
              congr 1
              rw [Bool.eq_iff_iff]
              simp [hasR]; omega
            have ih' := ih (i + 1, i + 1, R ++ [⟨lo, hh⟩]) ⟨fun r hr' => by
              rcases List.mem_append.1 hr' with h' | h'
              · exact hRin r h'
              · simp only [List.mem_singleton] at h'
                subst h'
                exact hin, .inl ⟨h, Nat.le_refl _, (by simp only; intro x hx; rw [List.drop_of_length_le (by rw [List.length_take]; omega)] at hx; cases hx), by simp only; rw [hP]; congr 1; funext l; simp⟩⟩ (by simp only; omega)
            simp only at ih'
            rw [← e1] at ih'
            clear ih
            simp only [g0, g1, g2, g3, g4, g5, hbi, hi, hb, hb2, hpp, c1, hB, hlo, hhi, go_sem]
            repeat' ((first | apply qa | apply qb | apply qc | apply qd | apply qe | apply qf | apply qg | apply qh | apply qi | apply qj | apply qk) <;> intro hp <;> simp only [hp, g0, g1, g2, g3, g4, g5, hbi, hi, hb, hb2, hpp, c1, hB, hlo, hhi, go_sem])
            refine loop_go (fun k : Nat => [(13, .int .i64 (k : Int))]) (fun k => [(1, ⟨.arr, 1, (bitsOf fun n => memN R n || (decide (lo ≤ n) && decide (n < k))).map eBool⟩)]) (fun k => hh + 1 - k) (fun k => lo ≤ k ∧ k ≤ hh + 1) lo ⟨Nat.le_refl _, by omega⟩ rfl (by rw [e0]; rfl) ?_
            intro k ⟨hk1, hk2⟩ ihk
            rcases Nat.lt_or_ge k (hh + 1) with hkl | hkl
            · have k1 : (k : Int) ≤ (hh : Int) := by omega
              have k2 : (0 : Int) ≤ k := by omega
              have k3 : (k : Int) < ((10001 : Nat) : Int) := by omega
              have k5 := wrap_succ hkl (by omega)
              have kl := bitsOf_len (fun n => memN R n || (decide (lo ≤ n) && decide (n < k)))
              have kg := bitsOf_get (fun n => memN R n || (decide (lo ≤ n) && decide (n < k))) (n := k) (by omega)
              have ks : (List.map eBool (bitsOf fun n => memN R n || (decide (lo ≤ n) && decide (n < k)))).set k (V.bool true) = List.map eBool (bitsOf fun n => memN R n || (decide (lo ≤ n) && decide (n < k + 1))) := by
                rw [show V.bool true = eBool true from rfl, ← List.map_set, bitsOf_set]
                congr 2
                funext m
                by_cases hm : m = k
                · subst hm; simp [hk1]
                · have : decide (m < k + 1) = decide (m < k) := by rw [Bool.eq_iff_iff]; simp; omega
                  simp [hm, this]
              have ihk' := ihk (k + 1) ⟨by omega, by omega⟩ (by omega)
              rw [← ks] at ihk'
              clear ihk ks ih'
              generalize hBB : (bitsOf fun n => memN R n || (decide (lo ≤ n) && decide (n < k))) = BB at *
              simp only [g0, g1, g2, g3, g4, g5, hbi, hi, hb, hb2, hpp, k1, k2, k3, k5, kl, kg, go_sem]
              repeat' ((first | apply qa | apply qb | apply qc | apply qd | apply qe | apply qf | apply qg | apply qh | apply qi | apply qj | apply qk) <;> intro hp <;> simp only [hp, g0, g1, g2, g3, g4, g5, hbi, hi, hb, hb2, hpp, k1, k2, k3, k5, kl, kg, go_sem])
              exact ihk'
            · have hke : k = hh + 1 := by omega
              subst hke
              have k1 : ¬ (((hh + 1 : Nat) : Int)) ≤ (hh : Int) := by omega
              simp only [g0, g1, g2, g3, g4, g5, hbi, hi, hb, hb2, hpp, k1, g5, go_sem]
              repeat' ((first | apply qa | apply qb | apply qc | apply qd | apply qe | apply qf | apply qg | apply qh | apply qi | apply qj | apply qk) <;> intro hp <;> simp only [hp, g0, g1, g2, g3, g4, g5, hbi, hi, hb, hb2, hpp, k1, g5, go_sem])
              exact ih'
      · have g1 : ¬ (i : Int) < t.length := by omega
        have hS : splitOn 44 (t.drop b) = [(t.take i).drop b] := by
          rw [List.take_of_length_le h] at ha ⊢
          exact splitOn_none ha
        generalize hpp : (t.take i).drop b = p at *
        have hP : rangesOf last (splitOn 44 t) = (rangesOf last (p :: [])).map (R ++ ·) := by rw [hR, hS]
        have c1 : p.length ≤ 4194304 := by rw [← hpp, List.length_drop, List.length_take]; omega
        simp only [rangesOf] at hP
        cases hB : partB p with
        | false =>
          rw [hB] at hP
          simp only [Bool.false_eq_true, if_false, Option.map_none] at hP
          rw [hP] at hr
          simp only [Bool.false_eq_true, if_false] at hr
          simp only [g0, g1, g2, g4, g5, hbi, hi, hpp, c1, hB, go_sem]
          repeat' ((first | apply qa | apply qb | apply qc | apply qd | apply qe | apply qf | apply qg | apply qh | apply qi | apply qj | apply qk) <;> intro hp <;> simp only [hp, g0, g1, g2, g4, g5, hbi, hi, hpp, c1, hB, go_sem])
          simp only [fin_mk, finV, resL, resV1, resIn, endA, listIn, Option.some_or, Option.none_or, oneOrTup, go_sem]
          rw [← hr]
          rfl
        | true =>
          rw [hB] at hP
          simp only [if_true, Option.map_map] at hP
          have hin := part_in hl hB
          obtain ⟨lo, hlo⟩ : ∃ a : Nat, partLo p last = a := ⟨(partLo p last).toNat, by omega⟩
          obtain ⟨hh, hhi⟩ : ∃ a : Nat, partHi p last = a := ⟨(partHi p last).toNat, by omega⟩
          rw [hlo, hhi] at hin hP
          have e0 : (fun n => memN R n || (decide (lo ≤ n) && decide (n < lo))) = memN R := by
            funext n
            have : (decide (lo ≤ n) && decide (n < lo)) = false := by rw [Bool.and_eq_false_iff]; simp; omega
            rw [this, Bool.or_false]
          have e1 : (fun n => memN R n || (decide (lo ≤ n) && decide (n < hh + 1))) = memN (R ++ [⟨lo, hh⟩]) := by
            funext n
            unfold memN
            rw [hasR_append]
            congr 1
            rw [Bool.eq_iff_iff]
            simp [hasR]; omega
          have ih' := ih (i + 1, i + 1, R ++ [⟨lo, hh⟩]) ⟨fun r hr' => by
            rcases List.mem_append.1 hr' with h' | h'
            · exact hRin r h'
            · simp only [List.mem_singleton] at h'
              subst h'
              exact hin, .inr ⟨by simp only; omega, by rw [hP]; simp [rangesOf]⟩⟩ (by simp only; omega)
          simp only at ih'
          rw [← e1] at ih'
          clear ih
          simp only [g0, g1, g2, g4, g5, hbi, hi, hpp, c1, hB, hlo, hhi, go_sem]
          repeat' ((first | apply qa | apply qb | apply qc | apply qd | apply qe | apply qf | apply qg | apply qh | apply qi | apply qj | apply qk) <;> intro hp <;> simp only [hp, g0, g1, g2, g4, g5, hbi, hi, hpp, c1, hB, hlo, hhi, go_sem])
          refine loop_go (fun k : Nat => [(13, .int .i64 (k : Int))]) (fun k => [(1, ⟨.arr, 1, (bitsOf fun n => memN R n || (decide (lo ≤ n) && decide (n < k))).map eBool⟩)]) (fun k => hh + 1 - k) (fun k => lo ≤ k ∧ k ≤ hh + 1) lo ⟨Nat.le_refl _, by omega⟩ rfl (by rw [e0]; rfl) ?_
          intro k ⟨hk1, hk2⟩ ihk
          rcases Nat.lt_or_ge k (hh + 1) with hkl | hkl
          · have k1 : (k : Int) ≤ (hh : Int) := by omega
            have k2 : (0 : Int) ≤ k := by omega
            have k3 : (k : Int) < ((10001 : Nat) : Int) := by omega
            have k5 := wrap_succ hkl (by omega)
            have kl := bitsOf_len (fun n => memN R n || (decide (lo ≤ n) && decide (n < k)))
            have kg := bitsOf_get (fun n => memN R n || (decide (lo ≤ n) && decide (n < k))) (n := k) (by omega)
            have ks : (List.map eBool (bitsOf fun n => memN R n || (decide (lo ≤ n) && decide (n < k)))).set k (V.bool true) = List.map eBool (bitsOf fun n => memN R n || (decide (lo ≤ n) && decide (n < k + 1))) := by
              rw [show V.bool true = eBool true from rfl, ← List.map_set, bitsOf_set]
              congr 2
              funext m
              by_cases hm : m = k
              · subst hm; simp [hk1]
              · have : decide (m < k + 1) = decide (m < k) := by rw [Bool.eq_iff_iff]; simp; omega
                simp [hm, this]
            have ihk' := ihk (k + 1) ⟨by omega, by omega⟩ (by omega)
            rw [← ks] at ihk'
            clear ihk ks ih'
            generalize hBB : (bitsOf fun n => memN R n || (decide (lo ≤ n) && decide (n < k))) = BB at *
            simp only [g0, g1, g2, g4, g5, hbi, hi, hpp, k1, k2, k3, k5, kl, kg, go_sem]
            repeat' ((first | apply qa | apply qb | apply qc | apply qd | apply qe | apply qf | apply qg | apply qh | apply qi | apply qj | apply qk) <;> intro hp <;> simp only [hp, g0, g1, g2, g4, g5, hbi, hi, hpp, k1, k2, k3, k5, kl, kg, go_sem])
            exact ihk'
          · have hke : k = hh + 1 := by omega
            subst hke
            have k1 : ¬ (((hh + 1 : Nat) : Int)) ≤ (hh : Int) := by omega
            simp only [g0, g1, g2, g4, g5, hbi, hi, hpp, k1, g5, go_sem]
            repeat' ((first | apply qa | apply qb | apply qc | apply qd | apply qe | apply qf | apply qg | apply qh | apply qi | apply qj | apply qk) <;> intro hp <;> simp only [hp, g0, g1, g2, g4, g5, hbi, hi, hpp, k1, g5, go_sem])
            exact ih'
    · have g1 : ¬ (i : Int) ≤ t.length := by omega
      rw [hR] at hr
      simp only [decide_eq_true_eq] at hr
      have s1 := bitsOf_len (memN R)
      have s2 := memN_zero hRin
      have s3 := setR_bits (R := R)
      have s4 := setR_ok R
      generalize hBB : bitsOf (memN R) = BB at *
      rw [s3.symm] at hr s4
      generalize hX : scanB BB = X at *
      simp only [g1, s1, s2, s3, s4, go_sem]
      repeat' ((first | apply qa | apply qb | apply qc | apply qd | apply qe | apply qf | apply qg | apply qh | apply qi | apply qj | apply qk) <;> intro hp <;> simp only [hp, g1, s1, s2, s3, s4, go_sem])
      simp only [fin_mk, finV, resL, resV1, resIn, endA, listIn, Option.some_or, Option.none_or, oneOrTup, go_sem]
      rw [← hr]
      all_goals (rw [hX, s4]; simp)
end Go.Proofs.YtonjbbfgdloljaaGreatDoor.L

namespace Go.Proofs.YtonjbbfgdloljaaGreatDoor.L
open Go Go.VM
set_option maxRecDepth 100000
set_option maxHeartbeats 4000000
set_option linter.unusedSimpArgs false
set_option linter.unusedVariables false
def sufB (s t : List UInt8) : Bool := decide (t.length ≤ s.length) && (s.drop (s.length - t.length) == t)
def cutSuf (s t : List UInt8) : List UInt8 := if sufB s t = true then s.take (s.length - t.length) else s
theorem cutSuf_len (s t : List UInt8) : (cutSuf s t).length ≤ s.length := by
  unfold cutSuf; split
  · rw [List.length_take]; omega
  · exact Nat.le_refl _
open Classical in
noncomputable def spHasSuffix : VM.Spec := { modes := [.rd, .rd], run := fun | [.str s, .str t] => if s.length ≤ 1099511627776 ∧ t.length ≤ 1099511627776 then some (.bool (sufB s t), []) else none | _ => none, need := [] }
attribute [go_sem] spHasSuffix
theorem spHasSuffix_in {ins : List V} {r : V} {outs : List V} (h : spHasSuffix.run ins = some (r, outs)) : ∃ (s : (List UInt8)) (t : (List UInt8)), ins = [.str s, .str t] ∧ (s.length ≤ 1099511627776 ∧ t.length ≤ 1099511627776) ∧ .bool (sufB s t) = r ∧ outs = [] := by
  unfold spHasSuffix at h
  simp only at h
  split at h
  · rename_i s t
    split at h
    case isFalse => cases h
    rename_i hc
    simp only [Option.some.injEq, Prod.mk.injEq] at h
    obtain ⟨h1, h2⟩ := h
    exact ⟨s, t, rfl, hc, h1, h2.symm⟩
  · cases h
def T_internal_stringslite_HasSuffix : Hints := ⟨lk [], lk [], lk [(0, [0, 1]), (1, [4])], lk []⟩
noncomputable def Phi_internal_stringslite_HasSuffix : Tab := lk []
attribute [go_sem] T_internal_stringslite_HasSuffix Phi_internal_stringslite_HasSuffix
theorem phi_internal_stringslite_HasSuffix : ∀ f sp, Phi_internal_stringslite_HasSuffix f = some sp → FnOk Tryz.prog f sp ∧ ∀ n ∈ sp.need, n ∈ ([] : List String) := phi_nil
theorem ok_internal_stringslite_HasSuffix : FnOk Tryz.prog 173 spHasSuffix := by
  refine fn_ok (Φ := Phi_internal_stringslite_HasSuffix) (T := T_internal_stringslite_HasSuffix) phi_internal_stringslite_HasSuffix mixed Tryz.func173 rfl rfl rfl (by decide) ?_
  intro ins r outs hr hl
  clear hl
  have hs := spHasSuffix_in hr
  clear hr
  obtain ⟨s, t, rfl, hc, hr, rfl⟩ := hs
  simp only [spHasSuffix, Tryz.f173, Go.VM.initS]
  obtain ⟨h1, h2⟩ := hc
  rcases Nat.lt_or_ge s.length t.length with h | h
  · have g1 : ¬ (t.length : Int) ≤ s.length := by omega
    have e : sufB s t = false := by rw [sufB, decide_eq_false (by omega)]; rfl
    simp only [g1, go_sem]
    repeat' ((first | apply qa | apply qb | apply qc | apply qd | apply qe | apply qf | apply qg | apply qh | apply qi | apply qj | apply qk) <;> intro hp <;> simp only [hp, g1, go_sem])
    all_goals (simp only [fin_mk, finV, resL, resV1, resIn, endA, listIn, Option.some_or, Option.none_or, oneOrTup, go_sem]; rw [← hr])
    all_goals (rw [e])
  · have g1 : (t.length : Int) ≤ s.length := by omega
    have e : sufB s t = (s.drop (s.length - t.length) == t) := by rw [sufB, decide_eq_true h, Bool.true_and]
    have g2 : IntKind.i64.wrap ((s.length : Int) - (t.length : Int)) = ((s.length - t.length : Nat) : Int) := (wrap64 (by omega) (by omega)).trans (by omega)
    have g3 : (0 : Int) ≤ ((s.length - t.length : Nat) : Int) := by omega
    have g4 : ((s.length - t.length : Nat) : Int) ≤ s.length := by omega
    have g5 : s.length - t.length ≤ s.length := by omega
    simp only [g1, g2, g3, g4, g5, Int.toNat_natCast, List.take_length, Nat.le_refl, go_sem]
    repeat' ((first | apply qa | apply qb | apply qc | apply qd | apply qe | apply qf | apply qg | apply qh | apply qi | apply qj | apply qk) <;> intro hp <;> simp only [hp, g1, g2, g3, g4, g5, Int.toNat_natCast, List.take_length, Nat.le_refl, go_sem])
    all_goals (simp only [fin_mk, finV, resL, resV1, resIn, endA, listIn, Option.some_or, Option.none_or, oneOrTup, go_sem]; rw [← hr])
    all_goals (rw [e])
open Classical in
noncomputable def spCutSuffix : VM.Spec := { modes := [.rd, .rd], run := fun | [.str s, .str t] => if s.length ≤ 1099511627776 ∧ t.length ≤ 1099511627776 then some (.tup [.str (cutSuf s t), .bool (sufB s t)], []) else none | _ => none, need := [] }
attribute [go_sem] spCutSuffix
theorem spCutSuffix_in {ins : List V} {r : V} {outs : List V} (h : spCutSuffix.run ins = some (r, outs)) : ∃ (s : (List UInt8)) (t : (List UInt8)), ins = [.str s, .str t] ∧ (s.length ≤ 1099511627776 ∧ t.length ≤ 1099511627776) ∧ .tup [.str (cutSuf s t), .bool (sufB s t)] = r ∧ outs = [] := by
  unfold spCutSuffix at h
  simp only at h
  split at h
  · rename_i s t
    split at h
    case isFalse => cases h
    rename_i hc
    simp only [Option.some.injEq, Prod.mk.injEq] at h
    obtain ⟨h1, h2⟩ := h
    exact ⟨s, t, rfl, hc, h1, h2.symm⟩
  · cases h
def T_internal_stringslite_CutSuffix : Hints := ⟨lk [], lk [], lk [(0, [0, 1]), (1, [0, 1, 9]), (2, [4, 5]), (3, [4, 5])], lk []⟩
noncomputable def Phi_internal_stringslite_CutSuffix : Tab := lk [(173, spHasSuffix)]
attribute [go_sem] T_internal_stringslite_CutSuffix Phi_internal_stringslite_CutSuffix
theorem phi_internal_stringslite_CutSuffix : ∀ f sp, Phi_internal_stringslite_CutSuffix f = some sp → FnOk Tryz.prog f sp ∧ ∀ n ∈ sp.need, n ∈ ([] : List String) := phi_cons ok_internal_stringslite_HasSuffix (n0 rfl) (phi_nil)
theorem ok_internal_stringslite_CutSuffix : FnOk Tryz.prog 139 spCutSuffix := by
  refine fn_ok (Φ := Phi_internal_stringslite_CutSuffix) (T := T_internal_stringslite_CutSuffix) phi_internal_stringslite_CutSuffix mixed Tryz.func139 rfl rfl rfl (by decide) ?_
  intro ins r outs hr hl
  clear hl
  have hs := spCutSuffix_in hr
  clear hr
  obtain ⟨s, t, rfl, hc, hr, rfl⟩ := hs
  simp only [spCutSuffix, Tryz.f139, Go.VM.initS]
  obtain ⟨h1, h2⟩ := hc
  cases q : sufB s t with
  | false =>
    simp only [h1, h2, q, go_sem]
    repeat' ((first | apply qa | apply qb | apply qc | apply qd | apply qe | apply qf | apply qg | apply qh | apply qi | apply qj | apply qk) <;> intro hp <;> simp only [hp, h1, h2, q, go_sem])
    simp only [fin_mk, finV, resL, resV1, resIn, endA, listIn, Option.some_or, Option.none_or, oneOrTup, go_sem]
    rw [← hr]
    rw [cutSuf, if_neg (by rw [q]; simp), q]
  | true =>
    have h : t.length ≤ s.length := by
      simp only [sufB, Bool.and_eq_true, decide_eq_true_eq] at q; exact q.1
    have g2 : IntKind.i64.wrap ((s.length : Int) - (t.length : Int)) = ((s.length - t.length : Nat) : Int) := (wrap64 (by omega) (by omega)).trans (by omega)
    have g3 : (0 : Int) ≤ ((s.length - t.length : Nat) : Int) := by omega
    have g4 : ((s.length - t.length : Nat) : Int) ≤ s.length := by omega
    have g5 : s.length - t.length ≤ s.length := by omega
    simp only [h1, h2, q, g2, g3, g4, g5, Int.toNat_natCast, List.drop_zero, Nat.zero_le, go_sem]
    repeat' ((first | apply qa | apply qb | apply qc | apply qd | apply qe | apply qf | apply qg | apply qh | apply qi | apply qj | apply qk) <;> intro hp <;> simp only [hp, h1, h2, q, g2, g3, g4, g5, Int.toNat_natCast, List.drop_zero, Nat.zero_le, go_sem])
    simp only [fin_mk, finV, resL, resV1, resIn, endA, listIn, Option.some_or, Option.none_or, oneOrTup, go_sem]
    rw [← hr]
    rw [cutSuf, if_pos q, q]
def T_strings_CutSuffix : Hints := ⟨lk [], lk [], lk [(0, [0, 1]), (1, [4, 5])], lk []⟩
noncomputable def Phi_strings_CutSuffix : Tab := lk [(139, spCutSuffix)]
attribute [go_sem] T_strings_CutSuffix Phi_strings_CutSuffix
theorem phi_strings_CutSuffix : ∀ f sp, Phi_strings_CutSuffix f = some sp → FnOk Tryz.prog f sp ∧ ∀ n ∈ sp.need, n ∈ ([] : List String) := phi_cons ok_internal_stringslite_CutSuffix (n0 rfl) (phi_nil)
theorem ok_strings_CutSuffix : FnOk Tryz.prog 119 spCutSuffix := by
  refine fn_ok (Φ := Phi_strings_CutSuffix) (T := T_strings_CutSuffix) phi_strings_CutSuffix mixed Tryz.func119 rfl rfl rfl (by decide) ?_
  intro ins r outs hr hl
  clear hl
  have hs := spCutSuffix_in hr
  clear hr
  obtain ⟨s, t, rfl, hc, hr, rfl⟩ := hs
  simp only [spCutSuffix, Tryz.f119, Go.VM.initS]
  obtain ⟨h1, h2⟩ := hc
  simp only [h1, h2, go_sem]
  repeat' ((first | apply qa | apply qb | apply qc | apply qd | apply qe | apply qf | apply qg | apply qh | apply qi | apply qj | apply qk) <;> intro hp <;> simp only [hp, h1, h2, go_sem])
  simp only [fin_mk, finV, resL, resV1, resIn, endA, listIn, Option.some_or, Option.none_or, oneOrTup, go_sem]
  rw [← hr]
open Classical in
noncomputable def spTrimSuffix : VM.Spec := { modes := [.rd, .rd], run := fun | [.str s, .str t] => if s.length ≤ 1099511627776 ∧ t.length ≤ 1099511627776 then some (.str (cutSuf s t), []) else none | _ => none, need := [] }
attribute [go_sem] spTrimSuffix
theorem spTrimSuffix_in {ins : List V} {r : V} {outs : List V} (h : spTrimSuffix.run ins = some (r, outs)) : ∃ (s : (List UInt8)) (t : (List UInt8)), ins = [.str s, .str t] ∧ (s.length ≤ 1099511627776 ∧ t.length ≤ 1099511627776) ∧ .str (cutSuf s t) = r ∧ outs = [] := by
  unfold spTrimSuffix at h
  simp only at h
  split at h
  · rename_i s t
    split at h
    case isFalse => cases h
    rename_i hc
    simp only [Option.some.injEq, Prod.mk.injEq] at h
    obtain ⟨h1, h2⟩ := h
    exact ⟨s, t, rfl, hc, h1, h2.symm⟩
  · cases h
def T_internal_stringslite_TrimSuffix : Hints := ⟨lk [], lk [], lk [(0, [0, 1]), (1, [0, 1, 7]), (2, [4]), (3, [4])], lk []⟩
noncomputable def Phi_internal_stringslite_TrimSuffix : Tab := lk [(173, spHasSuffix)]
attribute [go_sem] T_internal_stringslite_TrimSuffix Phi_internal_stringslite_TrimSuffix
theorem phi_internal_stringslite_TrimSuffix : ∀ f sp, Phi_internal_stringslite_TrimSuffix f = some sp → FnOk Tryz.prog f sp ∧ ∀ n ∈ sp.need, n ∈ ([] : List String) := phi_cons ok_internal_stringslite_HasSuffix (n0 rfl) (phi_nil)
theorem ok_internal_stringslite_TrimSuffix : FnOk Tryz.prog 140 spTrimSuffix := by
  refine fn_ok (Φ := Phi_internal_stringslite_TrimSuffix) (T := T_internal_stringslite_TrimSuffix) phi_internal_stringslite_TrimSuffix mixed Tryz.func140 rfl rfl rfl (by decide) ?_
  intro ins r outs hr hl
  clear hl
  have hs := spTrimSuffix_in hr
  clear hr
  obtain ⟨s, t, rfl, hc, hr, rfl⟩ := hs
  simp only [spTrimSuffix, Tryz.f140, Go.VM.initS]
  obtain ⟨h1, h2⟩ := hc
  cases q : sufB s t with
  | false =>
    simp only [h1, h2, q, go_sem]
    repeat' ((first | apply qa | apply qb | apply qc | apply qd | apply qe | apply qf | apply qg | apply qh | apply qi | apply qj | apply qk) <;> intro hp <;> simp only [hp, h1, h2, q, go_sem])
    simp only [fin_mk, finV, resL, resV1, resIn, endA, listIn, Option.some_or, Option.none_or, oneOrTup, go_sem]
    rw [← hr]
    rw [cutSuf, if_neg (by rw [q]; simp)]
  | true =>
    have h : t.length ≤ s.length := by
      simp only [sufB, Bool.and_eq_true, decide_eq_true_eq] at q; exact q.1
    have g2 : IntKind.i64.wrap ((s.length : Int) - (t.length : Int)) = ((s.length - t.length : Nat) : Int) := (wrap64 (by omega) (by omega)).trans (by omega)
    have g3 : (0 : Int) ≤ ((s.length - t.length : Nat) : Int) := by omega
    have g4 : ((s.length - t.length : Nat) : Int) ≤ s.length := by omega
    have g5 : s.length - t.length ≤ s.length := by omega
    simp only [h1, h2, q, g2, g3, g4, g5, Int.toNat_natCast, List.drop_zero, Nat.zero_le, go_sem]
    repeat' ((first | apply qa | apply qb | apply qc | apply qd | apply qe | apply qf | apply qg | apply qh | apply qi | apply qj | apply qk) <;> intro hp <;> simp only [hp, h1, h2, q, g2, g3, g4, g5, Int.toNat_natCast, List.drop_zero, Nat.zero_le, go_sem])
    simp only [fin_mk, finV, resL, resV1, resIn, endA, listIn, Option.some_or, Option.none_or, oneOrTup, go_sem]
    rw [← hr]
    rw [cutSuf, if_pos q]
def T_strings_TrimSuffix : Hints := ⟨lk [], lk [], lk [(0, [0, 1]), (1, [4])], lk []⟩
noncomputable def Phi_strings_TrimSuffix : Tab := lk [(140, spTrimSuffix)]
attribute [go_sem] T_strings_TrimSuffix Phi_strings_TrimSuffix
theorem phi_strings_TrimSuffix : ∀ f sp, Phi_strings_TrimSuffix f = some sp → FnOk Tryz.prog f sp ∧ ∀ n ∈ sp.need, n ∈ ([] : List String) := phi_cons ok_internal_stringslite_TrimSuffix (n0 rfl) (phi_nil)
theorem ok_strings_TrimSuffix : FnOk Tryz.prog 121 spTrimSuffix := by
  refine fn_ok (Φ := Phi_strings_TrimSuffix) (T := T_strings_TrimSuffix) phi_strings_TrimSuffix mixed Tryz.func121 rfl rfl rfl (by decide) ?_
  intro ins r outs hr hl
  clear hl
  have hs := spTrimSuffix_in hr
  clear hr
  obtain ⟨s, t, rfl, hc, hr, rfl⟩ := hs
  simp only [spTrimSuffix, Tryz.f121, Go.VM.initS]
  obtain ⟨h1, h2⟩ := hc
  simp only [h1, h2, go_sem]
  repeat' ((first | apply qa | apply qb | apply qc | apply qd | apply qe | apply qf | apply qg | apply qh | apply qi | apply qj | apply qk) <;> intro hp <;> simp only [hp, h1, h2, go_sem])
  simp only [fin_mk, finV, resL, resV1, resIn, endA, listIn, Option.some_or, Option.none_or, oneOrTup, go_sem]
  rw [← hr]
structure ScanAt (c : UInt8) (t : List UInt8) (b i : Nat) (out : List (List UInt8)) : Prop where
  hi : i ≤ t.length + 1
  hb : b ≤ i
  no : ∀ x ∈ (t.take i).drop b, notB c x = true
  eq : i ≤ t.length → out ++ splitOn c (t.drop b) = splitOn c t
  fin : i = t.length + 1 → out = splitOn c t
theorem ScanAt.zero (c : UInt8) (t : List UInt8) : ScanAt c t 0 0 [] := ⟨Nat.zero_le _, Nat.le_refl _, by simp, fun _ => by simp, fun h => by omega⟩
theorem ScanAt.step {c : UInt8} {t : List UInt8} {b i : Nat} {out : List (List UInt8)} (h : ScanAt c t b i out) (hi : i < t.length) (hc : ((t[i].toNat : Int) == (c.toNat : Int)) = false) : ScanAt c t b (i + 1) out := by
  have hne : t[i] ≠ c := fun e => by rw [e] at hc; simp at hc
  refine ⟨by omega, by have := h.hb; omega, ?_, fun _ => h.eq (by omega), fun e => by omega⟩
  rw [take_drop_succ h.hb hi]
  intro x hx
  rcases List.mem_append.1 hx with hx | hx
  · exact h.no x hx
  · simp only [List.mem_singleton] at hx; subst hx
    simp [notB, hne]
theorem ScanAt.hit {c : UInt8} {t : List UInt8} {b i : Nat} {out : List (List UInt8)} (h : ScanAt c t b i out) (hi : i < t.length) (hc : ((t[i].toNat : Int) == (c.toNat : Int)) = true) : ScanAt c t (i + 1) (i + 1) (out ++ [(t.take i).drop b]) := by
  have he : t[i] = c := by
    rw [beq_iff_eq] at hc
    exact UInt8.toNat_inj.1 (by omega)
  have e := splitOn_at h.hb hi he h.no
  refine ⟨by omega, Nat.le_refl _, by rw [List.drop_of_length_le (by rw [List.length_take]; omega)]; simp, fun _ => ?_, fun e => by omega⟩
  rw [← h.eq (by omega), e, List.append_assoc]; rfl
theorem ScanAt.last {c : UInt8} {t : List UInt8} {b : Nat} {out : List (List UInt8)} (h : ScanAt c t b t.length out) : ScanAt c t (t.length + 1) (t.length + 1) (out ++ [(t.take t.length).drop b]) := by
  have h1 := h.eq (Nat.le_refl _)
  have h2 := h.no
  rw [List.take_length] at h2 ⊢
  rw [splitOn_none h2] at h1
  exact ⟨Nat.le_refl _, Nat.le_refl _, by rw [List.drop_of_length_le (by rw [List.length_take]; omega)]; simp, fun e => by omega, fun _ => h1⟩
open Classical in
noncomputable def spWords13 : VM.Spec := { modes := [.rd], run := fun | [.str t] => if t.length ≤ 4194304 then some (.lst 1 ((splitOn 32 t).map eStr), []) else none | _ => none, need := [] }
attribute [go_sem] spWords13
theorem spWords13_in {ins : List V} {r : V} {outs : List V} (h : spWords13.run ins = some (r, outs)) : ∃ (t : (List UInt8)), ins = [.str t] ∧ (t.length ≤ 4194304) ∧ .lst 1 ((splitOn 32 t).map eStr) = r ∧ outs = [] := by
  unfold spWords13 at h
  simp only at h
  split at h
  · rename_i t
    split at h
    case isFalse => cases h
    rename_i hc
    simp only [Option.some.injEq, Prod.mk.injEq] at h
    obtain ⟨h1, h2⟩ := h
    exact ⟨t, rfl, hc, h1, h2.symm⟩
  · cases h
def T_spec_l13Words : Hints := ⟨lk [], lk [(4, [0, 3, 4, 5])], lk [(0, [0]), (1, [0, 3]), (2, [0, 3, 4]), (3, [0, 3, 4, 5]), (4, [0, 3, 4, 5, 10]), (6, [0, 3, 4, 5, 22]), (7, [0, 3, 5]), (8, [0, 3, 4, 5]), (5, [0, 3, 4, 5]), (9, [2])], lk []⟩
noncomputable def Phi_spec_l13Words : Tab := lk []
attribute [go_sem] T_spec_l13Words Phi_spec_l13Words
theorem phi_spec_l13Words : ∀ f sp, Phi_spec_l13Words f = some sp → FnOk Tryz.prog f sp ∧ ∀ n ∈ sp.need, n ∈ ([] : List String) := phi_nil
theorem ok_spec_l13Words : FnOk Tryz.prog 82 spWords13 := by
  refine fn_ok (Φ := Phi_spec_l13Words) (T := T_spec_l13Words) phi_spec_l13Words mixed Tryz.func82 rfl rfl rfl (by decide) ?_
  intro ins r outs hr hl
  clear hl
  have hs := spWords13_in hr
  clear hr
  obtain ⟨t, rfl, hc, hr, rfl⟩ := hs
  simp only [spWords13, Tryz.f82, Go.VM.initS]
  simp only [go_sem]
  repeat' ((first | apply qa | apply qb | apply qc | apply qd | apply qe | apply qf | apply qg | apply qh | apply qi | apply qj | apply qk) <;> intro hp <;> simp only [hp, go_sem])
  refine loop_go (fun p : Nat × Nat × List (List UInt8) => [(4, .int .i64 (p.1 : Int)), (5, .int .i64 (p.2.1 : Int))]) (fun p => [(0, ⟨.arr, 1, p.2.2.map eStr⟩)]) (fun p => t.length + 1 - p.2.1) (fun p => ScanAt 32 t p.1 p.2.1 p.2.2 ∧ p.2.2.length ≤ p.2.1) (0, 0, []) ⟨ScanAt.zero 32 t, Nat.le_refl _⟩ rfl rfl ?_
  rintro ⟨b, i, out⟩ ⟨hs, ho⟩ ih
  simp only at hs ho ih
  have hb := hs.hb
  have hi := hs.hi
  have g2 : (0 : Int) ≤ i := by omega
  have gb : (0 : Int) ≤ b := by omega
  have gbi : (b : Int) ≤ i := by omega
  have gbi' : b ≤ i := hb
  have o1 : (out.length + 1) * 16 ≤ 140737488355328 := by omega
  have o2 : out.length + 1 ≤ 9223372036854775807 := by omega
  have g5 : IntKind.i64.wrap ((i : Int) + 1) = ((i + 1 : Nat) : Int) := (wrap64 (by omega) (by omega)).trans (by omega)
  rcases Nat.lt_trichotomy i t.length with h | h | h
  · have g1 : (i : Int) ≤ t.length := by omega
    have g0 : ((i : Int) == (t.length : Int)) = false := beq_eq_false_iff_ne.2 (by omega)
    have g6 : (i : Int) < t.length := by omega
    have g7 : i ≤ t.length := by omega
    have g3 : t[i]? = some t[i] := List.getElem?_eq_getElem h
    cases q : ((t[i].toNat : Int) == 32) with
    | false =>
      have ih' := ih (b, i + 1, out) ⟨hs.step h q, by simp only; omega⟩ (by simp only; omega)
      simp only [g1, g0, g2, g3, g5, g6, q, go_sem]
      repeat' ((first | apply qa | apply qb | apply qc | apply qd | apply qe | apply qf | apply qg | apply qh | apply qi | apply qj | apply qk) <;> intro hp <;> simp only [hp, g1, g0, g2, g3, g5, g6, q, go_sem])
      exact ih'
    | true =>
      have ih' := ih (i + 1, i + 1, out ++ [(t.take i).drop b]) ⟨hs.hit h q, by simp; omega⟩ (by simp only; omega)
      simp only [List.map_append, List.map_cons, List.map_nil] at ih'
      simp only [g1, g0, g2, g3, g5, g6, g7, gb, gbi, gbi', o1, o2, q, Int.toNat_natCast, go_sem]
      repeat' ((first | apply qa | apply qb | apply qc | apply qd | apply qe | apply qf | apply qg | apply qh | apply qi | apply qj | apply qk) <;> intro hp <;> simp only [hp, g1, g0, g2, g3, g5, g6, g7, gb, gbi, gbi', o1, o2, q, Int.toNat_natCast, go_sem])
      exact ih'
  · subst h
    have g1 : ((t.length : Nat) : Int) ≤ (t.length : Int) := Int.le_refl _
    have ih' := ih (t.length + 1, t.length + 1, out ++ [(t.take t.length).drop b]) ⟨hs.last, by simp; omega⟩ (by simp only; omega)
    simp only [List.map_append, List.map_cons, List.map_nil] at ih'
    simp only [g1, g2, g5, gb, gbi, gbi', o1, o2, Int.toNat_natCast, Nat.le_refl, Int.le_refl, go_sem]
    repeat' ((first | apply qa | apply qb | apply qc | apply qd | apply qe | apply qf | apply qg | apply qh | apply qi | apply qj | apply qk) <;> intro hp <;> simp only [hp, g1, g2, g5, gb, gbi, gbi', o1, o2, Int.toNat_natCast, Nat.le_refl, Int.le_refl, go_sem])
    exact ih'
  · have e : i = t.length + 1 := by omega
    have g1 : ¬ (i : Int) ≤ t.length := by omega
    have hf := hs.fin e
    clear ih
    simp only [g1, go_sem]
    repeat' ((first | apply qa | apply qb | apply qc | apply qd | apply qe | apply qf | apply qg | apply qh | apply qi | apply qj | apply qk) <;> intro hp <;> simp only [hp, g1, go_sem])
    simp only [fin_mk, finV, resL, resV1, resIn, endA, listIn, Option.some_or, Option.none_or, oneOrTup, go_sem]
    rw [← hr]
    rw [hf]
end Go.Proofs.YtonjbbfgdloljaaGreatDoor.L

namespace Go.Proofs.YtonjbbfgdloljaaGreatDoor.L
open Go Go.VM
set_option maxRecDepth 100000
set_option maxHeartbeats 1000000
set_option linter.unusedSimpArgs false
set_option linter.unusedVariables false
theorem canon_eq {m k : Int} : ∀ {A B : List Range}, Canon A m → Canon B k → (∀ n, hasR A n = hasR B n) → A = B
  | [], [], _, _, _ => rfl
  | [], b :: B, _, hB, h => by
    have h1 := h b.Lo
    have h2 := hB.1 b (by simp)
    have : hasR (b :: B) b.Lo = true := by rw [hasR, List.any_cons]; simp; omega
    rw [this] at h1
    simp [hasR] at h1
  | a :: A, [], hA, _, h => by
    have h1 := h a.Lo
    have h2 := hA.1 a (by simp)
    have : hasR (a :: A) a.Lo = true := by rw [hasR, List.any_cons]; simp; omega
    rw [this] at h1
    simp [hasR] at h1
  | a :: A, b :: B, hA, hB, h => by
    have ma := hA.1 a (by simp)
    have mb := hB.1 b (by simp)
    have pa := (List.pairwise_cons.1 hA.2).1
    have pb := (List.pairwise_cons.1 hB.2).1
    have mem : ∀ (l : List Range) (n : Int), hasR l n = true ↔ ∃ r ∈ l, r.Lo ≤ n ∧ n ≤ r.Hi := by intro l n; simp [hasR]
    have lo1 : b.Lo ≤ a.Lo := by
      obtain ⟨r, hr, h1, h2⟩ := (mem _ _).1 ((h a.Lo).symm.trans ((mem (a :: A) a.Lo).2 ⟨a, by simp, by omega, by omega⟩))
      rcases List.mem_cons.1 hr with rfl | hr
      · exact h1
      · have := pb r hr; omega
    have lo2 : a.Lo ≤ b.Lo := by
      obtain ⟨r, hr, h1, h2⟩ := (mem _ _).1 ((h b.Lo).trans ((mem (b :: B) b.Lo).2 ⟨b, by simp, by omega, by omega⟩))
      rcases List.mem_cons.1 hr with rfl | hr
      · exact h1
      · have := pa r hr; omega
    have hi1 : b.Hi ≤ a.Hi := by
      rcases Int.lt_or_le a.Hi b.Hi with hlt | hge
      · obtain ⟨r, hr, h1, h2⟩ := (mem _ _).1 ((h (a.Hi + 1)).trans ((mem (b :: B) (a.Hi + 1)).2 ⟨b, by simp, by omega, by omega⟩))
        rcases List.mem_cons.1 hr with rfl | hr
        · omega
        · have := pa r hr; omega
      · exact hge
    have hi2 : a.Hi ≤ b.Hi := by
      rcases Int.lt_or_le b.Hi a.Hi with hlt | hge
      · obtain ⟨r, hr, h1, h2⟩ := (mem _ _).1 ((h (b.Hi + 1)).symm.trans ((mem (a :: A) (b.Hi + 1)).2 ⟨a, by simp, by omega, by omega⟩))
        rcases List.mem_cons.1 hr with rfl | hr
        · omega
        · have := pb r hr; omega
      · exact hge
    have e : a = b := by
      obtain ⟨x, y⟩ := a
      obtain ⟨z, w⟩ := b
      simp only at lo1 lo2 hi1 hi2
      rw [show x = z by omega, show y = w by omega]
    subst e
    congr 1
    refine canon_eq (m := m) (k := k) ⟨fun r hr => hA.1 r (by simp [hr]), (List.pairwise_cons.1 hA.2).2⟩ ⟨fun r hr => hB.1 r (by simp [hr]), (List.pairwise_cons.1 hB.2).2⟩ fun n => ?_
    have hn := h n
    rw [Bool.eq_iff_iff, mem, mem] at hn ⊢
    constructor
    · rintro ⟨r, hr, h1, h2⟩
      obtain ⟨s, hs, h3, h4⟩ := hn.1 ⟨r, by simp [hr], h1, h2⟩
      rcases List.mem_cons.1 hs with rfl | hs
      · have := pa r hr; omega
      · exact ⟨s, hs, h3, h4⟩
    · rintro ⟨r, hr, h1, h2⟩
      obtain ⟨s, hs, h3, h4⟩ := hn.2 ⟨r, by simp [hr], h1, h2⟩
      rcases List.mem_cons.1 hs with rfl | hs
      · have := pb r hr; omega
      · exact ⟨s, hs, h3, h4⟩
theorem canon_of_ok {S : List Range} (h : setOk S = true) : Canon S 9999 := by
  simp only [setOk, Bool.and_eq_true] at h
  have hr : ∀ i, (hi : i < S.length) → rangeAt S i = true := fun i hi => allN_get h.1 hi
  refine ⟨fun r hx => ?_, ?_⟩
  · obtain ⟨i, hi, rfl⟩ := List.mem_iff_getElem.1 hx
    exact rangeAt_hi hi (hr i hi)
  · have adj : ∀ i, (hi : i + 1 < S.length) → S[i].Hi + 1 < S[i + 1].Lo := by
      intro i hi
      have := hr (i + 1) hi
      simp only [rangeAt, Bool.and_eq_true, Bool.or_eq_true, decide_eq_true_eq, Nat.add_sub_cancel, getD_lt hi, getD_lt (show i < S.length by omega), beq_iff_eq] at this
      rcases this.2 with h0 | h0
      · omega
      · exact h0
    have wf : ∀ i, (hi : i < S.length) → S[i].Lo ≤ S[i].Hi := fun i hi => (rangeAt_hi hi (hr i hi)).2.1
    rw [List.pairwise_iff_getElem]
    intro i j hi hj hij
    induction j with
    | zero => omega
    | succ j ih =>
      rcases Nat.lt_or_ge i j with h1 | h1
      · have a1 := ih (by omega) h1
        have a2 := adj j hj
        have a3 := wf j (by omega)
        omega
      · have : i = j := by omega
        subst this
        exact adj i hj
theorem setR_same {S : List Range} (h : setOk S = true) : setR S = S := by
  have hc := canon_of_ok h
  have ha : Asc ((nums 9999).filter fun n => hasR S n) 9999 := (nums_asc 9999).filter _
  refine canon_eq (scan_canon _ _ ha) hc fun n => ?_
  show hasR (scan _) n = _
  rw [hasR_scan _ _ _ ha, Bool.eq_iff_iff, decide_eq_true_eq, List.mem_filter, nums_mem]
  constructor
  · exact fun e => e.2
  · intro e
    refine ⟨?_, e⟩
    rw [hasR, List.any_eq_true] at e
    obtain ⟨r, hr, e⟩ := e
    simp only [Bool.and_eq_true, decide_eq_true_eq] at e
    have := hc.1 r hr
    omega
/-! ### numbers -/
theorem dec_read (n : Nat) : (Lib.decDigits n).all digB = true ∧ numV (Lib.decDigits n) = n := by
  induction n using Nat.strongRecOn with
  | ind n ih =>
    have key : ∀ k : Nat, k < 10 → digB (UInt8.ofNat (48 + k)) = true ∧ ((UInt8.ofNat (48 + k)).toNat : Int) = 48 + k := by
      intro k hk
      have e : (UInt8.ofNat (48 + k)).toNat = 48 + k := UInt8.toNat_ofNat_of_lt' (by show 48 + k < 256; omega)
      refine ⟨?_, by omega⟩
      simp only [digB, within, Bool.and_eq_true, decide_eq_true_eq, e]
      omega
    rw [Lib.decDigits]
    by_cases h : n < 10
    · rw [dif_pos h]
      obtain ⟨k1, k2⟩ := key n h
      refine ⟨by simp only [List.all_cons, List.all_nil, k1]; rfl, ?_⟩
      simp only [numV, List.foldl_cons, List.foldl_nil, stepV, k2]; omega
    · rw [dif_neg h]
      obtain ⟨i1, i2⟩ := ih (n / 10) (by omega)
      obtain ⟨k1, k2⟩ := key (n % 10) (by omega)
      refine ⟨by rw [List.all_append, i1]; simp only [List.all_cons, List.all_nil, k1]; rfl, ?_⟩
      rw [numV_snoc, i2, stepV, k2]; omega
theorem itoa_read {n : Int} (h : 0 ≤ n) : (Lib.itoa n).all digB = true ∧ numV (Lib.itoa n) = n := by
  rw [Lib.itoa, if_neg (by omega)]
  have := dec_read n.toNat
  exact ⟨this.1, by rw [this.2]; omega⟩
theorem itoa_ne {n : Int} (h : 0 ≤ n) : Lib.itoa n ≠ [] := by
  rw [Lib.itoa, if_neg (by omega)]
  intro e
  rw [Lib.decDigits] at e
  split at e <;> simp at e
theorem num_back {n : Int} (h1 : 1 ≤ n) (h2 : n ≤ 9999) (last : Int) : numB (Lib.itoa n) = true ∧ numN (Lib.itoa n) last = n := by
  obtain ⟨a1, a2⟩ := itoa_read (n := n) (by omega)
  have a3 := itoa4 (n := n) (by omega) h2
  have a4 := itoa_ne (n := n) (by omega)
  have a5 : Lib.itoa n ≠ [42] := by
    intro e; rw [e] at a1; revert a1; decide
  have a6 : within (Lib.itoa n).length 1 4 = true := by
    have := List.length_pos_iff.2 a4
    simp only [within, Bool.and_eq_true, decide_eq_true_eq]; omega
  refine ⟨?_, ?_⟩
  · rw [numB, if_neg a5, a6, a1, a2]; simp; omega
  · rw [numN, if_neg a5, a6, a1, if_pos (by rfl), a2]
theorem dig_no {s : List UInt8} (h : s.all digB = true) (c : UInt8) (hc : digB c = false) : ∀ x ∈ s, notB c x = true := by
  intro x hx
  have := List.all_eq_true.1 h x hx
  rw [notB, bne_iff_ne]
  rintro rfl
  rw [this] at hc; cases hc
theorem part_back {r : Range} (h1 : 1 ≤ r.Lo) (h2 : r.Lo ≤ r.Hi) (h3 : r.Hi ≤ 9999) (last : Int) : partB (partOf r) = true ∧ partLo (partOf r) last = r.Lo ∧ partHi (partOf r) last = r.Hi := by
  obtain ⟨a1, a2⟩ := num_back h1 (by omega) last
  obtain ⟨b1, b2⟩ := num_back (n := r.Hi) (by omega) h3 last
  have d1 := dig_no (itoa_read (n := r.Lo) (by omega)).1 58 (by decide)
  have d2 := dig_no (itoa_read (n := r.Hi) (by omega)).1 58 (by decide)
  unfold partOf
  split
  · rename_i hlt
    have hm : (58 : UInt8) ∈ Lib.itoa r.Lo ++ 58 :: Lib.itoa r.Hi := by simp
    have hf : first (Lib.itoa r.Lo ++ 58 :: Lib.itoa r.Hi) = Lib.itoa r.Lo := by
      rw [first, List.takeWhile_append_of_pos d1]
      simp [notB]
    have hs : second (Lib.itoa r.Lo ++ 58 :: Lib.itoa r.Hi) = Lib.itoa r.Hi := by
      rw [second, hf]
      rw [show Lib.itoa r.Lo ++ 58 :: Lib.itoa r.Hi = (Lib.itoa r.Lo ++ [58]) ++ Lib.itoa r.Hi by simp]
      exact List.drop_left' (by simp)
    refine ⟨by rw [partB, if_pos hm, hf, hs, a1, b1]; rfl, ?_, ?_⟩
    · rw [partLo, if_pos hm, hf, hs, a2, b2]; omega
    · rw [partHi, if_pos hm, hf, hs, a2, b2]; omega
  · have hm : ¬ (58 : UInt8) ∈ Lib.itoa r.Lo := fun e => by have := d1 _ e; simp [notB] at this
    refine ⟨by rw [partB, if_neg hm, a1], ?_, ?_⟩
    · rw [partLo, if_neg hm, a2]
    · rw [partHi, if_neg hm, a2]; omega
theorem part_no {r : Range} (h1 : 1 ≤ r.Lo) (h2 : r.Lo ≤ r.Hi) : ∀ x ∈ partOf r, notB 44 x = true := by
  have d1 := dig_no (itoa_read (n := r.Lo) (by omega)).1 44 (by decide)
  have d2 := dig_no (itoa_read (n := r.Hi) (by omega)).1 44 (by decide)
  intro x hx
  unfold partOf at hx
  split at hx
  · rcases List.mem_append.1 hx with hx | hx
    · exact d1 x hx
    · rcases List.mem_cons.1 hx with rfl | hx
      · decide
      · exact d2 x hx
  · exact d1 x hx
theorem join_split : ∀ {S : List Range}, S ≠ [] → (∀ r ∈ S, 1 ≤ r.Lo ∧ r.Lo ≤ r.Hi) → splitOn 44 (Lib.join (S.map partOf) [44]) = S.map partOf
  | [], h, _ => absurd rfl h
  | [r], _, hs => by
    obtain ⟨h1, h2⟩ := hs r (by simp)
    simp only [List.map_cons, List.map_nil, Lib.join_cons, Lib.joinTail, List.flatten_nil, List.append_nil]
    exact splitOn_none (part_no h1 h2)
  | r :: q :: S, _, hs => by
    obtain ⟨h1, h2⟩ := hs r (by simp)
    have ih := join_split (S := q :: S) (by simp) (fun x hx => hs x (by simp [hx]))
    have e : Lib.join ((r :: q :: S).map partOf) [44] = partOf r ++ 44 :: Lib.join ((q :: S).map partOf) [44] := by
      simp only [List.map_cons, Lib.join_cons, Lib.joinTail, List.map_map, List.flatten_cons, List.cons_append, List.nil_append]
    rw [e, splitOn_app _ (part_no h1 h2), ih]; rfl
theorem ranges_back (last : Int) : ∀ {S : List Range}, (∀ r ∈ S, 1 ≤ r.Lo ∧ r.Lo ≤ r.Hi ∧ r.Hi ≤ 9999) → rangesOf last (S.map partOf) = some S
  | [], _ => rfl
  | r :: S, hs => by
    obtain ⟨h1, h2, h3⟩ := hs r (by simp)
    obtain ⟨p1, p2, p3⟩ := part_back h1 h2 h3 last
    rw [List.map_cons, rangesOf, if_pos p1, ranges_back last (fun x hx => hs x (by simp [hx])), p2, p3]; rfl
theorem set_back {S : List Range} {last : Int} (h : setOk S = true) (hne : S ≠ []) (h0 : 1 ≤ last) (h9 : last ≤ 9999) : readOk (setText S) last = true ∧ readSet (setText S) last = S := by
  have hb : ∀ r ∈ S, 1 ≤ r.Lo ∧ r.Lo ≤ r.Hi ∧ r.Hi ≤ 9999 := (canon_of_ok h).1
  have e1 : splitOn 44 (setText S) = S.map partOf := by rw [setText, if_pos h]; exact join_split hne fun r hr => ⟨(hb r hr).1, (hb r hr).2.1⟩
  have e2 : rangesOf last (splitOn 44 (setText S)) = some S := by rw [e1]; exact ranges_back last hb
  have e3 := setR_same h
  have e4 := setOk_len h
  have hw : within last 1 9999 = true := by simp only [within, Bool.and_eq_true, decide_eq_true_eq]; omega
  have hk : readOk (setText S) last = true := by rw [readOk, e2, hw]; simp only [e3, Bool.true_and, decide_eq_true_eq]; exact e4
  exact ⟨hk, by rw [readSet, if_pos hk, e2]; exact e3⟩
theorem setText_ne {S : List Range} (h : setOk S = true) (hne : S ≠ []) : setText S ≠ [] := by
  intro e
  have := (set_back (last := 1) h hne (by omega) (by omega)).2
  rw [e] at this
  have h2 : readSet [] 1 = [] := by
    have : readOk [] 1 = false := by decide
    rw [readSet, this]; rfl
  rw [h2] at this
  exact hne this.symm
end Go.Proofs.YtonjbbfgdloljaaGreatDoor.L

namespace Go.Proofs.YtonjbbfgdloljaaGreatDoor.L
open Go Go.VM
set_option maxRecDepth 100000
set_option maxHeartbeats 4000000
set_option linter.unusedSimpArgs false
set_option linter.unusedVariables false
def decB (s : List UInt8) : Bool := s.all digB && (decide (numV s ≤ 1000000000) && Lib.itoa (numV s) == s)
def decN (s : List UInt8) : Int := if decB s = true then numV s else 0
theorem dec_len {s : List UInt8} (h : decB s = true) : s.length ≤ 10 := by
  simp only [decB, Bool.and_eq_true, decide_eq_true_eq, beq_iff_eq] at h
  have := numV_bound s h.1
  rw [← h.2.2]
  exact itoa10 this.1 h.2.1
theorem dec_back {n : Int} (h0 : 0 ≤ n) (h : n ≤ 1000000000) : decB (Lib.itoa n) = true ∧ decN (Lib.itoa n) = n := by
  obtain ⟨a1, a2⟩ := itoa_read h0
  have hb : decB (Lib.itoa n) = true := by
    rw [decB, a1, a2]; simp [h]
  exact ⟨hb, by rw [decN, if_pos hb, a2]⟩
open Classical in
noncomputable def spDecS : VM.Spec := { modes := [.rd], run := fun | [.int .i64 n] => if 0 ≤ n ∧ n ≤ 1000000000 then some (.str (Lib.itoa n), []) else none | _ => none, need := [] }
attribute [go_sem] spDecS
theorem spDecS_in {ins : List V} {r : V} {outs : List V} (h : spDecS.run ins = some (r, outs)) : ∃ (n : Int), ins = [.int .i64 n] ∧ (0 ≤ n ∧ n ≤ 1000000000) ∧ .str (Lib.itoa n) = r ∧ outs = [] := by
  unfold spDecS at h
  simp only at h
  split at h
  · rename_i n
    split at h
    case isFalse => cases h
    rename_i hc
    simp only [Option.some.injEq, Prod.mk.injEq] at h
    obtain ⟨h1, h2⟩ := h
    exact ⟨n, rfl, hc, h1, h2.symm⟩
  · cases h
def T_spec_Decimal_s : Hints := ⟨lk [], lk [(5, [0, 3, 4])], lk [(0, [0]), (1, [0, 7]), (2, [2]), (3, [0, 3]), (4, [0, 3, 4]), (5, [0, 3, 4, 11]), (6, [0, 3, 4, 5]), (7, [0, 3, 4, 5, 15]), (8, [0, 3, 4, 5]), (9, [0, 3, 4]), (10, [0, 3, 4]), (11, [4, 26]), (12, [2]), (13, [2])], lk []⟩
noncomputable def Phi_spec_Decimal_s : Tab := lk [(84, spFigure)]
attribute [go_sem] T_spec_Decimal_s Phi_spec_Decimal_s
theorem phi_spec_Decimal_s : ∀ f sp, Phi_spec_Decimal_s f = some sp → FnOk Tryz.prog f sp ∧ ∀ n ∈ sp.need, n ∈ ([] : List String) := phi_cons ok_spec_l01Figure (n0 rfl) (phi_nil)
theorem ok_spec_Decimal_s : FnOk Tryz.prog 35 spDecS := by
  refine fn_ok (Φ := Phi_spec_Decimal_s) (T := T_spec_Decimal_s) phi_spec_Decimal_s mixed Tryz.func35 rfl rfl rfl (by decide) ?_
  intro ins r outs hr hl
  clear hl
  have hs := spDecS_in hr
  clear hr
  obtain ⟨n, rfl, hc, hr, rfl⟩ := hs
  simp only [spDecS, Tryz.f35, Go.VM.initS]
  obtain ⟨h0, h1⟩ := hc
  obtain ⟨k, rfl⟩ : ∃ k : Nat, n = k := ⟨n.toNat, by omega⟩
  by_cases hz : k = 0
  · subst hz
    have e : (((0 : Nat) : Int) == 0) = true := rfl
    simp only [e, go_sem]
    repeat' ((first | apply qa | apply qb | apply qc | apply qd | apply qe | apply qf | apply qg | apply qh | apply qi | apply qj | apply qk) <;> intro hp <;> simp only [hp, e, go_sem])
    simp only [fin_mk, finV, resL, resV1, resIn, endA, listIn, Option.some_or, Option.none_or, oneOrTup, go_sem]
    rw [← hr]
    have h2 : Lib.itoa ((0 : Nat) : Int) = [48] := by
      rw [Lib.itoa, if_neg (by decide)]
      show Lib.decDigits 0 = _
      rw [Lib.decDigits]; rfl
    rw [h2]
  · have e : ((k : Int) == 0) = false := beq_eq_false_iff_ne.2 (by omega)
    have e2 : ¬ (k : Int) < 0 := by omega
    have hI : Lib.itoa (k : Int) = dig k := by rw [Lib.itoa, if_neg e2, dig, if_neg hz]; rfl
    rw [hI] at hr
    simp only [e, e2, go_sem]
    repeat' ((first | apply qa | apply qb | apply qc | apply qd | apply qe | apply qf | apply qg | apply qh | apply qi | apply qj | apply qk) <;> intro hp <;> simp only [hp, e, e2, go_sem])
    refine loop_go (fun p : List UInt8 × Nat => [(0, .int .i64 (p.2 : Int)), (4, .str p.1)]) (fun _ => []) (fun p => p.2) (fun p => dig p.2 ++ p.1 = dig k ∧ p.2 ≤ k) ([], k) ⟨by simp, Nat.le_refl _⟩ rfl rfl ?_
    rintro ⟨s, m⟩ ⟨he, hm⟩ ih
    simp only at he hm ih
    have hlen : s.length ≤ k := by
      have h2 := congrArg List.length he
      have h3 := dig_len k
      simp only [List.length_append] at h2; omega
    by_cases hm0 : m = 0
    · subst hm0
      have g1 : (((0 : Nat) : Int) != 0) = false := rfl
      simp only [g1, go_sem]
      repeat' ((first | apply qa | apply qb | apply qc | apply qd | apply qe | apply qf | apply qg | apply qh | apply qi | apply qj | apply qk) <;> intro hp <;> simp only [hp, g1, go_sem])
      simp only [fin_mk, finV, resL, resV1, resIn, endA, listIn, Option.some_or, Option.none_or, oneOrTup, go_sem]
      rw [← hr]
      rw [← he]; rfl
    · have g1 : ((m : Int) != 0) = true := by simp; omega
      have g2 : (m : Int).tmod 10 = ((m % 10 : Nat) : Int) := tmod_nat m 10
      have g3 : ¬ (((m % 10 : Nat) : Int)) < 0 := by omega
      have g4 : (0 : Int) ≤ ((m % 10 : Nat) : Int) := by omega
      have g5 : ((m % 10 : Nat) : Int) < 10 := by omega
      have g6 : (m : Int).tdiv 10 = ((m / 10 : Nat) : Int) := tdiv_nat m 10
      have g7 : IntKind.i64.wrap ((m / 10 : Nat) : Int) = ((m / 10 : Nat) : Int) := wrap64 (by omega) (by omega)
      have g8 : [V.int .u8 (48 + ((m % 10 : Nat) : Int))] = bytesV [UInt8.ofNat (48 + m % 10)] := by
        have h4 : (UInt8.ofNat (48 + m % 10)).toNat = 48 + m % 10 := UInt8.toNat_ofNat_of_lt' (by show 48 + m % 10 < 256; omega)
        rw [bytesV, List.map_cons, List.map_nil, h4]; rfl
      have g9 : 1 + s.length ≤ 9223372036854775807 := by omega
      have ih' := ih (UInt8.ofNat (48 + m % 10) :: s, m / 10) ⟨by rw [← he, dig_step hm0, List.append_assoc]; rfl, by omega⟩ (by simp only; omega)
      simp only at ih'
      simp only [g1, g2, g3, g4, g5, g6, g7, g8, g9, go_sem]
      repeat' ((first | apply qa | apply qb | apply qc | apply qd | apply qe | apply qf | apply qg | apply qh | apply qi | apply qj | apply qk) <;> intro hp <;> simp only [hp, g1, g2, g3, g4, g5, g6, g7, g8, g9, go_sem])
      exact ih'
open Classical in
noncomputable def spReadDec : VM.Spec := { modes := [.rd], run := fun | [.str s] => if s.length ≤ 4194304 then some (.tup [.int .i64 (decN s), .bool (decB s)], []) else none | _ => none, need := [] }
attribute [go_sem] spReadDec
theorem spReadDec_in {ins : List V} {r : V} {outs : List V} (h : spReadDec.run ins = some (r, outs)) : ∃ (s : (List UInt8)), ins = [.str s] ∧ (s.length ≤ 4194304) ∧ .tup [.int .i64 (decN s), .bool (decB s)] = r ∧ outs = [] := by
  unfold spReadDec at h
  simp only at h
  split at h
  · rename_i s
    split at h
    case isFalse => cases h
    rename_i hc
    simp only [Option.some.injEq, Prod.mk.injEq] at h
    obtain ⟨h1, h2⟩ := h
    exact ⟨s, rfl, hc, h1, h2.symm⟩
  · cases h
def T_spec_ReadDecimal : Hints := ⟨lk [], lk [(5, [0, 4, 5])], lk [(0, [0]), (1, [0, 8]), (2, [2, 3]), (3, [0, 4]), (4, [0, 4, 5]), (5, [0, 4, 5, 12]), (7, [0, 4, 5, 24]), (8, [2, 3]), (9, [0, 4, 5]), (6, [0, 4, 5]), (10, [4, 40]), (11, [2, 3]), (12, [2, 3])], lk []⟩
noncomputable def Phi_spec_ReadDecimal : Tab := lk [(35, spDecS)]
attribute [go_sem] T_spec_ReadDecimal Phi_spec_ReadDecimal
theorem phi_spec_ReadDecimal : ∀ f sp, Phi_spec_ReadDecimal f = some sp → FnOk Tryz.prog f sp ∧ ∀ n ∈ sp.need, n ∈ ([] : List String) := phi_cons ok_spec_Decimal_s (n0 rfl) (phi_nil)
theorem ok_spec_ReadDecimal : FnOk Tryz.prog 52 spReadDec := by
  refine fn_ok (Φ := Phi_spec_ReadDecimal) (T := T_spec_ReadDecimal) phi_spec_ReadDecimal mixed Tryz.func52 rfl rfl rfl (by decide) ?_
  intro ins r outs hr hl
  clear hl
  have hs := spReadDec_in hr
  clear hr
  obtain ⟨s, rfl, hc, hr, rfl⟩ := hs
  simp only [spReadDec, Tryz.f52, Go.VM.initS]
  have no : decB s = false → decN s = 0 := fun e => by rw [decN, e]; rfl
  by_cases h10 : (10 : Int) < s.length
  · have e1 : decB s = false := by
      cases hq : decB s with
      | false => rfl
      | true => have := dec_len hq; omega
    rw [e1, no e1] at hr
    simp only [h10, go_sem]
    repeat' ((first | apply qa | apply qb | apply qc | apply qd | apply qe | apply qf | apply qg | apply qh | apply qi | apply qj | apply qk) <;> intro hp <;> simp only [hp, h10, go_sem])
    simp only [fin_mk, finV, resL, resV1, resIn, endA, listIn, Option.some_or, Option.none_or, oneOrTup, go_sem]
    rw [← hr]
  simp only [h10, go_sem]
  repeat' ((first | apply qa | apply qb | apply qc | apply qd | apply qe | apply qf | apply qg | apply qh | apply qi | apply qj | apply qk) <;> intro hp <;> simp only [hp, h10, go_sem])
  refine loop_go (fun i : Nat => [(4, .int .i64 (numV (s.take i))), (5, .int .i64 (i : Int))]) (fun _ => []) (fun i => s.length - i) (fun i => i ≤ s.length ∧ (s.take i).all digB = true) 0 ⟨Nat.zero_le _, by simp⟩ rfl rfl ?_
  rintro i ⟨hi, ha⟩ ih
  have hb := numV_bound _ ha
  rcases Nat.lt_or_ge i s.length with h | h
  · have g1 : (i : Int) < s.length := by omega
    have g2 : (0 : Int) ≤ i := by omega
    have g3 : s[i]? = some s[i] := List.getElem?_eq_getElem h
    have g5 := wrap_succ h (by omega)
    have hp : (10 : Int) ^ (s.take i).length ≤ 10000000000 := by
      have : (s.take i).length ≤ 10 := by rw [List.length_take]; omega
      have h2 : (10 : Nat) ^ (s.take i).length ≤ 10 ^ 10 := Nat.pow_le_pow_right (by omega) this
      have h3 : (((10 : Nat) ^ (s.take i).length : Nat) : Int) ≤ ((10 ^ 10 : Nat) : Int) := by exact_mod_cast h2
      simpa using h3
    have hx := s[i].toNat_lt
    by_cases d1 : (s[i].toNat : Int) < 48
    · have e1 : decB s = false := by
        have : digB s[i] = false := by simp only [digB, within, Bool.and_eq_false_iff, decide_eq_false_iff_not]; omega
        have hs : s.all digB = false := by rw [List.all_eq_false]; exact ⟨_, List.getElem_mem h, by simp [this]⟩
        rw [decB, hs]; rfl
      rw [e1, no e1] at hr
      simp only [g1, g2, g3, g5, d1, go_sem]
      repeat' ((first | apply qa | apply qb | apply qc | apply qd | apply qe | apply qf | apply qg | apply qh | apply qi | apply qj | apply qk) <;> intro hp <;> simp only [hp, g1, g2, g3, g5, d1, go_sem])
      simp only [fin_mk, finV, resL, resV1, resIn, endA, listIn, Option.some_or, Option.none_or, oneOrTup, go_sem]
      rw [← hr]
    by_cases d2 : (57 : Int) < s[i].toNat
    · have e1 : decB s = false := by
        have : digB s[i] = false := by simp only [digB, within, Bool.and_eq_false_iff, decide_eq_false_iff_not]; omega
        have hs : s.all digB = false := by rw [List.all_eq_false]; exact ⟨_, List.getElem_mem h, by simp [this]⟩
        rw [decB, hs]; rfl
      rw [e1, no e1] at hr
      simp only [g1, g2, g3, g5, d1, d2, go_sem]
      repeat' ((first | apply qa | apply qb | apply qc | apply qd | apply qe | apply qf | apply qg | apply qh | apply qi | apply qj | apply qk) <;> intro hp <;> simp only [hp, g1, g2, g3, g5, d1, d2, go_sem])
      simp only [fin_mk, finV, resL, resV1, resIn, endA, listIn, Option.some_or, Option.none_or, oneOrTup, go_sem]
      rw [← hr]
    have hd : digB s[i] = true := by simp only [digB, within, Bool.and_eq_true, decide_eq_true_eq]; omega
    have hn : numV (s.take (i + 1)) = 10 * numV (s.take i) + s[i].toNat - 48 := by
      rw [take_succ' h, numV_snoc, stepV]; omega
    have w0 : IntKind.i64.wrap (s[i].toNat : Int) = s[i].toNat := wrap64 (by omega) (by omega)
    have w1 : IntKind.i64.wrap (10 * numV (s.take i)) = 10 * numV (s.take i) := wrap64 (by omega) (by omega)
    have w2 : IntKind.i64.wrap (10 * numV (s.take i) + s[i].toNat) = 10 * numV (s.take i) + s[i].toNat := wrap64 (by omega) (by omega)
    have w3 : IntKind.i64.wrap (10 * numV (s.take i) + s[i].toNat - 48) = 10 * numV (s.take i) + s[i].toNat - 48 := wrap64 (by omega) (by omega)
    have ih' := ih (i + 1) ⟨h, by rw [take_succ' h, List.all_append, ha]; simp only [List.all_cons, List.all_nil, hd]; rfl⟩ (by omega)
    simp only [hn] at ih'
    simp only [g1, g2, g3, g5, d1, d2, w0, w1, w2, w3, go_sem]
    repeat' ((first | apply qa | apply qb | apply qc | apply qd | apply qe | apply qf | apply qg | apply qh | apply qi | apply qj | apply qk) <;> intro hp <;> simp only [hp, g1, g2, g3, g5, d1, d2, w0, w1, w2, w3, go_sem])
    exact ih'
  · have g1 : ¬ (i : Int) < s.length := by omega
    rw [List.take_of_length_le h] at ha hb
    have ht : s.take i = s := List.take_of_length_le h
    rw [ht]
    by_cases h9 : (1000000000 : Int) < numV s
    · have e1 : decB s = false := by rw [decB, decide_eq_false (by omega)]; simp
      rw [e1, no e1] at hr
      simp only [g1, h9, go_sem]
      repeat' ((first | apply qa | apply qb | apply qc | apply qd | apply qe | apply qf | apply qg | apply qh | apply qi | apply qj | apply qk) <;> intro hp <;> simp only [hp, g1, h9, go_sem])
      simp only [fin_mk, finV, resL, resV1, resIn, endA, listIn, Option.some_or, Option.none_or, oneOrTup, go_sem]
      rw [← hr]
    have h91 : numV s ≤ 1000000000 := by omega
    cases h4 : (Lib.itoa (numV s) == s) with
    | false =>
      have e1 : decB s = false := by rw [decB, h4]; simp
      have h5 : (Lib.itoa (numV s) != s) = true := by rw [bne, h4]; rfl
      rw [e1, no e1] at hr
      simp only [g1, h9, h91, hb.1, h4, h5, go_sem]
      repeat' ((first | apply qa | apply qb | apply qc | apply qd | apply qe | apply qf | apply qg | apply qh | apply qi | apply qj | apply qk) <;> intro hp <;> simp only [hp, g1, h9, h91, hb.1, h4, h5, go_sem])
      simp only [fin_mk, finV, resL, resV1, resIn, endA, listIn, Option.some_or, Option.none_or, oneOrTup, go_sem]
      rw [← hr]
    | true =>
      have e1 : decB s = true := by rw [decB, ha, h4, decide_eq_true h91]; rfl
      have e2 : decN s = numV s := by rw [decN, e1]; rfl
      have h5 : (Lib.itoa (numV s) != s) = false := by rw [bne, h4]; rfl
      rw [e1, e2] at hr
      simp only [g1, h9, h91, hb.1, h4, h5, go_sem]
      repeat' ((first | apply qa | apply qb | apply qc | apply qd | apply qe | apply qf | apply qg | apply qh | apply qi | apply qj | apply qk) <;> intro hp <;> simp only [hp, g1, h9, h91, hb.1, h4, h5, go_sem])
      simp only [fin_mk, finV, resL, resV1, resIn, endA, listIn, Option.some_or, Option.none_or, oneOrTup, go_sem]
      rw [← hr]
end Go.Proofs.YtonjbbfgdloljaaGreatDoor.L

namespace Go.Proofs.YtonjbbfgdloljaaGreatDoor.L
open Go Go.VM
set_option maxRecDepth 100000
set_option maxHeartbeats 4000000
set_option linter.unusedSimpArgs false
set_option linter.unusedVariables false
def bitF : Nat → Nat → List UInt8 → Int
  | 0, _, _ => 0
  | f + 1, i, w => if (flagNames.getD i [] == w) = true then ((2 ^ i : Nat) : Int) else bitF f (i + 1) w
def bitN (w : List UInt8) : Int := bitF 5 0 w
theorem bitF_in : ∀ (f i : Nat) (w : List UInt8), f + i ≤ 5 → 0 ≤ bitF f i w ∧ bitF f i w ≤ 16
  | 0, _, _, _ => by simp [bitF]
  | f + 1, i, w, h => by
    rw [bitF]
    split
    · have h2 : 2 ^ i ≤ 2 ^ 4 := Nat.pow_le_pow_right (by omega) (by omega)
      generalize 2 ^ i = q at *
      omega
    · exact bitF_in f (i + 1) w (by omega)
theorem bitN_in (w : List UInt8) : 0 ≤ bitN w ∧ bitN w ≤ 16 := bitF_in 5 0 w (by omega)
open Classical in
noncomputable def spBit : VM.Spec := { modes := [.rd], run := fun | [.str w] => if w.length ≤ 4194304 then some (.int .i64 (bitN w), []) else none | _ => none, need := [] }
attribute [go_sem] spBit
theorem spBit_in {ins : List V} {r : V} {outs : List V} (h : spBit.run ins = some (r, outs)) : ∃ (w : (List UInt8)), ins = [.str w] ∧ (w.length ≤ 4194304) ∧ .int .i64 (bitN w) = r ∧ outs = [] := by
  unfold spBit at h
  simp only at h
  split at h
  · rename_i w
    split at h
    case isFalse => cases h
    rename_i hc
    simp only [Option.some.injEq, Prod.mk.injEq] at h
    obtain ⟨h1, h2⟩ := h
    exact ⟨w, rfl, hc, h1, h2.symm⟩
  · cases h
def T_spec_l06Bit : Hints := ⟨lk [], lk [(4, [0, 3, 4, 5])], lk [(0, [0]), (1, [0, 3]), (2, [0, 3, 4]), (3, [0, 3, 4, 5]), (4, [0, 3, 4, 5, 10]), (6, [0, 3, 4, 5, 18]), (7, [2]), (8, [0, 3, 4, 5]), (5, [0, 3, 4, 5]), (9, [2])], lk []⟩
noncomputable def Phi_spec_l06Bit : Tab := lk [(85, spFlagNames)]
attribute [go_sem] T_spec_l06Bit Phi_spec_l06Bit
theorem phi_spec_l06Bit : ∀ f sp, Phi_spec_l06Bit f = some sp → FnOk Tryz.prog f sp ∧ ∀ n ∈ sp.need, n ∈ ([] : List String) := phi_cons ok_spec_l06Names (n0 rfl) (phi_nil)
theorem ok_spec_l06Bit : FnOk Tryz.prog 50 spBit := by
  refine fn_ok (Φ := Phi_spec_l06Bit) (T := T_spec_l06Bit) phi_spec_l06Bit mixed Tryz.func50 rfl rfl rfl (by decide) ?_
  intro ins r outs hr hl
  clear hl
  have hs := spBit_in hr
  clear hr
  obtain ⟨w, rfl, hc, hr, rfl⟩ := hs
  simp only [spBit, Tryz.f50, Go.VM.initS]
  have p0 : ((1 : Int)) = ((2 ^ 0 : Nat) : Int) := rfl
  simp only [go_sem]
  repeat' ((first | apply qa | apply qb | apply qc | apply qd | apply qe | apply qf | apply qg | apply qh | apply qi | apply qj | apply qk) <;> intro hp <;> simp only [hp, go_sem])
  refine loop_go (fun i : Nat => [(4, .int .i64 ((2 ^ i : Nat) : Int)), (5, .int .i64 (i : Int))]) (fun _ => []) (fun i => 5 - i) (fun i => i ≤ 5 ∧ bitF (5 - i) i w = bitN w) 0 ⟨by omega, rfl⟩ rfl rfl ?_
  rintro i ⟨hi, he⟩ ih
  rcases Nat.lt_or_ge i 5 with h | h
  · have hfl : flagNames.length = 5 := rfl
    have g1 : (i : Int) < flagNames.length := by omega
    have g2 : (0 : Int) ≤ i := by omega
    have g3 : flagNames[i]? = some (flagNames.getD i []) := flag_names ⟨i, h⟩
    have g5 := wrap_succ h (by omega)
    have hp : 2 ^ i ≤ 2 ^ 4 := Nat.pow_le_pow_right (by omega) (by omega)
    have g6 : IntKind.i64.wrap (2 * ((2 ^ i : Nat) : Int)) = ((2 ^ (i + 1) : Nat) : Int) := by
      rw [Nat.pow_succ]
      generalize 2 ^ i = q at *
      rw [wrap64 (by omega) (by omega)]; omega
    rw [show 5 - i = (5 - (i + 1)) + 1 by omega, bitF] at he
    generalize flagNames.getD i [] = nm at *
    generalize flagNames = NM at *
    cases hq : (nm == w) with
    | true =>
      rw [if_pos hq] at he
      rw [← he] at hr
      simp only [g1, g2, g3, g5, hq, go_sem]
      repeat' ((first | apply qa | apply qb | apply qc | apply qd | apply qe | apply qf | apply qg | apply qh | apply qi | apply qj | apply qk) <;> intro hp <;> simp only [hp, g1, g2, g3, g5, hq, go_sem])
      simp only [fin_mk, finV, resL, resV1, resIn, endA, listIn, Option.some_or, Option.none_or, oneOrTup, go_sem]
      rw [← hr]
    | false =>
      rw [if_neg (by rw [hq]; simp)] at he
      simp only [g1, g2, g3, g5, g6, hq, go_sem]
      repeat' ((first | apply qa | apply qb | apply qc | apply qd | apply qe | apply qf | apply qg | apply qh | apply qi | apply qj | apply qk) <;> intro hp <;> simp only [hp, g1, g2, g3, g5, g6, hq, go_sem])
      exact ih (i + 1) ⟨h, he⟩ (by omega)
  · have h5 : i = 5 := by omega
    subst h5
    have g1 : ¬ ((5 : Nat) : Int) < flagNames.length := by decide
    have he' : (0 : Int) = bitN w := he
    rw [← he'] at hr
    generalize flagNames = NM at *
    simp only [g1, go_sem]
    repeat' ((first | apply qa | apply qb | apply qc | apply qd | apply qe | apply qf | apply qg | apply qh | apply qi | apply qj | apply qk) <;> intro hp <;> simp only [hp, g1, go_sem])
    simp only [fin_mk, finV, resL, resV1, resIn, endA, listIn, Option.some_or, Option.none_or, oneOrTup, go_sem]
    rw [← hr]
def unB (w : List UInt8) : Bool := (decide ((2 : Int) < (w.length : Int)) && (w.take 2 == [117, 110])) && decide (0 < bitN (w.drop 2))
def keyOne (w : List UInt8) : Option Key :=
  if (w == [97, 108, 108]) = true then some ⟨1, 0, []⟩ else
  if 0 < bitN w then some ⟨2, bitN w, []⟩ else
  if unB w = true then some ⟨3, bitN (w.drop 2), []⟩ else none
def keyTwo (w m : List UInt8) : Option Key :=
  if (w == [115, 117, 98, 106, 101, 99, 116]) = true then (if within m.length 1 20 = true then some ⟨4, 0, m⟩ else none) else
  if (w == [116, 101, 120, 116]) = true then (if within m.length 1 20 = true then some ⟨5, 0, m⟩ else none) else
  if (w == [117, 105, 100]) = true then (if readOk m 9999 = true then some ⟨6, 0, m⟩ else none) else
  if (w == [109, 111, 100, 115, 101, 113]) = true then (if decB m = true ∧ decN m ≤ 100000 then some ⟨7, decN m, []⟩ else none) else none
def keysL : List (List UInt8) → List Key → Option (List Key)
  | [], out => some out
  | [w], out => match keyOne w with
    | some k => if out.length < 6 then some (out ++ [k]) else none
    | none => none
  | w :: m :: ws, out => match keyOne w with
    | some k => if out.length < 6 then keysL (m :: ws) (out ++ [k]) else none
    | none => match keyTwo w m with
      | some k => if out.length < 6 then keysL ws (out ++ [k]) else none
      | none => none
theorem keysL_len : ∀ (ws : List (List UInt8)) (out ks : List Key), out.length ≤ 6 → keysL ws out = some ks → ks.length ≤ 6
  | [], out, ks, h, e => by simp only [keysL, Option.some.injEq] at e; rw [← e]; exact h
  | [w], out, ks, h, e => by
    simp only [keysL] at e
    split at e
    · split at e
      · cases e; simp; omega
      · cases e
    · cases e
  | w :: m :: ws, out, ks, h, e => by
    simp only [keysL] at e
    split at e
    · split at e
      · exact keysL_len (m :: ws) _ ks (by simp; omega) e
      · cases e
    · split at e
      · split at e
        · exact keysL_len ws _ ks (by simp; omega) e
        · cases e
      · cases e
def keyFits (n : Nat) (k : Key) : Prop := k.Text.length ≤ n
theorem keyOne_fits {w : List UInt8} {k : Key} {n : Nat} (h : keyOne w = some k) : keyFits n k := by
  unfold keyOne at h
  repeat' split at h
  all_goals first | (cases h; simp [keyFits]) | cases h
theorem keyTwo_fits {w m : List UInt8} {k : Key} {n : Nat} (hm : m.length ≤ n) (h : keyTwo w m = some k) : keyFits n k := by
  unfold keyTwo at h
  repeat' split at h
  all_goals first | (cases h; simp only [keyFits, List.length_nil]; omega) | cases h
theorem keysL_fits {n : Nat} : ∀ (ws : List (List UInt8)) (out ks : List Key), (∀ w ∈ ws, w.length ≤ n) → (∀ k ∈ out, keyFits n k) → keysL ws out = some ks → ∀ k ∈ ks, keyFits n k
  | [], out, ks, _, h, e => by simp only [keysL, Option.some.injEq] at e; rw [← e]; exact h
  | [w], out, ks, hw, h, e => by
    simp only [keysL] at e
    split at e
    · rename_i k hk
      split at e
      · cases e
        intro x hx
        rcases List.mem_append.1 hx with hx | hx
        · exact h x hx
        · simp only [List.mem_singleton] at hx; subst hx; exact keyOne_fits hk
      · cases e
    · cases e
  | w :: m :: ws, out, ks, hw, h, e => by
    simp only [keysL] at e
    have snoc : ∀ k, keyFits n k → ∀ x ∈ out ++ [k], keyFits n x := fun k hk x hx => by
      rcases List.mem_append.1 hx with hx | hx
      · exact h x hx
      · simp only [List.mem_singleton] at hx; subst hx; exact hk
    split at e
    · rename_i k hk
      split at e
      · exact keysL_fits (m :: ws) _ ks (fun x hx => hw x (by simp only [List.mem_cons] at hx ⊢; exact .inr hx)) (snoc k (keyOne_fits hk)) e
      · cases e
    · split at e
      · rename_i k hk
        split at e
        · exact keysL_fits ws _ ks (fun x hx => hw x (by simp [hx])) (snoc k (keyTwo_fits (hw m (by simp)) hk)) e
        · cases e
      · cases e
def readKeys (ws : List (List UInt8)) : List Key × Bool := match keysL ws [] with
  | some ks => (ks, decide (0 < ks.length))
  | none => ([], false)
theorem readKeys_in {ws : List (List UInt8)} {n : Nat} (h : ∀ w ∈ ws, w.length ≤ n) : (readKeys ws).1.length ≤ 6 ∧ ∀ k ∈ (readKeys ws).1, keyFits n k := by
  unfold readKeys
  cases hk : keysL ws [] with
  | none => simp
  | some ks => exact ⟨keysL_len ws [] ks (by simp) hk, keysL_fits ws [] ks h (by simp) hk⟩
theorem keysL_one {w : List UInt8} {ws : List (List UInt8)} {out : List Key} {k : Key} (h : keyOne w = some k) (h6 : out.length < 6) : keysL (w :: ws) out = keysL ws (out ++ [k]) := by
  cases ws with
  | nil => simp only [keysL, h, if_pos h6]
  | cons m ws => simp only [keysL, h, if_pos h6]
theorem keysL_full {w : List UInt8} {ws : List (List UInt8)} {out : List Key} {k : Key} (h : keyOne w = some k) (h6 : ¬ out.length < 6) : keysL (w :: ws) out = none := by
  cases ws with
  | nil => simp only [keysL, h, if_neg h6]
  | cons m ws => simp only [keysL, h, if_neg h6]
theorem keysL_two {w m : List UInt8} {ws : List (List UInt8)} {out : List Key} {k : Key} (h : keyOne w = none) (h2 : keyTwo w m = some k) (h6 : out.length < 6) : keysL (w :: m :: ws) out = keysL ws (out ++ [k]) := by
  simp only [keysL, h, h2, if_pos h6]
theorem keysL_two_full {w m : List UInt8} {ws : List (List UInt8)} {out : List Key} (h : keyOne w = none) (h2 : keyTwo w m = none ∨ ¬ out.length < 6) : keysL (w :: m :: ws) out = none := by
  simp only [keysL, h]
  cases hk : keyTwo w m with
  | none => rfl
  | some k =>
    rcases h2 with h2 | h2
    · rw [hk] at h2; cases h2
    · simp only [if_neg h2]
theorem keysL_end {w : List UInt8} {out : List Key} (h : keyOne w = none) : keysL [w] out = none := by
  simp only [keysL, h]
open Classical in
noncomputable def spReadKeys : VM.Spec := { modes := [.rd], run := fun | [.lst 1 ws'] => (decL dStr ws').bind fun ws => if ws.length ≤ 4194304 ∧ ∀ w ∈ ws, w.length ≤ 4194304 then some (.tup [.lst 3 (((readKeys ws).1).map Key.enc), .bool ((readKeys ws).2)], []) else none | _ => none, need := ["internal/bytealg.MaxLen"] }
attribute [go_sem] spReadKeys
theorem spReadKeys_in {ins : List V} {r : V} {outs : List V} (h : spReadKeys.run ins = some (r, outs)) : ∃ (ws : (List (List UInt8))), ins = [.lst 1 ((ws).map eStr)] ∧ (ws.length ≤ 4194304 ∧ ∀ w ∈ ws, w.length ≤ 4194304) ∧ .tup [.lst 3 (((readKeys ws).1).map Key.enc), .bool ((readKeys ws).2)] = r ∧ outs = [] := by
  unfold spReadKeys at h
  simp only at h
  split at h
  · rename_i ws'
    simp only [Option.bind_eq_some_iff] at h
    obtain ⟨ws, h_ws, h⟩ := h
    split at h
    case isFalse => cases h
    rename_i hc
    simp only [Option.some.injEq, Prod.mk.injEq] at h
    obtain ⟨h1, h2⟩ := h
    have h_ws := decL_some (fun _ _ h => dStr_some h) h_ws
    subst h_ws
    exact ⟨ws, rfl, hc, h1, h2.symm⟩
  · cases h
end Go.Proofs.YtonjbbfgdloljaaGreatDoor.L

