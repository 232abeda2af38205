/- Contracts of functions, and the facts that they need. No condition. -/
import Derived.Test.YtonjbbfgdloljaaGreatDoorVLRs
import Derived.Test.YtonjbbfgdloljaaGreatDoorVLT
namespace Go.Proofs.YtonjbbfgdloljaaGreatDoor.L
open Go Go.VM
set_option maxRecDepth 100000
set_option maxHeartbeats 4000000
set_option linter.unusedSimpArgs false
set_option linter.unusedVariables false
open Classical in
noncomputable def spIndex : VM.Spec := { modes := [.rd, .rd], run := fun | [.str s, .str t] => if s.length < 4294967281 then some (.int .i64 (Lib.index s t), []) else none | _ => none, need := ["internal/bytealg.MaxLen"] }
attribute [go_sem] spIndex
theorem spIndex_in {ins : List V} {r : V} {outs : List V} (h : spIndex.run ins = some (r, outs)) : ∃ (s : (List UInt8)) (t : (List UInt8)), ins = [.str s, .str t] ∧ (s.length < 4294967281) ∧ .int .i64 (Lib.index s t) = r ∧ outs = [] := by
  unfold spIndex at h
  simp only at h
  split at h
  · rename_i s t
    split at h
    case isFalse => cases h
    rename_i hc
    simp only [Option.some.injEq, Prod.mk.injEq] at h
    obtain ⟨h1, h2⟩ := h
    exact ⟨s, t, rfl, hc, h1, h2.symm⟩
  · cases h
theorem ok_internal_stringslite_Index : FnOk Tryz.prog 129 spIndex :=
  index_ok Tryz.func129 rfl (by kernel_rfl) (g := 0) (by kernel_rfl) (by simp [spIndex]) rfl (fun _ _ _ h => spIndex_in h) Tryz.stringslite_Index
theorem index_room {s t : List UInt8} (h : 0 ≤ Lib.index s t) : Lib.index s t + t.length ≤ s.length := by
  induction s with
  | nil =>
    unfold Lib.index at h ⊢
    split
    · rename_i ht
      have : t = [] := by simpa using ht
      subst this; simp
    · rename_i ht; rw [if_neg ht] at h; omega
  | cons b s ih =>
    unfold Lib.index at h ⊢
    split
    · rename_i hp
      have := isPrefixOf_len hp
      omega
    · rename_i hp
      rw [if_neg hp] at h
      split
      · rename_i he; rw [if_pos he] at h; omega
      · rename_i he
        rw [if_neg he] at h
        have h1 := Lib.index_ge s t
        have h2 : Lib.index s t ≠ -1 := by simpa using he
        have := ih (by omega)
        simp only [List.length_cons]; omega
def cutB (s t : List UInt8) : Bool := decide (0 ≤ Lib.index s t)
def cut1 (s t : List UInt8) : List UInt8 := if cutB s t = true then s.take (Lib.index s t).toNat else s
def cut2 (s t : List UInt8) : List UInt8 := if cutB s t = true then s.drop ((Lib.index s t).toNat + t.length) else []
open Classical in
noncomputable def spCut : VM.Spec := { modes := [.rd, .rd], run := fun | [.str s, .str t] => if s.length ≤ 4194304 ∧ t.length ≤ 4194304 then some (.tup [.str (cut1 s t), .str (cut2 s t), .bool (cutB s t)], []) else none | _ => none, need := ["internal/bytealg.MaxLen"] }
attribute [go_sem] spCut
theorem spCut_in {ins : List V} {r : V} {outs : List V} (h : spCut.run ins = some (r, outs)) : ∃ (s : (List UInt8)) (t : (List UInt8)), ins = [.str s, .str t] ∧ (s.length ≤ 4194304 ∧ t.length ≤ 4194304) ∧ .tup [.str (cut1 s t), .str (cut2 s t), .bool (cutB s t)] = r ∧ outs = [] := by
  unfold spCut at h
  simp only at h
  split at h
  · rename_i s t
    split at h
    case isFalse => cases h
    rename_i hc
    simp only [Option.some.injEq, Prod.mk.injEq] at h
    obtain ⟨h1, h2⟩ := h
    exact ⟨s, t, rfl, hc, h1, h2.symm⟩
  · cases h
def T_internal_stringslite_Cut : Hints := ⟨lk [(3, [])], lk [], lk [(0, [0, 1]), (1, [0, 1, 7]), (2, [0, 1, 7, 12]), (3, [4, 5, 6]), (4, [4, 5, 6])], lk []⟩
noncomputable def Phi_internal_stringslite_Cut : Tab := lk [(129, spIndex)]
attribute [go_sem] T_internal_stringslite_Cut Phi_internal_stringslite_Cut
theorem phi_internal_stringslite_Cut : ∀ f sp, Phi_internal_stringslite_Cut f = some sp → FnOk Tryz.prog f sp ∧ ∀ n ∈ sp.need, n ∈ (["internal/bytealg.MaxLen"] : List String) := phi_cons ok_internal_stringslite_Index (fun n (h : n ∈ (["internal/bytealg.MaxLen"] : List String)) => by simp only [List.mem_cons, List.not_mem_nil, or_false] at h; rcases h with rfl <;> simp) (phi_nil)
theorem ok_internal_stringslite_Cut : FnOk Tryz.prog 118 spCut := by
  refine fn_ok (Φ := Phi_internal_stringslite_Cut) (T := T_internal_stringslite_Cut) phi_internal_stringslite_Cut mixed Tryz.func118 rfl rfl rfl (by decide) ?_
  intro ins r outs hr hl
  clear hl
  have hs := spCut_in hr
  clear hr
  obtain ⟨s, t, rfl, hc, hr, rfl⟩ := hs
  simp only [spCut, Tryz.f118, Go.VM.initS]
  obtain ⟨hs, ht⟩ := hc
  have h1 : s.length < 4294967281 := by omega
  by_cases h : 0 ≤ Lib.index s t
  · have hr2 := index_room h
    obtain ⟨k, hk⟩ : ∃ k : Nat, Lib.index s t = k := ⟨(Lib.index s t).toNat, by omega⟩
    rw [hk] at hr2
    have hB : cutB s t = true := by simp [cutB, h]
    simp only [cut1, cut2, hB, if_true, hk, Int.toNat_natCast] at hr
    have g1 : (0 : Int) ≤ k := by omega
    have g2 : k ≤ s.length := by omega
    have g3 : IntKind.i64.wrap ((k : Int) + (t.length : Int)) = ((k + t.length : Nat) : Int) := (wrap64 (by omega) (by omega)).trans (by omega)
    have g4 : (0 : Int) ≤ ((k + t.length : Nat) : Int) := by omega
    have g5 : k + t.length ≤ s.length := by omega
    simp only [h1, hk, g1, g2, g3, g4, g5, Int.toNat_natCast, List.take_length, List.drop_zero, Nat.zero_le, Nat.le_refl, go_sem]
    repeat' ((first | ((first | apply qa | apply qb | apply qc | apply qd | apply qe | apply qf | apply qg | apply qh | apply qi | apply qj | apply qk) <;> intro hp) | ((first | refine ql rfl rfl (by decide +kernel) ?_ | refine qm _ rfl rfl (by decide +kernel) ?_) <;> have hp := True.intro)) <;> simp only [hp, h1, hk, g1, g2, g3, g4, g5, Int.toNat_natCast, List.take_length, List.drop_zero, Nat.zero_le, Nat.le_refl, go_sem])
    simp only [fin_mk, finV, resL, resV1, resIn, endA, listIn, Option.some_or, Option.none_or, oneOrTup, go_sem]
    rw [← hr]
  · have hB : cutB s t = false := by simp [cutB]; omega
    simp only [cut1, cut2, hB, Bool.false_eq_true, if_false] at hr
    simp only [h1, h, go_sem]
    repeat' ((first | ((first | apply qa | apply qb | apply qc | apply qd | apply qe | apply qf | apply qg | apply qh | apply qi | apply qj | apply qk) <;> intro hp) | ((first | refine ql rfl rfl (by decide +kernel) ?_ | refine qm _ rfl rfl (by decide +kernel) ?_) <;> have hp := True.intro)) <;> simp only [hp, h1, h, go_sem])
    simp only [fin_mk, finV, resL, resV1, resIn, endA, listIn, Option.some_or, Option.none_or, oneOrTup, go_sem]
    rw [← hr]
def T_strings_Cut : Hints := ⟨lk [], lk [], lk [(0, [0, 1]), (1, [4, 5, 6])], lk []⟩
noncomputable def Phi_strings_Cut : Tab := lk [(118, spCut)]
attribute [go_sem] T_strings_Cut Phi_strings_Cut
theorem phi_strings_Cut : ∀ f sp, Phi_strings_Cut f = some sp → FnOk Tryz.prog f sp ∧ ∀ n ∈ sp.need, n ∈ (["internal/bytealg.MaxLen"] : List String) := phi_cons ok_internal_stringslite_Cut (fun n (h : n ∈ (["internal/bytealg.MaxLen"] : List String)) => by simp only [List.mem_cons, List.not_mem_nil, or_false] at h; rcases h with rfl <;> simp) (phi_nil)
theorem ok_strings_Cut : FnOk Tryz.prog 78 spCut := by
  refine fn_ok (Φ := Phi_strings_Cut) (T := T_strings_Cut) phi_strings_Cut mixed Tryz.func78 rfl rfl rfl (by decide) ?_
  intro ins r outs hr hl
  clear hl
  have hs := spCut_in hr
  clear hr
  obtain ⟨s, t, rfl, hc, hr, rfl⟩ := hs
  simp only [spCut, Tryz.f78, Go.VM.initS]
  obtain ⟨hs, ht⟩ := hc
  simp only [hs, ht, go_sem]
  repeat' ((first | apply qa | apply qb | apply qc | apply qd | apply qe | apply qf | apply qg | apply qh | apply qi | apply qj | apply qk) <;> intro hp <;> simp only [hp, hs, ht, go_sem])
  simp only [fin_mk, finV, resL, resV1, resIn, endA, listIn, Option.some_or, Option.none_or, oneOrTup, go_sem]
  rw [← hr]
theorem index_one (c : UInt8) (s : List UInt8) : Lib.index s [c] = if c ∈ s then ((s.takeWhile (notB c)).length : Int) else -1 := by
  induction s with
  | nil => rfl
  | cons b s ih =>
    by_cases hb : b = c
    · subst hb
      simp [Lib.index, List.isPrefixOf, List.takeWhile_cons, notB]
    · have hp : [c].isPrefixOf (b :: s) = false := by simp [List.isPrefixOf]; exact fun h => hb h.symm
      have hn : notB c b = true := by simpa [notB] using hb
      rw [Lib.index, hp, ih, List.takeWhile_cons, hn]
      by_cases hm : c ∈ s
      · have : ((((s.takeWhile (notB c)).length : Nat) : Int) == -1) = false := beq_eq_false_iff_ne.2 (by omega)
        simp [hm, this]
      · simp [hm, Ne.symm hb]
theorem takeWhile_take {α : Type} (p : α → Bool) (s : List α) : s.take (s.takeWhile p).length = s.takeWhile p := by
  induction s with
  | nil => rfl
  | cons b s ih =>
    rw [List.takeWhile_cons]
    split
    · rw [List.length_cons, List.take_succ_cons, ih]
    · rfl
def first (p : List UInt8) : List UInt8 := p.takeWhile (notB 58)
def second (p : List UInt8) : List UInt8 := p.drop ((first p).length + 1)
def partB (p : List UInt8) : Bool := if 58 ∈ p then numB (first p) && numB (second p) else numB p
def partLo (p : List UInt8) (last : Int) : Int := if 58 ∈ p then min (numN (first p) last) (numN (second p) last) else numN p last
def partHi (p : List UInt8) (last : Int) : Int := if 58 ∈ p then max (numN (first p) last) (numN (second p) last) else numN p last
theorem part_in {p : List UInt8} {last : Int} (hl : 1 ≤ last ∧ last ≤ 9999) (h : partB p = true) : 1 ≤ partLo p last ∧ partLo p last ≤ partHi p last ∧ partHi p last ≤ 9999 := by
  unfold partB at h
  unfold partLo partHi
  split
  · rename_i hm
    rw [if_pos hm, Bool.and_eq_true] at h
    have h1 := numN_in hl h.1
    have h2 := numN_in hl h.2
    omega
  · rename_i hm
    rw [if_neg hm] at h
    have h1 := numN_in hl h
    omega
open Classical in
noncomputable def spPart : VM.Spec := { modes := [.rd, .rd], run := fun | [.str t, .int .i64 last] => if t.length ≤ 4194304 then some (.tup [.int .i64 (partLo t last), .int .i64 (partHi t last), .bool (partB t)], []) else none | _ => none, need := [] }
attribute [go_sem] spPart
theorem spPart_in {ins : List V} {r : V} {outs : List V} (h : spPart.run ins = some (r, outs)) : ∃ (t : (List UInt8)) (last : Int), ins = [.str t, .int .i64 last] ∧ (t.length ≤ 4194304) ∧ .tup [.int .i64 (partLo t last), .int .i64 (partHi t last), .bool (partB t)] = r ∧ outs = [] := by
  unfold spPart at h
  simp only at h
  split at h
  · rename_i t last
    split at h
    case isFalse => cases h
    rename_i hc
    simp only [Option.some.injEq, Prod.mk.injEq] at h
    obtain ⟨h1, h2⟩ := h
    exact ⟨t, last, rfl, hc, h1, h2.symm⟩
  · cases h
def T_spec_l05Part : Hints := ⟨lk [], lk [(2, [0, 1, 7])], lk [(0, [0, 1]), (1, [0, 1, 7]), (2, [0, 1, 7, 17]), (4, [0, 1, 7, 23]), (5, [0, 1, 7, 8, 9]), (6, [8, 9, 10, 11]), (7, [8, 9, 10, 11, 43]), (8, [8, 9, 10, 11]), (9, [4, 5, 6]), (3, [0, 1, 7]), (10, [12, 13]), (11, [4, 5, 6])], lk []⟩
noncomputable def Phi_spec_l05Part : Tab := lk [(122, spNum)]
attribute [go_sem] T_spec_l05Part Phi_spec_l05Part
theorem phi_spec_l05Part : ∀ f sp, Phi_spec_l05Part f = some sp → FnOk Tryz.prog f sp ∧ ∀ n ∈ sp.need, n ∈ ([] : List String) := phi_cons ok_spec_l05Num (n0 rfl) (phi_nil)
theorem ok_spec_l05Part : FnOk Tryz.prog 87 spPart := by
  refine fn_ok (Φ := Phi_spec_l05Part) (T := T_spec_l05Part) phi_spec_l05Part mixed Tryz.func87 rfl rfl rfl (by decide) ?_
  intro ins r outs hr hl
  clear hl
  have hs := spPart_in hr
  clear hr
  obtain ⟨t, last, rfl, hc, hr, rfl⟩ := hs
  simp only [spPart, Tryz.f87, Go.VM.initS]
  simp only [go_sem]
  repeat' ((first | apply qa | apply qb | apply qc | apply qd | apply qe | apply qf | apply qg | apply qh | apply qi | apply qj | apply qk) <;> intro hp <;> simp only [hp, go_sem])
  refine loop_go (fun i : Nat => [(7, .int .i64 (i : Int))]) (fun _ => []) (fun i => t.length - i) (fun i => i ≤ t.length ∧ ∀ x ∈ t.take i, notB 58 x = true) 0 ⟨Nat.zero_le _, by simp⟩ rfl rfl ?_
  intro i ⟨hi, ha⟩ ih
  rcases Nat.lt_or_ge i t.length with h | h
  · have g1 : (i : Int) < t.length := by omega
    have g2 : (0 : Int) ≤ i := by omega
    have g3 : t[i]? = some t[i] := List.getElem?_eq_getElem h
    have g4 : i ≤ t.length := by omega
    have g5 := wrap_succ h (by omega)
    have g6 : (0 : Int) ≤ ((i + 1 : Nat) : Int) := by omega
    have g7 : i + 1 ≤ t.length := by omega
    cases hb : ((t[i].toNat : Int) == 58) with
    | true =>
      have h58 : t[i] = 58 := by
        have h1 : t[i].toNat = (58 : UInt8).toNat := by simp only [beq_iff_eq] at hb; show t[i].toNat = 58; omega
        exact UInt8.toNat_inj.1 h1
      have hm : (58 : UInt8) ∈ t := by rw [← h58]; exact List.getElem_mem h
      have e1 : first t = t.take i := takeWhile_at ha h (by rw [h58]; rfl)
      have e2 : second t = t.drop (i + 1) := by rw [second, e1, List.length_take, Nat.min_eq_left (by omega)]
      have l1 : (t.take i).length ≤ 4194304 := by rw [List.length_take]; omega
      have l2 : (t.drop (i + 1)).length ≤ 4194304 := by rw [List.length_drop]; omega
      simp only [partLo, partHi, partB, if_pos hm, e1, e2] at hr
      generalize hX : numN (t.take i) last = X at *
      generalize hY : numN (t.drop (i + 1)) last = Y at *
      generalize hA : numB (t.take i) = A at *
      generalize hB : numB (t.drop (i + 1)) = B at *
      by_cases hlt : Y < X
      · rw [Int.min_eq_right (by omega), Int.max_eq_left (by omega)] at hr
        simp only [g1, g2, g3, g4, g5, g6, g7, hb, l1, l2, hX, hY, hA, hB, hlt, List.take_length, List.drop_zero, Nat.zero_le, Nat.le_refl, go_sem]
        repeat' ((first | apply qa | apply qb | apply qc | apply qd | apply qe | apply qf | apply qg | apply qh | apply qi | apply qj | apply qk) <;> intro hp <;> simp only [hp, g1, g2, g3, g4, g5, g6, g7, hb, l1, l2, hX, hY, hA, hB, hlt, List.take_length, List.drop_zero, Nat.zero_le, Nat.le_refl, go_sem])
        all_goals (simp only [fin_mk, finV, resL, resV1, resIn, endA, listIn, Option.some_or, Option.none_or, oneOrTup, go_sem]; rw [← hr])
        all_goals (rw [hp]; rfl)
      · rw [Int.min_eq_left (by omega), Int.max_eq_right (by omega)] at hr
        simp only [g1, g2, g3, g4, g5, g6, g7, hb, l1, l2, hX, hY, hA, hB, hlt, List.take_length, List.drop_zero, Nat.zero_le, Nat.le_refl, go_sem]
        repeat' ((first | apply qa | apply qb | apply qc | apply qd | apply qe | apply qf | apply qg | apply qh | apply qi | apply qj | apply qk) <;> intro hp <;> simp only [hp, g1, g2, g3, g4, g5, g6, g7, hb, l1, l2, hX, hY, hA, hB, hlt, List.take_length, List.drop_zero, Nat.zero_le, Nat.le_refl, go_sem])
        all_goals (simp only [fin_mk, finV, resL, resV1, resIn, endA, listIn, Option.some_or, Option.none_or, oneOrTup, go_sem]; rw [← hr])
        all_goals (rw [hp]; rfl)
    | false =>
      have ih' := ih (i + 1) ⟨h, by
        rw [take_succ' h]
        intro x hx
        rcases List.mem_append.1 hx with hx | hx
        · exact ha x hx
        · simp only [List.mem_singleton] at hx
          subst hx
          unfold notB
          rw [bne_iff_ne]
          intro e
          rw [e] at hb
          exact absurd hb (by decide)⟩ (by omega)
      simp only [g1, g2, g3, g5, hb, go_sem]
      repeat' ((first | apply qa | apply qb | apply qc | apply qd | apply qe | apply qf | apply qg | apply qh | apply qi | apply qj | apply qk) <;> intro hp <;> simp only [hp, g1, g2, g3, g5, hb, go_sem])
      exact ih'
  · have g1 : ¬ (i : Int) < t.length := by omega
    rw [List.take_of_length_le h] at ha
    have hm : ¬ (58 : UInt8) ∈ t := fun hm => by have := ha _ hm; simp [notB] at this
    simp only [partLo, partHi, partB, if_neg hm] at hr
    simp only [hc, g1, go_sem]
    repeat' ((first | apply qa | apply qb | apply qc | apply qd | apply qe | apply qf | apply qg | apply qh | apply qi | apply qj | apply qk) <;> intro hp <;> simp only [hp, hc, g1, go_sem])
    simp only [fin_mk, finV, resL, resV1, resIn, endA, listIn, Option.some_or, Option.none_or, oneOrTup, go_sem]
    rw [← hr]
def rangesOf (last : Int) : List (List UInt8) → Option (List Range)
  | [] => some []
  | p :: ps => if partB p = true then (rangesOf last ps).map fun l => ⟨partLo p last, partHi p last⟩ :: l else none
theorem rangesOf_append (last : Int) : ∀ (a b : List (List UInt8)), rangesOf last (a ++ b) = (rangesOf last a).bind fun l => (rangesOf last b).map (l ++ ·)
  | [], b => by simp [rangesOf]
  | p :: a, b => by
    simp only [List.cons_append, rangesOf]
    split
    · rw [rangesOf_append last a b]
      cases rangesOf last a with
      | none => rfl
      | some l => cases rangesOf last b <;> simp
    · rfl
theorem rangesOf_in {last : Int} (hl : 1 ≤ last ∧ last ≤ 9999) : ∀ {ps : List (List UInt8)} {l : List Range}, rangesOf last ps = some l → (∀ r ∈ l, 1 ≤ r.Lo ∧ r.Lo ≤ r.Hi ∧ r.Hi ≤ 9999) ∧ l.length = ps.length
  | [], l, h => by simp only [rangesOf, Option.some.injEq] at h; subst h; simp
  | p :: ps, l, h => by
    simp only [rangesOf] at h
    split at h
    · rename_i hp
      simp only [Option.map_eq_some_iff] at h
      obtain ⟨m, hm, rfl⟩ := h
      obtain ⟨h1, h2⟩ := rangesOf_in hl hm
      refine ⟨fun r hr => ?_, by simp [h2]⟩
      rcases List.mem_cons.1 hr with rfl | hr
      · exact part_in hl hp
      · exact h1 r hr
    · cases h
def readOk (t : List UInt8) (last : Int) : Bool := within last 1 9999 && (match rangesOf last (splitOn 44 t) with | some l => decide ((setR l).length ≤ 40) | none => false)
def readSet (t : List UInt8) (last : Int) : List Range := if readOk t last = true then (match rangesOf last (splitOn 44 t) with | some l => setR l | none => []) else []
theorem cutB_one (p : List UInt8) : cutB p [58] = decide (58 ∈ p) := by
  rw [cutB, index_one, Bool.eq_iff_iff]
  split <;> simp_all
theorem cut1_one (p : List UInt8) : cut1 p [58] = first p := by
  rw [cut1, cutB_one, index_one]
  by_cases h : (58 : UInt8) ∈ p
  · simp only [h, decide_true, if_true, Int.toNat_natCast]
    exact takeWhile_take _ _
  · simp only [h, decide_false, Bool.false_eq_true, if_false]
    exact (takeWhile_all fun x hx => by simp only [notB, bne_iff_ne]; rintro rfl; exact h hx).symm
theorem cut2_one (p : List UInt8) : cut2 p [58] = if 58 ∈ p then second p else [] := by
  rw [cut2, cutB_one, index_one]
  by_cases h : (58 : UInt8) ∈ p
  · simp only [h, decide_true, if_true, Int.toNat_natCast]; rfl
  · simp only [h, decide_false, Bool.false_eq_true, if_false]
theorem first_none {p : List UInt8} (h : ¬ (58 : UInt8) ∈ p) : first p = p := takeWhile_all fun x hx => by simp only [notB, bne_iff_ne]; rintro rfl; exact h hx
open Classical in
noncomputable def spReadSet : VM.Spec := { modes := [.rd, .rd], run := fun | [.str t, .int .i64 last] => if t.length ≤ 4194304 then some (.tup [.lst 2 ((readSet t last).map Range.enc), .bool (readOk t last)], []) else none | _ => none, need := ["internal/bytealg.MaxLen"] }
attribute [go_sem] spReadSet
theorem spReadSet_in {ins : List V} {r : V} {outs : List V} (h : spReadSet.run ins = some (r, outs)) : ∃ (t : (List UInt8)) (last : Int), ins = [.str t, .int .i64 last] ∧ (t.length ≤ 4194304) ∧ .tup [.lst 2 ((readSet t last).map Range.enc), .bool (readOk t last)] = r ∧ outs = [] := by
  unfold spReadSet at h
  simp only at h
  split at h
  · rename_i t last
    split at h
    case isFalse => cases h
    rename_i hc
    simp only [Option.some.injEq, Prod.mk.injEq] at h
    obtain ⟨h1, h2⟩ := h
    exact ⟨t, last, rfl, hc, h1, h2.symm⟩
  · cases h
def T_impl_ReadSet : Hints := ⟨lk [], lk [(5, [1, 6, 24, 25, 26])], lk [(0, [0, 1]), (1, [0, 1, 21]), (2, [4, 5]), (3, [0, 1, 6]), (4, [1, 6, 24, 25, 26]), (5, [1, 6, 24, 25, 26, 27]), (6, [1, 6, 8, 24, 25, 26]), (7, [1, 6, 9, 10, 11, 24, 25, 26]), (8, [1, 6, 10, 11, 12, 13, 24, 25, 26]), (9, [1, 6, 10, 11, 12, 13, 14, 24, 25, 26]), (10, [1, 6, 10, 12, 13, 14, 24, 25, 26, 43]), (11, [1, 6, 12, 13, 15, 16, 24, 25, 26]), (12, [1, 6, 12, 13, 14, 24, 25, 26]), (13, [1, 6, 12, 14, 24, 25, 26, 56]), (14, [4, 5]), (15, [1, 6, 24, 25, 26]), (16, [1, 6, 24, 25, 26]), (17, [17, 18]), (18, [17, 74]), (19, [4, 5]), (20, [4, 5])], lk []⟩
noncomputable def Phi_impl_ReadSet : Tab := lk [(42, spUid), (104, spSplit), (78, spCut), (105, spReadUid), (106, spSetOfRead), (107, spHasRead)]
attribute [go_sem] T_impl_ReadSet Phi_impl_ReadSet
theorem phi_impl_ReadSet : ∀ f sp, Phi_impl_ReadSet f = some sp → FnOk Tryz.prog f sp ∧ ∀ n ∈ sp.need, n ∈ (["internal/bytealg.MaxLen"] : List String) := phi_cons ok_impl_isUid (n0 rfl) (phi_cons ok_strings_Split (fun n (h : n ∈ (["internal/bytealg.MaxLen"] : List String)) => by simp only [List.mem_cons, List.not_mem_nil, or_false] at h; rcases h with rfl <;> simp) (phi_cons ok_strings_Cut (fun n (h : n ∈ (["internal/bytealg.MaxLen"] : List String)) => by simp only [List.mem_cons, List.not_mem_nil, or_false] at h; rcases h with rfl <;> simp) (phi_cons ok_impl_readUid (n0 rfl) (phi_cons ok_impl_setOf (n0 rfl) (phi_cons ok_impl_ReadSet_1 (n0 rfl) (phi_nil))))))
theorem ok_impl_ReadSet : FnOk Tryz.prog 63 spReadSet := by
  refine fn_ok (Φ := Phi_impl_ReadSet) (T := T_impl_ReadSet) phi_impl_ReadSet mixed Tryz.func63 rfl rfl rfl (by decide) ?_
  intro ins r outs hr hl
  clear hl
  have hs := spReadSet_in hr
  clear hr
  obtain ⟨t, last, rfl, hc, hr, rfl⟩ := hs
  simp only [spReadSet, Tryz.f63, Go.VM.initS]
  cases hw : within last 1 9999 with
  | false =>
    simp only [hw, go_sem]
    repeat' ((first | apply qa | apply qb | apply qc | apply qd | apply qe | apply qf | apply qg | apply qh | apply qi | apply qj | apply qk) <;> intro hp <;> simp only [hp, hw, go_sem])
    simp only [fin_mk, finV, resL, resV1, resIn, endA, listIn, Option.some_or, Option.none_or, oneOrTup, go_sem]
    rw [← hr]
    simp only [readSet, readOk, hw, Bool.false_and, Bool.false_eq_true, if_false]
    rfl
  | true =>
    have hl : 1 ≤ last ∧ last ≤ 9999 := by simpa only [within, Bool.and_eq_true, decide_eq_true_eq] using hw
    have b1 : t.length < 4294967281 := by omega
    have hS := split_eq 44 t
    have hP1 := splitOn_len 44 t
    have hP2 := splitOn_mem 44 t
    have hro : readOk t last = (match rangesOf last (splitOn 44 t) with | some l => decide ((setR l).length ≤ 40) | none => false) := by rw [readOk, hw, Bool.true_and]
    have hrs : readSet t last = if readOk t last = true then (match rangesOf last (splitOn 44 t) with | some l => setR l | none => []) else [] := rfl
    rw [hrs, hro] at hr
    clear hrs hro
    simp only [hw, b1, hS, go_sem]
    repeat' ((first | apply qa | apply qb | apply qc | apply qd | apply qe | apply qf | apply qg | apply qh | apply qi | apply qj | apply qk) <;> intro hp <;> simp only [hp, hw, b1, hS, go_sem])
    generalize splitOn 44 t = P at *
    clear hS
    refine loop_go (fun q : Nat × List Range => [(26, .int .i64 (q.1 : Int))]) (fun q => [(2, ⟨.arr, 2, q.2.map Range.enc⟩)]) (fun q => P.length - q.1) (fun q => q.1 ≤ P.length ∧ rangesOf last (P.take q.1) = some q.2) (0, []) ⟨Nat.zero_le _, rfl⟩ rfl rfl ?_
    rintro ⟨i, L⟩ ⟨hi, hL⟩ ih
    simp only at hi hL ih
    have hLl : L.length = i := by rw [(rangesOf_in hl hL).2, List.length_take]; omega
    rcases Nat.lt_or_ge i P.length with h | h
    · have g1 : (i : Int) < P.length := by omega
      have g2 : (0 : Int) ≤ i := by omega
      have g3 : P[i]? = some P[i] := List.getElem?_eq_getElem h
      have g5 := wrap_succ h (by omega)
      have hx := hP2 _ (List.getElem_mem h)
      have hstep : rangesOf last (P.take (i + 1)) = if partB P[i] = true then some (L ++ [⟨partLo P[i] last, partHi P[i] last⟩]) else none := by
        rw [take_succ' h, rangesOf_append, hL, Option.bind_some, rangesOf]
        split <;> simp [rangesOf]
      have hbad : partB P[i] = false → rangesOf last P = none := fun hf => by
        rw [hf, if_neg (by simp)] at hstep
        have := rangesOf_append last (P.take (i + 1)) (P.drop (i + 1))
        rw [List.take_append_drop, hstep] at this
        exact this
      generalize hp : P[i] = p at *
      have c1 : p.length ≤ 4194304 := by omega
      have c2 : (first p).length ≤ 4194304 := Nat.le_trans (List.takeWhile_sublist (l := p) (notB 58)).length_le c1
      have c3 : (second p).length ≤ 4194304 := by rw [second, List.length_drop]; omega
      have f1 := cut1_one p
      have f2 := cut2_one p
      have f3 := cutB_one p
      have b4 : (i + 1) * 16 ≤ 140737488355328 := by omega
      have b5 : i ≤ 9223372036854775806 := by omega
      by_cases hm : (58 : UInt8) ∈ p
      · rw [if_pos hm] at f2
        rw [decide_eq_true hm] at f3
        have hPB : partB p = (numB (first p) && numB (second p)) := by rw [partB, if_pos hm]
        have hLo : partLo p last = min (numN (first p) last) (numN (second p) last) := by rw [partLo, if_pos hm]
        have hHi : partHi p last = max (numN (first p) last) (numN (second p) last) := by rw [partHi, if_pos hm]
        rw [hPB, hLo, hHi] at hstep
        rw [hPB] at hbad
        have u1 := uidB_eq (first p)
        have u2 := uidB_eq (second p)
        cases k1 : numB (first p) with
        | false =>
          rw [k1] at u1 hbad
          rw [hbad rfl] at hr
          simp only [g1, g2, g3, c1, c2, c3, f1, f2, f3, u1, u2, go_sem]
          repeat' ((first | apply qa | apply qb | apply qc | apply qd | apply qe | apply qf | apply qg | apply qh | apply qi | apply qj | apply qk) <;> intro hp <;> simp only [hp, g1, g2, g3, c1, c2, c3, f1, f2, f3, u1, u2, go_sem])
          all_goals (simp only [fin_mk, finV, resL, resV1, resIn, endA, listIn, Option.some_or, Option.none_or, oneOrTup, go_sem]; rw [← hr])
          all_goals rfl
        | true =>
          cases k2 : numB (second p) with
          | false =>
            rw [k1] at u1 hbad
            rw [k2] at u2 hbad
            rw [hbad rfl] at hr
            simp only [g1, g2, g3, c1, c2, c3, f1, f2, f3, u1, u2, go_sem]
            repeat' ((first | apply qa | apply qb | apply qc | apply qd | apply qe | apply qf | apply qg | apply qh | apply qi | apply qj | apply qk) <;> intro hp <;> simp only [hp, g1, g2, g3, c1, c2, c3, f1, f2, f3, u1, u2, go_sem])
            all_goals (simp only [fin_mk, finV, resL, resV1, resIn, endA, listIn, Option.some_or, Option.none_or, oneOrTup, go_sem]; rw [← hr])
            all_goals rfl
          | true =>
            have v1 := uidN_eq (last := last) k1
            have v2 := uidN_eq (last := last) k2
            rw [k1] at u1
            rw [k2] at u2
            rw [k1, k2] at hstep
            simp only [Bool.and_self, if_true] at hstep
            have ih' := ih (i + 1, _) ⟨h, hstep⟩ (by simp only; omega)
            simp only [List.map_append, List.map_cons, List.map_nil] at ih'
            clear ih hbad
            generalize hX : numN (first p) last = X at *
            generalize hY : numN (second p) last = Y at *
            have m1 : (if Y < X then Y else X) = min X Y := by split <;> omega
            have m2 : (if X < Y then Y else X) = max X Y := by split <;> omega
            simp only [g1, g2, g3, g5, c1, c2, c3, f1, f2, f3, u1, u2, v1, v2, m1, m2, hLl, b4, b5, go_sem]
            repeat' ((first | apply qa | apply qb | apply qc | apply qd | apply qe | apply qf | apply qg | apply qh | apply qi | apply qj | apply qk) <;> intro hp <;> simp only [hp, g1, g2, g3, g5, c1, c2, c3, f1, f2, f3, u1, u2, v1, v2, m1, m2, hLl, b4, b5, go_sem])
            all_goals first | exact ih' | (clear ih'; omega)
      · rw [if_neg hm] at f2
        rw [decide_eq_false hm] at f3
        rw [first_none hm] at f1
        have hPB : partB p = numB p := by rw [partB, if_neg hm]
        have hLo : partLo p last = numN p last := by rw [partLo, if_neg hm]
        have hHi : partHi p last = numN p last := by rw [partHi, if_neg hm]
        rw [hPB, hLo, hHi] at hstep
        rw [hPB] at hbad
        have u1 := uidB_eq p
        cases k1 : numB p with
        | false =>
          rw [k1] at u1 hbad
          rw [hbad rfl] at hr
          simp only [g1, g2, g3, c1, c2, c3, f1, f2, f3, u1, go_sem]
          repeat' ((first | apply qa | apply qb | apply qc | apply qd | apply qe | apply qf | apply qg | apply qh | apply qi | apply qj | apply qk) <;> intro hp <;> simp only [hp, g1, g2, g3, c1, c2, c3, f1, f2, f3, u1, go_sem])
          all_goals (simp only [fin_mk, finV, resL, resV1, resIn, endA, listIn, Option.some_or, Option.none_or, oneOrTup, go_sem]; rw [← hr])
          all_goals rfl
        | true =>
          have v1 := uidN_eq (last := last) k1
          rw [k1] at u1
          rw [k1, if_pos rfl] at hstep
          have ih' := ih (i + 1, _) ⟨h, hstep⟩ (by simp only; omega)
          simp only [List.map_append, List.map_cons, List.map_nil] at ih'
          clear ih hbad
          generalize hX : numN p last = X at *
          have m1 : (if X < X then X else X) = X := by split <;> rfl
          simp only [g1, g2, g3, g5, c1, c2, c3, f1, f2, f3, u1, v1, m1, hLl, b4, b5, go_sem]
          repeat' ((first | apply qa | apply qb | apply qc | apply qd | apply qe | apply qf | apply qg | apply qh | apply qi | apply qj | apply qk) <;> intro hp <;> simp only [hp, g1, g2, g3, g5, c1, c2, c3, f1, f2, f3, u1, v1, m1, hLl, b4, b5, go_sem])
          all_goals first | exact ih' | (clear ih'; omega)
    · have g1 : ¬ (i : Int) < P.length := by omega
      rw [List.take_of_length_le h] at hL
      rw [hL] at hr
      simp only [decide_eq_true_eq] at hr
      have hLl2 : L.length ≤ 8388608 := by omega
      by_cases hk : (setR L).length ≤ 40
      · rw [if_pos hk, decide_eq_true hk] at hr
        have d1 : decide ((setR L).length ≤ 40) = true := decide_eq_true hk
        simp only [g1, hLl2, hk, d1, go_sem]
        repeat' ((first | apply qa | apply qb | apply qc | apply qd | apply qe | apply qf | apply qg | apply qh | apply qi | apply qj | apply qk) <;> intro hp <;> simp only [hp, g1, hLl2, hk, d1, go_sem])
        simp only [fin_mk, finV, resL, resV1, resIn, endA, listIn, Option.some_or, Option.none_or, oneOrTup, go_sem]
        rw [← hr]
      · rw [if_neg hk, decide_eq_false hk] at hr
        have d1 : decide ((setR L).length ≤ 40) = false := decide_eq_false hk
        simp only [g1, hLl2, hk, d1, go_sem]
        repeat' ((first | apply qa | apply qb | apply qc | apply qd | apply qe | apply qf | apply qg | apply qh | apply qi | apply qj | apply qk) <;> intro hp <;> simp only [hp, g1, hLl2, hk, d1, go_sem])
        simp only [fin_mk, finV, resL, resV1, resIn, endA, listIn, Option.some_or, Option.none_or, oneOrTup, go_sem]
        rw [← hr]
        rfl
end Go.Proofs.YtonjbbfgdloljaaGreatDoor.L

namespace Go.Proofs.YtonjbbfgdloljaaGreatDoor.L
open Go Go.VM
set_option maxRecDepth 100000
set_option maxHeartbeats 4000000
set_option linter.unusedSimpArgs false
set_option linter.unusedVariables false
theorem splitOn_none {c : UInt8} : ∀ {a : List UInt8}, (∀ x ∈ a, notB c x = true) → splitOn c a = [a]
  | [], _ => rfl
  | x :: a, h => by
    have hx : ¬ x = c := by simpa [notB] using h x (by simp)
    rw [splitOn, if_neg hx, splitOn_none fun y hy => h y (by simp [hy])]; rfl
theorem splitOn_app {c : UInt8} (r : List UInt8) : ∀ {a : List UInt8}, (∀ x ∈ a, notB c x = true) → splitOn c (a ++ c :: r) = a :: splitOn c r
  | [], _ => by rw [List.nil_append, splitOn, if_pos rfl]
  | x :: a, h => by
    have hx : ¬ x = c := by simpa [notB] using h x (by simp)
    rw [List.cons_append, splitOn, if_neg hx, splitOn_app r fun y hy => h y (by simp [hy])]; rfl
theorem splitOn_at {c : UInt8} {t : List UInt8} {b i : Nat} (hb : b ≤ i) (h : i < t.length) (hc : t[i] = c) (ha : ∀ x ∈ (t.take i).drop b, notB c x = true) : splitOn c (t.drop b) = (t.take i).drop b :: splitOn c (t.drop (i + 1)) := by
  have e : t.drop b = (t.take i).drop b ++ c :: t.drop (i + 1) := by
    have h1 : t = t.take i ++ c :: t.drop (i + 1) := by
      rw [← hc]; simp
    have h2 : b ≤ (t.take i).length := by rw [List.length_take]; omega
    conv => lhs; rw [h1]
    rw [List.drop_append_of_le_length h2]
  rw [e, splitOn_app _ ha]
theorem setR_gen {R : List Range} {N : Nat} (hN : N < 10001) : scan ((nums N).filter (markB (bitsOf (memN R)))) = scan ((nums N).filter fun n => hasR R n) := by
  congr 1
  apply List.filter_congr
  intro x hx
  rw [nums_mem] at hx
  rw [markB, List.getD_eq_getElem?_getD, bitsOf_get _ (by omega), Option.getD_some, memN]
  congr 1
  omega
theorem setR_bits {R : List Range} : scanB (bitsOf (memN R)) = setR R := setR_gen (by decide)
theorem memN_zero {R : List Range} (h : ∀ r ∈ R, 1 ≤ r.Lo ∧ r.Lo ≤ r.Hi ∧ r.Hi ≤ 9999) : (bitsOf (memN R)).getD 0 false = false := by
  rw [List.getD_eq_getElem?_getD, bitsOf_get _ (by omega), Option.getD_some, memN, hasR, List.any_eq_false]
  intro r hr
  have := h r hr
  simp; omega
theorem setR_ok (R : List Range) : setOk (setR R) = decide ((setR R).length ≤ 40) := by
  unfold setR
  rw [setOk_canon (scan_canon _ _ ((nums_asc 9999).filter _))]
def T_spec_ReadSet : Hints := ⟨lk [], lk [(7, [0, 1, 6, 7, 8, 9]), (14, [0, 1, 6, 7, 9, 11, 13])], lk [(0, [0, 1]), (1, [0, 1, 6]), (2, [0, 1, 6, 17]), (3, [4, 5]), (4, [0, 1, 6, 7]), (5, [0, 1, 6, 7, 8]), (6, [0, 1, 6, 7, 8, 9]), (7, [0, 1, 6, 7, 8, 9, 23]), (9, [0, 1, 6, 7, 8, 9, 35]), (10, [0, 1, 6, 7, 9, 10, 11, 12]), (11, [0, 1, 6, 7, 9, 10, 11, 47]), (12, [4, 5]), (13, [0, 1, 6, 7, 9, 11, 13]), (14, [0, 1, 6, 7, 9, 11, 13, 52]), (16, [0, 1, 6, 7, 9, 11, 13]), (15, [0, 1, 6, 7, 9, 11, 13]), (17, [0, 1, 6, 7, 8, 9]), (8, [0, 1, 6, 7, 8, 9]), (18, [4, 5])], lk []⟩
noncomputable def Phi_spec_ReadSet : Tab := lk [(38, spWithin), (87, spPart), (88, spScanBits)]
attribute [go_sem] T_spec_ReadSet Phi_spec_ReadSet
theorem phi_spec_ReadSet : ∀ f sp, Phi_spec_ReadSet f = some sp → FnOk Tryz.prog f sp ∧ ∀ n ∈ sp.need, n ∈ (["internal/bytealg.MaxLen"] : List String) := phi_cons ok_spec_l01In (n0 rfl) (phi_cons ok_spec_l05Part (n0 rfl) (phi_cons ok_spec_l05Set (n0 rfl) (phi_nil)))
theorem ok_spec_ReadSet : FnOk Tryz.prog 51 spReadSet := by
  refine fn_ok (Φ := Phi_spec_ReadSet) (T := T_spec_ReadSet) phi_spec_ReadSet mixed Tryz.func51 rfl rfl rfl (by decide) ?_
  intro ins r outs hr hl
  clear hl
  have hs := spReadSet_in hr
  clear hr
  obtain ⟨t, last, rfl, hc, hr, rfl⟩ := hs
  simp only [spReadSet, Tryz.f51, Go.VM.initS]
  cases hw : within last 1 9999 with
  | false =>
    simp only [hw, go_sem]
    repeat' ((first | apply qa | apply qb | apply qc | apply qd | apply qe | apply qf | apply qg | apply qh | apply qi | apply qj | apply qk) <;> intro hp <;> simp only [hp, hw, go_sem])
    simp only [fin_mk, finV, resL, resV1, resIn, endA, listIn, Option.some_or, Option.none_or, oneOrTup, go_sem]
    rw [← hr]
    simp only [readSet, readOk, hw, Bool.false_and, Bool.false_eq_true, if_false]
    rfl
  | true =>
    have hl : 1 ≤ last ∧ last ≤ 9999 := by simpa only [within, Bool.and_eq_true, decide_eq_true_eq] using hw
    have hro : readOk t last = (match rangesOf last (splitOn 44 t) with | some l => decide ((setR l).length ≤ 40) | none => false) := by rw [readOk, hw, Bool.true_and] <;> rfl
    have hrs : readSet t last = if readOk t last = true then (match rangesOf last (splitOn 44 t) with | some l => setR l | none => []) else [] := rfl
    rw [hrs, hro] at hr
    clear hrs hro
    have hbt : (10001 : Int) * ((1 : Nat) : Int) ≤ 140737488355328 := by decide
    simp only [hw, replicate_bits, hbt, go_sem]
    repeat' ((first | apply qa | apply qb | apply qc | apply qd | apply qe | apply qf | apply qg | apply qh | apply qi | apply qj | apply qk) <;> intro hp <;> simp only [hp, hw, replicate_bits, hbt, go_sem])
    refine loop_go (fun q : Nat × Nat × List Range => [(8, .int .i64 (q.1 : Int)), (9, .int .i64 (q.2.1 : Int))]) (fun q => [(1, ⟨.arr, 1, (bitsOf (memN q.2.2)).map eBool⟩)]) (fun q => t.length + 1 - q.2.1) (fun q => (∀ r ∈ q.2.2, 1 ≤ r.Lo ∧ r.Lo ≤ r.Hi ∧ r.Hi ≤ 9999) ∧ ((q.2.1 ≤ t.length ∧ q.1 ≤ q.2.1 ∧ (∀ x ∈ (t.take q.2.1).drop q.1, notB 44 x = true) ∧ rangesOf last (splitOn 44 t) = (rangesOf last (splitOn 44 (t.drop q.1))).map (q.2.2 ++ ·)) ∨ (q.2.1 = t.length + 1 ∧ rangesOf last (splitOn 44 t) = some q.2.2))) (0, 0, []) ⟨by simp, .inl ⟨Nat.zero_le _, Nat.le_refl _, by simp, by simp⟩⟩ rfl rfl ?_
    rintro ⟨b, i, R⟩ ⟨hRin, hinv⟩ ih
    simp only at hRin hinv ih
    rcases hinv with ⟨hi, hbi, ha, hR⟩ | ⟨hi, hR⟩
    · have g2 : (0 : Int) ≤ i := by omega
      have g4 : (0 : Int) ≤ b := by omega
      have g5 := wrap_succ (n := t.length + 1) (i := i) (by omega) (by omega)
      have g0 : (i : Int) ≤ t.length := by omega
      rcases Nat.lt_or_ge i t.length with h | h
      · have g1 : (i : Int) < t.length := by omega
        have g3 : t[i]? = some t[i] := List.getElem?_eq_getElem h
        cases hb : ((t[i].toNat : Int) == 44) with
        | false =>
          have hn : notB 44 t[i] = true := by
            unfold notB
            rw [bne_iff_ne]
            intro e
            rw [e] at hb
            exact absurd hb (by decide)
          have ih' := ih (b, i + 1, R) ⟨hRin, .inl ⟨h, Nat.le_succ_of_le hbi, by
            rw [take_succ' h, List.drop_append_of_le_length (by rw [List.length_take]; omega)]
            intro x hx
            rcases List.mem_append.1 hx with hx | hx
            · exact ha x hx
            · simp only [List.mem_singleton] at hx
              subst hx
              exact hn, hR⟩⟩ (by simp only; omega)
          have hb2 : ((t[i].toNat : Int) != 44) = true := by rw [bne, hb]; rfl
          simp only [g0, g1, g2, g3, g5, hb, hb2, go_sem]
          repeat' ((first | apply qa | apply qb | apply qc | apply qd | apply qe | apply qf | apply qg | apply qh | apply qi | apply qj | apply qk) <;> intro hp <;> simp only [hp, g0, g1, g2, g3, g5, hb, hb2, go_sem])
          exact ih'
        | true =>
          have h44 : t[i] = 44 := by
            have h1 : t[i].toNat = (44 : UInt8).toNat := by simp only [beq_iff_eq] at hb; show t[i].toNat = 44; omega
            exact UInt8.toNat_inj.1 h1
          have hb2 : ((t[i].toNat : Int) != 44) = false := by rw [bne, hb]; rfl
          have hS := splitOn_at hbi h h44 ha
          generalize hpp : (t.take i).drop b = p at *
          have hP : rangesOf last (splitOn 44 t) = (rangesOf last (p :: splitOn 44 (t.drop (i + 1)))).map (R ++ ·) := by rw [hR, hS]
          have c1 : p.length ≤ 4194304 := by rw [← hpp, List.length_drop, List.length_take]; omega
          simp only [rangesOf] at hP
          cases hB : partB p with
          | false =>
            rw [hB] at hP
            simp only [Bool.false_eq_true, if_false, Option.map_none] at hP
            rw [hP] at hr
            simp only [Bool.false_eq_true, if_false] at hr
            simp only [g0, g1, g2, g3, g4, g5, hbi, hi, hb, hb2, hpp, c1, hB, go_sem]
            repeat' ((first | apply qa | apply qb | apply qc | apply qd | apply qe | apply qf | apply qg | apply qh | apply qi | apply qj | apply qk) <;> intro hp <;> simp only [hp, g0, g1, g2, g3, g4, g5, hbi, hi, hb, hb2, hpp, c1, hB, go_sem])
            simp only [fin_mk, finV, resL, resV1, resIn, endA, listIn, Option.some_or, Option.none_or, oneOrTup, go_sem]
            rw [← hr]
            rfl
          | true =>
            rw [hB] at hP
            simp only [if_true, Option.map_map] at hP
            have hin := part_in hl hB
            obtain ⟨lo, hlo⟩ : ∃ a : Nat, partLo p last = a := ⟨(partLo p last).toNat, by omega⟩
            obtain ⟨hh, hhi⟩ : ∃ a : Nat, partHi p last = a := ⟨(partHi p last).toNat, by omega⟩
            rw [hlo, hhi] at hin hP
            have e0 : (fun n => memN R n || (decide (lo ≤ n) && decide (n < lo))) = memN R := by
              funext n
              have : (decide (lo ≤ n) && decide (n < lo)) = false := by rw [Bool.and_eq_false_iff]; simp; omega
              rw [this, Bool.or_false]
            have e1 : (fun n => memN R n || (decide (lo ≤ n) && decide (n < hh + 1))) = memN (R ++ [⟨lo, hh⟩]) := by
              funext n
              unfold memN
              rw [hasR_append]
              congr 1
              rw [Bool.eq_iff_iff]
              simp [hasR]; omega
            have ih' := ih (i + 1, i + 1, R ++ [⟨lo, hh⟩]) ⟨fun r hr' => by
              rcases List.mem_append.1 hr' with h' | h'
              · exact hRin r h'
              · simp only [List.mem_singleton] at h'
                subst h'
                exact hin, .inl ⟨h, Nat.le_refl _, (by simp only; intro x hx; rw [List.drop_of_length_le (by rw [List.length_take]; omega)] at hx; cases hx), by simp only; rw [hP]; congr 1; funext l; simp⟩⟩ (by simp only; omega)
            simp only at ih'
            rw [← e1] at ih'
            clear ih
            simp only [g0, g1, g2, g3, g4, g5, hbi, hi, hb, hb2, hpp, c1, hB, hlo, hhi, go_sem]
            repeat' ((first | apply qa | apply qb | apply qc | apply qd | apply qe | apply qf | apply qg | apply qh | apply qi | apply qj | apply qk) <;> intro hp <;> simp only [hp, g0, g1, g2, g3, g4, g5, hbi, hi, hb, hb2, hpp, c1, hB, hlo, hhi, go_sem])
            refine loop_go (fun k : Nat => [(13, .int .i64 (k : Int))]) (fun k => [(1, ⟨.arr, 1, (bitsOf fun n => memN R n || (decide (lo ≤ n) && decide (n < k))).map eBool⟩)]) (fun k => hh + 1 - k) (fun k => lo ≤ k ∧ k ≤ hh + 1) lo ⟨Nat.le_refl _, by omega⟩ rfl (by rw [e0]; rfl) ?_
            intro k ⟨hk1, hk2⟩ ihk
            rcases Nat.lt_or_ge k (hh + 1) with hkl | hkl
            · have k1 : (k : Int) ≤ (hh : Int) := by omega
              have k2 : (0 : Int) ≤ k := by omega
              have k3 : (k : Int) < ((10001 : Nat) : Int) := by omega
              have k5 := wrap_succ hkl (by omega)
              have kl := bitsOf_len (fun n => memN R n || (decide (lo ≤ n) && decide (n < k)))
              have kg := bitsOf_get (fun n => memN R n || (decide (lo ≤ n) && decide (n < k))) (n := k) (by omega)
              have ks : (List.map eBool (bitsOf fun n => memN R n || (decide (lo ≤ n) && decide (n < k)))).set k (V.bool true) = List.map eBool (bitsOf fun n => memN R n || (decide (lo ≤ n) && decide (n < k + 1))) := by
                rw [show V.bool true = eBool true from rfl, ← List.map_set, bitsOf_set]
                congr 2
                funext m
                by_cases hm : m = k
                · subst hm; simp [hk1]
                · have : decide (m < k + 1) = decide (m < k) := by rw [Bool.eq_iff_iff]; simp; omega
                  simp [hm, this]
              have ihk' := ihk (k + 1) ⟨by omega, by omega⟩ (by omega)
              rw [← ks] at ihk'
              clear ihk ks ih'
              generalize hBB : (bitsOf fun n => memN R n || (decide (lo ≤ n) && decide (n < k))) = BB at *
              simp only [g0, g1, g2, g3, g4, g5, hbi, hi, hb, hb2, hpp, k1, k2, k3, k5, kl, kg, go_sem]
              repeat' ((first | apply qa | apply qb | apply qc | apply qd | apply qe | apply qf | apply qg | apply qh | apply qi | apply qj | apply qk) <;> intro hp <;> simp only [hp, g0, g1, g2, g3, g4, g5, hbi, hi, hb, hb2, hpp, k1, k2, k3, k5, kl, kg, go_sem])
              exact ihk'
            · have hke : k = hh + 1 := by omega
              subst hke
              have k1 : ¬ (((hh + 1 : Nat) : Int)) ≤ (hh : Int) := by omega
              simp only [g0, g1, g2, g3, g4, g5, hbi, hi, hb, hb2, hpp, k1, g5, go_sem]
              repeat' ((first | apply qa | apply qb | apply qc | apply qd | apply qe | apply qf | apply qg | apply qh | apply qi | apply qj | apply qk) <;> intro hp <;> simp only [hp, g0, g1, g2, g3, g4, g5, hbi, hi, hb, hb2, hpp, k1, g5, go_sem])
              exact ih'
      · have g1 : ¬ (i : Int) < t.length := by omega
        have hS : splitOn 44 (t.drop b) = [(t.take i).drop b] := by
          rw [List.take_of_length_le h] at ha ⊢
          exact splitOn_none ha
        generalize hpp : (t.take i).drop b = p at *
        have hP : rangesOf last (splitOn 44 t) = (rangesOf last (p :: [])).map (R ++ ·) := by rw [hR, hS]
        have c1 : p.length ≤ 4194304 := by rw [← hpp, List.length_drop, List.length_take]; omega
        simp only [rangesOf] at hP
        cases hB : partB p with
        | false =>
          rw [hB] at hP
          simp only [Bool.false_eq_true, if_false, Option.map_none] at hP
          rw [hP] at hr
          simp only [Bool.false_eq_true, if_false] at hr
          simp only [g0, g1, g2, g4, g5, hbi, hi, hpp, c1, hB, go_sem]
          repeat' ((first | apply qa | apply qb | apply qc | apply qd | apply qe | apply qf | apply qg | apply qh | apply qi | apply qj | apply qk) <;> intro hp <;> simp only [hp, g0, g1, g2, g4, g5, hbi, hi, hpp, c1, hB, go_sem])
          simp only [fin_mk, finV, resL, resV1, resIn, endA, listIn, Option.some_or, Option.none_or, oneOrTup, go_sem]
          rw [← hr]
          rfl
        | true =>
          rw [hB] at hP
          simp only [if_true, Option.map_map] at hP
          have hin := part_in hl hB
          obtain ⟨lo, hlo⟩ : ∃ a : Nat, partLo p last = a := ⟨(partLo p last).toNat, by omega⟩
          obtain ⟨hh, hhi⟩ : ∃ a : Nat, partHi p last = a := ⟨(partHi p last).toNat, by omega⟩
          rw [hlo, hhi] at hin hP
          have e0 : (fun n => memN R n || (decide (lo ≤ n) && decide (n < lo))) = memN R := by
            funext n
            have : (decide (lo ≤ n) && decide (n < lo)) = false := by rw [Bool.and_eq_false_iff]; simp; omega
            rw [this, Bool.or_false]
          have e1 : (fun n => memN R n || (decide (lo ≤ n) && decide (n < hh + 1))) = memN (R ++ [⟨lo, hh⟩]) := by
            funext n
            unfold memN
            rw [hasR_append]
            congr 1
            rw [Bool.eq_iff_iff]
            simp [hasR]; omega
          have ih' := ih (i + 1, i + 1, R ++ [⟨lo, hh⟩]) ⟨fun r hr' => by
            rcases List.mem_append.1 hr' with h' | h'
            · exact hRin r h'
            · simp only [List.mem_singleton] at h'
              subst h'
              exact hin, .inr ⟨by simp only; omega, by rw [hP]; simp [rangesOf]⟩⟩ (by simp only; omega)
          simp only at ih'
          rw [← e1] at ih'
          clear ih
          simp only [g0, g1, g2, g4, g5, hbi, hi, hpp, c1, hB, hlo, hhi, go_sem]
          repeat' ((first | apply qa | apply qb | apply qc | apply qd | apply qe | apply qf | apply qg | apply qh | apply qi | apply qj | apply qk) <;> intro hp <;> simp only [hp, g0, g1, g2, g4, g5, hbi, hi, hpp, c1, hB, hlo, hhi, go_sem])
          refine loop_go (fun k : Nat => [(13, .int .i64 (k : Int))]) (fun k => [(1, ⟨.arr, 1, (bitsOf fun n => memN R n || (decide (lo ≤ n) && decide (n < k))).map eBool⟩)]) (fun k => hh + 1 - k) (fun k => lo ≤ k ∧ k ≤ hh + 1) lo ⟨Nat.le_refl _, by omega⟩ rfl (by rw [e0]; rfl) ?_
          intro k ⟨hk1, hk2⟩ ihk
          rcases Nat.lt_or_ge k (hh + 1) with hkl | hkl
          · have k1 : (k : Int) ≤ (hh : Int) := by omega
            have k2 : (0 : Int) ≤ k := by omega
            have k3 : (k : Int) < ((10001 : Nat) : Int) := by omega
            have k5 := wrap_succ hkl (by omega)
            have kl := bitsOf_len (fun n => memN R n || (decide (lo ≤ n) && decide (n < k)))
            have kg := bitsOf_get (fun n => memN R n || (decide (lo ≤ n) && decide (n < k))) (n := k) (by omega)
            have ks : (List.map eBool (bitsOf fun n => memN R n || (decide (lo ≤ n) && decide (n < k)))).set k (V.bool true) = List.map eBool (bitsOf fun n => memN R n || (decide (lo ≤ n) && decide (n < k + 1))) := by
              rw [show V.bool true = eBool true from rfl, ← List.map_set, bitsOf_set]
              congr 2
              funext m
              by_cases hm : m = k
              · subst hm; simp [hk1]
              · have : decide (m < k + 1) = decide (m < k) := by rw [Bool.eq_iff_iff]; simp; omega
                simp [hm, this]
            have ihk' := ihk (k + 1) ⟨by omega, by omega⟩ (by omega)
            rw [← ks] at ihk'
            clear ihk ks ih'
            generalize hBB : (bitsOf fun n => memN R n || (decide (lo ≤ n) && decide (n < k))) = BB at *
            simp only [g0, g1, g2, g4, g5, hbi, hi, hpp, k1, k2, k3, k5, kl, kg, go_sem]
            repeat' ((first | apply qa | apply qb | apply qc | apply qd | apply qe | apply qf | apply qg | apply qh | apply qi | apply qj | apply qk) <;> intro hp <;> simp only [hp, g0, g1, g2, g4, g5, hbi, hi, hpp, k1, k2, k3, k5, kl, kg, go_sem])
            exact ihk'
          · have hke : k = hh + 1 := by omega
            subst hke
            have k1 : ¬ (((hh + 1 : Nat) : Int)) ≤ (hh : Int) := by omega
            simp only [g0, g1, g2, g4, g5, hbi, hi, hpp, k1, g5, go_sem]
            repeat' ((first | apply qa | apply qb | apply qc | apply qd | apply qe | apply qf | apply qg | apply qh | apply qi | apply qj | apply qk) <;> intro hp <;> simp only [hp, g0, g1, g2, g4, g5, hbi, hi, hpp, k1, g5, go_sem])
            exact ih'
    · have g1 : ¬ (i : Int) ≤ t.length := by omega
      rw [hR] at hr
      simp only [decide_eq_true_eq] at hr
      have s1 := bitsOf_len (memN R)
      have s2 := memN_zero hRin
      have s3 := setR_bits (R := R)
      have s4 := setR_ok R
      generalize hBB : bitsOf (memN R) = BB at *
      rw [s3.symm] at hr s4
      generalize hX : scanB BB = X at *
      simp only [g1, s1, s2, s3, s4, go_sem]
      repeat' ((first | apply qa | apply qb | apply qc | apply qd | apply qe | apply qf | apply qg | apply qh | apply qi | apply qj | apply qk) <;> intro hp <;> simp only [hp, g1, s1, s2, s3, s4, go_sem])
      simp only [fin_mk, finV, resL, resV1, resIn, endA, listIn, Option.some_or, Option.none_or, oneOrTup, go_sem]
      rw [← hr]
      all_goals (rw [hX, s4]; simp)
end Go.Proofs.YtonjbbfgdloljaaGreatDoor.L

namespace Go.Proofs.YtonjbbfgdloljaaGreatDoor.L
open Go Go.VM
set_option maxRecDepth 100000
set_option maxHeartbeats 4000000
set_option linter.unusedSimpArgs false
set_option linter.unusedVariables false
open Classical in
noncomputable def spJoin : VM.Spec := { modes := [.rd, .rd], run := fun | [.lst 1 l', .str t] => (decL dStr l').bind fun l => if (Lib.join l t).length ≤ 140737488355328 ∧ l.length ≤ 140737488355328 then some (.str (Lib.join l t), []) else none | _ => none, need := [] }
attribute [go_sem] spJoin
def partOf (r : Range) : List UInt8 := if r.Lo < r.Hi then Lib.itoa r.Lo ++ (58 :: Lib.itoa r.Hi) else Lib.itoa r.Lo
def setText (s : List Range) : List UInt8 := if setOk s = true then Lib.join (s.map partOf) [44] else []
open Classical in
noncomputable def spSetText : VM.Spec := { modes := [.rd], run := fun | [.lst 2 s'] => (decL Range.dec s').bind fun s => if s.length ≤ 4194304 then some (.str (setText s), []) else none | _ => none, need := ["internal/strconv.uint64pow10"] }
attribute [go_sem] spSetText
def flagNames : List (List UInt8) := [[115, 101, 101, 110], [97, 110, 115, 119, 101, 114, 101, 100], [102, 108, 97, 103, 103, 101, 100], [100, 101, 108, 101, 116, 101, 100], [100, 114, 97, 102, 116]]
def flagSel (b : Nat) : Nat → List (List UInt8)
  | 0 => []
  | i + 1 => flagSel b i ++ (if b.testBit i = true then [flagNames.getD i []] else [])
def flagsText (b : Int) : List UInt8 := if flagsOk b = true then 40 :: (Lib.join (flagSel b.toNat 5) [32] ++ [41]) else []
theorem flag_names : ∀ i : Fin 5, flagNames[i.val]? = some (flagNames.getD i.val []) := by decide +kernel
open Classical in
noncomputable def spFlagNames : VM.Spec := { modes := [], run := fun | [] => some (.lst 1 ((flagNames).map eStr), []) | _ => none, need := [] }
attribute [go_sem] spFlagNames
theorem spFlagNames_in {ins : List V} {r : V} {outs : List V} (h : spFlagNames.run ins = some (r, outs)) : ins = [] ∧ .lst 1 ((flagNames).map eStr) = r ∧ outs = [] := by
  unfold spFlagNames at h
  simp only at h
  split at h
  · simp only [Option.some.injEq, Prod.mk.injEq] at h
    obtain ⟨h1, h2⟩ := h
    exact ⟨rfl, h1, h2.symm⟩
  · cases h
def T_impl_flagNames : Hints := ⟨lk [], lk [], lk [(0, []), (1, [0])], lk []⟩
noncomputable def Phi_impl_flagNames : Tab := lk []
attribute [go_sem] T_impl_flagNames Phi_impl_flagNames
theorem phi_impl_flagNames : ∀ f sp, Phi_impl_flagNames f = some sp → FnOk Tryz.prog f sp ∧ ∀ n ∈ sp.need, n ∈ ([] : List String) := phi_nil
theorem ok_impl_flagNames : FnOk Tryz.prog 74 spFlagNames := by
  refine fn_ok (Φ := Phi_impl_flagNames) (T := T_impl_flagNames) phi_impl_flagNames mixed Tryz.func74 rfl rfl rfl (by decide) ?_
  intro ins r outs hr hl
  clear hl
  have hs := spFlagNames_in hr
  clear hr
  obtain ⟨rfl, hr, rfl⟩ := hs
  simp only [spFlagNames, Tryz.f74, Go.VM.initS]
  simp only [go_sem]
  repeat' ((first | apply qa | apply qb | apply qc | apply qd | apply qe | apply qf | apply qg | apply qh | apply qi | apply qj | apply qk) <;> intro hp <;> simp only [hp, go_sem])
  simp only [fin_mk, finV, resL, resV1, resIn, endA, listIn, Option.some_or, Option.none_or, oneOrTup, go_sem]
  rw [← hr]
  rfl
def T_spec_l06Names : Hints := ⟨lk [], lk [], lk [(0, []), (1, [0])], lk []⟩
noncomputable def Phi_spec_l06Names : Tab := lk []
attribute [go_sem] T_spec_l06Names Phi_spec_l06Names
theorem phi_spec_l06Names : ∀ f sp, Phi_spec_l06Names f = some sp → FnOk Tryz.prog f sp ∧ ∀ n ∈ sp.need, n ∈ ([] : List String) := phi_nil
theorem ok_spec_l06Names : FnOk Tryz.prog 85 spFlagNames := by
  refine fn_ok (Φ := Phi_spec_l06Names) (T := T_spec_l06Names) phi_spec_l06Names mixed Tryz.func85 rfl rfl rfl (by decide) ?_
  intro ins r outs hr hl
  clear hl
  have hs := spFlagNames_in hr
  clear hr
  obtain ⟨rfl, hr, rfl⟩ := hs
  simp only [spFlagNames, Tryz.f85, Go.VM.initS]
  simp only [go_sem]
  repeat' ((first | apply qa | apply qb | apply qc | apply qd | apply qe | apply qf | apply qg | apply qh | apply qi | apply qj | apply qk) <;> intro hp <;> simp only [hp, go_sem])
  simp only [fin_mk, finV, resL, resV1, resIn, endA, listIn, Option.some_or, Option.none_or, oneOrTup, go_sem]
  rw [← hr]
  rfl
open Classical in
noncomputable def spFlagsText : VM.Spec := { modes := [.rd], run := fun | [.int .i64 n] => some (.str (flagsText n), []) | _ => none, need := [] }
attribute [go_sem] spFlagsText
end Go.Proofs.YtonjbbfgdloljaaGreatDoor.L

namespace Go.Proofs.YtonjbbfgdloljaaGreatDoor.L
open Go Go.VM
set_option maxRecDepth 100000
set_option maxHeartbeats 1000000
set_option linter.unusedSimpArgs false
set_option linter.unusedVariables false
theorem canon_eq {m k : Int} : ∀ {A B : List Range}, Canon A m → Canon B k → (∀ n, hasR A n = hasR B n) → A = B
  | [], [], _, _, _ => rfl
  | [], b :: B, _, hB, h => by
    have h1 := h b.Lo
    have h2 := hB.1 b (by simp)
    have : hasR (b :: B) b.Lo = true := by rw [hasR, List.any_cons]; simp; omega
    rw [this] at h1
    simp [hasR] at h1
  | a :: A, [], hA, _, h => by
    have h1 := h a.Lo
    have h2 := hA.1 a (by simp)
    have : hasR (a :: A) a.Lo = true := by rw [hasR, List.any_cons]; simp; omega
    rw [this] at h1
    simp [hasR] at h1
  | a :: A, b :: B, hA, hB, h => by
    have ma := hA.1 a (by simp)
    have mb := hB.1 b (by simp)
    have pa := (List.pairwise_cons.1 hA.2).1
    have pb := (List.pairwise_cons.1 hB.2).1
    have mem : ∀ (l : List Range) (n : Int), hasR l n = true ↔ ∃ r ∈ l, r.Lo ≤ n ∧ n ≤ r.Hi := by intro l n; simp [hasR]
    have lo1 : b.Lo ≤ a.Lo := by
      obtain ⟨r, hr, h1, h2⟩ := (mem _ _).1 ((h a.Lo).symm.trans ((mem (a :: A) a.Lo).2 ⟨a, by simp, by omega, by omega⟩))
      rcases List.mem_cons.1 hr with rfl | hr
      · exact h1
      · have := pb r hr; omega
    have lo2 : a.Lo ≤ b.Lo := by
      obtain ⟨r, hr, h1, h2⟩ := (mem _ _).1 ((h b.Lo).trans ((mem (b :: B) b.Lo).2 ⟨b, by simp, by omega, by omega⟩))
      rcases List.mem_cons.1 hr with rfl | hr
      · exact h1
      · have := pa r hr; omega
    have hi1 : b.Hi ≤ a.Hi := by
      rcases Int.lt_or_le a.Hi b.Hi with hlt | hge
      · obtain ⟨r, hr, h1, h2⟩ := (mem _ _).1 ((h (a.Hi + 1)).trans ((mem (b :: B) (a.Hi + 1)).2 ⟨b, by simp, by omega, by omega⟩))
        rcases List.mem_cons.1 hr with rfl | hr
        · omega
        · have := pa r hr; omega
      · exact hge
    have hi2 : a.Hi ≤ b.Hi := by
      rcases Int.lt_or_le b.Hi a.Hi with hlt | hge
      · obtain ⟨r, hr, h1, h2⟩ := (mem _ _).1 ((h (b.Hi + 1)).symm.trans ((mem (a :: A) (b.Hi + 1)).2 ⟨a, by simp, by omega, by omega⟩))
        rcases List.mem_cons.1 hr with rfl | hr
        · omega
        · have := pb r hr; omega
      · exact hge
    have e : a = b := by
      obtain ⟨x, y⟩ := a
      obtain ⟨z, w⟩ := b
      simp only at lo1 lo2 hi1 hi2
      rw [show x = z by omega, show y = w by omega]
    subst e
    congr 1
    refine canon_eq (m := m) (k := k) ⟨fun r hr => hA.1 r (by simp [hr]), (List.pairwise_cons.1 hA.2).2⟩ ⟨fun r hr => hB.1 r (by simp [hr]), (List.pairwise_cons.1 hB.2).2⟩ fun n => ?_
    have hn := h n
    rw [Bool.eq_iff_iff, mem, mem] at hn ⊢
    constructor
    · rintro ⟨r, hr, h1, h2⟩
      obtain ⟨s, hs, h3, h4⟩ := hn.1 ⟨r, by simp [hr], h1, h2⟩
      rcases List.mem_cons.1 hs with rfl | hs
      · have := pa r hr; omega
      · exact ⟨s, hs, h3, h4⟩
    · rintro ⟨r, hr, h1, h2⟩
      obtain ⟨s, hs, h3, h4⟩ := hn.2 ⟨r, by simp [hr], h1, h2⟩
      rcases List.mem_cons.1 hs with rfl | hs
      · have := pb r hr; omega
      · exact ⟨s, hs, h3, h4⟩
theorem canon_of_ok {S : List Range} (h : setOk S = true) : Canon S 9999 := by
  simp only [setOk, Bool.and_eq_true] at h
  have hr : ∀ i, (hi : i < S.length) → rangeAt S i = true := fun i hi => allN_get h.1 hi
  refine ⟨fun r hx => ?_, ?_⟩
  · obtain ⟨i, hi, rfl⟩ := List.mem_iff_getElem.1 hx
    exact rangeAt_hi hi (hr i hi)
  · have adj : ∀ i, (hi : i + 1 < S.length) → S[i].Hi + 1 < S[i + 1].Lo := by
      intro i hi
      have := hr (i + 1) hi
      simp only [rangeAt, Bool.and_eq_true, Bool.or_eq_true, decide_eq_true_eq, Nat.add_sub_cancel, getD_lt hi, getD_lt (show i < S.length by omega), beq_iff_eq] at this
      rcases this.2 with h0 | h0
      · omega
      · exact h0
    have wf : ∀ i, (hi : i < S.length) → S[i].Lo ≤ S[i].Hi := fun i hi => (rangeAt_hi hi (hr i hi)).2.1
    rw [List.pairwise_iff_getElem]
    intro i j hi hj hij
    induction j with
    | zero => omega
    | succ j ih =>
      rcases Nat.lt_or_ge i j with h1 | h1
      · have a1 := ih (by omega) h1
        have a2 := adj j hj
        have a3 := wf j (by omega)
        omega
      · have : i = j := by omega
        subst this
        exact adj i hj
theorem setR_same {S : List Range} (h : setOk S = true) : setR S = S := by
  have hc := canon_of_ok h
  have ha : Asc ((nums 9999).filter fun n => hasR S n) 9999 := (nums_asc 9999).filter _
  refine canon_eq (scan_canon _ _ ha) hc fun n => ?_
  show hasR (scan _) n = _
  rw [hasR_scan _ _ _ ha, Bool.eq_iff_iff, decide_eq_true_eq, List.mem_filter, nums_mem]
  constructor
  · exact fun e => e.2
  · intro e
    refine ⟨?_, e⟩
    rw [hasR, List.any_eq_true] at e
    obtain ⟨r, hr, e⟩ := e
    simp only [Bool.and_eq_true, decide_eq_true_eq] at e
    have := hc.1 r hr
    omega
/-! ### numbers -/
theorem dec_read (n : Nat) : (Lib.decDigits n).all digB = true ∧ numV (Lib.decDigits n) = n := by
  induction n using Nat.strongRecOn with
  | ind n ih =>
    have key : ∀ k : Nat, k < 10 → digB (UInt8.ofNat (48 + k)) = true ∧ ((UInt8.ofNat (48 + k)).toNat : Int) = 48 + k := by
      intro k hk
      have e : (UInt8.ofNat (48 + k)).toNat = 48 + k := UInt8.toNat_ofNat_of_lt' (by show 48 + k < 256; omega)
      refine ⟨?_, by omega⟩
      simp only [digB, within, Bool.and_eq_true, decide_eq_true_eq, e]
      omega
    rw [Lib.decDigits]
    by_cases h : n < 10
    · rw [dif_pos h]
      obtain ⟨k1, k2⟩ := key n h
      refine ⟨by simp only [List.all_cons, List.all_nil, k1]; rfl, ?_⟩
      simp only [numV, List.foldl_cons, List.foldl_nil, stepV, k2]; omega
    · rw [dif_neg h]
      obtain ⟨i1, i2⟩ := ih (n / 10) (by omega)
      obtain ⟨k1, k2⟩ := key (n % 10) (by omega)
      refine ⟨by rw [List.all_append, i1]; simp only [List.all_cons, List.all_nil, k1]; rfl, ?_⟩
      rw [numV_snoc, i2, stepV, k2]; omega
theorem itoa_read {n : Int} (h : 0 ≤ n) : (Lib.itoa n).all digB = true ∧ numV (Lib.itoa n) = n := by
  rw [Lib.itoa, if_neg (by omega)]
  have := dec_read n.toNat
  exact ⟨this.1, by rw [this.2]; omega⟩
theorem itoa_ne {n : Int} (h : 0 ≤ n) : Lib.itoa n ≠ [] := by
  rw [Lib.itoa, if_neg (by omega)]
  intro e
  rw [Lib.decDigits] at e
  split at e <;> simp at e
end Go.Proofs.YtonjbbfgdloljaaGreatDoor.L

namespace Go.Proofs.YtonjbbfgdloljaaGreatDoor.L
open Go Go.VM
set_option maxRecDepth 100000
set_option maxHeartbeats 4000000
set_option linter.unusedSimpArgs false
set_option linter.unusedVariables false
def decB (s : List UInt8) : Bool := s.all digB && (decide (numV s ≤ 1000000000) && Lib.itoa (numV s) == s)
def decN (s : List UInt8) : Int := if decB s = true then numV s else 0
theorem dec_len {s : List UInt8} (h : decB s = true) : s.length ≤ 10 := by
  simp only [decB, Bool.and_eq_true, decide_eq_true_eq, beq_iff_eq] at h
  have := numV_bound s h.1
  rw [← h.2.2]
  exact itoa10 this.1 h.2.1
theorem dec_back {n : Int} (h0 : 0 ≤ n) (h : n ≤ 1000000000) : decB (Lib.itoa n) = true ∧ decN (Lib.itoa n) = n := by
  obtain ⟨a1, a2⟩ := itoa_read h0
  have hb : decB (Lib.itoa n) = true := by
    rw [decB, a1, a2]; simp [h]
  exact ⟨hb, by rw [decN, if_pos hb, a2]⟩
open Classical in
noncomputable def spDecS : VM.Spec := { modes := [.rd], run := fun | [.int .i64 n] => if 0 ≤ n ∧ n ≤ 1000000000 then some (.str (Lib.itoa n), []) else none | _ => none, need := [] }
attribute [go_sem] spDecS
theorem spDecS_in {ins : List V} {r : V} {outs : List V} (h : spDecS.run ins = some (r, outs)) : ∃ (n : Int), ins = [.int .i64 n] ∧ (0 ≤ n ∧ n ≤ 1000000000) ∧ .str (Lib.itoa n) = r ∧ outs = [] := by
  unfold spDecS at h
  simp only at h
  split at h
  · rename_i n
    split at h
    case isFalse => cases h
    rename_i hc
    simp only [Option.some.injEq, Prod.mk.injEq] at h
    obtain ⟨h1, h2⟩ := h
    exact ⟨n, rfl, hc, h1, h2.symm⟩
  · cases h
def T_spec_Decimal_s : Hints := ⟨lk [], lk [(5, [0, 3, 4])], lk [(0, [0]), (1, [0, 7]), (2, [2]), (3, [0, 3]), (4, [0, 3, 4]), (5, [0, 3, 4, 11]), (6, [0, 3, 4, 5]), (7, [0, 3, 4, 5, 15]), (8, [0, 3, 4, 5]), (9, [0, 3, 4]), (10, [0, 3, 4]), (11, [4, 26]), (12, [2]), (13, [2])], lk []⟩
noncomputable def Phi_spec_Decimal_s : Tab := lk [(84, spFigure)]
attribute [go_sem] T_spec_Decimal_s Phi_spec_Decimal_s
theorem phi_spec_Decimal_s : ∀ f sp, Phi_spec_Decimal_s f = some sp → FnOk Tryz.prog f sp ∧ ∀ n ∈ sp.need, n ∈ ([] : List String) := phi_cons ok_spec_l01Figure (n0 rfl) (phi_nil)
theorem ok_spec_Decimal_s : FnOk Tryz.prog 35 spDecS := by
  refine fn_ok (Φ := Phi_spec_Decimal_s) (T := T_spec_Decimal_s) phi_spec_Decimal_s mixed Tryz.func35 rfl rfl rfl (by decide) ?_
  intro ins r outs hr hl
  clear hl
  have hs := spDecS_in hr
  clear hr
  obtain ⟨n, rfl, hc, hr, rfl⟩ := hs
  simp only [spDecS, Tryz.f35, Go.VM.initS]
  obtain ⟨h0, h1⟩ := hc
  obtain ⟨k, rfl⟩ : ∃ k : Nat, n = k := ⟨n.toNat, by omega⟩
  by_cases hz : k = 0
  · subst hz
    have e : (((0 : Nat) : Int) == 0) = true := rfl
    simp only [e, go_sem]
    repeat' ((first | apply qa | apply qb | apply qc | apply qd | apply qe | apply qf | apply qg | apply qh | apply qi | apply qj | apply qk) <;> intro hp <;> simp only [hp, e, go_sem])
    simp only [fin_mk, finV, resL, resV1, resIn, endA, listIn, Option.some_or, Option.none_or, oneOrTup, go_sem]
    rw [← hr]
    have h2 : Lib.itoa ((0 : Nat) : Int) = [48] := by
      rw [Lib.itoa, if_neg (by decide)]
      show Lib.decDigits 0 = _
      rw [Lib.decDigits]; rfl
    rw [h2]
  · have e : ((k : Int) == 0) = false := beq_eq_false_iff_ne.2 (by omega)
    have e2 : ¬ (k : Int) < 0 := by omega
    have hI : Lib.itoa (k : Int) = dig k := by rw [Lib.itoa, if_neg e2, dig, if_neg hz]; rfl
    rw [hI] at hr
    simp only [e, e2, go_sem]
    repeat' ((first | apply qa | apply qb | apply qc | apply qd | apply qe | apply qf | apply qg | apply qh | apply qi | apply qj | apply qk) <;> intro hp <;> simp only [hp, e, e2, go_sem])
    refine loop_go (fun p : List UInt8 × Nat => [(0, .int .i64 (p.2 : Int)), (4, .str p.1)]) (fun _ => []) (fun p => p.2) (fun p => dig p.2 ++ p.1 = dig k ∧ p.2 ≤ k) ([], k) ⟨by simp, Nat.le_refl _⟩ rfl rfl ?_
    rintro ⟨s, m⟩ ⟨he, hm⟩ ih
    simp only at he hm ih
    have hlen : s.length ≤ k := by
      have h2 := congrArg List.length he
      have h3 := dig_len k
      simp only [List.length_append] at h2; omega
    by_cases hm0 : m = 0
    · subst hm0
      have g1 : (((0 : Nat) : Int) != 0) = false := rfl
      simp only [g1, go_sem]
      repeat' ((first | apply qa | apply qb | apply qc | apply qd | apply qe | apply qf | apply qg | apply qh | apply qi | apply qj | apply qk) <;> intro hp <;> simp only [hp, g1, go_sem])
      simp only [fin_mk, finV, resL, resV1, resIn, endA, listIn, Option.some_or, Option.none_or, oneOrTup, go_sem]
      rw [← hr]
      rw [← he]; rfl
    · have g1 : ((m : Int) != 0) = true := by simp; omega
      have g2 : (m : Int).tmod 10 = ((m % 10 : Nat) : Int) := tmod_nat m 10
      have g3 : ¬ (((m % 10 : Nat) : Int)) < 0 := by omega
      have g4 : (0 : Int) ≤ ((m % 10 : Nat) : Int) := by omega
      have g5 : ((m % 10 : Nat) : Int) < 10 := by omega
      have g6 : (m : Int).tdiv 10 = ((m / 10 : Nat) : Int) := tdiv_nat m 10
      have g7 : IntKind.i64.wrap ((m / 10 : Nat) : Int) = ((m / 10 : Nat) : Int) := wrap64 (by omega) (by omega)
      have g8 : [V.int .u8 (48 + ((m % 10 : Nat) : Int))] = bytesV [UInt8.ofNat (48 + m % 10)] := by
        have h4 : (UInt8.ofNat (48 + m % 10)).toNat = 48 + m % 10 := UInt8.toNat_ofNat_of_lt' (by show 48 + m % 10 < 256; omega)
        rw [bytesV, List.map_cons, List.map_nil, h4]; rfl
      have g9 : 1 + s.length ≤ 9223372036854775807 := by omega
      have ih' := ih (UInt8.ofNat (48 + m % 10) :: s, m / 10) ⟨by rw [← he, dig_step hm0, List.append_assoc]; rfl, by omega⟩ (by simp only; omega)
      simp only at ih'
      simp only [g1, g2, g3, g4, g5, g6, g7, g8, g9, go_sem]
      repeat' ((first | apply qa | apply qb | apply qc | apply qd | apply qe | apply qf | apply qg | apply qh | apply qi | apply qj | apply qk) <;> intro hp <;> simp only [hp, g1, g2, g3, g4, g5, g6, g7, g8, g9, go_sem])
      exact ih'
open Classical in
noncomputable def spReadDec : VM.Spec := { modes := [.rd], run := fun | [.str s] => if s.length ≤ 4194304 then some (.tup [.int .i64 (decN s), .bool (decB s)], []) else none | _ => none, need := [] }
attribute [go_sem] spReadDec
theorem spReadDec_in {ins : List V} {r : V} {outs : List V} (h : spReadDec.run ins = some (r, outs)) : ∃ (s : (List UInt8)), ins = [.str s] ∧ (s.length ≤ 4194304) ∧ .tup [.int .i64 (decN s), .bool (decB s)] = r ∧ outs = [] := by
  unfold spReadDec at h
  simp only at h
  split at h
  · rename_i s
    split at h
    case isFalse => cases h
    rename_i hc
    simp only [Option.some.injEq, Prod.mk.injEq] at h
    obtain ⟨h1, h2⟩ := h
    exact ⟨s, rfl, hc, h1, h2.symm⟩
  · cases h
def T_spec_ReadDecimal : Hints := ⟨lk [], lk [(5, [0, 4, 5])], lk [(0, [0]), (1, [0, 8]), (2, [2, 3]), (3, [0, 4]), (4, [0, 4, 5]), (5, [0, 4, 5, 12]), (7, [0, 4, 5, 24]), (8, [2, 3]), (9, [0, 4, 5]), (6, [0, 4, 5]), (10, [4, 40]), (11, [2, 3]), (12, [2, 3])], lk []⟩
noncomputable def Phi_spec_ReadDecimal : Tab := lk [(35, spDecS)]
attribute [go_sem] T_spec_ReadDecimal Phi_spec_ReadDecimal
theorem phi_spec_ReadDecimal : ∀ f sp, Phi_spec_ReadDecimal f = some sp → FnOk Tryz.prog f sp ∧ ∀ n ∈ sp.need, n ∈ ([] : List String) := phi_cons ok_spec_Decimal_s (n0 rfl) (phi_nil)
theorem ok_spec_ReadDecimal : FnOk Tryz.prog 52 spReadDec := by
  refine fn_ok (Φ := Phi_spec_ReadDecimal) (T := T_spec_ReadDecimal) phi_spec_ReadDecimal mixed Tryz.func52 rfl rfl rfl (by decide) ?_
  intro ins r outs hr hl
  clear hl
  have hs := spReadDec_in hr
  clear hr
  obtain ⟨s, rfl, hc, hr, rfl⟩ := hs
  simp only [spReadDec, Tryz.f52, Go.VM.initS]
  have no : decB s = false → decN s = 0 := fun e => by rw [decN, e]; rfl
  by_cases h10 : (10 : Int) < s.length
  · have e1 : decB s = false := by
      cases hq : decB s with
      | false => rfl
      | true => have := dec_len hq; omega
    rw [e1, no e1] at hr
    simp only [h10, go_sem]
    repeat' ((first | apply qa | apply qb | apply qc | apply qd | apply qe | apply qf | apply qg | apply qh | apply qi | apply qj | apply qk) <;> intro hp <;> simp only [hp, h10, go_sem])
    simp only [fin_mk, finV, resL, resV1, resIn, endA, listIn, Option.some_or, Option.none_or, oneOrTup, go_sem]
    rw [← hr]
  simp only [h10, go_sem]
  repeat' ((first | apply qa | apply qb | apply qc | apply qd | apply qe | apply qf | apply qg | apply qh | apply qi | apply qj | apply qk) <;> intro hp <;> simp only [hp, h10, go_sem])
  refine loop_go (fun i : Nat => [(4, .int .i64 (numV (s.take i))), (5, .int .i64 (i : Int))]) (fun _ => []) (fun i => s.length - i) (fun i => i ≤ s.length ∧ (s.take i).all digB = true) 0 ⟨Nat.zero_le _, by simp⟩ rfl rfl ?_
  rintro i ⟨hi, ha⟩ ih
  have hb := numV_bound _ ha
  rcases Nat.lt_or_ge i s.length with h | h
  · have g1 : (i : Int) < s.length := by omega
    have g2 : (0 : Int) ≤ i := by omega
    have g3 : s[i]? = some s[i] := List.getElem?_eq_getElem h
    have g5 := wrap_succ h (by omega)
    have hp : (10 : Int) ^ (s.take i).length ≤ 10000000000 := by
      have : (s.take i).length ≤ 10 := by rw [List.length_take]; omega
      have h2 : (10 : Nat) ^ (s.take i).length ≤ 10 ^ 10 := Nat.pow_le_pow_right (by omega) this
      have h3 : (((10 : Nat) ^ (s.take i).length : Nat) : Int) ≤ ((10 ^ 10 : Nat) : Int) := by exact_mod_cast h2
      simpa using h3
    have hx := s[i].toNat_lt
    by_cases d1 : (s[i].toNat : Int) < 48
    · have e1 : decB s = false := by
        have : digB s[i] = false := by simp only [digB, within, Bool.and_eq_false_iff, decide_eq_false_iff_not]; omega
        have hs : s.all digB = false := by rw [List.all_eq_false]; exact ⟨_, List.getElem_mem h, by simp [this]⟩
        rw [decB, hs]; rfl
      rw [e1, no e1] at hr
      simp only [g1, g2, g3, g5, d1, go_sem]
      repeat' ((first | apply qa | apply qb | apply qc | apply qd | apply qe | apply qf | apply qg | apply qh | apply qi | apply qj | apply qk) <;> intro hp <;> simp only [hp, g1, g2, g3, g5, d1, go_sem])
      simp only [fin_mk, finV, resL, resV1, resIn, endA, listIn, Option.some_or, Option.none_or, oneOrTup, go_sem]
      rw [← hr]
    by_cases d2 : (57 : Int) < s[i].toNat
    · have e1 : decB s = false := by
        have : digB s[i] = false := by simp only [digB, within, Bool.and_eq_false_iff, decide_eq_false_iff_not]; omega
        have hs : s.all digB = false := by rw [List.all_eq_false]; exact ⟨_, List.getElem_mem h, by simp [this]⟩
        rw [decB, hs]; rfl
      rw [e1, no e1] at hr
      simp only [g1, g2, g3, g5, d1, d2, go_sem]
      repeat' ((first | apply qa | apply qb | apply qc | apply qd | apply qe | apply qf | apply qg | apply qh | apply qi | apply qj | apply qk) <;> intro hp <;> simp only [hp, g1, g2, g3, g5, d1, d2, go_sem])
      simp only [fin_mk, finV, resL, resV1, resIn, endA, listIn, Option.some_or, Option.none_or, oneOrTup, go_sem]
      rw [← hr]
    have hd : digB s[i] = true := by simp only [digB, within, Bool.and_eq_true, decide_eq_true_eq]; omega
    have hn : numV (s.take (i + 1)) = 10 * numV (s.take i) + s[i].toNat - 48 := by
      rw [take_succ' h, numV_snoc, stepV]; omega
    have w0 : IntKind.i64.wrap (s[i].toNat : Int) = s[i].toNat := wrap64 (by omega) (by omega)
    have w1 : IntKind.i64.wrap (10 * numV (s.take i)) = 10 * numV (s.take i) := wrap64 (by omega) (by omega)
    have w2 : IntKind.i64.wrap (10 * numV (s.take i) + s[i].toNat) = 10 * numV (s.take i) + s[i].toNat := wrap64 (by omega) (by omega)
    have w3 : IntKind.i64.wrap (10 * numV (s.take i) + s[i].toNat - 48) = 10 * numV (s.take i) + s[i].toNat - 48 := wrap64 (by omega) (by omega)
    have ih' := ih (i + 1) ⟨h, by rw [take_succ' h, List.all_append, ha]; simp only [List.all_cons, List.all_nil, hd]; rfl⟩ (by omega)
    simp only [hn] at ih'
    simp only [g1, g2, g3, g5, d1, d2, w0, w1, w2, w3, go_sem]
    repeat' ((first | apply qa | apply qb | apply qc | apply qd | apply qe | apply qf | apply qg | apply qh | apply qi | apply qj | apply qk) <;> intro hp <;> simp only [hp, g1, g2, g3, g5, d1, d2, w0, w1, w2, w3, go_sem])
    exact ih'
  · have g1 : ¬ (i : Int) < s.length := by omega
    rw [List.take_of_length_le h] at ha hb
    have ht : s.take i = s := List.take_of_length_le h
    rw [ht]
    by_cases h9 : (1000000000 : Int) < numV s
    · have e1 : decB s = false := by rw [decB, decide_eq_false (by omega)]; simp
      rw [e1, no e1] at hr
      simp only [g1, h9, go_sem]
      repeat' ((first | apply qa | apply qb | apply qc | apply qd | apply qe | apply qf | apply qg | apply qh | apply qi | apply qj | apply qk) <;> intro hp <;> simp only [hp, g1, h9, go_sem])
      simp only [fin_mk, finV, resL, resV1, resIn, endA, listIn, Option.some_or, Option.none_or, oneOrTup, go_sem]
      rw [← hr]
    have h91 : numV s ≤ 1000000000 := by omega
    cases h4 : (Lib.itoa (numV s) == s) with
    | false =>
      have e1 : decB s = false := by rw [decB, h4]; simp
      have h5 : (Lib.itoa (numV s) != s) = true := by rw [bne, h4]; rfl
      rw [e1, no e1] at hr
      simp only [g1, h9, h91, hb.1, h4, h5, go_sem]
      repeat' ((first | apply qa | apply qb | apply qc | apply qd | apply qe | apply qf | apply qg | apply qh | apply qi | apply qj | apply qk) <;> intro hp <;> simp only [hp, g1, h9, h91, hb.1, h4, h5, go_sem])
      simp only [fin_mk, finV, resL, resV1, resIn, endA, listIn, Option.some_or, Option.none_or, oneOrTup, go_sem]
      rw [← hr]
    | true =>
      have e1 : decB s = true := by rw [decB, ha, h4, decide_eq_true h91]; rfl
      have e2 : decN s = numV s := by rw [decN, e1]; rfl
      have h5 : (Lib.itoa (numV s) != s) = false := by rw [bne, h4]; rfl
      rw [e1, e2] at hr
      simp only [g1, h9, h91, hb.1, h4, h5, go_sem]
      repeat' ((first | apply qa | apply qb | apply qc | apply qd | apply qe | apply qf | apply qg | apply qh | apply qi | apply qj | apply qk) <;> intro hp <;> simp only [hp, g1, h9, h91, hb.1, h4, h5, go_sem])
      simp only [fin_mk, finV, resL, resV1, resIn, endA, listIn, Option.some_or, Option.none_or, oneOrTup, go_sem]
      rw [← hr]
end Go.Proofs.YtonjbbfgdloljaaGreatDoor.L

