/- Numbers and short texts read out of texts. -/
import Derived.Test.YtimiccneikhkgaaGreatDoorVLT3
import Derived.Test.YtimiccneikhkgaaGreatDoorVLRs3
import Derived.Test.YtimiccneikhkgaaGreatDoorVmCur
namespace Go.Proofs.YtimiccneikhkgaaGreatDoor.L
open Go Go.VM
set_option maxRecDepth 100000
set_option maxHeartbeats 4000000
set_option linter.unusedSimpArgs false
set_option linter.unusedVariables false
/-- The number of some bytes, seven bits each. -/
def valB : List UInt8 → Nat
  | [] => 0
  | c :: s => c.toNat % 128 + 128 * valB s
theorem valB_snoc (c : UInt8) : ∀ s : List UInt8, valB (s ++ [c]) = valB s + c.toNat % 128 * 128 ^ s.length
  | [] => by simp [valB]
  | b :: s => by
    simp only [List.cons_append, valB, valB_snoc c s, List.length_cons, Nat.pow_succ, Nat.mul_add]
    rw [Nat.mul_left_comm 128, Nat.mul_comm 128 (128 ^ s.length)]; omega
theorem valB_lt : ∀ s : List UInt8, valB s < 128 ^ s.length
  | [] => by simp [valB]
  | b :: s => by
    have := valB_lt s
    simp only [valB, List.length_cons, Nat.pow_succ]
    omega
theorem varN_ne (n : Nat) : varN n ≠ [] := by
  by_cases h : 127 < n
  · rw [varN_big h]; simp
  · rw [varN_small h]; simp
theorem varN_val (c : UInt8) (hc : c.toNat ≤ 127) : ∀ s : List UInt8, (∀ x ∈ s, 127 < x.toNat) → (varN (valB (s ++ [c])) = s ++ [c] ↔ (s = [] ∨ c ≠ 0))
  | [], _ => by
    have e : valB ([] ++ [c]) = c.toNat := by simp [valB]; omega
    rw [e, varN_small (by omega)]
    simp
  | b :: s, h => by
    have ih := varN_val c hc s fun x hx => h x (by simp [hx])
    have hb := h b (by simp)
    have hb2 : b.toNat < 256 := b.toNat_lt
    have h0 : c = 0 ↔ c.toNat = 0 := ⟨fun e => by rw [e]; rfl, fun e => UInt8.toNat_inj.1 e⟩
    by_cases hv : valB (s ++ [c]) = 0
    · have hc0 : c.toNat = 0 := by
        rw [valB_snoc] at hv
        have h1 : c.toNat % 128 * 128 ^ s.length = 0 := by omega
        rcases Nat.mul_eq_zero.1 h1 with h2 | h2
        · omega
        · have := Nat.pow_pos (n := s.length) (show 0 < 128 by decide); omega
      have e : valB (b :: s ++ [c]) = b.toNat % 128 := by rw [List.cons_append, valB, hv]; omega
      rw [e, varN_small (by omega)]
      constructor
      · intro h
        have := congrArg List.length h
        simp at this
      · rintro (h | h)
        · cases h
        · exact absurd (h0.2 hc0) h
    · have e : valB (b :: s ++ [c]) = b.toNat % 128 + 128 * valB (s ++ [c]) := rfl
      have e8 : UInt8.ofNat b.toNat = b := by simp
      rw [e, varN_big (by omega), show (b.toNat % 128 + 128 * valB (s ++ [c])) % 128 + 128 = b.toNat by omega, e8, show (b.toNat % 128 + 128 * valB (s ++ [c])) / 128 = valB (s ++ [c]) by omega]
      rw [List.cons_append, List.cons.injEq, ih]
      constructor
      · rintro ⟨_, h | h⟩
        · subst h
          right
          intro hz
          exact hv (by have := h0.1 hz; simp [valB, this])
        · exact .inr h
      · rintro (h | h)
        · cases h
        · exact ⟨rfl, .inr h⟩
def bigB (c : UInt8) : Bool := decide (127 < c.toNat)
/-- The place of a number's last byte. -/
def stop (s : List UInt8) : Nat := (s.takeWhile bigB).length
theorem takeWhile_ge {α : Type} {p : α → Bool} : ∀ {s : List α} {i : Nat}, (∀ x ∈ s.take i, p x = true) → i ≤ s.length → i ≤ (s.takeWhile p).length
  | _, 0, _, _ => Nat.zero_le _
  | [], i + 1, _, h => by simp at h
  | x :: s, i + 1, ha, h => by
    rw [List.takeWhile_cons, if_pos (ha x (by simp)), List.length_cons]
    have := takeWhile_ge (s := s) (i := i) (fun y hy => ha y (by simp [hy])) (by simpa using h)
    omega
theorem stop_at {s : List UInt8} {i : Nat} (ha : ∀ x ∈ s.take i, bigB x = true) (h : i < s.length) (hx : bigB s[i] = false) : stop s = i := by
  rw [stop, takeWhile_at ha h hx, List.length_take]; omega
def rvB (s : List UInt8) : Bool := decide (stop s < s.length) && decide (stop s < 5) && decide (valB (s.take (stop s + 1)) ≤ 1000000000) && (decide (stop s = 0) || !(s.getD (stop s) 0 == 0))
def rvV (s : List UInt8) : Int := if rvB s = true then valB (s.take (stop s + 1)) else 0
def rvN (a : Int) (s : List UInt8) : Int := if rvB s = true then a + stop s + 1 else 0
theorem rvB_far {s : List UInt8} {i : Nat} (ha : ∀ x ∈ s.take i, bigB x = true) (hi : i ≤ s.length) (h : ¬ (i < 5 ∧ i < s.length)) : rvB s = false := by
  have h1 : i ≤ stop s := takeWhile_ge ha hi
  have h2 : stop s ≤ s.length := (List.takeWhile_sublist (l := s) bigB).length_le
  rw [rvB]
  by_cases h3 : stop s < s.length
  · have h4 : ¬ stop s < 5 := by omega
    simp [h4]
  · simp [h3]
theorem big_step {s : List UInt8} {i : Nat} (ha : ∀ x ∈ s.take i, bigB x = true) (h : i < s.length) (hx : bigB s[i] = true) : ∀ x ∈ s.take (i + 1), bigB x = true := by
  rw [take_succ' h]
  intro x hx'
  rcases List.mem_append.1 hx' with h1 | h1
  · exact ha x h1
  · simp only [List.mem_singleton] at h1; rw [h1]; exact hx
theorem valB_step {s : List UInt8} {i : Nat} (h : i < s.length) : valB (s.take (i + 1)) = valB (s.take i) + s[i].toNat % 128 * 128 ^ i := by
  rw [take_succ' h, valB_snoc, List.length_take, Nat.min_eq_left (by omega)]
theorem pow128 {i : Nat} (h : i ≤ 5) : 128 ^ i ≤ 34359738368 ∧ 1 ≤ 128 ^ i := by
  have : ∀ n : Fin 6, 128 ^ n.val ≤ 34359738368 ∧ 1 ≤ 128 ^ n.val := by decide
  exact this ⟨i, by omega⟩
theorem valB_room {s : List UInt8} {i : Nat} (h : i ≤ 5) (hi : i ≤ s.length) : valB (s.take i) < 34359738368 := by
  have h1 := valB_lt (s.take i)
  rw [List.length_take, Nat.min_eq_left hi] at h1
  have := (pow128 h).1
  omega
theorem shift7 {c i : Nat} (hc : c < 128) (h : i < 5) : IntKind.i64.wrap ((c : Int) * 2 ^ (min (7 * i) 64)) = ((c * 128 ^ i : Nat) : Int) := by
  have e : min (7 * i) 64 = 7 * i := by omega
  have e2 : (2 : Int) ^ (7 * i) = ((128 ^ i : Nat) : Int) := by
    have : ∀ n : Fin 6, (2 : Int) ^ (7 * n.val) = ((128 ^ n.val : Nat) : Int) := by decide
    exact this ⟨i, by omega⟩
  rw [e, e2]
  have h1 := (pow128 (i := i) (by omega)).1
  have h2 : c * 128 ^ i ≤ 128 * 34359738368 := Nat.mul_le_mul (by omega) h1
  rw [← Int.natCast_mul]
  exact wrap64 (by omega) (by omega)
open Classical in
noncomputable def spReadVar : VM.Spec := { modes := [.rd, .rd], run := fun | [.str t, .int .i64 a] => if 0 ≤ a ∧ a ≤ t.length ∧ t.length ≤ 4194304 then some (.tup [.int .i64 (rvV (t.drop a.toNat)), .int .i64 (rvN a (t.drop a.toNat)), .bool (rvB (t.drop a.toNat))], []) else none | _ => none, need := [] }
attribute [go_sem] spReadVar
theorem spReadVar_in {ins : List V} {r : V} {outs : List V} (h : spReadVar.run ins = some (r, outs)) : ∃ (t : (List UInt8)) (a : Int), ins = [.str t, .int .i64 a] ∧ (0 ≤ a ∧ a ≤ t.length ∧ t.length ≤ 4194304) ∧ .tup [.int .i64 (rvV (t.drop a.toNat)), .int .i64 (rvN a (t.drop a.toNat)), .bool (rvB (t.drop a.toNat))] = r ∧ outs = [] := by
  unfold spReadVar at h
  simp only at h
  split at h
  · rename_i t a
    split at h
    case isFalse => cases h
    rename_i hc
    simp only [Option.some.injEq, Prod.mk.injEq] at h
    obtain ⟨h1, h2⟩ := h
    exact ⟨t, a, rfl, hc, h1, h2.symm⟩
  · cases h
def T_impl_ReadVar : Hints := ⟨fun _ => none, fun i => if i = 5 then some [0, 1, 7, 8] else none, fun i => if i = 0 then some [0, 1] else if i = 1 then some [0, 1, 14] else if i = 2 then some [4, 5, 6] else if i = 3 then some [0, 1, 7] else if i = 4 then some [0, 1, 7, 8] else if i = 5 then some [0, 1, 7, 8, 24] else if i = 7 then some [0, 1, 7, 8, 9] else if i = 8 then some [0, 1, 7, 8, 9] else if i = 9 then some [0, 1, 7, 8, 9, 41] else if i = 10 then some [1, 7, 8, 51] else if i = 11 then some [4, 5, 6] else if i = 12 then some [4, 5, 6] else if i = 6 then some [0, 1, 7, 8] else if i = 13 then some [4, 5, 6] else none, fun _ => none⟩
noncomputable def Phi_impl_ReadVar : Tab := fun f => if f = 59 then some spWithin else none
attribute [go_sem] T_impl_ReadVar Phi_impl_ReadVar
theorem phi_impl_ReadVar : ∀ f sp, Phi_impl_ReadVar f = some sp → FnOk Tryz.prog f sp ∧ ∀ n ∈ sp.need, n ∈ ([] : List String) := by
  intro f sp h
  unfold Phi_impl_ReadVar at h
  by_cases e : f = 59
  · rw [if_pos e] at h; cases h; rw [e]; exact ⟨ok_impl_within, (fun n (h : n ∈ ([] : List String)) => (nomatch h))⟩
  rw [if_neg e] at h
  cases h
theorem ok_impl_ReadVar : FnOk Tryz.prog 102 spReadVar := by
  refine fn_ok (Φ := Phi_impl_ReadVar) (T := T_impl_ReadVar) phi_impl_ReadVar mixed Tryz.func102 rfl rfl rfl (by decide) ?_
  intro ins r outs hr hl
  clear hl
  have hs := spReadVar_in hr
  clear hr
  obtain ⟨t, a, rfl, hc, hr, rfl⟩ := hs
  simp only [spReadVar, Tryz.f102, Go.VM.initS]
  obtain ⟨h0, h1, h2⟩ := hc
  obtain ⟨k, rfl⟩ : ∃ k : Nat, a = k := ⟨a.toNat, by omega⟩
  have hk : k ≤ t.length := by omega
  have hw : within (k : Int) 0 t.length = true := by simp only [within, Bool.and_eq_true, decide_eq_true_eq]; omega
  simp only [Int.toNat_natCast] at hr
  obtain ⟨s, hs⟩ : ∃ s, t.drop k = s := ⟨_, rfl⟩
  have hsl : s.length = t.length - k := by rw [← hs, List.length_drop]
  rw [hs] at hr
  simp only [hw, go_sem]
  repeat' ((first | ((first | apply qa | apply qb | apply qc | apply qd | apply qe | apply qf | apply qg | apply qh | apply qi | apply qj | apply qk) <;> intro hp) | ((first | refine ql rfl rfl (by decide +kernel) ?_ | refine qm _ rfl rfl (by decide +kernel) ?_ | refine goes_opn rfl ?_ | refine goes_opnD rfl rfl (by decide +kernel) ?_) <;> have hp := True.intro)) <;> simp only [hp, hw, go_sem])
  refine loop_go (fun i : Nat => [(7, .int .i64 ((valB (s.take i) : Nat) : Int)), (8, .int .i64 (i : Int))]) (fun _ => []) (fun i => 5 - i) (fun i => i ≤ 5 ∧ i ≤ s.length ∧ ∀ x ∈ s.take i, bigB x = true) 0 ⟨Nat.zero_le _, Nat.zero_le _, by simp⟩ rfl rfl ?_
  intro i ⟨hi5, hi, ha⟩ ih
  have g0 : IntKind.i64.wrap ((k : Int) + (i : Int)) = ((k + i : Nat) : Int) := (wrap64 (by omega) (by omega)).trans (by omega)
  by_cases h5 : i < 5
  · have g1 : (i : Int) < 5 := by omega
    rcases Nat.lt_or_ge i s.length with h | h
    · have g2 : ((k + i : Nat) : Int) < t.length := by omega
      have g3 : (0 : Int) ≤ ((k + i : Nat) : Int) := by omega
      have g4 : t[k + i]? = some s[i] := by rw [← List.getElem?_eq_getElem h, ← hs, List.getElem?_drop]
      have g5 := wrap_succ h5 (by omega)
      have g6 : (s[i].toNat : Int).tmod 128 = ((s[i].toNat % 128 : Nat) : Int) := tmod_nat s[i].toNat 128
      have hsb : s[i].toNat < 256 := s[i].toNat_lt
      have gw : IntKind.i64.wrap (s[i].toNat : Int) = (s[i].toNat : Int) := wrap64 (by omega) (by omega)
      have g7 : IntKind.i64.wrap (7 * (i : Int)) = ((7 * i : Nat) : Int) := (wrap64 (by omega) (by omega)).trans (by omega)
      have g8 := shift7 (c := s[i].toNat % 128) (i := i) (by omega) h5
      have g9 : ¬ ((7 * i : Nat) : Int) < 0 := by omega
      have hv := valB_step h
      have hv1 := valB_room (s := s) (i := i + 1) (by omega) (by omega)
      have g10 : IntKind.i64.wrap (((valB (s.take i) : Nat) : Int) + ((s[i].toNat % 128 * 128 ^ i : Nat) : Int)) = ((valB (s.take (i + 1)) : Nat) : Int) := by
        rw [hv]; exact (wrap64 (by omega) (by omega)).trans (by omega)
      cases hb : bigB s[i] with
      | true =>
        have b1 : (127 : Int) < s[i].toNat := by simp only [bigB, decide_eq_true_eq] at hb; omega
        have ih' := ih (i + 1) ⟨by omega, h, big_step ha h hb⟩ (by omega)
        simp only [g0, g1, g2, g3, g4, gw, g5, g6, g7, g8, g9, g10, b1, go_sem]
        repeat' ((first | ((first | apply qa | apply qb | apply qc | apply qd | apply qe | apply qf | apply qg | apply qh | apply qi | apply qj | apply qk) <;> intro hp) | ((first | refine ql rfl rfl (by decide +kernel) ?_ | refine qm _ rfl rfl (by decide +kernel) ?_ | refine goes_opn rfl ?_ | refine goes_opnD rfl rfl (by decide +kernel) ?_) <;> have hp := True.intro)) <;> simp only [hp, g0, g1, g2, g3, g4, gw, g5, g6, g7, g8, g9, g10, b1, go_sem])
        exact ih'
      | false =>
        have b0 : ¬ 127 < s[i].toNat := by simpa only [bigB, decide_eq_false_iff_not] using hb
        have b1 : ¬ (127 : Int) < s[i].toNat := by omega
        have hst := stop_at ha h hb
        have hB : rvB s = (decide (valB (s.take (i + 1)) ≤ 1000000000) && (decide (i = 0) || !(s[i] == 0))) := by
          rw [rvB, hst, getD_lt h, decide_eq_true h, decide_eq_true h5, Bool.and_self, Bool.true_and]
        have hz : ((s[i].toNat : Int) == 0) = (s[i] == 0) := by
          rw [Bool.eq_iff_iff, beq_iff_eq, beq_iff_eq]
          exact ⟨fun e => UInt8.toNat_inj.1 (by have e0 : (0 : UInt8).toNat = 0 := rfl; omega), fun e => by rw [e]; rfl⟩
        simp only [rvV, rvN, hst] at hr
        have g11 : IntKind.i64.wrap (((k + i : Nat) : Int) + 1) = ((k + i + 1 : Nat) : Int) := (wrap64 (by omega) (by omega)).trans (by omega)
        generalize hV : valB (s.take (i + 1)) = V at *
        by_cases c1 : 0 < i ∧ s[i] = 0
        · have d1 : (0 : Int) < i := by omega
          have d2 : (s[i] == 0) = true := by rw [beq_iff_eq]; exact c1.2
          have d3 : decide (i = 0) = false := by simp; omega
          rw [d2, d3, Bool.not_true, Bool.or_self, Bool.and_false] at hB
          rw [hB] at hr
          rw [d2] at hz
          simp only [g0, g1, g2, g3, g4, gw, g5, g6, g7, g8, g9, g10, b1, d1, hz, go_sem]
          repeat' ((first | ((first | apply qa | apply qb | apply qc | apply qd | apply qe | apply qf | apply qg | apply qh | apply qi | apply qj | apply qk) <;> intro hp) | ((first | refine ql rfl rfl (by decide +kernel) ?_ | refine qm _ rfl rfl (by decide +kernel) ?_ | refine goes_opn rfl ?_ | refine goes_opnD rfl rfl (by decide +kernel) ?_) <;> have hp := True.intro)) <;> simp only [hp, g0, g1, g2, g3, g4, gw, g5, g6, g7, g8, g9, g10, b1, d1, hz, go_sem])
          simp only [fin_mk, finV, resL, resV1, resIn, endA, listIn, Option.some_or, Option.none_or, oneOrTup, go_sem]
          rw [← hr]
          rfl
        · by_cases c2 : 1000000000 < V
          · have d4 : (1000000000 : Int) < V := by omega
            rw [decide_eq_false (by omega), Bool.false_and] at hB
            rw [hB] at hr
            by_cases d1 : (0 : Int) < i
            · have d2 : (s[i] == 0) = false := by rw [beq_eq_false_iff_ne]; exact fun e => c1 ⟨by omega, e⟩
              rw [d2] at hz
              simp only [g0, g1, g2, g3, g4, gw, g5, g6, g7, g8, g9, g10, b1, d1, hz, d4, go_sem]
              repeat' ((first | ((first | apply qa | apply qb | apply qc | apply qd | apply qe | apply qf | apply qg | apply qh | apply qi | apply qj | apply qk) <;> intro hp) | ((first | refine ql rfl rfl (by decide +kernel) ?_ | refine qm _ rfl rfl (by decide +kernel) ?_ | refine goes_opn rfl ?_ | refine goes_opnD rfl rfl (by decide +kernel) ?_) <;> have hp := True.intro)) <;> simp only [hp, g0, g1, g2, g3, g4, gw, g5, g6, g7, g8, g9, g10, b1, d1, hz, d4, go_sem])
              simp only [fin_mk, finV, resL, resV1, resIn, endA, listIn, Option.some_or, Option.none_or, oneOrTup, go_sem]
              rw [← hr]
              rfl
            · simp only [g0, g1, g2, g3, g4, gw, g5, g6, g7, g8, g9, g10, b1, d1, d4, go_sem]
              repeat' ((first | ((first | apply qa | apply qb | apply qc | apply qd | apply qe | apply qf | apply qg | apply qh | apply qi | apply qj | apply qk) <;> intro hp) | ((first | refine ql rfl rfl (by decide +kernel) ?_ | refine qm _ rfl rfl (by decide +kernel) ?_ | refine goes_opn rfl ?_ | refine goes_opnD rfl rfl (by decide +kernel) ?_) <;> have hp := True.intro)) <;> simp only [hp, g0, g1, g2, g3, g4, gw, g5, g6, g7, g8, g9, g10, b1, d1, d4, go_sem])
              simp only [fin_mk, finV, resL, resV1, resIn, endA, listIn, Option.some_or, Option.none_or, oneOrTup, go_sem]
              rw [← hr]
              rfl
          · have d4 : ¬ (1000000000 : Int) < V := by omega
            have hor : (decide (i = 0) || !(s[i] == 0)) = true := by
              by_cases d1 : i = 0
              · simp [d1]
              · have d2 : (s[i] == 0) = false := by rw [beq_eq_false_iff_ne]; exact fun e => c1 ⟨by omega, e⟩
                rw [d2]; simp
            rw [decide_eq_true (by omega), hor] at hB
            rw [hB] at hr
            have e1 : (k : Int) + (i : Int) + 1 = ((k + i + 1 : Nat) : Int) := by omega
            simp only [Bool.and_self, if_true, e1] at hr
            by_cases d1 : (0 : Int) < i
            · have d2 : (s[i] == 0) = false := by rw [beq_eq_false_iff_ne]; exact fun e => c1 ⟨by omega, e⟩
              rw [d2] at hz
              simp only [g0, g1, g2, g3, g4, gw, g5, g6, g7, g8, g9, g10, g11, b1, d1, hz, d4, go_sem]
              repeat' ((first | ((first | apply qa | apply qb | apply qc | apply qd | apply qe | apply qf | apply qg | apply qh | apply qi | apply qj | apply qk) <;> intro hp) | ((first | refine ql rfl rfl (by decide +kernel) ?_ | refine qm _ rfl rfl (by decide +kernel) ?_ | refine goes_opn rfl ?_ | refine goes_opnD rfl rfl (by decide +kernel) ?_) <;> have hp := True.intro)) <;> simp only [hp, g0, g1, g2, g3, g4, gw, g5, g6, g7, g8, g9, g10, g11, b1, d1, hz, d4, go_sem])
              simp only [fin_mk, finV, resL, resV1, resIn, endA, listIn, Option.some_or, Option.none_or, oneOrTup, go_sem]
              rw [← hr]
            · simp only [g0, g1, g2, g3, g4, gw, g5, g6, g7, g8, g9, g10, g11, b1, d1, d4, go_sem]
              repeat' ((first | ((first | apply qa | apply qb | apply qc | apply qd | apply qe | apply qf | apply qg | apply qh | apply qi | apply qj | apply qk) <;> intro hp) | ((first | refine ql rfl rfl (by decide +kernel) ?_ | refine qm _ rfl rfl (by decide +kernel) ?_ | refine goes_opn rfl ?_ | refine goes_opnD rfl rfl (by decide +kernel) ?_) <;> have hp := True.intro)) <;> simp only [hp, g0, g1, g2, g3, g4, gw, g5, g6, g7, g8, g9, g10, g11, b1, d1, d4, go_sem])
              simp only [fin_mk, finV, resL, resV1, resIn, endA, listIn, Option.some_or, Option.none_or, oneOrTup, go_sem]
              rw [← hr]
    · have g2 : ¬ ((k + i : Nat) : Int) < t.length := by omega
      have hB := rvB_far ha hi (by omega)
      simp only [rvV, rvN, hB, Bool.false_eq_true, if_false] at hr
      simp only [g0, g1, g2, go_sem]
      repeat' ((first | ((first | apply qa | apply qb | apply qc | apply qd | apply qe | apply qf | apply qg | apply qh | apply qi | apply qj | apply qk) <;> intro hp) | ((first | refine ql rfl rfl (by decide +kernel) ?_ | refine qm _ rfl rfl (by decide +kernel) ?_ | refine goes_opn rfl ?_ | refine goes_opnD rfl rfl (by decide +kernel) ?_) <;> have hp := True.intro)) <;> simp only [hp, g0, g1, g2, go_sem])
      simp only [fin_mk, finV, resL, resV1, resIn, endA, listIn, Option.some_or, Option.none_or, oneOrTup, go_sem]
      rw [← hr]
  · have g1 : ¬ (i : Int) < 5 := by omega
    have hB := rvB_far ha hi (by omega)
    simp only [rvV, rvN, hB, Bool.false_eq_true, if_false] at hr
    simp only [g1, go_sem]
    repeat' ((first | ((first | apply qa | apply qb | apply qc | apply qd | apply qe | apply qf | apply qg | apply qh | apply qi | apply qj | apply qk) <;> intro hp) | ((first | refine ql rfl rfl (by decide +kernel) ?_ | refine qm _ rfl rfl (by decide +kernel) ?_ | refine goes_opn rfl ?_ | refine goes_opnD rfl rfl (by decide +kernel) ?_) <;> have hp := True.intro)) <;> simp only [hp, g1, go_sem])
    simp only [fin_mk, finV, resL, resV1, resIn, endA, listIn, Option.some_or, Option.none_or, oneOrTup, go_sem]
    rw [← hr]
def T_spec_ReadVar : Hints := ⟨fun i => if i = 11 then some [(4, 9)] else none, fun i => if i = 6 then some [0, 1, 7, 8, 9] else none, fun i => if i = 0 then some [0, 1] else if i = 1 then some [0, 1, 14] else if i = 2 then some [4, 5, 6] else if i = 3 then some [0, 1, 7] else if i = 4 then some [0, 1, 7, 8] else if i = 5 then some [0, 1, 7, 8, 9] else if i = 6 then some [0, 1, 7, 8, 9, 25] else if i = 8 then some [0, 1, 7, 8, 9] else if i = 9 then some [0, 1, 7, 8, 9] else if i = 10 then some [0, 1, 7, 8, 9, 42] else if i = 11 then some [7, 9, 54] else if i = 12 then some [4, 5, 6] else if i = 13 then some [4, 5, 6] else if i = 7 then some [0, 1, 7, 8, 9] else if i = 14 then some [4, 5, 6] else none, fun _ => none⟩
noncomputable def Phi_spec_ReadVar : Tab := fun f => if f = 53 then some spWithin else if f = 111 then some spVarBytes else none
attribute [go_sem] T_spec_ReadVar Phi_spec_ReadVar
theorem phi_spec_ReadVar : ∀ f sp, Phi_spec_ReadVar f = some sp → FnOk Tryz.prog f sp ∧ ∀ n ∈ sp.need, n ∈ ([] : List String) := by
  intro f sp h
  unfold Phi_spec_ReadVar at h
  by_cases e : f = 53
  · rw [if_pos e] at h; cases h; rw [e]; exact ⟨ok_spec_l01In, (fun n (h : n ∈ ([] : List String)) => (nomatch h))⟩
  rw [if_neg e] at h
  by_cases e : f = 111
  · rw [if_pos e] at h; cases h; rw [e]; exact ⟨ok_spec_l01Var, (fun n (h : n ∈ ([] : List String)) => (nomatch h))⟩
  rw [if_neg e] at h
  cases h
theorem ok_spec_ReadVar : FnOk Tryz.prog 114 spReadVar := by
  refine fn_ok (Φ := Phi_spec_ReadVar) (T := T_spec_ReadVar) phi_spec_ReadVar mixed Tryz.func114 rfl rfl rfl (by decide) ?_
  intro ins r outs hr hl
  clear hl
  have hs := spReadVar_in hr
  clear hr
  obtain ⟨t, a, rfl, hc, hr, rfl⟩ := hs
  simp only [spReadVar, Tryz.f114, Go.VM.initS]
  obtain ⟨h0, h1, h2⟩ := hc
  obtain ⟨k, rfl⟩ : ∃ k : Nat, a = k := ⟨a.toNat, by omega⟩
  have hk : k ≤ t.length := by omega
  have hw : within (k : Int) 0 t.length = true := by simp only [within, Bool.and_eq_true, decide_eq_true_eq]; omega
  simp only [Int.toNat_natCast] at hr
  obtain ⟨s, hs⟩ : ∃ s, t.drop k = s := ⟨_, rfl⟩
  have hsl : s.length = t.length - k := by rw [← hs, List.length_drop]
  rw [hs] at hr
  simp only [hw, go_sem]
  repeat' ((first | ((first | apply qa | apply qb | apply qc | apply qd | apply qe | apply qf | apply qg | apply qh | apply qi | apply qj | apply qk) <;> intro hp) | ((first | refine ql rfl rfl (by decide +kernel) ?_ | refine qm _ rfl rfl (by decide +kernel) ?_ | refine goes_opn rfl ?_ | refine goes_opnD rfl rfl (by decide +kernel) ?_) <;> have hp := True.intro)) <;> simp only [hp, hw, go_sem])
  refine loop_go (fun i : Nat => [(7, .int .i64 ((valB (s.take i) : Nat) : Int)), (8, .int .i64 ((128 ^ i : Nat) : Int)), (9, .int .i64 ((k + i : Nat) : Int))]) (fun _ => []) (fun i => 5 - i) (fun i => i ≤ 5 ∧ i ≤ s.length ∧ ∀ x ∈ s.take i, bigB x = true) 0 ⟨Nat.zero_le _, Nat.zero_le _, by simp⟩ rfl rfl ?_
  intro i ⟨hi5, hi, ha⟩ ih
  have g0 : IntKind.i64.wrap ((k : Int) + 5) = ((k + 5 : Nat) : Int) := (wrap64 (by omega) (by omega)).trans (by omega)
  rcases Nat.lt_or_ge i s.length with h | h
  · have g2 : ((k + i : Nat) : Int) < t.length := by omega
    by_cases h5 : i < 5
    · have g1 : ((k + i : Nat) : Int) < ((k + 5 : Nat) : Int) := by omega
      have g3 : (0 : Int) ≤ ((k + i : Nat) : Int) := by omega
      have g4 : t[k + i]? = some s[i] := by rw [← List.getElem?_eq_getElem h, ← hs, List.getElem?_drop]
      have g5 : IntKind.i64.wrap (((k + i : Nat) : Int) + 1) = ((k + (i + 1) : Nat) : Int) := (wrap64 (by omega) (by omega)).trans (by omega)
      have g6 : (s[i].toNat : Int).tmod 128 = ((s[i].toNat % 128 : Nat) : Int) := tmod_nat s[i].toNat 128
      have hsb : s[i].toNat < 256 := s[i].toNat_lt
      have gw : IntKind.i64.wrap (s[i].toNat : Int) = (s[i].toNat : Int) := wrap64 (by omega) (by omega)
      have hp := pow128 (i := i) (by omega)
      have hm : s[i].toNat % 128 * 128 ^ i ≤ 128 * 34359738368 := Nat.mul_le_mul (by omega) hp.1
      have g8 : IntKind.i64.wrap (((s[i].toNat % 128 : Nat) : Int) * ((128 ^ i : Nat) : Int)) = ((s[i].toNat % 128 * 128 ^ i : Nat) : Int) := by
        rw [← Int.natCast_mul]; exact wrap64 (by omega) (by omega)
      have g9 : IntKind.i64.wrap (((128 ^ i : Nat) : Int) * 128) = ((128 ^ (i + 1) : Nat) : Int) := by
        rw [Nat.pow_succ]; exact (wrap64 (by omega) (by omega)).trans (by omega)
      have hv := valB_step h
      have hv1 := valB_room (s := s) (i := i + 1) (by omega) (by omega)
      have g10 : IntKind.i64.wrap (((valB (s.take i) : Nat) : Int) + ((s[i].toNat % 128 * 128 ^ i : Nat) : Int)) = ((valB (s.take (i + 1)) : Nat) : Int) := by
        rw [hv]; exact (wrap64 (by omega) (by omega)).trans (by omega)
      have g12 : (t.take (k + (i + 1))).drop k = s.take (i + 1) := by rw [List.drop_take, hs]; congr 1; omega
      have g13 : k + (i + 1) ≤ t.length := by omega
      have g14 : k ≤ k + (i + 1) := by omega
      have g16 : (0 : Int) ≤ ((k + (i + 1) : Nat) : Int) := by omega
      have g17 : (0 : Int) ≤ (k : Int) := by omega
      have g15 : ((k + i : Nat) : Int) < ((k + 5 : Nat) : Int) := by omega
      generalize hQ : 128 ^ i = Q at *
      cases hb : bigB s[i] with
      | true =>
        have b1 : ¬ (s[i].toNat : Int) < 128 := by simp only [bigB, decide_eq_true_eq] at hb; omega
        have ih' := ih (i + 1) ⟨by omega, h, big_step ha h hb⟩ (by omega)
        simp only [g0, g1, g2, g3, g4, gw, g5, g6, g8, g9, g10, b1, go_sem]
        repeat' ((first | ((first | apply qa | apply qb | apply qc | apply qd | apply qe | apply qf | apply qg | apply qh | apply qi | apply qj | apply qk) <;> intro hp) | ((first | refine ql rfl rfl (by decide +kernel) ?_ | refine qm _ rfl rfl (by decide +kernel) ?_ | refine goes_opn rfl ?_ | refine goes_opnD rfl rfl (by decide +kernel) ?_) <;> have hp := True.intro)) <;> simp only [hp, g0, g1, g2, g3, g4, gw, g5, g6, g8, g9, g10, b1, go_sem])
        exact ih'
      | false =>
        have b0 : ¬ 127 < s[i].toNat := by simpa only [bigB, decide_eq_false_iff_not] using hb
        have b1 : (s[i].toNat : Int) < 128 := by omega
        have hst := stop_at ha h hb
        have hB : rvB s = (decide (valB (s.take (i + 1)) ≤ 1000000000) && (decide (i = 0) || !(s[i] == 0))) := by
          rw [rvB, hst, getD_lt h, decide_eq_true h, decide_eq_true h5, Bool.and_self, Bool.true_and]
        have hcan := varN_val s[i] (by omega) (s.take i) fun x hx => by simpa only [bigB, decide_eq_true_eq] using ha x hx
        rw [← take_succ' h] at hcan
        have hne : (varN (valB (s.take (i + 1))) == s.take (i + 1)) = (decide (i = 0) || !(s[i] == 0)) := by
          rw [Bool.eq_iff_iff, beq_iff_eq, hcan, Bool.or_eq_true, decide_eq_true_eq, Bool.not_eq_true', beq_eq_false_iff_ne]
          have : s.take i = [] ↔ i = 0 := ⟨fun e => by have := congrArg List.length e; rw [List.length_take, List.length_nil] at this; omega, fun e => by rw [e]; rfl⟩
          rw [this]
        simp only [rvV, rvN, hst] at hr
        have g11 : IntKind.i64.wrap (((k + i : Nat) : Int) + 1) = ((k + i + 1 : Nat) : Int) := (wrap64 (by omega) (by omega)).trans (by omega)
        have hV0 : (0 : Int) ≤ ((valB (s.take (i + 1)) : Nat) : Int) := by omega
        have hV1 : ((valB (s.take (i + 1)) : Nat) : Int) ≤ 70368744177664 := by omega
        generalize hV : valB (s.take (i + 1)) = V at *
        generalize hor : (decide (i = 0) || !(s[i] == 0)) = O at *
        by_cases c2 : 1000000000 < V
        · have d4 : (1000000000 : Int) < V := by omega
          rw [decide_eq_false (by omega), Bool.false_and] at hB
          rw [hB] at hr
          simp only [g0, g1, g2, g3, g4, gw, g5, g6, g8, g9, g10, b1, d4, go_sem]
          repeat' ((first | ((first | apply qa | apply qb | apply qc | apply qd | apply qe | apply qf | apply qg | apply qh | apply qi | apply qj | apply qk) <;> intro hp) | ((first | refine ql rfl rfl (by decide +kernel) ?_ | refine qm _ rfl rfl (by decide +kernel) ?_ | refine goes_opn rfl ?_ | refine goes_opnD rfl rfl (by decide +kernel) ?_) <;> have hp := True.intro)) <;> simp only [hp, g0, g1, g2, g3, g4, gw, g5, g6, g8, g9, g10, b1, d4, go_sem])
          simp only [fin_mk, finV, resL, resV1, resIn, endA, listIn, Option.some_or, Option.none_or, oneOrTup, go_sem]
          rw [← hr]
          rfl
        · have d4 : ¬ (1000000000 : Int) < V := by omega
          rw [decide_eq_true (by omega), Bool.true_and] at hB
          rw [hB] at hr
          cases O with
          | false =>
            simp only [g0, g1, g2, g3, g4, gw, g5, g6, g8, g9, g10, b1, d4, g12, g13, g14, g16, g17, hV0, hV1, Int.toNat_natCast, go_sem]
            repeat' ((first | ((first | apply qa | apply qb | apply qc | apply qd | apply qe | apply qf | apply qg | apply qh | apply qi | apply qj | apply qk) <;> intro hp) | ((first | refine ql rfl rfl (by decide +kernel) ?_ | refine qm _ rfl rfl (by decide +kernel) ?_ | refine goes_opn rfl ?_ | refine goes_opnD rfl rfl (by decide +kernel) ?_) <;> have hp := True.intro)) <;> simp only [hp, g0, g1, g2, g3, g4, gw, g5, g6, g8, g9, g10, b1, d4, g12, g13, g14, g16, g17, hV0, hV1, Int.toNat_natCast, go_sem])
            all_goals first
              | exact absurd (hne.symm.trans hp) (by decide)
              | (simp only [fin_mk, finV, resL, resV1, resIn, endA, listIn, Option.some_or, Option.none_or, oneOrTup, go_sem]; rw [← hr]; rfl)
          | true =>
            have e1 : (k : Int) + (i : Int) + 1 = ((k + (i + 1) : Nat) : Int) := by omega
            simp only [if_true, e1] at hr
            simp only [g0, g1, g2, g3, g4, gw, g5, g6, g8, g9, g10, b1, d4, g12, g13, g14, g16, g17, hV0, hV1, Int.toNat_natCast, go_sem]
            repeat' ((first | ((first | apply qa | apply qb | apply qc | apply qd | apply qe | apply qf | apply qg | apply qh | apply qi | apply qj | apply qk) <;> intro hp) | ((first | refine ql rfl rfl (by decide +kernel) ?_ | refine qm _ rfl rfl (by decide +kernel) ?_ | refine goes_opn rfl ?_ | refine goes_opnD rfl rfl (by decide +kernel) ?_) <;> have hp := True.intro)) <;> simp only [hp, g0, g1, g2, g3, g4, gw, g5, g6, g8, g9, g10, b1, d4, g12, g13, g14, g16, g17, hV0, hV1, Int.toNat_natCast, go_sem])
            all_goals first
              | exact absurd (hne.symm.trans hp) (by decide)
              | (simp only [fin_mk, finV, resL, resV1, resIn, endA, listIn, Option.some_or, Option.none_or, oneOrTup, go_sem]; rw [← hr])
    · have g1 : ¬ ((k + i : Nat) : Int) < ((k + 5 : Nat) : Int) := by omega
      have hB := rvB_far ha hi (by omega)
      simp only [rvV, rvN, hB, Bool.false_eq_true, if_false] at hr
      simp only [g0, g1, g2, go_sem]
      repeat' ((first | ((first | apply qa | apply qb | apply qc | apply qd | apply qe | apply qf | apply qg | apply qh | apply qi | apply qj | apply qk) <;> intro hp) | ((first | refine ql rfl rfl (by decide +kernel) ?_ | refine qm _ rfl rfl (by decide +kernel) ?_ | refine goes_opn rfl ?_ | refine goes_opnD rfl rfl (by decide +kernel) ?_) <;> have hp := True.intro)) <;> simp only [hp, g0, g1, g2, go_sem])
      simp only [fin_mk, finV, resL, resV1, resIn, endA, listIn, Option.some_or, Option.none_or, oneOrTup, go_sem]
      rw [← hr]
  · have g2 : ¬ ((k + i : Nat) : Int) < t.length := by omega
    have hB := rvB_far ha hi (by omega)
    simp only [rvV, rvN, hB, Bool.false_eq_true, if_false] at hr
    simp only [g0, g2, go_sem]
    repeat' ((first | ((first | apply qa | apply qb | apply qc | apply qd | apply qe | apply qf | apply qg | apply qh | apply qi | apply qj | apply qk) <;> intro hp) | ((first | refine ql rfl rfl (by decide +kernel) ?_ | refine qm _ rfl rfl (by decide +kernel) ?_ | refine goes_opn rfl ?_ | refine goes_opnD rfl rfl (by decide +kernel) ?_) <;> have hp := True.intro)) <;> simp only [hp, g0, g2, go_sem])
    simp only [fin_mk, finV, resL, resV1, resIn, endA, listIn, Option.some_or, Option.none_or, oneOrTup, go_sem]
    rw [← hr]
theorem rvB_in {s : List UInt8} (h : rvB s = true) : stop s < s.length ∧ 0 ≤ rvV s ∧ rvV s ≤ 1000000000 := by
  have h' := h
  simp only [rvB, Bool.and_eq_true, decide_eq_true_eq] at h
  obtain ⟨⟨⟨h1, _⟩, h3⟩, _⟩ := h
  rw [rvV, if_pos h']
  omega
def shB (s : List UInt8) : Bool := rvB s && decide (rvV s ≤ 20000) && decide (rvV s ≤ s.length - (stop s + 1))
def shS (s : List UInt8) : List UInt8 := if shB s = true then (s.drop (stop s + 1)).take (rvV s).toNat else []
def shN (a : Int) (s : List UInt8) : Int := if shB s = true then a + stop s + 1 + rvV s else 0
open Classical in
noncomputable def spReadShort : VM.Spec := { modes := [.rd, .rd], run := fun | [.str t, .int .i64 a] => if 0 ≤ a ∧ a ≤ t.length ∧ t.length ≤ 4194304 then some (.tup [.str (shS (t.drop a.toNat)), .int .i64 (shN a (t.drop a.toNat)), .bool (shB (t.drop a.toNat))], []) else none | _ => none, need := [] }
attribute [go_sem] spReadShort
theorem spReadShort_in {ins : List V} {r : V} {outs : List V} (h : spReadShort.run ins = some (r, outs)) : ∃ (t : (List UInt8)) (a : Int), ins = [.str t, .int .i64 a] ∧ (0 ≤ a ∧ a ≤ t.length ∧ t.length ≤ 4194304) ∧ .tup [.str (shS (t.drop a.toNat)), .int .i64 (shN a (t.drop a.toNat)), .bool (shB (t.drop a.toNat))] = r ∧ outs = [] := by
  unfold spReadShort at h
  simp only at h
  split at h
  · rename_i t a
    split at h
    case isFalse => cases h
    rename_i hc
    simp only [Option.some.injEq, Prod.mk.injEq] at h
    obtain ⟨h1, h2⟩ := h
    exact ⟨t, a, rfl, hc, h1, h2.symm⟩
  · cases h
def T_impl_ReadShort : Hints := ⟨fun _ => none, fun _ => none, fun i => if i = 0 then some [0, 1] else if i = 1 then some [0, 7, 8, 9] else if i = 2 then some [0, 7, 8, 30] else if i = 3 then some [4, 5, 6] else if i = 4 then some [4, 5, 6] else none, fun _ => none⟩
noncomputable def Phi_impl_ReadShort : Tab := fun f => if f = 102 then some spReadVar else none
attribute [go_sem] T_impl_ReadShort Phi_impl_ReadShort
theorem phi_impl_ReadShort : ∀ f sp, Phi_impl_ReadShort f = some sp → FnOk Tryz.prog f sp ∧ ∀ n ∈ sp.need, n ∈ ([] : List String) := by
  intro f sp h
  unfold Phi_impl_ReadShort at h
  by_cases e : f = 102
  · rw [if_pos e] at h; cases h; rw [e]; exact ⟨ok_impl_ReadVar, (fun n (h : n ∈ ([] : List String)) => (nomatch h))⟩
  rw [if_neg e] at h
  cases h
theorem ok_impl_ReadShort : FnOk Tryz.prog 101 spReadShort := by
  refine fn_ok (Φ := Phi_impl_ReadShort) (T := T_impl_ReadShort) phi_impl_ReadShort mixed Tryz.func101 rfl rfl rfl (by decide) ?_
  intro ins r outs hr hl
  clear hl
  have hs := spReadShort_in hr
  clear hr
  obtain ⟨t, a, rfl, hc, hr, rfl⟩ := hs
  simp only [spReadShort, Tryz.f101, Go.VM.initS]
  obtain ⟨h0, h1, h2⟩ := hc
  obtain ⟨k, rfl⟩ : ∃ k : Nat, a = k := ⟨a.toNat, by omega⟩
  have hk : k ≤ t.length := by omega
  simp only [Int.toNat_natCast] at hr
  obtain ⟨s, hs⟩ : ∃ s, t.drop k = s := ⟨_, rfl⟩
  have hsl : s.length = t.length - k := by rw [← hs, List.length_drop]
  rw [hs] at hr
  cases hB : rvB s with
  | false =>
    have e : shB s = false := by rw [shB, hB]; rfl
    simp only [shS, shN, e, Bool.false_eq_true, if_false] at hr
    simp only [h0, h1, h2, Int.toNat_natCast, hs, hB, go_sem]
    repeat' ((first | ((first | apply qa | apply qb | apply qc | apply qd | apply qe | apply qf | apply qg | apply qh | apply qi | apply qj | apply qk) <;> intro hp) | ((first | refine ql rfl rfl (by decide +kernel) ?_ | refine qm _ rfl rfl (by decide +kernel) ?_ | refine goes_opn rfl ?_ | refine goes_opnD rfl rfl (by decide +kernel) ?_) <;> have hp := True.intro)) <;> simp only [hp, h0, h1, h2, Int.toNat_natCast, hs, hB, go_sem])
    simp only [fin_mk, finV, resL, resV1, resIn, endA, listIn, Option.some_or, Option.none_or, oneOrTup, go_sem]
    rw [← hr]
  | true =>
    obtain ⟨r1, r2, r3⟩ := rvB_in hB
    have hN : rvN k s = ((k + stop s + 1 : Nat) : Int) := by rw [rvN, if_pos hB]; omega
    obtain ⟨v, hv⟩ : ∃ v : Nat, rvV s = v := ⟨(rvV s).toNat, by omega⟩
    rw [hv] at r2 r3
    have g1 : IntKind.i64.wrap ((t.length : Int) - ((k + stop s + 1 : Nat) : Int)) = ((t.length - (k + stop s + 1) : Nat) : Int) := (wrap64 (by omega) (by omega)).trans (by omega)
    by_cases c1 : (20000 : Int) < v
    · have e : shB s = false := by rw [shB, hB, hv, decide_eq_false (by omega)]; rfl
      simp only [shS, shN, e, Bool.false_eq_true, if_false] at hr
      simp only [h0, h1, h2, Int.toNat_natCast, hs, hB, hN, hv, c1, go_sem]
      repeat' ((first | ((first | apply qa | apply qb | apply qc | apply qd | apply qe | apply qf | apply qg | apply qh | apply qi | apply qj | apply qk) <;> intro hp) | ((first | refine ql rfl rfl (by decide +kernel) ?_ | refine qm _ rfl rfl (by decide +kernel) ?_ | refine goes_opn rfl ?_ | refine goes_opnD rfl rfl (by decide +kernel) ?_) <;> have hp := True.intro)) <;> simp only [hp, h0, h1, h2, Int.toNat_natCast, hs, hB, hN, hv, c1, go_sem])
      simp only [fin_mk, finV, resL, resV1, resIn, endA, listIn, Option.some_or, Option.none_or, oneOrTup, go_sem]
      rw [← hr]
    · by_cases c2 : ((t.length - (k + stop s + 1) : Nat) : Int) < v
      · have e : shB s = false := by rw [shB, hB, hv, decide_eq_true (by omega), decide_eq_false (by omega)]; rfl
        simp only [shS, shN, e, Bool.false_eq_true, if_false] at hr
        simp only [h0, h1, h2, Int.toNat_natCast, hs, hB, hN, hv, c1, g1, c2, go_sem]
        repeat' ((first | ((first | apply qa | apply qb | apply qc | apply qd | apply qe | apply qf | apply qg | apply qh | apply qi | apply qj | apply qk) <;> intro hp) | ((first | refine ql rfl rfl (by decide +kernel) ?_ | refine qm _ rfl rfl (by decide +kernel) ?_ | refine goes_opn rfl ?_ | refine goes_opnD rfl rfl (by decide +kernel) ?_) <;> have hp := True.intro)) <;> simp only [hp, h0, h1, h2, Int.toNat_natCast, hs, hB, hN, hv, c1, g1, c2, go_sem])
        simp only [fin_mk, finV, resL, resV1, resIn, endA, listIn, Option.some_or, Option.none_or, oneOrTup, go_sem]
        rw [← hr]
      · have e : shB s = true := by rw [shB, hB, hv, decide_eq_true (by omega), decide_eq_true (by omega)]; rfl
        have e2 : (k : Int) + (stop s : Int) + 1 + (v : Int) = ((k + stop s + 1 + v : Nat) : Int) := by omega
        simp only [shS, shN, e, if_true, hv, Int.toNat_natCast, e2] at hr
        have g2 : IntKind.i64.wrap (((k + stop s + 1 : Nat) : Int) + (v : Int)) = ((k + stop s + 1 + v : Nat) : Int) := (wrap64 (by omega) (by omega)).trans (by omega)
        have g3 : (0 : Int) ≤ ((k + stop s + 1 : Nat) : Int) := by omega
        have g4 : k + stop s + 1 ≤ k + stop s + 1 + v := by omega
        have g5 : k + stop s + 1 + v ≤ t.length := by omega
        have g6 : (0 : Int) ≤ ((k + stop s + 1 + v : Nat) : Int) := by omega
        have g7 : (t.take (k + stop s + 1 + v)).drop (k + stop s + 1) = (s.drop (stop s + 1)).take v := by
          rw [List.drop_take, ← hs, List.drop_drop]; congr 1
          · omega
        simp only [h0, h1, h2, Int.toNat_natCast, hs, hB, hN, hv, c1, g1, c2, g2, g3, g4, g5, g6, g7, go_sem]
        repeat' ((first | ((first | apply qa | apply qb | apply qc | apply qd | apply qe | apply qf | apply qg | apply qh | apply qi | apply qj | apply qk) <;> intro hp) | ((first | refine ql rfl rfl (by decide +kernel) ?_ | refine qm _ rfl rfl (by decide +kernel) ?_ | refine goes_opn rfl ?_ | refine goes_opnD rfl rfl (by decide +kernel) ?_) <;> have hp := True.intro)) <;> simp only [hp, h0, h1, h2, Int.toNat_natCast, hs, hB, hN, hv, c1, g1, c2, g2, g3, g4, g5, g6, g7, go_sem])
        simp only [fin_mk, finV, resL, resV1, resIn, endA, listIn, Option.some_or, Option.none_or, oneOrTup, go_sem]
        rw [← hr]
def T_spec_ReadShort : Hints := ⟨fun _ => none, fun _ => none, fun i => if i = 0 then some [0, 1] else if i = 1 then some [0, 7, 8, 9] else if i = 2 then some [0, 7, 8, 30] else if i = 3 then some [4, 5, 6] else if i = 4 then some [4, 5, 6] else none, fun _ => none⟩
noncomputable def Phi_spec_ReadShort : Tab := fun f => if f = 114 then some spReadVar else none
attribute [go_sem] T_spec_ReadShort Phi_spec_ReadShort
theorem phi_spec_ReadShort : ∀ f sp, Phi_spec_ReadShort f = some sp → FnOk Tryz.prog f sp ∧ ∀ n ∈ sp.need, n ∈ ([] : List String) := by
  intro f sp h
  unfold Phi_spec_ReadShort at h
  by_cases e : f = 114
  · rw [if_pos e] at h; cases h; rw [e]; exact ⟨ok_spec_ReadVar, (fun n (h : n ∈ ([] : List String)) => (nomatch h))⟩
  rw [if_neg e] at h
  cases h
theorem ok_spec_ReadShort : FnOk Tryz.prog 113 spReadShort := by
  refine fn_ok (Φ := Phi_spec_ReadShort) (T := T_spec_ReadShort) phi_spec_ReadShort mixed Tryz.func113 rfl rfl rfl (by decide) ?_
  intro ins r outs hr hl
  clear hl
  have hs := spReadShort_in hr
  clear hr
  obtain ⟨t, a, rfl, hc, hr, rfl⟩ := hs
  simp only [spReadShort, Tryz.f113, Go.VM.initS]
  obtain ⟨h0, h1, h2⟩ := hc
  obtain ⟨k, rfl⟩ : ∃ k : Nat, a = k := ⟨a.toNat, by omega⟩
  have hk : k ≤ t.length := by omega
  simp only [Int.toNat_natCast] at hr
  obtain ⟨s, hs⟩ : ∃ s, t.drop k = s := ⟨_, rfl⟩
  have hsl : s.length = t.length - k := by rw [← hs, List.length_drop]
  rw [hs] at hr
  cases hB : rvB s with
  | false =>
    have e : shB s = false := by rw [shB, hB]; rfl
    simp only [shS, shN, e, Bool.false_eq_true, if_false] at hr
    simp only [h0, h1, h2, Int.toNat_natCast, hs, hB, go_sem]
    repeat' ((first | ((first | apply qa | apply qb | apply qc | apply qd | apply qe | apply qf | apply qg | apply qh | apply qi | apply qj | apply qk) <;> intro hp) | ((first | refine ql rfl rfl (by decide +kernel) ?_ | refine qm _ rfl rfl (by decide +kernel) ?_ | refine goes_opn rfl ?_ | refine goes_opnD rfl rfl (by decide +kernel) ?_) <;> have hp := True.intro)) <;> simp only [hp, h0, h1, h2, Int.toNat_natCast, hs, hB, go_sem])
    simp only [fin_mk, finV, resL, resV1, resIn, endA, listIn, Option.some_or, Option.none_or, oneOrTup, go_sem]
    rw [← hr]
  | true =>
    obtain ⟨r1, r2, r3⟩ := rvB_in hB
    have hN : rvN k s = ((k + stop s + 1 : Nat) : Int) := by rw [rvN, if_pos hB]; omega
    obtain ⟨v, hv⟩ : ∃ v : Nat, rvV s = v := ⟨(rvV s).toNat, by omega⟩
    rw [hv] at r2 r3
    have g1 : IntKind.i64.wrap ((t.length : Int) - ((k + stop s + 1 : Nat) : Int)) = ((t.length - (k + stop s + 1) : Nat) : Int) := (wrap64 (by omega) (by omega)).trans (by omega)
    by_cases c1 : (20000 : Int) < v
    · have e : shB s = false := by rw [shB, hB, hv, decide_eq_false (by omega)]; rfl
      simp only [shS, shN, e, Bool.false_eq_true, if_false] at hr
      simp only [h0, h1, h2, Int.toNat_natCast, hs, hB, hN, hv, c1, go_sem]
      repeat' ((first | ((first | apply qa | apply qb | apply qc | apply qd | apply qe | apply qf | apply qg | apply qh | apply qi | apply qj | apply qk) <;> intro hp) | ((first | refine ql rfl rfl (by decide +kernel) ?_ | refine qm _ rfl rfl (by decide +kernel) ?_ | refine goes_opn rfl ?_ | refine goes_opnD rfl rfl (by decide +kernel) ?_) <;> have hp := True.intro)) <;> simp only [hp, h0, h1, h2, Int.toNat_natCast, hs, hB, hN, hv, c1, go_sem])
      simp only [fin_mk, finV, resL, resV1, resIn, endA, listIn, Option.some_or, Option.none_or, oneOrTup, go_sem]
      rw [← hr]
    · by_cases c2 : ((t.length - (k + stop s + 1) : Nat) : Int) < v
      · have e : shB s = false := by rw [shB, hB, hv, decide_eq_true (by omega), decide_eq_false (by omega)]; rfl
        simp only [shS, shN, e, Bool.false_eq_true, if_false] at hr
        simp only [h0, h1, h2, Int.toNat_natCast, hs, hB, hN, hv, c1, g1, c2, go_sem]
        repeat' ((first | ((first | apply qa | apply qb | apply qc | apply qd | apply qe | apply qf | apply qg | apply qh | apply qi | apply qj | apply qk) <;> intro hp) | ((first | refine ql rfl rfl (by decide +kernel) ?_ | refine qm _ rfl rfl (by decide +kernel) ?_ | refine goes_opn rfl ?_ | refine goes_opnD rfl rfl (by decide +kernel) ?_) <;> have hp := True.intro)) <;> simp only [hp, h0, h1, h2, Int.toNat_natCast, hs, hB, hN, hv, c1, g1, c2, go_sem])
        simp only [fin_mk, finV, resL, resV1, resIn, endA, listIn, Option.some_or, Option.none_or, oneOrTup, go_sem]
        rw [← hr]
      · have e : shB s = true := by rw [shB, hB, hv, decide_eq_true (by omega), decide_eq_true (by omega)]; rfl
        have e2 : (k : Int) + (stop s : Int) + 1 + (v : Int) = ((k + stop s + 1 + v : Nat) : Int) := by omega
        simp only [shS, shN, e, if_true, hv, Int.toNat_natCast, e2] at hr
        have g2 : IntKind.i64.wrap (((k + stop s + 1 : Nat) : Int) + (v : Int)) = ((k + stop s + 1 + v : Nat) : Int) := (wrap64 (by omega) (by omega)).trans (by omega)
        have g3 : (0 : Int) ≤ ((k + stop s + 1 : Nat) : Int) := by omega
        have g4 : k + stop s + 1 ≤ k + stop s + 1 + v := by omega
        have g5 : k + stop s + 1 + v ≤ t.length := by omega
        have g6 : (0 : Int) ≤ ((k + stop s + 1 + v : Nat) : Int) := by omega
        have g7 : (t.take (k + stop s + 1 + v)).drop (k + stop s + 1) = (s.drop (stop s + 1)).take v := by
          rw [List.drop_take, ← hs, List.drop_drop]; congr 1
          · omega
        simp only [h0, h1, h2, Int.toNat_natCast, hs, hB, hN, hv, c1, g1, c2, g2, g3, g4, g5, g6, g7, go_sem]
        repeat' ((first | ((first | apply qa | apply qb | apply qc | apply qd | apply qe | apply qf | apply qg | apply qh | apply qi | apply qj | apply qk) <;> intro hp) | ((first | refine ql rfl rfl (by decide +kernel) ?_ | refine qm _ rfl rfl (by decide +kernel) ?_ | refine goes_opn rfl ?_ | refine goes_opnD rfl rfl (by decide +kernel) ?_) <;> have hp := True.intro)) <;> simp only [hp, h0, h1, h2, Int.toNat_natCast, hs, hB, hN, hv, c1, g1, c2, g2, g3, g4, g5, g6, g7, go_sem])
        simp only [fin_mk, finV, resL, resV1, resIn, endA, listIn, Option.some_or, Option.none_or, oneOrTup, go_sem]
        rw [← hr]
end Go.Proofs.YtimiccneikhkgaaGreatDoor.L
