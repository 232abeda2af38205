/- Sets read whole: the reference. -/
import Derived.Test.YtimiccneikhkgaaGreatDoorVLRs2
namespace Go.Proofs.YtimiccneikhkgaaGreatDoor.L
open Go Go.VM
set_option maxRecDepth 100000
set_option maxHeartbeats 4000000
set_option linter.unusedSimpArgs false
set_option linter.unusedVariables false
theorem splitOn_none {c : UInt8} : ∀ {a : List UInt8}, (∀ x ∈ a, notB c x = true) → splitOn c a = [a]
  | [], _ => rfl
  | x :: a, h => by
    have hx : ¬ x = c := by simpa [notB] using h x (by simp)
    rw [splitOn, if_neg hx, splitOn_none fun y hy => h y (by simp [hy])]; rfl
theorem splitOn_app {c : UInt8} (r : List UInt8) : ∀ {a : List UInt8}, (∀ x ∈ a, notB c x = true) → splitOn c (a ++ c :: r) = a :: splitOn c r
  | [], _ => by rw [List.nil_append, splitOn, if_pos rfl]
  | x :: a, h => by
    have hx : ¬ x = c := by simpa [notB] using h x (by simp)
    rw [List.cons_append, splitOn, if_neg hx, splitOn_app r fun y hy => h y (by simp [hy])]; rfl
theorem splitOn_at {c : UInt8} {t : List UInt8} {b i : Nat} (hb : b ≤ i) (h : i < t.length) (hc : t[i] = c) (ha : ∀ x ∈ (t.take i).drop b, notB c x = true) : splitOn c (t.drop b) = (t.take i).drop b :: splitOn c (t.drop (i + 1)) := by
  have e : t.drop b = (t.take i).drop b ++ c :: t.drop (i + 1) := by
    have h1 : t = t.take i ++ c :: t.drop (i + 1) := by
      rw [← hc]; simp
    have h2 : b ≤ (t.take i).length := by rw [List.length_take]; omega
    conv => lhs; rw [h1]
    rw [List.drop_append_of_le_length h2]
  rw [e, splitOn_app _ ha]
theorem setR_gen {R : List Range} {N : Nat} (hN : N < 10001) : scan ((nums N).filter (markB (bitsOf (memN R)))) = scan ((nums N).filter fun n => hasR R n) := by
  congr 1
  apply List.filter_congr
  intro x hx
  rw [nums_mem] at hx
  rw [markB, List.getD_eq_getElem?_getD, bitsOf_get _ (by omega), Option.getD_some, memN]
  congr 1
  omega
theorem setR_bits {R : List Range} : scanB (bitsOf (memN R)) = setR R := setR_gen (by decide)
theorem memN_zero {R : List Range} (h : ∀ r ∈ R, 1 ≤ r.Lo ∧ r.Lo ≤ r.Hi ∧ r.Hi ≤ 9999) : (bitsOf (memN R)).getD 0 false = false := by
  rw [List.getD_eq_getElem?_getD, bitsOf_get _ (by omega), Option.getD_some, memN, hasR, List.any_eq_false]
  intro r hr
  have := h r hr
  simp; omega
theorem setR_ok (R : List Range) : setOk (setR R) = decide ((setR R).length ≤ 40) := by
  unfold setR
  rw [setOk_canon (scan_canon _ _ ((nums_asc 9999).filter _))]
theorem setR_nil : setR [] = [] := by
  have : (nums 9999).filter (fun n => hasR [] n) = [] := List.filter_eq_nil_iff.2 (fun _ _ => by simp [hasR])
  rw [setR, this]; rfl
theorem memN_nil : memN [] = fun _ => false := rfl
def T_spec_ReadSet : Hints := ⟨fun _ => none, fun i => if i = 7 then some [0, 1, 6, 7, 8, 9] else if i = 14 then some [0, 1, 6, 7, 9, 11, 13] else none, fun i => if i = 0 then some [0, 1] else if i = 1 then some [0, 1, 6] else if i = 2 then some [0, 1, 6, 17] else if i = 3 then some [4, 5] else if i = 4 then some [0, 1, 6, 7] else if i = 5 then some [0, 1, 6, 7, 8] else if i = 6 then some [0, 1, 6, 7, 8, 9] else if i = 7 then some [0, 1, 6, 7, 8, 9, 23] else if i = 9 then some [0, 1, 6, 7, 8, 9, 35] else if i = 10 then some [0, 1, 6, 7, 9, 10, 11, 12] else if i = 11 then some [0, 1, 6, 7, 9, 10, 11, 47] else if i = 12 then some [4, 5] else if i = 13 then some [0, 1, 6, 7, 9, 11, 13] else if i = 14 then some [0, 1, 6, 7, 9, 11, 13, 52] else if i = 16 then some [0, 1, 6, 7, 9, 11, 13] else if i = 15 then some [0, 1, 6, 7, 9, 11, 13] else if i = 17 then some [0, 1, 6, 7, 8, 9] else if i = 8 then some [0, 1, 6, 7, 8, 9] else if i = 18 then some [4, 5] else none, fun _ => none⟩
noncomputable def Phi_spec_ReadSet : Tab := fun f => if f = 53 then some spWithin else if f = 115 then some spPart else if f = 116 then some spScanBits else none
attribute [go_sem] T_spec_ReadSet Phi_spec_ReadSet
theorem phi_spec_ReadSet : ∀ f sp, Phi_spec_ReadSet f = some sp → FnOk Tryz.prog f sp ∧ ∀ n ∈ sp.need, n ∈ (["internal/bytealg.MaxLen"] : List String) := by
  intro f sp h
  unfold Phi_spec_ReadSet at h
  by_cases e : f = 53
  · rw [if_pos e] at h; cases h; rw [e]; exact ⟨ok_spec_l01In, (fun n (h : n ∈ ([] : List String)) => (nomatch h))⟩
  rw [if_neg e] at h
  by_cases e : f = 115
  · rw [if_pos e] at h; cases h; rw [e]; exact ⟨ok_spec_l05Part, (fun n (h : n ∈ ([] : List String)) => (nomatch h))⟩
  rw [if_neg e] at h
  by_cases e : f = 116
  · rw [if_pos e] at h; cases h; rw [e]; exact ⟨ok_spec_l05Set, (fun n (h : n ∈ ([] : List String)) => (nomatch h))⟩
  rw [if_neg e] at h
  cases h
theorem ok_spec_ReadSet : FnOk Tryz.prog 52 spReadSet := by
  refine fn_ok (Φ := Phi_spec_ReadSet) (T := T_spec_ReadSet) phi_spec_ReadSet mixed Tryz.func52 rfl rfl rfl (by decide) ?_
  intro ins r outs hr hl
  clear hl
  have hs := spReadSet_in hr
  clear hr
  obtain ⟨t, last, rfl, hc, hr, rfl⟩ := hs
  simp only [spReadSet, Tryz.f52, Go.VM.initS]
  cases hw : within last 1 9999 with
  | false =>
    simp only [hw, go_sem]
    repeat' ((first | ((first | apply qa | apply qb | apply qc | apply qd | apply qe | apply qf | apply qg | apply qh | apply qi | apply qj | apply qk) <;> intro hp) | ((first | refine ql rfl rfl (by decide +kernel) ?_ | refine qm _ rfl rfl (by decide +kernel) ?_ | refine goes_opn rfl ?_ | refine goes_opnD rfl rfl (by decide +kernel) ?_) <;> have hp := True.intro)) <;> simp only [hp, hw, go_sem])
    simp only [fin_mk, finV, resL, resV1, resIn, endA, listIn, Option.some_or, Option.none_or, oneOrTup, go_sem]
    rw [← hr]
    simp only [readSet, readOk, hw, Bool.false_and, Bool.false_eq_true, if_false]
    rfl
  | true =>
    have hl : 1 ≤ last ∧ last ≤ 9999 := by simpa only [within, Bool.and_eq_true, decide_eq_true_eq] using hw
    have hro : readOk t last = (match rangesOf last (splitOn 44 t) with | some l => decide ((setR l).length ≤ 40) | none => false) := by rw [readOk, hw, Bool.true_and]; rfl
    have hrs : readSet t last = if readOk t last = true then (match rangesOf last (splitOn 44 t) with | some l => setR l | none => []) else [] := rfl
    rw [hrs, hro] at hr
    clear hrs hro
    have hbt : (10001 : Int) * ((1 : Nat) : Int) ≤ 140737488355328 := by decide
    simp only [hw, replicate_bits, hbt, go_sem]
    repeat' ((first | ((first | apply qa | apply qb | apply qc | apply qd | apply qe | apply qf | apply qg | apply qh | apply qi | apply qj | apply qk) <;> intro hp) | ((first | refine ql rfl rfl (by decide +kernel) ?_ | refine qm _ rfl rfl (by decide +kernel) ?_ | refine goes_opn rfl ?_ | refine goes_opnD rfl rfl (by decide +kernel) ?_) <;> have hp := True.intro)) <;> simp only [hp, hw, replicate_bits, hbt, go_sem])
    refine loop_go (fun q : Nat × Nat × List Range => [(8, .int .i64 (q.1 : Int)), (9, .int .i64 (q.2.1 : Int))]) (fun q => [(1, ⟨.arr, 1, (bitsOf (memN q.2.2)).map eBool⟩)]) (fun q => t.length + 1 - q.2.1) (fun q => (∀ r ∈ q.2.2, 1 ≤ r.Lo ∧ r.Lo ≤ r.Hi ∧ r.Hi ≤ 9999) ∧ ((q.2.1 ≤ t.length ∧ q.1 ≤ q.2.1 ∧ (∀ x ∈ (t.take q.2.1).drop q.1, notB 44 x = true) ∧ rangesOf last (splitOn 44 t) = (rangesOf last (splitOn 44 (t.drop q.1))).map (q.2.2 ++ ·)) ∨ (q.2.1 = t.length + 1 ∧ rangesOf last (splitOn 44 t) = some q.2.2))) (0, 0, []) ⟨by simp, .inl ⟨Nat.zero_le _, Nat.le_refl _, by simp, by simp⟩⟩ rfl rfl ?_
    rintro ⟨b, i, R⟩ ⟨hRin, hinv⟩ ih
    simp only at hRin hinv ih
    rcases hinv with ⟨hi, hbi, ha, hR⟩ | ⟨hi, hR⟩
    · have g2 : (0 : Int) ≤ i := by omega
      have g4 : (0 : Int) ≤ b := by omega
      have g5 := wrap_succ (n := t.length + 1) (i := i) (by omega) (by omega)
      have g0 : (i : Int) ≤ t.length := by omega
      rcases Nat.lt_or_ge i t.length with h | h
      · have g1 : (i : Int) < t.length := by omega
        have g3 : t[i]? = some t[i] := List.getElem?_eq_getElem h
        cases hb : ((t[i].toNat : Int) == 44) with
        | false =>
          have hn : notB 44 t[i] = true := by
            unfold notB
            rw [bne_iff_ne]
            intro e
            rw [e] at hb
            exact absurd hb (by decide)
          have ih' := ih (b, i + 1, R) ⟨hRin, .inl ⟨h, Nat.le_succ_of_le hbi, by
            rw [take_succ' h, List.drop_append_of_le_length (by rw [List.length_take]; omega)]
            intro x hx
            rcases List.mem_append.1 hx with hx | hx
            · exact ha x hx
            · simp only [List.mem_singleton] at hx
              subst hx
              exact hn, hR⟩⟩ (by simp only; omega)
          have hb2 : ((t[i].toNat : Int) != 44) = true := by rw [bne, hb]; rfl
          simp only [g0, g1, g2, g3, g5, hb, hb2, go_sem]
          repeat' ((first | ((first | apply qa | apply qb | apply qc | apply qd | apply qe | apply qf | apply qg | apply qh | apply qi | apply qj | apply qk) <;> intro hp) | ((first | refine ql rfl rfl (by decide +kernel) ?_ | refine qm _ rfl rfl (by decide +kernel) ?_ | refine goes_opn rfl ?_ | refine goes_opnD rfl rfl (by decide +kernel) ?_) <;> have hp := True.intro)) <;> simp only [hp, g0, g1, g2, g3, g5, hb, hb2, go_sem])
          exact ih'
        | true =>
          have h44 : t[i] = 44 := by
            have h1 : t[i].toNat = (44 : UInt8).toNat := by simp only [beq_iff_eq] at hb; show t[i].toNat = 44; omega
            exact UInt8.toNat_inj.1 h1
          have hb2 : ((t[i].toNat : Int) != 44) = false := by rw [bne, hb]; rfl
          have hS := splitOn_at hbi h h44 ha
          generalize hpp : (t.take i).drop b = p at *
          have hP : rangesOf last (splitOn 44 t) = (rangesOf last (p :: splitOn 44 (t.drop (i + 1)))).map (R ++ ·) := by rw [hR, hS]
          have c1 : p.length ≤ 4194304 := by rw [← hpp, List.length_drop, List.length_take]; omega
          simp only [rangesOf] at hP
          cases hB : partB p with
          | false =>
            rw [hB] at hP
            simp only [Bool.false_eq_true, if_false, Option.map_none] at hP
            rw [hP] at hr
            simp only [Bool.false_eq_true, if_false] at hr
            simp only [g0, g1, g2, g3, g4, g5, hbi, hi, hb, hb2, hpp, c1, hB, go_sem]
            repeat' ((first | ((first | apply qa | apply qb | apply qc | apply qd | apply qe | apply qf | apply qg | apply qh | apply qi | apply qj | apply qk) <;> intro hp) | ((first | refine ql rfl rfl (by decide +kernel) ?_ | refine qm _ rfl rfl (by decide +kernel) ?_ | refine goes_opn rfl ?_ | refine goes_opnD rfl rfl (by decide +kernel) ?_) <;> have hp := True.intro)) <;> simp only [hp, g0, g1, g2, g3, g4, g5, hbi, hi, hb, hb2, hpp, c1, hB, go_sem])
            simp only [fin_mk, finV, resL, resV1, resIn, endA, listIn, Option.some_or, Option.none_or, oneOrTup, go_sem]
            rw [← hr]
            rfl
          | true =>
            rw [hB] at hP
            simp only [if_true, Option.map_map] at hP
            have hin := part_in hl hB
            obtain ⟨lo, hlo⟩ : ∃ a : Nat, partLo p last = a := ⟨(partLo p last).toNat, by omega⟩
            obtain ⟨hh, hhi⟩ : ∃ a : Nat, partHi p last = a := ⟨(partHi p last).toNat, by omega⟩
            rw [hlo, hhi] at hin hP
            have e0 : (fun n => memN R n || (decide (lo ≤ n) && decide (n < lo))) = memN R := by
              funext n
              have : (decide (lo ≤ n) && decide (n < lo)) = false := by rw [Bool.and_eq_false_iff]; simp; omega
              rw [this, Bool.or_false]
            have e1 : (fun n => memN R n || (decide (lo ≤ n) && decide (n < hh + 1))) = memN (R ++ [⟨lo, hh⟩]) := by
              funext n
              unfold memN
              rw [hasR_append]
              congr 1
              rw [Bool.eq_iff_iff]
              simp [hasR]; omega
            have ih' := ih (i + 1, i + 1, R ++ [⟨lo, hh⟩]) ⟨fun r hr' => by
              rcases List.mem_append.1 hr' with h' | h'
              · exact hRin r h'
              · simp only [List.mem_singleton] at h'
                subst h'
                exact hin, .inl ⟨h, Nat.le_refl _, (by simp only; intro x hx; rw [List.drop_of_length_le (by rw [List.length_take]; omega)] at hx; cases hx), by simp only; rw [hP]; congr 1; funext l; simp⟩⟩ (by simp only; omega)
            simp only at ih'
            rw [← e1] at ih'
            clear ih
            simp only [g0, g1, g2, g3, g4, g5, hbi, hi, hb, hb2, hpp, c1, hB, hlo, hhi, go_sem]
            repeat' ((first | ((first | apply qa | apply qb | apply qc | apply qd | apply qe | apply qf | apply qg | apply qh | apply qi | apply qj | apply qk) <;> intro hp) | ((first | refine ql rfl rfl (by decide +kernel) ?_ | refine qm _ rfl rfl (by decide +kernel) ?_ | refine goes_opn rfl ?_ | refine goes_opnD rfl rfl (by decide +kernel) ?_) <;> have hp := True.intro)) <;> simp only [hp, g0, g1, g2, g3, g4, g5, hbi, hi, hb, hb2, hpp, c1, hB, hlo, hhi, go_sem])
            refine loop_go (fun k : Nat => [(13, .int .i64 (k : Int))]) (fun k => [(1, ⟨.arr, 1, (bitsOf fun n => memN R n || (decide (lo ≤ n) && decide (n < k))).map eBool⟩)]) (fun k => hh + 1 - k) (fun k => lo ≤ k ∧ k ≤ hh + 1) lo ⟨Nat.le_refl _, by omega⟩ rfl (by rw [e0]; rfl) ?_
            intro k ⟨hk1, hk2⟩ ihk
            rcases Nat.lt_or_ge k (hh + 1) with hkl | hkl
            · have k1 : (k : Int) ≤ (hh : Int) := by omega
              have k2 : (0 : Int) ≤ k := by omega
              have k3 : (k : Int) < ((10001 : Nat) : Int) := by omega
              have k5 := wrap_succ hkl (by omega)
              have kl := bitsOf_len (fun n => memN R n || (decide (lo ≤ n) && decide (n < k)))
              have kg := bitsOf_get (fun n => memN R n || (decide (lo ≤ n) && decide (n < k))) (n := k) (by omega)
              have ks : (List.map eBool (bitsOf fun n => memN R n || (decide (lo ≤ n) && decide (n < k)))).set k (V.bool true) = List.map eBool (bitsOf fun n => memN R n || (decide (lo ≤ n) && decide (n < k + 1))) := by
                rw [show V.bool true = eBool true from rfl, ← List.map_set, bitsOf_set]
                congr 2
                funext m
                by_cases hm : m = k
                · subst hm; simp [hk1]
                · have : decide (m < k + 1) = decide (m < k) := by rw [Bool.eq_iff_iff]; simp; omega
                  simp [hm, this]
              have ihk' := ihk (k + 1) ⟨by omega, by omega⟩ (by omega)
              rw [← ks] at ihk'
              clear ihk ks ih'
              generalize hBB : (bitsOf fun n => memN R n || (decide (lo ≤ n) && decide (n < k))) = BB at *
              simp only [g0, g1, g2, g3, g4, g5, hbi, hi, hb, hb2, hpp, k1, k2, k3, k5, kl, kg, go_sem]
              repeat' ((first | ((first | apply qa | apply qb | apply qc | apply qd | apply qe | apply qf | apply qg | apply qh | apply qi | apply qj | apply qk) <;> intro hp) | ((first | refine ql rfl rfl (by decide +kernel) ?_ | refine qm _ rfl rfl (by decide +kernel) ?_ | refine goes_opn rfl ?_ | refine goes_opnD rfl rfl (by decide +kernel) ?_) <;> have hp := True.intro)) <;> simp only [hp, g0, g1, g2, g3, g4, g5, hbi, hi, hb, hb2, hpp, k1, k2, k3, k5, kl, kg, go_sem])
              exact ihk'
            · have hke : k = hh + 1 := by omega
              subst hke
              have k1 : ¬ (((hh + 1 : Nat) : Int)) ≤ (hh : Int) := by omega
              simp only [g0, g1, g2, g3, g4, g5, hbi, hi, hb, hb2, hpp, k1, g5, go_sem]
              repeat' ((first | ((first | apply qa | apply qb | apply qc | apply qd | apply qe | apply qf | apply qg | apply qh | apply qi | apply qj | apply qk) <;> intro hp) | ((first | refine ql rfl rfl (by decide +kernel) ?_ | refine qm _ rfl rfl (by decide +kernel) ?_ | refine goes_opn rfl ?_ | refine goes_opnD rfl rfl (by decide +kernel) ?_) <;> have hp := True.intro)) <;> simp only [hp, g0, g1, g2, g3, g4, g5, hbi, hi, hb, hb2, hpp, k1, g5, go_sem])
              exact ih'
      · have g1 : ¬ (i : Int) < t.length := by omega
        have hS : splitOn 44 (t.drop b) = [(t.take i).drop b] := by
          rw [List.take_of_length_le h] at ha ⊢
          exact splitOn_none ha
        generalize hpp : (t.take i).drop b = p at *
        have hP : rangesOf last (splitOn 44 t) = (rangesOf last (p :: [])).map (R ++ ·) := by rw [hR, hS]
        have c1 : p.length ≤ 4194304 := by rw [← hpp, List.length_drop, List.length_take]; omega
        simp only [rangesOf] at hP
        cases hB : partB p with
        | false =>
          rw [hB] at hP
          simp only [Bool.false_eq_true, if_false, Option.map_none] at hP
          rw [hP] at hr
          simp only [Bool.false_eq_true, if_false] at hr
          simp only [g0, g1, g2, g4, g5, hbi, hi, hpp, c1, hB, go_sem]
          repeat' ((first | ((first | apply qa | apply qb | apply qc | apply qd | apply qe | apply qf | apply qg | apply qh | apply qi | apply qj | apply qk) <;> intro hp) | ((first | refine ql rfl rfl (by decide +kernel) ?_ | refine qm _ rfl rfl (by decide +kernel) ?_ | refine goes_opn rfl ?_ | refine goes_opnD rfl rfl (by decide +kernel) ?_) <;> have hp := True.intro)) <;> simp only [hp, g0, g1, g2, g4, g5, hbi, hi, hpp, c1, hB, go_sem])
          simp only [fin_mk, finV, resL, resV1, resIn, endA, listIn, Option.some_or, Option.none_or, oneOrTup, go_sem]
          rw [← hr]
          rfl
        | true =>
          rw [hB] at hP
          simp only [if_true, Option.map_map] at hP
          have hin := part_in hl hB
          obtain ⟨lo, hlo⟩ : ∃ a : Nat, partLo p last = a := ⟨(partLo p last).toNat, by omega⟩
          obtain ⟨hh, hhi⟩ : ∃ a : Nat, partHi p last = a := ⟨(partHi p last).toNat, by omega⟩
          rw [hlo, hhi] at hin hP
          have e0 : (fun n => memN R n || (decide (lo ≤ n) && decide (n < lo))) = memN R := by
            funext n
            have : (decide (lo ≤ n) && decide (n < lo)) = false := by rw [Bool.and_eq_false_iff]; simp; omega
            rw [this, Bool.or_false]
          have e1 : (fun n => memN R n || (decide (lo ≤ n) && decide (n < hh + 1))) = memN (R ++ [⟨lo, hh⟩]) := by
            funext n
            unfold memN
            rw [hasR_append]
            congr 1
            rw [Bool.eq_iff_iff]
            simp [hasR]; omega
          have ih' := ih (i + 1, i + 1, R ++ [⟨lo, hh⟩]) ⟨fun r hr' => by
            rcases List.mem_append.1 hr' with h' | h'
            · exact hRin r h'
            · simp only [List.mem_singleton] at h'
              subst h'
              exact hin, .inr ⟨by simp only; omega, by rw [hP]; simp [rangesOf]⟩⟩ (by simp only; omega)
          simp only at ih'
          rw [← e1] at ih'
          clear ih
          simp only [g0, g1, g2, g4, g5, hbi, hi, hpp, c1, hB, hlo, hhi, go_sem]
          repeat' ((first | ((first | apply qa | apply qb | apply qc | apply qd | apply qe | apply qf | apply qg | apply qh | apply qi | apply qj | apply qk) <;> intro hp) | ((first | refine ql rfl rfl (by decide +kernel) ?_ | refine qm _ rfl rfl (by decide +kernel) ?_ | refine goes_opn rfl ?_ | refine goes_opnD rfl rfl (by decide +kernel) ?_) <;> have hp := True.intro)) <;> simp only [hp, g0, g1, g2, g4, g5, hbi, hi, hpp, c1, hB, hlo, hhi, go_sem])
          refine loop_go (fun k : Nat => [(13, .int .i64 (k : Int))]) (fun k => [(1, ⟨.arr, 1, (bitsOf fun n => memN R n || (decide (lo ≤ n) && decide (n < k))).map eBool⟩)]) (fun k => hh + 1 - k) (fun k => lo ≤ k ∧ k ≤ hh + 1) lo ⟨Nat.le_refl _, by omega⟩ rfl (by rw [e0]; rfl) ?_
          intro k ⟨hk1, hk2⟩ ihk
          rcases Nat.lt_or_ge k (hh + 1) with hkl | hkl
          · have k1 : (k : Int) ≤ (hh : Int) := by omega
            have k2 : (0 : Int) ≤ k := by omega
            have k3 : (k : Int) < ((10001 : Nat) : Int) := by omega
            have k5 := wrap_succ hkl (by omega)
            have kl := bitsOf_len (fun n => memN R n || (decide (lo ≤ n) && decide (n < k)))
            have kg := bitsOf_get (fun n => memN R n || (decide (lo ≤ n) && decide (n < k))) (n := k) (by omega)
            have ks : (List.map eBool (bitsOf fun n => memN R n || (decide (lo ≤ n) && decide (n < k)))).set k (V.bool true) = List.map eBool (bitsOf fun n => memN R n || (decide (lo ≤ n) && decide (n < k + 1))) := by
              rw [show V.bool true = eBool true from rfl, ← List.map_set, bitsOf_set]
              congr 2
              funext m
              by_cases hm : m = k
              · subst hm; simp [hk1]
              · have : decide (m < k + 1) = decide (m < k) := by rw [Bool.eq_iff_iff]; simp; omega
                simp [hm, this]
            have ihk' := ihk (k + 1) ⟨by omega, by omega⟩ (by omega)
            rw [← ks] at ihk'
            clear ihk ks ih'
            generalize hBB : (bitsOf fun n => memN R n || (decide (lo ≤ n) && decide (n < k))) = BB at *
            simp only [g0, g1, g2, g4, g5, hbi, hi, hpp, k1, k2, k3, k5, kl, kg, go_sem]
            repeat' ((first | ((first | apply qa | apply qb | apply qc | apply qd | apply qe | apply qf | apply qg | apply qh | apply qi | apply qj | apply qk) <;> intro hp) | ((first | refine ql rfl rfl (by decide +kernel) ?_ | refine qm _ rfl rfl (by decide +kernel) ?_ | refine goes_opn rfl ?_ | refine goes_opnD rfl rfl (by decide +kernel) ?_) <;> have hp := True.intro)) <;> simp only [hp, g0, g1, g2, g4, g5, hbi, hi, hpp, k1, k2, k3, k5, kl, kg, go_sem])
            exact ihk'
          · have hke : k = hh + 1 := by omega
            subst hke
            have k1 : ¬ (((hh + 1 : Nat) : Int)) ≤ (hh : Int) := by omega
            simp only [g0, g1, g2, g4, g5, hbi, hi, hpp, k1, g5, go_sem]
            repeat' ((first | ((first | apply qa | apply qb | apply qc | apply qd | apply qe | apply qf | apply qg | apply qh | apply qi | apply qj | apply qk) <;> intro hp) | ((first | refine ql rfl rfl (by decide +kernel) ?_ | refine qm _ rfl rfl (by decide +kernel) ?_ | refine goes_opn rfl ?_ | refine goes_opnD rfl rfl (by decide +kernel) ?_) <;> have hp := True.intro)) <;> simp only [hp, g0, g1, g2, g4, g5, hbi, hi, hpp, k1, g5, go_sem])
            exact ih'
    · have g1 : ¬ (i : Int) ≤ t.length := by omega
      rw [hR] at hr
      simp only [decide_eq_true_eq] at hr
      have s1 := bitsOf_len (memN R)
      have s2 := memN_zero hRin
      have s3 := setR_bits (R := R)
      have s4 := setR_ok R
      generalize hBB : bitsOf (memN R) = BB at *
      rw [s3.symm] at hr s4
      generalize hX : scanB BB = X at *
      simp only [g1, s1, s2, s3, s4, go_sem]
      repeat' ((first | ((first | apply qa | apply qb | apply qc | apply qd | apply qe | apply qf | apply qg | apply qh | apply qi | apply qj | apply qk) <;> intro hp) | ((first | refine ql rfl rfl (by decide +kernel) ?_ | refine qm _ rfl rfl (by decide +kernel) ?_ | refine goes_opn rfl ?_ | refine goes_opnD rfl rfl (by decide +kernel) ?_) <;> have hp := True.intro)) <;> simp only [hp, g1, s1, s2, s3, s4, go_sem])
      simp only [fin_mk, finV, resL, resV1, resIn, endA, listIn, Option.some_or, Option.none_or, oneOrTup, go_sem]
      rw [← hr]
      all_goals (rw [hX, s4]; simp)
end Go.Proofs.YtimiccneikhkgaaGreatDoor.L
