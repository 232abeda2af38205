/- Contracts of functions, and the facts that they need. No condition. -/
import Derived.Test.YtimiccneikhkgaaGreatDoorVLRs2
namespace Go.Proofs.YtimiccneikhkgaaGreatDoor.L
open Go Go.VM
set_option maxRecDepth 100000
set_option maxHeartbeats 4000000
set_option linter.unusedSimpArgs false
set_option linter.unusedVariables false
theorem splitOn_none {c : UInt8} : ∀ {a : List UInt8}, (∀ x ∈ a, notB c x = true) → splitOn c a = [a]
  | [], _ => rfl
  | x :: a, h => by
    have hx : ¬ x = c := by simpa [notB] using h x (by simp)
    rw [splitOn, if_neg hx, splitOn_none fun y hy => h y (by simp [hy])]; rfl
theorem splitOn_app {c : UInt8} (r : List UInt8) : ∀ {a : List UInt8}, (∀ x ∈ a, notB c x = true) → splitOn c (a ++ c :: r) = a :: splitOn c r
  | [], _ => by rw [List.nil_append, splitOn, if_pos rfl]
  | x :: a, h => by
    have hx : ¬ x = c := by simpa [notB] using h x (by simp)
    rw [List.cons_append, splitOn, if_neg hx, splitOn_app r fun y hy => h y (by simp [hy])]; rfl
theorem splitOn_at {c : UInt8} {t : List UInt8} {b i : Nat} (hb : b ≤ i) (h : i < t.length) (hc : t[i] = c) (ha : ∀ x ∈ (t.take i).drop b, notB c x = true) : splitOn c (t.drop b) = (t.take i).drop b :: splitOn c (t.drop (i + 1)) := by
  have e : t.drop b = (t.take i).drop b ++ c :: t.drop (i + 1) := by
    have h1 : t = t.take i ++ c :: t.drop (i + 1) := by
      rw [← hc]; simp
    have h2 : b ≤ (t.take i).length := by rw [List.length_take]; omega
    conv => lhs; rw [h1]
    rw [List.drop_append_of_le_length h2]
  rw [e, splitOn_app _ ha]
theorem setR_gen {R : List Range} {N : Nat} (hN : N < 10001) : scan ((nums N).filter (markB (bitsOf (memN R)))) = scan ((nums N).filter fun n => hasR R n) := by
  congr 1
  apply List.filter_congr
  intro x hx
  rw [nums_mem] at hx
  rw [markB, List.getD_eq_getElem?_getD, bitsOf_get _ (by omega), Option.getD_some, memN]
  congr 1
  omega
theorem setR_bits {R : List Range} : scanB (bitsOf (memN R)) = setR R := setR_gen (by decide)
theorem memN_zero {R : List Range} (h : ∀ r ∈ R, 1 ≤ r.Lo ∧ r.Lo ≤ r.Hi ∧ r.Hi ≤ 9999) : (bitsOf (memN R)).getD 0 false = false := by
  rw [List.getD_eq_getElem?_getD, bitsOf_get _ (by omega), Option.getD_some, memN, hasR, List.any_eq_false]
  intro r hr
  have := h r hr
  simp; omega
theorem setR_ok (R : List Range) : setOk (setR R) = decide ((setR R).length ≤ 40) := by
  unfold setR
  rw [setOk_canon (scan_canon _ _ ((nums_asc 9999).filter _))]
theorem setR_nil : setR [] = [] := by
  have : (nums 9999).filter (fun n => hasR [] n) = [] := List.filter_eq_nil_iff.2 (fun _ _ => by simp [hasR])
  rw [setR, this]; rfl
theorem memN_nil : memN [] = fun _ => false := rfl
def T_spec_ReadSet : Hints := ⟨fun _ => none, fun i => if i = 7 then some [0, 1, 6, 7, 8, 9] else if i = 14 then some [0, 1, 6, 7, 9, 11, 13] else none, fun i => if i = 0 then some [0, 1] else if i = 1 then some [0, 1, 6] else if i = 2 then some [0, 1, 6, 17] else if i = 3 then some [4, 5] else if i = 4 then some [0, 1, 6, 7] else if i = 5 then some [0, 1, 6, 7, 8] else if i = 6 then some [0, 1, 6, 7, 8, 9] else if i = 7 then some [0, 1, 6, 7, 8, 9, 23] else if i = 9 then some [0, 1, 6, 7, 8, 9, 35] else if i = 10 then some [0, 1, 6, 7, 9, 10, 11, 12] else if i = 11 then some [0, 1, 6, 7, 9, 10, 11, 47] else if i = 12 then some [4, 5] else if i = 13 then some [0, 1, 6, 7, 9, 11, 13] else if i = 14 then some [0, 1, 6, 7, 9, 11, 13, 52] else if i = 16 then some [0, 1, 6, 7, 9, 11, 13] else if i = 15 then some [0, 1, 6, 7, 9, 11, 13] else if i = 17 then some [0, 1, 6, 7, 8, 9] else if i = 8 then some [0, 1, 6, 7, 8, 9] else if i = 18 then some [4, 5] else none, fun _ => none⟩
noncomputable def Phi_spec_ReadSet : Tab := fun f => if f = 53 then some spWithin else if f = 115 then some spPart else if f = 116 then some spScanBits else none
attribute [go_sem] T_spec_ReadSet Phi_spec_ReadSet
theorem phi_spec_ReadSet : ∀ f sp, Phi_spec_ReadSet f = some sp → FnOk Tryz.prog f sp ∧ ∀ n ∈ sp.need, n ∈ (["internal/bytealg.MaxLen"] : List String) := by
  intro f sp h
  unfold Phi_spec_ReadSet at h
  by_cases e : f = 53
  · rw [if_pos e] at h; cases h; rw [e]; exact ⟨ok_spec_l01In, (fun n (h : n ∈ ([] : List String)) => (nomatch h))⟩
  rw [if_neg e] at h
  by_cases e : f = 115
  · rw [if_pos e] at h; cases h; rw [e]; exact ⟨ok_spec_l05Part, (fun n (h : n ∈ ([] : List String)) => (nomatch h))⟩
  rw [if_neg e] at h
  by_cases e : f = 116
  · rw [if_pos e] at h; cases h; rw [e]; exact ⟨ok_spec_l05Set, (fun n (h : n ∈ ([] : List String)) => (nomatch h))⟩
  rw [if_neg e] at h
  cases h
theorem ok_spec_ReadSet : FnOk Tryz.prog 52 spReadSet := by
  refine fn_ok (Φ := Phi_spec_ReadSet) (T := T_spec_ReadSet) phi_spec_ReadSet mixed Tryz.func52 rfl rfl rfl (by decide) ?_
  intro ins r outs hr hl
  clear hl
  have hs := spReadSet_in hr
  clear hr
  obtain ⟨t, last, rfl, hc, hr, rfl⟩ := hs
  simp only [spReadSet, Tryz.f52, Go.VM.initS]
  cases hw : within last 1 9999 with
  | false =>
    simp only [hw, go_sem]
    repeat' ((first | apply qa | apply qb | apply qc | apply qd | apply qe | apply qf | apply qg | apply qh | apply qi | apply qj | apply qk) <;> intro hp <;> simp only [hp, hw, go_sem])
    simp only [fin_mk, finV, resL, resV1, resIn, endA, listIn, Option.some_or, Option.none_or, oneOrTup, go_sem]
    rw [← hr]
    simp only [readSet, readOk, hw, Bool.false_and, Bool.false_eq_true, if_false]
    rfl
  | true =>
    have hl : 1 ≤ last ∧ last ≤ 9999 := by simpa only [within, Bool.and_eq_true, decide_eq_true_eq] using hw
    have hro : readOk t last = (match rangesOf last (splitOn 44 t) with | some l => decide ((setR l).length ≤ 40) | none => false) := by rw [readOk, hw, Bool.true_and]; rfl
    have hrs : readSet t last = if readOk t last = true then (match rangesOf last (splitOn 44 t) with | some l => setR l | none => []) else [] := rfl
    rw [hrs, hro] at hr
    clear hrs hro
    have hbt : (10001 : Int) * ((1 : Nat) : Int) ≤ 140737488355328 := by decide
    simp only [hw, replicate_bits, hbt, go_sem]
    repeat' ((first | apply qa | apply qb | apply qc | apply qd | apply qe | apply qf | apply qg | apply qh | apply qi | apply qj | apply qk) <;> intro hp <;> simp only [hp, hw, replicate_bits, hbt, go_sem])
    refine loop_go (fun q : Nat × Nat × List Range => [(8, .int .i64 (q.1 : Int)), (9, .int .i64 (q.2.1 : Int))]) (fun q => [(1, ⟨.arr, 1, (bitsOf (memN q.2.2)).map eBool⟩)]) (fun q => t.length + 1 - q.2.1) (fun q => (∀ r ∈ q.2.2, 1 ≤ r.Lo ∧ r.Lo ≤ r.Hi ∧ r.Hi ≤ 9999) ∧ ((q.2.1 ≤ t.length ∧ q.1 ≤ q.2.1 ∧ (∀ x ∈ (t.take q.2.1).drop q.1, notB 44 x = true) ∧ rangesOf last (splitOn 44 t) = (rangesOf last (splitOn 44 (t.drop q.1))).map (q.2.2 ++ ·)) ∨ (q.2.1 = t.length + 1 ∧ rangesOf last (splitOn 44 t) = some q.2.2))) (0, 0, []) ⟨by simp, .inl ⟨Nat.zero_le _, Nat.le_refl _, by simp, by simp⟩⟩ rfl rfl ?_
    rintro ⟨b, i, R⟩ ⟨hRin, hinv⟩ ih
    simp only at hRin hinv ih
    rcases hinv with ⟨hi, hbi, ha, hR⟩ | ⟨hi, hR⟩
    · have g2 : (0 : Int) ≤ i := by omega
      have g4 : (0 : Int) ≤ b := by omega
      have g5 := wrap_succ (n := t.length + 1) (i := i) (by omega) (by omega)
      have g0 : (i : Int) ≤ t.length := by omega
      rcases Nat.lt_or_ge i t.length with h | h
      · have g1 : (i : Int) < t.length := by omega
        have g3 : t[i]? = some t[i] := List.getElem?_eq_getElem h
        cases hb : ((t[i].toNat : Int) == 44) with
        | false =>
          have hn : notB 44 t[i] = true := by
            unfold notB
            rw [bne_iff_ne]
            intro e
            rw [e] at hb
            exact absurd hb (by decide)
          have ih' := ih (b, i + 1, R) ⟨hRin, .inl ⟨h, Nat.le_succ_of_le hbi, by
            rw [take_succ' h, List.drop_append_of_le_length (by rw [List.length_take]; omega)]
            intro x hx
            rcases List.mem_append.1 hx with hx | hx
            · exact ha x hx
            · simp only [List.mem_singleton] at hx
              subst hx
              exact hn, hR⟩⟩ (by simp only; omega)
          have hb2 : ((t[i].toNat : Int) != 44) = true := by rw [bne, hb]; rfl
          simp only [g0, g1, g2, g3, g5, hb, hb2, go_sem]
          repeat' ((first | apply qa | apply qb | apply qc | apply qd | apply qe | apply qf | apply qg | apply qh | apply qi | apply qj | apply qk) <;> intro hp <;> simp only [hp, g0, g1, g2, g3, g5, hb, hb2, go_sem])
          exact ih'
        | true =>
          have h44 : t[i] = 44 := by
            have h1 : t[i].toNat = (44 : UInt8).toNat := by simp only [beq_iff_eq] at hb; show t[i].toNat = 44; omega
            exact UInt8.toNat_inj.1 h1
          have hb2 : ((t[i].toNat : Int) != 44) = false := by rw [bne, hb]; rfl
          have hS := splitOn_at hbi h h44 ha
          generalize hpp : (t.take i).drop b = p at *
          have hP : rangesOf last (splitOn 44 t) = (rangesOf last (p :: splitOn 44 (t.drop (i + 1)))).map (R ++ ·) := by rw [hR, hS]
          have c1 : p.length ≤ 4194304 := by rw [← hpp, List.length_drop, List.length_take]; omega
          simp only [rangesOf] at hP
          cases hB : partB p with
          | false =>
            rw [hB] at hP
            simp only [Bool.false_eq_true, if_false, Option.map_none] at hP
            rw [hP] at hr
            simp only [Bool.false_eq_true, if_false] at hr
            simp only [g0, g1, g2, g3, g4, g5, hbi, hi, hb, hb2, hpp, c1, hB, go_sem]
            repeat' ((first | apply qa | apply qb | apply qc | apply qd | apply qe | apply qf | apply qg | apply qh | apply qi | apply qj | apply qk) <;> intro hp <;> simp only [hp, g0, g1, g2, g3, g4, g5, hbi, hi, hb, hb2, hpp, c1, hB, go_sem])
            simp only [fin_mk, finV, resL, resV1, resIn, endA, listIn, Option.some_or, Option.none_or, oneOrTup, go_sem]
            rw [← hr]
            rfl
          | true =>
            rw [hB] at hP
            simp only [if_true, Option.map_map] at hP
            have hin := part_in hl hB
            obtain ⟨lo, hlo⟩ : ∃ a : Nat, partLo p last = a := ⟨(partLo p last).toNat, by omega⟩
            obtain ⟨hh, hhi⟩ : ∃ a : Nat, partHi p last = a := ⟨(partHi p last).toNat, by omega⟩
            rw [hlo, hhi] at hin hP
            have e0 : (fun n => memN R n || (decide (lo ≤ n) && decide (n < lo))) = memN R := by
              funext n
              have : (decide (lo ≤ n) && decide (n < lo)) = false := by rw [Bool.and_eq_false_iff]; simp; omega
              rw [this, Bool.or_false]
            have e1 : (fun n => memN R n || (decide (lo ≤ n) && decide (n < hh + 1))) = memN (R ++ [⟨lo, hh⟩]) := by
              funext n
              unfold memN
              rw [hasR_append]
              congr 1
              rw [Bool.eq_iff_iff]
              simp [hasR]; omega
            have ih' := ih (i + 1, i + 1, R ++ [⟨lo, hh⟩]) ⟨fun r hr' => by
              rcases List.mem_append.1 hr' with h' | h'
              · exact hRin r h'
              · simp only [List.mem_singleton] at h'
                subst h'
                exact hin, .inl ⟨h, Nat.le_refl _, (by simp only; intro x hx; rw [List.drop_of_length_le (by rw [List.length_take]; omega)] at hx; cases hx), by simp only; rw [hP]; congr 1; funext l; simp⟩⟩ (by simp only; omega)
            simp only at ih'
            rw [← e1] at ih'
            clear ih
            simp only [g0, g1, g2, g3, g4, g5, hbi, hi, hb, hb2, hpp, c1, hB, hlo, hhi, go_sem]
            repeat' ((first | apply qa | apply qb | apply qc | apply qd | apply qe | apply qf | apply qg | apply qh | apply qi | apply qj | apply qk) <;> intro hp <;> simp only [hp, g0, g1, g2, g3, g4, g5, hbi, hi, hb, hb2, hpp, c1, hB, hlo, hhi, go_sem])
            refine loop_go (fun k : Nat => [(13, .int .i64 (k : Int))]) (fun k => [(1, ⟨.arr, 1, (bitsOf fun n => memN R n || (decide (lo ≤ n) && decide (n < k))).map eBool⟩)]) (fun k => hh + 1 - k) (fun k => lo ≤ k ∧ k ≤ hh + 1) lo ⟨Nat.le_refl _, by omega⟩ rfl (by rw [e0]; rfl) ?_
            intro k ⟨hk1, hk2⟩ ihk
            rcases Nat.lt_or_ge k (hh + 1) with hkl | hkl
            · have k1 : (k : Int) ≤ (hh : Int) := by omega
              have k2 : (0 : Int) ≤ k := by omega
              have k3 : (k : Int) < ((10001 : Nat) : Int) := by omega
              have k5 := wrap_succ hkl (by omega)
              have kl := bitsOf_len (fun n => memN R n || (decide (lo ≤ n) && decide (n < k)))
              have kg := bitsOf_get (fun n => memN R n || (decide (lo ≤ n) && decide (n < k))) (n := k) (by omega)
              have ks : (List.map eBool (bitsOf fun n => memN R n || (decide (lo ≤ n) && decide (n < k)))).set k (V.bool true) = List.map eBool (bitsOf fun n => memN R n || (decide (lo ≤ n) && decide (n < k + 1))) := by
                rw [show V.bool true = eBool true from rfl, ← List.map_set, bitsOf_set]
                congr 2
                funext m
                by_cases hm : m = k
                · subst hm; simp [hk1]
                · have : decide (m < k + 1) = decide (m < k) := by rw [Bool.eq_iff_iff]; simp; omega
                  simp [hm, this]
              have ihk' := ihk (k + 1) ⟨by omega, by omega⟩ (by omega)
              rw [← ks] at ihk'
              clear ihk ks ih'
              generalize hBB : (bitsOf fun n => memN R n || (decide (lo ≤ n) && decide (n < k))) = BB at *
              simp only [g0, g1, g2, g3, g4, g5, hbi, hi, hb, hb2, hpp, k1, k2, k3, k5, kl, kg, go_sem]
              repeat' ((first | apply qa | apply qb | apply qc | apply qd | apply qe | apply qf | apply qg | apply qh | apply qi | apply qj | apply qk) <;> intro hp <;> simp only [hp, g0, g1, g2, g3, g4, g5, hbi, hi, hb, hb2, hpp, k1, k2, k3, k5, kl, kg, go_sem])
              exact ihk'
            · have hke : k = hh + 1 := by omega
              subst hke
              have k1 : ¬ (((hh + 1 : Nat) : Int)) ≤ (hh : Int) := by omega
              simp only [g0, g1, g2, g3, g4, g5, hbi, hi, hb, hb2, hpp, k1, g5, go_sem]
              repeat' ((first | apply qa | apply qb | apply qc | apply qd | apply qe | apply qf | apply qg | apply qh | apply qi | apply qj | apply qk) <;> intro hp <;> simp only [hp, g0, g1, g2, g3, g4, g5, hbi, hi, hb, hb2, hpp, k1, g5, go_sem])
              exact ih'
      · have g1 : ¬ (i : Int) < t.length := by omega
        have hS : splitOn 44 (t.drop b) = [(t.take i).drop b] := by
          rw [List.take_of_length_le h] at ha ⊢
          exact splitOn_none ha
        generalize hpp : (t.take i).drop b = p at *
        have hP : rangesOf last (splitOn 44 t) = (rangesOf last (p :: [])).map (R ++ ·) := by rw [hR, hS]
        have c1 : p.length ≤ 4194304 := by rw [← hpp, List.length_drop, List.length_take]; omega
        simp only [rangesOf] at hP
        cases hB : partB p with
        | false =>
          rw [hB] at hP
          simp only [Bool.false_eq_true, if_false, Option.map_none] at hP
          rw [hP] at hr
          simp only [Bool.false_eq_true, if_false] at hr
          simp only [g0, g1, g2, g4, g5, hbi, hi, hpp, c1, hB, go_sem]
          repeat' ((first | apply qa | apply qb | apply qc | apply qd | apply qe | apply qf | apply qg | apply qh | apply qi | apply qj | apply qk) <;> intro hp <;> simp only [hp, g0, g1, g2, g4, g5, hbi, hi, hpp, c1, hB, go_sem])
          simp only [fin_mk, finV, resL, resV1, resIn, endA, listIn, Option.some_or, Option.none_or, oneOrTup, go_sem]
          rw [← hr]
          rfl
        | true =>
          rw [hB] at hP
          simp only [if_true, Option.map_map] at hP
          have hin := part_in hl hB
          obtain ⟨lo, hlo⟩ : ∃ a : Nat, partLo p last = a := ⟨(partLo p last).toNat, by omega⟩
          obtain ⟨hh, hhi⟩ : ∃ a : Nat, partHi p last = a := ⟨(partHi p last).toNat, by omega⟩
          rw [hlo, hhi] at hin hP
          have e0 : (fun n => memN R n || (decide (lo ≤ n) && decide (n < lo))) = memN R := by
            funext n
            have : (decide (lo ≤ n) && decide (n < lo)) = false := by rw [Bool.and_eq_false_iff]; simp; omega
            rw [this, Bool.or_false]
          have e1 : (fun n => memN R n || (decide (lo ≤ n) && decide (n < hh + 1))) = memN (R ++ [⟨lo, hh⟩]) := by
            funext n
            unfold memN
            rw [hasR_append]
            congr 1
            rw [Bool.eq_iff_iff]
            simp [hasR]; omega
          have ih' := ih (i + 1, i + 1, R ++ [⟨lo, hh⟩]) ⟨fun r hr' => by
            rcases List.mem_append.1 hr' with h' | h'
            · exact hRin r h'
            · simp only [List.mem_singleton] at h'
              subst h'
              exact hin, .inr ⟨by simp only; omega, by rw [hP]; simp [rangesOf]⟩⟩ (by simp only; omega)
          simp only at ih'
          rw [← e1] at ih'
          clear ih
          simp only [g0, g1, g2, g4, g5, hbi, hi, hpp, c1, hB, hlo, hhi, go_sem]
          repeat' ((first | apply qa | apply qb | apply qc | apply qd | apply qe | apply qf | apply qg | apply qh | apply qi | apply qj | apply qk) <;> intro hp <;> simp only [hp, g0, g1, g2, g4, g5, hbi, hi, hpp, c1, hB, hlo, hhi, go_sem])
          refine loop_go (fun k : Nat => [(13, .int .i64 (k : Int))]) (fun k => [(1, ⟨.arr, 1, (bitsOf fun n => memN R n || (decide (lo ≤ n) && decide (n < k))).map eBool⟩)]) (fun k => hh + 1 - k) (fun k => lo ≤ k ∧ k ≤ hh + 1) lo ⟨Nat.le_refl _, by omega⟩ rfl (by rw [e0]; rfl) ?_
          intro k ⟨hk1, hk2⟩ ihk
          rcases Nat.lt_or_ge k (hh + 1) with hkl | hkl
          · have k1 : (k : Int) ≤ (hh : Int) := by omega
            have k2 : (0 : Int) ≤ k := by omega
            have k3 : (k : Int) < ((10001 : Nat) : Int) := by omega
            have k5 := wrap_succ hkl (by omega)
            have kl := bitsOf_len (fun n => memN R n || (decide (lo ≤ n) && decide (n < k)))
            have kg := bitsOf_get (fun n => memN R n || (decide (lo ≤ n) && decide (n < k))) (n := k) (by omega)
            have ks : (List.map eBool (bitsOf fun n => memN R n || (decide (lo ≤ n) && decide (n < k)))).set k (V.bool true) = List.map eBool (bitsOf fun n => memN R n || (decide (lo ≤ n) && decide (n < k + 1))) := by
              rw [show V.bool true = eBool true from rfl, ← List.map_set, bitsOf_set]
              congr 2
              funext m
              by_cases hm : m = k
              · subst hm; simp [hk1]
              · have : decide (m < k + 1) = decide (m < k) := by rw [Bool.eq_iff_iff]; simp; omega
                simp [hm, this]
            have ihk' := ihk (k + 1) ⟨by omega, by omega⟩ (by omega)
            rw [← ks] at ihk'
            clear ihk ks ih'
            generalize hBB : (bitsOf fun n => memN R n || (decide (lo ≤ n) && decide (n < k))) = BB at *
            simp only [g0, g1, g2, g4, g5, hbi, hi, hpp, k1, k2, k3, k5, kl, kg, go_sem]
            repeat' ((first | apply qa | apply qb | apply qc | apply qd | apply qe | apply qf | apply qg | apply qh | apply qi | apply qj | apply qk) <;> intro hp <;> simp only [hp, g0, g1, g2, g4, g5, hbi, hi, hpp, k1, k2, k3, k5, kl, kg, go_sem])
            exact ihk'
          · have hke : k = hh + 1 := by omega
            subst hke
            have k1 : ¬ (((hh + 1 : Nat) : Int)) ≤ (hh : Int) := by omega
            simp only [g0, g1, g2, g4, g5, hbi, hi, hpp, k1, g5, go_sem]
            repeat' ((first | apply qa | apply qb | apply qc | apply qd | apply qe | apply qf | apply qg | apply qh | apply qi | apply qj | apply qk) <;> intro hp <;> simp only [hp, g0, g1, g2, g4, g5, hbi, hi, hpp, k1, g5, go_sem])
            exact ih'
    · have g1 : ¬ (i : Int) ≤ t.length := by omega
      rw [hR] at hr
      simp only [decide_eq_true_eq] at hr
      have s1 := bitsOf_len (memN R)
      have s2 := memN_zero hRin
      have s3 := setR_bits (R := R)
      have s4 := setR_ok R
      generalize hBB : bitsOf (memN R) = BB at *
      rw [s3.symm] at hr s4
      generalize hX : scanB BB = X at *
      simp only [g1, s1, s2, s3, s4, go_sem]
      repeat' ((first | apply qa | apply qb | apply qc | apply qd | apply qe | apply qf | apply qg | apply qh | apply qi | apply qj | apply qk) <;> intro hp <;> simp only [hp, g1, s1, s2, s3, s4, go_sem])
      simp only [fin_mk, finV, resL, resV1, resIn, endA, listIn, Option.some_or, Option.none_or, oneOrTup, go_sem]
      rw [← hr]
      all_goals (rw [hX, s4]; simp)
end Go.Proofs.YtimiccneikhkgaaGreatDoor.L

namespace Go.Proofs.YtimiccneikhkgaaGreatDoor.L
open Go Go.VM
set_option maxRecDepth 100000
set_option maxHeartbeats 4000000
set_option linter.unusedSimpArgs false
set_option linter.unusedVariables false
theorem headIn_len (nm : List UInt8) (n : Nat) : ∀ ls : List (List UInt8), (∀ x ∈ ls, x.length ≤ n) → (headIn nm ls).1.length ≤ n
  | [], _ => by simp [headIn]
  | l :: ls, h => by
    rw [headIn]
    split
    · simp
    · split
      · have h1 := trim_len (l.drop (nm.length + 1))
        have h2 := h l (by simp)
        rw [List.length_drop] at h1
        simp only; omega
      · exact headIn_len nm n ls fun x hx => h x (by simp [hx])
theorem headOf_len (t nm : List UInt8) : (headOf t nm).1.length ≤ t.length := headIn_len nm _ _ (splitOn_mem 10 t)
theorem baseL_len : ∀ (n : Nat) (s : List UInt8), (baseL n s).length ≤ s.length
  | 0, s => Nat.le_refl _
  | n + 1, s => by
    rw [baseL]
    split
    · exact Nat.le_trans (baseL_len n _) (Nat.le_trans (trim_len _) (by rw [List.length_drop]; omega))
    · split
      · exact Nat.le_trans (baseL_len n _) (Nat.le_trans (trim_len _) (by rw [List.length_drop]; omega))
      · exact Nat.le_refl _
theorem baseSubject_len (s : List UInt8) : (baseSubject s).length ≤ s.length :=
  Nat.le_trans (baseL_len _ _) (Nat.le_trans (trim_len _) (by rw [lowS_len]; exact Nat.le_refl _))
theorem readSet_len (t : List UInt8) (last : Int) : (readSet t last).length ≤ 40 := by
  unfold readSet
  split
  · rename_i h
    simp only [readOk, Bool.and_eq_true] at h
    split
    · rename_i l hl
      rw [hl] at h
      simpa using h.2
    · simp
  · simp
theorem readSet_no {t : List UInt8} {last : Int} (h : readOk t last = false) : readSet t last = [] := by rw [readSet, h, if_neg (by simp)]
def hasT (s t : List UInt8) : Bool := decide (0 ≤ Lib.index s t)
theorem index_nil {s : List UInt8} : Lib.index s [] = 0 := by cases s <;> simp [Lib.index, List.isPrefixOf]
theorem hasT_here {s t : List UInt8} (h : t.isPrefixOf s = true) : hasT s t = true := by
  cases s with
  | nil =>
    have : t = [] := by cases t with | nil => rfl | cons a l => simp [List.isPrefixOf] at h
    subst this; simp [hasT, Lib.index]
  | cons b s => simp [hasT, Lib.index, h]
theorem hasT_next {b : UInt8} {s t : List UInt8} (h : t.isPrefixOf (b :: s) = false) : hasT (b :: s) t = hasT s t := by
  have hge := Lib.index_ge s t
  simp only [hasT, Lib.index, h, Bool.false_eq_true, if_false]
  by_cases he : Lib.index s t = -1
  · rw [he]; rfl
  · have : (Lib.index s t == -1) = false := beq_eq_false_iff_ne.2 he
    rw [this, Bool.eq_iff_iff]
    simp; omega
theorem hasT_short {s t : List UInt8} (h : s.length < t.length) : hasT s t = false := by
  rw [hasT, decide_eq_false_iff_not]
  intro h0
  have := index_room h0
  omega
theorem pre_at {s t : List UInt8} {i : Nat} (h : i + t.length ≤ s.length) : t.isPrefixOf (s.drop i) = ((s.take (i + t.length)).drop i == t) := by
  rw [Bool.eq_iff_iff, List.isPrefixOf_iff_prefix, List.prefix_iff_eq_take, beq_iff_eq, List.drop_take]
  rw [show i + t.length - i = t.length by omega]
  exact eq_comm
open Classical in
noncomputable def spHasT : VM.Spec := { modes := [.rd, .rd], run := fun | [.str s, .str t] => if s.length ≤ 4194304 ∧ t.length ≤ 4194304 then some (.bool (hasT s t), []) else none | _ => none, need := ["internal/bytealg.MaxLen"] }
attribute [go_sem] spHasT
theorem spHasT_in {ins : List V} {r : V} {outs : List V} (h : spHasT.run ins = some (r, outs)) : ∃ (s : (List UInt8)) (t : (List UInt8)), ins = [.str s, .str t] ∧ (s.length ≤ 4194304 ∧ t.length ≤ 4194304) ∧ .bool (hasT s t) = r ∧ outs = [] := by
  unfold spHasT at h
  simp only at h
  split at h
  · rename_i s t
    split at h
    case isFalse => cases h
    rename_i hc
    simp only [Option.some.injEq, Prod.mk.injEq] at h
    obtain ⟨h1, h2⟩ := h
    exact ⟨s, t, rfl, hc, h1, h2.symm⟩
  · cases h
theorem ok_strings_Index : FnOk Tryz.prog 131 spIndex :=
  index_ok Tryz.func131 rfl (by kernel_rfl) (g := 0) (by kernel_rfl) (by simp [spIndex]) rfl (fun _ _ _ h => spIndex_in h) Tryz.strings_Index
def T_strings_Contains : Hints := ⟨fun _ => none, fun _ => none, fun i => if i = 0 then some [0, 1] else if i = 1 then some [4] else none, fun _ => none⟩
noncomputable def Phi_strings_Contains : Tab := fun f => if f = 131 then some spIndex else none
attribute [go_sem] T_strings_Contains Phi_strings_Contains
theorem phi_strings_Contains : ∀ f sp, Phi_strings_Contains f = some sp → FnOk Tryz.prog f sp ∧ ∀ n ∈ sp.need, n ∈ (["internal/bytealg.MaxLen"] : List String) := by
  intro f sp h
  unfold Phi_strings_Contains at h
  by_cases e : f = 131
  · rw [if_pos e] at h; cases h; rw [e]; exact ⟨ok_strings_Index, (fun n (h : n ∈ (["internal/bytealg.MaxLen"] : List String)) => by simp only [List.mem_cons, List.not_mem_nil, or_false] at h; rcases h with rfl <;> simp)⟩
  rw [if_neg e] at h
  cases h
theorem ok_strings_Contains : FnOk Tryz.prog 73 spHasT := by
  refine fn_ok (Φ := Phi_strings_Contains) (T := T_strings_Contains) phi_strings_Contains mixed Tryz.func73 rfl rfl rfl (by decide) ?_
  intro ins r outs hr hl
  clear hl
  have hs := spHasT_in hr
  clear hr
  obtain ⟨s, t, rfl, hc, hr, rfl⟩ := hs
  simp only [spHasT, Tryz.f73, Go.VM.initS]
  obtain ⟨hs, ht⟩ := hc
  have h1 : s.length < 4294967281 := by omega
  simp only [h1, go_sem]
  repeat' ((first | apply qa | apply qb | apply qc | apply qd | apply qe | apply qf | apply qg | apply qh | apply qi | apply qj | apply qk) <;> intro hp <;> simp only [hp, h1, go_sem])
  simp only [fin_mk, finV, resL, resV1, resIn, endA, listIn, Option.some_or, Option.none_or, oneOrTup, go_sem]
  rw [← hr]
  rfl
def T_spec_l12Has : Hints := ⟨fun _ => none, fun i => if i = 2 then some [0, 1, 5] else none, fun i => if i = 0 then some [0, 1] else if i = 1 then some [0, 1, 5] else if i = 2 then some [0, 1, 5, 12] else if i = 4 then some [0, 1, 5, 23] else if i = 5 then some [4] else if i = 3 then some [0, 1, 5] else if i = 6 then some [4] else none, fun _ => none⟩
noncomputable def Phi_spec_l12Has : Tab := fun f => none
attribute [go_sem] T_spec_l12Has Phi_spec_l12Has
theorem phi_spec_l12Has : ∀ f sp, Phi_spec_l12Has f = some sp → FnOk Tryz.prog f sp ∧ ∀ n ∈ sp.need, n ∈ (["internal/bytealg.MaxLen"] : List String) := by
  intro f sp h
  unfold Phi_spec_l12Has at h
  cases h
theorem ok_spec_l12Has : FnOk Tryz.prog 137 spHasT := by
  refine fn_ok (Φ := Phi_spec_l12Has) (T := T_spec_l12Has) phi_spec_l12Has mixed Tryz.func137 rfl rfl rfl (by decide) ?_
  intro ins r outs hr hl
  clear hl
  have hs := spHasT_in hr
  clear hr
  obtain ⟨s, t, rfl, hc, hr, rfl⟩ := hs
  simp only [spHasT, Tryz.f137, Go.VM.initS]
  obtain ⟨hs, ht⟩ := hc
  simp only [go_sem]
  repeat' ((first | apply qa | apply qb | apply qc | apply qd | apply qe | apply qf | apply qg | apply qh | apply qi | apply qj | apply qk) <;> intro hp <;> simp only [hp, go_sem])
  refine loop_go (fun i : Nat => [(5, .int .i64 (i : Int))]) (fun _ => []) (fun i => s.length + 1 - i) (fun i => i ≤ s.length ∧ hasT s t = hasT (s.drop i) t) 0 ⟨Nat.zero_le _, rfl⟩ rfl rfl ?_
  intro i ⟨hi, ha⟩ ih
  have w1 : IntKind.i64.wrap ((i : Int) + (t.length : Int)) = ((i + t.length : Nat) : Int) := (wrap64 (by omega) (by omega)).trans (by omega)
  have g2 : (0 : Int) ≤ i := by omega
  by_cases h : i + t.length ≤ s.length
  · have g1 : ((i + t.length : Nat) : Int) ≤ (s.length : Int) := by omega
    have g3 : (0 : Int) ≤ ((i + t.length : Nat) : Int) := by omega
    have g4 : i ≤ i + t.length := by omega
    have g5 : IntKind.i64.wrap ((i : Int) + 1) = ((i + 1 : Nat) : Int) := (wrap64 (by omega) (by omega)).trans (by omega)
    have hp0 := pre_at h
    cases hb : ((s.take (i + t.length)).drop i == t) with
    | true =>
      rw [hb] at hp0
      have hh := ha.trans (hasT_here hp0)
      rw [hh] at hr
      simp only [w1, g1, g2, g3, g4, h, hb, Int.toNat_natCast, go_sem]
      repeat' ((first | apply qa | apply qb | apply qc | apply qd | apply qe | apply qf | apply qg | apply qh | apply qi | apply qj | apply qk) <;> intro hp <;> simp only [hp, w1, g1, g2, g3, g4, h, hb, Int.toNat_natCast, go_sem])
      all_goals (simp only [fin_mk, finV, resL, resV1, resIn, endA, listIn, Option.some_or, Option.none_or, oneOrTup, go_sem]; rw [← hr])
    | false =>
      rw [hb] at hp0
      have hlt : i < s.length := by
        rcases Nat.lt_or_ge i s.length with h' | h'
        · exact h'
        · have e1 : t = [] := List.eq_nil_of_length_eq_zero (by omega)
          subst e1
          simp [List.isPrefixOf] at hp0
      have hd : s.drop i = s[i] :: s.drop (i + 1) := List.drop_eq_getElem_cons hlt
      rw [hd] at hp0
      have ih' := ih (i + 1) ⟨hlt, by rw [ha, hd, hasT_next hp0]⟩ (by omega)
      simp only [w1, g1, g2, g3, g4, g5, h, hb, Int.toNat_natCast, go_sem]
      repeat' ((first | apply qa | apply qb | apply qc | apply qd | apply qe | apply qf | apply qg | apply qh | apply qi | apply qj | apply qk) <;> intro hp <;> simp only [hp, w1, g1, g2, g3, g4, g5, h, hb, Int.toNat_natCast, go_sem])
      all_goals exact ih'
  · have g1 : ¬ ((i + t.length : Nat) : Int) ≤ (s.length : Int) := by omega
    rw [ha, hasT_short (by rw [List.length_drop]; omega)] at hr
    simp only [w1, g1, go_sem]
    repeat' ((first | apply qa | apply qb | apply qc | apply qd | apply qe | apply qf | apply qg | apply qh | apply qi | apply qj | apply qk) <;> intro hp <;> simp only [hp, w1, g1, go_sem])
    simp only [fin_mk, finV, resL, resV1, resIn, endA, listIn, Option.some_or, Option.none_or, oneOrTup, go_sem]
    rw [← hr]
def subjectOf (m : Mail) : List UInt8 := baseSubject (headOf m.Text [115, 117, 98, 106, 101, 99, 116]).1
open Classical in
noncomputable def spSubjectOf : VM.Spec := { modes := [.rd], run := fun | [m'] => (Mail.dec m').bind fun m => if m.le 4194304 then some (.str (subjectOf m), []) else none | _ => none, need := ["internal/bytealg.MaxLen"] }
attribute [go_sem] spSubjectOf
theorem spSubjectOf_in {ins : List V} {r : V} {outs : List V} (h : spSubjectOf.run ins = some (r, outs)) : ∃ (m : Mail), ins = [Mail.enc m] ∧ (m.le 4194304) ∧ .str (subjectOf m) = r ∧ outs = [] := by
  unfold spSubjectOf at h
  simp only at h
  split at h
  · rename_i m'
    simp only [Option.bind_eq_some_iff] at h
    obtain ⟨m, h_m, h⟩ := h
    split at h
    case isFalse => cases h
    rename_i hc
    simp only [Option.some.injEq, Prod.mk.injEq] at h
    obtain ⟨h1, h2⟩ := h
    have h_m := Mail.dec_some h_m
    subst h_m
    exact ⟨m, rfl, hc, h1, h2.symm⟩
  · cases h
def T_impl_subjectOf : Hints := ⟨fun _ => none, fun _ => none, fun i => if i = 0 then some [1] else if i = 1 then some [3] else if i = 2 then some [2] else none, fun _ => none⟩
noncomputable def Phi_impl_subjectOf : Tab := fun f => if f = 132 then some spHeadOf else if f = 133 then some spBaseSubject else none
attribute [go_sem] T_impl_subjectOf Phi_impl_subjectOf
theorem phi_impl_subjectOf : ∀ f sp, Phi_impl_subjectOf f = some sp → FnOk Tryz.prog f sp ∧ ∀ n ∈ sp.need, n ∈ (["internal/bytealg.MaxLen"] : List String) := by
  intro f sp h
  unfold Phi_impl_subjectOf at h
  by_cases e : f = 132
  · rw [if_pos e] at h; cases h; rw [e]; exact ⟨ok_impl_HeadOf, (fun n (h : n ∈ (["internal/bytealg.MaxLen"] : List String)) => by simp only [List.mem_cons, List.not_mem_nil, or_false] at h; rcases h with rfl <;> simp)⟩
  rw [if_neg e] at h
  by_cases e : f = 133
  · rw [if_pos e] at h; cases h; rw [e]; exact ⟨ok_impl_BaseSubject, (fun n (h : n ∈ ([] : List String)) => (nomatch h))⟩
  rw [if_neg e] at h
  cases h
theorem ok_impl_subjectOf : FnOk Tryz.prog 74 spSubjectOf := by
  refine fn_ok (Φ := Phi_impl_subjectOf) (T := T_impl_subjectOf) phi_impl_subjectOf mixed Tryz.func74 rfl rfl rfl (by decide) ?_
  intro ins r outs hr hl
  clear hl
  have hs := spSubjectOf_in hr
  clear hr
  obtain ⟨m, rfl, hc, hr, rfl⟩ := hs
  simp only [spSubjectOf, Tryz.f74, Go.VM.initS]
  have hT : m.Text.length ≤ 4194304 := hc
  have h1 := headOf_len m.Text [115, 117, 98, 106, 101, 99, 116]
  have h2 : (headOf m.Text [115, 117, 98, 106, 101, 99, 116]).1.length ≤ 1099511627776 := by omega
  simp only [hT, h2, go_sem]
  repeat' ((first | apply qa | apply qb | apply qc | apply qd | apply qe | apply qf | apply qg | apply qh | apply qi | apply qj | apply qk) <;> intro hp <;> simp only [hp, hT, h2, go_sem])
  simp only [fin_mk, finV, resL, resV1, resIn, endA, listIn, Option.some_or, Option.none_or, oneOrTup, go_sem]
  rw [← hr]
  rfl
def matchB (m : Mail) (k : Key) : Bool :=
  if k.Kind = 1 then true
  else if k.Kind = 2 then flagsOk m.Flags && flagsOk k.Num && decide (0 < andN m.Flags k.Num)
  else if k.Kind = 3 then flagsOk m.Flags && flagsOk k.Num && (andN m.Flags k.Num == 0)
  else if k.Kind = 4 then hasT (subjectOf m) (lowS k.Text)
  else if k.Kind = 5 then hasT (lowS m.Text) (lowS k.Text)
  else if k.Kind = 6 then hasR (readSet k.Text 9999) m.Uid
  else if k.Kind = 7 then decide (k.Num < m.Mod) else false
theorem and_some : ∀ a b : Fin 32, ((IntKind.i64.wrap (BitVec.ofInt 64 (a.val : Int) &&& BitVec.ofInt 64 (b.val : Int)).toNat != 0) = decide ((0 : Int) < ((a.val &&& b.val : Nat) : Int))) ∧ ((IntKind.i64.wrap (BitVec.ofInt 64 (a.val : Int) &&& BitVec.ofInt 64 (b.val : Int)).toNat == 0) = (((a.val &&& b.val : Nat) : Int) == 0)) := by decide +kernel
theorem and_impl {a b : Int} (ha : flagsOk a = true) (hb : flagsOk b = true) : ((IntKind.i64.wrap (BitVec.ofInt 64 a &&& BitVec.ofInt 64 b).toNat != 0) = decide (0 < andN a b)) ∧ ((IntKind.i64.wrap (BitVec.ofInt 64 a &&& BitVec.ofInt 64 b).toNat == 0) = (andN a b == 0)) := by
  have ha : 0 ≤ a ∧ a ≤ 31 := by simpa only [flagsOk, within, Bool.and_eq_true, decide_eq_true_eq] using ha
  have hb : 0 ≤ b ∧ b ≤ 31 := by simpa only [flagsOk, within, Bool.and_eq_true, decide_eq_true_eq] using hb
  obtain ⟨x, rfl⟩ : ∃ x : Nat, a = x := ⟨a.toNat, by omega⟩
  obtain ⟨y, rfl⟩ : ∃ y : Nat, b = y := ⟨b.toNat, by omega⟩
  exact and_some ⟨x, by omega⟩ ⟨y, by omega⟩
open Classical in
noncomputable def spMatches : VM.Spec := { modes := [.rd, .rd], run := fun | [m', k'] => (Mail.dec m').bind fun m => (Key.dec k').bind fun k => if m.le 4194304 ∧ k.le 4194304 then some (.bool (matchB m k), []) else none | _ => none, need := ["internal/bytealg.MaxLen"] }
attribute [go_sem] spMatches
theorem spMatches_in {ins : List V} {r : V} {outs : List V} (h : spMatches.run ins = some (r, outs)) : ∃ (m : Mail) (k : Key), ins = [Mail.enc m, Key.enc k] ∧ (m.le 4194304 ∧ k.le 4194304) ∧ .bool (matchB m k) = r ∧ outs = [] := by
  unfold spMatches at h
  simp only at h
  split at h
  · rename_i m' k'
    simp only [Option.bind_eq_some_iff] at h
    obtain ⟨m, h_m, k, h_k, h⟩ := h
    split at h
    case isFalse => cases h
    rename_i hc
    simp only [Option.some.injEq, Prod.mk.injEq] at h
    obtain ⟨h1, h2⟩ := h
    have h_m := Mail.dec_some h_m
    subst h_m
    have h_k := Key.dec_some h_k
    subst h_k
    exact ⟨m, k, rfl, hc, h1, h2.symm⟩
  · cases h
def T_impl_Matches : Hints := ⟨fun i => if i = 9 then some [(1, 2), (1, 3)] else if i = 11 then some [(2, 3), (2, 4)] else none, fun _ => none, fun i => if i = 0 then some [2, 3] else if i = 1 then some [2, 3, 8] else if i = 2 then some [2, 3, 8, 9] else if i = 3 then some [4] else if i = 4 then some [2, 3, 8, 11] else if i = 5 then some [4] else if i = 6 then some [2, 3, 8, 29] else if i = 7 then some [4] else if i = 8 then some [2, 3, 8, 47] else if i = 9 then some [4] else if i = 10 then some [2, 3, 8, 55] else if i = 11 then some [4] else if i = 12 then some [2, 3, 64] else if i = 13 then some [2, 5] else if i = 14 then some [4] else if i = 15 then some [4] else none, fun _ => none⟩
noncomputable def Phi_impl_Matches : Tab := fun f => if f = 65 then some spFlagsOk else if f = 74 then some spSubjectOf else if f = 75 then some spLow else if f = 73 then some spHasT else if f = 45 then some spReadSet else if f = 19 then some spSetHas else none
attribute [go_sem] T_impl_Matches Phi_impl_Matches
theorem phi_impl_Matches : ∀ f sp, Phi_impl_Matches f = some sp → FnOk Tryz.prog f sp ∧ ∀ n ∈ sp.need, n ∈ (["internal/bytealg.MaxLen"] : List String) := by
  intro f sp h
  unfold Phi_impl_Matches at h
  by_cases e : f = 65
  · rw [if_pos e] at h; cases h; rw [e]; exact ⟨ok_impl_FlagsOk, (fun n (h : n ∈ ([] : List String)) => (nomatch h))⟩
  rw [if_neg e] at h
  by_cases e : f = 74
  · rw [if_pos e] at h; cases h; rw [e]; exact ⟨ok_impl_subjectOf, (fun n (h : n ∈ (["internal/bytealg.MaxLen"] : List String)) => by simp only [List.mem_cons, List.not_mem_nil, or_false] at h; rcases h with rfl <;> simp)⟩
  rw [if_neg e] at h
  by_cases e : f = 75
  · rw [if_pos e] at h; cases h; rw [e]; exact ⟨ok_impl_lower, (fun n (h : n ∈ ([] : List String)) => (nomatch h))⟩
  rw [if_neg e] at h
  by_cases e : f = 73
  · rw [if_pos e] at h; cases h; rw [e]; exact ⟨ok_strings_Contains, (fun n (h : n ∈ (["internal/bytealg.MaxLen"] : List String)) => by simp only [List.mem_cons, List.not_mem_nil, or_false] at h; rcases h with rfl <;> simp)⟩
  rw [if_neg e] at h
  by_cases e : f = 45
  · rw [if_pos e] at h; cases h; rw [e]; exact ⟨ok_impl_ReadSet, (fun n (h : n ∈ (["internal/bytealg.MaxLen"] : List String)) => by simp only [List.mem_cons, List.not_mem_nil, or_false] at h; rcases h with rfl <;> simp)⟩
  rw [if_neg e] at h
  by_cases e : f = 19
  · rw [if_pos e] at h; cases h; rw [e]; exact ⟨ok_impl_SetHas, (fun n (h : n ∈ ([] : List String)) => (nomatch h))⟩
  rw [if_neg e] at h
  cases h
theorem ok_impl_Matches : FnOk Tryz.prog 18 spMatches := by
  refine fn_ok (Φ := Phi_impl_Matches) (T := T_impl_Matches) phi_impl_Matches mixed Tryz.func18 rfl rfl rfl (by decide) ?_
  intro ins r outs hr hl
  clear hl
  have hs := spMatches_in hr
  clear hr
  obtain ⟨m, k, rfl, hc, hr, rfl⟩ := hs
  simp only [spMatches, Tryz.f18, Go.VM.initS]
  obtain ⟨hm, hk'⟩ := hc
  have hk : k.Text.length ≤ 4194304 := hk'
  have hT : m.Text.length ≤ 4194304 := hm
  have t1 : m.Text.length ≤ 1099511627776 := by omega
  have t2 : k.Text.length ≤ 1099511627776 := by omega
  have t3 : (lowS m.Text).length ≤ 4194304 := by rw [lowS_len]; exact hT
  have t4 : (lowS k.Text).length ≤ 4194304 := by rw [lowS_len]; exact hk
  have hS := headOf_len m.Text [115, 117, 98, 106, 101, 99, 116]
  have hB := baseSubject_len (headOf m.Text [115, 117, 98, 106, 101, 99, 116]).1
  have t5 : (headOf m.Text [115, 117, 98, 106, 101, 99, 116]).1.length ≤ 1099511627776 := by omega
  have t6 : (baseSubject (headOf m.Text [115, 117, 98, 106, 101, 99, 116]).1).length ≤ 4194304 := by omega
  have t7 : (subjectOf m).length ≤ 4194304 := t6
  have t8 : (readSet k.Text 9999).length ≤ 8388608 := Nat.le_trans (readSet_len _ _) (by decide)
  have ml : m.le 4194304 := hm
  by_cases h1 : k.Kind = 1
  · have e1 : (k.Kind == 1) = true := by rw [h1]; rfl
    rw [matchB, if_pos h1] at hr
    simp only [e1, go_sem]
    repeat' ((first | ((first | apply qa | apply qb | apply qc | apply qd | apply qe | apply qf | apply qg | apply qh | apply qi | apply qj | apply qk) <;> intro hp) | ((first | refine ql rfl rfl (by decide +kernel) ?_ | refine qm _ rfl rfl (by decide +kernel) ?_) <;> have hp := True.intro)) <;> simp only [hp, e1, go_sem])
    simp only [fin_mk, finV, resL, resV1, resIn, endA, listIn, Option.some_or, Option.none_or, oneOrTup, go_sem]
    rw [← hr]
  have e1 : (k.Kind == 1) = false := by simpa using h1
  by_cases h2 : k.Kind = 2
  · have e2 : (k.Kind == 2) = true := by rw [h2]; rfl
    rw [matchB, if_neg h1, if_pos h2] at hr
    cases f1 : flagsOk m.Flags with
    | false =>
      rw [f1] at hr
      simp only [e1, e2, f1, go_sem]
      repeat' ((first | ((first | apply qa | apply qb | apply qc | apply qd | apply qe | apply qf | apply qg | apply qh | apply qi | apply qj | apply qk) <;> intro hp) | ((first | refine ql rfl rfl (by decide +kernel) ?_ | refine qm _ rfl rfl (by decide +kernel) ?_) <;> have hp := True.intro)) <;> simp only [hp, e1, e2, f1, go_sem])
      all_goals (simp only [fin_mk, finV, resL, resV1, resIn, endA, listIn, Option.some_or, Option.none_or, oneOrTup, go_sem]; rw [← hr])
      all_goals rfl
    | true =>
      cases f2 : flagsOk k.Num with
      | false =>
        rw [f1, f2] at hr
        simp only [e1, e2, f1, f2, go_sem]
        repeat' ((first | ((first | apply qa | apply qb | apply qc | apply qd | apply qe | apply qf | apply qg | apply qh | apply qi | apply qj | apply qk) <;> intro hp) | ((first | refine ql rfl rfl (by decide +kernel) ?_ | refine qm _ rfl rfl (by decide +kernel) ?_) <;> have hp := True.intro)) <;> simp only [hp, e1, e2, f1, f2, go_sem])
        all_goals (simp only [fin_mk, finV, resL, resV1, resIn, endA, listIn, Option.some_or, Option.none_or, oneOrTup, go_sem]; rw [← hr])
        all_goals rfl
      | true =>
        rw [f1, f2] at hr
        have q := (and_impl f1 f2).1
        rw [← q] at hr
        simp only [e1, e2, f1, f2, go_sem]
        repeat' ((first | ((first | apply qa | apply qb | apply qc | apply qd | apply qe | apply qf | apply qg | apply qh | apply qi | apply qj | apply qk) <;> intro hp) | ((first | refine ql rfl rfl (by decide +kernel) ?_ | refine qm _ rfl rfl (by decide +kernel) ?_) <;> have hp := True.intro)) <;> simp only [hp, e1, e2, f1, f2, go_sem])
        all_goals (simp only [fin_mk, finV, resL, resV1, resIn, endA, listIn, Option.some_or, Option.none_or, oneOrTup, go_sem]; rw [← hr])
        all_goals rfl
  have e2 : (k.Kind == 2) = false := by simpa using h2
  by_cases h3 : k.Kind = 3
  · have e3 : (k.Kind == 3) = true := by rw [h3]; rfl
    rw [matchB, if_neg h1, if_neg h2, if_pos h3] at hr
    cases f1 : flagsOk m.Flags with
    | false =>
      rw [f1] at hr
      simp only [e1, e2, e3, f1, go_sem]
      repeat' ((first | ((first | apply qa | apply qb | apply qc | apply qd | apply qe | apply qf | apply qg | apply qh | apply qi | apply qj | apply qk) <;> intro hp) | ((first | refine ql rfl rfl (by decide +kernel) ?_ | refine qm _ rfl rfl (by decide +kernel) ?_) <;> have hp := True.intro)) <;> simp only [hp, e1, e2, e3, f1, go_sem])
      all_goals (simp only [fin_mk, finV, resL, resV1, resIn, endA, listIn, Option.some_or, Option.none_or, oneOrTup, go_sem]; rw [← hr])
      all_goals rfl
    | true =>
      cases f2 : flagsOk k.Num with
      | false =>
        rw [f1, f2] at hr
        simp only [e1, e2, e3, f1, f2, go_sem]
        repeat' ((first | ((first | apply qa | apply qb | apply qc | apply qd | apply qe | apply qf | apply qg | apply qh | apply qi | apply qj | apply qk) <;> intro hp) | ((first | refine ql rfl rfl (by decide +kernel) ?_ | refine qm _ rfl rfl (by decide +kernel) ?_) <;> have hp := True.intro)) <;> simp only [hp, e1, e2, e3, f1, f2, go_sem])
        all_goals (simp only [fin_mk, finV, resL, resV1, resIn, endA, listIn, Option.some_or, Option.none_or, oneOrTup, go_sem]; rw [← hr])
        all_goals rfl
      | true =>
        rw [f1, f2] at hr
        have q := (and_impl f1 f2).2
        rw [← q] at hr
        simp only [e1, e2, e3, f1, f2, go_sem]
        repeat' ((first | ((first | apply qa | apply qb | apply qc | apply qd | apply qe | apply qf | apply qg | apply qh | apply qi | apply qj | apply qk) <;> intro hp) | ((first | refine ql rfl rfl (by decide +kernel) ?_ | refine qm _ rfl rfl (by decide +kernel) ?_) <;> have hp := True.intro)) <;> simp only [hp, e1, e2, e3, f1, f2, go_sem])
        all_goals (simp only [fin_mk, finV, resL, resV1, resIn, endA, listIn, Option.some_or, Option.none_or, oneOrTup, go_sem]; rw [← hr])
        all_goals rfl
  have e3 : (k.Kind == 3) = false := by simpa using h3
  by_cases h4 : k.Kind = 4
  · have e4 : (k.Kind == 4) = true := by rw [h4]; rfl
    rw [matchB, if_neg h1, if_neg h2, if_neg h3, if_pos h4] at hr
    simp only [e1, e2, e3, e4, t2, t4, t5, t6, t7, hT, ml, go_sem]
    repeat' ((first | ((first | apply qa | apply qb | apply qc | apply qd | apply qe | apply qf | apply qg | apply qh | apply qi | apply qj | apply qk) <;> intro hp) | ((first | refine ql rfl rfl (by decide +kernel) ?_ | refine qm _ rfl rfl (by decide +kernel) ?_) <;> have hp := True.intro)) <;> simp only [hp, e1, e2, e3, e4, t2, t4, t5, t6, t7, hT, ml, go_sem])
    all_goals (simp only [fin_mk, finV, resL, resV1, resIn, endA, listIn, Option.some_or, Option.none_or, oneOrTup, go_sem]; rw [← hr])
  have e4 : (k.Kind == 4) = false := by simpa using h4
  by_cases h5 : k.Kind = 5
  · have e5 : (k.Kind == 5) = true := by rw [h5]; rfl
    rw [matchB, if_neg h1, if_neg h2, if_neg h3, if_neg h4, if_pos h5] at hr
    simp only [e1, e2, e3, e4, e5, t1, t2, t3, t4, go_sem]
    repeat' ((first | ((first | apply qa | apply qb | apply qc | apply qd | apply qe | apply qf | apply qg | apply qh | apply qi | apply qj | apply qk) <;> intro hp) | ((first | refine ql rfl rfl (by decide +kernel) ?_ | refine qm _ rfl rfl (by decide +kernel) ?_) <;> have hp := True.intro)) <;> simp only [hp, e1, e2, e3, e4, e5, t1, t2, t3, t4, go_sem])
    all_goals (simp only [fin_mk, finV, resL, resV1, resIn, endA, listIn, Option.some_or, Option.none_or, oneOrTup, go_sem]; rw [← hr])
  have e5 : (k.Kind == 5) = false := by simpa using h5
  by_cases h6 : k.Kind = 6
  · have e6 : (k.Kind == 6) = true := by rw [h6]; rfl
    rw [matchB, if_neg h1, if_neg h2, if_neg h3, if_neg h4, if_neg h5, if_pos h6] at hr
    simp only [e1, e2, e3, e4, e5, e6, hk, t8, go_sem]
    repeat' ((first | ((first | apply qa | apply qb | apply qc | apply qd | apply qe | apply qf | apply qg | apply qh | apply qi | apply qj | apply qk) <;> intro hp) | ((first | refine ql rfl rfl (by decide +kernel) ?_ | refine qm _ rfl rfl (by decide +kernel) ?_) <;> have hp := True.intro)) <;> simp only [hp, e1, e2, e3, e4, e5, e6, hk, t8, go_sem])
    all_goals (simp only [fin_mk, finV, resL, resV1, resIn, endA, listIn, Option.some_or, Option.none_or, oneOrTup, go_sem]; rw [← hr])
  have e6 : (k.Kind == 6) = false := by simpa using h6
  by_cases h7 : k.Kind = 7
  · have e7 : (k.Kind == 7) = true := by rw [h7]; rfl
    rw [matchB, if_neg h1, if_neg h2, if_neg h3, if_neg h4, if_neg h5, if_neg h6, if_pos h7] at hr
    simp only [e1, e2, e3, e4, e5, e6, e7, go_sem]
    repeat' ((first | ((first | apply qa | apply qb | apply qc | apply qd | apply qe | apply qf | apply qg | apply qh | apply qi | apply qj | apply qk) <;> intro hp) | ((first | refine ql rfl rfl (by decide +kernel) ?_ | refine qm _ rfl rfl (by decide +kernel) ?_) <;> have hp := True.intro)) <;> simp only [hp, e1, e2, e3, e4, e5, e6, e7, go_sem])
    all_goals (simp only [fin_mk, finV, resL, resV1, resIn, endA, listIn, Option.some_or, Option.none_or, oneOrTup, go_sem]; rw [← hr])
  have e7 : (k.Kind == 7) = false := by simpa using h7
  rw [matchB, if_neg h1, if_neg h2, if_neg h3, if_neg h4, if_neg h5, if_neg h6, if_neg h7] at hr
  simp only [e1, e2, e3, e4, e5, e6, e7, go_sem]
  repeat' ((first | ((first | apply qa | apply qb | apply qc | apply qd | apply qe | apply qf | apply qg | apply qh | apply qi | apply qj | apply qk) <;> intro hp) | ((first | refine ql rfl rfl (by decide +kernel) ?_ | refine qm _ rfl rfl (by decide +kernel) ?_) <;> have hp := True.intro)) <;> simp only [hp, e1, e2, e3, e4, e5, e6, e7, go_sem])
  all_goals (simp only [fin_mk, finV, resL, resV1, resIn, endA, listIn, Option.some_or, Option.none_or, oneOrTup, go_sem]; rw [← hr])
def T_spec_Matches : Hints := ⟨fun i => if i = 10 then some [(1, 2), (1, 3)] else if i = 12 then some [(2, 3), (2, 4)] else none, fun _ => none, fun i => if i = 0 then some [2, 3] else if i = 1 then some [2, 3, 10] else if i = 2 then some [2, 3, 10, 11] else if i = 3 then some [4] else if i = 4 then some [2, 3, 10, 13] else if i = 5 then some [4] else if i = 6 then some [2, 3, 10, 31] else if i = 7 then some [4] else if i = 8 then some [2, 3, 10, 49] else if i = 9 then some [3, 5] else if i = 10 then some [4] else if i = 11 then some [2, 3, 10, 63] else if i = 12 then some [4] else if i = 13 then some [2, 3, 10, 72] else if i = 14 then some [2, 7, 8] else if i = 15 then some [4] else if i = 16 then some [2, 3, 87] else if i = 17 then some [4] else if i = 18 then some [4] else none, fun _ => none⟩
noncomputable def Phi_spec_Matches : Tab := fun f => if f = 57 then some spFlagsOk else if f = 135 then some spAnd else if f = 136 then some spHeadOf else if f = 138 then some spBaseSubject else if f = 139 then some spLow else if f = 137 then some spHasT else if f = 52 then some spReadSet else if f = 140 then some spSetHas else none
attribute [go_sem] T_spec_Matches Phi_spec_Matches
theorem phi_spec_Matches : ∀ f sp, Phi_spec_Matches f = some sp → FnOk Tryz.prog f sp ∧ ∀ n ∈ sp.need, n ∈ (["internal/bytealg.MaxLen"] : List String) := by
  intro f sp h
  unfold Phi_spec_Matches at h
  by_cases e : f = 57
  · rw [if_pos e] at h; cases h; rw [e]; exact ⟨ok_spec_FlagsOk, (fun n (h : n ∈ ([] : List String)) => (nomatch h))⟩
  rw [if_neg e] at h
  by_cases e : f = 135
  · rw [if_pos e] at h; cases h; rw [e]; exact ⟨ok_spec_l06And, (fun n (h : n ∈ ([] : List String)) => (nomatch h))⟩
  rw [if_neg e] at h
  by_cases e : f = 136
  · rw [if_pos e] at h; cases h; rw [e]; exact ⟨ok_spec_HeadOf, (fun n (h : n ∈ (["internal/bytealg.MaxLen"] : List String)) => by simp only [List.mem_cons, List.not_mem_nil, or_false] at h; rcases h with rfl <;> simp)⟩
  rw [if_neg e] at h
  by_cases e : f = 138
  · rw [if_pos e] at h; cases h; rw [e]; exact ⟨ok_spec_BaseSubject, (fun n (h : n ∈ ([] : List String)) => (nomatch h))⟩
  rw [if_neg e] at h
  by_cases e : f = 139
  · rw [if_pos e] at h; cases h; rw [e]; exact ⟨ok_spec_l06Low, (fun n (h : n ∈ ([] : List String)) => (nomatch h))⟩
  rw [if_neg e] at h
  by_cases e : f = 137
  · rw [if_pos e] at h; cases h; rw [e]; exact ⟨ok_spec_l12Has, (fun n (h : n ∈ (["internal/bytealg.MaxLen"] : List String)) => by simp only [List.mem_cons, List.not_mem_nil, or_false] at h; rcases h with rfl <;> simp)⟩
  rw [if_neg e] at h
  by_cases e : f = 52
  · rw [if_pos e] at h; cases h; rw [e]; exact ⟨ok_spec_ReadSet, (fun n (h : n ∈ (["internal/bytealg.MaxLen"] : List String)) => by simp only [List.mem_cons, List.not_mem_nil, or_false] at h; rcases h with rfl <;> simp)⟩
  rw [if_neg e] at h
  by_cases e : f = 140
  · rw [if_pos e] at h; cases h; rw [e]; exact ⟨ok_spec_SetHas, (fun n (h : n ∈ ([] : List String)) => (nomatch h))⟩
  rw [if_neg e] at h
  cases h
theorem ok_spec_Matches : FnOk Tryz.prog 79 spMatches := by
  refine fn_ok (Φ := Phi_spec_Matches) (T := T_spec_Matches) phi_spec_Matches mixed Tryz.func79 rfl rfl rfl (by decide) ?_
  intro ins r outs hr hl
  clear hl
  have hs := spMatches_in hr
  clear hr
  obtain ⟨m, k, rfl, hc, hr, rfl⟩ := hs
  simp only [spMatches, Tryz.f79, Go.VM.initS]
  obtain ⟨hm, hk'⟩ := hc
  have hk : k.Text.length ≤ 4194304 := hk'
  have hT : m.Text.length ≤ 4194304 := hm
  have t1 : m.Text.length ≤ 1099511627776 := by omega
  have t2 : k.Text.length ≤ 1099511627776 := by omega
  have t3 : (lowS m.Text).length ≤ 4194304 := by rw [lowS_len]; exact hT
  have t4 : (lowS k.Text).length ≤ 4194304 := by rw [lowS_len]; exact hk
  have hS := headOf_len m.Text [115, 117, 98, 106, 101, 99, 116]
  have hB := baseSubject_len (headOf m.Text [115, 117, 98, 106, 101, 99, 116]).1
  have t5 : (headOf m.Text [115, 117, 98, 106, 101, 99, 116]).1.length ≤ 1099511627776 := by omega
  have t6 : (baseSubject (headOf m.Text [115, 117, 98, 106, 101, 99, 116]).1).length ≤ 4194304 := by omega
  have t7 : (subjectOf m).length ≤ 4194304 := t6
  have t8 : (readSet k.Text 9999).length ≤ 8388608 := Nat.le_trans (readSet_len _ _) (by decide)
  have ml : m.le 4194304 := hm
  by_cases h1 : k.Kind = 1
  · have e1 : (k.Kind == 1) = true := by rw [h1]; rfl
    rw [matchB, if_pos h1] at hr
    simp only [e1, go_sem]
    repeat' ((first | ((first | apply qa | apply qb | apply qc | apply qd | apply qe | apply qf | apply qg | apply qh | apply qi | apply qj | apply qk) <;> intro hp) | ((first | refine ql rfl rfl (by decide +kernel) ?_ | refine qm _ rfl rfl (by decide +kernel) ?_) <;> have hp := True.intro)) <;> simp only [hp, e1, go_sem])
    simp only [fin_mk, finV, resL, resV1, resIn, endA, listIn, Option.some_or, Option.none_or, oneOrTup, go_sem]
    rw [← hr]
  have e1 : (k.Kind == 1) = false := by simpa using h1
  by_cases h2 : k.Kind = 2
  · have e2 : (k.Kind == 2) = true := by rw [h2]; rfl
    rw [matchB, if_neg h1, if_pos h2] at hr
    cases f1 : flagsOk m.Flags with
    | false =>
      rw [f1] at hr
      simp only [e1, e2, f1, go_sem]
      repeat' ((first | ((first | apply qa | apply qb | apply qc | apply qd | apply qe | apply qf | apply qg | apply qh | apply qi | apply qj | apply qk) <;> intro hp) | ((first | refine ql rfl rfl (by decide +kernel) ?_ | refine qm _ rfl rfl (by decide +kernel) ?_) <;> have hp := True.intro)) <;> simp only [hp, e1, e2, f1, go_sem])
      all_goals (simp only [fin_mk, finV, resL, resV1, resIn, endA, listIn, Option.some_or, Option.none_or, oneOrTup, go_sem]; rw [← hr])
      all_goals rfl
    | true =>
      cases f2 : flagsOk k.Num with
      | false =>
        rw [f1, f2] at hr
        simp only [e1, e2, f1, f2, go_sem]
        repeat' ((first | ((first | apply qa | apply qb | apply qc | apply qd | apply qe | apply qf | apply qg | apply qh | apply qi | apply qj | apply qk) <;> intro hp) | ((first | refine ql rfl rfl (by decide +kernel) ?_ | refine qm _ rfl rfl (by decide +kernel) ?_) <;> have hp := True.intro)) <;> simp only [hp, e1, e2, f1, f2, go_sem])
        all_goals (simp only [fin_mk, finV, resL, resV1, resIn, endA, listIn, Option.some_or, Option.none_or, oneOrTup, go_sem]; rw [← hr])
        all_goals rfl
      | true =>
        rw [f1, f2] at hr
        simp only [e1, e2, f1, f2, go_sem]
        repeat' ((first | ((first | apply qa | apply qb | apply qc | apply qd | apply qe | apply qf | apply qg | apply qh | apply qi | apply qj | apply qk) <;> intro hp) | ((first | refine ql rfl rfl (by decide +kernel) ?_ | refine qm _ rfl rfl (by decide +kernel) ?_) <;> have hp := True.intro)) <;> simp only [hp, e1, e2, f1, f2, go_sem])
        all_goals (simp only [fin_mk, finV, resL, resV1, resIn, endA, listIn, Option.some_or, Option.none_or, oneOrTup, go_sem]; rw [← hr])
        all_goals rfl
  have e2 : (k.Kind == 2) = false := by simpa using h2
  by_cases h3 : k.Kind = 3
  · have e3 : (k.Kind == 3) = true := by rw [h3]; rfl
    rw [matchB, if_neg h1, if_neg h2, if_pos h3] at hr
    cases f1 : flagsOk m.Flags with
    | false =>
      rw [f1] at hr
      simp only [e1, e2, e3, f1, go_sem]
      repeat' ((first | ((first | apply qa | apply qb | apply qc | apply qd | apply qe | apply qf | apply qg | apply qh | apply qi | apply qj | apply qk) <;> intro hp) | ((first | refine ql rfl rfl (by decide +kernel) ?_ | refine qm _ rfl rfl (by decide +kernel) ?_) <;> have hp := True.intro)) <;> simp only [hp, e1, e2, e3, f1, go_sem])
      all_goals (simp only [fin_mk, finV, resL, resV1, resIn, endA, listIn, Option.some_or, Option.none_or, oneOrTup, go_sem]; rw [← hr])
      all_goals rfl
    | true =>
      cases f2 : flagsOk k.Num with
      | false =>
        rw [f1, f2] at hr
        simp only [e1, e2, e3, f1, f2, go_sem]
        repeat' ((first | ((first | apply qa | apply qb | apply qc | apply qd | apply qe | apply qf | apply qg | apply qh | apply qi | apply qj | apply qk) <;> intro hp) | ((first | refine ql rfl rfl (by decide +kernel) ?_ | refine qm _ rfl rfl (by decide +kernel) ?_) <;> have hp := True.intro)) <;> simp only [hp, e1, e2, e3, f1, f2, go_sem])
        all_goals (simp only [fin_mk, finV, resL, resV1, resIn, endA, listIn, Option.some_or, Option.none_or, oneOrTup, go_sem]; rw [← hr])
        all_goals rfl
      | true =>
        rw [f1, f2] at hr
        simp only [e1, e2, e3, f1, f2, go_sem]
        repeat' ((first | ((first | apply qa | apply qb | apply qc | apply qd | apply qe | apply qf | apply qg | apply qh | apply qi | apply qj | apply qk) <;> intro hp) | ((first | refine ql rfl rfl (by decide +kernel) ?_ | refine qm _ rfl rfl (by decide +kernel) ?_) <;> have hp := True.intro)) <;> simp only [hp, e1, e2, e3, f1, f2, go_sem])
        all_goals (simp only [fin_mk, finV, resL, resV1, resIn, endA, listIn, Option.some_or, Option.none_or, oneOrTup, go_sem]; rw [← hr])
        all_goals rfl
  have e3 : (k.Kind == 3) = false := by simpa using h3
  by_cases h4 : k.Kind = 4
  · have e4 : (k.Kind == 4) = true := by rw [h4]; rfl
    rw [matchB, if_neg h1, if_neg h2, if_neg h3, if_pos h4] at hr
    simp only [e1, e2, e3, e4, t2, t4, t5, t6, t7, hT, ml, go_sem]
    repeat' ((first | ((first | apply qa | apply qb | apply qc | apply qd | apply qe | apply qf | apply qg | apply qh | apply qi | apply qj | apply qk) <;> intro hp) | ((first | refine ql rfl rfl (by decide +kernel) ?_ | refine qm _ rfl rfl (by decide +kernel) ?_) <;> have hp := True.intro)) <;> simp only [hp, e1, e2, e3, e4, t2, t4, t5, t6, t7, hT, ml, go_sem])
    all_goals (simp only [fin_mk, finV, resL, resV1, resIn, endA, listIn, Option.some_or, Option.none_or, oneOrTup, go_sem]; rw [← hr])
    all_goals rfl
  have e4 : (k.Kind == 4) = false := by simpa using h4
  by_cases h5 : k.Kind = 5
  · have e5 : (k.Kind == 5) = true := by rw [h5]; rfl
    rw [matchB, if_neg h1, if_neg h2, if_neg h3, if_neg h4, if_pos h5] at hr
    simp only [e1, e2, e3, e4, e5, t1, t2, t3, t4, go_sem]
    repeat' ((first | ((first | apply qa | apply qb | apply qc | apply qd | apply qe | apply qf | apply qg | apply qh | apply qi | apply qj | apply qk) <;> intro hp) | ((first | refine ql rfl rfl (by decide +kernel) ?_ | refine qm _ rfl rfl (by decide +kernel) ?_) <;> have hp := True.intro)) <;> simp only [hp, e1, e2, e3, e4, e5, t1, t2, t3, t4, go_sem])
    all_goals (simp only [fin_mk, finV, resL, resV1, resIn, endA, listIn, Option.some_or, Option.none_or, oneOrTup, go_sem]; rw [← hr])
  have e5 : (k.Kind == 5) = false := by simpa using h5
  by_cases h6 : k.Kind = 6
  · have e6 : (k.Kind == 6) = true := by rw [h6]; rfl
    rw [matchB, if_neg h1, if_neg h2, if_neg h3, if_neg h4, if_neg h5, if_pos h6] at hr
    cases f1 : readOk k.Text 9999 with
    | false =>
      rw [readSet_no f1] at hr
      simp only [e1, e2, e3, e4, e5, e6, hk, t8, f1, go_sem]
      repeat' ((first | ((first | apply qa | apply qb | apply qc | apply qd | apply qe | apply qf | apply qg | apply qh | apply qi | apply qj | apply qk) <;> intro hp) | ((first | refine ql rfl rfl (by decide +kernel) ?_ | refine qm _ rfl rfl (by decide +kernel) ?_) <;> have hp := True.intro)) <;> simp only [hp, e1, e2, e3, e4, e5, e6, hk, t8, f1, go_sem])
      all_goals (simp only [fin_mk, finV, resL, resV1, resIn, endA, listIn, Option.some_or, Option.none_or, oneOrTup, go_sem]; rw [← hr])
      all_goals rfl
    | true =>
      simp only [e1, e2, e3, e4, e5, e6, hk, t8, f1, go_sem]
      repeat' ((first | ((first | apply qa | apply qb | apply qc | apply qd | apply qe | apply qf | apply qg | apply qh | apply qi | apply qj | apply qk) <;> intro hp) | ((first | refine ql rfl rfl (by decide +kernel) ?_ | refine qm _ rfl rfl (by decide +kernel) ?_) <;> have hp := True.intro)) <;> simp only [hp, e1, e2, e3, e4, e5, e6, hk, t8, f1, go_sem])
      all_goals (simp only [fin_mk, finV, resL, resV1, resIn, endA, listIn, Option.some_or, Option.none_or, oneOrTup, go_sem]; rw [← hr])
  have e6 : (k.Kind == 6) = false := by simpa using h6
  by_cases h7 : k.Kind = 7
  · have e7 : (k.Kind == 7) = true := by rw [h7]; rfl
    rw [matchB, if_neg h1, if_neg h2, if_neg h3, if_neg h4, if_neg h5, if_neg h6, if_pos h7] at hr
    simp only [e1, e2, e3, e4, e5, e6, e7, go_sem]
    repeat' ((first | ((first | apply qa | apply qb | apply qc | apply qd | apply qe | apply qf | apply qg | apply qh | apply qi | apply qj | apply qk) <;> intro hp) | ((first | refine ql rfl rfl (by decide +kernel) ?_ | refine qm _ rfl rfl (by decide +kernel) ?_) <;> have hp := True.intro)) <;> simp only [hp, e1, e2, e3, e4, e5, e6, e7, go_sem])
    all_goals (simp only [fin_mk, finV, resL, resV1, resIn, endA, listIn, Option.some_or, Option.none_or, oneOrTup, go_sem]; rw [← hr])
  have e7 : (k.Kind == 7) = false := by simpa using h7
  rw [matchB, if_neg h1, if_neg h2, if_neg h3, if_neg h4, if_neg h5, if_neg h6, if_neg h7] at hr
  simp only [e1, e2, e3, e4, e5, e6, e7, go_sem]
  repeat' ((first | ((first | apply qa | apply qb | apply qc | apply qd | apply qe | apply qf | apply qg | apply qh | apply qi | apply qj | apply qk) <;> intro hp) | ((first | refine ql rfl rfl (by decide +kernel) ?_ | refine qm _ rfl rfl (by decide +kernel) ?_) <;> have hp := True.intro)) <;> simp only [hp, e1, e2, e3, e4, e5, e6, e7, go_sem])
  all_goals (simp only [fin_mk, finV, resL, resV1, resIn, endA, listIn, Option.some_or, Option.none_or, oneOrTup, go_sem]; rw [← hr])
end Go.Proofs.YtimiccneikhkgaaGreatDoor.L

