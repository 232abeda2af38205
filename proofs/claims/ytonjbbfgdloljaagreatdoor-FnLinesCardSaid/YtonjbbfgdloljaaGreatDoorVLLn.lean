/- Contracts of functions, and the facts that they need. No condition. -/
import Derived.Test.YtonjbbfgdloljaaGreatDoorVLKe
import Derived.Test.YtonjbbfgdloljaaGreatDoorVLShelf
import Derived.Lib.AtoiAll
import Derived.Lib.AtoiErrMem

import Derived.Test.YtonjbbfgdloljaaGreatDoorVLS


import Derived.Test.YtonjbbfgdloljaaGreatDoorVLRs
namespace Go.Proofs.YtonjbbfgdloljaaGreatDoor.L
open Go Go.VM
set_option maxRecDepth 100000
set_option maxHeartbeats 4000000
set_option linter.unusedSimpArgs false
set_option linter.unusedVariables false
theorem parse_digits : ∀ (s : List UInt8) (acc : Nat), s.all digB = true → (acc + 1) * 10 ^ s.length ≤ 100000000000 → Lib.parseUint10 acc s = .ok (acc * 10 ^ s.length + (numV s).toNat)
  | [], acc, _, _ => by simp [Lib.parseUint10, numV]
  | c :: r, acc, hd, hb => by
    rw [List.all_cons, Bool.and_eq_true] at hd
    have hc := digB_iff hd.1
    rw [List.length_cons, Nat.pow_succ] at hb
    have h1 : (acc * 10 + (c.toNat - 48) + 1) * 10 ^ r.length ≤ 100000000000 := by
      refine Nat.le_trans (Nat.mul_le_mul_right _ (show acc * 10 + (c.toNat - 48) + 1 ≤ (acc + 1) * 10 by omega)) ?_
      rw [Nat.mul_assoc, Nat.mul_comm 10]; exact hb
    have hp : 1 ≤ 10 ^ r.length := Nat.one_le_pow _ _ (by omega)
    have h2 : acc * 10 + (c.toNat - 48) + 1 ≤ 100000000000 := Nat.le_trans (Nat.le_mul_of_pos_right _ hp) h1
    rw [Lib.parseUint10, if_pos (by omega), if_neg (by omega), if_neg (by omega), parse_digits r _ hd.2 h1]
    congr 1
    have key : ∀ (l : List UInt8) (n : Int), l.foldl stepV n = n * 10 ^ l.length + l.foldl stepV 0 := by
      intro l
      induction l with
      | nil => intro n; simp
      | cons x l ih =>
        intro n
        rw [List.foldl_cons, List.foldl_cons, ih (stepV n x), ih (stepV 0 x), List.length_cons, Int.pow_succ]
        simp only [stepV]
        rw [Int.add_mul, Int.add_mul]
        have : 10 * n * 10 ^ l.length = n * (10 ^ l.length * 10) := by rw [Int.mul_comm 10 n, Int.mul_assoc, Int.mul_comm 10]
        omega
    have hv := numV_bound r hd.2
    have e : numV (c :: r) = ((c.toNat - 48 : Nat) : Int) * 10 ^ r.length + numV r := by
      rw [numV, List.foldl_cons, key]
      have : stepV 0 c = ((c.toNat - 48 : Nat) : Int) := by simp only [stepV]; omega
      rw [this]; rfl
    have e2 : (numV (c :: r)).toNat = (c.toNat - 48) * 10 ^ r.length + (numV r).toNat := by
      rw [e]
      have : (((c.toNat - 48 : Nat) : Int) * 10 ^ r.length) = (((c.toNat - 48) * 10 ^ r.length : Nat) : Int) := by push_cast; rfl
      rw [this]; omega
    rw [e2, List.length_cons, Nat.pow_succ, Nat.add_mul]
    have : acc * 10 * 10 ^ r.length = acc * (10 ^ r.length * 10) := by rw [Nat.mul_assoc, Nat.mul_comm 10]
    omega
def atoiV (s : List UInt8) : Int := match Lib.atoiAll s with | .ok v => v | .syntax => 0 | .range => Lib.atoiSat s
def atoiBad (s : List UInt8) : Bool := match Lib.atoiAll s with | .ok _ => false | _ => true
theorem atoi_digits {s : List UInt8} (h : s.all digB = true) (hl : s.length ≤ 10) (hne : s ≠ []) : Lib.atoiAll s = .ok (numV s) := by
  cases s with
  | nil => exact absurd rfl hne
  | cons c r =>
    have hc := digB_iff (List.all_eq_true.1 h c (by simp))
    have h1 : ¬ (c.toNat = 43 ∨ c.toNat = 45) := by omega
    have h2 : ¬ c.toNat = 45 := by omega
    have hv := numV_bound (c :: r) h
    have hp : (10 : Nat) ^ (c :: r).length ≤ 10 ^ 10 := Nat.pow_le_pow_right (by omega) hl
    have hq := parse_digits (c :: r) 0 h (by omega)
    have hlt : numV (c :: r) < 10 ^ 10 := by
      have h6 : ((10 : Int) ^ (c :: r).length) = (((10 : Nat) ^ (c :: r).length : Nat) : Int) := by push_cast; rfl
      have h7 := hv.2
      rw [h6] at h7
      generalize (10 : Nat) ^ (c :: r).length = q at *
      omega
    unfold Lib.atoiAll
    simp only [h1, if_false, Lib.parseMag, reduceCtorEq, hq]
    rw [Nat.zero_mul, Nat.zero_add, if_neg (by omega), if_neg (by omega)]
    simp only [h2, if_false]
    congr 1; omega
theorem dec_atoi (s : List UInt8) : (!atoiBad s && (decide (0 ≤ atoiV s) && decide (atoiV s ≤ 1000000000)) && (Lib.itoa (atoiV s) == s)) = decB s ∧ (decB s = true → atoiV s = numV s ∧ atoiBad s = false) := by
  have fwd : decB s = true → Lib.atoiAll s = .ok (numV s) := by
    intro h
    have hl := dec_len h
    simp only [decB, Bool.and_eq_true, decide_eq_true_eq, beq_iff_eq] at h
    refine atoi_digits h.1 hl ?_
    intro e
    have := h.2.2
    rw [e] at this
    exact itoa_ne (Int.le_refl 0) this
  have fwd2 : decB s = true → atoiV s = numV s ∧ atoiBad s = false := by
    intro h
    have := fwd h
    constructor
    · unfold atoiV; rw [this]
    · unfold atoiBad; rw [this]
  refine ⟨?_, fwd2⟩
  rw [Bool.eq_iff_iff]
  constructor
  · intro h
    simp only [Bool.and_eq_true, decide_eq_true_eq, beq_iff_eq] at h
    obtain ⟨⟨_, h1, h2⟩, h3⟩ := h
    obtain ⟨a1, a2⟩ := itoa_read h1
    rw [h3] at a1 a2
    rw [decB, a1, a2, h3]
    simp [h2]
  · intro h
    obtain ⟨e1, e2⟩ := fwd2 h
    have hb := h
    simp only [decB, Bool.and_eq_true, decide_eq_true_eq, beq_iff_eq] at h
    have := (numV_bound s h.1).1
    rw [e1, e2, h.2.2]
    simp [this, h.2.1]
open Classical in
noncomputable def spAtoi : VM.Spec := { modes := [.rd], run := fun | [.str s] => if s.length ≤ 4194304 then some (.tup [.int .i64 (atoiV s), .err (atoiBad s)], []) else none | _ => none, need := ["strconv.ErrSyntax", "strconv.ErrRange"] }
attribute [go_sem] spAtoi
theorem spAtoi_in {ins : List V} {r : V} {outs : List V} (h : spAtoi.run ins = some (r, outs)) : ∃ (s : (List UInt8)), ins = [.str s] ∧ (s.length ≤ 4194304) ∧ .tup [.int .i64 (atoiV s), .err (atoiBad s)] = r ∧ outs = [] := by
  unfold spAtoi at h
  simp only at h
  split at h
  · rename_i s
    split at h
    case isFalse => cases h
    rename_i hc
    simp only [Option.some.injEq, Prod.mk.injEq] at h
    obtain ⟨h1, h2⟩ := h
    exact ⟨s, rfl, hc, h1, h2.symm⟩
  · cases h
theorem ow_two {w : World} {a b : V} {c d : Value} (h1 : OW w a c (fun _ => False)) (h2 : OW w b d (fun _ => False)) : ∃ N, OW w (.tup [a, b]) (.tuple #[c, d]) N ∧ ∀ k, ¬ N k :=
  ⟨_, .tup [a, b] #[c, d] (fun _ _ => False) rfl (fun i x y hx hy => by
    match i with
    | 0 => simp at hx hy; subst hx hy; exact h1
    | 1 => simp at hx hy; subst hx hy; exact h2
    | i + 2 => simp at hx) (fun _ _ _ _ _ h => h.elim), fun k ⟨_, _, h⟩ => h⟩
theorem ok_strconv_Atoi : FnOk Tryz.prog 117 spAtoi := by
  refine fnOk_of_calls (n := 1) Tryz.func117 rfl rfl rfl fun w S ins r outs cs hG hrun ht hS => ?_
  obtain ⟨s, rfl, hl, rfl, rfl⟩ := spAtoi_in hrun
  refine ⟨rfl, ?_⟩
  cases ht with
  | cons h1 t =>
    cases t
    cases h1 with
    | str b _ hb =>
      subst hb
      have hsz : b.size = b.data.toList.length := by rw [Array.length_toList]; rfl
      cases ha : Lib.atoiAll b.data.toList with
      | ok v =>
        refine (Tryz.strconv_Atoi_ok b (by omega) v ha w).mono ?_
        rintro e w' ⟨rfl, hw⟩
        obtain ⟨N, ho, hN⟩ := ow_two (w := w') (.int .i64 v) .errN
        refine ⟨_, N, rfl, ?_, by simpa only [atoiV, atoiBad, ha] using ho, fun k hk => absurd hk (hN k)⟩
        rcases hw with rfl | ⟨t, rfl⟩
        · exact Fr.refl _ _
        · exact fr_of_below (Lib.bytesWorld_below w _ _)
      | «syntax» =>
        obtain ⟨tp, p, hv⟩ := hG.errS (by simp [spAtoi])
        refine (Tryz.strconv_Atoi_syntax_var b (by omega) ha tp p w hv).mono ?_
        rintro e w' ⟨M, rfl, _, _, hbl⟩
        obtain ⟨N, ho, hN⟩ := ow_two (w := w') (.int .i64 0) (.errS _ _)
        exact ⟨_, N, rfl, fr_of_below hbl, by simpa only [atoiV, atoiBad, ha] using ho, fun k hk => absurd hk (hN k)⟩
      | range =>
        obtain ⟨tp, p, hv⟩ := hG.errR (by simp [spAtoi])
        refine (Tryz.strconv_Atoi_range_var b (by omega) ha tp p w hv).mono ?_
        rintro e w' ⟨M, rfl, _, _, hbl⟩
        obtain ⟨N, ho, hN⟩ := ow_two (w := w') (.int .i64 (Lib.atoiSat b.data.toList)) (.errS _ _)
        exact ⟨_, N, rfl, fr_of_below hbl, by simpa only [atoiV, atoiBad, ha] using ho, fun k hk => absurd hk (hN k)⟩
open Classical in
noncomputable def spReadDecI : VM.Spec := { modes := [.rd], run := fun | [.str s] => if s.length ≤ 4194304 then some (.tup [.int .i64 (decN s), .bool (decB s)], []) else none | _ => none, need := ["internal/strconv.uint64pow10", "strconv.ErrSyntax", "strconv.ErrRange"] }
attribute [go_sem] spReadDecI
theorem spReadDecI_in {ins : List V} {r : V} {outs : List V} (h : spReadDecI.run ins = some (r, outs)) : ∃ (s : (List UInt8)), ins = [.str s] ∧ (s.length ≤ 4194304) ∧ .tup [.int .i64 (decN s), .bool (decB s)] = r ∧ outs = [] := by
  unfold spReadDecI at h
  simp only at h
  split at h
  · rename_i s
    split at h
    case isFalse => cases h
    rename_i hc
    simp only [Option.some.injEq, Prod.mk.injEq] at h
    obtain ⟨h1, h2⟩ := h
    exact ⟨s, rfl, hc, h1, h2.symm⟩
  · cases h
def T_impl_ReadDecimal : Hints := ⟨lk [], lk [], lk [(0, [0]), (1, [0, 4, 5]), (2, [4, 23]), (3, [2, 3]), (4, [2, 3])], lk []⟩
noncomputable def Phi_impl_ReadDecimal : Tab := lk [(117, spAtoi), (41, spWithin), (27, spDecimal)]
attribute [go_sem] T_impl_ReadDecimal Phi_impl_ReadDecimal
theorem phi_impl_ReadDecimal : ∀ f sp, Phi_impl_ReadDecimal f = some sp → FnOk Tryz.prog f sp ∧ ∀ n ∈ sp.need, n ∈ (["internal/strconv.uint64pow10", "strconv.ErrSyntax", "strconv.ErrRange"] : List String) := phi_cons ok_strconv_Atoi (fun n (h : n ∈ (["strconv.ErrSyntax", "strconv.ErrRange"] : List String)) => by simp only [List.mem_cons, List.not_mem_nil, or_false] at h; rcases h with rfl | rfl <;> simp) (phi_cons ok_impl_within (n0 rfl) (phi_cons ok_impl_Decimal (fun n (h : n ∈ (["internal/strconv.uint64pow10"] : List String)) => by simp only [List.mem_cons, List.not_mem_nil, or_false] at h; rcases h with rfl <;> simp) (phi_nil)))
theorem ok_impl_ReadDecimal : FnOk Tryz.prog 77 spReadDecI := by
  refine fn_ok (Φ := Phi_impl_ReadDecimal) (T := T_impl_ReadDecimal) phi_impl_ReadDecimal mixed Tryz.func77 rfl rfl rfl (by decide) ?_
  intro ins r outs hr hl
  clear hl
  have hs := spReadDecI_in hr
  clear hr
  obtain ⟨s, rfl, hc, hr, rfl⟩ := hs
  simp only [spReadDecI, Tryz.f77, Go.VM.initS]
  obtain ⟨ha, hb⟩ := dec_atoi s
  cases h1 : atoiBad s with
  | true =>
    have e1 : decB s = false := by rw [← ha, h1]; rfl
    have e2 : decN s = 0 := by rw [decN, e1]; rfl
    rw [e1, e2] at hr
    simp only [hc, h1, go_sem]
    repeat' ((first | apply qa | apply qb | apply qc | apply qd | apply qe | apply qf | apply qg | apply qh | apply qi | apply qj | apply qk) <;> intro hp <;> simp only [hp, hc, h1, go_sem])
    all_goals (simp only [fin_mk, finV, resL, resV1, resIn, endA, listIn, Option.some_or, Option.none_or, oneOrTup, go_sem]; rw [← hr])
  | false =>
    cases h2 : within (atoiV s) 0 1000000000 with
    | false =>
      have h2' : (decide (0 ≤ atoiV s) && decide (atoiV s ≤ 1000000000)) = false := h2
      have e1 : decB s = false := by rw [← ha, h1, h2']; rfl
      have e2 : decN s = 0 := by rw [decN, e1]; rfl
      rw [e1, e2] at hr
      simp only [hc, h1, h2, go_sem]
      repeat' ((first | apply qa | apply qb | apply qc | apply qd | apply qe | apply qf | apply qg | apply qh | apply qi | apply qj | apply qk) <;> intro hp <;> simp only [hp, hc, h1, h2, go_sem])
      all_goals (simp only [fin_mk, finV, resL, resV1, resIn, endA, listIn, Option.some_or, Option.none_or, oneOrTup, go_sem]; rw [← hr])
    | true =>
      have h2' : (decide (0 ≤ atoiV s) && decide (atoiV s ≤ 1000000000)) = true := h2
      have h3 := h2'
      simp only [Bool.and_eq_true, decide_eq_true_eq] at h3
      cases h4 : (Lib.itoa (atoiV s) == s) with
      | false =>
        have e1 : decB s = false := by rw [← ha, h1, h2', h4]; rfl
        have e2 : decN s = 0 := by rw [decN, e1]; rfl
        have h5 : (Lib.itoa (atoiV s) != s) = true := by rw [bne, h4]; rfl
        rw [e1, e2] at hr
        simp only [hc, h1, h2, h3.1, h3.2, h4, h5, go_sem]
        repeat' ((first | apply qa | apply qb | apply qc | apply qd | apply qe | apply qf | apply qg | apply qh | apply qi | apply qj | apply qk) <;> intro hp <;> simp only [hp, hc, h1, h2, h3.1, h3.2, h4, h5, go_sem])
        all_goals (simp only [fin_mk, finV, resL, resV1, resIn, endA, listIn, Option.some_or, Option.none_or, oneOrTup, go_sem]; rw [← hr])
      | true =>
        have e1 : decB s = true := by rw [← ha, h1, h2', h4]; rfl
        have e2 : decN s = atoiV s := by rw [decN, e1, if_pos rfl, (hb e1).1]
        have h5 : (Lib.itoa (atoiV s) != s) = false := by rw [bne, h4]; rfl
        rw [e1, e2] at hr
        simp only [hc, h1, h2, h3.1, h3.2, h4, h5, go_sem]
        repeat' ((first | apply qa | apply qb | apply qc | apply qd | apply qe | apply qf | apply qg | apply qh | apply qi | apply qj | apply qk) <;> intro hp <;> simp only [hp, hc, h1, h2, h3.1, h3.2, h4, h5, go_sem])
        all_goals (simp only [fin_mk, finV, resL, resV1, resIn, endA, listIn, Option.some_or, Option.none_or, oneOrTup, go_sem]; rw [← hr])
end Go.Proofs.YtonjbbfgdloljaaGreatDoor.L

namespace Go.Proofs.YtonjbbfgdloljaaGreatDoor.L
open Go Go.VM
set_option maxRecDepth 100000
set_option maxHeartbeats 4000000
set_option linter.unusedSimpArgs false
set_option linter.unusedVariables false
def flagKeyV (w : List UInt8) : Key := if 0 < bitN w then ⟨2, bitN w, []⟩ else if unB w = true then ⟨3, bitN (w.drop 2), []⟩ else ⟨0, 0, []⟩
theorem unB_cut (w : List UInt8) : unB w = (([117, 110] : List UInt8).isPrefixOf w && decide (0 < bitN (cutPrefix w [117, 110]))) := by
  match w with
  | [] => decide
  | [a] =>
    have : (([117, 110] : List UInt8).isPrefixOf [a]) = false := by simp [List.isPrefixOf]
    rw [this, unB]; simp
  | [a, b] =>
    have h0 : bitN [] = 0 := by decide
    have h1 : unB [a, b] = false := by simp [unB]
    rw [h1, cutPrefix]
    cases hp : ([117, 110] : List UInt8).isPrefixOf [a, b] with
    | false => rfl
    | true => rw [if_pos rfl]; simp [h0]
  | a :: b :: c :: r =>
    have hl : decide ((2 : Int) < (((a :: b :: c :: r).length : Nat) : Int)) = true := by simp; omega
    have hq : ((a :: b :: c :: r).take 2 == [117, 110]) = ([117, 110] : List UInt8).isPrefixOf (a :: b :: c :: r) := by
      rw [Bool.eq_iff_iff]
      simp only [List.take_succ_cons, List.take_zero, beq_iff_eq, List.isPrefixOf, Bool.and_true, Bool.and_eq_true, List.cons.injEq, and_true]
      exact ⟨fun h => ⟨h.1.symm, h.2.symm⟩, fun h => ⟨h.1.symm, h.2.symm⟩⟩
    rw [unB, hl, hq, cutPrefix, Bool.true_and]
    cases hp : ([117, 110] : List UInt8).isPrefixOf (a :: b :: c :: r) with
    | false => rfl
    | true => rw [if_pos rfl]; rfl
def wordKeyV (w m : List UInt8) : Key × Bool :=
  if (w == [115, 117, 98, 106, 101, 99, 116]) = true then (⟨4, 0, m⟩, within m.length 1 20) else
  if (w == [116, 101, 120, 116]) = true then (⟨5, 0, m⟩, within m.length 1 20) else
  if (w == [117, 105, 100]) = true then (⟨6, 0, m⟩, readOk m 9999) else
  if (w == [109, 111, 100, 115, 101, 113]) = true then (⟨7, decN m, []⟩, decB m && decide (decN m ≤ 100000)) else (⟨0, 0, []⟩, false)
theorem keyTwo_eq (w m : List UInt8) : keyTwo w m = if (wordKeyV w m).2 = true then some (wordKeyV w m).1 else none := by
  unfold keyTwo wordKeyV
  split
  · rfl
  split
  · rfl
  split
  · rfl
  split
  · simp only [Bool.and_eq_true, decide_eq_true_eq]
  · rfl
theorem keyOne_eq {w : List UInt8} (h : (w == [97, 108, 108]) = false) : keyOne w = if (flagKeyV w).Kind = 0 then none else some (flagKeyV w) := by
  unfold keyOne flagKeyV
  rw [if_neg (by rw [h]; simp)]
  split
  · rfl
  split
  · rfl
  · rfl
def keysI : Nat → List (List UInt8) → List Key → Option (List Key)
  | 0, _, _ => none
  | _ + 1, [], out => some out
  | f + 1, w :: r, out => match keyOne w with
    | some k => keysI f r (out ++ [k])
    | none => match r with
      | [] => none
      | m :: r' => match keyTwo w m with
        | some k => keysI f r' (out ++ [k])
        | none => none
theorem keysI_ge : ∀ (f : Nat) (ws : List (List UInt8)) (out ks : List Key), keysI f ws out = some ks → out.length ≤ ks.length
  | 0, _, _, _, h => by cases h
  | f + 1, [], out, ks, h => by simp only [keysI, Option.some.injEq] at h; rw [h]; exact Nat.le_refl _
  | f + 1, w :: r, out, ks, h => by
    simp only [keysI] at h
    split at h
    · have := keysI_ge f _ _ ks h
      simp at this; omega
    · split at h
      · cases h
      · split at h
        · have := keysI_ge f _ _ ks h
          simp at this; omega
        · cases h
def cap6 : Option (List Key) → Option (List Key)
  | some ks => if ks.length ≤ 6 then some ks else none
  | none => none
theorem cap6_gt {f : Nat} {ws : List (List UInt8)} {out : List Key} (h : 6 < out.length) : cap6 (keysI f ws out) = none := by
  cases hk : keysI f ws out with
  | none => rfl
  | some ks => rw [cap6, if_neg]; have := keysI_ge f ws out ks hk; omega
theorem keysL_cap : ∀ (f : Nat) (ws : List (List UInt8)) (out : List Key), ws.length < f → out.length ≤ 6 → keysL ws out = cap6 (keysI f ws out)
  | 0, _, _, h, _ => by omega
  | f + 1, [], out, _, h6 => by rw [keysL, keysI, cap6, if_pos h6]
  | f + 1, w :: r, out, h, h6 => by
    simp only [List.length_cons] at h
    simp only [keysI]
    cases h1 : keyOne w with
    | some k =>
      simp only
      by_cases hlt : out.length < 6
      · rw [keysL_one h1 hlt]
        exact keysL_cap f r _ (by omega) (by simp; omega)
      · rw [keysL_full h1 hlt, cap6_gt (by simp; omega)]
    | none =>
      cases r with
      | nil => rw [keysL_end h1]; rfl
      | cons m r =>
        simp only [List.length_cons] at h
        simp only
        cases h2 : keyTwo w m with
        | none => rw [keysL_two_full h1 (.inl h2)]; rfl
        | some k =>
          simp only
          by_cases hlt : out.length < 6
          · rw [keysL_two h1 h2 hlt]
            exact keysL_cap f r _ (by omega) (by simp; omega)
          · rw [keysL_two_full h1 (.inr hlt), cap6_gt (by simp; omega)]
theorem readKeys_i {ws : List (List UInt8)} {f : Nat} (h : ws.length < f) : readKeys ws = match keysI f ws [] with
    | some ks => if 1 ≤ ks.length ∧ ks.length ≤ 6 then (ks, true) else ([], false)
    | none => ([], false) := by
  rw [readKeys, keysL_cap f ws [] h (by simp)]
  cases hk : keysI f ws [] with
  | none => rfl
  | some ks =>
    simp only [cap6]
    by_cases h6 : ks.length ≤ 6
    · rw [if_pos h6]
      by_cases h0 : 1 ≤ ks.length
      · rw [if_pos ⟨h0, h6⟩]; simp; omega
      · have : ks = [] := List.eq_nil_of_length_eq_zero (by omega)
        subst this; rfl
    · rw [if_neg h6, if_neg (by omega)]
def T_impl_flagOf : Hints := ⟨lk [], lk [(2, [0, 5, 6, 7])], lk [(0, [0]), (1, [0, 5, 6, 7]), (2, [0, 5, 6, 7, 8]), (3, [0, 3, 4, 5, 6, 7]), (4, [0, 3, 5, 6, 7, 14]), (5, [2]), (6, [0, 5, 6, 7]), (7, [2])], lk []⟩
noncomputable def Phi_impl_flagOf : Tab := lk [(74, spFlagNames)]
attribute [go_sem] T_impl_flagOf Phi_impl_flagOf
theorem phi_impl_flagOf : ∀ f sp, Phi_impl_flagOf f = some sp → FnOk Tryz.prog f sp ∧ ∀ n ∈ sp.need, n ∈ ([] : List String) := phi_cons ok_impl_flagNames (n0 rfl) (phi_nil)
theorem ok_impl_flagOf : FnOk Tryz.prog 86 spBit := by
  refine fn_ok (Φ := Phi_impl_flagOf) (T := T_impl_flagOf) phi_impl_flagOf mixed Tryz.func86 rfl rfl rfl (by decide) ?_
  intro ins r outs hr hl
  clear hl
  have hs := spBit_in hr
  clear hr
  obtain ⟨w, rfl, hc, hr, rfl⟩ := hs
  simp only [spBit, Tryz.f86, Go.VM.initS]
  simp only [go_sem]
  repeat' ((first | apply qa | apply qb | apply qc | apply qd | apply qe | apply qf | apply qg | apply qh | apply qi | apply qj | apply qk) <;> intro hp <;> simp only [hp, go_sem])
  refine loop_go (fun i : Nat => [(7, .int .i64 (i : Int))]) (fun _ => []) (fun i => 5 - i) (fun i => i ≤ 5 ∧ bitF (5 - i) i w = bitN w) 0 ⟨by omega, rfl⟩ rfl rfl ?_
  rintro i ⟨hi, he⟩ ih
  rcases Nat.lt_or_ge i 5 with h | h
  · have hfl : flagNames.length = 5 := rfl
    have g1 : (i : Int) < flagNames.length := by omega
    have g2 : (0 : Int) ≤ i := by omega
    have g3 : flagNames[i]? = some (flagNames.getD i []) := flag_names ⟨i, h⟩
    have g5 := wrap_succ h (by omega)
    have hp : 2 ^ i ≤ 2 ^ 4 := Nat.pow_le_pow_right (by omega) (by omega)
    have g7 : ¬ (i : Int) < 0 := by omega
    have g6 : IntKind.i64.wrap (1 * 2 ^ (min i 64)) = ((2 ^ i : Nat) : Int) := by
      rw [Nat.min_eq_left (show i ≤ 64 by omega), Int.one_mul]
      have : (2 : Int) ^ i = ((2 ^ i : Nat) : Int) := by push_cast; rfl
      have hw : ∀ q : Nat, q ≤ 16 → IntKind.i64.wrap (q : Int) = q := fun q hq => wrap64 (by omega) (by omega)
      rw [this]
      exact hw _ (Nat.le_trans hp (by decide))
    rw [show 5 - i = (5 - (i + 1)) + 1 by omega, bitF] at he
    generalize flagNames.getD i [] = nm at *
    generalize flagNames = NM at *
    cases hq : (nm == w) with
    | true =>
      rw [if_pos hq] at he
      rw [← he] at hr
      simp only [g1, g2, g3, g5, g6, g7, hq, go_sem]
      repeat' ((first | apply qa | apply qb | apply qc | apply qd | apply qe | apply qf | apply qg | apply qh | apply qi | apply qj | apply qk) <;> intro hp <;> simp only [hp, g1, g2, g3, g5, g6, g7, hq, go_sem])
      simp only [fin_mk, finV, resL, resV1, resIn, endA, listIn, Option.some_or, Option.none_or, oneOrTup, go_sem]
      rw [← hr]
    | false =>
      rw [if_neg (by rw [hq]; simp)] at he
      simp only [g1, g2, g3, g5, hq, go_sem]
      repeat' ((first | apply qa | apply qb | apply qc | apply qd | apply qe | apply qf | apply qg | apply qh | apply qi | apply qj | apply qk) <;> intro hp <;> simp only [hp, g1, g2, g3, g5, hq, go_sem])
      exact ih (i + 1) ⟨h, he⟩ (by omega)
  · have h5 : i = 5 := by omega
    subst h5
    have g1 : ¬ ((5 : Nat) : Int) < flagNames.length := by decide
    have he' : (0 : Int) = bitN w := he
    rw [← he'] at hr
    generalize flagNames = NM at *
    simp only [g1, go_sem]
    repeat' ((first | apply qa | apply qb | apply qc | apply qd | apply qe | apply qf | apply qg | apply qh | apply qi | apply qj | apply qk) <;> intro hp <;> simp only [hp, g1, go_sem])
    simp only [fin_mk, finV, resL, resV1, resIn, endA, listIn, Option.some_or, Option.none_or, oneOrTup, go_sem]
    rw [← hr]
open Classical in
noncomputable def spFlagKey : VM.Spec := { modes := [.rd], run := fun | [.str w] => if w.length ≤ 4194304 then some (Key.enc (flagKeyV w), []) else none | _ => none, need := [] }
attribute [go_sem] spFlagKey
theorem spFlagKey_in {ins : List V} {r : V} {outs : List V} (h : spFlagKey.run ins = some (r, outs)) : ∃ (w : (List UInt8)), ins = [.str w] ∧ (w.length ≤ 4194304) ∧ Key.enc (flagKeyV w) = r ∧ outs = [] := by
  unfold spFlagKey at h
  simp only at h
  split at h
  · rename_i w
    split at h
    case isFalse => cases h
    rename_i hc
    simp only [Option.some.injEq, Prod.mk.injEq] at h
    obtain ⟨h1, h2⟩ := h
    exact ⟨w, rfl, hc, h1, h2.symm⟩
  · cases h
open Classical in
noncomputable def spWordKey : VM.Spec := { modes := [.rd, .rd], run := fun | [.str w, .str m] => if w.length ≤ 4194304 ∧ m.length ≤ 4194304 then some (.tup [Key.enc ((wordKeyV w m).1), .bool ((wordKeyV w m).2)], []) else none | _ => none, need := ["internal/bytealg.MaxLen", "internal/strconv.uint64pow10", "strconv.ErrSyntax", "strconv.ErrRange"] }
attribute [go_sem] spWordKey
theorem spWordKey_in {ins : List V} {r : V} {outs : List V} (h : spWordKey.run ins = some (r, outs)) : ∃ (w : (List UInt8)) (m : (List UInt8)), ins = [.str w, .str m] ∧ (w.length ≤ 4194304 ∧ m.length ≤ 4194304) ∧ .tup [Key.enc ((wordKeyV w m).1), .bool ((wordKeyV w m).2)] = r ∧ outs = [] := by
  unfold spWordKey at h
  simp only at h
  split at h
  · rename_i w m
    split at h
    case isFalse => cases h
    rename_i hc
    simp only [Option.some.injEq, Prod.mk.injEq] at h
    obtain ⟨h1, h2⟩ := h
    exact ⟨w, m, rfl, hc, h1, h2.symm⟩
  · cases h
open Classical in
noncomputable def spReadKeysI : VM.Spec := { modes := [.rd], run := fun | [.lst 1 ws'] => (decL dStr ws').bind fun ws => if ws.length ≤ 4194304 ∧ ∀ w ∈ ws, w.length ≤ 4194304 then some (.tup [.lst 3 (((readKeys ws).1).map Key.enc), .bool ((readKeys ws).2)], []) else none | _ => none, need := ["internal/bytealg.MaxLen", "internal/strconv.uint64pow10", "strconv.ErrSyntax", "strconv.ErrRange"] }
attribute [go_sem] spReadKeysI
theorem spReadKeysI_in {ins : List V} {r : V} {outs : List V} (h : spReadKeysI.run ins = some (r, outs)) : ∃ (ws : (List (List UInt8))), ins = [.lst 1 ((ws).map eStr)] ∧ (ws.length ≤ 4194304 ∧ ∀ w ∈ ws, w.length ≤ 4194304) ∧ .tup [.lst 3 (((readKeys ws).1).map Key.enc), .bool ((readKeys ws).2)] = r ∧ outs = [] := by
  unfold spReadKeysI at h
  simp only at h
  split at h
  · rename_i ws'
    simp only [Option.bind_eq_some_iff] at h
    obtain ⟨ws, h_ws, h⟩ := h
    split at h
    case isFalse => cases h
    rename_i hc
    simp only [Option.some.injEq, Prod.mk.injEq] at h
    obtain ⟨h1, h2⟩ := h
    have h_ws := decL_some (fun _ _ h => dStr_some h) h_ws
    subst h_ws
    exact ⟨ws, rfl, hc, h1, h2.symm⟩
  · cases h
end Go.Proofs.YtonjbbfgdloljaaGreatDoor.L

namespace Go.Proofs.YtonjbbfgdloljaaGreatDoor.L
open Go Go.VM
set_option maxRecDepth 100000
set_option maxHeartbeats 4000000
set_option linter.unusedSimpArgs false
set_option linter.unusedVariables false
def setB (b k : Int) : Bool := (b.tdiv k).tmod 2 == 1
def flagsGo : List (List UInt8) → Int → Option Int
  | [], b => some b
  | w :: r, b => if (bitN w == 0) = true then none else if setB b (bitN w) = true then none else flagsGo r (b + bitN w)
def fitsF (t : List UInt8) : Bool := ([40] : List UInt8).isPrefixOf t && sufB (cutPrefix t [40]) [41]
def inn (t : List UInt8) : List UInt8 := cutSuf (cutPrefix t [40]) [41]
def readFl (t : List UInt8) : Option Int := if fitsF t = true then (if (inn t == []) = true then some 0 else flagsGo ((splitOn 32 (inn t)).map lowS) 0) else none
theorem bitF_pow : ∀ (f i : Nat) (w : List UInt8), bitF f i w = 0 ∨ ∃ j, i ≤ j ∧ j < i + f ∧ bitF f i w = ((2 ^ j : Nat) : Int)
  | 0, _, _ => .inl rfl
  | f + 1, i, w => by
    rw [bitF]
    split
    · exact .inr ⟨i, Nat.le_refl _, by omega, rfl⟩
    · rcases bitF_pow f (i + 1) w with h | ⟨j, h1, h2, h3⟩
      · exact .inl h
      · exact .inr ⟨j, by omega, by omega, h3⟩
theorem bitN_pow (w : List UInt8) : bitN w = 0 ∨ ∃ j : Fin 5, bitN w = ((2 ^ j.val : Nat) : Int) := by
  rcases bitF_pow 5 0 w with h | ⟨j, _, h2, h3⟩
  · exact .inl h
  · exact .inr ⟨⟨j, by omega⟩, h3⟩
theorem flag_tab : ∀ (a : Fin 32) (j : Fin 5), (IntKind.i64.wrap (BitVec.ofInt 64 ((a.val : Nat) : Int) &&& BitVec.ofInt 64 ((2 ^ j.val : Nat) : Int)).toNat != 0) = setB ((a.val : Nat) : Int) ((2 ^ j.val : Nat) : Int) ∧
    (setB ((a.val : Nat) : Int) ((2 ^ j.val : Nat) : Int) = false → ((a.val : Nat) : Int) + ((2 ^ j.val : Nat) : Int) ≤ 31 ∧ IntKind.i64.wrap (BitVec.ofInt 64 ((a.val : Nat) : Int) ||| BitVec.ofInt 64 ((2 ^ j.val : Nat) : Int)).toNat = ((a.val : Nat) : Int) + ((2 ^ j.val : Nat) : Int)) := by decide +kernel
theorem flag_step {b : Int} (h0 : 0 ≤ b) (h1 : b ≤ 31) {w : List UInt8} (hw : (bitN w == 0) = false) : (IntKind.i64.wrap (BitVec.ofInt 64 b &&& BitVec.ofInt 64 (bitN w)).toNat != 0) = setB b (bitN w) ∧
    (setB b (bitN w) = false → b + bitN w ≤ 31 ∧ IntKind.i64.wrap (BitVec.ofInt 64 b ||| BitVec.ofInt 64 (bitN w)).toNat = b + bitN w) := by
  obtain ⟨n, rfl⟩ : ∃ n : Nat, b = n := ⟨b.toNat, by omega⟩
  rcases bitN_pow w with h | ⟨j, h⟩
  · rw [h] at hw; cases hw
  · rw [h]; exact flag_tab ⟨n, by omega⟩ j
open Classical in
noncomputable def spReadFlags : VM.Spec := { modes := [.rd], run := fun | [.str t] => if t.length ≤ 4194304 then some (.tup [.int .i64 ((readFl t).getD 0), .bool ((readFl t).isSome)], []) else none | _ => none, need := ["internal/bytealg.MaxLen"] }
attribute [go_sem] spReadFlags
theorem spReadFlags_in {ins : List V} {r : V} {outs : List V} (h : spReadFlags.run ins = some (r, outs)) : ∃ (t : (List UInt8)), ins = [.str t] ∧ (t.length ≤ 4194304) ∧ .tup [.int .i64 ((readFl t).getD 0), .bool ((readFl t).isSome)] = r ∧ outs = [] := by
  unfold spReadFlags at h
  simp only at h
  split at h
  · rename_i t
    split at h
    case isFalse => cases h
    rename_i hc
    simp only [Option.some.injEq, Prod.mk.injEq] at h
    obtain ⟨h1, h2⟩ := h
    exact ⟨t, rfl, hc, h1, h2.symm⟩
  · cases h
def T_impl_ReadFlags : Hints := ⟨lk [], lk [(9, [8, 31, 32, 33])], lk [(0, [0]), (1, [4, 5]), (2, [5, 6, 7]), (3, [6, 27]), (4, [2, 3]), (5, [6, 8]), (6, [6, 8, 29]), (7, [2, 3]), (8, [8, 31, 32, 33]), (9, [8, 31, 32, 33, 34]), (10, [8, 10, 31, 32, 33]), (11, [8, 11, 31, 32, 33]), (12, [8, 11, 31, 32, 33, 47]), (13, [2, 3]), (14, [8, 31, 32, 33]), (15, [8, 31, 32, 33]), (16, [2, 3])], lk []⟩
noncomputable def Phi_impl_ReadFlags : Tab := lk [(76, spCutPrefix), (119, spCutSuffix), (104, spSplit), (62, spLow), (86, spBit)]
attribute [go_sem] T_impl_ReadFlags Phi_impl_ReadFlags
theorem phi_impl_ReadFlags : ∀ f sp, Phi_impl_ReadFlags f = some sp → FnOk Tryz.prog f sp ∧ ∀ n ∈ sp.need, n ∈ (["internal/bytealg.MaxLen"] : List String) := phi_cons ok_strings_CutPrefix (n0 rfl) (phi_cons ok_strings_CutSuffix (n0 rfl) (phi_cons ok_strings_Split (fun n (h : n ∈ (["internal/bytealg.MaxLen"] : List String)) => by simp only [List.mem_cons, List.not_mem_nil, or_false] at h; rcases h with rfl <;> simp) (phi_cons ok_impl_lower (n0 rfl) (phi_cons ok_impl_flagOf (n0 rfl) (phi_nil)))))
theorem ok_impl_ReadFlags : FnOk Tryz.prog 120 spReadFlags := by
  refine fn_ok (Φ := Phi_impl_ReadFlags) (T := T_impl_ReadFlags) phi_impl_ReadFlags mixed Tryz.func120 rfl rfl rfl (by decide) ?_
  intro ins r outs hr hl
  clear hl
  have hs := spReadFlags_in hr
  clear hr
  obtain ⟨t, rfl, hc, hr, rfl⟩ := hs
  simp only [spReadFlags, Tryz.f120, Go.VM.initS]
  have l1 : t.length ≤ 1099511627776 := by omega
  have l2 : ([40] : List UInt8).length ≤ 1099511627776 := by decide
  have l3 : ([41] : List UInt8).length ≤ 1099511627776 := by decide
  have l4 : (cutPrefix t [40]).length ≤ t.length := by
    unfold cutPrefix; split
    · rw [List.length_drop]; omega
    · exact Nat.le_refl _
  have l5 : (cutPrefix t [40]).length ≤ 1099511627776 := by omega
  have l6 : (inn t).length ≤ 4194304 := Nat.le_trans (cutSuf_len _ _) (by omega)
  cases c1 : ([40] : List UInt8).isPrefixOf t with
  | false =>
    have e : readFl t = none := by rw [readFl, fitsF, c1]; rfl
    rw [e] at hr
    simp only [l1, l2, l3, l5, c1, go_sem]
    repeat' ((first | apply qa | apply qb | apply qc | apply qd | apply qe | apply qf | apply qg | apply qh | apply qi | apply qj | apply qk) <;> intro hp <;> simp only [hp, l1, l2, l3, l5, c1, go_sem])
    simp only [fin_mk, finV, resL, resV1, resIn, endA, listIn, Option.some_or, Option.none_or, oneOrTup, go_sem]
    rw [← hr]
    rfl
  | true =>
  cases c2 : sufB (cutPrefix t [40]) [41] with
  | false =>
    have e : readFl t = none := by rw [readFl, fitsF, c1, c2]; rfl
    rw [e] at hr
    simp only [l1, l2, l3, l5, c1, c2, go_sem]
    repeat' ((first | apply qa | apply qb | apply qc | apply qd | apply qe | apply qf | apply qg | apply qh | apply qi | apply qj | apply qk) <;> intro hp <;> simp only [hp, l1, l2, l3, l5, c1, c2, go_sem])
    simp only [fin_mk, finV, resL, resV1, resIn, endA, listIn, Option.some_or, Option.none_or, oneOrTup, go_sem]
    rw [← hr]
    rfl
  | true =>
  have hf : fitsF t = true := by rw [fitsF, c1, c2]; rfl
  cases c3 : (inn t == []) with
  | true =>
    have e : readFl t = some 0 := by rw [readFl, if_pos hf, if_pos c3]
    have c3' : (cutSuf (cutPrefix t [40]) [41] == []) = true := c3
    rw [e] at hr
    simp only [l1, l2, l3, l5, c1, c2, c3', go_sem]
    repeat' ((first | apply qa | apply qb | apply qc | apply qd | apply qe | apply qf | apply qg | apply qh | apply qi | apply qj | apply qk) <;> intro hp <;> simp only [hp, l1, l2, l3, l5, c1, c2, c3', go_sem])
    simp only [fin_mk, finV, resL, resV1, resIn, endA, listIn, Option.some_or, Option.none_or, oneOrTup, go_sem]
    rw [← hr]
    rfl
  | false =>
  have c3' : (cutSuf (cutPrefix t [40]) [41] == []) = false := c3
  have e : readFl t = flagsGo ((splitOn 32 (inn t)).map lowS) 0 := by rw [readFl, if_pos hf, if_neg (by rw [c3]; simp)]
  have hS := split_eq 32 (inn t)
  have l6' : (cutSuf (cutPrefix t [40]) [41]).length ≤ 4194304 := l6
  have l7 : (cutSuf (cutPrefix t [40]) [41]).length < 4294967281 := by omega
  have hS' : Lib.splitK [32] 0 (Lib.count (cutSuf (cutPrefix t [40]) [41]) [32]) (cutSuf (cutPrefix t [40]) [41]) = splitOn 32 (inn t) := hS
  have hlen := splitOn_len 32 (inn t)
  have hmem := splitOn_mem 32 (inn t)
  generalize hSS : splitOn 32 (inn t) = S at *
  simp only [l1, l2, l3, l5, l6', l7, c1, c2, c3', hS', go_sem]
  repeat' ((first | apply qa | apply qb | apply qc | apply qd | apply qe | apply qf | apply qg | apply qh | apply qi | apply qj | apply qk) <;> intro hp <;> simp only [hp, l1, l2, l3, l5, l6', l7, c1, c2, c3', hS', go_sem])
  refine loop_go (fun p : Nat × Int => [(8, .int .i64 p.2), (33, .int .i64 (p.1 : Int))]) (fun _ => []) (fun p => S.length - p.1) (fun p => p.1 ≤ S.length ∧ 0 ≤ p.2 ∧ p.2 ≤ 31 ∧ flagsGo ((S.drop p.1).map lowS) p.2 = readFl t) (0, 0) ⟨Nat.zero_le _, Int.le_refl _, by decide, by rw [e]; rfl⟩ rfl rfl ?_
  rintro ⟨i, b⟩ ⟨hi, b0, b1, he⟩ ih
  simp only at hi b0 b1 he ih
  rcases Nat.lt_or_ge i S.length with h | h
  · have g1 : (i : Int) < S.length := by omega
    have g2 : (0 : Int) ≤ i := by omega
    have g3 : S[i]? = some S[i] := List.getElem?_eq_getElem h
    have g5 := wrap_succ h (by omega)
    have w1 : S[i].length ≤ 4194304 := Nat.le_trans (hmem _ (List.getElem_mem h)) l6
    have w2 : S[i].length ≤ 1099511627776 := by omega
    have w3 : (lowS S[i]).length ≤ 4194304 := by rw [lowS_len]; exact w1
    have hd : S.drop i = S[i] :: S.drop (i + 1) := List.drop_eq_getElem_cons h
    rw [hd, List.map_cons, flagsGo] at he
    cases q : (bitN (lowS S[i]) == 0) with
    | true =>
      rw [if_pos q] at he
      rw [← he] at hr
      clear ih
      simp only [g1, g2, g3, g5, w1, w2, w3, q, go_sem]
      repeat' ((first | apply qa | apply qb | apply qc | apply qd | apply qe | apply qf | apply qg | apply qh | apply qi | apply qj | apply qk) <;> intro hp <;> simp only [hp, g1, g2, g3, g5, w1, w2, w3, q, go_sem])
      simp only [fin_mk, finV, resL, resV1, resIn, endA, listIn, Option.some_or, Option.none_or, oneOrTup, go_sem]
      rw [← hr]
      rfl
    | false =>
      rw [if_neg (by rw [q]; simp)] at he
      obtain ⟨f1, f2⟩ := flag_step b0 b1 q
      cases s : setB b (bitN (lowS S[i])) with
      | true =>
        rw [if_pos s] at he
        rw [← he] at hr
        rw [s] at f1
        clear ih
        simp only [g1, g2, g3, g5, w1, w2, w3, q, go_sem]
        repeat' ((first | apply qa | apply qb | apply qc | apply qd | apply qe | apply qf | apply qg | apply qh | apply qi | apply qj | apply qk) <;> intro hp <;> simp only [hp, g1, g2, g3, g5, w1, w2, w3, q, go_sem])
        · simp only [fin_mk, finV, resL, resV1, resIn, endA, listIn, Option.some_or, Option.none_or, oneOrTup, go_sem]
          rw [← hr]
          rfl
        · have f1' : (IntKind.i64.wrap (BitVec.ofInt 64 b &&& BitVec.ofInt 64 (bitN (lowS S[i]))).toNat == 0) = false := by
            rw [bne] at f1; simpa using f1
          exact absurd (hp.symm.trans f1') (by decide)
      | false =>
        rw [if_neg (by rw [s]; simp)] at he
        rw [s] at f1
        obtain ⟨f3, f4⟩ := f2 s
        have hb := bitN_in (lowS S[i])
        have ih' := ih (i + 1, IntKind.i64.wrap (BitVec.ofInt 64 b ||| BitVec.ofInt 64 (bitN (lowS S[i]))).toNat) ⟨h, by simp only; rw [f4]; omega, by simp only; rw [f4]; omega, by simp only; rw [f4]; exact he⟩ (by simp only; omega)
        clear ih
        simp only [g1, g2, g3, g5, w1, w2, w3, q, go_sem]
        repeat' ((first | apply qa | apply qb | apply qc | apply qd | apply qe | apply qf | apply qg | apply qh | apply qi | apply qj | apply qk) <;> intro hp <;> simp only [hp, g1, g2, g3, g5, w1, w2, w3, q, go_sem])
        · have f1' : (IntKind.i64.wrap (BitVec.ofInt 64 b &&& BitVec.ofInt 64 (bitN (lowS S[i]))).toNat == 0) = true := by
            rw [bne] at f1; simpa using f1
          exact absurd (hp.symm.trans f1') (by decide)
        · exact ih'
  · have g1 : ¬ (i : Int) < S.length := by omega
    rw [List.drop_of_length_le h] at he
    have he' : some b = readFl t := he
    rw [← he'] at hr
    clear ih
    simp only [g1, go_sem]
    repeat' ((first | apply qa | apply qb | apply qc | apply qd | apply qe | apply qf | apply qg | apply qh | apply qi | apply qj | apply qk) <;> intro hp <;> simp only [hp, g1, go_sem])
    simp only [fin_mk, finV, resL, resV1, resIn, endA, listIn, Option.some_or, Option.none_or, oneOrTup, go_sem]
    rw [← hr]
    rfl
theorem flag_tab2 : ∀ (a : Fin 32) (j : Fin 5), IntKind.i64.wrap (((a.val : Nat) : Int).tdiv ((2 ^ j.val : Nat) : Int)) = ((a.val : Nat) : Int).tdiv ((2 ^ j.val : Nat) : Int) := by decide +kernel
theorem flag_div {b : Int} (h0 : 0 ≤ b) (h1 : b ≤ 31) {w : List UInt8} (hw : (bitN w == 0) = false) : IntKind.i64.wrap (b.tdiv (bitN w)) = b.tdiv (bitN w) := by
  obtain ⟨n, rfl⟩ : ∃ n : Nat, b = n := ⟨b.toNat, by omega⟩
  rcases bitN_pow w with h | ⟨j, h⟩
  · rw [h] at hw; cases hw
  · rw [h]; exact flag_tab2 ⟨n, by omega⟩ j
theorem low1_32 (b : UInt8) : (low1 b = 32) ↔ (b = 32) := by
  have key : ∀ i : Fin 256, (low1 (UInt8.ofNat i.val) = 32) ↔ (UInt8.ofNat i.val = 32) := by decide +kernel
  have := key ⟨b.toNat, b.toNat_lt⟩
  simpa using this
theorem split_low (s : List UInt8) : splitOn 32 (lowS s) = (splitOn 32 s).map lowS := by
  induction s with
  | nil => rfl
  | cons b s ih =>
    have e : lowS (b :: s) = low1 b :: lowS s := rfl
    rw [e, splitOn, splitOn]
    by_cases hb : b = 32
    · rw [if_pos ((low1_32 b).2 hb), if_pos hb, ih]; rfl
    · rw [if_neg (fun h => hb ((low1_32 b).1 h)), if_neg hb, ih]
      cases splitOn 32 s with
      | nil => rfl
      | cons h t => rfl
theorem flagsGo_app : ∀ (a r : List (List UInt8)) (b : Int), flagsGo (a ++ r) b = (flagsGo a b).bind (flagsGo r)
  | [], r, b => rfl
  | w :: a, r, b => by
    rw [List.cons_append, flagsGo, flagsGo]
    split
    · rfl
    split
    · rfl
    exact flagsGo_app a r _
theorem fits_at {t : List UInt8} (h : 2 ≤ t.length) : fitsF t = ((t[0] == 40) && (t[t.length - 1] == 41)) ∧ (fitsF t = true → inn t = (t.take (t.length - 1)).drop 1) := by
  match t, h with
  | c :: d :: r, _ =>
    have hp : ([40] : List UInt8).isPrefixOf (c :: d :: r) = (c == 40) := by
      simp only [List.isPrefixOf, Bool.and_true]
      rw [Bool.eq_iff_iff, beq_iff_eq, beq_iff_eq]; exact eq_comm
    cases hc : (c == 40) with
    | false =>
      have hf : fitsF (c :: d :: r) = false := by rw [fitsF, hp, hc]; rfl
      refine ⟨?_, fun e => by rw [hf] at e; cases e⟩
      rw [hf]
      have : (c :: d :: r)[0] = c := rfl
      rw [this, hc]; rfl
    | true =>
      rw [hc] at hp
      have hcut : cutPrefix (c :: d :: r) [40] = d :: r := by rw [cutPrefix, if_pos hp]; rfl
      have hs : sufB (d :: r) [41] = ((d :: r)[r.length] == 41) := by
        have e1 : (d :: r).drop ((d :: r).length - 1) = [(d :: r)[r.length]] := by
          have : (d :: r).length - 1 = r.length := by simp
          rw [this, List.drop_eq_getElem_cons (by simp), List.drop_of_length_le (by simp)]
        rw [sufB, show ([41] : List UInt8).length = 1 from rfl, e1, decide_eq_true (by simp), Bool.true_and]
        rw [Bool.eq_iff_iff, beq_iff_eq, beq_iff_eq]; simp
      have hf : fitsF (c :: d :: r) = ((d :: r)[r.length] == 41) := by rw [fitsF, hp, hcut, hs, Bool.true_and]
      refine ⟨?_, fun e => ?_⟩
      · rw [hf]
        have e0 : (c :: d :: r)[0] = c := rfl
        have e1 : (c :: d :: r)[(c :: d :: r).length - 1] = (d :: r)[r.length] := by simp
        rw [e0, hc, Bool.true_and, e1]
      · rw [hf] at e
        rw [inn, hcut, cutSuf, if_pos (by rw [hs]; exact e)]
        simp
theorem fits_short {t : List UInt8} (h : ¬ 2 ≤ t.length) : fitsF t = false := by
  match t, h with
  | [], _ => rfl
  | [c], _ =>
    rw [fitsF]
    cases hp : ([40] : List UInt8).isPrefixOf [c] with
    | false => rfl
    | true => rw [cutPrefix, if_pos hp]; rfl
  | _ :: _ :: _, h => simp at h
def T_spec_ReadFlags : Hints := ⟨lk [], lk [(7, [4, 5, 6, 7])], lk [(0, [0]), (1, [0, 24]), (2, [2, 3]), (3, [4]), (4, [4, 5]), (5, [4, 5, 6]), (6, [4, 5, 6, 7]), (7, [4, 5, 6, 7, 38]), (9, [4, 5, 6, 7, 50]), (10, [4, 5, 7, 8]), (11, [4, 5, 7, 8, 64]), (12, [2, 3]), (13, [4, 5, 7]), (14, [4, 5, 6, 7]), (8, [4, 5, 6, 7]), (15, [2, 3])], lk []⟩
noncomputable def Phi_spec_ReadFlags : Tab := lk [(69, spLow), (50, spBit)]
attribute [go_sem] T_spec_ReadFlags Phi_spec_ReadFlags
theorem phi_spec_ReadFlags : ∀ f sp, Phi_spec_ReadFlags f = some sp → FnOk Tryz.prog f sp ∧ ∀ n ∈ sp.need, n ∈ (["internal/bytealg.MaxLen"] : List String) := phi_cons ok_spec_l06Low (n0 rfl) (phi_cons ok_spec_l06Bit (n0 rfl) (phi_nil))
theorem ok_spec_ReadFlags : FnOk Tryz.prog 83 spReadFlags := by
  refine fn_ok (Φ := Phi_spec_ReadFlags) (T := T_spec_ReadFlags) phi_spec_ReadFlags mixed Tryz.func83 rfl rfl rfl (by decide) ?_
  intro ins r outs hr hl
  clear hl
  have hs := spReadFlags_in hr
  clear hr
  obtain ⟨t, rfl, hc, hr, rfl⟩ := hs
  simp only [spReadFlags, Tryz.f83, Go.VM.initS]
  by_cases hl2 : 2 ≤ t.length
  case neg =>
    have e : readFl t = none := by rw [readFl, fits_short hl2]; rfl
    have g : ((t.length : Nat) : Int) < 2 := by omega
    rw [e] at hr
    simp only [g, go_sem]
    repeat' ((first | apply qa | apply qb | apply qc | apply qd | apply qe | apply qf | apply qg | apply qh | apply qi | apply qj | apply qk) <;> intro hp <;> simp only [hp, g, go_sem])
    simp only [fin_mk, finV, resL, resV1, resIn, endA, listIn, Option.some_or, Option.none_or, oneOrTup, go_sem]
    rw [← hr]
    rfl
  obtain ⟨f1, f2⟩ := fits_at hl2
  have g : ¬ ((t.length : Nat) : Int) < 2 := by omega
  have t0 : t[0]? = some t[0] := List.getElem?_eq_getElem (by omega)
  have t1 : t[t.length - 1]? = some t[t.length - 1] := List.getElem?_eq_getElem (by omega)
  have w1 : IntKind.i64.wrap ((t.length : Int) - 1) = ((t.length - 1 : Nat) : Int) := (wrap64 (by omega) (by omega)).trans (by omega)
  have v1 : (0 : Int) ≤ ((t.length - 1 : Nat) : Int) := by omega
  have v2 : ((t.length - 1 : Nat) : Int) < t.length := by omega
  have v3 : ((t.length - 1 : Nat) : Int) ≤ t.length := by omega
  have v4 : (1 : Int) ≤ ((t.length - 1 : Nat) : Int) := by omega
  have v5 : t.length - 1 ≤ t.length := by omega
  have v6 : 1 ≤ t.length - 1 := by omega
  have v7 : (0 : Int) < ((t.length : Nat) : Int) := by omega
  have bt : ∀ (x c : UInt8), ((x.toNat : Int) != (c.toNat : Int)) = !(x == c) := by
    intro x c
    rw [bne, Bool.eq_iff_iff]
    simp only [Bool.not_eq_true', beq_eq_false_iff_ne, ne_eq]
    constructor
    · intro h e; exact h (by rw [e])
    · intro h e; exact h (UInt8.toNat_inj.1 (by omega))
  cases c0 : (t[0] == 40) with
  | false =>
    have e : readFl t = none := by rw [readFl, f1, c0]; rfl
    have d0 : ((t[0].toNat : Int) != 40) = true := by have := bt t[0] 40; rw [c0] at this; exact this
    rw [e] at hr
    simp only [g, t0, v7, d0, go_sem]
    repeat' ((first | apply qa | apply qb | apply qc | apply qd | apply qe | apply qf | apply qg | apply qh | apply qi | apply qj | apply qk) <;> intro hp <;> simp only [hp, g, t0, v7, d0, go_sem])
    simp only [fin_mk, finV, resL, resV1, resIn, endA, listIn, Option.some_or, Option.none_or, oneOrTup, go_sem]
    rw [← hr]
    rfl
  | true =>
  have d0 : ((t[0].toNat : Int) != 40) = false := by have := bt t[0] 40; rw [c0] at this; exact this
  cases c1 : (t[t.length - 1] == 41) with
  | false =>
    have e : readFl t = none := by rw [readFl, f1, c0, c1]; rfl
    have d1 : ((t[t.length - 1].toNat : Int) != 41) = true := by have := bt t[t.length - 1] 41; rw [c1] at this; exact this
    rw [e] at hr
    simp only [g, t0, t1, w1, v1, v2, v7, d0, d1, Int.toNat_natCast, go_sem]
    repeat' ((first | apply qa | apply qb | apply qc | apply qd | apply qe | apply qf | apply qg | apply qh | apply qi | apply qj | apply qk) <;> intro hp <;> simp only [hp, g, t0, t1, w1, v1, v2, v7, d0, d1, Int.toNat_natCast, go_sem])
    simp only [fin_mk, finV, resL, resV1, resIn, endA, listIn, Option.some_or, Option.none_or, oneOrTup, go_sem]
    rw [← hr]
    rfl
  | true =>
  have d1 : ((t[t.length - 1].toNat : Int) != 41) = false := by have := bt t[t.length - 1] 41; rw [c1] at this; exact this
  have hf : fitsF t = true := by rw [f1, c0, c1]; rfl
  have hi := f2 hf
  have il : ((t.take (t.length - 1)).drop 1).length ≤ 1099511627776 := by rw [List.length_drop, List.length_take]; omega
  have hR : readFl t = if (lowS (inn t) == []) = true then some 0 else flagsGo (splitOn 32 (lowS (inn t))) 0 := by
    rw [readFl, if_pos hf, split_low]
    have : (lowS (inn t) == []) = (inn t == []) := by
      cases inn t with
      | nil => rfl
      | cons b s => rfl
    rw [this]
  rw [hi] at hR
  obtain ⟨S, hS⟩ : ∃ S, lowS ((t.take (t.length - 1)).drop 1) = S := ⟨_, rfl⟩
  have sl : S.length ≤ 4194304 := by rw [← hS, lowS_len, List.length_drop, List.length_take]; omega
  rw [hS] at hR
  simp only [g, t0, t1, w1, v1, v2, v3, v4, v5, v6, v7, d0, d1, il, hS, Int.toNat_natCast, go_sem]
  repeat' ((first | apply qa | apply qb | apply qc | apply qd | apply qe | apply qf | apply qg | apply qh | apply qi | apply qj | apply qk) <;> intro hp <;> simp only [hp, g, t0, t1, w1, v1, v2, v3, v4, v5, v6, v7, d0, d1, il, hS, Int.toNat_natCast, go_sem])
  cases cs : (S == []) with
  | true =>
    have hS0 : S = [] := eq_of_beq cs
    have cs' : (S != []) = false := by rw [bne, cs]; rfl
    rw [if_pos cs] at hR
    rw [hR] at hr
    refine head_goes.2 ?_
    simp only [cs', hS0, bne_self_eq_false, go_sem]
    repeat' ((first | apply qa | apply qb | apply qc | apply qd | apply qe | apply qf | apply qg | apply qh | apply qi | apply qj | apply qk) <;> intro hp <;> simp only [hp, cs', hS0, bne_self_eq_false, go_sem])
    all_goals (simp only [fin_mk, finV, resL, resV1, resIn, endA, listIn, Option.some_or, Option.none_or, oneOrTup, go_sem]; rw [← hr])
    all_goals rfl
  | false =>
  have cs' : (S != []) = true := by rw [bne, cs]; rfl
  rw [if_neg (by rw [cs]; simp)] at hR
  refine loop_go (fun p : Nat × Nat × Int × List (List UInt8) => [(5, .int .i64 p.2.2.1), (6, .int .i64 (p.1 : Int)), (7, .int .i64 (p.2.1 : Int))]) (fun _ => []) (fun p => S.length + 1 - p.2.1) (fun p => ScanAt 32 S p.1 p.2.1 p.2.2.2 ∧ 0 ≤ p.2.2.1 ∧ p.2.2.1 ≤ 31 ∧ flagsGo p.2.2.2 0 = some p.2.2.1) (0, 0, 0, []) ⟨ScanAt.zero _ _, Int.le_refl _, by decide, rfl⟩ rfl rfl ?_
  rintro ⟨b, i, m, out⟩ ⟨hs, m0, m1, hm⟩ ih
  simp only at hs m0 m1 hm ih
  have hb' := hs.hb
  have hi' := hs.hi
  have g2 : (0 : Int) ≤ i := by omega
  have gb : (0 : Int) ≤ b := by omega
  have gbi : (b : Int) ≤ i := by omega
  have gbi' : b ≤ i := hb'
  have g5 : IntKind.i64.wrap ((i : Int) + 1) = ((i + 1 : Nat) : Int) := (wrap64 (by omega) (by omega)).trans (by omega)
  rcases Nat.lt_trichotomy i S.length with h | h | h
  · have g1 : (i : Int) ≤ S.length := by omega
    have g6 : (i : Int) < S.length := by omega
    have g7 : i ≤ S.length := by omega
    have g3 : S[i]? = some S[i] := List.getElem?_eq_getElem h
    cases q : ((S[i].toNat : Int) == 32) with
    | false =>
      have q' : ((S[i].toNat : Int) != 32) = true := by rw [bne, q]; rfl
      have ih' := ih (b, i + 1, m, out) ⟨hs.step h q, m0, m1, hm⟩ (by simp only; omega)
      clear ih
      simp only [g1, g2, g3, g5, g6, cs', q', go_sem]
      repeat' ((first | apply qa | apply qb | apply qc | apply qd | apply qe | apply qf | apply qg | apply qh | apply qi | apply qj | apply qk) <;> intro hp <;> simp only [hp, g1, g2, g3, g5, g6, cs', q', go_sem])
      exact ih'
    | true =>
      have q' : ((S[i].toNat : Int) != 32) = false := by rw [bne, q]; rfl
      obtain ⟨W, hW⟩ : ∃ W, (S.take i).drop b = W := ⟨_, rfl⟩
      have wl : W.length ≤ 4194304 := by rw [← hW, List.length_drop, List.length_take]; omega
      have hc : S[i] = 32 := by
        rw [beq_iff_eq] at q
        exact UInt8.toNat_inj.1 (by have : (32 : UInt8).toNat = 32 := rfl; omega)
      have hsp : splitOn 32 S = out ++ W :: splitOn 32 (S.drop (i + 1)) := by
        rw [← hs.eq (by omega), splitOn_at hs.hb h hc hs.no, hW]
      have hn := hs.hit h q
      rw [hW] at hn
      have hb := bitN_in W
      cases q2 : (bitN W == 0) with
      | true =>
        have e : readFl t = none := by rw [hR, hsp, flagsGo_app, hm, Option.bind_some, flagsGo, if_pos q2]
        rw [e] at hr
        clear ih
        simp only [g1, g2, g3, g5, g6, g7, gb, gbi, gbi', cs', q', Int.toNat_natCast, hW, wl, q2, go_sem]
        repeat' ((first | apply qa | apply qb | apply qc | apply qd | apply qe | apply qf | apply qg | apply qh | apply qi | apply qj | apply qk) <;> intro hp <;> simp only [hp, g1, g2, g3, g5, g6, g7, gb, gbi, gbi', cs', q', Int.toNat_natCast, hW, wl, q2, go_sem])
        simp only [fin_mk, finV, resL, resV1, resIn, endA, listIn, Option.some_or, Option.none_or, oneOrTup, go_sem]
        rw [← hr]
        rfl
      | false =>
        have q2' : ¬ bitN W = 0 := beq_eq_false_iff_ne.1 q2
        have d2 := flag_div m0 m1 q2
        cases q3 : setB m (bitN W) with
        | true =>
          have e : readFl t = none := by rw [hR, hsp, flagsGo_app, hm, Option.bind_some, flagsGo, if_neg (by rw [q2]; simp), if_pos q3]
          have q3' : ((m.tdiv (bitN W)).tmod 2 == 1) = true := q3
          rw [e] at hr
          clear ih
          simp only [g1, g2, g3, g5, g6, g7, gb, gbi, gbi', cs', q', Int.toNat_natCast, hW, wl, q2, q2', d2, q3', go_sem]
          repeat' ((first | apply qa | apply qb | apply qc | apply qd | apply qe | apply qf | apply qg | apply qh | apply qi | apply qj | apply qk) <;> intro hp <;> simp only [hp, g1, g2, g3, g5, g6, g7, gb, gbi, gbi', cs', q', Int.toNat_natCast, hW, wl, q2, q2', d2, q3', go_sem])
          simp only [fin_mk, finV, resL, resV1, resIn, endA, listIn, Option.some_or, Option.none_or, oneOrTup, go_sem]
          rw [← hr]
          rfl
        | false =>
          have q3' : ((m.tdiv (bitN W)).tmod 2 == 1) = false := q3
          have f3 := ((flag_step m0 m1 q2).2 q3).1
          have w9 : IntKind.i64.wrap (m + bitN W) = m + bitN W := wrap64 (by omega) (by omega)
          have hm' : flagsGo (out ++ [W]) 0 = some (m + bitN W) := by rw [flagsGo_app, hm, Option.bind_some, flagsGo, if_neg (by rw [q2]; simp), if_neg (by rw [q3]; simp)]; rfl
          have ih' := ih (i + 1, i + 1, m + bitN W, out ++ [W]) ⟨hn, by simp only; omega, by simp only; omega, hm'⟩ (by simp only; omega)
          clear ih
          simp only [g1, g2, g3, g5, g6, g7, gb, gbi, gbi', cs', q', Int.toNat_natCast, hW, wl, q2, q2', d2, q3', w9, go_sem]
          repeat' ((first | apply qa | apply qb | apply qc | apply qd | apply qe | apply qf | apply qg | apply qh | apply qi | apply qj | apply qk) <;> intro hp <;> simp only [hp, g1, g2, g3, g5, g6, g7, gb, gbi, gbi', cs', q', Int.toNat_natCast, hW, wl, q2, q2', d2, q3', w9, go_sem])
          exact ih'
  · have hn := hs
    subst h
    have g1 : ((S.length : Nat) : Int) ≤ (S.length : Int) := Int.le_refl _
    have g6 : ¬ ((S.length : Nat) : Int) < (S.length : Int) := Int.lt_irrefl _
    obtain ⟨W, hW⟩ : ∃ W, (S.take S.length).drop b = W := ⟨_, rfl⟩
    have hW2 : S.drop b = W := by rw [← hW, List.take_length]
    have wl : W.length ≤ 4194304 := by rw [← hW, List.length_drop, List.length_take]; omega
    have hl := hs.last
    rw [hW] at hl
    have hsp : splitOn 32 S = out ++ W :: [] := (hl.fin rfl).symm
    have hb := bitN_in W
    cases q2 : (bitN W == 0) with
    | true =>
      have e : readFl t = none := by rw [hR, hsp, flagsGo_app, hm, Option.bind_some, flagsGo, if_pos q2]
      rw [e] at hr
      clear ih
      simp only [g1, g2, g5, g6, gb, gbi, gbi', cs', hW2, List.take_length, Int.toNat_natCast, Nat.le_refl, Int.le_refl, Int.lt_irrefl, hW, wl, q2, go_sem]
      repeat' ((first | apply qa | apply qb | apply qc | apply qd | apply qe | apply qf | apply qg | apply qh | apply qi | apply qj | apply qk) <;> intro hp <;> simp only [hp, g1, g2, g5, g6, gb, gbi, gbi', cs', hW2, List.take_length, Int.toNat_natCast, Nat.le_refl, Int.le_refl, Int.lt_irrefl, hW, wl, q2, go_sem])
      simp only [fin_mk, finV, resL, resV1, resIn, endA, listIn, Option.some_or, Option.none_or, oneOrTup, go_sem]
      rw [← hr]
      rfl
    | false =>
      have q2' : ¬ bitN W = 0 := beq_eq_false_iff_ne.1 q2
      have d2 := flag_div m0 m1 q2
      cases q3 : setB m (bitN W) with
      | true =>
        have e : readFl t = none := by rw [hR, hsp, flagsGo_app, hm, Option.bind_some, flagsGo, if_neg (by rw [q2]; simp), if_pos q3]
        have q3' : ((m.tdiv (bitN W)).tmod 2 == 1) = true := q3
        rw [e] at hr
        clear ih
        simp only [g1, g2, g5, g6, gb, gbi, gbi', cs', hW2, List.take_length, Int.toNat_natCast, Nat.le_refl, Int.le_refl, Int.lt_irrefl, hW, wl, q2, q2', d2, q3', go_sem]
        repeat' ((first | apply qa | apply qb | apply qc | apply qd | apply qe | apply qf | apply qg | apply qh | apply qi | apply qj | apply qk) <;> intro hp <;> simp only [hp, g1, g2, g5, g6, gb, gbi, gbi', cs', hW2, List.take_length, Int.toNat_natCast, Nat.le_refl, Int.le_refl, Int.lt_irrefl, hW, wl, q2, q2', d2, q3', go_sem])
        simp only [fin_mk, finV, resL, resV1, resIn, endA, listIn, Option.some_or, Option.none_or, oneOrTup, go_sem]
        rw [← hr]
        rfl
      | false =>
        have q3' : ((m.tdiv (bitN W)).tmod 2 == 1) = false := q3
        have f3 := ((flag_step m0 m1 q2).2 q3).1
        have w9 : IntKind.i64.wrap (m + bitN W) = m + bitN W := wrap64 (by omega) (by omega)
        have hm' : flagsGo (out ++ [W]) 0 = some (m + bitN W) := by rw [flagsGo_app, hm, Option.bind_some, flagsGo, if_neg (by rw [q2]; simp), if_neg (by rw [q3]; simp)]; rfl
        have ih' := ih (S.length + 1, S.length + 1, m + bitN W, out ++ [W]) ⟨hl, by simp only; omega, by simp only; omega, hm'⟩ (by simp only; omega)
        clear ih
        simp only [g1, g2, g5, g6, gb, gbi, gbi', cs', hW2, List.take_length, Int.toNat_natCast, Nat.le_refl, Int.le_refl, Int.lt_irrefl, hW, wl, q2, q2', d2, q3', w9, go_sem]
        repeat' ((first | apply qa | apply qb | apply qc | apply qd | apply qe | apply qf | apply qg | apply qh | apply qi | apply qj | apply qk) <;> intro hp <;> simp only [hp, g1, g2, g5, g6, gb, gbi, gbi', cs', hW2, List.take_length, Int.toNat_natCast, Nat.le_refl, Int.le_refl, Int.lt_irrefl, hW, wl, q2, q2', d2, q3', w9, go_sem])
        exact ih'
  · have e : i = S.length + 1 := by omega
    have g1 : ¬ (i : Int) ≤ S.length := by omega
    have hf := hs.fin e
    rw [← hf, hm] at hR
    rw [hR] at hr
    clear ih
    simp only [g1, go_sem]
    repeat' ((first | apply qa | apply qb | apply qc | apply qd | apply qe | apply qf | apply qg | apply qh | apply qi | apply qj | apply qk) <;> intro hp <;> simp only [hp, g1, go_sem])
    simp only [fin_mk, finV, resL, resV1, resIn, endA, listIn, Option.some_or, Option.none_or, oneOrTup, go_sem]
    rw [← hr]
    rfl
end Go.Proofs.YtonjbbfgdloljaaGreatDoor.L

namespace Go.Proofs.YtonjbbfgdloljaaGreatDoor.L
open Go Go.VM
set_option maxRecDepth 100000
set_option maxHeartbeats 4000000
set_option linter.unusedSimpArgs false
set_option linter.unusedVariables false
theorem readSet_len (t : List UInt8) (last : Int) : (readSet t last).length ≤ 4194304 := by
  unfold readSet
  split
  · rename_i h
    unfold readOk at h
    split
    · rename_i l hl
      rw [hl] at h
      simp only [Bool.and_eq_true, decide_eq_true_eq] at h
      omega
    · simp
  · simp
theorem cut1_len (s t : List UInt8) : (cut1 s t).length ≤ s.length := by
  unfold cut1; split
  · rw [List.length_take]; omega
  · exact Nat.le_refl _
theorem cut2_len (s t : List UInt8) : (cut2 s t).length ≤ s.length := by
  unfold cut2; split
  · rw [List.length_drop]; omega
  · simp
theorem cutP_len (s t : List UInt8) : (cutPrefix s t).length ≤ s.length := by
  unfold cutPrefix; split
  · rw [List.length_drop]; omega
  · exact Nat.le_refl _
def validV (r : List UInt8) : Line := ⟨5, decN (cut1 (cutSuf r [32, 97, 108, 108]) [32, 109, 111, 100, 115, 101, 113, 32]), 0, 0, decN (cut2 (cutSuf r [32, 97, 108, 108]) [32, 109, 111, 100, 115, 101, 113, 32]), [], sufB r [32, 97, 108, 108]⟩
def numbV (s : List UInt8) : Line :=
  if (cut2 s [32] == [101, 120, 105, 115, 116, 115]) = true then ⟨1, decN (cut1 s [32]), 0, 0, 0, [], false⟩
  else if (cut2 s [32] == [101, 120, 112, 117, 110, 103, 101]) = true then ⟨2, decN (cut1 s [32]), 0, 0, 0, [], false⟩
  else if ([102, 101, 116, 99, 104, 32, 40, 117, 105, 100, 32] : List UInt8).isPrefixOf (cut2 s [32]) = true then
    ⟨3, decN (cut1 s [32]), decN (cut1 (cutPrefix (cut2 s [32]) [102, 101, 116, 99, 104, 32, 40, 117, 105, 100, 32]) [32, 102, 108, 97, 103, 115, 32]), (readFl (cut1 (cut2 (cutPrefix (cut2 s [32]) [102, 101, 116, 99, 104, 32, 40, 117, 105, 100, 32]) [32, 102, 108, 97, 103, 115, 32]) [32, 109, 111, 100, 115, 101, 113, 32])).getD 0, decN (cutSuf (cut2 (cut2 (cutPrefix (cut2 s [32]) [102, 101, 116, 99, 104, 32, 40, 117, 105, 100, 32]) [32, 102, 108, 97, 103, 115, 32]) [32, 109, 111, 100, 115, 101, 113, 32]) [41]), [], false⟩
  else ⟨0, decN (cut1 s [32]), 0, 0, 0, [], false⟩
def lineOfV (t : List UInt8) : Line :=
  if (t == [111, 107]) = true then ⟨7, 0, 0, 0, 0, [], false⟩
  else if (t == [98, 121, 101]) = true then ⟨9, 0, 0, 0, 0, [], false⟩
  else if ([110, 111, 32] : List UInt8).isPrefixOf t = true then ⟨8, decN (cutPrefix t [110, 111, 32]), 0, 0, 0, [], false⟩
  else if ([42, 32] : List UInt8).isPrefixOf t = false then ⟨0, 0, 0, 0, 0, [], false⟩
  else if (cutPrefix t [42, 32] == [115, 101, 97, 114, 99, 104]) = true then ⟨6, 0, 0, 0, 0, [], false⟩
  else if (cut1 (cutPrefix t [42, 32]) [32] == [115, 101, 97, 114, 99, 104]) = true then ⟨6, 0, 0, 0, 0, readSet (cut2 (cutPrefix t [42, 32]) [32]) 9999, false⟩
  else if (cut1 (cutPrefix t [42, 32]) [32] == [118, 97, 110, 105, 115, 104, 101, 100]) = true then ⟨4, 0, 0, 0, 0, readSet (cut2 (cutPrefix t [42, 32]) [32]) 9999, false⟩
  else if (cut1 (cutPrefix t [42, 32]) [32] == [118, 97, 108, 105, 100]) = true then validV (cut2 (cutPrefix t [42, 32]) [32])
  else numbV (cutPrefix t [42, 32])
theorem line_le (k n u f m : Int) (s : List Range) (a : Bool) (h : s.length ≤ 4194304) : (⟨k, n, u, f, m, s, a⟩ : Line).le 4194304 := ⟨h, fun _ _ => trivial⟩
theorem numbV_le (s : List UInt8) : (numbV s).le 4194304 := by
  unfold numbV
  repeat' split
  all_goals exact line_le _ _ _ _ _ _ _ (by simp)
theorem validV_le (s : List UInt8) : (validV s).le 4194304 := line_le _ _ _ _ _ _ _ (by simp)
theorem lineOfV_le (t : List UInt8) : (lineOfV t).le 4194304 := by
  unfold lineOfV
  repeat' (first | exact numbV_le _ | exact validV_le _ | exact line_le _ _ _ _ _ _ _ (readSet_len _ _) | exact line_le _ _ _ _ _ _ _ (Nat.zero_le _) | split)
def lineNil : Line := ⟨0, 0, 0, 0, 0, [], false⟩
def tellV (x : Line) (t : List UInt8) : Line × Bool := if lineOk x = true ∧ (lineText x == t) = true then (x, true) else (lineNil, false)
open Classical in
noncomputable def spValidV : VM.Spec := { modes := [.rd], run := fun | [.str s] => if s.length ≤ 4194304 then some (Line.enc (validV s), []) else none | _ => none, need := ["internal/bytealg.MaxLen", "internal/strconv.uint64pow10", "strconv.ErrSyntax", "strconv.ErrRange"] }
attribute [go_sem] spValidV
theorem spValidV_in {ins : List V} {r : V} {outs : List V} (h : spValidV.run ins = some (r, outs)) : ∃ (s : (List UInt8)), ins = [.str s] ∧ (s.length ≤ 4194304) ∧ Line.enc (validV s) = r ∧ outs = [] := by
  unfold spValidV at h
  simp only at h
  split at h
  · rename_i s
    split at h
    case isFalse => cases h
    rename_i hc
    simp only [Option.some.injEq, Prod.mk.injEq] at h
    obtain ⟨h1, h2⟩ := h
    exact ⟨s, rfl, hc, h1, h2.symm⟩
  · cases h
def T_impl_readValid : Hints := ⟨lk [], lk [], lk [(0, [0, 2]), (1, [0, 2, 3]), (2, [0, 2, 3]), (3, [2, 3, 4, 5]), (4, [2, 3, 5]), (5, [2, 3]), (6, [2])], lk []⟩
noncomputable def Phi_impl_readValid : Tab := lk [(119, spCutSuffix), (78, spCut), (77, spReadDecI)]
attribute [go_sem] T_impl_readValid Phi_impl_readValid
theorem phi_impl_readValid : ∀ f sp, Phi_impl_readValid f = some sp → FnOk Tryz.prog f sp ∧ ∀ n ∈ sp.need, n ∈ (["internal/bytealg.MaxLen", "internal/strconv.uint64pow10", "strconv.ErrSyntax", "strconv.ErrRange"] : List String) := phi_cons ok_strings_CutSuffix (n0 rfl) (phi_cons ok_strings_Cut (fun n (h : n ∈ (["internal/bytealg.MaxLen"] : List String)) => by simp only [List.mem_cons, List.not_mem_nil, or_false] at h; rcases h with rfl <;> simp) (phi_cons ok_impl_ReadDecimal (fun n (h : n ∈ (["internal/strconv.uint64pow10", "strconv.ErrSyntax", "strconv.ErrRange"] : List String)) => by simp only [List.mem_cons, List.not_mem_nil, or_false] at h; rcases h with rfl | rfl | rfl <;> simp) (phi_nil)))
theorem ok_impl_readValid : FnOk Tryz.prog 79 spValidV := by
  refine fn_ok (Φ := Phi_impl_readValid) (T := T_impl_readValid) phi_impl_readValid mixed Tryz.func79 rfl rfl rfl (by decide) ?_
  intro ins r outs hr hl
  clear hl
  have hs := spValidV_in hr
  clear hr
  obtain ⟨s, rfl, hc, hr, rfl⟩ := hs
  simp only [spValidV, Tryz.f79, Go.VM.initS]
  have l1 : s.length ≤ 1099511627776 := by omega
  have l2 : ([32, 97, 108, 108] : List UInt8).length ≤ 1099511627776 := by decide
  have l3 : (cutSuf s [32, 97, 108, 108]).length ≤ 4194304 := Nat.le_trans (cutSuf_len _ _) hc
  have l4 : ([32, 109, 111, 100, 115, 101, 113, 32] : List UInt8).length ≤ 4194304 := by decide
  have l5 : (cut1 (cutSuf s [32, 97, 108, 108]) [32, 109, 111, 100, 115, 101, 113, 32]).length ≤ 4194304 := Nat.le_trans (cut1_len _ _) l3
  have l6 : (cut2 (cutSuf s [32, 97, 108, 108]) [32, 109, 111, 100, 115, 101, 113, 32]).length ≤ 4194304 := Nat.le_trans (cut2_len _ _) l3
  simp only [hc, l1, l2, l3, l4, l5, l6, go_sem]
  repeat' ((first | apply qa | apply qb | apply qc | apply qd | apply qe | apply qf | apply qg | apply qh | apply qi | apply qj | apply qk) <;> intro hp <;> simp only [hp, hc, l1, l2, l3, l4, l5, l6, go_sem])
  simp only [fin_mk, finV, resL, resV1, resIn, endA, listIn, Option.some_or, Option.none_or, oneOrTup, go_sem]
  rw [← hr]
  rfl
open Classical in
noncomputable def spNumbV : VM.Spec := { modes := [.rd], run := fun | [.str s] => if s.length ≤ 4194304 then some (Line.enc (numbV s), []) else none | _ => none, need := ["internal/bytealg.MaxLen", "internal/strconv.uint64pow10", "strconv.ErrSyntax", "strconv.ErrRange"] }
attribute [go_sem] spNumbV
theorem spNumbV_in {ins : List V} {r : V} {outs : List V} (h : spNumbV.run ins = some (r, outs)) : ∃ (s : (List UInt8)), ins = [.str s] ∧ (s.length ≤ 4194304) ∧ Line.enc (numbV s) = r ∧ outs = [] := by
  unfold spNumbV at h
  simp only at h
  split at h
  · rename_i s
    split at h
    case isFalse => cases h
    rename_i hc
    simp only [Option.some.injEq, Prod.mk.injEq] at h
    obtain ⟨h1, h2⟩ := h
    exact ⟨s, rfl, hc, h1, h2.symm⟩
  · cases h
def T_impl_readNumbered : Hints := ⟨lk [], lk [], lk [(0, [0, 2]), (1, [2, 3, 4]), (2, [2, 3, 4, 6]), (3, [2, 4, 6]), (4, [2, 4, 6, 7, 8]), (5, [2, 4, 6, 7, 8, 33]), (6, [2, 6]), (7, [2, 6, 7, 8, 37]), (8, [2, 6]), (9, [2, 6, 7, 41]), (10, [2, 6, 7]), (11, [2, 6, 9, 10]), (12, [2, 6, 9, 12, 13]), (13, [2, 6, 12, 13]), (14, [2, 6, 13]), (15, [2, 6]), (16, [2])], lk []⟩
noncomputable def Phi_impl_readNumbered : Tab := lk [(76, spCutPrefix), (121, spTrimSuffix), (78, spCut), (77, spReadDecI), (120, spReadFlags)]
attribute [go_sem] T_impl_readNumbered Phi_impl_readNumbered
theorem phi_impl_readNumbered : ∀ f sp, Phi_impl_readNumbered f = some sp → FnOk Tryz.prog f sp ∧ ∀ n ∈ sp.need, n ∈ (["internal/bytealg.MaxLen", "internal/strconv.uint64pow10", "strconv.ErrSyntax", "strconv.ErrRange"] : List String) := phi_cons ok_strings_CutPrefix (n0 rfl) (phi_cons ok_strings_TrimSuffix (n0 rfl) (phi_cons ok_strings_Cut (fun n (h : n ∈ (["internal/bytealg.MaxLen"] : List String)) => by simp only [List.mem_cons, List.not_mem_nil, or_false] at h; rcases h with rfl <;> simp) (phi_cons ok_impl_ReadDecimal (fun n (h : n ∈ (["internal/strconv.uint64pow10", "strconv.ErrSyntax", "strconv.ErrRange"] : List String)) => by simp only [List.mem_cons, List.not_mem_nil, or_false] at h; rcases h with rfl | rfl | rfl <;> simp) (phi_cons ok_impl_ReadFlags (fun n (h : n ∈ (["internal/bytealg.MaxLen"] : List String)) => by simp only [List.mem_cons, List.not_mem_nil, or_false] at h; rcases h with rfl <;> simp) (phi_nil)))))
theorem ok_impl_readNumbered : FnOk Tryz.prog 80 spNumbV := by
  refine fn_ok (Φ := Phi_impl_readNumbered) (T := T_impl_readNumbered) phi_impl_readNumbered mixed Tryz.func80 rfl rfl rfl (by decide) ?_
  intro ins r outs hr hl
  clear hl
  have hs := spNumbV_in hr
  clear hr
  obtain ⟨s, rfl, hc, hr, rfl⟩ := hs
  simp only [spNumbV, Tryz.f80, Go.VM.initS]
  have l4 : ([32] : List UInt8).length ≤ 4194304 := by decide
  have l5 : (cut1 s [32]).length ≤ 4194304 := Nat.le_trans (cut1_len _ _) hc
  have l6 : (cut2 s [32]).length ≤ 4194304 := Nat.le_trans (cut2_len _ _) hc
  have l7 : (cut2 s [32]).length ≤ 1099511627776 := by omega
  have l8 : ([102, 101, 116, 99, 104, 32, 40, 117, 105, 100, 32] : List UInt8).length ≤ 1099511627776 := by decide
  have l9 : (cutPrefix (cut2 s [32]) [102, 101, 116, 99, 104, 32, 40, 117, 105, 100, 32]).length ≤ 4194304 := Nat.le_trans (cutP_len _ _) l6
  have l10 : ([32, 102, 108, 97, 103, 115, 32] : List UInt8).length ≤ 4194304 := by decide
  have l11 : (cut1 (cutPrefix (cut2 s [32]) [102, 101, 116, 99, 104, 32, 40, 117, 105, 100, 32]) [32, 102, 108, 97, 103, 115, 32]).length ≤ 4194304 := Nat.le_trans (cut1_len _ _) l9
  have l12 : (cut2 (cutPrefix (cut2 s [32]) [102, 101, 116, 99, 104, 32, 40, 117, 105, 100, 32]) [32, 102, 108, 97, 103, 115, 32]).length ≤ 4194304 := Nat.le_trans (cut2_len _ _) l9
  have l13 : ([32, 109, 111, 100, 115, 101, 113, 32] : List UInt8).length ≤ 4194304 := by decide
  have l14 : (cut1 (cut2 (cutPrefix (cut2 s [32]) [102, 101, 116, 99, 104, 32, 40, 117, 105, 100, 32]) [32, 102, 108, 97, 103, 115, 32]) [32, 109, 111, 100, 115, 101, 113, 32]).length ≤ 4194304 := Nat.le_trans (cut1_len _ _) l12
  have l15 : (cut2 (cut2 (cutPrefix (cut2 s [32]) [102, 101, 116, 99, 104, 32, 40, 117, 105, 100, 32]) [32, 102, 108, 97, 103, 115, 32]) [32, 109, 111, 100, 115, 101, 113, 32]).length ≤ 4194304 := Nat.le_trans (cut2_len _ _) l12
  have l16 : (cut2 (cut2 (cutPrefix (cut2 s [32]) [102, 101, 116, 99, 104, 32, 40, 117, 105, 100, 32]) [32, 102, 108, 97, 103, 115, 32]) [32, 109, 111, 100, 115, 101, 113, 32]).length ≤ 1099511627776 := by omega
  have l17 : ([41] : List UInt8).length ≤ 1099511627776 := by decide
  have l18 : (cutSuf (cut2 (cut2 (cutPrefix (cut2 s [32]) [102, 101, 116, 99, 104, 32, 40, 117, 105, 100, 32]) [32, 102, 108, 97, 103, 115, 32]) [32, 109, 111, 100, 115, 101, 113, 32]) [41]).length ≤ 4194304 := Nat.le_trans (cutSuf_len _ _) l15
  cases c1 : (cut2 s [32] == [101, 120, 105, 115, 116, 115]) with
  | true =>
    simp only [hc, l4, l5, l6, l7, l8, c1, go_sem]
    repeat' ((first | apply qa | apply qb | apply qc | apply qd | apply qe | apply qf | apply qg | apply qh | apply qi | apply qj | apply qk) <;> intro hp <;> simp only [hp, hc, l4, l5, l6, l7, l8, c1, go_sem])
    simp only [fin_mk, finV, resL, resV1, resIn, endA, listIn, Option.some_or, Option.none_or, oneOrTup, go_sem]
    rw [← hr]
    rw [numbV, if_pos c1]; rfl
  | false =>
  cases c2 : (cut2 s [32] == [101, 120, 112, 117, 110, 103, 101]) with
  | true =>
    simp only [hc, l4, l5, l6, l7, l8, c1, c2, go_sem]
    repeat' ((first | apply qa | apply qb | apply qc | apply qd | apply qe | apply qf | apply qg | apply qh | apply qi | apply qj | apply qk) <;> intro hp <;> simp only [hp, hc, l4, l5, l6, l7, l8, c1, c2, go_sem])
    simp only [fin_mk, finV, resL, resV1, resIn, endA, listIn, Option.some_or, Option.none_or, oneOrTup, go_sem]
    rw [← hr]
    rw [numbV, if_neg (by rw [c1]; simp), if_pos c2]; rfl
  | false =>
  cases c3 : ([102, 101, 116, 99, 104, 32, 40, 117, 105, 100, 32] : List UInt8).isPrefixOf (cut2 s [32]) with
  | true =>
    simp only [hc, l4, l5, l6, l7, l8, l9, l10, l11, l12, l13, l14, l15, l16, l17, l18, c1, c2, c3, go_sem]
    repeat' ((first | apply qa | apply qb | apply qc | apply qd | apply qe | apply qf | apply qg | apply qh | apply qi | apply qj | apply qk) <;> intro hp <;> simp only [hp, hc, l4, l5, l6, l7, l8, l9, l10, l11, l12, l13, l14, l15, l16, l17, l18, c1, c2, c3, go_sem])
    simp only [fin_mk, finV, resL, resV1, resIn, endA, listIn, Option.some_or, Option.none_or, oneOrTup, go_sem]
    rw [← hr]
    rw [numbV, if_neg (by rw [c1]; simp), if_neg (by rw [c2]; simp), if_pos c3]; rfl
  | false =>
    simp only [hc, l4, l5, l6, l7, l8, c1, c2, c3, go_sem]
    repeat' ((first | apply qa | apply qb | apply qc | apply qd | apply qe | apply qf | apply qg | apply qh | apply qi | apply qj | apply qk) <;> intro hp <;> simp only [hp, hc, l4, l5, l6, l7, l8, c1, c2, c3, go_sem])
    simp only [fin_mk, finV, resL, resV1, resIn, endA, listIn, Option.some_or, Option.none_or, oneOrTup, go_sem]
    rw [← hr]
    rw [numbV, if_neg (by rw [c1]; simp), if_neg (by rw [c2]; simp), if_neg (by rw [c3]; simp)]; rfl
open Classical in
noncomputable def spLineOfV : VM.Spec := { modes := [.rd], run := fun | [.str t] => if t.length ≤ 4194304 then some (Line.enc (lineOfV t), []) else none | _ => none, need := ["internal/bytealg.MaxLen", "internal/strconv.uint64pow10", "strconv.ErrSyntax", "strconv.ErrRange"] }
attribute [go_sem] spLineOfV
theorem spLineOfV_in {ins : List V} {r : V} {outs : List V} (h : spLineOfV.run ins = some (r, outs)) : ∃ (t : (List UInt8)), ins = [.str t] ∧ (t.length ≤ 4194304) ∧ Line.enc (lineOfV t) = r ∧ outs = [] := by
  unfold spLineOfV at h
  simp only at h
  split at h
  · rename_i t
    split at h
    case isFalse => cases h
    rename_i hc
    simp only [Option.some.injEq, Prod.mk.injEq] at h
    obtain ⟨h1, h2⟩ := h
    exact ⟨t, rfl, hc, h1, h2.symm⟩
  · cases h
def T_impl_lineOf : Hints := ⟨lk [], lk [], lk [(0, [0, 2]), (1, [0, 2, 3, 4]), (2, [0, 2, 3, 4, 5, 6]), (3, [0, 2, 3, 4, 5, 6, 26]), (4, [2]), (5, [2, 3, 4, 5, 6, 30]), (6, [2]), (7, [2, 3, 5, 6, 34]), (8, [2, 7]), (9, [2]), (10, [2, 5, 43]), (11, [2]), (12, [2, 5, 47]), (13, [2]), (14, [2, 5, 9, 10]), (15, [2, 5, 10, 57]), (16, [2, 5, 10, 57, 58]), (17, [2, 12]), (18, [2]), (19, [2, 5, 10, 57, 67]), (20, [2, 14]), (21, [2]), (22, [2, 5, 10, 76]), (23, [2]), (24, [2])], lk []⟩
noncomputable def Phi_impl_lineOf : Tab := lk [(76, spCutPrefix), (78, spCut), (77, spReadDecI), (63, spReadSet), (79, spValidV), (80, spNumbV)]
attribute [go_sem] T_impl_lineOf Phi_impl_lineOf
theorem phi_impl_lineOf : ∀ f sp, Phi_impl_lineOf f = some sp → FnOk Tryz.prog f sp ∧ ∀ n ∈ sp.need, n ∈ (["internal/bytealg.MaxLen", "internal/strconv.uint64pow10", "strconv.ErrSyntax", "strconv.ErrRange"] : List String) := phi_cons ok_strings_CutPrefix (n0 rfl) (phi_cons ok_strings_Cut (fun n (h : n ∈ (["internal/bytealg.MaxLen"] : List String)) => by simp only [List.mem_cons, List.not_mem_nil, or_false] at h; rcases h with rfl <;> simp) (phi_cons ok_impl_ReadDecimal (fun n (h : n ∈ (["internal/strconv.uint64pow10", "strconv.ErrSyntax", "strconv.ErrRange"] : List String)) => by simp only [List.mem_cons, List.not_mem_nil, or_false] at h; rcases h with rfl | rfl | rfl <;> simp) (phi_cons ok_impl_ReadSet (fun n (h : n ∈ (["internal/bytealg.MaxLen"] : List String)) => by simp only [List.mem_cons, List.not_mem_nil, or_false] at h; rcases h with rfl <;> simp) (phi_cons ok_impl_readValid (fun n (h : n ∈ (["internal/bytealg.MaxLen", "internal/strconv.uint64pow10", "strconv.ErrSyntax", "strconv.ErrRange"] : List String)) => by simp only [List.mem_cons, List.not_mem_nil, or_false] at h; rcases h with rfl | rfl | rfl | rfl <;> simp) (phi_cons ok_impl_readNumbered (fun n (h : n ∈ (["internal/bytealg.MaxLen", "internal/strconv.uint64pow10", "strconv.ErrSyntax", "strconv.ErrRange"] : List String)) => by simp only [List.mem_cons, List.not_mem_nil, or_false] at h; rcases h with rfl | rfl | rfl | rfl <;> simp) (phi_nil))))))
theorem ok_impl_lineOf : FnOk Tryz.prog 30 spLineOfV := by
  refine fn_ok (Φ := Phi_impl_lineOf) (T := T_impl_lineOf) phi_impl_lineOf mixed Tryz.func30 rfl rfl rfl (by decide) ?_
  intro ins r outs hr hl
  clear hl
  have hs := spLineOfV_in hr
  clear hr
  obtain ⟨t, rfl, hc, hr, rfl⟩ := hs
  simp only [spLineOfV, Tryz.f30, Go.VM.initS]
  have l1 : t.length ≤ 1099511627776 := by omega
  have l2 : ([110, 111, 32] : List UInt8).length ≤ 1099511627776 := by decide
  have l3 : ([42, 32] : List UInt8).length ≤ 1099511627776 := by decide
  have l4 : (cutPrefix t [110, 111, 32]).length ≤ 4194304 := Nat.le_trans (cutP_len _ _) hc
  have l5 : (cutPrefix t [42, 32]).length ≤ 4194304 := Nat.le_trans (cutP_len _ _) hc
  have l6 : ([32] : List UInt8).length ≤ 4194304 := by decide
  have l7 : (cut2 (cutPrefix t [42, 32]) [32]).length ≤ 4194304 := Nat.le_trans (cut2_len _ _) l5
  cases c1 : (t == [111, 107]) with
  | true =>
    simp only [hc, l1, l2, l3, c1, go_sem]
    repeat' ((first | apply qa | apply qb | apply qc | apply qd | apply qe | apply qf | apply qg | apply qh | apply qi | apply qj | apply qk) <;> intro hp <;> simp only [hp, hc, l1, l2, l3, c1, go_sem])
    simp only [fin_mk, finV, resL, resV1, resIn, endA, listIn, Option.some_or, Option.none_or, oneOrTup, go_sem]
    rw [← hr]
    rw [lineOfV, if_pos c1]; rfl
  | false =>
  have n1 : ¬ (t == [111, 107]) = true := by rw [c1]; simp
  cases c2 : (t == [98, 121, 101]) with
  | true =>
    simp only [hc, l1, l2, l3, c1, c2, go_sem]
    repeat' ((first | apply qa | apply qb | apply qc | apply qd | apply qe | apply qf | apply qg | apply qh | apply qi | apply qj | apply qk) <;> intro hp <;> simp only [hp, hc, l1, l2, l3, c1, c2, go_sem])
    simp only [fin_mk, finV, resL, resV1, resIn, endA, listIn, Option.some_or, Option.none_or, oneOrTup, go_sem]
    rw [← hr]
    rw [lineOfV, if_neg n1, if_pos c2]; rfl
  | false =>
  have n2 : ¬ (t == [98, 121, 101]) = true := by rw [c2]; simp
  cases c3 : ([110, 111, 32] : List UInt8).isPrefixOf t with
  | true =>
    simp only [hc, l1, l2, l3, l4, c1, c2, c3, go_sem]
    repeat' ((first | apply qa | apply qb | apply qc | apply qd | apply qe | apply qf | apply qg | apply qh | apply qi | apply qj | apply qk) <;> intro hp <;> simp only [hp, hc, l1, l2, l3, l4, c1, c2, c3, go_sem])
    simp only [fin_mk, finV, resL, resV1, resIn, endA, listIn, Option.some_or, Option.none_or, oneOrTup, go_sem]
    rw [← hr]
    rw [lineOfV, if_neg n1, if_neg n2, if_pos c3]; rfl
  | false =>
  have n3 : ¬ ([110, 111, 32] : List UInt8).isPrefixOf t = true := by rw [c3]; simp
  cases c4 : ([42, 32] : List UInt8).isPrefixOf t with
  | false =>
    simp only [hc, l1, l2, l3, c1, c2, c3, c4, go_sem]
    repeat' ((first | apply qa | apply qb | apply qc | apply qd | apply qe | apply qf | apply qg | apply qh | apply qi | apply qj | apply qk) <;> intro hp <;> simp only [hp, hc, l1, l2, l3, c1, c2, c3, c4, go_sem])
    simp only [fin_mk, finV, resL, resV1, resIn, endA, listIn, Option.some_or, Option.none_or, oneOrTup, go_sem]
    rw [← hr]
    rw [lineOfV, if_neg n1, if_neg n2, if_neg n3, if_pos c4]; rfl
  | true =>
  have n4 : ¬ ([42, 32] : List UInt8).isPrefixOf t = false := by rw [c4]; simp
  cases c5 : (cutPrefix t [42, 32] == [115, 101, 97, 114, 99, 104]) with
  | true =>
    simp only [hc, l1, l2, l3, c1, c2, c3, c4, c5, go_sem]
    repeat' ((first | apply qa | apply qb | apply qc | apply qd | apply qe | apply qf | apply qg | apply qh | apply qi | apply qj | apply qk) <;> intro hp <;> simp only [hp, hc, l1, l2, l3, c1, c2, c3, c4, c5, go_sem])
    simp only [fin_mk, finV, resL, resV1, resIn, endA, listIn, Option.some_or, Option.none_or, oneOrTup, go_sem]
    rw [← hr]
    rw [lineOfV, if_neg n1, if_neg n2, if_neg n3, if_neg n4, if_pos c5]; rfl
  | false =>
  have n5 : ¬ (cutPrefix t [42, 32] == [115, 101, 97, 114, 99, 104]) = true := by rw [c5]; simp
  cases c6 : (cut1 (cutPrefix t [42, 32]) [32] == [115, 101, 97, 114, 99, 104]) with
  | true =>
    simp only [hc, l1, l2, l3, l5, l6, l7, c1, c2, c3, c4, c5, c6, go_sem]
    repeat' ((first | apply qa | apply qb | apply qc | apply qd | apply qe | apply qf | apply qg | apply qh | apply qi | apply qj | apply qk) <;> intro hp <;> simp only [hp, hc, l1, l2, l3, l5, l6, l7, c1, c2, c3, c4, c5, c6, go_sem])
    simp only [fin_mk, finV, resL, resV1, resIn, endA, listIn, Option.some_or, Option.none_or, oneOrTup, go_sem]
    rw [← hr]
    rw [lineOfV, if_neg n1, if_neg n2, if_neg n3, if_neg n4, if_neg n5, if_pos c6]; rfl
  | false =>
  have n6 : ¬ (cut1 (cutPrefix t [42, 32]) [32] == [115, 101, 97, 114, 99, 104]) = true := by rw [c6]; simp
  cases c7 : (cut1 (cutPrefix t [42, 32]) [32] == [118, 97, 110, 105, 115, 104, 101, 100]) with
  | true =>
    simp only [hc, l1, l2, l3, l5, l6, l7, c1, c2, c3, c4, c5, c6, c7, go_sem]
    repeat' ((first | apply qa | apply qb | apply qc | apply qd | apply qe | apply qf | apply qg | apply qh | apply qi | apply qj | apply qk) <;> intro hp <;> simp only [hp, hc, l1, l2, l3, l5, l6, l7, c1, c2, c3, c4, c5, c6, c7, go_sem])
    simp only [fin_mk, finV, resL, resV1, resIn, endA, listIn, Option.some_or, Option.none_or, oneOrTup, go_sem]
    rw [← hr]
    rw [lineOfV, if_neg n1, if_neg n2, if_neg n3, if_neg n4, if_neg n5, if_neg n6, if_pos c7]; rfl
  | false =>
  have n7 : ¬ (cut1 (cutPrefix t [42, 32]) [32] == [118, 97, 110, 105, 115, 104, 101, 100]) = true := by rw [c7]; simp
  cases c8 : (cut1 (cutPrefix t [42, 32]) [32] == [118, 97, 108, 105, 100]) with
  | true =>
    simp only [hc, l1, l2, l3, l5, l6, l7, c1, c2, c3, c4, c5, c6, c7, c8, go_sem]
    repeat' ((first | apply qa | apply qb | apply qc | apply qd | apply qe | apply qf | apply qg | apply qh | apply qi | apply qj | apply qk) <;> intro hp <;> simp only [hp, hc, l1, l2, l3, l5, l6, l7, c1, c2, c3, c4, c5, c6, c7, c8, go_sem])
    simp only [fin_mk, finV, resL, resV1, resIn, endA, listIn, Option.some_or, Option.none_or, oneOrTup, go_sem]
    rw [← hr]
    rw [lineOfV, if_neg n1, if_neg n2, if_neg n3, if_neg n4, if_neg n5, if_neg n6, if_neg n7, if_pos c8]; rfl
  | false =>
  have n8 : ¬ (cut1 (cutPrefix t [42, 32]) [32] == [118, 97, 108, 105, 100]) = true := by rw [c8]; simp
  simp only [hc, l1, l2, l3, l5, l6, l7, c1, c2, c3, c4, c5, c6, c7, c8, go_sem]
  repeat' ((first | apply qa | apply qb | apply qc | apply qd | apply qe | apply qf | apply qg | apply qh | apply qi | apply qj | apply qk) <;> intro hp <;> simp only [hp, hc, l1, l2, l3, l5, l6, l7, c1, c2, c3, c4, c5, c6, c7, c8, go_sem])
  simp only [fin_mk, finV, resL, resV1, resIn, endA, listIn, Option.some_or, Option.none_or, oneOrTup, go_sem]
  rw [← hr]
  rw [lineOfV, if_neg n1, if_neg n2, if_neg n3, if_neg n4, if_neg n5, if_neg n6, if_neg n7, if_neg n8]; rfl
open Classical in
noncomputable def spReadLineI : VM.Spec := { modes := [.rd], run := fun | [.str t] => if t.length ≤ 4194304 then some (.tup [Line.enc ((tellV (lineOfV t) t).1), .bool ((tellV (lineOfV t) t).2)], []) else none | _ => none, need := ["internal/bytealg.MaxLen", "internal/strconv.uint64pow10", "strconv.ErrSyntax", "strconv.ErrRange"] }
attribute [go_sem] spReadLineI
theorem spReadLineI_in {ins : List V} {r : V} {outs : List V} (h : spReadLineI.run ins = some (r, outs)) : ∃ (t : (List UInt8)), ins = [.str t] ∧ (t.length ≤ 4194304) ∧ .tup [Line.enc ((tellV (lineOfV t) t).1), .bool ((tellV (lineOfV t) t).2)] = r ∧ outs = [] := by
  unfold spReadLineI at h
  simp only at h
  split at h
  · rename_i t
    split at h
    case isFalse => cases h
    rename_i hc
    simp only [Option.some.injEq, Prod.mk.injEq] at h
    obtain ⟨h1, h2⟩ := h
    exact ⟨t, rfl, hc, h1, h2.symm⟩
  · cases h
def T_impl_ReadLine : Hints := ⟨lk [], lk [], lk [(0, [0, 2]), (1, [0, 2, 4]), (2, [0, 2, 4, 5, 6]), (3, [2, 4, 20]), (4, [2, 3]), (5, [2, 3])], lk []⟩
noncomputable def Phi_impl_ReadLine : Tab := lk [(30, spLineOfV), (7, spLineText)]
attribute [go_sem] T_impl_ReadLine Phi_impl_ReadLine
theorem phi_impl_ReadLine : ∀ f sp, Phi_impl_ReadLine f = some sp → FnOk Tryz.prog f sp ∧ ∀ n ∈ sp.need, n ∈ (["internal/bytealg.MaxLen", "internal/strconv.uint64pow10", "strconv.ErrSyntax", "strconv.ErrRange"] : List String) := phi_cons ok_impl_lineOf (fun n (h : n ∈ (["internal/bytealg.MaxLen", "internal/strconv.uint64pow10", "strconv.ErrSyntax", "strconv.ErrRange"] : List String)) => by simp only [List.mem_cons, List.not_mem_nil, or_false] at h; rcases h with rfl | rfl | rfl | rfl <;> simp) (phi_cons ok_impl_LineText (fun n (h : n ∈ (["internal/strconv.uint64pow10"] : List String)) => by simp only [List.mem_cons, List.not_mem_nil, or_false] at h; rcases h with rfl <;> simp) (phi_nil))
theorem ok_impl_ReadLine : FnOk Tryz.prog 8 spReadLineI := by
  refine fn_ok (Φ := Phi_impl_ReadLine) (T := T_impl_ReadLine) phi_impl_ReadLine mixed Tryz.func8 rfl rfl rfl (by decide) ?_
  intro ins r outs hr hl
  clear hl
  have hs := spReadLineI_in hr
  clear hr
  obtain ⟨t, rfl, hc, hr, rfl⟩ := hs
  simp only [spReadLineI, Tryz.f8, Go.VM.initS]
  have hx := lineOfV_le t
  cases c1 : lineOk (lineOfV t) with
  | false =>
    have e : tellV (lineOfV t) t = (lineNil, false) := by rw [tellV, if_neg (by rw [c1]; simp)]
    rw [e] at hr
    simp only [hc, hx, c1, go_sem]
    repeat' ((first | apply qa | apply qb | apply qc | apply qd | apply qe | apply qf | apply qg | apply qh | apply qi | apply qj | apply qk) <;> intro hp <;> simp only [hp, hc, hx, c1, go_sem])
    simp only [fin_mk, finV, resL, resV1, resIn, endA, listIn, Option.some_or, Option.none_or, oneOrTup, go_sem]
    rw [← hr]
    rfl
  | true =>
  cases c2 : (lineText (lineOfV t) == t) with
  | false =>
    have c2' : (lineText (lineOfV t) != t) = true := by rw [bne, c2]; rfl
    have e : tellV (lineOfV t) t = (lineNil, false) := by rw [tellV, if_neg (by rw [c2]; simp)]
    rw [e] at hr
    simp only [hc, hx, c1, c2', go_sem]
    repeat' ((first | apply qa | apply qb | apply qc | apply qd | apply qe | apply qf | apply qg | apply qh | apply qi | apply qj | apply qk) <;> intro hp <;> simp only [hp, hc, hx, c1, c2', go_sem])
    simp only [fin_mk, finV, resL, resV1, resIn, endA, listIn, Option.some_or, Option.none_or, oneOrTup, go_sem]
    rw [← hr]
    rfl
  | true =>
    have c2' : (lineText (lineOfV t) != t) = false := by rw [bne, c2]; rfl
    have e : tellV (lineOfV t) t = (lineOfV t, true) := by rw [tellV, if_pos ⟨c1, c2⟩]
    rw [e] at hr
    simp only [hc, hx, c1, c2', go_sem]
    repeat' ((first | apply qa | apply qb | apply qc | apply qd | apply qe | apply qf | apply qg | apply qh | apply qi | apply qj | apply qk) <;> intro hp <;> simp only [hp, hc, hx, c1, c2', go_sem])
    simp only [fin_mk, finV, resL, resV1, resIn, endA, listIn, Option.some_or, Option.none_or, oneOrTup, go_sem]
    rw [← hr]
    try rfl
end Go.Proofs.YtonjbbfgdloljaaGreatDoor.L

