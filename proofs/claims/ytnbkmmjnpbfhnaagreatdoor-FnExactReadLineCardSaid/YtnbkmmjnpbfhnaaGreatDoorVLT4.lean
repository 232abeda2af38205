/- Contracts of functions, and the facts that they need. No condition. -/
import Derived.Test.YtnbkmmjnpbfhnaaGreatDoorVLRdI

import Derived.Test.YtnbkmmjnpbfhnaaGreatDoorVLFl
import Derived.Test.YtnbkmmjnpbfhnaaGreatDoorVLWd



namespace Go.Proofs.YtnbkmmjnpbfhnaaGreatDoor.L
open Go Go.VM
set_option maxRecDepth 100000
set_option maxHeartbeats 4000000
set_option linter.unusedSimpArgs false
set_option linter.unusedVariables false
def flagKeyV (w : List UInt8) : Key := if 0 < bitN w then ⟨2, bitN w, []⟩ else if unB w = true then ⟨3, bitN (w.drop 2), []⟩ else ⟨0, 0, []⟩
theorem unB_cut (w : List UInt8) : unB w = (([117, 110] : List UInt8).isPrefixOf w && decide (0 < bitN (cutPrefix w [117, 110]))) := by
  match w with
  | [] => decide
  | [a] =>
    have : (([117, 110] : List UInt8).isPrefixOf [a]) = false := by simp [List.isPrefixOf]
    rw [this, unB]; simp
  | [a, b] =>
    have h0 : bitN [] = 0 := by decide
    have h1 : unB [a, b] = false := by simp [unB]
    rw [h1, cutPrefix]
    cases hp : ([117, 110] : List UInt8).isPrefixOf [a, b] with
    | false => rfl
    | true => rw [if_pos rfl]; simp [h0]
  | a :: b :: c :: r =>
    have hl : decide ((2 : Int) < (((a :: b :: c :: r).length : Nat) : Int)) = true := by simp; omega
    have hq : ((a :: b :: c :: r).take 2 == [117, 110]) = ([117, 110] : List UInt8).isPrefixOf (a :: b :: c :: r) := by
      rw [Bool.eq_iff_iff]
      simp only [List.take_succ_cons, List.take_zero, beq_iff_eq, List.isPrefixOf, Bool.and_true, Bool.and_eq_true, List.cons.injEq, and_true]
      exact ⟨fun h => ⟨h.1.symm, h.2.symm⟩, fun h => ⟨h.1.symm, h.2.symm⟩⟩
    rw [unB, hl, hq, cutPrefix, Bool.true_and]
    cases hp : ([117, 110] : List UInt8).isPrefixOf (a :: b :: c :: r) with
    | false => rfl
    | true => rw [if_pos rfl]; rfl
def wordKeyV (w m : List UInt8) : Key × Bool :=
  if (w == [115, 117, 98, 106, 101, 99, 116]) = true then (⟨4, 0, m⟩, within m.length 1 20) else
  if (w == [116, 101, 120, 116]) = true then (⟨5, 0, m⟩, within m.length 1 20) else
  if (w == [117, 105, 100]) = true then (⟨6, 0, m⟩, readOk m 9999) else
  if (w == [109, 111, 100, 115, 101, 113]) = true then (⟨7, decN m, []⟩, decB m && decide (decN m ≤ 100000)) else (⟨0, 0, []⟩, false)
theorem keyTwo_eq (w m : List UInt8) : keyTwo w m = if (wordKeyV w m).2 = true then some (wordKeyV w m).1 else none := by
  unfold keyTwo wordKeyV
  split
  · rfl
  split
  · rfl
  split
  · rfl
  split
  · simp only [Bool.and_eq_true, decide_eq_true_eq]
  · rfl
theorem keyOne_eq {w : List UInt8} (h : (w == [97, 108, 108]) = false) : keyOne w = if (flagKeyV w).Kind = 0 then none else some (flagKeyV w) := by
  unfold keyOne flagKeyV
  rw [if_neg (by rw [h]; simp)]
  split
  · rfl
  split
  · rfl
  · rfl
def keysI : Nat → List (List UInt8) → List Key → Option (List Key)
  | 0, _, _ => none
  | _ + 1, [], out => some out
  | f + 1, w :: r, out => match keyOne w with
    | some k => keysI f r (out ++ [k])
    | none => match r with
      | [] => none
      | m :: r' => match keyTwo w m with
        | some k => keysI f r' (out ++ [k])
        | none => none
theorem keysI_ge : ∀ (f : Nat) (ws : List (List UInt8)) (out ks : List Key), keysI f ws out = some ks → out.length ≤ ks.length
  | 0, _, _, _, h => by cases h
  | f + 1, [], out, ks, h => by simp only [keysI, Option.some.injEq] at h; rw [h]; exact Nat.le_refl _
  | f + 1, w :: r, out, ks, h => by
    simp only [keysI] at h
    split at h
    · have := keysI_ge f _ _ ks h
      simp at this; omega
    · split at h
      · cases h
      · split at h
        · have := keysI_ge f _ _ ks h
          simp at this; omega
        · cases h
def cap6 : Option (List Key) → Option (List Key)
  | some ks => if ks.length ≤ 6 then some ks else none
  | none => none
theorem cap6_gt {f : Nat} {ws : List (List UInt8)} {out : List Key} (h : 6 < out.length) : cap6 (keysI f ws out) = none := by
  cases hk : keysI f ws out with
  | none => rfl
  | some ks => rw [cap6, if_neg]; have := keysI_ge f ws out ks hk; omega
theorem keysL_cap : ∀ (f : Nat) (ws : List (List UInt8)) (out : List Key), ws.length < f → out.length ≤ 6 → keysL ws out = cap6 (keysI f ws out)
  | 0, _, _, h, _ => by omega
  | f + 1, [], out, _, h6 => by rw [keysL, keysI, cap6, if_pos h6]
  | f + 1, w :: r, out, h, h6 => by
    simp only [List.length_cons] at h
    simp only [keysI]
    cases h1 : keyOne w with
    | some k =>
      simp only
      by_cases hlt : out.length < 6
      · rw [keysL_one h1 hlt]
        exact keysL_cap f r _ (by omega) (by simp; omega)
      · rw [keysL_full h1 hlt, cap6_gt (by simp; omega)]
    | none =>
      cases r with
      | nil => rw [keysL_end h1]; rfl
      | cons m r =>
        simp only [List.length_cons] at h
        simp only
        cases h2 : keyTwo w m with
        | none => rw [keysL_two_full h1 (.inl h2)]; rfl
        | some k =>
          simp only
          by_cases hlt : out.length < 6
          · rw [keysL_two h1 h2 hlt]
            exact keysL_cap f r _ (by omega) (by simp; omega)
          · rw [keysL_two_full h1 (.inr hlt), cap6_gt (by simp; omega)]
theorem readKeys_i {ws : List (List UInt8)} {f : Nat} (h : ws.length < f) : readKeys ws = match keysI f ws [] with
    | some ks => if 1 ≤ ks.length ∧ ks.length ≤ 6 then (ks, true) else ([], false)
    | none => ([], false) := by
  rw [readKeys, keysL_cap f ws [] h (by simp)]
  cases hk : keysI f ws [] with
  | none => rfl
  | some ks =>
    simp only [cap6]
    by_cases h6 : ks.length ≤ 6
    · rw [if_pos h6]
      by_cases h0 : 1 ≤ ks.length
      · rw [if_pos ⟨h0, h6⟩]; simp; omega
      · have : ks = [] := List.eq_nil_of_length_eq_zero (by omega)
        subst this; rfl
    · rw [if_neg h6, if_neg (by omega)]
def T_impl_flagOf : Hints := ⟨lk [], lk [(2, [0, 5, 6, 7])], lk [(0, [0]), (1, [0, 5, 6, 7]), (2, [0, 5, 6, 7, 8]), (3, [0, 3, 4, 5, 6, 7]), (4, [0, 3, 5, 6, 7, 14]), (5, [2]), (6, [0, 5, 6, 7]), (7, [2])], lk []⟩
noncomputable def Phi_impl_flagOf : Tab := lk [(61, spFlagNames)]
attribute [go_sem] T_impl_flagOf Phi_impl_flagOf
theorem phi_impl_flagOf : ∀ f sp, Phi_impl_flagOf f = some sp → FnOk Tryz.prog f sp ∧ ∀ n ∈ sp.need, n ∈ ([] : List String) := phi_cons ok_impl_flagNames (n0 rfl) (phi_nil)
theorem ok_impl_flagOf : FnOk Tryz.prog 70 spBit := by
  refine fn_ok (Φ := Phi_impl_flagOf) (T := T_impl_flagOf) phi_impl_flagOf mixed Tryz.func70 rfl rfl rfl (by decide) ?_
  intro ins r outs hr hl
  clear hl
  have hs := spBit_in hr
  clear hr
  obtain ⟨w, rfl, hc, hr, rfl⟩ := hs
  simp only [spBit, Tryz.f70, Go.VM.initS]
  simp only [go_sem]
  repeat' ((first | apply qa | apply qb | apply qc | apply qd | apply qe | apply qf | apply qg | apply qh | apply qi | apply qj | apply qk) <;> intro hp <;> simp only [hp, go_sem])
  refine loop_go (fun i : Nat => [(7, .int .i64 (i : Int))]) (fun _ => []) (fun i => 5 - i) (fun i => i ≤ 5 ∧ bitF (5 - i) i w = bitN w) 0 ⟨by omega, rfl⟩ rfl rfl ?_
  rintro i ⟨hi, he⟩ ih
  rcases Nat.lt_or_ge i 5 with h | h
  · have hfl : flagNames.length = 5 := rfl
    have g1 : (i : Int) < flagNames.length := by omega
    have g2 : (0 : Int) ≤ i := by omega
    have g3 : flagNames[i]? = some (flagNames.getD i []) := flag_names ⟨i, h⟩
    have g5 := wrap_succ h (by omega)
    have hp : 2 ^ i ≤ 2 ^ 4 := Nat.pow_le_pow_right (by omega) (by omega)
    have g7 : ¬ (i : Int) < 0 := by omega
    have g6 : IntKind.i64.wrap (1 * 2 ^ (min i 64)) = ((2 ^ i : Nat) : Int) := by
      rw [Nat.min_eq_left (show i ≤ 64 by omega), Int.one_mul]
      have : (2 : Int) ^ i = ((2 ^ i : Nat) : Int) := by push_cast; rfl
      have hw : ∀ q : Nat, q ≤ 16 → IntKind.i64.wrap (q : Int) = q := fun q hq => wrap64 (by omega) (by omega)
      rw [this]
      exact hw _ (Nat.le_trans hp (by decide))
    rw [show 5 - i = (5 - (i + 1)) + 1 by omega, bitF] at he
    generalize flagNames.getD i [] = nm at *
    generalize flagNames = NM at *
    cases hq : (nm == w) with
    | true =>
      rw [if_pos hq] at he
      rw [← he] at hr
      simp only [g1, g2, g3, g5, g6, g7, hq, go_sem]
      repeat' ((first | apply qa | apply qb | apply qc | apply qd | apply qe | apply qf | apply qg | apply qh | apply qi | apply qj | apply qk) <;> intro hp <;> simp only [hp, g1, g2, g3, g5, g6, g7, hq, go_sem])
      simp only [fin_mk, finV, resL, resV1, resIn, endA, listIn, Option.some_or, Option.none_or, oneOrTup, go_sem]
      rw [← hr]
    | false =>
      rw [if_neg (by rw [hq]; simp)] at he
      simp only [g1, g2, g3, g5, hq, go_sem]
      repeat' ((first | apply qa | apply qb | apply qc | apply qd | apply qe | apply qf | apply qg | apply qh | apply qi | apply qj | apply qk) <;> intro hp <;> simp only [hp, g1, g2, g3, g5, hq, go_sem])
      exact ih (i + 1) ⟨h, he⟩ (by omega)
  · have h5 : i = 5 := by omega
    subst h5
    have g1 : ¬ ((5 : Nat) : Int) < flagNames.length := by decide
    have he' : (0 : Int) = bitN w := he
    rw [← he'] at hr
    generalize flagNames = NM at *
    simp only [g1, go_sem]
    repeat' ((first | apply qa | apply qb | apply qc | apply qd | apply qe | apply qf | apply qg | apply qh | apply qi | apply qj | apply qk) <;> intro hp <;> simp only [hp, g1, go_sem])
    simp only [fin_mk, finV, resL, resV1, resIn, endA, listIn, Option.some_or, Option.none_or, oneOrTup, go_sem]
    rw [← hr]
open Classical in
noncomputable def spFlagKey : VM.Spec := { modes := [.rd], run := fun | [.str w] => if w.length ≤ 4194304 then some (Key.enc (flagKeyV w), []) else none | _ => none, need := [] }
attribute [go_sem] spFlagKey
theorem spFlagKey_in {ins : List V} {r : V} {outs : List V} (h : spFlagKey.run ins = some (r, outs)) : ∃ (w : (List UInt8)), ins = [.str w] ∧ (w.length ≤ 4194304) ∧ Key.enc (flagKeyV w) = r ∧ outs = [] := by
  unfold spFlagKey at h
  simp only at h
  split at h
  · rename_i w
    split at h
    case isFalse => cases h
    rename_i hc
    simp only [Option.some.injEq, Prod.mk.injEq] at h
    obtain ⟨h1, h2⟩ := h
    exact ⟨w, rfl, hc, h1, h2.symm⟩
  · cases h
open Classical in
noncomputable def spWordKey : VM.Spec := { modes := [.rd, .rd], run := fun | [.str w, .str m] => if w.length ≤ 4194304 ∧ m.length ≤ 4194304 then some (.tup [Key.enc ((wordKeyV w m).1), .bool ((wordKeyV w m).2)], []) else none | _ => none, need := ["internal/bytealg.MaxLen", "internal/strconv.uint64pow10", "strconv.ErrSyntax", "strconv.ErrRange"] }
attribute [go_sem] spWordKey
theorem spWordKey_in {ins : List V} {r : V} {outs : List V} (h : spWordKey.run ins = some (r, outs)) : ∃ (w : (List UInt8)) (m : (List UInt8)), ins = [.str w, .str m] ∧ (w.length ≤ 4194304 ∧ m.length ≤ 4194304) ∧ .tup [Key.enc ((wordKeyV w m).1), .bool ((wordKeyV w m).2)] = r ∧ outs = [] := by
  unfold spWordKey at h
  simp only at h
  split at h
  · rename_i w m
    split at h
    case isFalse => cases h
    rename_i hc
    simp only [Option.some.injEq, Prod.mk.injEq] at h
    obtain ⟨h1, h2⟩ := h
    exact ⟨w, m, rfl, hc, h1, h2.symm⟩
  · cases h
open Classical in
noncomputable def spReadKeysI : VM.Spec := { modes := [.rd], run := fun | [.lst 1 ws'] => (decL dStr ws').bind fun ws => if ws.length ≤ 4194304 ∧ ∀ w ∈ ws, w.length ≤ 4194304 then some (.tup [.lst 3 (((readKeys ws).1).map Key.enc), .bool ((readKeys ws).2)], []) else none | _ => none, need := ["internal/bytealg.MaxLen", "internal/strconv.uint64pow10", "strconv.ErrSyntax", "strconv.ErrRange"] }
attribute [go_sem] spReadKeysI
theorem spReadKeysI_in {ins : List V} {r : V} {outs : List V} (h : spReadKeysI.run ins = some (r, outs)) : ∃ (ws : (List (List UInt8))), ins = [.lst 1 ((ws).map eStr)] ∧ (ws.length ≤ 4194304 ∧ ∀ w ∈ ws, w.length ≤ 4194304) ∧ .tup [.lst 3 (((readKeys ws).1).map Key.enc), .bool ((readKeys ws).2)] = r ∧ outs = [] := by
  unfold spReadKeysI at h
  simp only at h
  split at h
  · rename_i ws'
    simp only [Option.bind_eq_some_iff] at h
    obtain ⟨ws, h_ws, h⟩ := h
    split at h
    case isFalse => cases h
    rename_i hc
    simp only [Option.some.injEq, Prod.mk.injEq] at h
    obtain ⟨h1, h2⟩ := h
    have h_ws := decL_some (fun _ _ h => dStr_some h) h_ws
    subst h_ws
    exact ⟨ws, rfl, hc, h1, h2.symm⟩
  · cases h
end Go.Proofs.YtnbkmmjnpbfhnaaGreatDoor.L

namespace Go.Proofs.YtnbkmmjnpbfhnaaGreatDoor.L
open Go Go.VM
set_option maxRecDepth 100000
set_option maxHeartbeats 4000000
set_option linter.unusedSimpArgs false
set_option linter.unusedVariables false
def setB (b k : Int) : Bool := (b.tdiv k).tmod 2 == 1
def flagsGo : List (List UInt8) → Int → Option Int
  | [], b => some b
  | w :: r, b => if (bitN w == 0) = true then none else if setB b (bitN w) = true then none else flagsGo r (b + bitN w)
def fitsF (t : List UInt8) : Bool := ([40] : List UInt8).isPrefixOf t && sufB (cutPrefix t [40]) [41]
def inn (t : List UInt8) : List UInt8 := cutSuf (cutPrefix t [40]) [41]
def readFl (t : List UInt8) : Option Int := if fitsF t = true then (if (inn t == []) = true then some 0 else flagsGo ((splitOn 32 (inn t)).map lowS) 0) else none
theorem bitF_pow : ∀ (f i : Nat) (w : List UInt8), bitF f i w = 0 ∨ ∃ j, i ≤ j ∧ j < i + f ∧ bitF f i w = ((2 ^ j : Nat) : Int)
  | 0, _, _ => .inl rfl
  | f + 1, i, w => by
    rw [bitF]
    split
    · exact .inr ⟨i, Nat.le_refl _, by omega, rfl⟩
    · rcases bitF_pow f (i + 1) w with h | ⟨j, h1, h2, h3⟩
      · exact .inl h
      · exact .inr ⟨j, by omega, by omega, h3⟩
theorem bitN_pow (w : List UInt8) : bitN w = 0 ∨ ∃ j : Fin 5, bitN w = ((2 ^ j.val : Nat) : Int) := by
  rcases bitF_pow 5 0 w with h | ⟨j, _, h2, h3⟩
  · exact .inl h
  · exact .inr ⟨⟨j, by omega⟩, h3⟩
theorem flag_tab : ∀ (a : Fin 32) (j : Fin 5), (IntKind.i64.wrap (BitVec.ofInt 64 ((a.val : Nat) : Int) &&& BitVec.ofInt 64 ((2 ^ j.val : Nat) : Int)).toNat != 0) = setB ((a.val : Nat) : Int) ((2 ^ j.val : Nat) : Int) ∧
    (setB ((a.val : Nat) : Int) ((2 ^ j.val : Nat) : Int) = false → ((a.val : Nat) : Int) + ((2 ^ j.val : Nat) : Int) ≤ 31 ∧ IntKind.i64.wrap (BitVec.ofInt 64 ((a.val : Nat) : Int) ||| BitVec.ofInt 64 ((2 ^ j.val : Nat) : Int)).toNat = ((a.val : Nat) : Int) + ((2 ^ j.val : Nat) : Int)) := by decide +kernel
theorem flag_step {b : Int} (h0 : 0 ≤ b) (h1 : b ≤ 31) {w : List UInt8} (hw : (bitN w == 0) = false) : (IntKind.i64.wrap (BitVec.ofInt 64 b &&& BitVec.ofInt 64 (bitN w)).toNat != 0) = setB b (bitN w) ∧
    (setB b (bitN w) = false → b + bitN w ≤ 31 ∧ IntKind.i64.wrap (BitVec.ofInt 64 b ||| BitVec.ofInt 64 (bitN w)).toNat = b + bitN w) := by
  obtain ⟨n, rfl⟩ : ∃ n : Nat, b = n := ⟨b.toNat, by omega⟩
  rcases bitN_pow w with h | ⟨j, h⟩
  · rw [h] at hw; cases hw
  · rw [h]; exact flag_tab ⟨n, by omega⟩ j
open Classical in
noncomputable def spReadFlags : VM.Spec := { modes := [.rd], run := fun | [.str t] => if t.length ≤ 4194304 then some (.tup [.int .i64 ((readFl t).getD 0), .bool ((readFl t).isSome)], []) else none | _ => none, need := ["internal/bytealg.MaxLen"] }
attribute [go_sem] spReadFlags
theorem spReadFlags_in {ins : List V} {r : V} {outs : List V} (h : spReadFlags.run ins = some (r, outs)) : ∃ (t : (List UInt8)), ins = [.str t] ∧ (t.length ≤ 4194304) ∧ .tup [.int .i64 ((readFl t).getD 0), .bool ((readFl t).isSome)] = r ∧ outs = [] := by
  unfold spReadFlags at h
  simp only at h
  split at h
  · rename_i t
    split at h
    case isFalse => cases h
    rename_i hc
    simp only [Option.some.injEq, Prod.mk.injEq] at h
    obtain ⟨h1, h2⟩ := h
    exact ⟨t, rfl, hc, h1, h2.symm⟩
  · cases h
def T_impl_ReadFlags : Hints := ⟨lk [], lk [(9, [8, 31, 32, 33])], lk [(0, [0]), (1, [4, 5]), (2, [5, 6, 7]), (3, [6, 27]), (4, [2, 3]), (5, [6, 8]), (6, [6, 8, 29]), (7, [2, 3]), (8, [8, 31, 32, 33]), (9, [8, 31, 32, 33, 34]), (10, [8, 10, 31, 32, 33]), (11, [8, 11, 31, 32, 33]), (12, [8, 11, 31, 32, 33, 47]), (13, [2, 3]), (14, [8, 31, 32, 33]), (15, [8, 31, 32, 33]), (16, [2, 3])], lk []⟩
noncomputable def Phi_impl_ReadFlags : Tab := lk [(24, spCutPrefix), (54, spCutSuffix), (49, spSplit), (71, spLow), (70, spBit)]
attribute [go_sem] T_impl_ReadFlags Phi_impl_ReadFlags
theorem phi_impl_ReadFlags : ∀ f sp, Phi_impl_ReadFlags f = some sp → FnOk Tryz.prog f sp ∧ ∀ n ∈ sp.need, n ∈ (["internal/bytealg.MaxLen"] : List String) := phi_cons ok_strings_CutPrefix (n0 rfl) (phi_cons ok_strings_CutSuffix (n0 rfl) (phi_cons ok_strings_Split (fun n (h : n ∈ (["internal/bytealg.MaxLen"] : List String)) => by simp only [List.mem_cons, List.not_mem_nil, or_false] at h; rcases h with rfl <;> simp) (phi_cons ok_impl_lower (n0 rfl) (phi_cons ok_impl_flagOf (n0 rfl) (phi_nil)))))
theorem ok_impl_ReadFlags : FnOk Tryz.prog 55 spReadFlags := by
  refine fn_ok (Φ := Phi_impl_ReadFlags) (T := T_impl_ReadFlags) phi_impl_ReadFlags mixed Tryz.func55 rfl rfl rfl (by decide) ?_
  intro ins r outs hr hl
  clear hl
  have hs := spReadFlags_in hr
  clear hr
  obtain ⟨t, rfl, hc, hr, rfl⟩ := hs
  simp only [spReadFlags, Tryz.f55, Go.VM.initS]
  have l1 : t.length ≤ 1099511627776 := by omega
  have l2 : ([40] : List UInt8).length ≤ 1099511627776 := by decide
  have l3 : ([41] : List UInt8).length ≤ 1099511627776 := by decide
  have l4 : (cutPrefix t [40]).length ≤ t.length := by
    unfold cutPrefix; split
    · rw [List.length_drop]; omega
    · exact Nat.le_refl _
  have l5 : (cutPrefix t [40]).length ≤ 1099511627776 := by omega
  have l6 : (inn t).length ≤ 4194304 := Nat.le_trans (cutSuf_len _ _) (by omega)
  cases c1 : ([40] : List UInt8).isPrefixOf t with
  | false =>
    have e : readFl t = none := by rw [readFl, fitsF, c1]; rfl
    rw [e] at hr
    simp only [l1, l2, l3, l5, c1, go_sem]
    repeat' ((first | apply qa | apply qb | apply qc | apply qd | apply qe | apply qf | apply qg | apply qh | apply qi | apply qj | apply qk) <;> intro hp <;> simp only [hp, l1, l2, l3, l5, c1, go_sem])
    simp only [fin_mk, finV, resL, resV1, resIn, endA, listIn, Option.some_or, Option.none_or, oneOrTup, go_sem]
    rw [← hr]
    rfl
  | true =>
  cases c2 : sufB (cutPrefix t [40]) [41] with
  | false =>
    have e : readFl t = none := by rw [readFl, fitsF, c1, c2]; rfl
    rw [e] at hr
    simp only [l1, l2, l3, l5, c1, c2, go_sem]
    repeat' ((first | apply qa | apply qb | apply qc | apply qd | apply qe | apply qf | apply qg | apply qh | apply qi | apply qj | apply qk) <;> intro hp <;> simp only [hp, l1, l2, l3, l5, c1, c2, go_sem])
    simp only [fin_mk, finV, resL, resV1, resIn, endA, listIn, Option.some_or, Option.none_or, oneOrTup, go_sem]
    rw [← hr]
    rfl
  | true =>
  have hf : fitsF t = true := by rw [fitsF, c1, c2]; rfl
  cases c3 : (inn t == []) with
  | true =>
    have e : readFl t = some 0 := by rw [readFl, if_pos hf, if_pos c3]
    have c3' : (cutSuf (cutPrefix t [40]) [41] == []) = true := c3
    rw [e] at hr
    simp only [l1, l2, l3, l5, c1, c2, c3', go_sem]
    repeat' ((first | apply qa | apply qb | apply qc | apply qd | apply qe | apply qf | apply qg | apply qh | apply qi | apply qj | apply qk) <;> intro hp <;> simp only [hp, l1, l2, l3, l5, c1, c2, c3', go_sem])
    simp only [fin_mk, finV, resL, resV1, resIn, endA, listIn, Option.some_or, Option.none_or, oneOrTup, go_sem]
    rw [← hr]
    rfl
  | false =>
  have c3' : (cutSuf (cutPrefix t [40]) [41] == []) = false := c3
  have e : readFl t = flagsGo ((splitOn 32 (inn t)).map lowS) 0 := by rw [readFl, if_pos hf, if_neg (by rw [c3]; simp)]
  have hS := split_eq 32 (inn t)
  have l6' : (cutSuf (cutPrefix t [40]) [41]).length ≤ 4194304 := l6
  have l7 : (cutSuf (cutPrefix t [40]) [41]).length < 4294967281 := by omega
  have hS' : Lib.splitK [32] 0 (Lib.count (cutSuf (cutPrefix t [40]) [41]) [32]) (cutSuf (cutPrefix t [40]) [41]) = splitOn 32 (inn t) := hS
  have hlen := splitOn_len 32 (inn t)
  have hmem := splitOn_mem 32 (inn t)
  generalize hSS : splitOn 32 (inn t) = S at *
  simp only [l1, l2, l3, l5, l6', l7, c1, c2, c3', hS', go_sem]
  repeat' ((first | apply qa | apply qb | apply qc | apply qd | apply qe | apply qf | apply qg | apply qh | apply qi | apply qj | apply qk) <;> intro hp <;> simp only [hp, l1, l2, l3, l5, l6', l7, c1, c2, c3', hS', go_sem])
  refine loop_go (fun p : Nat × Int => [(8, .int .i64 p.2), (33, .int .i64 (p.1 : Int))]) (fun _ => []) (fun p => S.length - p.1) (fun p => p.1 ≤ S.length ∧ 0 ≤ p.2 ∧ p.2 ≤ 31 ∧ flagsGo ((S.drop p.1).map lowS) p.2 = readFl t) (0, 0) ⟨Nat.zero_le _, Int.le_refl _, by decide, by rw [e]; rfl⟩ rfl rfl ?_
  rintro ⟨i, b⟩ ⟨hi, b0, b1, he⟩ ih
  simp only at hi b0 b1 he ih
  rcases Nat.lt_or_ge i S.length with h | h
  · have g1 : (i : Int) < S.length := by omega
    have g2 : (0 : Int) ≤ i := by omega
    have g3 : S[i]? = some S[i] := List.getElem?_eq_getElem h
    have g5 := wrap_succ h (by omega)
    have w1 : S[i].length ≤ 4194304 := Nat.le_trans (hmem _ (List.getElem_mem h)) l6
    have w2 : S[i].length ≤ 1099511627776 := by omega
    have w3 : (lowS S[i]).length ≤ 4194304 := by rw [lowS_len]; exact w1
    have hd : S.drop i = S[i] :: S.drop (i + 1) := List.drop_eq_getElem_cons h
    rw [hd, List.map_cons, flagsGo] at he
    cases q : (bitN (lowS S[i]) == 0) with
    | true =>
      rw [if_pos q] at he
      rw [← he] at hr
      clear ih
      simp only [g1, g2, g3, g5, w1, w2, w3, q, go_sem]
      repeat' ((first | apply qa | apply qb | apply qc | apply qd | apply qe | apply qf | apply qg | apply qh | apply qi | apply qj | apply qk) <;> intro hp <;> simp only [hp, g1, g2, g3, g5, w1, w2, w3, q, go_sem])
      simp only [fin_mk, finV, resL, resV1, resIn, endA, listIn, Option.some_or, Option.none_or, oneOrTup, go_sem]
      rw [← hr]
      rfl
    | false =>
      rw [if_neg (by rw [q]; simp)] at he
      obtain ⟨f1, f2⟩ := flag_step b0 b1 q
      cases s : setB b (bitN (lowS S[i])) with
      | true =>
        rw [if_pos s] at he
        rw [← he] at hr
        rw [s] at f1
        clear ih
        simp only [g1, g2, g3, g5, w1, w2, w3, q, go_sem]
        repeat' ((first | apply qa | apply qb | apply qc | apply qd | apply qe | apply qf | apply qg | apply qh | apply qi | apply qj | apply qk) <;> intro hp <;> simp only [hp, g1, g2, g3, g5, w1, w2, w3, q, go_sem])
        · simp only [fin_mk, finV, resL, resV1, resIn, endA, listIn, Option.some_or, Option.none_or, oneOrTup, go_sem]
          rw [← hr]
          rfl
        · have f1' : (IntKind.i64.wrap (BitVec.ofInt 64 b &&& BitVec.ofInt 64 (bitN (lowS S[i]))).toNat == 0) = false := by
            rw [bne] at f1; simpa using f1
          exact absurd (hp.symm.trans f1') (by decide)
      | false =>
        rw [if_neg (by rw [s]; simp)] at he
        rw [s] at f1
        obtain ⟨f3, f4⟩ := f2 s
        have hb := bitN_in (lowS S[i])
        have ih' := ih (i + 1, IntKind.i64.wrap (BitVec.ofInt 64 b ||| BitVec.ofInt 64 (bitN (lowS S[i]))).toNat) ⟨h, by simp only; rw [f4]; omega, by simp only; rw [f4]; omega, by simp only; rw [f4]; exact he⟩ (by simp only; omega)
        clear ih
        simp only [g1, g2, g3, g5, w1, w2, w3, q, go_sem]
        repeat' ((first | apply qa | apply qb | apply qc | apply qd | apply qe | apply qf | apply qg | apply qh | apply qi | apply qj | apply qk) <;> intro hp <;> simp only [hp, g1, g2, g3, g5, w1, w2, w3, q, go_sem])
        · have f1' : (IntKind.i64.wrap (BitVec.ofInt 64 b &&& BitVec.ofInt 64 (bitN (lowS S[i]))).toNat == 0) = true := by
            rw [bne] at f1; simpa using f1
          exact absurd (hp.symm.trans f1') (by decide)
        · exact ih'
  · have g1 : ¬ (i : Int) < S.length := by omega
    rw [List.drop_of_length_le h] at he
    have he' : some b = readFl t := he
    rw [← he'] at hr
    clear ih
    simp only [g1, go_sem]
    repeat' ((first | apply qa | apply qb | apply qc | apply qd | apply qe | apply qf | apply qg | apply qh | apply qi | apply qj | apply qk) <;> intro hp <;> simp only [hp, g1, go_sem])
    simp only [fin_mk, finV, resL, resV1, resIn, endA, listIn, Option.some_or, Option.none_or, oneOrTup, go_sem]
    rw [← hr]
    rfl
theorem flag_tab2 : ∀ (a : Fin 32) (j : Fin 5), IntKind.i64.wrap (((a.val : Nat) : Int).tdiv ((2 ^ j.val : Nat) : Int)) = ((a.val : Nat) : Int).tdiv ((2 ^ j.val : Nat) : Int) := by decide +kernel
theorem flag_div {b : Int} (h0 : 0 ≤ b) (h1 : b ≤ 31) {w : List UInt8} (hw : (bitN w == 0) = false) : IntKind.i64.wrap (b.tdiv (bitN w)) = b.tdiv (bitN w) := by
  obtain ⟨n, rfl⟩ : ∃ n : Nat, b = n := ⟨b.toNat, by omega⟩
  rcases bitN_pow w with h | ⟨j, h⟩
  · rw [h] at hw; cases hw
  · rw [h]; exact flag_tab2 ⟨n, by omega⟩ j
theorem low1_32 (b : UInt8) : (low1 b = 32) ↔ (b = 32) := by
  have key : ∀ i : Fin 256, (low1 (UInt8.ofNat i.val) = 32) ↔ (UInt8.ofNat i.val = 32) := by decide +kernel
  have := key ⟨b.toNat, b.toNat_lt⟩
  simpa using this
theorem split_low (s : List UInt8) : splitOn 32 (lowS s) = (splitOn 32 s).map lowS := by
  induction s with
  | nil => rfl
  | cons b s ih =>
    have e : lowS (b :: s) = low1 b :: lowS s := rfl
    rw [e, splitOn, splitOn]
    by_cases hb : b = 32
    · rw [if_pos ((low1_32 b).2 hb), if_pos hb, ih]; rfl
    · rw [if_neg (fun h => hb ((low1_32 b).1 h)), if_neg hb, ih]
      cases splitOn 32 s with
      | nil => rfl
      | cons h t => rfl
theorem flagsGo_app : ∀ (a r : List (List UInt8)) (b : Int), flagsGo (a ++ r) b = (flagsGo a b).bind (flagsGo r)
  | [], r, b => rfl
  | w :: a, r, b => by
    rw [List.cons_append, flagsGo, flagsGo]
    split
    · rfl
    split
    · rfl
    exact flagsGo_app a r _
theorem fits_at {t : List UInt8} (h : 2 ≤ t.length) : fitsF t = ((t[0] == 40) && (t[t.length - 1] == 41)) ∧ (fitsF t = true → inn t = (t.take (t.length - 1)).drop 1) := by
  match t, h with
  | c :: d :: r, _ =>
    have hp : ([40] : List UInt8).isPrefixOf (c :: d :: r) = (c == 40) := by
      simp only [List.isPrefixOf, Bool.and_true]
      rw [Bool.eq_iff_iff, beq_iff_eq, beq_iff_eq]; exact eq_comm
    cases hc : (c == 40) with
    | false =>
      have hf : fitsF (c :: d :: r) = false := by rw [fitsF, hp, hc]; rfl
      refine ⟨?_, fun e => by rw [hf] at e; cases e⟩
      rw [hf]
      have : (c :: d :: r)[0] = c := rfl
      rw [this, hc]; rfl
    | true =>
      rw [hc] at hp
      have hcut : cutPrefix (c :: d :: r) [40] = d :: r := by rw [cutPrefix, if_pos hp]; rfl
      have hs : sufB (d :: r) [41] = ((d :: r)[r.length] == 41) := by
        have e1 : (d :: r).drop ((d :: r).length - 1) = [(d :: r)[r.length]] := by
          have : (d :: r).length - 1 = r.length := by simp
          rw [this, List.drop_eq_getElem_cons (by simp), List.drop_of_length_le (by simp)]
        rw [sufB, show ([41] : List UInt8).length = 1 from rfl, e1, decide_eq_true (by simp), Bool.true_and]
        rw [Bool.eq_iff_iff, beq_iff_eq, beq_iff_eq]; simp
      have hf : fitsF (c :: d :: r) = ((d :: r)[r.length] == 41) := by rw [fitsF, hp, hcut, hs, Bool.true_and]
      refine ⟨?_, fun e => ?_⟩
      · rw [hf]
        have e0 : (c :: d :: r)[0] = c := rfl
        have e1 : (c :: d :: r)[(c :: d :: r).length - 1] = (d :: r)[r.length] := by simp
        rw [e0, hc, Bool.true_and, e1]
      · rw [hf] at e
        rw [inn, hcut, cutSuf, if_pos (by rw [hs]; exact e)]
        simp
theorem fits_short {t : List UInt8} (h : ¬ 2 ≤ t.length) : fitsF t = false := by
  match t, h with
  | [], _ => rfl
  | [c], _ =>
    rw [fitsF]
    cases hp : ([40] : List UInt8).isPrefixOf [c] with
    | false => rfl
    | true => rw [cutPrefix, if_pos hp]; rfl
  | _ :: _ :: _, h => simp at h
def T_spec_ReadFlags : Hints := ⟨lk [], lk [(7, [4, 5, 6, 7])], lk [(0, [0]), (1, [0, 24]), (2, [2, 3]), (3, [4]), (4, [4, 5]), (5, [4, 5, 6]), (6, [4, 5, 6, 7]), (7, [4, 5, 6, 7, 38]), (9, [4, 5, 6, 7, 50]), (10, [4, 5, 7, 8]), (11, [4, 5, 7, 8, 64]), (12, [2, 3]), (13, [4, 5, 7]), (14, [4, 5, 6, 7]), (8, [4, 5, 6, 7]), (15, [2, 3])], lk []⟩
noncomputable def Phi_spec_ReadFlags : Tab := lk [(38, spLow), (39, spBit)]
attribute [go_sem] T_spec_ReadFlags Phi_spec_ReadFlags
theorem phi_spec_ReadFlags : ∀ f sp, Phi_spec_ReadFlags f = some sp → FnOk Tryz.prog f sp ∧ ∀ n ∈ sp.need, n ∈ (["internal/bytealg.MaxLen"] : List String) := phi_cons ok_spec_l06Low (n0 rfl) (phi_cons ok_spec_l06Bit (n0 rfl) (phi_nil))
theorem ok_spec_ReadFlags : FnOk Tryz.prog 19 spReadFlags := by
  refine fn_ok (Φ := Phi_spec_ReadFlags) (T := T_spec_ReadFlags) phi_spec_ReadFlags mixed Tryz.func19 rfl rfl rfl (by decide) ?_
  intro ins r outs hr hl
  clear hl
  have hs := spReadFlags_in hr
  clear hr
  obtain ⟨t, rfl, hc, hr, rfl⟩ := hs
  simp only [spReadFlags, Tryz.f19, Go.VM.initS]
  by_cases hl2 : 2 ≤ t.length
  case neg =>
    have e : readFl t = none := by rw [readFl, fits_short hl2]; rfl
    have g : ((t.length : Nat) : Int) < 2 := by omega
    rw [e] at hr
    simp only [g, go_sem]
    repeat' ((first | apply qa | apply qb | apply qc | apply qd | apply qe | apply qf | apply qg | apply qh | apply qi | apply qj | apply qk) <;> intro hp <;> simp only [hp, g, go_sem])
    simp only [fin_mk, finV, resL, resV1, resIn, endA, listIn, Option.some_or, Option.none_or, oneOrTup, go_sem]
    rw [← hr]
    rfl
  obtain ⟨f1, f2⟩ := fits_at hl2
  have g : ¬ ((t.length : Nat) : Int) < 2 := by omega
  have t0 : t[0]? = some t[0] := List.getElem?_eq_getElem (by omega)
  have t1 : t[t.length - 1]? = some t[t.length - 1] := List.getElem?_eq_getElem (by omega)
  have w1 : IntKind.i64.wrap ((t.length : Int) - 1) = ((t.length - 1 : Nat) : Int) := (wrap64 (by omega) (by omega)).trans (by omega)
  have v1 : (0 : Int) ≤ ((t.length - 1 : Nat) : Int) := by omega
  have v2 : ((t.length - 1 : Nat) : Int) < t.length := by omega
  have v3 : ((t.length - 1 : Nat) : Int) ≤ t.length := by omega
  have v4 : (1 : Int) ≤ ((t.length - 1 : Nat) : Int) := by omega
  have v5 : t.length - 1 ≤ t.length := by omega
  have v6 : 1 ≤ t.length - 1 := by omega
  have v7 : (0 : Int) < ((t.length : Nat) : Int) := by omega
  have bt : ∀ (x c : UInt8), ((x.toNat : Int) != (c.toNat : Int)) = !(x == c) := by
    intro x c
    rw [bne, Bool.eq_iff_iff]
    simp only [Bool.not_eq_true', beq_eq_false_iff_ne, ne_eq]
    constructor
    · intro h e; exact h (by rw [e])
    · intro h e; exact h (UInt8.toNat_inj.1 (by omega))
  cases c0 : (t[0] == 40) with
  | false =>
    have e : readFl t = none := by rw [readFl, f1, c0]; rfl
    have d0 : ((t[0].toNat : Int) != 40) = true := by have := bt t[0] 40; rw [c0] at this; exact this
    rw [e] at hr
    simp only [g, t0, v7, d0, go_sem]
    repeat' ((first | apply qa | apply qb | apply qc | apply qd | apply qe | apply qf | apply qg | apply qh | apply qi | apply qj | apply qk) <;> intro hp <;> simp only [hp, g, t0, v7, d0, go_sem])
    simp only [fin_mk, finV, resL, resV1, resIn, endA, listIn, Option.some_or, Option.none_or, oneOrTup, go_sem]
    rw [← hr]
    rfl
  | true =>
  have d0 : ((t[0].toNat : Int) != 40) = false := by have := bt t[0] 40; rw [c0] at this; exact this
  cases c1 : (t[t.length - 1] == 41) with
  | false =>
    have e : readFl t = none := by rw [readFl, f1, c0, c1]; rfl
    have d1 : ((t[t.length - 1].toNat : Int) != 41) = true := by have := bt t[t.length - 1] 41; rw [c1] at this; exact this
    rw [e] at hr
    simp only [g, t0, t1, w1, v1, v2, v7, d0, d1, Int.toNat_natCast, go_sem]
    repeat' ((first | apply qa | apply qb | apply qc | apply qd | apply qe | apply qf | apply qg | apply qh | apply qi | apply qj | apply qk) <;> intro hp <;> simp only [hp, g, t0, t1, w1, v1, v2, v7, d0, d1, Int.toNat_natCast, go_sem])
    simp only [fin_mk, finV, resL, resV1, resIn, endA, listIn, Option.some_or, Option.none_or, oneOrTup, go_sem]
    rw [← hr]
    rfl
  | true =>
  have d1 : ((t[t.length - 1].toNat : Int) != 41) = false := by have := bt t[t.length - 1] 41; rw [c1] at this; exact this
  have hf : fitsF t = true := by rw [f1, c0, c1]; rfl
  have hi := f2 hf
  have il : ((t.take (t.length - 1)).drop 1).length ≤ 1099511627776 := by rw [List.length_drop, List.length_take]; omega
  have hR : readFl t = if (lowS (inn t) == []) = true then some 0 else flagsGo (splitOn 32 (lowS (inn t))) 0 := by
    rw [readFl, if_pos hf, split_low]
    have : (lowS (inn t) == []) = (inn t == []) := by
      cases inn t with
      | nil => rfl
      | cons b s => rfl
    rw [this]
  rw [hi] at hR
  obtain ⟨S, hS⟩ : ∃ S, lowS ((t.take (t.length - 1)).drop 1) = S := ⟨_, rfl⟩
  have sl : S.length ≤ 4194304 := by rw [← hS, lowS_len, List.length_drop, List.length_take]; omega
  rw [hS] at hR
  simp only [g, t0, t1, w1, v1, v2, v3, v4, v5, v6, v7, d0, d1, il, hS, Int.toNat_natCast, go_sem]
  repeat' ((first | apply qa | apply qb | apply qc | apply qd | apply qe | apply qf | apply qg | apply qh | apply qi | apply qj | apply qk) <;> intro hp <;> simp only [hp, g, t0, t1, w1, v1, v2, v3, v4, v5, v6, v7, d0, d1, il, hS, Int.toNat_natCast, go_sem])
  cases cs : (S == []) with
  | true =>
    have hS0 : S = [] := eq_of_beq cs
    have cs' : (S != []) = false := by rw [bne, cs]; rfl
    rw [if_pos cs] at hR
    rw [hR] at hr
    refine head_goes.2 ?_
    simp only [cs', hS0, bne_self_eq_false, go_sem]
    repeat' ((first | apply qa | apply qb | apply qc | apply qd | apply qe | apply qf | apply qg | apply qh | apply qi | apply qj | apply qk) <;> intro hp <;> simp only [hp, cs', hS0, bne_self_eq_false, go_sem])
    all_goals (simp only [fin_mk, finV, resL, resV1, resIn, endA, listIn, Option.some_or, Option.none_or, oneOrTup, go_sem]; rw [← hr])
    all_goals rfl
  | false =>
  have cs' : (S != []) = true := by rw [bne, cs]; rfl
  rw [if_neg (by rw [cs]; simp)] at hR
  refine loop_go (fun p : Nat × Nat × Int × List (List UInt8) => [(5, .int .i64 p.2.2.1), (6, .int .i64 (p.1 : Int)), (7, .int .i64 (p.2.1 : Int))]) (fun _ => []) (fun p => S.length + 1 - p.2.1) (fun p => ScanAt 32 S p.1 p.2.1 p.2.2.2 ∧ 0 ≤ p.2.2.1 ∧ p.2.2.1 ≤ 31 ∧ flagsGo p.2.2.2 0 = some p.2.2.1) (0, 0, 0, []) ⟨ScanAt.zero _ _, Int.le_refl _, by decide, rfl⟩ rfl rfl ?_
  rintro ⟨b, i, m, out⟩ ⟨hs, m0, m1, hm⟩ ih
  simp only at hs m0 m1 hm ih
  have hb' := hs.hb
  have hi' := hs.hi
  have g2 : (0 : Int) ≤ i := by omega
  have gb : (0 : Int) ≤ b := by omega
  have gbi : (b : Int) ≤ i := by omega
  have gbi' : b ≤ i := hb'
  have g5 : IntKind.i64.wrap ((i : Int) + 1) = ((i + 1 : Nat) : Int) := (wrap64 (by omega) (by omega)).trans (by omega)
  rcases Nat.lt_trichotomy i S.length with h | h | h
  · have g1 : (i : Int) ≤ S.length := by omega
    have g6 : (i : Int) < S.length := by omega
    have g7 : i ≤ S.length := by omega
    have g3 : S[i]? = some S[i] := List.getElem?_eq_getElem h
    cases q : ((S[i].toNat : Int) == 32) with
    | false =>
      have q' : ((S[i].toNat : Int) != 32) = true := by rw [bne, q]; rfl
      have ih' := ih (b, i + 1, m, out) ⟨hs.step h q, m0, m1, hm⟩ (by simp only; omega)
      clear ih
      simp only [g1, g2, g3, g5, g6, cs', q', go_sem]
      repeat' ((first | apply qa | apply qb | apply qc | apply qd | apply qe | apply qf | apply qg | apply qh | apply qi | apply qj | apply qk) <;> intro hp <;> simp only [hp, g1, g2, g3, g5, g6, cs', q', go_sem])
      exact ih'
    | true =>
      have q' : ((S[i].toNat : Int) != 32) = false := by rw [bne, q]; rfl
      obtain ⟨W, hW⟩ : ∃ W, (S.take i).drop b = W := ⟨_, rfl⟩
      have wl : W.length ≤ 4194304 := by rw [← hW, List.length_drop, List.length_take]; omega
      have hc : S[i] = 32 := by
        rw [beq_iff_eq] at q
        exact UInt8.toNat_inj.1 (by have : (32 : UInt8).toNat = 32 := rfl; omega)
      have hsp : splitOn 32 S = out ++ W :: splitOn 32 (S.drop (i + 1)) := by
        rw [← hs.eq (by omega), splitOn_at hs.hb h hc hs.no, hW]
      have hn := hs.hit h q
      rw [hW] at hn
      have hb := bitN_in W
      cases q2 : (bitN W == 0) with
      | true =>
        have e : readFl t = none := by rw [hR, hsp, flagsGo_app, hm, Option.bind_some, flagsGo, if_pos q2]
        rw [e] at hr
        clear ih
        simp only [g1, g2, g3, g5, g6, g7, gb, gbi, gbi', cs', q', Int.toNat_natCast, hW, wl, q2, go_sem]
        repeat' ((first | apply qa | apply qb | apply qc | apply qd | apply qe | apply qf | apply qg | apply qh | apply qi | apply qj | apply qk) <;> intro hp <;> simp only [hp, g1, g2, g3, g5, g6, g7, gb, gbi, gbi', cs', q', Int.toNat_natCast, hW, wl, q2, go_sem])
        simp only [fin_mk, finV, resL, resV1, resIn, endA, listIn, Option.some_or, Option.none_or, oneOrTup, go_sem]
        rw [← hr]
        rfl
      | false =>
        have q2' : ¬ bitN W = 0 := beq_eq_false_iff_ne.1 q2
        have d2 := flag_div m0 m1 q2
        cases q3 : setB m (bitN W) with
        | true =>
          have e : readFl t = none := by rw [hR, hsp, flagsGo_app, hm, Option.bind_some, flagsGo, if_neg (by rw [q2]; simp), if_pos q3]
          have q3' : ((m.tdiv (bitN W)).tmod 2 == 1) = true := q3
          rw [e] at hr
          clear ih
          simp only [g1, g2, g3, g5, g6, g7, gb, gbi, gbi', cs', q', Int.toNat_natCast, hW, wl, q2, q2', d2, q3', go_sem]
          repeat' ((first | apply qa | apply qb | apply qc | apply qd | apply qe | apply qf | apply qg | apply qh | apply qi | apply qj | apply qk) <;> intro hp <;> simp only [hp, g1, g2, g3, g5, g6, g7, gb, gbi, gbi', cs', q', Int.toNat_natCast, hW, wl, q2, q2', d2, q3', go_sem])
          simp only [fin_mk, finV, resL, resV1, resIn, endA, listIn, Option.some_or, Option.none_or, oneOrTup, go_sem]
          rw [← hr]
          rfl
        | false =>
          have q3' : ((m.tdiv (bitN W)).tmod 2 == 1) = false := q3
          have f3 := ((flag_step m0 m1 q2).2 q3).1
          have w9 : IntKind.i64.wrap (m + bitN W) = m + bitN W := wrap64 (by omega) (by omega)
          have hm' : flagsGo (out ++ [W]) 0 = some (m + bitN W) := by rw [flagsGo_app, hm, Option.bind_some, flagsGo, if_neg (by rw [q2]; simp), if_neg (by rw [q3]; simp)]; rfl
          have ih' := ih (i + 1, i + 1, m + bitN W, out ++ [W]) ⟨hn, by simp only; omega, by simp only; omega, hm'⟩ (by simp only; omega)
          clear ih
          simp only [g1, g2, g3, g5, g6, g7, gb, gbi, gbi', cs', q', Int.toNat_natCast, hW, wl, q2, q2', d2, q3', w9, go_sem]
          repeat' ((first | apply qa | apply qb | apply qc | apply qd | apply qe | apply qf | apply qg | apply qh | apply qi | apply qj | apply qk) <;> intro hp <;> simp only [hp, g1, g2, g3, g5, g6, g7, gb, gbi, gbi', cs', q', Int.toNat_natCast, hW, wl, q2, q2', d2, q3', w9, go_sem])
          exact ih'
  · have hn := hs
    subst h
    have g1 : ((S.length : Nat) : Int) ≤ (S.length : Int) := Int.le_refl _
    have g6 : ¬ ((S.length : Nat) : Int) < (S.length : Int) := Int.lt_irrefl _
    obtain ⟨W, hW⟩ : ∃ W, (S.take S.length).drop b = W := ⟨_, rfl⟩
    have hW2 : S.drop b = W := by rw [← hW, List.take_length]
    have wl : W.length ≤ 4194304 := by rw [← hW, List.length_drop, List.length_take]; omega
    have hl := hs.last
    rw [hW] at hl
    have hsp : splitOn 32 S = out ++ W :: [] := (hl.fin rfl).symm
    have hb := bitN_in W
    cases q2 : (bitN W == 0) with
    | true =>
      have e : readFl t = none := by rw [hR, hsp, flagsGo_app, hm, Option.bind_some, flagsGo, if_pos q2]
      rw [e] at hr
      clear ih
      simp only [g1, g2, g5, g6, gb, gbi, gbi', cs', hW2, List.take_length, Int.toNat_natCast, Nat.le_refl, Int.le_refl, Int.lt_irrefl, hW, wl, q2, go_sem]
      repeat' ((first | apply qa | apply qb | apply qc | apply qd | apply qe | apply qf | apply qg | apply qh | apply qi | apply qj | apply qk) <;> intro hp <;> simp only [hp, g1, g2, g5, g6, gb, gbi, gbi', cs', hW2, List.take_length, Int.toNat_natCast, Nat.le_refl, Int.le_refl, Int.lt_irrefl, hW, wl, q2, go_sem])
      simp only [fin_mk, finV, resL, resV1, resIn, endA, listIn, Option.some_or, Option.none_or, oneOrTup, go_sem]
      rw [← hr]
      rfl
    | false =>
      have q2' : ¬ bitN W = 0 := beq_eq_false_iff_ne.1 q2
      have d2 := flag_div m0 m1 q2
      cases q3 : setB m (bitN W) with
      | true =>
        have e : readFl t = none := by rw [hR, hsp, flagsGo_app, hm, Option.bind_some, flagsGo, if_neg (by rw [q2]; simp), if_pos q3]
        have q3' : ((m.tdiv (bitN W)).tmod 2 == 1) = true := q3
        rw [e] at hr
        clear ih
        simp only [g1, g2, g5, g6, gb, gbi, gbi', cs', hW2, List.take_length, Int.toNat_natCast, Nat.le_refl, Int.le_refl, Int.lt_irrefl, hW, wl, q2, q2', d2, q3', go_sem]
        repeat' ((first | apply qa | apply qb | apply qc | apply qd | apply qe | apply qf | apply qg | apply qh | apply qi | apply qj | apply qk) <;> intro hp <;> simp only [hp, g1, g2, g5, g6, gb, gbi, gbi', cs', hW2, List.take_length, Int.toNat_natCast, Nat.le_refl, Int.le_refl, Int.lt_irrefl, hW, wl, q2, q2', d2, q3', go_sem])
        simp only [fin_mk, finV, resL, resV1, resIn, endA, listIn, Option.some_or, Option.none_or, oneOrTup, go_sem]
        rw [← hr]
        rfl
      | false =>
        have q3' : ((m.tdiv (bitN W)).tmod 2 == 1) = false := q3
        have f3 := ((flag_step m0 m1 q2).2 q3).1
        have w9 : IntKind.i64.wrap (m + bitN W) = m + bitN W := wrap64 (by omega) (by omega)
        have hm' : flagsGo (out ++ [W]) 0 = some (m + bitN W) := by rw [flagsGo_app, hm, Option.bind_some, flagsGo, if_neg (by rw [q2]; simp), if_neg (by rw [q3]; simp)]; rfl
        have ih' := ih (S.length + 1, S.length + 1, m + bitN W, out ++ [W]) ⟨hl, by simp only; omega, by simp only; omega, hm'⟩ (by simp only; omega)
        clear ih
        simp only [g1, g2, g5, g6, gb, gbi, gbi', cs', hW2, List.take_length, Int.toNat_natCast, Nat.le_refl, Int.le_refl, Int.lt_irrefl, hW, wl, q2, q2', d2, q3', w9, go_sem]
        repeat' ((first | apply qa | apply qb | apply qc | apply qd | apply qe | apply qf | apply qg | apply qh | apply qi | apply qj | apply qk) <;> intro hp <;> simp only [hp, g1, g2, g5, g6, gb, gbi, gbi', cs', hW2, List.take_length, Int.toNat_natCast, Nat.le_refl, Int.le_refl, Int.lt_irrefl, hW, wl, q2, q2', d2, q3', w9, go_sem])
        exact ih'
  · have e : i = S.length + 1 := by omega
    have g1 : ¬ (i : Int) ≤ S.length := by omega
    have hf := hs.fin e
    rw [← hf, hm] at hR
    rw [hR] at hr
    clear ih
    simp only [g1, go_sem]
    repeat' ((first | apply qa | apply qb | apply qc | apply qd | apply qe | apply qf | apply qg | apply qh | apply qi | apply qj | apply qk) <;> intro hp <;> simp only [hp, g1, go_sem])
    simp only [fin_mk, finV, resL, resV1, resIn, endA, listIn, Option.some_or, Option.none_or, oneOrTup, go_sem]
    rw [← hr]
    rfl
end Go.Proofs.YtnbkmmjnpbfhnaaGreatDoor.L

namespace Go.Proofs.YtnbkmmjnpbfhnaaGreatDoor.L
open Go Go.VM
set_option maxRecDepth 100000
set_option maxHeartbeats 4000000
set_option linter.unusedSimpArgs false
set_option linter.unusedVariables false
def usesTo (k : Int) : Bool := k == 6 || k == 7
def sinceOk (x : Edit) : Bool := if x.Kind == 4 then within x.Since (-1) 100000 else if x.Kind == 8 then within x.Since 0 100000 else x.Since == 0
def eTo (x : Edit) : Bool := (x.To == [] && !usesTo x.Kind) || (usesTo x.Kind && boxName x.To)
def eSet (x : Edit) : Bool := x.Set.isEmpty || (within x.Kind 4 7 && setOk x.Set)
def eHow (x : Edit) : Bool := (x.How == 0 && !(x.Kind == 4)) || (x.Kind == 4 && within x.How 1 3)
def eBits (x : Edit) : Bool := x.Bits == 0 || ((x.Kind == 3 || x.Kind == 4) && flagsOk x.Bits)
def eText (x : Edit) : Bool := (x.Text == [] && !(x.Kind == 3)) || (x.Kind == 3 && mailOk x.Text)
def editOk (x : Edit) : Bool := (within x.Kind 1 8 && boxName x.Box && sinceOk x) && (eTo x && eSet x && eHow x && eBits x && eText x)
open Classical in
noncomputable def spUsesTo : VM.Spec := { modes := [.rd], run := fun | [.int .i64 k] => some (.bool (usesTo k), []) | _ => none, need := [] }
attribute [go_sem] spUsesTo
theorem spUsesTo_in {ins : List V} {r : V} {outs : List V} (h : spUsesTo.run ins = some (r, outs)) : ∃ (k : Int), ins = [.int .i64 k] ∧ .bool (usesTo k) = r ∧ outs = [] := by
  unfold spUsesTo at h
  simp only at h
  split at h
  · rename_i k
    simp only [Option.some.injEq, Prod.mk.injEq] at h
    obtain ⟨h1, h2⟩ := h
    exact ⟨k, rfl, h1, h2.symm⟩
  · cases h
open Classical in
noncomputable def spUsesSet : VM.Spec := { modes := [.rd], run := fun | [.int .i64 k] => some (.bool (within k 4 7), []) | _ => none, need := [] }
attribute [go_sem] spUsesSet
theorem spUsesSet_in {ins : List V} {r : V} {outs : List V} (h : spUsesSet.run ins = some (r, outs)) : ∃ (k : Int), ins = [.int .i64 k] ∧ .bool (within k 4 7) = r ∧ outs = [] := by
  unfold spUsesSet at h
  simp only at h
  split at h
  · rename_i k
    simp only [Option.some.injEq, Prod.mk.injEq] at h
    obtain ⟨h1, h2⟩ := h
    exact ⟨k, rfl, h1, h2.symm⟩
  · cases h
open Classical in
noncomputable def spSinceOk : VM.Spec := { modes := [.rd], run := fun | [x'] => (Edit.dec x').bind fun x => some (.bool (sinceOk x), []) | _ => none, need := [] }
attribute [go_sem] spSinceOk
theorem spSinceOk_in {ins : List V} {r : V} {outs : List V} (h : spSinceOk.run ins = some (r, outs)) : ∃ (x : Edit), ins = [Edit.enc x] ∧ .bool (sinceOk x) = r ∧ outs = [] := by
  unfold spSinceOk at h
  simp only at h
  split at h
  · rename_i x'
    simp only [Option.bind_eq_some_iff] at h
    obtain ⟨x, h_x, h⟩ := h
    simp only [Option.some.injEq, Prod.mk.injEq] at h
    obtain ⟨h1, h2⟩ := h
    have h_x := Edit.dec_some h_x
    subst h_x
    exact ⟨x, rfl, h1, h2.symm⟩
  · cases h
open Classical in
noncomputable def spEditOk : VM.Spec := { modes := [.rd], run := fun | [x'] => (Edit.dec x').bind fun x => if x.le 4194304 then some (.bool (editOk x), []) else none | _ => none, need := [] }
attribute [go_sem] spEditOk
theorem spEditOk_in {ins : List V} {r : V} {outs : List V} (h : spEditOk.run ins = some (r, outs)) : ∃ (x : Edit), ins = [Edit.enc x] ∧ (x.le 4194304) ∧ .bool (editOk x) = r ∧ outs = [] := by
  unfold spEditOk at h
  simp only at h
  split at h
  · rename_i x'
    simp only [Option.bind_eq_some_iff] at h
    obtain ⟨x, h_x, h⟩ := h
    split at h
    case isFalse => cases h
    rename_i hc
    simp only [Option.some.injEq, Prod.mk.injEq] at h
    obtain ⟨h1, h2⟩ := h
    have h_x := Edit.dec_some h_x
    subst h_x
    exact ⟨x, rfl, hc, h1, h2.symm⟩
  · cases h
def uSet (k : Int) : Bool := usesTo k || k == 4 || k == 5
def editUses (x : Edit) : Bool := (usesTo x.Kind || x.To == []) && (uSet x.Kind || x.Set.isEmpty) && (x.Kind == 4 || x.How == 0) && ((x.Kind == 4 || x.Kind == 3) || x.Bits == 0) && ((x.Kind == 4 || x.Kind == 8) || x.Since == 0) && (x.Kind == 3 || x.Text == [])
open Classical in
noncomputable def spEditUses : VM.Spec := { modes := [.rd], run := fun | [x'] => (Edit.dec x').bind fun x => some (.bool (editUses x), []) | _ => none, need := [] }
attribute [go_sem] spEditUses
theorem spEditUses_in {ins : List V} {r : V} {outs : List V} (h : spEditUses.run ins = some (r, outs)) : ∃ (x : Edit), ins = [Edit.enc x] ∧ .bool (editUses x) = r ∧ outs = [] := by
  unfold spEditUses at h
  simp only at h
  split at h
  · rename_i x'
    simp only [Option.bind_eq_some_iff] at h
    obtain ⟨x, h_x, h⟩ := h
    simp only [Option.some.injEq, Prod.mk.injEq] at h
    obtain ⟨h1, h2⟩ := h
    have h_x := Edit.dec_some h_x
    subst h_x
    exact ⟨x, rfl, h1, h2.symm⟩
  · cases h
def editKind (x : Edit) : Bool := if x.Kind == 6 then boxName x.To else if x.Kind == 7 then boxName x.To else if x.Kind == 4 then within x.How 1 3 && within x.Since (-1) 100000 else if x.Kind == 8 then within x.Since 0 100000 else if x.Kind == 3 then mailOk x.Text else true
theorem editOk_eq (x : Edit) : editOk x = ((within x.Kind 1 8 && boxName x.Box && editUses x && setOk x.Set && flagsOk x.Bits) && editKind x) := by
  cases hk : within x.Kind 1 8 with
  | false => simp [editOk, hk]
  | true =>
    have hk' : x.Kind = 1 ∨ x.Kind = 2 ∨ x.Kind = 3 ∨ x.Kind = 4 ∨ x.Kind = 5 ∨ x.Kind = 6 ∨ x.Kind = 7 ∨ x.Kind = 8 := by
      simp only [within, Bool.and_eq_true, decide_eq_true_eq] at hk; omega
    obtain ⟨K, B, T, S, H, I, N, X⟩ := x
    simp only at hk'
    have hS : S.isEmpty = true → setOk S = true := by cases S <;> simp; rfl
    have hI : (I == 0) = true → flagsOk I = true := by intro h; have : I = 0 := by simpa using h
                                                       subst this; rfl
    rcases hk' with rfl | rfl | rfl | rfl | rfl | rfl | rfl | rfl <;>
      simp only [editOk, editUses, editKind, eTo, eSet, eHow, eBits, eText, sinceOk, usesTo, uSet, within, Int.reduceBEq, Int.reduceLE, decide_true, decide_false, Bool.or_false, Bool.false_or, Bool.true_or, Bool.or_true, Bool.not_true, Bool.not_false, Bool.and_true, Bool.true_and, Bool.and_false, Bool.false_and, Bool.or_self, Bool.false_eq_true, if_true, if_false] <;>
      (generalize hb : boxName B = b1; generalize ht : boxName T = b2; generalize (T == []) = b3; generalize S.isEmpty = b4 at *; generalize setOk S = b5 at *; generalize (H == 0) = b6; generalize (I == 0) = b7 at *; generalize flagsOk I = b8 at *; generalize (N == 0) = b9; generalize (X == []) = b10; clear hb ht hk; revert hS hI; cases b4 <;> cases b5 <;> cases b7 <;> cases b8 <;> simp <;> cases b1 <;> cases b6 <;> simp <;> cases b9 <;> cases b10 <;> simp <;> cases b3 <;> simp <;> rw [Bool.and_comm])
end Go.Proofs.YtnbkmmjnpbfhnaaGreatDoor.L

namespace Go.Proofs.YtnbkmmjnpbfhnaaGreatDoor.L
open Go Go.VM
set_option maxRecDepth 100000
set_option maxHeartbeats 4000000
set_option linter.unusedSimpArgs false
set_option linter.unusedVariables false
def lineOk (x : Line) : Bool :=
  if x.Kind = 1 then within x.Num 0 30 && (x.Uid == 0 && x.Flags == 0 && x.Mod == 0 && x.Set.isEmpty && !x.All)
  else if x.Kind = 2 then within x.Num 1 30 && (x.Uid == 0 && x.Flags == 0 && x.Mod == 0 && x.Set.isEmpty && !x.All)
  else if x.Kind = 3 then within x.Num 1 30 && within x.Uid 1 9999 && flagsOk x.Flags && within x.Mod 1 100000 && (x.Set.isEmpty && !x.All)
  else if x.Kind = 4 then setOk x.Set && !x.Set.isEmpty && (x.Num == 0 && x.Uid == 0 && x.Flags == 0 && x.Mod == 0 && !x.All)
  else if x.Kind = 5 then within x.Num 1 9999 && within x.Mod 1 100000 && (x.Uid == 0 && x.Flags == 0 && x.Set.isEmpty)
  else if x.Kind = 6 then setOk x.Set && (x.Num == 0 && x.Uid == 0 && x.Flags == 0 && x.Mod == 0 && !x.All)
  else if x.Kind = 8 then within x.Num 1 9 && (x.Uid == 0 && x.Flags == 0 && x.Mod == 0 && x.Set.isEmpty && !x.All)
  else if x.Kind = 7 ∨ x.Kind = 9 then x.Num == 0 && x.Uid == 0 && x.Flags == 0 && x.Mod == 0 && x.Set.isEmpty && !x.All
  else false
theorem setOk_nil : setOk [] = true := rfl
theorem setOk_ne {S : List Range} (h : setOk S = false) : ¬ S = [] := by rintro rfl; cases h
open Classical in
noncomputable def spLineOk : VM.Spec := { modes := [.rd], run := fun | [x'] => (Line.dec x').bind fun x => if x.le 4194304 then some (.bool (lineOk x), []) else none | _ => none, need := [] }
attribute [go_sem] spLineOk
theorem spLineOk_in {ins : List V} {r : V} {outs : List V} (h : spLineOk.run ins = some (r, outs)) : ∃ (x : Line), ins = [Line.enc x] ∧ (x.le 4194304) ∧ .bool (lineOk x) = r ∧ outs = [] := by
  unfold spLineOk at h
  simp only at h
  split at h
  · rename_i x'
    simp only [Option.bind_eq_some_iff] at h
    obtain ⟨x, h_x, h⟩ := h
    split at h
    case isFalse => cases h
    rename_i hc
    simp only [Option.some.injEq, Prod.mk.injEq] at h
    obtain ⟨h1, h2⟩ := h
    have h_x := Line.dec_some h_x
    subst h_x
    exact ⟨x, rfl, hc, h1, h2.symm⟩
  · cases h
def T_impl_LineOk : Hints := ⟨lk [], lk [], lk [(0, [1]), (1, [1, 3]), (2, [1, 3]), (3, [1, 3, 8]), (5, [1, 3, 8, 17]), (6, [3, 4]), (7, [3, 4]), (8, [1, 3, 8, 23]), (9, [3, 4]), (10, [3, 4]), (11, [1, 3, 8, 29]), (12, [3, 4]), (13, [3, 4]), (14, [1, 3, 8, 53]), (15, [3, 4]), (16, [3, 4]), (17, [1, 3, 8, 65]), (18, [3, 4]), (19, [3, 4]), (20, [1, 3, 8, 78]), (21, [3, 4]), (22, [3, 4]), (23, [1, 3, 84]), (24, [3, 4]), (25, [3, 4]), (4, [3, 4]), (26, [4, 5]), (27, [2])], lk []⟩
noncomputable def Phi_impl_LineOk : Tab := lk [(46, spWithin), (48, spUid), (58, spMod), (57, spFlagsOk), (59, spSetOk)]
attribute [go_sem] T_impl_LineOk Phi_impl_LineOk
theorem phi_impl_LineOk : ∀ f sp, Phi_impl_LineOk f = some sp → FnOk Tryz.prog f sp ∧ ∀ n ∈ sp.need, n ∈ ([] : List String) := phi_cons ok_impl_within (n0 rfl) (phi_cons ok_impl_isUid (n0 rfl) (phi_cons ok_impl_isMod (n0 rfl) (phi_cons ok_impl_FlagsOk (n0 rfl) (phi_cons ok_impl_SetOk (n0 rfl) (phi_nil)))))
theorem ok_impl_LineOk : FnOk Tryz.prog 30 spLineOk := by
  refine fn_ok (Φ := Phi_impl_LineOk) (T := T_impl_LineOk) phi_impl_LineOk mixed Tryz.func30 rfl rfl rfl (by decide) ?_
  intro ins r outs hr hl
  clear hl
  have hs := spLineOk_in hr
  clear hr
  obtain ⟨x, rfl, hc, hr, rfl⟩ := hs
  simp only [spLineOk, Tryz.f30, Go.VM.initS]
  have hs : x.Set.length ≤ 4194304 := hc.1
  clear hc
  obtain ⟨K, N, U, F, M, S, A⟩ := x
  simp only at hs
  have hk : K = 1 ∨ K = 2 ∨ K = 3 ∨ K = 4 ∨ K = 5 ∨ K = 6 ∨ K = 7 ∨ K = 8 ∨ K = 9 ∨ (K < 1 ∨ 9 < K) := by omega
  have l1 : ((S.length : Int) == 0) = S.isEmpty := by cases S <;> simp <;> omega
  have l2 : decide ((0 : Int) < (S.length : Int)) = !S.isEmpty := by cases S <;> simp <;> omega
  rcases hk with rfl | rfl | rfl | rfl | rfl | rfl | rfl | rfl | rfl | hk
  case inr.inr.inr.inr.inr.inr.inr.inr.inr =>
    have e1 : (K == 1) = false := by rw [beq_eq_false_iff_ne]; omega
    have e2 : (K == 2) = false := by rw [beq_eq_false_iff_ne]; omega
    have e3 : (K == 3) = false := by rw [beq_eq_false_iff_ne]; omega
    have e4 : (K == 4) = false := by rw [beq_eq_false_iff_ne]; omega
    have e5 : (K == 5) = false := by rw [beq_eq_false_iff_ne]; omega
    have e6 : (K == 6) = false := by rw [beq_eq_false_iff_ne]; omega
    have e7 : (K == 7) = false := by rw [beq_eq_false_iff_ne]; omega
    have e8 : (K == 8) = false := by rw [beq_eq_false_iff_ne]; omega
    have e9 : (K == 9) = false := by rw [beq_eq_false_iff_ne]; omega
    have e10 : within K 1 9 = false := by simp only [within, Bool.and_eq_false_iff, decide_eq_false_iff_not]; omega
    have h1 : lineOk ⟨K, N, U, F, M, S, A⟩ = false := by
      unfold lineOk; simp only; split <;> (try omega); split <;> (try omega); split <;> (try omega); split <;> (try omega); split <;> (try omega); split <;> (try omega); split <;> (try omega); split <;> (try omega); rfl
    rw [h1] at hr
    simp only [e1, e2, e3, e4, e5, e6, e7, e8, e9, e10, l1, l2, hs, go_sem]
    repeat' ((first | apply qa | apply qb | apply qc | apply qd | apply qe | apply qf | apply qg | apply qh | apply qi | apply qj | apply qk) <;> intro hp <;> simp only [hp, e1, e2, e3, e4, e5, e6, e7, e8, e9, e10, l1, l2, hs, go_sem])
    all_goals (simp only [fin_mk, finV, resL, resV1, resIn, endA, listIn, Option.some_or, Option.none_or, oneOrTup, go_sem]; rw [← hr])
  case inl =>
    have hL : lineOk ⟨1, N, U, F, M, S, A⟩ = (within N 0 30 && (U == 0 && F == 0 && M == 0 && S.isEmpty && !A)) := rfl
    rw [hL] at hr
    clear hL
    simp only [l1, l2, hs, go_sem]
    repeat' ((first | apply qa | apply qb | apply qc | apply qd | apply qe | apply qf | apply qg | apply qh | apply qi | apply qj | apply qk) <;> intro hp <;> simp only [hp, l1, l2, hs, go_sem])
    all_goals (simp only [fin_mk, finV, resL, resV1, resIn, endA, listIn, Option.some_or, Option.none_or, oneOrTup, go_sem]; rw [← hr]; clear hr l1 l2 hs; simp_all [setOk_ne])
  case inr.inl =>
    have hL : lineOk ⟨2, N, U, F, M, S, A⟩ = (within N 1 30 && (U == 0 && F == 0 && M == 0 && S.isEmpty && !A)) := rfl
    rw [hL] at hr
    clear hL
    simp only [l1, l2, hs, go_sem]
    repeat' ((first | apply qa | apply qb | apply qc | apply qd | apply qe | apply qf | apply qg | apply qh | apply qi | apply qj | apply qk) <;> intro hp <;> simp only [hp, l1, l2, hs, go_sem])
    all_goals (simp only [fin_mk, finV, resL, resV1, resIn, endA, listIn, Option.some_or, Option.none_or, oneOrTup, go_sem]; rw [← hr]; clear hr l1 l2 hs; simp_all [setOk_ne])
  case inr.inr.inl =>
    have hL : lineOk ⟨3, N, U, F, M, S, A⟩ = (within N 1 30 && within U 1 9999 && flagsOk F && within M 1 100000 && (S.isEmpty && !A)) := rfl
    rw [hL] at hr
    clear hL
    simp only [l1, l2, hs, go_sem]
    repeat' ((first | apply qa | apply qb | apply qc | apply qd | apply qe | apply qf | apply qg | apply qh | apply qi | apply qj | apply qk) <;> intro hp <;> simp only [hp, l1, l2, hs, go_sem])
    all_goals (simp only [fin_mk, finV, resL, resV1, resIn, endA, listIn, Option.some_or, Option.none_or, oneOrTup, go_sem]; rw [← hr]; clear hr l1 l2 hs; simp_all [setOk_ne])
  case inr.inr.inr.inl =>
    have hL : lineOk ⟨4, N, U, F, M, S, A⟩ = (setOk S && !S.isEmpty && (N == 0 && U == 0 && F == 0 && M == 0 && !A)) := rfl
    rw [hL] at hr
    clear hL
    simp only [l1, l2, hs, go_sem]
    repeat' ((first | apply qa | apply qb | apply qc | apply qd | apply qe | apply qf | apply qg | apply qh | apply qi | apply qj | apply qk) <;> intro hp <;> simp only [hp, l1, l2, hs, go_sem])
    all_goals (simp only [fin_mk, finV, resL, resV1, resIn, endA, listIn, Option.some_or, Option.none_or, oneOrTup, go_sem]; rw [← hr]; clear hr l1 l2 hs; simp_all [setOk_ne])
  case inr.inr.inr.inr.inl =>
    have hL : lineOk ⟨5, N, U, F, M, S, A⟩ = (within N 1 9999 && within M 1 100000 && (U == 0 && F == 0 && S.isEmpty)) := rfl
    rw [hL] at hr
    clear hL
    simp only [l1, l2, hs, go_sem]
    repeat' ((first | apply qa | apply qb | apply qc | apply qd | apply qe | apply qf | apply qg | apply qh | apply qi | apply qj | apply qk) <;> intro hp <;> simp only [hp, l1, l2, hs, go_sem])
    all_goals (simp only [fin_mk, finV, resL, resV1, resIn, endA, listIn, Option.some_or, Option.none_or, oneOrTup, go_sem]; rw [← hr]; clear hr l1 l2 hs; simp_all [setOk_ne])
  case inr.inr.inr.inr.inr.inl =>
    have hL : lineOk ⟨6, N, U, F, M, S, A⟩ = (setOk S && (N == 0 && U == 0 && F == 0 && M == 0 && !A)) := rfl
    rw [hL] at hr
    clear hL
    simp only [l1, l2, hs, go_sem]
    repeat' ((first | apply qa | apply qb | apply qc | apply qd | apply qe | apply qf | apply qg | apply qh | apply qi | apply qj | apply qk) <;> intro hp <;> simp only [hp, l1, l2, hs, go_sem])
    all_goals (simp only [fin_mk, finV, resL, resV1, resIn, endA, listIn, Option.some_or, Option.none_or, oneOrTup, go_sem]; rw [← hr]; clear hr l1 l2 hs; simp_all [setOk_ne])
  case inr.inr.inr.inr.inr.inr.inl =>
    have hL : lineOk ⟨7, N, U, F, M, S, A⟩ = (N == 0 && U == 0 && F == 0 && M == 0 && S.isEmpty && !A) := rfl
    rw [hL] at hr
    clear hL
    simp only [l1, l2, hs, go_sem]
    repeat' ((first | apply qa | apply qb | apply qc | apply qd | apply qe | apply qf | apply qg | apply qh | apply qi | apply qj | apply qk) <;> intro hp <;> simp only [hp, l1, l2, hs, go_sem])
    all_goals (simp only [fin_mk, finV, resL, resV1, resIn, endA, listIn, Option.some_or, Option.none_or, oneOrTup, go_sem]; rw [← hr]; clear hr l1 l2 hs; simp_all [setOk_ne])
  case inr.inr.inr.inr.inr.inr.inr.inl =>
    have hL : lineOk ⟨8, N, U, F, M, S, A⟩ = (within N 1 9 && (U == 0 && F == 0 && M == 0 && S.isEmpty && !A)) := rfl
    rw [hL] at hr
    clear hL
    simp only [l1, l2, hs, go_sem]
    repeat' ((first | apply qa | apply qb | apply qc | apply qd | apply qe | apply qf | apply qg | apply qh | apply qi | apply qj | apply qk) <;> intro hp <;> simp only [hp, l1, l2, hs, go_sem])
    all_goals (simp only [fin_mk, finV, resL, resV1, resIn, endA, listIn, Option.some_or, Option.none_or, oneOrTup, go_sem]; rw [← hr]; clear hr l1 l2 hs; simp_all [setOk_ne])
  case inr.inr.inr.inr.inr.inr.inr.inr.inl =>
    have hL : lineOk ⟨9, N, U, F, M, S, A⟩ = (N == 0 && U == 0 && F == 0 && M == 0 && S.isEmpty && !A) := rfl
    rw [hL] at hr
    clear hL
    simp only [l1, l2, hs, go_sem]
    repeat' ((first | apply qa | apply qb | apply qc | apply qd | apply qe | apply qf | apply qg | apply qh | apply qi | apply qj | apply qk) <;> intro hp <;> simp only [hp, l1, l2, hs, go_sem])
    all_goals (simp only [fin_mk, finV, resL, resV1, resIn, endA, listIn, Option.some_or, Option.none_or, oneOrTup, go_sem]; rw [← hr]; clear hr l1 l2 hs; simp_all [setOk_ne])
def T_spec_LineOk : Hints := ⟨lk [], lk [], lk [(0, [1]), (1, [1, 15]), (2, [2]), (3, [1, 3]), (4, [1, 3, 4]), (5, [1, 3, 4, 5]), (6, [1, 72]), (7, [2]), (8, [1, 74]), (9, [1, 74, 75]), (10, [2]), (11, [1, 74, 80]), (12, [2]), (13, [1, 74, 85]), (14, [2]), (15, [1, 74, 105]), (16, [2]), (17, [1, 74, 115]), (18, [2]), (19, [1, 126]), (20, [2]), (21, [2])], lk []⟩
noncomputable def Phi_spec_LineOk : Tab := lk [(35, spWithin), (41, spFlagsOk), (40, spSetOk)]
attribute [go_sem] T_spec_LineOk Phi_spec_LineOk
theorem phi_spec_LineOk : ∀ f sp, Phi_spec_LineOk f = some sp → FnOk Tryz.prog f sp ∧ ∀ n ∈ sp.need, n ∈ ([] : List String) := phi_cons ok_spec_l01In (n0 rfl) (phi_cons ok_spec_FlagsOk (n0 rfl) (phi_cons ok_spec_SetOk (n0 rfl) (phi_nil)))
theorem ok_spec_LineOk : FnOk Tryz.prog 20 spLineOk := by
  refine fn_ok (Φ := Phi_spec_LineOk) (T := T_spec_LineOk) phi_spec_LineOk mixed Tryz.func20 rfl rfl rfl (by decide) ?_
  intro ins r outs hr hl
  clear hl
  have hs := spLineOk_in hr
  clear hr
  obtain ⟨x, rfl, hc, hr, rfl⟩ := hs
  simp only [spLineOk, Tryz.f20, Go.VM.initS]
  have hs : x.Set.length ≤ 4194304 := hc.1
  clear hc
  obtain ⟨K, N, U, F, M, S, A⟩ := x
  simp only at hs
  have hk : K = 1 ∨ K = 2 ∨ K = 3 ∨ K = 4 ∨ K = 5 ∨ K = 6 ∨ K = 7 ∨ K = 8 ∨ K = 9 ∨ (K < 1 ∨ 9 < K) := by omega
  have l1 : ((S.length : Int) == 0) = S.isEmpty := by cases S <;> simp <;> omega
  have l2 : decide ((0 : Int) < (S.length : Int)) = !S.isEmpty := by cases S <;> simp <;> omega
  rcases hk with rfl | rfl | rfl | rfl | rfl | rfl | rfl | rfl | rfl | hk
  case inr.inr.inr.inr.inr.inr.inr.inr.inr =>
    have e1 : (K == 1) = false := by rw [beq_eq_false_iff_ne]; omega
    have e2 : (K == 2) = false := by rw [beq_eq_false_iff_ne]; omega
    have e3 : (K == 3) = false := by rw [beq_eq_false_iff_ne]; omega
    have e4 : (K == 4) = false := by rw [beq_eq_false_iff_ne]; omega
    have e5 : (K == 5) = false := by rw [beq_eq_false_iff_ne]; omega
    have e6 : (K == 6) = false := by rw [beq_eq_false_iff_ne]; omega
    have e7 : (K == 7) = false := by rw [beq_eq_false_iff_ne]; omega
    have e8 : (K == 8) = false := by rw [beq_eq_false_iff_ne]; omega
    have e9 : (K == 9) = false := by rw [beq_eq_false_iff_ne]; omega
    have e10 : within K 1 9 = false := by simp only [within, Bool.and_eq_false_iff, decide_eq_false_iff_not]; omega
    have h1 : lineOk ⟨K, N, U, F, M, S, A⟩ = false := by
      unfold lineOk; simp only; split <;> (try omega); split <;> (try omega); split <;> (try omega); split <;> (try omega); split <;> (try omega); split <;> (try omega); split <;> (try omega); split <;> (try omega); rfl
    rw [h1] at hr
    simp only [e1, e2, e3, e4, e5, e6, e7, e8, e9, e10, l1, l2, hs, go_sem]
    repeat' ((first | apply qa | apply qb | apply qc | apply qd | apply qe | apply qf | apply qg | apply qh | apply qi | apply qj | apply qk) <;> intro hp <;> simp only [hp, e1, e2, e3, e4, e5, e6, e7, e8, e9, e10, l1, l2, hs, go_sem])
    all_goals (simp only [fin_mk, finV, resL, resV1, resIn, endA, listIn, Option.some_or, Option.none_or, oneOrTup, go_sem]; rw [← hr])
  case inl =>
    have hL : lineOk ⟨1, N, U, F, M, S, A⟩ = (within N 0 30 && (U == 0 && F == 0 && M == 0 && S.isEmpty && !A)) := rfl
    rw [hL] at hr
    clear hL
    have e10 : within 1 1 9 = true := rfl
    simp only [e10, l1, l2, hs, go_sem]
    repeat' ((first | apply qa | apply qb | apply qc | apply qd | apply qe | apply qf | apply qg | apply qh | apply qi | apply qj | apply qk) <;> intro hp <;> simp only [hp, e10, l1, l2, hs, go_sem])
    all_goals (simp only [fin_mk, finV, resL, resV1, resIn, endA, listIn, Option.some_or, Option.none_or, oneOrTup, go_sem]; rw [← hr]; clear hr l1 l2 hs; simp_all [setOk_ne])
  case inr.inl =>
    have hL : lineOk ⟨2, N, U, F, M, S, A⟩ = (within N 1 30 && (U == 0 && F == 0 && M == 0 && S.isEmpty && !A)) := rfl
    rw [hL] at hr
    clear hL
    have e10 : within 2 1 9 = true := rfl
    simp only [e10, l1, l2, hs, go_sem]
    repeat' ((first | apply qa | apply qb | apply qc | apply qd | apply qe | apply qf | apply qg | apply qh | apply qi | apply qj | apply qk) <;> intro hp <;> simp only [hp, e10, l1, l2, hs, go_sem])
    all_goals (simp only [fin_mk, finV, resL, resV1, resIn, endA, listIn, Option.some_or, Option.none_or, oneOrTup, go_sem]; rw [← hr]; clear hr l1 l2 hs; simp_all [setOk_ne])
  case inr.inr.inl =>
    have hL : lineOk ⟨3, N, U, F, M, S, A⟩ = (within N 1 30 && within U 1 9999 && flagsOk F && within M 1 100000 && (S.isEmpty && !A)) := rfl
    rw [hL] at hr
    clear hL
    have e10 : within 3 1 9 = true := rfl
    simp only [e10, l1, l2, hs, go_sem]
    repeat' ((first | apply qa | apply qb | apply qc | apply qd | apply qe | apply qf | apply qg | apply qh | apply qi | apply qj | apply qk) <;> intro hp <;> simp only [hp, e10, l1, l2, hs, go_sem])
    all_goals (simp only [fin_mk, finV, resL, resV1, resIn, endA, listIn, Option.some_or, Option.none_or, oneOrTup, go_sem]; rw [← hr]; clear hr l1 l2 hs; simp_all [setOk_ne])
  case inr.inr.inr.inl =>
    have hL : lineOk ⟨4, N, U, F, M, S, A⟩ = (setOk S && !S.isEmpty && (N == 0 && U == 0 && F == 0 && M == 0 && !A)) := rfl
    rw [hL] at hr
    clear hL
    have e10 : within 4 1 9 = true := rfl
    simp only [e10, l1, l2, hs, go_sem]
    repeat' ((first | apply qa | apply qb | apply qc | apply qd | apply qe | apply qf | apply qg | apply qh | apply qi | apply qj | apply qk) <;> intro hp <;> simp only [hp, e10, l1, l2, hs, go_sem])
    all_goals (simp only [fin_mk, finV, resL, resV1, resIn, endA, listIn, Option.some_or, Option.none_or, oneOrTup, go_sem]; rw [← hr]; clear hr l1 l2 hs; simp_all [setOk_ne])
  case inr.inr.inr.inr.inl =>
    have hL : lineOk ⟨5, N, U, F, M, S, A⟩ = (within N 1 9999 && within M 1 100000 && (U == 0 && F == 0 && S.isEmpty)) := rfl
    rw [hL] at hr
    clear hL
    have e10 : within 5 1 9 = true := rfl
    simp only [e10, l1, l2, hs, go_sem]
    repeat' ((first | apply qa | apply qb | apply qc | apply qd | apply qe | apply qf | apply qg | apply qh | apply qi | apply qj | apply qk) <;> intro hp <;> simp only [hp, e10, l1, l2, hs, go_sem])
    all_goals (simp only [fin_mk, finV, resL, resV1, resIn, endA, listIn, Option.some_or, Option.none_or, oneOrTup, go_sem]; rw [← hr]; clear hr l1 l2 hs; simp_all [setOk_ne])
  case inr.inr.inr.inr.inr.inl =>
    have hL : lineOk ⟨6, N, U, F, M, S, A⟩ = (setOk S && (N == 0 && U == 0 && F == 0 && M == 0 && !A)) := rfl
    rw [hL] at hr
    clear hL
    have e10 : within 6 1 9 = true := rfl
    simp only [e10, l1, l2, hs, go_sem]
    repeat' ((first | apply qa | apply qb | apply qc | apply qd | apply qe | apply qf | apply qg | apply qh | apply qi | apply qj | apply qk) <;> intro hp <;> simp only [hp, e10, l1, l2, hs, go_sem])
    all_goals (simp only [fin_mk, finV, resL, resV1, resIn, endA, listIn, Option.some_or, Option.none_or, oneOrTup, go_sem]; rw [← hr]; clear hr l1 l2 hs; simp_all [setOk_ne])
  case inr.inr.inr.inr.inr.inr.inl =>
    have hL : lineOk ⟨7, N, U, F, M, S, A⟩ = (N == 0 && U == 0 && F == 0 && M == 0 && S.isEmpty && !A) := rfl
    rw [hL] at hr
    clear hL
    have e10 : within 7 1 9 = true := rfl
    simp only [e10, l1, l2, hs, go_sem]
    repeat' ((first | apply qa | apply qb | apply qc | apply qd | apply qe | apply qf | apply qg | apply qh | apply qi | apply qj | apply qk) <;> intro hp <;> simp only [hp, e10, l1, l2, hs, go_sem])
    all_goals (simp only [fin_mk, finV, resL, resV1, resIn, endA, listIn, Option.some_or, Option.none_or, oneOrTup, go_sem]; rw [← hr]; clear hr l1 l2 hs; simp_all [setOk_ne])
  case inr.inr.inr.inr.inr.inr.inr.inl =>
    have hL : lineOk ⟨8, N, U, F, M, S, A⟩ = (within N 1 9 && (U == 0 && F == 0 && M == 0 && S.isEmpty && !A)) := rfl
    rw [hL] at hr
    clear hL
    have e10 : within 8 1 9 = true := rfl
    simp only [e10, l1, l2, hs, go_sem]
    repeat' ((first | apply qa | apply qb | apply qc | apply qd | apply qe | apply qf | apply qg | apply qh | apply qi | apply qj | apply qk) <;> intro hp <;> simp only [hp, e10, l1, l2, hs, go_sem])
    all_goals (simp only [fin_mk, finV, resL, resV1, resIn, endA, listIn, Option.some_or, Option.none_or, oneOrTup, go_sem]; rw [← hr]; clear hr l1 l2 hs; simp_all [setOk_ne])
  case inr.inr.inr.inr.inr.inr.inr.inr.inl =>
    have hL : lineOk ⟨9, N, U, F, M, S, A⟩ = (N == 0 && U == 0 && F == 0 && M == 0 && S.isEmpty && !A) := rfl
    rw [hL] at hr
    clear hL
    have e10 : within 9 1 9 = true := rfl
    simp only [e10, l1, l2, hs, go_sem]
    repeat' ((first | apply qa | apply qb | apply qc | apply qd | apply qe | apply qf | apply qg | apply qh | apply qi | apply qj | apply qk) <;> intro hp <;> simp only [hp, e10, l1, l2, hs, go_sem])
    all_goals (simp only [fin_mk, finV, resL, resV1, resIn, endA, listIn, Option.some_or, Option.none_or, oneOrTup, go_sem]; rw [← hr]; clear hr l1 l2 hs; simp_all [setOk_ne])
end Go.Proofs.YtnbkmmjnpbfhnaaGreatDoor.L

namespace Go.Proofs.YtnbkmmjnpbfhnaaGreatDoor.L
open Go Go.VM
set_option maxRecDepth 100000
set_option maxHeartbeats 4000000
set_option linter.unusedSimpArgs false
set_option linter.unusedVariables false
def short (s : List UInt8) : List UInt8 := varN s.length ++ s
theorem boxName_len {s : List UInt8} (h : boxName s = true) : s.length ≤ 8 := by
  simp only [boxName, within, Bool.and_eq_true, decide_eq_true_eq] at h; omega
theorem mailOk_len {s : List UInt8} (h : mailOk s = true) : s.length ≤ 200 := by
  simp only [mailOk, within, Bool.and_eq_true, decide_eq_true_eq] at h; omega
theorem editOk_parts {x : Edit} (h : editOk x = true) : (1 ≤ x.Kind ∧ x.Kind ≤ 8) ∧ x.Box.length ≤ 8 ∧ x.To.length ≤ 8 ∧ setOk x.Set = true ∧ (0 ≤ x.How ∧ x.How ≤ 3) ∧ (0 ≤ x.Bits ∧ x.Bits ≤ 31) ∧ (-1 ≤ x.Since ∧ x.Since ≤ 100000) ∧ x.Text.length ≤ 200 := by
  simp only [editOk, Bool.and_eq_true] at h
  obtain ⟨⟨⟨h1, h2⟩, h3⟩, ⟨⟨⟨h4, h5⟩, h6⟩, h7⟩, h8⟩ := h
  refine ⟨by simpa only [within, Bool.and_eq_true, decide_eq_true_eq] using h1, boxName_len h2, ?_, ?_, ?_, ?_, ?_, ?_⟩
  · simp only [eTo, Bool.or_eq_true, Bool.and_eq_true] at h4
    rcases h4 with ⟨h, _⟩ | ⟨_, h⟩
    · simp only [beq_iff_eq] at h; rw [h]; simp
    · exact boxName_len h
  · simp only [eSet, Bool.or_eq_true, Bool.and_eq_true] at h5
    rcases h5 with h | ⟨_, h⟩
    · rw [List.isEmpty_iff.1 h]; rfl
    · exact h
  · simp only [eHow, Bool.or_eq_true, Bool.and_eq_true, beq_iff_eq, within, decide_eq_true_eq] at h6
    omega
  · simp only [eBits, flagsOk, Bool.or_eq_true, Bool.and_eq_true, beq_iff_eq, within, decide_eq_true_eq] at h7
    omega
  · simp only [sinceOk] at h3
    split at h3
    · simp only [Bool.and_eq_true, within, decide_eq_true_eq] at h3; omega
    · split at h3
      · simp only [Bool.and_eq_true, within, decide_eq_true_eq] at h3; omega
      · simp only [beq_iff_eq] at h3; omega
  · simp only [eText, Bool.or_eq_true, Bool.and_eq_true] at h8
    rcases h8 with ⟨h, _⟩ | ⟨_, h⟩
    · simp only [beq_iff_eq] at h; rw [h]; simp
    · exact mailOk_len h
def editText (x : Edit) : List UInt8 :=
  if editOk x = true then [UInt8.ofNat x.Kind.toNat] ++ short x.Box ++ short x.To ++ short (setText x.Set) ++ [UInt8.ofNat x.How.toNat, UInt8.ofNat x.Bits.toNat] ++ varN (x.Since + 1).toNat ++ short x.Text else []
open Classical in
noncomputable def spEditText : VM.Spec := { modes := [.rd], run := fun | [x'] => (Edit.dec x').bind fun x => if x.le 4194304 then some (.tup [.str (editText x), .bool (editOk x)], []) else none | _ => none, need := ["internal/strconv.uint64pow10"] }
attribute [go_sem] spEditText
theorem spEditText_in {ins : List V} {r : V} {outs : List V} (h : spEditText.run ins = some (r, outs)) : ∃ (x : Edit), ins = [Edit.enc x] ∧ (x.le 4194304) ∧ .tup [.str (editText x), .bool (editOk x)] = r ∧ outs = [] := by
  unfold spEditText at h
  simp only at h
  split at h
  · rename_i x'
    simp only [Option.bind_eq_some_iff] at h
    obtain ⟨x, h_x, h⟩ := h
    split at h
    case isFalse => cases h
    rename_i hc
    simp only [Option.some.injEq, Prod.mk.injEq] at h
    obtain ⟨h1, h2⟩ := h
    have h_x := Edit.dec_some h_x
    subst h_x
    exact ⟨x, rfl, hc, h1, h2.symm⟩
  · cases h
end Go.Proofs.YtnbkmmjnpbfhnaaGreatDoor.L

namespace Go.Proofs.YtnbkmmjnpbfhnaaGreatDoor.L
open Go Go.VM
set_option maxRecDepth 100000
set_option maxHeartbeats 4000000
set_option linter.unusedSimpArgs false
set_option linter.unusedVariables false
def tStar : List UInt8 := [42, 32]
def tExists : List UInt8 := [32, 101, 120, 105, 115, 116, 115]
def tExpunge : List UInt8 := [32, 101, 120, 112, 117, 110, 103, 101]
def tFetch : List UInt8 := [32, 102, 101, 116, 99, 104, 32, 40, 117, 105, 100, 32]
def tFlags : List UInt8 := [32, 102, 108, 97, 103, 115, 32]
def tMod : List UInt8 := [32, 109, 111, 100, 115, 101, 113, 32]
def tVanished : List UInt8 := [42, 32, 118, 97, 110, 105, 115, 104, 101, 100, 32]
def tValid : List UInt8 := [42, 32, 118, 97, 108, 105, 100, 32]
def tAll : List UInt8 := [32, 97, 108, 108]
def tSearch : List UInt8 := [42, 32, 115, 101, 97, 114, 99, 104]
def tNo : List UInt8 := [110, 111, 32]
def lineText (x : Line) : List UInt8 :=
  if lineOk x = true then
    (if x.Kind = 1 then tStar ++ (Lib.itoa x.Num ++ tExists)
    else if x.Kind = 2 then tStar ++ (Lib.itoa x.Num ++ tExpunge)
    else if x.Kind = 3 then tStar ++ (Lib.itoa x.Num ++ (tFetch ++ (Lib.itoa x.Uid ++ (tFlags ++ (flagsText x.Flags ++ (tMod ++ (Lib.itoa x.Mod ++ [41])))))))
    else if x.Kind = 4 then tVanished ++ setText x.Set
    else if x.Kind = 5 then tValid ++ (Lib.itoa x.Num ++ (tMod ++ (Lib.itoa x.Mod ++ (if x.All = true then tAll else []))))
    else if x.Kind = 6 then (if x.Set = [] then tSearch else tSearch ++ (32 :: setText x.Set))
    else if x.Kind = 8 then tNo ++ Lib.itoa x.Num
    else if x.Kind = 9 then [98, 121, 101]
    else [111, 107])
  else []
theorem lineOk_parts {x : Line} (h : lineOk x = true) : (1 ≤ x.Kind ∧ x.Kind ≤ 9) ∧ (0 ≤ x.Num ∧ x.Num ≤ 9999) ∧ (0 ≤ x.Uid ∧ x.Uid ≤ 9999) ∧ (0 ≤ x.Mod ∧ x.Mod ≤ 100000) := by
  have key : ∀ a lo hi : Int, within a lo hi = true → lo ≤ a ∧ a ≤ hi := fun a lo hi h => by simpa only [within, Bool.and_eq_true, decide_eq_true_eq] using h
  unfold lineOk at h
  repeat' split at h
  all_goals first | (cases h; done) | skip
  all_goals
    simp only [Bool.and_eq_true, beq_iff_eq] at h
    (try simp only [within, Bool.and_eq_true, decide_eq_true_eq] at h)
    omega
open Classical in
noncomputable def spLineText : VM.Spec := { modes := [.rd], run := fun | [x'] => (Line.dec x').bind fun x => if x.le 4194304 then some (.tup [.str (lineText x), .bool (lineOk x)], []) else none | _ => none, need := ["internal/strconv.uint64pow10"] }
attribute [go_sem] spLineText
theorem spLineText_in {ins : List V} {r : V} {outs : List V} (h : spLineText.run ins = some (r, outs)) : ∃ (x : Line), ins = [Line.enc x] ∧ (x.le 4194304) ∧ .tup [.str (lineText x), .bool (lineOk x)] = r ∧ outs = [] := by
  unfold spLineText at h
  simp only at h
  split at h
  · rename_i x'
    simp only [Option.bind_eq_some_iff] at h
    obtain ⟨x, h_x, h⟩ := h
    split at h
    case isFalse => cases h
    rename_i hc
    simp only [Option.some.injEq, Prod.mk.injEq] at h
    obtain ⟨h1, h2⟩ := h
    have h_x := Line.dec_some h_x
    subst h_x
    exact ⟨x, rfl, hc, h1, h2.symm⟩
  · cases h
def T_impl_LineText : Hints := ⟨lk [(3, [(2, 3), (2, 4)]), (10, [(5, 8), (5, 9)])], lk [], lk [(0, [1]), (1, [1, 8]), (2, [2, 3]), (3, [1, 4, 5]), (4, [1, 4, 5, 16]), (5, [1, 4, 5, 16, 17]), (6, [2, 3]), (7, [1, 4, 5, 16, 22]), (8, [2, 3]), (9, [1, 4, 5, 16, 27]), (10, [2, 3]), (11, [1, 4, 5, 16, 45]), (12, [2, 3]), (13, [1, 4, 5, 16, 51]), (14, [4, 5, 54]), (15, [4, 5]), (16, [2, 3]), (17, [1, 4, 16, 62]), (18, [1, 67]), (19, [2, 3]), (20, [2, 3]), (21, [4, 16, 72]), (22, [2, 3]), (23, [76]), (24, [2, 3]), (25, [2, 3])], lk []⟩
noncomputable def Phi_impl_LineText : Tab := lk [(30, spLineOk), (31, spDecimal), (32, spFlagsText), (33, spSetText)]
attribute [go_sem] T_impl_LineText Phi_impl_LineText
theorem phi_impl_LineText : ∀ f sp, Phi_impl_LineText f = some sp → FnOk Tryz.prog f sp ∧ ∀ n ∈ sp.need, n ∈ (["internal/strconv.uint64pow10"] : List String) := phi_cons ok_impl_LineOk (n0 rfl) (phi_cons ok_impl_Decimal (fun n (h : n ∈ (["internal/strconv.uint64pow10"] : List String)) => by simp only [List.mem_cons, List.not_mem_nil, or_false] at h; rcases h with rfl <;> simp) (phi_cons ok_impl_FlagsText (n0 rfl) (phi_cons ok_impl_SetText (fun n (h : n ∈ (["internal/strconv.uint64pow10"] : List String)) => by simp only [List.mem_cons, List.not_mem_nil, or_false] at h; rcases h with rfl <;> simp) (phi_nil))))
theorem ok_impl_LineText : FnOk Tryz.prog 12 spLineText := by
  refine fn_ok (Φ := Phi_impl_LineText) (T := T_impl_LineText) phi_impl_LineText mixed Tryz.func12 rfl rfl rfl (by decide) ?_
  intro ins r outs hr hl
  clear hl
  have hs := spLineText_in hr
  clear hr
  obtain ⟨x, rfl, hc, hr, rfl⟩ := hs
  simp only [spLineText, Tryz.f12, Go.VM.initS]
  cases hk : lineOk x with
  | false =>
    simp only [hc, hk, go_sem]
    repeat' ((first | ((first | apply qa | apply qb | apply qc | apply qd | apply qe | apply qf | apply qg | apply qh | apply qi | apply qj | apply qk) <;> intro hp) | ((first | refine ql rfl rfl (by decide +kernel) ?_ | refine qm _ rfl rfl (by decide +kernel) ?_) <;> have hp := True.intro)) <;> simp only [hp, hc, hk, go_sem])
    simp only [fin_mk, finV, resL, resV1, resIn, endA, listIn, Option.some_or, Option.none_or, oneOrTup, go_sem]
    rw [← hr]
    simp only [lineText, hk, Bool.false_eq_true, if_false]
  | true =>
    obtain ⟨⟨k1, k2⟩, ⟨n1, n2⟩, ⟨u1, u2⟩, ⟨m1, m2⟩⟩ := lineOk_parts hk
    have hxs : x.Set.length ≤ 4194304 := hc.1
    obtain ⟨K, N, U, F, M, S, A⟩ := x
    simp only at k1 k2 n1 n2 u1 u2 m1 m2 hxs
    have hst := setText_len S
    have hft := flagsText_len F
    have a2 : N ≤ 1000000000 := by omega
    have a4 : U ≤ 1000000000 := by omega
    have a6 : M ≤ 1000000000 := by omega
    have l1 := itoa10 n1 a2
    have l2 := itoa10 u1 a4
    have l3 := itoa10 m1 a6
    have hcases : K = 1 ∨ K = 2 ∨ K = 3 ∨ K = 4 ∨ K = 5 ∨ K = 6 ∨ K = 7 ∨ K = 8 ∨ K = 9 := by omega
    simp only [lineText, hk, if_true, tStar, tExists, tExpunge, tFetch, tFlags, tMod, tVanished, tValid, tAll, tSearch, tNo] at hr
    rcases hcases with rfl | rfl | rfl | rfl | rfl | rfl | rfl | rfl | rfl <;> simp only [Int.reduceEq, if_true, if_false, List.cons_append, List.nil_append] at hr
    · simp only [hc, hk, n1, a2, u1, a4, m1, a6, hxs, List.length_append, List.append_assoc, List.cons_append, List.nil_append, go_sem]
      repeat' ((first | ((first | apply qa | apply qb | apply qc | apply qd | apply qe | apply qf | apply qg | apply qh | apply qi | apply qj | apply qk) <;> intro hp) | ((first | refine ql rfl rfl (by decide +kernel) ?_ | refine qm _ rfl rfl (by decide +kernel) ?_) <;> have hp := True.intro)) <;> simp only [hp, hc, hk, n1, a2, u1, a4, m1, a6, hxs, List.length_append, List.append_assoc, List.cons_append, List.nil_append, go_sem])
      all_goals first
        | (clear hr; omega)
        | (simp only [fin_mk, finV, resL, resV1, resIn, endA, listIn, Option.some_or, Option.none_or, oneOrTup, go_sem]; rw [← hr])
    · simp only [hc, hk, n1, a2, u1, a4, m1, a6, hxs, List.length_append, List.append_assoc, List.cons_append, List.nil_append, go_sem]
      repeat' ((first | ((first | apply qa | apply qb | apply qc | apply qd | apply qe | apply qf | apply qg | apply qh | apply qi | apply qj | apply qk) <;> intro hp) | ((first | refine ql rfl rfl (by decide +kernel) ?_ | refine qm _ rfl rfl (by decide +kernel) ?_) <;> have hp := True.intro)) <;> simp only [hp, hc, hk, n1, a2, u1, a4, m1, a6, hxs, List.length_append, List.append_assoc, List.cons_append, List.nil_append, go_sem])
      all_goals first
        | (clear hr; omega)
        | (simp only [fin_mk, finV, resL, resV1, resIn, endA, listIn, Option.some_or, Option.none_or, oneOrTup, go_sem]; rw [← hr])
    · simp only [hc, hk, n1, a2, u1, a4, m1, a6, hxs, List.length_append, List.append_assoc, List.cons_append, List.nil_append, go_sem]
      repeat' ((first | ((first | apply qa | apply qb | apply qc | apply qd | apply qe | apply qf | apply qg | apply qh | apply qi | apply qj | apply qk) <;> intro hp) | ((first | refine ql rfl rfl (by decide +kernel) ?_ | refine qm _ rfl rfl (by decide +kernel) ?_) <;> have hp := True.intro)) <;> simp only [hp, hc, hk, n1, a2, u1, a4, m1, a6, hxs, List.length_append, List.append_assoc, List.cons_append, List.nil_append, go_sem])
      all_goals first
        | (clear hr; omega)
        | (simp only [fin_mk, finV, resL, resV1, resIn, endA, listIn, Option.some_or, Option.none_or, oneOrTup, go_sem]; rw [← hr])
    · simp only [hc, hk, n1, a2, u1, a4, m1, a6, hxs, List.length_append, List.append_assoc, List.cons_append, List.nil_append, go_sem]
      repeat' ((first | ((first | apply qa | apply qb | apply qc | apply qd | apply qe | apply qf | apply qg | apply qh | apply qi | apply qj | apply qk) <;> intro hp) | ((first | refine ql rfl rfl (by decide +kernel) ?_ | refine qm _ rfl rfl (by decide +kernel) ?_) <;> have hp := True.intro)) <;> simp only [hp, hc, hk, n1, a2, u1, a4, m1, a6, hxs, List.length_append, List.append_assoc, List.cons_append, List.nil_append, go_sem])
      all_goals first
        | (clear hr; omega)
        | (simp only [fin_mk, finV, resL, resV1, resIn, endA, listIn, Option.some_or, Option.none_or, oneOrTup, go_sem]; rw [← hr])
    · cases A with
      | true =>
        simp only [if_true] at hr
        simp only [hc, hk, n1, a2, u1, a4, m1, a6, hxs, List.length_append, List.append_assoc, List.cons_append, List.nil_append, go_sem]
        repeat' ((first | ((first | apply qa | apply qb | apply qc | apply qd | apply qe | apply qf | apply qg | apply qh | apply qi | apply qj | apply qk) <;> intro hp) | ((first | refine ql rfl rfl (by decide +kernel) ?_ | refine qm _ rfl rfl (by decide +kernel) ?_) <;> have hp := True.intro)) <;> simp only [hp, hc, hk, n1, a2, u1, a4, m1, a6, hxs, List.length_append, List.append_assoc, List.cons_append, List.nil_append, go_sem])
        all_goals first
          | (clear hr; omega)
          | (simp only [fin_mk, finV, resL, resV1, resIn, endA, listIn, Option.some_or, Option.none_or, oneOrTup, go_sem]; rw [← hr])
      | false =>
        simp only [Bool.false_eq_true, if_false, List.append_nil] at hr
        simp only [hc, hk, n1, a2, u1, a4, m1, a6, hxs, List.length_append, List.append_assoc, List.cons_append, List.nil_append, go_sem]
        repeat' ((first | ((first | apply qa | apply qb | apply qc | apply qd | apply qe | apply qf | apply qg | apply qh | apply qi | apply qj | apply qk) <;> intro hp) | ((first | refine ql rfl rfl (by decide +kernel) ?_ | refine qm _ rfl rfl (by decide +kernel) ?_) <;> have hp := True.intro)) <;> simp only [hp, hc, hk, n1, a2, u1, a4, m1, a6, hxs, List.length_append, List.append_assoc, List.cons_append, List.nil_append, go_sem])
        all_goals first
          | (clear hr; omega)
          | (simp only [fin_mk, finV, resL, resV1, resIn, endA, listIn, Option.some_or, Option.none_or, oneOrTup, go_sem]; rw [← hr])
    · by_cases hS0 : S = []
      · subst hS0
        have z0 : ¬ (0 : Int) < ((0 : Nat) : Int) := by decide
        simp only [if_true] at hr
        simp only [hc, hk, n1, a2, u1, a4, m1, a6, hxs, z0, List.length_append, List.append_assoc, List.cons_append, List.nil_append, go_sem]
        repeat' ((first | ((first | apply qa | apply qb | apply qc | apply qd | apply qe | apply qf | apply qg | apply qh | apply qi | apply qj | apply qk) <;> intro hp) | ((first | refine ql rfl rfl (by decide +kernel) ?_ | refine qm _ rfl rfl (by decide +kernel) ?_) <;> have hp := True.intro)) <;> simp only [hp, hc, hk, n1, a2, u1, a4, m1, a6, hxs, z0, List.length_append, List.append_assoc, List.cons_append, List.nil_append, go_sem])
        all_goals first
          | (clear hr; omega)
          | (simp only [fin_mk, finV, resL, resV1, resIn, endA, listIn, Option.some_or, Option.none_or, oneOrTup, go_sem]; rw [← hr])
      · have z0 : (0 : Int) < S.length := by
          have := List.length_pos_iff.2 hS0
          omega
        simp only [hS0, if_false] at hr
        simp only [hc, hk, n1, a2, u1, a4, m1, a6, hxs, z0, List.length_append, List.append_assoc, List.cons_append, List.nil_append, go_sem]
        repeat' ((first | ((first | apply qa | apply qb | apply qc | apply qd | apply qe | apply qf | apply qg | apply qh | apply qi | apply qj | apply qk) <;> intro hp) | ((first | refine ql rfl rfl (by decide +kernel) ?_ | refine qm _ rfl rfl (by decide +kernel) ?_) <;> have hp := True.intro)) <;> simp only [hp, hc, hk, n1, a2, u1, a4, m1, a6, hxs, z0, List.length_append, List.append_assoc, List.cons_append, List.nil_append, go_sem])
        all_goals first
          | (clear hr; omega)
          | (simp only [fin_mk, finV, resL, resV1, resIn, endA, listIn, Option.some_or, Option.none_or, oneOrTup, go_sem]; rw [← hr])
    · simp only [hc, hk, n1, a2, u1, a4, m1, a6, hxs, List.length_append, List.append_assoc, List.cons_append, List.nil_append, go_sem]
      repeat' ((first | ((first | apply qa | apply qb | apply qc | apply qd | apply qe | apply qf | apply qg | apply qh | apply qi | apply qj | apply qk) <;> intro hp) | ((first | refine ql rfl rfl (by decide +kernel) ?_ | refine qm _ rfl rfl (by decide +kernel) ?_) <;> have hp := True.intro)) <;> simp only [hp, hc, hk, n1, a2, u1, a4, m1, a6, hxs, List.length_append, List.append_assoc, List.cons_append, List.nil_append, go_sem])
      all_goals first
        | (clear hr; omega)
        | (simp only [fin_mk, finV, resL, resV1, resIn, endA, listIn, Option.some_or, Option.none_or, oneOrTup, go_sem]; rw [← hr])
    · simp only [hc, hk, n1, a2, u1, a4, m1, a6, hxs, List.length_append, List.append_assoc, List.cons_append, List.nil_append, go_sem]
      repeat' ((first | ((first | apply qa | apply qb | apply qc | apply qd | apply qe | apply qf | apply qg | apply qh | apply qi | apply qj | apply qk) <;> intro hp) | ((first | refine ql rfl rfl (by decide +kernel) ?_ | refine qm _ rfl rfl (by decide +kernel) ?_) <;> have hp := True.intro)) <;> simp only [hp, hc, hk, n1, a2, u1, a4, m1, a6, hxs, List.length_append, List.append_assoc, List.cons_append, List.nil_append, go_sem])
      all_goals first
        | (clear hr; omega)
        | (simp only [fin_mk, finV, resL, resV1, resIn, endA, listIn, Option.some_or, Option.none_or, oneOrTup, go_sem]; rw [← hr])
    · simp only [hc, hk, n1, a2, u1, a4, m1, a6, hxs, List.length_append, List.append_assoc, List.cons_append, List.nil_append, go_sem]
      repeat' ((first | ((first | apply qa | apply qb | apply qc | apply qd | apply qe | apply qf | apply qg | apply qh | apply qi | apply qj | apply qk) <;> intro hp) | ((first | refine ql rfl rfl (by decide +kernel) ?_ | refine qm _ rfl rfl (by decide +kernel) ?_) <;> have hp := True.intro)) <;> simp only [hp, hc, hk, n1, a2, u1, a4, m1, a6, hxs, List.length_append, List.append_assoc, List.cons_append, List.nil_append, go_sem])
      all_goals first
        | (clear hr; omega)
        | (simp only [fin_mk, finV, resL, resV1, resIn, endA, listIn, Option.some_or, Option.none_or, oneOrTup, go_sem]; rw [← hr])
def T_spec_LineText : Hints := ⟨lk [(10, [(5, 8), (5, 9), (5, 13), (10, 13), (5, 14), (10, 14)])], lk [], lk [(0, [1]), (1, [1, 8]), (2, [2, 3]), (3, [1, 4]), (4, [1, 4, 13]), (5, [1, 4, 13, 14]), (6, [2, 3]), (7, [1, 4, 13, 19]), (8, [2, 3]), (9, [1, 4, 13, 24]), (10, [2, 3]), (11, [1, 4, 13, 44]), (12, [2, 3]), (13, [1, 4, 13, 50]), (14, [1, 5]), (15, [5, 60]), (16, [5]), (17, [2, 3]), (18, [1, 4, 13, 64]), (19, [1, 69]), (20, [2, 3]), (21, [2, 3]), (22, [4, 13, 74]), (23, [2, 3]), (24, [78]), (25, [2, 3]), (26, [2, 3])], lk []⟩
noncomputable def Phi_spec_LineText : Tab := lk [(20, spLineOk), (21, spDecimal), (22, spFlagsText), (23, spSetText)]
attribute [go_sem] T_spec_LineText Phi_spec_LineText
theorem phi_spec_LineText : ∀ f sp, Phi_spec_LineText f = some sp → FnOk Tryz.prog f sp ∧ ∀ n ∈ sp.need, n ∈ (["internal/strconv.uint64pow10"] : List String) := phi_cons ok_spec_LineOk (n0 rfl) (phi_cons ok_spec_Decimal (fun n (h : n ∈ (["internal/strconv.uint64pow10"] : List String)) => by simp only [List.mem_cons, List.not_mem_nil, or_false] at h; rcases h with rfl <;> simp) (phi_cons ok_spec_FlagsText (n0 rfl) (phi_cons ok_spec_SetText (fun n (h : n ∈ (["internal/strconv.uint64pow10"] : List String)) => by simp only [List.mem_cons, List.not_mem_nil, or_false] at h; rcases h with rfl <;> simp) (phi_nil))))
theorem ok_spec_LineText : FnOk Tryz.prog 10 spLineText := by
  refine fn_ok (Φ := Phi_spec_LineText) (T := T_spec_LineText) phi_spec_LineText mixed Tryz.func10 rfl rfl rfl (by decide) ?_
  intro ins r outs hr hl
  clear hl
  have hs := spLineText_in hr
  clear hr
  obtain ⟨x, rfl, hc, hr, rfl⟩ := hs
  simp only [spLineText, Tryz.f10, Go.VM.initS]
  cases hk : lineOk x with
  | false =>
    simp only [hc, hk, go_sem]
    repeat' ((first | ((first | apply qa | apply qb | apply qc | apply qd | apply qe | apply qf | apply qg | apply qh | apply qi | apply qj | apply qk) <;> intro hp) | ((first | refine ql rfl rfl (by decide +kernel) ?_ | refine qm _ rfl rfl (by decide +kernel) ?_) <;> have hp := True.intro)) <;> simp only [hp, hc, hk, go_sem])
    simp only [fin_mk, finV, resL, resV1, resIn, endA, listIn, Option.some_or, Option.none_or, oneOrTup, go_sem]
    rw [← hr]
    simp only [lineText, hk, Bool.false_eq_true, if_false]
  | true =>
    obtain ⟨⟨k1, k2⟩, ⟨n1, n2⟩, ⟨u1, u2⟩, ⟨m1, m2⟩⟩ := lineOk_parts hk
    have hxs : x.Set.length ≤ 4194304 := hc.1
    obtain ⟨K, N, U, F, M, S, A⟩ := x
    simp only at k1 k2 n1 n2 u1 u2 m1 m2 hxs
    have hst := setText_len S
    have hft := flagsText_len F
    have a2 : N ≤ 1000000000 := by omega
    have a4 : U ≤ 1000000000 := by omega
    have a6 : M ≤ 1000000000 := by omega
    have l1 := itoa10 n1 a2
    have l2 := itoa10 u1 a4
    have l3 := itoa10 m1 a6
    have hcases : K = 1 ∨ K = 2 ∨ K = 3 ∨ K = 4 ∨ K = 5 ∨ K = 6 ∨ K = 7 ∨ K = 8 ∨ K = 9 := by omega
    simp only [lineText, hk, if_true, tStar, tExists, tExpunge, tFetch, tFlags, tMod, tVanished, tValid, tAll, tSearch, tNo] at hr
    rcases hcases with rfl | rfl | rfl | rfl | rfl | rfl | rfl | rfl | rfl <;> simp only [Int.reduceEq, if_true, if_false, List.cons_append, List.nil_append] at hr
    · simp only [hc, hk, n1, a2, u1, a4, m1, a6, hxs, List.length_append, List.append_assoc, List.cons_append, List.nil_append, go_sem]
      repeat' ((first | ((first | apply qa | apply qb | apply qc | apply qd | apply qe | apply qf | apply qg | apply qh | apply qi | apply qj | apply qk) <;> intro hp) | ((first | refine ql rfl rfl (by decide +kernel) ?_ | refine qm _ rfl rfl (by decide +kernel) ?_) <;> have hp := True.intro)) <;> simp only [hp, hc, hk, n1, a2, u1, a4, m1, a6, hxs, List.length_append, List.append_assoc, List.cons_append, List.nil_append, go_sem])
      all_goals first
        | (clear hr; omega)
        | (simp only [fin_mk, finV, resL, resV1, resIn, endA, listIn, Option.some_or, Option.none_or, oneOrTup, go_sem]; rw [← hr])
    · simp only [hc, hk, n1, a2, u1, a4, m1, a6, hxs, List.length_append, List.append_assoc, List.cons_append, List.nil_append, go_sem]
      repeat' ((first | ((first | apply qa | apply qb | apply qc | apply qd | apply qe | apply qf | apply qg | apply qh | apply qi | apply qj | apply qk) <;> intro hp) | ((first | refine ql rfl rfl (by decide +kernel) ?_ | refine qm _ rfl rfl (by decide +kernel) ?_) <;> have hp := True.intro)) <;> simp only [hp, hc, hk, n1, a2, u1, a4, m1, a6, hxs, List.length_append, List.append_assoc, List.cons_append, List.nil_append, go_sem])
      all_goals first
        | (clear hr; omega)
        | (simp only [fin_mk, finV, resL, resV1, resIn, endA, listIn, Option.some_or, Option.none_or, oneOrTup, go_sem]; rw [← hr])
    · simp only [hc, hk, n1, a2, u1, a4, m1, a6, hxs, List.length_append, List.append_assoc, List.cons_append, List.nil_append, go_sem]
      repeat' ((first | ((first | apply qa | apply qb | apply qc | apply qd | apply qe | apply qf | apply qg | apply qh | apply qi | apply qj | apply qk) <;> intro hp) | ((first | refine ql rfl rfl (by decide +kernel) ?_ | refine qm _ rfl rfl (by decide +kernel) ?_) <;> have hp := True.intro)) <;> simp only [hp, hc, hk, n1, a2, u1, a4, m1, a6, hxs, List.length_append, List.append_assoc, List.cons_append, List.nil_append, go_sem])
      all_goals first
        | (clear hr; omega)
        | (simp only [fin_mk, finV, resL, resV1, resIn, endA, listIn, Option.some_or, Option.none_or, oneOrTup, go_sem]; rw [← hr])
    · simp only [hc, hk, n1, a2, u1, a4, m1, a6, hxs, List.length_append, List.append_assoc, List.cons_append, List.nil_append, go_sem]
      repeat' ((first | ((first | apply qa | apply qb | apply qc | apply qd | apply qe | apply qf | apply qg | apply qh | apply qi | apply qj | apply qk) <;> intro hp) | ((first | refine ql rfl rfl (by decide +kernel) ?_ | refine qm _ rfl rfl (by decide +kernel) ?_) <;> have hp := True.intro)) <;> simp only [hp, hc, hk, n1, a2, u1, a4, m1, a6, hxs, List.length_append, List.append_assoc, List.cons_append, List.nil_append, go_sem])
      all_goals first
        | (clear hr; omega)
        | (simp only [fin_mk, finV, resL, resV1, resIn, endA, listIn, Option.some_or, Option.none_or, oneOrTup, go_sem]; rw [← hr])
    · cases A with
      | true =>
        simp only [if_true] at hr
        simp only [hc, hk, n1, a2, u1, a4, m1, a6, hxs, List.length_append, List.append_assoc, List.cons_append, List.nil_append, go_sem]
        repeat' ((first | ((first | apply qa | apply qb | apply qc | apply qd | apply qe | apply qf | apply qg | apply qh | apply qi | apply qj | apply qk) <;> intro hp) | ((first | refine ql rfl rfl (by decide +kernel) ?_ | refine qm _ rfl rfl (by decide +kernel) ?_) <;> have hp := True.intro)) <;> simp only [hp, hc, hk, n1, a2, u1, a4, m1, a6, hxs, List.length_append, List.append_assoc, List.cons_append, List.nil_append, go_sem])
        all_goals first
          | (clear hr; omega)
          | (simp only [fin_mk, finV, resL, resV1, resIn, endA, listIn, Option.some_or, Option.none_or, oneOrTup, go_sem]; rw [← hr])
      | false =>
        simp only [Bool.false_eq_true, if_false, List.append_nil] at hr
        simp only [hc, hk, n1, a2, u1, a4, m1, a6, hxs, List.length_append, List.append_assoc, List.cons_append, List.nil_append, go_sem]
        repeat' ((first | ((first | apply qa | apply qb | apply qc | apply qd | apply qe | apply qf | apply qg | apply qh | apply qi | apply qj | apply qk) <;> intro hp) | ((first | refine ql rfl rfl (by decide +kernel) ?_ | refine qm _ rfl rfl (by decide +kernel) ?_) <;> have hp := True.intro)) <;> simp only [hp, hc, hk, n1, a2, u1, a4, m1, a6, hxs, List.length_append, List.append_assoc, List.cons_append, List.nil_append, go_sem])
        all_goals first
          | (clear hr; omega)
          | (simp only [fin_mk, finV, resL, resV1, resIn, endA, listIn, Option.some_or, Option.none_or, oneOrTup, go_sem]; rw [← hr])
    · by_cases hS0 : S = []
      · subst hS0
        have z0 : (((0 : Nat) : Int) == 0) = true := rfl
        simp only [if_true] at hr
        simp only [hc, hk, n1, a2, u1, a4, m1, a6, hxs, z0, List.length_append, List.append_assoc, List.cons_append, List.nil_append, go_sem]
        repeat' ((first | ((first | apply qa | apply qb | apply qc | apply qd | apply qe | apply qf | apply qg | apply qh | apply qi | apply qj | apply qk) <;> intro hp) | ((first | refine ql rfl rfl (by decide +kernel) ?_ | refine qm _ rfl rfl (by decide +kernel) ?_) <;> have hp := True.intro)) <;> simp only [hp, hc, hk, n1, a2, u1, a4, m1, a6, hxs, z0, List.length_append, List.append_assoc, List.cons_append, List.nil_append, go_sem])
        all_goals first
          | (clear hr; omega)
          | (simp only [fin_mk, finV, resL, resV1, resIn, endA, listIn, Option.some_or, Option.none_or, oneOrTup, go_sem]; rw [← hr])
      · have z0 : ((S.length : Int) == 0) = false := by
          have := List.length_pos_iff.2 hS0
          rw [beq_eq_false_iff_ne]; omega
        simp only [hS0, if_false] at hr
        simp only [hc, hk, n1, a2, u1, a4, m1, a6, hxs, z0, List.length_append, List.append_assoc, List.cons_append, List.nil_append, go_sem]
        repeat' ((first | ((first | apply qa | apply qb | apply qc | apply qd | apply qe | apply qf | apply qg | apply qh | apply qi | apply qj | apply qk) <;> intro hp) | ((first | refine ql rfl rfl (by decide +kernel) ?_ | refine qm _ rfl rfl (by decide +kernel) ?_) <;> have hp := True.intro)) <;> simp only [hp, hc, hk, n1, a2, u1, a4, m1, a6, hxs, z0, List.length_append, List.append_assoc, List.cons_append, List.nil_append, go_sem])
        all_goals first
          | (clear hr; omega)
          | (simp only [fin_mk, finV, resL, resV1, resIn, endA, listIn, Option.some_or, Option.none_or, oneOrTup, go_sem]; rw [← hr])
    · simp only [hc, hk, n1, a2, u1, a4, m1, a6, hxs, List.length_append, List.append_assoc, List.cons_append, List.nil_append, go_sem]
      repeat' ((first | ((first | apply qa | apply qb | apply qc | apply qd | apply qe | apply qf | apply qg | apply qh | apply qi | apply qj | apply qk) <;> intro hp) | ((first | refine ql rfl rfl (by decide +kernel) ?_ | refine qm _ rfl rfl (by decide +kernel) ?_) <;> have hp := True.intro)) <;> simp only [hp, hc, hk, n1, a2, u1, a4, m1, a6, hxs, List.length_append, List.append_assoc, List.cons_append, List.nil_append, go_sem])
      all_goals first
        | (clear hr; omega)
        | (simp only [fin_mk, finV, resL, resV1, resIn, endA, listIn, Option.some_or, Option.none_or, oneOrTup, go_sem]; rw [← hr])
    · simp only [hc, hk, n1, a2, u1, a4, m1, a6, hxs, List.length_append, List.append_assoc, List.cons_append, List.nil_append, go_sem]
      repeat' ((first | ((first | apply qa | apply qb | apply qc | apply qd | apply qe | apply qf | apply qg | apply qh | apply qi | apply qj | apply qk) <;> intro hp) | ((first | refine ql rfl rfl (by decide +kernel) ?_ | refine qm _ rfl rfl (by decide +kernel) ?_) <;> have hp := True.intro)) <;> simp only [hp, hc, hk, n1, a2, u1, a4, m1, a6, hxs, List.length_append, List.append_assoc, List.cons_append, List.nil_append, go_sem])
      all_goals first
        | (clear hr; omega)
        | (simp only [fin_mk, finV, resL, resV1, resIn, endA, listIn, Option.some_or, Option.none_or, oneOrTup, go_sem]; rw [← hr])
    · simp only [hc, hk, n1, a2, u1, a4, m1, a6, hxs, List.length_append, List.append_assoc, List.cons_append, List.nil_append, go_sem]
      repeat' ((first | ((first | apply qa | apply qb | apply qc | apply qd | apply qe | apply qf | apply qg | apply qh | apply qi | apply qj | apply qk) <;> intro hp) | ((first | refine ql rfl rfl (by decide +kernel) ?_ | refine qm _ rfl rfl (by decide +kernel) ?_) <;> have hp := True.intro)) <;> simp only [hp, hc, hk, n1, a2, u1, a4, m1, a6, hxs, List.length_append, List.append_assoc, List.cons_append, List.nil_append, go_sem])
      all_goals first
        | (clear hr; omega)
        | (simp only [fin_mk, finV, resL, resV1, resIn, endA, listIn, Option.some_or, Option.none_or, oneOrTup, go_sem]; rw [← hr])
end Go.Proofs.YtnbkmmjnpbfhnaaGreatDoor.L

