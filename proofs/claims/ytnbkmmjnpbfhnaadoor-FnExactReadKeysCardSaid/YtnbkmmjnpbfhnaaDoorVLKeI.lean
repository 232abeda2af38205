/- Contracts of functions, and the facts that they need. No condition. -/
import Derived.Test.YtnbkmmjnpbfhnaaDoorVLRd
import Derived.Test.YtnbkmmjnpbfhnaaDoorVLShelf
import Derived.Lib.AtoiAll
import Derived.Lib.AtoiErrMem
import Derived.Test.YtnbkmmjnpbfhnaaDoorVLS

namespace Go.Proofs.YtnbkmmjnpbfhnaaDoor.L
open Go Go.VM
set_option maxRecDepth 100000
set_option maxHeartbeats 4000000
set_option linter.unusedSimpArgs false
set_option linter.unusedVariables false
def bitF : Nat → Nat → List UInt8 → Int
  | 0, _, _ => 0
  | f + 1, i, w => if (flagNames.getD i [] == w) = true then ((2 ^ i : Nat) : Int) else bitF f (i + 1) w
def bitN (w : List UInt8) : Int := bitF 5 0 w
theorem bitF_in : ∀ (f i : Nat) (w : List UInt8), f + i ≤ 5 → 0 ≤ bitF f i w ∧ bitF f i w ≤ 16
  | 0, _, _, _ => by simp [bitF]
  | f + 1, i, w, h => by
    rw [bitF]
    split
    · have h2 : 2 ^ i ≤ 2 ^ 4 := Nat.pow_le_pow_right (by omega) (by omega)
      generalize 2 ^ i = q at *
      omega
    · exact bitF_in f (i + 1) w (by omega)
theorem bitN_in (w : List UInt8) : 0 ≤ bitN w ∧ bitN w ≤ 16 := bitF_in 5 0 w (by omega)
open Classical in
noncomputable def spBit : VM.Spec := { modes := [.rd], run := fun | [.str w] => if w.length ≤ 4194304 then some (.int .i64 (bitN w), []) else none | _ => none, need := [] }
attribute [go_sem] spBit
theorem spBit_in {ins : List V} {r : V} {outs : List V} (h : spBit.run ins = some (r, outs)) : ∃ (w : (List UInt8)), ins = [.str w] ∧ (w.length ≤ 4194304) ∧ .int .i64 (bitN w) = r ∧ outs = [] := by
  unfold spBit at h
  simp only at h
  split at h
  · rename_i w
    split at h
    case isFalse => cases h
    rename_i hc
    simp only [Option.some.injEq, Prod.mk.injEq] at h
    obtain ⟨h1, h2⟩ := h
    exact ⟨w, rfl, hc, h1, h2.symm⟩
  · cases h
def T_spec_l06Bit : Hints := ⟨lk [], lk [(4, [0, 3, 4, 5])], lk [(0, [0]), (1, [0, 3]), (2, [0, 3, 4]), (3, [0, 3, 4, 5]), (4, [0, 3, 4, 5, 10]), (6, [0, 3, 4, 5, 18]), (7, [2]), (8, [0, 3, 4, 5]), (5, [0, 3, 4, 5]), (9, [2])], lk []⟩
noncomputable def Phi_spec_l06Bit : Tab := lk [(22, spFlagNames)]
attribute [go_sem] T_spec_l06Bit Phi_spec_l06Bit
theorem phi_spec_l06Bit : ∀ f sp, Phi_spec_l06Bit f = some sp → FnOk Tryd.prog f sp ∧ ∀ n ∈ sp.need, n ∈ ([] : List String) := phi_cons ok_spec_l06Names (n0 rfl) (phi_nil)
theorem ok_spec_l06Bit : FnOk Tryd.prog 13 spBit := by
  refine fn_ok (Φ := Phi_spec_l06Bit) (T := T_spec_l06Bit) phi_spec_l06Bit mixed Tryd.func13 rfl rfl rfl (by decide) ?_
  intro ins r outs hr hl
  clear hl
  have hs := spBit_in hr
  clear hr
  obtain ⟨w, rfl, hc, hr, rfl⟩ := hs
  simp only [spBit, Tryd.f13, Go.VM.initS]
  have p0 : ((1 : Int)) = ((2 ^ 0 : Nat) : Int) := rfl
  simp only [go_sem]
  repeat' ((first | apply qa | apply qb | apply qc | apply qd | apply qe | apply qf | apply qg | apply qh | apply qi | apply qj | apply qk) <;> intro hp <;> simp only [hp, go_sem])
  refine loop_go (fun i : Nat => [(4, .int .i64 ((2 ^ i : Nat) : Int)), (5, .int .i64 (i : Int))]) (fun _ => []) (fun i => 5 - i) (fun i => i ≤ 5 ∧ bitF (5 - i) i w = bitN w) 0 ⟨by omega, rfl⟩ rfl rfl ?_
  rintro i ⟨hi, he⟩ ih
  rcases Nat.lt_or_ge i 5 with h | h
  · have hfl : flagNames.length = 5 := rfl
    have g1 : (i : Int) < flagNames.length := by omega
    have g2 : (0 : Int) ≤ i := by omega
    have g3 : flagNames[i]? = some (flagNames.getD i []) := flag_names ⟨i, h⟩
    have g5 := wrap_succ h (by omega)
    have hp : 2 ^ i ≤ 2 ^ 4 := Nat.pow_le_pow_right (by omega) (by omega)
    have g6 : IntKind.i64.wrap (2 * ((2 ^ i : Nat) : Int)) = ((2 ^ (i + 1) : Nat) : Int) := by
      rw [Nat.pow_succ]
      generalize 2 ^ i = q at *
      rw [wrap64 (by omega) (by omega)]; omega
    rw [show 5 - i = (5 - (i + 1)) + 1 by omega, bitF] at he
    generalize flagNames.getD i [] = nm at *
    generalize flagNames = NM at *
    cases hq : (nm == w) with
    | true =>
      rw [if_pos hq] at he
      rw [← he] at hr
      simp only [g1, g2, g3, g5, hq, go_sem]
      repeat' ((first | apply qa | apply qb | apply qc | apply qd | apply qe | apply qf | apply qg | apply qh | apply qi | apply qj | apply qk) <;> intro hp <;> simp only [hp, g1, g2, g3, g5, hq, go_sem])
      simp only [fin_mk, finV, resL, resV1, resIn, endA, listIn, Option.some_or, Option.none_or, oneOrTup, go_sem]
      rw [← hr]
    | false =>
      rw [if_neg (by rw [hq]; simp)] at he
      simp only [g1, g2, g3, g5, g6, hq, go_sem]
      repeat' ((first | apply qa | apply qb | apply qc | apply qd | apply qe | apply qf | apply qg | apply qh | apply qi | apply qj | apply qk) <;> intro hp <;> simp only [hp, g1, g2, g3, g5, g6, hq, go_sem])
      exact ih (i + 1) ⟨h, he⟩ (by omega)
  · have h5 : i = 5 := by omega
    subst h5
    have g1 : ¬ ((5 : Nat) : Int) < flagNames.length := by decide
    have he' : (0 : Int) = bitN w := he
    rw [← he'] at hr
    generalize flagNames = NM at *
    simp only [g1, go_sem]
    repeat' ((first | apply qa | apply qb | apply qc | apply qd | apply qe | apply qf | apply qg | apply qh | apply qi | apply qj | apply qk) <;> intro hp <;> simp only [hp, g1, go_sem])
    simp only [fin_mk, finV, resL, resV1, resIn, endA, listIn, Option.some_or, Option.none_or, oneOrTup, go_sem]
    rw [← hr]
def unB (w : List UInt8) : Bool := (decide ((2 : Int) < (w.length : Int)) && (w.take 2 == [117, 110])) && decide (0 < bitN (w.drop 2))
def keyOne (w : List UInt8) : Option Key :=
  if (w == [97, 108, 108]) = true then some ⟨1, 0, []⟩ else
  if 0 < bitN w then some ⟨2, bitN w, []⟩ else
  if unB w = true then some ⟨3, bitN (w.drop 2), []⟩ else none
def keyTwo (w m : List UInt8) : Option Key :=
  if (w == [115, 117, 98, 106, 101, 99, 116]) = true then (if within m.length 1 20 = true then some ⟨4, 0, m⟩ else none) else
  if (w == [116, 101, 120, 116]) = true then (if within m.length 1 20 = true then some ⟨5, 0, m⟩ else none) else
  if (w == [117, 105, 100]) = true then (if readOk m 9999 = true then some ⟨6, 0, m⟩ else none) else
  if (w == [109, 111, 100, 115, 101, 113]) = true then (if decB m = true ∧ decN m ≤ 100000 then some ⟨7, decN m, []⟩ else none) else none
def keysL : List (List UInt8) → List Key → Option (List Key)
  | [], out => some out
  | [w], out => match keyOne w with
    | some k => if out.length < 6 then some (out ++ [k]) else none
    | none => none
  | w :: m :: ws, out => match keyOne w with
    | some k => if out.length < 6 then keysL (m :: ws) (out ++ [k]) else none
    | none => match keyTwo w m with
      | some k => if out.length < 6 then keysL ws (out ++ [k]) else none
      | none => none
theorem keysL_len : ∀ (ws : List (List UInt8)) (out ks : List Key), out.length ≤ 6 → keysL ws out = some ks → ks.length ≤ 6
  | [], out, ks, h, e => by simp only [keysL, Option.some.injEq] at e; rw [← e]; exact h
  | [w], out, ks, h, e => by
    simp only [keysL] at e
    split at e
    · split at e
      · cases e; simp; omega
      · cases e
    · cases e
  | w :: m :: ws, out, ks, h, e => by
    simp only [keysL] at e
    split at e
    · split at e
      · exact keysL_len (m :: ws) _ ks (by simp; omega) e
      · cases e
    · split at e
      · split at e
        · exact keysL_len ws _ ks (by simp; omega) e
        · cases e
      · cases e
def keyFits (n : Nat) (k : Key) : Prop := k.Text.length ≤ n
theorem keyOne_fits {w : List UInt8} {k : Key} {n : Nat} (h : keyOne w = some k) : keyFits n k := by
  unfold keyOne at h
  repeat' split at h
  all_goals first | (cases h; simp [keyFits]) | cases h
theorem keyTwo_fits {w m : List UInt8} {k : Key} {n : Nat} (hm : m.length ≤ n) (h : keyTwo w m = some k) : keyFits n k := by
  unfold keyTwo at h
  repeat' split at h
  all_goals first | (cases h; simp only [keyFits, List.length_nil]; omega) | cases h
theorem keysL_fits {n : Nat} : ∀ (ws : List (List UInt8)) (out ks : List Key), (∀ w ∈ ws, w.length ≤ n) → (∀ k ∈ out, keyFits n k) → keysL ws out = some ks → ∀ k ∈ ks, keyFits n k
  | [], out, ks, _, h, e => by simp only [keysL, Option.some.injEq] at e; rw [← e]; exact h
  | [w], out, ks, hw, h, e => by
    simp only [keysL] at e
    split at e
    · rename_i k hk
      split at e
      · cases e
        intro x hx
        rcases List.mem_append.1 hx with hx | hx
        · exact h x hx
        · simp only [List.mem_singleton] at hx; subst hx; exact keyOne_fits hk
      · cases e
    · cases e
  | w :: m :: ws, out, ks, hw, h, e => by
    simp only [keysL] at e
    have snoc : ∀ k, keyFits n k → ∀ x ∈ out ++ [k], keyFits n x := fun k hk x hx => by
      rcases List.mem_append.1 hx with hx | hx
      · exact h x hx
      · simp only [List.mem_singleton] at hx; subst hx; exact hk
    split at e
    · rename_i k hk
      split at e
      · exact keysL_fits (m :: ws) _ ks (fun x hx => hw x (by simp only [List.mem_cons] at hx ⊢; exact .inr hx)) (snoc k (keyOne_fits hk)) e
      · cases e
    · split at e
      · rename_i k hk
        split at e
        · exact keysL_fits ws _ ks (fun x hx => hw x (by simp [hx])) (snoc k (keyTwo_fits (hw m (by simp)) hk)) e
        · cases e
      · cases e
def readKeys (ws : List (List UInt8)) : List Key × Bool := match keysL ws [] with
  | some ks => (ks, decide (0 < ks.length))
  | none => ([], false)
theorem readKeys_in {ws : List (List UInt8)} {n : Nat} (h : ∀ w ∈ ws, w.length ≤ n) : (readKeys ws).1.length ≤ 6 ∧ ∀ k ∈ (readKeys ws).1, keyFits n k := by
  unfold readKeys
  cases hk : keysL ws [] with
  | none => simp
  | some ks => exact ⟨keysL_len ws [] ks (by simp) hk, keysL_fits ws [] ks h (by simp) hk⟩
theorem keysL_one {w : List UInt8} {ws : List (List UInt8)} {out : List Key} {k : Key} (h : keyOne w = some k) (h6 : out.length < 6) : keysL (w :: ws) out = keysL ws (out ++ [k]) := by
  cases ws with
  | nil => simp only [keysL, h, if_pos h6]
  | cons m ws => simp only [keysL, h, if_pos h6]
theorem keysL_full {w : List UInt8} {ws : List (List UInt8)} {out : List Key} {k : Key} (h : keyOne w = some k) (h6 : ¬ out.length < 6) : keysL (w :: ws) out = none := by
  cases ws with
  | nil => simp only [keysL, h, if_neg h6]
  | cons m ws => simp only [keysL, h, if_neg h6]
theorem keysL_two {w m : List UInt8} {ws : List (List UInt8)} {out : List Key} {k : Key} (h : keyOne w = none) (h2 : keyTwo w m = some k) (h6 : out.length < 6) : keysL (w :: m :: ws) out = keysL ws (out ++ [k]) := by
  simp only [keysL, h, h2, if_pos h6]
theorem keysL_two_full {w m : List UInt8} {ws : List (List UInt8)} {out : List Key} (h : keyOne w = none) (h2 : keyTwo w m = none ∨ ¬ out.length < 6) : keysL (w :: m :: ws) out = none := by
  simp only [keysL, h]
  cases hk : keyTwo w m with
  | none => rfl
  | some k =>
    rcases h2 with h2 | h2
    · rw [hk] at h2; cases h2
    · simp only [if_neg h2]
theorem keysL_end {w : List UInt8} {out : List Key} (h : keyOne w = none) : keysL [w] out = none := by
  simp only [keysL, h]
open Classical in
noncomputable def spReadKeys : VM.Spec := { modes := [.rd], run := fun | [.lst 1 ws'] => (decL dStr ws').bind fun ws => if ws.length ≤ 4194304 ∧ ∀ w ∈ ws, w.length ≤ 4194304 then some (.tup [.lst 3 (((readKeys ws).1).map Key.enc), .bool ((readKeys ws).2)], []) else none | _ => none, need := ["internal/bytealg.MaxLen"] }
attribute [go_sem] spReadKeys
theorem spReadKeys_in {ins : List V} {r : V} {outs : List V} (h : spReadKeys.run ins = some (r, outs)) : ∃ (ws : (List (List UInt8))), ins = [.lst 1 ((ws).map eStr)] ∧ (ws.length ≤ 4194304 ∧ ∀ w ∈ ws, w.length ≤ 4194304) ∧ .tup [.lst 3 (((readKeys ws).1).map Key.enc), .bool ((readKeys ws).2)] = r ∧ outs = [] := by
  unfold spReadKeys at h
  simp only at h
  split at h
  · rename_i ws'
    simp only [Option.bind_eq_some_iff] at h
    obtain ⟨ws, h_ws, h⟩ := h
    split at h
    case isFalse => cases h
    rename_i hc
    simp only [Option.some.injEq, Prod.mk.injEq] at h
    obtain ⟨h1, h2⟩ := h
    have h_ws := decL_some (fun _ _ h => dStr_some h) h_ws
    subst h_ws
    exact ⟨ws, rfl, hc, h1, h2.symm⟩
  · cases h
def T_spec_ReadKeys : Hints := ⟨lk [(17, [])], lk [(4, [0, 4, 5, 6])], lk [(0, [0]), (1, [0, 4]), (2, [0, 4, 5]), (3, [0, 4, 5, 6]), (4, [0, 4, 5, 6, 18]), (6, [0, 4, 5, 6, 7]), (7, [0, 4, 5, 6, 7, 8]), (8, [0, 4, 5, 6, 7, 8, 29]), (9, [0, 4, 5, 6, 7, 8]), (10, [0, 4, 5, 6, 7, 8, 9]), (11, [0, 4, 5, 6, 7, 8, 9, 10]), (13, [0, 4, 5, 6, 7, 8, 9, 10, 36]), (14, [0, 4, 5, 6, 9, 10]), (15, [0, 4, 5, 6, 7, 8, 9, 10, 40]), (16, [0, 4, 5, 6, 9, 10]), (17, [0, 4, 5, 6, 7, 8, 9, 10, 47]), (18, [0, 4, 5, 6, 9, 10]), (19, [0, 4, 5, 6, 7, 8, 9, 66]), (20, [0, 4, 5, 6, 7, 8, 9]), (21, [0, 4, 5, 6, 8, 9, 76]), (22, [0, 4, 5, 6, 8, 9]), (23, [0, 4, 5, 6, 9, 10]), (24, [0, 4, 5, 6, 9, 10]), (25, [0, 4, 5, 6, 7, 8, 9, 83]), (26, [0, 4, 5, 6, 8, 9]), (27, [0, 4, 5, 6, 9, 10]), (28, [0, 4, 5, 6, 9, 10]), (29, [0, 4, 5, 6, 8, 9, 95]), (30, [0, 4, 5, 6, 9, 11, 12]), (31, [0, 4, 5, 6, 9, 11, 12]), (32, [0, 4, 5, 6, 9, 10]), (33, [0, 4, 5, 6, 9, 10]), (12, [0, 4, 5, 6, 9, 10]), (34, [0, 4, 5, 6, 9, 124]), (35, [2, 3]), (36, [0, 4, 5, 6]), (5, [0, 4, 5, 6]), (37, [2, 3])], lk []⟩
noncomputable def Phi_spec_ReadKeys : Tab := lk [(13, spBit), (14, spWithin), (15, spReadSet), (16, spReadDec)]
attribute [go_sem] T_spec_ReadKeys Phi_spec_ReadKeys
theorem phi_spec_ReadKeys : ∀ f sp, Phi_spec_ReadKeys f = some sp → FnOk Tryd.prog f sp ∧ ∀ n ∈ sp.need, n ∈ (["internal/bytealg.MaxLen"] : List String) := phi_cons ok_spec_l06Bit (n0 rfl) (phi_cons ok_spec_l01In (n0 rfl) (phi_cons ok_spec_ReadSet (fun n (h : n ∈ (["internal/bytealg.MaxLen"] : List String)) => by simp only [List.mem_cons, List.not_mem_nil, or_false] at h; rcases h with rfl <;> simp) (phi_cons ok_spec_ReadDecimal (n0 rfl) (phi_nil))))
theorem ok_spec_ReadKeys : FnOk Tryd.prog 5 spReadKeys := by
  refine fn_ok (Φ := Phi_spec_ReadKeys) (T := T_spec_ReadKeys) phi_spec_ReadKeys mixed Tryd.func5 rfl rfl rfl (by decide) ?_
  intro ins r outs hr hl
  clear hl
  have hs := spReadKeys_in hr
  clear hr
  obtain ⟨ws, rfl, hc, hr, rfl⟩ := hs
  simp only [spReadKeys, Tryd.f5, Go.VM.initS]
  obtain ⟨hl, hw⟩ := hc
  simp only [hl, go_sem]
  repeat' ((first | apply qa | apply qb | apply qc | apply qd | apply qe | apply qf | apply qg | apply qh | apply qi | apply qj | apply qk) <;> intro hp <;> simp only [hp, hl, go_sem])
  refine loop_go (fun p : Nat × List Key => [(6, .int .i64 (p.1 : Int))]) (fun p => [(1, ⟨.arr, 3, p.2.map Key.enc⟩)]) (fun p => ws.length - p.1) (fun p => p.1 ≤ ws.length ∧ p.2.length ≤ 6 ∧ keysL (ws.drop p.1) p.2 = keysL ws []) (0, []) ⟨Nat.zero_le _, by simp, rfl⟩ rfl rfl ?_
  rintro ⟨i, out⟩ ⟨hi, ho, he⟩ ih
  simp only at hi ho he ih
  rcases Nat.lt_or_ge i ws.length with h | h
  case inr =>
    have g1 : ¬ (i : Int) < ws.length := by omega
    rw [List.drop_of_length_le h, keysL] at he
    have e1 : readKeys ws = (out, decide (0 < out.length)) := by rw [readKeys, ← he]
    rw [e1] at hr
    have e2 : decide ((0 : Int) < (out.length : Int)) = decide (0 < out.length) := by rw [Bool.eq_iff_iff]; simp
    simp only [g1, e2, go_sem]
    repeat' ((first | apply qa | apply qb | apply qc | apply qd | apply qe | apply qf | apply qg | apply qh | apply qi | apply qj | apply qk) <;> intro hp <;> simp only [hp, g1, e2, go_sem])
    simp only [fin_mk, finV, resL, resV1, resIn, endA, listIn, Option.some_or, Option.none_or, oneOrTup, go_sem]
    rw [← hr]
  obtain ⟨w, hwd⟩ : ∃ w, ws[i] = w := ⟨_, rfl⟩
  have g1 : (i : Int) < ws.length := by omega
  have g2 : (0 : Int) ≤ i := by omega
  have g3 : ws[i]? = some w := by rw [List.getElem?_eq_getElem h, hwd]
  have g5 : IntKind.i64.wrap ((i : Int) + 1) = ((i + 1 : Nat) : Int) := (wrap64 (by omega) (by omega)).trans (by omega)
  have g5' : IntKind.i64.wrap (((i + 1 : Nat) : Int) + 1) = ((i + 2 : Nat) : Int) := (wrap64 (by omega) (by omega)).trans (by omega)
  have wl : w.length ≤ 4194304 := by rw [← hwd]; exact hw _ (List.getElem_mem h)
  have wl2 : (w.drop 2).length ≤ 4194304 := by rw [List.length_drop]; omega
  have hd : ws.drop i = w :: ws.drop (i + 1) := by rw [List.drop_eq_getElem_cons h, hwd]
  have o1 : (out.length + 1) * 32 ≤ 140737488355328 := by omega
  have o2 : out.length ≤ 9223372036854775806 := by omega
  have hbw := bitN_in w
  have hbd := bitN_in (w.drop 2)
  have fail : keysL ws [] = none → readKeys ws = ([], false) := fun e => by rw [readKeys, e]
  have n1 : ¬ ((ws.length : Nat) : Int) ≤ (i : Int) := by omega
  have v2 : (2 : Int) ≤ 9223372036854775807 := by decide
  have v3 : (0 : Int) ≤ 2 := by decide
  rcases Nat.lt_or_ge (i + 1) ws.length with hm | hm
  · obtain ⟨m, hmd⟩ : ∃ m, ws[i + 1] = m := ⟨_, rfl⟩
    have m1 : ((i + 1 : Nat) : Int) < ws.length := by omega
    have m2 : (0 : Int) ≤ ((i + 1 : Nat) : Int) := by omega
    have m3 : ws[i + 1]? = some m := by rw [List.getElem?_eq_getElem hm, hmd]
    have ml : m.length ≤ 4194304 := by rw [← hmd]; exact hw _ (List.getElem_mem hm)
    have n2 : ¬ ((ws.length : Nat) : Int) ≤ ((i + 1 : Nat) : Int) := by omega
    have hd2 : ws.drop (i + 1) = m :: ws.drop (i + 2) := by rw [List.drop_eq_getElem_cons hm, hmd]
    cases c1 : (w == [97, 108, 108]) with
    | true =>
      have hk1 : keyOne w = some ⟨1, 0, []⟩ := by rw [keyOne, if_pos c1]
      have ih' : out.length < 6 → _ := fun h6 => ih (i + 1, out ++ [⟨1, 0, []⟩]) ⟨h, by simp; omega, by rw [← he, hd, keysL_one hk1 h6]⟩ (by simp only; omega)
      simp only [List.map_append, List.map_cons, List.map_nil] at ih'
      have bad : ¬ out.length < 6 → readKeys ws = ([], false) := fun h6 => fail (by rw [← he, hd]; exact keysL_full hk1 h6)
      simp only [g1, g2, g3, g5, g5', wl, wl2, o1, o2, v2, v3, n1, List.take_length, Nat.le_refl, m1, m2, m3, ml, c1, go_sem]
      repeat' ((first | apply qa | apply qb | apply qc | apply qd | apply qe | apply qf | apply qg | apply qh | apply qi | apply qj | apply qk) <;> intro hp <;> simp only [hp, g1, g2, g3, g5, g5', wl, wl2, o1, o2, v2, v3, n1, List.take_length, Nat.le_refl, m1, m2, m3, ml, c1, go_sem])
      all_goals first
        | exact ih' (by omega)
        | (clear ih'; omega)
        | (clear ih'; have e1 := bad (by omega); rw [e1] at hr; simp only [fin_mk, finV, resL, resV1, resIn, endA, listIn, Option.some_or, Option.none_or, oneOrTup, go_sem]; rw [← hr]; rfl)
    | false =>
    by_cases c2 : 0 < bitN w
    · have hk1 : keyOne w = some ⟨2, bitN w, []⟩ := by rw [keyOne, if_neg (by rw [c1]; simp), if_pos c2]
      have ih' : out.length < 6 → _ := fun h6 => ih (i + 1, out ++ [⟨2, bitN w, []⟩]) ⟨h, by simp; omega, by rw [← he, hd, keysL_one hk1 h6]⟩ (by simp only; omega)
      simp only [List.map_append, List.map_cons, List.map_nil] at ih'
      have bad : ¬ out.length < 6 → readKeys ws = ([], false) := fun h6 => fail (by rw [← he, hd]; exact keysL_full hk1 h6)
      simp only [g1, g2, g3, g5, g5', wl, wl2, o1, o2, v2, v3, n1, List.take_length, Nat.le_refl, m1, m2, m3, ml, c1, c2, go_sem]
      repeat' ((first | apply qa | apply qb | apply qc | apply qd | apply qe | apply qf | apply qg | apply qh | apply qi | apply qj | apply qk) <;> intro hp <;> simp only [hp, g1, g2, g3, g5, g5', wl, wl2, o1, o2, v2, v3, n1, List.take_length, Nat.le_refl, m1, m2, m3, ml, c1, c2, go_sem])
      all_goals first
        | exact ih' (by omega)
        | (clear ih'; omega)
        | (clear ih'; have e1 := bad (by omega); rw [e1] at hr; simp only [fin_mk, finV, resL, resV1, resIn, endA, listIn, Option.some_or, Option.none_or, oneOrTup, go_sem]; rw [← hr]; rfl)
    simp only [g1, g2, g3, g5, g5', wl, wl2, o1, o2, v2, v3, n1, List.take_length, Nat.le_refl, m1, m2, m3, ml, c1, c2, go_sem]
    repeat' ((first | apply qa | apply qb | apply qc | apply qd | apply qe | apply qf | apply qg | apply qh | apply qi | apply qj | apply qk) <;> intro hp <;> simp only [hp, g1, g2, g3, g5, g5', wl, wl2, o1, o2, v2, v3, n1, List.take_length, Nat.le_refl, m1, m2, m3, ml, c1, c2, go_sem])
    refine goes_val 47 V.bool (unB w) rfl rfl ?_ ?_
    · intro G hG
      clear ih he fail hd2 hd hr
      by_cases t2 : (2 : Int) < (w.length : Int)
      · have t3 : 2 ≤ w.length := by omega
        cases t4 : (w.take 2 == [117, 110]) with
        | true =>
          have hu : unB w = decide (0 < bitN (w.drop 2)) := by rw [unB, t4, decide_eq_true t2]; rfl
          rw [hu] at hG
          simp only [g1, g2, g3, g5, g5', wl, wl2, o1, o2, v2, v3, n1, List.take_length, Nat.le_refl, m1, m2, m3, ml, c1, c2, t2, t3, t4, go_sem]
          repeat' ((first | apply qa | apply qb | apply qc | apply qd | apply qe | apply qf | apply qg | apply qh | apply qi | apply qj | apply qk) <;> intro hp <;> simp only [hp, g1, g2, g3, g5, g5', wl, wl2, o1, o2, v2, v3, n1, List.take_length, Nat.le_refl, m1, m2, m3, ml, c1, c2, t2, t3, t4, go_sem])
          all_goals exact hG _ (by first | rfl | (symm; assumption) | simp_all)
        | false =>
          have hu : unB w = false := by rw [unB, t4]; simp
          rw [hu] at hG
          simp only [g1, g2, g3, g5, g5', wl, wl2, o1, o2, v2, v3, n1, List.take_length, Nat.le_refl, m1, m2, m3, ml, c1, c2, t2, t3, t4, go_sem]
          repeat' ((first | apply qa | apply qb | apply qc | apply qd | apply qe | apply qf | apply qg | apply qh | apply qi | apply qj | apply qk) <;> intro hp <;> simp only [hp, g1, g2, g3, g5, g5', wl, wl2, o1, o2, v2, v3, n1, List.take_length, Nat.le_refl, m1, m2, m3, ml, c1, c2, t2, t3, t4, go_sem])
          all_goals exact hG _ rfl
      · have hu : unB w = false := by rw [unB, decide_eq_false t2]; rfl
        rw [hu] at hG
        simp only [g1, g2, g3, g5, g5', wl, wl2, o1, o2, v2, v3, n1, List.take_length, Nat.le_refl, m1, m2, m3, ml, c1, c2, t2, go_sem]
        repeat' ((first | apply qa | apply qb | apply qc | apply qd | apply qe | apply qf | apply qg | apply qh | apply qi | apply qj | apply qk) <;> intro hp <;> simp only [hp, g1, g2, g3, g5, g5', wl, wl2, o1, o2, v2, v3, n1, List.take_length, Nat.le_refl, m1, m2, m3, ml, c1, c2, t2, go_sem])
        all_goals exact hG _ rfl
    cases c3 : unB w with
    | true =>
      have c3' := c3
      simp only [unB, Bool.and_eq_true, decide_eq_true_eq] at c3'
      have hk1 : keyOne w = some ⟨3, bitN (w.drop 2), []⟩ := by rw [keyOne, if_neg (by rw [c1]; simp), if_neg c2, if_pos c3]
      have ih' : out.length < 6 → _ := fun h6 => ih (i + 1, out ++ [⟨3, bitN (w.drop 2), []⟩]) ⟨h, by simp; omega, by rw [← he, hd, keysL_one hk1 h6]⟩ (by simp only; omega)
      simp only [List.map_append, List.map_cons, List.map_nil] at ih'
      have bad : ¬ out.length < 6 → readKeys ws = ([], false) := fun h6 => fail (by rw [← he, hd]; exact keysL_full hk1 h6)
      simp only [g1, g2, g3, g5, g5', wl, wl2, o1, o2, v2, v3, n1, List.take_length, Nat.le_refl, m1, m2, m3, ml, c1, c2, c3, c3'.1.1, c3'.2, go_sem]
      repeat' ((first | apply qa | apply qb | apply qc | apply qd | apply qe | apply qf | apply qg | apply qh | apply qi | apply qj | apply qk) <;> intro hp <;> simp only [hp, g1, g2, g3, g5, g5', wl, wl2, o1, o2, v2, v3, n1, List.take_length, Nat.le_refl, m1, m2, m3, ml, c1, c2, c3, c3'.1.1, c3'.2, go_sem])
      all_goals first
        | exact ih' (by omega)
        | (clear ih'; omega)
        | (clear ih'; have e1 := bad (by omega); rw [e1] at hr; simp only [fin_mk, finV, resL, resV1, resIn, endA, listIn, Option.some_or, Option.none_or, oneOrTup, go_sem]; rw [← hr]; rfl)
    | false =>
    have hk1 : keyOne w = none := by rw [keyOne, if_neg (by rw [c1]; simp), if_neg c2, if_neg (by rw [c3]; simp)]
    cases k1 : (w == [115, 117, 98, 106, 101, 99, 116]) with
    | true =>
      have kk : (w == [116, 101, 120, 116]) = false := by rw [eq_of_beq k1]; decide
      cases q : within m.length 1 20 with
      | true =>
        have hk2 : keyTwo w m = some ⟨4, 0, m⟩ := by rw [keyTwo, if_pos k1, if_pos q]
        have ih' : out.length < 6 → _ := fun h6 => ih (i + 2, out ++ [⟨4, 0, m⟩]) ⟨hm, by simp; omega, by rw [← he, hd, hd2, keysL_two hk1 hk2 h6]⟩ (by simp only; omega)
        simp only [List.map_append, List.map_cons, List.map_nil] at ih'
        have bad : ¬ out.length < 6 → readKeys ws = ([], false) := fun h6 => fail (by rw [← he, hd, hd2]; exact keysL_two_full hk1 (.inr h6))
        simp only [g1, g2, g3, g5, g5', wl, wl2, o1, o2, v2, v3, n1, List.take_length, Nat.le_refl, m1, m2, m3, ml, c1, c2, c3, k1, n2, q, kk, go_sem]
        repeat' ((first | apply qa | apply qb | apply qc | apply qd | apply qe | apply qf | apply qg | apply qh | apply qi | apply qj | apply qk) <;> intro hp <;> simp only [hp, g1, g2, g3, g5, g5', wl, wl2, o1, o2, v2, v3, n1, List.take_length, Nat.le_refl, m1, m2, m3, ml, c1, c2, c3, k1, n2, q, kk, go_sem])
        all_goals first
          | exact ih' (by omega)
          | (clear ih'; omega)
          | (clear ih'; have e1 := bad (by omega); rw [e1] at hr; simp only [fin_mk, finV, resL, resV1, resIn, endA, listIn, Option.some_or, Option.none_or, oneOrTup, go_sem]; rw [← hr]; rfl)
      | false =>
        have e1 := fail (by rw [← he, hd, hd2]; exact keysL_two_full hk1 (.inl (by rw [keyTwo, if_pos k1, if_neg (by rw [q]; simp)])))
        rw [e1] at hr
        simp only [g1, g2, g3, g5, g5', wl, wl2, o1, o2, v2, v3, n1, List.take_length, Nat.le_refl, m1, m2, m3, ml, c1, c2, c3, k1, n2, q, kk, go_sem]
        repeat' ((first | apply qa | apply qb | apply qc | apply qd | apply qe | apply qf | apply qg | apply qh | apply qi | apply qj | apply qk) <;> intro hp <;> simp only [hp, g1, g2, g3, g5, g5', wl, wl2, o1, o2, v2, v3, n1, List.take_length, Nat.le_refl, m1, m2, m3, ml, c1, c2, c3, k1, n2, q, kk, go_sem])
        all_goals (simp only [fin_mk, finV, resL, resV1, resIn, endA, listIn, Option.some_or, Option.none_or, oneOrTup, go_sem]; rw [← hr]; rfl)
    | false =>
    cases k2 : (w == [116, 101, 120, 116]) with
    | true =>
      cases q : within m.length 1 20 with
      | true =>
        have hk2 : keyTwo w m = some ⟨5, 0, m⟩ := by rw [keyTwo, if_neg (by rw [k1]; simp), if_pos k2, if_pos q]
        have ih' : out.length < 6 → _ := fun h6 => ih (i + 2, out ++ [⟨5, 0, m⟩]) ⟨hm, by simp; omega, by rw [← he, hd, hd2, keysL_two hk1 hk2 h6]⟩ (by simp only; omega)
        simp only [List.map_append, List.map_cons, List.map_nil] at ih'
        have bad : ¬ out.length < 6 → readKeys ws = ([], false) := fun h6 => fail (by rw [← he, hd, hd2]; exact keysL_two_full hk1 (.inr h6))
        simp only [g1, g2, g3, g5, g5', wl, wl2, o1, o2, v2, v3, n1, List.take_length, Nat.le_refl, m1, m2, m3, ml, c1, c2, c3, k1, k2, n2, q, go_sem]
        repeat' ((first | apply qa | apply qb | apply qc | apply qd | apply qe | apply qf | apply qg | apply qh | apply qi | apply qj | apply qk) <;> intro hp <;> simp only [hp, g1, g2, g3, g5, g5', wl, wl2, o1, o2, v2, v3, n1, List.take_length, Nat.le_refl, m1, m2, m3, ml, c1, c2, c3, k1, k2, n2, q, go_sem])
        all_goals first
          | exact ih' (by omega)
          | (clear ih'; omega)
          | (clear ih'; have e1 := bad (by omega); rw [e1] at hr; simp only [fin_mk, finV, resL, resV1, resIn, endA, listIn, Option.some_or, Option.none_or, oneOrTup, go_sem]; rw [← hr]; rfl)
      | false =>
        have e1 := fail (by rw [← he, hd, hd2]; exact keysL_two_full hk1 (.inl (by rw [keyTwo, if_neg (by rw [k1]; simp), if_pos k2, if_neg (by rw [q]; simp)])))
        rw [e1] at hr
        simp only [g1, g2, g3, g5, g5', wl, wl2, o1, o2, v2, v3, n1, List.take_length, Nat.le_refl, m1, m2, m3, ml, c1, c2, c3, k1, k2, n2, q, go_sem]
        repeat' ((first | apply qa | apply qb | apply qc | apply qd | apply qe | apply qf | apply qg | apply qh | apply qi | apply qj | apply qk) <;> intro hp <;> simp only [hp, g1, g2, g3, g5, g5', wl, wl2, o1, o2, v2, v3, n1, List.take_length, Nat.le_refl, m1, m2, m3, ml, c1, c2, c3, k1, k2, n2, q, go_sem])
        all_goals (simp only [fin_mk, finV, resL, resV1, resIn, endA, listIn, Option.some_or, Option.none_or, oneOrTup, go_sem]; rw [← hr]; rfl)
    | false =>
    cases k3 : (w == [117, 105, 100]) with
    | true =>
      cases q : readOk m 9999 with
      | true =>
        have hk2 : keyTwo w m = some ⟨6, 0, m⟩ := by rw [keyTwo, if_neg (by rw [k1]; simp), if_neg (by rw [k2]; simp), if_pos k3, if_pos q]
        have ih' : out.length < 6 → _ := fun h6 => ih (i + 2, out ++ [⟨6, 0, m⟩]) ⟨hm, by simp; omega, by rw [← he, hd, hd2, keysL_two hk1 hk2 h6]⟩ (by simp only; omega)
        simp only [List.map_append, List.map_cons, List.map_nil] at ih'
        have bad : ¬ out.length < 6 → readKeys ws = ([], false) := fun h6 => fail (by rw [← he, hd, hd2]; exact keysL_two_full hk1 (.inr h6))
        simp only [g1, g2, g3, g5, g5', wl, wl2, o1, o2, v2, v3, n1, List.take_length, Nat.le_refl, m1, m2, m3, ml, c1, c2, c3, k1, k2, k3, n2, q, go_sem]
        repeat' ((first | apply qa | apply qb | apply qc | apply qd | apply qe | apply qf | apply qg | apply qh | apply qi | apply qj | apply qk) <;> intro hp <;> simp only [hp, g1, g2, g3, g5, g5', wl, wl2, o1, o2, v2, v3, n1, List.take_length, Nat.le_refl, m1, m2, m3, ml, c1, c2, c3, k1, k2, k3, n2, q, go_sem])
        all_goals first
          | exact ih' (by omega)
          | (clear ih'; omega)
          | (clear ih'; have e1 := bad (by omega); rw [e1] at hr; simp only [fin_mk, finV, resL, resV1, resIn, endA, listIn, Option.some_or, Option.none_or, oneOrTup, go_sem]; rw [← hr]; rfl)
      | false =>
        have e1 := fail (by rw [← he, hd, hd2]; exact keysL_two_full hk1 (.inl (by rw [keyTwo, if_neg (by rw [k1]; simp), if_neg (by rw [k2]; simp), if_pos k3, if_neg (by rw [q]; simp)])))
        rw [e1] at hr
        simp only [g1, g2, g3, g5, g5', wl, wl2, o1, o2, v2, v3, n1, List.take_length, Nat.le_refl, m1, m2, m3, ml, c1, c2, c3, k1, k2, k3, n2, q, go_sem]
        repeat' ((first | apply qa | apply qb | apply qc | apply qd | apply qe | apply qf | apply qg | apply qh | apply qi | apply qj | apply qk) <;> intro hp <;> simp only [hp, g1, g2, g3, g5, g5', wl, wl2, o1, o2, v2, v3, n1, List.take_length, Nat.le_refl, m1, m2, m3, ml, c1, c2, c3, k1, k2, k3, n2, q, go_sem])
        all_goals (simp only [fin_mk, finV, resL, resV1, resIn, endA, listIn, Option.some_or, Option.none_or, oneOrTup, go_sem]; rw [← hr]; rfl)
    | false =>
    cases k4 : (w == [109, 111, 100, 115, 101, 113]) with
    | true =>
      cases q : decB m with
      | false =>
        have e1 := fail (by rw [← he, hd, hd2]; exact keysL_two_full hk1 (.inl (by rw [keyTwo, if_neg (by rw [k1]; simp), if_neg (by rw [k2]; simp), if_neg (by rw [k3]; simp), if_pos k4, if_neg (by rw [q]; simp)])))
        rw [e1] at hr
        simp only [g1, g2, g3, g5, g5', wl, wl2, o1, o2, v2, v3, n1, List.take_length, Nat.le_refl, m1, m2, m3, ml, c1, c2, c3, k1, k2, k3, k4, n2, q, go_sem]
        repeat' ((first | apply qa | apply qb | apply qc | apply qd | apply qe | apply qf | apply qg | apply qh | apply qi | apply qj | apply qk) <;> intro hp <;> simp only [hp, g1, g2, g3, g5, g5', wl, wl2, o1, o2, v2, v3, n1, List.take_length, Nat.le_refl, m1, m2, m3, ml, c1, c2, c3, k1, k2, k3, k4, n2, q, go_sem])
        all_goals (simp only [fin_mk, finV, resL, resV1, resIn, endA, listIn, Option.some_or, Option.none_or, oneOrTup, go_sem]; rw [← hr]; rfl)
      | true =>
      by_cases q2 : decN m ≤ 100000
      · have hk2 : keyTwo w m = some ⟨7, decN m, []⟩ := by rw [keyTwo, if_neg (by rw [k1]; simp), if_neg (by rw [k2]; simp), if_neg (by rw [k3]; simp), if_pos k4, if_pos ⟨q, q2⟩]
        have ih' : out.length < 6 → _ := fun h6 => ih (i + 2, out ++ [⟨7, decN m, []⟩]) ⟨hm, by simp; omega, by rw [← he, hd, hd2, keysL_two hk1 hk2 h6]⟩ (by simp only; omega)
        simp only [List.map_append, List.map_cons, List.map_nil] at ih'
        have bad : ¬ out.length < 6 → readKeys ws = ([], false) := fun h6 => fail (by rw [← he, hd, hd2]; exact keysL_two_full hk1 (.inr h6))
        simp only [g1, g2, g3, g5, g5', wl, wl2, o1, o2, v2, v3, n1, List.take_length, Nat.le_refl, m1, m2, m3, ml, c1, c2, c3, k1, k2, k3, k4, n2, q, q2, go_sem]
        repeat' ((first | apply qa | apply qb | apply qc | apply qd | apply qe | apply qf | apply qg | apply qh | apply qi | apply qj | apply qk) <;> intro hp <;> simp only [hp, g1, g2, g3, g5, g5', wl, wl2, o1, o2, v2, v3, n1, List.take_length, Nat.le_refl, m1, m2, m3, ml, c1, c2, c3, k1, k2, k3, k4, n2, q, q2, go_sem])
        all_goals first
          | exact ih' (by omega)
          | (clear ih'; omega)
          | (clear ih'; have e1 := bad (by omega); rw [e1] at hr; simp only [fin_mk, finV, resL, resV1, resIn, endA, listIn, Option.some_or, Option.none_or, oneOrTup, go_sem]; rw [← hr]; rfl)
      · have e1 := fail (by rw [← he, hd, hd2]; exact keysL_two_full hk1 (.inl (by rw [keyTwo, if_neg (by rw [k1]; simp), if_neg (by rw [k2]; simp), if_neg (by rw [k3]; simp), if_pos k4, if_neg (fun e => q2 e.2)])))
        rw [e1] at hr
        simp only [g1, g2, g3, g5, g5', wl, wl2, o1, o2, v2, v3, n1, List.take_length, Nat.le_refl, m1, m2, m3, ml, c1, c2, c3, k1, k2, k3, k4, n2, q, q2, go_sem]
        repeat' ((first | apply qa | apply qb | apply qc | apply qd | apply qe | apply qf | apply qg | apply qh | apply qi | apply qj | apply qk) <;> intro hp <;> simp only [hp, g1, g2, g3, g5, g5', wl, wl2, o1, o2, v2, v3, n1, List.take_length, Nat.le_refl, m1, m2, m3, ml, c1, c2, c3, k1, k2, k3, k4, n2, q, q2, go_sem])
        all_goals (simp only [fin_mk, finV, resL, resV1, resIn, endA, listIn, Option.some_or, Option.none_or, oneOrTup, go_sem]; rw [← hr]; rfl)
    | false =>
    have e1 := fail (by rw [← he, hd, hd2]; exact keysL_two_full hk1 (.inl (by rw [keyTwo, if_neg (by rw [k1]; simp), if_neg (by rw [k2]; simp), if_neg (by rw [k3]; simp), if_neg (by rw [k4]; simp)])))
    rw [e1] at hr
    simp only [g1, g2, g3, g5, g5', wl, wl2, o1, o2, v2, v3, n1, List.take_length, Nat.le_refl, m1, m2, m3, ml, c1, c2, c3, k1, k2, k3, k4, go_sem]
    repeat' ((first | apply qa | apply qb | apply qc | apply qd | apply qe | apply qf | apply qg | apply qh | apply qi | apply qj | apply qk) <;> intro hp <;> simp only [hp, g1, g2, g3, g5, g5', wl, wl2, o1, o2, v2, v3, n1, List.take_length, Nat.le_refl, m1, m2, m3, ml, c1, c2, c3, k1, k2, k3, k4, go_sem])
    all_goals (simp only [fin_mk, finV, resL, resV1, resIn, endA, listIn, Option.some_or, Option.none_or, oneOrTup, go_sem]; rw [← hr]; rfl)
  · have m1 : ¬ ((i + 1 : Nat) : Int) < ws.length := by omega
    have hd2 : ws.drop (i + 1) = [] := List.drop_of_length_le hm
    have z0 : (([] : List UInt8).length) ≤ 4194304 := by simp
    cases c1 : (w == [97, 108, 108]) with
    | true =>
      have hk1 : keyOne w = some ⟨1, 0, []⟩ := by rw [keyOne, if_pos c1]
      have ih' : out.length < 6 → _ := fun h6 => ih (i + 1, out ++ [⟨1, 0, []⟩]) ⟨h, by simp; omega, by rw [← he, hd, keysL_one hk1 h6]⟩ (by simp only; omega)
      simp only [List.map_append, List.map_cons, List.map_nil] at ih'
      have bad : ¬ out.length < 6 → readKeys ws = ([], false) := fun h6 => fail (by rw [← he, hd]; exact keysL_full hk1 h6)
      simp only [g1, g2, g3, g5, g5', wl, wl2, o1, o2, v2, v3, n1, List.take_length, Nat.le_refl, m1, c1, go_sem]
      repeat' ((first | apply qa | apply qb | apply qc | apply qd | apply qe | apply qf | apply qg | apply qh | apply qi | apply qj | apply qk) <;> intro hp <;> simp only [hp, g1, g2, g3, g5, g5', wl, wl2, o1, o2, v2, v3, n1, List.take_length, Nat.le_refl, m1, c1, go_sem])
      all_goals first
        | exact ih' (by omega)
        | (clear ih'; omega)
        | (clear ih'; have e1 := bad (by omega); rw [e1] at hr; simp only [fin_mk, finV, resL, resV1, resIn, endA, listIn, Option.some_or, Option.none_or, oneOrTup, go_sem]; rw [← hr]; rfl)
    | false =>
    by_cases c2 : 0 < bitN w
    · have hk1 : keyOne w = some ⟨2, bitN w, []⟩ := by rw [keyOne, if_neg (by rw [c1]; simp), if_pos c2]
      have ih' : out.length < 6 → _ := fun h6 => ih (i + 1, out ++ [⟨2, bitN w, []⟩]) ⟨h, by simp; omega, by rw [← he, hd, keysL_one hk1 h6]⟩ (by simp only; omega)
      simp only [List.map_append, List.map_cons, List.map_nil] at ih'
      have bad : ¬ out.length < 6 → readKeys ws = ([], false) := fun h6 => fail (by rw [← he, hd]; exact keysL_full hk1 h6)
      simp only [g1, g2, g3, g5, g5', wl, wl2, o1, o2, v2, v3, n1, List.take_length, Nat.le_refl, m1, c1, c2, go_sem]
      repeat' ((first | apply qa | apply qb | apply qc | apply qd | apply qe | apply qf | apply qg | apply qh | apply qi | apply qj | apply qk) <;> intro hp <;> simp only [hp, g1, g2, g3, g5, g5', wl, wl2, o1, o2, v2, v3, n1, List.take_length, Nat.le_refl, m1, c1, c2, go_sem])
      all_goals first
        | exact ih' (by omega)
        | (clear ih'; omega)
        | (clear ih'; have e1 := bad (by omega); rw [e1] at hr; simp only [fin_mk, finV, resL, resV1, resIn, endA, listIn, Option.some_or, Option.none_or, oneOrTup, go_sem]; rw [← hr]; rfl)
    simp only [g1, g2, g3, g5, g5', wl, wl2, o1, o2, v2, v3, n1, List.take_length, Nat.le_refl, m1, c1, c2, go_sem]
    repeat' ((first | apply qa | apply qb | apply qc | apply qd | apply qe | apply qf | apply qg | apply qh | apply qi | apply qj | apply qk) <;> intro hp <;> simp only [hp, g1, g2, g3, g5, g5', wl, wl2, o1, o2, v2, v3, n1, List.take_length, Nat.le_refl, m1, c1, c2, go_sem])
    refine goes_val 47 V.bool (unB w) rfl rfl ?_ ?_
    · intro G hG
      clear ih he fail hd2 hd hr
      by_cases t2 : (2 : Int) < (w.length : Int)
      · have t3 : 2 ≤ w.length := by omega
        cases t4 : (w.take 2 == [117, 110]) with
        | true =>
          have hu : unB w = decide (0 < bitN (w.drop 2)) := by rw [unB, t4, decide_eq_true t2]; rfl
          rw [hu] at hG
          simp only [g1, g2, g3, g5, g5', wl, wl2, o1, o2, v2, v3, n1, List.take_length, Nat.le_refl, m1, c1, c2, t2, t3, t4, go_sem]
          repeat' ((first | apply qa | apply qb | apply qc | apply qd | apply qe | apply qf | apply qg | apply qh | apply qi | apply qj | apply qk) <;> intro hp <;> simp only [hp, g1, g2, g3, g5, g5', wl, wl2, o1, o2, v2, v3, n1, List.take_length, Nat.le_refl, m1, c1, c2, t2, t3, t4, go_sem])
          all_goals exact hG _ (by first | rfl | (symm; assumption) | simp_all)
        | false =>
          have hu : unB w = false := by rw [unB, t4]; simp
          rw [hu] at hG
          simp only [g1, g2, g3, g5, g5', wl, wl2, o1, o2, v2, v3, n1, List.take_length, Nat.le_refl, m1, c1, c2, t2, t3, t4, go_sem]
          repeat' ((first | apply qa | apply qb | apply qc | apply qd | apply qe | apply qf | apply qg | apply qh | apply qi | apply qj | apply qk) <;> intro hp <;> simp only [hp, g1, g2, g3, g5, g5', wl, wl2, o1, o2, v2, v3, n1, List.take_length, Nat.le_refl, m1, c1, c2, t2, t3, t4, go_sem])
          all_goals exact hG _ rfl
      · have hu : unB w = false := by rw [unB, decide_eq_false t2]; rfl
        rw [hu] at hG
        simp only [g1, g2, g3, g5, g5', wl, wl2, o1, o2, v2, v3, n1, List.take_length, Nat.le_refl, m1, c1, c2, t2, go_sem]
        repeat' ((first | apply qa | apply qb | apply qc | apply qd | apply qe | apply qf | apply qg | apply qh | apply qi | apply qj | apply qk) <;> intro hp <;> simp only [hp, g1, g2, g3, g5, g5', wl, wl2, o1, o2, v2, v3, n1, List.take_length, Nat.le_refl, m1, c1, c2, t2, go_sem])
        all_goals exact hG _ rfl
    cases c3 : unB w with
    | true =>
      have c3' := c3
      simp only [unB, Bool.and_eq_true, decide_eq_true_eq] at c3'
      have hk1 : keyOne w = some ⟨3, bitN (w.drop 2), []⟩ := by rw [keyOne, if_neg (by rw [c1]; simp), if_neg c2, if_pos c3]
      have ih' : out.length < 6 → _ := fun h6 => ih (i + 1, out ++ [⟨3, bitN (w.drop 2), []⟩]) ⟨h, by simp; omega, by rw [← he, hd, keysL_one hk1 h6]⟩ (by simp only; omega)
      simp only [List.map_append, List.map_cons, List.map_nil] at ih'
      have bad : ¬ out.length < 6 → readKeys ws = ([], false) := fun h6 => fail (by rw [← he, hd]; exact keysL_full hk1 h6)
      simp only [g1, g2, g3, g5, g5', wl, wl2, o1, o2, v2, v3, n1, List.take_length, Nat.le_refl, m1, c1, c2, c3, c3'.1.1, c3'.2, go_sem]
      repeat' ((first | apply qa | apply qb | apply qc | apply qd | apply qe | apply qf | apply qg | apply qh | apply qi | apply qj | apply qk) <;> intro hp <;> simp only [hp, g1, g2, g3, g5, g5', wl, wl2, o1, o2, v2, v3, n1, List.take_length, Nat.le_refl, m1, c1, c2, c3, c3'.1.1, c3'.2, go_sem])
      all_goals first
        | exact ih' (by omega)
        | (clear ih'; omega)
        | (clear ih'; have e1 := bad (by omega); rw [e1] at hr; simp only [fin_mk, finV, resL, resV1, resIn, endA, listIn, Option.some_or, Option.none_or, oneOrTup, go_sem]; rw [← hr]; rfl)
    | false =>
    have hk1 : keyOne w = none := by rw [keyOne, if_neg (by rw [c1]; simp), if_neg c2, if_neg (by rw [c3]; simp)]
    have e1 := fail (by rw [← he, hd, hd2]; exact keysL_end hk1)
    rw [e1] at hr
    have m4 : ((ws.length : Nat) : Int) ≤ ((i + 1 : Nat) : Int) := by omega
    have dB0 : decB [] = false := by
      cases hq : decB [] with
      | false => rfl
      | true =>
        simp only [decB, Bool.and_eq_true, beq_iff_eq] at hq
        exact absurd hq.2.2 (itoa_ne (Int.le_refl 0))
    have dN0 : decN [] = 0 := by rw [decN, dB0]; rfl
    have r0 : within ((([] : List UInt8).length : Nat) : Int) 1 20 = false := by decide
    cases k1 : (w == [115, 117, 98, 106, 101, 99, 116]) with
    | true =>
      have kk : (w == [116, 101, 120, 116]) = false := by rw [eq_of_beq k1]; decide
      simp only [g1, g2, g3, g5, g5', wl, wl2, o1, o2, v2, v3, n1, List.take_length, Nat.le_refl, m1, c1, c2, c3, k1, kk, m4, z0, go_sem]
      repeat' ((first | apply qa | apply qb | apply qc | apply qd | apply qe | apply qf | apply qg | apply qh | apply qi | apply qj | apply qk) <;> intro hp <;> simp only [hp, g1, g2, g3, g5, g5', wl, wl2, o1, o2, v2, v3, n1, List.take_length, Nat.le_refl, m1, c1, c2, c3, k1, kk, m4, z0, go_sem])
      all_goals (simp only [fin_mk, finV, resL, resV1, resIn, endA, listIn, Option.some_or, Option.none_or, oneOrTup, go_sem]; rw [← hr]; rfl)
    | false =>
    cases k2 : (w == [116, 101, 120, 116]) with
    | true =>
      simp only [g1, g2, g3, g5, g5', wl, wl2, o1, o2, v2, v3, n1, List.take_length, Nat.le_refl, m1, c1, c2, c3, k1, k2, m4, z0, go_sem]
      repeat' ((first | apply qa | apply qb | apply qc | apply qd | apply qe | apply qf | apply qg | apply qh | apply qi | apply qj | apply qk) <;> intro hp <;> simp only [hp, g1, g2, g3, g5, g5', wl, wl2, o1, o2, v2, v3, n1, List.take_length, Nat.le_refl, m1, c1, c2, c3, k1, k2, m4, z0, go_sem])
      all_goals (simp only [fin_mk, finV, resL, resV1, resIn, endA, listIn, Option.some_or, Option.none_or, oneOrTup, go_sem]; rw [← hr]; rfl)
    | false =>
    cases k3 : (w == [117, 105, 100]) with
    | true =>
      simp only [g1, g2, g3, g5, g5', wl, wl2, o1, o2, v2, v3, n1, List.take_length, Nat.le_refl, m1, c1, c2, c3, k1, k2, k3, m4, z0, go_sem]
      repeat' ((first | apply qa | apply qb | apply qc | apply qd | apply qe | apply qf | apply qg | apply qh | apply qi | apply qj | apply qk) <;> intro hp <;> simp only [hp, g1, g2, g3, g5, g5', wl, wl2, o1, o2, v2, v3, n1, List.take_length, Nat.le_refl, m1, c1, c2, c3, k1, k2, k3, m4, z0, go_sem])
      all_goals (simp only [fin_mk, finV, resL, resV1, resIn, endA, listIn, Option.some_or, Option.none_or, oneOrTup, go_sem]; rw [← hr]; rfl)
    | false =>
    cases k4 : (w == [109, 111, 100, 115, 101, 113]) with
    | true =>
      simp only [g1, g2, g3, g5, g5', wl, wl2, o1, o2, v2, v3, n1, List.take_length, Nat.le_refl, m1, c1, c2, c3, k1, k2, k3, k4, m4, z0, dB0, dN0, go_sem]
      repeat' ((first | apply qa | apply qb | apply qc | apply qd | apply qe | apply qf | apply qg | apply qh | apply qi | apply qj | apply qk) <;> intro hp <;> simp only [hp, g1, g2, g3, g5, g5', wl, wl2, o1, o2, v2, v3, n1, List.take_length, Nat.le_refl, m1, c1, c2, c3, k1, k2, k3, k4, m4, z0, dB0, dN0, go_sem])
      all_goals (simp only [fin_mk, finV, resL, resV1, resIn, endA, listIn, Option.some_or, Option.none_or, oneOrTup, go_sem]; rw [← hr]; rfl)
    | false =>
    simp only [g1, g2, g3, g5, g5', wl, wl2, o1, o2, v2, v3, n1, List.take_length, Nat.le_refl, m1, c1, c2, c3, k1, k2, k3, k4, m4, z0, go_sem]
    repeat' ((first | apply qa | apply qb | apply qc | apply qd | apply qe | apply qf | apply qg | apply qh | apply qi | apply qj | apply qk) <;> intro hp <;> simp only [hp, g1, g2, g3, g5, g5', wl, wl2, o1, o2, v2, v3, n1, List.take_length, Nat.le_refl, m1, c1, c2, c3, k1, k2, k3, k4, m4, z0, go_sem])
    all_goals (simp only [fin_mk, finV, resL, resV1, resIn, endA, listIn, Option.some_or, Option.none_or, oneOrTup, go_sem]; rw [← hr]; rfl)
end Go.Proofs.YtnbkmmjnpbfhnaaDoor.L

namespace Go.Proofs.YtnbkmmjnpbfhnaaDoor.L
open Go Go.VM
set_option maxRecDepth 100000
set_option maxHeartbeats 4000000
set_option linter.unusedSimpArgs false
set_option linter.unusedVariables false
theorem parse_digits : ∀ (s : List UInt8) (acc : Nat), s.all digB = true → (acc + 1) * 10 ^ s.length ≤ 100000000000 → Lib.parseUint10 acc s = .ok (acc * 10 ^ s.length + (numV s).toNat)
  | [], acc, _, _ => by simp [Lib.parseUint10, numV]
  | c :: r, acc, hd, hb => by
    rw [List.all_cons, Bool.and_eq_true] at hd
    have hc := digB_iff hd.1
    rw [List.length_cons, Nat.pow_succ] at hb
    have h1 : (acc * 10 + (c.toNat - 48) + 1) * 10 ^ r.length ≤ 100000000000 := by
      refine Nat.le_trans (Nat.mul_le_mul_right _ (show acc * 10 + (c.toNat - 48) + 1 ≤ (acc + 1) * 10 by omega)) ?_
      rw [Nat.mul_assoc, Nat.mul_comm 10]; exact hb
    have hp : 1 ≤ 10 ^ r.length := Nat.one_le_pow _ _ (by omega)
    have h2 : acc * 10 + (c.toNat - 48) + 1 ≤ 100000000000 := Nat.le_trans (Nat.le_mul_of_pos_right _ hp) h1
    rw [Lib.parseUint10, if_pos (by omega), if_neg (by omega), if_neg (by omega), parse_digits r _ hd.2 h1]
    congr 1
    have key : ∀ (l : List UInt8) (n : Int), l.foldl stepV n = n * 10 ^ l.length + l.foldl stepV 0 := by
      intro l
      induction l with
      | nil => intro n; simp
      | cons x l ih =>
        intro n
        rw [List.foldl_cons, List.foldl_cons, ih (stepV n x), ih (stepV 0 x), List.length_cons, Int.pow_succ]
        simp only [stepV]
        rw [Int.add_mul, Int.add_mul]
        have : 10 * n * 10 ^ l.length = n * (10 ^ l.length * 10) := by rw [Int.mul_comm 10 n, Int.mul_assoc, Int.mul_comm 10]
        omega
    have hv := numV_bound r hd.2
    have e : numV (c :: r) = ((c.toNat - 48 : Nat) : Int) * 10 ^ r.length + numV r := by
      rw [numV, List.foldl_cons, key]
      have : stepV 0 c = ((c.toNat - 48 : Nat) : Int) := by simp only [stepV]; omega
      rw [this]; rfl
    have e2 : (numV (c :: r)).toNat = (c.toNat - 48) * 10 ^ r.length + (numV r).toNat := by
      rw [e]
      have : (((c.toNat - 48 : Nat) : Int) * 10 ^ r.length) = (((c.toNat - 48) * 10 ^ r.length : Nat) : Int) := by push_cast; rfl
      rw [this]; omega
    rw [e2, List.length_cons, Nat.pow_succ, Nat.add_mul]
    have : acc * 10 * 10 ^ r.length = acc * (10 ^ r.length * 10) := by rw [Nat.mul_assoc, Nat.mul_comm 10]
    omega
def atoiV (s : List UInt8) : Int := match Lib.atoiAll s with | .ok v => v | .syntax => 0 | .range => Lib.atoiSat s
def atoiBad (s : List UInt8) : Bool := match Lib.atoiAll s with | .ok _ => false | _ => true
theorem atoi_digits {s : List UInt8} (h : s.all digB = true) (hl : s.length ≤ 10) (hne : s ≠ []) : Lib.atoiAll s = .ok (numV s) := by
  cases s with
  | nil => exact absurd rfl hne
  | cons c r =>
    have hc := digB_iff (List.all_eq_true.1 h c (by simp))
    have h1 : ¬ (c.toNat = 43 ∨ c.toNat = 45) := by omega
    have h2 : ¬ c.toNat = 45 := by omega
    have hv := numV_bound (c :: r) h
    have hp : (10 : Nat) ^ (c :: r).length ≤ 10 ^ 10 := Nat.pow_le_pow_right (by omega) hl
    have hq := parse_digits (c :: r) 0 h (by omega)
    have hlt : numV (c :: r) < 10 ^ 10 := by
      have h6 : ((10 : Int) ^ (c :: r).length) = (((10 : Nat) ^ (c :: r).length : Nat) : Int) := by push_cast; rfl
      have h7 := hv.2
      rw [h6] at h7
      generalize (10 : Nat) ^ (c :: r).length = q at *
      omega
    unfold Lib.atoiAll
    simp only [h1, if_false, Lib.parseMag, reduceCtorEq, hq]
    rw [Nat.zero_mul, Nat.zero_add, if_neg (by omega), if_neg (by omega)]
    simp only [h2, if_false]
    congr 1; omega
theorem dec_atoi (s : List UInt8) : (!atoiBad s && (decide (0 ≤ atoiV s) && decide (atoiV s ≤ 1000000000)) && (Lib.itoa (atoiV s) == s)) = decB s ∧ (decB s = true → atoiV s = numV s ∧ atoiBad s = false) := by
  have fwd : decB s = true → Lib.atoiAll s = .ok (numV s) := by
    intro h
    have hl := dec_len h
    simp only [decB, Bool.and_eq_true, decide_eq_true_eq, beq_iff_eq] at h
    refine atoi_digits h.1 hl ?_
    intro e
    have := h.2.2
    rw [e] at this
    exact itoa_ne (Int.le_refl 0) this
  have fwd2 : decB s = true → atoiV s = numV s ∧ atoiBad s = false := by
    intro h
    have := fwd h
    constructor
    · unfold atoiV; rw [this]
    · unfold atoiBad; rw [this]
  refine ⟨?_, fwd2⟩
  rw [Bool.eq_iff_iff]
  constructor
  · intro h
    simp only [Bool.and_eq_true, decide_eq_true_eq, beq_iff_eq] at h
    obtain ⟨⟨_, h1, h2⟩, h3⟩ := h
    obtain ⟨a1, a2⟩ := itoa_read h1
    rw [h3] at a1 a2
    rw [decB, a1, a2, h3]
    simp [h2]
  · intro h
    obtain ⟨e1, e2⟩ := fwd2 h
    have hb := h
    simp only [decB, Bool.and_eq_true, decide_eq_true_eq, beq_iff_eq] at h
    have := (numV_bound s h.1).1
    rw [e1, e2, h.2.2]
    simp [this, h.2.1]
open Classical in
noncomputable def spAtoi : VM.Spec := { modes := [.rd], run := fun | [.str s] => if s.length ≤ 4194304 then some (.tup [.int .i64 (atoiV s), .err (atoiBad s)], []) else none | _ => none, need := ["strconv.ErrSyntax", "strconv.ErrRange"] }
attribute [go_sem] spAtoi
theorem spAtoi_in {ins : List V} {r : V} {outs : List V} (h : spAtoi.run ins = some (r, outs)) : ∃ (s : (List UInt8)), ins = [.str s] ∧ (s.length ≤ 4194304) ∧ .tup [.int .i64 (atoiV s), .err (atoiBad s)] = r ∧ outs = [] := by
  unfold spAtoi at h
  simp only at h
  split at h
  · rename_i s
    split at h
    case isFalse => cases h
    rename_i hc
    simp only [Option.some.injEq, Prod.mk.injEq] at h
    obtain ⟨h1, h2⟩ := h
    exact ⟨s, rfl, hc, h1, h2.symm⟩
  · cases h
theorem ow_two {w : World} {a b : V} {c d : Value} (h1 : OW w a c (fun _ => False)) (h2 : OW w b d (fun _ => False)) : ∃ N, OW w (.tup [a, b]) (.tuple #[c, d]) N ∧ ∀ k, ¬ N k :=
  ⟨_, .tup [a, b] #[c, d] (fun _ _ => False) rfl (fun i x y hx hy => by
    match i with
    | 0 => simp at hx hy; subst hx hy; exact h1
    | 1 => simp at hx hy; subst hx hy; exact h2
    | i + 2 => simp at hx) (fun _ _ _ _ _ h => h.elim), fun k ⟨_, _, h⟩ => h⟩
theorem ok_strconv_Atoi : FnOk Tryd.prog 42 spAtoi := by
  refine fnOk_of_calls (n := 1) Tryd.func42 rfl rfl rfl fun w S ins r outs cs hG hrun ht hS => ?_
  obtain ⟨s, rfl, hl, rfl, rfl⟩ := spAtoi_in hrun
  refine ⟨rfl, ?_⟩
  cases ht with
  | cons h1 t =>
    cases t
    cases h1 with
    | str b _ hb =>
      subst hb
      have hsz : b.size = b.data.toList.length := by rw [Array.length_toList]; rfl
      cases ha : Lib.atoiAll b.data.toList with
      | ok v =>
        refine (Tryd.strconv_Atoi_ok b (by omega) v ha w).mono ?_
        rintro e w' ⟨rfl, hw⟩
        obtain ⟨N, ho, hN⟩ := ow_two (w := w') (.int .i64 v) .errN
        refine ⟨_, N, rfl, ?_, by simpa only [atoiV, atoiBad, ha] using ho, fun k hk => absurd hk (hN k)⟩
        rcases hw with rfl | ⟨t, rfl⟩
        · exact Fr.refl _ _
        · exact fr_of_below (Lib.bytesWorld_below w _ _)
      | «syntax» =>
        obtain ⟨tp, p, hv⟩ := hG.errS (by simp [spAtoi])
        refine (Tryd.strconv_Atoi_syntax_var b (by omega) ha tp p w hv).mono ?_
        rintro e w' ⟨M, rfl, _, _, hbl⟩
        obtain ⟨N, ho, hN⟩ := ow_two (w := w') (.int .i64 0) (.errS _ _)
        exact ⟨_, N, rfl, fr_of_below hbl, by simpa only [atoiV, atoiBad, ha] using ho, fun k hk => absurd hk (hN k)⟩
      | range =>
        obtain ⟨tp, p, hv⟩ := hG.errR (by simp [spAtoi])
        refine (Tryd.strconv_Atoi_range_var b (by omega) ha tp p w hv).mono ?_
        rintro e w' ⟨M, rfl, _, _, hbl⟩
        obtain ⟨N, ho, hN⟩ := ow_two (w := w') (.int .i64 (Lib.atoiSat b.data.toList)) (.errS _ _)
        exact ⟨_, N, rfl, fr_of_below hbl, by simpa only [atoiV, atoiBad, ha] using ho, fun k hk => absurd hk (hN k)⟩
open Classical in
noncomputable def spReadDecI : VM.Spec := { modes := [.rd], run := fun | [.str s] => if s.length ≤ 4194304 then some (.tup [.int .i64 (decN s), .bool (decB s)], []) else none | _ => none, need := ["internal/strconv.uint64pow10", "strconv.ErrSyntax", "strconv.ErrRange"] }
attribute [go_sem] spReadDecI
theorem spReadDecI_in {ins : List V} {r : V} {outs : List V} (h : spReadDecI.run ins = some (r, outs)) : ∃ (s : (List UInt8)), ins = [.str s] ∧ (s.length ≤ 4194304) ∧ .tup [.int .i64 (decN s), .bool (decB s)] = r ∧ outs = [] := by
  unfold spReadDecI at h
  simp only at h
  split at h
  · rename_i s
    split at h
    case isFalse => cases h
    rename_i hc
    simp only [Option.some.injEq, Prod.mk.injEq] at h
    obtain ⟨h1, h2⟩ := h
    exact ⟨s, rfl, hc, h1, h2.symm⟩
  · cases h
def T_impl_ReadDecimal : Hints := ⟨lk [], lk [], lk [(0, [0]), (1, [0, 4, 5]), (2, [4, 23]), (3, [2, 3]), (4, [2, 3])], lk []⟩
noncomputable def Phi_impl_ReadDecimal : Tab := lk [(42, spAtoi), (19, spWithin), (43, spDecimal)]
attribute [go_sem] T_impl_ReadDecimal Phi_impl_ReadDecimal
theorem phi_impl_ReadDecimal : ∀ f sp, Phi_impl_ReadDecimal f = some sp → FnOk Tryd.prog f sp ∧ ∀ n ∈ sp.need, n ∈ (["internal/strconv.uint64pow10", "strconv.ErrSyntax", "strconv.ErrRange"] : List String) := phi_cons ok_strconv_Atoi (fun n (h : n ∈ (["strconv.ErrSyntax", "strconv.ErrRange"] : List String)) => by simp only [List.mem_cons, List.not_mem_nil, or_false] at h; rcases h with rfl | rfl <;> simp) (phi_cons ok_impl_within (n0 rfl) (phi_cons ok_impl_Decimal (fun n (h : n ∈ (["internal/strconv.uint64pow10"] : List String)) => by simp only [List.mem_cons, List.not_mem_nil, or_false] at h; rcases h with rfl <;> simp) (phi_nil)))
theorem ok_impl_ReadDecimal : FnOk Tryd.prog 29 spReadDecI := by
  refine fn_ok (Φ := Phi_impl_ReadDecimal) (T := T_impl_ReadDecimal) phi_impl_ReadDecimal mixed Tryd.func29 rfl rfl rfl (by decide) ?_
  intro ins r outs hr hl
  clear hl
  have hs := spReadDecI_in hr
  clear hr
  obtain ⟨s, rfl, hc, hr, rfl⟩ := hs
  simp only [spReadDecI, Tryd.f29, Go.VM.initS]
  obtain ⟨ha, hb⟩ := dec_atoi s
  cases h1 : atoiBad s with
  | true =>
    have e1 : decB s = false := by rw [← ha, h1]; rfl
    have e2 : decN s = 0 := by rw [decN, e1]; rfl
    rw [e1, e2] at hr
    simp only [hc, h1, go_sem]
    repeat' ((first | apply qa | apply qb | apply qc | apply qd | apply qe | apply qf | apply qg | apply qh | apply qi | apply qj | apply qk) <;> intro hp <;> simp only [hp, hc, h1, go_sem])
    all_goals (simp only [fin_mk, finV, resL, resV1, resIn, endA, listIn, Option.some_or, Option.none_or, oneOrTup, go_sem]; rw [← hr])
  | false =>
    cases h2 : within (atoiV s) 0 1000000000 with
    | false =>
      have h2' : (decide (0 ≤ atoiV s) && decide (atoiV s ≤ 1000000000)) = false := h2
      have e1 : decB s = false := by rw [← ha, h1, h2']; rfl
      have e2 : decN s = 0 := by rw [decN, e1]; rfl
      rw [e1, e2] at hr
      simp only [hc, h1, h2, go_sem]
      repeat' ((first | apply qa | apply qb | apply qc | apply qd | apply qe | apply qf | apply qg | apply qh | apply qi | apply qj | apply qk) <;> intro hp <;> simp only [hp, hc, h1, h2, go_sem])
      all_goals (simp only [fin_mk, finV, resL, resV1, resIn, endA, listIn, Option.some_or, Option.none_or, oneOrTup, go_sem]; rw [← hr])
    | true =>
      have h2' : (decide (0 ≤ atoiV s) && decide (atoiV s ≤ 1000000000)) = true := h2
      have h3 := h2'
      simp only [Bool.and_eq_true, decide_eq_true_eq] at h3
      cases h4 : (Lib.itoa (atoiV s) == s) with
      | false =>
        have e1 : decB s = false := by rw [← ha, h1, h2', h4]; rfl
        have e2 : decN s = 0 := by rw [decN, e1]; rfl
        have h5 : (Lib.itoa (atoiV s) != s) = true := by rw [bne, h4]; rfl
        rw [e1, e2] at hr
        simp only [hc, h1, h2, h3.1, h3.2, h4, h5, go_sem]
        repeat' ((first | apply qa | apply qb | apply qc | apply qd | apply qe | apply qf | apply qg | apply qh | apply qi | apply qj | apply qk) <;> intro hp <;> simp only [hp, hc, h1, h2, h3.1, h3.2, h4, h5, go_sem])
        all_goals (simp only [fin_mk, finV, resL, resV1, resIn, endA, listIn, Option.some_or, Option.none_or, oneOrTup, go_sem]; rw [← hr])
      | true =>
        have e1 : decB s = true := by rw [← ha, h1, h2', h4]; rfl
        have e2 : decN s = atoiV s := by rw [decN, e1, if_pos rfl, (hb e1).1]
        have h5 : (Lib.itoa (atoiV s) != s) = false := by rw [bne, h4]; rfl
        rw [e1, e2] at hr
        simp only [hc, h1, h2, h3.1, h3.2, h4, h5, go_sem]
        repeat' ((first | apply qa | apply qb | apply qc | apply qd | apply qe | apply qf | apply qg | apply qh | apply qi | apply qj | apply qk) <;> intro hp <;> simp only [hp, hc, h1, h2, h3.1, h3.2, h4, h5, go_sem])
        all_goals (simp only [fin_mk, finV, resL, resV1, resIn, endA, listIn, Option.some_or, Option.none_or, oneOrTup, go_sem]; rw [← hr])
end Go.Proofs.YtnbkmmjnpbfhnaaDoor.L

namespace Go.Proofs.YtnbkmmjnpbfhnaaDoor.L
open Go Go.VM
set_option maxRecDepth 100000
set_option maxHeartbeats 4000000
set_option linter.unusedSimpArgs false
set_option linter.unusedVariables false
def flagKeyV (w : List UInt8) : Key := if 0 < bitN w then ⟨2, bitN w, []⟩ else if unB w = true then ⟨3, bitN (w.drop 2), []⟩ else ⟨0, 0, []⟩
theorem unB_cut (w : List UInt8) : unB w = (([117, 110] : List UInt8).isPrefixOf w && decide (0 < bitN (cutPrefix w [117, 110]))) := by
  match w with
  | [] => decide
  | [a] =>
    have : (([117, 110] : List UInt8).isPrefixOf [a]) = false := by simp [List.isPrefixOf]
    rw [this, unB]; simp
  | [a, b] =>
    have h0 : bitN [] = 0 := by decide
    have h1 : unB [a, b] = false := by simp [unB]
    rw [h1, cutPrefix]
    cases hp : ([117, 110] : List UInt8).isPrefixOf [a, b] with
    | false => rfl
    | true => rw [if_pos rfl]; simp [h0]
  | a :: b :: c :: r =>
    have hl : decide ((2 : Int) < (((a :: b :: c :: r).length : Nat) : Int)) = true := by simp; omega
    have hq : ((a :: b :: c :: r).take 2 == [117, 110]) = ([117, 110] : List UInt8).isPrefixOf (a :: b :: c :: r) := by
      rw [Bool.eq_iff_iff]
      simp only [List.take_succ_cons, List.take_zero, beq_iff_eq, List.isPrefixOf, Bool.and_true, Bool.and_eq_true, List.cons.injEq, and_true]
      exact ⟨fun h => ⟨h.1.symm, h.2.symm⟩, fun h => ⟨h.1.symm, h.2.symm⟩⟩
    rw [unB, hl, hq, cutPrefix, Bool.true_and]
    cases hp : ([117, 110] : List UInt8).isPrefixOf (a :: b :: c :: r) with
    | false => rfl
    | true => rw [if_pos rfl]; rfl
def wordKeyV (w m : List UInt8) : Key × Bool :=
  if (w == [115, 117, 98, 106, 101, 99, 116]) = true then (⟨4, 0, m⟩, within m.length 1 20) else
  if (w == [116, 101, 120, 116]) = true then (⟨5, 0, m⟩, within m.length 1 20) else
  if (w == [117, 105, 100]) = true then (⟨6, 0, m⟩, readOk m 9999) else
  if (w == [109, 111, 100, 115, 101, 113]) = true then (⟨7, decN m, []⟩, decB m && decide (decN m ≤ 100000)) else (⟨0, 0, []⟩, false)
theorem keyTwo_eq (w m : List UInt8) : keyTwo w m = if (wordKeyV w m).2 = true then some (wordKeyV w m).1 else none := by
  unfold keyTwo wordKeyV
  split
  · rfl
  split
  · rfl
  split
  · rfl
  split
  · simp only [Bool.and_eq_true, decide_eq_true_eq]
  · rfl
theorem keyOne_eq {w : List UInt8} (h : (w == [97, 108, 108]) = false) : keyOne w = if (flagKeyV w).Kind = 0 then none else some (flagKeyV w) := by
  unfold keyOne flagKeyV
  rw [if_neg (by rw [h]; simp)]
  split
  · rfl
  split
  · rfl
  · rfl
def keysI : Nat → List (List UInt8) → List Key → Option (List Key)
  | 0, _, _ => none
  | _ + 1, [], out => some out
  | f + 1, w :: r, out => match keyOne w with
    | some k => keysI f r (out ++ [k])
    | none => match r with
      | [] => none
      | m :: r' => match keyTwo w m with
        | some k => keysI f r' (out ++ [k])
        | none => none
theorem keysI_ge : ∀ (f : Nat) (ws : List (List UInt8)) (out ks : List Key), keysI f ws out = some ks → out.length ≤ ks.length
  | 0, _, _, _, h => by cases h
  | f + 1, [], out, ks, h => by simp only [keysI, Option.some.injEq] at h; rw [h]; exact Nat.le_refl _
  | f + 1, w :: r, out, ks, h => by
    simp only [keysI] at h
    split at h
    · have := keysI_ge f _ _ ks h
      simp at this; omega
    · split at h
      · cases h
      · split at h
        · have := keysI_ge f _ _ ks h
          simp at this; omega
        · cases h
def cap6 : Option (List Key) → Option (List Key)
  | some ks => if ks.length ≤ 6 then some ks else none
  | none => none
theorem cap6_gt {f : Nat} {ws : List (List UInt8)} {out : List Key} (h : 6 < out.length) : cap6 (keysI f ws out) = none := by
  cases hk : keysI f ws out with
  | none => rfl
  | some ks => rw [cap6, if_neg]; have := keysI_ge f ws out ks hk; omega
theorem keysL_cap : ∀ (f : Nat) (ws : List (List UInt8)) (out : List Key), ws.length < f → out.length ≤ 6 → keysL ws out = cap6 (keysI f ws out)
  | 0, _, _, h, _ => by omega
  | f + 1, [], out, _, h6 => by rw [keysL, keysI, cap6, if_pos h6]
  | f + 1, w :: r, out, h, h6 => by
    simp only [List.length_cons] at h
    simp only [keysI]
    cases h1 : keyOne w with
    | some k =>
      simp only
      by_cases hlt : out.length < 6
      · rw [keysL_one h1 hlt]
        exact keysL_cap f r _ (by omega) (by simp; omega)
      · rw [keysL_full h1 hlt, cap6_gt (by simp; omega)]
    | none =>
      cases r with
      | nil => rw [keysL_end h1]; rfl
      | cons m r =>
        simp only [List.length_cons] at h
        simp only
        cases h2 : keyTwo w m with
        | none => rw [keysL_two_full h1 (.inl h2)]; rfl
        | some k =>
          simp only
          by_cases hlt : out.length < 6
          · rw [keysL_two h1 h2 hlt]
            exact keysL_cap f r _ (by omega) (by simp; omega)
          · rw [keysL_two_full h1 (.inr hlt), cap6_gt (by simp; omega)]
theorem readKeys_i {ws : List (List UInt8)} {f : Nat} (h : ws.length < f) : readKeys ws = match keysI f ws [] with
    | some ks => if 1 ≤ ks.length ∧ ks.length ≤ 6 then (ks, true) else ([], false)
    | none => ([], false) := by
  rw [readKeys, keysL_cap f ws [] h (by simp)]
  cases hk : keysI f ws [] with
  | none => rfl
  | some ks =>
    simp only [cap6]
    by_cases h6 : ks.length ≤ 6
    · rw [if_pos h6]
      by_cases h0 : 1 ≤ ks.length
      · rw [if_pos ⟨h0, h6⟩]; simp; omega
      · have : ks = [] := List.eq_nil_of_length_eq_zero (by omega)
        subst this; rfl
    · rw [if_neg h6, if_neg (by omega)]
def T_impl_flagOf : Hints := ⟨lk [], lk [(2, [0, 5, 6, 7])], lk [(0, [0]), (1, [0, 5, 6, 7]), (2, [0, 5, 6, 7, 8]), (3, [0, 3, 4, 5, 6, 7]), (4, [0, 3, 5, 6, 7, 14]), (5, [2]), (6, [0, 5, 6, 7]), (7, [2])], lk []⟩
noncomputable def Phi_impl_flagOf : Tab := lk [(33, spFlagNames)]
attribute [go_sem] T_impl_flagOf Phi_impl_flagOf
theorem phi_impl_flagOf : ∀ f sp, Phi_impl_flagOf f = some sp → FnOk Tryd.prog f sp ∧ ∀ n ∈ sp.need, n ∈ ([] : List String) := phi_cons ok_impl_flagNames (n0 rfl) (phi_nil)
theorem ok_impl_flagOf : FnOk Tryd.prog 26 spBit := by
  refine fn_ok (Φ := Phi_impl_flagOf) (T := T_impl_flagOf) phi_impl_flagOf mixed Tryd.func26 rfl rfl rfl (by decide) ?_
  intro ins r outs hr hl
  clear hl
  have hs := spBit_in hr
  clear hr
  obtain ⟨w, rfl, hc, hr, rfl⟩ := hs
  simp only [spBit, Tryd.f26, Go.VM.initS]
  simp only [go_sem]
  repeat' ((first | apply qa | apply qb | apply qc | apply qd | apply qe | apply qf | apply qg | apply qh | apply qi | apply qj | apply qk) <;> intro hp <;> simp only [hp, go_sem])
  refine loop_go (fun i : Nat => [(7, .int .i64 (i : Int))]) (fun _ => []) (fun i => 5 - i) (fun i => i ≤ 5 ∧ bitF (5 - i) i w = bitN w) 0 ⟨by omega, rfl⟩ rfl rfl ?_
  rintro i ⟨hi, he⟩ ih
  rcases Nat.lt_or_ge i 5 with h | h
  · have hfl : flagNames.length = 5 := rfl
    have g1 : (i : Int) < flagNames.length := by omega
    have g2 : (0 : Int) ≤ i := by omega
    have g3 : flagNames[i]? = some (flagNames.getD i []) := flag_names ⟨i, h⟩
    have g5 := wrap_succ h (by omega)
    have hp : 2 ^ i ≤ 2 ^ 4 := Nat.pow_le_pow_right (by omega) (by omega)
    have g7 : ¬ (i : Int) < 0 := by omega
    have g6 : IntKind.i64.wrap (1 * 2 ^ (min i 64)) = ((2 ^ i : Nat) : Int) := by
      rw [Nat.min_eq_left (show i ≤ 64 by omega), Int.one_mul]
      have : (2 : Int) ^ i = ((2 ^ i : Nat) : Int) := by push_cast; rfl
      have hw : ∀ q : Nat, q ≤ 16 → IntKind.i64.wrap (q : Int) = q := fun q hq => wrap64 (by omega) (by omega)
      rw [this]
      exact hw _ (Nat.le_trans hp (by decide))
    rw [show 5 - i = (5 - (i + 1)) + 1 by omega, bitF] at he
    generalize flagNames.getD i [] = nm at *
    generalize flagNames = NM at *
    cases hq : (nm == w) with
    | true =>
      rw [if_pos hq] at he
      rw [← he] at hr
      simp only [g1, g2, g3, g5, g6, g7, hq, go_sem]
      repeat' ((first | apply qa | apply qb | apply qc | apply qd | apply qe | apply qf | apply qg | apply qh | apply qi | apply qj | apply qk) <;> intro hp <;> simp only [hp, g1, g2, g3, g5, g6, g7, hq, go_sem])
      simp only [fin_mk, finV, resL, resV1, resIn, endA, listIn, Option.some_or, Option.none_or, oneOrTup, go_sem]
      rw [← hr]
    | false =>
      rw [if_neg (by rw [hq]; simp)] at he
      simp only [g1, g2, g3, g5, hq, go_sem]
      repeat' ((first | apply qa | apply qb | apply qc | apply qd | apply qe | apply qf | apply qg | apply qh | apply qi | apply qj | apply qk) <;> intro hp <;> simp only [hp, g1, g2, g3, g5, hq, go_sem])
      exact ih (i + 1) ⟨h, he⟩ (by omega)
  · have h5 : i = 5 := by omega
    subst h5
    have g1 : ¬ ((5 : Nat) : Int) < flagNames.length := by decide
    have he' : (0 : Int) = bitN w := he
    rw [← he'] at hr
    generalize flagNames = NM at *
    simp only [g1, go_sem]
    repeat' ((first | apply qa | apply qb | apply qc | apply qd | apply qe | apply qf | apply qg | apply qh | apply qi | apply qj | apply qk) <;> intro hp <;> simp only [hp, g1, go_sem])
    simp only [fin_mk, finV, resL, resV1, resIn, endA, listIn, Option.some_or, Option.none_or, oneOrTup, go_sem]
    rw [← hr]
open Classical in
noncomputable def spFlagKey : VM.Spec := { modes := [.rd], run := fun | [.str w] => if w.length ≤ 4194304 then some (Key.enc (flagKeyV w), []) else none | _ => none, need := [] }
attribute [go_sem] spFlagKey
theorem spFlagKey_in {ins : List V} {r : V} {outs : List V} (h : spFlagKey.run ins = some (r, outs)) : ∃ (w : (List UInt8)), ins = [.str w] ∧ (w.length ≤ 4194304) ∧ Key.enc (flagKeyV w) = r ∧ outs = [] := by
  unfold spFlagKey at h
  simp only at h
  split at h
  · rename_i w
    split at h
    case isFalse => cases h
    rename_i hc
    simp only [Option.some.injEq, Prod.mk.injEq] at h
    obtain ⟨h1, h2⟩ := h
    exact ⟨w, rfl, hc, h1, h2.symm⟩
  · cases h
def T_impl_flagKey : Hints := ⟨lk [], lk [], lk [(0, [0, 2]), (1, [0, 2, 3]), (2, [0, 2, 3, 9]), (3, [2]), (4, [2, 4, 5]), (5, [2, 3, 5]), (6, [2, 3, 23]), (7, [2]), (8, [2])], lk []⟩
noncomputable def Phi_impl_flagKey : Tab := lk [(26, spBit), (27, spCutPrefix)]
attribute [go_sem] T_impl_flagKey Phi_impl_flagKey
theorem phi_impl_flagKey : ∀ f sp, Phi_impl_flagKey f = some sp → FnOk Tryd.prog f sp ∧ ∀ n ∈ sp.need, n ∈ ([] : List String) := phi_cons ok_impl_flagOf (n0 rfl) (phi_cons ok_strings_CutPrefix (n0 rfl) (phi_nil))
theorem ok_impl_flagKey : FnOk Tryd.prog 17 spFlagKey := by
  refine fn_ok (Φ := Phi_impl_flagKey) (T := T_impl_flagKey) phi_impl_flagKey mixed Tryd.func17 rfl rfl rfl (by decide) ?_
  intro ins r outs hr hl
  clear hl
  have hs := spFlagKey_in hr
  clear hr
  obtain ⟨w, rfl, hc, hr, rfl⟩ := hs
  simp only [spFlagKey, Tryd.f17, Go.VM.initS]
  have hl : w.length ≤ 1099511627776 := by omega
  have h2 : ([117, 110] : List UInt8).length ≤ 1099511627776 := by decide
  have hcl : (cutPrefix w [117, 110]).length ≤ 4194304 := by
    unfold cutPrefix; split
    · rw [List.length_drop]; omega
    · exact hc
  have hu := unB_cut w
  by_cases c2 : 0 < bitN w
  · simp only [hc, hl, h2, hcl, c2, go_sem]
    repeat' ((first | apply qa | apply qb | apply qc | apply qd | apply qe | apply qf | apply qg | apply qh | apply qi | apply qj | apply qk) <;> intro hp <;> simp only [hp, hc, hl, h2, hcl, c2, go_sem])
    simp only [fin_mk, finV, resL, resV1, resIn, endA, listIn, Option.some_or, Option.none_or, oneOrTup, go_sem]
    rw [← hr]
    rw [flagKeyV, if_pos c2]; rfl
  cases c3 : ([117, 110] : List UInt8).isPrefixOf w with
  | false =>
    rw [c3, Bool.false_and] at hu
    simp only [hc, hl, h2, hcl, c2, c3, go_sem]
    repeat' ((first | apply qa | apply qb | apply qc | apply qd | apply qe | apply qf | apply qg | apply qh | apply qi | apply qj | apply qk) <;> intro hp <;> simp only [hp, hc, hl, h2, hcl, c2, c3, go_sem])
    all_goals (simp only [fin_mk, finV, resL, resV1, resIn, endA, listIn, Option.some_or, Option.none_or, oneOrTup, go_sem]; rw [← hr])
    all_goals (rw [flagKeyV, if_neg c2, if_neg (by rw [hu]; simp)]; rfl)
  | true =>
    rw [c3, Bool.true_and] at hu
    by_cases c4 : 0 < bitN (cutPrefix w [117, 110])
    · rw [decide_eq_true c4] at hu
      simp only [hc, hl, h2, hcl, c2, c3, c4, go_sem]
      repeat' ((first | apply qa | apply qb | apply qc | apply qd | apply qe | apply qf | apply qg | apply qh | apply qi | apply qj | apply qk) <;> intro hp <;> simp only [hp, hc, hl, h2, hcl, c2, c3, c4, go_sem])
      simp only [fin_mk, finV, resL, resV1, resIn, endA, listIn, Option.some_or, Option.none_or, oneOrTup, go_sem]
      rw [← hr]
      have e : cutPrefix w [117, 110] = w.drop 2 := by rw [cutPrefix, if_pos c3]; rfl
      rw [flagKeyV, if_neg c2, if_pos hu, e]; rfl
    · rw [decide_eq_false c4] at hu
      simp only [hc, hl, h2, hcl, c2, c3, c4, go_sem]
      repeat' ((first | apply qa | apply qb | apply qc | apply qd | apply qe | apply qf | apply qg | apply qh | apply qi | apply qj | apply qk) <;> intro hp <;> simp only [hp, hc, hl, h2, hcl, c2, c3, c4, go_sem])
      all_goals (simp only [fin_mk, finV, resL, resV1, resIn, endA, listIn, Option.some_or, Option.none_or, oneOrTup, go_sem]; rw [← hr])
      all_goals (rw [flagKeyV, if_neg c2, if_neg (by rw [hu]; simp)]; rfl)
open Classical in
noncomputable def spWordKey : VM.Spec := { modes := [.rd, .rd], run := fun | [.str w, .str m] => if w.length ≤ 4194304 ∧ m.length ≤ 4194304 then some (.tup [Key.enc ((wordKeyV w m).1), .bool ((wordKeyV w m).2)], []) else none | _ => none, need := ["internal/bytealg.MaxLen", "internal/strconv.uint64pow10", "strconv.ErrSyntax", "strconv.ErrRange"] }
attribute [go_sem] spWordKey
theorem spWordKey_in {ins : List V} {r : V} {outs : List V} (h : spWordKey.run ins = some (r, outs)) : ∃ (w : (List UInt8)) (m : (List UInt8)), ins = [.str w, .str m] ∧ (w.length ≤ 4194304 ∧ m.length ≤ 4194304) ∧ .tup [Key.enc ((wordKeyV w m).1), .bool ((wordKeyV w m).2)] = r ∧ outs = [] := by
  unfold spWordKey at h
  simp only at h
  split at h
  · rename_i w m
    split at h
    case isFalse => cases h
    rename_i hc
    simp only [Option.some.injEq, Prod.mk.injEq] at h
    obtain ⟨h1, h2⟩ := h
    exact ⟨w, m, rfl, hc, h1, h2.symm⟩
  · cases h
def T_impl_wordKey : Hints := ⟨lk [], lk [], lk [(0, [0, 1, 4]), (1, [1, 4, 10]), (2, [1, 4, 10, 11]), (3, [4, 5]), (4, [1, 4, 10, 18]), (5, [4, 5]), (6, [1, 4, 10, 25]), (7, [1, 4, 7]), (8, [4, 5]), (9, [1, 4, 35]), (10, [4, 8, 9]), (11, [4, 5]), (12, [4, 5])], lk []⟩
noncomputable def Phi_impl_wordKey : Tab := lk [(19, spWithin), (28, spReadSet), (29, spReadDecI)]
attribute [go_sem] T_impl_wordKey Phi_impl_wordKey
theorem phi_impl_wordKey : ∀ f sp, Phi_impl_wordKey f = some sp → FnOk Tryd.prog f sp ∧ ∀ n ∈ sp.need, n ∈ (["internal/bytealg.MaxLen", "internal/strconv.uint64pow10", "strconv.ErrSyntax", "strconv.ErrRange"] : List String) := phi_cons ok_impl_within (n0 rfl) (phi_cons ok_impl_ReadSet (fun n (h : n ∈ (["internal/bytealg.MaxLen"] : List String)) => by simp only [List.mem_cons, List.not_mem_nil, or_false] at h; rcases h with rfl <;> simp) (phi_cons ok_impl_ReadDecimal (fun n (h : n ∈ (["internal/strconv.uint64pow10", "strconv.ErrSyntax", "strconv.ErrRange"] : List String)) => by simp only [List.mem_cons, List.not_mem_nil, or_false] at h; rcases h with rfl | rfl | rfl <;> simp) (phi_nil)))
theorem ok_impl_wordKey : FnOk Tryd.prog 18 spWordKey := by
  refine fn_ok (Φ := Phi_impl_wordKey) (T := T_impl_wordKey) phi_impl_wordKey mixed Tryd.func18 rfl rfl rfl (by decide) ?_
  intro ins r outs hr hl
  clear hl
  have hs := spWordKey_in hr
  clear hr
  obtain ⟨w, m, rfl, hc, hr, rfl⟩ := hs
  simp only [spWordKey, Tryd.f18, Go.VM.initS]
  obtain ⟨hw, hm⟩ := hc
  cases k1 : (w == [115, 117, 98, 106, 101, 99, 116]) with
  | true =>
    simp only [hw, hm, k1, go_sem]
    repeat' ((first | apply qa | apply qb | apply qc | apply qd | apply qe | apply qf | apply qg | apply qh | apply qi | apply qj | apply qk) <;> intro hp <;> simp only [hp, hw, hm, k1, go_sem])
    simp only [fin_mk, finV, resL, resV1, resIn, endA, listIn, Option.some_or, Option.none_or, oneOrTup, go_sem]
    rw [← hr]
    rw [wordKeyV, if_pos k1]; rfl
  | false =>
  cases k2 : (w == [116, 101, 120, 116]) with
  | true =>
    simp only [hw, hm, k1, k2, go_sem]
    repeat' ((first | apply qa | apply qb | apply qc | apply qd | apply qe | apply qf | apply qg | apply qh | apply qi | apply qj | apply qk) <;> intro hp <;> simp only [hp, hw, hm, k1, k2, go_sem])
    simp only [fin_mk, finV, resL, resV1, resIn, endA, listIn, Option.some_or, Option.none_or, oneOrTup, go_sem]
    rw [← hr]
    rw [wordKeyV, if_neg (by rw [k1]; simp), if_pos k2]; rfl
  | false =>
  cases k3 : (w == [117, 105, 100]) with
  | true =>
    simp only [hw, hm, k1, k2, k3, go_sem]
    repeat' ((first | apply qa | apply qb | apply qc | apply qd | apply qe | apply qf | apply qg | apply qh | apply qi | apply qj | apply qk) <;> intro hp <;> simp only [hp, hw, hm, k1, k2, k3, go_sem])
    simp only [fin_mk, finV, resL, resV1, resIn, endA, listIn, Option.some_or, Option.none_or, oneOrTup, go_sem]
    rw [← hr]
    rw [wordKeyV, if_neg (by rw [k1]; simp), if_neg (by rw [k2]; simp), if_pos k3]; rfl
  | false =>
  cases k4 : (w == [109, 111, 100, 115, 101, 113]) with
  | true =>
    have hk : wordKeyV w m = (⟨7, decN m, []⟩, decB m && decide (decN m ≤ 100000)) := by rw [wordKeyV, if_neg (by rw [k1]; simp), if_neg (by rw [k2]; simp), if_neg (by rw [k3]; simp), if_pos k4]
    cases d1 : decB m with
    | false =>
      rw [d1, Bool.false_and] at hk
      simp only [hw, hm, k1, k2, k3, k4, d1, go_sem]
      repeat' ((first | apply qa | apply qb | apply qc | apply qd | apply qe | apply qf | apply qg | apply qh | apply qi | apply qj | apply qk) <;> intro hp <;> simp only [hp, hw, hm, k1, k2, k3, k4, d1, go_sem])
      all_goals (simp only [fin_mk, finV, resL, resV1, resIn, endA, listIn, Option.some_or, Option.none_or, oneOrTup, go_sem]; rw [← hr])
      all_goals (rw [hk]; rfl)
    | true =>
      rw [d1, Bool.true_and] at hk
      simp only [hw, hm, k1, k2, k3, k4, d1, go_sem]
      repeat' ((first | apply qa | apply qb | apply qc | apply qd | apply qe | apply qf | apply qg | apply qh | apply qi | apply qj | apply qk) <;> intro hp <;> simp only [hp, hw, hm, k1, k2, k3, k4, d1, go_sem])
      all_goals (simp only [fin_mk, finV, resL, resV1, resIn, endA, listIn, Option.some_or, Option.none_or, oneOrTup, go_sem]; rw [← hr])
      all_goals (rw [hk]; first | rfl | simp_all)
  | false =>
    simp only [hw, hm, k1, k2, k3, k4, go_sem]
    repeat' ((first | apply qa | apply qb | apply qc | apply qd | apply qe | apply qf | apply qg | apply qh | apply qi | apply qj | apply qk) <;> intro hp <;> simp only [hp, hw, hm, k1, k2, k3, k4, go_sem])
    simp only [fin_mk, finV, resL, resV1, resIn, endA, listIn, Option.some_or, Option.none_or, oneOrTup, go_sem]
    rw [← hr]
    rw [wordKeyV, if_neg (by rw [k1]; simp), if_neg (by rw [k2]; simp), if_neg (by rw [k3]; simp), if_neg (by rw [k4]; simp)]; rfl
open Classical in
noncomputable def spReadKeysI : VM.Spec := { modes := [.rd], run := fun | [.lst 1 ws'] => (decL dStr ws').bind fun ws => if ws.length ≤ 4194304 ∧ ∀ w ∈ ws, w.length ≤ 4194304 then some (.tup [.lst 3 (((readKeys ws).1).map Key.enc), .bool ((readKeys ws).2)], []) else none | _ => none, need := ["internal/bytealg.MaxLen", "internal/strconv.uint64pow10", "strconv.ErrSyntax", "strconv.ErrRange"] }
attribute [go_sem] spReadKeysI
theorem spReadKeysI_in {ins : List V} {r : V} {outs : List V} (h : spReadKeysI.run ins = some (r, outs)) : ∃ (ws : (List (List UInt8))), ins = [.lst 1 ((ws).map eStr)] ∧ (ws.length ≤ 4194304 ∧ ∀ w ∈ ws, w.length ≤ 4194304) ∧ .tup [.lst 3 (((readKeys ws).1).map Key.enc), .bool ((readKeys ws).2)] = r ∧ outs = [] := by
  unfold spReadKeysI at h
  simp only at h
  split at h
  · rename_i ws'
    simp only [Option.bind_eq_some_iff] at h
    obtain ⟨ws, h_ws, h⟩ := h
    split at h
    case isFalse => cases h
    rename_i hc
    simp only [Option.some.injEq, Prod.mk.injEq] at h
    obtain ⟨h1, h2⟩ := h
    have h_ws := decL_some (fun _ _ h => dStr_some h) h_ws
    subst h_ws
    exact ⟨ws, rfl, hc, h1, h2.symm⟩
  · cases h
def T_impl_ReadKeys : Hints := ⟨lk [(10, [(1, 10), (2, 10), (4, 10), (5, 10), (6, 10)])], lk [(2, [0, 4])], lk [(0, [0]), (1, [0, 4]), (2, [0, 4, 12]), (3, [0, 4, 5]), (4, [0, 4, 5, 20]), (5, [0, 4, 5]), (6, [0, 4, 5, 6]), (7, [0, 4, 5, 6, 24]), (8, [0, 4, 5, 27]), (9, [2, 3]), (10, [0, 4, 5, 7, 8]), (11, [0, 4, 5, 7, 39]), (12, [2, 3]), (13, [0, 4, 5, 6]), (14, [0, 4, 6]), (15, [0, 4]), (16, [4, 51]), (17, [2, 3]), (18, [2, 3])], lk []⟩
noncomputable def Phi_impl_ReadKeys : Tab := lk [(17, spFlagKey), (18, spWordKey), (19, spWithin)]
attribute [go_sem] T_impl_ReadKeys Phi_impl_ReadKeys
theorem phi_impl_ReadKeys : ∀ f sp, Phi_impl_ReadKeys f = some sp → FnOk Tryd.prog f sp ∧ ∀ n ∈ sp.need, n ∈ (["internal/bytealg.MaxLen", "internal/strconv.uint64pow10", "strconv.ErrSyntax", "strconv.ErrRange"] : List String) := phi_cons ok_impl_flagKey (n0 rfl) (phi_cons ok_impl_wordKey (fun n (h : n ∈ (["internal/bytealg.MaxLen", "internal/strconv.uint64pow10", "strconv.ErrSyntax", "strconv.ErrRange"] : List String)) => by simp only [List.mem_cons, List.not_mem_nil, or_false] at h; rcases h with rfl | rfl | rfl | rfl <;> simp) (phi_cons ok_impl_within (n0 rfl) (phi_nil)))
theorem ok_impl_ReadKeys : FnOk Tryd.prog 7 spReadKeysI := by
  refine fn_ok (Φ := Phi_impl_ReadKeys) (T := T_impl_ReadKeys) phi_impl_ReadKeys mixed Tryd.func7 rfl rfl rfl (by decide) ?_
  intro ins r outs hr hl
  clear hl
  have hs := spReadKeysI_in hr
  clear hr
  obtain ⟨ws, rfl, hc, hr, rfl⟩ := hs
  simp only [spReadKeysI, Tryd.f7, Go.VM.initS]
  obtain ⟨hl, hw⟩ := hc
  simp only [hl, go_sem]
  repeat' ((first | ((first | apply qa | apply qb | apply qc | apply qd | apply qe | apply qf | apply qg | apply qh | apply qi | apply qj | apply qk) <;> intro hp) | ((first | refine ql rfl rfl (by decide +kernel) ?_ | refine qm _ rfl rfl (by decide +kernel) ?_) <;> have hp := True.intro)) <;> simp only [hp, hl, go_sem])
  have hR := readKeys_i (ws := ws) (f := ws.length + 1) (by omega)
  refine loop_go (fun p : Nat × List Key => [(0, .lst 1 ((ws.drop p.1).map eStr))]) (fun p => [(0, ⟨.arr, 3, p.2.map Key.enc⟩)]) (fun p => ws.length - p.1) (fun p => p.1 ≤ ws.length ∧ p.2.length ≤ p.1 ∧ ∃ f, ws.length - p.1 < f ∧ keysI f (ws.drop p.1) p.2 = keysI (ws.length + 1) ws []) (0, []) ⟨Nat.zero_le _, Nat.le_refl _, ws.length + 1, by simp, rfl⟩ rfl rfl ?_
  rintro ⟨i, out⟩ ⟨hi, ho, f, hf, he⟩ ih
  simp only at hi ho hf he ih
  rcases Nat.lt_or_ge i ws.length with h | h
  case inr =>
    have hd0 : ws.drop i = [] := List.drop_of_length_le h
    have g1 : ¬ (0 : Int) < (((ws.drop i).length : Nat) : Int) := by rw [hd0]; decide
    obtain ⟨f, rfl⟩ : ∃ g, f = g + 1 := ⟨f - 1, by omega⟩
    rw [hd0, keysI] at he
    rw [← he] at hR
    simp only at hR
    cases q : within out.length 1 6 with
    | true =>
      have q2 : 1 ≤ out.length ∧ out.length ≤ 6 := by
        simp only [within, Bool.and_eq_true, decide_eq_true_eq] at q; omega
      rw [if_pos q2] at hR
      rw [hR] at hr
      clear ih
      simp only [g1, q, go_sem]
      repeat' ((first | ((first | apply qa | apply qb | apply qc | apply qd | apply qe | apply qf | apply qg | apply qh | apply qi | apply qj | apply qk) <;> intro hp) | ((first | refine ql rfl rfl (by decide +kernel) ?_ | refine qm _ rfl rfl (by decide +kernel) ?_) <;> have hp := True.intro)) <;> simp only [hp, g1, q, go_sem])
      simp only [fin_mk, finV, resL, resV1, resIn, endA, listIn, Option.some_or, Option.none_or, oneOrTup, go_sem]
      rw [← hr]
    | false =>
      have q2 : ¬ (1 ≤ out.length ∧ out.length ≤ 6) := by
        intro hq2
        simp only [within, Bool.and_eq_false_iff, decide_eq_false_iff_not] at q; omega
      rw [if_neg q2] at hR
      rw [hR] at hr
      clear ih
      simp only [g1, q, go_sem]
      repeat' ((first | ((first | apply qa | apply qb | apply qc | apply qd | apply qe | apply qf | apply qg | apply qh | apply qi | apply qj | apply qk) <;> intro hp) | ((first | refine ql rfl rfl (by decide +kernel) ?_ | refine qm _ rfl rfl (by decide +kernel) ?_) <;> have hp := True.intro)) <;> simp only [hp, g1, q, go_sem])
      simp only [fin_mk, finV, resL, resV1, resIn, endA, listIn, Option.some_or, Option.none_or, oneOrTup, go_sem]
      rw [← hr]
      rfl
  obtain ⟨w, hwd⟩ : ∃ w, ws[i] = w := ⟨_, rfl⟩
  have hd : ws.drop i = w :: ws.drop (i + 1) := by rw [List.drop_eq_getElem_cons h, hwd]
  have hlen : (ws.drop i).length = ws.length - i := List.length_drop
  have g1 : (0 : Int) < (((ws.drop i).length : Nat) : Int) := by omega
  have g3 : (ws.drop i)[0]? = some w := by rw [hd]; rfl
  have g4 : 1 ≤ (ws.drop i).length := by omega
  have wl : w.length ≤ 4194304 := by rw [← hwd]; exact hw _ (List.getElem_mem h)
  have o1 : (out.length + 1) * 32 ≤ 140737488355328 := by omega
  have o2 : out.length + 1 ≤ 9223372036854775807 := by omega
  have dd1 : (ws.drop i).drop 1 = ws.drop (i + 1) := by rw [List.drop_drop]
  obtain ⟨f, rfl⟩ : ∃ g, f = g + 1 := ⟨f - 1, by omega⟩
  rw [hd] at he
  simp only [keysI] at he
  have one : ∀ k, keyOne w = some k → _ := fun k hk => ih (i + 1, out ++ [k]) ⟨h, by simp; omega, f, by simp only; omega, by rw [hk] at he; exact he⟩ (by simp only; omega)
  cases c1 : (w == [97, 108, 108]) with
  | true =>
    have ih' := one _ (by rw [keyOne, if_pos c1])
    simp only [List.map_append, List.map_cons, List.map_nil] at ih'
    clear ih one
    simp only [g1, g3, g4, wl, o1, o2, dd1, List.take_length, Nat.le_refl, c1, go_sem]
    repeat' ((first | ((first | apply qa | apply qb | apply qc | apply qd | apply qe | apply qf | apply qg | apply qh | apply qi | apply qj | apply qk) <;> intro hp) | ((first | refine ql rfl rfl (by decide +kernel) ?_ | refine qm _ rfl rfl (by decide +kernel) ?_) <;> have hp := True.intro)) <;> simp only [hp, g1, g3, g4, wl, o1, o2, dd1, List.take_length, Nat.le_refl, c1, go_sem])
    exact ih'
  | false =>
  have hk1 := keyOne_eq c1
  by_cases c2 : (flagKeyV w).Kind = 0
  case neg =>
    have e2 : ((flagKeyV w).Kind == 0) = false := beq_eq_false_iff_ne.2 c2
    have ih' := one _ (by rw [hk1, if_neg c2])
    simp only [List.map_append, List.map_cons, List.map_nil] at ih'
    clear ih one
    simp only [g1, g3, g4, wl, o1, o2, dd1, List.take_length, Nat.le_refl, c1, e2, go_sem]
    repeat' ((first | ((first | apply qa | apply qb | apply qc | apply qd | apply qe | apply qf | apply qg | apply qh | apply qi | apply qj | apply qk) <;> intro hp) | ((first | refine ql rfl rfl (by decide +kernel) ?_ | refine qm _ rfl rfl (by decide +kernel) ?_) <;> have hp := True.intro)) <;> simp only [hp, g1, g3, g4, wl, o1, o2, dd1, List.take_length, Nat.le_refl, c1, e2, go_sem])
    exact ih'
  rw [if_pos c2] at hk1
  have e2 : ((flagKeyV w).Kind == 0) = true := by rw [c2]; rfl
  rw [hk1] at he
  simp only at he
  rcases Nat.lt_or_ge (i + 1) ws.length with hm | hm
  case inr =>
    have hd1 : ws.drop (i + 1) = [] := List.drop_of_length_le hm
    have m1 : ((((ws.drop i).length : Nat) : Int) == 1) = true := by rw [hlen, show ws.length - i = 1 by omega]; rfl
    rw [hd1] at he
    simp only at he
    rw [← he] at hR
    simp only at hR
    rw [hR] at hr
    clear ih one
    simp only [g1, g3, g4, wl, o1, o2, dd1, List.take_length, Nat.le_refl, c1, e2, m1, go_sem]
    repeat' ((first | ((first | apply qa | apply qb | apply qc | apply qd | apply qe | apply qf | apply qg | apply qh | apply qi | apply qj | apply qk) <;> intro hp) | ((first | refine ql rfl rfl (by decide +kernel) ?_ | refine qm _ rfl rfl (by decide +kernel) ?_) <;> have hp := True.intro)) <;> simp only [hp, g1, g3, g4, wl, o1, o2, dd1, List.take_length, Nat.le_refl, c1, e2, m1, go_sem])
    simp only [fin_mk, finV, resL, resV1, resIn, endA, listIn, Option.some_or, Option.none_or, oneOrTup, go_sem]
    rw [← hr]
    rfl
  obtain ⟨m, hmd⟩ : ∃ m, ws[i + 1] = m := ⟨_, rfl⟩
  have hd1 : ws.drop (i + 1) = m :: ws.drop (i + 2) := by rw [List.drop_eq_getElem_cons hm, hmd]
  have m1 : ((((ws.drop i).length : Nat) : Int) == 1) = false := beq_eq_false_iff_ne.2 (by omega)
  have m3 : (ws.drop i)[1]? = some m := by rw [hd, hd1]; rfl
  have m4 : 2 ≤ (ws.drop i).length := by omega
  have m5 : (1 : Int) < (((ws.drop i).length : Nat) : Int) := by omega
  have ml : m.length ≤ 4194304 := by rw [← hmd]; exact hw _ (List.getElem_mem hm)
  have dd2 : (ws.drop i).drop 2 = ws.drop (i + 2) := by rw [List.drop_drop]
  rw [hd1] at he
  simp only at he
  rw [keyTwo_eq] at he
  cases t : (wordKeyV w m).2 with
  | false =>
    rw [t, if_neg (by simp)] at he
    simp only at he
    rw [← he] at hR
    simp only at hR
    rw [hR] at hr
    clear ih one
    simp only [g1, g3, g4, wl, o1, o2, dd1, List.take_length, Nat.le_refl, c1, e2, m1, m3, m4, m5, ml, t, go_sem]
    repeat' ((first | ((first | apply qa | apply qb | apply qc | apply qd | apply qe | apply qf | apply qg | apply qh | apply qi | apply qj | apply qk) <;> intro hp) | ((first | refine ql rfl rfl (by decide +kernel) ?_ | refine qm _ rfl rfl (by decide +kernel) ?_) <;> have hp := True.intro)) <;> simp only [hp, g1, g3, g4, wl, o1, o2, dd1, List.take_length, Nat.le_refl, c1, e2, m1, m3, m4, m5, ml, t, go_sem])
    simp only [fin_mk, finV, resL, resV1, resIn, endA, listIn, Option.some_or, Option.none_or, oneOrTup, go_sem]
    rw [← hr]
    rfl
  | true =>
    rw [t, if_pos rfl] at he
    simp only at he
    have ih' := ih (i + 2, out ++ [(wordKeyV w m).1]) ⟨by simp only; omega, by simp; omega, f, by simp only; omega, he⟩ (by simp only; omega)
    simp only [List.map_append, List.map_cons, List.map_nil] at ih'
    clear ih one
    simp only [g1, g3, g4, wl, o1, o2, dd2, List.take_length, Nat.le_refl, c1, e2, m1, m3, m4, m5, ml, t, go_sem]
    repeat' ((first | ((first | apply qa | apply qb | apply qc | apply qd | apply qe | apply qf | apply qg | apply qh | apply qi | apply qj | apply qk) <;> intro hp) | ((first | refine ql rfl rfl (by decide +kernel) ?_ | refine qm _ rfl rfl (by decide +kernel) ?_) <;> have hp := True.intro)) <;> simp only [hp, g1, g3, g4, wl, o1, o2, dd2, List.take_length, Nat.le_refl, c1, e2, m1, m3, m4, m5, ml, t, go_sem])
    exact ih'
end Go.Proofs.YtnbkmmjnpbfhnaaDoor.L

