/- Contracts of functions, and the facts that they need. No condition. -/
import Derived.Test.YtonjbbfgdloljaaGreatDoorVLRd
import Derived.Test.YtonjbbfgdloljaaGreatDoorVLS


namespace Go.Proofs.YtonjbbfgdloljaaGreatDoor.L
open Go Go.VM
set_option maxRecDepth 100000
set_option maxHeartbeats 4000000
set_option linter.unusedSimpArgs false
set_option linter.unusedVariables false
def bitF : Nat → Nat → List UInt8 → Int
  | 0, _, _ => 0
  | f + 1, i, w => if (flagNames.getD i [] == w) = true then ((2 ^ i : Nat) : Int) else bitF f (i + 1) w
def bitN (w : List UInt8) : Int := bitF 5 0 w
theorem bitF_in : ∀ (f i : Nat) (w : List UInt8), f + i ≤ 5 → 0 ≤ bitF f i w ∧ bitF f i w ≤ 16
  | 0, _, _, _ => by simp [bitF]
  | f + 1, i, w, h => by
    rw [bitF]
    split
    · have h2 : 2 ^ i ≤ 2 ^ 4 := Nat.pow_le_pow_right (by omega) (by omega)
      generalize 2 ^ i = q at *
      omega
    · exact bitF_in f (i + 1) w (by omega)
theorem bitN_in (w : List UInt8) : 0 ≤ bitN w ∧ bitN w ≤ 16 := bitF_in 5 0 w (by omega)
open Classical in
noncomputable def spBit : VM.Spec := { modes := [.rd], run := fun | [.str w] => if w.length ≤ 4194304 then some (.int .i64 (bitN w), []) else none | _ => none, need := [] }
attribute [go_sem] spBit
theorem spBit_in {ins : List V} {r : V} {outs : List V} (h : spBit.run ins = some (r, outs)) : ∃ (w : (List UInt8)), ins = [.str w] ∧ (w.length ≤ 4194304) ∧ .int .i64 (bitN w) = r ∧ outs = [] := by
  unfold spBit at h
  simp only at h
  split at h
  · rename_i w
    split at h
    case isFalse => cases h
    rename_i hc
    simp only [Option.some.injEq, Prod.mk.injEq] at h
    obtain ⟨h1, h2⟩ := h
    exact ⟨w, rfl, hc, h1, h2.symm⟩
  · cases h
def T_spec_l06Bit : Hints := ⟨lk [], lk [(4, [0, 3, 4, 5])], lk [(0, [0]), (1, [0, 3]), (2, [0, 3, 4]), (3, [0, 3, 4, 5]), (4, [0, 3, 4, 5, 10]), (6, [0, 3, 4, 5, 18]), (7, [2]), (8, [0, 3, 4, 5]), (5, [0, 3, 4, 5]), (9, [2])], lk []⟩
noncomputable def Phi_spec_l06Bit : Tab := lk [(85, spFlagNames)]
attribute [go_sem] T_spec_l06Bit Phi_spec_l06Bit
theorem phi_spec_l06Bit : ∀ f sp, Phi_spec_l06Bit f = some sp → FnOk Tryz.prog f sp ∧ ∀ n ∈ sp.need, n ∈ ([] : List String) := phi_cons ok_spec_l06Names (n0 rfl) (phi_nil)
theorem ok_spec_l06Bit : FnOk Tryz.prog 50 spBit := by
  refine fn_ok (Φ := Phi_spec_l06Bit) (T := T_spec_l06Bit) phi_spec_l06Bit mixed Tryz.func50 rfl rfl rfl (by decide) ?_
  intro ins r outs hr hl
  clear hl
  have hs := spBit_in hr
  clear hr
  obtain ⟨w, rfl, hc, hr, rfl⟩ := hs
  simp only [spBit, Tryz.f50, Go.VM.initS]
  have p0 : ((1 : Int)) = ((2 ^ 0 : Nat) : Int) := rfl
  simp only [go_sem]
  repeat' ((first | apply qa | apply qb | apply qc | apply qd | apply qe | apply qf | apply qg | apply qh | apply qi | apply qj | apply qk) <;> intro hp <;> simp only [hp, go_sem])
  refine loop_go (fun i : Nat => [(4, .int .i64 ((2 ^ i : Nat) : Int)), (5, .int .i64 (i : Int))]) (fun _ => []) (fun i => 5 - i) (fun i => i ≤ 5 ∧ bitF (5 - i) i w = bitN w) 0 ⟨by omega, rfl⟩ rfl rfl ?_
  rintro i ⟨hi, he⟩ ih
  rcases Nat.lt_or_ge i 5 with h | h
  · have hfl : flagNames.length = 5 := rfl
    have g1 : (i : Int) < flagNames.length := by omega
    have g2 : (0 : Int) ≤ i := by omega
    have g3 : flagNames[i]? = some (flagNames.getD i []) := flag_names ⟨i, h⟩
    have g5 := wrap_succ h (by omega)
    have hp : 2 ^ i ≤ 2 ^ 4 := Nat.pow_le_pow_right (by omega) (by omega)
    have g6 : IntKind.i64.wrap (2 * ((2 ^ i : Nat) : Int)) = ((2 ^ (i + 1) : Nat) : Int) := by
      rw [Nat.pow_succ]
      generalize 2 ^ i = q at *
      rw [wrap64 (by omega) (by omega)]; omega
    rw [show 5 - i = (5 - (i + 1)) + 1 by omega, bitF] at he
    generalize flagNames.getD i [] = nm at *
    generalize flagNames = NM at *
    cases hq : (nm == w) with
    | true =>
      rw [if_pos hq] at he
      rw [← he] at hr
      simp only [g1, g2, g3, g5, hq, go_sem]
      repeat' ((first | apply qa | apply qb | apply qc | apply qd | apply qe | apply qf | apply qg | apply qh | apply qi | apply qj | apply qk) <;> intro hp <;> simp only [hp, g1, g2, g3, g5, hq, go_sem])
      simp only [fin_mk, finV, resL, resV1, resIn, endA, listIn, Option.some_or, Option.none_or, oneOrTup, go_sem]
      rw [← hr]
    | false =>
      rw [if_neg (by rw [hq]; simp)] at he
      simp only [g1, g2, g3, g5, g6, hq, go_sem]
      repeat' ((first | apply qa | apply qb | apply qc | apply qd | apply qe | apply qf | apply qg | apply qh | apply qi | apply qj | apply qk) <;> intro hp <;> simp only [hp, g1, g2, g3, g5, g6, hq, go_sem])
      exact ih (i + 1) ⟨h, he⟩ (by omega)
  · have h5 : i = 5 := by omega
    subst h5
    have g1 : ¬ ((5 : Nat) : Int) < flagNames.length := by decide
    have he' : (0 : Int) = bitN w := he
    rw [← he'] at hr
    generalize flagNames = NM at *
    simp only [g1, go_sem]
    repeat' ((first | apply qa | apply qb | apply qc | apply qd | apply qe | apply qf | apply qg | apply qh | apply qi | apply qj | apply qk) <;> intro hp <;> simp only [hp, g1, go_sem])
    simp only [fin_mk, finV, resL, resV1, resIn, endA, listIn, Option.some_or, Option.none_or, oneOrTup, go_sem]
    rw [← hr]
def unB (w : List UInt8) : Bool := (decide ((2 : Int) < (w.length : Int)) && (w.take 2 == [117, 110])) && decide (0 < bitN (w.drop 2))
def keyOne (w : List UInt8) : Option Key :=
  if (w == [97, 108, 108]) = true then some ⟨1, 0, []⟩ else
  if 0 < bitN w then some ⟨2, bitN w, []⟩ else
  if unB w = true then some ⟨3, bitN (w.drop 2), []⟩ else none
def keyTwo (w m : List UInt8) : Option Key :=
  if (w == [115, 117, 98, 106, 101, 99, 116]) = true then (if within m.length 1 20 = true then some ⟨4, 0, m⟩ else none) else
  if (w == [116, 101, 120, 116]) = true then (if within m.length 1 20 = true then some ⟨5, 0, m⟩ else none) else
  if (w == [117, 105, 100]) = true then (if readOk m 9999 = true then some ⟨6, 0, m⟩ else none) else
  if (w == [109, 111, 100, 115, 101, 113]) = true then (if decB m = true ∧ decN m ≤ 100000 then some ⟨7, decN m, []⟩ else none) else none
def keysL : List (List UInt8) → List Key → Option (List Key)
  | [], out => some out
  | [w], out => match keyOne w with
    | some k => if out.length < 6 then some (out ++ [k]) else none
    | none => none
  | w :: m :: ws, out => match keyOne w with
    | some k => if out.length < 6 then keysL (m :: ws) (out ++ [k]) else none
    | none => match keyTwo w m with
      | some k => if out.length < 6 then keysL ws (out ++ [k]) else none
      | none => none
theorem keysL_len : ∀ (ws : List (List UInt8)) (out ks : List Key), out.length ≤ 6 → keysL ws out = some ks → ks.length ≤ 6
  | [], out, ks, h, e => by simp only [keysL, Option.some.injEq] at e; rw [← e]; exact h
  | [w], out, ks, h, e => by
    simp only [keysL] at e
    split at e
    · split at e
      · cases e; simp; omega
      · cases e
    · cases e
  | w :: m :: ws, out, ks, h, e => by
    simp only [keysL] at e
    split at e
    · split at e
      · exact keysL_len (m :: ws) _ ks (by simp; omega) e
      · cases e
    · split at e
      · split at e
        · exact keysL_len ws _ ks (by simp; omega) e
        · cases e
      · cases e
def keyFits (n : Nat) (k : Key) : Prop := k.Text.length ≤ n
theorem keyOne_fits {w : List UInt8} {k : Key} {n : Nat} (h : keyOne w = some k) : keyFits n k := by
  unfold keyOne at h
  repeat' split at h
  all_goals first | (cases h; simp [keyFits]) | cases h
theorem keyTwo_fits {w m : List UInt8} {k : Key} {n : Nat} (hm : m.length ≤ n) (h : keyTwo w m = some k) : keyFits n k := by
  unfold keyTwo at h
  repeat' split at h
  all_goals first | (cases h; simp only [keyFits, List.length_nil]; omega) | cases h
theorem keysL_fits {n : Nat} : ∀ (ws : List (List UInt8)) (out ks : List Key), (∀ w ∈ ws, w.length ≤ n) → (∀ k ∈ out, keyFits n k) → keysL ws out = some ks → ∀ k ∈ ks, keyFits n k
  | [], out, ks, _, h, e => by simp only [keysL, Option.some.injEq] at e; rw [← e]; exact h
  | [w], out, ks, hw, h, e => by
    simp only [keysL] at e
    split at e
    · rename_i k hk
      split at e
      · cases e
        intro x hx
        rcases List.mem_append.1 hx with hx | hx
        · exact h x hx
        · simp only [List.mem_singleton] at hx; subst hx; exact keyOne_fits hk
      · cases e
    · cases e
  | w :: m :: ws, out, ks, hw, h, e => by
    simp only [keysL] at e
    have snoc : ∀ k, keyFits n k → ∀ x ∈ out ++ [k], keyFits n x := fun k hk x hx => by
      rcases List.mem_append.1 hx with hx | hx
      · exact h x hx
      · simp only [List.mem_singleton] at hx; subst hx; exact hk
    split at e
    · rename_i k hk
      split at e
      · exact keysL_fits (m :: ws) _ ks (fun x hx => hw x (by simp only [List.mem_cons] at hx ⊢; exact .inr hx)) (snoc k (keyOne_fits hk)) e
      · cases e
    · split at e
      · rename_i k hk
        split at e
        · exact keysL_fits ws _ ks (fun x hx => hw x (by simp [hx])) (snoc k (keyTwo_fits (hw m (by simp)) hk)) e
        · cases e
      · cases e
def readKeys (ws : List (List UInt8)) : List Key × Bool := match keysL ws [] with
  | some ks => (ks, decide (0 < ks.length))
  | none => ([], false)
theorem readKeys_in {ws : List (List UInt8)} {n : Nat} (h : ∀ w ∈ ws, w.length ≤ n) : (readKeys ws).1.length ≤ 6 ∧ ∀ k ∈ (readKeys ws).1, keyFits n k := by
  unfold readKeys
  cases hk : keysL ws [] with
  | none => simp
  | some ks => exact ⟨keysL_len ws [] ks (by simp) hk, keysL_fits ws [] ks h (by simp) hk⟩
theorem keysL_one {w : List UInt8} {ws : List (List UInt8)} {out : List Key} {k : Key} (h : keyOne w = some k) (h6 : out.length < 6) : keysL (w :: ws) out = keysL ws (out ++ [k]) := by
  cases ws with
  | nil => simp only [keysL, h, if_pos h6]
  | cons m ws => simp only [keysL, h, if_pos h6]
theorem keysL_full {w : List UInt8} {ws : List (List UInt8)} {out : List Key} {k : Key} (h : keyOne w = some k) (h6 : ¬ out.length < 6) : keysL (w :: ws) out = none := by
  cases ws with
  | nil => simp only [keysL, h, if_neg h6]
  | cons m ws => simp only [keysL, h, if_neg h6]
theorem keysL_two {w m : List UInt8} {ws : List (List UInt8)} {out : List Key} {k : Key} (h : keyOne w = none) (h2 : keyTwo w m = some k) (h6 : out.length < 6) : keysL (w :: m :: ws) out = keysL ws (out ++ [k]) := by
  simp only [keysL, h, h2, if_pos h6]
theorem keysL_two_full {w m : List UInt8} {ws : List (List UInt8)} {out : List Key} (h : keyOne w = none) (h2 : keyTwo w m = none ∨ ¬ out.length < 6) : keysL (w :: m :: ws) out = none := by
  simp only [keysL, h]
  cases hk : keyTwo w m with
  | none => rfl
  | some k =>
    rcases h2 with h2 | h2
    · rw [hk] at h2; cases h2
    · simp only [if_neg h2]
theorem keysL_end {w : List UInt8} {out : List Key} (h : keyOne w = none) : keysL [w] out = none := by
  simp only [keysL, h]
open Classical in
noncomputable def spReadKeys : VM.Spec := { modes := [.rd], run := fun | [.lst 1 ws'] => (decL dStr ws').bind fun ws => if ws.length ≤ 4194304 ∧ ∀ w ∈ ws, w.length ≤ 4194304 then some (.tup [.lst 3 (((readKeys ws).1).map Key.enc), .bool ((readKeys ws).2)], []) else none | _ => none, need := ["internal/bytealg.MaxLen"] }
attribute [go_sem] spReadKeys
theorem spReadKeys_in {ins : List V} {r : V} {outs : List V} (h : spReadKeys.run ins = some (r, outs)) : ∃ (ws : (List (List UInt8))), ins = [.lst 1 ((ws).map eStr)] ∧ (ws.length ≤ 4194304 ∧ ∀ w ∈ ws, w.length ≤ 4194304) ∧ .tup [.lst 3 (((readKeys ws).1).map Key.enc), .bool ((readKeys ws).2)] = r ∧ outs = [] := by
  unfold spReadKeys at h
  simp only at h
  split at h
  · rename_i ws'
    simp only [Option.bind_eq_some_iff] at h
    obtain ⟨ws, h_ws, h⟩ := h
    split at h
    case isFalse => cases h
    rename_i hc
    simp only [Option.some.injEq, Prod.mk.injEq] at h
    obtain ⟨h1, h2⟩ := h
    have h_ws := decL_some (fun _ _ h => dStr_some h) h_ws
    subst h_ws
    exact ⟨ws, rfl, hc, h1, h2.symm⟩
  · cases h
def T_spec_ReadKeys : Hints := ⟨lk [(17, [])], lk [(4, [0, 4, 5, 6])], lk [(0, [0]), (1, [0, 4]), (2, [0, 4, 5]), (3, [0, 4, 5, 6]), (4, [0, 4, 5, 6, 18]), (6, [0, 4, 5, 6, 7]), (7, [0, 4, 5, 6, 7, 8]), (8, [0, 4, 5, 6, 7, 8, 29]), (9, [0, 4, 5, 6, 7, 8]), (10, [0, 4, 5, 6, 7, 8, 9]), (11, [0, 4, 5, 6, 7, 8, 9, 10]), (13, [0, 4, 5, 6, 7, 8, 9, 10, 36]), (14, [0, 4, 5, 6, 9, 10]), (15, [0, 4, 5, 6, 7, 8, 9, 10, 40]), (16, [0, 4, 5, 6, 9, 10]), (17, [0, 4, 5, 6, 7, 8, 9, 10, 47]), (18, [0, 4, 5, 6, 9, 10]), (19, [0, 4, 5, 6, 7, 8, 9, 66]), (20, [0, 4, 5, 6, 7, 8, 9]), (21, [0, 4, 5, 6, 8, 9, 76]), (22, [0, 4, 5, 6, 8, 9]), (23, [0, 4, 5, 6, 9, 10]), (24, [0, 4, 5, 6, 9, 10]), (25, [0, 4, 5, 6, 7, 8, 9, 83]), (26, [0, 4, 5, 6, 8, 9]), (27, [0, 4, 5, 6, 9, 10]), (28, [0, 4, 5, 6, 9, 10]), (29, [0, 4, 5, 6, 8, 9, 95]), (30, [0, 4, 5, 6, 9, 11, 12]), (31, [0, 4, 5, 6, 9, 11, 12]), (32, [0, 4, 5, 6, 9, 10]), (33, [0, 4, 5, 6, 9, 10]), (12, [0, 4, 5, 6, 9, 10]), (34, [0, 4, 5, 6, 9, 124]), (35, [2, 3]), (36, [0, 4, 5, 6]), (5, [0, 4, 5, 6]), (37, [2, 3])], lk []⟩
noncomputable def Phi_spec_ReadKeys : Tab := lk [(50, spBit), (38, spWithin), (51, spReadSet), (52, spReadDec)]
attribute [go_sem] T_spec_ReadKeys Phi_spec_ReadKeys
theorem phi_spec_ReadKeys : ∀ f sp, Phi_spec_ReadKeys f = some sp → FnOk Tryz.prog f sp ∧ ∀ n ∈ sp.need, n ∈ (["internal/bytealg.MaxLen"] : List String) := phi_cons ok_spec_l06Bit (n0 rfl) (phi_cons ok_spec_l01In (n0 rfl) (phi_cons ok_spec_ReadSet (fun n (h : n ∈ (["internal/bytealg.MaxLen"] : List String)) => by simp only [List.mem_cons, List.not_mem_nil, or_false] at h; rcases h with rfl <;> simp) (phi_cons ok_spec_ReadDecimal (n0 rfl) (phi_nil))))
theorem ok_spec_ReadKeys : FnOk Tryz.prog 17 spReadKeys := by
  refine fn_ok (Φ := Phi_spec_ReadKeys) (T := T_spec_ReadKeys) phi_spec_ReadKeys mixed Tryz.func17 rfl rfl rfl (by decide) ?_
  intro ins r outs hr hl
  clear hl
  have hs := spReadKeys_in hr
  clear hr
  obtain ⟨ws, rfl, hc, hr, rfl⟩ := hs
  simp only [spReadKeys, Tryz.f17, Go.VM.initS]
  obtain ⟨hl, hw⟩ := hc
  simp only [hl, go_sem]
  repeat' ((first | apply qa | apply qb | apply qc | apply qd | apply qe | apply qf | apply qg | apply qh | apply qi | apply qj | apply qk) <;> intro hp <;> simp only [hp, hl, go_sem])
  refine loop_go (fun p : Nat × List Key => [(6, .int .i64 (p.1 : Int))]) (fun p => [(1, ⟨.arr, 3, p.2.map Key.enc⟩)]) (fun p => ws.length - p.1) (fun p => p.1 ≤ ws.length ∧ p.2.length ≤ 6 ∧ keysL (ws.drop p.1) p.2 = keysL ws []) (0, []) ⟨Nat.zero_le _, by simp, rfl⟩ rfl rfl ?_
  rintro ⟨i, out⟩ ⟨hi, ho, he⟩ ih
  simp only at hi ho he ih
  rcases Nat.lt_or_ge i ws.length with h | h
  case inr =>
    have g1 : ¬ (i : Int) < ws.length := by omega
    rw [List.drop_of_length_le h, keysL] at he
    have e1 : readKeys ws = (out, decide (0 < out.length)) := by rw [readKeys, ← he]
    rw [e1] at hr
    have e2 : decide ((0 : Int) < (out.length : Int)) = decide (0 < out.length) := by rw [Bool.eq_iff_iff]; simp
    simp only [g1, e2, go_sem]
    repeat' ((first | apply qa | apply qb | apply qc | apply qd | apply qe | apply qf | apply qg | apply qh | apply qi | apply qj | apply qk) <;> intro hp <;> simp only [hp, g1, e2, go_sem])
    simp only [fin_mk, finV, resL, resV1, resIn, endA, listIn, Option.some_or, Option.none_or, oneOrTup, go_sem]
    rw [← hr]
  obtain ⟨w, hwd⟩ : ∃ w, ws[i] = w := ⟨_, rfl⟩
  have g1 : (i : Int) < ws.length := by omega
  have g2 : (0 : Int) ≤ i := by omega
  have g3 : ws[i]? = some w := by rw [List.getElem?_eq_getElem h, hwd]
  have g5 : IntKind.i64.wrap ((i : Int) + 1) = ((i + 1 : Nat) : Int) := (wrap64 (by omega) (by omega)).trans (by omega)
  have g5' : IntKind.i64.wrap (((i + 1 : Nat) : Int) + 1) = ((i + 2 : Nat) : Int) := (wrap64 (by omega) (by omega)).trans (by omega)
  have wl : w.length ≤ 4194304 := by rw [← hwd]; exact hw _ (List.getElem_mem h)
  have wl2 : (w.drop 2).length ≤ 4194304 := by rw [List.length_drop]; omega
  have hd : ws.drop i = w :: ws.drop (i + 1) := by rw [List.drop_eq_getElem_cons h, hwd]
  have o1 : (out.length + 1) * 32 ≤ 140737488355328 := by omega
  have o2 : out.length ≤ 9223372036854775806 := by omega
  have hbw := bitN_in w
  have hbd := bitN_in (w.drop 2)
  have fail : keysL ws [] = none → readKeys ws = ([], false) := fun e => by rw [readKeys, e]
  have n1 : ¬ ((ws.length : Nat) : Int) ≤ (i : Int) := by omega
  have v2 : (2 : Int) ≤ 9223372036854775807 := by decide
  have v3 : (0 : Int) ≤ 2 := by decide
  rcases Nat.lt_or_ge (i + 1) ws.length with hm | hm
  · obtain ⟨m, hmd⟩ : ∃ m, ws[i + 1] = m := ⟨_, rfl⟩
    have m1 : ((i + 1 : Nat) : Int) < ws.length := by omega
    have m2 : (0 : Int) ≤ ((i + 1 : Nat) : Int) := by omega
    have m3 : ws[i + 1]? = some m := by rw [List.getElem?_eq_getElem hm, hmd]
    have ml : m.length ≤ 4194304 := by rw [← hmd]; exact hw _ (List.getElem_mem hm)
    have n2 : ¬ ((ws.length : Nat) : Int) ≤ ((i + 1 : Nat) : Int) := by omega
    have hd2 : ws.drop (i + 1) = m :: ws.drop (i + 2) := by rw [List.drop_eq_getElem_cons hm, hmd]
    cases c1 : (w == [97, 108, 108]) with
    | true =>
      have hk1 : keyOne w = some ⟨1, 0, []⟩ := by rw [keyOne, if_pos c1]
      have ih' : out.length < 6 → _ := fun h6 => ih (i + 1, out ++ [⟨1, 0, []⟩]) ⟨h, by simp; omega, by rw [← he, hd, keysL_one hk1 h6]⟩ (by simp only; omega)
      simp only [List.map_append, List.map_cons, List.map_nil] at ih'
      have bad : ¬ out.length < 6 → readKeys ws = ([], false) := fun h6 => fail (by rw [← he, hd]; exact keysL_full hk1 h6)
      simp only [g1, g2, g3, g5, g5', wl, wl2, o1, o2, v2, v3, n1, List.take_length, Nat.le_refl, m1, m2, m3, ml, c1, go_sem]
      repeat' ((first | apply qa | apply qb | apply qc | apply qd | apply qe | apply qf | apply qg | apply qh | apply qi | apply qj | apply qk) <;> intro hp <;> simp only [hp, g1, g2, g3, g5, g5', wl, wl2, o1, o2, v2, v3, n1, List.take_length, Nat.le_refl, m1, m2, m3, ml, c1, go_sem])
      all_goals first
        | exact ih' (by omega)
        | (clear ih'; omega)
        | (clear ih'; have e1 := bad (by omega); rw [e1] at hr; simp only [fin_mk, finV, resL, resV1, resIn, endA, listIn, Option.some_or, Option.none_or, oneOrTup, go_sem]; rw [← hr]; rfl)
    | false =>
    by_cases c2 : 0 < bitN w
    · have hk1 : keyOne w = some ⟨2, bitN w, []⟩ := by rw [keyOne, if_neg (by rw [c1]; simp), if_pos c2]
      have ih' : out.length < 6 → _ := fun h6 => ih (i + 1, out ++ [⟨2, bitN w, []⟩]) ⟨h, by simp; omega, by rw [← he, hd, keysL_one hk1 h6]⟩ (by simp only; omega)
      simp only [List.map_append, List.map_cons, List.map_nil] at ih'
      have bad : ¬ out.length < 6 → readKeys ws = ([], false) := fun h6 => fail (by rw [← he, hd]; exact keysL_full hk1 h6)
      simp only [g1, g2, g3, g5, g5', wl, wl2, o1, o2, v2, v3, n1, List.take_length, Nat.le_refl, m1, m2, m3, ml, c1, c2, go_sem]
      repeat' ((first | apply qa | apply qb | apply qc | apply qd | apply qe | apply qf | apply qg | apply qh | apply qi | apply qj | apply qk) <;> intro hp <;> simp only [hp, g1, g2, g3, g5, g5', wl, wl2, o1, o2, v2, v3, n1, List.take_length, Nat.le_refl, m1, m2, m3, ml, c1, c2, go_sem])
      all_goals first
        | exact ih' (by omega)
        | (clear ih'; omega)
        | (clear ih'; have e1 := bad (by omega); rw [e1] at hr; simp only [fin_mk, finV, resL, resV1, resIn, endA, listIn, Option.some_or, Option.none_or, oneOrTup, go_sem]; rw [← hr]; rfl)
    simp only [g1, g2, g3, g5, g5', wl, wl2, o1, o2, v2, v3, n1, List.take_length, Nat.le_refl, m1, m2, m3, ml, c1, c2, go_sem]
    repeat' ((first | apply qa | apply qb | apply qc | apply qd | apply qe | apply qf | apply qg | apply qh | apply qi | apply qj | apply qk) <;> intro hp <;> simp only [hp, g1, g2, g3, g5, g5', wl, wl2, o1, o2, v2, v3, n1, List.take_length, Nat.le_refl, m1, m2, m3, ml, c1, c2, go_sem])
    refine goes_val 47 V.bool (unB w) rfl rfl ?_ ?_
    · intro G hG
      clear ih he fail hd2 hd hr
      by_cases t2 : (2 : Int) < (w.length : Int)
      · have t3 : 2 ≤ w.length := by omega
        cases t4 : (w.take 2 == [117, 110]) with
        | true =>
          have hu : unB w = decide (0 < bitN (w.drop 2)) := by rw [unB, t4, decide_eq_true t2]; rfl
          rw [hu] at hG
          simp only [g1, g2, g3, g5, g5', wl, wl2, o1, o2, v2, v3, n1, List.take_length, Nat.le_refl, m1, m2, m3, ml, c1, c2, t2, t3, t4, go_sem]
          repeat' ((first | apply qa | apply qb | apply qc | apply qd | apply qe | apply qf | apply qg | apply qh | apply qi | apply qj | apply qk) <;> intro hp <;> simp only [hp, g1, g2, g3, g5, g5', wl, wl2, o1, o2, v2, v3, n1, List.take_length, Nat.le_refl, m1, m2, m3, ml, c1, c2, t2, t3, t4, go_sem])
          all_goals exact hG _ (by first | rfl | (symm; assumption) | simp_all)
        | false =>
          have hu : unB w = false := by rw [unB, t4]; simp
          rw [hu] at hG
          simp only [g1, g2, g3, g5, g5', wl, wl2, o1, o2, v2, v3, n1, List.take_length, Nat.le_refl, m1, m2, m3, ml, c1, c2, t2, t3, t4, go_sem]
          repeat' ((first | apply qa | apply qb | apply qc | apply qd | apply qe | apply qf | apply qg | apply qh | apply qi | apply qj | apply qk) <;> intro hp <;> simp only [hp, g1, g2, g3, g5, g5', wl, wl2, o1, o2, v2, v3, n1, List.take_length, Nat.le_refl, m1, m2, m3, ml, c1, c2, t2, t3, t4, go_sem])
          all_goals exact hG _ rfl
      · have hu : unB w = false := by rw [unB, decide_eq_false t2]; rfl
        rw [hu] at hG
        simp only [g1, g2, g3, g5, g5', wl, wl2, o1, o2, v2, v3, n1, List.take_length, Nat.le_refl, m1, m2, m3, ml, c1, c2, t2, go_sem]
        repeat' ((first | apply qa | apply qb | apply qc | apply qd | apply qe | apply qf | apply qg | apply qh | apply qi | apply qj | apply qk) <;> intro hp <;> simp only [hp, g1, g2, g3, g5, g5', wl, wl2, o1, o2, v2, v3, n1, List.take_length, Nat.le_refl, m1, m2, m3, ml, c1, c2, t2, go_sem])
        all_goals exact hG _ rfl
    cases c3 : unB w with
    | true =>
      have c3' := c3
      simp only [unB, Bool.and_eq_true, decide_eq_true_eq] at c3'
      have hk1 : keyOne w = some ⟨3, bitN (w.drop 2), []⟩ := by rw [keyOne, if_neg (by rw [c1]; simp), if_neg c2, if_pos c3]
      have ih' : out.length < 6 → _ := fun h6 => ih (i + 1, out ++ [⟨3, bitN (w.drop 2), []⟩]) ⟨h, by simp; omega, by rw [← he, hd, keysL_one hk1 h6]⟩ (by simp only; omega)
      simp only [List.map_append, List.map_cons, List.map_nil] at ih'
      have bad : ¬ out.length < 6 → readKeys ws = ([], false) := fun h6 => fail (by rw [← he, hd]; exact keysL_full hk1 h6)
      simp only [g1, g2, g3, g5, g5', wl, wl2, o1, o2, v2, v3, n1, List.take_length, Nat.le_refl, m1, m2, m3, ml, c1, c2, c3, c3'.1.1, c3'.2, go_sem]
      repeat' ((first | apply qa | apply qb | apply qc | apply qd | apply qe | apply qf | apply qg | apply qh | apply qi | apply qj | apply qk) <;> intro hp <;> simp only [hp, g1, g2, g3, g5, g5', wl, wl2, o1, o2, v2, v3, n1, List.take_length, Nat.le_refl, m1, m2, m3, ml, c1, c2, c3, c3'.1.1, c3'.2, go_sem])
      all_goals first
        | exact ih' (by omega)
        | (clear ih'; omega)
        | (clear ih'; have e1 := bad (by omega); rw [e1] at hr; simp only [fin_mk, finV, resL, resV1, resIn, endA, listIn, Option.some_or, Option.none_or, oneOrTup, go_sem]; rw [← hr]; rfl)
    | false =>
    have hk1 : keyOne w = none := by rw [keyOne, if_neg (by rw [c1]; simp), if_neg c2, if_neg (by rw [c3]; simp)]
    cases k1 : (w == [115, 117, 98, 106, 101, 99, 116]) with
    | true =>
      have kk : (w == [116, 101, 120, 116]) = false := by rw [eq_of_beq k1]; decide
      cases q : within m.length 1 20 with
      | true =>
        have hk2 : keyTwo w m = some ⟨4, 0, m⟩ := by rw [keyTwo, if_pos k1, if_pos q]
        have ih' : out.length < 6 → _ := fun h6 => ih (i + 2, out ++ [⟨4, 0, m⟩]) ⟨hm, by simp; omega, by rw [← he, hd, hd2, keysL_two hk1 hk2 h6]⟩ (by simp only; omega)
        simp only [List.map_append, List.map_cons, List.map_nil] at ih'
        have bad : ¬ out.length < 6 → readKeys ws = ([], false) := fun h6 => fail (by rw [← he, hd, hd2]; exact keysL_two_full hk1 (.inr h6))
        simp only [g1, g2, g3, g5, g5', wl, wl2, o1, o2, v2, v3, n1, List.take_length, Nat.le_refl, m1, m2, m3, ml, c1, c2, c3, k1, n2, q, kk, go_sem]
        repeat' ((first | apply qa | apply qb | apply qc | apply qd | apply qe | apply qf | apply qg | apply qh | apply qi | apply qj | apply qk) <;> intro hp <;> simp only [hp, g1, g2, g3, g5, g5', wl, wl2, o1, o2, v2, v3, n1, List.take_length, Nat.le_refl, m1, m2, m3, ml, c1, c2, c3, k1, n2, q, kk, go_sem])
        all_goals first
          | exact ih' (by omega)
          | (clear ih'; omega)
          | (clear ih'; have e1 := bad (by omega); rw [e1] at hr; simp only [fin_mk, finV, resL, resV1, resIn, endA, listIn, Option.some_or, Option.none_or, oneOrTup, go_sem]; rw [← hr]; rfl)
      | false =>
        have e1 := fail (by rw [← he, hd, hd2]; exact keysL_two_full hk1 (.inl (by rw [keyTwo, if_pos k1, if_neg (by rw [q]; simp)])))
        rw [e1] at hr
        simp only [g1, g2, g3, g5, g5', wl, wl2, o1, o2, v2, v3, n1, List.take_length, Nat.le_refl, m1, m2, m3, ml, c1, c2, c3, k1, n2, q, kk, go_sem]
        repeat' ((first | apply qa | apply qb | apply qc | apply qd | apply qe | apply qf | apply qg | apply qh | apply qi | apply qj | apply qk) <;> intro hp <;> simp only [hp, g1, g2, g3, g5, g5', wl, wl2, o1, o2, v2, v3, n1, List.take_length, Nat.le_refl, m1, m2, m3, ml, c1, c2, c3, k1, n2, q, kk, go_sem])
        all_goals (simp only [fin_mk, finV, resL, resV1, resIn, endA, listIn, Option.some_or, Option.none_or, oneOrTup, go_sem]; rw [← hr]; rfl)
    | false =>
    cases k2 : (w == [116, 101, 120, 116]) with
    | true =>
      cases q : within m.length 1 20 with
      | true =>
        have hk2 : keyTwo w m = some ⟨5, 0, m⟩ := by rw [keyTwo, if_neg (by rw [k1]; simp), if_pos k2, if_pos q]
        have ih' : out.length < 6 → _ := fun h6 => ih (i + 2, out ++ [⟨5, 0, m⟩]) ⟨hm, by simp; omega, by rw [← he, hd, hd2, keysL_two hk1 hk2 h6]⟩ (by simp only; omega)
        simp only [List.map_append, List.map_cons, List.map_nil] at ih'
        have bad : ¬ out.length < 6 → readKeys ws = ([], false) := fun h6 => fail (by rw [← he, hd, hd2]; exact keysL_two_full hk1 (.inr h6))
        simp only [g1, g2, g3, g5, g5', wl, wl2, o1, o2, v2, v3, n1, List.take_length, Nat.le_refl, m1, m2, m3, ml, c1, c2, c3, k1, k2, n2, q, go_sem]
        repeat' ((first | apply qa | apply qb | apply qc | apply qd | apply qe | apply qf | apply qg | apply qh | apply qi | apply qj | apply qk) <;> intro hp <;> simp only [hp, g1, g2, g3, g5, g5', wl, wl2, o1, o2, v2, v3, n1, List.take_length, Nat.le_refl, m1, m2, m3, ml, c1, c2, c3, k1, k2, n2, q, go_sem])
        all_goals first
          | exact ih' (by omega)
          | (clear ih'; omega)
          | (clear ih'; have e1 := bad (by omega); rw [e1] at hr; simp only [fin_mk, finV, resL, resV1, resIn, endA, listIn, Option.some_or, Option.none_or, oneOrTup, go_sem]; rw [← hr]; rfl)
      | false =>
        have e1 := fail (by rw [← he, hd, hd2]; exact keysL_two_full hk1 (.inl (by rw [keyTwo, if_neg (by rw [k1]; simp), if_pos k2, if_neg (by rw [q]; simp)])))
        rw [e1] at hr
        simp only [g1, g2, g3, g5, g5', wl, wl2, o1, o2, v2, v3, n1, List.take_length, Nat.le_refl, m1, m2, m3, ml, c1, c2, c3, k1, k2, n2, q, go_sem]
        repeat' ((first | apply qa | apply qb | apply qc | apply qd | apply qe | apply qf | apply qg | apply qh | apply qi | apply qj | apply qk) <;> intro hp <;> simp only [hp, g1, g2, g3, g5, g5', wl, wl2, o1, o2, v2, v3, n1, List.take_length, Nat.le_refl, m1, m2, m3, ml, c1, c2, c3, k1, k2, n2, q, go_sem])
        all_goals (simp only [fin_mk, finV, resL, resV1, resIn, endA, listIn, Option.some_or, Option.none_or, oneOrTup, go_sem]; rw [← hr]; rfl)
    | false =>
    cases k3 : (w == [117, 105, 100]) with
    | true =>
      cases q : readOk m 9999 with
      | true =>
        have hk2 : keyTwo w m = some ⟨6, 0, m⟩ := by rw [keyTwo, if_neg (by rw [k1]; simp), if_neg (by rw [k2]; simp), if_pos k3, if_pos q]
        have ih' : out.length < 6 → _ := fun h6 => ih (i + 2, out ++ [⟨6, 0, m⟩]) ⟨hm, by simp; omega, by rw [← he, hd, hd2, keysL_two hk1 hk2 h6]⟩ (by simp only; omega)
        simp only [List.map_append, List.map_cons, List.map_nil] at ih'
        have bad : ¬ out.length < 6 → readKeys ws = ([], false) := fun h6 => fail (by rw [← he, hd, hd2]; exact keysL_two_full hk1 (.inr h6))
        simp only [g1, g2, g3, g5, g5', wl, wl2, o1, o2, v2, v3, n1, List.take_length, Nat.le_refl, m1, m2, m3, ml, c1, c2, c3, k1, k2, k3, n2, q, go_sem]
        repeat' ((first | apply qa | apply qb | apply qc | apply qd | apply qe | apply qf | apply qg | apply qh | apply qi | apply qj | apply qk) <;> intro hp <;> simp only [hp, g1, g2, g3, g5, g5', wl, wl2, o1, o2, v2, v3, n1, List.take_length, Nat.le_refl, m1, m2, m3, ml, c1, c2, c3, k1, k2, k3, n2, q, go_sem])
        all_goals first
          | exact ih' (by omega)
          | (clear ih'; omega)
          | (clear ih'; have e1 := bad (by omega); rw [e1] at hr; simp only [fin_mk, finV, resL, resV1, resIn, endA, listIn, Option.some_or, Option.none_or, oneOrTup, go_sem]; rw [← hr]; rfl)
      | false =>
        have e1 := fail (by rw [← he, hd, hd2]; exact keysL_two_full hk1 (.inl (by rw [keyTwo, if_neg (by rw [k1]; simp), if_neg (by rw [k2]; simp), if_pos k3, if_neg (by rw [q]; simp)])))
        rw [e1] at hr
        simp only [g1, g2, g3, g5, g5', wl, wl2, o1, o2, v2, v3, n1, List.take_length, Nat.le_refl, m1, m2, m3, ml, c1, c2, c3, k1, k2, k3, n2, q, go_sem]
        repeat' ((first | apply qa | apply qb | apply qc | apply qd | apply qe | apply qf | apply qg | apply qh | apply qi | apply qj | apply qk) <;> intro hp <;> simp only [hp, g1, g2, g3, g5, g5', wl, wl2, o1, o2, v2, v3, n1, List.take_length, Nat.le_refl, m1, m2, m3, ml, c1, c2, c3, k1, k2, k3, n2, q, go_sem])
        all_goals (simp only [fin_mk, finV, resL, resV1, resIn, endA, listIn, Option.some_or, Option.none_or, oneOrTup, go_sem]; rw [← hr]; rfl)
    | false =>
    cases k4 : (w == [109, 111, 100, 115, 101, 113]) with
    | true =>
      cases q : decB m with
      | false =>
        have e1 := fail (by rw [← he, hd, hd2]; exact keysL_two_full hk1 (.inl (by rw [keyTwo, if_neg (by rw [k1]; simp), if_neg (by rw [k2]; simp), if_neg (by rw [k3]; simp), if_pos k4, if_neg (by rw [q]; simp)])))
        rw [e1] at hr
        simp only [g1, g2, g3, g5, g5', wl, wl2, o1, o2, v2, v3, n1, List.take_length, Nat.le_refl, m1, m2, m3, ml, c1, c2, c3, k1, k2, k3, k4, n2, q, go_sem]
        repeat' ((first | apply qa | apply qb | apply qc | apply qd | apply qe | apply qf | apply qg | apply qh | apply qi | apply qj | apply qk) <;> intro hp <;> simp only [hp, g1, g2, g3, g5, g5', wl, wl2, o1, o2, v2, v3, n1, List.take_length, Nat.le_refl, m1, m2, m3, ml, c1, c2, c3, k1, k2, k3, k4, n2, q, go_sem])
        all_goals (simp only [fin_mk, finV, resL, resV1, resIn, endA, listIn, Option.some_or, Option.none_or, oneOrTup, go_sem]; rw [← hr]; rfl)
      | true =>
      by_cases q2 : decN m ≤ 100000
      · have hk2 : keyTwo w m = some ⟨7, decN m, []⟩ := by rw [keyTwo, if_neg (by rw [k1]; simp), if_neg (by rw [k2]; simp), if_neg (by rw [k3]; simp), if_pos k4, if_pos ⟨q, q2⟩]
        have ih' : out.length < 6 → _ := fun h6 => ih (i + 2, out ++ [⟨7, decN m, []⟩]) ⟨hm, by simp; omega, by rw [← he, hd, hd2, keysL_two hk1 hk2 h6]⟩ (by simp only; omega)
        simp only [List.map_append, List.map_cons, List.map_nil] at ih'
        have bad : ¬ out.length < 6 → readKeys ws = ([], false) := fun h6 => fail (by rw [← he, hd, hd2]; exact keysL_two_full hk1 (.inr h6))
        simp only [g1, g2, g3, g5, g5', wl, wl2, o1, o2, v2, v3, n1, List.take_length, Nat.le_refl, m1, m2, m3, ml, c1, c2, c3, k1, k2, k3, k4, n2, q, q2, go_sem]
        repeat' ((first | apply qa | apply qb | apply qc | apply qd | apply qe | apply qf | apply qg | apply qh | apply qi | apply qj | apply qk) <;> intro hp <;> simp only [hp, g1, g2, g3, g5, g5', wl, wl2, o1, o2, v2, v3, n1, List.take_length, Nat.le_refl, m1, m2, m3, ml, c1, c2, c3, k1, k2, k3, k4, n2, q, q2, go_sem])
        all_goals first
          | exact ih' (by omega)
          | (clear ih'; omega)
          | (clear ih'; have e1 := bad (by omega); rw [e1] at hr; simp only [fin_mk, finV, resL, resV1, resIn, endA, listIn, Option.some_or, Option.none_or, oneOrTup, go_sem]; rw [← hr]; rfl)
      · have e1 := fail (by rw [← he, hd, hd2]; exact keysL_two_full hk1 (.inl (by rw [keyTwo, if_neg (by rw [k1]; simp), if_neg (by rw [k2]; simp), if_neg (by rw [k3]; simp), if_pos k4, if_neg (fun e => q2 e.2)])))
        rw [e1] at hr
        simp only [g1, g2, g3, g5, g5', wl, wl2, o1, o2, v2, v3, n1, List.take_length, Nat.le_refl, m1, m2, m3, ml, c1, c2, c3, k1, k2, k3, k4, n2, q, q2, go_sem]
        repeat' ((first | apply qa | apply qb | apply qc | apply qd | apply qe | apply qf | apply qg | apply qh | apply qi | apply qj | apply qk) <;> intro hp <;> simp only [hp, g1, g2, g3, g5, g5', wl, wl2, o1, o2, v2, v3, n1, List.take_length, Nat.le_refl, m1, m2, m3, ml, c1, c2, c3, k1, k2, k3, k4, n2, q, q2, go_sem])
        all_goals (simp only [fin_mk, finV, resL, resV1, resIn, endA, listIn, Option.some_or, Option.none_or, oneOrTup, go_sem]; rw [← hr]; rfl)
    | false =>
    have e1 := fail (by rw [← he, hd, hd2]; exact keysL_two_full hk1 (.inl (by rw [keyTwo, if_neg (by rw [k1]; simp), if_neg (by rw [k2]; simp), if_neg (by rw [k3]; simp), if_neg (by rw [k4]; simp)])))
    rw [e1] at hr
    simp only [g1, g2, g3, g5, g5', wl, wl2, o1, o2, v2, v3, n1, List.take_length, Nat.le_refl, m1, m2, m3, ml, c1, c2, c3, k1, k2, k3, k4, go_sem]
    repeat' ((first | apply qa | apply qb | apply qc | apply qd | apply qe | apply qf | apply qg | apply qh | apply qi | apply qj | apply qk) <;> intro hp <;> simp only [hp, g1, g2, g3, g5, g5', wl, wl2, o1, o2, v2, v3, n1, List.take_length, Nat.le_refl, m1, m2, m3, ml, c1, c2, c3, k1, k2, k3, k4, go_sem])
    all_goals (simp only [fin_mk, finV, resL, resV1, resIn, endA, listIn, Option.some_or, Option.none_or, oneOrTup, go_sem]; rw [← hr]; rfl)
  · have m1 : ¬ ((i + 1 : Nat) : Int) < ws.length := by omega
    have hd2 : ws.drop (i + 1) = [] := List.drop_of_length_le hm
    have z0 : (([] : List UInt8).length) ≤ 4194304 := by simp
    cases c1 : (w == [97, 108, 108]) with
    | true =>
      have hk1 : keyOne w = some ⟨1, 0, []⟩ := by rw [keyOne, if_pos c1]
      have ih' : out.length < 6 → _ := fun h6 => ih (i + 1, out ++ [⟨1, 0, []⟩]) ⟨h, by simp; omega, by rw [← he, hd, keysL_one hk1 h6]⟩ (by simp only; omega)
      simp only [List.map_append, List.map_cons, List.map_nil] at ih'
      have bad : ¬ out.length < 6 → readKeys ws = ([], false) := fun h6 => fail (by rw [← he, hd]; exact keysL_full hk1 h6)
      simp only [g1, g2, g3, g5, g5', wl, wl2, o1, o2, v2, v3, n1, List.take_length, Nat.le_refl, m1, c1, go_sem]
      repeat' ((first | apply qa | apply qb | apply qc | apply qd | apply qe | apply qf | apply qg | apply qh | apply qi | apply qj | apply qk) <;> intro hp <;> simp only [hp, g1, g2, g3, g5, g5', wl, wl2, o1, o2, v2, v3, n1, List.take_length, Nat.le_refl, m1, c1, go_sem])
      all_goals first
        | exact ih' (by omega)
        | (clear ih'; omega)
        | (clear ih'; have e1 := bad (by omega); rw [e1] at hr; simp only [fin_mk, finV, resL, resV1, resIn, endA, listIn, Option.some_or, Option.none_or, oneOrTup, go_sem]; rw [← hr]; rfl)
    | false =>
    by_cases c2 : 0 < bitN w
    · have hk1 : keyOne w = some ⟨2, bitN w, []⟩ := by rw [keyOne, if_neg (by rw [c1]; simp), if_pos c2]
      have ih' : out.length < 6 → _ := fun h6 => ih (i + 1, out ++ [⟨2, bitN w, []⟩]) ⟨h, by simp; omega, by rw [← he, hd, keysL_one hk1 h6]⟩ (by simp only; omega)
      simp only [List.map_append, List.map_cons, List.map_nil] at ih'
      have bad : ¬ out.length < 6 → readKeys ws = ([], false) := fun h6 => fail (by rw [← he, hd]; exact keysL_full hk1 h6)
      simp only [g1, g2, g3, g5, g5', wl, wl2, o1, o2, v2, v3, n1, List.take_length, Nat.le_refl, m1, c1, c2, go_sem]
      repeat' ((first | apply qa | apply qb | apply qc | apply qd | apply qe | apply qf | apply qg | apply qh | apply qi | apply qj | apply qk) <;> intro hp <;> simp only [hp, g1, g2, g3, g5, g5', wl, wl2, o1, o2, v2, v3, n1, List.take_length, Nat.le_refl, m1, c1, c2, go_sem])
      all_goals first
        | exact ih' (by omega)
        | (clear ih'; omega)
        | (clear ih'; have e1 := bad (by omega); rw [e1] at hr; simp only [fin_mk, finV, resL, resV1, resIn, endA, listIn, Option.some_or, Option.none_or, oneOrTup, go_sem]; rw [← hr]; rfl)
    simp only [g1, g2, g3, g5, g5', wl, wl2, o1, o2, v2, v3, n1, List.take_length, Nat.le_refl, m1, c1, c2, go_sem]
    repeat' ((first | apply qa | apply qb | apply qc | apply qd | apply qe | apply qf | apply qg | apply qh | apply qi | apply qj | apply qk) <;> intro hp <;> simp only [hp, g1, g2, g3, g5, g5', wl, wl2, o1, o2, v2, v3, n1, List.take_length, Nat.le_refl, m1, c1, c2, go_sem])
    refine goes_val 47 V.bool (unB w) rfl rfl ?_ ?_
    · intro G hG
      clear ih he fail hd2 hd hr
      by_cases t2 : (2 : Int) < (w.length : Int)
      · have t3 : 2 ≤ w.length := by omega
        cases t4 : (w.take 2 == [117, 110]) with
        | true =>
          have hu : unB w = decide (0 < bitN (w.drop 2)) := by rw [unB, t4, decide_eq_true t2]; rfl
          rw [hu] at hG
          simp only [g1, g2, g3, g5, g5', wl, wl2, o1, o2, v2, v3, n1, List.take_length, Nat.le_refl, m1, c1, c2, t2, t3, t4, go_sem]
          repeat' ((first | apply qa | apply qb | apply qc | apply qd | apply qe | apply qf | apply qg | apply qh | apply qi | apply qj | apply qk) <;> intro hp <;> simp only [hp, g1, g2, g3, g5, g5', wl, wl2, o1, o2, v2, v3, n1, List.take_length, Nat.le_refl, m1, c1, c2, t2, t3, t4, go_sem])
          all_goals exact hG _ (by first | rfl | (symm; assumption) | simp_all)
        | false =>
          have hu : unB w = false := by rw [unB, t4]; simp
          rw [hu] at hG
          simp only [g1, g2, g3, g5, g5', wl, wl2, o1, o2, v2, v3, n1, List.take_length, Nat.le_refl, m1, c1, c2, t2, t3, t4, go_sem]
          repeat' ((first | apply qa | apply qb | apply qc | apply qd | apply qe | apply qf | apply qg | apply qh | apply qi | apply qj | apply qk) <;> intro hp <;> simp only [hp, g1, g2, g3, g5, g5', wl, wl2, o1, o2, v2, v3, n1, List.take_length, Nat.le_refl, m1, c1, c2, t2, t3, t4, go_sem])
          all_goals exact hG _ rfl
      · have hu : unB w = false := by rw [unB, decide_eq_false t2]; rfl
        rw [hu] at hG
        simp only [g1, g2, g3, g5, g5', wl, wl2, o1, o2, v2, v3, n1, List.take_length, Nat.le_refl, m1, c1, c2, t2, go_sem]
        repeat' ((first | apply qa | apply qb | apply qc | apply qd | apply qe | apply qf | apply qg | apply qh | apply qi | apply qj | apply qk) <;> intro hp <;> simp only [hp, g1, g2, g3, g5, g5', wl, wl2, o1, o2, v2, v3, n1, List.take_length, Nat.le_refl, m1, c1, c2, t2, go_sem])
        all_goals exact hG _ rfl
    cases c3 : unB w with
    | true =>
      have c3' := c3
      simp only [unB, Bool.and_eq_true, decide_eq_true_eq] at c3'
      have hk1 : keyOne w = some ⟨3, bitN (w.drop 2), []⟩ := by rw [keyOne, if_neg (by rw [c1]; simp), if_neg c2, if_pos c3]
      have ih' : out.length < 6 → _ := fun h6 => ih (i + 1, out ++ [⟨3, bitN (w.drop 2), []⟩]) ⟨h, by simp; omega, by rw [← he, hd, keysL_one hk1 h6]⟩ (by simp only; omega)
      simp only [List.map_append, List.map_cons, List.map_nil] at ih'
      have bad : ¬ out.length < 6 → readKeys ws = ([], false) := fun h6 => fail (by rw [← he, hd]; exact keysL_full hk1 h6)
      simp only [g1, g2, g3, g5, g5', wl, wl2, o1, o2, v2, v3, n1, List.take_length, Nat.le_refl, m1, c1, c2, c3, c3'.1.1, c3'.2, go_sem]
      repeat' ((first | apply qa | apply qb | apply qc | apply qd | apply qe | apply qf | apply qg | apply qh | apply qi | apply qj | apply qk) <;> intro hp <;> simp only [hp, g1, g2, g3, g5, g5', wl, wl2, o1, o2, v2, v3, n1, List.take_length, Nat.le_refl, m1, c1, c2, c3, c3'.1.1, c3'.2, go_sem])
      all_goals first
        | exact ih' (by omega)
        | (clear ih'; omega)
        | (clear ih'; have e1 := bad (by omega); rw [e1] at hr; simp only [fin_mk, finV, resL, resV1, resIn, endA, listIn, Option.some_or, Option.none_or, oneOrTup, go_sem]; rw [← hr]; rfl)
    | false =>
    have hk1 : keyOne w = none := by rw [keyOne, if_neg (by rw [c1]; simp), if_neg c2, if_neg (by rw [c3]; simp)]
    have e1 := fail (by rw [← he, hd, hd2]; exact keysL_end hk1)
    rw [e1] at hr
    have m4 : ((ws.length : Nat) : Int) ≤ ((i + 1 : Nat) : Int) := by omega
    have dB0 : decB [] = false := by
      cases hq : decB [] with
      | false => rfl
      | true =>
        simp only [decB, Bool.and_eq_true, beq_iff_eq] at hq
        exact absurd hq.2.2 (itoa_ne (Int.le_refl 0))
    have dN0 : decN [] = 0 := by rw [decN, dB0]; rfl
    have r0 : within ((([] : List UInt8).length : Nat) : Int) 1 20 = false := by decide
    cases k1 : (w == [115, 117, 98, 106, 101, 99, 116]) with
    | true =>
      have kk : (w == [116, 101, 120, 116]) = false := by rw [eq_of_beq k1]; decide
      simp only [g1, g2, g3, g5, g5', wl, wl2, o1, o2, v2, v3, n1, List.take_length, Nat.le_refl, m1, c1, c2, c3, k1, kk, m4, z0, go_sem]
      repeat' ((first | apply qa | apply qb | apply qc | apply qd | apply qe | apply qf | apply qg | apply qh | apply qi | apply qj | apply qk) <;> intro hp <;> simp only [hp, g1, g2, g3, g5, g5', wl, wl2, o1, o2, v2, v3, n1, List.take_length, Nat.le_refl, m1, c1, c2, c3, k1, kk, m4, z0, go_sem])
      all_goals (simp only [fin_mk, finV, resL, resV1, resIn, endA, listIn, Option.some_or, Option.none_or, oneOrTup, go_sem]; rw [← hr]; rfl)
    | false =>
    cases k2 : (w == [116, 101, 120, 116]) with
    | true =>
      simp only [g1, g2, g3, g5, g5', wl, wl2, o1, o2, v2, v3, n1, List.take_length, Nat.le_refl, m1, c1, c2, c3, k1, k2, m4, z0, go_sem]
      repeat' ((first | apply qa | apply qb | apply qc | apply qd | apply qe | apply qf | apply qg | apply qh | apply qi | apply qj | apply qk) <;> intro hp <;> simp only [hp, g1, g2, g3, g5, g5', wl, wl2, o1, o2, v2, v3, n1, List.take_length, Nat.le_refl, m1, c1, c2, c3, k1, k2, m4, z0, go_sem])
      all_goals (simp only [fin_mk, finV, resL, resV1, resIn, endA, listIn, Option.some_or, Option.none_or, oneOrTup, go_sem]; rw [← hr]; rfl)
    | false =>
    cases k3 : (w == [117, 105, 100]) with
    | true =>
      simp only [g1, g2, g3, g5, g5', wl, wl2, o1, o2, v2, v3, n1, List.take_length, Nat.le_refl, m1, c1, c2, c3, k1, k2, k3, m4, z0, go_sem]
      repeat' ((first | apply qa | apply qb | apply qc | apply qd | apply qe | apply qf | apply qg | apply qh | apply qi | apply qj | apply qk) <;> intro hp <;> simp only [hp, g1, g2, g3, g5, g5', wl, wl2, o1, o2, v2, v3, n1, List.take_length, Nat.le_refl, m1, c1, c2, c3, k1, k2, k3, m4, z0, go_sem])
      all_goals (simp only [fin_mk, finV, resL, resV1, resIn, endA, listIn, Option.some_or, Option.none_or, oneOrTup, go_sem]; rw [← hr]; rfl)
    | false =>
    cases k4 : (w == [109, 111, 100, 115, 101, 113]) with
    | true =>
      simp only [g1, g2, g3, g5, g5', wl, wl2, o1, o2, v2, v3, n1, List.take_length, Nat.le_refl, m1, c1, c2, c3, k1, k2, k3, k4, m4, z0, dB0, dN0, go_sem]
      repeat' ((first | apply qa | apply qb | apply qc | apply qd | apply qe | apply qf | apply qg | apply qh | apply qi | apply qj | apply qk) <;> intro hp <;> simp only [hp, g1, g2, g3, g5, g5', wl, wl2, o1, o2, v2, v3, n1, List.take_length, Nat.le_refl, m1, c1, c2, c3, k1, k2, k3, k4, m4, z0, dB0, dN0, go_sem])
      all_goals (simp only [fin_mk, finV, resL, resV1, resIn, endA, listIn, Option.some_or, Option.none_or, oneOrTup, go_sem]; rw [← hr]; rfl)
    | false =>
    simp only [g1, g2, g3, g5, g5', wl, wl2, o1, o2, v2, v3, n1, List.take_length, Nat.le_refl, m1, c1, c2, c3, k1, k2, k3, k4, m4, z0, go_sem]
    repeat' ((first | apply qa | apply qb | apply qc | apply qd | apply qe | apply qf | apply qg | apply qh | apply qi | apply qj | apply qk) <;> intro hp <;> simp only [hp, g1, g2, g3, g5, g5', wl, wl2, o1, o2, v2, v3, n1, List.take_length, Nat.le_refl, m1, c1, c2, c3, k1, k2, k3, k4, m4, z0, go_sem])
    all_goals (simp only [fin_mk, finV, resL, resV1, resIn, endA, listIn, Option.some_or, Option.none_or, oneOrTup, go_sem]; rw [← hr]; rfl)
end Go.Proofs.YtonjbbfgdloljaaGreatDoor.L

namespace Go.Proofs.YtonjbbfgdloljaaGreatDoor.L
open Go Go.VM
set_option maxRecDepth 100000
set_option maxHeartbeats 4000000
set_option linter.unusedSimpArgs false
set_option linter.unusedVariables false
def wK0 : List (List UInt8) := [[97, 108, 108], [115, 101, 101, 110], [117, 110, 115, 101, 101, 110], [100, 101, 108, 101, 116, 101, 100], [117, 110, 100, 101, 108, 101, 116, 101, 100], [102, 108, 97, 103, 103, 101, 100], [117, 110, 100, 114, 97, 102, 116]]
def wK1 : List (List UInt8) := [[104, 101, 108, 108, 111], [72, 69, 76, 76, 79], [111], [110, 111, 110, 101]]
def wK2 : List (List UInt8) := [[98, 111, 100, 121], [65, 110, 110], [120]]
def wK3 : List (List UInt8) := [[49, 58, 51], [50], [42], [52, 58, 42]]
def wK4 : List (List UInt8) := [[48], [52], [57]]
def wK5 : List (List UInt8) := [[115, 101, 101, 110], [117, 110, 102, 108, 97, 103, 103, 101, 100]]
def wAdd (c : Cur) (k : Int) : List (List UInt8) × Cur :=
  if k = 0 then ([(pickO c wK0).1], (pickO c wK0).2) else
  if k = 1 then ([[115, 117, 98, 106, 101, 99, 116], (pickO c wK1).1], (pickO c wK1).2) else
  if k = 2 then ([[116, 101, 120, 116], (pickO c wK2).1], (pickO c wK2).2) else
  if k = 3 then ([[117, 105, 100], (pickO c wK3).1], (pickO c wK3).2) else
  if k = 4 then ([[109, 111, 100, 115, 101, 113], (pickO c wK4).1], (pickO c wK4).2) else
  ([(pickO c wK5).1], (pickO c wK5).2)
def wordSmall (l : List (List UInt8)) : Prop := ∀ x ∈ l, x.length ≤ 20
theorem wAdd_in {c : Cur} {k : Int} (h : curI c) : (wAdd c k).1.length ≤ 2 ∧ wordSmall (wAdd c k).1 ∧ curI (wAdd c k).2 := by
  have h0 := pickO_in (l := wK0) h (by decide)
  have l0 : (pickO c wK0).1.length ≤ 20 := by
    have : ∀ x ∈ wK0, x.length ≤ 20 := by decide
    exact this _ h0.2
  have h1 := pickO_in (l := wK1) h (by decide)
  have l1 : (pickO c wK1).1.length ≤ 20 := by
    have : ∀ x ∈ wK1, x.length ≤ 20 := by decide
    exact this _ h1.2
  have h2 := pickO_in (l := wK2) h (by decide)
  have l2 : (pickO c wK2).1.length ≤ 20 := by
    have : ∀ x ∈ wK2, x.length ≤ 20 := by decide
    exact this _ h2.2
  have h3 := pickO_in (l := wK3) h (by decide)
  have l3 : (pickO c wK3).1.length ≤ 20 := by
    have : ∀ x ∈ wK3, x.length ≤ 20 := by decide
    exact this _ h3.2
  have h4 := pickO_in (l := wK4) h (by decide)
  have l4 : (pickO c wK4).1.length ≤ 20 := by
    have : ∀ x ∈ wK4, x.length ≤ 20 := by decide
    exact this _ h4.2
  have h5 := pickO_in (l := wK5) h (by decide)
  have l5 : (pickO c wK5).1.length ≤ 20 := by
    have : ∀ x ∈ wK5, x.length ≤ 20 := by decide
    exact this _ h5.2
  unfold wAdd
  repeat' split
  · exact ⟨by simp, fun x hx => by simp only [List.mem_singleton] at hx; subst hx; exact l0, h0.1⟩
  · exact ⟨by simp, fun x hx => by simp only [List.mem_cons, List.not_mem_nil, or_false] at hx; (rcases hx with rfl | rfl <;> first | exact l1 | exact (by decide)), h1.1⟩
  · exact ⟨by simp, fun x hx => by simp only [List.mem_cons, List.not_mem_nil, or_false] at hx; (rcases hx with rfl | rfl <;> first | exact l2 | exact (by decide)), h2.1⟩
  · exact ⟨by simp, fun x hx => by simp only [List.mem_cons, List.not_mem_nil, or_false] at hx; (rcases hx with rfl | rfl <;> first | exact l3 | exact (by decide)), h3.1⟩
  · exact ⟨by simp, fun x hx => by simp only [List.mem_cons, List.not_mem_nil, or_false] at hx; (rcases hx with rfl | rfl <;> first | exact l4 | exact (by decide)), h4.1⟩
  · exact ⟨by simp, fun x hx => by simp only [List.mem_singleton] at hx; subst hx; exact l5, h5.1⟩
def wordsL : Nat → Nat → Cur → List (List UInt8) → List (List UInt8) × Cur
  | 0, _, c, a => (a, c)
  | f + 1, i, c, a => if (i : Int) < 1 + (belO c 3).1 then wordsL f (i + 1) (wAdd (belO (belO c 3).2 6).2 (belO (belO c 3).2 6).1).2 (a ++ (wAdd (belO (belO c 3).2 6).2 (belO (belO c 3).2 6).1).1) else (a, (belO c 3).2)
theorem wordsL_in : ∀ (f i : Nat) {c : Cur} {a : List (List UInt8)}, curI c → a.length ≤ 2 * i → wordSmall a → (wordsL f i c a).1.length ≤ 2 * (i + f) ∧ wordSmall (wordsL f i c a).1 ∧ curI (wordsL f i c a).2
  | 0, i, c, a, hc, ha, hs => ⟨by simp only [wordsL]; omega, hs, hc⟩
  | f + 1, i, c, a, hc, ha, hs => by
    have h1 := belO_in (n := 3) hc
    have h2 := belO_in (n := 6) h1.1
    have h3 := wAdd_in (k := (belO (belO c 3).2 6).1) h2.1
    rw [wordsL]
    split
    · have := wordsL_in f (i + 1) (a := a ++ (wAdd (belO (belO c 3).2 6).2 (belO (belO c 3).2 6).1).1) h3.2.2 (by rw [List.length_append]; omega) (fun x hx => by
        rcases List.mem_append.1 hx with hx | hx
        · exact hs x hx
        · exact h3.2.1 x hx)
      exact ⟨by omega, this.2⟩
    · exact ⟨by simp only; omega, hs, h1.1⟩
open Classical in
noncomputable def spWords : VM.Spec := { modes := [.ptr], run := fun | [.rptr (c')] => (Cur.dec c').bind fun c => if curI c then some (.lst 1 (((wordsL 4 0 c []).1).map eStr), [.rptr (Cur.enc ((wordsL 4 0 c []).2))]) else none | _ => none, need := [] }
attribute [go_sem] spWords
theorem spWords_in {ins : List V} {r : V} {outs : List V} (h : spWords.run ins = some (r, outs)) : ∃ (c : Cur), ins = [.rptr (Cur.enc c)] ∧ (curI c) ∧ .lst 1 (((wordsL 4 0 c []).1).map eStr) = r ∧ outs = [.rptr (Cur.enc ((wordsL 4 0 c []).2))] := by
  unfold spWords at h
  simp only at h
  split at h
  · rename_i c'
    simp only [Option.bind_eq_some_iff] at h
    obtain ⟨c, h_c, h⟩ := h
    split at h
    case isFalse => cases h
    rename_i hc
    simp only [Option.some.injEq, Prod.mk.injEq] at h
    obtain ⟨h1, h2⟩ := h
    have h_c := Cur.dec_some h_c
    subst h_c
    exact ⟨c, rfl, hc, h1, h2.symm⟩
  · cases h
def T_spec_l12Words : Hints := ⟨lk [], lk [(3, [0, 3, 4])], lk [(0, [0]), (1, [0, 3]), (2, [0, 3, 4]), (3, [0, 3, 4, 10]), (5, [0, 3, 4, 14]), (7, [0, 3, 4, 14, 21]), (8, [0, 3, 4]), (9, [0, 3, 4, 14, 29]), (10, [0, 3, 4]), (11, [0, 3, 4, 14, 37]), (12, [0, 3, 4]), (13, [0, 3, 4, 14, 45]), (14, [0, 3, 4]), (15, [0, 3, 4, 53]), (16, [0, 3, 4]), (6, [0, 3, 4]), (4, [0, 3, 4]), (17, [2])], lk []⟩
noncomputable def Phi_spec_l12Words : Tab := lk [(31, spBelow), (32, spPick)]
attribute [go_sem] T_spec_l12Words Phi_spec_l12Words
theorem phi_spec_l12Words : ∀ f sp, Phi_spec_l12Words f = some sp → FnOk Tryz.prog f sp ∧ ∀ n ∈ sp.need, n ∈ ([] : List String) := phi_cons ok_spec_l01Below (n0 rfl) (phi_cons ok_spec_l01Pick (n0 rfl) (phi_nil))
theorem ok_spec_l12Words : FnOk Tryz.prog 47 spWords := by
  refine fn_ok (Φ := Phi_spec_l12Words) (T := T_spec_l12Words) phi_spec_l12Words mixed Tryz.func47 rfl rfl rfl (by decide) ?_
  intro ins r outs hr hl
  clear hl
  have hs := spWords_in hr
  clear hr
  obtain ⟨c, rfl, hc, hr, rfl⟩ := hs
  simp only [spWords, Tryz.f47, Go.VM.initS]
  obtain ⟨⟨RS, RC⟩, hR⟩ : ∃ R, wordsL 4 0 c [] = R := ⟨_, rfl⟩
  rw [hR] at hr
  simp only [hR, go_sem]
  repeat' ((first | apply qa | apply qb | apply qc | apply qd | apply qe | apply qf | apply qg | apply qh | apply qi | apply qj | apply qk) <;> intro hp <;> simp only [hp, hR, go_sem])
  refine loop_go (fun p : Nat × Cur × List (List UInt8) => [(4, .int .i64 (p.1 : Int))]) (fun p => [(0, ⟨.box, 3, [p.2.1.enc]⟩), (1, ⟨.arr, 1, p.2.2.map eStr⟩)]) (fun p => 4 - p.1) (fun p => p.1 ≤ 3 ∧ curI p.2.1 ∧ p.2.2.length ≤ 2 * p.1 ∧ wordsL (4 - p.1) p.1 p.2.1 p.2.2 = (RS, RC)) (0, c, []) ⟨by omega, hc, by simp, hR⟩ rfl rfl ?_
  rintro ⟨i, d, a⟩ ⟨hi, hd, hl, he⟩ ih
  simp only at hi hd hl he ih
  have h1 := belO_in (n := 3) hd
  rw [show 4 - i = (4 - (i + 1)) + 1 by omega, wordsL] at he
  obtain ⟨⟨v1, c1⟩, e1⟩ : ∃ x, belO d 3 = x := ⟨_, rfl⟩
  rw [e1] at h1 he
  simp only at h1 he
  have hv := h1.2.2 (by decide)
  have w1 : IntKind.i64.wrap (1 + v1) = 1 + v1 := wrap64 (by omega) (by omega)
  by_cases g1 : (i : Int) < 1 + v1
  · rw [if_pos g1] at he
    have h2 := belO_in (n := 6) h1.1
    obtain ⟨⟨k, c2⟩, e2⟩ : ∃ x, belO c1 6 = x := ⟨_, rfl⟩
    rw [e2] at h2 he
    simp only at h2 he
    have hk := h2.2.2 (by decide)
    have h3 := wAdd_in (k := k) h2.1
    have g5 : IntKind.i64.wrap ((i : Int) + 1) = ((i + 1 : Nat) : Int) := wrap_succ (n := 10) (by omega) (by omega)
    have ih' := ih (i + 1, (wAdd c2 k).2, a ++ (wAdd c2 k).1) ⟨by omega, h3.2.2, by rw [List.length_append]; omega, he⟩ (by simp only; omega)
    simp only at ih'
    have q1 : a.length + 1 ≤ 9223372036854775807 := by omega
    have q2 : a.length ≤ 9223372036854775806 := by omega
    have q3 : a.length ≤ 9223372036854775805 := by omega
    have q4 : (a.length + 1) * 16 ≤ 140737488355328 := by omega
    have q5 : (a.length + 1 + 1) * 16 ≤ 140737488355328 := by omega
    have q6 : a.length + 1 + 1 ≤ 9223372036854775807 := by omega
    have hk' : k = 0 ∨ k = 1 ∨ k = 2 ∨ k = 3 ∨ k = 4 ∨ k = 5 := by omega
    rcases hk' with rfl | rfl | rfl | rfl | rfl | rfl
    · obtain ⟨⟨x, d2⟩, e3⟩ : ∃ y, pickO c2 wK0 = y := ⟨_, rfl⟩
      have e3' : pickO c2 [[97, 108, 108], [115, 101, 101, 110], [117, 110, 115, 101, 101, 110], [100, 101, 108, 101, 116, 101, 100], [117, 110, 100, 101, 108, 101, 116, 101, 100], [102, 108, 97, 103, 103, 101, 100], [117, 110, 100, 114, 97, 102, 116]] = (x, d2) := e3
      have hst : wAdd c2 0 = ([x], d2) := by simp only [wAdd, Int.reduceEq, if_true, if_false, e3]
      rw [hst] at ih'
      simp only [List.map_append, List.map_cons, List.map_nil] at ih'
      simp only [hd, e1, h1.1, g1, w1, g5, e2, h2.1, e3', q1, q2, q3, q4, q5, q6, go_sem]
      repeat' ((first | apply qa | apply qb | apply qc | apply qd | apply qe | apply qf | apply qg | apply qh | apply qi | apply qj | apply qk) <;> intro hp <;> simp only [hp, hd, e1, h1.1, g1, w1, g5, e2, h2.1, e3', q1, q2, q3, q4, q5, q6, go_sem])
      all_goals first | exact ih' | (clear ih'; omega)
    · obtain ⟨⟨x, d2⟩, e3⟩ : ∃ y, pickO c2 wK1 = y := ⟨_, rfl⟩
      have e3' : pickO c2 [[104, 101, 108, 108, 111], [72, 69, 76, 76, 79], [111], [110, 111, 110, 101]] = (x, d2) := e3
      have hst : wAdd c2 1 = ([[115, 117, 98, 106, 101, 99, 116], x], d2) := by simp only [wAdd, Int.reduceEq, if_true, if_false, e3]
      rw [hst] at ih'
      simp only [List.map_append, List.map_cons, List.map_nil] at ih'
      simp only [hd, e1, h1.1, g1, w1, g5, e2, h2.1, e3', q1, q2, q3, q4, q5, q6, go_sem]
      repeat' ((first | apply qa | apply qb | apply qc | apply qd | apply qe | apply qf | apply qg | apply qh | apply qi | apply qj | apply qk) <;> intro hp <;> simp only [hp, hd, e1, h1.1, g1, w1, g5, e2, h2.1, e3', q1, q2, q3, q4, q5, q6, go_sem])
      all_goals first | exact ih' | (clear ih'; omega)
    · obtain ⟨⟨x, d2⟩, e3⟩ : ∃ y, pickO c2 wK2 = y := ⟨_, rfl⟩
      have e3' : pickO c2 [[98, 111, 100, 121], [65, 110, 110], [120]] = (x, d2) := e3
      have hst : wAdd c2 2 = ([[116, 101, 120, 116], x], d2) := by simp only [wAdd, Int.reduceEq, if_true, if_false, e3]
      rw [hst] at ih'
      simp only [List.map_append, List.map_cons, List.map_nil] at ih'
      simp only [hd, e1, h1.1, g1, w1, g5, e2, h2.1, e3', q1, q2, q3, q4, q5, q6, go_sem]
      repeat' ((first | apply qa | apply qb | apply qc | apply qd | apply qe | apply qf | apply qg | apply qh | apply qi | apply qj | apply qk) <;> intro hp <;> simp only [hp, hd, e1, h1.1, g1, w1, g5, e2, h2.1, e3', q1, q2, q3, q4, q5, q6, go_sem])
      all_goals first | exact ih' | (clear ih'; omega)
    · obtain ⟨⟨x, d2⟩, e3⟩ : ∃ y, pickO c2 wK3 = y := ⟨_, rfl⟩
      have e3' : pickO c2 [[49, 58, 51], [50], [42], [52, 58, 42]] = (x, d2) := e3
      have hst : wAdd c2 3 = ([[117, 105, 100], x], d2) := by simp only [wAdd, Int.reduceEq, if_true, if_false, e3]
      rw [hst] at ih'
      simp only [List.map_append, List.map_cons, List.map_nil] at ih'
      simp only [hd, e1, h1.1, g1, w1, g5, e2, h2.1, e3', q1, q2, q3, q4, q5, q6, go_sem]
      repeat' ((first | apply qa | apply qb | apply qc | apply qd | apply qe | apply qf | apply qg | apply qh | apply qi | apply qj | apply qk) <;> intro hp <;> simp only [hp, hd, e1, h1.1, g1, w1, g5, e2, h2.1, e3', q1, q2, q3, q4, q5, q6, go_sem])
      all_goals first | exact ih' | (clear ih'; omega)
    · obtain ⟨⟨x, d2⟩, e3⟩ : ∃ y, pickO c2 wK4 = y := ⟨_, rfl⟩
      have e3' : pickO c2 [[48], [52], [57]] = (x, d2) := e3
      have hst : wAdd c2 4 = ([[109, 111, 100, 115, 101, 113], x], d2) := by simp only [wAdd, Int.reduceEq, if_true, if_false, e3]
      rw [hst] at ih'
      simp only [List.map_append, List.map_cons, List.map_nil] at ih'
      simp only [hd, e1, h1.1, g1, w1, g5, e2, h2.1, e3', q1, q2, q3, q4, q5, q6, go_sem]
      repeat' ((first | apply qa | apply qb | apply qc | apply qd | apply qe | apply qf | apply qg | apply qh | apply qi | apply qj | apply qk) <;> intro hp <;> simp only [hp, hd, e1, h1.1, g1, w1, g5, e2, h2.1, e3', q1, q2, q3, q4, q5, q6, go_sem])
      all_goals first | exact ih' | (clear ih'; omega)
    · obtain ⟨⟨x, d2⟩, e3⟩ : ∃ y, pickO c2 wK5 = y := ⟨_, rfl⟩
      have e3' : pickO c2 [[115, 101, 101, 110], [117, 110, 102, 108, 97, 103, 103, 101, 100]] = (x, d2) := e3
      have hst : wAdd c2 5 = ([x], d2) := by simp only [wAdd, Int.reduceEq, if_true, if_false, e3]
      rw [hst] at ih'
      simp only [List.map_append, List.map_cons, List.map_nil] at ih'
      simp only [hd, e1, h1.1, g1, w1, g5, e2, h2.1, e3', q1, q2, q3, q4, q5, q6, go_sem]
      repeat' ((first | apply qa | apply qb | apply qc | apply qd | apply qe | apply qf | apply qg | apply qh | apply qi | apply qj | apply qk) <;> intro hp <;> simp only [hp, hd, e1, h1.1, g1, w1, g5, e2, h2.1, e3', q1, q2, q3, q4, q5, q6, go_sem])
      all_goals first | exact ih' | (clear ih'; omega)
  · rw [if_neg g1] at he
    simp only [Prod.mk.injEq] at he
    obtain ⟨rfl, rfl⟩ := he
    simp only [hd, e1, h1.1, g1, w1, go_sem]
    repeat' ((first | apply qa | apply qb | apply qc | apply qd | apply qe | apply qf | apply qg | apply qh | apply qi | apply qj | apply qk) <;> intro hp <;> simp only [hp, hd, e1, h1.1, g1, w1, go_sem])
    simp only [fin_mk, finV, resL, resV1, resIn, endA, listIn, Option.some_or, Option.none_or, oneOrTup, go_sem]
    rw [← hr]
def drawKeys (code : List Int) : List Key := (readKeys (wordsL 4 0 (cur0 code) []).1).1
open Classical in
noncomputable def spDrawKeys : VM.Spec := { modes := [.rd], run := fun | [.lst 1 code'] => (decL dU8 code').bind fun code => if code.length ≤ 4194304 then some (.lst 3 ((drawKeys code).map Key.enc), []) else none | _ => none, need := ["internal/bytealg.MaxLen"] }
attribute [go_sem] spDrawKeys
end Go.Proofs.YtonjbbfgdloljaaGreatDoor.L

namespace Go.Proofs.YtonjbbfgdloljaaGreatDoor.L
open Go Go.VM
set_option maxRecDepth 100000
set_option maxHeartbeats 4000000
set_option linter.unusedSimpArgs false
set_option linter.unusedVariables false
inductive KW : List (List UInt8) → Nat → Prop
  | nil : KW [] 0
  | one {w : List UInt8} {r : List (List UInt8)} {n : Nat} (h : (keyOne w).isSome = true) (t : KW r n) : KW (w :: r) (n + 1)
  | two {w m : List UInt8} {r : List (List UInt8)} {n : Nat} (h : keyOne w = none) (h2 : (keyTwo w m).isSome = true) (t : KW r n) : KW (w :: m :: r) (n + 1)
theorem KW.app {a b : List (List UInt8)} {n m : Nat} (h : KW a n) (k : KW b m) : KW (a ++ b) (n + m) := by
  induction h with
  | nil => simpa using k
  | one h t ih => rw [List.cons_append, Nat.add_right_comm]; exact .one h ih
  | two h h2 t ih => rw [List.cons_append, List.cons_append, Nat.add_right_comm]; exact .two h h2 ih
theorem KW.keys {a : List (List UInt8)} {n : Nat} (h : KW a n) : ∀ out : List Key, out.length + n ≤ 6 → ∃ ks, keysL a out = some ks ∧ ks.length = out.length + n := by
  induction h with
  | nil => intro out _; exact ⟨out, by rw [keysL], rfl⟩
  | one h t ih =>
    intro out hl
    obtain ⟨k, hk⟩ := Option.isSome_iff_exists.1 h
    obtain ⟨ks, h1, h2⟩ := ih (out ++ [k]) (by simp; omega)
    exact ⟨ks, by rw [keysL_one hk (by omega)]; exact h1, by rw [h2]; simp; omega⟩
  | two h h2 t ih =>
    intro out hl
    obtain ⟨k, hk⟩ := Option.isSome_iff_exists.1 h2
    obtain ⟨ks, h3, h4⟩ := ih (out ++ [k]) (by simp; omega)
    exact ⟨ks, by rw [keysL_two h hk (by omega)]; exact h3, by rw [h4]; simp; omega⟩
theorem wK0_key : ∀ x ∈ wK0, (keyOne x).isSome = true := by decide +kernel
theorem wK5_key : ∀ x ∈ wK5, (keyOne x).isSome = true := by decide +kernel
theorem wK1_key : ∀ x ∈ wK1, (keyTwo [115, 117, 98, 106, 101, 99, 116] x).isSome = true := by decide +kernel
theorem wK2_key : ∀ x ∈ wK2, (keyTwo [116, 101, 120, 116] x).isSome = true := by decide +kernel
theorem wK4_key : ∀ x ∈ wK4, (keyTwo [109, 111, 100, 115, 101, 113] x).isSome = true := by
  intro x hx
  have key : ∀ n : Int, 0 ≤ n → n ≤ 100000 → (keyTwo [109, 111, 100, 115, 101, 113] (Lib.itoa n)).isSome = true := by
    intro n h0 h1
    obtain ⟨d1, d2⟩ := dec_back h0 (Int.le_trans h1 (by decide))
    have : keyTwo [109, 111, 100, 115, 101, 113] (Lib.itoa n) = if decB (Lib.itoa n) = true ∧ decN (Lib.itoa n) ≤ 100000 then some ⟨7, decN (Lib.itoa n), []⟩ else none := rfl
    rw [this, if_pos ⟨d1, by rw [d2]; exact h1⟩]; rfl
  simp only [wK4, List.mem_cons, List.not_mem_nil, or_false] at hx
  have e : ∀ (n : Nat) (c : UInt8), n < 10 → c.toNat = 48 + n → Lib.itoa (n : Int) = [c] := by
    intro n c hn hc
    rw [Lib.itoa, if_neg (by omega), Int.toNat_natCast, Lib.decDigits, dif_pos hn]
    congr 1
    apply UInt8.toNat_inj.1
    rw [hc]; simp; omega
  rcases hx with rfl | rfl | rfl
  · rw [← e 0 48 (by omega) rfl]; exact key _ (by decide) (by decide)
  · rw [← e 4 52 (by omega) rfl]; exact key _ (by decide) (by decide)
  · rw [← e 9 57 (by omega) rfl]; exact key _ (by decide) (by decide)
theorem uid_key {m : List UInt8} {S : List Range} (h : rangesOf 9999 (splitOn 44 m) = some S) (hS : setOk S = true) : (keyTwo [117, 105, 100] m).isSome = true := by
  have hr : readOk m 9999 = true := by
    rw [readOk, h]
    have : (setR S).length ≤ 40 := by
      rw [setR_same hS]
      simp only [setOk, Bool.and_eq_true, decide_eq_true_eq] at hS; exact hS.2
    simp only [this, decide_true, Bool.and_true]; rfl
  have : keyTwo [117, 105, 100] m = if readOk m 9999 = true then some ⟨6, 0, m⟩ else none := rfl
  rw [this, if_pos hr]; rfl
theorem wK3_key : ∀ x ∈ wK3, (keyTwo [117, 105, 100] x).isSome = true := by
  intro x hx
  simp only [wK3, List.mem_cons, List.not_mem_nil, or_false] at hx
  rcases hx with rfl | rfl | rfl | rfl
  · exact uid_key (S := [⟨1, 3⟩]) (by decide +kernel) (by decide +kernel)
  · exact uid_key (S := [⟨2, 2⟩]) (by decide +kernel) (by decide +kernel)
  · exact uid_key (S := [⟨9999, 9999⟩]) (by decide +kernel) (by decide +kernel)
  · exact uid_key (S := [⟨4, 9999⟩]) (by decide +kernel) (by decide +kernel)
theorem wAdd_kw {c : Cur} {k : Int} (h : curI c) : KW (wAdd c k).1 1 := by
  have h0 := (pickO_in (l := wK0) h (by decide)).2
  have h1 := (pickO_in (l := wK1) h (by decide)).2
  have h2 := (pickO_in (l := wK2) h (by decide)).2
  have h3 := (pickO_in (l := wK3) h (by decide)).2
  have h4 := (pickO_in (l := wK4) h (by decide)).2
  have h5 := (pickO_in (l := wK5) h (by decide)).2
  unfold wAdd
  repeat' split
  · exact .one (wK0_key _ h0) .nil
  · exact .two (by decide +kernel) (wK1_key _ h1) .nil
  · exact .two (by decide +kernel) (wK2_key _ h2) .nil
  · exact .two (by decide +kernel) (wK3_key _ h3) .nil
  · exact .two (by decide +kernel) (wK4_key _ h4) .nil
  · exact .one (wK5_key _ h5) .nil
theorem wordsL_kw : ∀ (f i : Nat) {c : Cur} {a : List (List UInt8)}, curI c → KW a i → i + f ≤ 4 → ∃ n, i ≤ n ∧ n ≤ 3 + 1 ∧ KW (wordsL f i c a).1 n
  | 0, i, c, a, hc, ha, hl => ⟨i, Nat.le_refl _, by omega, by rw [wordsL]; exact ha⟩
  | f + 1, i, c, a, hc, ha, hl => by
    have h1 := belO_in (n := 3) hc
    have h2 := belO_in (n := 6) h1.1
    have h3 := wAdd_in (k := (belO (belO c 3).2 6).1) h2.1
    have h4 := wAdd_kw (k := (belO (belO c 3).2 6).1) h2.1
    rw [wordsL]
    split
    · obtain ⟨n, n1, n2, n3⟩ := wordsL_kw f (i + 1) h3.2.2 (ha.app h4) (by omega)
      exact ⟨n, by omega, n2, n3⟩
    · exact ⟨i, Nat.le_refl _, by omega, ha⟩
theorem words_keys {c : Cur} (h : curI c) : 1 ≤ (readKeys (wordsL 4 0 c []).1).1.length := by
  have h1 := belO_in (n := 3) h
  have h2 := belO_in (n := 6) h1.1
  have h3 := wAdd_in (k := (belO (belO c 3).2 6).1) h2.1
  have h4 := wAdd_kw (k := (belO (belO c 3).2 6).1) h2.1
  have e : wordsL 4 0 c [] = wordsL 3 1 (wAdd (belO (belO c 3).2 6).2 (belO (belO c 3).2 6).1).2 ([] ++ (wAdd (belO (belO c 3).2 6).2 (belO (belO c 3).2 6).1).1) := by
    rw [wordsL, if_pos (by have := h1.2.1; omega)]
  obtain ⟨n, n1, n2, n3⟩ := wordsL_kw 3 1 h3.2.2 (a := [] ++ (wAdd (belO (belO c 3).2 6).2 (belO (belO c 3).2 6).1).1) (by rw [List.nil_append]; exact h4) (by omega)
  obtain ⟨ks, k1, k2⟩ := n3.keys [] (by simp; omega)
  rw [e, readKeys, k1]
  simp only [List.length_nil] at k2
  show 1 ≤ ks.length
  omega
end Go.Proofs.YtonjbbfgdloljaaGreatDoor.L

namespace Go.Proofs.YtonjbbfgdloljaaGreatDoor.L
open Go Go.VM
set_option maxRecDepth 100000
set_option maxHeartbeats 4000000
set_option linter.unusedSimpArgs false
set_option linter.unusedVariables false
theorem headIn_len (nm : List UInt8) (n : Nat) : ∀ ls : List (List UInt8), (∀ x ∈ ls, x.length ≤ n) → (headIn nm ls).1.length ≤ n
  | [], _ => by simp [headIn]
  | l :: ls, h => by
    rw [headIn]
    split
    · simp
    · split
      · have h1 := trim_len (l.drop (nm.length + 1))
        have h2 := h l (by simp)
        rw [List.length_drop] at h1
        simp only; omega
      · exact headIn_len nm n ls fun x hx => h x (by simp [hx])
theorem headOf_len (t nm : List UInt8) : (headOf t nm).1.length ≤ t.length := headIn_len nm _ _ (splitOn_mem 10 t)
theorem baseL_len : ∀ (n : Nat) (s : List UInt8), (baseL n s).length ≤ s.length
  | 0, s => Nat.le_refl _
  | n + 1, s => by
    rw [baseL]
    split
    · exact Nat.le_trans (baseL_len n _) (Nat.le_trans (trim_len _) (by rw [List.length_drop]; omega))
    · split
      · exact Nat.le_trans (baseL_len n _) (Nat.le_trans (trim_len _) (by rw [List.length_drop]; omega))
      · exact Nat.le_refl _
theorem baseSubject_len (s : List UInt8) : (baseSubject s).length ≤ s.length :=
  Nat.le_trans (baseL_len _ _) (Nat.le_trans (trim_len _) (by rw [lowS_len]; exact Nat.le_refl _))
theorem readSet_len (t : List UInt8) (last : Int) : (readSet t last).length ≤ 40 := by
  unfold readSet
  split
  · rename_i h
    simp only [readOk, Bool.and_eq_true] at h
    split
    · rename_i l hl
      rw [hl] at h
      simpa using h.2
    · simp
  · simp
theorem readSet_no {t : List UInt8} {last : Int} (h : readOk t last = false) : readSet t last = [] := by rw [readSet, h, if_neg (by simp)]
def hasT (s t : List UInt8) : Bool := decide (0 ≤ Lib.index s t)
theorem hasT_here {s t : List UInt8} (h : t.isPrefixOf s = true) : hasT s t = true := by
  cases s with
  | nil =>
    have : t = [] := by cases t with | nil => rfl | cons a l => simp [List.isPrefixOf] at h
    subst this; simp [hasT, Lib.index]
  | cons b s => simp [hasT, Lib.index, h]
theorem hasT_next {b : UInt8} {s t : List UInt8} (h : t.isPrefixOf (b :: s) = false) : hasT (b :: s) t = hasT s t := by
  have hge := Lib.index_ge s t
  simp only [hasT, Lib.index, h, Bool.false_eq_true, if_false]
  by_cases he : Lib.index s t = -1
  · rw [he]; rfl
  · have : (Lib.index s t == -1) = false := beq_eq_false_iff_ne.2 he
    rw [this, Bool.eq_iff_iff]
    simp; omega
theorem hasT_short {s t : List UInt8} (h : s.length < t.length) : hasT s t = false := by
  rw [hasT, decide_eq_false_iff_not]
  intro h0
  have := index_room h0
  omega
theorem pre_at {s t : List UInt8} {i : Nat} (h : i + t.length ≤ s.length) : t.isPrefixOf (s.drop i) = ((s.take (i + t.length)).drop i == t) := by
  rw [Bool.eq_iff_iff, List.isPrefixOf_iff_prefix, List.prefix_iff_eq_take, beq_iff_eq, List.drop_take]
  rw [show i + t.length - i = t.length by omega]
  exact eq_comm
open Classical in
noncomputable def spHasT : VM.Spec := { modes := [.rd, .rd], run := fun | [.str s, .str t] => if s.length ≤ 4194304 ∧ t.length ≤ 4194304 then some (.bool (hasT s t), []) else none | _ => none, need := ["internal/bytealg.MaxLen"] }
attribute [go_sem] spHasT
theorem spHasT_in {ins : List V} {r : V} {outs : List V} (h : spHasT.run ins = some (r, outs)) : ∃ (s : (List UInt8)) (t : (List UInt8)), ins = [.str s, .str t] ∧ (s.length ≤ 4194304 ∧ t.length ≤ 4194304) ∧ .bool (hasT s t) = r ∧ outs = [] := by
  unfold spHasT at h
  simp only at h
  split at h
  · rename_i s t
    split at h
    case isFalse => cases h
    rename_i hc
    simp only [Option.some.injEq, Prod.mk.injEq] at h
    obtain ⟨h1, h2⟩ := h
    exact ⟨s, t, rfl, hc, h1, h2.symm⟩
  · cases h
theorem ok_strings_Index : FnOk Tryz.prog 101 spIndex :=
  index_ok Tryz.func101 rfl (by kernel_rfl) (g := 0) (by kernel_rfl) (by simp [spIndex]) rfl (fun _ _ _ h => spIndex_in h) Tryz.strings_Index
def T_strings_Contains : Hints := ⟨lk [], lk [], lk [(0, [0, 1]), (1, [4])], lk []⟩
noncomputable def Phi_strings_Contains : Tab := lk [(101, spIndex)]
attribute [go_sem] T_strings_Contains Phi_strings_Contains
theorem phi_strings_Contains : ∀ f sp, Phi_strings_Contains f = some sp → FnOk Tryz.prog f sp ∧ ∀ n ∈ sp.need, n ∈ (["internal/bytealg.MaxLen"] : List String) := phi_cons ok_strings_Index (fun n (h : n ∈ (["internal/bytealg.MaxLen"] : List String)) => by simp only [List.mem_cons, List.not_mem_nil, or_false] at h; rcases h with rfl <;> simp) (phi_nil)
theorem ok_strings_Contains : FnOk Tryz.prog 60 spHasT := by
  refine fn_ok (Φ := Phi_strings_Contains) (T := T_strings_Contains) phi_strings_Contains mixed Tryz.func60 rfl rfl rfl (by decide) ?_
  intro ins r outs hr hl
  clear hl
  have hs := spHasT_in hr
  clear hr
  obtain ⟨s, t, rfl, hc, hr, rfl⟩ := hs
  simp only [spHasT, Tryz.f60, Go.VM.initS]
  obtain ⟨hs, ht⟩ := hc
  have h1 : s.length < 4294967281 := by omega
  simp only [h1, go_sem]
  repeat' ((first | apply qa | apply qb | apply qc | apply qd | apply qe | apply qf | apply qg | apply qh | apply qi | apply qj | apply qk) <;> intro hp <;> simp only [hp, h1, go_sem])
  simp only [fin_mk, finV, resL, resV1, resIn, endA, listIn, Option.some_or, Option.none_or, oneOrTup, go_sem]
  rw [← hr]
  rfl
def T_spec_l12Has : Hints := ⟨lk [], lk [(2, [0, 1, 5])], lk [(0, [0, 1]), (1, [0, 1, 5]), (2, [0, 1, 5, 12]), (4, [0, 1, 5, 23]), (5, [4]), (3, [0, 1, 5]), (6, [4])], lk []⟩
noncomputable def Phi_spec_l12Has : Tab := lk []
attribute [go_sem] T_spec_l12Has Phi_spec_l12Has
theorem phi_spec_l12Has : ∀ f sp, Phi_spec_l12Has f = some sp → FnOk Tryz.prog f sp ∧ ∀ n ∈ sp.need, n ∈ (["internal/bytealg.MaxLen"] : List String) := phi_nil
theorem ok_spec_l12Has : FnOk Tryz.prog 67 spHasT := by
  refine fn_ok (Φ := Phi_spec_l12Has) (T := T_spec_l12Has) phi_spec_l12Has mixed Tryz.func67 rfl rfl rfl (by decide) ?_
  intro ins r outs hr hl
  clear hl
  have hs := spHasT_in hr
  clear hr
  obtain ⟨s, t, rfl, hc, hr, rfl⟩ := hs
  simp only [spHasT, Tryz.f67, Go.VM.initS]
  obtain ⟨hs, ht⟩ := hc
  simp only [go_sem]
  repeat' ((first | apply qa | apply qb | apply qc | apply qd | apply qe | apply qf | apply qg | apply qh | apply qi | apply qj | apply qk) <;> intro hp <;> simp only [hp, go_sem])
  refine loop_go (fun i : Nat => [(5, .int .i64 (i : Int))]) (fun _ => []) (fun i => s.length + 1 - i) (fun i => i ≤ s.length ∧ hasT s t = hasT (s.drop i) t) 0 ⟨Nat.zero_le _, rfl⟩ rfl rfl ?_
  intro i ⟨hi, ha⟩ ih
  have w1 : IntKind.i64.wrap ((i : Int) + (t.length : Int)) = ((i + t.length : Nat) : Int) := (wrap64 (by omega) (by omega)).trans (by omega)
  have g2 : (0 : Int) ≤ i := by omega
  by_cases h : i + t.length ≤ s.length
  · have g1 : ((i + t.length : Nat) : Int) ≤ (s.length : Int) := by omega
    have g3 : (0 : Int) ≤ ((i + t.length : Nat) : Int) := by omega
    have g4 : i ≤ i + t.length := by omega
    have g5 : IntKind.i64.wrap ((i : Int) + 1) = ((i + 1 : Nat) : Int) := (wrap64 (by omega) (by omega)).trans (by omega)
    have hp0 := pre_at h
    cases hb : ((s.take (i + t.length)).drop i == t) with
    | true =>
      rw [hb] at hp0
      have hh := ha.trans (hasT_here hp0)
      rw [hh] at hr
      simp only [w1, g1, g2, g3, g4, h, hb, Int.toNat_natCast, go_sem]
      repeat' ((first | apply qa | apply qb | apply qc | apply qd | apply qe | apply qf | apply qg | apply qh | apply qi | apply qj | apply qk) <;> intro hp <;> simp only [hp, w1, g1, g2, g3, g4, h, hb, Int.toNat_natCast, go_sem])
      all_goals (simp only [fin_mk, finV, resL, resV1, resIn, endA, listIn, Option.some_or, Option.none_or, oneOrTup, go_sem]; rw [← hr])
    | false =>
      rw [hb] at hp0
      have hlt : i < s.length := by
        rcases Nat.lt_or_ge i s.length with h' | h'
        · exact h'
        · have e1 : t = [] := List.eq_nil_of_length_eq_zero (by omega)
          subst e1
          simp [List.isPrefixOf] at hp0
      have hd : s.drop i = s[i] :: s.drop (i + 1) := List.drop_eq_getElem_cons hlt
      rw [hd] at hp0
      have ih' := ih (i + 1) ⟨hlt, by rw [ha, hd, hasT_next hp0]⟩ (by omega)
      simp only [w1, g1, g2, g3, g4, g5, h, hb, Int.toNat_natCast, go_sem]
      repeat' ((first | apply qa | apply qb | apply qc | apply qd | apply qe | apply qf | apply qg | apply qh | apply qi | apply qj | apply qk) <;> intro hp <;> simp only [hp, w1, g1, g2, g3, g4, g5, h, hb, Int.toNat_natCast, go_sem])
      all_goals exact ih'
  · have g1 : ¬ ((i + t.length : Nat) : Int) ≤ (s.length : Int) := by omega
    rw [ha, hasT_short (by rw [List.length_drop]; omega)] at hr
    simp only [w1, g1, go_sem]
    repeat' ((first | apply qa | apply qb | apply qc | apply qd | apply qe | apply qf | apply qg | apply qh | apply qi | apply qj | apply qk) <;> intro hp <;> simp only [hp, w1, g1, go_sem])
    simp only [fin_mk, finV, resL, resV1, resIn, endA, listIn, Option.some_or, Option.none_or, oneOrTup, go_sem]
    rw [← hr]
def subjectOf (m : Mail) : List UInt8 := baseSubject (headOf m.Text [115, 117, 98, 106, 101, 99, 116]).1
open Classical in
noncomputable def spSubjectOf : VM.Spec := { modes := [.rd], run := fun | [m'] => (Mail.dec m').bind fun m => if m.le 4194304 then some (.str (subjectOf m), []) else none | _ => none, need := ["internal/bytealg.MaxLen"] }
attribute [go_sem] spSubjectOf
theorem spSubjectOf_in {ins : List V} {r : V} {outs : List V} (h : spSubjectOf.run ins = some (r, outs)) : ∃ (m : Mail), ins = [Mail.enc m] ∧ (m.le 4194304) ∧ .str (subjectOf m) = r ∧ outs = [] := by
  unfold spSubjectOf at h
  simp only at h
  split at h
  · rename_i m'
    simp only [Option.bind_eq_some_iff] at h
    obtain ⟨m, h_m, h⟩ := h
    split at h
    case isFalse => cases h
    rename_i hc
    simp only [Option.some.injEq, Prod.mk.injEq] at h
    obtain ⟨h1, h2⟩ := h
    have h_m := Mail.dec_some h_m
    subst h_m
    exact ⟨m, rfl, hc, h1, h2.symm⟩
  · cases h
def T_impl_subjectOf : Hints := ⟨lk [], lk [], lk [(0, [1]), (1, [3]), (2, [2])], lk []⟩
noncomputable def Phi_impl_subjectOf : Tab := lk [(102, spHeadOf), (103, spBaseSubject)]
attribute [go_sem] T_impl_subjectOf Phi_impl_subjectOf
theorem phi_impl_subjectOf : ∀ f sp, Phi_impl_subjectOf f = some sp → FnOk Tryz.prog f sp ∧ ∀ n ∈ sp.need, n ∈ (["internal/bytealg.MaxLen"] : List String) := phi_cons ok_impl_HeadOf (fun n (h : n ∈ (["internal/bytealg.MaxLen"] : List String)) => by simp only [List.mem_cons, List.not_mem_nil, or_false] at h; rcases h with rfl <;> simp) (phi_cons ok_impl_BaseSubject (n0 rfl) (phi_nil))
theorem ok_impl_subjectOf : FnOk Tryz.prog 61 spSubjectOf := by
  refine fn_ok (Φ := Phi_impl_subjectOf) (T := T_impl_subjectOf) phi_impl_subjectOf mixed Tryz.func61 rfl rfl rfl (by decide) ?_
  intro ins r outs hr hl
  clear hl
  have hs := spSubjectOf_in hr
  clear hr
  obtain ⟨m, rfl, hc, hr, rfl⟩ := hs
  simp only [spSubjectOf, Tryz.f61, Go.VM.initS]
  have hT : m.Text.length ≤ 4194304 := hc
  have h1 := headOf_len m.Text [115, 117, 98, 106, 101, 99, 116]
  have h2 : (headOf m.Text [115, 117, 98, 106, 101, 99, 116]).1.length ≤ 1099511627776 := by omega
  simp only [hT, h2, go_sem]
  repeat' ((first | apply qa | apply qb | apply qc | apply qd | apply qe | apply qf | apply qg | apply qh | apply qi | apply qj | apply qk) <;> intro hp <;> simp only [hp, hT, h2, go_sem])
  simp only [fin_mk, finV, resL, resV1, resIn, endA, listIn, Option.some_or, Option.none_or, oneOrTup, go_sem]
  rw [← hr]
  rfl
def matchB (m : Mail) (k : Key) : Bool :=
  if k.Kind = 1 then true
  else if k.Kind = 2 then flagsOk m.Flags && flagsOk k.Num && decide (0 < andN m.Flags k.Num)
  else if k.Kind = 3 then flagsOk m.Flags && flagsOk k.Num && (andN m.Flags k.Num == 0)
  else if k.Kind = 4 then hasT (subjectOf m) (lowS k.Text)
  else if k.Kind = 5 then hasT (lowS m.Text) (lowS k.Text)
  else if k.Kind = 6 then hasR (readSet k.Text 9999) m.Uid
  else if k.Kind = 7 then decide (k.Num < m.Mod) else false
theorem and_some : ∀ a b : Fin 32, ((IntKind.i64.wrap (BitVec.ofInt 64 (a.val : Int) &&& BitVec.ofInt 64 (b.val : Int)).toNat != 0) = decide ((0 : Int) < ((a.val &&& b.val : Nat) : Int))) ∧ ((IntKind.i64.wrap (BitVec.ofInt 64 (a.val : Int) &&& BitVec.ofInt 64 (b.val : Int)).toNat == 0) = (((a.val &&& b.val : Nat) : Int) == 0)) := by decide +kernel
theorem and_impl {a b : Int} (ha : flagsOk a = true) (hb : flagsOk b = true) : ((IntKind.i64.wrap (BitVec.ofInt 64 a &&& BitVec.ofInt 64 b).toNat != 0) = decide (0 < andN a b)) ∧ ((IntKind.i64.wrap (BitVec.ofInt 64 a &&& BitVec.ofInt 64 b).toNat == 0) = (andN a b == 0)) := by
  have ha : 0 ≤ a ∧ a ≤ 31 := by simpa only [flagsOk, within, Bool.and_eq_true, decide_eq_true_eq] using ha
  have hb : 0 ≤ b ∧ b ≤ 31 := by simpa only [flagsOk, within, Bool.and_eq_true, decide_eq_true_eq] using hb
  obtain ⟨x, rfl⟩ : ∃ x : Nat, a = x := ⟨a.toNat, by omega⟩
  obtain ⟨y, rfl⟩ : ∃ y : Nat, b = y := ⟨b.toNat, by omega⟩
  exact and_some ⟨x, by omega⟩ ⟨y, by omega⟩
open Classical in
noncomputable def spMatches : VM.Spec := { modes := [.rd, .rd], run := fun | [m', k'] => (Mail.dec m').bind fun m => (Key.dec k').bind fun k => if m.le 4194304 ∧ k.le 4194304 then some (.bool (matchB m k), []) else none | _ => none, need := ["internal/bytealg.MaxLen"] }
attribute [go_sem] spMatches
theorem spMatches_in {ins : List V} {r : V} {outs : List V} (h : spMatches.run ins = some (r, outs)) : ∃ (m : Mail) (k : Key), ins = [Mail.enc m, Key.enc k] ∧ (m.le 4194304 ∧ k.le 4194304) ∧ .bool (matchB m k) = r ∧ outs = [] := by
  unfold spMatches at h
  simp only at h
  split at h
  · rename_i m' k'
    simp only [Option.bind_eq_some_iff] at h
    obtain ⟨m, h_m, k, h_k, h⟩ := h
    split at h
    case isFalse => cases h
    rename_i hc
    simp only [Option.some.injEq, Prod.mk.injEq] at h
    obtain ⟨h1, h2⟩ := h
    have h_m := Mail.dec_some h_m
    subst h_m
    have h_k := Key.dec_some h_k
    subst h_k
    exact ⟨m, k, rfl, hc, h1, h2.symm⟩
  · cases h
def T_impl_Matches : Hints := ⟨lk [(9, [(1, 2), (1, 3)]), (11, [(2, 3), (2, 4)])], lk [], lk [(0, [2, 3]), (1, [2, 3, 8]), (2, [2, 3, 8, 9]), (3, [4]), (4, [2, 3, 8, 11]), (5, [4]), (6, [2, 3, 8, 29]), (7, [4]), (8, [2, 3, 8, 47]), (9, [4]), (10, [2, 3, 8, 55]), (11, [4]), (12, [2, 3, 64]), (13, [2, 5]), (14, [4]), (15, [4])], lk []⟩
noncomputable def Phi_impl_Matches : Tab := lk [(43, spFlagsOk), (61, spSubjectOf), (62, spLow), (60, spHasT), (63, spReadSet), (64, spSetHas)]
attribute [go_sem] T_impl_Matches Phi_impl_Matches
theorem phi_impl_Matches : ∀ f sp, Phi_impl_Matches f = some sp → FnOk Tryz.prog f sp ∧ ∀ n ∈ sp.need, n ∈ (["internal/bytealg.MaxLen"] : List String) := phi_cons ok_impl_FlagsOk (n0 rfl) (phi_cons ok_impl_subjectOf (fun n (h : n ∈ (["internal/bytealg.MaxLen"] : List String)) => by simp only [List.mem_cons, List.not_mem_nil, or_false] at h; rcases h with rfl <;> simp) (phi_cons ok_impl_lower (n0 rfl) (phi_cons ok_strings_Contains (fun n (h : n ∈ (["internal/bytealg.MaxLen"] : List String)) => by simp only [List.mem_cons, List.not_mem_nil, or_false] at h; rcases h with rfl <;> simp) (phi_cons ok_impl_ReadSet (fun n (h : n ∈ (["internal/bytealg.MaxLen"] : List String)) => by simp only [List.mem_cons, List.not_mem_nil, or_false] at h; rcases h with rfl <;> simp) (phi_cons ok_impl_SetHas (n0 rfl) (phi_nil))))))
theorem ok_impl_Matches : FnOk Tryz.prog 23 spMatches := by
  refine fn_ok (Φ := Phi_impl_Matches) (T := T_impl_Matches) phi_impl_Matches mixed Tryz.func23 rfl rfl rfl (by decide) ?_
  intro ins r outs hr hl
  clear hl
  have hs := spMatches_in hr
  clear hr
  obtain ⟨m, k, rfl, hc, hr, rfl⟩ := hs
  simp only [spMatches, Tryz.f23, Go.VM.initS]
  obtain ⟨hm, hk'⟩ := hc
  have hk : k.Text.length ≤ 4194304 := hk'
  have hT : m.Text.length ≤ 4194304 := hm
  have t1 : m.Text.length ≤ 1099511627776 := by omega
  have t2 : k.Text.length ≤ 1099511627776 := by omega
  have t3 : (lowS m.Text).length ≤ 4194304 := by rw [lowS_len]; exact hT
  have t4 : (lowS k.Text).length ≤ 4194304 := by rw [lowS_len]; exact hk
  have hS := headOf_len m.Text [115, 117, 98, 106, 101, 99, 116]
  have hB := baseSubject_len (headOf m.Text [115, 117, 98, 106, 101, 99, 116]).1
  have t5 : (headOf m.Text [115, 117, 98, 106, 101, 99, 116]).1.length ≤ 1099511627776 := by omega
  have t6 : (baseSubject (headOf m.Text [115, 117, 98, 106, 101, 99, 116]).1).length ≤ 4194304 := by omega
  have t7 : (subjectOf m).length ≤ 4194304 := t6
  have t8 : (readSet k.Text 9999).length ≤ 8388608 := Nat.le_trans (readSet_len _ _) (by decide)
  have ml : m.le 4194304 := hm
  by_cases h1 : k.Kind = 1
  · have e1 : (k.Kind == 1) = true := by rw [h1]; rfl
    rw [matchB, if_pos h1] at hr
    simp only [e1, go_sem]
    repeat' ((first | ((first | apply qa | apply qb | apply qc | apply qd | apply qe | apply qf | apply qg | apply qh | apply qi | apply qj | apply qk) <;> intro hp) | ((first | refine ql rfl rfl (by decide +kernel) ?_ | refine qm _ rfl rfl (by decide +kernel) ?_) <;> have hp := True.intro)) <;> simp only [hp, e1, go_sem])
    simp only [fin_mk, finV, resL, resV1, resIn, endA, listIn, Option.some_or, Option.none_or, oneOrTup, go_sem]
    rw [← hr]
  have e1 : (k.Kind == 1) = false := by simpa using h1
  by_cases h2 : k.Kind = 2
  · have e2 : (k.Kind == 2) = true := by rw [h2]; rfl
    rw [matchB, if_neg h1, if_pos h2] at hr
    cases f1 : flagsOk m.Flags with
    | false =>
      rw [f1] at hr
      simp only [e1, e2, f1, go_sem]
      repeat' ((first | ((first | apply qa | apply qb | apply qc | apply qd | apply qe | apply qf | apply qg | apply qh | apply qi | apply qj | apply qk) <;> intro hp) | ((first | refine ql rfl rfl (by decide +kernel) ?_ | refine qm _ rfl rfl (by decide +kernel) ?_) <;> have hp := True.intro)) <;> simp only [hp, e1, e2, f1, go_sem])
      all_goals (simp only [fin_mk, finV, resL, resV1, resIn, endA, listIn, Option.some_or, Option.none_or, oneOrTup, go_sem]; rw [← hr])
      all_goals rfl
    | true =>
      cases f2 : flagsOk k.Num with
      | false =>
        rw [f1, f2] at hr
        simp only [e1, e2, f1, f2, go_sem]
        repeat' ((first | ((first | apply qa | apply qb | apply qc | apply qd | apply qe | apply qf | apply qg | apply qh | apply qi | apply qj | apply qk) <;> intro hp) | ((first | refine ql rfl rfl (by decide +kernel) ?_ | refine qm _ rfl rfl (by decide +kernel) ?_) <;> have hp := True.intro)) <;> simp only [hp, e1, e2, f1, f2, go_sem])
        all_goals (simp only [fin_mk, finV, resL, resV1, resIn, endA, listIn, Option.some_or, Option.none_or, oneOrTup, go_sem]; rw [← hr])
        all_goals rfl
      | true =>
        rw [f1, f2] at hr
        have q := (and_impl f1 f2).1
        rw [← q] at hr
        simp only [e1, e2, f1, f2, go_sem]
        repeat' ((first | ((first | apply qa | apply qb | apply qc | apply qd | apply qe | apply qf | apply qg | apply qh | apply qi | apply qj | apply qk) <;> intro hp) | ((first | refine ql rfl rfl (by decide +kernel) ?_ | refine qm _ rfl rfl (by decide +kernel) ?_) <;> have hp := True.intro)) <;> simp only [hp, e1, e2, f1, f2, go_sem])
        all_goals (simp only [fin_mk, finV, resL, resV1, resIn, endA, listIn, Option.some_or, Option.none_or, oneOrTup, go_sem]; rw [← hr])
        all_goals rfl
  have e2 : (k.Kind == 2) = false := by simpa using h2
  by_cases h3 : k.Kind = 3
  · have e3 : (k.Kind == 3) = true := by rw [h3]; rfl
    rw [matchB, if_neg h1, if_neg h2, if_pos h3] at hr
    cases f1 : flagsOk m.Flags with
    | false =>
      rw [f1] at hr
      simp only [e1, e2, e3, f1, go_sem]
      repeat' ((first | ((first | apply qa | apply qb | apply qc | apply qd | apply qe | apply qf | apply qg | apply qh | apply qi | apply qj | apply qk) <;> intro hp) | ((first | refine ql rfl rfl (by decide +kernel) ?_ | refine qm _ rfl rfl (by decide +kernel) ?_) <;> have hp := True.intro)) <;> simp only [hp, e1, e2, e3, f1, go_sem])
      all_goals (simp only [fin_mk, finV, resL, resV1, resIn, endA, listIn, Option.some_or, Option.none_or, oneOrTup, go_sem]; rw [← hr])
      all_goals rfl
    | true =>
      cases f2 : flagsOk k.Num with
      | false =>
        rw [f1, f2] at hr
        simp only [e1, e2, e3, f1, f2, go_sem]
        repeat' ((first | ((first | apply qa | apply qb | apply qc | apply qd | apply qe | apply qf | apply qg | apply qh | apply qi | apply qj | apply qk) <;> intro hp) | ((first | refine ql rfl rfl (by decide +kernel) ?_ | refine qm _ rfl rfl (by decide +kernel) ?_) <;> have hp := True.intro)) <;> simp only [hp, e1, e2, e3, f1, f2, go_sem])
        all_goals (simp only [fin_mk, finV, resL, resV1, resIn, endA, listIn, Option.some_or, Option.none_or, oneOrTup, go_sem]; rw [← hr])
        all_goals rfl
      | true =>
        rw [f1, f2] at hr
        have q := (and_impl f1 f2).2
        rw [← q] at hr
        simp only [e1, e2, e3, f1, f2, go_sem]
        repeat' ((first | ((first | apply qa | apply qb | apply qc | apply qd | apply qe | apply qf | apply qg | apply qh | apply qi | apply qj | apply qk) <;> intro hp) | ((first | refine ql rfl rfl (by decide +kernel) ?_ | refine qm _ rfl rfl (by decide +kernel) ?_) <;> have hp := True.intro)) <;> simp only [hp, e1, e2, e3, f1, f2, go_sem])
        all_goals (simp only [fin_mk, finV, resL, resV1, resIn, endA, listIn, Option.some_or, Option.none_or, oneOrTup, go_sem]; rw [← hr])
        all_goals rfl
  have e3 : (k.Kind == 3) = false := by simpa using h3
  by_cases h4 : k.Kind = 4
  · have e4 : (k.Kind == 4) = true := by rw [h4]; rfl
    rw [matchB, if_neg h1, if_neg h2, if_neg h3, if_pos h4] at hr
    simp only [e1, e2, e3, e4, t2, t4, t5, t6, t7, hT, ml, go_sem]
    repeat' ((first | ((first | apply qa | apply qb | apply qc | apply qd | apply qe | apply qf | apply qg | apply qh | apply qi | apply qj | apply qk) <;> intro hp) | ((first | refine ql rfl rfl (by decide +kernel) ?_ | refine qm _ rfl rfl (by decide +kernel) ?_) <;> have hp := True.intro)) <;> simp only [hp, e1, e2, e3, e4, t2, t4, t5, t6, t7, hT, ml, go_sem])
    all_goals (simp only [fin_mk, finV, resL, resV1, resIn, endA, listIn, Option.some_or, Option.none_or, oneOrTup, go_sem]; rw [← hr])
  have e4 : (k.Kind == 4) = false := by simpa using h4
  by_cases h5 : k.Kind = 5
  · have e5 : (k.Kind == 5) = true := by rw [h5]; rfl
    rw [matchB, if_neg h1, if_neg h2, if_neg h3, if_neg h4, if_pos h5] at hr
    simp only [e1, e2, e3, e4, e5, t1, t2, t3, t4, go_sem]
    repeat' ((first | ((first | apply qa | apply qb | apply qc | apply qd | apply qe | apply qf | apply qg | apply qh | apply qi | apply qj | apply qk) <;> intro hp) | ((first | refine ql rfl rfl (by decide +kernel) ?_ | refine qm _ rfl rfl (by decide +kernel) ?_) <;> have hp := True.intro)) <;> simp only [hp, e1, e2, e3, e4, e5, t1, t2, t3, t4, go_sem])
    all_goals (simp only [fin_mk, finV, resL, resV1, resIn, endA, listIn, Option.some_or, Option.none_or, oneOrTup, go_sem]; rw [← hr])
  have e5 : (k.Kind == 5) = false := by simpa using h5
  by_cases h6 : k.Kind = 6
  · have e6 : (k.Kind == 6) = true := by rw [h6]; rfl
    rw [matchB, if_neg h1, if_neg h2, if_neg h3, if_neg h4, if_neg h5, if_pos h6] at hr
    simp only [e1, e2, e3, e4, e5, e6, hk, t8, go_sem]
    repeat' ((first | ((first | apply qa | apply qb | apply qc | apply qd | apply qe | apply qf | apply qg | apply qh | apply qi | apply qj | apply qk) <;> intro hp) | ((first | refine ql rfl rfl (by decide +kernel) ?_ | refine qm _ rfl rfl (by decide +kernel) ?_) <;> have hp := True.intro)) <;> simp only [hp, e1, e2, e3, e4, e5, e6, hk, t8, go_sem])
    all_goals (simp only [fin_mk, finV, resL, resV1, resIn, endA, listIn, Option.some_or, Option.none_or, oneOrTup, go_sem]; rw [← hr])
  have e6 : (k.Kind == 6) = false := by simpa using h6
  by_cases h7 : k.Kind = 7
  · have e7 : (k.Kind == 7) = true := by rw [h7]; rfl
    rw [matchB, if_neg h1, if_neg h2, if_neg h3, if_neg h4, if_neg h5, if_neg h6, if_pos h7] at hr
    simp only [e1, e2, e3, e4, e5, e6, e7, go_sem]
    repeat' ((first | ((first | apply qa | apply qb | apply qc | apply qd | apply qe | apply qf | apply qg | apply qh | apply qi | apply qj | apply qk) <;> intro hp) | ((first | refine ql rfl rfl (by decide +kernel) ?_ | refine qm _ rfl rfl (by decide +kernel) ?_) <;> have hp := True.intro)) <;> simp only [hp, e1, e2, e3, e4, e5, e6, e7, go_sem])
    all_goals (simp only [fin_mk, finV, resL, resV1, resIn, endA, listIn, Option.some_or, Option.none_or, oneOrTup, go_sem]; rw [← hr])
  have e7 : (k.Kind == 7) = false := by simpa using h7
  rw [matchB, if_neg h1, if_neg h2, if_neg h3, if_neg h4, if_neg h5, if_neg h6, if_neg h7] at hr
  simp only [e1, e2, e3, e4, e5, e6, e7, go_sem]
  repeat' ((first | ((first | apply qa | apply qb | apply qc | apply qd | apply qe | apply qf | apply qg | apply qh | apply qi | apply qj | apply qk) <;> intro hp) | ((first | refine ql rfl rfl (by decide +kernel) ?_ | refine qm _ rfl rfl (by decide +kernel) ?_) <;> have hp := True.intro)) <;> simp only [hp, e1, e2, e3, e4, e5, e6, e7, go_sem])
  all_goals (simp only [fin_mk, finV, resL, resV1, resIn, endA, listIn, Option.some_or, Option.none_or, oneOrTup, go_sem]; rw [← hr])
def T_spec_Matches : Hints := ⟨lk [(10, [(1, 2), (1, 3)]), (12, [(2, 3), (2, 4)])], lk [], lk [(0, [2, 3]), (1, [2, 3, 10]), (2, [2, 3, 10, 11]), (3, [4]), (4, [2, 3, 10, 13]), (5, [4]), (6, [2, 3, 10, 31]), (7, [4]), (8, [2, 3, 10, 49]), (9, [3, 5]), (10, [4]), (11, [2, 3, 10, 63]), (12, [4]), (13, [2, 3, 10, 72]), (14, [2, 7, 8]), (15, [4]), (16, [2, 3, 87]), (17, [4]), (18, [4])], lk []⟩
noncomputable def Phi_spec_Matches : Tab := lk [(40, spFlagsOk), (65, spAnd), (66, spHeadOf), (68, spBaseSubject), (69, spLow), (67, spHasT), (51, spReadSet), (70, spSetHas)]
attribute [go_sem] T_spec_Matches Phi_spec_Matches
theorem phi_spec_Matches : ∀ f sp, Phi_spec_Matches f = some sp → FnOk Tryz.prog f sp ∧ ∀ n ∈ sp.need, n ∈ (["internal/bytealg.MaxLen"] : List String) := phi_cons ok_spec_FlagsOk (n0 rfl) (phi_cons ok_spec_l06And (n0 rfl) (phi_cons ok_spec_HeadOf (fun n (h : n ∈ (["internal/bytealg.MaxLen"] : List String)) => by simp only [List.mem_cons, List.not_mem_nil, or_false] at h; rcases h with rfl <;> simp) (phi_cons ok_spec_BaseSubject (n0 rfl) (phi_cons ok_spec_l06Low (n0 rfl) (phi_cons ok_spec_l12Has (fun n (h : n ∈ (["internal/bytealg.MaxLen"] : List String)) => by simp only [List.mem_cons, List.not_mem_nil, or_false] at h; rcases h with rfl <;> simp) (phi_cons ok_spec_ReadSet (fun n (h : n ∈ (["internal/bytealg.MaxLen"] : List String)) => by simp only [List.mem_cons, List.not_mem_nil, or_false] at h; rcases h with rfl <;> simp) (phi_cons ok_spec_SetHas (n0 rfl) (phi_nil))))))))
theorem ok_spec_Matches : FnOk Tryz.prog 24 spMatches := by
  refine fn_ok (Φ := Phi_spec_Matches) (T := T_spec_Matches) phi_spec_Matches mixed Tryz.func24 rfl rfl rfl (by decide) ?_
  intro ins r outs hr hl
  clear hl
  have hs := spMatches_in hr
  clear hr
  obtain ⟨m, k, rfl, hc, hr, rfl⟩ := hs
  simp only [spMatches, Tryz.f24, Go.VM.initS]
  obtain ⟨hm, hk'⟩ := hc
  have hk : k.Text.length ≤ 4194304 := hk'
  have hT : m.Text.length ≤ 4194304 := hm
  have t1 : m.Text.length ≤ 1099511627776 := by omega
  have t2 : k.Text.length ≤ 1099511627776 := by omega
  have t3 : (lowS m.Text).length ≤ 4194304 := by rw [lowS_len]; exact hT
  have t4 : (lowS k.Text).length ≤ 4194304 := by rw [lowS_len]; exact hk
  have hS := headOf_len m.Text [115, 117, 98, 106, 101, 99, 116]
  have hB := baseSubject_len (headOf m.Text [115, 117, 98, 106, 101, 99, 116]).1
  have t5 : (headOf m.Text [115, 117, 98, 106, 101, 99, 116]).1.length ≤ 1099511627776 := by omega
  have t6 : (baseSubject (headOf m.Text [115, 117, 98, 106, 101, 99, 116]).1).length ≤ 4194304 := by omega
  have t7 : (subjectOf m).length ≤ 4194304 := t6
  have t8 : (readSet k.Text 9999).length ≤ 8388608 := Nat.le_trans (readSet_len _ _) (by decide)
  have ml : m.le 4194304 := hm
  by_cases h1 : k.Kind = 1
  · have e1 : (k.Kind == 1) = true := by rw [h1]; rfl
    rw [matchB, if_pos h1] at hr
    simp only [e1, go_sem]
    repeat' ((first | ((first | apply qa | apply qb | apply qc | apply qd | apply qe | apply qf | apply qg | apply qh | apply qi | apply qj | apply qk) <;> intro hp) | ((first | refine ql rfl rfl (by decide +kernel) ?_ | refine qm _ rfl rfl (by decide +kernel) ?_) <;> have hp := True.intro)) <;> simp only [hp, e1, go_sem])
    simp only [fin_mk, finV, resL, resV1, resIn, endA, listIn, Option.some_or, Option.none_or, oneOrTup, go_sem]
    rw [← hr]
  have e1 : (k.Kind == 1) = false := by simpa using h1
  by_cases h2 : k.Kind = 2
  · have e2 : (k.Kind == 2) = true := by rw [h2]; rfl
    rw [matchB, if_neg h1, if_pos h2] at hr
    cases f1 : flagsOk m.Flags with
    | false =>
      rw [f1] at hr
      simp only [e1, e2, f1, go_sem]
      repeat' ((first | ((first | apply qa | apply qb | apply qc | apply qd | apply qe | apply qf | apply qg | apply qh | apply qi | apply qj | apply qk) <;> intro hp) | ((first | refine ql rfl rfl (by decide +kernel) ?_ | refine qm _ rfl rfl (by decide +kernel) ?_) <;> have hp := True.intro)) <;> simp only [hp, e1, e2, f1, go_sem])
      all_goals (simp only [fin_mk, finV, resL, resV1, resIn, endA, listIn, Option.some_or, Option.none_or, oneOrTup, go_sem]; rw [← hr])
      all_goals rfl
    | true =>
      cases f2 : flagsOk k.Num with
      | false =>
        rw [f1, f2] at hr
        simp only [e1, e2, f1, f2, go_sem]
        repeat' ((first | ((first | apply qa | apply qb | apply qc | apply qd | apply qe | apply qf | apply qg | apply qh | apply qi | apply qj | apply qk) <;> intro hp) | ((first | refine ql rfl rfl (by decide +kernel) ?_ | refine qm _ rfl rfl (by decide +kernel) ?_) <;> have hp := True.intro)) <;> simp only [hp, e1, e2, f1, f2, go_sem])
        all_goals (simp only [fin_mk, finV, resL, resV1, resIn, endA, listIn, Option.some_or, Option.none_or, oneOrTup, go_sem]; rw [← hr])
        all_goals rfl
      | true =>
        rw [f1, f2] at hr
        simp only [e1, e2, f1, f2, go_sem]
        repeat' ((first | ((first | apply qa | apply qb | apply qc | apply qd | apply qe | apply qf | apply qg | apply qh | apply qi | apply qj | apply qk) <;> intro hp) | ((first | refine ql rfl rfl (by decide +kernel) ?_ | refine qm _ rfl rfl (by decide +kernel) ?_) <;> have hp := True.intro)) <;> simp only [hp, e1, e2, f1, f2, go_sem])
        all_goals (simp only [fin_mk, finV, resL, resV1, resIn, endA, listIn, Option.some_or, Option.none_or, oneOrTup, go_sem]; rw [← hr])
        all_goals rfl
  have e2 : (k.Kind == 2) = false := by simpa using h2
  by_cases h3 : k.Kind = 3
  · have e3 : (k.Kind == 3) = true := by rw [h3]; rfl
    rw [matchB, if_neg h1, if_neg h2, if_pos h3] at hr
    cases f1 : flagsOk m.Flags with
    | false =>
      rw [f1] at hr
      simp only [e1, e2, e3, f1, go_sem]
      repeat' ((first | ((first | apply qa | apply qb | apply qc | apply qd | apply qe | apply qf | apply qg | apply qh | apply qi | apply qj | apply qk) <;> intro hp) | ((first | refine ql rfl rfl (by decide +kernel) ?_ | refine qm _ rfl rfl (by decide +kernel) ?_) <;> have hp := True.intro)) <;> simp only [hp, e1, e2, e3, f1, go_sem])
      all_goals (simp only [fin_mk, finV, resL, resV1, resIn, endA, listIn, Option.some_or, Option.none_or, oneOrTup, go_sem]; rw [← hr])
      all_goals rfl
    | true =>
      cases f2 : flagsOk k.Num with
      | false =>
        rw [f1, f2] at hr
        simp only [e1, e2, e3, f1, f2, go_sem]
        repeat' ((first | ((first | apply qa | apply qb | apply qc | apply qd | apply qe | apply qf | apply qg | apply qh | apply qi | apply qj | apply qk) <;> intro hp) | ((first | refine ql rfl rfl (by decide +kernel) ?_ | refine qm _ rfl rfl (by decide +kernel) ?_) <;> have hp := True.intro)) <;> simp only [hp, e1, e2, e3, f1, f2, go_sem])
        all_goals (simp only [fin_mk, finV, resL, resV1, resIn, endA, listIn, Option.some_or, Option.none_or, oneOrTup, go_sem]; rw [← hr])
        all_goals rfl
      | true =>
        rw [f1, f2] at hr
        simp only [e1, e2, e3, f1, f2, go_sem]
        repeat' ((first | ((first | apply qa | apply qb | apply qc | apply qd | apply qe | apply qf | apply qg | apply qh | apply qi | apply qj | apply qk) <;> intro hp) | ((first | refine ql rfl rfl (by decide +kernel) ?_ | refine qm _ rfl rfl (by decide +kernel) ?_) <;> have hp := True.intro)) <;> simp only [hp, e1, e2, e3, f1, f2, go_sem])
        all_goals (simp only [fin_mk, finV, resL, resV1, resIn, endA, listIn, Option.some_or, Option.none_or, oneOrTup, go_sem]; rw [← hr])
        all_goals rfl
  have e3 : (k.Kind == 3) = false := by simpa using h3
  by_cases h4 : k.Kind = 4
  · have e4 : (k.Kind == 4) = true := by rw [h4]; rfl
    rw [matchB, if_neg h1, if_neg h2, if_neg h3, if_pos h4] at hr
    simp only [e1, e2, e3, e4, t2, t4, t5, t6, t7, hT, ml, go_sem]
    repeat' ((first | ((first | apply qa | apply qb | apply qc | apply qd | apply qe | apply qf | apply qg | apply qh | apply qi | apply qj | apply qk) <;> intro hp) | ((first | refine ql rfl rfl (by decide +kernel) ?_ | refine qm _ rfl rfl (by decide +kernel) ?_) <;> have hp := True.intro)) <;> simp only [hp, e1, e2, e3, e4, t2, t4, t5, t6, t7, hT, ml, go_sem])
    all_goals (simp only [fin_mk, finV, resL, resV1, resIn, endA, listIn, Option.some_or, Option.none_or, oneOrTup, go_sem]; rw [← hr])
    all_goals rfl
  have e4 : (k.Kind == 4) = false := by simpa using h4
  by_cases h5 : k.Kind = 5
  · have e5 : (k.Kind == 5) = true := by rw [h5]; rfl
    rw [matchB, if_neg h1, if_neg h2, if_neg h3, if_neg h4, if_pos h5] at hr
    simp only [e1, e2, e3, e4, e5, t1, t2, t3, t4, go_sem]
    repeat' ((first | ((first | apply qa | apply qb | apply qc | apply qd | apply qe | apply qf | apply qg | apply qh | apply qi | apply qj | apply qk) <;> intro hp) | ((first | refine ql rfl rfl (by decide +kernel) ?_ | refine qm _ rfl rfl (by decide +kernel) ?_) <;> have hp := True.intro)) <;> simp only [hp, e1, e2, e3, e4, e5, t1, t2, t3, t4, go_sem])
    all_goals (simp only [fin_mk, finV, resL, resV1, resIn, endA, listIn, Option.some_or, Option.none_or, oneOrTup, go_sem]; rw [← hr])
  have e5 : (k.Kind == 5) = false := by simpa using h5
  by_cases h6 : k.Kind = 6
  · have e6 : (k.Kind == 6) = true := by rw [h6]; rfl
    rw [matchB, if_neg h1, if_neg h2, if_neg h3, if_neg h4, if_neg h5, if_pos h6] at hr
    cases f1 : readOk k.Text 9999 with
    | false =>
      rw [readSet_no f1] at hr
      simp only [e1, e2, e3, e4, e5, e6, hk, t8, f1, go_sem]
      repeat' ((first | ((first | apply qa | apply qb | apply qc | apply qd | apply qe | apply qf | apply qg | apply qh | apply qi | apply qj | apply qk) <;> intro hp) | ((first | refine ql rfl rfl (by decide +kernel) ?_ | refine qm _ rfl rfl (by decide +kernel) ?_) <;> have hp := True.intro)) <;> simp only [hp, e1, e2, e3, e4, e5, e6, hk, t8, f1, go_sem])
      all_goals (simp only [fin_mk, finV, resL, resV1, resIn, endA, listIn, Option.some_or, Option.none_or, oneOrTup, go_sem]; rw [← hr])
      all_goals rfl
    | true =>
      simp only [e1, e2, e3, e4, e5, e6, hk, t8, f1, go_sem]
      repeat' ((first | ((first | apply qa | apply qb | apply qc | apply qd | apply qe | apply qf | apply qg | apply qh | apply qi | apply qj | apply qk) <;> intro hp) | ((first | refine ql rfl rfl (by decide +kernel) ?_ | refine qm _ rfl rfl (by decide +kernel) ?_) <;> have hp := True.intro)) <;> simp only [hp, e1, e2, e3, e4, e5, e6, hk, t8, f1, go_sem])
      all_goals (simp only [fin_mk, finV, resL, resV1, resIn, endA, listIn, Option.some_or, Option.none_or, oneOrTup, go_sem]; rw [← hr])
  have e6 : (k.Kind == 6) = false := by simpa using h6
  by_cases h7 : k.Kind = 7
  · have e7 : (k.Kind == 7) = true := by rw [h7]; rfl
    rw [matchB, if_neg h1, if_neg h2, if_neg h3, if_neg h4, if_neg h5, if_neg h6, if_pos h7] at hr
    simp only [e1, e2, e3, e4, e5, e6, e7, go_sem]
    repeat' ((first | ((first | apply qa | apply qb | apply qc | apply qd | apply qe | apply qf | apply qg | apply qh | apply qi | apply qj | apply qk) <;> intro hp) | ((first | refine ql rfl rfl (by decide +kernel) ?_ | refine qm _ rfl rfl (by decide +kernel) ?_) <;> have hp := True.intro)) <;> simp only [hp, e1, e2, e3, e4, e5, e6, e7, go_sem])
    all_goals (simp only [fin_mk, finV, resL, resV1, resIn, endA, listIn, Option.some_or, Option.none_or, oneOrTup, go_sem]; rw [← hr])
  have e7 : (k.Kind == 7) = false := by simpa using h7
  rw [matchB, if_neg h1, if_neg h2, if_neg h3, if_neg h4, if_neg h5, if_neg h6, if_neg h7] at hr
  simp only [e1, e2, e3, e4, e5, e6, e7, go_sem]
  repeat' ((first | ((first | apply qa | apply qb | apply qc | apply qd | apply qe | apply qf | apply qg | apply qh | apply qi | apply qj | apply qk) <;> intro hp) | ((first | refine ql rfl rfl (by decide +kernel) ?_ | refine qm _ rfl rfl (by decide +kernel) ?_) <;> have hp := True.intro)) <;> simp only [hp, e1, e2, e3, e4, e5, e6, e7, go_sem])
  all_goals (simp only [fin_mk, finV, resL, resV1, resIn, endA, listIn, Option.some_or, Option.none_or, oneOrTup, go_sem]; rw [← hr])
end Go.Proofs.YtonjbbfgdloljaaGreatDoor.L

