/- Contracts of functions, and the facts that they need. No condition. -/
import Derived.Test.YtnbkmmjnpbfhnaaDoorVLS
import Derived.Test.YtnbkmmjnpbfhnaaDoorVLShelf
import Derived.Test.YtnbkmmjnpbfhnaaDoorVmShelf
import Derived.Test.YtnbkmmjnpbfhnaaDoorVLA
import Derived.Test.YtnbkmmjnpbfhnaaDoorVmStr
namespace Go.Proofs.YtnbkmmjnpbfhnaaDoor.L
open Go Go.VM
set_option maxRecDepth 100000
set_option maxHeartbeats 4000000
set_option linter.unusedSimpArgs false
set_option linter.unusedVariables false
open Classical in
noncomputable def spSplit : VM.Spec := { modes := [.rd, .rd], run := fun | [.str s, .str t] => if 1 ≤ t.length ∧ s.length < 4294967281 then some (.lst 1 ((Lib.splitK t 0 (Lib.count s t) s).map eStr), []) else none | _ => none, need := ["internal/bytealg.MaxLen"] }
attribute [go_sem] spSplit
theorem spSplit_in {ins : List V} {r : V} {outs : List V} (h : spSplit.run ins = some (r, outs)) : ∃ (s : (List UInt8)) (t : (List UInt8)), ins = [.str s, .str t] ∧ (1 ≤ t.length ∧ s.length < 4294967281) ∧ .lst 1 ((Lib.splitK t 0 (Lib.count s t) s).map eStr) = r ∧ outs = [] := by
  unfold spSplit at h
  simp only at h
  split at h
  · rename_i s t
    split at h
    case isFalse => cases h
    rename_i hc
    simp only [Option.some.injEq, Prod.mk.injEq] at h
    obtain ⟨h1, h2⟩ := h
    exact ⟨s, t, rfl, hc, h1, h2.symm⟩
  · cases h
theorem ok_strings_Split : FnOk Tryd.prog 36 spSplit :=
  split_ok Tryd.func36 rfl (by kernel_rfl) (g := 0) (by kernel_rfl) (by simp [spSplit]) rfl (fun _ _ _ h => spSplit_in h) Tryd.strings_Split
def consHead (b : UInt8) : List (List UInt8) → List (List UInt8)
  | [] => [[b]]
  | h :: t => (b :: h) :: t
def splitOn (c : UInt8) : List UInt8 → List (List UInt8)
  | [] => [[]]
  | b :: s => if b = c then [] :: splitOn c s else consHead b (splitOn c s)
theorem splitK_skip {c b : UInt8} (hb : b ≠ c) (s : List UInt8) (k : Nat) : Lib.splitK [c] 0 k (b :: s) = consHead b (Lib.splitK [c] 0 k s) := by
  cases k with
  | zero => rfl
  | succ k =>
    have hp : [c].isPrefixOf (b :: s) = false := by simp [List.isPrefixOf]; exact fun h => hb h.symm
    rw [Lib.splitK, Lib.splitK]
    have hge := Lib.index_ge s [c]
    by_cases hi : Lib.index s [c] = -1
    · have h1 : Lib.index (b :: s) [c] = -1 := by simp [Lib.index, hp, hi]
      rw [h1, hi]; rfl
    · have h0 : (Lib.index s [c] == -1) = false := beq_eq_false_iff_ne.2 hi
      have h1 : Lib.index (b :: s) [c] = Lib.index s [c] + 1 := by simp [Lib.index, hp, h0]
      have h2 : (Lib.index s [c] + 1 == -1) = false := beq_eq_false_iff_ne.2 (by omega)
      rw [h1, h0, h2]
      obtain ⟨i, hi'⟩ : ∃ i : Nat, Lib.index s [c] = i := ⟨(Lib.index s [c]).toNat, by omega⟩
      rw [hi']
      have e1 : ((i : Int) + 1).toNat = i + 1 := by omega
      rw [e1]
      simp [consHead]
theorem split_eq (c : UInt8) (s : List UInt8) : Lib.splitK [c] 0 (Lib.count s [c]) s = splitOn c s := by
  rw [Lib.count_one]
  induction s with
  | nil => rfl
  | cons b s ih =>
    by_cases hb : b = c
    · subst hb
      rw [List.count_cons_self, splitOn, if_pos rfl, ← ih, Lib.splitK]
      have h1 : Lib.index (b :: s) [b] = 0 := by simp [Lib.index, List.isPrefixOf]
      rw [h1]; simp
    · rw [List.count_cons_of_ne hb, splitK_skip hb, ih, splitOn, if_neg hb]
theorem splitOn_ne (c : UInt8) (s : List UInt8) : splitOn c s ≠ [] := by
  cases s with
  | nil => simp [splitOn]
  | cons b s =>
    rw [splitOn]
    split
    · simp
    · cases splitOn c s <;> simp [consHead]
def notB (c : UInt8) (b : UInt8) : Bool := b != c
theorem splitOn_first (c : UInt8) (s : List UInt8) : splitOn c s = s.takeWhile (notB c) :: (if c ∈ s then splitOn c (s.drop ((s.takeWhile (notB c)).length + 1)) else []) := by
  induction s with
  | nil => simp [splitOn]
  | cons b s ih =>
    rw [splitOn]
    by_cases hb : b = c
    · subst hb
      simp [List.takeWhile_cons, notB]
    · have h1 : notB c b = true := by simpa [notB] using hb
      rw [if_neg hb, ih, consHead]
      simp only [List.takeWhile_cons, h1, if_true, List.mem_cons, List.length_cons, List.drop_succ_cons]
      congr 1
      by_cases hc : c ∈ s
      · simp [hc]
      · simp [hc, Ne.symm hb]
theorem splitOn_len (c : UInt8) (s : List UInt8) : (splitOn c s).length ≤ s.length + 1 := by
  induction s with
  | nil => simp [splitOn]
  | cons b s ih =>
    rw [splitOn]
    split
    · simp; omega
    · cases h : splitOn c s with
      | nil => simp [consHead]
      | cons x t => rw [h] at ih; simp [consHead] at ih ⊢; omega
theorem splitOn_mem (c : UInt8) (s : List UInt8) : ∀ x ∈ splitOn c s, x.length ≤ s.length := by
  induction s with
  | nil => simp [splitOn]
  | cons b s ih =>
    rw [splitOn]
    split
    · intro x hx
      rcases List.mem_cons.1 hx with rfl | hx
      · simp
      · have := ih x hx; simp; omega
    · cases h : splitOn c s with
      | nil => intro x hx; simp [consHead] at hx; subst hx; simp
      | cons y t =>
        rw [h] at ih
        intro x hx
        simp only [consHead] at hx
        rcases List.mem_cons.1 hx with rfl | hx
        · have := ih y (by simp); simp; omega
        · have := ih x (by simp [hx]); simp; omega
def hit (nm l : List UInt8) : Bool := (lowS nm ++ [58]).isPrefixOf (lowS l)
def headIn (nm : List UInt8) : List (List UInt8) → List UInt8 × Bool
  | [] => ([], false)
  | l :: ls => if l = [] then ([], false) else if hit nm l = true then (trim (l.drop (nm.length + 1)), true) else headIn nm ls
def headOf (t nm : List UInt8) : List UInt8 × Bool := headIn nm (splitOn 10 t)
theorem low1_colon (b : UInt8) : (low1 b == 58) = (b == 58) := by
  unfold low1
  split
  · rename_i h
    have h1 : (b + 32).toNat = b.toNat + 32 := by
      rw [UInt8.toNat_add]
      have e : UInt8.toNat 32 = 32 := rfl
      rw [e]; omega
    have e1 : ¬ b = 58 := by rintro rfl; exact absurd h.1 (by decide)
    have e2 : ¬ b + 32 = 58 := by
      intro h2
      rw [h2] at h1
      have : (58 : UInt8).toNat = 58 := rfl
      omega
    rw [beq_eq_false_iff_ne.2 e1, beq_eq_false_iff_ne.2 e2]
  · rfl
theorem hit_short {nm l : List UInt8} (h : l.length ≤ nm.length) : hit nm l = false := by
  unfold hit
  apply isPrefixOf_short
  simp [lowS]; omega
theorem hit_long {nm l : List UInt8} (h : nm.length < l.length) : hit nm l = ((lowS (l.take nm.length) == lowS nm) && (l[nm.length] == 58)) := by
  have e : (lowS l).take (nm.length + 1) = lowS (l.take nm.length) ++ [low1 l[nm.length]] := by
    simp only [lowS, ← List.map_take]
    rw [take_succ' h, List.map_append]; rfl
  unfold hit
  rw [isPrefixOf_take]
  have hl : (lowS nm ++ [58]).length = nm.length + 1 := by simp [lowS]
  rw [hl, e, ← low1_colon]
  have h1 : (lowS (l.take nm.length)).length = (lowS nm).length := by simp [lowS]; omega
  rw [Bool.eq_iff_iff]
  simp only [beq_iff_eq, Bool.and_eq_true]
  constructor
  · intro h2
    have := List.append_inj h2 h1
    exact ⟨this.1, by simpa using this.2⟩
  · rintro ⟨h2, h3⟩
    rw [h2, h3]
open Classical in
noncomputable def spHeadOf : VM.Spec := { modes := [.rd, .rd], run := fun | [.str t, .str nm] => if t.length ≤ 4194304 ∧ nm.length ≤ 4194304 then some (.tup [.str ((headOf t nm).1), .bool ((headOf t nm).2)], []) else none | _ => none, need := ["internal/bytealg.MaxLen"] }
attribute [go_sem] spHeadOf
theorem spHeadOf_in {ins : List V} {r : V} {outs : List V} (h : spHeadOf.run ins = some (r, outs)) : ∃ (t : (List UInt8)) (nm : (List UInt8)), ins = [.str t, .str nm] ∧ (t.length ≤ 4194304 ∧ nm.length ≤ 4194304) ∧ .tup [.str ((headOf t nm).1), .bool ((headOf t nm).2)] = r ∧ outs = [] := by
  unfold spHeadOf at h
  simp only at h
  split at h
  · rename_i t nm
    split at h
    case isFalse => cases h
    rename_i hc
    simp only [Option.some.injEq, Prod.mk.injEq] at h
    obtain ⟨h1, h2⟩ := h
    exact ⟨t, nm, rfl, hc, h1, h2.symm⟩
  · cases h
theorem takeWhile_at {α : Type} {p : α → Bool} : ∀ {l : List α} {n : Nat}, (∀ x ∈ l.take n, p x = true) → (h : n < l.length) → p l[n] = false → l.takeWhile p = l.take n
  | [], n, _, h, _ => by simp at h
  | b :: l, 0, _, _, hp => by simp only [List.getElem_cons_zero] at hp; simp [List.takeWhile_cons, hp]
  | b :: l, n + 1, ha, h, hp => by
    have h1 : p b = true := ha b (by simp)
    rw [List.takeWhile_cons, if_pos h1, List.take_succ_cons, takeWhile_at (n := n) (fun x hx => ha x (by simp [hx])) (by simpa using h) (by simpa using hp)]
theorem takeWhile_mem {α : Type} {p : α → Bool} {l : List α} {x : α} (h : x ∈ l.takeWhile p) : p x = true := by
  induction l with
  | nil => simp at h
  | cons b l ih =>
    rw [List.takeWhile_cons] at h
    split at h
    · rename_i hb
      rcases List.mem_cons.1 h with rfl | h
      · exact hb
      · exact ih h
    · simp at h
theorem takeWhile_all {α : Type} {p : α → Bool} {l : List α} (h : ∀ x ∈ l, p x = true) : l.takeWhile p = l := by
  induction l with
  | nil => rfl
  | cons b l ih => rw [List.takeWhile_cons, if_pos (h b (by simp)), ih fun x hx => h x (by simp [hx])]
def lineAt (t : List UInt8) (a : Nat) : List UInt8 := (t.drop a).takeWhile (notB 10)
def nextAt (t : List UInt8) (a : Nat) : Int := if t.length ≤ a then -1 else if 10 ∈ t.drop a then ((a + (lineAt t a).length + 1 : Nat) : Int) else t.length
theorem notB_bool (b : UInt8) : notB 10 b = !((b.toNat : Int) == 10) := by
  unfold notB
  have : (b == 10) = ((b.toNat : Int) == 10) := by
    rw [Bool.eq_iff_iff, beq_iff_eq, beq_iff_eq]
    constructor
    · rintro rfl; rfl
    · intro h
      have : b.toNat = (10 : UInt8).toNat := by show b.toNat = 10; omega
      exact UInt8.toNat_inj.1 this
  rw [← this]; rfl
theorem take_drop_succ {t : List UInt8} {a i : Nat} (ha : a ≤ i) (h : i < t.length) : (t.take (i + 1)).drop a = (t.take i).drop a ++ [t[i]] := by
  rw [take_succ' h, List.drop_append_of_le_length (by rw [List.length_take]; omega)]
open Classical in
noncomputable def spLine : VM.Spec := { modes := [.rd, .rd], run := fun | [.str t, .int .i64 a] => if t.length ≤ 4194304 ∧ 0 ≤ a then some (.tup [.str (lineAt t a.toNat), .int .i64 (nextAt t a.toNat)], []) else none | _ => none, need := [] }
attribute [go_sem] spLine
theorem spLine_in {ins : List V} {r : V} {outs : List V} (h : spLine.run ins = some (r, outs)) : ∃ (t : (List UInt8)) (a : Int), ins = [.str t, .int .i64 a] ∧ (t.length ≤ 4194304 ∧ 0 ≤ a) ∧ .tup [.str (lineAt t a.toNat), .int .i64 (nextAt t a.toNat)] = r ∧ outs = [] := by
  unfold spLine at h
  simp only at h
  split at h
  · rename_i t a
    split at h
    case isFalse => cases h
    rename_i hc
    simp only [Option.some.injEq, Prod.mk.injEq] at h
    obtain ⟨h1, h2⟩ := h
    exact ⟨t, a, rfl, hc, h1, h2.symm⟩
  · cases h
end Go.Proofs.YtnbkmmjnpbfhnaaDoor.L

namespace Go.Proofs.YtnbkmmjnpbfhnaaDoor.L
open Go Go.VM
set_option maxRecDepth 100000
set_option maxHeartbeats 4000000
set_option linter.unusedSimpArgs false
set_option linter.unusedVariables false
def flagsOk (n : Int) : Bool := within n 0 31
open Classical in
noncomputable def spFlagsOk : VM.Spec := { modes := [.rd], run := fun | [.int .i64 n] => some (.bool (flagsOk n), []) | _ => none, need := [] }
attribute [go_sem] spFlagsOk
theorem spFlagsOk_in {ins : List V} {r : V} {outs : List V} (h : spFlagsOk.run ins = some (r, outs)) : ∃ (n : Int), ins = [.int .i64 n] ∧ .bool (flagsOk n) = r ∧ outs = [] := by
  unfold spFlagsOk at h
  simp only at h
  split at h
  · rename_i n
    simp only [Option.some.injEq, Prod.mk.injEq] at h
    obtain ⟨h1, h2⟩ := h
    exact ⟨n, rfl, h1, h2.symm⟩
  · cases h
theorem ok_internal_bytealg_IndexByteString : FnOk Tryd.prog 72 spIndexByte :=
  indexByte_ext Tryd.func72 (by kernel_rfl) (by kernel_rfl) (by kernel_rfl) (by kernel_rfl)
def T_internal_stringslite_IndexByte : Hints := ⟨lk [], lk [], lk [(0, [0, 1]), (1, [4])], lk []⟩
noncomputable def Phi_internal_stringslite_IndexByte : Tab := lk [(72, spIndexByte)]
attribute [go_sem] T_internal_stringslite_IndexByte Phi_internal_stringslite_IndexByte
theorem phi_internal_stringslite_IndexByte : ∀ f sp, Phi_internal_stringslite_IndexByte f = some sp → FnOk Tryd.prog f sp ∧ ∀ n ∈ sp.need, n ∈ ([] : List String) := phi_cons ok_internal_bytealg_IndexByteString (n0 rfl) (phi_nil)
theorem ok_internal_stringslite_IndexByte : FnOk Tryd.prog 63 spIndexByte := by
  refine fn_ok (Φ := Phi_internal_stringslite_IndexByte) (T := T_internal_stringslite_IndexByte) phi_internal_stringslite_IndexByte mixed Tryd.func63 rfl rfl rfl (by decide) ?_
  intro ins r outs hr hl
  clear hl
  have hs := spIndexByte_in hr
  clear hr
  obtain ⟨s, c, rfl, hr, rfl⟩ := hs
  simp only [spIndexByte, Tryd.f63, Go.VM.initS]
  simp only [go_sem]
  simp only [fin_mk, finV, resL, resV1, resIn, endA, listIn, Option.some_or, Option.none_or, oneOrTup, go_sem]
  rw [← hr]
def mailOk (s : List UInt8) : Bool := within s.length 1 200 && !s.contains 0
open Classical in
noncomputable def spMailOk : VM.Spec := { modes := [.rd], run := fun | [.str s] => if s.length ≤ 4194304 then some (.bool (mailOk s), []) else none | _ => none, need := [] }
attribute [go_sem] spMailOk
theorem spMailOk_in {ins : List V} {r : V} {outs : List V} (h : spMailOk.run ins = some (r, outs)) : ∃ (s : (List UInt8)), ins = [.str s] ∧ (s.length ≤ 4194304) ∧ .bool (mailOk s) = r ∧ outs = [] := by
  unfold spMailOk at h
  simp only at h
  split at h
  · rename_i s
    split at h
    case isFalse => cases h
    rename_i hc
    simp only [Option.some.injEq, Prod.mk.injEq] at h
    obtain ⟨h1, h2⟩ := h
    exact ⟨s, rfl, hc, h1, h2.symm⟩
  · cases h
def rangeAt (x : List Range) (i : Nat) : Bool := within (x.getD i default).Lo 1 9999 && within (x.getD i default).Hi (x.getD i default).Lo 9999 && (i == 0 || decide ((x.getD (i - 1) default).Hi + 1 < (x.getD i default).Lo))
def setOk (x : List Range) : Bool := allN x.length (rangeAt x) && decide (x.length ≤ 40)
theorem rangeAt_hi {x : List Range} {i : Nat} (h : i < x.length) (hb : rangeAt x i = true) : 1 ≤ x[i].Lo ∧ x[i].Lo ≤ x[i].Hi ∧ x[i].Hi ≤ 9999 := by
  simp only [rangeAt, getD_lt h, Bool.and_eq_true, within, decide_eq_true_eq] at hb
  omega
open Classical in
noncomputable def spSetOk : VM.Spec := { modes := [.rd], run := fun | [.lst 2 x'] => (decL Range.dec x').bind fun x => if x.length ≤ 4194304 then some (.bool (setOk x), []) else none | _ => none, need := [] }
attribute [go_sem] spSetOk
theorem spSetOk_in {ins : List V} {r : V} {outs : List V} (h : spSetOk.run ins = some (r, outs)) : ∃ (x : (List Range)), ins = [.lst 2 ((x).map Range.enc)] ∧ (x.length ≤ 4194304) ∧ .bool (setOk x) = r ∧ outs = [] := by
  unfold spSetOk at h
  simp only at h
  split at h
  · rename_i x'
    simp only [Option.bind_eq_some_iff] at h
    obtain ⟨x, h_x, h⟩ := h
    split at h
    case isFalse => cases h
    rename_i hc
    simp only [Option.some.injEq, Prod.mk.injEq] at h
    obtain ⟨h1, h2⟩ := h
    have h_x := decL_some (fun _ _ h => Range.dec_some h) h_x
    subst h_x
    exact ⟨x, rfl, hc, h1, h2.symm⟩
  · cases h
def T_spec_SetOk : Hints := ⟨lk [(4, [])], lk [(2, [0, 3])], lk [(0, [0]), (1, [0, 3]), (2, [0, 3, 7]), (4, [0, 3, 48]), (5, [2]), (3, [0, 3]), (6, [2])], lk []⟩
noncomputable def Phi_spec_SetOk : Tab := lk [(14, spWithin)]
attribute [go_sem] T_spec_SetOk Phi_spec_SetOk
theorem phi_spec_SetOk : ∀ f sp, Phi_spec_SetOk f = some sp → FnOk Tryd.prog f sp ∧ ∀ n ∈ sp.need, n ∈ ([] : List String) := phi_cons ok_spec_l01In (n0 rfl) (phi_nil)
theorem ok_spec_SetOk : FnOk Tryd.prog 31 spSetOk := by
  refine fn_ok (Φ := Phi_spec_SetOk) (T := T_spec_SetOk) phi_spec_SetOk mixed Tryd.func31 rfl rfl rfl (by decide) ?_
  intro ins r outs hr hl
  clear hl
  have hs := spSetOk_in hr
  clear hr
  obtain ⟨x, rfl, hc, hr, rfl⟩ := hs
  simp only [spSetOk, Tryd.f31, Go.VM.initS]
  simp only [go_sem]
  refine loop_go (fun i : Nat => [(3, .int .i64 (i : Int))]) (fun _ => []) (fun i => x.length - i) (fun i => i ≤ x.length ∧ ∀ j, j < i → rangeAt x j = true) 0 ⟨Nat.zero_le _, fun j hj => absurd hj (by omega)⟩ rfl rfl ?_
  intro i ⟨hi, ha⟩ ih
  rcases Nat.lt_or_ge i x.length with h | h
  · have g1 : (i : Int) < x.length := by omega
    have g2 : (0 : Int) ≤ i := by omega
    have g3 : x[i]? = some x[i] := List.getElem?_eq_getElem h
    have g5 := wrap_succ h (by omega)
    simp only [g1, g2, g3, go_sem]
    refine goes_valD 48 V.bool (!rangeAt x i) rfl rfl rfl (by decide +kernel) ?_ ?_
    · intro G hG
      clear ih hr
      rcases Nat.eq_zero_or_pos i with h0 | h0
      · have k1 : ¬ (0 : Int) < i := by omega
        have g6 : rangeAt x i = (within x[i].Lo 1 9999 && within x[i].Hi x[i].Lo 9999) := by
          have : (i == 0) = true := by simp [h0]
          simp only [rangeAt, getD_lt h, this, Bool.true_or, Bool.and_true]
        simp only [g1, g2, g3, k1, go_sem]
        repeat' ((first | ((first | apply qa | apply qb | apply qc | apply qd | apply qe | apply qf | apply qg | apply qh | apply qi | apply qj | apply qk) <;> intro hp) | ((first | refine ql rfl rfl (by decide +kernel) ?_ | refine qm _ rfl rfl (by decide +kernel) ?_) <;> have hp := True.intro)) <;> simp only [hp, g1, g2, g3, k1, go_sem])
        all_goals (refine hG _ ?_; clear hG; rw [g6]; simp_all [within] <;> omega)
      · have k1 : (0 : Int) < i := by omega
        have k2 := wrap_pred h0 (by omega)
        have k3 : (0 : Int) ≤ ((i - 1 : Nat) : Int) := by omega
        have k4 : ((i - 1 : Nat) : Int) < x.length := by omega
        have k5 : x[i - 1]? = some (x[i - 1]'(by omega)) := List.getElem?_eq_getElem (by omega)
        have k6 := rangeAt_hi (i := i - 1) (by omega) (ha (i - 1) (by omega))
        have k7 : IntKind.i64.wrap ((x[i - 1]'(by omega)).Hi + 1) = (x[i - 1]'(by omega)).Hi + 1 := wrap64 (by omega) (by omega)
        have g6 : rangeAt x i = (within x[i].Lo 1 9999 && within x[i].Hi x[i].Lo 9999 && decide ((x[i - 1]'(by omega)).Hi + 1 < x[i].Lo)) := by
          have : (i == 0) = false := by simp; omega
          simp only [rangeAt, getD_lt h, getD_lt (show i - 1 < x.length by omega), this, Bool.false_or]
        clear ha
        simp only [g1, g2, g3, k1, k2, k3, k4, k5, k7, go_sem]
        repeat' ((first | ((first | apply qa | apply qb | apply qc | apply qd | apply qe | apply qf | apply qg | apply qh | apply qi | apply qj | apply qk) <;> intro hp) | ((first | refine ql rfl rfl (by decide +kernel) ?_ | refine qm _ rfl rfl (by decide +kernel) ?_) <;> have hp := True.intro)) <;> simp only [hp, g1, g2, g3, k1, k2, k3, k4, k5, k7, go_sem])
        all_goals (refine hG _ ?_; clear hG k2 k5 k7; rw [g6]; rcases Int.lt_or_le ((x[i - 1]'(by omega)).Hi + 1) x[i].Lo with q | q <;> simp_all [within] <;> first | omega | (rw [decide_eq_false (by omega), decide_eq_true (by omega)]; rfl))
    · simp only [g5, go_sem]
      repeat' ((first | ((first | apply qa | apply qb | apply qc | apply qd | apply qe | apply qf | apply qg | apply qh | apply qi | apply qj | apply qk) <;> intro hp) | ((first | refine ql rfl rfl (by decide +kernel) ?_ | refine qm _ rfl rfl (by decide +kernel) ?_) <;> have hp := True.intro)) <;> simp only [hp, g5, go_sem])
      · simp only [fin_mk, finV, resL, resV1, resIn, endA, listIn, Option.some_or, Option.none_or, oneOrTup, go_sem]
        rw [← hr]
        rw [setOk, allN_bad h hp]; rfl
      · exact ih (i + 1) ⟨h, all_succ ha hp⟩ (by omega)
  · have g1 : ¬ (i : Int) < x.length := by omega
    simp only [g1, go_sem]
    simp only [fin_mk, finV, resL, resV1, resIn, endA, listIn, Option.some_or, Option.none_or, oneOrTup, go_sem]
    rw [← hr]
    rw [setOk, allN_all h ha, Bool.true_and]
    congr 2
    simp
    omega
end Go.Proofs.YtnbkmmjnpbfhnaaDoor.L

namespace Go.Proofs.YtnbkmmjnpbfhnaaDoor.L
open Go Go.VM
set_option maxRecDepth 100000
set_option maxHeartbeats 4000000
set_option linter.unusedSimpArgs false
set_option linter.unusedVariables false
def varN (n : Nat) : List UInt8 := if 127 < n then UInt8.ofNat (n % 128 + 128) :: varN (n / 128) else [UInt8.ofNat n]
termination_by n
decreasing_by omega
theorem varN_big {n : Nat} (h : 127 < n) : varN n = UInt8.ofNat (n % 128 + 128) :: varN (n / 128) := by rw [varN, if_pos h]
theorem varN_small {n : Nat} (h : ¬ 127 < n) : varN n = [UInt8.ofNat n] := by rw [varN, if_neg h]
theorem varN_len (n : Nat) : (varN n).length ≤ n + 1 := by
  induction n using Nat.strongRecOn with
  | ind n ih =>
    by_cases h : 127 < n
    · rw [varN_big h]
      have := ih (n / 128) (by omega)
      simp; omega
    · rw [varN_small h]; simp
theorem u8_of {n : Nat} (h : n < 256) : IntKind.u8.wrap (n : Int) = (UInt8.ofNat n).toNat := by
  rw [UInt8.toNat_ofNat_of_lt' (by simpa using h)]
  simp only [IntKind.wrap, IntKind.signed, IntKind.bits]
  simp; omega
theorem tmod_nat (m k : Nat) : (m : Int).tmod k = ((m % k : Nat) : Int) := by
  rw [Int.tmod_eq_emod_of_nonneg (by omega)]; omega
theorem tdiv_nat (m k : Nat) : (m : Int).tdiv k = ((m / k : Nat) : Int) := by
  rw [Int.tdiv_eq_ediv_of_nonneg (by omega)]; omega
theorem app_u8 (acc : List UInt8) {x : Int} {b : UInt8} (h : x = b.toNat) : bytesV acc ++ [V.int .u8 x] = bytesV (acc ++ [b]) := by rw [h]; exact bytesV_app acc [b]
def varText (n : Int) : List UInt8 := if within n 0 1000000000 = true then varN n.toNat else []
def shortText (s : List UInt8) : List UInt8 := if s.length ≤ 20000 then varN s.length ++ s else []
open Classical in
noncomputable def spVarText : VM.Spec := { modes := [.rd], run := fun | [.int .i64 n] => some (.tup [.str (varText n), .bool (within n 0 1000000000)], []) | _ => none, need := [] }
attribute [go_sem] spVarText
theorem spVarText_in {ins : List V} {r : V} {outs : List V} (h : spVarText.run ins = some (r, outs)) : ∃ (n : Int), ins = [.int .i64 n] ∧ .tup [.str (varText n), .bool (within n 0 1000000000)] = r ∧ outs = [] := by
  unfold spVarText at h
  simp only at h
  split at h
  · rename_i n
    simp only [Option.some.injEq, Prod.mk.injEq] at h
    obtain ⟨h1, h2⟩ := h
    exact ⟨n, rfl, h1, h2.symm⟩
  · cases h
open Classical in
noncomputable def spVarBytes : VM.Spec := { modes := [.rd], run := fun | [.int .i64 n] => if 0 ≤ n ∧ n ≤ 70368744177664 then some (.str (varN n.toNat), []) else none | _ => none, need := [] }
attribute [go_sem] spVarBytes
theorem spVarBytes_in {ins : List V} {r : V} {outs : List V} (h : spVarBytes.run ins = some (r, outs)) : ∃ (n : Int), ins = [.int .i64 n] ∧ (0 ≤ n ∧ n ≤ 70368744177664) ∧ .str (varN n.toNat) = r ∧ outs = [] := by
  unfold spVarBytes at h
  simp only at h
  split at h
  · rename_i n
    split at h
    case isFalse => cases h
    rename_i hc
    simp only [Option.some.injEq, Prod.mk.injEq] at h
    obtain ⟨h1, h2⟩ := h
    exact ⟨n, rfl, hc, h1, h2.symm⟩
  · cases h
open Classical in
noncomputable def spShortText : VM.Spec := { modes := [.rd], run := fun | [.str s] => if s.length ≤ 4194304 then some (.tup [.str (shortText s), .bool (decide (s.length ≤ 20000))], []) else none | _ => none, need := [] }
attribute [go_sem] spShortText
theorem spShortText_in {ins : List V} {r : V} {outs : List V} (h : spShortText.run ins = some (r, outs)) : ∃ (s : (List UInt8)), ins = [.str s] ∧ (s.length ≤ 4194304) ∧ .tup [.str (shortText s), .bool (decide (s.length ≤ 20000))] = r ∧ outs = [] := by
  unfold spShortText at h
  simp only at h
  split at h
  · rename_i s
    split at h
    case isFalse => cases h
    rename_i hc
    simp only [Option.some.injEq, Prod.mk.injEq] at h
    obtain ⟨h1, h2⟩ := h
    exact ⟨s, rfl, hc, h1, h2.symm⟩
  · cases h
open Classical in
noncomputable def spShort : VM.Spec := { modes := [.rd], run := fun | [.str s] => if s.length ≤ 20000 then some (.str (varN s.length ++ s), []) else none | _ => none, need := [] }
attribute [go_sem] spShort
theorem spShort_in {ins : List V} {r : V} {outs : List V} (h : spShort.run ins = some (r, outs)) : ∃ (s : (List UInt8)), ins = [.str s] ∧ (s.length ≤ 20000) ∧ .str (varN s.length ++ s) = r ∧ outs = [] := by
  unfold spShort at h
  simp only at h
  split at h
  · rename_i s
    split at h
    case isFalse => cases h
    rename_i hc
    simp only [Option.some.injEq, Prod.mk.injEq] at h
    obtain ⟨h1, h2⟩ := h
    exact ⟨s, rfl, hc, h1, h2.symm⟩
  · cases h
open Classical in
noncomputable def spItoa : VM.Spec := { modes := [.rd], run := fun | [.int .i64 n] => if -9223372036854775808 ≤ n ∧ n ≤ 9223372036854775807 then some (.str (Lib.itoa n), []) else none | _ => none, need := ["internal/strconv.uint64pow10"] }
attribute [go_sem] spItoa
theorem spItoa_in {ins : List V} {r : V} {outs : List V} (h : spItoa.run ins = some (r, outs)) : ∃ (n : Int), ins = [.int .i64 n] ∧ (-9223372036854775808 ≤ n ∧ n ≤ 9223372036854775807) ∧ .str (Lib.itoa n) = r ∧ outs = [] := by
  unfold spItoa at h
  simp only at h
  split at h
  · rename_i n
    split at h
    case isFalse => cases h
    rename_i hc
    simp only [Option.some.injEq, Prod.mk.injEq] at h
    obtain ⟨h1, h2⟩ := h
    exact ⟨n, rfl, hc, h1, h2.symm⟩
  · cases h
theorem ok_strconv_Itoa : FnOk Tryd.prog 49 spItoa :=
  itoa_ok Tryd.func49 rfl (by kernel_rfl) (by simp [spItoa]) rfl (fun _ _ _ h => spItoa_in h) Tryd.strconv_Itoa
theorem nDigits_le : ∀ (k u : Nat), u < 10 ^ (k + 1) → Lib.nDigits u ≤ k + 1
  | 0, u, h => by rw [Lib.nDigits_small (by simpa using h)]; omega
  | k + 1, u, h => by
    by_cases hu : u < 10
    · rw [Lib.nDigits_small hu]; omega
    · rw [Lib.nDigits_big hu]
      have := nDigits_le k (u / 10) (by rw [Nat.pow_succ] at h; omega)
      omega
theorem itoa_len {n : Int} {k : Nat} (h0 : 0 ≤ n) (h : n < 10 ^ (k + 1)) : (Lib.itoa n).length ≤ k + 1 := by
  rw [Lib.itoa, if_neg (by omega), Lib.decDigits_length]
  exact nDigits_le k n.toNat (by
    have e : ((n.toNat : Nat) : Int) = n := by omega
    have : ((n.toNat : Nat) : Int) < ((10 ^ (k + 1) : Nat) : Int) := by rw [e]; simpa using h
    exact_mod_cast this)
theorem itoa10 {n : Int} (h0 : 0 ≤ n) (h : n ≤ 1000000000) : (Lib.itoa n).length ≤ 10 := itoa_len (k := 9) h0 (by omega)
theorem itoa4 {n : Int} (h0 : 0 ≤ n) (h : n ≤ 9999) : (Lib.itoa n).length ≤ 4 := itoa_len (k := 3) h0 (by omega)
def dig (m : Nat) : List UInt8 := if m = 0 then [] else Lib.decDigits m
theorem dig_step {m : Nat} (h : m ≠ 0) : dig m = dig (m / 10) ++ [UInt8.ofNat (48 + m % 10)] := by
  unfold dig
  rw [if_neg h, Lib.decDigits]
  by_cases h1 : m < 10
  · rw [dif_pos h1, if_pos (by omega), Nat.mod_eq_of_lt h1]; rfl
  · rw [dif_neg h1, if_neg (by omega)]
theorem dig_len (m : Nat) : (dig m).length ≤ m := by
  induction m using Nat.strongRecOn with
  | ind m ih =>
    by_cases h : m = 0
    · subst h; simp [dig]
    · rw [dig_step h, List.length_append]
      have := ih (m / 10) (by omega)
      simp; omega
open Classical in
noncomputable def spDecimal : VM.Spec := { modes := [.rd], run := fun | [.int .i64 n] => if 0 ≤ n ∧ n ≤ 1000000000 then some (.str (Lib.itoa n), []) else none | _ => none, need := ["internal/strconv.uint64pow10"] }
attribute [go_sem] spDecimal
theorem spDecimal_in {ins : List V} {r : V} {outs : List V} (h : spDecimal.run ins = some (r, outs)) : ∃ (n : Int), ins = [.int .i64 n] ∧ (0 ≤ n ∧ n ≤ 1000000000) ∧ .str (Lib.itoa n) = r ∧ outs = [] := by
  unfold spDecimal at h
  simp only at h
  split at h
  · rename_i n
    split at h
    case isFalse => cases h
    rename_i hc
    simp only [Option.some.injEq, Prod.mk.injEq] at h
    obtain ⟨h1, h2⟩ := h
    exact ⟨n, rfl, hc, h1, h2.symm⟩
  · cases h
def T_impl_Decimal : Hints := ⟨lk [], lk [], lk [(0, [0]), (1, [2])], lk []⟩
noncomputable def Phi_impl_Decimal : Tab := lk [(49, spItoa)]
attribute [go_sem] T_impl_Decimal Phi_impl_Decimal
theorem phi_impl_Decimal : ∀ f sp, Phi_impl_Decimal f = some sp → FnOk Tryd.prog f sp ∧ ∀ n ∈ sp.need, n ∈ (["internal/strconv.uint64pow10"] : List String) := phi_cons ok_strconv_Itoa (fun n (h : n ∈ (["internal/strconv.uint64pow10"] : List String)) => by simp only [List.mem_cons, List.not_mem_nil, or_false] at h; rcases h with rfl <;> simp) (phi_nil)
theorem ok_impl_Decimal : FnOk Tryd.prog 43 spDecimal := by
  refine fn_ok (Φ := Phi_impl_Decimal) (T := T_impl_Decimal) phi_impl_Decimal mixed Tryd.func43 rfl rfl rfl (by decide) ?_
  intro ins r outs hr hl
  clear hl
  have hs := spDecimal_in hr
  clear hr
  obtain ⟨n, rfl, hc, hr, rfl⟩ := hs
  simp only [spDecimal, Tryd.f43, Go.VM.initS]
  have h1 : (-9223372036854775808 : Int) ≤ n := by omega
  have h2 : n ≤ 9223372036854775807 := by omega
  simp only [h1, h2, go_sem]
  repeat' ((first | apply qa | apply qb | apply qc | apply qd | apply qe | apply qf | apply qg | apply qh | apply qi | apply qj | apply qk) <;> intro hp <;> simp only [hp, h1, h2, go_sem])
  simp only [fin_mk, finV, resL, resV1, resIn, endA, listIn, Option.some_or, Option.none_or, oneOrTup, go_sem]
  rw [← hr]
open Classical in
noncomputable def spFigure : VM.Spec := { modes := [.rd], run := fun | [.int .i64 x] => if 0 ≤ x ∧ x < 10 then some (.int .u8 (48 + x), []) else none | _ => none, need := [] }
attribute [go_sem] spFigure
theorem spFigure_in {ins : List V} {r : V} {outs : List V} (h : spFigure.run ins = some (r, outs)) : ∃ (x : Int), ins = [.int .i64 x] ∧ (0 ≤ x ∧ x < 10) ∧ .int .u8 (48 + x) = r ∧ outs = [] := by
  unfold spFigure at h
  simp only at h
  split at h
  · rename_i x
    split at h
    case isFalse => cases h
    rename_i hc
    simp only [Option.some.injEq, Prod.mk.injEq] at h
    obtain ⟨h1, h2⟩ := h
    exact ⟨x, rfl, hc, h1, h2.symm⟩
  · cases h
def T_spec_l01Figure : Hints := ⟨lk [], lk [], lk [(0, [0]), (1, [0, 4]), (2, [2]), (3, [2])], lk []⟩
noncomputable def Phi_spec_l01Figure : Tab := lk []
attribute [go_sem] T_spec_l01Figure Phi_spec_l01Figure
theorem phi_spec_l01Figure : ∀ f sp, Phi_spec_l01Figure f = some sp → FnOk Tryd.prog f sp ∧ ∀ n ∈ sp.need, n ∈ ([] : List String) := phi_nil
theorem ok_spec_l01Figure : FnOk Tryd.prog 32 spFigure := by
  refine fn_ok (Φ := Phi_spec_l01Figure) (T := T_spec_l01Figure) phi_spec_l01Figure mixed Tryd.func32 rfl rfl rfl (by decide) ?_
  intro ins r outs hr hl
  clear hl
  have hs := spFigure_in hr
  clear hr
  obtain ⟨x, rfl, hc, hr, rfl⟩ := hs
  simp only [spFigure, Tryd.f32, Go.VM.initS]
  obtain ⟨h0, h1⟩ := hc
  have e : IntKind.u8.wrap (IntKind.i64.wrap (48 + x)) = 48 + x := by
    rw [wrap64 (by omega) (by omega)]
    simp only [IntKind.wrap, IntKind.signed, IntKind.bits]
    simp; omega
  simp only [h1, e, go_sem]
  repeat' ((first | apply qa | apply qb | apply qc | apply qd | apply qe | apply qf | apply qg | apply qh | apply qi | apply qj | apply qk) <;> intro hp <;> simp only [hp, h1, e, go_sem])
  simp only [fin_mk, finV, resL, resV1, resIn, endA, listIn, Option.some_or, Option.none_or, oneOrTup, go_sem]
  rw [← hr]
def T_spec_Decimal : Hints := ⟨lk [], lk [(5, [0, 3, 4])], lk [(0, [0]), (1, [0, 7]), (2, [2]), (3, [0, 3]), (4, [0, 3, 4]), (5, [0, 3, 4, 11]), (6, [0, 3, 4, 5]), (7, [0, 3, 4, 5, 15]), (8, [0, 3, 4, 5]), (9, [0, 3, 4]), (10, [0, 3, 4]), (11, [4, 26]), (12, [2]), (13, [2])], lk []⟩
noncomputable def Phi_spec_Decimal : Tab := lk [(32, spFigure)]
attribute [go_sem] T_spec_Decimal Phi_spec_Decimal
theorem phi_spec_Decimal : ∀ f sp, Phi_spec_Decimal f = some sp → FnOk Tryd.prog f sp ∧ ∀ n ∈ sp.need, n ∈ (["internal/strconv.uint64pow10"] : List String) := phi_cons ok_spec_l01Figure (n0 rfl) (phi_nil)
theorem ok_spec_Decimal : FnOk Tryd.prog 25 spDecimal := by
  refine fn_ok (Φ := Phi_spec_Decimal) (T := T_spec_Decimal) phi_spec_Decimal mixed Tryd.func25 rfl rfl rfl (by decide) ?_
  intro ins r outs hr hl
  clear hl
  have hs := spDecimal_in hr
  clear hr
  obtain ⟨n, rfl, hc, hr, rfl⟩ := hs
  simp only [spDecimal, Tryd.f25, Go.VM.initS]
  obtain ⟨h0, h1⟩ := hc
  obtain ⟨k, rfl⟩ : ∃ k : Nat, n = k := ⟨n.toNat, by omega⟩
  by_cases hz : k = 0
  · subst hz
    have e : (((0 : Nat) : Int) == 0) = true := rfl
    simp only [e, go_sem]
    repeat' ((first | apply qa | apply qb | apply qc | apply qd | apply qe | apply qf | apply qg | apply qh | apply qi | apply qj | apply qk) <;> intro hp <;> simp only [hp, e, go_sem])
    simp only [fin_mk, finV, resL, resV1, resIn, endA, listIn, Option.some_or, Option.none_or, oneOrTup, go_sem]
    rw [← hr]
    have h2 : Lib.itoa ((0 : Nat) : Int) = [48] := by
      rw [Lib.itoa, if_neg (by decide)]
      show Lib.decDigits 0 = _
      rw [Lib.decDigits]; rfl
    rw [h2]
  · have e : ((k : Int) == 0) = false := beq_eq_false_iff_ne.2 (by omega)
    have e2 : ¬ (k : Int) < 0 := by omega
    have hI : Lib.itoa (k : Int) = dig k := by rw [Lib.itoa, if_neg e2, dig, if_neg hz]; rfl
    rw [hI] at hr
    simp only [e, e2, go_sem]
    repeat' ((first | apply qa | apply qb | apply qc | apply qd | apply qe | apply qf | apply qg | apply qh | apply qi | apply qj | apply qk) <;> intro hp <;> simp only [hp, e, e2, go_sem])
    refine loop_go (fun p : List UInt8 × Nat => [(0, .int .i64 (p.2 : Int)), (4, .str p.1)]) (fun _ => []) (fun p => p.2) (fun p => dig p.2 ++ p.1 = dig k ∧ p.2 ≤ k) ([], k) ⟨by simp, Nat.le_refl _⟩ rfl rfl ?_
    rintro ⟨s, m⟩ ⟨he, hm⟩ ih
    simp only at he hm ih
    have hlen : s.length ≤ k := by
      have h2 := congrArg List.length he
      have h3 := dig_len k
      simp only [List.length_append] at h2; omega
    by_cases hm0 : m = 0
    · subst hm0
      have g1 : (((0 : Nat) : Int) != 0) = false := rfl
      simp only [g1, go_sem]
      repeat' ((first | apply qa | apply qb | apply qc | apply qd | apply qe | apply qf | apply qg | apply qh | apply qi | apply qj | apply qk) <;> intro hp <;> simp only [hp, g1, go_sem])
      simp only [fin_mk, finV, resL, resV1, resIn, endA, listIn, Option.some_or, Option.none_or, oneOrTup, go_sem]
      rw [← hr]
      rw [← he]; rfl
    · have g1 : ((m : Int) != 0) = true := by simp; omega
      have g2 : (m : Int).tmod 10 = ((m % 10 : Nat) : Int) := tmod_nat m 10
      have g3 : ¬ (((m % 10 : Nat) : Int)) < 0 := by omega
      have g4 : (0 : Int) ≤ ((m % 10 : Nat) : Int) := by omega
      have g5 : ((m % 10 : Nat) : Int) < 10 := by omega
      have g6 : (m : Int).tdiv 10 = ((m / 10 : Nat) : Int) := tdiv_nat m 10
      have g7 : IntKind.i64.wrap ((m / 10 : Nat) : Int) = ((m / 10 : Nat) : Int) := wrap64 (by omega) (by omega)
      have g8 : [V.int .u8 (48 + ((m % 10 : Nat) : Int))] = bytesV [UInt8.ofNat (48 + m % 10)] := by
        have h4 : (UInt8.ofNat (48 + m % 10)).toNat = 48 + m % 10 := UInt8.toNat_ofNat_of_lt' (by show 48 + m % 10 < 256; omega)
        rw [bytesV, List.map_cons, List.map_nil, h4]; rfl
      have g9 : 1 + s.length ≤ 9223372036854775807 := by omega
      have ih' := ih (UInt8.ofNat (48 + m % 10) :: s, m / 10) ⟨by rw [← he, dig_step hm0, List.append_assoc]; rfl, by omega⟩ (by simp only; omega)
      simp only at ih'
      simp only [g1, g2, g3, g4, g5, g6, g7, g8, g9, go_sem]
      repeat' ((first | apply qa | apply qb | apply qc | apply qd | apply qe | apply qf | apply qg | apply qh | apply qi | apply qj | apply qk) <;> intro hp <;> simp only [hp, g1, g2, g3, g4, g5, g6, g7, g8, g9, go_sem])
      exact ih'
end Go.Proofs.YtnbkmmjnpbfhnaaDoor.L

namespace Go.Proofs.YtnbkmmjnpbfhnaaDoor.L
open Go Go.VM
set_option maxRecDepth 100000
set_option maxHeartbeats 4000000
set_option linter.unusedSimpArgs false
set_option linter.unusedVariables false
def hasR (s : List Range) (n : Int) : Bool := s.any fun r => decide (r.Lo ≤ n) && decide (n ≤ r.Hi)
def push (out : List Range) (n : Int) : List Range :=
  match out.getLast? with
  | some r => if r.Hi = n - 1 then out.dropLast ++ [⟨r.Lo, n⟩] else out ++ [⟨n, n⟩]
  | none => [⟨n, n⟩]
def scan (l : List Int) : List Range := l.foldl push []
theorem scan_snoc (l : List Int) (n : Int) : scan (l ++ [n]) = push (scan l) n := by simp [scan, List.foldl_append]
theorem push_nil (n : Int) : push [] n = [⟨n, n⟩] := rfl
theorem push_snoc (a : List Range) (r : Range) (n : Int) : push (a ++ [r]) n = if r.Hi = n - 1 then a ++ [⟨r.Lo, n⟩] else a ++ [r] ++ [⟨n, n⟩] := by
  simp [push]
theorem snoc_cases {α : Type} (l : List α) : l = [] ∨ ∃ a x, l = a ++ [x] := by
  rcases List.eq_nil_or_concat l with h | ⟨a, x, h⟩
  · exact .inl h
  · exact .inr ⟨a, x, by simpa using h⟩
theorem push_len (out : List Range) (n : Int) : (push out n).length ≤ out.length + 1 := by
  rcases snoc_cases out with rfl | ⟨a, r, rfl⟩
  · simp [push_nil]
  · rw [push_snoc]; split <;> simp
theorem push_ne (out : List Range) (n : Int) : ∃ a r, push out n = a ++ [r] ∧ r.Hi = n := by
  rcases snoc_cases out with rfl | ⟨a, r, rfl⟩
  · exact ⟨[], _, rfl, rfl⟩
  · rw [push_snoc]
    split
    · exact ⟨a, _, rfl, rfl⟩
    · exact ⟨_, _, rfl, rfl⟩
theorem snoc_ind {α : Type} {P : List α → Prop} (h0 : P []) (h1 : ∀ l x, P l → P (l ++ [x])) (l : List α) : P l := by
  have : ∀ n (l : List α), l.length = n → P l := by
    intro n
    induction n with
    | zero => intro l h; rw [List.eq_nil_of_length_eq_zero h]; exact h0
    | succ n ih =>
      intro l h
      rcases snoc_cases l with rfl | ⟨a, x, rfl⟩
      · simp at h
      · exact h1 a x (ih a (by simpa using h))
  exact this _ l rfl
theorem scan_len (l : List Int) : (scan l).length ≤ l.length := by
  refine snoc_ind (P := fun l => (scan l).length ≤ l.length) (by simp [scan]) ?_ l
  intro l x ih
  rw [scan_snoc]
  have := push_len (scan l) x
  simp; omega
theorem scan_last (l : List Int) (n : Int) : ∃ a r, scan (l ++ [n]) = a ++ [r] ∧ r.Hi = n := by rw [scan_snoc]; exact push_ne _ _
def Canon (out : List Range) (m : Int) : Prop := (∀ r ∈ out, 1 ≤ r.Lo ∧ r.Lo ≤ r.Hi ∧ r.Hi ≤ m) ∧ out.Pairwise fun r t => r.Hi + 1 < t.Lo
theorem Canon.mono {out : List Range} {m k : Int} (h : Canon out m) (hk : m ≤ k) : Canon out k := ⟨fun r hr => by have := h.1 r hr; omega, h.2⟩
theorem Canon.push {out : List Range} {m n : Int} (h : Canon out m) (hm : m < n) (h1 : 1 ≤ n) : Canon (push out n) n := by
  rcases snoc_cases out with rfl | ⟨a, r, rfl⟩
  · rw [push_nil]
    exact ⟨fun r hr => by simp at hr; subst hr; exact ⟨h1, Int.le_refl _, Int.le_refl _⟩, by simp⟩
  · obtain ⟨ha, hp⟩ := h
    rw [List.pairwise_append] at hp
    have hr := ha r (by simp)
    rw [push_snoc]
    split
    · refine ⟨fun t ht => ?_, ?_⟩
      · rcases List.mem_append.1 ht with ht | ht
        · have := ha t (by simp [ht]); omega
        · simp only [List.mem_singleton] at ht; subst ht
          exact ⟨hr.1, by simp only; omega, Int.le_refl _⟩
      · rw [List.pairwise_append]
        refine ⟨hp.1, by simp, fun t ht u hu => ?_⟩
        simp only [List.mem_singleton] at hu; subst hu
        exact hp.2.2 t ht r (by simp)
    · rename_i hne
      refine ⟨fun t ht => ?_, ?_⟩
      · rcases List.mem_append.1 ht with ht | ht
        · have := ha t ht; omega
        · simp only [List.mem_singleton] at ht; subst ht
          exact ⟨h1, Int.le_refl _, Int.le_refl _⟩
      · rw [List.pairwise_append]
        refine ⟨List.pairwise_append.2 hp, by simp, fun t ht u hu => ?_⟩
        simp only [List.mem_singleton] at hu; subst hu
        simp only
        rcases List.mem_append.1 ht with ht | ht
        · have h2 := hp.2.2 t ht r (by simp)
          omega
        · simp only [List.mem_singleton] at ht; subst ht; omega
def Asc (l : List Int) (m : Int) : Prop := l.Pairwise (· < ·) ∧ ∀ x ∈ l, 1 ≤ x ∧ x ≤ m
theorem Asc.snoc {l : List Int} {x m : Int} (h : Asc (l ++ [x]) m) : Asc l (x - 1) ∧ 1 ≤ x ∧ x ≤ m := by
  obtain ⟨h1, h2⟩ := h
  rw [List.pairwise_append] at h1
  refine ⟨⟨h1.1, fun y hy => ?_⟩, h2 x (by simp)⟩
  have := h1.2.2 y hy x (by simp)
  have := h2 y (by simp [hy])
  omega
theorem scan_canon (l : List Int) : ∀ m, Asc l m → Canon (scan l) m := by
  refine snoc_ind (P := fun l => ∀ m, Asc l m → Canon (scan l) m) (fun m _ => ⟨by simp [scan], by simp [scan]⟩) ?_ l
  intro l x ih m h
  obtain ⟨h1, h2, h3⟩ := h.snoc
  rw [scan_snoc]
  exact ((ih _ h1).push (by omega) h2).mono h3
theorem hasR_append (a b : List Range) (n : Int) : hasR (a ++ b) n = (hasR a n || hasR b n) := by simp [hasR]
theorem hasR_push {out : List Range} {m n : Int} (h : Canon out m) (k : Int) : hasR (push out n) k = (hasR out k || k == n) := by
  rcases snoc_cases out with rfl | ⟨a, r, rfl⟩
  · rw [push_nil, Bool.eq_iff_iff]; simp [hasR]; omega
  · have hr := h.1 r (by simp)
    rw [push_snoc]
    split
    · rename_i he
      rw [hasR_append, hasR_append, Bool.or_assoc]
      congr 1
      rw [Bool.eq_iff_iff]; simp [hasR]; omega
    · rw [hasR_append]
      congr 1
      rw [Bool.eq_iff_iff]; simp [hasR]; omega
theorem hasR_scan (l : List Int) (k : Int) : ∀ m, Asc l m → hasR (scan l) k = decide (k ∈ l) := by
  refine snoc_ind (P := fun l => ∀ m, Asc l m → hasR (scan l) k = decide (k ∈ l)) (fun m _ => by simp [scan, hasR]) ?_ l
  intro l x ih m h
  obtain ⟨h1, h2, h3⟩ := h.snoc
  rw [scan_snoc, hasR_push (scan_canon l _ h1), ih _ h1, Bool.eq_iff_iff]
  simp
theorem setOk_canon {out : List Range} (h : Canon out 9999) : setOk out = decide (out.length ≤ 40) := by
  have : allN out.length (rangeAt out) = true := by
    rw [allN, List.all_eq_true]
    intro i hi
    have hi := List.mem_range.1 hi
    have h1 := h.1 _ (List.getElem_mem hi)
    simp only [rangeAt, getD_lt hi, within, Bool.and_eq_true, decide_eq_true_eq, Bool.or_eq_true, beq_iff_eq]
    refine ⟨⟨by omega, by omega⟩, ?_⟩
    rcases Nat.eq_zero_or_pos i with h0 | h0
    · exact .inl h0
    · refine .inr ?_
      have hi' : i - 1 < out.length := by omega
      rw [getD_lt hi']
      exact List.pairwise_iff_getElem.1 h.2 (i - 1) i hi' hi (by omega)
  rw [setOk, this, Bool.true_and]
def nums (n : Nat) : List Int := (List.range n).map fun i => ((i + 1 : Nat) : Int)
theorem nums_succ (n : Nat) : nums (n + 1) = nums n ++ [((n + 1 : Nat) : Int)] := by simp [nums, List.range_succ]
theorem nums_mem {n : Nat} {x : Int} : x ∈ nums n ↔ 1 ≤ x ∧ x ≤ n := by
  simp only [nums, List.mem_map, List.mem_range]
  constructor
  · rintro ⟨i, hi, rfl⟩; omega
  · intro h; exact ⟨(x - 1).toNat, by omega, by omega⟩
theorem nums_asc (n : Nat) : Asc (nums n) n := by
  refine ⟨?_, fun x hx => nums_mem.1 hx⟩
  rw [nums, List.pairwise_map]
  exact List.Pairwise.imp (by intro a b h; omega) List.pairwise_lt_range
theorem Asc.filter {l : List Int} {m : Int} (h : Asc l m) (p : Int → Bool) : Asc (l.filter p) m := ⟨h.1.filter p, fun x hx => h.2 x (List.mem_filter.1 hx).1⟩
theorem asc_eq : ∀ {a b : List Int}, a.Pairwise (· < ·) → b.Pairwise (· < ·) → (∀ x, x ∈ a ↔ x ∈ b) → a = b
  | [], [], _, _, _ => rfl
  | [], y :: b, _, _, h => absurd ((h y).2 (by simp)) (by simp)
  | x :: a, [], _, _, h => absurd ((h x).1 (by simp)) (by simp)
  | x :: a, y :: b, ha, hb, h => by
    rw [List.pairwise_cons] at ha hb
    have hxy : x = y := by
      rcases List.mem_cons.1 ((h x).1 (by simp)) with e | e
      · exact e
      · rcases List.mem_cons.1 ((h y).2 (by simp)) with e' | e'
        · exact e'.symm
        · have h1 := hb.1 x e
          have h2 := ha.1 y e'
          omega
    subst hxy
    congr 1
    refine asc_eq ha.2 hb.2 fun z => ?_
    constructor
    · intro hz
      rcases List.mem_cons.1 ((h z).1 (by simp [hz])) with e | e
      · subst e; have := ha.1 z hz; omega
      · exact e
    · intro hz
      rcases List.mem_cons.1 ((h z).2 (by simp [hz])) with e | e
      · subst e; have := hb.1 z hz; omega
      · exact e
def setOf (S : List Int) : List Range := scan ((nums 9999).filter fun n => decide (n ∈ S))
theorem setOf_asc {l : List Int} (h : Asc l 9999) : setOf l = scan l := by
  unfold setOf
  congr 1
  refine asc_eq ((nums_asc 9999).filter _).1 h.1 fun x => ?_
  simp only [List.mem_filter, decide_eq_true_eq, nums_mem]
  constructor
  · exact fun h => h.2
  · exact fun hx => ⟨h.2 x hx, hx⟩
theorem setOf_has (S : List Int) (k : Int) (h : 1 ≤ k ∧ k ≤ 9999) : hasR (setOf S) k = decide (k ∈ S) := by
  rw [setOf, hasR_scan _ k 9999 ((nums_asc 9999).filter _), Bool.eq_iff_iff]
  simp only [decide_eq_true_eq, List.mem_filter, nums_mem]
  constructor
  · exact fun h => h.2
  · exact fun hx => ⟨h, hx⟩
theorem filter_or_len (l : List Int) (p q : Int → Bool) : (l.filter fun x => p x || q x).length ≤ (l.filter p).length + (l.filter q).length := by
  induction l with
  | nil => simp
  | cons x l ih =>
    simp only [List.filter_cons]
    cases p x <;> cases q x <;> simp <;> omega
theorem filter_eq_len (n : Nat) (u : Int) : ((nums n).filter fun x => x == u).length ≤ 1 := by
  induction n with
  | zero => simp [nums]
  | succ n ih =>
    rw [nums_succ, List.filter_append, List.length_append]
    by_cases h : ((n + 1 : Nat) : Int) = u
    · have : (nums n).filter (fun x => x == u) = [] := by
        rw [List.filter_eq_nil_iff]
        intro x hx
        have := nums_mem.1 hx
        simp; omega
      rw [this]; simp [List.filter_cons]; split <;> simp
    · have : [((n + 1 : Nat) : Int)].filter (fun x => x == u) = [] := by simp [List.filter_cons]; omega
      rw [this]; simpa using ih
theorem setOf_len (S : List Int) : (setOf S).length ≤ S.length := by
  refine Nat.le_trans (scan_len _) ?_
  induction S with
  | nil => simp
  | cons u S ih =>
    have h1 := filter_or_len (nums 9999) (fun x => x == u) (fun x => decide (x ∈ S))
    have h2 := filter_eq_len 9999 u
    have e : (fun n : Int => decide (n ∈ u :: S)) = fun x => (x == u) || decide (x ∈ S) := by funext n; rw [Bool.eq_iff_iff]; simp
    rw [e]
    simp only [List.length_cons]; omega
theorem setOf_ok {S : List Int} (h : S.length ≤ 40) : setOk (setOf S) = true := by
  have := setOf_len S
  unfold setOf at this ⊢
  rw [setOk_canon (scan_canon _ _ ((nums_asc 9999).filter _))]
  simp; omega
/-! ### marks -/
def bitsOf (p : Nat → Bool) : List Bool := (List.range 10001).map p
theorem bitsOf_len (p : Nat → Bool) : (bitsOf p).length = 10001 := by simp [bitsOf]
theorem bitsOf_get (p : Nat → Bool) {n : Nat} (h : n < 10001) : (bitsOf p)[n]? = some (p n) := by
  simp [bitsOf, List.getElem?_range h]
theorem bitsOf_set (p : Nat → Bool) (n : Nat) (b : Bool) : (bitsOf p).set n b = bitsOf fun m => if m = n then b else p m := by
  apply List.ext_getElem?
  intro i
  rw [List.getElem?_set, bitsOf_len]
  by_cases hi : i < 10001
  · rw [bitsOf_get _ hi, bitsOf_get _ hi]
    by_cases h : n = i
    · subst h; simp [hi]
    · simp [h, Ne.symm h]
  · rw [List.getElem?_eq_none (by rw [bitsOf_len]; omega), List.getElem?_eq_none (by rw [bitsOf_len]; omega)]
    split
    · split <;> simp; omega
    · rfl
theorem replicate_gen (n : Nat) : List.replicate n (V.bool false) = ((List.range n).map fun _ => false).map eBool := by
  apply List.ext_getElem?
  intro i
  rw [List.getElem?_replicate, List.getElem?_map, List.getElem?_map]
  by_cases hi : i < n
  · rw [if_pos hi, List.getElem?_range hi]; rfl
  · rw [if_neg hi, List.getElem?_eq_none (by simp; omega)]; rfl
theorem replicate_bits : List.replicate 10001 (V.bool false) = (bitsOf fun _ => false).map eBool := replicate_gen 10001
def memN (s : List Range) (n : Nat) : Bool := hasR s n
open Classical in
noncomputable def spBits : VM.Spec := { modes := [.rd], run := fun | [.lst 2 s'] => (decL Range.dec s').bind fun s => if setOk s = true ∧ s.length ≤ 4194304 then some (.lst 1 ((bitsOf (memN s)).map eBool), []) else none | _ => none, need := [] }
attribute [go_sem] spBits
theorem spBits_in {ins : List V} {r : V} {outs : List V} (h : spBits.run ins = some (r, outs)) : ∃ (s : (List Range)), ins = [.lst 2 ((s).map Range.enc)] ∧ (setOk s = true ∧ s.length ≤ 4194304) ∧ .lst 1 ((bitsOf (memN s)).map eBool) = r ∧ outs = [] := by
  unfold spBits at h
  simp only at h
  split at h
  · rename_i s'
    simp only [Option.bind_eq_some_iff] at h
    obtain ⟨s, h_s, h⟩ := h
    split at h
    case isFalse => cases h
    rename_i hc
    simp only [Option.some.injEq, Prod.mk.injEq] at h
    obtain ⟨h1, h2⟩ := h
    have h_s := decL_some (fun _ _ h => Range.dec_some h) h_s
    subst h_s
    exact ⟨s, rfl, hc, h1, h2.symm⟩
  · cases h
def markB (l : List Bool) (n : Int) : Bool := l.getD n.toNat false
def scanB (l : List Bool) : List Range := scan ((nums 9999).filter (markB l))
theorem filter_nums_succ (p : Int → Bool) (i : Nat) : (nums (i + 1)).filter p = (nums i).filter p ++ (if p ((i + 1 : Nat) : Int) = true then [((i + 1 : Nat) : Int)] else []) := by
  rw [nums_succ, List.filter_append, List.filter_cons]
  rfl
theorem filter_nums_last {p : Int → Bool} {i : Nat} (h : p ((i + 1 : Nat) : Int) = true) : ∃ a r, scan ((nums (i + 1)).filter p) = a ++ [r] ∧ r.Hi = ((i + 1 : Nat) : Int) := by
  rw [filter_nums_succ, if_pos h]
  exact scan_last _ _
theorem push_gap {p : Int → Bool} {i : Nat} (h : i = 0 ∨ p (i : Int) = false) : push (scan ((nums i).filter p)) ((i + 1 : Nat) : Int) = scan ((nums i).filter p) ++ [⟨((i + 1 : Nat) : Int), ((i + 1 : Nat) : Int)⟩] := by
  rcases snoc_cases ((nums i).filter p) with e | ⟨a, x, e⟩
  · rw [e]; rfl
  · rw [e]
    obtain ⟨b, r, h1, h2⟩ := scan_last a x
    have hx : x ∈ (nums i).filter p := by rw [e]; simp
    rw [List.mem_filter, nums_mem] at hx
    have hne : x ≠ i := by
      rintro rfl
      rcases h with h | h
      · subst h; omega
      · rw [hx.2] at h; cases h
    rw [h1, push_snoc, if_neg (by rw [h2]; omega)]
open Classical in
noncomputable def spScanBits : VM.Spec := { modes := [.rd], run := fun | [.lst 1 l'] => (decL dBool l').bind fun l => if l.length = 10001 ∧ l.getD 0 false = false then some (.tup [.lst 2 (((if setOk (scanB l) = true then scanB l else [])).map Range.enc), .bool (setOk (scanB l))], []) else none | _ => none, need := [] }
attribute [go_sem] spScanBits
theorem spScanBits_in {ins : List V} {r : V} {outs : List V} (h : spScanBits.run ins = some (r, outs)) : ∃ (l : (List Bool)), ins = [.lst 1 ((l).map eBool)] ∧ (l.length = 10001 ∧ l.getD 0 false = false) ∧ .tup [.lst 2 (((if setOk (scanB l) = true then scanB l else [])).map Range.enc), .bool (setOk (scanB l))] = r ∧ outs = [] := by
  unfold spScanBits at h
  simp only at h
  split at h
  · rename_i l'
    simp only [Option.bind_eq_some_iff] at h
    obtain ⟨l, h_l, h⟩ := h
    split at h
    case isFalse => cases h
    rename_i hc
    simp only [Option.some.injEq, Prod.mk.injEq] at h
    obtain ⟨h1, h2⟩ := h
    have h_l := decL_some (fun _ _ h => dBool_some h) h_l
    subst h_l
    exact ⟨l, rfl, hc, h1, h2.symm⟩
  · cases h
def T_spec_l05Set : Hints := ⟨lk [], lk [(3, [0, 4, 5])], lk [(0, [0]), (1, [0, 4]), (2, [0, 4, 5]), (3, [0, 4, 5, 8]), (5, [0, 4, 5, 15]), (6, [0, 4, 5, 21]), (7, [0, 4, 5]), (8, [0, 4, 5]), (4, [0, 4, 5]), (9, [4, 36]), (10, [2, 3]), (11, [2, 3])], lk []⟩
noncomputable def Phi_spec_l05Set : Tab := lk [(31, spSetOk)]
attribute [go_sem] T_spec_l05Set Phi_spec_l05Set
theorem phi_spec_l05Set : ∀ f sp, Phi_spec_l05Set f = some sp → FnOk Tryd.prog f sp ∧ ∀ n ∈ sp.need, n ∈ ([] : List String) := phi_cons ok_spec_SetOk (n0 rfl) (phi_nil)
theorem ok_spec_l05Set : FnOk Tryd.prog 24 spScanBits := by
  refine fn_ok (Φ := Phi_spec_l05Set) (T := T_spec_l05Set) phi_spec_l05Set mixed Tryd.func24 rfl rfl rfl (by decide) ?_
  intro ins r outs hr hl
  clear hl
  have hs := spScanBits_in hr
  clear hr
  obtain ⟨l, rfl, hc, hr, rfl⟩ := hs
  simp only [spScanBits, Tryd.f24, Go.VM.initS]
  obtain ⟨hl, h0⟩ := hc
  simp only [go_sem]
  repeat' ((first | apply qa | apply qb | apply qc | apply qd | apply qe | apply qf | apply qg | apply qh | apply qi | apply qj | apply qk) <;> intro hp <;> simp only [hp, go_sem])
  refine loop_go (fun i : Nat => [(5, .int .i64 ((i + 1 : Nat) : Int))]) (fun i => [(0, ⟨.arr, 2, (scan ((nums i).filter (markB l))).map Range.enc⟩)]) (fun i => 9999 - i) (fun i => i ≤ 9999) 0 (Nat.zero_le _) rfl rfl ?_
  intro i hi ih
  rcases Nat.lt_or_ge i 9999 with h | h
  · have g1 : ((i + 1 : Nat) : Int) ≤ 9999 := by omega
    have g2 : (0 : Int) ≤ ((i + 1 : Nat) : Int) := by omega
    have g3 : ((i + 1 : Nat) : Int) < ((10001 : Nat) : Int) := by omega
    have g4 : l[i + 1]? = some (markB l ((i + 1 : Nat) : Int)) := by
      rw [markB, Int.toNat_natCast, List.getD_eq_getElem?_getD, List.getElem?_eq_getElem (by omega)]; rfl
    have g5 : IntKind.i64.wrap (((i + 1 : Nat) : Int) + 1) = ((i + 1 + 1 : Nat) : Int) := wrap_succ (n := 10002) (by omega) (by omega)
    have g6 : IntKind.i64.wrap (((i + 1 : Nat) : Int) - 1) = (i : Int) := (wrap64 (by omega) (by omega)).trans (by omega)
    have g7 : (0 : Int) ≤ (i : Int) := by omega
    have g8 : (i : Int) < ((10001 : Nat) : Int) := by omega
    have g9 : l[i]? = some (markB l (i : Int)) := by
      rw [markB, Int.toNat_natCast, List.getD_eq_getElem?_getD, List.getElem?_eq_getElem (by omega)]; rfl
    have ih' := ih (i + 1) h (by omega)
    rw [filter_nums_succ] at ih'
    clear ih
    have hsl : (scan ((nums i).filter (markB l))).length ≤ i := by
      refine Nat.le_trans (scan_len _) (Nat.le_trans (List.length_filter_le _ _) ?_)
      simp [nums]
    cases hm : markB l ((i + 1 : Nat) : Int) with
    | false =>
      rw [hm] at ih' g4
      rw [if_neg (by simp), List.append_nil] at ih'
      simp only [hl, g1, g2, g3, g4, g5, go_sem]
      repeat' ((first | apply qa | apply qb | apply qc | apply qd | apply qe | apply qf | apply qg | apply qh | apply qi | apply qj | apply qk) <;> intro hp <;> simp only [hp, hl, g1, g2, g3, g4, g5, go_sem])
      exact ih'
    | true =>
      rw [hm] at ih' g4
      rw [if_pos rfl, scan_snoc] at ih'
      cases hp : markB l (i : Int) with
      | false =>
        rw [hp] at g9
        rw [push_gap (.inr hp)] at ih'
        generalize hO : scan ((nums i).filter (markB l)) = O at *
        have b1 : (O.length + 1) * 16 ≤ 140737488355328 := by omega
        have b2 : O.length ≤ 9223372036854775806 := by omega
        have b3 : IntKind.i64.wrap (((O.length + 1 : Nat) : Int) - 1) = (O.length : Int) := (wrap64 (by omega) (by omega)).trans (by omega)
        have b4 : (0 : Int) ≤ (O.length : Int) := by omega
        have b5 : (O.length : Int) < ((O.length + 1 : Nat) : Int) := by omega
        have b6 : (List.map Range.enc O ++ [V.agg [.int .i64 ((i + 1 : Nat) : Int), .int .i64 0]])[O.length]? = some (V.agg [.int .i64 ((i + 1 : Nat) : Int), .int .i64 0]) := by
          rw [List.getElem?_append_right (by simp)]; simp
        have b7 : (List.map Range.enc O ++ [V.agg [.int .i64 ((i + 1 : Nat) : Int), .int .i64 0]]).set O.length (V.agg [.int .i64 ((i + 1 : Nat) : Int), .int .i64 ((i + 1 : Nat) : Int)]) = List.map Range.enc (O ++ [⟨((i + 1 : Nat) : Int), ((i + 1 : Nat) : Int)⟩]) := by
          rw [List.set_append_right _ _ (by simp)]; simp [Range.enc]
        have b8 : (List.map Range.enc O ++ [V.agg [.int .i64 ((i + 1 : Nat) : Int), .int .i64 0]]).length = O.length + 1 := by simp
        rw [← b7] at ih'
        clear b7
        simp only [hl, g1, g2, g3, g4, g5, g6, g7, g8, g9, b1, b2, b3, b4, b5, b6, b8, List.length_append, go_sem]
        repeat' ((first | apply qa | apply qb | apply qc | apply qd | apply qe | apply qf | apply qg | apply qh | apply qi | apply qj | apply qk) <;> intro hp <;> simp only [hp, hl, g1, g2, g3, g4, g5, g6, g7, g8, g9, b1, b2, b3, b4, b5, b6, b8, List.length_append, go_sem])
        exact ih'
      | true =>
        rw [hp] at g9
        obtain ⟨m, rfl⟩ : ∃ m, i = m + 1 := by
          rcases Nat.eq_zero_or_pos i with e | e
          · subst e
            rw [markB] at hp
            rw [show ((0 : Nat) : Int).toNat = 0 from rfl, h0] at hp
            cases hp
          · exact ⟨i - 1, by omega⟩
        obtain ⟨a, r', ha, hH⟩ := filter_nums_last hp
        rw [ha] at ih' hsl ⊢
        rw [push_snoc, if_pos (by rw [hH]; omega)] at ih'
        have b3 : IntKind.i64.wrap (((a.length + 1 : Nat) : Int) - 1) = (a.length : Int) := (wrap64 (by simp at hsl; omega) (by simp at hsl; omega)).trans (by omega)
        have b4 : (0 : Int) ≤ (a.length : Int) := by omega
        have b5 : (a.length : Int) < ((a.length + 1 : Nat) : Int) := by omega
        have b6 : (List.map Range.enc (a ++ [r']))[a.length]? = some r'.enc := by simp
        have b7 : (List.map Range.enc (a ++ [r'])).set a.length (V.agg [.int .i64 r'.Lo, .int .i64 ((m + 1 + 1 : Nat) : Int)]) = List.map Range.enc (a ++ [⟨r'.Lo, ((m + 1 + 1 : Nat) : Int)⟩]) := by
          simp [Range.enc]
        have b8 : (List.map Range.enc (a ++ [r'])).length = a.length + 1 := by simp
        have b9 : (a ++ [r']).length = a.length + 1 := by simp
        rw [← b7] at ih'
        clear b7
        generalize hX : List.map Range.enc (a ++ [r']) = X at *
        simp only [hl, g1, g2, g3, g4, g5, g6, g7, g8, g9, b3, b4, b5, b6, b8, go_sem]
        repeat' ((first | apply qa | apply qb | apply qc | apply qd | apply qe | apply qf | apply qg | apply qh | apply qi | apply qj | apply qk) <;> intro hp <;> simp only [hp, hl, g1, g2, g3, g4, g5, g6, g7, g8, g9, b3, b4, b5, b6, b8, go_sem])
        exact ih'
  · have hi9 : i = 9999 := by omega
    subst hi9
    have g1 : ¬ (((9999 + 1 : Nat) : Int)) ≤ 9999 := by decide
    have hsl : (scan ((nums 9999).filter (markB l))).length ≤ 9999 := by
      refine Nat.le_trans (scan_len _) (Nat.le_trans (List.length_filter_le _ _) ?_)
      simp [nums]
    have hB : scan ((nums 9999).filter (markB l)) = scanB l := rfl
    rw [hB] at hsl ⊢
    have hsl' : (scanB l).length ≤ 4194304 := by omega
    cases hk : setOk (scanB l) with
    | false =>
      simp only [g1, hsl', hk, go_sem]
      repeat' ((first | apply qa | apply qb | apply qc | apply qd | apply qe | apply qf | apply qg | apply qh | apply qi | apply qj | apply qk) <;> intro hp <;> simp only [hp, g1, hsl', hk, go_sem])
      simp only [fin_mk, finV, resL, resV1, resIn, endA, listIn, Option.some_or, Option.none_or, oneOrTup, go_sem]
      rw [← hr]
      rw [hk]; rfl
    | true =>
      simp only [g1, hsl', hk, go_sem]
      repeat' ((first | apply qa | apply qb | apply qc | apply qd | apply qe | apply qf | apply qg | apply qh | apply qi | apply qj | apply qk) <;> intro hp <;> simp only [hp, g1, hsl', hk, go_sem])
      simp only [fin_mk, finV, resL, resV1, resIn, endA, listIn, Option.some_or, Option.none_or, oneOrTup, go_sem]
      rw [← hr]
      rw [hk]; rfl
def addR (s : List Range) (lo hi : Int) : List Range := scan ((nums 9999).filter fun n => hasR s n || (decide (lo ≤ n) && decide (n ≤ hi)))
def setAddIn (s : List Range) (lo hi : Int) : Bool := setOk s && (within lo 1 hi && decide (hi ≤ 9999))
def setAddOk (s : List Range) (lo hi : Int) : Bool := setAddIn s lo hi && setOk (addR s lo hi)
def setAdd (s : List Range) (lo hi : Int) : List Range := if setAddOk s lo hi = true then addR s lo hi else s
theorem setOk_lo {s : List Range} (h : setOk s = true) : memN s 0 = false := by
  simp only [setOk, Bool.and_eq_true] at h
  unfold memN hasR
  rw [List.any_eq_false]
  intro r hr
  obtain ⟨i, hi, rfl⟩ := List.mem_iff_getElem.1 hr
  have := rangeAt_hi hi (allN_get h.1 hi)
  simp; omega
theorem filter_nums {k : Nat} {p q : Int → Bool} (h : ∀ n : Int, 1 ≤ n → n ≤ k → p n = q n) : (nums k).filter p = (nums k).filter q :=
  List.filter_congr fun n hn => h n (nums_mem.1 hn).1 (nums_mem.1 hn).2
theorem scanB_bits (p : Nat → Bool) : scanB (bitsOf p) = scan ((nums 9999).filter fun n => p n.toNat) := by
  have : (nums 9999).filter (markB (bitsOf p)) = (nums 9999).filter fun n => p n.toNat := filter_nums fun n h1 h2 => by
    rw [markB, List.getD_eq_getElem?_getD, bitsOf_get p (by omega)]; rfl
  rw [scanB, this]
open Classical in
noncomputable def spPut : VM.Spec := { modes := [.rd, .rd, .rd, .rd], run := fun | [.lst 2 s', .int .i64 lo, .int .i64 hi, .bool to] => (decL Range.dec s').bind fun s => if to = true ∧ s.length ≤ 4194304 then some (.tup [.lst 2 ((setAdd s lo hi).map Range.enc), .bool (setAddOk s lo hi)], []) else none | _ => none, need := [] }
attribute [go_sem] spPut
theorem spPut_in {ins : List V} {r : V} {outs : List V} (h : spPut.run ins = some (r, outs)) : ∃ (s : (List Range)) (lo : Int) (hi : Int) (to : Bool), ins = [.lst 2 ((s).map Range.enc), .int .i64 lo, .int .i64 hi, .bool to] ∧ (to = true ∧ s.length ≤ 4194304) ∧ .tup [.lst 2 ((setAdd s lo hi).map Range.enc), .bool (setAddOk s lo hi)] = r ∧ outs = [] := by
  unfold spPut at h
  simp only at h
  split at h
  · rename_i s' lo hi to
    simp only [Option.bind_eq_some_iff] at h
    obtain ⟨s, h_s, h⟩ := h
    split at h
    case isFalse => cases h
    rename_i hc
    simp only [Option.some.injEq, Prod.mk.injEq] at h
    obtain ⟨h1, h2⟩ := h
    have h_s := decL_some (fun _ _ h => Range.dec_some h) h_s
    subst h_s
    exact ⟨s, lo, hi, to, rfl, hc, h1, h2.symm⟩
  · cases h
open Classical in
noncomputable def spSetAdd : VM.Spec := { modes := [.rd, .rd, .rd], run := fun | [.lst 2 s', .int .i64 lo, .int .i64 hi] => (decL Range.dec s').bind fun s => if s.length ≤ 4194304 then some (.tup [.lst 2 ((setAdd s lo hi).map Range.enc), .bool (setAddOk s lo hi)], []) else none | _ => none, need := [] }
attribute [go_sem] spSetAdd
theorem spSetAdd_in {ins : List V} {r : V} {outs : List V} (h : spSetAdd.run ins = some (r, outs)) : ∃ (s : (List Range)) (lo : Int) (hi : Int), ins = [.lst 2 ((s).map Range.enc), .int .i64 lo, .int .i64 hi] ∧ (s.length ≤ 4194304) ∧ .tup [.lst 2 ((setAdd s lo hi).map Range.enc), .bool (setAddOk s lo hi)] = r ∧ outs = [] := by
  unfold spSetAdd at h
  simp only at h
  split at h
  · rename_i s' lo hi
    simp only [Option.bind_eq_some_iff] at h
    obtain ⟨s, h_s, h⟩ := h
    split at h
    case isFalse => cases h
    rename_i hc
    simp only [Option.some.injEq, Prod.mk.injEq] at h
    obtain ⟨h1, h2⟩ := h
    have h_s := decL_some (fun _ _ h => Range.dec_some h) h_s
    subst h_s
    exact ⟨s, lo, hi, rfl, hc, h1, h2.symm⟩
  · cases h
theorem setAdd_one {S : List Int} {u : Int} (hu : 1 ≤ u ∧ u ≤ 9999) (hl : S.length < 40) : setAddOk (setOf S) u u = true ∧ setAdd (setOf S) u u = setOf (S ++ [u]) := by
  have h1 : setOk (setOf S) = true := setOf_ok (by omega)
  have h2 : addR (setOf S) u u = setOf (S ++ [u]) := by
    have e2 : ((nums 9999).filter fun n => hasR (setOf S) n || (decide (u ≤ n) && decide (n ≤ u))) = (nums 9999).filter fun n => decide (n ∈ S ++ [u]) := filter_nums fun n h1 h2 => by
      have e3 : (decide (u ≤ n) && decide (n ≤ u)) = decide (n = u) := by rw [Bool.eq_iff_iff]; simp; omega
      rw [setOf_has S n ⟨h1, h2⟩, e3, Bool.eq_iff_iff]
      simp
    rw [addR, e2]
    rfl
  have h3 : setAddOk (setOf S) u u = true := by
    rw [setAddOk, h2, setOf_ok (by simp; omega), setAddIn, h1]
    simp only [within, Bool.and_true, Bool.true_and, Bool.and_eq_true, decide_eq_true_eq]; omega
  exact ⟨h3, by rw [setAdd, if_pos h3, h2]⟩
theorem setOf_nil : setOf [] = [] := by
  have : ∀ k, (nums k).filter (fun n => decide (n ∈ ([] : List Int))) = [] := fun k => by
    rw [List.filter_eq_nil_iff]; simp
  rw [setOf, this 9999]; rfl
end Go.Proofs.YtnbkmmjnpbfhnaaDoor.L

namespace Go.Proofs.YtnbkmmjnpbfhnaaDoor.L
open Go Go.VM
set_option maxRecDepth 100000
set_option maxHeartbeats 4000000
set_option linter.unusedSimpArgs false
set_option linter.unusedVariables false
def andN (a b : Int) : Int := ((a.toNat &&& b.toNat : Nat) : Int)
theorem and_step : ∀ a b : Fin 32, ∀ j : Fin 5,
    (((IntKind.i64.wrap ((a.val : Int).tdiv ((2 ^ j.val : Nat) : Int))).tmod 2 == 1) = a.val.testBit j.val) ∧
    ((a.val &&& b.val) % 2 ^ (j.val + 1) = (a.val &&& b.val) % 2 ^ j.val + (if (a.val.testBit j.val && b.val.testBit j.val) = true then 2 ^ j.val else 0)) := by decide +kernel
open Classical in
noncomputable def spAnd : VM.Spec := { modes := [.rd, .rd], run := fun | [.int .i64 a, .int .i64 b] => if flagsOk a = true ∧ flagsOk b = true then some (.int .i64 (andN a b), []) else none | _ => none, need := [] }
attribute [go_sem] spAnd
theorem spAnd_in {ins : List V} {r : V} {outs : List V} (h : spAnd.run ins = some (r, outs)) : ∃ (a : Int) (b : Int), ins = [.int .i64 a, .int .i64 b] ∧ (flagsOk a = true ∧ flagsOk b = true) ∧ .int .i64 (andN a b) = r ∧ outs = [] := by
  unfold spAnd at h
  simp only at h
  split at h
  · rename_i a b
    split at h
    case isFalse => cases h
    rename_i hc
    simp only [Option.some.injEq, Prod.mk.injEq] at h
    obtain ⟨h1, h2⟩ := h
    exact ⟨a, b, rfl, hc, h1, h2.symm⟩
  · cases h
open Classical in
noncomputable def spSetHas : VM.Spec := { modes := [.rd, .rd], run := fun | [.lst 2 s', .int .i64 n] => (decL Range.dec s').bind fun s => if s.length ≤ 8388608 then some (.bool (hasR s n), []) else none | _ => none, need := [] }
attribute [go_sem] spSetHas
theorem spSetHas_in {ins : List V} {r : V} {outs : List V} (h : spSetHas.run ins = some (r, outs)) : ∃ (s : (List Range)) (n : Int), ins = [.lst 2 ((s).map Range.enc), .int .i64 n] ∧ (s.length ≤ 8388608) ∧ .bool (hasR s n) = r ∧ outs = [] := by
  unfold spSetHas at h
  simp only at h
  split at h
  · rename_i s' n
    simp only [Option.bind_eq_some_iff] at h
    obtain ⟨s, h_s, h⟩ := h
    split at h
    case isFalse => cases h
    rename_i hc
    simp only [Option.some.injEq, Prod.mk.injEq] at h
    obtain ⟨h1, h2⟩ := h
    have h_s := decL_some (fun _ _ h => Range.dec_some h) h_s
    subst h_s
    exact ⟨s, n, rfl, hc, h1, h2.symm⟩
  · cases h
def T_impl_SetHas : Hints := ⟨lk [], lk [(2, [1, 7, 8, 9])], lk [(0, [0, 1]), (1, [1, 7, 8, 9]), (2, [1, 7, 8, 9, 10]), (3, [1, 6, 7, 8, 9]), (4, [1, 7, 8, 9, 18]), (5, [4]), (6, [1, 7, 8, 9]), (7, [4])], lk []⟩
noncomputable def Phi_impl_SetHas : Tab := lk [(19, spWithin)]
attribute [go_sem] T_impl_SetHas Phi_impl_SetHas
theorem phi_impl_SetHas : ∀ f sp, Phi_impl_SetHas f = some sp → FnOk Tryd.prog f sp ∧ ∀ n ∈ sp.need, n ∈ ([] : List String) := phi_cons ok_impl_within (n0 rfl) (phi_nil)
theorem ok_impl_SetHas : FnOk Tryd.prog 41 spSetHas := by
  refine fn_ok (Φ := Phi_impl_SetHas) (T := T_impl_SetHas) phi_impl_SetHas mixed Tryd.func41 rfl rfl rfl (by decide) ?_
  intro ins r outs hr hl
  clear hl
  have hs := spSetHas_in hr
  clear hr
  obtain ⟨s, n, rfl, hc, hr, rfl⟩ := hs
  simp only [spSetHas, Tryd.f41, Go.VM.initS]
  simp only [go_sem]
  repeat' ((first | apply qa | apply qb | apply qc | apply qd | apply qe | apply qf | apply qg | apply qh | apply qi | apply qj | apply qk) <;> intro hp <;> simp only [hp, go_sem])
  refine loop_go (fun i : Nat => [(9, .int .i64 (i : Int))]) (fun _ => []) (fun i => s.length - i) (fun i => i ≤ s.length ∧ (s.take i).any (fun r => decide (r.Lo ≤ n) && decide (n ≤ r.Hi)) = false) 0 ⟨Nat.zero_le _, by simp⟩ rfl rfl ?_
  intro i ⟨hi, ha⟩ ih
  rcases Nat.lt_or_ge i s.length with h | h
  · have g1 : (i : Int) < s.length := by omega
    have g2 : (0 : Int) ≤ i := by omega
    have g3 : s[i]? = some s[i] := List.getElem?_eq_getElem h
    have g5 := wrap_succ h (by omega)
    cases hb : within n s[i].Lo s[i].Hi with
    | true =>
      simp only [g1, g2, g3, g5, hb, go_sem]
      repeat' ((first | apply qa | apply qb | apply qc | apply qd | apply qe | apply qf | apply qg | apply qh | apply qi | apply qj | apply qk) <;> intro hp <;> simp only [hp, g1, g2, g3, g5, hb, go_sem])
      simp only [fin_mk, finV, resL, resV1, resIn, endA, listIn, Option.some_or, Option.none_or, oneOrTup, go_sem]
      rw [← hr]
      rw [hasR, any_bad h hb]
    | false =>
      have ih' := ih (i + 1) ⟨h, any_take_succ h ha hb⟩ (by omega)
      simp only [g1, g2, g3, g5, hb, go_sem]
      repeat' ((first | apply qa | apply qb | apply qc | apply qd | apply qe | apply qf | apply qg | apply qh | apply qi | apply qj | apply qk) <;> intro hp <;> simp only [hp, g1, g2, g3, g5, hb, go_sem])
      exact ih'
  · have g1 : ¬ (i : Int) < s.length := by omega
    simp only [g1, go_sem]
    repeat' ((first | apply qa | apply qb | apply qc | apply qd | apply qe | apply qf | apply qg | apply qh | apply qi | apply qj | apply qk) <;> intro hp <;> simp only [hp, g1, go_sem])
    simp only [fin_mk, finV, resL, resV1, resIn, endA, listIn, Option.some_or, Option.none_or, oneOrTup, go_sem]
    rw [← hr]
    rw [hasR, any_take_end h ha]
end Go.Proofs.YtnbkmmjnpbfhnaaDoor.L

namespace Go.Proofs.YtnbkmmjnpbfhnaaDoor.L
open Go Go.VM
set_option maxRecDepth 100000
set_option maxHeartbeats 4000000
set_option linter.unusedSimpArgs false
set_option linter.unusedVariables false
open Classical in
noncomputable def spHasRead : VM.Spec := { modes := [.rd, .rd], run := fun | [.int .i64 n, .rptr (.lst 2 l')] => (decL Range.dec l').bind fun l => if l.length ≤ 8388608 then some (.bool (hasR l n), []) else none | _ => none, need := [] }
attribute [go_sem] spHasRead
theorem spHasRead_in {ins : List V} {r : V} {outs : List V} (h : spHasRead.run ins = some (r, outs)) : ∃ (n : Int) (l : (List Range)), ins = [.int .i64 n, .rptr (.lst 2 ((l).map Range.enc))] ∧ (l.length ≤ 8388608) ∧ .bool (hasR l n) = r ∧ outs = [] := by
  unfold spHasRead at h
  simp only at h
  split at h
  · rename_i n l'
    simp only [Option.bind_eq_some_iff] at h
    obtain ⟨l, h_l, h⟩ := h
    split at h
    case isFalse => cases h
    rename_i hc
    simp only [Option.some.injEq, Prod.mk.injEq] at h
    obtain ⟨h1, h2⟩ := h
    have h_l := decL_some (fun _ _ h => Range.dec_some h) h_l
    subst h_l
    exact ⟨n, l, rfl, hc, h1, h2.symm⟩
  · cases h
def T_impl_ReadSet_1 : Hints := ⟨lk [], lk [], lk [(0, [0, 1]), (1, [3])], lk []⟩
noncomputable def Phi_impl_ReadSet_1 : Tab := lk [(41, spSetHas)]
attribute [go_sem] T_impl_ReadSet_1 Phi_impl_ReadSet_1
theorem phi_impl_ReadSet_1 : ∀ f sp, Phi_impl_ReadSet_1 f = some sp → FnOk Tryd.prog f sp ∧ ∀ n ∈ sp.need, n ∈ ([] : List String) := phi_cons ok_impl_SetHas (n0 rfl) (phi_nil)
theorem ok_impl_ReadSet_1 : FnOk Tryd.prog 40 spHasRead := by
  refine fn_ok (Φ := Phi_impl_ReadSet_1) (T := T_impl_ReadSet_1) phi_impl_ReadSet_1 mixed Tryd.func40 rfl rfl rfl (by decide) ?_
  intro ins r outs hr hl
  clear hl
  have hs := spHasRead_in hr
  clear hr
  obtain ⟨n, l, rfl, hc, hr, rfl⟩ := hs
  simp only [spHasRead, Tryd.f40, Go.VM.initS]
  simp only [hc, go_sem]
  repeat' ((first | apply qa | apply qb | apply qc | apply qd | apply qe | apply qf | apply qg | apply qh | apply qi | apply qj | apply qk) <;> intro hp <;> simp only [hp, hc, go_sem])
  simp only [fin_mk, finV, resL, resV1, resIn, endA, listIn, Option.some_or, Option.none_or, oneOrTup, go_sem]
  rw [← hr]
def setR (l : List Range) : List Range := scan ((nums 9999).filter fun n => hasR l n)
open Classical in
noncomputable def spSetOfRead : VM.Spec := { modes := [.rd], run := fun | [.fn 40 [.rptr (.lst 2 l')]] => (decL Range.dec l').bind fun l => if l.length ≤ 8388608 then some (.tup [.lst 2 ((setR l).map Range.enc), .bool (decide ((setR l).length ≤ 40))], []) else none | _ => none, need := [] }
attribute [go_sem] spSetOfRead
theorem spSetOfRead_in {ins : List V} {r : V} {outs : List V} (h : spSetOfRead.run ins = some (r, outs)) : ∃ (l : (List Range)), ins = [.fn 40 [.rptr (.lst 2 ((l).map Range.enc))]] ∧ (l.length ≤ 8388608) ∧ .tup [.lst 2 ((setR l).map Range.enc), .bool (decide ((setR l).length ≤ 40))] = r ∧ outs = [] := by
  unfold spSetOfRead at h
  simp only at h
  split at h
  · rename_i l'
    simp only [Option.bind_eq_some_iff] at h
    obtain ⟨l, h_l, h⟩ := h
    split at h
    case isFalse => cases h
    rename_i hc
    simp only [Option.some.injEq, Prod.mk.injEq] at h
    obtain ⟨h1, h2⟩ := h
    have h_l := decL_some (fun _ _ h => Range.dec_some h) h_l
    subst h_l
    exact ⟨l, rfl, hc, h1, h2.symm⟩
  · cases h
def T_impl_setOf : Hints := ⟨lk [], lk [(3, [0, 4, 5])], lk [(0, [0]), (1, [0, 4]), (2, [0, 4, 5]), (3, [0, 4, 5, 9]), (5, [0, 4, 5, 15]), (6, [0, 4, 5, 6]), (7, [0, 4, 5, 6, 30]), (8, [0, 4, 5]), (9, [0, 4, 5]), (4, [0, 4, 5]), (10, [2, 3])], lk []⟩
noncomputable def Phi_impl_setOf : Tab := lk [(40, spHasRead)]
attribute [go_sem] T_impl_setOf Phi_impl_setOf
theorem phi_impl_setOf : ∀ f sp, Phi_impl_setOf f = some sp → FnOk Tryd.prog f sp ∧ ∀ n ∈ sp.need, n ∈ ([] : List String) := phi_cons ok_impl_ReadSet_1 (n0 rfl) (phi_nil)
theorem ok_impl_setOf : FnOk Tryd.prog 39 spSetOfRead := by
  refine fn_ok (Φ := Phi_impl_setOf) (T := T_impl_setOf) phi_impl_setOf mixed Tryd.func39 rfl rfl rfl (by decide) ?_
  intro ins r outs hr hl
  clear hl
  have hs := spSetOfRead_in hr
  clear hr
  obtain ⟨l, rfl, hc, hr, rfl⟩ := hs
  simp only [spSetOfRead, Tryd.f39, Go.VM.initS]
  simp only [go_sem]
  repeat' ((first | apply qa | apply qb | apply qc | apply qd | apply qe | apply qf | apply qg | apply qh | apply qi | apply qj | apply qk) <;> intro hp <;> simp only [hp, go_sem])
  refine loop_go (fun i : Nat => [(5, .int .i64 ((i + 1 : Nat) : Int))]) (fun i => [(0, ⟨.arr, 2, (scan ((nums i).filter fun n => hasR l n)).map Range.enc⟩)]) (fun i => 9999 - i) (fun i => i ≤ 9999) 0 (Nat.zero_le _) rfl rfl ?_
  intro i hi ih
  have hsl : (scan ((nums i).filter fun n => hasR l n)).length ≤ i := by
    refine Nat.le_trans (scan_len _) (Nat.le_trans (List.length_filter_le _ _) ?_)
    simp [nums]
  rcases Nat.lt_or_ge i 9999 with h | h
  · have g1 : ((i + 1 : Nat) : Int) ≤ 9999 := by omega
    have g5 : IntKind.i64.wrap (((i + 1 : Nat) : Int) + 1) = ((i + 1 + 1 : Nat) : Int) := wrap_succ (n := 10002) (by omega) (by omega)
    have g6 : IntKind.i64.wrap (((i + 1 : Nat) : Int) - 1) = (i : Int) := (wrap64 (by omega) (by omega)).trans (by omega)
    have ih' := ih (i + 1) h (by omega)
    rw [filter_nums_succ] at ih'
    clear ih
    cases hm : hasR l ((i + 1 : Nat) : Int) with
    | false =>
      rw [hm, if_neg (by simp), List.append_nil] at ih'
      simp only [hc, g1, g5, hm, go_sem]
      repeat' ((first | apply qa | apply qb | apply qc | apply qd | apply qe | apply qf | apply qg | apply qh | apply qi | apply qj | apply qk) <;> intro hp <;> simp only [hp, hc, g1, g5, hm, go_sem])
      exact ih'
    | true =>
      rw [hm, if_pos rfl, scan_snoc] at ih'
      generalize hO : scan ((nums i).filter fun n => hasR l n) = O at *
      rcases snoc_cases O with rfl | ⟨a, r', rfl⟩
      · rw [push_nil] at ih'
        have b3 : IntKind.i64.wrap (((0 : Nat) : Int) - 1) = -1 := rfl
        simp only [hc, g1, g5, hm, b3, go_sem]
        repeat' ((first | apply qa | apply qb | apply qc | apply qd | apply qe | apply qf | apply qg | apply qh | apply qi | apply qj | apply qk) <;> intro hp <;> simp only [hp, hc, g1, g5, hm, b3, go_sem])
        exact ih'
      · have hla : a.length + 1 ≤ i := by simpa using hsl
        have b3 : IntKind.i64.wrap (((a.length + 1 : Nat) : Int) - 1) = (a.length : Int) := (wrap64 (by omega) (by omega)).trans (by omega)
        have b4 : (0 : Int) ≤ (a.length : Int) := by omega
        have b5 : (a.length : Int) < ((a.length + 1 : Nat) : Int) := by omega
        have b6 : (List.map Range.enc (a ++ [r']))[a.length]? = some r'.enc := by simp
        have b7 : (List.map Range.enc (a ++ [r'])).set a.length (V.agg [.int .i64 r'.Lo, .int .i64 ((i + 1 : Nat) : Int)]) = List.map Range.enc (a ++ [⟨r'.Lo, ((i + 1 : Nat) : Int)⟩]) := by
          simp [Range.enc]
        have b8 : (List.map Range.enc (a ++ [r'])).length = a.length + 1 := by simp
        have b9 : (a ++ [r']).length = a.length + 1 := by simp
        have b10 : (a.length + 1 + 1) * 16 ≤ 140737488355328 := by omega
        have b11 : a.length + 1 ≤ 9223372036854775806 := by omega
        have b12 : a.length ≤ 9223372036854775805 := by omega
        rw [push_snoc] at ih'
        cases hH : (r'.Hi == (i : Int)) with
        | true =>
          have hH' : r'.Hi = ((i + 1 : Nat) : Int) - 1 := by simp only [beq_iff_eq] at hH; omega
          rw [if_pos hH', ← b7] at ih'
          clear b7
          generalize hX : List.map Range.enc (a ++ [r']) = X at *
          simp only [hc, g1, g5, g6, hm, b3, b4, b5, b6, b8, b9, hH, go_sem]
          repeat' ((first | apply qa | apply qb | apply qc | apply qd | apply qe | apply qf | apply qg | apply qh | apply qi | apply qj | apply qk) <;> intro hp <;> simp only [hp, hc, g1, g5, g6, hm, b3, b4, b5, b6, b8, b9, hH, go_sem])
          exact ih'
        | false =>
          have hH' : ¬ r'.Hi = ((i + 1 : Nat) : Int) - 1 := by rw [beq_eq_false_iff_ne] at hH; omega
          rw [if_neg hH', List.map_append, List.map_cons, List.map_nil] at ih'
          clear b7
          generalize hX : List.map Range.enc (a ++ [r']) = X at *
          simp only [hc, g1, g5, g6, hm, b3, b4, b5, b6, b8, b9, b10, b11, b12, hH, go_sem]
          repeat' ((first | apply qa | apply qb | apply qc | apply qd | apply qe | apply qf | apply qg | apply qh | apply qi | apply qj | apply qk) <;> intro hp <;> simp only [hp, hc, g1, g5, g6, hm, b3, b4, b5, b6, b8, b9, b10, b11, b12, hH, go_sem])
          all_goals first | exact ih' | (clear ih'; omega)
  · have hi9 : i = 9999 := by omega
    subst hi9
    have g1 : ¬ (((9999 + 1 : Nat) : Int)) ≤ 9999 := by decide
    have hB : scan ((nums 9999).filter fun n => hasR l n) = setR l := rfl
    rw [hB]
    have e : decide (((setR l).length : Int) ≤ 40) = decide ((setR l).length ≤ 40) := by rw [Bool.eq_iff_iff]; simp; omega
    simp only [g1, e, go_sem]
    repeat' ((first | apply qa | apply qb | apply qc | apply qd | apply qe | apply qf | apply qg | apply qh | apply qi | apply qj | apply qk) <;> intro hp <;> simp only [hp, g1, e, go_sem])
    all_goals (simp only [fin_mk, finV, resL, resV1, resIn, endA, listIn, Option.some_or, Option.none_or, oneOrTup, go_sem]; rw [← hr])
/-! ### numbers in texts -/
def digB (b : UInt8) : Bool := within (b.toNat : Int) 48 57
def stepM (n : Int) (b : UInt8) : Int := (10 * n + ((b.toNat : Int) - 48)).tmod 1000000000
def stepV (n : Int) (b : UInt8) : Int := 10 * n + ((b.toNat : Int) - 48)
def numM (s : List UInt8) : Int := s.foldl stepM 0
def numV (s : List UInt8) : Int := s.foldl stepV 0
theorem numM_snoc (s : List UInt8) (b : UInt8) : numM (s ++ [b]) = stepM (numM s) b := by simp [numM]
theorem numV_snoc (s : List UInt8) (b : UInt8) : numV (s ++ [b]) = stepV (numV s) b := by simp [numV]
theorem digB_iff {b : UInt8} (h : digB b = true) : 48 ≤ (b.toNat : Int) ∧ (b.toNat : Int) ≤ 57 := by simpa only [digB, within, Bool.and_eq_true, decide_eq_true_eq] using h
theorem numM_bound (s : List UInt8) : s.all digB = true → 0 ≤ numM s ∧ numM s < 1000000000 := by
  refine snoc_ind (P := fun s => s.all digB = true → 0 ≤ numM s ∧ numM s < 1000000000) (by simp [numM]) ?_ s
  intro l x ih h
  rw [List.all_append, Bool.and_eq_true] at h
  have h1 := ih h.1
  have h2 := digB_iff (b := x) (by simpa using h.2)
  rw [numM_snoc, stepM, Int.tmod_eq_emod_of_nonneg (by omega)]
  omega
theorem numV_bound (s : List UInt8) : s.all digB = true → 0 ≤ numV s ∧ numV s < 10 ^ s.length := by
  refine snoc_ind (P := fun s => s.all digB = true → 0 ≤ numV s ∧ numV s < 10 ^ s.length) (by simp [numV]) ?_ s
  intro l x ih h
  rw [List.all_append, Bool.and_eq_true] at h
  have h1 := ih h.1
  have h2 := digB_iff (b := x) (by simpa using h.2)
  rw [numV_snoc, stepV, List.length_append, List.length_singleton, Int.pow_succ]
  omega
theorem pow_le9 {n : Nat} (h : n ≤ 9) : (10 : Int) ^ n ≤ 1000000000 := by
  have : ∀ n : Fin 10, (10 : Int) ^ n.val ≤ 1000000000 := by decide
  exact this ⟨n, by omega⟩
theorem pow_le4 {n : Nat} (h : n ≤ 4) : (10 : Int) ^ n ≤ 10000 := by
  have : ∀ n : Fin 5, (10 : Int) ^ n.val ≤ 10000 := by decide
  exact this ⟨n, by omega⟩
theorem numM_eq (s : List UInt8) : s.all digB = true → s.length ≤ 9 → numM s = numV s := by
  refine snoc_ind (P := fun s => s.all digB = true → s.length ≤ 9 → numM s = numV s) (fun _ _ => rfl) ?_ s
  intro l x ih h hl
  have hb := numV_bound _ h
  rw [List.all_append, Bool.and_eq_true] at h
  rw [List.length_append, List.length_singleton] at hl
  rw [numM_snoc, ih h.1 (by omega), numV_snoc, stepM]
  rw [numV_snoc, stepV, List.length_append, List.length_singleton] at hb
  have := pow_le9 hl
  rw [Int.tmod_eq_emod_of_nonneg hb.1, Int.emod_eq_of_lt hb.1 (by omega)]
  rfl
def numOk (s : List UInt8) : Bool := within s.length 1 4 && s.all digB && decide (1 ≤ numV s)
def uidN (s : List UInt8) (last : Int) : Int := if s = [42] then last else if s.all digB = true then numM s else 0
def uidB (s : List UInt8) : Bool := if s = [42] then true else s.all digB && (within s.length 1 4 && decide (0 < numM s))
def numN (s : List UInt8) (last : Int) : Int := if s = [42] then last else if (within s.length 1 4 && s.all digB) = true then numV s else 0
def numB (s : List UInt8) : Bool := if s = [42] then true else within s.length 1 4 && s.all digB && decide (1 ≤ numV s)
theorem within_len {s : List UInt8} (h : within s.length 1 4 = true) : 1 ≤ s.length ∧ s.length ≤ 4 := by
  simp only [within, Bool.and_eq_true, decide_eq_true_eq] at h; omega
theorem uidB_eq (s : List UInt8) : uidB s = numB s := by
  unfold uidB numB
  split
  · rfl
  · cases hd : s.all digB with
    | false => simp
    | true =>
      cases hw : within s.length 1 4 with
      | false => simp
      | true =>
        rw [numM_eq s hd (by have := within_len hw; omega), Bool.eq_iff_iff]
        simp; omega
theorem uidN_eq {s : List UInt8} {last : Int} (h : numB s = true) : uidN s last = numN s last := by
  unfold uidN numN
  unfold numB at h
  split
  · rfl
  · rename_i h0
    rw [if_neg h0, Bool.and_eq_true, Bool.and_eq_true] at h
    rw [if_pos h.1.2, if_pos (by rw [h.1.1, h.1.2]; rfl), numM_eq s h.1.2 (by have := within_len h.1.1; omega)]
theorem numN_in {s : List UInt8} {last : Int} (hl : 1 ≤ last ∧ last ≤ 9999) (h : numB s = true) : 1 ≤ numN s last ∧ numN s last ≤ 9999 := by
  unfold numN
  unfold numB at h
  split
  · exact hl
  · rename_i h0
    rw [if_neg h0, Bool.and_eq_true, Bool.and_eq_true, decide_eq_true_eq] at h
    rw [if_pos (by rw [h.1.1, h.1.2]; rfl)]
    have h1 := (numV_bound s h.1.2).2
    have h2 := pow_le4 (within_len h.1.1).2
    omega
open Classical in
noncomputable def spReadUid : VM.Spec := { modes := [.rd, .rd], run := fun | [.str s, .int .i64 last] => if s.length ≤ 4194304 then some (.tup [.int .i64 (uidN s last), .bool (uidB s)], []) else none | _ => none, need := [] }
attribute [go_sem] spReadUid
theorem spReadUid_in {ins : List V} {r : V} {outs : List V} (h : spReadUid.run ins = some (r, outs)) : ∃ (s : (List UInt8)) (last : Int), ins = [.str s, .int .i64 last] ∧ (s.length ≤ 4194304) ∧ .tup [.int .i64 (uidN s last), .bool (uidB s)] = r ∧ outs = [] := by
  unfold spReadUid at h
  simp only at h
  split at h
  · rename_i s last
    split at h
    case isFalse => cases h
    rename_i hc
    simp only [Option.some.injEq, Prod.mk.injEq] at h
    obtain ⟨h1, h2⟩ := h
    exact ⟨s, last, rfl, hc, h1, h2.symm⟩
  · cases h
def T_impl_readUid : Hints := ⟨lk [], lk [(5, [0, 6, 12, 13])], lk [(0, [0, 1]), (1, [0, 1, 9]), (2, [4, 5]), (3, [0, 6]), (4, [0, 6, 12, 13]), (5, [0, 6, 12, 13, 14]), (6, [0, 6, 7, 12, 13]), (7, [0, 6, 7, 12, 13, 21]), (8, [4, 5]), (9, [0, 6, 12, 13]), (10, [0, 6, 12, 13]), (11, [4, 5])], lk []⟩
noncomputable def Phi_impl_readUid : Tab := lk [(19, spWithin)]
attribute [go_sem] T_impl_readUid Phi_impl_readUid
theorem phi_impl_readUid : ∀ f sp, Phi_impl_readUid f = some sp → FnOk Tryd.prog f sp ∧ ∀ n ∈ sp.need, n ∈ ([] : List String) := phi_cons ok_impl_within (n0 rfl) (phi_nil)
theorem ok_impl_readUid : FnOk Tryd.prog 38 spReadUid := by
  refine fn_ok (Φ := Phi_impl_readUid) (T := T_impl_readUid) phi_impl_readUid mixed Tryd.func38 rfl rfl rfl (by decide) ?_
  intro ins r outs hr hl
  clear hl
  have hs := spReadUid_in hr
  clear hr
  obtain ⟨s, last, rfl, hc, hr, rfl⟩ := hs
  simp only [spReadUid, Tryd.f38, Go.VM.initS]
  cases hst : (s == [42]) with
  | true =>
    have h0 : s = [42] := by simpa using hst
    subst h0
    simp only [go_sem]
    repeat' ((first | apply qa | apply qb | apply qc | apply qd | apply qe | apply qf | apply qg | apply qh | apply qi | apply qj | apply qk) <;> intro hp <;> simp only [hp, go_sem])
    simp only [fin_mk, finV, resL, resV1, resIn, endA, listIn, Option.some_or, Option.none_or, oneOrTup, go_sem]
    rw [← hr]
    rfl
  | false =>
    have h0 : ¬ s = [42] := by simpa using hst
    have hN : uidN s last = if s.all digB = true then numM s else 0 := by rw [uidN, if_neg h0]
    have hB : uidB s = (s.all digB && (within s.length 1 4 && decide (0 < numM s))) := by rw [uidB, if_neg h0]
    rw [hN, hB] at hr
    clear hN hB
    simp only [hst, go_sem]
    repeat' ((first | apply qa | apply qb | apply qc | apply qd | apply qe | apply qf | apply qg | apply qh | apply qi | apply qj | apply qk) <;> intro hp <;> simp only [hp, hst, go_sem])
    refine loop_go (fun i : Nat => [(6, .int .i64 (numM (s.take i))), (13, .int .i64 (i : Int))]) (fun _ => []) (fun i => s.length - i) (fun i => i ≤ s.length ∧ (s.take i).all digB = true) 0 ⟨Nat.zero_le _, rfl⟩ rfl rfl ?_
    intro i ⟨hi, ha⟩ ih
    rcases Nat.lt_or_ge i s.length with h | h
    · have g1 : (i : Int) < s.length := by omega
      have g2 : (0 : Int) ≤ i := by omega
      have g3 : s[i]? = some s[i] := List.getElem?_eq_getElem h
      have g5 := wrap_succ h (by omega)
      have hm := numM_bound _ ha
      cases hb : digB s[i] with
      | false =>
        have hb' : within (s[i].toNat : Int) 48 57 = false := hb
        have hall : s.all digB = false := List.all_eq_false.2 ⟨s[i], List.getElem_mem h, by simp [hb]⟩
        simp only [g1, g2, g3, byte_wrap, hb', go_sem]
        repeat' ((first | apply qa | apply qb | apply qc | apply qd | apply qe | apply qf | apply qg | apply qh | apply qi | apply qj | apply qk) <;> intro hp <;> simp only [hp, g1, g2, g3, byte_wrap, hb', go_sem])
        simp only [fin_mk, finV, resL, resV1, resIn, endA, listIn, Option.some_or, Option.none_or, oneOrTup, go_sem]
        rw [← hr]
        rw [hall]; rfl
      | true =>
        have hb' : within (s[i].toNat : Int) 48 57 = true := hb
        have hd := digB_iff hb
        have w1 : IntKind.i64.wrap (10 * numM (s.take i)) = 10 * numM (s.take i) := wrap64 (by omega) (by omega)
        have w2 : IntKind.u8.wrap ((s[i].toNat : Int) - 48) = (s[i].toNat : Int) - 48 := by
          simp only [IntKind.wrap, IntKind.signed, IntKind.bits]
          simp; omega
        have w3 : IntKind.i64.wrap ((s[i].toNat : Int) - 48) = (s[i].toNat : Int) - 48 := wrap64 (by omega) (by omega)
        have w4 : IntKind.i64.wrap (10 * numM (s.take i) + ((s[i].toNat : Int) - 48)) = 10 * numM (s.take i) + ((s[i].toNat : Int) - 48) := wrap64 (by omega) (by omega)
        have ih' := ih (i + 1) ⟨h, all_take_succ h ha hb⟩ (by omega)
        rw [take_succ' h, numM_snoc] at ih'
        clear ih
        simp only [g1, g2, g3, g5, byte_wrap, hb', w1, w2, w3, w4, go_sem]
        repeat' ((first | apply qa | apply qb | apply qc | apply qd | apply qe | apply qf | apply qg | apply qh | apply qi | apply qj | apply qk) <;> intro hp <;> simp only [hp, g1, g2, g3, g5, byte_wrap, hb', w1, w2, w3, w4, go_sem])
        exact ih'
    · have g1 : ¬ (i : Int) < s.length := by omega
      have ht : s.take i = s := List.take_of_length_le h
      rw [ht] at ha ⊢
      rw [ha] at hr
      cases hw : within s.length 1 4 with
      | false =>
        rw [hw] at hr
        simp only [g1, hw, go_sem]
        repeat' ((first | apply qa | apply qb | apply qc | apply qd | apply qe | apply qf | apply qg | apply qh | apply qi | apply qj | apply qk) <;> intro hp <;> simp only [hp, g1, hw, go_sem])
        simp only [fin_mk, finV, resL, resV1, resIn, endA, listIn, Option.some_or, Option.none_or, oneOrTup, go_sem]
        rw [← hr]
        rfl
      | true =>
        rw [hw] at hr
        simp only [g1, hw, go_sem]
        repeat' ((first | apply qa | apply qb | apply qc | apply qd | apply qe | apply qf | apply qg | apply qh | apply qi | apply qj | apply qk) <;> intro hp <;> simp only [hp, g1, hw, go_sem])
        simp only [fin_mk, finV, resL, resV1, resIn, endA, listIn, Option.some_or, Option.none_or, oneOrTup, go_sem]
        rw [← hr]
        rfl
open Classical in
noncomputable def spNum : VM.Spec := { modes := [.rd, .rd], run := fun | [.str s, .int .i64 last] => if s.length ≤ 4194304 then some (.tup [.int .i64 (numN s last), .bool (numB s)], []) else none | _ => none, need := [] }
attribute [go_sem] spNum
theorem spNum_in {ins : List V} {r : V} {outs : List V} (h : spNum.run ins = some (r, outs)) : ∃ (s : (List UInt8)) (last : Int), ins = [.str s, .int .i64 last] ∧ (s.length ≤ 4194304) ∧ .tup [.int .i64 (numN s last), .bool (numB s)] = r ∧ outs = [] := by
  unfold spNum at h
  simp only at h
  split at h
  · rename_i s last
    split at h
    case isFalse => cases h
    rename_i hc
    simp only [Option.some.injEq, Prod.mk.injEq] at h
    obtain ⟨h1, h2⟩ := h
    exact ⟨s, last, rfl, hc, h1, h2.symm⟩
  · cases h
def T_spec_l05Num : Hints := ⟨lk [], lk [(7, [0, 6, 7])], lk [(0, [0, 1]), (1, [0, 1, 9]), (2, [4, 5]), (3, [0, 14]), (4, [4, 5]), (5, [0, 6]), (6, [0, 6, 7]), (7, [0, 6, 7, 18]), (9, [0, 6, 7, 30]), (10, [4, 5]), (11, [0, 6, 7]), (8, [0, 6, 7]), (12, [4, 5])], lk []⟩
noncomputable def Phi_spec_l05Num : Tab := lk [(14, spWithin)]
attribute [go_sem] T_spec_l05Num Phi_spec_l05Num
theorem phi_spec_l05Num : ∀ f sp, Phi_spec_l05Num f = some sp → FnOk Tryd.prog f sp ∧ ∀ n ∈ sp.need, n ∈ ([] : List String) := phi_cons ok_spec_l01In (n0 rfl) (phi_nil)
theorem ok_spec_l05Num : FnOk Tryd.prog 30 spNum := by
  refine fn_ok (Φ := Phi_spec_l05Num) (T := T_spec_l05Num) phi_spec_l05Num mixed Tryd.func30 rfl rfl rfl (by decide) ?_
  intro ins r outs hr hl
  clear hl
  have hs := spNum_in hr
  clear hr
  obtain ⟨s, last, rfl, hc, hr, rfl⟩ := hs
  simp only [spNum, Tryd.f30, Go.VM.initS]
  cases hst : (s == [42]) with
  | true =>
    have h0 : s = [42] := by simpa using hst
    subst h0
    simp only [go_sem]
    repeat' ((first | apply qa | apply qb | apply qc | apply qd | apply qe | apply qf | apply qg | apply qh | apply qi | apply qj | apply qk) <;> intro hp <;> simp only [hp, go_sem])
    simp only [fin_mk, finV, resL, resV1, resIn, endA, listIn, Option.some_or, Option.none_or, oneOrTup, go_sem]
    rw [← hr]
    rfl
  | false =>
    have h0 : ¬ s = [42] := by simpa using hst
    have hN : numN s last = if (within s.length 1 4 && s.all digB) = true then numV s else 0 := by rw [numN, if_neg h0]
    have hB : numB s = (within s.length 1 4 && s.all digB && decide (1 ≤ numV s)) := by rw [numB, if_neg h0]
    rw [hN, hB] at hr
    clear hN hB
    cases hw : within s.length 1 4 with
    | false =>
      rw [hw] at hr
      simp only [hst, hw, go_sem]
      repeat' ((first | apply qa | apply qb | apply qc | apply qd | apply qe | apply qf | apply qg | apply qh | apply qi | apply qj | apply qk) <;> intro hp <;> simp only [hp, hst, hw, go_sem])
      simp only [fin_mk, finV, resL, resV1, resIn, endA, listIn, Option.some_or, Option.none_or, oneOrTup, go_sem]
      rw [← hr]
      rfl
    | true =>
      rw [hw] at hr
      have hl4 := within_len hw
      simp only [hst, hw, go_sem]
      repeat' ((first | apply qa | apply qb | apply qc | apply qd | apply qe | apply qf | apply qg | apply qh | apply qi | apply qj | apply qk) <;> intro hp <;> simp only [hp, hst, hw, go_sem])
      refine loop_go (fun i : Nat => [(6, .int .i64 (numV (s.take i))), (7, .int .i64 (i : Int))]) (fun _ => []) (fun i => s.length - i) (fun i => i ≤ s.length ∧ (s.take i).all digB = true) 0 ⟨Nat.zero_le _, rfl⟩ rfl rfl ?_
      intro i ⟨hi, ha⟩ ih
      rcases Nat.lt_or_ge i s.length with h | h
      · have g1 : (i : Int) < s.length := by omega
        have g2 : (0 : Int) ≤ i := by omega
        have g3 : s[i]? = some s[i] := List.getElem?_eq_getElem h
        have g5 := wrap_succ h (by omega)
        have hm := numV_bound _ ha
        have hp := pow_le9 (n := (s.take i).length) (by rw [List.length_take]; omega)
        cases hb : digB s[i] with
        | false =>
          have hall : s.all digB = false := List.all_eq_false.2 ⟨s[i], List.getElem_mem h, by simp [hb]⟩
          rw [hall] at hr
          by_cases c1 : (s[i].toNat : Int) < 48
          · simp only [g1, g2, g3, c1, go_sem]
            repeat' ((first | apply qa | apply qb | apply qc | apply qd | apply qe | apply qf | apply qg | apply qh | apply qi | apply qj | apply qk) <;> intro hp <;> simp only [hp, g1, g2, g3, c1, go_sem])
            simp only [fin_mk, finV, resL, resV1, resIn, endA, listIn, Option.some_or, Option.none_or, oneOrTup, go_sem]
            rw [← hr]
            rfl
          · have c2 : (57 : Int) < s[i].toNat := by
              simp only [digB, within, Bool.and_eq_false_iff, decide_eq_false_iff_not] at hb; omega
            simp only [g1, g2, g3, c1, c2, go_sem]
            repeat' ((first | apply qa | apply qb | apply qc | apply qd | apply qe | apply qf | apply qg | apply qh | apply qi | apply qj | apply qk) <;> intro hp <;> simp only [hp, g1, g2, g3, c1, c2, go_sem])
            simp only [fin_mk, finV, resL, resV1, resIn, endA, listIn, Option.some_or, Option.none_or, oneOrTup, go_sem]
            rw [← hr]
            rfl
        | true =>
          have hd := digB_iff hb
          have c1 : ¬ (s[i].toNat : Int) < 48 := by omega
          have c2 : ¬ (57 : Int) < s[i].toNat := by omega
          have w1 : IntKind.i64.wrap (10 * numV (s.take i)) = 10 * numV (s.take i) := wrap64 (by omega) (by omega)
          have w4 : IntKind.i64.wrap (10 * numV (s.take i) + (s[i].toNat : Int)) = 10 * numV (s.take i) + (s[i].toNat : Int) := wrap64 (by omega) (by omega)
          have w5 : IntKind.i64.wrap (10 * numV (s.take i) + (s[i].toNat : Int) - 48) = stepV (numV (s.take i)) s[i] := (wrap64 (by omega) (by omega)).trans (by unfold stepV; omega)
          have ih' := ih (i + 1) ⟨h, all_take_succ h ha hb⟩ (by omega)
          rw [take_succ' h, numV_snoc] at ih'
          clear ih
          simp only [g1, g2, g3, g5, byte_wrap, c1, c2, w1, w4, w5, go_sem]
          repeat' ((first | apply qa | apply qb | apply qc | apply qd | apply qe | apply qf | apply qg | apply qh | apply qi | apply qj | apply qk) <;> intro hp <;> simp only [hp, g1, g2, g3, g5, byte_wrap, c1, c2, w1, w4, w5, go_sem])
          exact ih'
      · have g1 : ¬ (i : Int) < s.length := by omega
        have ht : s.take i = s := List.take_of_length_le h
        rw [ht] at ha ⊢
        rw [ha] at hr
        simp only [g1, go_sem]
        repeat' ((first | apply qa | apply qb | apply qc | apply qd | apply qe | apply qf | apply qg | apply qh | apply qi | apply qj | apply qk) <;> intro hp <;> simp only [hp, g1, go_sem])
        simp only [fin_mk, finV, resL, resV1, resIn, endA, listIn, Option.some_or, Option.none_or, oneOrTup, go_sem]
        rw [← hr]
        rfl
end Go.Proofs.YtnbkmmjnpbfhnaaDoor.L

