/- Contracts of functions, and the facts that they need. No condition. -/
import Derived.Test.YtonjbbfgdloljaaGreatDoorVLS
import Derived.Test.YtonjbbfgdloljaaGreatDoorVLShelf
import Derived.Test.YtonjbbfgdloljaaGreatDoorVmShelf
import Derived.Test.YtonjbbfgdloljaaGreatDoorVLDr6



namespace Go.Proofs.YtonjbbfgdloljaaGreatDoor.L
open Go Go.VM
set_option maxRecDepth 100000
set_option maxHeartbeats 4000000
set_option linter.unusedSimpArgs false
set_option linter.unusedVariables false
open Classical in
noncomputable def spSplit : VM.Spec := { modes := [.rd, .rd], run := fun | [.str s, .str t] => if 1 ≤ t.length ∧ s.length < 4294967281 then some (.lst 1 ((Lib.splitK t 0 (Lib.count s t) s).map eStr), []) else none | _ => none, need := ["internal/bytealg.MaxLen"] }
attribute [go_sem] spSplit
theorem spSplit_in {ins : List V} {r : V} {outs : List V} (h : spSplit.run ins = some (r, outs)) : ∃ (s : (List UInt8)) (t : (List UInt8)), ins = [.str s, .str t] ∧ (1 ≤ t.length ∧ s.length < 4294967281) ∧ .lst 1 ((Lib.splitK t 0 (Lib.count s t) s).map eStr) = r ∧ outs = [] := by
  unfold spSplit at h
  simp only at h
  split at h
  · rename_i s t
    split at h
    case isFalse => cases h
    rename_i hc
    simp only [Option.some.injEq, Prod.mk.injEq] at h
    obtain ⟨h1, h2⟩ := h
    exact ⟨s, t, rfl, hc, h1, h2.symm⟩
  · cases h
theorem ok_strings_Split : FnOk Tryz.prog 104 spSplit :=
  split_ok Tryz.func104 rfl (by kernel_rfl) (g := 0) (by kernel_rfl) (by simp [spSplit]) rfl (fun _ _ _ h => spSplit_in h) Tryz.strings_Split
def consHead (b : UInt8) : List (List UInt8) → List (List UInt8)
  | [] => [[b]]
  | h :: t => (b :: h) :: t
def splitOn (c : UInt8) : List UInt8 → List (List UInt8)
  | [] => [[]]
  | b :: s => if b = c then [] :: splitOn c s else consHead b (splitOn c s)
theorem splitK_skip {c b : UInt8} (hb : b ≠ c) (s : List UInt8) (k : Nat) : Lib.splitK [c] 0 k (b :: s) = consHead b (Lib.splitK [c] 0 k s) := by
  cases k with
  | zero => rfl
  | succ k =>
    have hp : [c].isPrefixOf (b :: s) = false := by simp [List.isPrefixOf]; exact fun h => hb h.symm
    rw [Lib.splitK, Lib.splitK]
    have hge := Lib.index_ge s [c]
    by_cases hi : Lib.index s [c] = -1
    · have h1 : Lib.index (b :: s) [c] = -1 := by simp [Lib.index, hp, hi]
      rw [h1, hi]; rfl
    · have h0 : (Lib.index s [c] == -1) = false := beq_eq_false_iff_ne.2 hi
      have h1 : Lib.index (b :: s) [c] = Lib.index s [c] + 1 := by simp [Lib.index, hp, h0]
      have h2 : (Lib.index s [c] + 1 == -1) = false := beq_eq_false_iff_ne.2 (by omega)
      rw [h1, h0, h2]
      obtain ⟨i, hi'⟩ : ∃ i : Nat, Lib.index s [c] = i := ⟨(Lib.index s [c]).toNat, by omega⟩
      rw [hi']
      have e1 : ((i : Int) + 1).toNat = i + 1 := by omega
      rw [e1]
      simp [consHead]
theorem split_eq (c : UInt8) (s : List UInt8) : Lib.splitK [c] 0 (Lib.count s [c]) s = splitOn c s := by
  rw [Lib.count_one]
  induction s with
  | nil => rfl
  | cons b s ih =>
    by_cases hb : b = c
    · subst hb
      rw [List.count_cons_self, splitOn, if_pos rfl, ← ih, Lib.splitK]
      have h1 : Lib.index (b :: s) [b] = 0 := by simp [Lib.index, List.isPrefixOf]
      rw [h1]; simp
    · rw [List.count_cons_of_ne hb, splitK_skip hb, ih, splitOn, if_neg hb]
theorem splitOn_ne (c : UInt8) (s : List UInt8) : splitOn c s ≠ [] := by
  cases s with
  | nil => simp [splitOn]
  | cons b s =>
    rw [splitOn]
    split
    · simp
    · cases splitOn c s <;> simp [consHead]
def notB (c : UInt8) (b : UInt8) : Bool := b != c
theorem splitOn_first (c : UInt8) (s : List UInt8) : splitOn c s = s.takeWhile (notB c) :: (if c ∈ s then splitOn c (s.drop ((s.takeWhile (notB c)).length + 1)) else []) := by
  induction s with
  | nil => simp [splitOn]
  | cons b s ih =>
    rw [splitOn]
    by_cases hb : b = c
    · subst hb
      simp [List.takeWhile_cons, notB]
    · have h1 : notB c b = true := by simpa [notB] using hb
      rw [if_neg hb, ih, consHead]
      simp only [List.takeWhile_cons, h1, if_true, List.mem_cons, List.length_cons, List.drop_succ_cons]
      congr 1
      by_cases hc : c ∈ s
      · simp [hc]
      · simp [hc, Ne.symm hb]
theorem splitOn_len (c : UInt8) (s : List UInt8) : (splitOn c s).length ≤ s.length + 1 := by
  induction s with
  | nil => simp [splitOn]
  | cons b s ih =>
    rw [splitOn]
    split
    · simp; omega
    · cases h : splitOn c s with
      | nil => simp [consHead]
      | cons x t => rw [h] at ih; simp [consHead] at ih ⊢; omega
theorem splitOn_mem (c : UInt8) (s : List UInt8) : ∀ x ∈ splitOn c s, x.length ≤ s.length := by
  induction s with
  | nil => simp [splitOn]
  | cons b s ih =>
    rw [splitOn]
    split
    · intro x hx
      rcases List.mem_cons.1 hx with rfl | hx
      · simp
      · have := ih x hx; simp; omega
    · cases h : splitOn c s with
      | nil => intro x hx; simp [consHead] at hx; subst hx; simp
      | cons y t =>
        rw [h] at ih
        intro x hx
        simp only [consHead] at hx
        rcases List.mem_cons.1 hx with rfl | hx
        · have := ih y (by simp); simp; omega
        · have := ih x (by simp [hx]); simp; omega
def hit (nm l : List UInt8) : Bool := (lowS nm ++ [58]).isPrefixOf (lowS l)
def headIn (nm : List UInt8) : List (List UInt8) → List UInt8 × Bool
  | [] => ([], false)
  | l :: ls => if l = [] then ([], false) else if hit nm l = true then (trim (l.drop (nm.length + 1)), true) else headIn nm ls
def headOf (t nm : List UInt8) : List UInt8 × Bool := headIn nm (splitOn 10 t)
theorem low1_colon (b : UInt8) : (low1 b == 58) = (b == 58) := by
  unfold low1
  split
  · rename_i h
    have h1 : (b + 32).toNat = b.toNat + 32 := by
      rw [UInt8.toNat_add]
      have e : UInt8.toNat 32 = 32 := rfl
      rw [e]; omega
    have e1 : ¬ b = 58 := by rintro rfl; exact absurd h.1 (by decide)
    have e2 : ¬ b + 32 = 58 := by
      intro h2
      rw [h2] at h1
      have : (58 : UInt8).toNat = 58 := rfl
      omega
    rw [beq_eq_false_iff_ne.2 e1, beq_eq_false_iff_ne.2 e2]
  · rfl
theorem hit_short {nm l : List UInt8} (h : l.length ≤ nm.length) : hit nm l = false := by
  unfold hit
  apply isPrefixOf_short
  simp [lowS]; omega
theorem hit_long {nm l : List UInt8} (h : nm.length < l.length) : hit nm l = ((lowS (l.take nm.length) == lowS nm) && (l[nm.length] == 58)) := by
  have e : (lowS l).take (nm.length + 1) = lowS (l.take nm.length) ++ [low1 l[nm.length]] := by
    simp only [lowS, ← List.map_take]
    rw [take_succ' h, List.map_append]; rfl
  unfold hit
  rw [isPrefixOf_take]
  have hl : (lowS nm ++ [58]).length = nm.length + 1 := by simp [lowS]
  rw [hl, e, ← low1_colon]
  have h1 : (lowS (l.take nm.length)).length = (lowS nm).length := by simp [lowS]; omega
  rw [Bool.eq_iff_iff]
  simp only [beq_iff_eq, Bool.and_eq_true]
  constructor
  · intro h2
    have := List.append_inj h2 h1
    exact ⟨this.1, by simpa using this.2⟩
  · rintro ⟨h2, h3⟩
    rw [h2, h3]
open Classical in
noncomputable def spHeadOf : VM.Spec := { modes := [.rd, .rd], run := fun | [.str t, .str nm] => if t.length ≤ 4194304 ∧ nm.length ≤ 4194304 then some (.tup [.str ((headOf t nm).1), .bool ((headOf t nm).2)], []) else none | _ => none, need := ["internal/bytealg.MaxLen"] }
attribute [go_sem] spHeadOf
theorem spHeadOf_in {ins : List V} {r : V} {outs : List V} (h : spHeadOf.run ins = some (r, outs)) : ∃ (t : (List UInt8)) (nm : (List UInt8)), ins = [.str t, .str nm] ∧ (t.length ≤ 4194304 ∧ nm.length ≤ 4194304) ∧ .tup [.str ((headOf t nm).1), .bool ((headOf t nm).2)] = r ∧ outs = [] := by
  unfold spHeadOf at h
  simp only at h
  split at h
  · rename_i t nm
    split at h
    case isFalse => cases h
    rename_i hc
    simp only [Option.some.injEq, Prod.mk.injEq] at h
    obtain ⟨h1, h2⟩ := h
    exact ⟨t, nm, rfl, hc, h1, h2.symm⟩
  · cases h
theorem takeWhile_at {α : Type} {p : α → Bool} : ∀ {l : List α} {n : Nat}, (∀ x ∈ l.take n, p x = true) → (h : n < l.length) → p l[n] = false → l.takeWhile p = l.take n
  | [], n, _, h, _ => by simp at h
  | b :: l, 0, _, _, hp => by simp only [List.getElem_cons_zero] at hp; simp [List.takeWhile_cons, hp]
  | b :: l, n + 1, ha, h, hp => by
    have h1 : p b = true := ha b (by simp)
    rw [List.takeWhile_cons, if_pos h1, List.take_succ_cons, takeWhile_at (n := n) (fun x hx => ha x (by simp [hx])) (by simpa using h) (by simpa using hp)]
theorem takeWhile_mem {α : Type} {p : α → Bool} {l : List α} {x : α} (h : x ∈ l.takeWhile p) : p x = true := by
  induction l with
  | nil => simp at h
  | cons b l ih =>
    rw [List.takeWhile_cons] at h
    split at h
    · rename_i hb
      rcases List.mem_cons.1 h with rfl | h
      · exact hb
      · exact ih h
    · simp at h
theorem takeWhile_all {α : Type} {p : α → Bool} {l : List α} (h : ∀ x ∈ l, p x = true) : l.takeWhile p = l := by
  induction l with
  | nil => rfl
  | cons b l ih => rw [List.takeWhile_cons, if_pos (h b (by simp)), ih fun x hx => h x (by simp [hx])]
def lineAt (t : List UInt8) (a : Nat) : List UInt8 := (t.drop a).takeWhile (notB 10)
def nextAt (t : List UInt8) (a : Nat) : Int := if t.length ≤ a then -1 else if 10 ∈ t.drop a then ((a + (lineAt t a).length + 1 : Nat) : Int) else t.length
theorem notB_bool (b : UInt8) : notB 10 b = !((b.toNat : Int) == 10) := by
  unfold notB
  have : (b == 10) = ((b.toNat : Int) == 10) := by
    rw [Bool.eq_iff_iff, beq_iff_eq, beq_iff_eq]
    constructor
    · rintro rfl; rfl
    · intro h
      have : b.toNat = (10 : UInt8).toNat := by show b.toNat = 10; omega
      exact UInt8.toNat_inj.1 this
  rw [← this]; rfl
theorem take_drop_succ {t : List UInt8} {a i : Nat} (ha : a ≤ i) (h : i < t.length) : (t.take (i + 1)).drop a = (t.take i).drop a ++ [t[i]] := by
  rw [take_succ' h, List.drop_append_of_le_length (by rw [List.length_take]; omega)]
open Classical in
noncomputable def spLine : VM.Spec := { modes := [.rd, .rd], run := fun | [.str t, .int .i64 a] => if t.length ≤ 4194304 ∧ 0 ≤ a then some (.tup [.str (lineAt t a.toNat), .int .i64 (nextAt t a.toNat)], []) else none | _ => none, need := [] }
attribute [go_sem] spLine
theorem spLine_in {ins : List V} {r : V} {outs : List V} (h : spLine.run ins = some (r, outs)) : ∃ (t : (List UInt8)) (a : Int), ins = [.str t, .int .i64 a] ∧ (t.length ≤ 4194304 ∧ 0 ≤ a) ∧ .tup [.str (lineAt t a.toNat), .int .i64 (nextAt t a.toNat)] = r ∧ outs = [] := by
  unfold spLine at h
  simp only at h
  split at h
  · rename_i t a
    split at h
    case isFalse => cases h
    rename_i hc
    simp only [Option.some.injEq, Prod.mk.injEq] at h
    obtain ⟨h1, h2⟩ := h
    exact ⟨t, a, rfl, hc, h1, h2.symm⟩
  · cases h
end Go.Proofs.YtonjbbfgdloljaaGreatDoor.L

namespace Go.Proofs.YtonjbbfgdloljaaGreatDoor.L
open Go Go.VM
set_option maxRecDepth 100000
set_option maxHeartbeats 4000000
set_option linter.unusedSimpArgs false
set_option linter.unusedVariables false
def varN (n : Nat) : List UInt8 := if 127 < n then UInt8.ofNat (n % 128 + 128) :: varN (n / 128) else [UInt8.ofNat n]
termination_by n
decreasing_by omega
theorem varN_big {n : Nat} (h : 127 < n) : varN n = UInt8.ofNat (n % 128 + 128) :: varN (n / 128) := by rw [varN, if_pos h]
theorem varN_small {n : Nat} (h : ¬ 127 < n) : varN n = [UInt8.ofNat n] := by rw [varN, if_neg h]
theorem varN_len (n : Nat) : (varN n).length ≤ n + 1 := by
  induction n using Nat.strongRecOn with
  | ind n ih =>
    by_cases h : 127 < n
    · rw [varN_big h]
      have := ih (n / 128) (by omega)
      simp; omega
    · rw [varN_small h]; simp
theorem u8_of {n : Nat} (h : n < 256) : IntKind.u8.wrap (n : Int) = (UInt8.ofNat n).toNat := by
  rw [UInt8.toNat_ofNat_of_lt' (by simpa using h)]
  simp only [IntKind.wrap, IntKind.signed, IntKind.bits]
  simp; omega
theorem tmod_nat (m k : Nat) : (m : Int).tmod k = ((m % k : Nat) : Int) := by
  rw [Int.tmod_eq_emod_of_nonneg (by omega)]; omega
theorem tdiv_nat (m k : Nat) : (m : Int).tdiv k = ((m / k : Nat) : Int) := by
  rw [Int.tdiv_eq_ediv_of_nonneg (by omega)]; omega
theorem app_u8 (acc : List UInt8) {x : Int} {b : UInt8} (h : x = b.toNat) : bytesV acc ++ [V.int .u8 x] = bytesV (acc ++ [b]) := by rw [h]; exact bytesV_app acc [b]
def varText (n : Int) : List UInt8 := if within n 0 1000000000 = true then varN n.toNat else []
def shortText (s : List UInt8) : List UInt8 := if s.length ≤ 20000 then varN s.length ++ s else []
open Classical in
noncomputable def spVarText : VM.Spec := { modes := [.rd], run := fun | [.int .i64 n] => some (.tup [.str (varText n), .bool (within n 0 1000000000)], []) | _ => none, need := [] }
attribute [go_sem] spVarText
theorem spVarText_in {ins : List V} {r : V} {outs : List V} (h : spVarText.run ins = some (r, outs)) : ∃ (n : Int), ins = [.int .i64 n] ∧ .tup [.str (varText n), .bool (within n 0 1000000000)] = r ∧ outs = [] := by
  unfold spVarText at h
  simp only at h
  split at h
  · rename_i n
    simp only [Option.some.injEq, Prod.mk.injEq] at h
    obtain ⟨h1, h2⟩ := h
    exact ⟨n, rfl, h1, h2.symm⟩
  · cases h
open Classical in
noncomputable def spVarBytes : VM.Spec := { modes := [.rd], run := fun | [.int .i64 n] => if 0 ≤ n ∧ n ≤ 70368744177664 then some (.str (varN n.toNat), []) else none | _ => none, need := [] }
attribute [go_sem] spVarBytes
theorem spVarBytes_in {ins : List V} {r : V} {outs : List V} (h : spVarBytes.run ins = some (r, outs)) : ∃ (n : Int), ins = [.int .i64 n] ∧ (0 ≤ n ∧ n ≤ 70368744177664) ∧ .str (varN n.toNat) = r ∧ outs = [] := by
  unfold spVarBytes at h
  simp only at h
  split at h
  · rename_i n
    split at h
    case isFalse => cases h
    rename_i hc
    simp only [Option.some.injEq, Prod.mk.injEq] at h
    obtain ⟨h1, h2⟩ := h
    exact ⟨n, rfl, hc, h1, h2.symm⟩
  · cases h
open Classical in
noncomputable def spShortText : VM.Spec := { modes := [.rd], run := fun | [.str s] => if s.length ≤ 4194304 then some (.tup [.str (shortText s), .bool (decide (s.length ≤ 20000))], []) else none | _ => none, need := [] }
attribute [go_sem] spShortText
theorem spShortText_in {ins : List V} {r : V} {outs : List V} (h : spShortText.run ins = some (r, outs)) : ∃ (s : (List UInt8)), ins = [.str s] ∧ (s.length ≤ 4194304) ∧ .tup [.str (shortText s), .bool (decide (s.length ≤ 20000))] = r ∧ outs = [] := by
  unfold spShortText at h
  simp only at h
  split at h
  · rename_i s
    split at h
    case isFalse => cases h
    rename_i hc
    simp only [Option.some.injEq, Prod.mk.injEq] at h
    obtain ⟨h1, h2⟩ := h
    exact ⟨s, rfl, hc, h1, h2.symm⟩
  · cases h
open Classical in
noncomputable def spShort : VM.Spec := { modes := [.rd], run := fun | [.str s] => if s.length ≤ 20000 then some (.str (varN s.length ++ s), []) else none | _ => none, need := [] }
attribute [go_sem] spShort
theorem spShort_in {ins : List V} {r : V} {outs : List V} (h : spShort.run ins = some (r, outs)) : ∃ (s : (List UInt8)), ins = [.str s] ∧ (s.length ≤ 20000) ∧ .str (varN s.length ++ s) = r ∧ outs = [] := by
  unfold spShort at h
  simp only at h
  split at h
  · rename_i s
    split at h
    case isFalse => cases h
    rename_i hc
    simp only [Option.some.injEq, Prod.mk.injEq] at h
    obtain ⟨h1, h2⟩ := h
    exact ⟨s, rfl, hc, h1, h2.symm⟩
  · cases h
open Classical in
noncomputable def spItoa : VM.Spec := { modes := [.rd], run := fun | [.int .i64 n] => if -9223372036854775808 ≤ n ∧ n ≤ 9223372036854775807 then some (.str (Lib.itoa n), []) else none | _ => none, need := ["internal/strconv.uint64pow10"] }
attribute [go_sem] spItoa
theorem spItoa_in {ins : List V} {r : V} {outs : List V} (h : spItoa.run ins = some (r, outs)) : ∃ (n : Int), ins = [.int .i64 n] ∧ (-9223372036854775808 ≤ n ∧ n ≤ 9223372036854775807) ∧ .str (Lib.itoa n) = r ∧ outs = [] := by
  unfold spItoa at h
  simp only at h
  split at h
  · rename_i n
    split at h
    case isFalse => cases h
    rename_i hc
    simp only [Option.some.injEq, Prod.mk.injEq] at h
    obtain ⟨h1, h2⟩ := h
    exact ⟨n, rfl, hc, h1, h2.symm⟩
  · cases h
theorem ok_strconv_Itoa : FnOk Tryz.prog 73 spItoa :=
  itoa_ok Tryz.func73 rfl (by kernel_rfl) (by simp [spItoa]) rfl (fun _ _ _ h => spItoa_in h) Tryz.strconv_Itoa
theorem nDigits_le : ∀ (k u : Nat), u < 10 ^ (k + 1) → Lib.nDigits u ≤ k + 1
  | 0, u, h => by rw [Lib.nDigits_small (by simpa using h)]; omega
  | k + 1, u, h => by
    by_cases hu : u < 10
    · rw [Lib.nDigits_small hu]; omega
    · rw [Lib.nDigits_big hu]
      have := nDigits_le k (u / 10) (by rw [Nat.pow_succ] at h; omega)
      omega
theorem itoa_len {n : Int} {k : Nat} (h0 : 0 ≤ n) (h : n < 10 ^ (k + 1)) : (Lib.itoa n).length ≤ k + 1 := by
  rw [Lib.itoa, if_neg (by omega), Lib.decDigits_length]
  exact nDigits_le k n.toNat (by
    have e : ((n.toNat : Nat) : Int) = n := by omega
    have : ((n.toNat : Nat) : Int) < ((10 ^ (k + 1) : Nat) : Int) := by rw [e]; simpa using h
    exact_mod_cast this)
theorem itoa10 {n : Int} (h0 : 0 ≤ n) (h : n ≤ 1000000000) : (Lib.itoa n).length ≤ 10 := itoa_len (k := 9) h0 (by omega)
theorem itoa4 {n : Int} (h0 : 0 ≤ n) (h : n ≤ 9999) : (Lib.itoa n).length ≤ 4 := itoa_len (k := 3) h0 (by omega)
def dig (m : Nat) : List UInt8 := if m = 0 then [] else Lib.decDigits m
theorem dig_step {m : Nat} (h : m ≠ 0) : dig m = dig (m / 10) ++ [UInt8.ofNat (48 + m % 10)] := by
  unfold dig
  rw [if_neg h, Lib.decDigits]
  by_cases h1 : m < 10
  · rw [dif_pos h1, if_pos (by omega), Nat.mod_eq_of_lt h1]; rfl
  · rw [dif_neg h1, if_neg (by omega)]
theorem dig_len (m : Nat) : (dig m).length ≤ m := by
  induction m using Nat.strongRecOn with
  | ind m ih =>
    by_cases h : m = 0
    · subst h; simp [dig]
    · rw [dig_step h, List.length_append]
      have := ih (m / 10) (by omega)
      simp; omega
open Classical in
noncomputable def spDecimal : VM.Spec := { modes := [.rd], run := fun | [.int .i64 n] => if 0 ≤ n ∧ n ≤ 1000000000 then some (.str (Lib.itoa n), []) else none | _ => none, need := ["internal/strconv.uint64pow10"] }
attribute [go_sem] spDecimal
theorem spDecimal_in {ins : List V} {r : V} {outs : List V} (h : spDecimal.run ins = some (r, outs)) : ∃ (n : Int), ins = [.int .i64 n] ∧ (0 ≤ n ∧ n ≤ 1000000000) ∧ .str (Lib.itoa n) = r ∧ outs = [] := by
  unfold spDecimal at h
  simp only at h
  split at h
  · rename_i n
    split at h
    case isFalse => cases h
    rename_i hc
    simp only [Option.some.injEq, Prod.mk.injEq] at h
    obtain ⟨h1, h2⟩ := h
    exact ⟨n, rfl, hc, h1, h2.symm⟩
  · cases h
def T_impl_Decimal : Hints := ⟨lk [], lk [], lk [(0, [0]), (1, [2])], lk []⟩
noncomputable def Phi_impl_Decimal : Tab := lk [(73, spItoa)]
attribute [go_sem] T_impl_Decimal Phi_impl_Decimal
theorem phi_impl_Decimal : ∀ f sp, Phi_impl_Decimal f = some sp → FnOk Tryz.prog f sp ∧ ∀ n ∈ sp.need, n ∈ (["internal/strconv.uint64pow10"] : List String) := phi_cons ok_strconv_Itoa (fun n (h : n ∈ (["internal/strconv.uint64pow10"] : List String)) => by simp only [List.mem_cons, List.not_mem_nil, or_false] at h; rcases h with rfl <;> simp) (phi_nil)
theorem ok_impl_Decimal : FnOk Tryz.prog 27 spDecimal := by
  refine fn_ok (Φ := Phi_impl_Decimal) (T := T_impl_Decimal) phi_impl_Decimal mixed Tryz.func27 rfl rfl rfl (by decide) ?_
  intro ins r outs hr hl
  clear hl
  have hs := spDecimal_in hr
  clear hr
  obtain ⟨n, rfl, hc, hr, rfl⟩ := hs
  simp only [spDecimal, Tryz.f27, Go.VM.initS]
  have h1 : (-9223372036854775808 : Int) ≤ n := by omega
  have h2 : n ≤ 9223372036854775807 := by omega
  simp only [h1, h2, go_sem]
  repeat' ((first | apply qa | apply qb | apply qc | apply qd | apply qe | apply qf | apply qg | apply qh | apply qi | apply qj | apply qk) <;> intro hp <;> simp only [hp, h1, h2, go_sem])
  simp only [fin_mk, finV, resL, resV1, resIn, endA, listIn, Option.some_or, Option.none_or, oneOrTup, go_sem]
  rw [← hr]
open Classical in
noncomputable def spFigure : VM.Spec := { modes := [.rd], run := fun | [.int .i64 x] => if 0 ≤ x ∧ x < 10 then some (.int .u8 (48 + x), []) else none | _ => none, need := [] }
attribute [go_sem] spFigure
theorem spFigure_in {ins : List V} {r : V} {outs : List V} (h : spFigure.run ins = some (r, outs)) : ∃ (x : Int), ins = [.int .i64 x] ∧ (0 ≤ x ∧ x < 10) ∧ .int .u8 (48 + x) = r ∧ outs = [] := by
  unfold spFigure at h
  simp only at h
  split at h
  · rename_i x
    split at h
    case isFalse => cases h
    rename_i hc
    simp only [Option.some.injEq, Prod.mk.injEq] at h
    obtain ⟨h1, h2⟩ := h
    exact ⟨x, rfl, hc, h1, h2.symm⟩
  · cases h
def T_spec_l01Figure : Hints := ⟨lk [], lk [], lk [(0, [0]), (1, [0, 4]), (2, [2]), (3, [2])], lk []⟩
noncomputable def Phi_spec_l01Figure : Tab := lk []
attribute [go_sem] T_spec_l01Figure Phi_spec_l01Figure
theorem phi_spec_l01Figure : ∀ f sp, Phi_spec_l01Figure f = some sp → FnOk Tryz.prog f sp ∧ ∀ n ∈ sp.need, n ∈ ([] : List String) := phi_nil
theorem ok_spec_l01Figure : FnOk Tryz.prog 84 spFigure := by
  refine fn_ok (Φ := Phi_spec_l01Figure) (T := T_spec_l01Figure) phi_spec_l01Figure mixed Tryz.func84 rfl rfl rfl (by decide) ?_
  intro ins r outs hr hl
  clear hl
  have hs := spFigure_in hr
  clear hr
  obtain ⟨x, rfl, hc, hr, rfl⟩ := hs
  simp only [spFigure, Tryz.f84, Go.VM.initS]
  obtain ⟨h0, h1⟩ := hc
  have e : IntKind.u8.wrap (IntKind.i64.wrap (48 + x)) = 48 + x := by
    rw [wrap64 (by omega) (by omega)]
    simp only [IntKind.wrap, IntKind.signed, IntKind.bits]
    simp; omega
  simp only [h1, e, go_sem]
  repeat' ((first | apply qa | apply qb | apply qc | apply qd | apply qe | apply qf | apply qg | apply qh | apply qi | apply qj | apply qk) <;> intro hp <;> simp only [hp, h1, e, go_sem])
  simp only [fin_mk, finV, resL, resV1, resIn, endA, listIn, Option.some_or, Option.none_or, oneOrTup, go_sem]
  rw [← hr]
def T_spec_Decimal : Hints := ⟨lk [], lk [(5, [0, 3, 4])], lk [(0, [0]), (1, [0, 7]), (2, [2]), (3, [0, 3]), (4, [0, 3, 4]), (5, [0, 3, 4, 11]), (6, [0, 3, 4, 5]), (7, [0, 3, 4, 5, 15]), (8, [0, 3, 4, 5]), (9, [0, 3, 4]), (10, [0, 3, 4]), (11, [4, 26]), (12, [2]), (13, [2])], lk []⟩
noncomputable def Phi_spec_Decimal : Tab := lk [(84, spFigure)]
attribute [go_sem] T_spec_Decimal Phi_spec_Decimal
theorem phi_spec_Decimal : ∀ f sp, Phi_spec_Decimal f = some sp → FnOk Tryz.prog f sp ∧ ∀ n ∈ sp.need, n ∈ (["internal/strconv.uint64pow10"] : List String) := phi_cons ok_spec_l01Figure (n0 rfl) (phi_nil)
theorem ok_spec_Decimal : FnOk Tryz.prog 35 spDecimal := by
  refine fn_ok (Φ := Phi_spec_Decimal) (T := T_spec_Decimal) phi_spec_Decimal mixed Tryz.func35 rfl rfl rfl (by decide) ?_
  intro ins r outs hr hl
  clear hl
  have hs := spDecimal_in hr
  clear hr
  obtain ⟨n, rfl, hc, hr, rfl⟩ := hs
  simp only [spDecimal, Tryz.f35, Go.VM.initS]
  obtain ⟨h0, h1⟩ := hc
  obtain ⟨k, rfl⟩ : ∃ k : Nat, n = k := ⟨n.toNat, by omega⟩
  by_cases hz : k = 0
  · subst hz
    have e : (((0 : Nat) : Int) == 0) = true := rfl
    simp only [e, go_sem]
    repeat' ((first | apply qa | apply qb | apply qc | apply qd | apply qe | apply qf | apply qg | apply qh | apply qi | apply qj | apply qk) <;> intro hp <;> simp only [hp, e, go_sem])
    simp only [fin_mk, finV, resL, resV1, resIn, endA, listIn, Option.some_or, Option.none_or, oneOrTup, go_sem]
    rw [← hr]
    have h2 : Lib.itoa ((0 : Nat) : Int) = [48] := by
      rw [Lib.itoa, if_neg (by decide)]
      show Lib.decDigits 0 = _
      rw [Lib.decDigits]; rfl
    rw [h2]
  · have e : ((k : Int) == 0) = false := beq_eq_false_iff_ne.2 (by omega)
    have e2 : ¬ (k : Int) < 0 := by omega
    have hI : Lib.itoa (k : Int) = dig k := by rw [Lib.itoa, if_neg e2, dig, if_neg hz]; rfl
    rw [hI] at hr
    simp only [e, e2, go_sem]
    repeat' ((first | apply qa | apply qb | apply qc | apply qd | apply qe | apply qf | apply qg | apply qh | apply qi | apply qj | apply qk) <;> intro hp <;> simp only [hp, e, e2, go_sem])
    refine loop_go (fun p : List UInt8 × Nat => [(0, .int .i64 (p.2 : Int)), (4, .str p.1)]) (fun _ => []) (fun p => p.2) (fun p => dig p.2 ++ p.1 = dig k ∧ p.2 ≤ k) ([], k) ⟨by simp, Nat.le_refl _⟩ rfl rfl ?_
    rintro ⟨s, m⟩ ⟨he, hm⟩ ih
    simp only at he hm ih
    have hlen : s.length ≤ k := by
      have h2 := congrArg List.length he
      have h3 := dig_len k
      simp only [List.length_append] at h2; omega
    by_cases hm0 : m = 0
    · subst hm0
      have g1 : (((0 : Nat) : Int) != 0) = false := rfl
      simp only [g1, go_sem]
      repeat' ((first | apply qa | apply qb | apply qc | apply qd | apply qe | apply qf | apply qg | apply qh | apply qi | apply qj | apply qk) <;> intro hp <;> simp only [hp, g1, go_sem])
      simp only [fin_mk, finV, resL, resV1, resIn, endA, listIn, Option.some_or, Option.none_or, oneOrTup, go_sem]
      rw [← hr]
      rw [← he]; rfl
    · have g1 : ((m : Int) != 0) = true := by simp; omega
      have g2 : (m : Int).tmod 10 = ((m % 10 : Nat) : Int) := tmod_nat m 10
      have g3 : ¬ (((m % 10 : Nat) : Int)) < 0 := by omega
      have g4 : (0 : Int) ≤ ((m % 10 : Nat) : Int) := by omega
      have g5 : ((m % 10 : Nat) : Int) < 10 := by omega
      have g6 : (m : Int).tdiv 10 = ((m / 10 : Nat) : Int) := tdiv_nat m 10
      have g7 : IntKind.i64.wrap ((m / 10 : Nat) : Int) = ((m / 10 : Nat) : Int) := wrap64 (by omega) (by omega)
      have g8 : [V.int .u8 (48 + ((m % 10 : Nat) : Int))] = bytesV [UInt8.ofNat (48 + m % 10)] := by
        have h4 : (UInt8.ofNat (48 + m % 10)).toNat = 48 + m % 10 := UInt8.toNat_ofNat_of_lt' (by show 48 + m % 10 < 256; omega)
        rw [bytesV, List.map_cons, List.map_nil, h4]; rfl
      have g9 : 1 + s.length ≤ 9223372036854775807 := by omega
      have ih' := ih (UInt8.ofNat (48 + m % 10) :: s, m / 10) ⟨by rw [← he, dig_step hm0, List.append_assoc]; rfl, by omega⟩ (by simp only; omega)
      simp only at ih'
      simp only [g1, g2, g3, g4, g5, g6, g7, g8, g9, go_sem]
      repeat' ((first | apply qa | apply qb | apply qc | apply qd | apply qe | apply qf | apply qg | apply qh | apply qi | apply qj | apply qk) <;> intro hp <;> simp only [hp, g1, g2, g3, g4, g5, g6, g7, g8, g9, go_sem])
      exact ih'
end Go.Proofs.YtonjbbfgdloljaaGreatDoor.L

namespace Go.Proofs.YtonjbbfgdloljaaGreatDoor.L
open Go Go.VM
set_option maxRecDepth 100000
set_option maxHeartbeats 4000000
set_option linter.unusedSimpArgs false
set_option linter.unusedVariables false
open Classical in
noncomputable def spJoin : VM.Spec := { modes := [.rd, .rd], run := fun | [.lst 1 l', .str t] => (decL dStr l').bind fun l => if (Lib.join l t).length ≤ 140737488355328 ∧ l.length ≤ 140737488355328 then some (.str (Lib.join l t), []) else none | _ => none, need := [] }
attribute [go_sem] spJoin
theorem spJoin_in {ins : List V} {r : V} {outs : List V} (h : spJoin.run ins = some (r, outs)) : ∃ (l : (List (List UInt8))) (t : (List UInt8)), ins = [.lst 1 ((l).map eStr), .str t] ∧ ((Lib.join l t).length ≤ 140737488355328 ∧ l.length ≤ 140737488355328) ∧ .str (Lib.join l t) = r ∧ outs = [] := by
  unfold spJoin at h
  simp only at h
  split at h
  · rename_i l' t
    simp only [Option.bind_eq_some_iff] at h
    obtain ⟨l, h_l, h⟩ := h
    split at h
    case isFalse => cases h
    rename_i hc
    simp only [Option.some.injEq, Prod.mk.injEq] at h
    obtain ⟨h1, h2⟩ := h
    have h_l := decL_some (fun _ _ h => dStr_some h) h_l
    subst h_l
    exact ⟨l, t, rfl, hc, h1, h2.symm⟩
  · cases h
theorem ok_strings_Join : FnOk Tryz.prog 75 spJoin :=
  join_ok Tryz.func75 rfl (by kernel_rfl) rfl (fun _ _ _ h => spJoin_in h) Tryz.strings_Join_none Tryz.strings_Join
theorem join_snoc (l : List (List UInt8)) (x t : List UInt8) : Lib.join (l ++ [x]) t = if l = [] then x else Lib.join l t ++ (t ++ x) := by
  cases l with
  | nil => simp [Lib.join_one]
  | cons y l =>
    rw [List.cons_append, Lib.join_cons, Lib.join_cons, if_neg (by simp)]
    simp [Lib.joinTail]
theorem lens_bound {l : List (List UInt8)} {k : Nat} (h : ∀ x ∈ l, x.length ≤ k) : Lib.lens l ≤ k * l.length := by
  induction l with
  | nil => simp [Lib.lens]
  | cons y l ih =>
    have h1 := ih fun x hx => h x (by simp [hx])
    have h2 := h y (by simp)
    simp only [Lib.lens, List.map_cons, List.sum_cons, List.length_cons] at h1 ⊢
    rw [Nat.mul_add]; omega
theorem join_bound {l : List (List UInt8)} {t : List UInt8} {k : Nat} (h : ∀ x ∈ l, x.length ≤ k) : (Lib.join l t).length ≤ (t.length + k) * l.length := by
  cases l with
  | nil => simp [Lib.join_nil]
  | cons y l =>
    rw [Lib.join_length]
    have := lens_bound h
    simp only [List.length_cons] at this ⊢
    rw [Nat.add_mul, Nat.mul_add t.length]; omega
def partOf (r : Range) : List UInt8 := if r.Lo < r.Hi then Lib.itoa r.Lo ++ (58 :: Lib.itoa r.Hi) else Lib.itoa r.Lo
def setText (s : List Range) : List UInt8 := if setOk s = true then Lib.join (s.map partOf) [44] else []
theorem setOk_at {s : List Range} (h : setOk s = true) {i : Nat} (hi : i < s.length) : 1 ≤ s[i].Lo ∧ s[i].Lo ≤ s[i].Hi ∧ s[i].Hi ≤ 9999 := by
  simp only [setOk, Bool.and_eq_true] at h
  exact rangeAt_hi hi (allN_get h.1 hi)
theorem setOk_len {s : List Range} (h : setOk s = true) : s.length ≤ 40 := by
  simp only [setOk, Bool.and_eq_true, decide_eq_true_eq] at h; exact h.2
theorem partOf_len {r : Range} (h : 1 ≤ r.Lo ∧ r.Lo ≤ r.Hi ∧ r.Hi ≤ 9999) : (partOf r).length ≤ 9 := by
  have h1 := itoa4 (n := r.Lo) (by omega) (by omega)
  have h2 := itoa4 (n := r.Hi) (by omega) (by omega)
  unfold partOf
  split
  · simp; omega
  · omega
theorem parts_len {s : List Range} (h : setOk s = true) (n : Nat) : ∀ x ∈ (s.take n).map partOf, x.length ≤ 9 := by
  intro x hx
  obtain ⟨r, hr, rfl⟩ := List.mem_map.1 hx
  obtain ⟨i, hi, rfl⟩ := List.mem_iff_getElem.1 (List.mem_of_mem_take hr)
  exact partOf_len (setOk_at h hi)
theorem join_parts {s : List Range} (h : setOk s = true) (n : Nat) : (Lib.join ((s.take n).map partOf) [44]).length ≤ 400 := by
  have h1 := join_bound (t := [44]) (parts_len h n)
  have h2 := setOk_len h
  have h3 : ((s.take n).map partOf).length ≤ 40 := by simp; omega
  simp only [List.length_cons, List.length_nil] at h1
  omega
theorem setText_len (s : List Range) : (setText s).length ≤ 400 := by
  unfold setText
  split
  · rename_i h
    have := join_parts h s.length
    rwa [List.take_length] at this
  · simp
open Classical in
noncomputable def spSetText : VM.Spec := { modes := [.rd], run := fun | [.lst 2 s'] => (decL Range.dec s').bind fun s => if s.length ≤ 4194304 then some (.str (setText s), []) else none | _ => none, need := ["internal/strconv.uint64pow10"] }
attribute [go_sem] spSetText
theorem spSetText_in {ins : List V} {r : V} {outs : List V} (h : spSetText.run ins = some (r, outs)) : ∃ (s : (List Range)), ins = [.lst 2 ((s).map Range.enc)] ∧ (s.length ≤ 4194304) ∧ .str (setText s) = r ∧ outs = [] := by
  unfold spSetText at h
  simp only at h
  split at h
  · rename_i s'
    simp only [Option.bind_eq_some_iff] at h
    obtain ⟨s, h_s, h⟩ := h
    split at h
    case isFalse => cases h
    rename_i hc
    simp only [Option.some.injEq, Prod.mk.injEq] at h
    obtain ⟨h1, h2⟩ := h
    have h_s := decL_some (fun _ _ h => Range.dec_some h) h_s
    subst h_s
    exact ⟨s, rfl, hc, h1, h2.symm⟩
  · cases h
def T_impl_SetText : Hints := ⟨lk [], lk [(5, [3, 11, 12, 13])], lk [(0, [0]), (1, [0, 9]), (2, [2]), (3, [0, 3]), (4, [3, 11, 12, 13]), (5, [3, 11, 12, 13, 14]), (6, [3, 5, 11, 12, 13]), (7, [3, 5, 6, 11, 12, 13]), (8, [3, 5, 6, 11, 12, 13, 24]), (9, [3, 6, 11, 12, 13]), (10, [3, 11, 12, 13]), (11, [3, 11, 12, 13]), (12, [2])], lk []⟩
noncomputable def Phi_impl_SetText : Tab := lk [(45, spSetOk), (27, spDecimal), (75, spJoin)]
attribute [go_sem] T_impl_SetText Phi_impl_SetText
theorem phi_impl_SetText : ∀ f sp, Phi_impl_SetText f = some sp → FnOk Tryz.prog f sp ∧ ∀ n ∈ sp.need, n ∈ (["internal/strconv.uint64pow10"] : List String) := phi_cons ok_impl_SetOk (n0 rfl) (phi_cons ok_impl_Decimal (fun n (h : n ∈ (["internal/strconv.uint64pow10"] : List String)) => by simp only [List.mem_cons, List.not_mem_nil, or_false] at h; rcases h with rfl <;> simp) (phi_cons ok_strings_Join (n0 rfl) (phi_nil)))
theorem ok_impl_SetText : FnOk Tryz.prog 29 spSetText := by
  refine fn_ok (Φ := Phi_impl_SetText) (T := T_impl_SetText) phi_impl_SetText mixed Tryz.func29 rfl rfl rfl (by decide) ?_
  intro ins r outs hr hl
  clear hl
  have hs := spSetText_in hr
  clear hr
  obtain ⟨s, rfl, hc, hr, rfl⟩ := hs
  simp only [spSetText, Tryz.f29, Go.VM.initS]
  cases hk : setOk s with
  | false =>
    simp only [hc, hk, go_sem]
    repeat' ((first | apply qa | apply qb | apply qc | apply qd | apply qe | apply qf | apply qg | apply qh | apply qi | apply qj | apply qk) <;> intro hp <;> simp only [hp, hc, hk, go_sem])
    simp only [fin_mk, finV, resL, resV1, resIn, endA, listIn, Option.some_or, Option.none_or, oneOrTup, go_sem]
    rw [← hr]
    rw [setText, hk, if_neg (by simp)]
  | true =>
    have hS : setText s = Lib.join (s.map partOf) [44] := by rw [setText, if_pos hk]
    rw [hS] at hr
    clear hS
    simp only [hc, hk, go_sem]
    repeat' ((first | apply qa | apply qb | apply qc | apply qd | apply qe | apply qf | apply qg | apply qh | apply qi | apply qj | apply qk) <;> intro hp <;> simp only [hp, hc, hk, go_sem])
    refine loop_go (fun i : Nat => [(13, .int .i64 (i : Int))]) (fun i => [(0, ⟨.arr, 1, ((s.take i).map partOf).map eStr⟩)]) (fun i => s.length - i) (fun i => i ≤ s.length) 0 (Nat.zero_le _) rfl rfl ?_
    intro i hi ih
    have hl := setOk_len hk
    rcases Nat.lt_or_ge i s.length with h | h
    · have g1 : (i : Int) < s.length := by omega
      have g2 : (0 : Int) ≤ i := by omega
      have g3 : s[i]? = some s[i] := List.getElem?_eq_getElem h
      have g5 := wrap_succ h (by omega)
      have hb := setOk_at hk h
      have a1 : (0 : Int) ≤ s[i].Lo := by omega
      have a2 : s[i].Lo ≤ 1000000000 := by omega
      have a3 : (0 : Int) ≤ s[i].Hi := by omega
      have a4 : s[i].Hi ≤ 1000000000 := by omega
      have l1 := itoa4 (n := s[i].Lo) (by omega) (by omega)
      have l2 := itoa4 (n := s[i].Hi) (by omega) (by omega)
      have b1 : 1 + (Lib.itoa s[i].Hi).length ≤ 9223372036854775807 := by omega
      have b2 : (Lib.itoa s[i].Lo).length + ((Lib.itoa s[i].Hi).length + 1) ≤ 9223372036854775807 := by omega
      have b3 : ((s.take i).map partOf).length = i := by simp; omega
      have b4 : (i + 1) * 16 ≤ 140737488355328 := by omega
      have b5 : i + 1 ≤ 9223372036854775807 := by omega
      have b6 : min i s.length = i := by omega
      have ih' := ih (i + 1) h (by omega)
      rw [take_succ' h, List.map_append, List.map_append] at ih'
      by_cases hlt : s[i].Lo < s[i].Hi
      · have hp : partOf s[i] = Lib.itoa s[i].Lo ++ (58 :: Lib.itoa s[i].Hi) := by rw [partOf, if_pos hlt]
        simp only [List.map_cons, List.map_nil, hp] at ih'
        simp only [g1, g2, g3, g5, a1, a2, a3, a4, b1, b2, b3, b4, b5, b6, hlt, List.length_take, go_sem]
        repeat' ((first | apply qa | apply qb | apply qc | apply qd | apply qe | apply qf | apply qg | apply qh | apply qi | apply qj | apply qk) <;> intro hp <;> simp only [hp, g1, g2, g3, g5, a1, a2, a3, a4, b1, b2, b3, b4, b5, b6, hlt, List.length_take, go_sem])
        exact ih'
      · have hp : partOf s[i] = Lib.itoa s[i].Lo := by rw [partOf, if_neg hlt]
        simp only [List.map_cons, List.map_nil, hp] at ih'
        simp only [g1, g2, g3, g5, a1, a2, a3, a4, b1, b2, b3, b4, b5, b6, hlt, List.length_take, go_sem]
        repeat' ((first | apply qa | apply qb | apply qc | apply qd | apply qe | apply qf | apply qg | apply qh | apply qi | apply qj | apply qk) <;> intro hp <;> simp only [hp, g1, g2, g3, g5, a1, a2, a3, a4, b1, b2, b3, b4, b5, b6, hlt, List.length_take, go_sem])
        exact ih'
    · have g1 : ¬ (i : Int) < s.length := by omega
      have ht : s.take i = s := List.take_of_length_le h
      have hj := join_parts hk s.length
      rw [List.take_length] at hj
      have j1 : (Lib.join (s.map partOf) [44]).length ≤ 140737488355328 := by omega
      have j2 : s.length ≤ 140737488355328 := by omega
      simp only [g1, ht, j1, j2, go_sem]
      repeat' ((first | apply qa | apply qb | apply qc | apply qd | apply qe | apply qf | apply qg | apply qh | apply qi | apply qj | apply qk) <;> intro hp <;> simp only [hp, g1, ht, j1, j2, go_sem])
      simp only [fin_mk, finV, resL, resV1, resIn, endA, listIn, Option.some_or, Option.none_or, oneOrTup, go_sem]
      rw [← hr]
def T_spec_SetText : Hints := ⟨lk [(10, [])], lk [(5, [0, 3, 4])], lk [(0, [0]), (1, [0, 7]), (2, [2]), (3, [0, 3]), (4, [0, 3, 4]), (5, [0, 3, 4, 11]), (7, [0, 3, 4, 15]), (8, [0, 3, 4]), (9, [0, 3, 4]), (10, [0, 3, 4, 36]), (11, [0, 3, 4]), (6, [0, 3, 4]), (12, [2])], lk []⟩
noncomputable def Phi_spec_SetText : Tab := lk [(39, spSetOk), (35, spDecimal)]
attribute [go_sem] T_spec_SetText Phi_spec_SetText
theorem phi_spec_SetText : ∀ f sp, Phi_spec_SetText f = some sp → FnOk Tryz.prog f sp ∧ ∀ n ∈ sp.need, n ∈ (["internal/strconv.uint64pow10"] : List String) := phi_cons ok_spec_SetOk (n0 rfl) (phi_cons ok_spec_Decimal (fun n (h : n ∈ (["internal/strconv.uint64pow10"] : List String)) => by simp only [List.mem_cons, List.not_mem_nil, or_false] at h; rcases h with rfl <;> simp) (phi_nil))
theorem ok_spec_SetText : FnOk Tryz.prog 37 spSetText := by
  refine fn_ok (Φ := Phi_spec_SetText) (T := T_spec_SetText) phi_spec_SetText mixed Tryz.func37 rfl rfl rfl (by decide) ?_
  intro ins r outs hr hl
  clear hl
  have hs := spSetText_in hr
  clear hr
  obtain ⟨s, rfl, hc, hr, rfl⟩ := hs
  simp only [spSetText, Tryz.f37, Go.VM.initS]
  cases hk : setOk s with
  | false =>
    simp only [hc, hk, go_sem]
    repeat' ((first | ((first | apply qa | apply qb | apply qc | apply qd | apply qe | apply qf | apply qg | apply qh | apply qi | apply qj | apply qk) <;> intro hp) | ((first | refine ql rfl rfl (by decide +kernel) ?_ | refine qm _ rfl rfl (by decide +kernel) ?_) <;> have hp := True.intro)) <;> simp only [hp, hc, hk, go_sem])
    simp only [fin_mk, finV, resL, resV1, resIn, endA, listIn, Option.some_or, Option.none_or, oneOrTup, go_sem]
    rw [← hr]
    rw [setText, hk, if_neg (by simp)]
  | true =>
    have hS : setText s = Lib.join (s.map partOf) [44] := by rw [setText, if_pos hk]
    rw [hS] at hr
    clear hS
    simp only [hc, hk, go_sem]
    repeat' ((first | ((first | apply qa | apply qb | apply qc | apply qd | apply qe | apply qf | apply qg | apply qh | apply qi | apply qj | apply qk) <;> intro hp) | ((first | refine ql rfl rfl (by decide +kernel) ?_ | refine qm _ rfl rfl (by decide +kernel) ?_) <;> have hp := True.intro)) <;> simp only [hp, hc, hk, go_sem])
    refine loop_go (fun i : Nat => [(3, .str (Lib.join ((s.take i).map partOf) [44])), (4, .int .i64 (i : Int))]) (fun _ => []) (fun i => s.length - i) (fun i => i ≤ s.length) 0 (Nat.zero_le _) rfl rfl ?_
    intro i hi ih
    have hl := setOk_len hk
    rcases Nat.lt_or_ge i s.length with h | h
    · have g1 : (i : Int) < s.length := by omega
      have g2 : (0 : Int) ≤ i := by omega
      have g3 : s[i]? = some s[i] := List.getElem?_eq_getElem h
      have g5 := wrap_succ h (by omega)
      have hb := setOk_at hk h
      have a1 : (0 : Int) ≤ s[i].Lo := by omega
      have a2 : s[i].Lo ≤ 1000000000 := by omega
      have a3 : (0 : Int) ≤ s[i].Hi := by omega
      have a4 : s[i].Hi ≤ 1000000000 := by omega
      have l1 := itoa4 (n := s[i].Lo) (by omega) (by omega)
      have l2 := itoa4 (n := s[i].Hi) (by omega) (by omega)
      have lj := join_parts hk i
      have ih' := ih (i + 1) h (by omega)
      rw [take_succ' h, List.map_append] at ih'
      simp only [List.map_cons, List.map_nil, join_snoc] at ih'
      generalize hJ : Lib.join ((s.take i).map partOf) [44] = J at *
      have b0 : J.length ≤ 9223372036854775806 := by omega
      have b1 : J.length + 1 + (Lib.itoa s[i].Lo).length ≤ 9223372036854775807 := by omega
      have b1' : J.length + (Lib.itoa s[i].Lo).length ≤ 9223372036854775807 := by omega
      have b2 : J.length + 1 + (Lib.itoa s[i].Lo).length ≤ 9223372036854775806 := by omega
      have b2' : J.length + (Lib.itoa s[i].Lo).length ≤ 9223372036854775806 := by omega
      have b3 : J.length + 1 + (Lib.itoa s[i].Lo).length + 1 + (Lib.itoa s[i].Hi).length ≤ 9223372036854775807 := by omega
      have b3' : J.length + (Lib.itoa s[i].Lo).length + 1 + (Lib.itoa s[i].Hi).length ≤ 9223372036854775807 := by omega
      by_cases h0 : i = 0
      · subst h0
        have hJ0 : J = [] := by rw [← hJ]; rfl
        subst hJ0
        have z0 : ¬ (0 : Int) < ((0 : Nat) : Int) := by decide
        rw [if_pos (by simp)] at ih'
        by_cases hlt : s[0].Lo < s[0].Hi
        · have hp : partOf s[0] = Lib.itoa s[0].Lo ++ (58 :: Lib.itoa s[0].Hi) := by rw [partOf, if_pos hlt]
          rw [hp] at ih'
          simp only [g1, g2, g3, g5, z0, a1, a2, a3, a4, b0, b1, b1', b2, b2', b3, b3', hlt, List.length_append, List.append_assoc, List.cons_append, List.nil_append, go_sem]
          repeat' ((first | ((first | apply qa | apply qb | apply qc | apply qd | apply qe | apply qf | apply qg | apply qh | apply qi | apply qj | apply qk) <;> intro hp) | ((first | refine ql rfl rfl (by decide +kernel) ?_ | refine qm _ rfl rfl (by decide +kernel) ?_) <;> have hp := True.intro)) <;> simp only [hp, g1, g2, g3, g5, z0, a1, a2, a3, a4, b0, b1, b1', b2, b2', b3, b3', hlt, List.length_append, List.append_assoc, List.cons_append, List.nil_append, go_sem])
          all_goals first | exact ih' | (clear ih ih'; omega)
        · have hp : partOf s[0] = Lib.itoa s[0].Lo := by rw [partOf, if_neg hlt]
          rw [hp] at ih'
          simp only [g1, g2, g3, g5, z0, a1, a2, a3, a4, b0, b1, b1', b2, b2', b3, b3', hlt, List.length_append, List.append_assoc, List.cons_append, List.nil_append, go_sem]
          repeat' ((first | ((first | apply qa | apply qb | apply qc | apply qd | apply qe | apply qf | apply qg | apply qh | apply qi | apply qj | apply qk) <;> intro hp) | ((first | refine ql rfl rfl (by decide +kernel) ?_ | refine qm _ rfl rfl (by decide +kernel) ?_) <;> have hp := True.intro)) <;> simp only [hp, g1, g2, g3, g5, z0, a1, a2, a3, a4, b0, b1, b1', b2, b2', b3, b3', hlt, List.length_append, List.append_assoc, List.cons_append, List.nil_append, go_sem])
          all_goals first | exact ih' | (clear ih ih'; omega)
      · have z0 : (0 : Int) < (i : Int) := by omega
        have hne : ¬ (s.take i).map partOf = [] := by
          intro e
          have h2 : ((s.take i).map partOf).length = min i s.length := by rw [List.length_map, List.length_take]
          rw [e, List.length_nil] at h2
          omega
        rw [if_neg hne] at ih'
        simp only [List.cons_append, List.nil_append] at ih'
        by_cases hlt : s[i].Lo < s[i].Hi
        · have hp : partOf s[i] = Lib.itoa s[i].Lo ++ (58 :: Lib.itoa s[i].Hi) := by rw [partOf, if_pos hlt]
          rw [hp] at ih'
          simp only [g1, g2, g3, g5, z0, a1, a2, a3, a4, b0, b1, b1', b2, b2', b3, b3', hlt, List.length_append, List.append_assoc, List.cons_append, List.nil_append, go_sem]
          repeat' ((first | ((first | apply qa | apply qb | apply qc | apply qd | apply qe | apply qf | apply qg | apply qh | apply qi | apply qj | apply qk) <;> intro hp) | ((first | refine ql rfl rfl (by decide +kernel) ?_ | refine qm _ rfl rfl (by decide +kernel) ?_) <;> have hp := True.intro)) <;> simp only [hp, g1, g2, g3, g5, z0, a1, a2, a3, a4, b0, b1, b1', b2, b2', b3, b3', hlt, List.length_append, List.append_assoc, List.cons_append, List.nil_append, go_sem])
          all_goals first | exact ih' | (clear ih ih'; omega)
        · have hp : partOf s[i] = Lib.itoa s[i].Lo := by rw [partOf, if_neg hlt]
          rw [hp] at ih'
          simp only [g1, g2, g3, g5, z0, a1, a2, a3, a4, b0, b1, b1', b2, b2', b3, b3', hlt, List.length_append, List.append_assoc, List.cons_append, List.nil_append, go_sem]
          repeat' ((first | ((first | apply qa | apply qb | apply qc | apply qd | apply qe | apply qf | apply qg | apply qh | apply qi | apply qj | apply qk) <;> intro hp) | ((first | refine ql rfl rfl (by decide +kernel) ?_ | refine qm _ rfl rfl (by decide +kernel) ?_) <;> have hp := True.intro)) <;> simp only [hp, g1, g2, g3, g5, z0, a1, a2, a3, a4, b0, b1, b1', b2, b2', b3, b3', hlt, List.length_append, List.append_assoc, List.cons_append, List.nil_append, go_sem])
          all_goals first | exact ih' | (clear ih ih'; omega)
    · have g1 : ¬ (i : Int) < s.length := by omega
      have ht : s.take i = s := List.take_of_length_le h
      simp only [g1, ht, go_sem]
      repeat' ((first | ((first | apply qa | apply qb | apply qc | apply qd | apply qe | apply qf | apply qg | apply qh | apply qi | apply qj | apply qk) <;> intro hp) | ((first | refine ql rfl rfl (by decide +kernel) ?_ | refine qm _ rfl rfl (by decide +kernel) ?_) <;> have hp := True.intro)) <;> simp only [hp, g1, ht, go_sem])
      simp only [fin_mk, finV, resL, resV1, resIn, endA, listIn, Option.some_or, Option.none_or, oneOrTup, go_sem]
      rw [← hr]
def flagNames : List (List UInt8) := [[115, 101, 101, 110], [97, 110, 115, 119, 101, 114, 101, 100], [102, 108, 97, 103, 103, 101, 100], [100, 101, 108, 101, 116, 101, 100], [100, 114, 97, 102, 116]]
def flagSel (b : Nat) : Nat → List (List UInt8)
  | 0 => []
  | i + 1 => flagSel b i ++ (if b.testBit i = true then [flagNames.getD i []] else [])
def flagsText (b : Int) : List UInt8 := if flagsOk b = true then 40 :: (Lib.join (flagSel b.toNat 5) [32] ++ [41]) else []
theorem flag_impl : ∀ b : Fin 32, ∀ i : Fin 5, ((IntKind.i64.wrap (BitVec.ofInt 64 (Int.fdiv (b.val : Int) (2 ^ (min i.val 64))) &&& BitVec.ofInt 64 1).toNat == 1) = b.val.testBit i.val) := by decide +kernel
theorem flag_spec : ∀ b : Fin 32, ∀ i : Fin 5, (((IntKind.i64.wrap ((b.val : Int).tdiv ((2 ^ i.val : Nat) : Int))).tmod 2 == 1) = b.val.testBit i.val) := by decide +kernel
theorem flag_names : ∀ i : Fin 5, flagNames[i.val]? = some (flagNames.getD i.val []) := by decide +kernel
theorem flag_sel_len : ∀ b : Fin 32, ∀ i : Fin 6, (flagSel b.val i.val).length ≤ 5 ∧ (Lib.join (flagSel b.val i.val) [32]).length ≤ 50 := by decide +kernel
theorem flag_sel_join : ∀ b : Fin 32, ∀ i : Fin 5, (Lib.join (flagSel b.val i.val) [32] = [] ↔ flagSel b.val i.val = []) := by decide +kernel
theorem flagsText_len (b : Int) : (flagsText b).length ≤ 60 := by
  unfold flagsText
  split
  · rename_i h
    have hb : 0 ≤ b ∧ b ≤ 31 := by simpa only [flagsOk, within, Bool.and_eq_true, decide_eq_true_eq] using h
    have := (flag_sel_len ⟨b.toNat, by omega⟩ ⟨5, by omega⟩).2
    simp only at this
    simp; omega
  · simp
open Classical in
noncomputable def spFlagNames : VM.Spec := { modes := [], run := fun | [] => some (.lst 1 ((flagNames).map eStr), []) | _ => none, need := [] }
attribute [go_sem] spFlagNames
theorem spFlagNames_in {ins : List V} {r : V} {outs : List V} (h : spFlagNames.run ins = some (r, outs)) : ins = [] ∧ .lst 1 ((flagNames).map eStr) = r ∧ outs = [] := by
  unfold spFlagNames at h
  simp only at h
  split at h
  · simp only [Option.some.injEq, Prod.mk.injEq] at h
    obtain ⟨h1, h2⟩ := h
    exact ⟨rfl, h1, h2.symm⟩
  · cases h
def T_impl_flagNames : Hints := ⟨lk [], lk [], lk [(0, []), (1, [0])], lk []⟩
noncomputable def Phi_impl_flagNames : Tab := lk []
attribute [go_sem] T_impl_flagNames Phi_impl_flagNames
theorem phi_impl_flagNames : ∀ f sp, Phi_impl_flagNames f = some sp → FnOk Tryz.prog f sp ∧ ∀ n ∈ sp.need, n ∈ ([] : List String) := phi_nil
theorem ok_impl_flagNames : FnOk Tryz.prog 74 spFlagNames := by
  refine fn_ok (Φ := Phi_impl_flagNames) (T := T_impl_flagNames) phi_impl_flagNames mixed Tryz.func74 rfl rfl rfl (by decide) ?_
  intro ins r outs hr hl
  clear hl
  have hs := spFlagNames_in hr
  clear hr
  obtain ⟨rfl, hr, rfl⟩ := hs
  simp only [spFlagNames, Tryz.f74, Go.VM.initS]
  simp only [go_sem]
  repeat' ((first | apply qa | apply qb | apply qc | apply qd | apply qe | apply qf | apply qg | apply qh | apply qi | apply qj | apply qk) <;> intro hp <;> simp only [hp, go_sem])
  simp only [fin_mk, finV, resL, resV1, resIn, endA, listIn, Option.some_or, Option.none_or, oneOrTup, go_sem]
  rw [← hr]
  rfl
def T_spec_l06Names : Hints := ⟨lk [], lk [], lk [(0, []), (1, [0])], lk []⟩
noncomputable def Phi_spec_l06Names : Tab := lk []
attribute [go_sem] T_spec_l06Names Phi_spec_l06Names
theorem phi_spec_l06Names : ∀ f sp, Phi_spec_l06Names f = some sp → FnOk Tryz.prog f sp ∧ ∀ n ∈ sp.need, n ∈ ([] : List String) := phi_nil
theorem ok_spec_l06Names : FnOk Tryz.prog 85 spFlagNames := by
  refine fn_ok (Φ := Phi_spec_l06Names) (T := T_spec_l06Names) phi_spec_l06Names mixed Tryz.func85 rfl rfl rfl (by decide) ?_
  intro ins r outs hr hl
  clear hl
  have hs := spFlagNames_in hr
  clear hr
  obtain ⟨rfl, hr, rfl⟩ := hs
  simp only [spFlagNames, Tryz.f85, Go.VM.initS]
  simp only [go_sem]
  repeat' ((first | apply qa | apply qb | apply qc | apply qd | apply qe | apply qf | apply qg | apply qh | apply qi | apply qj | apply qk) <;> intro hp <;> simp only [hp, go_sem])
  simp only [fin_mk, finV, resL, resV1, resIn, endA, listIn, Option.some_or, Option.none_or, oneOrTup, go_sem]
  rw [← hr]
  rfl
open Classical in
noncomputable def spFlagsText : VM.Spec := { modes := [.rd], run := fun | [.int .i64 n] => some (.str (flagsText n), []) | _ => none, need := [] }
attribute [go_sem] spFlagsText
theorem spFlagsText_in {ins : List V} {r : V} {outs : List V} (h : spFlagsText.run ins = some (r, outs)) : ∃ (n : Int), ins = [.int .i64 n] ∧ .str (flagsText n) = r ∧ outs = [] := by
  unfold spFlagsText at h
  simp only at h
  split at h
  · rename_i n
    simp only [Option.some.injEq, Prod.mk.injEq] at h
    obtain ⟨h1, h2⟩ := h
    exact ⟨n, rfl, h1, h2.symm⟩
  · cases h
def T_impl_FlagsText : Hints := ⟨lk [], lk [(5, [0, 3, 10, 11, 12])], lk [(0, [0]), (1, [0, 8]), (2, [2]), (3, [0, 3]), (4, [0, 3, 10, 11, 12]), (5, [0, 3, 10, 11, 12, 13]), (6, [0, 3, 4, 5, 10, 11, 12]), (7, [0, 3, 5, 10, 11, 12, 21]), (8, [0, 3, 10, 11, 12]), (9, [0, 3, 10, 11, 12]), (10, [2])], lk []⟩
noncomputable def Phi_impl_FlagsText : Tab := lk [(43, spFlagsOk), (74, spFlagNames), (75, spJoin)]
attribute [go_sem] T_impl_FlagsText Phi_impl_FlagsText
theorem phi_impl_FlagsText : ∀ f sp, Phi_impl_FlagsText f = some sp → FnOk Tryz.prog f sp ∧ ∀ n ∈ sp.need, n ∈ ([] : List String) := phi_cons ok_impl_FlagsOk (n0 rfl) (phi_cons ok_impl_flagNames (n0 rfl) (phi_cons ok_strings_Join (n0 rfl) (phi_nil)))
theorem ok_impl_FlagsText : FnOk Tryz.prog 28 spFlagsText := by
  refine fn_ok (Φ := Phi_impl_FlagsText) (T := T_impl_FlagsText) phi_impl_FlagsText mixed Tryz.func28 rfl rfl rfl (by decide) ?_
  intro ins r outs hr hl
  clear hl
  have hs := spFlagsText_in hr
  clear hr
  obtain ⟨n, rfl, hr, rfl⟩ := hs
  simp only [spFlagsText, Tryz.f28, Go.VM.initS]
  cases hk : flagsOk n with
  | false =>
    simp only [hk, go_sem]
    repeat' ((first | apply qa | apply qb | apply qc | apply qd | apply qe | apply qf | apply qg | apply qh | apply qi | apply qj | apply qk) <;> intro hp <;> simp only [hp, hk, go_sem])
    simp only [fin_mk, finV, resL, resV1, resIn, endA, listIn, Option.some_or, Option.none_or, oneOrTup, go_sem]
    rw [← hr]
    rw [flagsText, hk, if_neg (by simp)]
  | true =>
    have hb : 0 ≤ n ∧ n ≤ 31 := by simpa only [flagsOk, within, Bool.and_eq_true, decide_eq_true_eq] using hk
    obtain ⟨b, rfl⟩ : ∃ b : Nat, n = b := ⟨n.toNat, by omega⟩
    have hb32 : b < 32 := by omega
    simp only [flagsText, hk, if_true, Int.toNat_natCast] at hr
    simp only [hk, go_sem]
    repeat' ((first | apply qa | apply qb | apply qc | apply qd | apply qe | apply qf | apply qg | apply qh | apply qi | apply qj | apply qk) <;> intro hp <;> simp only [hp, hk, go_sem])
    refine loop_go (fun i : Nat => [(12, .int .i64 (i : Int))]) (fun i => [(0, ⟨.arr, 1, (flagSel b i).map eStr⟩)]) (fun i => 5 - i) (fun i => i ≤ 5) 0 (Nat.zero_le _) rfl rfl ?_
    intro i hi ih
    have hfl : flagNames.length = 5 := rfl
    have hsl := (flag_sel_len ⟨b, hb32⟩ ⟨i, by omega⟩).1
    simp only at hsl
    rcases Nat.lt_or_ge i 5 with h | h
    · have g1 : (i : Int) < (flagNames.length : Int) := by rw [hfl]; omega
      have g2 : (0 : Int) ≤ i := by omega
      have g2' : ¬ (i : Int) < 0 := by omega
      have g3 := flag_names ⟨i, h⟩
      have g4 := flag_impl ⟨b, hb32⟩ ⟨i, h⟩
      simp only at g3 g4
      have g5 := wrap_succ h (by omega)
      have b1 : ((flagSel b i).length + 1) * 16 ≤ 140737488355328 := by omega
      have b2 : (flagSel b i).length ≤ 9223372036854775806 := by omega
      have ih' := ih (i + 1) h (by omega)
      simp only [flagSel, List.map_append] at ih'
      cases ht : b.testBit i with
      | true =>
        rw [ht] at g4
        simp only [ht, if_true, List.map_cons, List.map_nil] at ih'
        simp only [g1, g2, g2', g3, g5, b1, b2, go_sem]
        repeat' ((first | apply qa | apply qb | apply qc | apply qd | apply qe | apply qf | apply qg | apply qh | apply qi | apply qj | apply qk) <;> intro hp <;> simp only [hp, g1, g2, g2', g3, g5, b1, b2, go_sem])
        all_goals first | exact ih' | exact absurd (g4.symm.trans hp) (by decide)
      | false =>
        rw [ht] at g4
        simp only [ht, Bool.false_eq_true, if_false, List.map_nil, List.append_nil] at ih'
        simp only [g1, g2, g2', g3, g5, b1, b2, go_sem]
        repeat' ((first | apply qa | apply qb | apply qc | apply qd | apply qe | apply qf | apply qg | apply qh | apply qi | apply qj | apply qk) <;> intro hp <;> simp only [hp, g1, g2, g2', g3, g5, b1, b2, go_sem])
        all_goals first | exact ih' | exact absurd (g4.symm.trans hp) (by decide)
    · have hi5 : i = 5 := by omega
      subst hi5
      have g1 : ¬ ((5 : Nat) : Int) < (flagNames.length : Int) := by rw [hfl]; omega
      have hj := (flag_sel_len ⟨b, hb32⟩ ⟨5, by omega⟩).2
      simp only at hj
      have j1 : (Lib.join (flagSel b 5) [32]).length ≤ 140737488355328 := by omega
      have j2 : (flagSel b 5).length ≤ 140737488355328 := by omega
      have j3 : 1 + (Lib.join (flagSel b 5) [32]).length ≤ 9223372036854775807 := by omega
      have j4 : (Lib.join (flagSel b 5) [32]).length + 1 ≤ 9223372036854775806 := by omega
      have j5 : (Lib.join (flagSel b 5) [32]).length ≤ 9223372036854775805 := by omega
      simp only [g1, j1, j2, j3, j4, j5, go_sem]
      repeat' ((first | apply qa | apply qb | apply qc | apply qd | apply qe | apply qf | apply qg | apply qh | apply qi | apply qj | apply qk) <;> intro hp <;> simp only [hp, g1, j1, j2, j3, j4, j5, go_sem])
      simp only [fin_mk, finV, resL, resV1, resIn, endA, listIn, Option.some_or, Option.none_or, oneOrTup, go_sem]
      rw [← hr]
def T_spec_FlagsText : Hints := ⟨lk [], lk [(7, [0, 3, 4, 5, 6])], lk [(0, [0]), (1, [0, 9]), (2, [2]), (3, [0, 3]), (4, [0, 3, 4]), (5, [0, 3, 4, 5]), (6, [0, 3, 4, 5, 6]), (7, [0, 3, 4, 5, 6, 14]), (9, [0, 3, 4, 5, 6, 21]), (10, [0, 3, 4, 5, 6, 23]), (11, [0, 3, 4, 5, 6]), (12, [0, 3, 4, 5, 6]), (13, [0, 3, 4, 5, 6]), (8, [0, 3, 4, 5, 6]), (14, [2])], lk []⟩
noncomputable def Phi_spec_FlagsText : Tab := lk [(40, spFlagsOk), (85, spFlagNames)]
attribute [go_sem] T_spec_FlagsText Phi_spec_FlagsText
theorem phi_spec_FlagsText : ∀ f sp, Phi_spec_FlagsText f = some sp → FnOk Tryz.prog f sp ∧ ∀ n ∈ sp.need, n ∈ ([] : List String) := phi_cons ok_spec_FlagsOk (n0 rfl) (phi_cons ok_spec_l06Names (n0 rfl) (phi_nil))
theorem ok_spec_FlagsText : FnOk Tryz.prog 36 spFlagsText := by
  refine fn_ok (Φ := Phi_spec_FlagsText) (T := T_spec_FlagsText) phi_spec_FlagsText mixed Tryz.func36 rfl rfl rfl (by decide) ?_
  intro ins r outs hr hl
  clear hl
  have hs := spFlagsText_in hr
  clear hr
  obtain ⟨n, rfl, hr, rfl⟩ := hs
  simp only [spFlagsText, Tryz.f36, Go.VM.initS]
  cases hk : flagsOk n with
  | false =>
    simp only [hk, go_sem]
    repeat' ((first | apply qa | apply qb | apply qc | apply qd | apply qe | apply qf | apply qg | apply qh | apply qi | apply qj | apply qk) <;> intro hp <;> simp only [hp, hk, go_sem])
    simp only [fin_mk, finV, resL, resV1, resIn, endA, listIn, Option.some_or, Option.none_or, oneOrTup, go_sem]
    rw [← hr]
    rw [flagsText, hk, if_neg (by simp)]
  | true =>
    have hb : 0 ≤ n ∧ n ≤ 31 := by simpa only [flagsOk, within, Bool.and_eq_true, decide_eq_true_eq] using hk
    obtain ⟨b, rfl⟩ : ∃ b : Nat, n = b := ⟨n.toNat, by omega⟩
    have hb32 : b < 32 := by omega
    simp only [flagsText, hk, if_true, Int.toNat_natCast] at hr
    simp only [hk, go_sem]
    repeat' ((first | apply qa | apply qb | apply qc | apply qd | apply qe | apply qf | apply qg | apply qh | apply qi | apply qj | apply qk) <;> intro hp <;> simp only [hp, hk, go_sem])
    refine loop_go (fun i : Nat => [(3, .str (Lib.join (flagSel b i) [32])), (5, .int .i64 ((2 ^ i : Nat) : Int)), (6, .int .i64 (i : Int))]) (fun _ => []) (fun i => 5 - i) (fun i => i ≤ 5) 0 (Nat.zero_le _) rfl rfl ?_
    intro i hi ih
    have hfl : flagNames.length = 5 := rfl
    have hsl := (flag_sel_len ⟨b, hb32⟩ ⟨i, by omega⟩).2
    simp only at hsl
    rcases Nat.lt_or_ge i 5 with h | h
    · have g1 : (i : Int) < (flagNames.length : Int) := by rw [hfl]; omega
      have g2 : (0 : Int) ≤ i := by omega
      have g3 := flag_names ⟨i, h⟩
      have g4 := flag_spec ⟨b, hb32⟩ ⟨i, h⟩
      have gj := flag_sel_join ⟨b, hb32⟩ ⟨i, h⟩
      simp only at g3 g4 gj
      have gn : (flagNames.getD i []).length ≤ 8 := by
        have : ∀ i : Fin 5, (flagNames.getD i.val []).length ≤ 8 := by decide +kernel
        exact this ⟨i, h⟩
      have g5 := wrap_succ h (by omega)
      have g6 : ¬ ((2 ^ i : Nat) : Int) = 0 := by
        have : 0 < 2 ^ i := Nat.pow_pos (by decide)
        omega
      have g7 : IntKind.i64.wrap (2 * ((2 ^ i : Nat) : Int)) = ((2 ^ (i + 1) : Nat) : Int) := by
        have : ∀ i : Fin 5, IntKind.i64.wrap (2 * ((2 ^ i.val : Nat) : Int)) = ((2 ^ (i.val + 1) : Nat) : Int) := by decide +kernel
        exact this ⟨i, h⟩
      have ih' := ih (i + 1) h (by omega)
      simp only [flagSel] at ih'
      generalize hJ : Lib.join (flagSel b i) [32] = J at *
      generalize hN : flagNames.getD i [] = N at *
      have b1 : J.length ≤ 9223372036854775806 := by omega
      have b2 : J.length + 1 + N.length ≤ 9223372036854775807 := by omega
      have b3 : J.length + N.length ≤ 9223372036854775807 := by omega
      cases ht : b.testBit i with
      | true =>
        rw [ht] at g4
        simp only [ht, if_true, join_snoc, hJ] at ih'
        by_cases hE : flagSel b i = []
        · have hJ0 : J = [] := gj.2 hE
          rw [if_pos hE] at ih'
          subst hJ0
          have e0 : (([] : List UInt8) != []) = false := rfl
          simp only [g1, g2, g3, g4, g5, g6, g7, e0, b1, b2, b3, go_sem]
          repeat' ((first | apply qa | apply qb | apply qc | apply qd | apply qe | apply qf | apply qg | apply qh | apply qi | apply qj | apply qk) <;> intro hp <;> simp only [hp, g1, g2, g3, g4, g5, g6, g7, e0, b1, b2, b3, go_sem])
          all_goals first | exact ih' | (clear ih ih'; simp at *; omega)
        · have hJ0 : ¬ J = [] := fun e => hE (gj.1 e)
          rw [if_neg hE] at ih'
          simp only [List.cons_append, List.nil_append] at ih'
          have e0 : (J != []) = true := by simpa using hJ0
          simp only [g1, g2, g3, g4, g5, g6, g7, e0, b1, b2, b3, List.length_append, List.append_assoc, go_sem]
          repeat' ((first | apply qa | apply qb | apply qc | apply qd | apply qe | apply qf | apply qg | apply qh | apply qi | apply qj | apply qk) <;> intro hp <;> simp only [hp, g1, g2, g3, g4, g5, g6, g7, e0, b1, b2, b3, List.length_append, List.append_assoc, go_sem])
          all_goals first | exact ih' | (clear ih ih'; omega)
      | false =>
        rw [ht] at g4
        simp only [ht, Bool.false_eq_true, if_false, List.append_nil, hJ] at ih'
        simp only [g1, g2, g3, g4, g5, g6, g7, go_sem]
        repeat' ((first | apply qa | apply qb | apply qc | apply qd | apply qe | apply qf | apply qg | apply qh | apply qi | apply qj | apply qk) <;> intro hp <;> simp only [hp, g1, g2, g3, g4, g5, g6, g7, go_sem])
        exact ih'
    · have hi5 : i = 5 := by omega
      subst hi5
      have g1 : ¬ ((5 : Nat) : Int) < (flagNames.length : Int) := by rw [hfl]; omega
      have j3 : 1 + (Lib.join (flagSel b 5) [32]).length ≤ 9223372036854775807 := by omega
      have j4 : (Lib.join (flagSel b 5) [32]).length + 1 ≤ 9223372036854775806 := by omega
      have j5 : (Lib.join (flagSel b 5) [32]).length ≤ 9223372036854775805 := by omega
      simp only [g1, j3, j4, j5, go_sem]
      repeat' ((first | apply qa | apply qb | apply qc | apply qd | apply qe | apply qf | apply qg | apply qh | apply qi | apply qj | apply qk) <;> intro hp <;> simp only [hp, g1, j3, j4, j5, go_sem])
      simp only [fin_mk, finV, resL, resV1, resIn, endA, listIn, Option.some_or, Option.none_or, oneOrTup, go_sem]
      rw [← hr]
end Go.Proofs.YtonjbbfgdloljaaGreatDoor.L

namespace Go.Proofs.YtonjbbfgdloljaaGreatDoor.L
open Go Go.VM
set_option maxRecDepth 100000
set_option maxHeartbeats 4000000
set_option linter.unusedSimpArgs false
set_option linter.unusedVariables false
def lineOk (x : Line) : Bool :=
  if x.Kind = 1 then within x.Num 0 30 && (x.Uid == 0 && x.Flags == 0 && x.Mod == 0 && x.Set.isEmpty && !x.All)
  else if x.Kind = 2 then within x.Num 1 30 && (x.Uid == 0 && x.Flags == 0 && x.Mod == 0 && x.Set.isEmpty && !x.All)
  else if x.Kind = 3 then within x.Num 1 30 && within x.Uid 1 9999 && flagsOk x.Flags && within x.Mod 1 100000 && (x.Set.isEmpty && !x.All)
  else if x.Kind = 4 then setOk x.Set && !x.Set.isEmpty && (x.Num == 0 && x.Uid == 0 && x.Flags == 0 && x.Mod == 0 && !x.All)
  else if x.Kind = 5 then within x.Num 1 9999 && within x.Mod 1 100000 && (x.Uid == 0 && x.Flags == 0 && x.Set.isEmpty)
  else if x.Kind = 6 then setOk x.Set && (x.Num == 0 && x.Uid == 0 && x.Flags == 0 && x.Mod == 0 && !x.All)
  else if x.Kind = 8 then within x.Num 1 9 && (x.Uid == 0 && x.Flags == 0 && x.Mod == 0 && x.Set.isEmpty && !x.All)
  else if x.Kind = 7 ∨ x.Kind = 9 then x.Num == 0 && x.Uid == 0 && x.Flags == 0 && x.Mod == 0 && x.Set.isEmpty && !x.All
  else false
theorem setOk_nil : setOk [] = true := rfl
theorem setOk_ne {S : List Range} (h : setOk S = false) : ¬ S = [] := by rintro rfl; cases h
open Classical in
noncomputable def spLineOk : VM.Spec := { modes := [.rd], run := fun | [x'] => (Line.dec x').bind fun x => if x.le 4194304 then some (.bool (lineOk x), []) else none | _ => none, need := [] }
attribute [go_sem] spLineOk
theorem spLineOk_in {ins : List V} {r : V} {outs : List V} (h : spLineOk.run ins = some (r, outs)) : ∃ (x : Line), ins = [Line.enc x] ∧ (x.le 4194304) ∧ .bool (lineOk x) = r ∧ outs = [] := by
  unfold spLineOk at h
  simp only at h
  split at h
  · rename_i x'
    simp only [Option.bind_eq_some_iff] at h
    obtain ⟨x, h_x, h⟩ := h
    split at h
    case isFalse => cases h
    rename_i hc
    simp only [Option.some.injEq, Prod.mk.injEq] at h
    obtain ⟨h1, h2⟩ := h
    have h_x := Line.dec_some h_x
    subst h_x
    exact ⟨x, rfl, hc, h1, h2.symm⟩
  · cases h
def T_impl_LineOk : Hints := ⟨lk [], lk [], lk [(0, [1]), (1, [1, 3]), (2, [1, 3]), (3, [1, 3, 8]), (5, [1, 3, 8, 17]), (6, [3, 4]), (7, [3, 4]), (8, [1, 3, 8, 23]), (9, [3, 4]), (10, [3, 4]), (11, [1, 3, 8, 29]), (12, [3, 4]), (13, [3, 4]), (14, [1, 3, 8, 53]), (15, [3, 4]), (16, [3, 4]), (17, [1, 3, 8, 65]), (18, [3, 4]), (19, [3, 4]), (20, [1, 3, 8, 78]), (21, [3, 4]), (22, [3, 4]), (23, [1, 3, 84]), (24, [3, 4]), (25, [3, 4]), (4, [3, 4]), (26, [4, 5]), (27, [2])], lk []⟩
noncomputable def Phi_impl_LineOk : Tab := lk [(41, spWithin), (42, spUid), (44, spMod), (43, spFlagsOk), (45, spSetOk)]
attribute [go_sem] T_impl_LineOk Phi_impl_LineOk
theorem phi_impl_LineOk : ∀ f sp, Phi_impl_LineOk f = some sp → FnOk Tryz.prog f sp ∧ ∀ n ∈ sp.need, n ∈ ([] : List String) := phi_cons ok_impl_within (n0 rfl) (phi_cons ok_impl_isUid (n0 rfl) (phi_cons ok_impl_isMod (n0 rfl) (phi_cons ok_impl_FlagsOk (n0 rfl) (phi_cons ok_impl_SetOk (n0 rfl) (phi_nil)))))
theorem ok_impl_LineOk : FnOk Tryz.prog 13 spLineOk := by
  refine fn_ok (Φ := Phi_impl_LineOk) (T := T_impl_LineOk) phi_impl_LineOk mixed Tryz.func13 rfl rfl rfl (by decide) ?_
  intro ins r outs hr hl
  clear hl
  have hs := spLineOk_in hr
  clear hr
  obtain ⟨x, rfl, hc, hr, rfl⟩ := hs
  simp only [spLineOk, Tryz.f13, Go.VM.initS]
  have hs : x.Set.length ≤ 4194304 := hc.1
  clear hc
  obtain ⟨K, N, U, F, M, S, A⟩ := x
  simp only at hs
  have hk : K = 1 ∨ K = 2 ∨ K = 3 ∨ K = 4 ∨ K = 5 ∨ K = 6 ∨ K = 7 ∨ K = 8 ∨ K = 9 ∨ (K < 1 ∨ 9 < K) := by omega
  have l1 : ((S.length : Int) == 0) = S.isEmpty := by cases S <;> simp <;> omega
  have l2 : decide ((0 : Int) < (S.length : Int)) = !S.isEmpty := by cases S <;> simp <;> omega
  rcases hk with rfl | rfl | rfl | rfl | rfl | rfl | rfl | rfl | rfl | hk
  case inr.inr.inr.inr.inr.inr.inr.inr.inr =>
    have e1 : (K == 1) = false := by rw [beq_eq_false_iff_ne]; omega
    have e2 : (K == 2) = false := by rw [beq_eq_false_iff_ne]; omega
    have e3 : (K == 3) = false := by rw [beq_eq_false_iff_ne]; omega
    have e4 : (K == 4) = false := by rw [beq_eq_false_iff_ne]; omega
    have e5 : (K == 5) = false := by rw [beq_eq_false_iff_ne]; omega
    have e6 : (K == 6) = false := by rw [beq_eq_false_iff_ne]; omega
    have e7 : (K == 7) = false := by rw [beq_eq_false_iff_ne]; omega
    have e8 : (K == 8) = false := by rw [beq_eq_false_iff_ne]; omega
    have e9 : (K == 9) = false := by rw [beq_eq_false_iff_ne]; omega
    have e10 : within K 1 9 = false := by simp only [within, Bool.and_eq_false_iff, decide_eq_false_iff_not]; omega
    have h1 : lineOk ⟨K, N, U, F, M, S, A⟩ = false := by
      unfold lineOk; simp only; split <;> (try omega); split <;> (try omega); split <;> (try omega); split <;> (try omega); split <;> (try omega); split <;> (try omega); split <;> (try omega); split <;> (try omega); rfl
    rw [h1] at hr
    simp only [e1, e2, e3, e4, e5, e6, e7, e8, e9, e10, l1, l2, hs, go_sem]
    repeat' ((first | apply qa | apply qb | apply qc | apply qd | apply qe | apply qf | apply qg | apply qh | apply qi | apply qj | apply qk) <;> intro hp <;> simp only [hp, e1, e2, e3, e4, e5, e6, e7, e8, e9, e10, l1, l2, hs, go_sem])
    all_goals (simp only [fin_mk, finV, resL, resV1, resIn, endA, listIn, Option.some_or, Option.none_or, oneOrTup, go_sem]; rw [← hr])
  case inl =>
    have hL : lineOk ⟨1, N, U, F, M, S, A⟩ = (within N 0 30 && (U == 0 && F == 0 && M == 0 && S.isEmpty && !A)) := rfl
    rw [hL] at hr
    clear hL
    simp only [l1, l2, hs, go_sem]
    repeat' ((first | apply qa | apply qb | apply qc | apply qd | apply qe | apply qf | apply qg | apply qh | apply qi | apply qj | apply qk) <;> intro hp <;> simp only [hp, l1, l2, hs, go_sem])
    all_goals (simp only [fin_mk, finV, resL, resV1, resIn, endA, listIn, Option.some_or, Option.none_or, oneOrTup, go_sem]; rw [← hr]; clear hr l1 l2 hs; simp_all [setOk_ne])
  case inr.inl =>
    have hL : lineOk ⟨2, N, U, F, M, S, A⟩ = (within N 1 30 && (U == 0 && F == 0 && M == 0 && S.isEmpty && !A)) := rfl
    rw [hL] at hr
    clear hL
    simp only [l1, l2, hs, go_sem]
    repeat' ((first | apply qa | apply qb | apply qc | apply qd | apply qe | apply qf | apply qg | apply qh | apply qi | apply qj | apply qk) <;> intro hp <;> simp only [hp, l1, l2, hs, go_sem])
    all_goals (simp only [fin_mk, finV, resL, resV1, resIn, endA, listIn, Option.some_or, Option.none_or, oneOrTup, go_sem]; rw [← hr]; clear hr l1 l2 hs; simp_all [setOk_ne])
  case inr.inr.inl =>
    have hL : lineOk ⟨3, N, U, F, M, S, A⟩ = (within N 1 30 && within U 1 9999 && flagsOk F && within M 1 100000 && (S.isEmpty && !A)) := rfl
    rw [hL] at hr
    clear hL
    simp only [l1, l2, hs, go_sem]
    repeat' ((first | apply qa | apply qb | apply qc | apply qd | apply qe | apply qf | apply qg | apply qh | apply qi | apply qj | apply qk) <;> intro hp <;> simp only [hp, l1, l2, hs, go_sem])
    all_goals (simp only [fin_mk, finV, resL, resV1, resIn, endA, listIn, Option.some_or, Option.none_or, oneOrTup, go_sem]; rw [← hr]; clear hr l1 l2 hs; simp_all [setOk_ne])
  case inr.inr.inr.inl =>
    have hL : lineOk ⟨4, N, U, F, M, S, A⟩ = (setOk S && !S.isEmpty && (N == 0 && U == 0 && F == 0 && M == 0 && !A)) := rfl
    rw [hL] at hr
    clear hL
    simp only [l1, l2, hs, go_sem]
    repeat' ((first | apply qa | apply qb | apply qc | apply qd | apply qe | apply qf | apply qg | apply qh | apply qi | apply qj | apply qk) <;> intro hp <;> simp only [hp, l1, l2, hs, go_sem])
    all_goals (simp only [fin_mk, finV, resL, resV1, resIn, endA, listIn, Option.some_or, Option.none_or, oneOrTup, go_sem]; rw [← hr]; clear hr l1 l2 hs; simp_all [setOk_ne])
  case inr.inr.inr.inr.inl =>
    have hL : lineOk ⟨5, N, U, F, M, S, A⟩ = (within N 1 9999 && within M 1 100000 && (U == 0 && F == 0 && S.isEmpty)) := rfl
    rw [hL] at hr
    clear hL
    simp only [l1, l2, hs, go_sem]
    repeat' ((first | apply qa | apply qb | apply qc | apply qd | apply qe | apply qf | apply qg | apply qh | apply qi | apply qj | apply qk) <;> intro hp <;> simp only [hp, l1, l2, hs, go_sem])
    all_goals (simp only [fin_mk, finV, resL, resV1, resIn, endA, listIn, Option.some_or, Option.none_or, oneOrTup, go_sem]; rw [← hr]; clear hr l1 l2 hs; simp_all [setOk_ne])
  case inr.inr.inr.inr.inr.inl =>
    have hL : lineOk ⟨6, N, U, F, M, S, A⟩ = (setOk S && (N == 0 && U == 0 && F == 0 && M == 0 && !A)) := rfl
    rw [hL] at hr
    clear hL
    simp only [l1, l2, hs, go_sem]
    repeat' ((first | apply qa | apply qb | apply qc | apply qd | apply qe | apply qf | apply qg | apply qh | apply qi | apply qj | apply qk) <;> intro hp <;> simp only [hp, l1, l2, hs, go_sem])
    all_goals (simp only [fin_mk, finV, resL, resV1, resIn, endA, listIn, Option.some_or, Option.none_or, oneOrTup, go_sem]; rw [← hr]; clear hr l1 l2 hs; simp_all [setOk_ne])
  case inr.inr.inr.inr.inr.inr.inl =>
    have hL : lineOk ⟨7, N, U, F, M, S, A⟩ = (N == 0 && U == 0 && F == 0 && M == 0 && S.isEmpty && !A) := rfl
    rw [hL] at hr
    clear hL
    simp only [l1, l2, hs, go_sem]
    repeat' ((first | apply qa | apply qb | apply qc | apply qd | apply qe | apply qf | apply qg | apply qh | apply qi | apply qj | apply qk) <;> intro hp <;> simp only [hp, l1, l2, hs, go_sem])
    all_goals (simp only [fin_mk, finV, resL, resV1, resIn, endA, listIn, Option.some_or, Option.none_or, oneOrTup, go_sem]; rw [← hr]; clear hr l1 l2 hs; simp_all [setOk_ne])
  case inr.inr.inr.inr.inr.inr.inr.inl =>
    have hL : lineOk ⟨8, N, U, F, M, S, A⟩ = (within N 1 9 && (U == 0 && F == 0 && M == 0 && S.isEmpty && !A)) := rfl
    rw [hL] at hr
    clear hL
    simp only [l1, l2, hs, go_sem]
    repeat' ((first | apply qa | apply qb | apply qc | apply qd | apply qe | apply qf | apply qg | apply qh | apply qi | apply qj | apply qk) <;> intro hp <;> simp only [hp, l1, l2, hs, go_sem])
    all_goals (simp only [fin_mk, finV, resL, resV1, resIn, endA, listIn, Option.some_or, Option.none_or, oneOrTup, go_sem]; rw [← hr]; clear hr l1 l2 hs; simp_all [setOk_ne])
  case inr.inr.inr.inr.inr.inr.inr.inr.inl =>
    have hL : lineOk ⟨9, N, U, F, M, S, A⟩ = (N == 0 && U == 0 && F == 0 && M == 0 && S.isEmpty && !A) := rfl
    rw [hL] at hr
    clear hL
    simp only [l1, l2, hs, go_sem]
    repeat' ((first | apply qa | apply qb | apply qc | apply qd | apply qe | apply qf | apply qg | apply qh | apply qi | apply qj | apply qk) <;> intro hp <;> simp only [hp, l1, l2, hs, go_sem])
    all_goals (simp only [fin_mk, finV, resL, resV1, resIn, endA, listIn, Option.some_or, Option.none_or, oneOrTup, go_sem]; rw [← hr]; clear hr l1 l2 hs; simp_all [setOk_ne])
def T_spec_LineOk : Hints := ⟨lk [], lk [], lk [(0, [1]), (1, [1, 15]), (2, [2]), (3, [1, 3]), (4, [1, 3, 4]), (5, [1, 3, 4, 5]), (6, [1, 72]), (7, [2]), (8, [1, 74]), (9, [1, 74, 75]), (10, [2]), (11, [1, 74, 80]), (12, [2]), (13, [1, 74, 85]), (14, [2]), (15, [1, 74, 105]), (16, [2]), (17, [1, 74, 115]), (18, [2]), (19, [1, 126]), (20, [2]), (21, [2])], lk []⟩
noncomputable def Phi_spec_LineOk : Tab := lk [(38, spWithin), (40, spFlagsOk), (39, spSetOk)]
attribute [go_sem] T_spec_LineOk Phi_spec_LineOk
theorem phi_spec_LineOk : ∀ f sp, Phi_spec_LineOk f = some sp → FnOk Tryz.prog f sp ∧ ∀ n ∈ sp.need, n ∈ ([] : List String) := phi_cons ok_spec_l01In (n0 rfl) (phi_cons ok_spec_FlagsOk (n0 rfl) (phi_cons ok_spec_SetOk (n0 rfl) (phi_nil)))
theorem ok_spec_LineOk : FnOk Tryz.prog 12 spLineOk := by
  refine fn_ok (Φ := Phi_spec_LineOk) (T := T_spec_LineOk) phi_spec_LineOk mixed Tryz.func12 rfl rfl rfl (by decide) ?_
  intro ins r outs hr hl
  clear hl
  have hs := spLineOk_in hr
  clear hr
  obtain ⟨x, rfl, hc, hr, rfl⟩ := hs
  simp only [spLineOk, Tryz.f12, Go.VM.initS]
  have hs : x.Set.length ≤ 4194304 := hc.1
  clear hc
  obtain ⟨K, N, U, F, M, S, A⟩ := x
  simp only at hs
  have hk : K = 1 ∨ K = 2 ∨ K = 3 ∨ K = 4 ∨ K = 5 ∨ K = 6 ∨ K = 7 ∨ K = 8 ∨ K = 9 ∨ (K < 1 ∨ 9 < K) := by omega
  have l1 : ((S.length : Int) == 0) = S.isEmpty := by cases S <;> simp <;> omega
  have l2 : decide ((0 : Int) < (S.length : Int)) = !S.isEmpty := by cases S <;> simp <;> omega
  rcases hk with rfl | rfl | rfl | rfl | rfl | rfl | rfl | rfl | rfl | hk
  case inr.inr.inr.inr.inr.inr.inr.inr.inr =>
    have e1 : (K == 1) = false := by rw [beq_eq_false_iff_ne]; omega
    have e2 : (K == 2) = false := by rw [beq_eq_false_iff_ne]; omega
    have e3 : (K == 3) = false := by rw [beq_eq_false_iff_ne]; omega
    have e4 : (K == 4) = false := by rw [beq_eq_false_iff_ne]; omega
    have e5 : (K == 5) = false := by rw [beq_eq_false_iff_ne]; omega
    have e6 : (K == 6) = false := by rw [beq_eq_false_iff_ne]; omega
    have e7 : (K == 7) = false := by rw [beq_eq_false_iff_ne]; omega
    have e8 : (K == 8) = false := by rw [beq_eq_false_iff_ne]; omega
    have e9 : (K == 9) = false := by rw [beq_eq_false_iff_ne]; omega
    have e10 : within K 1 9 = false := by simp only [within, Bool.and_eq_false_iff, decide_eq_false_iff_not]; omega
    have h1 : lineOk ⟨K, N, U, F, M, S, A⟩ = false := by
      unfold lineOk; simp only; split <;> (try omega); split <;> (try omega); split <;> (try omega); split <;> (try omega); split <;> (try omega); split <;> (try omega); split <;> (try omega); split <;> (try omega); rfl
    rw [h1] at hr
    simp only [e1, e2, e3, e4, e5, e6, e7, e8, e9, e10, l1, l2, hs, go_sem]
    repeat' ((first | apply qa | apply qb | apply qc | apply qd | apply qe | apply qf | apply qg | apply qh | apply qi | apply qj | apply qk) <;> intro hp <;> simp only [hp, e1, e2, e3, e4, e5, e6, e7, e8, e9, e10, l1, l2, hs, go_sem])
    all_goals (simp only [fin_mk, finV, resL, resV1, resIn, endA, listIn, Option.some_or, Option.none_or, oneOrTup, go_sem]; rw [← hr])
  case inl =>
    have hL : lineOk ⟨1, N, U, F, M, S, A⟩ = (within N 0 30 && (U == 0 && F == 0 && M == 0 && S.isEmpty && !A)) := rfl
    rw [hL] at hr
    clear hL
    have e10 : within 1 1 9 = true := rfl
    simp only [e10, l1, l2, hs, go_sem]
    repeat' ((first | apply qa | apply qb | apply qc | apply qd | apply qe | apply qf | apply qg | apply qh | apply qi | apply qj | apply qk) <;> intro hp <;> simp only [hp, e10, l1, l2, hs, go_sem])
    all_goals (simp only [fin_mk, finV, resL, resV1, resIn, endA, listIn, Option.some_or, Option.none_or, oneOrTup, go_sem]; rw [← hr]; clear hr l1 l2 hs; simp_all [setOk_ne])
  case inr.inl =>
    have hL : lineOk ⟨2, N, U, F, M, S, A⟩ = (within N 1 30 && (U == 0 && F == 0 && M == 0 && S.isEmpty && !A)) := rfl
    rw [hL] at hr
    clear hL
    have e10 : within 2 1 9 = true := rfl
    simp only [e10, l1, l2, hs, go_sem]
    repeat' ((first | apply qa | apply qb | apply qc | apply qd | apply qe | apply qf | apply qg | apply qh | apply qi | apply qj | apply qk) <;> intro hp <;> simp only [hp, e10, l1, l2, hs, go_sem])
    all_goals (simp only [fin_mk, finV, resL, resV1, resIn, endA, listIn, Option.some_or, Option.none_or, oneOrTup, go_sem]; rw [← hr]; clear hr l1 l2 hs; simp_all [setOk_ne])
  case inr.inr.inl =>
    have hL : lineOk ⟨3, N, U, F, M, S, A⟩ = (within N 1 30 && within U 1 9999 && flagsOk F && within M 1 100000 && (S.isEmpty && !A)) := rfl
    rw [hL] at hr
    clear hL
    have e10 : within 3 1 9 = true := rfl
    simp only [e10, l1, l2, hs, go_sem]
    repeat' ((first | apply qa | apply qb | apply qc | apply qd | apply qe | apply qf | apply qg | apply qh | apply qi | apply qj | apply qk) <;> intro hp <;> simp only [hp, e10, l1, l2, hs, go_sem])
    all_goals (simp only [fin_mk, finV, resL, resV1, resIn, endA, listIn, Option.some_or, Option.none_or, oneOrTup, go_sem]; rw [← hr]; clear hr l1 l2 hs; simp_all [setOk_ne])
  case inr.inr.inr.inl =>
    have hL : lineOk ⟨4, N, U, F, M, S, A⟩ = (setOk S && !S.isEmpty && (N == 0 && U == 0 && F == 0 && M == 0 && !A)) := rfl
    rw [hL] at hr
    clear hL
    have e10 : within 4 1 9 = true := rfl
    simp only [e10, l1, l2, hs, go_sem]
    repeat' ((first | apply qa | apply qb | apply qc | apply qd | apply qe | apply qf | apply qg | apply qh | apply qi | apply qj | apply qk) <;> intro hp <;> simp only [hp, e10, l1, l2, hs, go_sem])
    all_goals (simp only [fin_mk, finV, resL, resV1, resIn, endA, listIn, Option.some_or, Option.none_or, oneOrTup, go_sem]; rw [← hr]; clear hr l1 l2 hs; simp_all [setOk_ne])
  case inr.inr.inr.inr.inl =>
    have hL : lineOk ⟨5, N, U, F, M, S, A⟩ = (within N 1 9999 && within M 1 100000 && (U == 0 && F == 0 && S.isEmpty)) := rfl
    rw [hL] at hr
    clear hL
    have e10 : within 5 1 9 = true := rfl
    simp only [e10, l1, l2, hs, go_sem]
    repeat' ((first | apply qa | apply qb | apply qc | apply qd | apply qe | apply qf | apply qg | apply qh | apply qi | apply qj | apply qk) <;> intro hp <;> simp only [hp, e10, l1, l2, hs, go_sem])
    all_goals (simp only [fin_mk, finV, resL, resV1, resIn, endA, listIn, Option.some_or, Option.none_or, oneOrTup, go_sem]; rw [← hr]; clear hr l1 l2 hs; simp_all [setOk_ne])
  case inr.inr.inr.inr.inr.inl =>
    have hL : lineOk ⟨6, N, U, F, M, S, A⟩ = (setOk S && (N == 0 && U == 0 && F == 0 && M == 0 && !A)) := rfl
    rw [hL] at hr
    clear hL
    have e10 : within 6 1 9 = true := rfl
    simp only [e10, l1, l2, hs, go_sem]
    repeat' ((first | apply qa | apply qb | apply qc | apply qd | apply qe | apply qf | apply qg | apply qh | apply qi | apply qj | apply qk) <;> intro hp <;> simp only [hp, e10, l1, l2, hs, go_sem])
    all_goals (simp only [fin_mk, finV, resL, resV1, resIn, endA, listIn, Option.some_or, Option.none_or, oneOrTup, go_sem]; rw [← hr]; clear hr l1 l2 hs; simp_all [setOk_ne])
  case inr.inr.inr.inr.inr.inr.inl =>
    have hL : lineOk ⟨7, N, U, F, M, S, A⟩ = (N == 0 && U == 0 && F == 0 && M == 0 && S.isEmpty && !A) := rfl
    rw [hL] at hr
    clear hL
    have e10 : within 7 1 9 = true := rfl
    simp only [e10, l1, l2, hs, go_sem]
    repeat' ((first | apply qa | apply qb | apply qc | apply qd | apply qe | apply qf | apply qg | apply qh | apply qi | apply qj | apply qk) <;> intro hp <;> simp only [hp, e10, l1, l2, hs, go_sem])
    all_goals (simp only [fin_mk, finV, resL, resV1, resIn, endA, listIn, Option.some_or, Option.none_or, oneOrTup, go_sem]; rw [← hr]; clear hr l1 l2 hs; simp_all [setOk_ne])
  case inr.inr.inr.inr.inr.inr.inr.inl =>
    have hL : lineOk ⟨8, N, U, F, M, S, A⟩ = (within N 1 9 && (U == 0 && F == 0 && M == 0 && S.isEmpty && !A)) := rfl
    rw [hL] at hr
    clear hL
    have e10 : within 8 1 9 = true := rfl
    simp only [e10, l1, l2, hs, go_sem]
    repeat' ((first | apply qa | apply qb | apply qc | apply qd | apply qe | apply qf | apply qg | apply qh | apply qi | apply qj | apply qk) <;> intro hp <;> simp only [hp, e10, l1, l2, hs, go_sem])
    all_goals (simp only [fin_mk, finV, resL, resV1, resIn, endA, listIn, Option.some_or, Option.none_or, oneOrTup, go_sem]; rw [← hr]; clear hr l1 l2 hs; simp_all [setOk_ne])
  case inr.inr.inr.inr.inr.inr.inr.inr.inl =>
    have hL : lineOk ⟨9, N, U, F, M, S, A⟩ = (N == 0 && U == 0 && F == 0 && M == 0 && S.isEmpty && !A) := rfl
    rw [hL] at hr
    clear hL
    have e10 : within 9 1 9 = true := rfl
    simp only [e10, l1, l2, hs, go_sem]
    repeat' ((first | apply qa | apply qb | apply qc | apply qd | apply qe | apply qf | apply qg | apply qh | apply qi | apply qj | apply qk) <;> intro hp <;> simp only [hp, e10, l1, l2, hs, go_sem])
    all_goals (simp only [fin_mk, finV, resL, resV1, resIn, endA, listIn, Option.some_or, Option.none_or, oneOrTup, go_sem]; rw [← hr]; clear hr l1 l2 hs; simp_all [setOk_ne])
end Go.Proofs.YtonjbbfgdloljaaGreatDoor.L

namespace Go.Proofs.YtonjbbfgdloljaaGreatDoor.L
open Go Go.VM
set_option maxRecDepth 100000
set_option maxHeartbeats 4000000
set_option linter.unusedSimpArgs false
set_option linter.unusedVariables false
def short (s : List UInt8) : List UInt8 := varN s.length ++ s
theorem boxName_len {s : List UInt8} (h : boxName s = true) : s.length ≤ 8 := by
  simp only [boxName, within, Bool.and_eq_true, decide_eq_true_eq] at h; omega
theorem mailOk_len {s : List UInt8} (h : mailOk s = true) : s.length ≤ 200 := by
  simp only [mailOk, within, Bool.and_eq_true, decide_eq_true_eq] at h; omega
theorem editOk_parts {x : Edit} (h : editOk x = true) : (1 ≤ x.Kind ∧ x.Kind ≤ 8) ∧ x.Box.length ≤ 8 ∧ x.To.length ≤ 8 ∧ setOk x.Set = true ∧ (0 ≤ x.How ∧ x.How ≤ 3) ∧ (0 ≤ x.Bits ∧ x.Bits ≤ 31) ∧ (-1 ≤ x.Since ∧ x.Since ≤ 100000) ∧ x.Text.length ≤ 200 := by
  simp only [editOk, Bool.and_eq_true] at h
  obtain ⟨⟨⟨h1, h2⟩, h3⟩, ⟨⟨⟨h4, h5⟩, h6⟩, h7⟩, h8⟩ := h
  refine ⟨by simpa only [within, Bool.and_eq_true, decide_eq_true_eq] using h1, boxName_len h2, ?_, ?_, ?_, ?_, ?_, ?_⟩
  · simp only [eTo, Bool.or_eq_true, Bool.and_eq_true] at h4
    rcases h4 with ⟨h, _⟩ | ⟨_, h⟩
    · simp only [beq_iff_eq] at h; rw [h]; simp
    · exact boxName_len h
  · simp only [eSet, Bool.or_eq_true, Bool.and_eq_true] at h5
    rcases h5 with h | ⟨_, h⟩
    · rw [List.isEmpty_iff.1 h]; rfl
    · exact h
  · simp only [eHow, Bool.or_eq_true, Bool.and_eq_true, beq_iff_eq, within, decide_eq_true_eq] at h6
    omega
  · simp only [eBits, flagsOk, Bool.or_eq_true, Bool.and_eq_true, beq_iff_eq, within, decide_eq_true_eq] at h7
    omega
  · simp only [sinceOk] at h3
    split at h3
    · simp only [Bool.and_eq_true, within, decide_eq_true_eq] at h3; omega
    · split at h3
      · simp only [Bool.and_eq_true, within, decide_eq_true_eq] at h3; omega
      · simp only [beq_iff_eq] at h3; omega
  · simp only [eText, Bool.or_eq_true, Bool.and_eq_true] at h8
    rcases h8 with ⟨h, _⟩ | ⟨_, h⟩
    · simp only [beq_iff_eq] at h; rw [h]; simp
    · exact mailOk_len h
def editText (x : Edit) : List UInt8 :=
  if editOk x = true then [UInt8.ofNat x.Kind.toNat] ++ short x.Box ++ short x.To ++ short (setText x.Set) ++ [UInt8.ofNat x.How.toNat, UInt8.ofNat x.Bits.toNat] ++ varN (x.Since + 1).toNat ++ short x.Text else []
open Classical in
noncomputable def spEditText : VM.Spec := { modes := [.rd], run := fun | [x'] => (Edit.dec x').bind fun x => if x.le 4194304 then some (.tup [.str (editText x), .bool (editOk x)], []) else none | _ => none, need := ["internal/strconv.uint64pow10"] }
attribute [go_sem] spEditText
theorem spEditText_in {ins : List V} {r : V} {outs : List V} (h : spEditText.run ins = some (r, outs)) : ∃ (x : Edit), ins = [Edit.enc x] ∧ (x.le 4194304) ∧ .tup [.str (editText x), .bool (editOk x)] = r ∧ outs = [] := by
  unfold spEditText at h
  simp only at h
  split at h
  · rename_i x'
    simp only [Option.bind_eq_some_iff] at h
    obtain ⟨x, h_x, h⟩ := h
    split at h
    case isFalse => cases h
    rename_i hc
    simp only [Option.some.injEq, Prod.mk.injEq] at h
    obtain ⟨h1, h2⟩ := h
    have h_x := Edit.dec_some h_x
    subst h_x
    exact ⟨x, rfl, hc, h1, h2.symm⟩
  · cases h
end Go.Proofs.YtonjbbfgdloljaaGreatDoor.L

namespace Go.Proofs.YtonjbbfgdloljaaGreatDoor.L
open Go Go.VM
set_option maxRecDepth 100000
set_option maxHeartbeats 4000000
set_option linter.unusedSimpArgs false
set_option linter.unusedVariables false
def textL : Nat → Cur → List UInt8 → List UInt8 × Cur
  | 0, c, a => (a, c)
  | k + 1, c, a => textL k (bytO c).2 (a ++ [UInt8.ofNat (bytO c).1.toNat])
theorem textL_in : ∀ (k : Nat) {c : Cur} {a : List UInt8}, curI c → (textL k c a).1.length = a.length + k ∧ curI (textL k c a).2
  | 0, c, a, h => ⟨rfl, h⟩
  | k + 1, c, a, h => by
    have h1 := bytO_in h
    have h2 := textL_in k (a := a ++ [UInt8.ofNat (bytO c).1.toNat]) h1.1
    rw [textL]
    exact ⟨by rw [h2.1, List.length_append]; simp; omega, h2.2⟩
open Classical in
noncomputable def spText : VM.Spec := { modes := [.ptr, .rd], run := fun | [.rptr (c'), .int .i64 n] => (Cur.dec c').bind fun c => if curI c ∧ 0 ≤ n ∧ n ≤ 5000 then some (.str ((textL n.toNat c []).1), [.rptr (Cur.enc ((textL n.toNat c []).2))]) else none | _ => none, need := [] }
attribute [go_sem] spText
theorem spText_in {ins : List V} {r : V} {outs : List V} (h : spText.run ins = some (r, outs)) : ∃ (c : Cur) (n : Int), ins = [.rptr (Cur.enc c), .int .i64 n] ∧ (curI c ∧ 0 ≤ n ∧ n ≤ 5000) ∧ .str ((textL n.toNat c []).1) = r ∧ outs = [.rptr (Cur.enc ((textL n.toNat c []).2))] := by
  unfold spText at h
  simp only at h
  split at h
  · rename_i c' n
    simp only [Option.bind_eq_some_iff] at h
    obtain ⟨c, h_c, h⟩ := h
    split at h
    case isFalse => cases h
    rename_i hc
    simp only [Option.some.injEq, Prod.mk.injEq] at h
    obtain ⟨h1, h2⟩ := h
    have h_c := Cur.dec_some h_c
    subst h_c
    exact ⟨c, n, rfl, hc, h1, h2.symm⟩
  · cases h
def T_spec_l01Text : Hints := ⟨lk [], lk [(5, [0, 1, 5, 6])], lk [(0, [0, 1]), (1, [0, 1, 8]), (2, [0, 1]), (3, [0, 1, 5]), (4, [0, 1, 5, 6]), (5, [0, 1, 5, 6, 12]), (7, [0, 1, 5, 6]), (6, [0, 1, 5, 6]), (8, [4])], lk []⟩
noncomputable def Phi_spec_l01Text : Tab := lk [(54, spByte)]
attribute [go_sem] T_spec_l01Text Phi_spec_l01Text
theorem phi_spec_l01Text : ∀ f sp, Phi_spec_l01Text f = some sp → FnOk Tryz.prog f sp ∧ ∀ n ∈ sp.need, n ∈ ([] : List String) := phi_cons ok_spec_l01Byte (n0 rfl) (phi_nil)
theorem ok_spec_l01Text : FnOk Tryz.prog 81 spText := by
  refine fn_ok (Φ := Phi_spec_l01Text) (T := T_spec_l01Text) phi_spec_l01Text mixed Tryz.func81 rfl rfl rfl (by decide) ?_
  intro ins r outs hr hl
  clear hl
  have hs := spText_in hr
  clear hr
  obtain ⟨c, n, rfl, hc, hr, rfl⟩ := hs
  simp only [spText, Tryz.f81, Go.VM.initS]
  obtain ⟨hc, h0, h1⟩ := hc
  obtain ⟨k, rfl⟩ : ∃ k : Nat, n = k := ⟨n.toNat, by omega⟩
  simp only [Int.toNat_natCast] at hr
  obtain ⟨R, hR⟩ : ∃ R, textL k c [] = R := ⟨_, rfl⟩
  rw [hR] at hr
  have g0 : ¬ (5000 : Int) < k := by omega
  simp only [g0, hR, Int.toNat_natCast, go_sem]
  repeat' ((first | apply qa | apply qb | apply qc | apply qd | apply qe | apply qf | apply qg | apply qh | apply qi | apply qj | apply qk) <;> intro hp <;> simp only [hp, g0, hR, Int.toNat_natCast, go_sem])
  refine loop_go (fun p : Nat × Cur × List UInt8 => [(6, .int .i64 (p.1 : Int))]) (fun p => [(0, ⟨.box, 3, [p.2.1.enc]⟩), (1, ⟨.arr, 1, bytesV p.2.2⟩)]) (fun p => k - p.1) (fun p => p.1 ≤ k ∧ curI p.2.1 ∧ p.2.2.length = p.1 ∧ textL (k - p.1) p.2.1 p.2.2 = R) (0, c, []) ⟨Nat.zero_le _, hc, rfl, hR⟩ rfl rfl ?_
  rintro ⟨i, d, a⟩ ⟨hi, hd, hl, he⟩ ih
  simp only at hi hd hl he ih
  have b1 := bytO_in hd
  rcases Nat.lt_or_ge i k with h | h
  · have g1 : (i : Int) < k := by omega
    have g5 := wrap_succ h (by omega)
    rw [show k - i = (k - (i + 1)) + 1 by omega, textL] at he
    obtain ⟨⟨v1, c1⟩, e1⟩ : ∃ x, bytO d = x := ⟨_, rfl⟩
    rw [e1] at b1 he
    simp only at b1 he
    obtain ⟨m, rfl⟩ : ∃ m : Nat, v1 = m := ⟨v1.toNat, by omega⟩
    simp only [Int.toNat_natCast] at he
    have g4 := app_u8 a (u8_of (n := m) (by omega))
    have hlen : a.length ≤ 9223372036854775806 := by omega
    have hlen2 : a.length ≤ 140737488355327 := by omega
    have ih' := ih (i + 1, c1, a ++ [UInt8.ofNat m]) ⟨h, b1.1, by simp [hl], he⟩ (by simp only; omega)
    simp only at ih'
    simp only [hd, e1, b1.1, g1, g4, g5, hlen, hlen2, go_sem]
    repeat' ((first | apply qa | apply qb | apply qc | apply qd | apply qe | apply qf | apply qg | apply qh | apply qi | apply qj | apply qk) <;> intro hp <;> simp only [hp, hd, e1, b1.1, g1, g4, g5, hlen, hlen2, go_sem])
    exact ih'
  · have hk : k - i = 0 := by omega
    rw [hk, textL] at he
    have g1 : ¬ (i : Int) < k := by omega
    simp only [g1, go_sem]
    repeat' ((first | apply qa | apply qb | apply qc | apply qd | apply qe | apply qf | apply qg | apply qh | apply qi | apply qj | apply qk) <;> intro hp <;> simp only [hp, g1, go_sem])
    simp only [fin_mk, finV, resL, resV1, resIn, endA, listIn, Option.some_or, Option.none_or, oneOrTup, go_sem]
    rw [← hr]
    rw [← he]
def spoil (c : Cur) (s : List UInt8) : List UInt8 × Cur :=
  let k := belO c 12
  if k.1 = 0 then (s ++ (textL 1 k.2 []).1, (textL 1 k.2 []).2) else
  if k.1 = 1 then (s.take (belO k.2 ((s.length + 1 : Nat) : Int)).1.toNat, (belO k.2 ((s.length + 1 : Nat) : Int)).2) else
  if (k.1 = 2 ∨ k.1 = 3) ∧ s ≠ [] then (s.take (belO k.2 s.length).1.toNat ++ (textL 1 (belO k.2 s.length).2 []).1 ++ s.drop ((belO k.2 s.length).1.toNat + 1), (textL 1 (belO k.2 s.length).2 []).2) else (s, k.2)
theorem spoil_in {c : Cur} {s : List UInt8} (h : curI c) : (spoil c s).1.length ≤ s.length + 1 ∧ curI (spoil c s).2 := by
  have h1 := belO_in (n := 12) h
  have h2 := textL_in 1 (a := []) h1.1
  have h3 := belO_in (n := ((s.length + 1 : Nat) : Int)) h1.1
  have h4 := belO_in (n := (s.length : Int)) h1.1
  have h5 := textL_in 1 (a := []) h4.1
  unfold spoil
  simp only
  split
  · exact ⟨by simp only [List.length_append, h2.1]; simp, h2.2⟩
  · split
    · exact ⟨by simp only [List.length_take]; omega, h3.1⟩
    · split
      · rename_i hh
        have h6 := h4.2.2 (by have := List.length_pos_iff.2 hh.2; omega)
        exact ⟨by simp only [List.length_append, List.length_take, List.length_drop, h5.1]; simp; omega, h5.2⟩
      · exact ⟨by simp only; omega, h1.1⟩
open Classical in
noncomputable def spSpoil : VM.Spec := { modes := [.ptr, .rd], run := fun | [.rptr (c'), .str s] => (Cur.dec c').bind fun c => if curI c ∧ s.length ≤ 4194304 then some (.str ((spoil c s).1), [.rptr (Cur.enc ((spoil c s).2))]) else none | _ => none, need := [] }
attribute [go_sem] spSpoil
theorem spSpoil_in {ins : List V} {r : V} {outs : List V} (h : spSpoil.run ins = some (r, outs)) : ∃ (c : Cur) (s : (List UInt8)), ins = [.rptr (Cur.enc c), .str s] ∧ (curI c ∧ s.length ≤ 4194304) ∧ .str ((spoil c s).1) = r ∧ outs = [.rptr (Cur.enc ((spoil c s).2))] := by
  unfold spSpoil at h
  simp only at h
  split at h
  · rename_i c' s
    simp only [Option.bind_eq_some_iff] at h
    obtain ⟨c, h_c, h⟩ := h
    split at h
    case isFalse => cases h
    rename_i hc
    simp only [Option.some.injEq, Prod.mk.injEq] at h
    obtain ⟨h1, h2⟩ := h
    have h_c := Cur.dec_some h_c
    subst h_c
    exact ⟨c, s, rfl, hc, h1, h2.symm⟩
  · cases h
def T_spec_l02Spoilt : Hints := ⟨lk [(10, [(2, 4), (4, 9)])], lk [], lk [(0, [0, 1]), (1, [0, 1, 7]), (2, [0, 1, 7, 8]), (3, [4]), (4, [0, 1, 7, 14]), (5, [4]), (6, [0, 1, 7, 23]), (7, [0, 1, 23]), (8, [0, 1, 28]), (9, [0, 1, 5]), (10, [4]), (11, [4])], lk []⟩
noncomputable def Phi_spec_l02Spoilt : Tab := lk [(31, spBelow), (81, spText)]
attribute [go_sem] T_spec_l02Spoilt Phi_spec_l02Spoilt
theorem phi_spec_l02Spoilt : ∀ f sp, Phi_spec_l02Spoilt f = some sp → FnOk Tryz.prog f sp ∧ ∀ n ∈ sp.need, n ∈ ([] : List String) := phi_cons ok_spec_l01Below (n0 rfl) (phi_cons ok_spec_l01Text (n0 rfl) (phi_nil))
theorem ok_spec_l02Spoilt : FnOk Tryz.prog 33 spSpoil := by
  refine fn_ok (Φ := Phi_spec_l02Spoilt) (T := T_spec_l02Spoilt) phi_spec_l02Spoilt mixed Tryz.func33 rfl rfl rfl (by decide) ?_
  intro ins r outs hr hl
  clear hl
  have hs := spSpoil_in hr
  clear hr
  obtain ⟨c, s, rfl, hc, hr, rfl⟩ := hs
  simp only [spSpoil, Tryz.f33, Go.VM.initS]
  obtain ⟨hc, hs⟩ := hc
  have h1 := belO_in (n := 12) hc
  obtain ⟨⟨k, d⟩, e1⟩ : ∃ x, belO c 12 = x := ⟨_, rfl⟩
  rw [e1] at h1
  simp only at h1
  have h2 := textL_in 1 (a := []) h1.1
  have t1 : ((1 : Int)).toNat = 1 := rfl
  have t2 : (0 : Int) ≤ 1 := by decide
  have t3 : (1 : Int) ≤ 5000 := by decide
  by_cases k0 : k = 0
  · subst k0
    have e : spoil c s = (s ++ (textL 1 d []).1, (textL 1 d []).2) := by simp [spoil, e1]
    rw [e] at hr
    have l1 : s.length + (textL 1 d []).1.length ≤ 9223372036854775807 := by rw [h2.1]; simp; omega
    simp only [hc, e1, h1.1, t1, t2, t3, l1, go_sem]
    repeat' ((first | ((first | apply qa | apply qb | apply qc | apply qd | apply qe | apply qf | apply qg | apply qh | apply qi | apply qj | apply qk) <;> intro hp) | ((first | refine ql rfl rfl (by decide +kernel) ?_ | refine qm _ rfl rfl (by decide +kernel) ?_) <;> have hp := True.intro)) <;> simp only [hp, hc, e1, h1.1, t1, t2, t3, l1, go_sem])
    simp only [fin_mk, finV, resL, resV1, resIn, endA, listIn, Option.some_or, Option.none_or, oneOrTup, go_sem]
    rw [← hr]
    first | rfl | (simp only [e]; rfl) | simp only [e]
  by_cases k1 : k = 1
  · subst k1
    have w1 : IntKind.i64.wrap ((s.length : Int) + 1) = ((s.length + 1 : Nat) : Int) := (wrap64 (by omega) (by omega)).trans (by omega)
    have h3 := belO_in (n := ((s.length + 1 : Nat) : Int)) h1.1
    obtain ⟨⟨v, d2⟩, e2⟩ : ∃ x, belO d ((s.length + 1 : Nat) : Int) = x := ⟨_, rfl⟩
    rw [e2] at h3
    have h4 := h3.2.2 (by omega)
    simp only at h3 h4
    obtain ⟨m, rfl⟩ : ∃ m : Nat, v = m := ⟨v.toNat, by omega⟩
    have e : spoil c s = (s.take m, d2) := by simp only [spoil, e1, Int.reduceEq, if_true, if_false, e2, Int.toNat_natCast]
    rw [e] at hr
    have l0 : (0 : Int) ≤ m := by omega
    have l1 : m ≤ s.length := by omega
    simp only [hc, e1, e2, h1.1, w1, l0, l1, Nat.zero_le, Nat.sub_zero, List.drop_zero, go_sem]
    repeat' ((first | ((first | apply qa | apply qb | apply qc | apply qd | apply qe | apply qf | apply qg | apply qh | apply qi | apply qj | apply qk) <;> intro hp) | ((first | refine ql rfl rfl (by decide +kernel) ?_ | refine qm _ rfl rfl (by decide +kernel) ?_) <;> have hp := True.intro)) <;> simp only [hp, hc, e1, e2, h1.1, w1, l0, l1, Nat.zero_le, Nat.sub_zero, List.drop_zero, go_sem])
    simp only [fin_mk, finV, resL, resV1, resIn, endA, listIn, Option.some_or, Option.none_or, oneOrTup, go_sem]
    rw [← hr]
    first | rfl | (simp only [e]; rfl) | simp only [e]
  have n0 : (k == 0) = false := beq_eq_false_iff_ne.2 k0
  have n1 : (k == 1) = false := beq_eq_false_iff_ne.2 k1
  by_cases hse : s = []
  · subst hse
    have e : spoil c [] = ([], d) := by simp [spoil, e1, k0, k1]
    rw [e] at hr
    have z0 : ¬ (0 : Int) < (((0 : Nat)) : Int) := by decide
    by_cases k2 : k = 2
    · subst k2
      simp only [hc, e1, h1.1, z0, List.length_nil, go_sem]
      repeat' ((first | ((first | apply qa | apply qb | apply qc | apply qd | apply qe | apply qf | apply qg | apply qh | apply qi | apply qj | apply qk) <;> intro hp) | ((first | refine ql rfl rfl (by decide +kernel) ?_ | refine qm _ rfl rfl (by decide +kernel) ?_) <;> have hp := True.intro)) <;> simp only [hp, hc, e1, h1.1, z0, List.length_nil, go_sem])
      all_goals (simp only [fin_mk, finV, resL, resV1, resIn, endA, listIn, Option.some_or, Option.none_or, oneOrTup, go_sem]; rw [← hr])
      all_goals first | rfl | (simp only [e]; rfl) | simp only [e]
    have n2 : (k == 2) = false := beq_eq_false_iff_ne.2 k2
    by_cases k3 : k = 3
    · subst k3
      simp only [hc, e1, h1.1, z0, List.length_nil, go_sem]
      repeat' ((first | ((first | apply qa | apply qb | apply qc | apply qd | apply qe | apply qf | apply qg | apply qh | apply qi | apply qj | apply qk) <;> intro hp) | ((first | refine ql rfl rfl (by decide +kernel) ?_ | refine qm _ rfl rfl (by decide +kernel) ?_) <;> have hp := True.intro)) <;> simp only [hp, hc, e1, h1.1, z0, List.length_nil, go_sem])
      all_goals (simp only [fin_mk, finV, resL, resV1, resIn, endA, listIn, Option.some_or, Option.none_or, oneOrTup, go_sem]; rw [← hr])
      all_goals first | rfl | (simp only [e]; rfl) | simp only [e]
    have n3 : (k == 3) = false := beq_eq_false_iff_ne.2 k3
    simp only [hc, e1, h1.1, n0, n1, n2, n3, go_sem]
    repeat' ((first | ((first | apply qa | apply qb | apply qc | apply qd | apply qe | apply qf | apply qg | apply qh | apply qi | apply qj | apply qk) <;> intro hp) | ((first | refine ql rfl rfl (by decide +kernel) ?_ | refine qm _ rfl rfl (by decide +kernel) ?_) <;> have hp := True.intro)) <;> simp only [hp, hc, e1, h1.1, n0, n1, n2, n3, go_sem])
    simp only [fin_mk, finV, resL, resV1, resIn, endA, listIn, Option.some_or, Option.none_or, oneOrTup, go_sem]
    rw [← hr]
    first | rfl | (simp only [e]; rfl) | simp only [e]
  have hl0 : 0 < s.length := List.length_pos_iff.2 hse
  have hl : (0 : Int) < (s.length : Int) := by omega
  have h3 := belO_in (n := (s.length : Int)) h1.1
  have h4 := h3.2.2 (by omega)
  obtain ⟨⟨v, d2⟩, e2⟩ : ∃ x, belO d (s.length : Int) = x := ⟨_, rfl⟩
  rw [e2] at h3 h4
  simp only at h3 h4
  obtain ⟨m, rfl⟩ : ∃ m : Nat, v = m := ⟨v.toNat, by omega⟩
  have h5 := textL_in 1 (a := []) h3.1
  have w1 : IntKind.i64.wrap ((m : Int) + 1) = ((m + 1 : Nat) : Int) := (wrap64 (by omega) (by omega)).trans (by omega)
  have l0 : (0 : Int) ≤ m := by omega
  have l1 : m ≤ s.length := by omega
  have l2 : (0 : Int) ≤ ((m + 1 : Nat) : Int) := by omega
  have l3 : m + 1 ≤ s.length := by omega
  have l4 : m + (textL 1 d2 []).1.length ≤ 9223372036854775807 := by rw [h5.1]; simp; omega
  have l5 : m + ((textL 1 d2 []).1.length + (s.length - (m + 1))) ≤ 9223372036854775807 := by rw [h5.1]; simp; omega
  have l6 : m + (textL 1 d2 []).1.length + (s.length - (m + 1)) ≤ 9223372036854775807 := by rw [h5.1]; simp; omega
  have lt : (s.take m).length = m := by rw [List.length_take]; omega
  by_cases k2 : k = 2
  · subst k2
    have e : spoil c s = (s.take m ++ (textL 1 d2 []).1 ++ s.drop (m + 1), (textL 1 d2 []).2) := by simp [spoil, e1, e2, hse]
    rw [e] at hr
    simp only [hc, e1, e2, h1.1, h3.1, hl, w1, l0, l1, l2, l3, l4, l5, l6, lt, t1, t2, t3, Nat.zero_le, Nat.sub_zero, List.drop_zero, List.length_append, List.length_drop, Nat.le_refl, List.take_length, go_sem]
    repeat' ((first | ((first | apply qa | apply qb | apply qc | apply qd | apply qe | apply qf | apply qg | apply qh | apply qi | apply qj | apply qk) <;> intro hp) | ((first | refine ql rfl rfl (by decide +kernel) ?_ | refine qm _ rfl rfl (by decide +kernel) ?_) <;> have hp := True.intro)) <;> simp only [hp, hc, e1, e2, h1.1, h3.1, hl, w1, l0, l1, l2, l3, l4, l5, l6, lt, t1, t2, t3, Nat.zero_le, Nat.sub_zero, List.drop_zero, List.length_append, List.length_drop, Nat.le_refl, List.take_length, go_sem])
    simp only [fin_mk, finV, resL, resV1, resIn, endA, listIn, Option.some_or, Option.none_or, oneOrTup, go_sem]
    rw [← hr]
    first | rfl | (simp only [e]; rfl) | simp only [e]
  by_cases k3 : k = 3
  · subst k3
    have e : spoil c s = (s.take m ++ (textL 1 d2 []).1 ++ s.drop (m + 1), (textL 1 d2 []).2) := by simp [spoil, e1, e2, hse]
    rw [e] at hr
    simp only [hc, e1, e2, h1.1, h3.1, hl, w1, l0, l1, l2, l3, l4, l5, l6, lt, t1, t2, t3, Nat.zero_le, Nat.sub_zero, List.drop_zero, List.length_append, List.length_drop, Nat.le_refl, List.take_length, go_sem]
    repeat' ((first | ((first | apply qa | apply qb | apply qc | apply qd | apply qe | apply qf | apply qg | apply qh | apply qi | apply qj | apply qk) <;> intro hp) | ((first | refine ql rfl rfl (by decide +kernel) ?_ | refine qm _ rfl rfl (by decide +kernel) ?_) <;> have hp := True.intro)) <;> simp only [hp, hc, e1, e2, h1.1, h3.1, hl, w1, l0, l1, l2, l3, l4, l5, l6, lt, t1, t2, t3, Nat.zero_le, Nat.sub_zero, List.drop_zero, List.length_append, List.length_drop, Nat.le_refl, List.take_length, go_sem])
    simp only [fin_mk, finV, resL, resV1, resIn, endA, listIn, Option.some_or, Option.none_or, oneOrTup, go_sem]
    rw [← hr]
    first | rfl | (simp only [e]; rfl) | simp only [e]
  have n2 : (k == 2) = false := beq_eq_false_iff_ne.2 k2
  have n3 : (k == 3) = false := beq_eq_false_iff_ne.2 k3
  have e : spoil c s = (s, d) := by simp [spoil, e1, k0, k1, k2, k3]
  rw [e] at hr
  simp only [hc, e1, h1.1, n0, n1, n2, n3, go_sem]
  repeat' ((first | ((first | apply qa | apply qb | apply qc | apply qd | apply qe | apply qf | apply qg | apply qh | apply qi | apply qj | apply qk) <;> intro hp) | ((first | refine ql rfl rfl (by decide +kernel) ?_ | refine qm _ rfl rfl (by decide +kernel) ?_) <;> have hp := True.intro)) <;> simp only [hp, hc, e1, h1.1, n0, n1, n2, n3, go_sem])
  simp only [fin_mk, finV, resL, resV1, resIn, endA, listIn, Option.some_or, Option.none_or, oneOrTup, go_sem]
  rw [← hr]
  first | rfl | (simp only [e]; rfl) | simp only [e]
theorem editText_len (e : Edit) : (editText e).length ≤ 2000 := by
  by_cases hk : editOk e = true
  · obtain ⟨⟨k1, k2⟩, hB, hT, hS, ⟨w1, w2⟩, ⟨b1, b2⟩, ⟨s1, s2⟩, hX⟩ := editOk_parts hk
    have hst := setText_len e.Set
    have v1 := varN_len e.Box.length
    have v2 := varN_len e.To.length
    have v3 := varN_len (setText e.Set).length
    have v4 := varN_len e.Text.length
    have v5 : (varN (e.Since + 1).toNat).length ≤ 5 := by
      have key : ∀ (k n : Nat), n < 128 ^ (k + 1) → (varN n).length ≤ k + 1 := by
        intro k
        induction k with
        | zero => intro n h; rw [varN_small (by omega)]; simp
        | succ k ih =>
          intro n h
          by_cases hb : 127 < n
          · rw [varN_big hb, List.length_cons]
            have := ih (n / 128) (by rw [Nat.pow_succ] at h; omega)
            omega
          · rw [varN_small hb]; simp
      exact key 4 _ (by show _ < 34359738368; omega)
    rw [editText, if_pos hk]
    simp only [short, List.length_append, List.length_cons, List.length_nil]
    omega
  · rw [editText, if_neg hk]; simp
def readEC (code : List Int) : Int × Cur := belO (cur0 code) 3
def readEA (code : List Int) : Edit × Cur := edAny (readEC code).2
def drawRE (code : List Int) : List UInt8 := if ((readEC code).1 == 0) = true then (spoil (readEA code).2 (editText (readEA code).1)).1 else editText (readEA code).1
theorem drawRE_len {code : List Int} (h : code.length ≤ 4194304) : (drawRE code).length ≤ 4194304 := by
  have i0 := cur0_in h
  have i1 := belO_in (n := 3) i0
  have i2 := edAny_in (c := (readEC code).2) i1.1
  have i3 := spoil_in (c := (readEA code).2) (s := editText (readEA code).1) i2.2
  have := editText_len (readEA code).1
  unfold drawRE
  split <;> omega
open Classical in
noncomputable def spDrawReadEdit : VM.Spec := { modes := [.rd], run := fun | [.lst 1 code'] => (decL dU8 code').bind fun code => if code.length ≤ 4194304 then some (.str (drawRE code), []) else none | _ => none, need := ["internal/strconv.uint64pow10"] }
attribute [go_sem] spDrawReadEdit
theorem spDrawReadEdit_in {ins : List V} {r : V} {outs : List V} (h : spDrawReadEdit.run ins = some (r, outs)) : ∃ (code : (List Int)), ins = [.lst 1 ((code).map eU8)] ∧ (code.length ≤ 4194304) ∧ .str (drawRE code) = r ∧ outs = [] := by
  unfold spDrawReadEdit at h
  simp only at h
  split at h
  · rename_i code'
    simp only [Option.bind_eq_some_iff] at h
    obtain ⟨code, h_code, h⟩ := h
    split at h
    case isFalse => cases h
    rename_i hc
    simp only [Option.some.injEq, Prod.mk.injEq] at h
    obtain ⟨h1, h2⟩ := h
    have h_code := decL_some (fun _ _ h => dU8_some h) h_code
    subst h_code
    exact ⟨code, rfl, hc, h1, h2.symm⟩
  · cases h
end Go.Proofs.YtonjbbfgdloljaaGreatDoor.L

namespace Go.Proofs.YtonjbbfgdloljaaGreatDoor.L
open Go Go.VM
set_option maxRecDepth 100000
set_option maxHeartbeats 4000000
set_option linter.unusedSimpArgs false
set_option linter.unusedVariables false
def seensL : Nat → Nat → Cur → List Seen → List Seen × Cur
  | 0, _, c, a => (a, c)
  | f + 1, i, c, a => if (i : Int) < (belO c 7).1 then seensL f (i + 1) (belO (belO (belO c 7).2 32).2 9).2 (a ++ [⟨((i + 1 : Nat) : Int), (belO (belO c 7).2 32).1, 1 + (belO (belO (belO c 7).2 32).2 9).1⟩]) else (a, (belO c 7).2)
theorem seensL_in : ∀ (f i : Nat) {c : Cur} {a : List Seen}, curI c → a.length ≤ i → i ≤ 6 → (seensL f i c a).1.length ≤ 7 ∧ curI (seensL f i c a).2
  | 0, i, c, a, hc, ha, hi => ⟨by simp only [seensL]; omega, hc⟩
  | f + 1, i, c, a, hc, ha, hi => by
    have h1 := belO_in (n := 7) hc
    have h2 := belO_in (n := 32) h1.1
    have h3 := belO_in (n := 9) h2.1
    rw [seensL]
    split
    · rename_i hl
      have := h1.2.2 (by decide)
      exact seensL_in f (i + 1) h3.1 (by simp; omega) (by omega)
    · exact ⟨by simp only; omega, h1.1⟩
open Classical in
noncomputable def spSeens : VM.Spec := { modes := [.ptr], run := fun | [.rptr (c')] => (Cur.dec c').bind fun c => if curI c then some (.lst 3 (((seensL 8 0 c []).1).map Seen.enc), [.rptr (Cur.enc ((seensL 8 0 c []).2))]) else none | _ => none, need := [] }
attribute [go_sem] spSeens
theorem spSeens_in {ins : List V} {r : V} {outs : List V} (h : spSeens.run ins = some (r, outs)) : ∃ (c : Cur), ins = [.rptr (Cur.enc c)] ∧ (curI c) ∧ .lst 3 (((seensL 8 0 c []).1).map Seen.enc) = r ∧ outs = [.rptr (Cur.enc ((seensL 8 0 c []).2))] := by
  unfold spSeens at h
  simp only at h
  split at h
  · rename_i c'
    simp only [Option.bind_eq_some_iff] at h
    obtain ⟨c, h_c, h⟩ := h
    split at h
    case isFalse => cases h
    rename_i hc
    simp only [Option.some.injEq, Prod.mk.injEq] at h
    obtain ⟨h1, h2⟩ := h
    have h_c := Cur.dec_some h_c
    subst h_c
    exact ⟨c, rfl, hc, h1, h2.symm⟩
  · cases h
end Go.Proofs.YtonjbbfgdloljaaGreatDoor.L

