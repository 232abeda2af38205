/- Contracts of functions, and the facts that they need. No condition. -/
import Derived.Test.YtnbkmmjnpbfhnaaGreatDoorVLFl
import Derived.Test.YtnbkmmjnpbfhnaaGreatDoorVLShelf
import Derived.Test.YtnbkmmjnpbfhnaaGreatDoorVmShelf

namespace Go.Proofs.YtnbkmmjnpbfhnaaGreatDoor.L
open Go Go.VM
set_option maxRecDepth 100000
set_option maxHeartbeats 4000000
set_option linter.unusedSimpArgs false
set_option linter.unusedVariables false
open Classical in
noncomputable def spSplit : VM.Spec := { modes := [.rd, .rd], run := fun | [.str s, .str t] => if 1 ≤ t.length ∧ s.length < 4294967281 then some (.lst 1 ((Lib.splitK t 0 (Lib.count s t) s).map eStr), []) else none | _ => none, need := ["internal/bytealg.MaxLen"] }
attribute [go_sem] spSplit
theorem spSplit_in {ins : List V} {r : V} {outs : List V} (h : spSplit.run ins = some (r, outs)) : ∃ (s : (List UInt8)) (t : (List UInt8)), ins = [.str s, .str t] ∧ (1 ≤ t.length ∧ s.length < 4294967281) ∧ .lst 1 ((Lib.splitK t 0 (Lib.count s t) s).map eStr) = r ∧ outs = [] := by
  unfold spSplit at h
  simp only at h
  split at h
  · rename_i s t
    split at h
    case isFalse => cases h
    rename_i hc
    simp only [Option.some.injEq, Prod.mk.injEq] at h
    obtain ⟨h1, h2⟩ := h
    exact ⟨s, t, rfl, hc, h1, h2.symm⟩
  · cases h
theorem ok_strings_Split : FnOk Tryz.prog 49 spSplit :=
  split_ok Tryz.func49 rfl (by kernel_rfl) (g := 0) (by kernel_rfl) (by simp [spSplit]) rfl (fun _ _ _ h => spSplit_in h) Tryz.strings_Split
def consHead (b : UInt8) : List (List UInt8) → List (List UInt8)
  | [] => [[b]]
  | h :: t => (b :: h) :: t
def splitOn (c : UInt8) : List UInt8 → List (List UInt8)
  | [] => [[]]
  | b :: s => if b = c then [] :: splitOn c s else consHead b (splitOn c s)
theorem splitK_skip {c b : UInt8} (hb : b ≠ c) (s : List UInt8) (k : Nat) : Lib.splitK [c] 0 k (b :: s) = consHead b (Lib.splitK [c] 0 k s) := by
  cases k with
  | zero => rfl
  | succ k =>
    have hp : [c].isPrefixOf (b :: s) = false := by simp [List.isPrefixOf]; exact fun h => hb h.symm
    rw [Lib.splitK, Lib.splitK]
    have hge := Lib.index_ge s [c]
    by_cases hi : Lib.index s [c] = -1
    · have h1 : Lib.index (b :: s) [c] = -1 := by simp [Lib.index, hp, hi]
      rw [h1, hi]; rfl
    · have h0 : (Lib.index s [c] == -1) = false := beq_eq_false_iff_ne.2 hi
      have h1 : Lib.index (b :: s) [c] = Lib.index s [c] + 1 := by simp [Lib.index, hp, h0]
      have h2 : (Lib.index s [c] + 1 == -1) = false := beq_eq_false_iff_ne.2 (by omega)
      rw [h1, h0, h2]
      obtain ⟨i, hi'⟩ : ∃ i : Nat, Lib.index s [c] = i := ⟨(Lib.index s [c]).toNat, by omega⟩
      rw [hi']
      have e1 : ((i : Int) + 1).toNat = i + 1 := by omega
      rw [e1]
      simp [consHead]
theorem split_eq (c : UInt8) (s : List UInt8) : Lib.splitK [c] 0 (Lib.count s [c]) s = splitOn c s := by
  rw [Lib.count_one]
  induction s with
  | nil => rfl
  | cons b s ih =>
    by_cases hb : b = c
    · subst hb
      rw [List.count_cons_self, splitOn, if_pos rfl, ← ih, Lib.splitK]
      have h1 : Lib.index (b :: s) [b] = 0 := by simp [Lib.index, List.isPrefixOf]
      rw [h1]; simp
    · rw [List.count_cons_of_ne hb, splitK_skip hb, ih, splitOn, if_neg hb]
theorem splitOn_ne (c : UInt8) (s : List UInt8) : splitOn c s ≠ [] := by
  cases s with
  | nil => simp [splitOn]
  | cons b s =>
    rw [splitOn]
    split
    · simp
    · cases splitOn c s <;> simp [consHead]
def notB (c : UInt8) (b : UInt8) : Bool := b != c
theorem splitOn_first (c : UInt8) (s : List UInt8) : splitOn c s = s.takeWhile (notB c) :: (if c ∈ s then splitOn c (s.drop ((s.takeWhile (notB c)).length + 1)) else []) := by
  induction s with
  | nil => simp [splitOn]
  | cons b s ih =>
    rw [splitOn]
    by_cases hb : b = c
    · subst hb
      simp [List.takeWhile_cons, notB]
    · have h1 : notB c b = true := by simpa [notB] using hb
      rw [if_neg hb, ih, consHead]
      simp only [List.takeWhile_cons, h1, if_true, List.mem_cons, List.length_cons, List.drop_succ_cons]
      congr 1
      by_cases hc : c ∈ s
      · simp [hc]
      · simp [hc, Ne.symm hb]
theorem splitOn_len (c : UInt8) (s : List UInt8) : (splitOn c s).length ≤ s.length + 1 := by
  induction s with
  | nil => simp [splitOn]
  | cons b s ih =>
    rw [splitOn]
    split
    · simp; omega
    · cases h : splitOn c s with
      | nil => simp [consHead]
      | cons x t => rw [h] at ih; simp [consHead] at ih ⊢; omega
theorem splitOn_mem (c : UInt8) (s : List UInt8) : ∀ x ∈ splitOn c s, x.length ≤ s.length := by
  induction s with
  | nil => simp [splitOn]
  | cons b s ih =>
    rw [splitOn]
    split
    · intro x hx
      rcases List.mem_cons.1 hx with rfl | hx
      · simp
      · have := ih x hx; simp; omega
    · cases h : splitOn c s with
      | nil => intro x hx; simp [consHead] at hx; subst hx; simp
      | cons y t =>
        rw [h] at ih
        intro x hx
        simp only [consHead] at hx
        rcases List.mem_cons.1 hx with rfl | hx
        · have := ih y (by simp); simp; omega
        · have := ih x (by simp [hx]); simp; omega
def hit (nm l : List UInt8) : Bool := (lowS nm ++ [58]).isPrefixOf (lowS l)
def headIn (nm : List UInt8) : List (List UInt8) → List UInt8 × Bool
  | [] => ([], false)
  | l :: ls => if l = [] then ([], false) else if hit nm l = true then (trim (l.drop (nm.length + 1)), true) else headIn nm ls
def headOf (t nm : List UInt8) : List UInt8 × Bool := headIn nm (splitOn 10 t)
theorem low1_colon (b : UInt8) : (low1 b == 58) = (b == 58) := by
  unfold low1
  split
  · rename_i h
    have h1 : (b + 32).toNat = b.toNat + 32 := by
      rw [UInt8.toNat_add]
      have e : UInt8.toNat 32 = 32 := rfl
      rw [e]; omega
    have e1 : ¬ b = 58 := by rintro rfl; exact absurd h.1 (by decide)
    have e2 : ¬ b + 32 = 58 := by
      intro h2
      rw [h2] at h1
      have : (58 : UInt8).toNat = 58 := rfl
      omega
    rw [beq_eq_false_iff_ne.2 e1, beq_eq_false_iff_ne.2 e2]
  · rfl
theorem hit_short {nm l : List UInt8} (h : l.length ≤ nm.length) : hit nm l = false := by
  unfold hit
  apply isPrefixOf_short
  simp [lowS]; omega
theorem hit_long {nm l : List UInt8} (h : nm.length < l.length) : hit nm l = ((lowS (l.take nm.length) == lowS nm) && (l[nm.length] == 58)) := by
  have e : (lowS l).take (nm.length + 1) = lowS (l.take nm.length) ++ [low1 l[nm.length]] := by
    simp only [lowS, ← List.map_take]
    rw [take_succ' h, List.map_append]; rfl
  unfold hit
  rw [isPrefixOf_take]
  have hl : (lowS nm ++ [58]).length = nm.length + 1 := by simp [lowS]
  rw [hl, e, ← low1_colon]
  have h1 : (lowS (l.take nm.length)).length = (lowS nm).length := by simp [lowS]; omega
  rw [Bool.eq_iff_iff]
  simp only [beq_iff_eq, Bool.and_eq_true]
  constructor
  · intro h2
    have := List.append_inj h2 h1
    exact ⟨this.1, by simpa using this.2⟩
  · rintro ⟨h2, h3⟩
    rw [h2, h3]
open Classical in
noncomputable def spHeadOf : VM.Spec := { modes := [.rd, .rd], run := fun | [.str t, .str nm] => if t.length ≤ 4194304 ∧ nm.length ≤ 4194304 then some (.tup [.str ((headOf t nm).1), .bool ((headOf t nm).2)], []) else none | _ => none, need := ["internal/bytealg.MaxLen"] }
attribute [go_sem] spHeadOf
theorem spHeadOf_in {ins : List V} {r : V} {outs : List V} (h : spHeadOf.run ins = some (r, outs)) : ∃ (t : (List UInt8)) (nm : (List UInt8)), ins = [.str t, .str nm] ∧ (t.length ≤ 4194304 ∧ nm.length ≤ 4194304) ∧ .tup [.str ((headOf t nm).1), .bool ((headOf t nm).2)] = r ∧ outs = [] := by
  unfold spHeadOf at h
  simp only at h
  split at h
  · rename_i t nm
    split at h
    case isFalse => cases h
    rename_i hc
    simp only [Option.some.injEq, Prod.mk.injEq] at h
    obtain ⟨h1, h2⟩ := h
    exact ⟨t, nm, rfl, hc, h1, h2.symm⟩
  · cases h
theorem takeWhile_at {α : Type} {p : α → Bool} : ∀ {l : List α} {n : Nat}, (∀ x ∈ l.take n, p x = true) → (h : n < l.length) → p l[n] = false → l.takeWhile p = l.take n
  | [], n, _, h, _ => by simp at h
  | b :: l, 0, _, _, hp => by simp only [List.getElem_cons_zero] at hp; simp [List.takeWhile_cons, hp]
  | b :: l, n + 1, ha, h, hp => by
    have h1 : p b = true := ha b (by simp)
    rw [List.takeWhile_cons, if_pos h1, List.take_succ_cons, takeWhile_at (n := n) (fun x hx => ha x (by simp [hx])) (by simpa using h) (by simpa using hp)]
theorem takeWhile_mem {α : Type} {p : α → Bool} {l : List α} {x : α} (h : x ∈ l.takeWhile p) : p x = true := by
  induction l with
  | nil => simp at h
  | cons b l ih =>
    rw [List.takeWhile_cons] at h
    split at h
    · rename_i hb
      rcases List.mem_cons.1 h with rfl | h
      · exact hb
      · exact ih h
    · simp at h
theorem takeWhile_all {α : Type} {p : α → Bool} {l : List α} (h : ∀ x ∈ l, p x = true) : l.takeWhile p = l := by
  induction l with
  | nil => rfl
  | cons b l ih => rw [List.takeWhile_cons, if_pos (h b (by simp)), ih fun x hx => h x (by simp [hx])]
def lineAt (t : List UInt8) (a : Nat) : List UInt8 := (t.drop a).takeWhile (notB 10)
def nextAt (t : List UInt8) (a : Nat) : Int := if t.length ≤ a then -1 else if 10 ∈ t.drop a then ((a + (lineAt t a).length + 1 : Nat) : Int) else t.length
theorem notB_bool (b : UInt8) : notB 10 b = !((b.toNat : Int) == 10) := by
  unfold notB
  have : (b == 10) = ((b.toNat : Int) == 10) := by
    rw [Bool.eq_iff_iff, beq_iff_eq, beq_iff_eq]
    constructor
    · rintro rfl; rfl
    · intro h
      have : b.toNat = (10 : UInt8).toNat := by show b.toNat = 10; omega
      exact UInt8.toNat_inj.1 this
  rw [← this]; rfl
theorem take_drop_succ {t : List UInt8} {a i : Nat} (ha : a ≤ i) (h : i < t.length) : (t.take (i + 1)).drop a = (t.take i).drop a ++ [t[i]] := by
  rw [take_succ' h, List.drop_append_of_le_length (by rw [List.length_take]; omega)]
open Classical in
noncomputable def spLine : VM.Spec := { modes := [.rd, .rd], run := fun | [.str t, .int .i64 a] => if t.length ≤ 4194304 ∧ 0 ≤ a then some (.tup [.str (lineAt t a.toNat), .int .i64 (nextAt t a.toNat)], []) else none | _ => none, need := [] }
attribute [go_sem] spLine
theorem spLine_in {ins : List V} {r : V} {outs : List V} (h : spLine.run ins = some (r, outs)) : ∃ (t : (List UInt8)) (a : Int), ins = [.str t, .int .i64 a] ∧ (t.length ≤ 4194304 ∧ 0 ≤ a) ∧ .tup [.str (lineAt t a.toNat), .int .i64 (nextAt t a.toNat)] = r ∧ outs = [] := by
  unfold spLine at h
  simp only at h
  split at h
  · rename_i t a
    split at h
    case isFalse => cases h
    rename_i hc
    simp only [Option.some.injEq, Prod.mk.injEq] at h
    obtain ⟨h1, h2⟩ := h
    exact ⟨t, a, rfl, hc, h1, h2.symm⟩
  · cases h
end Go.Proofs.YtnbkmmjnpbfhnaaGreatDoor.L

namespace Go.Proofs.YtnbkmmjnpbfhnaaGreatDoor.L
open Go Go.VM
set_option maxRecDepth 100000
set_option maxHeartbeats 4000000
set_option linter.unusedSimpArgs false
set_option linter.unusedVariables false
open Classical in
noncomputable def spHasRead : VM.Spec := { modes := [.rd, .rd], run := fun | [.int .i64 n, .rptr (.lst 2 l')] => (decL Range.dec l').bind fun l => if l.length ≤ 8388608 then some (.bool (hasR l n), []) else none | _ => none, need := [] }
attribute [go_sem] spHasRead
theorem spHasRead_in {ins : List V} {r : V} {outs : List V} (h : spHasRead.run ins = some (r, outs)) : ∃ (n : Int) (l : (List Range)), ins = [.int .i64 n, .rptr (.lst 2 ((l).map Range.enc))] ∧ (l.length ≤ 8388608) ∧ .bool (hasR l n) = r ∧ outs = [] := by
  unfold spHasRead at h
  simp only at h
  split at h
  · rename_i n l'
    simp only [Option.bind_eq_some_iff] at h
    obtain ⟨l, h_l, h⟩ := h
    split at h
    case isFalse => cases h
    rename_i hc
    simp only [Option.some.injEq, Prod.mk.injEq] at h
    obtain ⟨h1, h2⟩ := h
    have h_l := decL_some (fun _ _ h => Range.dec_some h) h_l
    subst h_l
    exact ⟨n, l, rfl, hc, h1, h2.symm⟩
  · cases h
def T_impl_ReadSet_1 : Hints := ⟨lk [], lk [], lk [(0, [0, 1]), (1, [3])], lk []⟩
noncomputable def Phi_impl_ReadSet_1 : Tab := lk [(53, spSetHas)]
attribute [go_sem] T_impl_ReadSet_1 Phi_impl_ReadSet_1
theorem phi_impl_ReadSet_1 : ∀ f sp, Phi_impl_ReadSet_1 f = some sp → FnOk Tryz.prog f sp ∧ ∀ n ∈ sp.need, n ∈ ([] : List String) := phi_cons ok_impl_SetHas (n0 rfl) (phi_nil)
theorem ok_impl_ReadSet_1 : FnOk Tryz.prog 52 spHasRead := by
  refine fn_ok (Φ := Phi_impl_ReadSet_1) (T := T_impl_ReadSet_1) phi_impl_ReadSet_1 mixed Tryz.func52 rfl rfl rfl (by decide) ?_
  intro ins r outs hr hl
  clear hl
  have hs := spHasRead_in hr
  clear hr
  obtain ⟨n, l, rfl, hc, hr, rfl⟩ := hs
  simp only [spHasRead, Tryz.f52, Go.VM.initS]
  simp only [hc, go_sem]
  repeat' ((first | apply qa | apply qb | apply qc | apply qd | apply qe | apply qf | apply qg | apply qh | apply qi | apply qj | apply qk) <;> intro hp <;> simp only [hp, hc, go_sem])
  simp only [fin_mk, finV, resL, resV1, resIn, endA, listIn, Option.some_or, Option.none_or, oneOrTup, go_sem]
  rw [← hr]
def setR (l : List Range) : List Range := scan ((nums 9999).filter fun n => hasR l n)
open Classical in
noncomputable def spSetOfRead : VM.Spec := { modes := [.rd], run := fun | [.fn 52 [.rptr (.lst 2 l')]] => (decL Range.dec l').bind fun l => if l.length ≤ 8388608 then some (.tup [.lst 2 ((setR l).map Range.enc), .bool (decide ((setR l).length ≤ 40))], []) else none | _ => none, need := [] }
attribute [go_sem] spSetOfRead
theorem spSetOfRead_in {ins : List V} {r : V} {outs : List V} (h : spSetOfRead.run ins = some (r, outs)) : ∃ (l : (List Range)), ins = [.fn 52 [.rptr (.lst 2 ((l).map Range.enc))]] ∧ (l.length ≤ 8388608) ∧ .tup [.lst 2 ((setR l).map Range.enc), .bool (decide ((setR l).length ≤ 40))] = r ∧ outs = [] := by
  unfold spSetOfRead at h
  simp only at h
  split at h
  · rename_i l'
    simp only [Option.bind_eq_some_iff] at h
    obtain ⟨l, h_l, h⟩ := h
    split at h
    case isFalse => cases h
    rename_i hc
    simp only [Option.some.injEq, Prod.mk.injEq] at h
    obtain ⟨h1, h2⟩ := h
    have h_l := decL_some (fun _ _ h => Range.dec_some h) h_l
    subst h_l
    exact ⟨l, rfl, hc, h1, h2.symm⟩
  · cases h
def T_impl_setOf : Hints := ⟨lk [], lk [(3, [0, 4, 5])], lk [(0, [0]), (1, [0, 4]), (2, [0, 4, 5]), (3, [0, 4, 5, 9]), (5, [0, 4, 5, 15]), (6, [0, 4, 5, 6]), (7, [0, 4, 5, 6, 30]), (8, [0, 4, 5]), (9, [0, 4, 5]), (4, [0, 4, 5]), (10, [2, 3])], lk []⟩
noncomputable def Phi_impl_setOf : Tab := lk [(52, spHasRead)]
attribute [go_sem] T_impl_setOf Phi_impl_setOf
theorem phi_impl_setOf : ∀ f sp, Phi_impl_setOf f = some sp → FnOk Tryz.prog f sp ∧ ∀ n ∈ sp.need, n ∈ ([] : List String) := phi_cons ok_impl_ReadSet_1 (n0 rfl) (phi_nil)
theorem ok_impl_setOf : FnOk Tryz.prog 51 spSetOfRead := by
  refine fn_ok (Φ := Phi_impl_setOf) (T := T_impl_setOf) phi_impl_setOf mixed Tryz.func51 rfl rfl rfl (by decide) ?_
  intro ins r outs hr hl
  clear hl
  have hs := spSetOfRead_in hr
  clear hr
  obtain ⟨l, rfl, hc, hr, rfl⟩ := hs
  simp only [spSetOfRead, Tryz.f51, Go.VM.initS]
  simp only [go_sem]
  repeat' ((first | apply qa | apply qb | apply qc | apply qd | apply qe | apply qf | apply qg | apply qh | apply qi | apply qj | apply qk) <;> intro hp <;> simp only [hp, go_sem])
  refine loop_go (fun i : Nat => [(5, .int .i64 ((i + 1 : Nat) : Int))]) (fun i => [(0, ⟨.arr, 2, (scan ((nums i).filter fun n => hasR l n)).map Range.enc⟩)]) (fun i => 9999 - i) (fun i => i ≤ 9999) 0 (Nat.zero_le _) rfl rfl ?_
  intro i hi ih
  have hsl : (scan ((nums i).filter fun n => hasR l n)).length ≤ i := by
    refine Nat.le_trans (scan_len _) (Nat.le_trans (List.length_filter_le _ _) ?_)
    simp [nums]
  rcases Nat.lt_or_ge i 9999 with h | h
  · have g1 : ((i + 1 : Nat) : Int) ≤ 9999 := by omega
    have g5 : IntKind.i64.wrap (((i + 1 : Nat) : Int) + 1) = ((i + 1 + 1 : Nat) : Int) := wrap_succ (n := 10002) (by omega) (by omega)
    have g6 : IntKind.i64.wrap (((i + 1 : Nat) : Int) - 1) = (i : Int) := (wrap64 (by omega) (by omega)).trans (by omega)
    have ih' := ih (i + 1) h (by omega)
    rw [filter_nums_succ] at ih'
    clear ih
    cases hm : hasR l ((i + 1 : Nat) : Int) with
    | false =>
      rw [hm, if_neg (by simp), List.append_nil] at ih'
      simp only [hc, g1, g5, hm, go_sem]
      repeat' ((first | apply qa | apply qb | apply qc | apply qd | apply qe | apply qf | apply qg | apply qh | apply qi | apply qj | apply qk) <;> intro hp <;> simp only [hp, hc, g1, g5, hm, go_sem])
      exact ih'
    | true =>
      rw [hm, if_pos rfl, scan_snoc] at ih'
      generalize hO : scan ((nums i).filter fun n => hasR l n) = O at *
      rcases snoc_cases O with rfl | ⟨a, r', rfl⟩
      · rw [push_nil] at ih'
        have b3 : IntKind.i64.wrap (((0 : Nat) : Int) - 1) = -1 := rfl
        simp only [hc, g1, g5, hm, b3, go_sem]
        repeat' ((first | apply qa | apply qb | apply qc | apply qd | apply qe | apply qf | apply qg | apply qh | apply qi | apply qj | apply qk) <;> intro hp <;> simp only [hp, hc, g1, g5, hm, b3, go_sem])
        exact ih'
      · have hla : a.length + 1 ≤ i := by simpa using hsl
        have b3 : IntKind.i64.wrap (((a.length + 1 : Nat) : Int) - 1) = (a.length : Int) := (wrap64 (by omega) (by omega)).trans (by omega)
        have b4 : (0 : Int) ≤ (a.length : Int) := by omega
        have b5 : (a.length : Int) < ((a.length + 1 : Nat) : Int) := by omega
        have b6 : (List.map Range.enc (a ++ [r']))[a.length]? = some r'.enc := by simp
        have b7 : (List.map Range.enc (a ++ [r'])).set a.length (V.agg [.int .i64 r'.Lo, .int .i64 ((i + 1 : Nat) : Int)]) = List.map Range.enc (a ++ [⟨r'.Lo, ((i + 1 : Nat) : Int)⟩]) := by
          simp [Range.enc]
        have b8 : (List.map Range.enc (a ++ [r'])).length = a.length + 1 := by simp
        have b9 : (a ++ [r']).length = a.length + 1 := by simp
        have b10 : (a.length + 1 + 1) * 16 ≤ 140737488355328 := by omega
        have b11 : a.length + 1 ≤ 9223372036854775806 := by omega
        have b12 : a.length ≤ 9223372036854775805 := by omega
        rw [push_snoc] at ih'
        cases hH : (r'.Hi == (i : Int)) with
        | true =>
          have hH' : r'.Hi = ((i + 1 : Nat) : Int) - 1 := by simp only [beq_iff_eq] at hH; omega
          rw [if_pos hH', ← b7] at ih'
          clear b7
          generalize hX : List.map Range.enc (a ++ [r']) = X at *
          simp only [hc, g1, g5, g6, hm, b3, b4, b5, b6, b8, b9, hH, go_sem]
          repeat' ((first | apply qa | apply qb | apply qc | apply qd | apply qe | apply qf | apply qg | apply qh | apply qi | apply qj | apply qk) <;> intro hp <;> simp only [hp, hc, g1, g5, g6, hm, b3, b4, b5, b6, b8, b9, hH, go_sem])
          exact ih'
        | false =>
          have hH' : ¬ r'.Hi = ((i + 1 : Nat) : Int) - 1 := by rw [beq_eq_false_iff_ne] at hH; omega
          rw [if_neg hH', List.map_append, List.map_cons, List.map_nil] at ih'
          clear b7
          generalize hX : List.map Range.enc (a ++ [r']) = X at *
          simp only [hc, g1, g5, g6, hm, b3, b4, b5, b6, b8, b9, b10, b11, b12, hH, go_sem]
          repeat' ((first | apply qa | apply qb | apply qc | apply qd | apply qe | apply qf | apply qg | apply qh | apply qi | apply qj | apply qk) <;> intro hp <;> simp only [hp, hc, g1, g5, g6, hm, b3, b4, b5, b6, b8, b9, b10, b11, b12, hH, go_sem])
          all_goals first | exact ih' | (clear ih'; omega)
  · have hi9 : i = 9999 := by omega
    subst hi9
    have g1 : ¬ (((9999 + 1 : Nat) : Int)) ≤ 9999 := by decide
    have hB : scan ((nums 9999).filter fun n => hasR l n) = setR l := rfl
    rw [hB]
    have e : decide (((setR l).length : Int) ≤ 40) = decide ((setR l).length ≤ 40) := by rw [Bool.eq_iff_iff]; simp; omega
    simp only [g1, e, go_sem]
    repeat' ((first | apply qa | apply qb | apply qc | apply qd | apply qe | apply qf | apply qg | apply qh | apply qi | apply qj | apply qk) <;> intro hp <;> simp only [hp, g1, e, go_sem])
    all_goals (simp only [fin_mk, finV, resL, resV1, resIn, endA, listIn, Option.some_or, Option.none_or, oneOrTup, go_sem]; rw [← hr])
/-! ### numbers in texts -/
def digB (b : UInt8) : Bool := within (b.toNat : Int) 48 57
def stepM (n : Int) (b : UInt8) : Int := (10 * n + ((b.toNat : Int) - 48)).tmod 1000000000
def stepV (n : Int) (b : UInt8) : Int := 10 * n + ((b.toNat : Int) - 48)
def numM (s : List UInt8) : Int := s.foldl stepM 0
def numV (s : List UInt8) : Int := s.foldl stepV 0
theorem numM_snoc (s : List UInt8) (b : UInt8) : numM (s ++ [b]) = stepM (numM s) b := by simp [numM]
theorem numV_snoc (s : List UInt8) (b : UInt8) : numV (s ++ [b]) = stepV (numV s) b := by simp [numV]
theorem digB_iff {b : UInt8} (h : digB b = true) : 48 ≤ (b.toNat : Int) ∧ (b.toNat : Int) ≤ 57 := by simpa only [digB, within, Bool.and_eq_true, decide_eq_true_eq] using h
theorem numM_bound (s : List UInt8) : s.all digB = true → 0 ≤ numM s ∧ numM s < 1000000000 := by
  refine snoc_ind (P := fun s => s.all digB = true → 0 ≤ numM s ∧ numM s < 1000000000) (by simp [numM]) ?_ s
  intro l x ih h
  rw [List.all_append, Bool.and_eq_true] at h
  have h1 := ih h.1
  have h2 := digB_iff (b := x) (by simpa using h.2)
  rw [numM_snoc, stepM, Int.tmod_eq_emod_of_nonneg (by omega)]
  omega
theorem numV_bound (s : List UInt8) : s.all digB = true → 0 ≤ numV s ∧ numV s < 10 ^ s.length := by
  refine snoc_ind (P := fun s => s.all digB = true → 0 ≤ numV s ∧ numV s < 10 ^ s.length) (by simp [numV]) ?_ s
  intro l x ih h
  rw [List.all_append, Bool.and_eq_true] at h
  have h1 := ih h.1
  have h2 := digB_iff (b := x) (by simpa using h.2)
  rw [numV_snoc, stepV, List.length_append, List.length_singleton, Int.pow_succ]
  omega
theorem pow_le9 {n : Nat} (h : n ≤ 9) : (10 : Int) ^ n ≤ 1000000000 := by
  have : ∀ n : Fin 10, (10 : Int) ^ n.val ≤ 1000000000 := by decide
  exact this ⟨n, by omega⟩
theorem pow_le4 {n : Nat} (h : n ≤ 4) : (10 : Int) ^ n ≤ 10000 := by
  have : ∀ n : Fin 5, (10 : Int) ^ n.val ≤ 10000 := by decide
  exact this ⟨n, by omega⟩
theorem numM_eq (s : List UInt8) : s.all digB = true → s.length ≤ 9 → numM s = numV s := by
  refine snoc_ind (P := fun s => s.all digB = true → s.length ≤ 9 → numM s = numV s) (fun _ _ => rfl) ?_ s
  intro l x ih h hl
  have hb := numV_bound _ h
  rw [List.all_append, Bool.and_eq_true] at h
  rw [List.length_append, List.length_singleton] at hl
  rw [numM_snoc, ih h.1 (by omega), numV_snoc, stepM]
  rw [numV_snoc, stepV, List.length_append, List.length_singleton] at hb
  have := pow_le9 hl
  rw [Int.tmod_eq_emod_of_nonneg hb.1, Int.emod_eq_of_lt hb.1 (by omega)]
  rfl
def numOk (s : List UInt8) : Bool := within s.length 1 4 && s.all digB && decide (1 ≤ numV s)
def uidN (s : List UInt8) (last : Int) : Int := if s = [42] then last else if s.all digB = true then numM s else 0
def uidB (s : List UInt8) : Bool := if s = [42] then true else s.all digB && (within s.length 1 4 && decide (0 < numM s))
def numN (s : List UInt8) (last : Int) : Int := if s = [42] then last else if (within s.length 1 4 && s.all digB) = true then numV s else 0
def numB (s : List UInt8) : Bool := if s = [42] then true else within s.length 1 4 && s.all digB && decide (1 ≤ numV s)
theorem within_len {s : List UInt8} (h : within s.length 1 4 = true) : 1 ≤ s.length ∧ s.length ≤ 4 := by
  simp only [within, Bool.and_eq_true, decide_eq_true_eq] at h; omega
theorem uidB_eq (s : List UInt8) : uidB s = numB s := by
  unfold uidB numB
  split
  · rfl
  · cases hd : s.all digB with
    | false => simp
    | true =>
      cases hw : within s.length 1 4 with
      | false => simp
      | true =>
        rw [numM_eq s hd (by have := within_len hw; omega), Bool.eq_iff_iff]
        simp; omega
theorem uidN_eq {s : List UInt8} {last : Int} (h : numB s = true) : uidN s last = numN s last := by
  unfold uidN numN
  unfold numB at h
  split
  · rfl
  · rename_i h0
    rw [if_neg h0, Bool.and_eq_true, Bool.and_eq_true] at h
    rw [if_pos h.1.2, if_pos (by rw [h.1.1, h.1.2]; rfl), numM_eq s h.1.2 (by have := within_len h.1.1; omega)]
theorem numN_in {s : List UInt8} {last : Int} (hl : 1 ≤ last ∧ last ≤ 9999) (h : numB s = true) : 1 ≤ numN s last ∧ numN s last ≤ 9999 := by
  unfold numN
  unfold numB at h
  split
  · exact hl
  · rename_i h0
    rw [if_neg h0, Bool.and_eq_true, Bool.and_eq_true, decide_eq_true_eq] at h
    rw [if_pos (by rw [h.1.1, h.1.2]; rfl)]
    have h1 := (numV_bound s h.1.2).2
    have h2 := pow_le4 (within_len h.1.1).2
    omega
open Classical in
noncomputable def spReadUid : VM.Spec := { modes := [.rd, .rd], run := fun | [.str s, .int .i64 last] => if s.length ≤ 4194304 then some (.tup [.int .i64 (uidN s last), .bool (uidB s)], []) else none | _ => none, need := [] }
attribute [go_sem] spReadUid
theorem spReadUid_in {ins : List V} {r : V} {outs : List V} (h : spReadUid.run ins = some (r, outs)) : ∃ (s : (List UInt8)) (last : Int), ins = [.str s, .int .i64 last] ∧ (s.length ≤ 4194304) ∧ .tup [.int .i64 (uidN s last), .bool (uidB s)] = r ∧ outs = [] := by
  unfold spReadUid at h
  simp only at h
  split at h
  · rename_i s last
    split at h
    case isFalse => cases h
    rename_i hc
    simp only [Option.some.injEq, Prod.mk.injEq] at h
    obtain ⟨h1, h2⟩ := h
    exact ⟨s, last, rfl, hc, h1, h2.symm⟩
  · cases h
def T_impl_readUid : Hints := ⟨lk [], lk [(5, [0, 6, 12, 13])], lk [(0, [0, 1]), (1, [0, 1, 9]), (2, [4, 5]), (3, [0, 6]), (4, [0, 6, 12, 13]), (5, [0, 6, 12, 13, 14]), (6, [0, 6, 7, 12, 13]), (7, [0, 6, 7, 12, 13, 21]), (8, [4, 5]), (9, [0, 6, 12, 13]), (10, [0, 6, 12, 13]), (11, [4, 5])], lk []⟩
noncomputable def Phi_impl_readUid : Tab := lk [(46, spWithin)]
attribute [go_sem] T_impl_readUid Phi_impl_readUid
theorem phi_impl_readUid : ∀ f sp, Phi_impl_readUid f = some sp → FnOk Tryz.prog f sp ∧ ∀ n ∈ sp.need, n ∈ ([] : List String) := phi_cons ok_impl_within (n0 rfl) (phi_nil)
theorem ok_impl_readUid : FnOk Tryz.prog 50 spReadUid := by
  refine fn_ok (Φ := Phi_impl_readUid) (T := T_impl_readUid) phi_impl_readUid mixed Tryz.func50 rfl rfl rfl (by decide) ?_
  intro ins r outs hr hl
  clear hl
  have hs := spReadUid_in hr
  clear hr
  obtain ⟨s, last, rfl, hc, hr, rfl⟩ := hs
  simp only [spReadUid, Tryz.f50, Go.VM.initS]
  cases hst : (s == [42]) with
  | true =>
    have h0 : s = [42] := by simpa using hst
    subst h0
    simp only [go_sem]
    repeat' ((first | apply qa | apply qb | apply qc | apply qd | apply qe | apply qf | apply qg | apply qh | apply qi | apply qj | apply qk) <;> intro hp <;> simp only [hp, go_sem])
    simp only [fin_mk, finV, resL, resV1, resIn, endA, listIn, Option.some_or, Option.none_or, oneOrTup, go_sem]
    rw [← hr]
    rfl
  | false =>
    have h0 : ¬ s = [42] := by simpa using hst
    have hN : uidN s last = if s.all digB = true then numM s else 0 := by rw [uidN, if_neg h0]
    have hB : uidB s = (s.all digB && (within s.length 1 4 && decide (0 < numM s))) := by rw [uidB, if_neg h0]
    rw [hN, hB] at hr
    clear hN hB
    simp only [hst, go_sem]
    repeat' ((first | apply qa | apply qb | apply qc | apply qd | apply qe | apply qf | apply qg | apply qh | apply qi | apply qj | apply qk) <;> intro hp <;> simp only [hp, hst, go_sem])
    refine loop_go (fun i : Nat => [(6, .int .i64 (numM (s.take i))), (13, .int .i64 (i : Int))]) (fun _ => []) (fun i => s.length - i) (fun i => i ≤ s.length ∧ (s.take i).all digB = true) 0 ⟨Nat.zero_le _, rfl⟩ rfl rfl ?_
    intro i ⟨hi, ha⟩ ih
    rcases Nat.lt_or_ge i s.length with h | h
    · have g1 : (i : Int) < s.length := by omega
      have g2 : (0 : Int) ≤ i := by omega
      have g3 : s[i]? = some s[i] := List.getElem?_eq_getElem h
      have g5 := wrap_succ h (by omega)
      have hm := numM_bound _ ha
      cases hb : digB s[i] with
      | false =>
        have hb' : within (s[i].toNat : Int) 48 57 = false := hb
        have hall : s.all digB = false := List.all_eq_false.2 ⟨s[i], List.getElem_mem h, by simp [hb]⟩
        simp only [g1, g2, g3, byte_wrap, hb', go_sem]
        repeat' ((first | apply qa | apply qb | apply qc | apply qd | apply qe | apply qf | apply qg | apply qh | apply qi | apply qj | apply qk) <;> intro hp <;> simp only [hp, g1, g2, g3, byte_wrap, hb', go_sem])
        simp only [fin_mk, finV, resL, resV1, resIn, endA, listIn, Option.some_or, Option.none_or, oneOrTup, go_sem]
        rw [← hr]
        rw [hall]; rfl
      | true =>
        have hb' : within (s[i].toNat : Int) 48 57 = true := hb
        have hd := digB_iff hb
        have w1 : IntKind.i64.wrap (10 * numM (s.take i)) = 10 * numM (s.take i) := wrap64 (by omega) (by omega)
        have w2 : IntKind.u8.wrap ((s[i].toNat : Int) - 48) = (s[i].toNat : Int) - 48 := by
          simp only [IntKind.wrap, IntKind.signed, IntKind.bits]
          simp; omega
        have w3 : IntKind.i64.wrap ((s[i].toNat : Int) - 48) = (s[i].toNat : Int) - 48 := wrap64 (by omega) (by omega)
        have w4 : IntKind.i64.wrap (10 * numM (s.take i) + ((s[i].toNat : Int) - 48)) = 10 * numM (s.take i) + ((s[i].toNat : Int) - 48) := wrap64 (by omega) (by omega)
        have ih' := ih (i + 1) ⟨h, all_take_succ h ha hb⟩ (by omega)
        rw [take_succ' h, numM_snoc] at ih'
        clear ih
        simp only [g1, g2, g3, g5, byte_wrap, hb', w1, w2, w3, w4, go_sem]
        repeat' ((first | apply qa | apply qb | apply qc | apply qd | apply qe | apply qf | apply qg | apply qh | apply qi | apply qj | apply qk) <;> intro hp <;> simp only [hp, g1, g2, g3, g5, byte_wrap, hb', w1, w2, w3, w4, go_sem])
        exact ih'
    · have g1 : ¬ (i : Int) < s.length := by omega
      have ht : s.take i = s := List.take_of_length_le h
      rw [ht] at ha ⊢
      rw [ha] at hr
      cases hw : within s.length 1 4 with
      | false =>
        rw [hw] at hr
        simp only [g1, hw, go_sem]
        repeat' ((first | apply qa | apply qb | apply qc | apply qd | apply qe | apply qf | apply qg | apply qh | apply qi | apply qj | apply qk) <;> intro hp <;> simp only [hp, g1, hw, go_sem])
        simp only [fin_mk, finV, resL, resV1, resIn, endA, listIn, Option.some_or, Option.none_or, oneOrTup, go_sem]
        rw [← hr]
        rfl
      | true =>
        rw [hw] at hr
        simp only [g1, hw, go_sem]
        repeat' ((first | apply qa | apply qb | apply qc | apply qd | apply qe | apply qf | apply qg | apply qh | apply qi | apply qj | apply qk) <;> intro hp <;> simp only [hp, g1, hw, go_sem])
        simp only [fin_mk, finV, resL, resV1, resIn, endA, listIn, Option.some_or, Option.none_or, oneOrTup, go_sem]
        rw [← hr]
        rfl
open Classical in
noncomputable def spNum : VM.Spec := { modes := [.rd, .rd], run := fun | [.str s, .int .i64 last] => if s.length ≤ 4194304 then some (.tup [.int .i64 (numN s last), .bool (numB s)], []) else none | _ => none, need := [] }
attribute [go_sem] spNum
theorem spNum_in {ins : List V} {r : V} {outs : List V} (h : spNum.run ins = some (r, outs)) : ∃ (s : (List UInt8)) (last : Int), ins = [.str s, .int .i64 last] ∧ (s.length ≤ 4194304) ∧ .tup [.int .i64 (numN s last), .bool (numB s)] = r ∧ outs = [] := by
  unfold spNum at h
  simp only at h
  split at h
  · rename_i s last
    split at h
    case isFalse => cases h
    rename_i hc
    simp only [Option.some.injEq, Prod.mk.injEq] at h
    obtain ⟨h1, h2⟩ := h
    exact ⟨s, last, rfl, hc, h1, h2.symm⟩
  · cases h
def T_spec_l05Num : Hints := ⟨lk [], lk [(7, [0, 6, 7])], lk [(0, [0, 1]), (1, [0, 1, 9]), (2, [4, 5]), (3, [0, 14]), (4, [4, 5]), (5, [0, 6]), (6, [0, 6, 7]), (7, [0, 6, 7, 18]), (9, [0, 6, 7, 30]), (10, [4, 5]), (11, [0, 6, 7]), (8, [0, 6, 7]), (12, [4, 5])], lk []⟩
noncomputable def Phi_spec_l05Num : Tab := lk [(35, spWithin)]
attribute [go_sem] T_spec_l05Num Phi_spec_l05Num
theorem phi_spec_l05Num : ∀ f sp, Phi_spec_l05Num f = some sp → FnOk Tryz.prog f sp ∧ ∀ n ∈ sp.need, n ∈ ([] : List String) := phi_cons ok_spec_l01In (n0 rfl) (phi_nil)
theorem ok_spec_l05Num : FnOk Tryz.prog 63 spNum := by
  refine fn_ok (Φ := Phi_spec_l05Num) (T := T_spec_l05Num) phi_spec_l05Num mixed Tryz.func63 rfl rfl rfl (by decide) ?_
  intro ins r outs hr hl
  clear hl
  have hs := spNum_in hr
  clear hr
  obtain ⟨s, last, rfl, hc, hr, rfl⟩ := hs
  simp only [spNum, Tryz.f63, Go.VM.initS]
  cases hst : (s == [42]) with
  | true =>
    have h0 : s = [42] := by simpa using hst
    subst h0
    simp only [go_sem]
    repeat' ((first | apply qa | apply qb | apply qc | apply qd | apply qe | apply qf | apply qg | apply qh | apply qi | apply qj | apply qk) <;> intro hp <;> simp only [hp, go_sem])
    simp only [fin_mk, finV, resL, resV1, resIn, endA, listIn, Option.some_or, Option.none_or, oneOrTup, go_sem]
    rw [← hr]
    rfl
  | false =>
    have h0 : ¬ s = [42] := by simpa using hst
    have hN : numN s last = if (within s.length 1 4 && s.all digB) = true then numV s else 0 := by rw [numN, if_neg h0]
    have hB : numB s = (within s.length 1 4 && s.all digB && decide (1 ≤ numV s)) := by rw [numB, if_neg h0]
    rw [hN, hB] at hr
    clear hN hB
    cases hw : within s.length 1 4 with
    | false =>
      rw [hw] at hr
      simp only [hst, hw, go_sem]
      repeat' ((first | apply qa | apply qb | apply qc | apply qd | apply qe | apply qf | apply qg | apply qh | apply qi | apply qj | apply qk) <;> intro hp <;> simp only [hp, hst, hw, go_sem])
      simp only [fin_mk, finV, resL, resV1, resIn, endA, listIn, Option.some_or, Option.none_or, oneOrTup, go_sem]
      rw [← hr]
      rfl
    | true =>
      rw [hw] at hr
      have hl4 := within_len hw
      simp only [hst, hw, go_sem]
      repeat' ((first | apply qa | apply qb | apply qc | apply qd | apply qe | apply qf | apply qg | apply qh | apply qi | apply qj | apply qk) <;> intro hp <;> simp only [hp, hst, hw, go_sem])
      refine loop_go (fun i : Nat => [(6, .int .i64 (numV (s.take i))), (7, .int .i64 (i : Int))]) (fun _ => []) (fun i => s.length - i) (fun i => i ≤ s.length ∧ (s.take i).all digB = true) 0 ⟨Nat.zero_le _, rfl⟩ rfl rfl ?_
      intro i ⟨hi, ha⟩ ih
      rcases Nat.lt_or_ge i s.length with h | h
      · have g1 : (i : Int) < s.length := by omega
        have g2 : (0 : Int) ≤ i := by omega
        have g3 : s[i]? = some s[i] := List.getElem?_eq_getElem h
        have g5 := wrap_succ h (by omega)
        have hm := numV_bound _ ha
        have hp := pow_le9 (n := (s.take i).length) (by rw [List.length_take]; omega)
        cases hb : digB s[i] with
        | false =>
          have hall : s.all digB = false := List.all_eq_false.2 ⟨s[i], List.getElem_mem h, by simp [hb]⟩
          rw [hall] at hr
          by_cases c1 : (s[i].toNat : Int) < 48
          · simp only [g1, g2, g3, c1, go_sem]
            repeat' ((first | apply qa | apply qb | apply qc | apply qd | apply qe | apply qf | apply qg | apply qh | apply qi | apply qj | apply qk) <;> intro hp <;> simp only [hp, g1, g2, g3, c1, go_sem])
            simp only [fin_mk, finV, resL, resV1, resIn, endA, listIn, Option.some_or, Option.none_or, oneOrTup, go_sem]
            rw [← hr]
            rfl
          · have c2 : (57 : Int) < s[i].toNat := by
              simp only [digB, within, Bool.and_eq_false_iff, decide_eq_false_iff_not] at hb; omega
            simp only [g1, g2, g3, c1, c2, go_sem]
            repeat' ((first | apply qa | apply qb | apply qc | apply qd | apply qe | apply qf | apply qg | apply qh | apply qi | apply qj | apply qk) <;> intro hp <;> simp only [hp, g1, g2, g3, c1, c2, go_sem])
            simp only [fin_mk, finV, resL, resV1, resIn, endA, listIn, Option.some_or, Option.none_or, oneOrTup, go_sem]
            rw [← hr]
            rfl
        | true =>
          have hd := digB_iff hb
          have c1 : ¬ (s[i].toNat : Int) < 48 := by omega
          have c2 : ¬ (57 : Int) < s[i].toNat := by omega
          have w1 : IntKind.i64.wrap (10 * numV (s.take i)) = 10 * numV (s.take i) := wrap64 (by omega) (by omega)
          have w4 : IntKind.i64.wrap (10 * numV (s.take i) + (s[i].toNat : Int)) = 10 * numV (s.take i) + (s[i].toNat : Int) := wrap64 (by omega) (by omega)
          have w5 : IntKind.i64.wrap (10 * numV (s.take i) + (s[i].toNat : Int) - 48) = stepV (numV (s.take i)) s[i] := (wrap64 (by omega) (by omega)).trans (by unfold stepV; omega)
          have ih' := ih (i + 1) ⟨h, all_take_succ h ha hb⟩ (by omega)
          rw [take_succ' h, numV_snoc] at ih'
          clear ih
          simp only [g1, g2, g3, g5, byte_wrap, c1, c2, w1, w4, w5, go_sem]
          repeat' ((first | apply qa | apply qb | apply qc | apply qd | apply qe | apply qf | apply qg | apply qh | apply qi | apply qj | apply qk) <;> intro hp <;> simp only [hp, g1, g2, g3, g5, byte_wrap, c1, c2, w1, w4, w5, go_sem])
          exact ih'
      · have g1 : ¬ (i : Int) < s.length := by omega
        have ht : s.take i = s := List.take_of_length_le h
        rw [ht] at ha ⊢
        rw [ha] at hr
        simp only [g1, go_sem]
        repeat' ((first | apply qa | apply qb | apply qc | apply qd | apply qe | apply qf | apply qg | apply qh | apply qi | apply qj | apply qk) <;> intro hp <;> simp only [hp, g1, go_sem])
        simp only [fin_mk, finV, resL, resV1, resIn, endA, listIn, Option.some_or, Option.none_or, oneOrTup, go_sem]
        rw [← hr]
        rfl
end Go.Proofs.YtnbkmmjnpbfhnaaGreatDoor.L

namespace Go.Proofs.YtnbkmmjnpbfhnaaGreatDoor.L
open Go Go.VM
set_option maxRecDepth 100000
set_option maxHeartbeats 4000000
set_option linter.unusedSimpArgs false
set_option linter.unusedVariables false
open Classical in
noncomputable def spIndex : VM.Spec := { modes := [.rd, .rd], run := fun | [.str s, .str t] => if s.length < 4294967281 then some (.int .i64 (Lib.index s t), []) else none | _ => none, need := ["internal/bytealg.MaxLen"] }
attribute [go_sem] spIndex
theorem spIndex_in {ins : List V} {r : V} {outs : List V} (h : spIndex.run ins = some (r, outs)) : ∃ (s : (List UInt8)) (t : (List UInt8)), ins = [.str s, .str t] ∧ (s.length < 4294967281) ∧ .int .i64 (Lib.index s t) = r ∧ outs = [] := by
  unfold spIndex at h
  simp only at h
  split at h
  · rename_i s t
    split at h
    case isFalse => cases h
    rename_i hc
    simp only [Option.some.injEq, Prod.mk.injEq] at h
    obtain ⟨h1, h2⟩ := h
    exact ⟨s, t, rfl, hc, h1, h2.symm⟩
  · cases h
theorem ok_internal_stringslite_Index : FnOk Tryz.prog 67 spIndex :=
  index_ok Tryz.func67 rfl (by kernel_rfl) (g := 0) (by kernel_rfl) (by simp [spIndex]) rfl (fun _ _ _ h => spIndex_in h) Tryz.stringslite_Index
theorem index_room {s t : List UInt8} (h : 0 ≤ Lib.index s t) : Lib.index s t + t.length ≤ s.length := by
  induction s with
  | nil =>
    unfold Lib.index at h ⊢
    split
    · rename_i ht
      have : t = [] := by simpa using ht
      subst this; simp
    · rename_i ht; rw [if_neg ht] at h; omega
  | cons b s ih =>
    unfold Lib.index at h ⊢
    split
    · rename_i hp
      have := isPrefixOf_len hp
      omega
    · rename_i hp
      rw [if_neg hp] at h
      split
      · rename_i he; rw [if_pos he] at h; omega
      · rename_i he
        rw [if_neg he] at h
        have h1 := Lib.index_ge s t
        have h2 : Lib.index s t ≠ -1 := by simpa using he
        have := ih (by omega)
        simp only [List.length_cons]; omega
def cutB (s t : List UInt8) : Bool := decide (0 ≤ Lib.index s t)
def cut1 (s t : List UInt8) : List UInt8 := if cutB s t = true then s.take (Lib.index s t).toNat else s
def cut2 (s t : List UInt8) : List UInt8 := if cutB s t = true then s.drop ((Lib.index s t).toNat + t.length) else []
open Classical in
noncomputable def spCut : VM.Spec := { modes := [.rd, .rd], run := fun | [.str s, .str t] => if s.length ≤ 4194304 ∧ t.length ≤ 4194304 then some (.tup [.str (cut1 s t), .str (cut2 s t), .bool (cutB s t)], []) else none | _ => none, need := ["internal/bytealg.MaxLen"] }
attribute [go_sem] spCut
theorem spCut_in {ins : List V} {r : V} {outs : List V} (h : spCut.run ins = some (r, outs)) : ∃ (s : (List UInt8)) (t : (List UInt8)), ins = [.str s, .str t] ∧ (s.length ≤ 4194304 ∧ t.length ≤ 4194304) ∧ .tup [.str (cut1 s t), .str (cut2 s t), .bool (cutB s t)] = r ∧ outs = [] := by
  unfold spCut at h
  simp only at h
  split at h
  · rename_i s t
    split at h
    case isFalse => cases h
    rename_i hc
    simp only [Option.some.injEq, Prod.mk.injEq] at h
    obtain ⟨h1, h2⟩ := h
    exact ⟨s, t, rfl, hc, h1, h2.symm⟩
  · cases h
def T_internal_stringslite_Cut : Hints := ⟨lk [(3, [])], lk [], lk [(0, [0, 1]), (1, [0, 1, 7]), (2, [0, 1, 7, 12]), (3, [4, 5, 6]), (4, [4, 5, 6])], lk []⟩
noncomputable def Phi_internal_stringslite_Cut : Tab := lk [(67, spIndex)]
attribute [go_sem] T_internal_stringslite_Cut Phi_internal_stringslite_Cut
theorem phi_internal_stringslite_Cut : ∀ f sp, Phi_internal_stringslite_Cut f = some sp → FnOk Tryz.prog f sp ∧ ∀ n ∈ sp.need, n ∈ (["internal/bytealg.MaxLen"] : List String) := phi_cons ok_internal_stringslite_Index (fun n (h : n ∈ (["internal/bytealg.MaxLen"] : List String)) => by simp only [List.mem_cons, List.not_mem_nil, or_false] at h; rcases h with rfl <;> simp) (phi_nil)
theorem ok_internal_stringslite_Cut : FnOk Tryz.prog 47 spCut := by
  refine fn_ok (Φ := Phi_internal_stringslite_Cut) (T := T_internal_stringslite_Cut) phi_internal_stringslite_Cut mixed Tryz.func47 rfl rfl rfl (by decide) ?_
  intro ins r outs hr hl
  clear hl
  have hs := spCut_in hr
  clear hr
  obtain ⟨s, t, rfl, hc, hr, rfl⟩ := hs
  simp only [spCut, Tryz.f47, Go.VM.initS]
  obtain ⟨hs, ht⟩ := hc
  have h1 : s.length < 4294967281 := by omega
  by_cases h : 0 ≤ Lib.index s t
  · have hr2 := index_room h
    obtain ⟨k, hk⟩ : ∃ k : Nat, Lib.index s t = k := ⟨(Lib.index s t).toNat, by omega⟩
    rw [hk] at hr2
    have hB : cutB s t = true := by simp [cutB, h]
    simp only [cut1, cut2, hB, if_true, hk, Int.toNat_natCast] at hr
    have g1 : (0 : Int) ≤ k := by omega
    have g2 : k ≤ s.length := by omega
    have g3 : IntKind.i64.wrap ((k : Int) + (t.length : Int)) = ((k + t.length : Nat) : Int) := (wrap64 (by omega) (by omega)).trans (by omega)
    have g4 : (0 : Int) ≤ ((k + t.length : Nat) : Int) := by omega
    have g5 : k + t.length ≤ s.length := by omega
    simp only [h1, hk, g1, g2, g3, g4, g5, Int.toNat_natCast, List.take_length, List.drop_zero, Nat.zero_le, Nat.le_refl, go_sem]
    repeat' ((first | ((first | apply qa | apply qb | apply qc | apply qd | apply qe | apply qf | apply qg | apply qh | apply qi | apply qj | apply qk) <;> intro hp) | ((first | refine ql rfl rfl (by decide +kernel) ?_ | refine qm _ rfl rfl (by decide +kernel) ?_) <;> have hp := True.intro)) <;> simp only [hp, h1, hk, g1, g2, g3, g4, g5, Int.toNat_natCast, List.take_length, List.drop_zero, Nat.zero_le, Nat.le_refl, go_sem])
    simp only [fin_mk, finV, resL, resV1, resIn, endA, listIn, Option.some_or, Option.none_or, oneOrTup, go_sem]
    rw [← hr]
  · have hB : cutB s t = false := by simp [cutB]; omega
    simp only [cut1, cut2, hB, Bool.false_eq_true, if_false] at hr
    simp only [h1, h, go_sem]
    repeat' ((first | ((first | apply qa | apply qb | apply qc | apply qd | apply qe | apply qf | apply qg | apply qh | apply qi | apply qj | apply qk) <;> intro hp) | ((first | refine ql rfl rfl (by decide +kernel) ?_ | refine qm _ rfl rfl (by decide +kernel) ?_) <;> have hp := True.intro)) <;> simp only [hp, h1, h, go_sem])
    simp only [fin_mk, finV, resL, resV1, resIn, endA, listIn, Option.some_or, Option.none_or, oneOrTup, go_sem]
    rw [← hr]
def T_strings_Cut : Hints := ⟨lk [], lk [], lk [(0, [0, 1]), (1, [4, 5, 6])], lk []⟩
noncomputable def Phi_strings_Cut : Tab := lk [(47, spCut)]
attribute [go_sem] T_strings_Cut Phi_strings_Cut
theorem phi_strings_Cut : ∀ f sp, Phi_strings_Cut f = some sp → FnOk Tryz.prog f sp ∧ ∀ n ∈ sp.need, n ∈ (["internal/bytealg.MaxLen"] : List String) := phi_cons ok_internal_stringslite_Cut (fun n (h : n ∈ (["internal/bytealg.MaxLen"] : List String)) => by simp only [List.mem_cons, List.not_mem_nil, or_false] at h; rcases h with rfl <;> simp) (phi_nil)
theorem ok_strings_Cut : FnOk Tryz.prog 26 spCut := by
  refine fn_ok (Φ := Phi_strings_Cut) (T := T_strings_Cut) phi_strings_Cut mixed Tryz.func26 rfl rfl rfl (by decide) ?_
  intro ins r outs hr hl
  clear hl
  have hs := spCut_in hr
  clear hr
  obtain ⟨s, t, rfl, hc, hr, rfl⟩ := hs
  simp only [spCut, Tryz.f26, Go.VM.initS]
  obtain ⟨hs, ht⟩ := hc
  simp only [hs, ht, go_sem]
  repeat' ((first | apply qa | apply qb | apply qc | apply qd | apply qe | apply qf | apply qg | apply qh | apply qi | apply qj | apply qk) <;> intro hp <;> simp only [hp, hs, ht, go_sem])
  simp only [fin_mk, finV, resL, resV1, resIn, endA, listIn, Option.some_or, Option.none_or, oneOrTup, go_sem]
  rw [← hr]
theorem index_one (c : UInt8) (s : List UInt8) : Lib.index s [c] = if c ∈ s then ((s.takeWhile (notB c)).length : Int) else -1 := by
  induction s with
  | nil => rfl
  | cons b s ih =>
    by_cases hb : b = c
    · subst hb
      simp [Lib.index, List.isPrefixOf, List.takeWhile_cons, notB]
    · have hp : [c].isPrefixOf (b :: s) = false := by simp [List.isPrefixOf]; exact fun h => hb h.symm
      have hn : notB c b = true := by simpa [notB] using hb
      rw [Lib.index, hp, ih, List.takeWhile_cons, hn]
      by_cases hm : c ∈ s
      · have : ((((s.takeWhile (notB c)).length : Nat) : Int) == -1) = false := beq_eq_false_iff_ne.2 (by omega)
        simp [hm, this]
      · simp [hm, Ne.symm hb]
theorem takeWhile_take {α : Type} (p : α → Bool) (s : List α) : s.take (s.takeWhile p).length = s.takeWhile p := by
  induction s with
  | nil => rfl
  | cons b s ih =>
    rw [List.takeWhile_cons]
    split
    · rw [List.length_cons, List.take_succ_cons, ih]
    · rfl
def first (p : List UInt8) : List UInt8 := p.takeWhile (notB 58)
def second (p : List UInt8) : List UInt8 := p.drop ((first p).length + 1)
def partB (p : List UInt8) : Bool := if 58 ∈ p then numB (first p) && numB (second p) else numB p
def partLo (p : List UInt8) (last : Int) : Int := if 58 ∈ p then min (numN (first p) last) (numN (second p) last) else numN p last
def partHi (p : List UInt8) (last : Int) : Int := if 58 ∈ p then max (numN (first p) last) (numN (second p) last) else numN p last
theorem part_in {p : List UInt8} {last : Int} (hl : 1 ≤ last ∧ last ≤ 9999) (h : partB p = true) : 1 ≤ partLo p last ∧ partLo p last ≤ partHi p last ∧ partHi p last ≤ 9999 := by
  unfold partB at h
  unfold partLo partHi
  split
  · rename_i hm
    rw [if_pos hm, Bool.and_eq_true] at h
    have h1 := numN_in hl h.1
    have h2 := numN_in hl h.2
    omega
  · rename_i hm
    rw [if_neg hm] at h
    have h1 := numN_in hl h
    omega
open Classical in
noncomputable def spPart : VM.Spec := { modes := [.rd, .rd], run := fun | [.str t, .int .i64 last] => if t.length ≤ 4194304 then some (.tup [.int .i64 (partLo t last), .int .i64 (partHi t last), .bool (partB t)], []) else none | _ => none, need := [] }
attribute [go_sem] spPart
theorem spPart_in {ins : List V} {r : V} {outs : List V} (h : spPart.run ins = some (r, outs)) : ∃ (t : (List UInt8)) (last : Int), ins = [.str t, .int .i64 last] ∧ (t.length ≤ 4194304) ∧ .tup [.int .i64 (partLo t last), .int .i64 (partHi t last), .bool (partB t)] = r ∧ outs = [] := by
  unfold spPart at h
  simp only at h
  split at h
  · rename_i t last
    split at h
    case isFalse => cases h
    rename_i hc
    simp only [Option.some.injEq, Prod.mk.injEq] at h
    obtain ⟨h1, h2⟩ := h
    exact ⟨t, last, rfl, hc, h1, h2.symm⟩
  · cases h
def T_spec_l05Part : Hints := ⟨lk [], lk [(2, [0, 1, 7])], lk [(0, [0, 1]), (1, [0, 1, 7]), (2, [0, 1, 7, 17]), (4, [0, 1, 7, 23]), (5, [0, 1, 7, 8, 9]), (6, [8, 9, 10, 11]), (7, [8, 9, 10, 11, 43]), (8, [8, 9, 10, 11]), (9, [4, 5, 6]), (3, [0, 1, 7]), (10, [12, 13]), (11, [4, 5, 6])], lk []⟩
noncomputable def Phi_spec_l05Part : Tab := lk [(63, spNum)]
attribute [go_sem] T_spec_l05Part Phi_spec_l05Part
theorem phi_spec_l05Part : ∀ f sp, Phi_spec_l05Part f = some sp → FnOk Tryz.prog f sp ∧ ∀ n ∈ sp.need, n ∈ ([] : List String) := phi_cons ok_spec_l05Num (n0 rfl) (phi_nil)
theorem ok_spec_l05Part : FnOk Tryz.prog 36 spPart := by
  refine fn_ok (Φ := Phi_spec_l05Part) (T := T_spec_l05Part) phi_spec_l05Part mixed Tryz.func36 rfl rfl rfl (by decide) ?_
  intro ins r outs hr hl
  clear hl
  have hs := spPart_in hr
  clear hr
  obtain ⟨t, last, rfl, hc, hr, rfl⟩ := hs
  simp only [spPart, Tryz.f36, Go.VM.initS]
  simp only [go_sem]
  repeat' ((first | apply qa | apply qb | apply qc | apply qd | apply qe | apply qf | apply qg | apply qh | apply qi | apply qj | apply qk) <;> intro hp <;> simp only [hp, go_sem])
  refine loop_go (fun i : Nat => [(7, .int .i64 (i : Int))]) (fun _ => []) (fun i => t.length - i) (fun i => i ≤ t.length ∧ ∀ x ∈ t.take i, notB 58 x = true) 0 ⟨Nat.zero_le _, by simp⟩ rfl rfl ?_
  intro i ⟨hi, ha⟩ ih
  rcases Nat.lt_or_ge i t.length with h | h
  · have g1 : (i : Int) < t.length := by omega
    have g2 : (0 : Int) ≤ i := by omega
    have g3 : t[i]? = some t[i] := List.getElem?_eq_getElem h
    have g4 : i ≤ t.length := by omega
    have g5 := wrap_succ h (by omega)
    have g6 : (0 : Int) ≤ ((i + 1 : Nat) : Int) := by omega
    have g7 : i + 1 ≤ t.length := by omega
    cases hb : ((t[i].toNat : Int) == 58) with
    | true =>
      have h58 : t[i] = 58 := by
        have h1 : t[i].toNat = (58 : UInt8).toNat := by simp only [beq_iff_eq] at hb; show t[i].toNat = 58; omega
        exact UInt8.toNat_inj.1 h1
      have hm : (58 : UInt8) ∈ t := by rw [← h58]; exact List.getElem_mem h
      have e1 : first t = t.take i := takeWhile_at ha h (by rw [h58]; rfl)
      have e2 : second t = t.drop (i + 1) := by rw [second, e1, List.length_take, Nat.min_eq_left (by omega)]
      have l1 : (t.take i).length ≤ 4194304 := by rw [List.length_take]; omega
      have l2 : (t.drop (i + 1)).length ≤ 4194304 := by rw [List.length_drop]; omega
      simp only [partLo, partHi, partB, if_pos hm, e1, e2] at hr
      generalize hX : numN (t.take i) last = X at *
      generalize hY : numN (t.drop (i + 1)) last = Y at *
      generalize hA : numB (t.take i) = A at *
      generalize hB : numB (t.drop (i + 1)) = B at *
      by_cases hlt : Y < X
      · rw [Int.min_eq_right (by omega), Int.max_eq_left (by omega)] at hr
        simp only [g1, g2, g3, g4, g5, g6, g7, hb, l1, l2, hX, hY, hA, hB, hlt, List.take_length, List.drop_zero, Nat.zero_le, Nat.le_refl, go_sem]
        repeat' ((first | apply qa | apply qb | apply qc | apply qd | apply qe | apply qf | apply qg | apply qh | apply qi | apply qj | apply qk) <;> intro hp <;> simp only [hp, g1, g2, g3, g4, g5, g6, g7, hb, l1, l2, hX, hY, hA, hB, hlt, List.take_length, List.drop_zero, Nat.zero_le, Nat.le_refl, go_sem])
        all_goals (simp only [fin_mk, finV, resL, resV1, resIn, endA, listIn, Option.some_or, Option.none_or, oneOrTup, go_sem]; rw [← hr])
        all_goals (rw [hp]; rfl)
      · rw [Int.min_eq_left (by omega), Int.max_eq_right (by omega)] at hr
        simp only [g1, g2, g3, g4, g5, g6, g7, hb, l1, l2, hX, hY, hA, hB, hlt, List.take_length, List.drop_zero, Nat.zero_le, Nat.le_refl, go_sem]
        repeat' ((first | apply qa | apply qb | apply qc | apply qd | apply qe | apply qf | apply qg | apply qh | apply qi | apply qj | apply qk) <;> intro hp <;> simp only [hp, g1, g2, g3, g4, g5, g6, g7, hb, l1, l2, hX, hY, hA, hB, hlt, List.take_length, List.drop_zero, Nat.zero_le, Nat.le_refl, go_sem])
        all_goals (simp only [fin_mk, finV, resL, resV1, resIn, endA, listIn, Option.some_or, Option.none_or, oneOrTup, go_sem]; rw [← hr])
        all_goals (rw [hp]; rfl)
    | false =>
      have ih' := ih (i + 1) ⟨h, by
        rw [take_succ' h]
        intro x hx
        rcases List.mem_append.1 hx with hx | hx
        · exact ha x hx
        · simp only [List.mem_singleton] at hx
          subst hx
          unfold notB
          rw [bne_iff_ne]
          intro e
          rw [e] at hb
          exact absurd hb (by decide)⟩ (by omega)
      simp only [g1, g2, g3, g5, hb, go_sem]
      repeat' ((first | apply qa | apply qb | apply qc | apply qd | apply qe | apply qf | apply qg | apply qh | apply qi | apply qj | apply qk) <;> intro hp <;> simp only [hp, g1, g2, g3, g5, hb, go_sem])
      exact ih'
  · have g1 : ¬ (i : Int) < t.length := by omega
    rw [List.take_of_length_le h] at ha
    have hm : ¬ (58 : UInt8) ∈ t := fun hm => by have := ha _ hm; simp [notB] at this
    simp only [partLo, partHi, partB, if_neg hm] at hr
    simp only [hc, g1, go_sem]
    repeat' ((first | apply qa | apply qb | apply qc | apply qd | apply qe | apply qf | apply qg | apply qh | apply qi | apply qj | apply qk) <;> intro hp <;> simp only [hp, hc, g1, go_sem])
    simp only [fin_mk, finV, resL, resV1, resIn, endA, listIn, Option.some_or, Option.none_or, oneOrTup, go_sem]
    rw [← hr]
def rangesOf (last : Int) : List (List UInt8) → Option (List Range)
  | [] => some []
  | p :: ps => if partB p = true then (rangesOf last ps).map fun l => ⟨partLo p last, partHi p last⟩ :: l else none
theorem rangesOf_append (last : Int) : ∀ (a b : List (List UInt8)), rangesOf last (a ++ b) = (rangesOf last a).bind fun l => (rangesOf last b).map (l ++ ·)
  | [], b => by simp [rangesOf]
  | p :: a, b => by
    simp only [List.cons_append, rangesOf]
    split
    · rw [rangesOf_append last a b]
      cases rangesOf last a with
      | none => rfl
      | some l => cases rangesOf last b <;> simp
    · rfl
theorem rangesOf_in {last : Int} (hl : 1 ≤ last ∧ last ≤ 9999) : ∀ {ps : List (List UInt8)} {l : List Range}, rangesOf last ps = some l → (∀ r ∈ l, 1 ≤ r.Lo ∧ r.Lo ≤ r.Hi ∧ r.Hi ≤ 9999) ∧ l.length = ps.length
  | [], l, h => by simp only [rangesOf, Option.some.injEq] at h; subst h; simp
  | p :: ps, l, h => by
    simp only [rangesOf] at h
    split at h
    · rename_i hp
      simp only [Option.map_eq_some_iff] at h
      obtain ⟨m, hm, rfl⟩ := h
      obtain ⟨h1, h2⟩ := rangesOf_in hl hm
      refine ⟨fun r hr => ?_, by simp [h2]⟩
      rcases List.mem_cons.1 hr with rfl | hr
      · exact part_in hl hp
      · exact h1 r hr
    · cases h
def readOk (t : List UInt8) (last : Int) : Bool := within last 1 9999 && (match rangesOf last (splitOn 44 t) with | some l => decide ((setR l).length ≤ 40) | none => false)
def readSet (t : List UInt8) (last : Int) : List Range := if readOk t last = true then (match rangesOf last (splitOn 44 t) with | some l => setR l | none => []) else []
theorem cutB_one (p : List UInt8) : cutB p [58] = decide (58 ∈ p) := by
  rw [cutB, index_one, Bool.eq_iff_iff]
  split <;> simp_all
theorem cut1_one (p : List UInt8) : cut1 p [58] = first p := by
  rw [cut1, cutB_one, index_one]
  by_cases h : (58 : UInt8) ∈ p
  · simp only [h, decide_true, if_true, Int.toNat_natCast]
    exact takeWhile_take _ _
  · simp only [h, decide_false, Bool.false_eq_true, if_false]
    exact (takeWhile_all fun x hx => by simp only [notB, bne_iff_ne]; rintro rfl; exact h hx).symm
theorem cut2_one (p : List UInt8) : cut2 p [58] = if 58 ∈ p then second p else [] := by
  rw [cut2, cutB_one, index_one]
  by_cases h : (58 : UInt8) ∈ p
  · simp only [h, decide_true, if_true, Int.toNat_natCast]; rfl
  · simp only [h, decide_false, Bool.false_eq_true, if_false]
theorem first_none {p : List UInt8} (h : ¬ (58 : UInt8) ∈ p) : first p = p := takeWhile_all fun x hx => by simp only [notB, bne_iff_ne]; rintro rfl; exact h hx
open Classical in
noncomputable def spReadSet : VM.Spec := { modes := [.rd, .rd], run := fun | [.str t, .int .i64 last] => if t.length ≤ 4194304 then some (.tup [.lst 2 ((readSet t last).map Range.enc), .bool (readOk t last)], []) else none | _ => none, need := ["internal/bytealg.MaxLen"] }
attribute [go_sem] spReadSet
theorem spReadSet_in {ins : List V} {r : V} {outs : List V} (h : spReadSet.run ins = some (r, outs)) : ∃ (t : (List UInt8)) (last : Int), ins = [.str t, .int .i64 last] ∧ (t.length ≤ 4194304) ∧ .tup [.lst 2 ((readSet t last).map Range.enc), .bool (readOk t last)] = r ∧ outs = [] := by
  unfold spReadSet at h
  simp only at h
  split at h
  · rename_i t last
    split at h
    case isFalse => cases h
    rename_i hc
    simp only [Option.some.injEq, Prod.mk.injEq] at h
    obtain ⟨h1, h2⟩ := h
    exact ⟨t, last, rfl, hc, h1, h2.symm⟩
  · cases h
def T_impl_ReadSet : Hints := ⟨lk [], lk [(5, [1, 6, 24, 25, 26])], lk [(0, [0, 1]), (1, [0, 1, 21]), (2, [4, 5]), (3, [0, 1, 6]), (4, [1, 6, 24, 25, 26]), (5, [1, 6, 24, 25, 26, 27]), (6, [1, 6, 8, 24, 25, 26]), (7, [1, 6, 9, 10, 11, 24, 25, 26]), (8, [1, 6, 10, 11, 12, 13, 24, 25, 26]), (9, [1, 6, 10, 11, 12, 13, 14, 24, 25, 26]), (10, [1, 6, 10, 12, 13, 14, 24, 25, 26, 43]), (11, [1, 6, 12, 13, 15, 16, 24, 25, 26]), (12, [1, 6, 12, 13, 14, 24, 25, 26]), (13, [1, 6, 12, 14, 24, 25, 26, 56]), (14, [4, 5]), (15, [1, 6, 24, 25, 26]), (16, [1, 6, 24, 25, 26]), (17, [17, 18]), (18, [17, 74]), (19, [4, 5]), (20, [4, 5])], lk []⟩
noncomputable def Phi_impl_ReadSet : Tab := lk [(48, spUid), (49, spSplit), (26, spCut), (50, spReadUid), (51, spSetOfRead), (52, spHasRead)]
attribute [go_sem] T_impl_ReadSet Phi_impl_ReadSet
theorem phi_impl_ReadSet : ∀ f sp, Phi_impl_ReadSet f = some sp → FnOk Tryz.prog f sp ∧ ∀ n ∈ sp.need, n ∈ (["internal/bytealg.MaxLen"] : List String) := phi_cons ok_impl_isUid (n0 rfl) (phi_cons ok_strings_Split (fun n (h : n ∈ (["internal/bytealg.MaxLen"] : List String)) => by simp only [List.mem_cons, List.not_mem_nil, or_false] at h; rcases h with rfl <;> simp) (phi_cons ok_strings_Cut (fun n (h : n ∈ (["internal/bytealg.MaxLen"] : List String)) => by simp only [List.mem_cons, List.not_mem_nil, or_false] at h; rcases h with rfl <;> simp) (phi_cons ok_impl_readUid (n0 rfl) (phi_cons ok_impl_setOf (n0 rfl) (phi_cons ok_impl_ReadSet_1 (n0 rfl) (phi_nil))))))
theorem ok_impl_ReadSet : FnOk Tryz.prog 27 spReadSet := by
  refine fn_ok (Φ := Phi_impl_ReadSet) (T := T_impl_ReadSet) phi_impl_ReadSet mixed Tryz.func27 rfl rfl rfl (by decide) ?_
  intro ins r outs hr hl
  clear hl
  have hs := spReadSet_in hr
  clear hr
  obtain ⟨t, last, rfl, hc, hr, rfl⟩ := hs
  simp only [spReadSet, Tryz.f27, Go.VM.initS]
  cases hw : within last 1 9999 with
  | false =>
    simp only [hw, go_sem]
    repeat' ((first | apply qa | apply qb | apply qc | apply qd | apply qe | apply qf | apply qg | apply qh | apply qi | apply qj | apply qk) <;> intro hp <;> simp only [hp, hw, go_sem])
    simp only [fin_mk, finV, resL, resV1, resIn, endA, listIn, Option.some_or, Option.none_or, oneOrTup, go_sem]
    rw [← hr]
    simp only [readSet, readOk, hw, Bool.false_and, Bool.false_eq_true, if_false]
    rfl
  | true =>
    have hl : 1 ≤ last ∧ last ≤ 9999 := by simpa only [within, Bool.and_eq_true, decide_eq_true_eq] using hw
    have b1 : t.length < 4294967281 := by omega
    have hS := split_eq 44 t
    have hP1 := splitOn_len 44 t
    have hP2 := splitOn_mem 44 t
    have hro : readOk t last = (match rangesOf last (splitOn 44 t) with | some l => decide ((setR l).length ≤ 40) | none => false) := by rw [readOk, hw, Bool.true_and]
    have hrs : readSet t last = if readOk t last = true then (match rangesOf last (splitOn 44 t) with | some l => setR l | none => []) else [] := rfl
    rw [hrs, hro] at hr
    clear hrs hro
    simp only [hw, b1, hS, go_sem]
    repeat' ((first | apply qa | apply qb | apply qc | apply qd | apply qe | apply qf | apply qg | apply qh | apply qi | apply qj | apply qk) <;> intro hp <;> simp only [hp, hw, b1, hS, go_sem])
    generalize splitOn 44 t = P at *
    clear hS
    refine loop_go (fun q : Nat × List Range => [(26, .int .i64 (q.1 : Int))]) (fun q => [(2, ⟨.arr, 2, q.2.map Range.enc⟩)]) (fun q => P.length - q.1) (fun q => q.1 ≤ P.length ∧ rangesOf last (P.take q.1) = some q.2) (0, []) ⟨Nat.zero_le _, rfl⟩ rfl rfl ?_
    rintro ⟨i, L⟩ ⟨hi, hL⟩ ih
    simp only at hi hL ih
    have hLl : L.length = i := by rw [(rangesOf_in hl hL).2, List.length_take]; omega
    rcases Nat.lt_or_ge i P.length with h | h
    · have g1 : (i : Int) < P.length := by omega
      have g2 : (0 : Int) ≤ i := by omega
      have g3 : P[i]? = some P[i] := List.getElem?_eq_getElem h
      have g5 := wrap_succ h (by omega)
      have hx := hP2 _ (List.getElem_mem h)
      have hstep : rangesOf last (P.take (i + 1)) = if partB P[i] = true then some (L ++ [⟨partLo P[i] last, partHi P[i] last⟩]) else none := by
        rw [take_succ' h, rangesOf_append, hL, Option.bind_some, rangesOf]
        split <;> simp [rangesOf]
      have hbad : partB P[i] = false → rangesOf last P = none := fun hf => by
        rw [hf, if_neg (by simp)] at hstep
        have := rangesOf_append last (P.take (i + 1)) (P.drop (i + 1))
        rw [List.take_append_drop, hstep] at this
        exact this
      generalize hp : P[i] = p at *
      have c1 : p.length ≤ 4194304 := by omega
      have c2 : (first p).length ≤ 4194304 := Nat.le_trans (List.takeWhile_sublist (l := p) (notB 58)).length_le c1
      have c3 : (second p).length ≤ 4194304 := by rw [second, List.length_drop]; omega
      have f1 := cut1_one p
      have f2 := cut2_one p
      have f3 := cutB_one p
      have b4 : (i + 1) * 16 ≤ 140737488355328 := by omega
      have b5 : i ≤ 9223372036854775806 := by omega
      by_cases hm : (58 : UInt8) ∈ p
      · rw [if_pos hm] at f2
        rw [decide_eq_true hm] at f3
        have hPB : partB p = (numB (first p) && numB (second p)) := by rw [partB, if_pos hm]
        have hLo : partLo p last = min (numN (first p) last) (numN (second p) last) := by rw [partLo, if_pos hm]
        have hHi : partHi p last = max (numN (first p) last) (numN (second p) last) := by rw [partHi, if_pos hm]
        rw [hPB, hLo, hHi] at hstep
        rw [hPB] at hbad
        have u1 := uidB_eq (first p)
        have u2 := uidB_eq (second p)
        cases k1 : numB (first p) with
        | false =>
          rw [k1] at u1 hbad
          rw [hbad rfl] at hr
          simp only [g1, g2, g3, c1, c2, c3, f1, f2, f3, u1, u2, go_sem]
          repeat' ((first | apply qa | apply qb | apply qc | apply qd | apply qe | apply qf | apply qg | apply qh | apply qi | apply qj | apply qk) <;> intro hp <;> simp only [hp, g1, g2, g3, c1, c2, c3, f1, f2, f3, u1, u2, go_sem])
          all_goals (simp only [fin_mk, finV, resL, resV1, resIn, endA, listIn, Option.some_or, Option.none_or, oneOrTup, go_sem]; rw [← hr])
          all_goals rfl
        | true =>
          cases k2 : numB (second p) with
          | false =>
            rw [k1] at u1 hbad
            rw [k2] at u2 hbad
            rw [hbad rfl] at hr
            simp only [g1, g2, g3, c1, c2, c3, f1, f2, f3, u1, u2, go_sem]
            repeat' ((first | apply qa | apply qb | apply qc | apply qd | apply qe | apply qf | apply qg | apply qh | apply qi | apply qj | apply qk) <;> intro hp <;> simp only [hp, g1, g2, g3, c1, c2, c3, f1, f2, f3, u1, u2, go_sem])
            all_goals (simp only [fin_mk, finV, resL, resV1, resIn, endA, listIn, Option.some_or, Option.none_or, oneOrTup, go_sem]; rw [← hr])
            all_goals rfl
          | true =>
            have v1 := uidN_eq (last := last) k1
            have v2 := uidN_eq (last := last) k2
            rw [k1] at u1
            rw [k2] at u2
            rw [k1, k2] at hstep
            simp only [Bool.and_self, if_true] at hstep
            have ih' := ih (i + 1, _) ⟨h, hstep⟩ (by simp only; omega)
            simp only [List.map_append, List.map_cons, List.map_nil] at ih'
            clear ih hbad
            generalize hX : numN (first p) last = X at *
            generalize hY : numN (second p) last = Y at *
            have m1 : (if Y < X then Y else X) = min X Y := by split <;> omega
            have m2 : (if X < Y then Y else X) = max X Y := by split <;> omega
            simp only [g1, g2, g3, g5, c1, c2, c3, f1, f2, f3, u1, u2, v1, v2, m1, m2, hLl, b4, b5, go_sem]
            repeat' ((first | apply qa | apply qb | apply qc | apply qd | apply qe | apply qf | apply qg | apply qh | apply qi | apply qj | apply qk) <;> intro hp <;> simp only [hp, g1, g2, g3, g5, c1, c2, c3, f1, f2, f3, u1, u2, v1, v2, m1, m2, hLl, b4, b5, go_sem])
            all_goals first | exact ih' | (clear ih'; omega)
      · rw [if_neg hm] at f2
        rw [decide_eq_false hm] at f3
        rw [first_none hm] at f1
        have hPB : partB p = numB p := by rw [partB, if_neg hm]
        have hLo : partLo p last = numN p last := by rw [partLo, if_neg hm]
        have hHi : partHi p last = numN p last := by rw [partHi, if_neg hm]
        rw [hPB, hLo, hHi] at hstep
        rw [hPB] at hbad
        have u1 := uidB_eq p
        cases k1 : numB p with
        | false =>
          rw [k1] at u1 hbad
          rw [hbad rfl] at hr
          simp only [g1, g2, g3, c1, c2, c3, f1, f2, f3, u1, go_sem]
          repeat' ((first | apply qa | apply qb | apply qc | apply qd | apply qe | apply qf | apply qg | apply qh | apply qi | apply qj | apply qk) <;> intro hp <;> simp only [hp, g1, g2, g3, c1, c2, c3, f1, f2, f3, u1, go_sem])
          all_goals (simp only [fin_mk, finV, resL, resV1, resIn, endA, listIn, Option.some_or, Option.none_or, oneOrTup, go_sem]; rw [← hr])
          all_goals rfl
        | true =>
          have v1 := uidN_eq (last := last) k1
          rw [k1] at u1
          rw [k1, if_pos rfl] at hstep
          have ih' := ih (i + 1, _) ⟨h, hstep⟩ (by simp only; omega)
          simp only [List.map_append, List.map_cons, List.map_nil] at ih'
          clear ih hbad
          generalize hX : numN p last = X at *
          have m1 : (if X < X then X else X) = X := by split <;> rfl
          simp only [g1, g2, g3, g5, c1, c2, c3, f1, f2, f3, u1, v1, m1, hLl, b4, b5, go_sem]
          repeat' ((first | apply qa | apply qb | apply qc | apply qd | apply qe | apply qf | apply qg | apply qh | apply qi | apply qj | apply qk) <;> intro hp <;> simp only [hp, g1, g2, g3, g5, c1, c2, c3, f1, f2, f3, u1, v1, m1, hLl, b4, b5, go_sem])
          all_goals first | exact ih' | (clear ih'; omega)
    · have g1 : ¬ (i : Int) < P.length := by omega
      rw [List.take_of_length_le h] at hL
      rw [hL] at hr
      simp only [decide_eq_true_eq] at hr
      have hLl2 : L.length ≤ 8388608 := by omega
      by_cases hk : (setR L).length ≤ 40
      · rw [if_pos hk, decide_eq_true hk] at hr
        have d1 : decide ((setR L).length ≤ 40) = true := decide_eq_true hk
        simp only [g1, hLl2, hk, d1, go_sem]
        repeat' ((first | apply qa | apply qb | apply qc | apply qd | apply qe | apply qf | apply qg | apply qh | apply qi | apply qj | apply qk) <;> intro hp <;> simp only [hp, g1, hLl2, hk, d1, go_sem])
        simp only [fin_mk, finV, resL, resV1, resIn, endA, listIn, Option.some_or, Option.none_or, oneOrTup, go_sem]
        rw [← hr]
      · rw [if_neg hk, decide_eq_false hk] at hr
        have d1 : decide ((setR L).length ≤ 40) = false := decide_eq_false hk
        simp only [g1, hLl2, hk, d1, go_sem]
        repeat' ((first | apply qa | apply qb | apply qc | apply qd | apply qe | apply qf | apply qg | apply qh | apply qi | apply qj | apply qk) <;> intro hp <;> simp only [hp, g1, hLl2, hk, d1, go_sem])
        simp only [fin_mk, finV, resL, resV1, resIn, endA, listIn, Option.some_or, Option.none_or, oneOrTup, go_sem]
        rw [← hr]
        rfl
end Go.Proofs.YtnbkmmjnpbfhnaaGreatDoor.L

namespace Go.Proofs.YtnbkmmjnpbfhnaaGreatDoor.L
open Go Go.VM
set_option maxRecDepth 100000
set_option maxHeartbeats 4000000
set_option linter.unusedSimpArgs false
set_option linter.unusedVariables false
theorem splitOn_none {c : UInt8} : ∀ {a : List UInt8}, (∀ x ∈ a, notB c x = true) → splitOn c a = [a]
  | [], _ => rfl
  | x :: a, h => by
    have hx : ¬ x = c := by simpa [notB] using h x (by simp)
    rw [splitOn, if_neg hx, splitOn_none fun y hy => h y (by simp [hy])]; rfl
theorem splitOn_app {c : UInt8} (r : List UInt8) : ∀ {a : List UInt8}, (∀ x ∈ a, notB c x = true) → splitOn c (a ++ c :: r) = a :: splitOn c r
  | [], _ => by rw [List.nil_append, splitOn, if_pos rfl]
  | x :: a, h => by
    have hx : ¬ x = c := by simpa [notB] using h x (by simp)
    rw [List.cons_append, splitOn, if_neg hx, splitOn_app r fun y hy => h y (by simp [hy])]; rfl
theorem splitOn_at {c : UInt8} {t : List UInt8} {b i : Nat} (hb : b ≤ i) (h : i < t.length) (hc : t[i] = c) (ha : ∀ x ∈ (t.take i).drop b, notB c x = true) : splitOn c (t.drop b) = (t.take i).drop b :: splitOn c (t.drop (i + 1)) := by
  have e : t.drop b = (t.take i).drop b ++ c :: t.drop (i + 1) := by
    have h1 : t = t.take i ++ c :: t.drop (i + 1) := by
      rw [← hc]; simp
    have h2 : b ≤ (t.take i).length := by rw [List.length_take]; omega
    conv => lhs; rw [h1]
    rw [List.drop_append_of_le_length h2]
  rw [e, splitOn_app _ ha]
theorem setR_gen {R : List Range} {N : Nat} (hN : N < 10001) : scan ((nums N).filter (markB (bitsOf (memN R)))) = scan ((nums N).filter fun n => hasR R n) := by
  congr 1
  apply List.filter_congr
  intro x hx
  rw [nums_mem] at hx
  rw [markB, List.getD_eq_getElem?_getD, bitsOf_get _ (by omega), Option.getD_some, memN]
  congr 1
  omega
theorem setR_bits {R : List Range} : scanB (bitsOf (memN R)) = setR R := setR_gen (by decide)
theorem memN_zero {R : List Range} (h : ∀ r ∈ R, 1 ≤ r.Lo ∧ r.Lo ≤ r.Hi ∧ r.Hi ≤ 9999) : (bitsOf (memN R)).getD 0 false = false := by
  rw [List.getD_eq_getElem?_getD, bitsOf_get _ (by omega), Option.getD_some, memN, hasR, List.any_eq_false]
  intro r hr
  have := h r hr
  simp; omega
theorem setR_ok (R : List Range) : setOk (setR R) = decide ((setR R).length ≤ 40) := by
  unfold setR
  rw [setOk_canon (scan_canon _ _ ((nums_asc 9999).filter _))]
theorem setR_nil : setR [] = [] := by
  have : (nums 9999).filter (fun n => hasR [] n) = [] := List.filter_eq_nil_iff.2 (fun _ _ => by simp [hasR])
  rw [setR, this]; rfl
theorem memN_nil : memN [] = fun _ => false := rfl
def T_spec_ReadSet : Hints := ⟨lk [], lk [(7, [0, 1, 6, 7, 8, 9]), (14, [0, 1, 6, 7, 9, 11, 13])], lk [(0, [0, 1]), (1, [0, 1, 6]), (2, [0, 1, 6, 17]), (3, [4, 5]), (4, [0, 1, 6, 7]), (5, [0, 1, 6, 7, 8]), (6, [0, 1, 6, 7, 8, 9]), (7, [0, 1, 6, 7, 8, 9, 23]), (9, [0, 1, 6, 7, 8, 9, 35]), (10, [0, 1, 6, 7, 9, 10, 11, 12]), (11, [0, 1, 6, 7, 9, 10, 11, 47]), (12, [4, 5]), (13, [0, 1, 6, 7, 9, 11, 13]), (14, [0, 1, 6, 7, 9, 11, 13, 52]), (16, [0, 1, 6, 7, 9, 11, 13]), (15, [0, 1, 6, 7, 9, 11, 13]), (17, [0, 1, 6, 7, 8, 9]), (8, [0, 1, 6, 7, 8, 9]), (18, [4, 5])], lk []⟩
noncomputable def Phi_spec_ReadSet : Tab := lk [(35, spWithin), (36, spPart), (37, spScanBits)]
attribute [go_sem] T_spec_ReadSet Phi_spec_ReadSet
theorem phi_spec_ReadSet : ∀ f sp, Phi_spec_ReadSet f = some sp → FnOk Tryz.prog f sp ∧ ∀ n ∈ sp.need, n ∈ (["internal/bytealg.MaxLen"] : List String) := phi_cons ok_spec_l01In (n0 rfl) (phi_cons ok_spec_l05Part (n0 rfl) (phi_cons ok_spec_l05Set (n0 rfl) (phi_nil)))
theorem ok_spec_ReadSet : FnOk Tryz.prog 18 spReadSet := by
  refine fn_ok (Φ := Phi_spec_ReadSet) (T := T_spec_ReadSet) phi_spec_ReadSet mixed Tryz.func18 rfl rfl rfl (by decide) ?_
  intro ins r outs hr hl
  clear hl
  have hs := spReadSet_in hr
  clear hr
  obtain ⟨t, last, rfl, hc, hr, rfl⟩ := hs
  simp only [spReadSet, Tryz.f18, Go.VM.initS]
  cases hw : within last 1 9999 with
  | false =>
    simp only [hw, go_sem]
    repeat' ((first | apply qa | apply qb | apply qc | apply qd | apply qe | apply qf | apply qg | apply qh | apply qi | apply qj | apply qk) <;> intro hp <;> simp only [hp, hw, go_sem])
    simp only [fin_mk, finV, resL, resV1, resIn, endA, listIn, Option.some_or, Option.none_or, oneOrTup, go_sem]
    rw [← hr]
    simp only [readSet, readOk, hw, Bool.false_and, Bool.false_eq_true, if_false]
    rfl
  | true =>
    have hl : 1 ≤ last ∧ last ≤ 9999 := by simpa only [within, Bool.and_eq_true, decide_eq_true_eq] using hw
    have hro : readOk t last = (match rangesOf last (splitOn 44 t) with | some l => decide ((setR l).length ≤ 40) | none => false) := by rw [readOk, hw, Bool.true_and] <;> rfl
    have hrs : readSet t last = if readOk t last = true then (match rangesOf last (splitOn 44 t) with | some l => setR l | none => []) else [] := rfl
    rw [hrs, hro] at hr
    clear hrs hro
    have hbt : (10001 : Int) * ((1 : Nat) : Int) ≤ 140737488355328 := by decide
    simp only [hw, replicate_bits, hbt, go_sem]
    repeat' ((first | apply qa | apply qb | apply qc | apply qd | apply qe | apply qf | apply qg | apply qh | apply qi | apply qj | apply qk) <;> intro hp <;> simp only [hp, hw, replicate_bits, hbt, go_sem])
    refine loop_go (fun q : Nat × Nat × List Range => [(8, .int .i64 (q.1 : Int)), (9, .int .i64 (q.2.1 : Int))]) (fun q => [(1, ⟨.arr, 1, (bitsOf (memN q.2.2)).map eBool⟩)]) (fun q => t.length + 1 - q.2.1) (fun q => (∀ r ∈ q.2.2, 1 ≤ r.Lo ∧ r.Lo ≤ r.Hi ∧ r.Hi ≤ 9999) ∧ ((q.2.1 ≤ t.length ∧ q.1 ≤ q.2.1 ∧ (∀ x ∈ (t.take q.2.1).drop q.1, notB 44 x = true) ∧ rangesOf last (splitOn 44 t) = (rangesOf last (splitOn 44 (t.drop q.1))).map (q.2.2 ++ ·)) ∨ (q.2.1 = t.length + 1 ∧ rangesOf last (splitOn 44 t) = some q.2.2))) (0, 0, []) ⟨by simp, .inl ⟨Nat.zero_le _, Nat.le_refl _, by simp, by simp⟩⟩ rfl rfl ?_
    rintro ⟨b, i, R⟩ ⟨hRin, hinv⟩ ih
    simp only at hRin hinv ih
    rcases hinv with ⟨hi, hbi, ha, hR⟩ | ⟨hi, hR⟩
    · have g2 : (0 : Int) ≤ i := by omega
      have g4 : (0 : Int) ≤ b := by omega
      have g5 := wrap_succ (n := t.length + 1) (i := i) (by omega) (by omega)
      have g0 : (i : Int) ≤ t.length := by omega
      rcases Nat.lt_or_ge i t.length with h | h
      · have g1 : (i : Int) < t.length := by omega
        have g3 : t[i]? = some t[i] := List.getElem?_eq_getElem h
        cases hb : ((t[i].toNat : Int) == 44) with
        | false =>
          have hn : notB 44 t[i] = true := by
            unfold notB
            rw [bne_iff_ne]
            intro e
            rw [e] at hb
            exact absurd hb (by decide)
          have ih' := ih (b, i + 1, R) ⟨hRin, .inl ⟨h, Nat.le_succ_of_le hbi, by
            rw [take_succ' h, List.drop_append_of_le_length (by rw [List.length_take]; omega)]
            intro x hx
            rcases List.mem_append.1 hx with hx | hx
            · exact ha x hx
            · simp only [List.mem_singleton] at hx
              subst hx
              exact hn, hR⟩⟩ (by simp only; omega)
          have hb2 : ((t[i].toNat : Int) != 44) = true := by rw [bne, hb]; rfl
          simp only [g0, g1, g2, g3, g5, hb, hb2, go_sem]
          repeat' ((first | apply qa | apply qb | apply qc | apply qd | apply qe | apply qf | apply qg | apply qh | apply qi | apply qj | apply qk) <;> intro hp <;> simp only [hp, g0, g1, g2, g3, g5, hb, hb2, go_sem])
          exact ih'
        | true =>
          have h44 : t[i] = 44 := by
            have h1 : t[i].toNat = (44 : UInt8).toNat := by simp only [beq_iff_eq] at hb; show t[i].toNat = 44; omega
            exact UInt8.toNat_inj.1 h1
          have hb2 : ((t[i].toNat : Int) != 44) = false := by rw [bne, hb]; rfl
          have hS := splitOn_at hbi h h44 ha
          generalize hpp : (t.take i).drop b = p at *
          have hP : rangesOf last (splitOn 44 t) = (rangesOf last (p :: splitOn 44 (t.drop (i + 1)))).map (R ++ ·) := by rw [hR, hS]
          have c1 : p.length ≤ 4194304 := by rw [← hpp, List.length_drop, List.length_take]; omega
          simp only [rangesOf] at hP
          cases hB : partB p with
          | false =>
            rw [hB] at hP
            simp only [Bool.false_eq_true, if_false, Option.map_none] at hP
            rw [hP] at hr
            simp only [Bool.false_eq_true, if_false] at hr
            simp only [g0, g1, g2, g3, g4, g5, hbi, hi, hb, hb2, hpp, c1, hB, go_sem]
            repeat' ((first | apply qa | apply qb | apply qc | apply qd | apply qe | apply qf | apply qg | apply qh | apply qi | apply qj | apply qk) <;> intro hp <;> simp only [hp, g0, g1, g2, g3, g4, g5, hbi, hi, hb, hb2, hpp, c1, hB, go_sem])
            simp only [fin_mk, finV, resL, resV1, resIn, endA, listIn, Option.some_or, Option.none_or, oneOrTup, go_sem]
            rw [← hr]
            rfl
          | true =>
            rw [hB] at hP
            simp only [if_true, Option.map_map] at hP
            have hin := part_in hl hB
            obtain ⟨lo, hlo⟩ : ∃ a : Nat, partLo p last = a := ⟨(partLo p last).toNat, by omega⟩
            obtain ⟨hh, hhi⟩ : ∃ a : Nat, partHi p last = a := ⟨(partHi p last).toNat, by omega⟩
            rw [hlo, hhi] at hin hP
            have e0 : (fun n => memN R n || (decide (lo ≤ n) && decide (n < lo))) = memN R := by
              funext n
              have : (decide (lo ≤ n) && decide (n < lo)) = false := by rw [Bool.and_eq_false_iff]; simp; omega
              rw [this, Bool.or_false]
            have e1 : (fun n => memN R n || (decide (lo ≤ n) && decide (n < hh + 1))) = memN (R ++ [⟨lo, hh⟩]) := by
              funext n
              unfold memN
              rw [hasR_append]
              congr 1
              rw [Bool.eq_iff_iff]
              simp [hasR]; omega
            have ih' := ih (i + 1, i + 1, R ++ [⟨lo, hh⟩]) ⟨fun r hr' => by
              rcases List.mem_append.1 hr' with h' | h'
              · exact hRin r h'
              · simp only [List.mem_singleton] at h'
                subst h'
                exact hin, .inl ⟨h, Nat.le_refl _, (by simp only; intro x hx; rw [List.drop_of_length_le (by rw [List.length_take]; omega)] at hx; cases hx), by simp only; rw [hP]; congr 1; funext l; simp⟩⟩ (by simp only; omega)
            simp only at ih'
            rw [← e1] at ih'
            clear ih
            simp only [g0, g1, g2, g3, g4, g5, hbi, hi, hb, hb2, hpp, c1, hB, hlo, hhi, go_sem]
            repeat' ((first | apply qa | apply qb | apply qc | apply qd | apply qe | apply qf | apply qg | apply qh | apply qi | apply qj | apply qk) <;> intro hp <;> simp only [hp, g0, g1, g2, g3, g4, g5, hbi, hi, hb, hb2, hpp, c1, hB, hlo, hhi, go_sem])
            refine loop_go (fun k : Nat => [(13, .int .i64 (k : Int))]) (fun k => [(1, ⟨.arr, 1, (bitsOf fun n => memN R n || (decide (lo ≤ n) && decide (n < k))).map eBool⟩)]) (fun k => hh + 1 - k) (fun k => lo ≤ k ∧ k ≤ hh + 1) lo ⟨Nat.le_refl _, by omega⟩ rfl (by rw [e0]; rfl) ?_
            intro k ⟨hk1, hk2⟩ ihk
            rcases Nat.lt_or_ge k (hh + 1) with hkl | hkl
            · have k1 : (k : Int) ≤ (hh : Int) := by omega
              have k2 : (0 : Int) ≤ k := by omega
              have k3 : (k : Int) < ((10001 : Nat) : Int) := by omega
              have k5 := wrap_succ hkl (by omega)
              have kl := bitsOf_len (fun n => memN R n || (decide (lo ≤ n) && decide (n < k)))
              have kg := bitsOf_get (fun n => memN R n || (decide (lo ≤ n) && decide (n < k))) (n := k) (by omega)
              have ks : (List.map eBool (bitsOf fun n => memN R n || (decide (lo ≤ n) && decide (n < k)))).set k (V.bool true) = List.map eBool (bitsOf fun n => memN R n || (decide (lo ≤ n) && decide (n < k + 1))) := by
                rw [show V.bool true = eBool true from rfl, ← List.map_set, bitsOf_set]
                congr 2
                funext m
                by_cases hm : m = k
                · subst hm; simp [hk1]
                · have : decide (m < k + 1) = decide (m < k) := by rw [Bool.eq_iff_iff]; simp; omega
                  simp [hm, this]
              have ihk' := ihk (k + 1) ⟨by omega, by omega⟩ (by omega)
              rw [← ks] at ihk'
              clear ihk ks ih'
              generalize hBB : (bitsOf fun n => memN R n || (decide (lo ≤ n) && decide (n < k))) = BB at *
              simp only [g0, g1, g2, g3, g4, g5, hbi, hi, hb, hb2, hpp, k1, k2, k3, k5, kl, kg, go_sem]
              repeat' ((first | apply qa | apply qb | apply qc | apply qd | apply qe | apply qf | apply qg | apply qh | apply qi | apply qj | apply qk) <;> intro hp <;> simp only [hp, g0, g1, g2, g3, g4, g5, hbi, hi, hb, hb2, hpp, k1, k2, k3, k5, kl, kg, go_sem])
              exact ihk'
            · have hke : k = hh + 1 := by omega
              subst hke
              have k1 : ¬ (((hh + 1 : Nat) : Int)) ≤ (hh : Int) := by omega
              simp only [g0, g1, g2, g3, g4, g5, hbi, hi, hb, hb2, hpp, k1, g5, go_sem]
              repeat' ((first | apply qa | apply qb | apply qc | apply qd | apply qe | apply qf | apply qg | apply qh | apply qi | apply qj | apply qk) <;> intro hp <;> simp only [hp, g0, g1, g2, g3, g4, g5, hbi, hi, hb, hb2, hpp, k1, g5, go_sem])
              exact ih'
      · have g1 : ¬ (i : Int) < t.length := by omega
        have hS : splitOn 44 (t.drop b) = [(t.take i).drop b] := by
          rw [List.take_of_length_le h] at ha ⊢
          exact splitOn_none ha
        generalize hpp : (t.take i).drop b = p at *
        have hP : rangesOf last (splitOn 44 t) = (rangesOf last (p :: [])).map (R ++ ·) := by rw [hR, hS]
        have c1 : p.length ≤ 4194304 := by rw [← hpp, List.length_drop, List.length_take]; omega
        simp only [rangesOf] at hP
        cases hB : partB p with
        | false =>
          rw [hB] at hP
          simp only [Bool.false_eq_true, if_false, Option.map_none] at hP
          rw [hP] at hr
          simp only [Bool.false_eq_true, if_false] at hr
          simp only [g0, g1, g2, g4, g5, hbi, hi, hpp, c1, hB, go_sem]
          repeat' ((first | apply qa | apply qb | apply qc | apply qd | apply qe | apply qf | apply qg | apply qh | apply qi | apply qj | apply qk) <;> intro hp <;> simp only [hp, g0, g1, g2, g4, g5, hbi, hi, hpp, c1, hB, go_sem])
          simp only [fin_mk, finV, resL, resV1, resIn, endA, listIn, Option.some_or, Option.none_or, oneOrTup, go_sem]
          rw [← hr]
          rfl
        | true =>
          rw [hB] at hP
          simp only [if_true, Option.map_map] at hP
          have hin := part_in hl hB
          obtain ⟨lo, hlo⟩ : ∃ a : Nat, partLo p last = a := ⟨(partLo p last).toNat, by omega⟩
          obtain ⟨hh, hhi⟩ : ∃ a : Nat, partHi p last = a := ⟨(partHi p last).toNat, by omega⟩
          rw [hlo, hhi] at hin hP
          have e0 : (fun n => memN R n || (decide (lo ≤ n) && decide (n < lo))) = memN R := by
            funext n
            have : (decide (lo ≤ n) && decide (n < lo)) = false := by rw [Bool.and_eq_false_iff]; simp; omega
            rw [this, Bool.or_false]
          have e1 : (fun n => memN R n || (decide (lo ≤ n) && decide (n < hh + 1))) = memN (R ++ [⟨lo, hh⟩]) := by
            funext n
            unfold memN
            rw [hasR_append]
            congr 1
            rw [Bool.eq_iff_iff]
            simp [hasR]; omega
          have ih' := ih (i + 1, i + 1, R ++ [⟨lo, hh⟩]) ⟨fun r hr' => by
            rcases List.mem_append.1 hr' with h' | h'
            · exact hRin r h'
            · simp only [List.mem_singleton] at h'
              subst h'
              exact hin, .inr ⟨by simp only; omega, by rw [hP]; simp [rangesOf]⟩⟩ (by simp only; omega)
          simp only at ih'
          rw [← e1] at ih'
          clear ih
          simp only [g0, g1, g2, g4, g5, hbi, hi, hpp, c1, hB, hlo, hhi, go_sem]
          repeat' ((first | apply qa | apply qb | apply qc | apply qd | apply qe | apply qf | apply qg | apply qh | apply qi | apply qj | apply qk) <;> intro hp <;> simp only [hp, g0, g1, g2, g4, g5, hbi, hi, hpp, c1, hB, hlo, hhi, go_sem])
          refine loop_go (fun k : Nat => [(13, .int .i64 (k : Int))]) (fun k => [(1, ⟨.arr, 1, (bitsOf fun n => memN R n || (decide (lo ≤ n) && decide (n < k))).map eBool⟩)]) (fun k => hh + 1 - k) (fun k => lo ≤ k ∧ k ≤ hh + 1) lo ⟨Nat.le_refl _, by omega⟩ rfl (by rw [e0]; rfl) ?_
          intro k ⟨hk1, hk2⟩ ihk
          rcases Nat.lt_or_ge k (hh + 1) with hkl | hkl
          · have k1 : (k : Int) ≤ (hh : Int) := by omega
            have k2 : (0 : Int) ≤ k := by omega
            have k3 : (k : Int) < ((10001 : Nat) : Int) := by omega
            have k5 := wrap_succ hkl (by omega)
            have kl := bitsOf_len (fun n => memN R n || (decide (lo ≤ n) && decide (n < k)))
            have kg := bitsOf_get (fun n => memN R n || (decide (lo ≤ n) && decide (n < k))) (n := k) (by omega)
            have ks : (List.map eBool (bitsOf fun n => memN R n || (decide (lo ≤ n) && decide (n < k)))).set k (V.bool true) = List.map eBool (bitsOf fun n => memN R n || (decide (lo ≤ n) && decide (n < k + 1))) := by
              rw [show V.bool true = eBool true from rfl, ← List.map_set, bitsOf_set]
              congr 2
              funext m
              by_cases hm : m = k
              · subst hm; simp [hk1]
              · have : decide (m < k + 1) = decide (m < k) := by rw [Bool.eq_iff_iff]; simp; omega
                simp [hm, this]
            have ihk' := ihk (k + 1) ⟨by omega, by omega⟩ (by omega)
            rw [← ks] at ihk'
            clear ihk ks ih'
            generalize hBB : (bitsOf fun n => memN R n || (decide (lo ≤ n) && decide (n < k))) = BB at *
            simp only [g0, g1, g2, g4, g5, hbi, hi, hpp, k1, k2, k3, k5, kl, kg, go_sem]
            repeat' ((first | apply qa | apply qb | apply qc | apply qd | apply qe | apply qf | apply qg | apply qh | apply qi | apply qj | apply qk) <;> intro hp <;> simp only [hp, g0, g1, g2, g4, g5, hbi, hi, hpp, k1, k2, k3, k5, kl, kg, go_sem])
            exact ihk'
          · have hke : k = hh + 1 := by omega
            subst hke
            have k1 : ¬ (((hh + 1 : Nat) : Int)) ≤ (hh : Int) := by omega
            simp only [g0, g1, g2, g4, g5, hbi, hi, hpp, k1, g5, go_sem]
            repeat' ((first | apply qa | apply qb | apply qc | apply qd | apply qe | apply qf | apply qg | apply qh | apply qi | apply qj | apply qk) <;> intro hp <;> simp only [hp, g0, g1, g2, g4, g5, hbi, hi, hpp, k1, g5, go_sem])
            exact ih'
    · have g1 : ¬ (i : Int) ≤ t.length := by omega
      rw [hR] at hr
      simp only [decide_eq_true_eq] at hr
      have s1 := bitsOf_len (memN R)
      have s2 := memN_zero hRin
      have s3 := setR_bits (R := R)
      have s4 := setR_ok R
      generalize hBB : bitsOf (memN R) = BB at *
      rw [s3.symm] at hr s4
      generalize hX : scanB BB = X at *
      simp only [g1, s1, s2, s3, s4, go_sem]
      repeat' ((first | apply qa | apply qb | apply qc | apply qd | apply qe | apply qf | apply qg | apply qh | apply qi | apply qj | apply qk) <;> intro hp <;> simp only [hp, g1, s1, s2, s3, s4, go_sem])
      simp only [fin_mk, finV, resL, resV1, resIn, endA, listIn, Option.some_or, Option.none_or, oneOrTup, go_sem]
      rw [← hr]
      all_goals (rw [hX, s4]; simp)
end Go.Proofs.YtnbkmmjnpbfhnaaGreatDoor.L

namespace Go.Proofs.YtnbkmmjnpbfhnaaGreatDoor.L
open Go Go.VM
set_option maxRecDepth 100000
set_option maxHeartbeats 4000000
set_option linter.unusedSimpArgs false
set_option linter.unusedVariables false
def sufB (s t : List UInt8) : Bool := decide (t.length ≤ s.length) && (s.drop (s.length - t.length) == t)
def cutSuf (s t : List UInt8) : List UInt8 := if sufB s t = true then s.take (s.length - t.length) else s
theorem cutSuf_len (s t : List UInt8) : (cutSuf s t).length ≤ s.length := by
  unfold cutSuf; split
  · rw [List.length_take]; omega
  · exact Nat.le_refl _
open Classical in
noncomputable def spHasSuffix : VM.Spec := { modes := [.rd, .rd], run := fun | [.str s, .str t] => if s.length ≤ 1099511627776 ∧ t.length ≤ 1099511627776 then some (.bool (sufB s t), []) else none | _ => none, need := [] }
attribute [go_sem] spHasSuffix
theorem spHasSuffix_in {ins : List V} {r : V} {outs : List V} (h : spHasSuffix.run ins = some (r, outs)) : ∃ (s : (List UInt8)) (t : (List UInt8)), ins = [.str s, .str t] ∧ (s.length ≤ 1099511627776 ∧ t.length ≤ 1099511627776) ∧ .bool (sufB s t) = r ∧ outs = [] := by
  unfold spHasSuffix at h
  simp only at h
  split at h
  · rename_i s t
    split at h
    case isFalse => cases h
    rename_i hc
    simp only [Option.some.injEq, Prod.mk.injEq] at h
    obtain ⟨h1, h2⟩ := h
    exact ⟨s, t, rfl, hc, h1, h2.symm⟩
  · cases h
def T_internal_stringslite_HasSuffix : Hints := ⟨lk [], lk [], lk [(0, [0, 1]), (1, [4])], lk []⟩
noncomputable def Phi_internal_stringslite_HasSuffix : Tab := lk []
attribute [go_sem] T_internal_stringslite_HasSuffix Phi_internal_stringslite_HasSuffix
theorem phi_internal_stringslite_HasSuffix : ∀ f sp, Phi_internal_stringslite_HasSuffix f = some sp → FnOk Tryz.prog f sp ∧ ∀ n ∈ sp.need, n ∈ ([] : List String) := phi_nil
theorem ok_internal_stringslite_HasSuffix : FnOk Tryz.prog 89 spHasSuffix := by
  refine fn_ok (Φ := Phi_internal_stringslite_HasSuffix) (T := T_internal_stringslite_HasSuffix) phi_internal_stringslite_HasSuffix mixed Tryz.func89 rfl rfl rfl (by decide) ?_
  intro ins r outs hr hl
  clear hl
  have hs := spHasSuffix_in hr
  clear hr
  obtain ⟨s, t, rfl, hc, hr, rfl⟩ := hs
  simp only [spHasSuffix, Tryz.f89, Go.VM.initS]
  obtain ⟨h1, h2⟩ := hc
  rcases Nat.lt_or_ge s.length t.length with h | h
  · have g1 : ¬ (t.length : Int) ≤ s.length := by omega
    have e : sufB s t = false := by rw [sufB, decide_eq_false (by omega)]; rfl
    simp only [g1, go_sem]
    repeat' ((first | apply qa | apply qb | apply qc | apply qd | apply qe | apply qf | apply qg | apply qh | apply qi | apply qj | apply qk) <;> intro hp <;> simp only [hp, g1, go_sem])
    all_goals (simp only [fin_mk, finV, resL, resV1, resIn, endA, listIn, Option.some_or, Option.none_or, oneOrTup, go_sem]; rw [← hr])
    all_goals (rw [e])
  · have g1 : (t.length : Int) ≤ s.length := by omega
    have e : sufB s t = (s.drop (s.length - t.length) == t) := by rw [sufB, decide_eq_true h, Bool.true_and]
    have g2 : IntKind.i64.wrap ((s.length : Int) - (t.length : Int)) = ((s.length - t.length : Nat) : Int) := (wrap64 (by omega) (by omega)).trans (by omega)
    have g3 : (0 : Int) ≤ ((s.length - t.length : Nat) : Int) := by omega
    have g4 : ((s.length - t.length : Nat) : Int) ≤ s.length := by omega
    have g5 : s.length - t.length ≤ s.length := by omega
    simp only [g1, g2, g3, g4, g5, Int.toNat_natCast, List.take_length, Nat.le_refl, go_sem]
    repeat' ((first | apply qa | apply qb | apply qc | apply qd | apply qe | apply qf | apply qg | apply qh | apply qi | apply qj | apply qk) <;> intro hp <;> simp only [hp, g1, g2, g3, g4, g5, Int.toNat_natCast, List.take_length, Nat.le_refl, go_sem])
    all_goals (simp only [fin_mk, finV, resL, resV1, resIn, endA, listIn, Option.some_or, Option.none_or, oneOrTup, go_sem]; rw [← hr])
    all_goals (rw [e])
open Classical in
noncomputable def spCutSuffix : VM.Spec := { modes := [.rd, .rd], run := fun | [.str s, .str t] => if s.length ≤ 1099511627776 ∧ t.length ≤ 1099511627776 then some (.tup [.str (cutSuf s t), .bool (sufB s t)], []) else none | _ => none, need := [] }
attribute [go_sem] spCutSuffix
theorem spCutSuffix_in {ins : List V} {r : V} {outs : List V} (h : spCutSuffix.run ins = some (r, outs)) : ∃ (s : (List UInt8)) (t : (List UInt8)), ins = [.str s, .str t] ∧ (s.length ≤ 1099511627776 ∧ t.length ≤ 1099511627776) ∧ .tup [.str (cutSuf s t), .bool (sufB s t)] = r ∧ outs = [] := by
  unfold spCutSuffix at h
  simp only at h
  split at h
  · rename_i s t
    split at h
    case isFalse => cases h
    rename_i hc
    simp only [Option.some.injEq, Prod.mk.injEq] at h
    obtain ⟨h1, h2⟩ := h
    exact ⟨s, t, rfl, hc, h1, h2.symm⟩
  · cases h
def T_internal_stringslite_CutSuffix : Hints := ⟨lk [], lk [], lk [(0, [0, 1]), (1, [0, 1, 9]), (2, [4, 5]), (3, [4, 5])], lk []⟩
noncomputable def Phi_internal_stringslite_CutSuffix : Tab := lk [(89, spHasSuffix)]
attribute [go_sem] T_internal_stringslite_CutSuffix Phi_internal_stringslite_CutSuffix
theorem phi_internal_stringslite_CutSuffix : ∀ f sp, Phi_internal_stringslite_CutSuffix f = some sp → FnOk Tryz.prog f sp ∧ ∀ n ∈ sp.need, n ∈ ([] : List String) := phi_cons ok_internal_stringslite_HasSuffix (n0 rfl) (phi_nil)
theorem ok_internal_stringslite_CutSuffix : FnOk Tryz.prog 69 spCutSuffix := by
  refine fn_ok (Φ := Phi_internal_stringslite_CutSuffix) (T := T_internal_stringslite_CutSuffix) phi_internal_stringslite_CutSuffix mixed Tryz.func69 rfl rfl rfl (by decide) ?_
  intro ins r outs hr hl
  clear hl
  have hs := spCutSuffix_in hr
  clear hr
  obtain ⟨s, t, rfl, hc, hr, rfl⟩ := hs
  simp only [spCutSuffix, Tryz.f69, Go.VM.initS]
  obtain ⟨h1, h2⟩ := hc
  cases q : sufB s t with
  | false =>
    simp only [h1, h2, q, go_sem]
    repeat' ((first | apply qa | apply qb | apply qc | apply qd | apply qe | apply qf | apply qg | apply qh | apply qi | apply qj | apply qk) <;> intro hp <;> simp only [hp, h1, h2, q, go_sem])
    simp only [fin_mk, finV, resL, resV1, resIn, endA, listIn, Option.some_or, Option.none_or, oneOrTup, go_sem]
    rw [← hr]
    rw [cutSuf, if_neg (by rw [q]; simp), q]
  | true =>
    have h : t.length ≤ s.length := by
      simp only [sufB, Bool.and_eq_true, decide_eq_true_eq] at q; exact q.1
    have g2 : IntKind.i64.wrap ((s.length : Int) - (t.length : Int)) = ((s.length - t.length : Nat) : Int) := (wrap64 (by omega) (by omega)).trans (by omega)
    have g3 : (0 : Int) ≤ ((s.length - t.length : Nat) : Int) := by omega
    have g4 : ((s.length - t.length : Nat) : Int) ≤ s.length := by omega
    have g5 : s.length - t.length ≤ s.length := by omega
    simp only [h1, h2, q, g2, g3, g4, g5, Int.toNat_natCast, List.drop_zero, Nat.zero_le, go_sem]
    repeat' ((first | apply qa | apply qb | apply qc | apply qd | apply qe | apply qf | apply qg | apply qh | apply qi | apply qj | apply qk) <;> intro hp <;> simp only [hp, h1, h2, q, g2, g3, g4, g5, Int.toNat_natCast, List.drop_zero, Nat.zero_le, go_sem])
    simp only [fin_mk, finV, resL, resV1, resIn, endA, listIn, Option.some_or, Option.none_or, oneOrTup, go_sem]
    rw [← hr]
    rw [cutSuf, if_pos q, q]
def T_strings_CutSuffix : Hints := ⟨lk [], lk [], lk [(0, [0, 1]), (1, [4, 5])], lk []⟩
noncomputable def Phi_strings_CutSuffix : Tab := lk [(69, spCutSuffix)]
attribute [go_sem] T_strings_CutSuffix Phi_strings_CutSuffix
theorem phi_strings_CutSuffix : ∀ f sp, Phi_strings_CutSuffix f = some sp → FnOk Tryz.prog f sp ∧ ∀ n ∈ sp.need, n ∈ ([] : List String) := phi_cons ok_internal_stringslite_CutSuffix (n0 rfl) (phi_nil)
theorem ok_strings_CutSuffix : FnOk Tryz.prog 54 spCutSuffix := by
  refine fn_ok (Φ := Phi_strings_CutSuffix) (T := T_strings_CutSuffix) phi_strings_CutSuffix mixed Tryz.func54 rfl rfl rfl (by decide) ?_
  intro ins r outs hr hl
  clear hl
  have hs := spCutSuffix_in hr
  clear hr
  obtain ⟨s, t, rfl, hc, hr, rfl⟩ := hs
  simp only [spCutSuffix, Tryz.f54, Go.VM.initS]
  obtain ⟨h1, h2⟩ := hc
  simp only [h1, h2, go_sem]
  repeat' ((first | apply qa | apply qb | apply qc | apply qd | apply qe | apply qf | apply qg | apply qh | apply qi | apply qj | apply qk) <;> intro hp <;> simp only [hp, h1, h2, go_sem])
  simp only [fin_mk, finV, resL, resV1, resIn, endA, listIn, Option.some_or, Option.none_or, oneOrTup, go_sem]
  rw [← hr]
open Classical in
noncomputable def spTrimSuffix : VM.Spec := { modes := [.rd, .rd], run := fun | [.str s, .str t] => if s.length ≤ 1099511627776 ∧ t.length ≤ 1099511627776 then some (.str (cutSuf s t), []) else none | _ => none, need := [] }
attribute [go_sem] spTrimSuffix
theorem spTrimSuffix_in {ins : List V} {r : V} {outs : List V} (h : spTrimSuffix.run ins = some (r, outs)) : ∃ (s : (List UInt8)) (t : (List UInt8)), ins = [.str s, .str t] ∧ (s.length ≤ 1099511627776 ∧ t.length ≤ 1099511627776) ∧ .str (cutSuf s t) = r ∧ outs = [] := by
  unfold spTrimSuffix at h
  simp only at h
  split at h
  · rename_i s t
    split at h
    case isFalse => cases h
    rename_i hc
    simp only [Option.some.injEq, Prod.mk.injEq] at h
    obtain ⟨h1, h2⟩ := h
    exact ⟨s, t, rfl, hc, h1, h2.symm⟩
  · cases h
def T_internal_stringslite_TrimSuffix : Hints := ⟨lk [], lk [], lk [(0, [0, 1]), (1, [0, 1, 7]), (2, [4]), (3, [4])], lk []⟩
noncomputable def Phi_internal_stringslite_TrimSuffix : Tab := lk [(89, spHasSuffix)]
attribute [go_sem] T_internal_stringslite_TrimSuffix Phi_internal_stringslite_TrimSuffix
theorem phi_internal_stringslite_TrimSuffix : ∀ f sp, Phi_internal_stringslite_TrimSuffix f = some sp → FnOk Tryz.prog f sp ∧ ∀ n ∈ sp.need, n ∈ ([] : List String) := phi_cons ok_internal_stringslite_HasSuffix (n0 rfl) (phi_nil)
theorem ok_internal_stringslite_TrimSuffix : FnOk Tryz.prog 72 spTrimSuffix := by
  refine fn_ok (Φ := Phi_internal_stringslite_TrimSuffix) (T := T_internal_stringslite_TrimSuffix) phi_internal_stringslite_TrimSuffix mixed Tryz.func72 rfl rfl rfl (by decide) ?_
  intro ins r outs hr hl
  clear hl
  have hs := spTrimSuffix_in hr
  clear hr
  obtain ⟨s, t, rfl, hc, hr, rfl⟩ := hs
  simp only [spTrimSuffix, Tryz.f72, Go.VM.initS]
  obtain ⟨h1, h2⟩ := hc
  cases q : sufB s t with
  | false =>
    simp only [h1, h2, q, go_sem]
    repeat' ((first | apply qa | apply qb | apply qc | apply qd | apply qe | apply qf | apply qg | apply qh | apply qi | apply qj | apply qk) <;> intro hp <;> simp only [hp, h1, h2, q, go_sem])
    simp only [fin_mk, finV, resL, resV1, resIn, endA, listIn, Option.some_or, Option.none_or, oneOrTup, go_sem]
    rw [← hr]
    rw [cutSuf, if_neg (by rw [q]; simp)]
  | true =>
    have h : t.length ≤ s.length := by
      simp only [sufB, Bool.and_eq_true, decide_eq_true_eq] at q; exact q.1
    have g2 : IntKind.i64.wrap ((s.length : Int) - (t.length : Int)) = ((s.length - t.length : Nat) : Int) := (wrap64 (by omega) (by omega)).trans (by omega)
    have g3 : (0 : Int) ≤ ((s.length - t.length : Nat) : Int) := by omega
    have g4 : ((s.length - t.length : Nat) : Int) ≤ s.length := by omega
    have g5 : s.length - t.length ≤ s.length := by omega
    simp only [h1, h2, q, g2, g3, g4, g5, Int.toNat_natCast, List.drop_zero, Nat.zero_le, go_sem]
    repeat' ((first | apply qa | apply qb | apply qc | apply qd | apply qe | apply qf | apply qg | apply qh | apply qi | apply qj | apply qk) <;> intro hp <;> simp only [hp, h1, h2, q, g2, g3, g4, g5, Int.toNat_natCast, List.drop_zero, Nat.zero_le, go_sem])
    simp only [fin_mk, finV, resL, resV1, resIn, endA, listIn, Option.some_or, Option.none_or, oneOrTup, go_sem]
    rw [← hr]
    rw [cutSuf, if_pos q]
def T_strings_TrimSuffix : Hints := ⟨lk [], lk [], lk [(0, [0, 1]), (1, [4])], lk []⟩
noncomputable def Phi_strings_TrimSuffix : Tab := lk [(72, spTrimSuffix)]
attribute [go_sem] T_strings_TrimSuffix Phi_strings_TrimSuffix
theorem phi_strings_TrimSuffix : ∀ f sp, Phi_strings_TrimSuffix f = some sp → FnOk Tryz.prog f sp ∧ ∀ n ∈ sp.need, n ∈ ([] : List String) := phi_cons ok_internal_stringslite_TrimSuffix (n0 rfl) (phi_nil)
theorem ok_strings_TrimSuffix : FnOk Tryz.prog 56 spTrimSuffix := by
  refine fn_ok (Φ := Phi_strings_TrimSuffix) (T := T_strings_TrimSuffix) phi_strings_TrimSuffix mixed Tryz.func56 rfl rfl rfl (by decide) ?_
  intro ins r outs hr hl
  clear hl
  have hs := spTrimSuffix_in hr
  clear hr
  obtain ⟨s, t, rfl, hc, hr, rfl⟩ := hs
  simp only [spTrimSuffix, Tryz.f56, Go.VM.initS]
  obtain ⟨h1, h2⟩ := hc
  simp only [h1, h2, go_sem]
  repeat' ((first | apply qa | apply qb | apply qc | apply qd | apply qe | apply qf | apply qg | apply qh | apply qi | apply qj | apply qk) <;> intro hp <;> simp only [hp, h1, h2, go_sem])
  simp only [fin_mk, finV, resL, resV1, resIn, endA, listIn, Option.some_or, Option.none_or, oneOrTup, go_sem]
  rw [← hr]
structure ScanAt (c : UInt8) (t : List UInt8) (b i : Nat) (out : List (List UInt8)) : Prop where
  hi : i ≤ t.length + 1
  hb : b ≤ i
  no : ∀ x ∈ (t.take i).drop b, notB c x = true
  eq : i ≤ t.length → out ++ splitOn c (t.drop b) = splitOn c t
  fin : i = t.length + 1 → out = splitOn c t
theorem ScanAt.zero (c : UInt8) (t : List UInt8) : ScanAt c t 0 0 [] := ⟨Nat.zero_le _, Nat.le_refl _, by simp, fun _ => by simp, fun h => by omega⟩
theorem ScanAt.step {c : UInt8} {t : List UInt8} {b i : Nat} {out : List (List UInt8)} (h : ScanAt c t b i out) (hi : i < t.length) (hc : ((t[i].toNat : Int) == (c.toNat : Int)) = false) : ScanAt c t b (i + 1) out := by
  have hne : t[i] ≠ c := fun e => by rw [e] at hc; simp at hc
  refine ⟨by omega, by have := h.hb; omega, ?_, fun _ => h.eq (by omega), fun e => by omega⟩
  rw [take_drop_succ h.hb hi]
  intro x hx
  rcases List.mem_append.1 hx with hx | hx
  · exact h.no x hx
  · simp only [List.mem_singleton] at hx; subst hx
    simp [notB, hne]
theorem ScanAt.hit {c : UInt8} {t : List UInt8} {b i : Nat} {out : List (List UInt8)} (h : ScanAt c t b i out) (hi : i < t.length) (hc : ((t[i].toNat : Int) == (c.toNat : Int)) = true) : ScanAt c t (i + 1) (i + 1) (out ++ [(t.take i).drop b]) := by
  have he : t[i] = c := by
    rw [beq_iff_eq] at hc
    exact UInt8.toNat_inj.1 (by omega)
  have e := splitOn_at h.hb hi he h.no
  refine ⟨by omega, Nat.le_refl _, by rw [List.drop_of_length_le (by rw [List.length_take]; omega)]; simp, fun _ => ?_, fun e => by omega⟩
  rw [← h.eq (by omega), e, List.append_assoc]; rfl
theorem ScanAt.last {c : UInt8} {t : List UInt8} {b : Nat} {out : List (List UInt8)} (h : ScanAt c t b t.length out) : ScanAt c t (t.length + 1) (t.length + 1) (out ++ [(t.take t.length).drop b]) := by
  have h1 := h.eq (Nat.le_refl _)
  have h2 := h.no
  rw [List.take_length] at h2 ⊢
  rw [splitOn_none h2] at h1
  exact ⟨Nat.le_refl _, Nat.le_refl _, by rw [List.drop_of_length_le (by rw [List.length_take]; omega)]; simp, fun e => by omega, fun _ => h1⟩
open Classical in
noncomputable def spWords13 : VM.Spec := { modes := [.rd], run := fun | [.str t] => if t.length ≤ 4194304 then some (.lst 1 ((splitOn 32 t).map eStr), []) else none | _ => none, need := [] }
attribute [go_sem] spWords13
theorem spWords13_in {ins : List V} {r : V} {outs : List V} (h : spWords13.run ins = some (r, outs)) : ∃ (t : (List UInt8)), ins = [.str t] ∧ (t.length ≤ 4194304) ∧ .lst 1 ((splitOn 32 t).map eStr) = r ∧ outs = [] := by
  unfold spWords13 at h
  simp only at h
  split at h
  · rename_i t
    split at h
    case isFalse => cases h
    rename_i hc
    simp only [Option.some.injEq, Prod.mk.injEq] at h
    obtain ⟨h1, h2⟩ := h
    exact ⟨t, rfl, hc, h1, h2.symm⟩
  · cases h
def T_spec_l13Words : Hints := ⟨lk [], lk [(4, [0, 3, 4, 5])], lk [(0, [0]), (1, [0, 3]), (2, [0, 3, 4]), (3, [0, 3, 4, 5]), (4, [0, 3, 4, 5, 10]), (6, [0, 3, 4, 5, 22]), (7, [0, 3, 5]), (8, [0, 3, 4, 5]), (5, [0, 3, 4, 5]), (9, [2])], lk []⟩
noncomputable def Phi_spec_l13Words : Tab := lk []
attribute [go_sem] T_spec_l13Words Phi_spec_l13Words
theorem phi_spec_l13Words : ∀ f sp, Phi_spec_l13Words f = some sp → FnOk Tryz.prog f sp ∧ ∀ n ∈ sp.need, n ∈ ([] : List String) := phi_nil
theorem ok_spec_l13Words : FnOk Tryz.prog 16 spWords13 := by
  refine fn_ok (Φ := Phi_spec_l13Words) (T := T_spec_l13Words) phi_spec_l13Words mixed Tryz.func16 rfl rfl rfl (by decide) ?_
  intro ins r outs hr hl
  clear hl
  have hs := spWords13_in hr
  clear hr
  obtain ⟨t, rfl, hc, hr, rfl⟩ := hs
  simp only [spWords13, Tryz.f16, Go.VM.initS]
  simp only [go_sem]
  repeat' ((first | apply qa | apply qb | apply qc | apply qd | apply qe | apply qf | apply qg | apply qh | apply qi | apply qj | apply qk) <;> intro hp <;> simp only [hp, go_sem])
  refine loop_go (fun p : Nat × Nat × List (List UInt8) => [(4, .int .i64 (p.1 : Int)), (5, .int .i64 (p.2.1 : Int))]) (fun p => [(0, ⟨.arr, 1, p.2.2.map eStr⟩)]) (fun p => t.length + 1 - p.2.1) (fun p => ScanAt 32 t p.1 p.2.1 p.2.2 ∧ p.2.2.length ≤ p.2.1) (0, 0, []) ⟨ScanAt.zero 32 t, Nat.le_refl _⟩ rfl rfl ?_
  rintro ⟨b, i, out⟩ ⟨hs, ho⟩ ih
  simp only at hs ho ih
  have hb := hs.hb
  have hi := hs.hi
  have g2 : (0 : Int) ≤ i := by omega
  have gb : (0 : Int) ≤ b := by omega
  have gbi : (b : Int) ≤ i := by omega
  have gbi' : b ≤ i := hb
  have o1 : (out.length + 1) * 16 ≤ 140737488355328 := by omega
  have o2 : out.length + 1 ≤ 9223372036854775807 := by omega
  have g5 : IntKind.i64.wrap ((i : Int) + 1) = ((i + 1 : Nat) : Int) := (wrap64 (by omega) (by omega)).trans (by omega)
  rcases Nat.lt_trichotomy i t.length with h | h | h
  · have g1 : (i : Int) ≤ t.length := by omega
    have g0 : ((i : Int) == (t.length : Int)) = false := beq_eq_false_iff_ne.2 (by omega)
    have g6 : (i : Int) < t.length := by omega
    have g7 : i ≤ t.length := by omega
    have g3 : t[i]? = some t[i] := List.getElem?_eq_getElem h
    cases q : ((t[i].toNat : Int) == 32) with
    | false =>
      have ih' := ih (b, i + 1, out) ⟨hs.step h q, by simp only; omega⟩ (by simp only; omega)
      simp only [g1, g0, g2, g3, g5, g6, q, go_sem]
      repeat' ((first | apply qa | apply qb | apply qc | apply qd | apply qe | apply qf | apply qg | apply qh | apply qi | apply qj | apply qk) <;> intro hp <;> simp only [hp, g1, g0, g2, g3, g5, g6, q, go_sem])
      exact ih'
    | true =>
      have ih' := ih (i + 1, i + 1, out ++ [(t.take i).drop b]) ⟨hs.hit h q, by simp; omega⟩ (by simp only; omega)
      simp only [List.map_append, List.map_cons, List.map_nil] at ih'
      simp only [g1, g0, g2, g3, g5, g6, g7, gb, gbi, gbi', o1, o2, q, Int.toNat_natCast, go_sem]
      repeat' ((first | apply qa | apply qb | apply qc | apply qd | apply qe | apply qf | apply qg | apply qh | apply qi | apply qj | apply qk) <;> intro hp <;> simp only [hp, g1, g0, g2, g3, g5, g6, g7, gb, gbi, gbi', o1, o2, q, Int.toNat_natCast, go_sem])
      exact ih'
  · subst h
    have g1 : ((t.length : Nat) : Int) ≤ (t.length : Int) := Int.le_refl _
    have ih' := ih (t.length + 1, t.length + 1, out ++ [(t.take t.length).drop b]) ⟨hs.last, by simp; omega⟩ (by simp only; omega)
    simp only [List.map_append, List.map_cons, List.map_nil] at ih'
    simp only [g1, g2, g5, gb, gbi, gbi', o1, o2, Int.toNat_natCast, Nat.le_refl, Int.le_refl, go_sem]
    repeat' ((first | apply qa | apply qb | apply qc | apply qd | apply qe | apply qf | apply qg | apply qh | apply qi | apply qj | apply qk) <;> intro hp <;> simp only [hp, g1, g2, g5, gb, gbi, gbi', o1, o2, Int.toNat_natCast, Nat.le_refl, Int.le_refl, go_sem])
    exact ih'
  · have e : i = t.length + 1 := by omega
    have g1 : ¬ (i : Int) ≤ t.length := by omega
    have hf := hs.fin e
    clear ih
    simp only [g1, go_sem]
    repeat' ((first | apply qa | apply qb | apply qc | apply qd | apply qe | apply qf | apply qg | apply qh | apply qi | apply qj | apply qk) <;> intro hp <;> simp only [hp, g1, go_sem])
    simp only [fin_mk, finV, resL, resV1, resIn, endA, listIn, Option.some_or, Option.none_or, oneOrTup, go_sem]
    rw [← hr]
    rw [hf]
end Go.Proofs.YtnbkmmjnpbfhnaaGreatDoor.L

