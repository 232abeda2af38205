/- Contracts of functions, and the facts that they need. No condition. -/
import Derived.Test.YtghmjnggmacohaaGreatDoorVLTh

import Derived.Test.YtghmjnggmacohaaGreatDoorVLFl
import Derived.Test.YtghmjnggmacohaaGreatDoorVLSF



namespace Go.Proofs.YtghmjnggmacohaaGreatDoor.L
open Go Go.VM
set_option maxRecDepth 100000
set_option maxHeartbeats 4000000
set_option linter.unusedSimpArgs false
set_option linter.unusedVariables false
def vanU (l : List Tomb) (since : Int) : List Int := (l.filter fun t => decide (since < t.Mod)).map (·.Uid)
theorem tomb_at {b : Box} (h : boxOk b = true) {i : Nat} (hi : i < b.Tombs.length) : 1 ≤ b.Tombs[i].Uid ∧ b.Tombs[i].Uid ≤ 9999 ∧ hasTomb (b.Tombs.take i) b.Tombs[i].Uid = false := by
  have hn := numsOk_next (boxOk_parts h).1
  simp only [boxOk, tombsOk, Bool.and_eq_true] at h
  have h2 := allN_get h.2.1 hi
  simp only [tombAtOk, tombIn, Bool.and_eq_true, within, decide_eq_true_eq, List.getD_eq_getElem?_getD, List.getElem?_eq_getElem hi, Option.getD_some, Bool.not_eq_true'] at h2
  exact ⟨h2.1.1.1.1.1, by omega, h2.1.1.2⟩
theorem tombs_ne {b : Box} (h : boxOk b = true) : (b.Tombs.map (·.Uid)).Pairwise (· ≠ ·) := by
  rw [List.pairwise_map, List.pairwise_iff_getElem]
  intro i j hi hj hij e
  have h2 := (tomb_at h hj).2.2
  rw [hasTomb, List.any_eq_false] at h2
  have := h2 b.Tombs[i] (List.mem_take_iff_getElem.2 ⟨i, by omega, rfl⟩)
  apply this
  rw [beq_iff_eq]; exact e
def vanOk (b : Box) (since : Int) : Bool := boxOk b && !decide (since < b.Horizon)
def vanished (b : Box) (since : Int) : List Range := if vanOk b since = true then setOf (vanU b.Tombs since) else []
end Go.Proofs.YtghmjnggmacohaaGreatDoor.L

namespace Go.Proofs.YtghmjnggmacohaaGreatDoor.L
open Go Go.VM
set_option maxRecDepth 100000
set_option maxHeartbeats 4000000
set_option linter.unusedSimpArgs false
set_option linter.unusedVariables false
open Classical in
noncomputable def spForgotten : VM.Spec := { modes := [.rd, .rd], run := fun | [t', .rptr (.int .i64 u)] => (Tomb.dec t').bind fun t => some (.bool (decide (t.Mod ≤ u)), []) | _ => none, need := [] }
attribute [go_sem] spForgotten
end Go.Proofs.YtghmjnggmacohaaGreatDoor.L

namespace Go.Proofs.YtghmjnggmacohaaGreatDoor.L
open Go Go.VM
set_option maxRecDepth 100000
set_option maxHeartbeats 4000000
set_option linter.unusedSimpArgs false
set_option linter.unusedVariables false
def goneI (s : List Range) (m : Mail) : Bool := hasR s m.Uid && (IntKind.i64.wrap (BitVec.ofInt 64 m.Flags &&& BitVec.ofInt 64 8).toNat != 0)
open Classical in
noncomputable def spGone : VM.Spec := { modes := [.rd, .rd], run := fun | [m', .rptr (.lst 2 u')] => (Mail.dec m').bind fun m => (decL Range.dec u').bind fun u => if u.length ≤ 4194304 then some (.bool (goneI u m), []) else none | _ => none, need := [] }
attribute [go_sem] spGone
open Classical in
noncomputable def spLeast : VM.Spec := { modes := [.rd, .rd], run := fun | [t', .rptr (.int .i64 u)] => (Tomb.dec t').bind fun t => some (.bool ((t.Mod == u)), []) | _ => none, need := [] }
attribute [go_sem] spLeast
end Go.Proofs.YtghmjnggmacohaaGreatDoor.L

namespace Go.Proofs.YtghmjnggmacohaaGreatDoor.L
open Go Go.VM
set_option maxRecDepth 100000
set_option maxHeartbeats 4000000
set_option linter.unusedSimpArgs false
set_option linter.unusedVariables false
theorem and8_some : ∀ a : Fin 32, (IntKind.i64.wrap (BitVec.ofInt 64 (a.val : Int) &&& BitVec.ofInt 64 8).toNat != 0) = decide ((0 : Int) < ((a.val &&& 8 : Nat) : Int)) := by decide +kernel
theorem and8 {a : Int} (h : flagsOk a = true) : (IntKind.i64.wrap (BitVec.ofInt 64 a &&& BitVec.ofInt 64 8).toNat != 0) = decide (0 < andN a 8) := by
  have ha := flags_in h
  obtain ⟨x, rfl⟩ : ∃ x : Nat, a = x := ⟨a.toNat, by omega⟩
  exact and8_some ⟨x, by omega⟩
theorem goneI_eq {s : List Range} {m : Mail} (h : flagsOk m.Flags = true) : goneI s m = (hasR s m.Uid && decide (0 < andN m.Flags 8)) := by rw [goneI, and8 h]
def goneU (l : List Mail) (s : List Range) : List Int := (l.filter (goneI s)).map (·.Uid)
def addTs (l : List Mail) (s : List Range) (md : Int) : List Tomb := (l.filter (goneI s)).map fun m => ⟨m.Uid, md⟩
theorem goneU_succ {l : List Mail} {s : List Range} {i : Nat} (h : i < l.length) : goneU (l.take (i + 1)) s = goneU (l.take i) s ++ (if goneI s l[i] = true then [l[i].Uid] else []) := by
  rw [goneU, filter_succ h, List.map_append]; congr 1; split <;> rfl
theorem addTs_succ {l : List Mail} {s : List Range} {md : Int} {i : Nat} (h : i < l.length) : addTs (l.take (i + 1)) s md = addTs (l.take i) s md ++ (if goneI s l[i] = true then [⟨l[i].Uid, md⟩] else []) := by
  rw [addTs, filter_succ h, List.map_append]; congr 1; split <;> rfl
theorem goneU_len (l : List Mail) (s : List Range) : (goneU l s).length ≤ l.length := by rw [goneU, List.length_map]; exact List.length_filter_le _ _
theorem addTs_len (l : List Mail) (s : List Range) (md : Int) : (addTs l s md).length ≤ l.length := by rw [addTs, List.length_map]; exact List.length_filter_le _ _
theorem trim_lt (t : Tomb) (l : List Tomb) : ((t :: l).filter fun x => !(x.Mod == t.Mod)).length < (t :: l).length := by
  have := List.length_filter_le (fun x : Tomb => !(x.Mod == t.Mod)) l
  rw [List.filter_cons]
  simp only [beq_self_eq_true, Bool.not_true, Bool.false_eq_true, if_false, List.length_cons]
  omega
def trimT : List Tomb → Int → List Tomb × Int
  | [], h => ([], h)
  | t :: l, h => if 40 < (t :: l).length then trimT ((t :: l).filter fun x => !(x.Mod == t.Mod)) t.Mod else (t :: l, h)
termination_by l => l.length
decreasing_by exact trim_lt t l
theorem trimT_end {l : List Tomb} {h : Int} (hl : ¬ 40 < l.length) : trimT l h = (l, h) := by
  cases l with
  | nil => rw [trimT]
  | cons t l => rw [trimT, if_neg hl]
theorem trimT_step {t : Tomb} {l : List Tomb} {h : Int} (hl : 40 < (t :: l).length) : trimT (t :: l) h = trimT ((t :: l).filter fun x => !(x.Mod == t.Mod)) t.Mod := by rw [trimT, if_pos hl]
def exMails (b : Box) (s : List Range) : List Mail := b.Mails.filter fun m => !goneI s m
def exTombs (b : Box) (s : List Range) : List Tomb × Int := trimT (b.Tombs ++ addTs b.Mails s (b.Mod + 1)) b.Horizon
def exOut (b : Box) (s : List Range) : Box := ⟨b.Name, b.Valid, b.Next, b.Mod + 1, exMails b s, (exTombs b s).1, (exTombs b s).2⟩
def exGood (b : Box) (s : List Range) : Bool := boxOk b && setOk s && !(goneU b.Mails s).isEmpty && boxOk (exOut b s)
def expunge (b : Box) (s : List Range) : Box := if exGood b s = true then exOut b s else b
def exGone (b : Box) (s : List Range) : List Range := if exGood b s = true then setOf (goneU b.Mails s) else []
theorem exOut_le {b : Box} {s : List Range} {md : Int} {ts : List Tomb} {hz : Int} (h : b.le 4194304) (ht : ts.length ≤ 4194304) : Box.le 4194304 ⟨b.Name, b.Valid, b.Next, md, exMails b s, ts, hz⟩ := by
  refine ⟨h.1, ⟨Nat.le_trans (List.length_filter_le _ _) h.2.1.1, fun m hm => h.2.1.2 m (List.mem_filter.1 hm).1⟩, ⟨ht, fun _ _ => trivial⟩⟩
open Classical in
noncomputable def spExpunge : VM.Spec := { modes := [.rd, .rd], run := fun | [b', .lst 2 s'] => (Box.dec b').bind fun b => (decL Range.dec s').bind fun s => if b.le 4194304 ∧ s.length ≤ 4194304 then some (.tup [Box.enc (expunge b s), .lst 2 ((exGone b s).map Range.enc)], []) else none | _ => none, need := [] }
attribute [go_sem] spExpunge
theorem spExpunge_in {ins : List V} {r : V} {outs : List V} (h : spExpunge.run ins = some (r, outs)) : ∃ (b : Box) (s : (List Range)), ins = [Box.enc b, .lst 2 ((s).map Range.enc)] ∧ (b.le 4194304 ∧ s.length ≤ 4194304) ∧ .tup [Box.enc (expunge b s), .lst 2 ((exGone b s).map Range.enc)] = r ∧ outs = [] := by
  unfold spExpunge at h
  simp only at h
  split at h
  · rename_i b' s'
    simp only [Option.bind_eq_some_iff] at h
    obtain ⟨b, h_b, s, h_s, h⟩ := h
    split at h
    case isFalse => cases h
    rename_i hc
    simp only [Option.some.injEq, Prod.mk.injEq] at h
    obtain ⟨h1, h2⟩ := h
    have h_b := Box.dec_some h_b
    subst h_b
    have h_s := decL_some (fun _ _ h => Range.dec_some h) h_s
    subst h_s
    exact ⟨b, s, rfl, hc, h1, h2.symm⟩
  · cases h
theorem drop_eq {m : Int} : ∀ {l : List Tomb}, l.Pairwise (fun x y => x.Mod ≤ y.Mod) → (∀ x ∈ l, m ≤ x.Mod) → l.filter (fun x => !(x.Mod == m)) = l.dropWhile fun x => decide (x.Mod ≤ m)
  | [], _, _ => rfl
  | x :: l, hp, hm => by
    rw [List.pairwise_cons] at hp
    have hx := hm x (by simp)
    by_cases e : x.Mod = m
    · have e1 : (x.Mod == m) = true := by rw [e]; exact beq_self_eq_true _
      have e2 : decide (x.Mod ≤ m) = true := by rw [decide_eq_true_eq]; omega
      rw [List.filter_cons, List.dropWhile_cons, e1, e2]
      simp only [Bool.not_true, Bool.false_eq_true, if_false, if_true]
      exact drop_eq hp.2 fun y hy => hm y (by simp [hy])
    · have e2 : decide (x.Mod ≤ m) = false := by rw [decide_eq_false_iff_not]; omega
      rw [List.dropWhile_cons, e2]
      simp only [Bool.false_eq_true, if_false]
      rw [List.filter_eq_self]
      intro y hy
      have : m < y.Mod := by
        rcases List.mem_cons.1 hy with rfl | hy
        · omega
        · have := hp.1 y hy; omega
      have e3 : (y.Mod == m) = false := by rw [beq_eq_false_iff_ne]; omega
      rw [e3]; rfl
theorem tomb_of {b : Box} (h : boxOk b = true) {i : Nat} (hi : i < b.Tombs.length) : tombAtOk b i = true := by
  simp only [boxOk, tombsOk, Bool.and_eq_true] at h
  exact allN_get h.2.1 hi
theorem sorted_of_adj : ∀ {l : List Int}, (∀ i, (h : i + 1 < l.length) → l[i] ≤ l[i + 1]) → l.Pairwise (· ≤ ·)
  | [], _ => List.Pairwise.nil
  | [x], _ => List.pairwise_singleton _ _
  | x :: y :: t, h => by
    have h1 : (y :: t).Pairwise (· ≤ ·) := sorted_of_adj fun i hi => by
      have := h (i + 1) (by simpa using hi)
      simpa using this
    have h2 : x ≤ y := by simpa using h 0 (by simp)
    refine List.Pairwise.cons (fun z hz => ?_) h1
    rcases List.mem_cons.1 hz with rfl | hz
    · exact h2
    · exact Int.le_trans h2 ((List.pairwise_cons.1 h1).1 z hz)
theorem tombs_sorted {b : Box} (h : boxOk b = true) : b.Tombs.Pairwise (fun x y => x.Mod ≤ y.Mod) ∧ ∀ x ∈ b.Tombs, x.Mod ≤ b.Mod := by
  constructor
  · have h1 : (b.Tombs.map (·.Mod)).Pairwise (· ≤ ·) := sorted_of_adj fun i hi => by
      rw [List.length_map] at hi
      have h2 := tomb_of h hi
      simp only [tombAtOk, tombOrd, Bool.and_eq_true, Bool.or_eq_true, Bool.not_eq_true', Bool.or_eq_false_iff, decide_eq_false_iff_not, List.getD_eq_getElem?_getD, List.getElem?_eq_getElem hi, Option.getD_some, Nat.add_sub_cancel, List.getElem?_eq_getElem (show i < b.Tombs.length by omega)] at h2
      simp only [List.getElem_map]
      rcases h2.2 with h3 | h3
      · simp at h3
      · omega
    rwa [List.pairwise_map] at h1
  · intro x hx
    obtain ⟨i, hi, rfl⟩ := List.mem_iff_getElem.1 hx
    have h2 := tomb_of h hi
    simp only [tombAtOk, tombIn, Bool.and_eq_true, within, decide_eq_true_eq, List.getD_eq_getElem?_getD, List.getElem?_eq_getElem hi, Option.getD_some] at h2
    exact h2.1.1.1.2.2
theorem added_sorted {b : Box} {s : List Range} (h : boxOk b = true) : (b.Tombs ++ addTs b.Mails s (b.Mod + 1)).Pairwise (fun x y => x.Mod ≤ y.Mod) := by
  obtain ⟨h1, h2⟩ := tombs_sorted h
  have h3 : ∀ x ∈ addTs b.Mails s (b.Mod + 1), x.Mod = b.Mod + 1 := by
    intro x hx
    obtain ⟨m, _, rfl⟩ := List.mem_map.1 hx
    rfl
  refine List.pairwise_append.2 ⟨h1, ?_, fun x hx y hy => ?_⟩
  · refine List.Pairwise.imp_of_mem (R := fun _ _ => True) (fun {x y} hx hy _ => ?_) (List.pairwise_of_forall fun _ _ => trivial)
    rw [h3 x hx, h3 y hy]; exact Int.le_refl _
  · have := h2 x hx
    rw [h3 y hy]; omega
theorem setOf_len0 {S : List Int} (h : Asc S 9999) : ((setOf S).length = 0) ↔ S = [] := by
  constructor
  · intro h0
    cases S with
    | nil => rfl
    | cons x l =>
      exfalso
      have hx := h.2 x (by simp)
      have := setOf_has (x :: l) x (by omega)
      rw [List.eq_nil_of_length_eq_zero h0] at this
      simp [hasR] at this
  · rintro rfl; rw [setOf_nil']; rfl
def T_spec_Expunge : Hints := ⟨lk [(20, [])], lk [(9, [1, 2, 4, 6, 7, 8, 9]), (18, [4, 6, 7, 8]), (20, [4, 6, 7, 8])], lk [(0, [1, 2, 4]), (1, [1, 2, 4, 6]), (2, [1, 2, 4, 6, 7]), (3, [1, 2, 4, 6, 7, 21]), (4, [4, 5]), (5, [1, 2, 4, 6, 7, 8]), (6, [1, 2, 4, 6, 7, 8]), (7, [1, 2, 4, 6, 7, 8]), (8, [1, 2, 4, 6, 7, 8, 9]), (9, [1, 2, 4, 6, 7, 8, 9, 36]), (11, [1, 2, 4, 6, 7, 8, 9, 10]), (12, [1, 2, 4, 6, 7, 8, 9, 10, 53]), (13, [1, 2, 4, 6, 7, 8, 9, 10]), (14, [1, 2, 4, 6, 7, 8, 9]), (15, [1, 2, 4, 6, 7, 8, 9]), (10, [1, 2, 4, 6, 7, 8, 9]), (16, [4, 6, 7, 8, 81]), (17, [4, 5]), (18, [4, 6, 7, 8, 87]), (19, [4, 6, 7, 8]), (20, [4, 6, 7, 8, 107]), (21, [4, 6, 7, 8]), (22, [4, 6, 7, 8, 116]), (23, [4, 5]), (24, [4, 5])], lk [], lf []⟩
noncomputable def Phi_spec_Expunge : Tab := lk [(28, spBoxOk), (94, spSetOk), (78, spCopyBox), (29, spSetHas), (97, spAnd), (95, spSetAdd)]
attribute [go_sem] T_spec_Expunge Phi_spec_Expunge
theorem phi_spec_Expunge : ∀ f sp, Phi_spec_Expunge f = some sp → FnOk Tryz.prog f sp ∧ ∀ n ∈ sp.need, n ∈ ([] : List String) := phi_cons ok_spec_BoxOk (n0 rfl) (phi_cons ok_spec_SetOk (n0 rfl) (phi_cons ok_spec_l08Copy (n0 rfl) (phi_cons ok_spec_SetHas (n0 rfl) (phi_cons ok_spec_l06And (n0 rfl) (phi_cons ok_spec_SetAdd (n0 rfl) (phi_nil))))))
theorem ok_spec_Expunge : FnOk Tryz.prog 75 spExpunge := by
  refine fn_ok (Φ := Phi_spec_Expunge) (T := T_spec_Expunge) phi_spec_Expunge mixed Tryz.func75 rfl rfl rfl (by decide) ?_
  intro ins r outs hr hl
  clear hl
  have hs := spExpunge_in hr
  clear hr
  obtain ⟨b, s, rfl, hc, hr, rfl⟩ := hs
  simp only [spExpunge, Tryz.f75, Go.VM.initS]
  obtain ⟨hc, hs⟩ := hc
  cases k1 : boxOk b with
  | false =>
    have hg : exGood b s = false := by simp [exGood, k1]
    simp only [hc, hs, k1, go_sem]
    repeat' ((first | ((first | apply qa | apply qb | apply qc | apply qd | apply qe | apply qf | apply qg | apply qh | apply qi | apply qj | apply qk) <;> intro hp) | ((first | refine ql rfl rfl (by decide +kernel) ?_ | refine qm _ rfl rfl (by decide +kernel) ?_) <;> have hp := True.intro)) <;> simp only [hp, hc, hs, k1, go_sem])
    simp only [fin_mk, finV, resL, resV1, resIn, endA, listIn, Option.some_or, Option.none_or, oneOrTup, go_sem]
    rw [← hr]
    simp only [expunge, exGone, hg, Bool.false_eq_true, if_false]; rfl
  | true =>
  cases k2 : setOk s with
  | false =>
    have hg : exGood b s = false := by simp [exGood, k2]
    simp only [hc, hs, k1, k2, go_sem]
    repeat' ((first | ((first | apply qa | apply qb | apply qc | apply qd | apply qe | apply qf | apply qg | apply qh | apply qi | apply qj | apply qk) <;> intro hp) | ((first | refine ql rfl rfl (by decide +kernel) ?_ | refine qm _ rfl rfl (by decide +kernel) ?_) <;> have hp := True.intro)) <;> simp only [hp, hc, hs, k1, k2, go_sem])
    simp only [fin_mk, finV, resL, resV1, resIn, endA, listIn, Option.some_or, Option.none_or, oneOrTup, go_sem]
    rw [← hr]
    simp only [expunge, exGone, hg, Bool.false_eq_true, if_false]; rfl
  | true =>
  have hp := boxOk_parts k1
  have hml := hp.2.1
  have htl := hp.2.2.1
  have hn := numsOk_next hp.1
  have w1 : IntKind.i64.wrap (b.Mod + 1) = b.Mod + 1 := wrap64 (by omega) (by omega)
  have f8 : flagsOk 8 = true := by decide
  have hs8 : s.length ≤ 8388608 := by omega
  simp only [hc, hs, k1, k2, w1, go_sem]
  repeat' ((first | ((first | apply qa | apply qb | apply qc | apply qd | apply qe | apply qf | apply qg | apply qh | apply qi | apply qj | apply qk) <;> intro hp) | ((first | refine ql rfl rfl (by decide +kernel) ?_ | refine qm _ rfl rfl (by decide +kernel) ?_) <;> have hp := True.intro)) <;> simp only [hp, hc, hs, k1, k2, w1, go_sem])
  refine loop_go (fun p : Nat × List Int × List Tomb × List Mail => [(9, .int .i64 (p.1 : Int))]) (fun p => [(3, ⟨.arr, 2, (setOf p.2.1).map Range.enc⟩), (7, ⟨.arr, 4, p.2.2.2.map Mail.enc⟩), (8, ⟨.arr, 2, p.2.2.1.map Tomb.enc⟩)]) (fun p => b.Mails.length - p.1)
    (fun p => p.1 ≤ b.Mails.length ∧ p.2.1 = goneU (b.Mails.take p.1) s ∧ p.2.2.1 = b.Tombs ++ addTs (b.Mails.take p.1) s (b.Mod + 1) ∧ p.2.2.2 = (b.Mails.take p.1).filter fun m => !goneI s m) (0, [], b.Tombs, []) ⟨Nat.zero_le _, rfl, by simp [addTs], rfl⟩ rfl (by rw [setOf_nil']; rfl) ?_
  rintro ⟨i, U, Ts, Ms⟩ ⟨hi, hU, hT, hM⟩ ih
  simp only at hi hU hT hM ih
  have lU : U.length ≤ i := by
    have := goneU_len (b.Mails.take i) s
    rw [← hU, List.length_take] at this; omega
  have lT : Ts.length ≤ 70 := by
    have := addTs_len (b.Mails.take i) s (b.Mod + 1)
    rw [hT, List.length_append]
    rw [List.length_take] at this; omega
  have lM : Ms.length ≤ 30 := by
    have := List.length_filter_le (fun m => !goneI s m) (b.Mails.take i)
    rw [← hM, List.length_take] at this; omega
  have lS := setOf_len U
  rcases Nat.lt_or_ge i b.Mails.length with h | h
  · have g1 : (i : Int) < b.Mails.length := by omega
    have g2 : (0 : Int) ≤ i := by omega
    have g3 : b.Mails[i]? = some b.Mails[i] := List.getElem?_eq_getElem h
    have g5 := wrap_succ h (by omega)
    have u1 : (setOf U).length ≤ 4194304 := by omega
    have t1 : (Ts.length + 1) * 16 ≤ 140737488355328 := by omega
    have t2 : Ts.length + 1 ≤ 9223372036854775807 := by omega
    have m1 : (Ms.length + 1) * 40 ≤ 140737488355328 := by omega
    have m2 : Ms.length + 1 ≤ 9223372036854775807 := by omega
    have hin := mail_in k1 h
    have hG := goneI_eq (s := s) hin.2.2
    cases hq : goneI s b.Mails[i] with
    | true =>
      rw [hq, eq_comm, Bool.and_eq_true, decide_eq_true_eq] at hG
      obtain ⟨q1, q2⟩ := hG
      have hadd := setAdd_one (S := U) (u := b.Mails[i].Uid) (by omega) (by omega)
      have ih' := ih (i + 1, U ++ [b.Mails[i].Uid], Ts ++ [⟨b.Mails[i].Uid, b.Mod + 1⟩], Ms) ⟨h, by rw [goneU_succ h, ← hU, if_pos hq], by rw [addTs_succ h, ← List.append_assoc, ← hT, if_pos hq], by rw [filter_succ h, ← hM, if_neg (by rw [hq]; simp), List.append_nil]⟩ (by simp only; omega)
      simp only [List.map_append] at ih'
      simp only [g1, g2, g3, g5, hs8, q1, q2, f8, hin.2.2, u1, hadd.2, t1, t2, and_self, go_sem]
      repeat' ((first | ((first | apply qa | apply qb | apply qc | apply qd | apply qe | apply qf | apply qg | apply qh | apply qi | apply qj | apply qk) <;> intro hp) | ((first | refine ql rfl rfl (by decide +kernel) ?_ | refine qm _ rfl rfl (by decide +kernel) ?_) <;> have hp := True.intro)) <;> simp only [hp, g1, g2, g3, g5, hs8, q1, q2, f8, hin.2.2, u1, hadd.2, t1, t2, and_self, go_sem])
      exact ih'
    | false =>
      have ih' := ih (i + 1, U, Ts, Ms ++ [b.Mails[i]]) ⟨h, by rw [goneU_succ h, ← hU, if_neg (by rw [hq]; simp), List.append_nil], by rw [addTs_succ h, ← List.append_assoc, ← hT, if_neg (by rw [hq]; simp), List.append_nil], by rw [filter_succ h, ← hM, if_pos (by rw [hq]; rfl)]⟩ (by simp only; omega)
      simp only [List.map_append] at ih'
      rw [hq] at hG
      cases q1 : hasR s b.Mails[i].Uid with
      | false =>
        simp only [g1, g2, g3, g5, hs8, q1, m1, m2, go_sem]
        repeat' ((first | ((first | apply qa | apply qb | apply qc | apply qd | apply qe | apply qf | apply qg | apply qh | apply qi | apply qj | apply qk) <;> intro hp) | ((first | refine ql rfl rfl (by decide +kernel) ?_ | refine qm _ rfl rfl (by decide +kernel) ?_) <;> have hp := True.intro)) <;> simp only [hp, g1, g2, g3, g5, hs8, q1, m1, m2, go_sem])
        exact ih'
      | true =>
        rw [q1, Bool.true_and, eq_comm, decide_eq_false_iff_not] at hG
        simp only [g1, g2, g3, g5, hs8, q1, hG, f8, hin.2.2, m1, m2, and_self, go_sem]
        repeat' ((first | ((first | apply qa | apply qb | apply qc | apply qd | apply qe | apply qf | apply qg | apply qh | apply qi | apply qj | apply qk) <;> intro hp) | ((first | refine ql rfl rfl (by decide +kernel) ?_ | refine qm _ rfl rfl (by decide +kernel) ?_) <;> have hp := True.intro)) <;> simp only [hp, g1, g2, g3, g5, hs8, q1, hG, f8, hin.2.2, m1, m2, and_self, go_sem])
        exact ih'
  · have g1 : ¬ (i : Int) < b.Mails.length := by omega
    rw [List.take_of_length_le h] at hU hT hM
    clear ih
    have hA : Asc U 9999 := by rw [hU]; exact filter_asc k1 _
    by_cases hz : U = []
    · have e1 : (((setOf U).length : Int) == 0) = true := by rw [hz, setOf_nil']; rfl
      have hg : exGood b s = false := by simp [exGood, ← hU, hz]
      simp only [g1, e1, go_sem]
      repeat' ((first | ((first | apply qa | apply qb | apply qc | apply qd | apply qe | apply qf | apply qg | apply qh | apply qi | apply qj | apply qk) <;> intro hp) | ((first | refine ql rfl rfl (by decide +kernel) ?_ | refine qm _ rfl rfl (by decide +kernel) ?_) <;> have hp := True.intro)) <;> simp only [hp, g1, e1, go_sem])
      simp only [fin_mk, finV, resL, resV1, resIn, endA, listIn, Option.some_or, Option.none_or, oneOrTup, go_sem]
      rw [← hr]
      simp only [expunge, exGone, hg, Bool.false_eq_true, if_false, hz, setOf_nil']; rfl
    have e1 : (((setOf U).length : Int) == 0) = false := by
      rw [beq_eq_false_iff_ne]
      intro h0
      exact hz ((setOf_len0 hA).1 (by omega))
    have hU1 : (goneU b.Mails s).isEmpty = false := by rw [← hU]; cases U <;> simp_all
    simp only [g1, e1, go_sem]
    repeat' ((first | ((first | apply qa | apply qb | apply qc | apply qd | apply qe | apply qf | apply qg | apply qh | apply qi | apply qj | apply qk) <;> intro hp) | ((first | refine ql rfl rfl (by decide +kernel) ?_ | refine qm _ rfl rfl (by decide +kernel) ?_) <;> have hp := True.intro)) <;> simp only [hp, g1, e1, go_sem])
    refine loop_go (fun p : List Tomb × Int => []) (fun p => [(3, ⟨.box, 7, [.agg [.str b.Name, .int .i64 b.Valid, .int .i64 b.Next, .int .i64 (b.Mod + 1), .own 6, .own 7, .int .i64 p.2]]⟩), (7, ⟨.arr, 2, p.1.map Tomb.enc⟩)])
      (fun p => p.1.length) (fun p => trimT p.1 p.2 = exTombs b s ∧ p.1.length ≤ 70 ∧ p.1.Pairwise (fun x y => x.Mod ≤ y.Mod)) (Ts, b.Horizon) ⟨by rw [hT]; rfl, lT, by rw [hT]; exact added_sorted k1⟩ rfl rfl ?_
    rintro ⟨ts, hz2⟩ ⟨htr, htl2, hpw⟩ ih
    simp only at htr htl2 hpw ih
    by_cases hl : 40 < ts.length
    · cases ts with
      | nil => simp at hl
      | cons t0 rest =>
        have h1 : (40 : Int) < (t0 :: rest).length := by omega
        have h2 : (t0 :: rest)[0]? = some t0 := rfl
        have h3' : (0 : Int) < (t0 :: rest).length := by omega
        have hlt := trim_lt t0 rest
        have hD := drop_eq (m := t0.Mod) hpw fun x hx => by
          rcases List.mem_cons.1 hx with rfl | hx
          · exact Int.le_refl _
          · exact (List.pairwise_cons.1 hpw).1 x hx
        have ih' := ih (((t0 :: rest).filter fun x => !(x.Mod == t0.Mod)), t0.Mod) ⟨by rw [← htr, trimT_step hl], by simp only; omega, hpw.sublist List.filter_sublist⟩ (by simp only; omega)
        clear ih
        generalize hL : t0 :: rest = L at *
        simp only [h1, h2, h3', Int.le_refl, go_sem]
        repeat' ((first | ((first | apply qa | apply qb | apply qc | apply qd | apply qe | apply qf | apply qg | apply qh | apply qi | apply qj | apply qk) <;> intro hp) | ((first | refine ql rfl rfl (by decide +kernel) ?_ | refine qm _ rfl rfl (by decide +kernel) ?_) <;> have hp := True.intro)) <;> simp only [hp, h1, h2, h3', Int.le_refl, go_sem])
        refine loop_go (fun q : List Tomb => []) (fun q => [(7, ⟨.arr, 2, q.map Tomb.enc⟩)]) (fun q => q.length) (fun q => q.dropWhile (fun x => decide (x.Mod ≤ t0.Mod)) = L.dropWhile (fun x => decide (x.Mod ≤ t0.Mod)) ∧ q.length ≤ 70) L ⟨rfl, htl2⟩ rfl rfl ?_
        rintro q ⟨hq, hql⟩ ih2
        rw [hD, ← hq] at ih'
        cases q with
        | nil =>
          have n1 : ¬ (0 : Int) < ([] : List Tomb).length := by simp
          rw [List.dropWhile_nil] at ih'
          generalize hR : ([] : List Tomb) = Q at *
          simp only [n1, go_sem]
          repeat' ((first | ((first | apply qa | apply qb | apply qc | apply qd | apply qe | apply qf | apply qg | apply qh | apply qi | apply qj | apply qk) <;> intro hp) | ((first | refine ql rfl rfl (by decide +kernel) ?_ | refine qm _ rfl rfl (by decide +kernel) ?_) <;> have hp := True.intro)) <;> simp only [hp, n1, go_sem])
          exact ih'
        | cons x r =>
          have p1 : (0 : Int) < (x :: r).length := by simp only [List.length_cons]; omega
          have p2 : (x :: r)[0]? = some x := rfl
          by_cases hx : x.Mod ≤ t0.Mod
          · have e2 : decide (x.Mod ≤ t0.Mod) = true := by rw [decide_eq_true_eq]; exact hx
            have ih2' := ih2 r ⟨by rw [← hq, List.dropWhile_cons, e2, if_pos rfl], by simp only [List.length_cons] at hql; omega⟩ (by simp only [List.length_cons]; omega)
            have p3 : (x :: r).drop 1 = r := rfl
            have p4 : (x :: r).length - 1 = r.length := rfl
            have p5 : r.length * 16 ≤ 140737488355328 := by simp only [List.length_cons] at hql; omega
            have p6 : r.length ≤ 9223372036854775807 := by simp only [List.length_cons] at hql; omega
            have p7 : 1 ≤ (x :: r).length := by simp only [List.length_cons]; omega
            have p8 : (x :: r).length ≤ 70 := hql
            have p9 : 1 + r.length = (x :: r).length := by simp only [List.length_cons]; omega
            generalize hR : x :: r = Q at *
            simp only [p1, p2, hx, p3, p4, p5, p6, p7, p9, List.take_length, Int.le_refl, Nat.le_refl, go_sem]
            repeat' ((first | ((first | apply qa | apply qb | apply qc | apply qd | apply qe | apply qf | apply qg | apply qh | apply qi | apply qj | apply qk) <;> intro hp) | ((first | refine ql rfl rfl (by decide +kernel) ?_ | refine qm _ rfl rfl (by decide +kernel) ?_) <;> have hp := True.intro)) <;> simp only [hp, p1, p2, hx, p3, p4, p5, p6, p7, p9, List.take_length, Int.le_refl, Nat.le_refl, go_sem])
            exact ih2'
          · have e2 : decide (x.Mod ≤ t0.Mod) = false := by rw [decide_eq_false_iff_not]; exact hx
            rw [List.dropWhile_cons, e2, if_neg (by simp)] at ih'
            generalize hR : x :: r = Q at *
            simp only [p1, p2, hx, Int.le_refl, go_sem]
            repeat' ((first | ((first | apply qa | apply qb | apply qc | apply qd | apply qe | apply qf | apply qg | apply qh | apply qi | apply qj | apply qk) <;> intro hp) | ((first | refine ql rfl rfl (by decide +kernel) ?_ | refine qm _ rfl rfl (by decide +kernel) ?_) <;> have hp := True.intro)) <;> simp only [hp, p1, p2, hx, Int.le_refl, go_sem])
            exact ih'
    · have h1 : ¬ (40 : Int) < ts.length := by omega
      rw [trimT_end hl] at htr
      clear ih
      have hle : Box.le 4194304 ⟨b.Name, b.Valid, b.Next, b.Mod + 1, Ms, ts, hz2⟩ := by rw [hM]; exact exOut_le hc (by omega)
      have hbo : boxOk ⟨b.Name, b.Valid, b.Next, b.Mod + 1, Ms, ts, hz2⟩ = boxOk (exOut b s) := by rw [exOut, ← htr, hM]; rfl
      cases k3 : boxOk (exOut b s) with
      | false =>
        have hg : exGood b s = false := by simp [exGood, k3]
        simp only [h1, hle, hbo, k3, go_sem]
        repeat' ((first | ((first | apply qa | apply qb | apply qc | apply qd | apply qe | apply qf | apply qg | apply qh | apply qi | apply qj | apply qk) <;> intro hp) | ((first | refine ql rfl rfl (by decide +kernel) ?_ | refine qm _ rfl rfl (by decide +kernel) ?_) <;> have hp := True.intro)) <;> simp only [hp, h1, hle, hbo, k3, go_sem])
        simp only [fin_mk, finV, resL, resV1, resIn, endA, listIn, Option.some_or, Option.none_or, oneOrTup, go_sem]
        rw [← hr]
        simp only [expunge, exGone, hg, Bool.false_eq_true, if_false]; rfl
      | true =>
        have hg : exGood b s = true := by simp [exGood, k1, k2, k3, hU1]
        simp only [h1, hle, hbo, k3, go_sem]
        repeat' ((first | ((first | apply qa | apply qb | apply qc | apply qd | apply qe | apply qf | apply qg | apply qh | apply qi | apply qj | apply qk) <;> intro hp) | ((first | refine ql rfl rfl (by decide +kernel) ?_ | refine qm _ rfl rfl (by decide +kernel) ?_) <;> have hp := True.intro)) <;> simp only [hp, h1, hle, hbo, k3, go_sem])
        simp only [fin_mk, finV, resL, resV1, resIn, endA, listIn, Option.some_or, Option.none_or, oneOrTup, go_sem]
        rw [← hr]
        simp only [expunge, exGone, hg, if_true, ← hU]
        rw [exOut, ← htr, exMails, ← hM]; rfl
end Go.Proofs.YtghmjnggmacohaaGreatDoor.L

namespace Go.Proofs.YtghmjnggmacohaaGreatDoor.L
open Go Go.VM
set_option maxRecDepth 100000
set_option maxHeartbeats 4000000
set_option linter.unusedSimpArgs false
set_option linter.unusedVariables false
def forgetGood (b : Box) (upto : Int) : Bool := boxOk b && within upto 0 b.Mod
def forgetOut (b : Box) (upto : Int) : Box := ⟨b.Name, b.Valid, b.Next, b.Mod, b.Mails, b.Tombs.filter (fun x => !decide (x.Mod ≤ upto)), if b.Horizon < upto then upto else b.Horizon⟩
def forgetTombs (b : Box) (upto : Int) : Box := if forgetGood b upto = true then forgetOut b upto else b
open Classical in
noncomputable def spForgetTombs : VM.Spec := { modes := [.rd, .rd], run := fun | [b', .int .i64 upto] => (Box.dec b').bind fun b => if b.le 4194304 then some (Box.enc (forgetTombs b upto), []) else none | _ => none, need := [] }
attribute [go_sem] spForgetTombs
theorem spForgetTombs_in {ins : List V} {r : V} {outs : List V} (h : spForgetTombs.run ins = some (r, outs)) : ∃ (b : Box) (upto : Int), ins = [Box.enc b, .int .i64 upto] ∧ (b.le 4194304) ∧ Box.enc (forgetTombs b upto) = r ∧ outs = [] := by
  unfold spForgetTombs at h
  simp only at h
  split at h
  · rename_i b' upto
    simp only [Option.bind_eq_some_iff] at h
    obtain ⟨b, h_b, h⟩ := h
    split at h
    case isFalse => cases h
    rename_i hc
    simp only [Option.some.injEq, Prod.mk.injEq] at h
    obtain ⟨h1, h2⟩ := h
    have h_b := Box.dec_some h_b
    subst h_b
    exact ⟨b, upto, rfl, hc, h1, h2.symm⟩
  · cases h
def T_spec_ForgetTombs : Hints := ⟨lk [(9, [(0, 7), (1, 7)])], lk [(6, [1, 2, 4, 5, 6])], lk [(0, [1, 2, 4]), (1, [1, 2, 4, 5]), (2, [1, 2, 4, 5, 18]), (3, [4]), (4, [1, 2, 4, 5]), (5, [1, 2, 4, 5, 6]), (6, [1, 2, 4, 5, 6, 26]), (8, [1, 2, 4, 5, 6, 36]), (9, [1, 2, 4, 5, 6]), (7, [1, 2, 4, 5, 6]), (10, [1, 4, 5, 50]), (11, [4, 5]), (12, [4])], lk [], lf []⟩
noncomputable def Phi_spec_ForgetTombs : Tab := lk [(78, spCopyBox), (28, spBoxOk), (51, spWithin)]
attribute [go_sem] T_spec_ForgetTombs Phi_spec_ForgetTombs
theorem phi_spec_ForgetTombs : ∀ f sp, Phi_spec_ForgetTombs f = some sp → FnOk Tryz.prog f sp ∧ ∀ n ∈ sp.need, n ∈ ([] : List String) := phi_cons ok_spec_l08Copy (n0 rfl) (phi_cons ok_spec_BoxOk (n0 rfl) (phi_cons ok_spec_l01In (n0 rfl) (phi_nil)))
theorem ok_spec_ForgetTombs : FnOk Tryz.prog 76 spForgetTombs := by
  refine fn_ok (Φ := Phi_spec_ForgetTombs) (T := T_spec_ForgetTombs) phi_spec_ForgetTombs mixed Tryz.func76 rfl rfl rfl (by decide) ?_
  intro ins r outs hr hl
  clear hl
  have hs := spForgetTombs_in hr
  clear hr
  obtain ⟨b, upto, rfl, hc, hr, rfl⟩ := hs
  simp only [spForgetTombs, Tryz.f76, Go.VM.initS]
  have ht : b.Tombs.length ≤ 4194304 := hc.2.2.1
  cases hk : forgetGood b upto with
  | false =>
    cases hb : boxOk b with
    | false =>
      simp only [hc, hb, go_sem]
      repeat' ((first | ((first | apply qa | apply qb | apply qc | apply qd | apply qe | apply qf | apply qg | apply qh | apply qi | apply qj | apply qk) <;> intro hp) | ((first | refine ql rfl rfl (by decide +kernel) ?_ | refine qm _ rfl rfl (by decide +kernel) ?_) <;> have hp := True.intro)) <;> simp only [hp, hc, hb, go_sem])
      simp only [fin_mk, finV, resL, resV1, resIn, endA, listIn, Option.some_or, Option.none_or, oneOrTup, go_sem]
      rw [← hr]
      rw [forgetTombs, hk]; rfl
    | true =>
      have hw : within upto 0 b.Mod = false := by simpa [forgetGood, hb] using hk
      simp only [hc, hb, hw, go_sem]
      repeat' ((first | ((first | apply qa | apply qb | apply qc | apply qd | apply qe | apply qf | apply qg | apply qh | apply qi | apply qj | apply qk) <;> intro hp) | ((first | refine ql rfl rfl (by decide +kernel) ?_ | refine qm _ rfl rfl (by decide +kernel) ?_) <;> have hp := True.intro)) <;> simp only [hp, hc, hb, hw, go_sem])
      simp only [fin_mk, finV, resL, resV1, resIn, endA, listIn, Option.some_or, Option.none_or, oneOrTup, go_sem]
      rw [← hr]
      rw [forgetTombs, hk]; rfl
  | true =>
    obtain ⟨hb, hw⟩ : boxOk b = true ∧ within upto 0 b.Mod = true := by simpa [forgetGood] using hk
    simp only [hc, hb, hw, go_sem]
    have hfe : ∀ i, ((b.Tombs.take i).filter (fun x => !decide (x.Mod ≤ upto))).length ≤ b.Tombs.length := fun i => filter_take_len b.Tombs _ i
    refine loop_go (fun i : Nat => [(6, .int .i64 (i : Int))]) (fun i => [(4, ⟨.arr, 2, ((b.Tombs.take i).filter (fun x => !decide (x.Mod ≤ upto))).map Tomb.enc⟩)]) (fun i => b.Tombs.length - i) (fun i => i ≤ b.Tombs.length) 0 (Nat.zero_le _) rfl rfl ?_
    intro i hi ih
    rcases Nat.lt_or_ge i b.Tombs.length with h | h
    · have g1 : (i : Int) < b.Tombs.length := by omega
      have g2 : (0 : Int) ≤ i := by omega
      have g3 : b.Tombs[i]? = some b.Tombs[i] := List.getElem?_eq_getElem h
      have g5 := wrap_succ h (by omega)
      have hn := hfe i
      have g6 : (((b.Tombs.take i).filter (fun x => !decide (x.Mod ≤ upto))).length + 1) * 16 ≤ 140737488355328 := by omega
      have g7 : ((b.Tombs.take i).filter (fun x => !decide (x.Mod ≤ upto))).length + 1 ≤ 9223372036854775807 := by omega
      rcases Int.lt_or_le upto b.Tombs[i].Mod with q | q
      · have ih' := ih (i + 1) h (by omega)
        rw [filter_succ h, if_pos (by simp only [Bool.not_eq_true', decide_eq_false_iff_not]; omega), List.map_append] at ih'
        simp only [g1, g2, g3, g5, g6, g7, q, go_sem]
        repeat' ((first | ((first | apply qa | apply qb | apply qc | apply qd | apply qe | apply qf | apply qg | apply qh | apply qi | apply qj | apply qk) <;> intro hp) | ((first | refine ql rfl rfl (by decide +kernel) ?_ | refine qm _ rfl rfl (by decide +kernel) ?_) <;> have hp := True.intro)) <;> simp only [hp, g1, g2, g3, g5, g6, g7, q, go_sem])
        exact ih'
      · have q' : ¬ upto < b.Tombs[i].Mod := by omega
        have ih' := ih (i + 1) h (by omega)
        rw [filter_succ h, if_neg (by simp only [Bool.not_eq_true', decide_eq_false_iff_not]; omega), List.append_nil] at ih'
        simp only [g1, g2, g3, g5, g6, g7, q', go_sem]
        repeat' ((first | ((first | apply qa | apply qb | apply qc | apply qd | apply qe | apply qf | apply qg | apply qh | apply qi | apply qj | apply qk) <;> intro hp) | ((first | refine ql rfl rfl (by decide +kernel) ?_ | refine qm _ rfl rfl (by decide +kernel) ?_) <;> have hp := True.intro)) <;> simp only [hp, g1, g2, g3, g5, g6, g7, q', go_sem])
        exact ih'
    · have g1 : ¬ (i : Int) < b.Tombs.length := by omega
      rcases Int.lt_or_le b.Horizon upto with q | q
      · simp only [g1, q, go_sem]
        repeat' ((first | ((first | apply qa | apply qb | apply qc | apply qd | apply qe | apply qf | apply qg | apply qh | apply qi | apply qj | apply qk) <;> intro hp) | ((first | refine ql rfl rfl (by decide +kernel) ?_ | refine qm _ rfl rfl (by decide +kernel) ?_) <;> have hp := True.intro)) <;> simp only [hp, g1, q, go_sem])
        simp only [fin_mk, finV, resL, resV1, resIn, endA, listIn, Option.some_or, Option.none_or, oneOrTup, go_sem]
        rw [← hr]
        rw [forgetTombs, hk]
        simp only [forgetOut, if_pos q, Box.enc, List.take_of_length_le h]; rfl
      · have q' : ¬ b.Horizon < upto := by omega
        simp only [g1, q', go_sem]
        repeat' ((first | ((first | apply qa | apply qb | apply qc | apply qd | apply qe | apply qf | apply qg | apply qh | apply qi | apply qj | apply qk) <;> intro hp) | ((first | refine ql rfl rfl (by decide +kernel) ?_ | refine qm _ rfl rfl (by decide +kernel) ?_) <;> have hp := True.intro)) <;> simp only [hp, g1, q', go_sem])
        simp only [fin_mk, finV, resL, resV1, resIn, endA, listIn, Option.some_or, Option.none_or, oneOrTup, go_sem]
        rw [← hr]
        rw [forgetTombs, hk]
        simp only [forgetOut, if_neg q', Box.enc, List.take_of_length_le h]; rfl
end Go.Proofs.YtghmjnggmacohaaGreatDoor.L

namespace Go.Proofs.YtghmjnggmacohaaGreatDoor.L
open Go Go.VM
set_option maxRecDepth 100000
set_option maxHeartbeats 4000000
set_option linter.unusedSimpArgs false
set_option linter.unusedVariables false
theorem pw_of_adj {α : Type} {R : α → α → Prop} (tr : ∀ a b c, R a b → R b c → R a c) : ∀ {l : List α}, (∀ i, (h : i + 1 < l.length) → R l[i] l[i + 1]) → l.Pairwise R
  | [], _ => List.Pairwise.nil
  | [x], _ => List.pairwise_singleton _ _
  | x :: y :: t, h => by
    have h1 : (y :: t).Pairwise R := pw_of_adj tr fun i hi => by
      have := h (i + 1) (by simpa using hi)
      simpa using this
    have h2 : R x y := by simpa using h 0 (by simp)
    refine List.Pairwise.cons (fun z hz => ?_) h1
    rcases List.mem_cons.1 hz with rfl | hz
    · exact h2
    · exact tr _ _ _ h2 ((List.pairwise_cons.1 h1).1 z hz)
def tombLt (x y : Tomb) : Prop := x.Mod < y.Mod ∨ (x.Mod = y.Mod ∧ x.Uid < y.Uid)
def tombHere (b : Box) (t : Tomb) : Prop := within t.Uid 1 (b.Next - 1) = true ∧ within t.Mod (b.Horizon + 1) b.Mod = true ∧ hasMail b.Mails t.Uid = false
theorem tombs_facts {b : Box} (h : boxOk b = true) : (∀ t ∈ b.Tombs, tombHere b t) ∧ b.Tombs.Pairwise tombLt := by
  constructor
  · intro x hx
    obtain ⟨i, hi, rfl⟩ := List.mem_iff_getElem.1 hx
    have h2 := tomb_of h hi
    simp only [tombAtOk, tombIn, Bool.and_eq_true, List.getD_eq_getElem?_getD, List.getElem?_eq_getElem hi, Option.getD_some, Bool.not_eq_true'] at h2
    exact ⟨h2.1.1.1.1, h2.1.1.1.2, h2.1.2⟩
  · refine pw_of_adj (fun a b c h1 h2 => by unfold tombLt at *; omega) fun i hi => ?_
    have h2 := tomb_of h hi
    simp only [tombAtOk, tombOrd, Bool.and_eq_true, Bool.or_eq_true, Bool.not_eq_true', Bool.or_eq_false_iff, decide_eq_false_iff_not, List.getD_eq_getElem?_getD, List.getElem?_eq_getElem hi, Option.getD_some, Nat.add_sub_cancel, List.getElem?_eq_getElem (show i < b.Tombs.length by omega), Bool.and_eq_false_iff, beq_eq_false_iff_ne] at h2
    rcases h2.2 with h3 | ⟨h3, h4⟩
    · simp at h3
    · unfold tombLt
      rcases h4 with h4 | h4 <;> omega
theorem tombs_back {b : Box} (h1 : ∀ t ∈ b.Tombs, tombHere b t) (h2 : b.Tombs.Pairwise tombLt) (h3 : (b.Tombs.map (·.Uid)).Pairwise (· ≠ ·)) (h4 : b.Tombs.length ≤ 40) : tombsOk b = true := by
  simp only [tombsOk, Bool.and_eq_true, decide_eq_true_eq]
  refine ⟨allN_all (Nat.le_refl _) fun i hi => ?_, h4⟩
  obtain ⟨a1, a2, a3⟩ := h1 _ (List.getElem_mem hi)
  rw [List.pairwise_map] at h3
  simp only [tombAtOk, tombIn, tombOrd, getD_lt hi, a1, a2, a3, Bool.true_and, Bool.not_false, Bool.and_true, Bool.and_eq_true, Bool.not_eq_true', Bool.or_eq_true, beq_iff_eq]
  refine ⟨?_, ?_⟩
  · rw [hasTomb, List.any_eq_false]
    intro x hx
    obtain ⟨j, hj, rfl⟩ := List.mem_take_iff_getElem.1 hx
    have := List.pairwise_iff_getElem.1 h3 j i (by omega) hi (by omega)
    simpa using this
  · rcases Nat.eq_zero_or_pos i with h0 | h0
    · exact .inl h0
    · right
      have := List.pairwise_iff_getElem.1 h2 (i - 1) i (by omega) hi (by omega)
      rw [getD_lt (show i - 1 < b.Tombs.length by omega)]
      unfold tombLt at this
      rw [Bool.or_eq_false_iff, decide_eq_false_iff_not, Bool.and_eq_false_iff, beq_eq_false_iff_ne, decide_eq_false_iff_not]
      omega
theorem forgetOut_ok {b : Box} {u : Int} (h : boxOk b = true) (h0 : 0 ≤ u) (h1 : u ≤ b.Mod) : boxOk (forgetOut b u) = true := by
  have hf := tombs_facts h
  have hn := tombs_ne h
  have hp := boxOk_parts h
  have hnn := numsOk_next hp.1
  obtain ⟨H, eH, hH0, hH1, hH2⟩ : ∃ H, (if b.Horizon < u then u else b.Horizon) = H ∧ 0 ≤ H ∧ H ≤ b.Mod ∧ (H = u ∨ (H = b.Horizon ∧ u ≤ H)) := ⟨_, rfl, by split <;> omega, by split <;> omega, by split <;> omega⟩
  have eO : forgetOut b u = ⟨b.Name, b.Valid, b.Next, b.Mod, b.Mails, b.Tombs.filter (fun x => !decide (x.Mod ≤ u)), H⟩ := by rw [forgetOut, eH]
  rw [eO]
  simp only [boxOk, Bool.and_eq_true] at h ⊢
  obtain ⟨⟨⟨k1, k2⟩, k3⟩, k4⟩ := h
  refine ⟨⟨⟨k1, ?_⟩, k3⟩, ?_⟩
  · simp only [numsOk, Bool.and_eq_true, within, decide_eq_true_eq] at k2 ⊢
    exact ⟨k2.1, hH0, hH1⟩
  · refine tombs_back (fun t ht => ?_) (hf.2.filter _) (hn.sublist (List.Sublist.map _ List.filter_sublist)) (Nat.le_trans (List.length_filter_le _ _) hp.2.2.1)
    obtain ⟨m1, m2⟩ := List.mem_filter.1 ht
    obtain ⟨a1, a2, a3⟩ := hf.1 t m1
    refine ⟨a1, ?_, a3⟩
    simp only [Bool.not_eq_true', decide_eq_false_iff_not] at m2
    simp only [within, Bool.and_eq_true, decide_eq_true_eq] at a2 ⊢
    omega
theorem forgetTombs_ok {b : Box} {u : Int} (h : boxOk b = true) : boxOk (forgetTombs b u) = true := by
  unfold forgetTombs
  split
  · rename_i hg
    simp only [forgetGood, Bool.and_eq_true, within, decide_eq_true_eq] at hg
    exact forgetOut_ok h hg.2.1 hg.2.2
  · exact h
end Go.Proofs.YtghmjnggmacohaaGreatDoor.L

namespace Go.Proofs.YtghmjnggmacohaaGreatDoor.L
open Go Go.VM
set_option maxRecDepth 100000
set_option maxHeartbeats 4000000
set_option linter.unusedSimpArgs false
set_option linter.unusedVariables false
def boxA (c : Cur) (b : Box) : Box × Cur := (addMail b (belO c 32).1 (mailO (belO c 32).2).1, (mailO (belO c 32).2).2)
def boxB (c : Cur) (b : Box) : Box × Cur := (setFlags b (drawO c).1 (1 + (belO (drawO c).2 3).1) (belO (belO (drawO c).2 3).2 32).1 (-1), (belO (belO (drawO c).2 3).2 32).2)
def boxC (c : Cur) (b : Box) : Box × Cur := (expunge b (drawO c).1, (drawO c).2)
def boxD (c : Cur) (b : Box) : Box × Cur := if ((belO c 3).1 == 0) = true then (forgetTombs b (belO (belO c 3).2 (b.Mod + 1)).1, (belO (belO c 3).2 (b.Mod + 1)).2) else (b, (belO c 3).2)
def boxStep (c : Cur) (b : Box) : Box × Cur :=
  if (belO c 6).1 ≤ 2 then boxA (belO c 6).2 b else if (belO c 6).1 = 3 then boxB (belO c 6).2 b else if (belO c 6).1 = 4 then boxC (belO c 6).2 b else boxD (belO c 6).2 b
theorem addMail_ok {b : Box} {f : Int} {t : List UInt8} (h : boxOk b = true) : boxOk (addMail b f t) = true := by
  unfold addMail
  split
  · rename_i hg; simp only [addGood, Bool.and_eq_true] at hg; exact hg.2
  · exact h
theorem setFlags_ok {b : Box} {s : List Range} {w f n : Int} (h : boxOk b = true) : boxOk (setFlags b s w f n) = true := by
  unfold setFlags
  split
  · rename_i hg; simp only [setGood, Bool.and_eq_true] at hg; exact hg.2
  · exact h
theorem expunge_ok {b : Box} {s : List Range} (h : boxOk b = true) : boxOk (expunge b s) = true := by
  unfold expunge
  split
  · rename_i hg; simp only [exGood, Bool.and_eq_true] at hg; exact hg.2
  · exact h
theorem box_le {b : Box} (h : boxOk b = true) : b.le 4194304 := by
  obtain ⟨h1, h2, h3, h4, h5⟩ := boxOk_parts h
  exact ⟨by show b.Name.length ≤ _; omega, ⟨by omega, fun m hm => by have := h5 m hm; show m.Text.length ≤ _; omega⟩, ⟨by omega, fun _ _ => trivial⟩⟩
theorem boxStep_in {c : Cur} {b : Box} (hc : curI c) (hb : boxOk b = true) : boxOk (boxStep c b).1 = true ∧ curI (boxStep c b).2 := by
  have h1 := belO_in (n := 6) hc
  have a1 := belO_in (n := 32) h1.1
  have a2 := mailO_len a1.1
  have d1 := drawO_in h1.1
  have d2 := belO_in (n := 3) d1.2
  have d3 := belO_in (n := 32) d2.1
  have f1 := belO_in (n := 3) h1.1
  have f2 := belO_in (n := b.Mod + 1) f1.1
  unfold boxStep
  split
  · exact ⟨addMail_ok hb, a2.2⟩
  · split
    · exact ⟨setFlags_ok hb, d3.1⟩
    · split
      · exact ⟨expunge_ok hb, d1.2⟩
      · unfold boxD
        split
        · exact ⟨forgetTombs_ok hb, f2.1⟩
        · exact ⟨hb, f1.1⟩
def boxL : Nat → Nat → Cur → Box → Box × Cur
  | 0, _, c, b => (b, c)
  | f + 1, i, c, b => if (i : Int) < 2 + (belO c 16).1 then boxL f (i + 1) (boxStep (belO c 16).2 b).2 (boxStep (belO c 16).2 b).1 else (b, (belO c 16).2)
theorem boxL_in : ∀ (f i : Nat) {c : Cur} {b : Box}, curI c → boxOk b = true → boxOk (boxL f i c b).1 = true ∧ curI (boxL f i c b).2
  | 0, i, c, b, hc, hb => ⟨hb, hc⟩
  | f + 1, i, c, b, hc, hb => by
    have h1 := belO_in (n := 16) hc
    have h2 := boxStep_in h1.1 hb
    rw [boxL]
    split
    · exact boxL_in f (i + 1) h2.2 h2.1
    · exact ⟨hb, h1.1⟩
def boxNames : List (List UInt8) := [[105, 110, 98, 111, 120], [119, 111, 114, 107], [111, 108, 100]]
def box8 (c : Cur) : Box × Cur := boxL 18 0 (belO (pickO c boxNames).2 5).2 (boxNew (pickO c boxNames).1 (1 + (belO (pickO c boxNames).2 5).1))
theorem boxFresh_ok {n : List UInt8} {v : Int} (hn : n ∈ boxNames) (h0 : 0 ≤ v) (h1 : v < 5) : boxOk (boxFresh n (1 + v)) = true ∧ boxNew n (1 + v) = boxFresh n (1 + v) := by
  have k : boxOk (boxFresh n (1 + v)) = true := by
    obtain ⟨m, rfl⟩ : ∃ m : Nat, v = m := ⟨v.toNat, by omega⟩
    have : ∀ n ∈ boxNames, ∀ m : Fin 5, boxOk (boxFresh n (1 + (m.val : Int))) = true := by decide +kernel
    exact this n hn ⟨m, by omega⟩
  exact ⟨k, by rw [boxNew, if_pos k]⟩
theorem box8_in {c : Cur} (h : curI c) : boxOk (box8 c).1 = true ∧ curI (box8 c).2 := by
  have h1 := pickO_in (l := boxNames) h (by decide)
  have h2 := belO_in (n := 5) h1.1
  have h3 := boxFresh_ok h1.2 h2.2.1 (h2.2.2 (by decide))
  exact boxL_in 18 0 h2.1 (by rw [h3.2]; exact h3.1)
open Classical in
noncomputable def spBox8 : VM.Spec := { modes := [.ptr], run := fun | [.rptr (c')] => (Cur.dec c').bind fun c => if curI c then some (Box.enc ((box8 c).1), [.rptr (Cur.enc ((box8 c).2))]) else none | _ => none, need := [] }
attribute [go_sem] spBox8
theorem spBox8_in {ins : List V} {r : V} {outs : List V} (h : spBox8.run ins = some (r, outs)) : ∃ (c : Cur), ins = [.rptr (Cur.enc c)] ∧ (curI c) ∧ Box.enc ((box8 c).1) = r ∧ outs = [.rptr (Cur.enc ((box8 c).2))] := by
  unfold spBox8 at h
  simp only at h
  split at h
  · rename_i c'
    simp only [Option.bind_eq_some_iff] at h
    obtain ⟨c, h_c, h⟩ := h
    split at h
    case isFalse => cases h
    rename_i hc
    simp only [Option.some.injEq, Prod.mk.injEq] at h
    obtain ⟨h1, h2⟩ := h
    have h_c := Cur.dec_some h_c
    subst h_c
    exact ⟨c, rfl, hc, h1, h2.symm⟩
  · cases h
def T_spec_l08Box : Hints := ⟨lk [(11, [(0, 2), (0, 4)]), (13, [(0, 2), (0, 4), (0, 7)]), (15, [(0, 2)]), (7, [(0, 5)])], lk [(3, [0, 2, 3, 5])], lk [(0, [0, 2]), (1, [0, 2, 3]), (2, [0, 2, 3, 5]), (3, [0, 2, 3, 5, 20]), (5, [0, 2, 3, 5, 24]), (8, [0, 2, 3, 5, 24, 34]), (9, [0, 2, 3, 5, 24, 34]), (10, [0, 2, 3, 5, 24, 34]), (11, [0, 2, 3, 5]), (12, [0, 2, 3, 5, 24, 47]), (13, [0, 2, 3, 5]), (14, [0, 2, 3, 5, 62]), (15, [0, 2, 3, 5]), (6, [0, 2, 3, 5, 26]), (7, [0, 2, 3, 5]), (4, [0, 2, 3, 5]), (16, [2])], lk [], lf []⟩
noncomputable def Phi_spec_l08Box : Tab := lk [(69, spPick), (70, spBelow), (68, spBoxNew), (71, spAddMail), (72, spMail), (73, spSetFlags), (74, spDraw), (75, spExpunge), (47, spOnce), (76, spForgetTombs)]
attribute [go_sem] T_spec_l08Box Phi_spec_l08Box
theorem phi_spec_l08Box : ∀ f sp, Phi_spec_l08Box f = some sp → FnOk Tryz.prog f sp ∧ ∀ n ∈ sp.need, n ∈ ([] : List String) := phi_cons ok_spec_l01Pick (n0 rfl) (phi_cons ok_spec_l01Below (n0 rfl) (phi_cons ok_spec_BoxNew (n0 rfl) (phi_cons ok_spec_AddMail (n0 rfl) (phi_cons ok_spec_l07Mail (n0 rfl) (phi_cons ok_spec_SetFlags (n0 rfl) (phi_cons ok_spec_l05Draw (n0 rfl) (phi_cons ok_spec_Expunge (n0 rfl) (phi_cons ok_spec_l01Once (n0 rfl) (phi_cons ok_spec_ForgetTombs (n0 rfl) (phi_nil))))))))))
theorem ok_spec_l08Box : FnOk Tryz.prog 44 spBox8 := by
  refine fn_ok (Φ := Phi_spec_l08Box) (T := T_spec_l08Box) phi_spec_l08Box mixed Tryz.func44 rfl rfl rfl (by decide) ?_
  intro ins r outs hr hl
  clear hl
  have hs := spBox8_in hr
  clear hr
  obtain ⟨c, rfl, hc, hr, rfl⟩ := hs
  simp only [spBox8, Tryz.f44, Go.VM.initS]
  have h1 := pickO_in (l := boxNames) hc (by decide)
  obtain ⟨⟨nm, c1⟩, e1⟩ : ∃ x, pickO c boxNames = x := ⟨_, rfl⟩
  have e1' : pickO c [[105, 110, 98, 111, 120], [119, 111, 114, 107], [111, 108, 100]] = (nm, c1) := e1
  rw [e1] at h1
  have h2 := belO_in (n := 5) h1.1
  obtain ⟨⟨v, c2⟩, e2⟩ : ∃ x, belO c1 5 = x := ⟨_, rfl⟩
  simp only at h1 h2
  rw [e2] at h2
  simp only at h2
  have hv := h2.2.2 (by decide)
  have h3 := boxFresh_ok h1.2 h2.2.1 hv
  have w1 : IntKind.i64.wrap (1 + v) = 1 + v := wrap64 (by omega) (by omega)
  have nl : nm.length ≤ 4194304 := by
    have : ∀ x ∈ boxNames, x.length ≤ 8 := by decide
    have := this _ h1.2
    omega
  obtain ⟨B0, hB0⟩ : ∃ B0, boxNew nm (1 + v) = B0 := ⟨_, rfl⟩
  have kB0 : boxOk B0 = true := by rw [← hB0, h3.2]; exact h3.1
  obtain ⟨⟨RB, RC⟩, hR⟩ : ∃ R, boxL 18 0 c2 B0 = R := ⟨_, rfl⟩
  have e : box8 c = (RB, RC) := by rw [box8, e1, e2, hB0, hR]
  rw [e] at hr
  have lB0 := box_le kB0
  simp only [hc, e, e1', h1.1, e2, w1, nl, hB0, go_sem]
  repeat' ((first | ((first | apply qa | apply qb | apply qc | apply qd | apply qe | apply qf | apply qg | apply qh | apply qi | apply qj | apply qk) <;> intro hp) | ((first | refine ql rfl rfl (by decide +kernel) ?_ | refine qm _ rfl rfl (by decide +kernel) ?_) <;> have hp := True.intro)) <;> simp only [hp, hc, e, e1', h1.1, e2, w1, nl, hB0, go_sem])
  refine loop_go (fun p : Nat × Cur × Box => [(5, .int .i64 (p.1 : Int))]) (fun p => [(0, ⟨.box, 3, [p.2.1.enc]⟩), (2, ⟨.box, 7, [.agg [.str p.2.2.Name, .int .i64 p.2.2.Valid, .int .i64 p.2.2.Next, .int .i64 p.2.2.Mod, .own 3, .own 4, .int .i64 p.2.2.Horizon]]⟩), (3, ⟨.arr, 4, p.2.2.Mails.map Mail.enc⟩), (4, ⟨.arr, 2, p.2.2.Tombs.map Tomb.enc⟩)]) (fun p => 18 - p.1) (fun p => p.1 ≤ 17 ∧ curI p.2.1 ∧ boxOk p.2.2 = true ∧ boxL (18 - p.1) p.1 p.2.1 p.2.2 = (RB, RC)) (0, c2, B0) ⟨by omega, h2.1, kB0, hR⟩ rfl rfl ?_
  rintro ⟨i, d, b⟩ ⟨hi, hd, hb, he⟩ ih
  simp only at hi hd hb he ih
  have bl := box_le hb
  have nb := numsOk_next (boxOk_parts hb).1
  have g0 := belO_in (n := 16) hd
  obtain ⟨⟨v0, d0⟩, e0⟩ : ∃ x, belO d 16 = x := ⟨_, rfl⟩
  rw [e0] at g0
  simp only at g0
  have gv := g0.2.2 (by decide)
  have w0 : IntKind.i64.wrap (2 + v0) = 2 + v0 := wrap64 (by omega) (by omega)
  rw [show 18 - i = (18 - (i + 1)) + 1 by omega, boxL, e0] at he
  simp only at he
  by_cases gi : (i : Int) < 2 + v0
  · rw [if_pos gi] at he
    have g5 : IntKind.i64.wrap ((i : Int) + 1) = ((i + 1 : Nat) : Int) := wrap_succ (n := 100) (by omega) (by omega)
    have k1 := belO_in (n := 6) g0.1
    obtain ⟨⟨k, d1⟩, e6⟩ : ∃ x, belO d0 6 = x := ⟨_, rfl⟩
    rw [e6] at k1
    simp only at k1
    have kv := k1.2.2 (by decide)
    have hk : k = 0 ∨ k = 1 ∨ k = 2 ∨ k = 3 ∨ k = 4 ∨ k = 5 := by omega
    rcases hk with rfl | rfl | rfl | rfl | rfl | rfl
    · have j1 := belO_in (n := 32) k1.1
      obtain ⟨⟨f, d2⟩, a1⟩ : ∃ x, belO d1 32 = x := ⟨_, rfl⟩
      rw [a1] at j1
      simp only at j1
      have j2 := mailO_len j1.1
      obtain ⟨⟨t, d3⟩, a2⟩ : ∃ x, mailO d2 = x := ⟨_, rfl⟩
      rw [a2] at j2
      simp only at j2
      have hst : boxStep d0 b = (addMail b f t, d3) := by simp only [boxStep, boxA, e6, a1, a2, Int.reduceLE, if_true]
      have tl : t.length ≤ 4194304 := by omega
      have ih' := ih (i + 1, d3, addMail b f t) ⟨by omega, j2.2, addMail_ok hb, by rw [hst] at he; exact he⟩ (by simp only; omega)
      simp only at ih'
      simp only [hd, e0, g0.1, gi, w0, g5, e6, k1.1, a1, j1.1, a2, bl, tl, go_sem]
      repeat' ((first | ((first | apply qa | apply qb | apply qc | apply qd | apply qe | apply qf | apply qg | apply qh | apply qi | apply qj | apply qk) <;> intro hp) | ((first | refine ql rfl rfl (by decide +kernel) ?_ | refine qm _ rfl rfl (by decide +kernel) ?_) <;> have hp := True.intro)) <;> simp only [hp, hd, e0, g0.1, gi, w0, g5, e6, k1.1, a1, j1.1, a2, bl, tl, go_sem])
      all_goals exact ih'
    · have j1 := belO_in (n := 32) k1.1
      obtain ⟨⟨f, d2⟩, a1⟩ : ∃ x, belO d1 32 = x := ⟨_, rfl⟩
      rw [a1] at j1
      simp only at j1
      have j2 := mailO_len j1.1
      obtain ⟨⟨t, d3⟩, a2⟩ : ∃ x, mailO d2 = x := ⟨_, rfl⟩
      rw [a2] at j2
      simp only at j2
      have hst : boxStep d0 b = (addMail b f t, d3) := by simp only [boxStep, boxA, e6, a1, a2, Int.reduceLE, if_true]
      have tl : t.length ≤ 4194304 := by omega
      have ih' := ih (i + 1, d3, addMail b f t) ⟨by omega, j2.2, addMail_ok hb, by rw [hst] at he; exact he⟩ (by simp only; omega)
      simp only at ih'
      simp only [hd, e0, g0.1, gi, w0, g5, e6, k1.1, a1, j1.1, a2, bl, tl, go_sem]
      repeat' ((first | ((first | apply qa | apply qb | apply qc | apply qd | apply qe | apply qf | apply qg | apply qh | apply qi | apply qj | apply qk) <;> intro hp) | ((first | refine ql rfl rfl (by decide +kernel) ?_ | refine qm _ rfl rfl (by decide +kernel) ?_) <;> have hp := True.intro)) <;> simp only [hp, hd, e0, g0.1, gi, w0, g5, e6, k1.1, a1, j1.1, a2, bl, tl, go_sem])
      all_goals exact ih'
    · have j1 := belO_in (n := 32) k1.1
      obtain ⟨⟨f, d2⟩, a1⟩ : ∃ x, belO d1 32 = x := ⟨_, rfl⟩
      rw [a1] at j1
      simp only at j1
      have j2 := mailO_len j1.1
      obtain ⟨⟨t, d3⟩, a2⟩ : ∃ x, mailO d2 = x := ⟨_, rfl⟩
      rw [a2] at j2
      simp only at j2
      have hst : boxStep d0 b = (addMail b f t, d3) := by simp only [boxStep, boxA, e6, a1, a2, Int.reduceLE, if_true]
      have tl : t.length ≤ 4194304 := by omega
      have ih' := ih (i + 1, d3, addMail b f t) ⟨by omega, j2.2, addMail_ok hb, by rw [hst] at he; exact he⟩ (by simp only; omega)
      simp only at ih'
      simp only [hd, e0, g0.1, gi, w0, g5, e6, k1.1, a1, j1.1, a2, bl, tl, go_sem]
      repeat' ((first | ((first | apply qa | apply qb | apply qc | apply qd | apply qe | apply qf | apply qg | apply qh | apply qi | apply qj | apply qk) <;> intro hp) | ((first | refine ql rfl rfl (by decide +kernel) ?_ | refine qm _ rfl rfl (by decide +kernel) ?_) <;> have hp := True.intro)) <;> simp only [hp, hd, e0, g0.1, gi, w0, g5, e6, k1.1, a1, j1.1, a2, bl, tl, go_sem])
      all_goals exact ih'
    · have j1 := drawO_in k1.1
      obtain ⟨⟨s, d2⟩, a1⟩ : ∃ x, drawO d1 = x := ⟨_, rfl⟩
      rw [a1] at j1
      simp only at j1
      have j2 := belO_in (n := 3) j1.2
      obtain ⟨⟨h, d3⟩, a2⟩ : ∃ x, belO d2 3 = x := ⟨_, rfl⟩
      rw [a2] at j2
      simp only at j2
      have hv3 := j2.2.2 (by decide)
      have j3 := belO_in (n := 32) j2.1
      obtain ⟨⟨f, d4⟩, a3⟩ : ∃ x, belO d3 32 = x := ⟨_, rfl⟩
      rw [a3] at j3
      simp only at j3
      have w3 : IntKind.i64.wrap (1 + h) = 1 + h := wrap64 (by omega) (by omega)
      have hst : boxStep d0 b = (setFlags b s (1 + h) f (-1), d4) := by
        simp only [boxStep, boxB, e6, a1, a2, a3]
        rfl
      have sl : s.length ≤ 4194304 := by omega
      have ih' := ih (i + 1, d4, setFlags b s (1 + h) f (-1)) ⟨by omega, j3.1, setFlags_ok hb, by rw [hst] at he; exact he⟩ (by simp only; omega)
      simp only at ih'
      simp only [hd, e0, g0.1, gi, w0, g5, e6, k1.1, a1, j1.2, a2, j2.1, a3, w3, bl, sl, go_sem]
      repeat' ((first | ((first | apply qa | apply qb | apply qc | apply qd | apply qe | apply qf | apply qg | apply qh | apply qi | apply qj | apply qk) <;> intro hp) | ((first | refine ql rfl rfl (by decide +kernel) ?_ | refine qm _ rfl rfl (by decide +kernel) ?_) <;> have hp := True.intro)) <;> simp only [hp, hd, e0, g0.1, gi, w0, g5, e6, k1.1, a1, j1.2, a2, j2.1, a3, w3, bl, sl, go_sem])
      all_goals exact ih'
    · have j1 := drawO_in k1.1
      obtain ⟨⟨s, d2⟩, a1⟩ : ∃ x, drawO d1 = x := ⟨_, rfl⟩
      rw [a1] at j1
      simp only at j1
      have hst : boxStep d0 b = (expunge b s, d2) := by
        simp only [boxStep, boxC, e6, a1]
        rfl
      have sl : s.length ≤ 4194304 := by omega
      have ih' := ih (i + 1, d2, expunge b s) ⟨by omega, j1.2, expunge_ok hb, by rw [hst] at he; exact he⟩ (by simp only; omega)
      simp only at ih'
      simp only [hd, e0, g0.1, gi, w0, g5, e6, k1.1, a1, j1.2, bl, sl, go_sem]
      repeat' ((first | ((first | apply qa | apply qb | apply qc | apply qd | apply qe | apply qf | apply qg | apply qh | apply qi | apply qj | apply qk) <;> intro hp) | ((first | refine ql rfl rfl (by decide +kernel) ?_ | refine qm _ rfl rfl (by decide +kernel) ?_) <;> have hp := True.intro)) <;> simp only [hp, hd, e0, g0.1, gi, w0, g5, e6, k1.1, a1, j1.2, bl, sl, go_sem])
      all_goals exact ih'
    · have j1 := belO_in (n := 3) k1.1
      obtain ⟨⟨o, d2⟩, a1⟩ : ∃ x, belO d1 3 = x := ⟨_, rfl⟩
      rw [a1] at j1
      simp only at j1
      cases ho : (o == 0) with
      | true =>
        have w4 : IntKind.i64.wrap (b.Mod + 1) = b.Mod + 1 := wrap64 (by omega) (by omega)
        have j2 := belO_in (n := b.Mod + 1) j1.1
        obtain ⟨⟨u, d3⟩, a2⟩ : ∃ x, belO d2 (b.Mod + 1) = x := ⟨_, rfl⟩
        rw [a2] at j2
        simp only at j2
        have hst : boxStep d0 b = (forgetTombs b u, d3) := by
          simp only [boxStep, boxD, e6, a1, ho, a2]
          rfl
        have ih' := ih (i + 1, d3, forgetTombs b u) ⟨by omega, j2.1, forgetTombs_ok hb, by rw [hst] at he; exact he⟩ (by simp only; omega)
        simp only at ih'
        simp only [hd, e0, g0.1, gi, w0, g5, e6, k1.1, a1, j1.1, ho, a2, w4, bl, go_sem]
        repeat' ((first | ((first | apply qa | apply qb | apply qc | apply qd | apply qe | apply qf | apply qg | apply qh | apply qi | apply qj | apply qk) <;> intro hp) | ((first | refine ql rfl rfl (by decide +kernel) ?_ | refine qm _ rfl rfl (by decide +kernel) ?_) <;> have hp := True.intro)) <;> simp only [hp, hd, e0, g0.1, gi, w0, g5, e6, k1.1, a1, j1.1, ho, a2, w4, bl, go_sem])
        all_goals exact ih'
      | false =>
        have hst : boxStep d0 b = (b, d2) := by
          simp only [boxStep, boxD, e6, a1, ho]
          rfl
        have ih' := ih (i + 1, d2, b) ⟨by omega, j1.1, hb, by rw [hst] at he; exact he⟩ (by simp only; omega)
        simp only at ih'
        simp only [hd, e0, g0.1, gi, w0, g5, e6, k1.1, a1, j1.1, ho, bl, go_sem]
        repeat' ((first | ((first | apply qa | apply qb | apply qc | apply qd | apply qe | apply qf | apply qg | apply qh | apply qi | apply qj | apply qk) <;> intro hp) | ((first | refine ql rfl rfl (by decide +kernel) ?_ | refine qm _ rfl rfl (by decide +kernel) ?_) <;> have hp := True.intro)) <;> simp only [hp, hd, e0, g0.1, gi, w0, g5, e6, k1.1, a1, j1.1, ho, bl, go_sem])
        all_goals exact ih'
  · rw [if_neg gi] at he
    simp only [Prod.mk.injEq] at he
    obtain ⟨rfl, rfl⟩ := he
    simp only [hd, e0, g0.1, gi, w0, go_sem]
    repeat' ((first | ((first | apply qa | apply qb | apply qc | apply qd | apply qe | apply qf | apply qg | apply qh | apply qi | apply qj | apply qk) <;> intro hp) | ((first | refine ql rfl rfl (by decide +kernel) ?_ | refine qm _ rfl rfl (by decide +kernel) ?_) <;> have hp := True.intro)) <;> simp only [hp, hd, e0, g0.1, gi, w0, go_sem])
    simp only [fin_mk, finV, resL, resV1, resIn, endA, listIn, Option.some_or, Option.none_or, oneOrTup, go_sem]
    rw [← hr]
    first | rfl | (simp only [e]; rfl)
open Classical in
noncomputable def spDrawBox : VM.Spec := { modes := [.rd], run := fun | [.lst 1 code'] => (decL dU8 code').bind fun code => if code.length ≤ 4194304 then some (Box.enc ((box8 (cur0 code)).1), []) else none | _ => none, need := [] }
attribute [go_sem] spDrawBox
theorem spDrawBox_in {ins : List V} {r : V} {outs : List V} (h : spDrawBox.run ins = some (r, outs)) : ∃ (code : (List Int)), ins = [.lst 1 ((code).map eU8)] ∧ (code.length ≤ 4194304) ∧ Box.enc ((box8 (cur0 code)).1) = r ∧ outs = [] := by
  unfold spDrawBox at h
  simp only at h
  split at h
  · rename_i code'
    simp only [Option.bind_eq_some_iff] at h
    obtain ⟨code, h_code, h⟩ := h
    split at h
    case isFalse => cases h
    rename_i hc
    simp only [Option.some.injEq, Prod.mk.injEq] at h
    obtain ⟨h1, h2⟩ := h
    have h_code := decL_some (fun _ _ h => dU8_some h) h_code
    subst h_code
    exact ⟨code, rfl, hc, h1, h2.symm⟩
  · cases h
def T_spec_DrawBox : Hints := ⟨lk [], lk [], lk [(0, [0, 2]), (1, [2])], lk [], lf []⟩
noncomputable def Phi_spec_DrawBox : Tab := lk [(45, spNew), (44, spBox8)]
attribute [go_sem] T_spec_DrawBox Phi_spec_DrawBox
theorem phi_spec_DrawBox : ∀ f sp, Phi_spec_DrawBox f = some sp → FnOk Tryz.prog f sp ∧ ∀ n ∈ sp.need, n ∈ ([] : List String) := phi_cons ok_spec_l01New (n0 rfl) (phi_cons ok_spec_l08Box (n0 rfl) (phi_nil))
theorem ok_spec_DrawBox : FnOk Tryz.prog 19 spDrawBox := by
  refine fn_ok (Φ := Phi_spec_DrawBox) (T := T_spec_DrawBox) phi_spec_DrawBox mixed Tryz.func19 rfl rfl rfl (by decide) ?_
  intro ins r outs hr hl
  clear hl
  have hs := spDrawBox_in hr
  clear hr
  obtain ⟨code, rfl, hc, hr, rfl⟩ := hs
  simp only [spDrawBox, Tryz.f19, Go.VM.initS]
  have i0 := cur0_in hc
  simp only [hc, i0, go_sem]
  repeat' ((first | apply qa | apply qb | apply qc | apply qd | apply qe | apply qf | apply qg | apply qh | apply qi | apply qj | apply qk) <;> intro hp <;> simp only [hp, hc, i0, go_sem])
  simp only [fin_mk, finV, resL, resV1, resIn, endA, listIn, Option.some_or, Option.none_or, oneOrTup, go_sem]
  rw [← hr]
  first | rfl | skip
end Go.Proofs.YtghmjnggmacohaaGreatDoor.L

namespace Go.Proofs.YtghmjnggmacohaaGreatDoor.L
open Go Go.VM
set_option maxRecDepth 100000
set_option maxHeartbeats 4000000
set_option linter.unusedSimpArgs false
set_option linter.unusedVariables false
def seensL : Nat → Nat → Cur → List Seen → List Seen × Cur
  | 0, _, c, a => (a, c)
  | f + 1, i, c, a => if (i : Int) < (belO c 7).1 then seensL f (i + 1) (belO (belO (belO c 7).2 32).2 9).2 (a ++ [⟨((i + 1 : Nat) : Int), (belO (belO c 7).2 32).1, 1 + (belO (belO (belO c 7).2 32).2 9).1⟩]) else (a, (belO c 7).2)
open Classical in
noncomputable def spSeens : VM.Spec := { modes := [.ptr], run := fun | [.rptr (c')] => (Cur.dec c').bind fun c => if curI c then some (.lst 3 (((seensL 8 0 c []).1).map Seen.enc), [.rptr (Cur.enc ((seensL 8 0 c []).2))]) else none | _ => none, need := [] }
attribute [go_sem] spSeens
end Go.Proofs.YtghmjnggmacohaaGreatDoor.L

namespace Go.Proofs.YtghmjnggmacohaaGreatDoor.L
open Go Go.VM
set_option maxRecDepth 100000
set_option maxHeartbeats 4000000
set_option linter.unusedSimpArgs false
set_option linter.unusedVariables false
def lineD (c : Cur) : Line × Cur :=
  let k := belO c 9
  if k.1 = 0 ∨ k.1 = 1 ∨ k.1 = 7 then (⟨1 + k.1, 1 + (belO k.2 9).1, 0, 0, 0, [], false⟩, (belO k.2 9).2) else
  if k.1 = 2 then (⟨3, 1 + (belO k.2 5).1, 1 + (belO (belO k.2 5).2 20).1, (belO (belO (belO k.2 5).2 20).2 32).1, 1 + (belO (belO (belO (belO k.2 5).2 20).2 32).2 30).1, [], false⟩, (belO (belO (belO (belO k.2 5).2 20).2 32).2 30).2) else
  if k.1 = 4 then (⟨5, 1 + (belO k.2 5).1, 0, 0, 1 + (belO (belO k.2 5).2 30).1, [], (belO (belO (belO k.2 5).2 30).2 2).1 == 0⟩, (belO (belO (belO k.2 5).2 30).2 2).2) else
  if k.1 = 5 then (⟨6, 0, 0, 0, 0, (drawO k.2).1, false⟩, (drawO k.2).2) else
  if k.1 = 3 then (⟨4, 0, 0, 0, 0, setAdd (drawO k.2).1 3 4, false⟩, (drawO k.2).2) else
  (⟨1 + k.1, 0, 0, 0, 0, [], false⟩, k.2)
open Classical in
noncomputable def spLineD : VM.Spec := { modes := [.ptr], run := fun | [.rptr (c')] => (Cur.dec c').bind fun c => if curI c then some (Line.enc ((lineD c).1), [.rptr (Cur.enc ((lineD c).2))]) else none | _ => none, need := [] }
attribute [go_sem] spLineD
end Go.Proofs.YtghmjnggmacohaaGreatDoor.L

namespace Go.Proofs.YtghmjnggmacohaaGreatDoor.L
open Go Go.VM
set_option maxRecDepth 100000
set_option maxHeartbeats 4000000
set_option linter.unusedSimpArgs false
set_option linter.unusedVariables false
def fillL : Nat → Nat → Cur → List Range → List Range × Cur
  | 0, _, c, s => (s, c)
  | f + 1, i, c, s => if (s.length : Int) < 40 + (belO c 2).1 then fillL f (i + 1) (belO c 2).2 (s ++ [⟨100 + 3 * (i : Int), 101 + 3 * (i : Int)⟩]) else (s, (belO c 2).2)
theorem fillL_in : ∀ (f i : Nat) {c : Cur} {s : List Range}, curI c → s.length ≤ 41 → (fillL f i c s).1.length ≤ 41 ∧ curI (fillL f i c s).2
  | 0, i, c, s, hc, hs => ⟨hs, hc⟩
  | f + 1, i, c, s, hc, hs => by
    have h1 := belO_in (n := 2) hc
    have h2 := h1.2.2 (by decide)
    rw [fillL]
    split
    · exact fillL_in f (i + 1) h1.1 (by simp; omega)
    · exact ⟨hs, h1.1⟩
def anyS (c : Cur) : List Range × Cur :=
  let d := drawO c
  let k := belO d.2 10
  if k.1 = 0 then (d.1 ++ [⟨(pickI k.2 [0, 5, 9998]).1, (pickI (pickI k.2 [0, 5, 9998]).2 [4, 9999, 10000]).1⟩], (pickI (pickI k.2 [0, 5, 9998]).2 [4, 9999, 10000]).2) else
  if k.1 = 1 then (⟨1, 1⟩ :: d.1, k.2) else
  if k.1 = 2 then fillL 42 0 k.2 d.1 else (d.1, k.2)
theorem anyS_in {c : Cur} (h : curI c) : (anyS c).1.length ≤ 41 ∧ curI (anyS c).2 := by
  have h1 := drawO_in h
  have h2 := belO_in (n := 10) h1.2
  have h3 := pickI_in (l := [0, 5, 9998]) h2.1 (by decide)
  have h4 := pickI_in (l := [4, 9999, 10000]) h3.1 (by decide)
  unfold anyS
  simp only
  split
  · exact ⟨by simp; omega, h4.1⟩
  · split
    · exact ⟨by simp; omega, h2.1⟩
    · split
      · exact fillL_in _ _ h2.1 (by omega)
      · exact ⟨by simp only; omega, h2.1⟩
open Classical in
noncomputable def spAnyS : VM.Spec := { modes := [.ptr], run := fun | [.rptr (c')] => (Cur.dec c').bind fun c => if curI c then some (.lst 2 (((anyS c).1).map Range.enc), [.rptr (Cur.enc ((anyS c).2))]) else none | _ => none, need := [] }
attribute [go_sem] spAnyS
theorem spAnyS_in {ins : List V} {r : V} {outs : List V} (h : spAnyS.run ins = some (r, outs)) : ∃ (c : Cur), ins = [.rptr (Cur.enc c)] ∧ (curI c) ∧ .lst 2 (((anyS c).1).map Range.enc) = r ∧ outs = [.rptr (Cur.enc ((anyS c).2))] := by
  unfold spAnyS at h
  simp only at h
  split at h
  · rename_i c'
    simp only [Option.bind_eq_some_iff] at h
    obtain ⟨c, h_c, h⟩ := h
    split at h
    case isFalse => cases h
    rename_i hc
    simp only [Option.some.injEq, Prod.mk.injEq] at h
    obtain ⟨h1, h2⟩ := h
    have h_c := Cur.dec_some h_c
    subst h_c
    exact ⟨c, rfl, hc, h1, h2.symm⟩
  · cases h
def T_spec_l05Any : Hints := ⟨lk [], lk [(9, [0, 3, 4])], lk [(0, [0]), (1, [0, 3]), (2, [0, 3, 10]), (3, [0, 3, 10, 11]), (4, [3]), (5, [0, 3, 10, 23]), (6, [3]), (7, [0, 3, 29]), (8, [0, 3, 4]), (9, [0, 3, 4, 36]), (11, [0, 3, 4]), (10, [0, 3, 4]), (12, [2])], lk [], lf []⟩
noncomputable def Phi_spec_l05Any : Tab := lk [(74, spDraw), (70, spBelow), (77, spPickI)]
attribute [go_sem] T_spec_l05Any Phi_spec_l05Any
theorem phi_spec_l05Any : ∀ f sp, Phi_spec_l05Any f = some sp → FnOk Tryz.prog f sp ∧ ∀ n ∈ sp.need, n ∈ ([] : List String) := phi_cons ok_spec_l05Draw (n0 rfl) (phi_cons ok_spec_l01Below (n0 rfl) (phi_cons ok_spec_l01PickInt (n0 rfl) (phi_nil)))
theorem ok_spec_l05Any : FnOk Tryz.prog 46 spAnyS := by
  refine fn_ok (Φ := Phi_spec_l05Any) (T := T_spec_l05Any) phi_spec_l05Any mixed Tryz.func46 rfl rfl rfl (by decide) ?_
  intro ins r outs hr hl
  clear hl
  have hs := spAnyS_in hr
  clear hr
  obtain ⟨c, rfl, hc, hr, rfl⟩ := hs
  simp only [spAnyS, Tryz.f46, Go.VM.initS]
  have h1 := drawO_in hc
  obtain ⟨⟨S, d⟩, eS⟩ : ∃ x, drawO c = x := ⟨_, rfl⟩
  rw [eS] at h1
  have h2 := belO_in (n := 10) h1.2
  obtain ⟨⟨v, k⟩, ev⟩ : ∃ x, belO d 10 = x := ⟨_, rfl⟩
  simp only at h1 h2
  rw [ev] at h2
  have h3 := pickI_in (l := [0, 5, 9998]) h2.1 (by decide)
  obtain ⟨⟨x, k2⟩, ex⟩ : ∃ x, pickI k [0, 5, 9998] = x := ⟨_, rfl⟩
  simp only at h2 h3
  rw [ex] at h3
  have h4 := pickI_in (l := [4, 9999, 10000]) h3.1 (by decide)
  obtain ⟨⟨y, k3⟩, ey⟩ : ∃ x, pickI k2 [4, 9999, 10000] = x := ⟨_, rfl⟩
  simp only at h3 h4
  rw [ey] at h4
  simp only at h4
  have q1 : S.length + 1 ≤ 9223372036854775807 := by omega
  have q2 : (S.length + 1) * 16 ≤ 140737488355328 := by omega
  have q3 : S.length * 16 ≤ 140737488355328 := by omega
  have q4 : S.length ≤ 9223372036854775806 := by omega
  have q6 : (1 + S.length) * 16 ≤ 140737488355328 := by omega
  have q7 : 1 + S.length ≤ 9223372036854775807 := by omega
  have q5 : S.length ≤ 9223372036854775807 := by omega
  by_cases k0 : v = 0
  · subst k0
    have e : anyS c = (S ++ [⟨x, y⟩], k3) := by simp [anyS, eS, ev, ex, ey]
    rw [e] at hr
    simp only [hc, eS, ev, ex, ey, h1.2, h2.1, h3.1, h4.1, q1, q2, q3, q4, q5, q6, q7, go_sem]
    repeat' ((first | apply qa | apply qb | apply qc | apply qd | apply qe | apply qf | apply qg | apply qh | apply qi | apply qj | apply qk) <;> intro hp <;> simp only [hp, hc, eS, ev, ex, ey, h1.2, h2.1, h3.1, h4.1, q1, q2, q3, q4, q5, q6, q7, go_sem])
    simp only [fin_mk, finV, resL, resV1, resIn, endA, listIn, Option.some_or, Option.none_or, oneOrTup, go_sem]
    rw [← hr]
    first | rfl | (simp only [e, List.map_append]; rfl) | simp only [e, List.map_append]
  · by_cases k1 : v = 1
    · subst k1
      have e : anyS c = (⟨1, 1⟩ :: S, k) := by simp [anyS, eS, ev]
      rw [e] at hr
      simp only [hc, eS, ev, h1.2, h2.1, q1, q2, q3, q4, q5, q6, q7, go_sem]
      repeat' ((first | apply qa | apply qb | apply qc | apply qd | apply qe | apply qf | apply qg | apply qh | apply qi | apply qj | apply qk) <;> intro hp <;> simp only [hp, hc, eS, ev, h1.2, h2.1, q1, q2, q3, q4, q5, q6, q7, go_sem])
      simp only [fin_mk, finV, resL, resV1, resIn, endA, listIn, Option.some_or, Option.none_or, oneOrTup, go_sem]
      rw [← hr]
      first | rfl | (simp only [e]; rfl) | simp only [e]
    · have n0 : (v == 0) = false := beq_eq_false_iff_ne.2 k0
      have n1 : (v == 1) = false := beq_eq_false_iff_ne.2 k1
      by_cases k2' : v = 2
      · subst k2'
        obtain ⟨⟨RS, RC⟩, hR⟩ : ∃ R, fillL 42 0 k S = R := ⟨_, rfl⟩
        have e : anyS c = (RS, RC) := by simp [anyS, eS, ev, hR]
        rw [e] at hr
        have n2 : ((2 : Int) == 0) = false := by decide
        have n3 : ((2 : Int) == 1) = false := by decide
        simp only [hc, e, eS, ev, h1.2, h2.1, n2, n3, q1, q2, q3, q4, q5, q6, q7, go_sem]
        repeat' ((first | apply qa | apply qb | apply qc | apply qd | apply qe | apply qf | apply qg | apply qh | apply qi | apply qj | apply qk) <;> intro hp <;> simp only [hp, hc, e, eS, ev, h1.2, h2.1, n2, n3, q1, q2, q3, q4, q5, q6, q7, go_sem])
        refine loop_go (fun p : Nat × Cur × List Range => [(4, .int .i64 (p.1 : Int))]) (fun p => [(0, ⟨.box, 3, [p.2.1.enc]⟩), (1, ⟨.arr, 2, p.2.2.map Range.enc⟩)]) (fun p => 42 - p.1) (fun p => p.1 ≤ 41 ∧ curI p.2.1 ∧ p.2.2.length = S.length + p.1 ∧ p.2.2.length ≤ 41 ∧ fillL (42 - p.1) p.1 p.2.1 p.2.2 = (RS, RC)) (0, k, S) ⟨by omega, h2.1, rfl, by simp only; omega, hR⟩ rfl rfl ?_
        rintro ⟨i, d', a⟩ ⟨hi, hd, hl, hl2, he⟩ ih
        simp only at hi hd hl hl2 he ih
        have g1 := belO_in (n := 2) hd
        have gv := g1.2.2 (by decide)
        rw [show 42 - i = (42 - (i + 1)) + 1 by omega, fillL] at he
        obtain ⟨⟨v1, c1⟩, e1⟩ : ∃ x, belO d' 2 = x := ⟨_, rfl⟩
        rw [e1] at g1 gv he
        simp only at g1 gv he
        have w0 : IntKind.i64.wrap (40 + v1) = 40 + v1 := wrap64 (by omega) (by omega)
        by_cases g : (a.length : Int) < 40 + v1
        · rw [if_pos g] at he
          have ih' := ih (i + 1, c1, _) ⟨by omega, g1.1, by simp; omega, by simp; omega, he⟩ (by simp only; omega)
          simp only [List.map_append, List.map_cons, List.map_nil] at ih'
          have g5 : IntKind.i64.wrap ((i : Int) + 1) = ((i + 1 : Nat) : Int) := wrap_succ (n := 100) (by omega) (by omega)
          have w1 : IntKind.i64.wrap (3 * (i : Int)) = 3 * (i : Int) := wrap64 (by omega) (by omega)
          have w2 : IntKind.i64.wrap (100 + 3 * (i : Int)) = 100 + 3 * (i : Int) := wrap64 (by omega) (by omega)
          have w3 : IntKind.i64.wrap (101 + 3 * (i : Int)) = 101 + 3 * (i : Int) := wrap64 (by omega) (by omega)
          have r1 : (a.length + 1) * 16 ≤ 140737488355328 := by omega
          have r2 : a.length ≤ 9223372036854775806 := by omega
          simp only [hd, g1.1, e1, g, g5, w0, w1, w2, w3, r1, r2, go_sem]
          repeat' ((first | apply qa | apply qb | apply qc | apply qd | apply qe | apply qf | apply qg | apply qh | apply qi | apply qj | apply qk) <;> intro hp <;> simp only [hp, hd, g1.1, e1, g, g5, w0, w1, w2, w3, r1, r2, go_sem])
          all_goals first | exact ih' | (clear ih'; omega)
        · rw [if_neg g] at he
          simp only [Prod.mk.injEq] at he
          obtain ⟨rfl, rfl⟩ := he
          simp only [hd, e1, g, w0, go_sem]
          repeat' ((first | apply qa | apply qb | apply qc | apply qd | apply qe | apply qf | apply qg | apply qh | apply qi | apply qj | apply qk) <;> intro hp <;> simp only [hp, hd, e1, g, w0, go_sem])
          simp only [fin_mk, finV, resL, resV1, resIn, endA, listIn, Option.some_or, Option.none_or, oneOrTup, go_sem]
          rw [← hr]
      · have n2 : (v == 2) = false := beq_eq_false_iff_ne.2 k2'
        have e : anyS c = (S, k) := by simp [anyS, eS, ev, k0, k1, k2']
        rw [e] at hr
        simp only [hc, eS, ev, h1.2, h2.1, n0, n1, n2, q1, q2, q3, q4, q5, q6, q7, go_sem]
        repeat' ((first | apply qa | apply qb | apply qc | apply qd | apply qe | apply qf | apply qg | apply qh | apply qi | apply qj | apply qk) <;> intro hp <;> simp only [hp, hc, eS, ev, h1.2, h2.1, n0, n1, n2, q1, q2, q3, q4, q5, q6, q7, go_sem])
        simp only [fin_mk, finV, resL, resV1, resIn, endA, listIn, Option.some_or, Option.none_or, oneOrTup, go_sem]
        rw [← hr]
        first | rfl | (simp only [e]; rfl) | simp only [e]
end Go.Proofs.YtghmjnggmacohaaGreatDoor.L

namespace Go.Proofs.YtghmjnggmacohaaGreatDoor.L
open Go Go.VM
set_option maxRecDepth 100000
set_option maxHeartbeats 4000000
set_option linter.unusedSimpArgs false
set_option linter.unusedVariables false
def anyN (x : Int) : List UInt8 := if x.tmod 3 = 0 then [] else if x.tmod 3 = 1 then [65] else [116, 111, 111, 108, 111, 110, 103, 110, 97, 109, 101]
def anyM (x : Int) : Int := if x.tmod 4 = 0 then 0 else if x.tmod 4 = 1 then 1 else if x.tmod 4 = 2 then 100000 else 100001
def setU (l : List Mail) (i : Nat) (u : Int) : List Mail := l.modify i fun m => ⟨u, m.Flags, m.Mod, m.Text⟩
def anyK (c : Cur) : Int × Cur := belO c 16
def anyX (c : Cur) : Int × Cur := belO (anyK c).2 60
def anyBx (c : Cur) : Box × Cur := box8 (anyX c).2
def chgB (k x : Int) (b : Box) : Box :=
  if k = 0 then ⟨anyN x, b.Valid, b.Next, b.Mod, b.Mails, b.Tombs, b.Horizon⟩
  else if k = 1 then ⟨b.Name, b.Valid, x.tmod 9, b.Mod, b.Mails, b.Tombs, b.Horizon⟩
  else if k = 2 then ⟨b.Name, b.Valid, b.Next, anyM x, b.Mails, b.Tombs, b.Horizon⟩
  else if k = 3 then (if 0 < b.Mails.length then ⟨b.Name, b.Valid, b.Next, b.Mod, setU b.Mails (x.tmod b.Mails.length).toNat (x.tmod 12), b.Tombs, b.Horizon⟩ else b)
  else if k = 4 then ⟨b.Name, b.Valid, b.Next, b.Mod, b.Mails, b.Tombs ++ [⟨x.tmod 12, x.tmod 20⟩], b.Horizon⟩
  else if k = 5 then ⟨b.Name, b.Valid, b.Next, b.Mod, b.Mails, b.Tombs, x.tmod 20⟩
  else if k = 6 then ⟨b.Name, b.Valid, 9999 - x.tmod 2, b.Mod, b.Mails, b.Tombs, b.Horizon⟩
  else b
def anyB (c : Cur) : Box × Cur := (chgB (anyK c).1 (anyX c).1 (anyBx c).1, (anyBx c).2)
theorem anyN_len (x : Int) : (anyN x).length ≤ 11 := by
  unfold anyN
  split
  · decide
  split
  · decide
  · decide
theorem setU_mem {l : List Mail} {i : Nat} {u : Int} {m : Mail} (h : m ∈ setU l i u) : ∃ m' ∈ l, m.Text = m'.Text := by
  unfold setU at h
  obtain ⟨j, hj, rfl⟩ := List.mem_iff_getElem.1 h
  have hj' : j < l.length := by rw [List.length_modify] at hj; exact hj
  refine ⟨l[j], List.getElem_mem hj', ?_⟩
  rw [List.getElem_modify]
  split <;> rfl
theorem chgB_mails {k x : Int} {b : Box} : (chgB k x b).Mails.length = b.Mails.length ∧ ∀ m ∈ (chgB k x b).Mails, ∃ m' ∈ b.Mails, m.Text = m'.Text := by
  unfold chgB
  repeat' split
  all_goals first
    | exact ⟨rfl, fun m hm => ⟨m, hm, rfl⟩⟩
    | exact ⟨by show (setU _ _ _).length = _; unfold setU; rw [List.length_modify], fun m hm => setU_mem hm⟩
theorem anyB_in {c : Cur} (h : curI c) : (anyB c).1.le 4194304 ∧ curI (anyB c).2 := by
  have h1 := belO_in (n := 16) h
  have h2 := belO_in (n := 60) (c := (anyK c).2) h1.1
  have h3 := box8_in (c := (anyX c).2) h2.1
  have hb : (anyBx c).1.le 4194304 := box_le h3.1
  have hp := (boxOk_parts h3.1)
  refine ⟨?_, h3.2⟩
  obtain ⟨m1, m2⟩ := chgB_mails (k := (anyK c).1) (x := (anyX c).1) (b := (anyBx c).1)
  have hm : leL Mail.le 4194304 (chgB (anyK c).1 (anyX c).1 (anyBx c).1).Mails := by
    refine ⟨by rw [m1]; exact hb.2.1.1, fun m hm => ?_⟩
    obtain ⟨m', h4, h5⟩ := m2 m hm
    have h6 : m'.Text.length ≤ 4194304 := hb.2.1.2 m' h4
    show m.Text.length ≤ 4194304
    rw [h5]; exact h6
  have hn : (chgB (anyK c).1 (anyX c).1 (anyBx c).1).Name.length ≤ 4194304 := by
    have h7 : (anyBx c).1.Name.length ≤ 4194304 := hb.1
    unfold chgB
    repeat' split
    all_goals first | exact h7 | exact Nat.le_trans (anyN_len _) (by decide)
  have ht : leL Tomb.le 4194304 (chgB (anyK c).1 (anyX c).1 (anyBx c).1).Tombs := by
    have h8 : (anyBx c).1.Tombs.length ≤ 40 := hp.2.2.1
    refine ⟨?_, fun _ _ => trivial⟩
    unfold chgB
    repeat' split
    all_goals (try simp only [List.length_append, List.length_singleton])
    all_goals omega
  exact ⟨hn, hm, ht⟩
theorem setU_enc {l : List Mail} {j : Nat} {u : Int} (h : j < l.length) : (setU l j u).map Mail.enc = (l.map Mail.enc).set j (.agg [.int .i64 u, .int .i64 l[j].Flags, .int .i64 l[j].Mod, .str l[j].Text]) := by
  unfold setU
  apply List.ext_getElem
  · simp
  · intro n h1 h2
    simp only [List.getElem_map, List.getElem_modify, List.getElem_set]
    split
    · rename_i e; subst e; rfl
    · rfl
open Classical in
noncomputable def spAnyB : VM.Spec := { modes := [.ptr], run := fun | [.rptr (c')] => (Cur.dec c').bind fun c => if curI c then some (Box.enc ((anyB c).1), [.rptr (Cur.enc ((anyB c).2))]) else none | _ => none, need := [] }
attribute [go_sem] spAnyB
theorem spAnyB_in {ins : List V} {r : V} {outs : List V} (h : spAnyB.run ins = some (r, outs)) : ∃ (c : Cur), ins = [.rptr (Cur.enc c)] ∧ (curI c) ∧ Box.enc ((anyB c).1) = r ∧ outs = [.rptr (Cur.enc ((anyB c).2))] := by
  unfold spAnyB at h
  simp only at h
  split at h
  · rename_i c'
    simp only [Option.bind_eq_some_iff] at h
    obtain ⟨c, h_c, h⟩ := h
    split at h
    case isFalse => cases h
    rename_i hc
    simp only [Option.some.injEq, Prod.mk.injEq] at h
    obtain ⟨h1, h2⟩ := h
    have h_c := Cur.dec_some h_c
    subst h_c
    exact ⟨c, rfl, hc, h1, h2.symm⟩
  · cases h
def T_spec_l08Any : Hints := ⟨lk [(13, [])], lk [], lk [(0, [0, 2]), (1, [0, 2, 3]), (2, [0, 2, 3, 4]), (3, [2, 3, 4, 5]), (4, [2, 4, 5, 13]), (5, [2, 4, 5, 13, 14]), (6, [2, 5]), (7, [2, 4, 5, 13, 22]), (8, [2, 5]), (9, [2, 4, 5, 13, 27]), (10, [2, 5]), (11, [2, 4, 5, 13, 35]), (12, [2, 4, 5, 40]), (13, [2, 5]), (14, [2, 4, 5, 13, 52]), (15, [2, 5]), (16, [2, 4, 5, 13, 64]), (17, [2, 5]), (18, [2, 4, 5, 69]), (19, [2, 5]), (20, [2])], lk [], lf []⟩
noncomputable def Phi_spec_l08Any : Tab := lk [(70, spBelow), (44, spBox8), (78, spCopyBox)]
attribute [go_sem] T_spec_l08Any Phi_spec_l08Any
theorem phi_spec_l08Any : ∀ f sp, Phi_spec_l08Any f = some sp → FnOk Tryz.prog f sp ∧ ∀ n ∈ sp.need, n ∈ ([] : List String) := phi_cons ok_spec_l01Below (n0 rfl) (phi_cons ok_spec_l08Box (n0 rfl) (phi_cons ok_spec_l08Copy (n0 rfl) (phi_nil)))
theorem ok_spec_l08Any : FnOk Tryz.prog 48 spAnyB := by
  refine fn_ok (Φ := Phi_spec_l08Any) (T := T_spec_l08Any) phi_spec_l08Any mixed Tryz.func48 rfl rfl rfl (by decide) ?_
  intro ins r outs hr hl
  clear hl
  have hs := spAnyB_in hr
  clear hr
  obtain ⟨c, rfl, hc, hr, rfl⟩ := hs
  simp only [spAnyB, Tryz.f48, Go.VM.initS]
  have h1 := belO_in (n := 16) hc
  obtain ⟨⟨k, c1⟩, e1⟩ : ∃ x, belO c 16 = x := ⟨_, rfl⟩
  rw [e1] at h1
  simp only at h1
  have h2 := belO_in (n := 60) (c := c1) h1.1
  obtain ⟨⟨x, c2⟩, e2⟩ : ∃ y, belO c1 60 = y := ⟨_, rfl⟩
  rw [e2] at h2
  simp only at h2
  have h3 := box8_in (c := c2) h2.1
  obtain ⟨⟨b, c3⟩, e3⟩ : ∃ y, box8 c2 = y := ⟨_, rfl⟩
  rw [e3] at h3
  simp only at h3
  have hb := box_le h3.1
  have d1 : anyK c = (k, c1) := e1
  have d2 : anyX c = (x, c2) := by rw [anyX, d1]; exact e2
  have d3 : anyBx c = (b, c3) := by rw [anyBx, d2]; exact e3
  have e : anyB c = (chgB k x b, c3) := by rw [anyB, d1, d2, d3]
  rw [e] at hr ⊢
  have hx0 := h2.2.1
  have hx1 := h2.2.2 (by decide)
  have hk0 := h1.2.1
  have hml : b.Mails.length ≤ 30 := (boxOk_parts h3.1).2.1
  have htl : b.Tombs.length ≤ 40 := (boxOk_parts h3.1).2.2.1
  clear e
  have hk' : k = 0 ∨ k = 1 ∨ k = 2 ∨ k = 3 ∨ k = 4 ∨ k = 5 ∨ k = 6 ∨ 7 ≤ k := by omega
  rcases hk' with rfl | rfl | rfl | rfl | rfl | rfl | rfl | hk7
  · have e : chgB 0 x b = ⟨anyN x, b.Valid, b.Next, b.Mod, b.Mails, b.Tombs, b.Horizon⟩ := by simp only [chgB, if_true]
    rw [e] at hr
    have y0 : (0 : Int) < ((3 : Nat) : Int) := by decide
    have y1 : (1 : Int) < ((3 : Nat) : Int) := by decide
    have y2 : (2 : Int) < ((3 : Nat) : Int) := by decide
    have hx3 : x.tmod 3 = 0 ∨ x.tmod 3 = 1 ∨ x.tmod 3 = 2 := by rw [Int.tmod_eq_emod_of_nonneg hx0]; omega
    rcases hx3 with m | m | m
    all_goals (simp only [anyN, m, if_true, Int.reduceEq, if_false] at hr)
    · simp only [hc, e1, h1.1, e2, h2.1, e3, hb, m, y0, y1, y2, go_sem]
      repeat' ((first | ((first | apply qa | apply qb | apply qc | apply qd | apply qe | apply qf | apply qg | apply qh | apply qi | apply qj | apply qk) <;> intro hp) | ((first | refine ql rfl rfl (by decide +kernel) ?_ | refine qm _ rfl rfl (by decide +kernel) ?_) <;> have hp := True.intro)) <;> simp only [hp, hc, e1, h1.1, e2, h2.1, e3, hb, m, y0, y1, y2, go_sem])
      all_goals (simp only [fin_mk, finV, resL, resV1, resIn, endA, listIn, Option.some_or, Option.none_or, oneOrTup, go_sem]; rw [← hr])
      all_goals rfl
    · simp only [hc, e1, h1.1, e2, h2.1, e3, hb, m, y0, y1, y2, go_sem]
      repeat' ((first | ((first | apply qa | apply qb | apply qc | apply qd | apply qe | apply qf | apply qg | apply qh | apply qi | apply qj | apply qk) <;> intro hp) | ((first | refine ql rfl rfl (by decide +kernel) ?_ | refine qm _ rfl rfl (by decide +kernel) ?_) <;> have hp := True.intro)) <;> simp only [hp, hc, e1, h1.1, e2, h2.1, e3, hb, m, y0, y1, y2, go_sem])
      all_goals (simp only [fin_mk, finV, resL, resV1, resIn, endA, listIn, Option.some_or, Option.none_or, oneOrTup, go_sem]; rw [← hr])
      all_goals rfl
    · simp only [hc, e1, h1.1, e2, h2.1, e3, hb, m, y0, y1, y2, go_sem]
      repeat' ((first | ((first | apply qa | apply qb | apply qc | apply qd | apply qe | apply qf | apply qg | apply qh | apply qi | apply qj | apply qk) <;> intro hp) | ((first | refine ql rfl rfl (by decide +kernel) ?_ | refine qm _ rfl rfl (by decide +kernel) ?_) <;> have hp := True.intro)) <;> simp only [hp, hc, e1, h1.1, e2, h2.1, e3, hb, m, y0, y1, y2, go_sem])
      all_goals (simp only [fin_mk, finV, resL, resV1, resIn, endA, listIn, Option.some_or, Option.none_or, oneOrTup, go_sem]; rw [← hr])
      all_goals rfl
  · have e : chgB 1 x b = ⟨b.Name, b.Valid, x.tmod 9, b.Mod, b.Mails, b.Tombs, b.Horizon⟩ := by simp only [chgB, if_true, Int.reduceEq, if_false]
    rw [e] at hr
    simp only [hc, e1, h1.1, e2, h2.1, e3, hb, go_sem]
    repeat' ((first | ((first | apply qa | apply qb | apply qc | apply qd | apply qe | apply qf | apply qg | apply qh | apply qi | apply qj | apply qk) <;> intro hp) | ((first | refine ql rfl rfl (by decide +kernel) ?_ | refine qm _ rfl rfl (by decide +kernel) ?_) <;> have hp := True.intro)) <;> simp only [hp, hc, e1, h1.1, e2, h2.1, e3, hb, go_sem])
    all_goals (simp only [fin_mk, finV, resL, resV1, resIn, endA, listIn, Option.some_or, Option.none_or, oneOrTup, go_sem]; rw [← hr])
    all_goals rfl
  · have e : chgB 2 x b = ⟨b.Name, b.Valid, b.Next, anyM x, b.Mails, b.Tombs, b.Horizon⟩ := by simp only [chgB, if_true, Int.reduceEq, if_false]
    rw [e] at hr
    have y0 : (0 : Int) < ((4 : Nat) : Int) := by decide
    have y1 : (1 : Int) < ((4 : Nat) : Int) := by decide
    have y2 : (2 : Int) < ((4 : Nat) : Int) := by decide
    have y3 : (3 : Int) < ((4 : Nat) : Int) := by decide
    have hx3 : x.tmod 4 = 0 ∨ x.tmod 4 = 1 ∨ x.tmod 4 = 2 ∨ x.tmod 4 = 3 := by rw [Int.tmod_eq_emod_of_nonneg hx0]; omega
    rcases hx3 with m | m | m | m
    all_goals (simp only [anyM, m, if_true, Int.reduceEq, if_false] at hr)
    · simp only [hc, e1, h1.1, e2, h2.1, e3, hb, m, y0, y1, y2, y3, go_sem]
      repeat' ((first | ((first | apply qa | apply qb | apply qc | apply qd | apply qe | apply qf | apply qg | apply qh | apply qi | apply qj | apply qk) <;> intro hp) | ((first | refine ql rfl rfl (by decide +kernel) ?_ | refine qm _ rfl rfl (by decide +kernel) ?_) <;> have hp := True.intro)) <;> simp only [hp, hc, e1, h1.1, e2, h2.1, e3, hb, m, y0, y1, y2, y3, go_sem])
      all_goals (simp only [fin_mk, finV, resL, resV1, resIn, endA, listIn, Option.some_or, Option.none_or, oneOrTup, go_sem]; rw [← hr])
      all_goals rfl
    · simp only [hc, e1, h1.1, e2, h2.1, e3, hb, m, y0, y1, y2, y3, go_sem]
      repeat' ((first | ((first | apply qa | apply qb | apply qc | apply qd | apply qe | apply qf | apply qg | apply qh | apply qi | apply qj | apply qk) <;> intro hp) | ((first | refine ql rfl rfl (by decide +kernel) ?_ | refine qm _ rfl rfl (by decide +kernel) ?_) <;> have hp := True.intro)) <;> simp only [hp, hc, e1, h1.1, e2, h2.1, e3, hb, m, y0, y1, y2, y3, go_sem])
      all_goals (simp only [fin_mk, finV, resL, resV1, resIn, endA, listIn, Option.some_or, Option.none_or, oneOrTup, go_sem]; rw [← hr])
      all_goals rfl
    · simp only [hc, e1, h1.1, e2, h2.1, e3, hb, m, y0, y1, y2, y3, go_sem]
      repeat' ((first | ((first | apply qa | apply qb | apply qc | apply qd | apply qe | apply qf | apply qg | apply qh | apply qi | apply qj | apply qk) <;> intro hp) | ((first | refine ql rfl rfl (by decide +kernel) ?_ | refine qm _ rfl rfl (by decide +kernel) ?_) <;> have hp := True.intro)) <;> simp only [hp, hc, e1, h1.1, e2, h2.1, e3, hb, m, y0, y1, y2, y3, go_sem])
      all_goals (simp only [fin_mk, finV, resL, resV1, resIn, endA, listIn, Option.some_or, Option.none_or, oneOrTup, go_sem]; rw [← hr])
      all_goals rfl
    · simp only [hc, e1, h1.1, e2, h2.1, e3, hb, m, y0, y1, y2, y3, go_sem]
      repeat' ((first | ((first | apply qa | apply qb | apply qc | apply qd | apply qe | apply qf | apply qg | apply qh | apply qi | apply qj | apply qk) <;> intro hp) | ((first | refine ql rfl rfl (by decide +kernel) ?_ | refine qm _ rfl rfl (by decide +kernel) ?_) <;> have hp := True.intro)) <;> simp only [hp, hc, e1, h1.1, e2, h2.1, e3, hb, m, y0, y1, y2, y3, go_sem])
      all_goals (simp only [fin_mk, finV, resL, resV1, resIn, endA, listIn, Option.some_or, Option.none_or, oneOrTup, go_sem]; rw [← hr])
      all_goals rfl
  · by_cases hl : 0 < b.Mails.length
    · have e : chgB 3 x b = ⟨b.Name, b.Valid, b.Next, b.Mod, setU b.Mails (x.tmod b.Mails.length).toNat (x.tmod 12), b.Tombs, b.Horizon⟩ := by simp only [chgB, if_true, Int.reduceEq, if_false, hl]
      obtain ⟨j, hj, hj2⟩ : ∃ j : Nat, x.tmod (b.Mails.length : Int) = j ∧ j < b.Mails.length := by
        have e1 := Int.emod_nonneg x (show (b.Mails.length : Int) ≠ 0 by omega)
        have e2 := Int.emod_lt_of_pos x (show (0 : Int) < b.Mails.length by omega)
        rw [Int.tmod_eq_emod_of_nonneg hx0]
        exact ⟨(x % (b.Mails.length : Int)).toNat, by omega, by omega⟩
      rw [hj, Int.toNat_natCast] at e
      rw [e] at hr
      have g0 : (0 : Int) < b.Mails.length := by omega
      have g1 : (j : Int) < b.Mails.length := by omega
      have g2 : (0 : Int) ≤ j := by omega
      have g3 : b.Mails[j]? = some b.Mails[j] := List.getElem?_eq_getElem hj2
      have n0 : ¬ (b.Mails.length : Int) = 0 := by omega
      have su := setU_enc (u := x.tmod 12) hj2
      simp only [hc, e1, h1.1, e2, h2.1, e3, hb, hj, hj2, g0, g1, g2, g3, n0, go_sem]
      repeat' ((first | ((first | apply qa | apply qb | apply qc | apply qd | apply qe | apply qf | apply qg | apply qh | apply qi | apply qj | apply qk) <;> intro hp) | ((first | refine ql rfl rfl (by decide +kernel) ?_ | refine qm _ rfl rfl (by decide +kernel) ?_) <;> have hp := True.intro)) <;> simp only [hp, hc, e1, h1.1, e2, h2.1, e3, hb, hj, hj2, g0, g1, g2, g3, n0, go_sem])
      all_goals (simp only [fin_mk, finV, resL, resV1, resIn, endA, listIn, Option.some_or, Option.none_or, oneOrTup, go_sem]; rw [← hr])
      all_goals (simp only [Box.enc, su])
    · have e : chgB 3 x b = b := by simp only [chgB, if_true, Int.reduceEq, if_false, hl]
      rw [e] at hr
      have g0 : ¬ (0 : Int) < b.Mails.length := by omega
      simp only [hc, e1, h1.1, e2, h2.1, e3, hb, g0, go_sem]
      repeat' ((first | ((first | apply qa | apply qb | apply qc | apply qd | apply qe | apply qf | apply qg | apply qh | apply qi | apply qj | apply qk) <;> intro hp) | ((first | refine ql rfl rfl (by decide +kernel) ?_ | refine qm _ rfl rfl (by decide +kernel) ?_) <;> have hp := True.intro)) <;> simp only [hp, hc, e1, h1.1, e2, h2.1, e3, hb, g0, go_sem])
      all_goals (simp only [fin_mk, finV, resL, resV1, resIn, endA, listIn, Option.some_or, Option.none_or, oneOrTup, go_sem]; rw [← hr])
      all_goals rfl
  · have e : chgB 4 x b = ⟨b.Name, b.Valid, b.Next, b.Mod, b.Mails, b.Tombs ++ [⟨x.tmod 12, x.tmod 20⟩], b.Horizon⟩ := by simp only [chgB, if_true, Int.reduceEq, if_false]
    rw [e] at hr
    have q2 : b.Tombs.length ≤ 9223372036854775806 := by omega
    have q4 : (b.Tombs.length + 1) * 16 ≤ 140737488355328 := by omega
    have q5 : b.Tombs.length + 1 ≤ 9223372036854775807 := by omega
    simp only [hc, e1, h1.1, e2, h2.1, e3, hb, q2, q4, q5, go_sem]
    repeat' ((first | ((first | apply qa | apply qb | apply qc | apply qd | apply qe | apply qf | apply qg | apply qh | apply qi | apply qj | apply qk) <;> intro hp) | ((first | refine ql rfl rfl (by decide +kernel) ?_ | refine qm _ rfl rfl (by decide +kernel) ?_) <;> have hp := True.intro)) <;> simp only [hp, hc, e1, h1.1, e2, h2.1, e3, hb, q2, q4, q5, go_sem])
    all_goals first | omega | skip
    all_goals (simp only [fin_mk, finV, resL, resV1, resIn, endA, listIn, Option.some_or, Option.none_or, oneOrTup, go_sem]; rw [← hr])
    all_goals (simp only [Box.enc, List.map_append, List.map_cons, List.map_nil]; rfl)
  · have e : chgB 5 x b = ⟨b.Name, b.Valid, b.Next, b.Mod, b.Mails, b.Tombs, x.tmod 20⟩ := by simp only [chgB, if_true, Int.reduceEq, if_false]
    rw [e] at hr
    simp only [hc, e1, h1.1, e2, h2.1, e3, hb, go_sem]
    repeat' ((first | ((first | apply qa | apply qb | apply qc | apply qd | apply qe | apply qf | apply qg | apply qh | apply qi | apply qj | apply qk) <;> intro hp) | ((first | refine ql rfl rfl (by decide +kernel) ?_ | refine qm _ rfl rfl (by decide +kernel) ?_) <;> have hp := True.intro)) <;> simp only [hp, hc, e1, h1.1, e2, h2.1, e3, hb, go_sem])
    all_goals (simp only [fin_mk, finV, resL, resV1, resIn, endA, listIn, Option.some_or, Option.none_or, oneOrTup, go_sem]; rw [← hr])
    all_goals rfl
  · have e : chgB 6 x b = ⟨b.Name, b.Valid, 9999 - x.tmod 2, b.Mod, b.Mails, b.Tombs, b.Horizon⟩ := by simp only [chgB, if_true, Int.reduceEq, if_false]
    rw [e] at hr
    have w : IntKind.i64.wrap (9999 - x.tmod 2) = 9999 - x.tmod 2 := by rw [Int.tmod_eq_emod_of_nonneg hx0]; exact wrap64 (by omega) (by omega)
    simp only [hc, e1, h1.1, e2, h2.1, e3, hb, w, go_sem]
    repeat' ((first | ((first | apply qa | apply qb | apply qc | apply qd | apply qe | apply qf | apply qg | apply qh | apply qi | apply qj | apply qk) <;> intro hp) | ((first | refine ql rfl rfl (by decide +kernel) ?_ | refine qm _ rfl rfl (by decide +kernel) ?_) <;> have hp := True.intro)) <;> simp only [hp, hc, e1, h1.1, e2, h2.1, e3, hb, w, go_sem])
    all_goals (simp only [fin_mk, finV, resL, resV1, resIn, endA, listIn, Option.some_or, Option.none_or, oneOrTup, go_sem]; rw [← hr])
    all_goals rfl
  · have z0 : (k == 0) = false := by rw [beq_eq_false_iff_ne]; omega
    have z1 : (k == 1) = false := by rw [beq_eq_false_iff_ne]; omega
    have z2 : (k == 2) = false := by rw [beq_eq_false_iff_ne]; omega
    have z3 : (k == 3) = false := by rw [beq_eq_false_iff_ne]; omega
    have z4 : (k == 4) = false := by rw [beq_eq_false_iff_ne]; omega
    have z5 : (k == 5) = false := by rw [beq_eq_false_iff_ne]; omega
    have z6 : (k == 6) = false := by rw [beq_eq_false_iff_ne]; omega
    have e : chgB k x b = b := by
      rw [beq_eq_false_iff_ne] at z0 z1 z2 z3 z4 z5 z6
      simp only [chgB, z0, z1, z2, z3, z4, z5, z6, if_false]
    rw [e] at hr
    simp only [hc, e1, h1.1, e2, h2.1, e3, hb, z0, z1, z2, z3, z4, z5, z6, go_sem]
    repeat' ((first | ((first | apply qa | apply qb | apply qc | apply qd | apply qe | apply qf | apply qg | apply qh | apply qi | apply qj | apply qk) <;> intro hp) | ((first | refine ql rfl rfl (by decide +kernel) ?_ | refine qm _ rfl rfl (by decide +kernel) ?_) <;> have hp := True.intro)) <;> simp only [hp, hc, e1, h1.1, e2, h2.1, e3, hb, z0, z1, z2, z3, z4, z5, z6, go_sem])
    all_goals (simp only [fin_mk, finV, resL, resV1, resIn, endA, listIn, Option.some_or, Option.none_or, oneOrTup, go_sem]; rw [← hr])
    all_goals rfl
def drawSo (code : List Int) : Box × List Range :=
  if ((belO (anyS (cur0 code)).2 2).1 == 0) = true then ((anyB (belO (anyS (cur0 code)).2 2).2).1, [⟨1, 20⟩]) else ((anyB (belO (anyS (cur0 code)).2 2).2).1, (anyS (cur0 code)).1)
open Classical in
noncomputable def spDrawSo : VM.Spec := { modes := [.rd], run := fun | [.lst 1 code'] => (decL dU8 code').bind fun code => if code.length ≤ 4194304 then some (.tup [Box.enc ((drawSo code).1), .lst 2 (((drawSo code).2).map Range.enc)], []) else none | _ => none, need := [] }
attribute [go_sem] spDrawSo
theorem spDrawSo_in {ins : List V} {r : V} {outs : List V} (h : spDrawSo.run ins = some (r, outs)) : ∃ (code : (List Int)), ins = [.lst 1 ((code).map eU8)] ∧ (code.length ≤ 4194304) ∧ .tup [Box.enc ((drawSo code).1), .lst 2 (((drawSo code).2).map Range.enc)] = r ∧ outs = [] := by
  unfold spDrawSo at h
  simp only at h
  split at h
  · rename_i code'
    simp only [Option.bind_eq_some_iff] at h
    obtain ⟨code, h_code, h⟩ := h
    split at h
    case isFalse => cases h
    rename_i hc
    simp only [Option.some.injEq, Prod.mk.injEq] at h
    obtain ⟨h1, h2⟩ := h
    have h_code := decL_some (fun _ _ h => dU8_some h) h_code
    subst h_code
    exact ⟨code, rfl, hc, h1, h2.symm⟩
  · cases h
def T_spec_DrawSortBySubject : Hints := ⟨lk [], lk [], lk [(0, [0, 2]), (1, [2, 4]), (2, [2, 4, 5]), (3, [2, 4, 5, 11]), (4, [2, 4, 5]), (5, [2, 3])], lk [], lf []⟩
noncomputable def Phi_spec_DrawSortBySubject : Tab := lk [(45, spNew), (46, spAnyS), (47, spOnce), (48, spAnyB)]
attribute [go_sem] T_spec_DrawSortBySubject Phi_spec_DrawSortBySubject
theorem phi_spec_DrawSortBySubject : ∀ f sp, Phi_spec_DrawSortBySubject f = some sp → FnOk Tryz.prog f sp ∧ ∀ n ∈ sp.need, n ∈ ([] : List String) := phi_cons ok_spec_l01New (n0 rfl) (phi_cons ok_spec_l05Any (n0 rfl) (phi_cons ok_spec_l01Once (n0 rfl) (phi_cons ok_spec_l08Any (n0 rfl) (phi_nil))))
theorem ok_spec_DrawSortBySubject : FnOk Tryz.prog 23 spDrawSo := by
  refine fn_ok (Φ := Phi_spec_DrawSortBySubject) (T := T_spec_DrawSortBySubject) phi_spec_DrawSortBySubject mixed Tryz.func23 rfl rfl rfl (by decide) ?_
  intro ins r outs hr hl
  clear hl
  have hs := spDrawSo_in hr
  clear hr
  obtain ⟨code, rfl, hc, hr, rfl⟩ := hs
  simp only [spDrawSo, Tryz.f23, Go.VM.initS]
  have i0 := cur0_in hc
  have h1 := anyS_in i0
  obtain ⟨⟨s, c1⟩, e1⟩ : ∃ x, anyS (cur0 code) = x := ⟨_, rfl⟩
  rw [e1] at h1
  simp only at h1
  have h2 := belO_in (n := 2) (c := c1) h1.2
  obtain ⟨⟨o, c2⟩, e2⟩ : ∃ x, belO c1 2 = x := ⟨_, rfl⟩
  rw [e2] at h2
  simp only at h2
  obtain ⟨⟨B, c3⟩, e3⟩ : ∃ x, anyB c2 = x := ⟨_, rfl⟩
  cases ho : (o == 0) with
  | true =>
    have e : drawSo code = (B, [⟨1, 20⟩]) := by simp only [drawSo, e1, e2, e3, ho, if_true]
    rw [e] at hr
    simp only [hc, i0, e1, h1.2, e2, ho, h2.1, e3, go_sem]
    repeat' ((first | apply qa | apply qb | apply qc | apply qd | apply qe | apply qf | apply qg | apply qh | apply qi | apply qj | apply qk) <;> intro hp <;> simp only [hp, hc, i0, e1, h1.2, e2, ho, h2.1, e3, go_sem])
    all_goals (simp only [fin_mk, finV, resL, resV1, resIn, endA, listIn, Option.some_or, Option.none_or, oneOrTup, go_sem]; rw [← hr])
    all_goals rfl
  | false =>
    have e : drawSo code = (B, s) := by simp only [drawSo, e1, e2, e3, ho, Bool.false_eq_true, if_false]
    rw [e] at hr
    simp only [hc, i0, e1, h1.2, e2, ho, h2.1, e3, go_sem]
    repeat' ((first | apply qa | apply qb | apply qc | apply qd | apply qe | apply qf | apply qg | apply qh | apply qi | apply qj | apply qk) <;> intro hp <;> simp only [hp, hc, i0, e1, h1.2, e2, ho, h2.1, e3, go_sem])
    all_goals (simp only [fin_mk, finV, resL, resV1, resIn, endA, listIn, Option.some_or, Option.none_or, oneOrTup, go_sem]; rw [← hr])
    all_goals rfl
end Go.Proofs.YtghmjnggmacohaaGreatDoor.L

