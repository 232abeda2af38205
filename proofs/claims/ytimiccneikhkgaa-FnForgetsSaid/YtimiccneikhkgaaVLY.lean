/- Mails that are expunged. -/
import Derived.Test.YtimiccneikhkgaaVLX
import Derived.Test.YtimiccneikhkgaaVLSet
namespace Go.Proofs.Ytimiccneikhkgaa.L
open Go Go.VM
set_option maxRecDepth 100000
set_option maxHeartbeats 4000000
set_option linter.unusedSimpArgs false
set_option linter.unusedVariables false
theorem and8_some : ∀ a : Fin 32, (IntKind.i64.wrap (BitVec.ofInt 64 (a.val : Int) &&& BitVec.ofInt 64 8).toNat != 0) = decide ((0 : Int) < ((a.val &&& 8 : Nat) : Int)) := by decide +kernel
theorem and8 {a : Int} (h : flagsOk a = true) : (IntKind.i64.wrap (BitVec.ofInt 64 a &&& BitVec.ofInt 64 8).toNat != 0) = decide (0 < andN a 8) := by
  have ha := flags_in h
  obtain ⟨x, rfl⟩ : ∃ x : Nat, a = x := ⟨a.toNat, by omega⟩
  exact and8_some ⟨x, by omega⟩
theorem goneI_eq {s : List Range} {m : Mail} (h : flagsOk m.Flags = true) : goneI s m = (hasR s m.Uid && decide (0 < andN m.Flags 8)) := by rw [goneI, and8 h]
def goneU (l : List Mail) (s : List Range) : List Int := (l.filter (goneI s)).map (·.Uid)
def addTs (l : List Mail) (s : List Range) (md : Int) : List Tomb := (l.filter (goneI s)).map fun m => ⟨m.Uid, md⟩
theorem goneU_succ {l : List Mail} {s : List Range} {i : Nat} (h : i < l.length) : goneU (l.take (i + 1)) s = goneU (l.take i) s ++ (if goneI s l[i] = true then [l[i].Uid] else []) := by
  rw [goneU, filter_succ h, List.map_append]; congr 1; split <;> rfl
theorem addTs_succ {l : List Mail} {s : List Range} {md : Int} {i : Nat} (h : i < l.length) : addTs (l.take (i + 1)) s md = addTs (l.take i) s md ++ (if goneI s l[i] = true then [⟨l[i].Uid, md⟩] else []) := by
  rw [addTs, filter_succ h, List.map_append]; congr 1; split <;> rfl
theorem goneU_len (l : List Mail) (s : List Range) : (goneU l s).length ≤ l.length := by rw [goneU, List.length_map]; exact List.length_filter_le _ _
theorem addTs_len (l : List Mail) (s : List Range) (md : Int) : (addTs l s md).length ≤ l.length := by rw [addTs, List.length_map]; exact List.length_filter_le _ _
theorem trim_lt (t : Tomb) (l : List Tomb) : ((t :: l).filter fun x => !(x.Mod == t.Mod)).length < (t :: l).length := by
  have := List.length_filter_le (fun x : Tomb => !(x.Mod == t.Mod)) l
  rw [List.filter_cons]
  simp only [beq_self_eq_true, Bool.not_true, Bool.false_eq_true, if_false, List.length_cons]
  omega
def trimT : List Tomb → Int → List Tomb × Int
  | [], h => ([], h)
  | t :: l, h => if 40 < (t :: l).length then trimT ((t :: l).filter fun x => !(x.Mod == t.Mod)) t.Mod else (t :: l, h)
termination_by l => l.length
decreasing_by exact trim_lt t l
theorem trimT_end {l : List Tomb} {h : Int} (hl : ¬ 40 < l.length) : trimT l h = (l, h) := by
  cases l with
  | nil => rw [trimT]
  | cons t l => rw [trimT, if_neg hl]
theorem trimT_step {t : Tomb} {l : List Tomb} {h : Int} (hl : 40 < (t :: l).length) : trimT (t :: l) h = trimT ((t :: l).filter fun x => !(x.Mod == t.Mod)) t.Mod := by rw [trimT, if_pos hl]
theorem trimT_len : ∀ (n : Nat) (l : List Tomb) (h : Int), l.length ≤ n → (trimT l h).1.length ≤ l.length
  | n, [], h, _ => by rw [trimT]; exact Nat.le_refl _
  | 0, t :: l, h, hn => by simp at hn
  | n + 1, t :: l, h, hn => by
    by_cases hl : 40 < (t :: l).length
    · have h1 := trim_lt t l
      have h2 := trimT_len n ((t :: l).filter fun x => !(x.Mod == t.Mod)) t.Mod (by omega)
      rw [trimT_step hl]; omega
    · rw [trimT_end hl]; exact Nat.le_refl _
def exMails (b : Box) (s : List Range) : List Mail := b.Mails.filter fun m => !goneI s m
def exTombs (b : Box) (s : List Range) : List Tomb × Int := trimT (b.Tombs ++ addTs b.Mails s (b.Mod + 1)) b.Horizon
def exOut (b : Box) (s : List Range) : Box := ⟨b.Name, b.Valid, b.Next, b.Mod + 1, exMails b s, (exTombs b s).1, (exTombs b s).2⟩
def exGood (b : Box) (s : List Range) : Bool := boxOk b && setOk s && !(goneU b.Mails s).isEmpty && boxOk (exOut b s)
def expunge (b : Box) (s : List Range) : Box := if exGood b s = true then exOut b s else b
def exGone (b : Box) (s : List Range) : List Range := if exGood b s = true then setOf (goneU b.Mails s) else []
theorem exOut_le {b : Box} {s : List Range} {md : Int} {ts : List Tomb} {hz : Int} (h : b.le 4194304) (ht : ts.length ≤ 4194304) : Box.le 4194304 ⟨b.Name, b.Valid, b.Next, md, exMails b s, ts, hz⟩ := by
  refine ⟨h.1, ⟨Nat.le_trans (List.length_filter_le _ _) h.2.1.1, fun m hm => h.2.1.2 m (List.mem_filter.1 hm).1⟩, ⟨ht, fun _ _ => trivial⟩⟩
theorem expunge_le {b : Box} {s : List Range} (h : b.le 4194304) : (expunge b s).le 4194304 := by
  unfold expunge
  split
  · rename_i hg
    simp only [exGood, Bool.and_eq_true] at hg
    have hp := boxOk_parts hg.1.1.1
    refine exOut_le h (Nat.le_trans (trimT_len _ _ _ (Nat.le_refl _)) ?_)
    have := addTs_len b.Mails s (b.Mod + 1)
    rw [List.length_append]; omega
  · exact h
theorem exGone_len (b : Box) (s : List Range) : (exGone b s).length ≤ 4194304 := by
  unfold exGone
  split
  · rename_i hg
    simp only [exGood, Bool.and_eq_true] at hg
    have hp := boxOk_parts hg.1.1.1
    have := goneU_len b.Mails s
    have := setOf_len (goneU b.Mails s)
    omega
  · simp
open Classical in
noncomputable def spExpunge : VM.Spec := { modes := [.rd, .rd], run := fun | [b', .lst 2 s'] => (Box.dec b').bind fun b => (decL Range.dec s').bind fun s => if b.le 4194304 ∧ s.length ≤ 4194304 then some (.tup [Box.enc (expunge b s), .lst 2 ((exGone b s).map Range.enc)], []) else none | _ => none, need := [] }
attribute [go_sem] spExpunge
theorem spExpunge_in {ins : List V} {r : V} {outs : List V} (h : spExpunge.run ins = some (r, outs)) : ∃ (b : Box) (s : (List Range)), ins = [Box.enc b, .lst 2 ((s).map Range.enc)] ∧ (b.le 4194304 ∧ s.length ≤ 4194304) ∧ .tup [Box.enc (expunge b s), .lst 2 ((exGone b s).map Range.enc)] = r ∧ outs = [] := by
  unfold spExpunge at h
  simp only at h
  split at h
  · rename_i b' s'
    simp only [Option.bind_eq_some_iff] at h
    obtain ⟨b, h_b, s, h_s, h⟩ := h
    split at h
    case isFalse => cases h
    rename_i hc
    simp only [Option.some.injEq, Prod.mk.injEq] at h
    obtain ⟨h1, h2⟩ := h
    have h_b := Box.dec_some h_b
    subst h_b
    have h_s := decL_some (fun _ _ h => Range.dec_some h) h_s
    subst h_s
    exact ⟨b, s, rfl, hc, h1, h2.symm⟩
  · cases h
theorem drop_eq {m : Int} : ∀ {l : List Tomb}, l.Pairwise (fun x y => x.Mod ≤ y.Mod) → (∀ x ∈ l, m ≤ x.Mod) → l.filter (fun x => !(x.Mod == m)) = l.dropWhile fun x => decide (x.Mod ≤ m)
  | [], _, _ => rfl
  | x :: l, hp, hm => by
    rw [List.pairwise_cons] at hp
    have hx := hm x (by simp)
    by_cases e : x.Mod = m
    · have e1 : (x.Mod == m) = true := by rw [e]; exact beq_self_eq_true _
      have e2 : decide (x.Mod ≤ m) = true := by rw [decide_eq_true_eq]; omega
      rw [List.filter_cons, List.dropWhile_cons, e1, e2]
      simp only [Bool.not_true, Bool.false_eq_true, if_false, if_true]
      exact drop_eq hp.2 fun y hy => hm y (by simp [hy])
    · have e2 : decide (x.Mod ≤ m) = false := by rw [decide_eq_false_iff_not]; omega
      rw [List.dropWhile_cons, e2]
      simp only [Bool.false_eq_true, if_false]
      rw [List.filter_eq_self]
      intro y hy
      have : m < y.Mod := by
        rcases List.mem_cons.1 hy with rfl | hy
        · omega
        · have := hp.1 y hy; omega
      have e3 : (y.Mod == m) = false := by rw [beq_eq_false_iff_ne]; omega
      rw [e3]; rfl
theorem tomb_of {b : Box} (h : boxOk b = true) {i : Nat} (hi : i < b.Tombs.length) : tombAtOk b i = true := by
  simp only [boxOk, tombsOk, Bool.and_eq_true] at h
  exact allN_get h.2.1 hi
theorem sorted_of_adj : ∀ {l : List Int}, (∀ i, (h : i + 1 < l.length) → l[i] ≤ l[i + 1]) → l.Pairwise (· ≤ ·)
  | [], _ => List.Pairwise.nil
  | [x], _ => List.pairwise_singleton _ _
  | x :: y :: t, h => by
    have h1 : (y :: t).Pairwise (· ≤ ·) := sorted_of_adj fun i hi => by
      have := h (i + 1) (by simpa using hi)
      simpa using this
    have h2 : x ≤ y := by simpa using h 0 (by simp)
    refine List.Pairwise.cons (fun z hz => ?_) h1
    rcases List.mem_cons.1 hz with rfl | hz
    · exact h2
    · exact Int.le_trans h2 ((List.pairwise_cons.1 h1).1 z hz)
theorem tombs_sorted {b : Box} (h : boxOk b = true) : b.Tombs.Pairwise (fun x y => x.Mod ≤ y.Mod) ∧ ∀ x ∈ b.Tombs, x.Mod ≤ b.Mod := by
  constructor
  · have h1 : (b.Tombs.map (·.Mod)).Pairwise (· ≤ ·) := sorted_of_adj fun i hi => by
      rw [List.length_map] at hi
      have h2 := tomb_of h hi
      simp only [tombAtOk, tombOrd, Bool.and_eq_true, Bool.or_eq_true, Bool.not_eq_true', Bool.or_eq_false_iff, decide_eq_false_iff_not, List.getD_eq_getElem?_getD, List.getElem?_eq_getElem hi, Option.getD_some, Nat.add_sub_cancel, List.getElem?_eq_getElem (show i < b.Tombs.length by omega)] at h2
      simp only [List.getElem_map]
      rcases h2.2 with h3 | h3
      · simp at h3
      · omega
    rwa [List.pairwise_map] at h1
  · intro x hx
    obtain ⟨i, hi, rfl⟩ := List.mem_iff_getElem.1 hx
    have h2 := tomb_of h hi
    simp only [tombAtOk, tombIn, Bool.and_eq_true, within, decide_eq_true_eq, List.getD_eq_getElem?_getD, List.getElem?_eq_getElem hi, Option.getD_some] at h2
    exact h2.1.1.1.2.2
theorem added_sorted {b : Box} {s : List Range} (h : boxOk b = true) : (b.Tombs ++ addTs b.Mails s (b.Mod + 1)).Pairwise (fun x y => x.Mod ≤ y.Mod) := by
  obtain ⟨h1, h2⟩ := tombs_sorted h
  have h3 : ∀ x ∈ addTs b.Mails s (b.Mod + 1), x.Mod = b.Mod + 1 := by
    intro x hx
    obtain ⟨m, _, rfl⟩ := List.mem_map.1 hx
    rfl
  refine List.pairwise_append.2 ⟨h1, ?_, fun x hx y hy => ?_⟩
  · refine List.Pairwise.imp_of_mem (R := fun _ _ => True) (fun {x y} hx hy _ => ?_) (List.pairwise_of_forall fun _ _ => trivial)
    rw [h3 x hx, h3 y hy]; exact Int.le_refl _
  · have := h2 x hx
    rw [h3 y hy]; omega
theorem setOf_len0 {S : List Int} (h : Asc S 9999) : ((setOf S).length = 0) ↔ S = [] := by
  constructor
  · intro h0
    cases S with
    | nil => rfl
    | cons x l =>
      exfalso
      have hx := h.2 x (by simp)
      have := setOf_has (x :: l) x (by omega)
      rw [List.eq_nil_of_length_eq_zero h0] at this
      simp [hasR] at this
  · rintro rfl; rw [setOf_nil']; rfl
def T_spec_Expunge : Hints := ⟨fun i => if i = 20 then some [] else none, fun i => if i = 9 then some [1, 2, 4, 6, 7, 8, 9] else if i = 18 then some [4, 6, 7, 8] else if i = 20 then some [4, 6, 7, 8] else none, fun i => if i = 0 then some [1, 2, 4] else if i = 1 then some [1, 2, 4, 6] else if i = 2 then some [1, 2, 4, 6, 7] else if i = 3 then some [1, 2, 4, 6, 7, 21] else if i = 4 then some [4, 5] else if i = 5 then some [1, 2, 4, 6, 7, 8] else if i = 6 then some [1, 2, 4, 6, 7, 8] else if i = 7 then some [1, 2, 4, 6, 7, 8] else if i = 8 then some [1, 2, 4, 6, 7, 8, 9] else if i = 9 then some [1, 2, 4, 6, 7, 8, 9, 36] else if i = 11 then some [1, 2, 4, 6, 7, 8, 9, 10] else if i = 12 then some [1, 2, 4, 6, 7, 8, 9, 10, 53] else if i = 13 then some [1, 2, 4, 6, 7, 8, 9, 10] else if i = 14 then some [1, 2, 4, 6, 7, 8, 9] else if i = 15 then some [1, 2, 4, 6, 7, 8, 9] else if i = 10 then some [1, 2, 4, 6, 7, 8, 9] else if i = 16 then some [4, 6, 7, 8, 81] else if i = 17 then some [4, 5] else if i = 18 then some [4, 6, 7, 8, 87] else if i = 19 then some [4, 6, 7, 8] else if i = 20 then some [4, 6, 7, 8, 107] else if i = 21 then some [4, 6, 7, 8] else if i = 22 then some [4, 6, 7, 8, 116] else if i = 23 then some [4, 5] else if i = 24 then some [4, 5] else none, fun _ => none⟩
noncomputable def Phi_spec_Expunge : Tab := fun f => if f = 23 then some spBoxOk else if f = 54 then some spSetOk else if f = 53 then some spCopyBox else if f = 55 then some spSetHas else if f = 57 then some spAnd else if f = 24 then some spSetAdd else none
attribute [go_sem] T_spec_Expunge Phi_spec_Expunge
theorem phi_spec_Expunge : ∀ f sp, Phi_spec_Expunge f = some sp → FnOk Try.prog f sp ∧ ∀ n ∈ sp.need, n ∈ ([] : List String) := by
  intro f sp h
  unfold Phi_spec_Expunge at h
  by_cases e : f = 23
  · rw [if_pos e] at h; cases h; rw [e]; exact ⟨ok_spec_BoxOk, (fun n (h : n ∈ ([] : List String)) => (nomatch h))⟩
  rw [if_neg e] at h
  by_cases e : f = 54
  · rw [if_pos e] at h; cases h; rw [e]; exact ⟨ok_spec_SetOk, (fun n (h : n ∈ ([] : List String)) => (nomatch h))⟩
  rw [if_neg e] at h
  by_cases e : f = 53
  · rw [if_pos e] at h; cases h; rw [e]; exact ⟨ok_spec_l08Copy, (fun n (h : n ∈ ([] : List String)) => (nomatch h))⟩
  rw [if_neg e] at h
  by_cases e : f = 55
  · rw [if_pos e] at h; cases h; rw [e]; exact ⟨ok_spec_SetHas, (fun n (h : n ∈ ([] : List String)) => (nomatch h))⟩
  rw [if_neg e] at h
  by_cases e : f = 57
  · rw [if_pos e] at h; cases h; rw [e]; exact ⟨ok_spec_l06And, (fun n (h : n ∈ ([] : List String)) => (nomatch h))⟩
  rw [if_neg e] at h
  by_cases e : f = 24
  · rw [if_pos e] at h; cases h; rw [e]; exact ⟨ok_spec_SetAdd, (fun n (h : n ∈ ([] : List String)) => (nomatch h))⟩
  rw [if_neg e] at h
  cases h
theorem ok_spec_Expunge : FnOk Try.prog 35 spExpunge := by
  refine fn_ok (Φ := Phi_spec_Expunge) (T := T_spec_Expunge) phi_spec_Expunge mixed Try.func35 rfl rfl rfl (by decide) ?_
  intro ins r outs hr hl
  clear hl
  have hs := spExpunge_in hr
  clear hr
  obtain ⟨b, s, rfl, hc, hr, rfl⟩ := hs
  simp only [spExpunge, Try.f35, Go.VM.initS]
  obtain ⟨hc, hs⟩ := hc
  cases k1 : boxOk b with
  | false =>
    have hg : exGood b s = false := by simp [exGood, k1]
    simp only [hc, hs, k1, go_sem]
    repeat' ((first | ((first | apply qa | apply qb | apply qc | apply qd | apply qe | apply qf | apply qg | apply qh | apply qi | apply qj | apply qk) <;> intro hp) | ((first | refine ql rfl rfl (by decide +kernel) ?_ | refine qm _ rfl rfl (by decide +kernel) ?_ | refine goes_opn rfl ?_ | refine goes_opnD rfl rfl (by decide +kernel) ?_) <;> have hp := True.intro)) <;> simp only [hp, hc, hs, k1, go_sem])
    simp only [fin_mk, finV, resL, resV1, resIn, endA, listIn, Option.some_or, Option.none_or, oneOrTup, go_sem]
    rw [← hr]
    simp only [expunge, exGone, hg, Bool.false_eq_true, if_false]; rfl
  | true =>
  cases k2 : setOk s with
  | false =>
    have hg : exGood b s = false := by simp [exGood, k2]
    simp only [hc, hs, k1, k2, go_sem]
    repeat' ((first | ((first | apply qa | apply qb | apply qc | apply qd | apply qe | apply qf | apply qg | apply qh | apply qi | apply qj | apply qk) <;> intro hp) | ((first | refine ql rfl rfl (by decide +kernel) ?_ | refine qm _ rfl rfl (by decide +kernel) ?_ | refine goes_opn rfl ?_ | refine goes_opnD rfl rfl (by decide +kernel) ?_) <;> have hp := True.intro)) <;> simp only [hp, hc, hs, k1, k2, go_sem])
    simp only [fin_mk, finV, resL, resV1, resIn, endA, listIn, Option.some_or, Option.none_or, oneOrTup, go_sem]
    rw [← hr]
    simp only [expunge, exGone, hg, Bool.false_eq_true, if_false]; rfl
  | true =>
  have hp := boxOk_parts k1
  have hml := hp.2.1
  have htl := hp.2.2.1
  have hn := numsOk_next hp.1
  have w1 : IntKind.i64.wrap (b.Mod + 1) = b.Mod + 1 := wrap64 (by omega) (by omega)
  have f8 : flagsOk 8 = true := by decide
  have hs8 : s.length ≤ 8388608 := by omega
  simp only [hc, hs, k1, k2, w1, go_sem]
  repeat' ((first | ((first | apply qa | apply qb | apply qc | apply qd | apply qe | apply qf | apply qg | apply qh | apply qi | apply qj | apply qk) <;> intro hp) | ((first | refine ql rfl rfl (by decide +kernel) ?_ | refine qm _ rfl rfl (by decide +kernel) ?_ | refine goes_opn rfl ?_ | refine goes_opnD rfl rfl (by decide +kernel) ?_) <;> have hp := True.intro)) <;> simp only [hp, hc, hs, k1, k2, w1, go_sem])
  refine loop_go (fun p : Nat × List Int × List Tomb × List Mail => [(9, .int .i64 (p.1 : Int))]) (fun p => [(3, ⟨.arr, 2, (setOf p.2.1).map Range.enc⟩), (7, ⟨.arr, 4, p.2.2.2.map Mail.enc⟩), (8, ⟨.arr, 2, p.2.2.1.map Tomb.enc⟩)]) (fun p => b.Mails.length - p.1)
    (fun p => p.1 ≤ b.Mails.length ∧ p.2.1 = goneU (b.Mails.take p.1) s ∧ p.2.2.1 = b.Tombs ++ addTs (b.Mails.take p.1) s (b.Mod + 1) ∧ p.2.2.2 = (b.Mails.take p.1).filter fun m => !goneI s m) (0, [], b.Tombs, []) ⟨Nat.zero_le _, rfl, by simp [addTs], rfl⟩ rfl (by rw [setOf_nil']; rfl) ?_
  rintro ⟨i, U, Ts, Ms⟩ ⟨hi, hU, hT, hM⟩ ih
  simp only at hi hU hT hM ih
  have lU : U.length ≤ i := by
    have := goneU_len (b.Mails.take i) s
    rw [← hU, List.length_take] at this; omega
  have lT : Ts.length ≤ 70 := by
    have := addTs_len (b.Mails.take i) s (b.Mod + 1)
    rw [hT, List.length_append]
    rw [List.length_take] at this; omega
  have lM : Ms.length ≤ 30 := by
    have := List.length_filter_le (fun m => !goneI s m) (b.Mails.take i)
    rw [← hM, List.length_take] at this; omega
  have lS := setOf_len U
  rcases Nat.lt_or_ge i b.Mails.length with h | h
  · have g1 : (i : Int) < b.Mails.length := by omega
    have g2 : (0 : Int) ≤ i := by omega
    have g3 : b.Mails[i]? = some b.Mails[i] := List.getElem?_eq_getElem h
    have g5 := wrap_succ h (by omega)
    have u1 : (setOf U).length ≤ 4194304 := by omega
    have t1 : (Ts.length + 1) * 16 ≤ 140737488355328 := by omega
    have t2 : Ts.length + 1 ≤ 9223372036854775807 := by omega
    have m1 : (Ms.length + 1) * 40 ≤ 140737488355328 := by omega
    have m2 : Ms.length + 1 ≤ 9223372036854775807 := by omega
    have hin := mail_in k1 h
    have hG := goneI_eq (s := s) hin.2.2
    cases hq : goneI s b.Mails[i] with
    | true =>
      rw [hq, eq_comm, Bool.and_eq_true, decide_eq_true_eq] at hG
      obtain ⟨q1, q2⟩ := hG
      have hadd := setAdd_one (S := U) (u := b.Mails[i].Uid) (by omega) (by omega)
      have ih' := ih (i + 1, U ++ [b.Mails[i].Uid], Ts ++ [⟨b.Mails[i].Uid, b.Mod + 1⟩], Ms) ⟨h, by rw [goneU_succ h, ← hU, if_pos hq], by rw [addTs_succ h, ← List.append_assoc, ← hT, if_pos hq], by rw [filter_succ h, ← hM, if_neg (by rw [hq]; simp), List.append_nil]⟩ (by simp only; omega)
      simp only [List.map_append] at ih'
      simp only [g1, g2, g3, g5, hs8, q1, q2, f8, hin.2.2, u1, hadd.2, t1, t2, and_self, go_sem]
      repeat' ((first | ((first | apply qa | apply qb | apply qc | apply qd | apply qe | apply qf | apply qg | apply qh | apply qi | apply qj | apply qk) <;> intro hp) | ((first | refine ql rfl rfl (by decide +kernel) ?_ | refine qm _ rfl rfl (by decide +kernel) ?_ | refine goes_opn rfl ?_ | refine goes_opnD rfl rfl (by decide +kernel) ?_) <;> have hp := True.intro)) <;> simp only [hp, g1, g2, g3, g5, hs8, q1, q2, f8, hin.2.2, u1, hadd.2, t1, t2, and_self, go_sem])
      exact ih'
    | false =>
      have ih' := ih (i + 1, U, Ts, Ms ++ [b.Mails[i]]) ⟨h, by rw [goneU_succ h, ← hU, if_neg (by rw [hq]; simp), List.append_nil], by rw [addTs_succ h, ← List.append_assoc, ← hT, if_neg (by rw [hq]; simp), List.append_nil], by rw [filter_succ h, ← hM, if_pos (by rw [hq]; rfl)]⟩ (by simp only; omega)
      simp only [List.map_append] at ih'
      rw [hq] at hG
      cases q1 : hasR s b.Mails[i].Uid with
      | false =>
        simp only [g1, g2, g3, g5, hs8, q1, m1, m2, go_sem]
        repeat' ((first | ((first | apply qa | apply qb | apply qc | apply qd | apply qe | apply qf | apply qg | apply qh | apply qi | apply qj | apply qk) <;> intro hp) | ((first | refine ql rfl rfl (by decide +kernel) ?_ | refine qm _ rfl rfl (by decide +kernel) ?_ | refine goes_opn rfl ?_ | refine goes_opnD rfl rfl (by decide +kernel) ?_) <;> have hp := True.intro)) <;> simp only [hp, g1, g2, g3, g5, hs8, q1, m1, m2, go_sem])
        exact ih'
      | true =>
        rw [q1, Bool.true_and, eq_comm, decide_eq_false_iff_not] at hG
        simp only [g1, g2, g3, g5, hs8, q1, hG, f8, hin.2.2, m1, m2, and_self, go_sem]
        repeat' ((first | ((first | apply qa | apply qb | apply qc | apply qd | apply qe | apply qf | apply qg | apply qh | apply qi | apply qj | apply qk) <;> intro hp) | ((first | refine ql rfl rfl (by decide +kernel) ?_ | refine qm _ rfl rfl (by decide +kernel) ?_ | refine goes_opn rfl ?_ | refine goes_opnD rfl rfl (by decide +kernel) ?_) <;> have hp := True.intro)) <;> simp only [hp, g1, g2, g3, g5, hs8, q1, hG, f8, hin.2.2, m1, m2, and_self, go_sem])
        exact ih'
  · have g1 : ¬ (i : Int) < b.Mails.length := by omega
    rw [List.take_of_length_le h] at hU hT hM
    clear ih
    have hA : Asc U 9999 := by rw [hU]; exact filter_asc k1 _
    by_cases hz : U = []
    · have e1 : (((setOf U).length : Int) == 0) = true := by rw [hz, setOf_nil']; rfl
      have hg : exGood b s = false := by simp [exGood, ← hU, hz]
      simp only [g1, e1, go_sem]
      repeat' ((first | ((first | apply qa | apply qb | apply qc | apply qd | apply qe | apply qf | apply qg | apply qh | apply qi | apply qj | apply qk) <;> intro hp) | ((first | refine ql rfl rfl (by decide +kernel) ?_ | refine qm _ rfl rfl (by decide +kernel) ?_ | refine goes_opn rfl ?_ | refine goes_opnD rfl rfl (by decide +kernel) ?_) <;> have hp := True.intro)) <;> simp only [hp, g1, e1, go_sem])
      simp only [fin_mk, finV, resL, resV1, resIn, endA, listIn, Option.some_or, Option.none_or, oneOrTup, go_sem]
      rw [← hr]
      simp only [expunge, exGone, hg, Bool.false_eq_true, if_false, hz, setOf_nil']; rfl
    have e1 : (((setOf U).length : Int) == 0) = false := by
      rw [beq_eq_false_iff_ne]
      intro h0
      exact hz ((setOf_len0 hA).1 (by omega))
    have hU1 : (goneU b.Mails s).isEmpty = false := by rw [← hU]; cases U <;> simp_all
    simp only [g1, e1, go_sem]
    repeat' ((first | ((first | apply qa | apply qb | apply qc | apply qd | apply qe | apply qf | apply qg | apply qh | apply qi | apply qj | apply qk) <;> intro hp) | ((first | refine ql rfl rfl (by decide +kernel) ?_ | refine qm _ rfl rfl (by decide +kernel) ?_ | refine goes_opn rfl ?_ | refine goes_opnD rfl rfl (by decide +kernel) ?_) <;> have hp := True.intro)) <;> simp only [hp, g1, e1, go_sem])
    refine loop_go (fun p : List Tomb × Int => []) (fun p => [(3, ⟨.box, 7, [.agg [.str b.Name, .int .i64 b.Valid, .int .i64 b.Next, .int .i64 (b.Mod + 1), .own 6, .own 7, .int .i64 p.2]]⟩), (7, ⟨.arr, 2, p.1.map Tomb.enc⟩)])
      (fun p => p.1.length) (fun p => trimT p.1 p.2 = exTombs b s ∧ p.1.length ≤ 70 ∧ p.1.Pairwise (fun x y => x.Mod ≤ y.Mod)) (Ts, b.Horizon) ⟨by rw [hT]; rfl, lT, by rw [hT]; exact added_sorted k1⟩ rfl rfl ?_
    rintro ⟨ts, hz2⟩ ⟨htr, htl2, hpw⟩ ih
    simp only at htr htl2 hpw ih
    by_cases hl : 40 < ts.length
    · cases ts with
      | nil => simp at hl
      | cons t0 rest =>
        have h1 : (40 : Int) < (t0 :: rest).length := by omega
        have h2 : (t0 :: rest)[0]? = some t0 := rfl
        have h3' : (0 : Int) < (t0 :: rest).length := by omega
        have hlt := trim_lt t0 rest
        have hD := drop_eq (m := t0.Mod) hpw fun x hx => by
          rcases List.mem_cons.1 hx with rfl | hx
          · exact Int.le_refl _
          · exact (List.pairwise_cons.1 hpw).1 x hx
        have ih' := ih (((t0 :: rest).filter fun x => !(x.Mod == t0.Mod)), t0.Mod) ⟨by rw [← htr, trimT_step hl], by simp only; omega, hpw.sublist List.filter_sublist⟩ (by simp only; omega)
        clear ih
        generalize hL : t0 :: rest = L at *
        simp only [h1, h2, h3', Int.le_refl, go_sem]
        repeat' ((first | ((first | apply qa | apply qb | apply qc | apply qd | apply qe | apply qf | apply qg | apply qh | apply qi | apply qj | apply qk) <;> intro hp) | ((first | refine ql rfl rfl (by decide +kernel) ?_ | refine qm _ rfl rfl (by decide +kernel) ?_ | refine goes_opn rfl ?_ | refine goes_opnD rfl rfl (by decide +kernel) ?_) <;> have hp := True.intro)) <;> simp only [hp, h1, h2, h3', Int.le_refl, go_sem])
        refine loop_go (fun q : List Tomb => []) (fun q => [(7, ⟨.arr, 2, q.map Tomb.enc⟩)]) (fun q => q.length) (fun q => q.dropWhile (fun x => decide (x.Mod ≤ t0.Mod)) = L.dropWhile (fun x => decide (x.Mod ≤ t0.Mod)) ∧ q.length ≤ 70) L ⟨rfl, htl2⟩ rfl rfl ?_
        rintro q ⟨hq, hql⟩ ih2
        rw [hD, ← hq] at ih'
        cases q with
        | nil =>
          have n1 : ¬ (0 : Int) < ([] : List Tomb).length := by simp
          rw [List.dropWhile_nil] at ih'
          generalize hR : ([] : List Tomb) = Q at *
          simp only [n1, go_sem]
          repeat' ((first | ((first | apply qa | apply qb | apply qc | apply qd | apply qe | apply qf | apply qg | apply qh | apply qi | apply qj | apply qk) <;> intro hp) | ((first | refine ql rfl rfl (by decide +kernel) ?_ | refine qm _ rfl rfl (by decide +kernel) ?_ | refine goes_opn rfl ?_ | refine goes_opnD rfl rfl (by decide +kernel) ?_) <;> have hp := True.intro)) <;> simp only [hp, n1, go_sem])
          exact ih'
        | cons x r =>
          have p1 : (0 : Int) < (x :: r).length := by simp only [List.length_cons]; omega
          have p2 : (x :: r)[0]? = some x := rfl
          by_cases hx : x.Mod ≤ t0.Mod
          · have e2 : decide (x.Mod ≤ t0.Mod) = true := by rw [decide_eq_true_eq]; exact hx
            have ih2' := ih2 r ⟨by rw [← hq, List.dropWhile_cons, e2, if_pos rfl], by simp only [List.length_cons] at hql; omega⟩ (by simp only [List.length_cons]; omega)
            have p3 : (x :: r).drop 1 = r := rfl
            have p4 : (x :: r).length - 1 = r.length := rfl
            have p5 : r.length * 16 ≤ 140737488355328 := by simp only [List.length_cons] at hql; omega
            have p6 : r.length ≤ 9223372036854775807 := by simp only [List.length_cons] at hql; omega
            have p7 : 1 ≤ (x :: r).length := by simp only [List.length_cons]; omega
            have p8 : (x :: r).length ≤ 70 := hql
            have p9 : 1 + r.length = (x :: r).length := by simp only [List.length_cons]; omega
            generalize hR : x :: r = Q at *
            simp only [p1, p2, hx, p3, p4, p5, p6, p7, p9, List.take_length, Int.le_refl, Nat.le_refl, go_sem]
            repeat' ((first | ((first | apply qa | apply qb | apply qc | apply qd | apply qe | apply qf | apply qg | apply qh | apply qi | apply qj | apply qk) <;> intro hp) | ((first | refine ql rfl rfl (by decide +kernel) ?_ | refine qm _ rfl rfl (by decide +kernel) ?_ | refine goes_opn rfl ?_ | refine goes_opnD rfl rfl (by decide +kernel) ?_) <;> have hp := True.intro)) <;> simp only [hp, p1, p2, hx, p3, p4, p5, p6, p7, p9, List.take_length, Int.le_refl, Nat.le_refl, go_sem])
            exact ih2'
          · have e2 : decide (x.Mod ≤ t0.Mod) = false := by rw [decide_eq_false_iff_not]; exact hx
            rw [List.dropWhile_cons, e2, if_neg (by simp)] at ih'
            generalize hR : x :: r = Q at *
            simp only [p1, p2, hx, Int.le_refl, go_sem]
            repeat' ((first | ((first | apply qa | apply qb | apply qc | apply qd | apply qe | apply qf | apply qg | apply qh | apply qi | apply qj | apply qk) <;> intro hp) | ((first | refine ql rfl rfl (by decide +kernel) ?_ | refine qm _ rfl rfl (by decide +kernel) ?_ | refine goes_opn rfl ?_ | refine goes_opnD rfl rfl (by decide +kernel) ?_) <;> have hp := True.intro)) <;> simp only [hp, p1, p2, hx, Int.le_refl, go_sem])
            exact ih'
    · have h1 : ¬ (40 : Int) < ts.length := by omega
      rw [trimT_end hl] at htr
      clear ih
      have hle : Box.le 4194304 ⟨b.Name, b.Valid, b.Next, b.Mod + 1, Ms, ts, hz2⟩ := by rw [hM]; exact exOut_le hc (by omega)
      have hbo : boxOk ⟨b.Name, b.Valid, b.Next, b.Mod + 1, Ms, ts, hz2⟩ = boxOk (exOut b s) := by rw [exOut, ← htr, hM]; rfl
      cases k3 : boxOk (exOut b s) with
      | false =>
        have hg : exGood b s = false := by simp [exGood, k3]
        simp only [h1, hle, hbo, k3, go_sem]
        repeat' ((first | ((first | apply qa | apply qb | apply qc | apply qd | apply qe | apply qf | apply qg | apply qh | apply qi | apply qj | apply qk) <;> intro hp) | ((first | refine ql rfl rfl (by decide +kernel) ?_ | refine qm _ rfl rfl (by decide +kernel) ?_ | refine goes_opn rfl ?_ | refine goes_opnD rfl rfl (by decide +kernel) ?_) <;> have hp := True.intro)) <;> simp only [hp, h1, hle, hbo, k3, go_sem])
        simp only [fin_mk, finV, resL, resV1, resIn, endA, listIn, Option.some_or, Option.none_or, oneOrTup, go_sem]
        rw [← hr]
        simp only [expunge, exGone, hg, Bool.false_eq_true, if_false]; rfl
      | true =>
        have hg : exGood b s = true := by simp [exGood, k1, k2, k3, hU1]
        simp only [h1, hle, hbo, k3, go_sem]
        repeat' ((first | ((first | apply qa | apply qb | apply qc | apply qd | apply qe | apply qf | apply qg | apply qh | apply qi | apply qj | apply qk) <;> intro hp) | ((first | refine ql rfl rfl (by decide +kernel) ?_ | refine qm _ rfl rfl (by decide +kernel) ?_ | refine goes_opn rfl ?_ | refine goes_opnD rfl rfl (by decide +kernel) ?_) <;> have hp := True.intro)) <;> simp only [hp, h1, hle, hbo, k3, go_sem])
        simp only [fin_mk, finV, resL, resV1, resIn, endA, listIn, Option.some_or, Option.none_or, oneOrTup, go_sem]
        rw [← hr]
        simp only [expunge, exGone, hg, if_true, ← hU]
        rw [exOut, ← htr, exMails, ← hM]; rfl
end Go.Proofs.Ytimiccneikhkgaa.L
