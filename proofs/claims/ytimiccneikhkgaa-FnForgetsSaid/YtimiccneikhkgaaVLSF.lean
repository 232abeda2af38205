/- Flags of mails that are set. -/
import Derived.Test.YtimiccneikhkgaaVLU
namespace Go.Proofs.Ytimiccneikhkgaa.L
open Go Go.VM
set_option maxRecDepth 100000
set_option maxHeartbeats 4000000
set_option linter.unusedSimpArgs false
set_option linter.unusedVariables false
def lateM (s : List Range) (since : Int) (m : Mail) : Bool := hasR s m.Uid && (decide (0 ≤ since) && decide (since < m.Mod))
def chM (s : List Range) (how bits since : Int) (m : Mail) : Bool := hasR s m.Uid && !(decide (0 ≤ since) && decide (since < m.Mod)) && (flagsAfter m.Flags how bits != m.Flags)
def newM (s : List Range) (how bits since md : Int) (m : Mail) : Mail := if chM s how bits since m = true then ⟨m.Uid, flagsAfter m.Flags how bits, md + 1, m.Text⟩ else m
def doneL (b : List Mail) (s : List Range) (how bits since : Int) : List Int := (b.filter (chM s how bits since)).map (·.Uid)
def lateL (b : List Mail) (s : List Range) (since : Int) : List Int := (b.filter (lateM s since)).map (·.Uid)
def setOut (b : Box) (s : List Range) (how bits since : Int) : Box := ⟨b.Name, b.Valid, b.Next, if doneL b.Mails s how bits since = [] then b.Mod else b.Mod + 1, b.Mails.map (newM s how bits since b.Mod), b.Tombs, b.Horizon⟩
def setIn (b : Box) (s : List Range) (how bits : Int) : Bool := boxOk b && setOk s && within how 1 3 && flagsOk bits
def setGood (b : Box) (s : List Range) (how bits since : Int) : Bool := setIn b s how bits && boxOk (setOut b s how bits since)
def setFlags (b : Box) (s : List Range) (how bits since : Int) : Box := if setGood b s how bits since = true then setOut b s how bits since else b
def setDone (b : Box) (s : List Range) (how bits since : Int) : List Range := if setGood b s how bits since = true then setOf (doneL b.Mails s how bits since) else []
def setLate (b : Box) (s : List Range) (how bits since : Int) : List Range := if setGood b s how bits since = true then setOf (lateL b.Mails s since) else []
theorem map_at {α : Type} {f : α → α} {l : List α} {i : Nat} (h : i < l.length) : (l.take i).map f ++ l.drop i = (l.take i).map f ++ l[i] :: l.drop (i + 1) := by
  rw [List.drop_eq_getElem_cons h]
theorem map_get {α : Type} {f : α → α} {l : List α} {i : Nat} (h : i < l.length) : ((l.take i).map f ++ l.drop i)[i]? = some l[i] := by
  rw [map_at h, List.getElem?_append_right (by rw [List.length_map, List.length_take]; omega), List.length_map, List.length_take, Nat.min_eq_left (by omega), Nat.sub_self]; rfl
theorem map_set {α : Type} {f : α → α} {l : List α} {i : Nat} (h : i < l.length) : ((l.take i).map f ++ l.drop i).set i (f l[i]) = (l.take (i + 1)).map f ++ l.drop (i + 1) := by
  rw [map_at h, List.set_append_right _ _ (by rw [List.length_map, List.length_take]; omega), List.length_map, List.length_take, Nat.min_eq_left (by omega), Nat.sub_self, take_succ' h, List.set_cons_zero, List.map_append, List.append_assoc]
  rfl
theorem map_same {α : Type} {f : α → α} {l : List α} {i : Nat} (h : i < l.length) (hf : f l[i] = l[i]) : (l.take i).map f ++ l.drop i = (l.take (i + 1)).map f ++ l.drop (i + 1) := by
  rw [map_at h, take_succ' h, List.map_append, List.append_assoc, List.map_cons, List.map_nil, hf]
  rfl
theorem doneL_succ {l : List Mail} {s : List Range} {how bits since : Int} {i : Nat} (h : i < l.length) : doneL (l.take (i + 1)) s how bits since = doneL (l.take i) s how bits since ++ (if chM s how bits since l[i] = true then [l[i].Uid] else []) := by
  unfold doneL
  rw [filter_succ h, List.map_append]
  congr 1
  split <;> simp
theorem lateL_succ {l : List Mail} {s : List Range} {since : Int} {i : Nat} (h : i < l.length) : lateL (l.take (i + 1)) s since = lateL (l.take i) s since ++ (if lateM s since l[i] = true then [l[i].Uid] else []) := by
  unfold lateL
  rw [filter_succ h, List.map_append]
  congr 1
  split <;> simp
theorem newM_le {b : Box} (hc : b.le 4194304) (s : List Range) (how bits since md : Int) : Box.le 4194304 ⟨b.Name, b.Valid, b.Next, md, b.Mails.map (newM s how bits since b.Mod), b.Tombs, b.Horizon⟩ := by
  refine ⟨hc.1, ⟨by rw [List.length_map]; exact hc.2.1.1, fun m hm => ?_⟩, hc.2.2⟩
  obtain ⟨x, hx, rfl⟩ := List.mem_map.1 hm
  unfold newM
  split
  · exact hc.2.1.2 x hx
  · exact hc.2.1.2 x hx
open Classical in
noncomputable def spSetFlags : VM.Spec := { modes := [.rd, .rd, .rd, .rd, .rd], run := fun | [b', .lst 2 s', .int .i64 how, .int .i64 bits, .int .i64 since] => (Box.dec b').bind fun b => (decL Range.dec s').bind fun s => if b.le 4194304 ∧ s.length ≤ 4194304 then some (.tup [Box.enc (setFlags b s how bits since), .lst 2 ((setDone b s how bits since).map Range.enc), .lst 2 ((setLate b s how bits since).map Range.enc)], []) else none | _ => none, need := [] }
attribute [go_sem] spSetFlags
theorem spSetFlags_in {ins : List V} {r : V} {outs : List V} (h : spSetFlags.run ins = some (r, outs)) : ∃ (b : Box) (s : (List Range)) (how : Int) (bits : Int) (since : Int), ins = [Box.enc b, .lst 2 ((s).map Range.enc), .int .i64 how, .int .i64 bits, .int .i64 since] ∧ (b.le 4194304 ∧ s.length ≤ 4194304) ∧ .tup [Box.enc (setFlags b s how bits since), .lst 2 ((setDone b s how bits since).map Range.enc), .lst 2 ((setLate b s how bits since).map Range.enc)] = r ∧ outs = [] := by
  unfold spSetFlags at h
  simp only at h
  split at h
  · rename_i b' s' how bits since
    simp only [Option.bind_eq_some_iff] at h
    obtain ⟨b, h_b, s, h_s, h⟩ := h
    split at h
    case isFalse => cases h
    rename_i hc
    simp only [Option.some.injEq, Prod.mk.injEq] at h
    obtain ⟨h1, h2⟩ := h
    have h_b := Box.dec_some h_b
    subst h_b
    have h_s := decL_some (fun _ _ h => Range.dec_some h) h_s
    subst h_s
    exact ⟨b, s, how, bits, since, rfl, hc, h1, h2.symm⟩
  · cases h
def T_spec_SetFlags : Hints := ⟨fun i => if i = 15 then some [] else none, fun i => if i = 8 then some [1, 2, 3, 4, 5, 10, 13, 14, 15, 16, 17] else none, fun i => if i = 0 then some [1, 2, 3, 4, 5, 10] else if i = 1 then some [1, 2, 3, 4, 5, 10, 13] else if i = 2 then some [1, 2, 3, 4, 5, 10, 13, 14] else if i = 3 then some [1, 2, 3, 4, 5, 10, 13, 14, 15] else if i = 4 then some [1, 2, 3, 4, 5, 10, 13, 14, 15, 40] else if i = 5 then some [10, 11, 12] else if i = 6 then some [1, 2, 3, 4, 5, 10, 13, 14, 15, 16] else if i = 7 then some [1, 2, 3, 4, 5, 10, 13, 14, 15, 16, 17] else if i = 8 then some [1, 2, 3, 4, 5, 10, 13, 14, 15, 16, 17, 50] else if i = 10 then some [1, 2, 3, 4, 5, 10, 13, 14, 15, 16, 17, 18] else if i = 11 then some [1, 2, 3, 4, 5, 10, 13, 14, 15, 16, 17, 18, 62] else if i = 12 then some [1, 2, 3, 4, 5, 10, 13, 14, 15, 16, 17, 18, 70] else if i = 13 then some [1, 2, 3, 4, 5, 10, 13, 14, 15, 16, 17] else if i = 14 then some [1, 2, 3, 4, 5, 10, 13, 14, 15, 16, 17, 18] else if i = 15 then some [1, 2, 3, 4, 5, 10, 13, 14, 15, 16, 17, 18, 94] else if i = 16 then some [1, 2, 3, 4, 5, 10, 13, 14, 15, 16, 17, 18] else if i = 17 then some [1, 2, 3, 4, 5, 10, 13, 14, 15, 16, 17, 18] else if i = 18 then some [1, 2, 3, 4, 5, 10, 13, 14, 15, 16, 17, 18] else if i = 19 then some [1, 2, 3, 4, 5, 10, 13, 14, 15, 16, 17] else if i = 9 then some [1, 2, 3, 4, 5, 10, 13, 14, 15, 16, 17] else if i = 20 then some [10, 13, 14, 15, 16, 119] else if i = 21 then some [10, 11, 12] else if i = 22 then some [10, 11, 12] else none, fun _ => none⟩
noncomputable def Phi_spec_SetFlags : Tab := fun f => if f = 53 then some spCopyBox else if f = 23 then some spBoxOk else if f = 54 then some spSetOk else if f = 43 then some spWithin else if f = 44 then some spFlagsOk else if f = 55 then some spSetHas else if f = 56 then some spFlagsAfter else if f = 24 then some spSetAdd else none
attribute [go_sem] T_spec_SetFlags Phi_spec_SetFlags
theorem phi_spec_SetFlags : ∀ f sp, Phi_spec_SetFlags f = some sp → FnOk Try.prog f sp ∧ ∀ n ∈ sp.need, n ∈ ([] : List String) := by
  intro f sp h
  unfold Phi_spec_SetFlags at h
  by_cases e : f = 53
  · rw [if_pos e] at h; cases h; rw [e]; exact ⟨ok_spec_l08Copy, (fun n (h : n ∈ ([] : List String)) => (nomatch h))⟩
  rw [if_neg e] at h
  by_cases e : f = 23
  · rw [if_pos e] at h; cases h; rw [e]; exact ⟨ok_spec_BoxOk, (fun n (h : n ∈ ([] : List String)) => (nomatch h))⟩
  rw [if_neg e] at h
  by_cases e : f = 54
  · rw [if_pos e] at h; cases h; rw [e]; exact ⟨ok_spec_SetOk, (fun n (h : n ∈ ([] : List String)) => (nomatch h))⟩
  rw [if_neg e] at h
  by_cases e : f = 43
  · rw [if_pos e] at h; cases h; rw [e]; exact ⟨ok_spec_l01In, (fun n (h : n ∈ ([] : List String)) => (nomatch h))⟩
  rw [if_neg e] at h
  by_cases e : f = 44
  · rw [if_pos e] at h; cases h; rw [e]; exact ⟨ok_spec_FlagsOk, (fun n (h : n ∈ ([] : List String)) => (nomatch h))⟩
  rw [if_neg e] at h
  by_cases e : f = 55
  · rw [if_pos e] at h; cases h; rw [e]; exact ⟨ok_spec_SetHas, (fun n (h : n ∈ ([] : List String)) => (nomatch h))⟩
  rw [if_neg e] at h
  by_cases e : f = 56
  · rw [if_pos e] at h; cases h; rw [e]; exact ⟨ok_spec_FlagsAfter, (fun n (h : n ∈ ([] : List String)) => (nomatch h))⟩
  rw [if_neg e] at h
  by_cases e : f = 24
  · rw [if_pos e] at h; cases h; rw [e]; exact ⟨ok_spec_SetAdd, (fun n (h : n ∈ ([] : List String)) => (nomatch h))⟩
  rw [if_neg e] at h
  cases h
theorem ok_spec_SetFlags : FnOk Try.prog 33 spSetFlags := by
  refine fn_ok (Φ := Phi_spec_SetFlags) (T := T_spec_SetFlags) phi_spec_SetFlags mixed Try.func33 rfl rfl rfl (by decide) ?_
  intro ins r outs hr hl
  clear hl
  have hs := spSetFlags_in hr
  clear hr
  obtain ⟨b, s, how, bits, since, rfl, hc, hr, rfl⟩ := hs
  simp only [spSetFlags, Try.f33, Go.VM.initS]
  obtain ⟨hc, hs⟩ := hc
  have hs8 : s.length ≤ 8388608 := by omega
  cases hk : boxOk b with
  | false =>
    have hg : setGood b s how bits since = false := by simp [setGood, setIn, hk]
    simp only [setFlags, setDone, setLate, hg, Bool.false_eq_true, if_false] at hr
    simp only [hc, hs, hk, go_sem]
    repeat' ((first | ((first | apply qa | apply qb | apply qc | apply qd | apply qe | apply qf | apply qg | apply qh | apply qi | apply qj | apply qk) <;> intro hp) | ((first | refine ql rfl rfl (by decide +kernel) ?_ | refine qm _ rfl rfl (by decide +kernel) ?_ | refine goes_opn rfl ?_ | refine goes_opnD rfl rfl (by decide +kernel) ?_) <;> have hp := True.intro)) <;> simp only [hp, hc, hs, hk, go_sem])
    all_goals (simp only [fin_mk, finV, resL, resV1, resIn, endA, listIn, Option.some_or, Option.none_or, oneOrTup, go_sem]; rw [← hr])
    all_goals rfl
  | true =>
  cases hk2 : setOk s with
  | false =>
    have hg : setGood b s how bits since = false := by simp [setGood, setIn, hk2]
    simp only [setFlags, setDone, setLate, hg, Bool.false_eq_true, if_false] at hr
    simp only [hc, hs, hk, hk2, go_sem]
    repeat' ((first | ((first | apply qa | apply qb | apply qc | apply qd | apply qe | apply qf | apply qg | apply qh | apply qi | apply qj | apply qk) <;> intro hp) | ((first | refine ql rfl rfl (by decide +kernel) ?_ | refine qm _ rfl rfl (by decide +kernel) ?_ | refine goes_opn rfl ?_ | refine goes_opnD rfl rfl (by decide +kernel) ?_) <;> have hp := True.intro)) <;> simp only [hp, hc, hs, hk, hk2, go_sem])
    all_goals (simp only [fin_mk, finV, resL, resV1, resIn, endA, listIn, Option.some_or, Option.none_or, oneOrTup, go_sem]; rw [← hr])
    all_goals rfl
  | true =>
  cases hk3 : within how 1 3 with
  | false =>
    have hg : setGood b s how bits since = false := by simp [setGood, setIn, hk3]
    simp only [setFlags, setDone, setLate, hg, Bool.false_eq_true, if_false] at hr
    simp only [hc, hs, hk, hk2, hk3, go_sem]
    repeat' ((first | ((first | apply qa | apply qb | apply qc | apply qd | apply qe | apply qf | apply qg | apply qh | apply qi | apply qj | apply qk) <;> intro hp) | ((first | refine ql rfl rfl (by decide +kernel) ?_ | refine qm _ rfl rfl (by decide +kernel) ?_ | refine goes_opn rfl ?_ | refine goes_opnD rfl rfl (by decide +kernel) ?_) <;> have hp := True.intro)) <;> simp only [hp, hc, hs, hk, hk2, hk3, go_sem])
    all_goals (simp only [fin_mk, finV, resL, resV1, resIn, endA, listIn, Option.some_or, Option.none_or, oneOrTup, go_sem]; rw [← hr])
    all_goals rfl
  | true =>
  cases hk4 : flagsOk bits with
  | false =>
    have hg : setGood b s how bits since = false := by simp [setGood, setIn, hk4]
    simp only [setFlags, setDone, setLate, hg, Bool.false_eq_true, if_false] at hr
    simp only [hc, hs, hk, hk2, hk3, hk4, go_sem]
    repeat' ((first | ((first | apply qa | apply qb | apply qc | apply qd | apply qe | apply qf | apply qg | apply qh | apply qi | apply qj | apply qk) <;> intro hp) | ((first | refine ql rfl rfl (by decide +kernel) ?_ | refine qm _ rfl rfl (by decide +kernel) ?_ | refine goes_opn rfl ?_ | refine goes_opnD rfl rfl (by decide +kernel) ?_) <;> have hp := True.intro)) <;> simp only [hp, hc, hs, hk, hk2, hk3, hk4, go_sem])
    all_goals (simp only [fin_mk, finV, resL, resV1, resIn, endA, listIn, Option.some_or, Option.none_or, oneOrTup, go_sem]; rw [← hr])
    all_goals rfl
  | true =>
    have hp := boxOk_parts hk
    have hn := numsOk_next hp.1
    have hn0 : 1 ≤ b.Mod ∧ b.Mod ≤ 100000 := by have := hp.1; simp only [numsOk, within, Bool.and_eq_true, decide_eq_true_eq] at this; omega
    have hml : b.Mails.length ≤ 30 := hp.2.1
    have w1 : IntKind.i64.wrap (b.Mod + 1) = b.Mod + 1 := wrap64 (by omega) (by omega)
    clear hp hn
    simp only [hc, hs, hk, hk2, hk3, hk4, hs8, go_sem]
    repeat' ((first | ((first | apply qa | apply qb | apply qc | apply qd | apply qe | apply qf | apply qg | apply qh | apply qi | apply qj | apply qk) <;> intro hp) | ((first | refine ql rfl rfl (by decide +kernel) ?_ | refine qm _ rfl rfl (by decide +kernel) ?_ | refine goes_opn rfl ?_ | refine goes_opnD rfl rfl (by decide +kernel) ?_) <;> have hp := True.intro)) <;> simp only [hp, hc, hs, hk, hk2, hk3, hk4, hs8, go_sem])
    refine loop_go (fun i : Nat => [(17, .int .i64 (i : Int))]) (fun i => [(3, ⟨.arr, 2, (setOf (doneL (b.Mails.take i) s how bits since)).map Range.enc⟩), (4, ⟨.arr, 2, (setOf (lateL (b.Mails.take i) s since)).map Range.enc⟩), (5, ⟨.box, 7, [.agg [.str b.Name, .int .i64 b.Valid, .int .i64 b.Next, .int .i64 (if doneL (b.Mails.take i) s how bits since = [] then b.Mod else b.Mod + 1), .own 8, .own 9, .int .i64 b.Horizon]]⟩), (8, ⟨.arr, 4, ((b.Mails.take i).map (newM s how bits since b.Mod) ++ b.Mails.drop i).map Mail.enc⟩)]) (fun i => b.Mails.length - i) (fun i => i ≤ b.Mails.length) 0 (Nat.zero_le _) rfl (by simp only [show doneL (List.take 0 b.Mails) s how bits since = [] from rfl, show lateL (List.take 0 b.Mails) s since = [] from rfl, setOf_nil', if_true]; rfl) ?_
    intro i hi ih
    have hD : (doneL (b.Mails.take i) s how bits since).length ≤ b.Mails.length := uids_len b.Mails (chM s how bits since) i
    have hL : (lateL (b.Mails.take i) s since).length ≤ b.Mails.length := uids_len b.Mails (lateM s since) i
    rcases Nat.lt_or_ge i b.Mails.length with h | h
    · have g1 : (i : Int) < b.Mails.length := by omega
      have g2 : (0 : Int) ≤ i := by omega
      have g3 : b.Mails[i]? = some b.Mails[i] := List.getElem?_eq_getElem h
      have g5 := wrap_succ h (by omega)
      have ih' := ih (i + 1) h (by omega)
      clear ih
      rw [doneL_succ h, lateL_succ h] at ih'
      have e0 := map_get (f := newM s how bits since b.Mod) h
      have e1 := map_set (f := newM s how bits since b.Mod) h
      have e2 := map_same (f := newM s how bits since b.Mod) h
      have hin := mail_in hk h
      have hXl : ((b.Mails.take i).map (newM s how bits since b.Mod) ++ b.Mails.drop i).length = b.Mails.length := by simp; omega
      generalize hmm : b.Mails[i] = m at *
      generalize hM : (b.Mails.take i).map (newM s how bits since b.Mod) ++ b.Mails.drop i = M at *
      generalize hM' : (b.Mails.take (i + 1)).map (newM s how bits since b.Mod) ++ b.Mails.drop (i + 1) = M' at *
      generalize hDD : doneL (b.Mails.take i) s how bits since = D at *
      generalize hLL : lateL (b.Mails.take i) s since = L at *
      have g4 : (i : Int) < M.length := by omega
      have b1 := setAdd_one (S := D) (u := m.Uid) (by omega) (by omega)
      have b2 := setAdd_one (S := L) (u := m.Uid) (by omega) (by omega)
      have b3 : (setOf D).length ≤ 4194304 := Nat.le_trans (setOf_len D) (by omega)
      have b4 : (setOf L).length ≤ 4194304 := Nat.le_trans (setOf_len L) (by omega)
      have b5 := b1.1
      have b6 := b1.2
      have b7 := b2.1
      have b8 := b2.2
      clear b1 b2
      cases c1 : hasR s m.Uid with
      | false =>
        have q1 : chM s how bits since m = false := by simp [chM, c1]
        have q2 : lateM s since m = false := by simp [lateM, c1]
        have q3 := e2 (by simp [newM, q1])
        rw [q1, q2, ← q3] at ih'
        simp only [Bool.false_eq_true, if_false, List.append_nil] at ih'
        clear e1 e2
        simp only [g1, g2, g3, g4, g5, w1, e0, hXl, hs8, c1, go_sem]
        repeat' ((first | ((first | apply qa | apply qb | apply qc | apply qd | apply qe | apply qf | apply qg | apply qh | apply qi | apply qj | apply qk) <;> intro hp) | ((first | refine ql rfl rfl (by decide +kernel) ?_ | refine qm _ rfl rfl (by decide +kernel) ?_ | refine goes_opn rfl ?_ | refine goes_opnD rfl rfl (by decide +kernel) ?_) <;> have hp := True.intro)) <;> simp only [hp, g1, g2, g3, g4, g5, w1, e0, hXl, hs8, c1, go_sem])
        all_goals exact ih'
      | true =>
        by_cases k1 : 0 ≤ since
        · by_cases k2 : since < m.Mod
          · have q1 : chM s how bits since m = false := by simp [chM, c1, k1, k2]
            have q2 : lateM s since m = true := by simp [lateM, c1, k1, k2]
            have q3 := e2 (by simp [newM, q1])
            rw [q1, q2, ← q3] at ih'
            simp only [Bool.false_eq_true, if_false, if_true, List.append_nil, List.map_append, List.map_cons, List.map_nil] at ih'
            clear e1 e2
            simp only [g1, g2, g3, g4, g5, w1, e0, hXl, hs8, c1, k1, k2, b3, b4, b5, b6, b7, b8, go_sem]
            repeat' ((first | ((first | apply qa | apply qb | apply qc | apply qd | apply qe | apply qf | apply qg | apply qh | apply qi | apply qj | apply qk) <;> intro hp) | ((first | refine ql rfl rfl (by decide +kernel) ?_ | refine qm _ rfl rfl (by decide +kernel) ?_ | refine goes_opn rfl ?_ | refine goes_opnD rfl rfl (by decide +kernel) ?_) <;> have hp := True.intro)) <;> simp only [hp, g1, g2, g3, g4, g5, w1, e0, hXl, hs8, c1, k1, k2, b3, b4, b5, b6, b7, b8, go_sem])
            all_goals first | exact ih' | (clear ih'; omega)
          · have hno : (decide (0 ≤ since) && decide (since < m.Mod)) = false := by simp [k2]
            have q2 : lateM s since m = false := by simp [lateM, c1, hno]
            rw [q2] at ih'
            cases c3 : (flagsAfter m.Flags how bits != m.Flags) with
            | false =>
              have q1 : chM s how bits since m = false := by simp [chM, c1, hno, c3]
              have q3 := e2 (by simp [newM, q1])
              rw [q1, ← q3] at ih'
              simp only [Bool.false_eq_true, if_false, List.append_nil] at ih'
              clear e1 e2
              simp only [g1, g2, g3, g4, g5, w1, e0, hXl, hs8, c1, c3, k1, k2, go_sem]
              repeat' ((first | ((first | apply qa | apply qb | apply qc | apply qd | apply qe | apply qf | apply qg | apply qh | apply qi | apply qj | apply qk) <;> intro hp) | ((first | refine ql rfl rfl (by decide +kernel) ?_ | refine qm _ rfl rfl (by decide +kernel) ?_ | refine goes_opn rfl ?_ | refine goes_opnD rfl rfl (by decide +kernel) ?_) <;> have hp := True.intro)) <;> simp only [hp, g1, g2, g3, g4, g5, w1, e0, hXl, hs8, c1, c3, k1, k2, go_sem])
              all_goals exact ih'
            | true =>
              have q1 : chM s how bits since m = true := by simp only [chM, c1, hno, c3]; rfl
              have q4 : newM s how bits since b.Mod m = ⟨m.Uid, flagsAfter m.Flags how bits, b.Mod + 1, m.Text⟩ := by simp only [newM, q1, if_true]
              rw [q4] at e1
              rw [q1, ← e1] at ih'
              simp only [Bool.false_eq_true, if_false, if_true, List.append_nil, List.map_append, List.map_cons, List.map_nil, List.map_set, Mail.enc, List.append_eq_nil_iff, reduceCtorEq, and_false] at ih'
              clear e1 e2
              generalize hF : flagsAfter m.Flags how bits = F at *
              have hgs : ∀ y : V, ((List.map Mail.enc M).set i y)[i]? = some y := fun y => List.getElem?_set_self (by rw [List.length_map]; omega)
              simp only [g1, g2, g3, g4, g5, w1, e0, hXl, hs8, c1, c3, k1, k2, b3, b4, b5, b6, b7, b8, hF, hgs, List.set_set, go_sem]
              repeat' ((first | ((first | apply qa | apply qb | apply qc | apply qd | apply qe | apply qf | apply qg | apply qh | apply qi | apply qj | apply qk) <;> intro hp) | ((first | refine ql rfl rfl (by decide +kernel) ?_ | refine qm _ rfl rfl (by decide +kernel) ?_ | refine goes_opn rfl ?_ | refine goes_opnD rfl rfl (by decide +kernel) ?_) <;> have hp := True.intro)) <;> simp only [hp, g1, g2, g3, g4, g5, w1, e0, hXl, hs8, c1, c3, k1, k2, b3, b4, b5, b6, b7, b8, hF, hgs, List.set_set, go_sem])
              all_goals first | exact ih' | (clear ih'; omega)
        · have hno : (decide (0 ≤ since) && decide (since < m.Mod)) = false := by simp [k1]
          have q2 : lateM s since m = false := by simp [lateM, c1, hno]
          rw [q2] at ih'
          cases c3 : (flagsAfter m.Flags how bits != m.Flags) with
          | false =>
            have q1 : chM s how bits since m = false := by simp [chM, c1, hno, c3]
            have q3 := e2 (by simp [newM, q1])
            rw [q1, ← q3] at ih'
            simp only [Bool.false_eq_true, if_false, List.append_nil] at ih'
            clear e1 e2
            simp only [g1, g2, g3, g4, g5, w1, e0, hXl, hs8, c1, c3, k1, go_sem]
            repeat' ((first | ((first | apply qa | apply qb | apply qc | apply qd | apply qe | apply qf | apply qg | apply qh | apply qi | apply qj | apply qk) <;> intro hp) | ((first | refine ql rfl rfl (by decide +kernel) ?_ | refine qm _ rfl rfl (by decide +kernel) ?_ | refine goes_opn rfl ?_ | refine goes_opnD rfl rfl (by decide +kernel) ?_) <;> have hp := True.intro)) <;> simp only [hp, g1, g2, g3, g4, g5, w1, e0, hXl, hs8, c1, c3, k1, go_sem])
            all_goals exact ih'
          | true =>
            have q1 : chM s how bits since m = true := by simp only [chM, c1, hno, c3]; rfl
            have q4 : newM s how bits since b.Mod m = ⟨m.Uid, flagsAfter m.Flags how bits, b.Mod + 1, m.Text⟩ := by simp only [newM, q1, if_true]
            rw [q4] at e1
            rw [q1, ← e1] at ih'
            simp only [Bool.false_eq_true, if_false, if_true, List.append_nil, List.map_append, List.map_cons, List.map_nil, List.map_set, Mail.enc, List.append_eq_nil_iff, reduceCtorEq, and_false] at ih'
            clear e1 e2
            generalize hF : flagsAfter m.Flags how bits = F at *
            have hgs : ∀ y : V, ((List.map Mail.enc M).set i y)[i]? = some y := fun y => List.getElem?_set_self (by rw [List.length_map]; omega)
            simp only [g1, g2, g3, g4, g5, w1, e0, hXl, hs8, c1, c3, k1, b3, b4, b5, b6, b7, b8, hF, hgs, List.set_set, go_sem]
            repeat' ((first | ((first | apply qa | apply qb | apply qc | apply qd | apply qe | apply qf | apply qg | apply qh | apply qi | apply qj | apply qk) <;> intro hp) | ((first | refine ql rfl rfl (by decide +kernel) ?_ | refine qm _ rfl rfl (by decide +kernel) ?_ | refine goes_opn rfl ?_ | refine goes_opnD rfl rfl (by decide +kernel) ?_) <;> have hp := True.intro)) <;> simp only [hp, g1, g2, g3, g4, g5, w1, e0, hXl, hs8, c1, c3, k1, b3, b4, b5, b6, b7, b8, hF, hgs, List.set_set, go_sem])
            all_goals first | exact ih' | (clear ih'; omega)
    · have g1 : ¬ (i : Int) < b.Mails.length := by omega
      rw [List.take_of_length_le h] at hD hL ⊢
      rw [List.drop_of_length_le h, List.append_nil]
      have hMl : (b.Mails.map (newM s how bits since b.Mod)).length = b.Mails.length := List.length_map _
      have hle := newM_le hc s how bits since
      have hO : setOut b s how bits since = ⟨b.Name, b.Valid, b.Next, if doneL b.Mails s how bits since = [] then b.Mod else b.Mod + 1, b.Mails.map (newM s how bits since b.Mod), b.Tombs, b.Horizon⟩ := rfl
      have hG : setGood b s how bits since = boxOk (setOut b s how bits since) := by rw [setGood, setIn, hk, hk2, hk3, hk4]; rfl
      simp only [setFlags, setDone, setLate, hG] at hr
      clear hG ih
      rw [hO] at hr
      generalize hMM : b.Mails.map (newM s how bits since b.Mod) = M at *
      generalize hDD : doneL b.Mails s how bits since = D at *
      generalize hLL : lateL b.Mails s since = L at *
      have g2 : ¬ (i : Int) < M.length := by omega
      by_cases hd : D = []
      · rw [if_pos hd] at hr ⊢
        
        cases hB : boxOk ⟨b.Name, b.Valid, b.Next, b.Mod, M, b.Tombs, b.Horizon⟩ with
        | false =>
          rw [hB] at hr
          simp only [Bool.false_eq_true, if_false] at hr
          simp only [g1, g2, hMl, hle, hB, hc, w1, go_sem]
          repeat' ((first | ((first | apply qa | apply qb | apply qc | apply qd | apply qe | apply qf | apply qg | apply qh | apply qi | apply qj | apply qk) <;> intro hp) | ((first | refine ql rfl rfl (by decide +kernel) ?_ | refine qm _ rfl rfl (by decide +kernel) ?_ | refine goes_opn rfl ?_ | refine goes_opnD rfl rfl (by decide +kernel) ?_) <;> have hp := True.intro)) <;> simp only [hp, g1, g2, hMl, hle, hB, hc, w1, go_sem])
          all_goals (simp only [fin_mk, finV, resL, resV1, resIn, endA, listIn, Option.some_or, Option.none_or, oneOrTup, go_sem]; rw [← hr])
          all_goals rfl
        | true =>
          rw [hB] at hr
          simp only [if_true] at hr
          
          simp only [g1, g2, hMl, hle, hB, hc, w1, go_sem]
          
          repeat' ((first | ((first | apply qa | apply qb | apply qc | apply qd | apply qe | apply qf | apply qg | apply qh | apply qi | apply qj | apply qk) <;> intro hp) | ((first | refine ql rfl rfl (by decide +kernel) ?_ | refine qm _ rfl rfl (by decide +kernel) ?_ | refine goes_opn rfl ?_ | refine goes_opnD rfl rfl (by decide +kernel) ?_) <;> have hp := True.intro)) <;> simp only [hp, g1, g2, hMl, hle, hB, hc, w1, go_sem])
          all_goals (simp only [fin_mk, finV, resL, resV1, resIn, endA, listIn, Option.some_or, Option.none_or, oneOrTup, go_sem]; rw [← hr])
          all_goals rfl
      · rw [if_neg hd] at hr ⊢
        
        cases hB : boxOk ⟨b.Name, b.Valid, b.Next, b.Mod + 1, M, b.Tombs, b.Horizon⟩ with
        | false =>
          rw [hB] at hr
          simp only [Bool.false_eq_true, if_false] at hr
          simp only [g1, g2, hMl, hle, hB, hc, w1, go_sem]
          repeat' ((first | ((first | apply qa | apply qb | apply qc | apply qd | apply qe | apply qf | apply qg | apply qh | apply qi | apply qj | apply qk) <;> intro hp) | ((first | refine ql rfl rfl (by decide +kernel) ?_ | refine qm _ rfl rfl (by decide +kernel) ?_ | refine goes_opn rfl ?_ | refine goes_opnD rfl rfl (by decide +kernel) ?_) <;> have hp := True.intro)) <;> simp only [hp, g1, g2, hMl, hle, hB, hc, w1, go_sem])
          all_goals (simp only [fin_mk, finV, resL, resV1, resIn, endA, listIn, Option.some_or, Option.none_or, oneOrTup, go_sem]; rw [← hr])
          all_goals rfl
        | true =>
          rw [hB] at hr
          simp only [if_true] at hr
          
          simp only [g1, g2, hMl, hle, hB, hc, w1, go_sem]
          
          repeat' ((first | ((first | apply qa | apply qb | apply qc | apply qd | apply qe | apply qf | apply qg | apply qh | apply qi | apply qj | apply qk) <;> intro hp) | ((first | refine ql rfl rfl (by decide +kernel) ?_ | refine qm _ rfl rfl (by decide +kernel) ?_ | refine goes_opn rfl ?_ | refine goes_opnD rfl rfl (by decide +kernel) ?_) <;> have hp := True.intro)) <;> simp only [hp, g1, g2, hMl, hle, hB, hc, w1, go_sem])
          all_goals (simp only [fin_mk, finV, resL, resV1, resIn, endA, listIn, Option.some_or, Option.none_or, oneOrTup, go_sem]; rw [← hr])
          all_goals rfl
theorem setFlags_le {b : Box} {s : List Range} {how bits since : Int} (h : b.le 4194304) : (setFlags b s how bits since).le 4194304 := by
  unfold setFlags
  split
  · exact newM_le h s how bits since _
  · exact h
theorem setDone_le (b : Box) (s : List Range) (how bits since : Int) : (setDone b s how bits since).length ≤ 4194304 := by
  unfold setDone
  split
  · rename_i h
    simp only [setGood, setIn, Bool.and_eq_true] at h
    have h1 := (boxOk_parts h.1.1.1.1).2.1
    have h2 := setOf_len (doneL b.Mails s how bits since)
    have h3 : (doneL b.Mails s how bits since).length ≤ b.Mails.length := by rw [doneL, List.length_map]; exact List.length_filter_le _ _
    omega
  · simp
theorem setLate_le (b : Box) (s : List Range) (how bits since : Int) : (setLate b s how bits since).length ≤ 4194304 := by
  unfold setLate
  split
  · rename_i h
    simp only [setGood, setIn, Bool.and_eq_true] at h
    have h1 := (boxOk_parts h.1.1.1.1).2.1
    have h2 := setOf_len (lateL b.Mails s since)
    have h3 : (lateL b.Mails s since).length ≤ b.Mails.length := by rw [lateL, List.length_map]; exact List.length_filter_le _ _
    omega
  · simp
end Go.Proofs.Ytimiccneikhkgaa.L
