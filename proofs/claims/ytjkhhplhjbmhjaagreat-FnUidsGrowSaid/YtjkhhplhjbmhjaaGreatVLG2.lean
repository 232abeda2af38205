/- Contracts of functions, and the facts that they need. No condition. -/
import Derived.Test.YtjkhhplhjbmhjaaGreatVLY
import Derived.Test.YtjkhhplhjbmhjaaGreatVLG



namespace Go.Proofs.YtjkhhplhjbmhjaaGreat.L
open Go Go.VM
set_option maxRecDepth 100000
set_option maxHeartbeats 4000000
set_option linter.unusedSimpArgs false
set_option linter.unusedVariables false
def lateM (s : List Range) (since : Int) (m : Mail) : Bool := hasR s m.Uid && (decide (0 ≤ since) && decide (since < m.Mod))
def chM (s : List Range) (how bits since : Int) (m : Mail) : Bool := hasR s m.Uid && !(decide (0 ≤ since) && decide (since < m.Mod)) && (flagsAfter m.Flags how bits != m.Flags)
def newM (s : List Range) (how bits since md : Int) (m : Mail) : Mail := if chM s how bits since m = true then ⟨m.Uid, flagsAfter m.Flags how bits, md + 1, m.Text⟩ else m
def doneL (b : List Mail) (s : List Range) (how bits since : Int) : List Int := (b.filter (chM s how bits since)).map (·.Uid)
def lateL (b : List Mail) (s : List Range) (since : Int) : List Int := (b.filter (lateM s since)).map (·.Uid)
def setOut (b : Box) (s : List Range) (how bits since : Int) : Box := ⟨b.Name, b.Valid, b.Next, if doneL b.Mails s how bits since = [] then b.Mod else b.Mod + 1, b.Mails.map (newM s how bits since b.Mod), b.Tombs, b.Horizon⟩
def setIn (b : Box) (s : List Range) (how bits : Int) : Bool := boxOk b && setOk s && within how 1 3 && flagsOk bits
def setGood (b : Box) (s : List Range) (how bits since : Int) : Bool := setIn b s how bits && boxOk (setOut b s how bits since)
def setFlags (b : Box) (s : List Range) (how bits since : Int) : Box := if setGood b s how bits since = true then setOut b s how bits since else b
def setDone (b : Box) (s : List Range) (how bits since : Int) : List Range := if setGood b s how bits since = true then setOf (doneL b.Mails s how bits since) else []
def setLate (b : Box) (s : List Range) (how bits since : Int) : List Range := if setGood b s how bits since = true then setOf (lateL b.Mails s since) else []
theorem map_at {α : Type} {f : α → α} {l : List α} {i : Nat} (h : i < l.length) : (l.take i).map f ++ l.drop i = (l.take i).map f ++ l[i] :: l.drop (i + 1) := by
  rw [List.drop_eq_getElem_cons h]
theorem map_get {α : Type} {f : α → α} {l : List α} {i : Nat} (h : i < l.length) : ((l.take i).map f ++ l.drop i)[i]? = some l[i] := by
  rw [map_at h, List.getElem?_append_right (by rw [List.length_map, List.length_take]; omega), List.length_map, List.length_take, Nat.min_eq_left (by omega), Nat.sub_self]; rfl
theorem map_set {α : Type} {f : α → α} {l : List α} {i : Nat} (h : i < l.length) : ((l.take i).map f ++ l.drop i).set i (f l[i]) = (l.take (i + 1)).map f ++ l.drop (i + 1) := by
  rw [map_at h, List.set_append_right _ _ (by rw [List.length_map, List.length_take]; omega), List.length_map, List.length_take, Nat.min_eq_left (by omega), Nat.sub_self, take_succ' h, List.set_cons_zero, List.map_append, List.append_assoc]
  rfl
theorem map_same {α : Type} {f : α → α} {l : List α} {i : Nat} (h : i < l.length) (hf : f l[i] = l[i]) : (l.take i).map f ++ l.drop i = (l.take (i + 1)).map f ++ l.drop (i + 1) := by
  rw [map_at h, take_succ' h, List.map_append, List.append_assoc, List.map_cons, List.map_nil, hf]
  rfl
theorem doneL_succ {l : List Mail} {s : List Range} {how bits since : Int} {i : Nat} (h : i < l.length) : doneL (l.take (i + 1)) s how bits since = doneL (l.take i) s how bits since ++ (if chM s how bits since l[i] = true then [l[i].Uid] else []) := by
  unfold doneL
  rw [filter_succ h, List.map_append]
  congr 1
  split <;> simp
theorem lateL_succ {l : List Mail} {s : List Range} {since : Int} {i : Nat} (h : i < l.length) : lateL (l.take (i + 1)) s since = lateL (l.take i) s since ++ (if lateM s since l[i] = true then [l[i].Uid] else []) := by
  unfold lateL
  rw [filter_succ h, List.map_append]
  congr 1
  split <;> simp
theorem newM_le {b : Box} (hc : b.le 4194304) (s : List Range) (how bits since md : Int) : Box.le 4194304 ⟨b.Name, b.Valid, b.Next, md, b.Mails.map (newM s how bits since b.Mod), b.Tombs, b.Horizon⟩ := by
  refine ⟨hc.1, ⟨by rw [List.length_map]; exact hc.2.1.1, fun m hm => ?_⟩, hc.2.2⟩
  obtain ⟨x, hx, rfl⟩ := List.mem_map.1 hm
  unfold newM
  split
  · exact hc.2.1.2 x hx
  · exact hc.2.1.2 x hx
open Classical in
noncomputable def spSetFlags : VM.Spec := { modes := [.rd, .rd, .rd, .rd, .rd], run := fun | [b', .lst 2 s', .int .i64 how, .int .i64 bits, .int .i64 since] => (Box.dec b').bind fun b => (decL Range.dec s').bind fun s => if b.le 4194304 ∧ s.length ≤ 4194304 then some (.tup [Box.enc (setFlags b s how bits since), .lst 2 ((setDone b s how bits since).map Range.enc), .lst 2 ((setLate b s how bits since).map Range.enc)], []) else none | _ => none, need := [] }
attribute [go_sem] spSetFlags
theorem spSetFlags_in {ins : List V} {r : V} {outs : List V} (h : spSetFlags.run ins = some (r, outs)) : ∃ (b : Box) (s : (List Range)) (how : Int) (bits : Int) (since : Int), ins = [Box.enc b, .lst 2 ((s).map Range.enc), .int .i64 how, .int .i64 bits, .int .i64 since] ∧ (b.le 4194304 ∧ s.length ≤ 4194304) ∧ .tup [Box.enc (setFlags b s how bits since), .lst 2 ((setDone b s how bits since).map Range.enc), .lst 2 ((setLate b s how bits since).map Range.enc)] = r ∧ outs = [] := by
  unfold spSetFlags at h
  simp only at h
  split at h
  · rename_i b' s' how bits since
    simp only [Option.bind_eq_some_iff] at h
    obtain ⟨b, h_b, s, h_s, h⟩ := h
    split at h
    case isFalse => cases h
    rename_i hc
    simp only [Option.some.injEq, Prod.mk.injEq] at h
    obtain ⟨h1, h2⟩ := h
    have h_b := Box.dec_some h_b
    subst h_b
    have h_s := decL_some (fun _ _ h => Range.dec_some h) h_s
    subst h_s
    exact ⟨b, s, how, bits, since, rfl, hc, h1, h2.symm⟩
  · cases h
def T_impl_SetFlags : Hints := ⟨lk [(13, [(3, 12), (4, 12), (7, 12), (8, 12)])], lk [(6, [1, 2, 3, 4, 5, 10, 13, 14, 15, 48, 49, 50])], lk [(0, [1, 2, 3, 4, 5, 10]), (1, [1, 2, 3, 4, 5, 10, 40]), (2, [10, 11, 12]), (3, [1, 2, 3, 4, 5, 10, 13]), (4, [1, 2, 3, 4, 5, 10, 13, 14, 15]), (5, [1, 2, 3, 4, 5, 10, 13, 14, 15, 48, 49, 50]), (6, [1, 2, 3, 4, 5, 10, 13, 14, 15, 48, 49, 50, 51]), (7, [1, 2, 3, 4, 5, 10, 13, 14, 15, 16, 17, 48, 49, 50]), (8, [1, 2, 3, 4, 5, 10, 13, 14, 15, 16, 17, 48, 49, 50, 59]), (9, [1, 2, 3, 4, 5, 10, 13, 14, 15, 16, 17, 48, 49, 50, 67]), (10, [1, 2, 3, 4, 5, 10, 13, 14, 15, 48, 49, 50]), (11, [1, 2, 3, 4, 5, 10, 13, 14, 15, 16, 17, 18, 48, 49, 50]), (12, [1, 2, 3, 4, 5, 10, 13, 14, 15, 16, 17, 18, 48, 49, 50, 81]), (13, [1, 2, 3, 4, 5, 10, 13, 14, 15, 17, 48, 49, 50]), (14, [1, 2, 3, 4, 5, 10, 13, 14, 15, 48, 49, 50]), (15, [1, 2, 3, 4, 5, 10, 13, 14, 15, 48, 49, 50]), (16, [5, 10, 13, 14, 15, 104]), (17, [5, 10, 13, 14, 15]), (18, [5, 10, 13, 14, 15, 111]), (19, [10, 11, 12]), (20, [10, 13, 15, 19]), (21, [10, 13, 19, 21]), (22, [10, 11, 12])], lk []⟩
noncomputable def Phi_impl_SetFlags : Tab := lk [(33, spCopyBox), (34, spBoxOk), (64, spSetOk), (35, spWithin), (65, spFlagsOk), (70, spSetHas), (114, spFlagsAfter), (115, spSetOfList)]
attribute [go_sem] T_impl_SetFlags Phi_impl_SetFlags
theorem phi_impl_SetFlags : ∀ f sp, Phi_impl_SetFlags f = some sp → FnOk Tryz.prog f sp ∧ ∀ n ∈ sp.need, n ∈ ([] : List String) := phi_cons ok_impl_copyBox (n0 rfl) (phi_cons ok_impl_BoxOk (n0 rfl) (phi_cons ok_impl_SetOk (n0 rfl) (phi_cons ok_impl_within (n0 rfl) (phi_cons ok_impl_FlagsOk (n0 rfl) (phi_cons ok_impl_SetHas (n0 rfl) (phi_cons ok_impl_FlagsAfter (n0 rfl) (phi_cons ok_impl_setOfList (n0 rfl) (phi_nil))))))))
theorem ok_impl_SetFlags : FnOk Tryz.prog 72 spSetFlags := by
  refine fn_ok (Φ := Phi_impl_SetFlags) (T := T_impl_SetFlags) phi_impl_SetFlags mixed Tryz.func72 rfl rfl rfl (by decide) ?_
  intro ins r outs hr hl
  clear hl
  have hs := spSetFlags_in hr
  clear hr
  obtain ⟨b, s, how, bits, since, rfl, hc, hr, rfl⟩ := hs
  simp only [spSetFlags, Tryz.f72, Go.VM.initS]
  obtain ⟨hc, hs⟩ := hc
  have hs8 : s.length ≤ 8388608 := by omega
  cases hk : boxOk b with
  | false =>
    have hg : setGood b s how bits since = false := by simp [setGood, setIn, hk]
    simp only [setFlags, setDone, setLate, hg, Bool.false_eq_true, if_false] at hr
    simp only [hc, hs, hk, go_sem]
    repeat' ((first | ((first | apply qa | apply qb | apply qc | apply qd | apply qe | apply qf | apply qg | apply qh | apply qi | apply qj | apply qk) <;> intro hp) | ((first | refine ql rfl rfl (by decide +kernel) ?_ | refine qm _ rfl rfl (by decide +kernel) ?_) <;> have hp := True.intro)) <;> simp only [hp, hc, hs, hk, go_sem])
    all_goals (simp only [fin_mk, finV, resL, resV1, resIn, endA, listIn, Option.some_or, Option.none_or, oneOrTup, go_sem]; rw [← hr])
    all_goals rfl
  | true =>
  cases hk2 : setOk s with
  | false =>
    have hg : setGood b s how bits since = false := by simp [setGood, setIn, hk2]
    simp only [setFlags, setDone, setLate, hg, Bool.false_eq_true, if_false] at hr
    simp only [hc, hs, hk, hk2, go_sem]
    repeat' ((first | ((first | apply qa | apply qb | apply qc | apply qd | apply qe | apply qf | apply qg | apply qh | apply qi | apply qj | apply qk) <;> intro hp) | ((first | refine ql rfl rfl (by decide +kernel) ?_ | refine qm _ rfl rfl (by decide +kernel) ?_) <;> have hp := True.intro)) <;> simp only [hp, hc, hs, hk, hk2, go_sem])
    all_goals (simp only [fin_mk, finV, resL, resV1, resIn, endA, listIn, Option.some_or, Option.none_or, oneOrTup, go_sem]; rw [← hr])
    all_goals rfl
  | true =>
  cases hk3 : within how 1 3 with
  | false =>
    have hg : setGood b s how bits since = false := by simp [setGood, setIn, hk3]
    simp only [setFlags, setDone, setLate, hg, Bool.false_eq_true, if_false] at hr
    simp only [hc, hs, hk, hk2, hk3, go_sem]
    repeat' ((first | ((first | apply qa | apply qb | apply qc | apply qd | apply qe | apply qf | apply qg | apply qh | apply qi | apply qj | apply qk) <;> intro hp) | ((first | refine ql rfl rfl (by decide +kernel) ?_ | refine qm _ rfl rfl (by decide +kernel) ?_) <;> have hp := True.intro)) <;> simp only [hp, hc, hs, hk, hk2, hk3, go_sem])
    all_goals (simp only [fin_mk, finV, resL, resV1, resIn, endA, listIn, Option.some_or, Option.none_or, oneOrTup, go_sem]; rw [← hr])
    all_goals rfl
  | true =>
  cases hk4 : flagsOk bits with
  | false =>
    have hg : setGood b s how bits since = false := by simp [setGood, setIn, hk4]
    simp only [setFlags, setDone, setLate, hg, Bool.false_eq_true, if_false] at hr
    simp only [hc, hs, hk, hk2, hk3, hk4, go_sem]
    repeat' ((first | ((first | apply qa | apply qb | apply qc | apply qd | apply qe | apply qf | apply qg | apply qh | apply qi | apply qj | apply qk) <;> intro hp) | ((first | refine ql rfl rfl (by decide +kernel) ?_ | refine qm _ rfl rfl (by decide +kernel) ?_) <;> have hp := True.intro)) <;> simp only [hp, hc, hs, hk, hk2, hk3, hk4, go_sem])
    all_goals (simp only [fin_mk, finV, resL, resV1, resIn, endA, listIn, Option.some_or, Option.none_or, oneOrTup, go_sem]; rw [← hr])
    all_goals rfl
  | true =>
    have hp := boxOk_parts hk
    have hn := numsOk_next hp.1
    have hn0 : 1 ≤ b.Mod ∧ b.Mod ≤ 100000 := by have := hp.1; simp only [numsOk, within, Bool.and_eq_true, decide_eq_true_eq] at this; omega
    have hml : b.Mails.length ≤ 30 := hp.2.1
    have w1 : IntKind.i64.wrap (b.Mod + 1) = b.Mod + 1 := wrap64 (by omega) (by omega)
    clear hp hn
    simp only [hc, hs, hk, hk2, hk3, hk4, hs8, go_sem]
    repeat' ((first | ((first | apply qa | apply qb | apply qc | apply qd | apply qe | apply qf | apply qg | apply qh | apply qi | apply qj | apply qk) <;> intro hp) | ((first | refine ql rfl rfl (by decide +kernel) ?_ | refine qm _ rfl rfl (by decide +kernel) ?_) <;> have hp := True.intro)) <;> simp only [hp, hc, hs, hk, hk2, hk3, hk4, hs8, go_sem])
    refine loop_go (fun i : Nat => [(50, .int .i64 (i : Int))]) (fun i => [(3, ⟨.arr, 1, (doneL (b.Mails.take i) s how bits since).map eInt⟩), (4, ⟨.arr, 1, (lateL (b.Mails.take i) s since).map eInt⟩), (5, ⟨.arr, 4, ((b.Mails.take i).map (newM s how bits since b.Mod) ++ b.Mails.drop i).map Mail.enc⟩)]) (fun i => b.Mails.length - i) (fun i => i ≤ b.Mails.length) 0 (Nat.zero_le _) rfl rfl ?_
    intro i hi ih
    have hD : (doneL (b.Mails.take i) s how bits since).length ≤ b.Mails.length := uids_len b.Mails (chM s how bits since) i
    have hL : (lateL (b.Mails.take i) s since).length ≤ b.Mails.length := uids_len b.Mails (lateM s since) i
    rcases Nat.lt_or_ge i b.Mails.length with h | h
    · have g1 : (i : Int) < b.Mails.length := by omega
      have g2 : (0 : Int) ≤ i := by omega
      have g3 : b.Mails[i]? = some b.Mails[i] := List.getElem?_eq_getElem h
      have g5 := wrap_succ h (by omega)
      have ih' := ih (i + 1) h (by omega)
      clear ih
      rw [doneL_succ h, lateL_succ h] at ih'
      have e0 := map_get (f := newM s how bits since b.Mod) h
      have e1 := map_set (f := newM s how bits since b.Mod) h
      have e2 := map_same (f := newM s how bits since b.Mod) h
      have hin := mail_in hk h
      have hXl : ((b.Mails.take i).map (newM s how bits since b.Mod) ++ b.Mails.drop i).length = b.Mails.length := by simp; omega
      generalize hmm : b.Mails[i] = m at *
      generalize hM : (b.Mails.take i).map (newM s how bits since b.Mod) ++ b.Mails.drop i = M at *
      generalize hM' : (b.Mails.take (i + 1)).map (newM s how bits since b.Mod) ++ b.Mails.drop (i + 1) = M' at *
      generalize hDD : doneL (b.Mails.take i) s how bits since = D at *
      generalize hLL : lateL (b.Mails.take i) s since = L at *
      have g4 : (i : Int) < M.length := by omega
      have b1 : (D.length + 1) * 8 ≤ 140737488355328 := by omega
      have b2 : (L.length + 1) * 8 ≤ 140737488355328 := by omega
      have b3 : D.length ≤ 9223372036854775806 := by omega
      have b4 : L.length ≤ 9223372036854775806 := by omega
      cases c1 : hasR s m.Uid with
      | false =>
        have q1 : chM s how bits since m = false := by simp [chM, c1]
        have q2 : lateM s since m = false := by simp [lateM, c1]
        have q3 := e2 (by simp [newM, q1])
        rw [q1, q2, ← q3] at ih'
        simp only [Bool.false_eq_true, if_false, List.append_nil] at ih'
        clear e1 e2
        simp only [g1, g2, g3, g4, g5, w1, e0, hXl, hs8, c1, go_sem]
        repeat' ((first | ((first | apply qa | apply qb | apply qc | apply qd | apply qe | apply qf | apply qg | apply qh | apply qi | apply qj | apply qk) <;> intro hp) | ((first | refine ql rfl rfl (by decide +kernel) ?_ | refine qm _ rfl rfl (by decide +kernel) ?_) <;> have hp := True.intro)) <;> simp only [hp, g1, g2, g3, g4, g5, w1, e0, hXl, hs8, c1, go_sem])
        all_goals exact ih'
      | true =>
        by_cases k1 : 0 ≤ since
        · by_cases k2 : since < m.Mod
          · have q1 : chM s how bits since m = false := by simp [chM, c1, k1, k2]
            have q2 : lateM s since m = true := by simp [lateM, c1, k1, k2]
            have q3 := e2 (by simp [newM, q1])
            rw [q1, q2, ← q3] at ih'
            simp only [Bool.false_eq_true, if_false, if_true, List.append_nil, List.map_append, List.map_cons, List.map_nil] at ih'
            clear e1 e2
            simp only [g1, g2, g3, g4, g5, w1, e0, hXl, hs8, c1, k1, k2, b1, b2, b3, b4, go_sem]
            repeat' ((first | ((first | apply qa | apply qb | apply qc | apply qd | apply qe | apply qf | apply qg | apply qh | apply qi | apply qj | apply qk) <;> intro hp) | ((first | refine ql rfl rfl (by decide +kernel) ?_ | refine qm _ rfl rfl (by decide +kernel) ?_) <;> have hp := True.intro)) <;> simp only [hp, g1, g2, g3, g4, g5, w1, e0, hXl, hs8, c1, k1, k2, b1, b2, b3, b4, go_sem])
            all_goals first | exact ih' | (clear ih'; omega)
          · have hno : (decide (0 ≤ since) && decide (since < m.Mod)) = false := by simp [k2]
            have q2 : lateM s since m = false := by simp [lateM, c1, hno]
            rw [q2] at ih'
            cases c3 : (flagsAfter m.Flags how bits != m.Flags) with
            | false =>
              have q1 : chM s how bits since m = false := by simp [chM, c1, hno, c3]
              have q3 := e2 (by simp [newM, q1])
              rw [q1, ← q3] at ih'
              simp only [Bool.false_eq_true, if_false, List.append_nil] at ih'
              clear e1 e2
              simp only [g1, g2, g3, g4, g5, w1, e0, hXl, hs8, c1, c3, k1, k2, go_sem]
              repeat' ((first | ((first | apply qa | apply qb | apply qc | apply qd | apply qe | apply qf | apply qg | apply qh | apply qi | apply qj | apply qk) <;> intro hp) | ((first | refine ql rfl rfl (by decide +kernel) ?_ | refine qm _ rfl rfl (by decide +kernel) ?_) <;> have hp := True.intro)) <;> simp only [hp, g1, g2, g3, g4, g5, w1, e0, hXl, hs8, c1, c3, k1, k2, go_sem])
              all_goals exact ih'
            | true =>
              have q1 : chM s how bits since m = true := by simp only [chM, c1, hno, c3]; rfl
              have q4 : newM s how bits since b.Mod m = ⟨m.Uid, flagsAfter m.Flags how bits, b.Mod + 1, m.Text⟩ := by simp only [newM, q1, if_true]
              rw [q4] at e1
              rw [q1, ← e1] at ih'
              simp only [Bool.false_eq_true, if_false, if_true, List.append_nil, List.map_append, List.map_cons, List.map_nil, List.map_set, Mail.enc] at ih'
              clear e1 e2
              generalize hF : flagsAfter m.Flags how bits = F at *
              have hgs : ∀ y : V, ((List.map Mail.enc M).set i y)[i]? = some y := fun y => List.getElem?_set_self (by rw [List.length_map]; omega)
              simp only [g1, g2, g3, g4, g5, w1, e0, hXl, hs8, c1, c3, k1, k2, b1, b2, b3, b4, hF, hgs, List.set_set, go_sem]
              repeat' ((first | ((first | apply qa | apply qb | apply qc | apply qd | apply qe | apply qf | apply qg | apply qh | apply qi | apply qj | apply qk) <;> intro hp) | ((first | refine ql rfl rfl (by decide +kernel) ?_ | refine qm _ rfl rfl (by decide +kernel) ?_) <;> have hp := True.intro)) <;> simp only [hp, g1, g2, g3, g4, g5, w1, e0, hXl, hs8, c1, c3, k1, k2, b1, b2, b3, b4, hF, hgs, List.set_set, go_sem])
              all_goals first | exact ih' | (clear ih'; omega)
        · have hno : (decide (0 ≤ since) && decide (since < m.Mod)) = false := by simp [k1]
          have q2 : lateM s since m = false := by simp [lateM, c1, hno]
          rw [q2] at ih'
          cases c3 : (flagsAfter m.Flags how bits != m.Flags) with
          | false =>
            have q1 : chM s how bits since m = false := by simp [chM, c1, hno, c3]
            have q3 := e2 (by simp [newM, q1])
            rw [q1, ← q3] at ih'
            simp only [Bool.false_eq_true, if_false, List.append_nil] at ih'
            clear e1 e2
            simp only [g1, g2, g3, g4, g5, w1, e0, hXl, hs8, c1, c3, k1, go_sem]
            repeat' ((first | ((first | apply qa | apply qb | apply qc | apply qd | apply qe | apply qf | apply qg | apply qh | apply qi | apply qj | apply qk) <;> intro hp) | ((first | refine ql rfl rfl (by decide +kernel) ?_ | refine qm _ rfl rfl (by decide +kernel) ?_) <;> have hp := True.intro)) <;> simp only [hp, g1, g2, g3, g4, g5, w1, e0, hXl, hs8, c1, c3, k1, go_sem])
            all_goals exact ih'
          | true =>
            have q1 : chM s how bits since m = true := by simp only [chM, c1, hno, c3]; rfl
            have q4 : newM s how bits since b.Mod m = ⟨m.Uid, flagsAfter m.Flags how bits, b.Mod + 1, m.Text⟩ := by simp only [newM, q1, if_true]
            rw [q4] at e1
            rw [q1, ← e1] at ih'
            simp only [Bool.false_eq_true, if_false, if_true, List.append_nil, List.map_append, List.map_cons, List.map_nil, List.map_set, Mail.enc] at ih'
            clear e1 e2
            generalize hF : flagsAfter m.Flags how bits = F at *
            have hgs : ∀ y : V, ((List.map Mail.enc M).set i y)[i]? = some y := fun y => List.getElem?_set_self (by rw [List.length_map]; omega)
            simp only [g1, g2, g3, g4, g5, w1, e0, hXl, hs8, c1, c3, k1, b1, b2, b3, b4, hF, hgs, List.set_set, go_sem]
            repeat' ((first | ((first | apply qa | apply qb | apply qc | apply qd | apply qe | apply qf | apply qg | apply qh | apply qi | apply qj | apply qk) <;> intro hp) | ((first | refine ql rfl rfl (by decide +kernel) ?_ | refine qm _ rfl rfl (by decide +kernel) ?_) <;> have hp := True.intro)) <;> simp only [hp, g1, g2, g3, g4, g5, w1, e0, hXl, hs8, c1, c3, k1, b1, b2, b3, b4, hF, hgs, List.set_set, go_sem])
            all_goals first | exact ih' | (clear ih'; omega)
    · have g1 : ¬ (i : Int) < b.Mails.length := by omega
      rw [List.take_of_length_le h] at hD hL ⊢
      rw [List.drop_of_length_le h, List.append_nil]
      have hMl : (b.Mails.map (newM s how bits since b.Mod)).length = b.Mails.length := List.length_map _
      have hle := newM_le hc s how bits since
      have sl1 : (doneL b.Mails s how bits since).length ≤ 4194304 := by omega
      have sl2 : (lateL b.Mails s since).length ≤ 4194304 := by omega
      have as1 : Asc (doneL b.Mails s how bits since) 9999 := filter_asc hk _
      have as2 : Asc (lateL b.Mails s since) 9999 := filter_asc hk _
      have aa1 := asc_all as1
      have aa2 := asc_all as2
      have so1 := setOf_asc as1
      have so2 := setOf_asc as2
      have hO : setOut b s how bits since = ⟨b.Name, b.Valid, b.Next, if doneL b.Mails s how bits since = [] then b.Mod else b.Mod + 1, b.Mails.map (newM s how bits since b.Mod), b.Tombs, b.Horizon⟩ := rfl
      have hG : setGood b s how bits since = boxOk (setOut b s how bits since) := by rw [setGood, setIn, hk, hk2, hk3, hk4]; rfl
      simp only [setFlags, setDone, setLate, hG] at hr
      clear hG ih
      rw [hO] at hr
      generalize hMM : b.Mails.map (newM s how bits since b.Mod) = M at *
      generalize hDD : doneL b.Mails s how bits since = D at *
      generalize hLL : lateL b.Mails s since = L at *
      have g2 : ¬ (i : Int) < M.length := by omega
      by_cases hd : D = []
      · rw [if_pos hd] at hr 
        have hd1 : ¬ (0 : Int) < D.length := by rw [hd]; decide
        cases hB : boxOk ⟨b.Name, b.Valid, b.Next, b.Mod, M, b.Tombs, b.Horizon⟩ with
        | false =>
          rw [hB] at hr
          simp only [Bool.false_eq_true, if_false] at hr
          simp only [g1, g2, hMl, hle, hB, hc, w1, hd1, go_sem]
          repeat' ((first | ((first | apply qa | apply qb | apply qc | apply qd | apply qe | apply qf | apply qg | apply qh | apply qi | apply qj | apply qk) <;> intro hp) | ((first | refine ql rfl rfl (by decide +kernel) ?_ | refine qm _ rfl rfl (by decide +kernel) ?_) <;> have hp := True.intro)) <;> simp only [hp, g1, g2, hMl, hle, hB, hc, w1, hd1, go_sem])
          all_goals (simp only [fin_mk, finV, resL, resV1, resIn, endA, listIn, Option.some_or, Option.none_or, oneOrTup, go_sem]; rw [← hr])
          all_goals rfl
        | true =>
          rw [hB] at hr
          simp only [if_true] at hr
          rw [so1, so2] at hr
          simp only [g1, g2, hMl, hle, hB, hc, w1, hd1, sl1, sl2, aa1, aa2, go_sem]
          repeat' ((first | ((first | apply qa | apply qb | apply qc | apply qd | apply qe | apply qf | apply qg | apply qh | apply qi | apply qj | apply qk) <;> intro hp) | ((first | refine ql rfl rfl (by decide +kernel) ?_ | refine qm _ rfl rfl (by decide +kernel) ?_) <;> have hp := True.intro)) <;> simp only [hp, g1, g2, hMl, hle, hB, hc, w1, hd1, sl1, sl2, aa1, aa2, go_sem])
          all_goals (simp only [fin_mk, finV, resL, resV1, resIn, endA, listIn, Option.some_or, Option.none_or, oneOrTup, go_sem]; rw [← hr])
          all_goals rfl
      · rw [if_neg hd] at hr 
        have hd1 : (0 : Int) < D.length := by have := List.length_pos_iff.2 hd; omega
        cases hB : boxOk ⟨b.Name, b.Valid, b.Next, b.Mod + 1, M, b.Tombs, b.Horizon⟩ with
        | false =>
          rw [hB] at hr
          simp only [Bool.false_eq_true, if_false] at hr
          simp only [g1, g2, hMl, hle, hB, hc, w1, hd1, go_sem]
          repeat' ((first | ((first | apply qa | apply qb | apply qc | apply qd | apply qe | apply qf | apply qg | apply qh | apply qi | apply qj | apply qk) <;> intro hp) | ((first | refine ql rfl rfl (by decide +kernel) ?_ | refine qm _ rfl rfl (by decide +kernel) ?_) <;> have hp := True.intro)) <;> simp only [hp, g1, g2, hMl, hle, hB, hc, w1, hd1, go_sem])
          all_goals (simp only [fin_mk, finV, resL, resV1, resIn, endA, listIn, Option.some_or, Option.none_or, oneOrTup, go_sem]; rw [← hr])
          all_goals rfl
        | true =>
          rw [hB] at hr
          simp only [if_true] at hr
          rw [so1, so2] at hr
          simp only [g1, g2, hMl, hle, hB, hc, w1, hd1, sl1, sl2, aa1, aa2, go_sem]
          repeat' ((first | ((first | apply qa | apply qb | apply qc | apply qd | apply qe | apply qf | apply qg | apply qh | apply qi | apply qj | apply qk) <;> intro hp) | ((first | refine ql rfl rfl (by decide +kernel) ?_ | refine qm _ rfl rfl (by decide +kernel) ?_) <;> have hp := True.intro)) <;> simp only [hp, g1, g2, hMl, hle, hB, hc, w1, hd1, sl1, sl2, aa1, aa2, go_sem])
          all_goals (simp only [fin_mk, finV, resL, resV1, resIn, endA, listIn, Option.some_or, Option.none_or, oneOrTup, go_sem]; rw [← hr])
          all_goals rfl
def T_spec_SetFlags : Hints := ⟨lk [(15, [])], lk [(8, [1, 2, 3, 4, 5, 10, 13, 14, 15, 16, 17])], lk [(0, [1, 2, 3, 4, 5, 10]), (1, [1, 2, 3, 4, 5, 10, 13]), (2, [1, 2, 3, 4, 5, 10, 13, 14]), (3, [1, 2, 3, 4, 5, 10, 13, 14, 15]), (4, [1, 2, 3, 4, 5, 10, 13, 14, 15, 40]), (5, [10, 11, 12]), (6, [1, 2, 3, 4, 5, 10, 13, 14, 15, 16]), (7, [1, 2, 3, 4, 5, 10, 13, 14, 15, 16, 17]), (8, [1, 2, 3, 4, 5, 10, 13, 14, 15, 16, 17, 50]), (10, [1, 2, 3, 4, 5, 10, 13, 14, 15, 16, 17, 18]), (11, [1, 2, 3, 4, 5, 10, 13, 14, 15, 16, 17, 18, 62]), (12, [1, 2, 3, 4, 5, 10, 13, 14, 15, 16, 17, 18, 70]), (13, [1, 2, 3, 4, 5, 10, 13, 14, 15, 16, 17]), (14, [1, 2, 3, 4, 5, 10, 13, 14, 15, 16, 17, 18]), (15, [1, 2, 3, 4, 5, 10, 13, 14, 15, 16, 17, 18, 94]), (16, [1, 2, 3, 4, 5, 10, 13, 14, 15, 16, 17, 18]), (17, [1, 2, 3, 4, 5, 10, 13, 14, 15, 16, 17, 18]), (18, [1, 2, 3, 4, 5, 10, 13, 14, 15, 16, 17, 18]), (19, [1, 2, 3, 4, 5, 10, 13, 14, 15, 16, 17]), (9, [1, 2, 3, 4, 5, 10, 13, 14, 15, 16, 17]), (20, [10, 13, 14, 15, 16, 119]), (21, [10, 11, 12]), (22, [10, 11, 12])], lk []⟩
noncomputable def Phi_spec_SetFlags : Tab := lk [(90, spCopyBox), (83, spBoxOk), (87, spSetOk), (84, spWithin), (88, spFlagsOk), (92, spSetHas), (128, spFlagsAfter), (110, spSetAdd)]
attribute [go_sem] T_spec_SetFlags Phi_spec_SetFlags
theorem phi_spec_SetFlags : ∀ f sp, Phi_spec_SetFlags f = some sp → FnOk Tryz.prog f sp ∧ ∀ n ∈ sp.need, n ∈ ([] : List String) := phi_cons ok_spec_l08Copy (n0 rfl) (phi_cons ok_spec_BoxOk (n0 rfl) (phi_cons ok_spec_SetOk (n0 rfl) (phi_cons ok_spec_l01In (n0 rfl) (phi_cons ok_spec_FlagsOk (n0 rfl) (phi_cons ok_spec_SetHas (n0 rfl) (phi_cons ok_spec_FlagsAfter (n0 rfl) (phi_cons ok_spec_SetAdd (n0 rfl) (phi_nil))))))))
theorem ok_spec_SetFlags : FnOk Tryz.prog 95 spSetFlags := by
  refine fn_ok (Φ := Phi_spec_SetFlags) (T := T_spec_SetFlags) phi_spec_SetFlags mixed Tryz.func95 rfl rfl rfl (by decide) ?_
  intro ins r outs hr hl
  clear hl
  have hs := spSetFlags_in hr
  clear hr
  obtain ⟨b, s, how, bits, since, rfl, hc, hr, rfl⟩ := hs
  simp only [spSetFlags, Tryz.f95, Go.VM.initS]
  obtain ⟨hc, hs⟩ := hc
  have hs8 : s.length ≤ 8388608 := by omega
  cases hk : boxOk b with
  | false =>
    have hg : setGood b s how bits since = false := by simp [setGood, setIn, hk]
    simp only [setFlags, setDone, setLate, hg, Bool.false_eq_true, if_false] at hr
    simp only [hc, hs, hk, go_sem]
    repeat' ((first | ((first | apply qa | apply qb | apply qc | apply qd | apply qe | apply qf | apply qg | apply qh | apply qi | apply qj | apply qk) <;> intro hp) | ((first | refine ql rfl rfl (by decide +kernel) ?_ | refine qm _ rfl rfl (by decide +kernel) ?_) <;> have hp := True.intro)) <;> simp only [hp, hc, hs, hk, go_sem])
    all_goals (simp only [fin_mk, finV, resL, resV1, resIn, endA, listIn, Option.some_or, Option.none_or, oneOrTup, go_sem]; rw [← hr])
    all_goals rfl
  | true =>
  cases hk2 : setOk s with
  | false =>
    have hg : setGood b s how bits since = false := by simp [setGood, setIn, hk2]
    simp only [setFlags, setDone, setLate, hg, Bool.false_eq_true, if_false] at hr
    simp only [hc, hs, hk, hk2, go_sem]
    repeat' ((first | ((first | apply qa | apply qb | apply qc | apply qd | apply qe | apply qf | apply qg | apply qh | apply qi | apply qj | apply qk) <;> intro hp) | ((first | refine ql rfl rfl (by decide +kernel) ?_ | refine qm _ rfl rfl (by decide +kernel) ?_) <;> have hp := True.intro)) <;> simp only [hp, hc, hs, hk, hk2, go_sem])
    all_goals (simp only [fin_mk, finV, resL, resV1, resIn, endA, listIn, Option.some_or, Option.none_or, oneOrTup, go_sem]; rw [← hr])
    all_goals rfl
  | true =>
  cases hk3 : within how 1 3 with
  | false =>
    have hg : setGood b s how bits since = false := by simp [setGood, setIn, hk3]
    simp only [setFlags, setDone, setLate, hg, Bool.false_eq_true, if_false] at hr
    simp only [hc, hs, hk, hk2, hk3, go_sem]
    repeat' ((first | ((first | apply qa | apply qb | apply qc | apply qd | apply qe | apply qf | apply qg | apply qh | apply qi | apply qj | apply qk) <;> intro hp) | ((first | refine ql rfl rfl (by decide +kernel) ?_ | refine qm _ rfl rfl (by decide +kernel) ?_) <;> have hp := True.intro)) <;> simp only [hp, hc, hs, hk, hk2, hk3, go_sem])
    all_goals (simp only [fin_mk, finV, resL, resV1, resIn, endA, listIn, Option.some_or, Option.none_or, oneOrTup, go_sem]; rw [← hr])
    all_goals rfl
  | true =>
  cases hk4 : flagsOk bits with
  | false =>
    have hg : setGood b s how bits since = false := by simp [setGood, setIn, hk4]
    simp only [setFlags, setDone, setLate, hg, Bool.false_eq_true, if_false] at hr
    simp only [hc, hs, hk, hk2, hk3, hk4, go_sem]
    repeat' ((first | ((first | apply qa | apply qb | apply qc | apply qd | apply qe | apply qf | apply qg | apply qh | apply qi | apply qj | apply qk) <;> intro hp) | ((first | refine ql rfl rfl (by decide +kernel) ?_ | refine qm _ rfl rfl (by decide +kernel) ?_) <;> have hp := True.intro)) <;> simp only [hp, hc, hs, hk, hk2, hk3, hk4, go_sem])
    all_goals (simp only [fin_mk, finV, resL, resV1, resIn, endA, listIn, Option.some_or, Option.none_or, oneOrTup, go_sem]; rw [← hr])
    all_goals rfl
  | true =>
    have hp := boxOk_parts hk
    have hn := numsOk_next hp.1
    have hn0 : 1 ≤ b.Mod ∧ b.Mod ≤ 100000 := by have := hp.1; simp only [numsOk, within, Bool.and_eq_true, decide_eq_true_eq] at this; omega
    have hml : b.Mails.length ≤ 30 := hp.2.1
    have w1 : IntKind.i64.wrap (b.Mod + 1) = b.Mod + 1 := wrap64 (by omega) (by omega)
    clear hp hn
    simp only [hc, hs, hk, hk2, hk3, hk4, hs8, go_sem]
    repeat' ((first | ((first | apply qa | apply qb | apply qc | apply qd | apply qe | apply qf | apply qg | apply qh | apply qi | apply qj | apply qk) <;> intro hp) | ((first | refine ql rfl rfl (by decide +kernel) ?_ | refine qm _ rfl rfl (by decide +kernel) ?_) <;> have hp := True.intro)) <;> simp only [hp, hc, hs, hk, hk2, hk3, hk4, hs8, go_sem])
    refine loop_go (fun i : Nat => [(17, .int .i64 (i : Int))]) (fun i => [(3, ⟨.arr, 2, (setOf (doneL (b.Mails.take i) s how bits since)).map Range.enc⟩), (4, ⟨.arr, 2, (setOf (lateL (b.Mails.take i) s since)).map Range.enc⟩), (5, ⟨.box, 7, [.agg [.str b.Name, .int .i64 b.Valid, .int .i64 b.Next, .int .i64 (if doneL (b.Mails.take i) s how bits since = [] then b.Mod else b.Mod + 1), .own 8, .own 9, .int .i64 b.Horizon]]⟩), (8, ⟨.arr, 4, ((b.Mails.take i).map (newM s how bits since b.Mod) ++ b.Mails.drop i).map Mail.enc⟩)]) (fun i => b.Mails.length - i) (fun i => i ≤ b.Mails.length) 0 (Nat.zero_le _) rfl (by simp only [show doneL (List.take 0 b.Mails) s how bits since = [] from rfl, show lateL (List.take 0 b.Mails) s since = [] from rfl, setOf_nil', if_true]; rfl) ?_
    intro i hi ih
    have hD : (doneL (b.Mails.take i) s how bits since).length ≤ b.Mails.length := uids_len b.Mails (chM s how bits since) i
    have hL : (lateL (b.Mails.take i) s since).length ≤ b.Mails.length := uids_len b.Mails (lateM s since) i
    rcases Nat.lt_or_ge i b.Mails.length with h | h
    · have g1 : (i : Int) < b.Mails.length := by omega
      have g2 : (0 : Int) ≤ i := by omega
      have g3 : b.Mails[i]? = some b.Mails[i] := List.getElem?_eq_getElem h
      have g5 := wrap_succ h (by omega)
      have ih' := ih (i + 1) h (by omega)
      clear ih
      rw [doneL_succ h, lateL_succ h] at ih'
      have e0 := map_get (f := newM s how bits since b.Mod) h
      have e1 := map_set (f := newM s how bits since b.Mod) h
      have e2 := map_same (f := newM s how bits since b.Mod) h
      have hin := mail_in hk h
      have hXl : ((b.Mails.take i).map (newM s how bits since b.Mod) ++ b.Mails.drop i).length = b.Mails.length := by simp; omega
      generalize hmm : b.Mails[i] = m at *
      generalize hM : (b.Mails.take i).map (newM s how bits since b.Mod) ++ b.Mails.drop i = M at *
      generalize hM' : (b.Mails.take (i + 1)).map (newM s how bits since b.Mod) ++ b.Mails.drop (i + 1) = M' at *
      generalize hDD : doneL (b.Mails.take i) s how bits since = D at *
      generalize hLL : lateL (b.Mails.take i) s since = L at *
      have g4 : (i : Int) < M.length := by omega
      have b1 := setAdd_one (S := D) (u := m.Uid) (by omega) (by omega)
      have b2 := setAdd_one (S := L) (u := m.Uid) (by omega) (by omega)
      have b3 : (setOf D).length ≤ 4194304 := Nat.le_trans (setOf_len D) (by omega)
      have b4 : (setOf L).length ≤ 4194304 := Nat.le_trans (setOf_len L) (by omega)
      have b5 := b1.1
      have b6 := b1.2
      have b7 := b2.1
      have b8 := b2.2
      clear b1 b2
      cases c1 : hasR s m.Uid with
      | false =>
        have q1 : chM s how bits since m = false := by simp [chM, c1]
        have q2 : lateM s since m = false := by simp [lateM, c1]
        have q3 := e2 (by simp [newM, q1])
        rw [q1, q2, ← q3] at ih'
        simp only [Bool.false_eq_true, if_false, List.append_nil] at ih'
        clear e1 e2
        simp only [g1, g2, g3, g4, g5, w1, e0, hXl, hs8, c1, go_sem]
        repeat' ((first | ((first | apply qa | apply qb | apply qc | apply qd | apply qe | apply qf | apply qg | apply qh | apply qi | apply qj | apply qk) <;> intro hp) | ((first | refine ql rfl rfl (by decide +kernel) ?_ | refine qm _ rfl rfl (by decide +kernel) ?_) <;> have hp := True.intro)) <;> simp only [hp, g1, g2, g3, g4, g5, w1, e0, hXl, hs8, c1, go_sem])
        all_goals exact ih'
      | true =>
        by_cases k1 : 0 ≤ since
        · by_cases k2 : since < m.Mod
          · have q1 : chM s how bits since m = false := by simp [chM, c1, k1, k2]
            have q2 : lateM s since m = true := by simp [lateM, c1, k1, k2]
            have q3 := e2 (by simp [newM, q1])
            rw [q1, q2, ← q3] at ih'
            simp only [Bool.false_eq_true, if_false, if_true, List.append_nil, List.map_append, List.map_cons, List.map_nil] at ih'
            clear e1 e2
            simp only [g1, g2, g3, g4, g5, w1, e0, hXl, hs8, c1, k1, k2, b3, b4, b5, b6, b7, b8, go_sem]
            repeat' ((first | ((first | apply qa | apply qb | apply qc | apply qd | apply qe | apply qf | apply qg | apply qh | apply qi | apply qj | apply qk) <;> intro hp) | ((first | refine ql rfl rfl (by decide +kernel) ?_ | refine qm _ rfl rfl (by decide +kernel) ?_) <;> have hp := True.intro)) <;> simp only [hp, g1, g2, g3, g4, g5, w1, e0, hXl, hs8, c1, k1, k2, b3, b4, b5, b6, b7, b8, go_sem])
            all_goals first | exact ih' | (clear ih'; omega)
          · have hno : (decide (0 ≤ since) && decide (since < m.Mod)) = false := by simp [k2]
            have q2 : lateM s since m = false := by simp [lateM, c1, hno]
            rw [q2] at ih'
            cases c3 : (flagsAfter m.Flags how bits != m.Flags) with
            | false =>
              have q1 : chM s how bits since m = false := by simp [chM, c1, hno, c3]
              have q3 := e2 (by simp [newM, q1])
              rw [q1, ← q3] at ih'
              simp only [Bool.false_eq_true, if_false, List.append_nil] at ih'
              clear e1 e2
              simp only [g1, g2, g3, g4, g5, w1, e0, hXl, hs8, c1, c3, k1, k2, go_sem]
              repeat' ((first | ((first | apply qa | apply qb | apply qc | apply qd | apply qe | apply qf | apply qg | apply qh | apply qi | apply qj | apply qk) <;> intro hp) | ((first | refine ql rfl rfl (by decide +kernel) ?_ | refine qm _ rfl rfl (by decide +kernel) ?_) <;> have hp := True.intro)) <;> simp only [hp, g1, g2, g3, g4, g5, w1, e0, hXl, hs8, c1, c3, k1, k2, go_sem])
              all_goals exact ih'
            | true =>
              have q1 : chM s how bits since m = true := by simp only [chM, c1, hno, c3]; rfl
              have q4 : newM s how bits since b.Mod m = ⟨m.Uid, flagsAfter m.Flags how bits, b.Mod + 1, m.Text⟩ := by simp only [newM, q1, if_true]
              rw [q4] at e1
              rw [q1, ← e1] at ih'
              simp only [Bool.false_eq_true, if_false, if_true, List.append_nil, List.map_append, List.map_cons, List.map_nil, List.map_set, Mail.enc, List.append_eq_nil_iff, reduceCtorEq, and_false] at ih'
              clear e1 e2
              generalize hF : flagsAfter m.Flags how bits = F at *
              have hgs : ∀ y : V, ((List.map Mail.enc M).set i y)[i]? = some y := fun y => List.getElem?_set_self (by rw [List.length_map]; omega)
              simp only [g1, g2, g3, g4, g5, w1, e0, hXl, hs8, c1, c3, k1, k2, b3, b4, b5, b6, b7, b8, hF, hgs, List.set_set, go_sem]
              repeat' ((first | ((first | apply qa | apply qb | apply qc | apply qd | apply qe | apply qf | apply qg | apply qh | apply qi | apply qj | apply qk) <;> intro hp) | ((first | refine ql rfl rfl (by decide +kernel) ?_ | refine qm _ rfl rfl (by decide +kernel) ?_) <;> have hp := True.intro)) <;> simp only [hp, g1, g2, g3, g4, g5, w1, e0, hXl, hs8, c1, c3, k1, k2, b3, b4, b5, b6, b7, b8, hF, hgs, List.set_set, go_sem])
              all_goals first | exact ih' | (clear ih'; omega)
        · have hno : (decide (0 ≤ since) && decide (since < m.Mod)) = false := by simp [k1]
          have q2 : lateM s since m = false := by simp [lateM, c1, hno]
          rw [q2] at ih'
          cases c3 : (flagsAfter m.Flags how bits != m.Flags) with
          | false =>
            have q1 : chM s how bits since m = false := by simp [chM, c1, hno, c3]
            have q3 := e2 (by simp [newM, q1])
            rw [q1, ← q3] at ih'
            simp only [Bool.false_eq_true, if_false, List.append_nil] at ih'
            clear e1 e2
            simp only [g1, g2, g3, g4, g5, w1, e0, hXl, hs8, c1, c3, k1, go_sem]
            repeat' ((first | ((first | apply qa | apply qb | apply qc | apply qd | apply qe | apply qf | apply qg | apply qh | apply qi | apply qj | apply qk) <;> intro hp) | ((first | refine ql rfl rfl (by decide +kernel) ?_ | refine qm _ rfl rfl (by decide +kernel) ?_) <;> have hp := True.intro)) <;> simp only [hp, g1, g2, g3, g4, g5, w1, e0, hXl, hs8, c1, c3, k1, go_sem])
            all_goals exact ih'
          | true =>
            have q1 : chM s how bits since m = true := by simp only [chM, c1, hno, c3]; rfl
            have q4 : newM s how bits since b.Mod m = ⟨m.Uid, flagsAfter m.Flags how bits, b.Mod + 1, m.Text⟩ := by simp only [newM, q1, if_true]
            rw [q4] at e1
            rw [q1, ← e1] at ih'
            simp only [Bool.false_eq_true, if_false, if_true, List.append_nil, List.map_append, List.map_cons, List.map_nil, List.map_set, Mail.enc, List.append_eq_nil_iff, reduceCtorEq, and_false] at ih'
            clear e1 e2
            generalize hF : flagsAfter m.Flags how bits = F at *
            have hgs : ∀ y : V, ((List.map Mail.enc M).set i y)[i]? = some y := fun y => List.getElem?_set_self (by rw [List.length_map]; omega)
            simp only [g1, g2, g3, g4, g5, w1, e0, hXl, hs8, c1, c3, k1, b3, b4, b5, b6, b7, b8, hF, hgs, List.set_set, go_sem]
            repeat' ((first | ((first | apply qa | apply qb | apply qc | apply qd | apply qe | apply qf | apply qg | apply qh | apply qi | apply qj | apply qk) <;> intro hp) | ((first | refine ql rfl rfl (by decide +kernel) ?_ | refine qm _ rfl rfl (by decide +kernel) ?_) <;> have hp := True.intro)) <;> simp only [hp, g1, g2, g3, g4, g5, w1, e0, hXl, hs8, c1, c3, k1, b3, b4, b5, b6, b7, b8, hF, hgs, List.set_set, go_sem])
            all_goals first | exact ih' | (clear ih'; omega)
    · have g1 : ¬ (i : Int) < b.Mails.length := by omega
      rw [List.take_of_length_le h] at hD hL ⊢
      rw [List.drop_of_length_le h, List.append_nil]
      have hMl : (b.Mails.map (newM s how bits since b.Mod)).length = b.Mails.length := List.length_map _
      have hle := newM_le hc s how bits since
      have hO : setOut b s how bits since = ⟨b.Name, b.Valid, b.Next, if doneL b.Mails s how bits since = [] then b.Mod else b.Mod + 1, b.Mails.map (newM s how bits since b.Mod), b.Tombs, b.Horizon⟩ := rfl
      have hG : setGood b s how bits since = boxOk (setOut b s how bits since) := by rw [setGood, setIn, hk, hk2, hk3, hk4]; rfl
      simp only [setFlags, setDone, setLate, hG] at hr
      clear hG ih
      rw [hO] at hr
      generalize hMM : b.Mails.map (newM s how bits since b.Mod) = M at *
      generalize hDD : doneL b.Mails s how bits since = D at *
      generalize hLL : lateL b.Mails s since = L at *
      have g2 : ¬ (i : Int) < M.length := by omega
      by_cases hd : D = []
      · rw [if_pos hd] at hr ⊢
        
        cases hB : boxOk ⟨b.Name, b.Valid, b.Next, b.Mod, M, b.Tombs, b.Horizon⟩ with
        | false =>
          rw [hB] at hr
          simp only [Bool.false_eq_true, if_false] at hr
          simp only [g1, g2, hMl, hle, hB, hc, w1, go_sem]
          repeat' ((first | ((first | apply qa | apply qb | apply qc | apply qd | apply qe | apply qf | apply qg | apply qh | apply qi | apply qj | apply qk) <;> intro hp) | ((first | refine ql rfl rfl (by decide +kernel) ?_ | refine qm _ rfl rfl (by decide +kernel) ?_) <;> have hp := True.intro)) <;> simp only [hp, g1, g2, hMl, hle, hB, hc, w1, go_sem])
          all_goals (simp only [fin_mk, finV, resL, resV1, resIn, endA, listIn, Option.some_or, Option.none_or, oneOrTup, go_sem]; rw [← hr])
          all_goals rfl
        | true =>
          rw [hB] at hr
          simp only [if_true] at hr
          
          simp only [g1, g2, hMl, hle, hB, hc, w1, go_sem]
          
          repeat' ((first | ((first | apply qa | apply qb | apply qc | apply qd | apply qe | apply qf | apply qg | apply qh | apply qi | apply qj | apply qk) <;> intro hp) | ((first | refine ql rfl rfl (by decide +kernel) ?_ | refine qm _ rfl rfl (by decide +kernel) ?_) <;> have hp := True.intro)) <;> simp only [hp, g1, g2, hMl, hle, hB, hc, w1, go_sem])
          all_goals (simp only [fin_mk, finV, resL, resV1, resIn, endA, listIn, Option.some_or, Option.none_or, oneOrTup, go_sem]; rw [← hr])
          all_goals rfl
      · rw [if_neg hd] at hr ⊢
        
        cases hB : boxOk ⟨b.Name, b.Valid, b.Next, b.Mod + 1, M, b.Tombs, b.Horizon⟩ with
        | false =>
          rw [hB] at hr
          simp only [Bool.false_eq_true, if_false] at hr
          simp only [g1, g2, hMl, hle, hB, hc, w1, go_sem]
          repeat' ((first | ((first | apply qa | apply qb | apply qc | apply qd | apply qe | apply qf | apply qg | apply qh | apply qi | apply qj | apply qk) <;> intro hp) | ((first | refine ql rfl rfl (by decide +kernel) ?_ | refine qm _ rfl rfl (by decide +kernel) ?_) <;> have hp := True.intro)) <;> simp only [hp, g1, g2, hMl, hle, hB, hc, w1, go_sem])
          all_goals (simp only [fin_mk, finV, resL, resV1, resIn, endA, listIn, Option.some_or, Option.none_or, oneOrTup, go_sem]; rw [← hr])
          all_goals rfl
        | true =>
          rw [hB] at hr
          simp only [if_true] at hr
          
          simp only [g1, g2, hMl, hle, hB, hc, w1, go_sem]
          
          repeat' ((first | ((first | apply qa | apply qb | apply qc | apply qd | apply qe | apply qf | apply qg | apply qh | apply qi | apply qj | apply qk) <;> intro hp) | ((first | refine ql rfl rfl (by decide +kernel) ?_ | refine qm _ rfl rfl (by decide +kernel) ?_) <;> have hp := True.intro)) <;> simp only [hp, g1, g2, hMl, hle, hB, hc, w1, go_sem])
          all_goals (simp only [fin_mk, finV, resL, resV1, resIn, endA, listIn, Option.some_or, Option.none_or, oneOrTup, go_sem]; rw [← hr])
          all_goals rfl
theorem setFlags_le {b : Box} {s : List Range} {how bits since : Int} (h : b.le 4194304) : (setFlags b s how bits since).le 4194304 := by
  unfold setFlags
  split
  · exact newM_le h s how bits since _
  · exact h
theorem setDone_le (b : Box) (s : List Range) (how bits since : Int) : (setDone b s how bits since).length ≤ 4194304 := by
  unfold setDone
  split
  · rename_i h
    simp only [setGood, setIn, Bool.and_eq_true] at h
    have h1 := (boxOk_parts h.1.1.1.1).2.1
    have h2 := setOf_len (doneL b.Mails s how bits since)
    have h3 : (doneL b.Mails s how bits since).length ≤ b.Mails.length := by rw [doneL, List.length_map]; exact List.length_filter_le _ _
    omega
  · simp
theorem setLate_le (b : Box) (s : List Range) (how bits since : Int) : (setLate b s how bits since).length ≤ 4194304 := by
  unfold setLate
  split
  · rename_i h
    simp only [setGood, setIn, Bool.and_eq_true] at h
    have h1 := (boxOk_parts h.1.1.1.1).2.1
    have h2 := setOf_len (lateL b.Mails s since)
    have h3 : (lateL b.Mails s since).length ≤ b.Mails.length := by rw [lateL, List.length_map]; exact List.length_filter_le _ _
    omega
  · simp
end Go.Proofs.YtjkhhplhjbmhjaaGreat.L

namespace Go.Proofs.YtjkhhplhjbmhjaaGreat.L
open Go Go.VM
set_option maxRecDepth 100000
set_option maxHeartbeats 4000000
set_option linter.unusedSimpArgs false
set_option linter.unusedVariables false
def sizeL (s : List Range) : Int := s.foldl (fun n r => n + r.Hi - r.Lo + 1) 0
def setSize (s : List Range) : Int := if setOk s = true then sizeL s else 0
theorem sizeL_snoc (s : List Range) (r : Range) : sizeL (s ++ [r]) = sizeL s + r.Hi - r.Lo + 1 := by simp [sizeL, List.foldl_append]
theorem size_at {s : List Range} (h : setOk s = true) {i : Nat} (hi : i < s.length) : 1 ≤ s[i].Lo ∧ s[i].Lo ≤ s[i].Hi ∧ s[i].Hi ≤ 9999 := by
  simp only [setOk, Bool.and_eq_true] at h
  have := allN_get h.1 hi
  simp only [rangeAt, Bool.and_eq_true, within, decide_eq_true_eq, List.getD_eq_getElem?_getD, List.getElem?_eq_getElem hi, Option.getD_some] at this
  exact ⟨this.1.1.1, this.1.2.1, this.1.2.2⟩
open Classical in
noncomputable def spSetSize : VM.Spec := { modes := [.rd], run := fun | [.lst 2 s'] => (decL Range.dec s').bind fun s => if s.length ≤ 4194304 then some (.int .i64 (setSize s), []) else none | _ => none, need := [] }
attribute [go_sem] spSetSize
theorem spSetSize_in {ins : List V} {r : V} {outs : List V} (h : spSetSize.run ins = some (r, outs)) : ∃ (s : (List Range)), ins = [.lst 2 ((s).map Range.enc)] ∧ (s.length ≤ 4194304) ∧ .int .i64 (setSize s) = r ∧ outs = [] := by
  unfold spSetSize at h
  simp only at h
  split at h
  · rename_i s'
    simp only [Option.bind_eq_some_iff] at h
    obtain ⟨s, h_s, h⟩ := h
    split at h
    case isFalse => cases h
    rename_i hc
    simp only [Option.some.injEq, Prod.mk.injEq] at h
    obtain ⟨h1, h2⟩ := h
    have h_s := decL_some (fun _ _ h => Range.dec_some h) h_s
    subst h_s
    exact ⟨s, rfl, hc, h1, h2.symm⟩
  · cases h
def T_spec_SetSize : Hints := ⟨lk [(7, [])], lk [(5, [0, 3, 4])], lk [(0, [0]), (1, [0, 7]), (2, [2]), (3, [0, 3]), (4, [0, 3, 4]), (5, [0, 3, 4, 11]), (7, [0, 3, 4]), (6, [0, 3, 4]), (8, [2])], lk []⟩
noncomputable def Phi_spec_SetSize : Tab := lk [(87, spSetOk)]
attribute [go_sem] T_spec_SetSize Phi_spec_SetSize
theorem phi_spec_SetSize : ∀ f sp, Phi_spec_SetSize f = some sp → FnOk Tryz.prog f sp ∧ ∀ n ∈ sp.need, n ∈ ([] : List String) := phi_cons ok_spec_SetOk (n0 rfl) (phi_nil)
theorem ok_spec_SetSize : FnOk Tryz.prog 97 spSetSize := by
  refine fn_ok (Φ := Phi_spec_SetSize) (T := T_spec_SetSize) phi_spec_SetSize mixed Tryz.func97 rfl rfl rfl (by decide) ?_
  intro ins r outs hr hl
  clear hl
  have hs := spSetSize_in hr
  clear hr
  obtain ⟨s, rfl, hc, hr, rfl⟩ := hs
  simp only [spSetSize, Tryz.f97, Go.VM.initS]
  cases k : setOk s with
  | false =>
    simp only [hc, k, go_sem]
    repeat' ((first | ((first | apply qa | apply qb | apply qc | apply qd | apply qe | apply qf | apply qg | apply qh | apply qi | apply qj | apply qk) <;> intro hp) | ((first | refine ql rfl rfl (by decide +kernel) ?_ | refine qm _ rfl rfl (by decide +kernel) ?_) <;> have hp := True.intro)) <;> simp only [hp, hc, k, go_sem])
    simp only [fin_mk, finV, resL, resV1, resIn, endA, listIn, Option.some_or, Option.none_or, oneOrTup, go_sem]
    rw [← hr]
    simp only [setSize, k, Bool.false_eq_true, if_false]
  | true =>
  have hl : s.length ≤ 40 := by simp only [setOk, Bool.and_eq_true, decide_eq_true_eq] at k; exact k.2
  simp only [hc, k, go_sem]
  repeat' ((first | ((first | apply qa | apply qb | apply qc | apply qd | apply qe | apply qf | apply qg | apply qh | apply qi | apply qj | apply qk) <;> intro hp) | ((first | refine ql rfl rfl (by decide +kernel) ?_ | refine qm _ rfl rfl (by decide +kernel) ?_) <;> have hp := True.intro)) <;> simp only [hp, hc, k, go_sem])
  refine loop_go (fun p : Nat × Int => [(3, .int .i64 p.2), (4, .int .i64 (p.1 : Int))]) (fun _ => []) (fun p => s.length - p.1) (fun p => p.1 ≤ s.length ∧ p.2 = sizeL (s.take p.1) ∧ 0 ≤ p.2 ∧ p.2 ≤ 9999 * p.1) (0, 0) ⟨Nat.zero_le _, rfl, by simp, by simp⟩ rfl rfl ?_
  rintro ⟨i, n⟩ ⟨hi, hn, h0, h1⟩ ih
  simp only at hi hn h0 h1 ih
  rcases Nat.lt_or_ge i s.length with h | h
  · have g1 : (i : Int) < s.length := by omega
    have g2 : (0 : Int) ≤ i := by omega
    have g3 : s[i]? = some s[i] := List.getElem?_eq_getElem h
    have g5 := wrap_succ h (by omega)
    obtain ⟨a1, a2, a3⟩ := size_at k h
    have w1 : IntKind.i64.wrap (n + s[i].Hi) = n + s[i].Hi := wrap64 (by omega) (by omega)
    have w2 : IntKind.i64.wrap (n + s[i].Hi - s[i].Lo) = n + s[i].Hi - s[i].Lo := wrap64 (by omega) (by omega)
    have w3 : IntKind.i64.wrap (n + s[i].Hi - s[i].Lo + 1) = n + s[i].Hi - s[i].Lo + 1 := wrap64 (by omega) (by omega)
    have ih' := ih (i + 1, n + s[i].Hi - s[i].Lo + 1) ⟨h, by rw [take_succ' h, sizeL_snoc, hn], by simp only; omega, by simp only; omega⟩ (by simp only; omega)
    simp only [g1, g2, g3, g5, w1, w2, w3, go_sem]
    repeat' ((first | ((first | apply qa | apply qb | apply qc | apply qd | apply qe | apply qf | apply qg | apply qh | apply qi | apply qj | apply qk) <;> intro hp) | ((first | refine ql rfl rfl (by decide +kernel) ?_ | refine qm _ rfl rfl (by decide +kernel) ?_) <;> have hp := True.intro)) <;> simp only [hp, g1, g2, g3, g5, w1, w2, w3, go_sem])
    exact ih'
  · have g1 : ¬ (i : Int) < s.length := by omega
    simp only [g1, go_sem]
    repeat' ((first | ((first | apply qa | apply qb | apply qc | apply qd | apply qe | apply qf | apply qg | apply qh | apply qi | apply qj | apply qk) <;> intro hp) | ((first | refine ql rfl rfl (by decide +kernel) ?_ | refine qm _ rfl rfl (by decide +kernel) ?_) <;> have hp := True.intro)) <;> simp only [hp, g1, go_sem])
    simp only [fin_mk, finV, resL, resV1, resIn, endA, listIn, Option.some_or, Option.none_or, oneOrTup, go_sem]
    rw [← hr]
    rw [setSize, if_pos k, hn, List.take_of_length_le h]
theorem sizeL_push (out : List Range) (n : Int) : sizeL (push out n) = sizeL out + 1 := by
  rcases snoc_cases out with rfl | ⟨a, r, rfl⟩
  · rw [push_nil]; simp [sizeL]
  · rw [push_snoc]
    split
    · rw [sizeL_snoc, sizeL_snoc]; simp only; omega
    · rw [sizeL_snoc (a ++ [r])]; simp only; omega
theorem sizeL_scan (l : List Int) : sizeL (scan l) = l.length := by
  induction l using snoc_ind with
  | h0 => rfl
  | h1 l x ih => rw [scan_snoc, sizeL_push, ih, List.length_append, List.length_singleton]; omega
end Go.Proofs.YtjkhhplhjbmhjaaGreat.L

namespace Go.Proofs.YtjkhhplhjbmhjaaGreat.L
open Go Go.VM
set_option maxRecDepth 100000
set_option maxHeartbeats 4000000
set_option linter.unusedSimpArgs false
set_option linter.unusedVariables false
def inSet (set : List Range) (m : Mail) : Bool := hasR set m.Uid
def cntIn (l : List Mail) (set : List Range) : Int := (l.filter (inSet set)).length
theorem gone_in {set : List Range} {m : Mail} (h : goneI set m = true) : inSet set m = true := by
  simp only [goneI, Bool.and_eq_true] at h; exact h.1
theorem cnt_gone {set : List Range} : ∀ l : List Mail, (((l.filter (goneI set)).length : Int) = (l.filter (inSet set)).length ↔ (l.filter fun m => !goneI set m).any (inSet set) = false) ∧ (l.filter (goneI set)).length ≤ (l.filter (inSet set)).length
  | [] => ⟨⟨fun _ => rfl, fun _ => rfl⟩, Nat.le_refl _⟩
  | m :: l => by
    obtain ⟨h1, h2⟩ := cnt_gone (set := set) l
    cases hg : goneI set m with
    | true =>
      have hi := gone_in hg
      simp only [List.filter_cons, hg, hi, if_true, List.length_cons, Bool.not_true, Bool.false_eq_true, if_false]
      exact ⟨by rw [← h1]; omega, by omega⟩
    | false =>
      cases hi : inSet set m with
      | true =>
        simp only [List.filter_cons, hg, hi, if_true, List.length_cons, Bool.not_false, Bool.false_eq_true, if_false, List.any_cons, Bool.true_or]
        exact ⟨⟨fun h => by omega, fun h => by simp at h⟩, by omega⟩
      | false =>
        simp only [List.filter_cons, hg, hi, if_true, Bool.not_false, Bool.false_eq_true, if_false, List.any_cons, Bool.false_or]
        exact ⟨h1, h2⟩
theorem move_same (M : Box) (set : List Range) (hs : setOk set = true) : (setSize (exGone M set) != cntIn M.Mails set) = (expunge M set).Mails.any (inSet set) := by
  cases hg : exGood M set with
  | true =>
    have hg' := hg
    simp only [exGood, Bool.and_eq_true] at hg'
    have k1 := hg'.1.1.1
    have hp := boxOk_parts k1
    have hA : Asc (goneU M.Mails set) 9999 := filter_asc k1 _
    have hlen := goneU_len M.Mails set
    have hok : setOk (setOf (goneU M.Mails set)) = true := setOf_ok (by omega)
    have e1 : setSize (exGone M set) = ((M.Mails.filter (goneI set)).length : Int) := by
      rw [exGone, if_pos hg, setSize, if_pos hok, setOf_asc hA, sizeL_scan, goneU, List.length_map]
    have e2 : (expunge M set).Mails = M.Mails.filter fun m => !goneI set m := by rw [expunge, if_pos hg]; rfl
    rw [e1, e2, cntIn]
    have h1 := (cnt_gone (set := set) M.Mails).1
    cases ha : (M.Mails.filter fun m => !goneI set m).any (inSet set) with
    | false => rw [ha] at h1; rw [h1.2 rfl]; exact bne_self_eq_false _
    | true =>
      rw [bne_iff_ne]
      intro h
      have := h1.1 h
      rw [ha] at this; cases this
  | false =>
    have e1 : setSize (exGone M set) = 0 := by rw [exGone, if_neg (by rw [hg]; simp), setSize]; rfl
    have e2 : (expunge M set).Mails = M.Mails := by rw [expunge, if_neg (by rw [hg]; simp)]
    rw [e1, e2, cntIn]
    cases ha : M.Mails.any (inSet set) with
    | false =>
      have : M.Mails.filter (inSet set) = [] := List.filter_eq_nil_iff.2 fun m hm => by
        have := (List.any_eq_false.1 ha) m hm
        simpa using this
      rw [this]; rfl
    | true =>
      rw [bne_iff_ne]
      intro h
      obtain ⟨m, hm, hi⟩ := List.any_eq_true.1 ha
      have : m ∈ M.Mails.filter (inSet set) := List.mem_filter.2 ⟨hm, hi⟩
      rw [List.eq_nil_of_length_eq_zero (l := M.Mails.filter (inSet set)) (by omega)] at this
      cases this
theorem cnt_map (l : List Mail) (f : Mail → Mail) (hf : ∀ m, (f m).Uid = m.Uid) (set : List Range) : cntIn (l.map f) set = cntIn l set := by
  induction l with
  | nil => rfl
  | cons m l ih =>
    have : inSet set (f m) = inSet set m := by rw [inSet, inSet, hf]
    simp only [cntIn, List.map_cons, List.filter_cons, this] at ih ⊢
    split
    · simp only [List.length_cons]; omega
    · exact ih
theorem newM_uid (s : List Range) (how bits since md : Int) (m : Mail) : (newM s how bits since md m).Uid = m.Uid := by
  unfold newM; split <;> rfl
theorem cnt_set (A : Box) (set : List Range) (how bits since : Int) : cntIn (setFlags A set how bits since).Mails set = cntIn A.Mails set := by
  unfold setFlags
  split
  · exact cnt_map _ _ (newM_uid _ _ _ _ _) _
  · rfl
def moveLeft (out : Store) (a : List UInt8) (set : List Range) : Box := expunge (setFlags (boxGet out a) set 2 8 (-1)) set
def moveIn (s : Store) (a : List UInt8) (set : List Range) (b : List UInt8) : Bool := storeOk s && setOk set && !(a == b)
def moveMails (s : Store) (a : List UInt8) (set : List Range) (b : List UInt8) : Store :=
  if moveIn s a set b = true then (if copyCode s a set b = 0 then (if (moveLeft (copyMails s a set b) a set).Mails.any (inSet set) = true then s else putBox (copyMails s a set b) (moveLeft (copyMails s a set b) a set)) else s) else s
def moveCode (s : Store) (a : List UInt8) (set : List Range) (b : List UInt8) : Int :=
  if moveIn s a set b = true then (if copyCode s a set b = 0 then (if (moveLeft (copyMails s a set b) a set).Mails.any (inSet set) = true then 3 else 0) else copyCode s a set b) else 4
theorem moveLeft_le {out : Store} {a : List UInt8} {set : List Range} (h : out.le 4194304) : (moveLeft out a set).le 4194304 := expunge_le (setFlags_le (boxGet_le h))
theorem moveMails_le {s : Store} {a b : List UInt8} {set : List Range} (h : s.le 4194304) : (moveMails s a set b).le 4194304 := by
  unfold moveMails
  split
  · split
    · split
      · exact h
      · exact putBox_le (copyMails_le h) (moveLeft_le (copyMails_le h))
    · exact h
  · exact h
open Classical in
noncomputable def spInSet : VM.Spec := { modes := [.rd, .rd], run := fun | [m', .rptr (.lst 2 u')] => (Mail.dec m').bind fun m => (decL Range.dec u').bind fun u => if u.length ≤ 4194304 then some (.bool (inSet u m), []) else none | _ => none, need := [] }
attribute [go_sem] spInSet
theorem spInSet_in {ins : List V} {r : V} {outs : List V} (h : spInSet.run ins = some (r, outs)) : ∃ (m : Mail) (u : (List Range)), ins = [Mail.enc m, .rptr (.lst 2 ((u).map Range.enc))] ∧ (u.length ≤ 4194304) ∧ .bool (inSet u m) = r ∧ outs = [] := by
  unfold spInSet at h
  simp only at h
  split at h
  · rename_i m' u'
    simp only [Option.bind_eq_some_iff] at h
    obtain ⟨m, h_m, u, h_u, h⟩ := h
    split at h
    case isFalse => cases h
    rename_i hc
    simp only [Option.some.injEq, Prod.mk.injEq] at h
    obtain ⟨h1, h2⟩ := h
    have h_m := Mail.dec_some h_m
    subst h_m
    have h_u := decL_some (fun _ _ h => Range.dec_some h) h_u
    subst h_u
    exact ⟨m, u, rfl, hc, h1, h2.symm⟩
  · cases h
def T_impl_MoveMails_1 : Hints := ⟨lk [], lk [], lk [(0, [1, 2]), (1, [3])], lk []⟩
noncomputable def Phi_impl_MoveMails_1 : Tab := lk [(70, spSetHas)]
attribute [go_sem] T_impl_MoveMails_1 Phi_impl_MoveMails_1
theorem phi_impl_MoveMails_1 : ∀ f sp, Phi_impl_MoveMails_1 f = some sp → FnOk Tryz.prog f sp ∧ ∀ n ∈ sp.need, n ∈ ([] : List String) := phi_cons ok_impl_SetHas (n0 rfl) (phi_nil)
theorem ok_impl_MoveMails_1 : FnOk Tryz.prog 75 spInSet := by
  refine fn_ok (Φ := Phi_impl_MoveMails_1) (T := T_impl_MoveMails_1) phi_impl_MoveMails_1 mixed Tryz.func75 rfl rfl rfl (by decide) ?_
  intro ins r outs hr hl
  clear hl
  have hs := spInSet_in hr
  clear hr
  obtain ⟨m, u, rfl, hc, hr, rfl⟩ := hs
  simp only [spInSet, Tryz.f75, Go.VM.initS]
  have h1 : u.length ≤ 8388608 := by omega
  simp only [h1, go_sem]
  repeat' ((first | apply qa | apply qb | apply qc | apply qd | apply qe | apply qf | apply qg | apply qh | apply qi | apply qj | apply qk) <;> intro hp <;> simp only [hp, h1, go_sem])
  simp only [fin_mk, finV, resL, resV1, resIn, endA, listIn, Option.some_or, Option.none_or, oneOrTup, go_sem]
  rw [← hr]
  rfl
open Classical in
noncomputable def spIdxInSet : VM.Spec := { modes := [.rd, .rd], run := fun | [.lst 4 l', .fn 75 [.rptr (.lst 2 u')]] => (decL Mail.dec l').bind fun l => (decL Range.dec u').bind fun u => if l.length ≤ 4194304 ∧ u.length ≤ 4194304 then some (.int .i64 (idxL (fun x => inSet u x) l), []) else none | _ => none, need := [] }
attribute [go_sem] spIdxInSet
theorem spIdxInSet_in {ins : List V} {r : V} {outs : List V} (h : spIdxInSet.run ins = some (r, outs)) : ∃ (l : (List Mail)) (u : (List Range)), ins = [.lst 4 ((l).map Mail.enc), .fn 75 [.rptr (.lst 2 ((u).map Range.enc))]] ∧ (l.length ≤ 4194304 ∧ u.length ≤ 4194304) ∧ .int .i64 (idxL (fun x => inSet u x) l) = r ∧ outs = [] := by
  unfold spIdxInSet at h
  simp only at h
  split at h
  · rename_i l' u'
    simp only [Option.bind_eq_some_iff] at h
    obtain ⟨l, h_l, u, h_u, h⟩ := h
    split at h
    case isFalse => cases h
    rename_i hc
    simp only [Option.some.injEq, Prod.mk.injEq] at h
    obtain ⟨h1, h2⟩ := h
    have h_l := decL_some (fun _ _ h => Mail.dec_some h) h_l
    subst h_l
    have h_u := decL_some (fun _ _ h => Range.dec_some h) h_u
    subst h_u
    exact ⟨l, u, rfl, hc, h1, h2.symm⟩
  · cases h
def T_slices_IndexFunc_loop_example_g00247_impl_Mail_loop_example_g00247_impl_Mail_inset : Hints := ⟨lk [], lk [(2, [0, 1, 7, 8])], lk [(0, [0, 1]), (1, [0, 1, 7, 8]), (2, [0, 1, 7, 8, 9]), (3, [0, 1, 5, 7, 8]), (4, [0, 1, 5, 7, 8, 16]), (5, [4]), (6, [0, 1, 7, 8]), (7, [4])], lk []⟩
noncomputable def Phi_slices_IndexFunc_loop_example_g00247_impl_Mail_loop_example_g00247_impl_Mail_inset : Tab := lk [(75, spInSet)]
attribute [go_sem] T_slices_IndexFunc_loop_example_g00247_impl_Mail_loop_example_g00247_impl_Mail_inset Phi_slices_IndexFunc_loop_example_g00247_impl_Mail_loop_example_g00247_impl_Mail_inset
theorem phi_slices_IndexFunc_loop_example_g00247_impl_Mail_loop_example_g00247_impl_Mail_inset : ∀ f sp, Phi_slices_IndexFunc_loop_example_g00247_impl_Mail_loop_example_g00247_impl_Mail_inset f = some sp → FnOk Tryz.prog f sp ∧ ∀ n ∈ sp.need, n ∈ ([] : List String) := phi_cons ok_impl_MoveMails_1 (n0 rfl) (phi_nil)
theorem ok_slices_IndexFunc_loop_example_g00247_impl_Mail_loop_example_g00247_impl_Mail_inset : FnOk Tryz.prog 120 spIdxInSet := by
  refine fn_ok (Φ := Phi_slices_IndexFunc_loop_example_g00247_impl_Mail_loop_example_g00247_impl_Mail_inset) (T := T_slices_IndexFunc_loop_example_g00247_impl_Mail_loop_example_g00247_impl_Mail_inset) phi_slices_IndexFunc_loop_example_g00247_impl_Mail_loop_example_g00247_impl_Mail_inset mixed Tryz.func120 rfl rfl rfl (by decide) ?_
  intro ins r outs hr hl
  clear hl
  have hs := spIdxInSet_in hr
  clear hr
  obtain ⟨l, u, rfl, hc, hr, rfl⟩ := hs
  simp only [spIdxInSet, Tryz.f120, Go.VM.initS]
  obtain ⟨hc, hu⟩ := hc
  simp only [go_sem]
  refine loop_go (fun i : Nat => [(8, .int .i64 (i : Int))]) (fun _ => []) (fun i => l.length - i) (fun i => i ≤ l.length ∧ ∀ j (hj : j < i) (hl : j < l.length), (fun x => inSet u x) l[j] = false) 0 ⟨Nat.zero_le _, fun j hj => absurd hj (by omega)⟩ rfl rfl ?_
  intro i ⟨hi, ha⟩ ih
  rcases Nat.lt_or_ge i l.length with h | h
  · have g1 : (i : Int) < l.length := by omega
    have g2 : (0 : Int) ≤ i := by omega
    have g3 : l[i]? = some l[i] := List.getElem?_eq_getElem h
    have g5 := wrap_succ h (by omega)
    cases hb : inSet u l[i] with
    | true =>
      simp only [g1, g2, g3, g5, hb, hu, go_sem]
      repeat' ((first | apply qa | apply qb | apply qc | apply qd | apply qe | apply qf | apply qg | apply qh | apply qi | apply qj | apply qk) <;> intro hp <;> simp only [hp, g1, g2, g3, g5, hb, hu, go_sem])
      simp only [fin_mk, finV, resL, resV1, resIn, endA, listIn, Option.some_or, Option.none_or, oneOrTup, go_sem]
      rw [← hr]
      rw [idxL_hit h (fun j hj => ha j hj (by omega)) hb]
    | false =>
      simp only [g1, g2, g3, g5, hb, hu, go_sem]
      repeat' ((first | apply qa | apply qb | apply qc | apply qd | apply qe | apply qf | apply qg | apply qh | apply qi | apply qj | apply qk) <;> intro hp <;> simp only [hp, g1, g2, g3, g5, hb, hu, go_sem])
      refine ih (i + 1) ⟨h, fun j hj hl => ?_⟩ (by omega)
      rcases Nat.lt_or_ge j i with h1 | h1
      · exact ha j h1 hl
      · have : j = i := by omega
        subst this; exact hb
  · have g1 : ¬ (i : Int) < l.length := by omega
    simp only [g1, go_sem]
    simp only [fin_mk, finV, resL, resV1, resIn, endA, listIn, Option.some_or, Option.none_or, oneOrTup, go_sem]
    rw [← hr]
    rw [idxL_miss fun j hj => ha j (by omega) hj]
open Classical in
noncomputable def spAnyInSet : VM.Spec := { modes := [.rd, .rd], run := fun | [.lst 4 l', .fn 75 [.rptr (.lst 2 u')]] => (decL Mail.dec l').bind fun l => (decL Range.dec u').bind fun u => if l.length ≤ 4194304 ∧ u.length ≤ 4194304 then some (.bool (l.any (inSet u)), []) else none | _ => none, need := [] }
attribute [go_sem] spAnyInSet
theorem spAnyInSet_in {ins : List V} {r : V} {outs : List V} (h : spAnyInSet.run ins = some (r, outs)) : ∃ (l : (List Mail)) (u : (List Range)), ins = [.lst 4 ((l).map Mail.enc), .fn 75 [.rptr (.lst 2 ((u).map Range.enc))]] ∧ (l.length ≤ 4194304 ∧ u.length ≤ 4194304) ∧ .bool (l.any (inSet u)) = r ∧ outs = [] := by
  unfold spAnyInSet at h
  simp only at h
  split at h
  · rename_i l' u'
    simp only [Option.bind_eq_some_iff] at h
    obtain ⟨l, h_l, u, h_u, h⟩ := h
    split at h
    case isFalse => cases h
    rename_i hc
    simp only [Option.some.injEq, Prod.mk.injEq] at h
    obtain ⟨h1, h2⟩ := h
    have h_l := decL_some (fun _ _ h => Mail.dec_some h) h_l
    subst h_l
    have h_u := decL_some (fun _ _ h => Range.dec_some h) h_u
    subst h_u
    exact ⟨l, u, rfl, hc, h1, h2.symm⟩
  · cases h
def T_slices_ContainsFunc_loop_example_g00247_impl_Mail_loop_example_g00247_impl_Mail : Hints := ⟨lk [], lk [], lk [(0, [0, 1]), (1, [4])], lk []⟩
noncomputable def Phi_slices_ContainsFunc_loop_example_g00247_impl_Mail_loop_example_g00247_impl_Mail : Tab := lk [(120, spIdxInSet), (75, spInSet)]
attribute [go_sem] T_slices_ContainsFunc_loop_example_g00247_impl_Mail_loop_example_g00247_impl_Mail Phi_slices_ContainsFunc_loop_example_g00247_impl_Mail_loop_example_g00247_impl_Mail
theorem phi_slices_ContainsFunc_loop_example_g00247_impl_Mail_loop_example_g00247_impl_Mail : ∀ f sp, Phi_slices_ContainsFunc_loop_example_g00247_impl_Mail_loop_example_g00247_impl_Mail f = some sp → FnOk Tryz.prog f sp ∧ ∀ n ∈ sp.need, n ∈ ([] : List String) := phi_cons ok_slices_IndexFunc_loop_example_g00247_impl_Mail_loop_example_g00247_impl_Mail_inset (n0 rfl) (phi_cons ok_impl_MoveMails_1 (n0 rfl) (phi_nil))
theorem ok_slices_ContainsFunc_loop_example_g00247_impl_Mail_loop_example_g00247_impl_Mail : FnOk Tryz.prog 74 spAnyInSet := by
  refine fn_ok (Φ := Phi_slices_ContainsFunc_loop_example_g00247_impl_Mail_loop_example_g00247_impl_Mail) (T := T_slices_ContainsFunc_loop_example_g00247_impl_Mail_loop_example_g00247_impl_Mail) phi_slices_ContainsFunc_loop_example_g00247_impl_Mail_loop_example_g00247_impl_Mail mixed Tryz.func74 rfl rfl rfl (by decide) ?_
  intro ins r outs hr hl
  clear hl
  have hs := spAnyInSet_in hr
  clear hr
  obtain ⟨l, u, rfl, hc, hr, rfl⟩ := hs
  simp only [spAnyInSet, Tryz.f74, Go.VM.initS]
  have e : decide ((0 : Int) ≤ idxL (fun x => inSet u x) l) = l.any (inSet u) := idxL_any _ l
  simp only [e, hc, and_self, go_sem]
  simp only [fin_mk, finV, resL, resV1, resIn, endA, listIn, Option.some_or, Option.none_or, oneOrTup, go_sem]
  rw [← hr]
open Classical in
noncomputable def spMoveMails : VM.Spec := { modes := [.rd, .rd, .rd, .rd], run := fun | [s', .str a, .lst 2 set', .str b] => (Store.dec s').bind fun s => (decL Range.dec set').bind fun set => if s.le 4194304 ∧ set.length ≤ 4194304 then some (.tup [Store.enc (moveMails s a set b), .int .i64 (moveCode s a set b)], []) else none | _ => none, need := [] }
attribute [go_sem] spMoveMails
theorem spMoveMails_in {ins : List V} {r : V} {outs : List V} (h : spMoveMails.run ins = some (r, outs)) : ∃ (s : Store) (a : (List UInt8)) (set : (List Range)) (b : (List UInt8)), ins = [Store.enc s, .str a, .lst 2 ((set).map Range.enc), .str b] ∧ (s.le 4194304 ∧ set.length ≤ 4194304) ∧ .tup [Store.enc (moveMails s a set b), .int .i64 (moveCode s a set b)] = r ∧ outs = [] := by
  unfold spMoveMails at h
  simp only at h
  split at h
  · rename_i s' a set' b
    simp only [Option.bind_eq_some_iff] at h
    obtain ⟨s, h_s, set, h_set, h⟩ := h
    split at h
    case isFalse => cases h
    rename_i hc
    simp only [Option.some.injEq, Prod.mk.injEq] at h
    obtain ⟨h1, h2⟩ := h
    have h_s := Store.dec_some h_s
    subst h_s
    have h_set := decL_some (fun _ _ h => Range.dec_some h) h_set
    subst h_set
    exact ⟨s, a, set, b, rfl, hc, h1, h2.symm⟩
  · cases h
def T_impl_MoveMails : Hints := ⟨lk [], lk [], lk [(0, [1, 3, 4, 6, 8]), (1, [1, 3, 4, 6, 8, 31]), (2, [8, 9]), (3, [1, 4, 6, 8, 10, 11]), (4, [1, 4, 6, 8, 10, 11, 43]), (5, [8, 9]), (6, [4, 6, 8, 10, 12]), (7, [4, 6, 8, 10, 14]), (8, [4, 6, 8, 10, 17]), (9, [4, 8, 10, 17, 69]), (10, [8, 9]), (11, [8, 9])], lk []⟩
noncomputable def Phi_impl_MoveMails : Tab := lk [(10, spStoreOk), (64, spSetOk), (25, spCopyStore), (28, spCopyMails), (9, spBoxAt), (72, spSetFlags), (73, spExpunge), (74, spAnyInSet), (75, spInSet), (31, spPutBox)]
attribute [go_sem] T_impl_MoveMails Phi_impl_MoveMails
theorem phi_impl_MoveMails : ∀ f sp, Phi_impl_MoveMails f = some sp → FnOk Tryz.prog f sp ∧ ∀ n ∈ sp.need, n ∈ ([] : List String) := phi_cons ok_impl_StoreOk (n0 rfl) (phi_cons ok_impl_SetOk (n0 rfl) (phi_cons ok_impl_copyStore (n0 rfl) (phi_cons ok_impl_CopyMails (n0 rfl) (phi_cons ok_impl_BoxAt (n0 rfl) (phi_cons ok_impl_SetFlags (n0 rfl) (phi_cons ok_impl_Expunge (n0 rfl) (phi_cons ok_slices_ContainsFunc_loop_example_g00247_impl_Mail_loop_example_g00247_impl_Mail (n0 rfl) (phi_cons ok_impl_MoveMails_1 (n0 rfl) (phi_cons ok_impl_PutBox (n0 rfl) (phi_nil))))))))))
theorem ok_impl_MoveMails : FnOk Tryz.prog 29 spMoveMails := by
  refine fn_ok (Φ := Phi_impl_MoveMails) (T := T_impl_MoveMails) phi_impl_MoveMails mixed Tryz.func29 rfl rfl rfl (by decide) ?_
  intro ins r outs hr hl
  clear hl
  have hs := spMoveMails_in hr
  clear hr
  obtain ⟨s, a, set, b, rfl, hc, hr, rfl⟩ := hs
  simp only [spMoveMails, Tryz.f29, Go.VM.initS]
  obtain ⟨hc, hset⟩ := hc
  cases k1 : storeOk s with
  | false =>
    have hm : moveIn s a set b = false := by simp [moveIn, k1]
    simp only [hc, hset, k1, go_sem]
    repeat' ((first | apply qa | apply qb | apply qc | apply qd | apply qe | apply qf | apply qg | apply qh | apply qi | apply qj | apply qk) <;> intro hp <;> simp only [hp, hc, hset, k1, go_sem])
    simp only [fin_mk, finV, resL, resV1, resIn, endA, listIn, Option.some_or, Option.none_or, oneOrTup, go_sem]
    rw [← hr]
    simp only [moveMails, moveCode, hm, Bool.false_eq_true, if_false]; rfl
  | true =>
  cases k2 : setOk set with
  | false =>
    have hm : moveIn s a set b = false := by simp [moveIn, k2]
    simp only [hc, hset, k1, k2, go_sem]
    repeat' ((first | apply qa | apply qb | apply qc | apply qd | apply qe | apply qf | apply qg | apply qh | apply qi | apply qj | apply qk) <;> intro hp <;> simp only [hp, hc, hset, k1, k2, go_sem])
    simp only [fin_mk, finV, resL, resV1, resIn, endA, listIn, Option.some_or, Option.none_or, oneOrTup, go_sem]
    rw [← hr]
    simp only [moveMails, moveCode, hm, Bool.false_eq_true, if_false]; rfl
  | true =>
  cases k3 : (a == b) with
  | true =>
    have hm : moveIn s a set b = false := by simp [moveIn, k3]
    simp only [hc, hset, k1, k2, k3, go_sem]
    repeat' ((first | apply qa | apply qb | apply qc | apply qd | apply qe | apply qf | apply qg | apply qh | apply qi | apply qj | apply qk) <;> intro hp <;> simp only [hp, hc, hset, k1, k2, k3, go_sem])
    simp only [fin_mk, finV, resL, resV1, resIn, endA, listIn, Option.some_or, Option.none_or, oneOrTup, go_sem]
    rw [← hr]
    simp only [moveMails, moveCode, hm, Bool.false_eq_true, if_false]; rfl
  | false =>
  have hm : moveIn s a set b = true := by simp [moveIn, k1, k2, k3]
  have hC : (copyMails s a set b).le 4194304 := copyMails_le hc
  by_cases h0 : copyCode s a set b = 0
  · have e0 : (copyCode s a set b != 0) = false := by rw [h0]; rfl
    have hA : (boxGet (copyMails s a set b) a).le 4194304 := boxGet_le hC
    have hM : (setFlags (boxGet (copyMails s a set b) a) set 2 8 (-1)).le 4194304 := setFlags_le hA
    have hL : (expunge (setFlags (boxGet (copyMails s a set b) a) set 2 8 (-1)) set).le 4194304 := expunge_le hM
    have hLm := hL.2.1.1
    have hd : moveLeft (copyMails s a set b) a set = expunge (setFlags (boxGet (copyMails s a set b) a) set 2 8 (-1)) set := rfl
    cases ha : (expunge (setFlags (boxGet (copyMails s a set b) a) set 2 8 (-1)) set).Mails.any (inSet set) with
    | true =>
      simp only [hc, hset, k1, k2, k3, e0, hC, hA, hM, hL, hLm, ha, and_self, go_sem]
      repeat' ((first | apply qa | apply qb | apply qc | apply qd | apply qe | apply qf | apply qg | apply qh | apply qi | apply qj | apply qk) <;> intro hp <;> simp only [hp, hc, hset, k1, k2, k3, e0, hC, hA, hM, hL, hLm, ha, and_self, go_sem])
      simp only [fin_mk, finV, resL, resV1, resIn, endA, listIn, Option.some_or, Option.none_or, oneOrTup, go_sem]
      rw [← hr]
      simp only [moveMails, moveCode, hm, hd, ha, h0, if_true]; rfl
    | false =>
      simp only [hc, hset, k1, k2, k3, e0, hC, hA, hM, hL, hLm, ha, and_self, go_sem]
      repeat' ((first | apply qa | apply qb | apply qc | apply qd | apply qe | apply qf | apply qg | apply qh | apply qi | apply qj | apply qk) <;> intro hp <;> simp only [hp, hc, hset, k1, k2, k3, e0, hC, hA, hM, hL, hLm, ha, and_self, go_sem])
      simp only [fin_mk, finV, resL, resV1, resIn, endA, listIn, Option.some_or, Option.none_or, oneOrTup, go_sem]
      rw [← hr]
      simp only [moveMails, moveCode, hm, hd, ha, h0, if_true, Bool.false_eq_true, if_false]; rfl
  · have e0 : (copyCode s a set b != 0) = true := by rw [bne_iff_ne]; exact h0
    simp only [hc, hset, k1, k2, k3, e0, and_self, go_sem]
    repeat' ((first | apply qa | apply qb | apply qc | apply qd | apply qe | apply qf | apply qg | apply qh | apply qi | apply qj | apply qk) <;> intro hp <;> simp only [hp, hc, hset, k1, k2, k3, e0, and_self, go_sem])
    simp only [fin_mk, finV, resL, resV1, resIn, endA, listIn, Option.some_or, Option.none_or, oneOrTup, go_sem]
    rw [← hr]
    simp only [moveMails, moveCode, hm, h0, if_true, if_false]; rfl
def T_spec_MoveMails : Hints := ⟨lk [], lk [(10, [2, 8, 10, 11, 13, 15, 16])], lk [(0, [1, 2, 3, 4, 8]), (1, [1, 2, 3, 4, 8, 10]), (2, [1, 2, 3, 4, 8, 10, 26]), (3, [8, 9]), (4, [1, 2, 8, 10, 11, 12]), (5, [1, 2, 8, 10, 11, 12, 37]), (6, [8, 9]), (7, [2, 8, 10, 11, 13]), (8, [2, 8, 10, 11, 13, 15]), (9, [2, 8, 10, 11, 13, 15, 16]), (10, [2, 8, 10, 11, 13, 15, 16, 50]), (12, [2, 8, 10, 11, 13, 15, 16, 60]), (13, [2, 8, 10, 11, 13, 15, 16]), (11, [2, 8, 10, 11, 13, 15, 16]), (14, [2, 8, 10, 11, 15, 17]), (15, [8, 10, 11, 15, 20, 21]), (16, [8, 10, 11, 20, 79]), (17, [8, 9]), (18, [8, 9])], lk []⟩
noncomputable def Phi_spec_MoveMails : Tab := lk [(40, spCopyStore), (44, spCopyMails), (42, spBoxAt), (92, spSetHas), (95, spSetFlags), (96, spExpunge), (97, spSetSize), (94, spPutBox)]
attribute [go_sem] T_spec_MoveMails Phi_spec_MoveMails
theorem phi_spec_MoveMails : ∀ f sp, Phi_spec_MoveMails f = some sp → FnOk Tryz.prog f sp ∧ ∀ n ∈ sp.need, n ∈ ([] : List String) := phi_cons ok_spec_l09Copy (n0 rfl) (phi_cons ok_spec_CopyMails (n0 rfl) (phi_cons ok_spec_BoxAt (n0 rfl) (phi_cons ok_spec_SetHas (n0 rfl) (phi_cons ok_spec_SetFlags (n0 rfl) (phi_cons ok_spec_Expunge (n0 rfl) (phi_cons ok_spec_SetSize (n0 rfl) (phi_cons ok_spec_PutBox (n0 rfl) (phi_nil))))))))
theorem ok_spec_MoveMails : FnOk Tryz.prog 45 spMoveMails := by
  refine fn_ok (Φ := Phi_spec_MoveMails) (T := T_spec_MoveMails) phi_spec_MoveMails mixed Tryz.func45 rfl rfl rfl (by decide) ?_
  intro ins r outs hr hl
  clear hl
  have hs := spMoveMails_in hr
  clear hr
  obtain ⟨s, a, set, b, rfl, hc, hr, rfl⟩ := hs
  simp only [spMoveMails, Tryz.f45, Go.VM.initS]
  obtain ⟨hc, hset⟩ := hc
  have hset8 : set.length ≤ 8388608 := by omega
  cases k3 : (a == b) with
  | true =>
    have hm : moveIn s a set b = false := by simp [moveIn, k3]
    simp only [hc, hset, k3, go_sem]
    repeat' ((first | apply qa | apply qb | apply qc | apply qd | apply qe | apply qf | apply qg | apply qh | apply qi | apply qj | apply qk) <;> intro hp <;> simp only [hp, hc, hset, k3, go_sem])
    simp only [fin_mk, finV, resL, resV1, resIn, endA, listIn, Option.some_or, Option.none_or, oneOrTup, go_sem]
    rw [← hr]
    simp only [moveMails, moveCode, hm, Bool.false_eq_true, if_false]; rfl
  | false =>
  have hC : (copyMails s a set b).le 4194304 := copyMails_le hc
  by_cases h0 : copyCode s a set b = 0
  rotate_left
  · have e0 : (copyCode s a set b != 0) = true := by rw [bne_iff_ne]; exact h0
    have hm : moveMails s a set b = s ∧ moveCode s a set b = copyCode s a set b := by
      by_cases hi : moveIn s a set b = true
      · exact ⟨by rw [moveMails, if_pos hi, if_neg h0], by rw [moveCode, if_pos hi, if_neg h0]⟩
      · have hk : ¬ (storeOk s && setOk set) = true := by
          intro h; apply hi; rw [moveIn, h, k3]; rfl
        exact ⟨by rw [moveMails, if_neg hi], by rw [moveCode, if_neg hi, copyCode, if_neg hk]⟩
    rw [hm.1, hm.2] at hr
    simp only [hc, hset, k3, e0, and_self, go_sem]
    repeat' ((first | apply qa | apply qb | apply qc | apply qd | apply qe | apply qf | apply qg | apply qh | apply qi | apply qj | apply qk) <;> intro hp <;> simp only [hp, hc, hset, k3, e0, and_self, go_sem])
    simp only [fin_mk, finV, resL, resV1, resIn, endA, listIn, Option.some_or, Option.none_or, oneOrTup, go_sem]
    rw [← hr]
    rfl
  have e0 : (copyCode s a set b != 0) = false := by rw [h0]; rfl
  have k12 : storeOk s = true ∧ setOk set = true := by
    by_cases h : (storeOk s && setOk set) = true
    · simpa using h
    · rw [copyCode, if_neg h] at h0; simp at h0
  obtain ⟨k1, k2⟩ := k12
  have hm : moveIn s a set b = true := by simp [moveIn, k1, k2, k3]
  have hA : (boxGet (copyMails s a set b) a).le 4194304 := boxGet_le hC
  have hM : (setFlags (boxGet (copyMails s a set b) a) set 2 8 (-1)).le 4194304 := setFlags_le hA
  have hL : (expunge (setFlags (boxGet (copyMails s a set b) a) set 2 8 (-1)) set).le 4194304 := expunge_le hM
  have hd : moveLeft (copyMails s a set b) a set = expunge (setFlags (boxGet (copyMails s a set b) a) set 2 8 (-1)) set := rfl
  have hG := exGone_len (setFlags (boxGet (copyMails s a set b) a) set 2 8 (-1)) set
  have hsame := move_same (setFlags (boxGet (copyMails s a set b) a) set 2 8 (-1)) set k2
  rw [cnt_set] at hsame
  have hres : moveMails s a set b = (if (moveLeft (copyMails s a set b) a set).Mails.any (inSet set) = true then s else putBox (copyMails s a set b) (moveLeft (copyMails s a set b) a set)) ∧ moveCode s a set b = (if (moveLeft (copyMails s a set b) a set).Mails.any (inSet set) = true then 3 else 0) := by
    constructor
    · rw [moveMails, if_pos hm, if_pos h0]
    · rw [moveCode, if_pos hm, if_pos h0]
  rw [hres.1, hres.2, hd] at hr
  clear hres hd
  have hml : (boxGet (copyMails s a set b) a).Mails.length ≤ 4194304 := hA.2.1.1
  simp only [hc, hset, k3, e0, hC, and_self, go_sem]
  repeat' ((first | apply qa | apply qb | apply qc | apply qd | apply qe | apply qf | apply qg | apply qh | apply qi | apply qj | apply qk) <;> intro hp <;> simp only [hp, hc, hset, k3, e0, hC, and_self, go_sem])
  generalize hAA : boxGet (copyMails s a set b) a = A at *
  refine loop_go (fun p : Nat × Int => [(15, .int .i64 p.2), (16, .int .i64 (p.1 : Int))]) (fun _ => []) (fun p => A.Mails.length - p.1) (fun p => p.1 ≤ A.Mails.length ∧ p.2 = cntIn (A.Mails.take p.1) set ∧ 0 ≤ p.2 ∧ p.2 ≤ p.1) (0, 0) ⟨Nat.zero_le _, rfl, by simp, by simp⟩ rfl rfl ?_
  rintro ⟨i, n⟩ ⟨hi, hn, n0, n1⟩ ih
  simp only at hi hn n0 n1 ih
  rcases Nat.lt_or_ge i A.Mails.length with h | h
  · have g1 : (i : Int) < A.Mails.length := by omega
    have g2 : (0 : Int) ≤ i := by omega
    have g3 : A.Mails[i]? = some A.Mails[i] := List.getElem?_eq_getElem h
    have g5 := wrap_succ h (by omega)
    have w1 : IntKind.i64.wrap (n + 1) = n + 1 := wrap64 (by omega) (by omega)
    have hcn : cntIn (A.Mails.take (i + 1)) set = n + (if inSet set A.Mails[i] = true then 1 else 0) := by
      rw [cntIn, filter_succ h, List.length_append, hn, cntIn]
      split <;> simp
    cases hq : hasR set A.Mails[i].Uid with
    | true =>
      have hq' : inSet set A.Mails[i] = true := hq
      have ih' := ih (i + 1, n + 1) ⟨h, by rw [hcn, if_pos hq'], by simp only; omega, by simp only; omega⟩ (by simp only; omega)
      simp only [g1, g2, g3, g5, hq, hset8, w1, go_sem]
      repeat' ((first | apply qa | apply qb | apply qc | apply qd | apply qe | apply qf | apply qg | apply qh | apply qi | apply qj | apply qk) <;> intro hp <;> simp only [hp, g1, g2, g3, g5, hq, hset8, w1, go_sem])
      exact ih'
    | false =>
      have hq' : ¬ inSet set A.Mails[i] = true := by rw [inSet, hq]; simp
      have ih' := ih (i + 1, n) ⟨h, by rw [hcn, if_neg hq', Int.add_zero], by simp only; omega, by simp only; omega⟩ (by simp only; omega)
      simp only [g1, g2, g3, g5, hq, hset8, go_sem]
      repeat' ((first | apply qa | apply qb | apply qc | apply qd | apply qe | apply qf | apply qg | apply qh | apply qi | apply qj | apply qk) <;> intro hp <;> simp only [hp, g1, g2, g3, g5, hq, hset8, go_sem])
      exact ih'
  · have g1 : ¬ (i : Int) < A.Mails.length := by omega
    rw [List.take_of_length_le h] at hn
    rw [← hn] at hsame
    clear ih
    cases ha : (expunge (setFlags A set 2 8 (-1)) set).Mails.any (inSet set) with
    | true =>
      rw [ha] at hsame hr
      simp only [g1, hset, hA, hM, hG, hsame, and_self, go_sem]
      repeat' ((first | apply qa | apply qb | apply qc | apply qd | apply qe | apply qf | apply qg | apply qh | apply qi | apply qj | apply qk) <;> intro hp <;> simp only [hp, g1, hset, hA, hM, hG, hsame, and_self, go_sem])
      simp only [fin_mk, finV, resL, resV1, resIn, endA, listIn, Option.some_or, Option.none_or, oneOrTup, go_sem]
      rw [← hr]
      rfl
    | false =>
      rw [ha] at hsame hr
      simp only [g1, hset, hA, hM, hL, hC, hG, hsame, and_self, go_sem]
      repeat' ((first | apply qa | apply qb | apply qc | apply qd | apply qe | apply qf | apply qg | apply qh | apply qi | apply qj | apply qk) <;> intro hp <;> simp only [hp, g1, hset, hA, hM, hL, hC, hG, hsame, and_self, go_sem])
      simp only [fin_mk, finV, resL, resV1, resIn, endA, listIn, Option.some_or, Option.none_or, oneOrTup, go_sem]
      rw [← hr]
      rfl
end Go.Proofs.YtjkhhplhjbmhjaaGreat.L

namespace Go.Proofs.YtjkhhplhjbmhjaaGreat.L
open Go Go.VM
set_option maxRecDepth 100000
set_option maxHeartbeats 4000000
set_option linter.unusedSimpArgs false
set_option linter.unusedVariables false
def forgetGood (b : Box) (upto : Int) : Bool := boxOk b && within upto 0 b.Mod
def forgetOut (b : Box) (upto : Int) : Box := ⟨b.Name, b.Valid, b.Next, b.Mod, b.Mails, b.Tombs.filter (fun x => !decide (x.Mod ≤ upto)), if b.Horizon < upto then upto else b.Horizon⟩
def forgetTombs (b : Box) (upto : Int) : Box := if forgetGood b upto = true then forgetOut b upto else b
theorem forgetTombs_le {b : Box} {upto : Int} {n : Nat} (h : b.le n) : (forgetTombs b upto).le n := by
  unfold forgetTombs
  split
  · refine ⟨h.1, h.2.1, ⟨Nat.le_trans (List.length_filter_le _ _) h.2.2.1, fun t ht => ?_⟩⟩
    exact h.2.2.2 t ((List.mem_filter.1 ht).1)
  · exact h
open Classical in
noncomputable def spForgetTombs : VM.Spec := { modes := [.rd, .rd], run := fun | [b', .int .i64 upto] => (Box.dec b').bind fun b => if b.le 4194304 then some (Box.enc (forgetTombs b upto), []) else none | _ => none, need := [] }
attribute [go_sem] spForgetTombs
theorem spForgetTombs_in {ins : List V} {r : V} {outs : List V} (h : spForgetTombs.run ins = some (r, outs)) : ∃ (b : Box) (upto : Int), ins = [Box.enc b, .int .i64 upto] ∧ (b.le 4194304) ∧ Box.enc (forgetTombs b upto) = r ∧ outs = [] := by
  unfold spForgetTombs at h
  simp only at h
  split at h
  · rename_i b' upto
    simp only [Option.bind_eq_some_iff] at h
    obtain ⟨b, h_b, h⟩ := h
    split at h
    case isFalse => cases h
    rename_i hc
    simp only [Option.some.injEq, Prod.mk.injEq] at h
    obtain ⟨h1, h2⟩ := h
    have h_b := Box.dec_some h_b
    subst h_b
    exact ⟨b, upto, rfl, hc, h1, h2.symm⟩
  · cases h
def T_impl_ForgetTombs : Hints := ⟨lk [], lk [], lk [(0, [2, 3, 4]), (1, [2, 3, 4, 5]), (2, [2, 3, 4, 5, 17]), (3, [4]), (4, [2, 3, 4, 5]), (5, [4, 5]), (6, [4])], lk []⟩
noncomputable def Phi_impl_ForgetTombs : Tab := lk [(33, spCopyBox), (34, spBoxOk), (35, spWithin), (118, spDelForgotten), (121, spForgotten)]
attribute [go_sem] T_impl_ForgetTombs Phi_impl_ForgetTombs
theorem phi_impl_ForgetTombs : ∀ f sp, Phi_impl_ForgetTombs f = some sp → FnOk Tryz.prog f sp ∧ ∀ n ∈ sp.need, n ∈ ([] : List String) := phi_cons ok_impl_copyBox (n0 rfl) (phi_cons ok_impl_BoxOk (n0 rfl) (phi_cons ok_impl_within (n0 rfl) (phi_cons ok_slices_DeleteFunc_loop_example_g00247_impl_Tomb_loop_example_g00247_impl_Tomb_forget (n0 rfl) (phi_cons ok_impl_ForgetTombs_1 (n0 rfl) (phi_nil)))))
theorem ok_impl_ForgetTombs : FnOk Tryz.prog 76 spForgetTombs := by
  refine fn_ok (Φ := Phi_impl_ForgetTombs) (T := T_impl_ForgetTombs) phi_impl_ForgetTombs mixed Tryz.func76 rfl rfl rfl (by decide) ?_
  intro ins r outs hr hl
  clear hl
  have hs := spForgetTombs_in hr
  clear hr
  obtain ⟨b, upto, rfl, hc, hr, rfl⟩ := hs
  simp only [spForgetTombs, Tryz.f76, Go.VM.initS]
  have ht : b.Tombs.length ≤ 4194304 := hc.2.2.1
  cases hk : forgetGood b upto with
  | false =>
    cases hb : boxOk b with
    | false =>
      simp only [hc, hb, go_sem]
      repeat' ((first | apply qa | apply qb | apply qc | apply qd | apply qe | apply qf | apply qg | apply qh | apply qi | apply qj | apply qk) <;> intro hp <;> simp only [hp, hc, hb, go_sem])
      simp only [fin_mk, finV, resL, resV1, resIn, endA, listIn, Option.some_or, Option.none_or, oneOrTup, go_sem]
      rw [← hr]
      rw [forgetTombs, hk]; rfl
    | true =>
      have hw : within upto 0 b.Mod = false := by simpa [forgetGood, hb] using hk
      simp only [hc, hb, hw, go_sem]
      repeat' ((first | apply qa | apply qb | apply qc | apply qd | apply qe | apply qf | apply qg | apply qh | apply qi | apply qj | apply qk) <;> intro hp <;> simp only [hp, hc, hb, hw, go_sem])
      simp only [fin_mk, finV, resL, resV1, resIn, endA, listIn, Option.some_or, Option.none_or, oneOrTup, go_sem]
      rw [← hr]
      rw [forgetTombs, hk]; rfl
  | true =>
    obtain ⟨hb, hw⟩ : boxOk b = true ∧ within upto 0 b.Mod = true := by simpa [forgetGood] using hk
    rcases Int.lt_or_le b.Horizon upto with q | q
    · simp only [hc, hb, hw, ht, q, go_sem]
      repeat' ((first | apply qa | apply qb | apply qc | apply qd | apply qe | apply qf | apply qg | apply qh | apply qi | apply qj | apply qk) <;> intro hp <;> simp only [hp, hc, hb, hw, ht, q, go_sem])
      simp only [fin_mk, finV, resL, resV1, resIn, endA, listIn, Option.some_or, Option.none_or, oneOrTup, go_sem]
      rw [← hr]
      rw [forgetTombs, hk]
      simp only [forgetOut, if_pos q, Box.enc]; rfl
    · have q' : ¬ b.Horizon < upto := by omega
      simp only [hc, hb, hw, ht, q', go_sem]
      repeat' ((first | apply qa | apply qb | apply qc | apply qd | apply qe | apply qf | apply qg | apply qh | apply qi | apply qj | apply qk) <;> intro hp <;> simp only [hp, hc, hb, hw, ht, q', go_sem])
      simp only [fin_mk, finV, resL, resV1, resIn, endA, listIn, Option.some_or, Option.none_or, oneOrTup, go_sem]
      rw [← hr]
      rw [forgetTombs, hk]
      simp only [forgetOut, if_neg q', Box.enc]; rfl
def T_spec_ForgetTombs : Hints := ⟨lk [(9, [(0, 7), (1, 7)])], lk [(6, [1, 2, 4, 5, 6])], lk [(0, [1, 2, 4]), (1, [1, 2, 4, 5]), (2, [1, 2, 4, 5, 18]), (3, [4]), (4, [1, 2, 4, 5]), (5, [1, 2, 4, 5, 6]), (6, [1, 2, 4, 5, 6, 26]), (8, [1, 2, 4, 5, 6, 36]), (9, [1, 2, 4, 5, 6]), (7, [1, 2, 4, 5, 6]), (10, [1, 4, 5, 50]), (11, [4, 5]), (12, [4])], lk []⟩
noncomputable def Phi_spec_ForgetTombs : Tab := lk [(90, spCopyBox), (83, spBoxOk), (84, spWithin)]
attribute [go_sem] T_spec_ForgetTombs Phi_spec_ForgetTombs
theorem phi_spec_ForgetTombs : ∀ f sp, Phi_spec_ForgetTombs f = some sp → FnOk Tryz.prog f sp ∧ ∀ n ∈ sp.need, n ∈ ([] : List String) := phi_cons ok_spec_l08Copy (n0 rfl) (phi_cons ok_spec_BoxOk (n0 rfl) (phi_cons ok_spec_l01In (n0 rfl) (phi_nil)))
theorem ok_spec_ForgetTombs : FnOk Tryz.prog 98 spForgetTombs := by
  refine fn_ok (Φ := Phi_spec_ForgetTombs) (T := T_spec_ForgetTombs) phi_spec_ForgetTombs mixed Tryz.func98 rfl rfl rfl (by decide) ?_
  intro ins r outs hr hl
  clear hl
  have hs := spForgetTombs_in hr
  clear hr
  obtain ⟨b, upto, rfl, hc, hr, rfl⟩ := hs
  simp only [spForgetTombs, Tryz.f98, Go.VM.initS]
  have ht : b.Tombs.length ≤ 4194304 := hc.2.2.1
  cases hk : forgetGood b upto with
  | false =>
    cases hb : boxOk b with
    | false =>
      simp only [hc, hb, go_sem]
      repeat' ((first | ((first | apply qa | apply qb | apply qc | apply qd | apply qe | apply qf | apply qg | apply qh | apply qi | apply qj | apply qk) <;> intro hp) | ((first | refine ql rfl rfl (by decide +kernel) ?_ | refine qm _ rfl rfl (by decide +kernel) ?_) <;> have hp := True.intro)) <;> simp only [hp, hc, hb, go_sem])
      simp only [fin_mk, finV, resL, resV1, resIn, endA, listIn, Option.some_or, Option.none_or, oneOrTup, go_sem]
      rw [← hr]
      rw [forgetTombs, hk]; rfl
    | true =>
      have hw : within upto 0 b.Mod = false := by simpa [forgetGood, hb] using hk
      simp only [hc, hb, hw, go_sem]
      repeat' ((first | ((first | apply qa | apply qb | apply qc | apply qd | apply qe | apply qf | apply qg | apply qh | apply qi | apply qj | apply qk) <;> intro hp) | ((first | refine ql rfl rfl (by decide +kernel) ?_ | refine qm _ rfl rfl (by decide +kernel) ?_) <;> have hp := True.intro)) <;> simp only [hp, hc, hb, hw, go_sem])
      simp only [fin_mk, finV, resL, resV1, resIn, endA, listIn, Option.some_or, Option.none_or, oneOrTup, go_sem]
      rw [← hr]
      rw [forgetTombs, hk]; rfl
  | true =>
    obtain ⟨hb, hw⟩ : boxOk b = true ∧ within upto 0 b.Mod = true := by simpa [forgetGood] using hk
    simp only [hc, hb, hw, go_sem]
    have hfe : ∀ i, ((b.Tombs.take i).filter (fun x => !decide (x.Mod ≤ upto))).length ≤ b.Tombs.length := fun i => filter_take_len b.Tombs _ i
    refine loop_go (fun i : Nat => [(6, .int .i64 (i : Int))]) (fun i => [(4, ⟨.arr, 2, ((b.Tombs.take i).filter (fun x => !decide (x.Mod ≤ upto))).map Tomb.enc⟩)]) (fun i => b.Tombs.length - i) (fun i => i ≤ b.Tombs.length) 0 (Nat.zero_le _) rfl rfl ?_
    intro i hi ih
    rcases Nat.lt_or_ge i b.Tombs.length with h | h
    · have g1 : (i : Int) < b.Tombs.length := by omega
      have g2 : (0 : Int) ≤ i := by omega
      have g3 : b.Tombs[i]? = some b.Tombs[i] := List.getElem?_eq_getElem h
      have g5 := wrap_succ h (by omega)
      have hn := hfe i
      have g6 : (((b.Tombs.take i).filter (fun x => !decide (x.Mod ≤ upto))).length + 1) * 16 ≤ 140737488355328 := by omega
      have g7 : ((b.Tombs.take i).filter (fun x => !decide (x.Mod ≤ upto))).length + 1 ≤ 9223372036854775807 := by omega
      rcases Int.lt_or_le upto b.Tombs[i].Mod with q | q
      · have ih' := ih (i + 1) h (by omega)
        rw [filter_succ h, if_pos (by simp only [Bool.not_eq_true', decide_eq_false_iff_not]; omega), List.map_append] at ih'
        simp only [g1, g2, g3, g5, g6, g7, q, go_sem]
        repeat' ((first | ((first | apply qa | apply qb | apply qc | apply qd | apply qe | apply qf | apply qg | apply qh | apply qi | apply qj | apply qk) <;> intro hp) | ((first | refine ql rfl rfl (by decide +kernel) ?_ | refine qm _ rfl rfl (by decide +kernel) ?_) <;> have hp := True.intro)) <;> simp only [hp, g1, g2, g3, g5, g6, g7, q, go_sem])
        exact ih'
      · have q' : ¬ upto < b.Tombs[i].Mod := by omega
        have ih' := ih (i + 1) h (by omega)
        rw [filter_succ h, if_neg (by simp only [Bool.not_eq_true', decide_eq_false_iff_not]; omega), List.append_nil] at ih'
        simp only [g1, g2, g3, g5, g6, g7, q', go_sem]
        repeat' ((first | ((first | apply qa | apply qb | apply qc | apply qd | apply qe | apply qf | apply qg | apply qh | apply qi | apply qj | apply qk) <;> intro hp) | ((first | refine ql rfl rfl (by decide +kernel) ?_ | refine qm _ rfl rfl (by decide +kernel) ?_) <;> have hp := True.intro)) <;> simp only [hp, g1, g2, g3, g5, g6, g7, q', go_sem])
        exact ih'
    · have g1 : ¬ (i : Int) < b.Tombs.length := by omega
      rcases Int.lt_or_le b.Horizon upto with q | q
      · simp only [g1, q, go_sem]
        repeat' ((first | ((first | apply qa | apply qb | apply qc | apply qd | apply qe | apply qf | apply qg | apply qh | apply qi | apply qj | apply qk) <;> intro hp) | ((first | refine ql rfl rfl (by decide +kernel) ?_ | refine qm _ rfl rfl (by decide +kernel) ?_) <;> have hp := True.intro)) <;> simp only [hp, g1, q, go_sem])
        simp only [fin_mk, finV, resL, resV1, resIn, endA, listIn, Option.some_or, Option.none_or, oneOrTup, go_sem]
        rw [← hr]
        rw [forgetTombs, hk]
        simp only [forgetOut, if_pos q, Box.enc, List.take_of_length_le h]; rfl
      · have q' : ¬ b.Horizon < upto := by omega
        simp only [g1, q', go_sem]
        repeat' ((first | ((first | apply qa | apply qb | apply qc | apply qd | apply qe | apply qf | apply qg | apply qh | apply qi | apply qj | apply qk) <;> intro hp) | ((first | refine ql rfl rfl (by decide +kernel) ?_ | refine qm _ rfl rfl (by decide +kernel) ?_) <;> have hp := True.intro)) <;> simp only [hp, g1, q', go_sem])
        simp only [fin_mk, finV, resL, resV1, resIn, endA, listIn, Option.some_or, Option.none_or, oneOrTup, go_sem]
        rw [← hr]
        rw [forgetTombs, hk]
        simp only [forgetOut, if_neg q', Box.enc, List.take_of_length_le h]; rfl
end Go.Proofs.YtjkhhplhjbmhjaaGreat.L

