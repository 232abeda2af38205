/- Contracts of functions, and the facts that they need. No condition. -/
import Derived.Test.YtghmjnggmacohaaGreatDoorVLTh
import Derived.Test.YtghmjnggmacohaaGreatDoorVLSr5
import Derived.Test.YtghmjnggmacohaaGreatDoorVLFl
import Derived.Test.YtghmjnggmacohaaGreatDoorVmCur
import Derived.Test.YtghmjnggmacohaaGreatDoorVmLoop


namespace Go.Proofs.YtghmjnggmacohaaGreatDoor.L
open Go Go.VM
set_option maxRecDepth 100000
set_option maxHeartbeats 4000000
set_option linter.unusedSimpArgs false
set_option linter.unusedVariables false
def GoodT (T : List (List Int)) (m : Int) : Prop := (∀ x ∈ T, x ≠ [] ∧ x.Pairwise (fun a b => a < b) ∧ ∀ y ∈ x, y < m) ∧ (T.map (fun x => x.headD 0)).Pairwise (fun a b => a < b)
theorem head_in {x : List Int} (h : x ≠ []) : x.headD 0 ∈ x := by
  cases x with
  | nil => exact absurd rfl h
  | cons a l => simp
theorem addT_good {st : Th} {n : List UInt8} {u m : Int} (h : GoodT (st.map (·.2)) m) (hu : m ≤ u) : GoodT ((addT st n u).map (·.2)) (u + 1) ∧ cntT (addT st n u) = cntT st + 1 := by
  obtain ⟨h1, h2⟩ := h
  cases hx : ixT st n with
  | none =>
    rw [addT_none hx]
    refine ⟨⟨?_, ?_⟩, by simp [cntT]⟩
    · intro x hx'
      rw [List.map_append, List.mem_append] at hx'
      rcases hx' with hx' | hx'
      · obtain ⟨a, b, c⟩ := h1 x hx'
        exact ⟨a, b, fun y hy => by have := c y hy; omega⟩
      · simp only [List.map_cons, List.map_nil, List.mem_singleton] at hx'
        subst hx'
        exact ⟨by simp, by simp, fun y hy => by rw [List.mem_singleton] at hy; omega⟩
    · rw [List.map_append, List.map_append]
      refine List.pairwise_append.2 ⟨h2, by simp, fun a ha b hb => ?_⟩
      simp only [List.map_cons, List.map_nil, List.headD_cons, List.mem_singleton] at hb
      subst hb
      obtain ⟨x, hx', rfl⟩ := List.mem_map.1 ha
      obtain ⟨q1, _, q3⟩ := h1 x hx'
      have := q3 _ (head_in q1)
      omega
  | some i =>
    have hi := ixT_lt hx
    rw [addT_some hx, snds_mod]
    generalize hT : st.map (·.2) = T at *
    have hTl : i < T.length := by rw [← hT]; simpa using hi
    refine ⟨⟨?_, ?_⟩, ?_⟩
    · intro x hx'
      obtain ⟨k, hk, rfl⟩ := List.mem_iff_getElem.1 hx'
      rw [List.length_modify] at hk
      rw [List.getElem_modify]
      obtain ⟨a, b, c⟩ := h1 _ (List.getElem_mem hk)
      split
      · refine ⟨by simp, List.pairwise_append.2 ⟨b, by simp, fun y hy z hz => ?_⟩, fun y hy => ?_⟩
        · rw [List.mem_singleton] at hz
          have := c y hy; omega
        · rcases List.mem_append.1 hy with hy | hy
          · have := c y hy; omega
          · rw [List.mem_singleton] at hy; omega
      · exact ⟨a, b, fun y hy => by have := c y hy; omega⟩
    · have : (T.modify i (· ++ [u])).map (fun x => x.headD 0) = T.map (fun x => x.headD 0) := by
        apply List.ext_getElem
        · simp
        · intro k k1 k2
          simp only [List.getElem_map, List.getElem_modify]
          split
          · have hk : k < T.length := by simpa using k2
            obtain ⟨a, _, _⟩ := h1 _ (List.getElem_mem hk)
            cases q : T[k] with
            | nil => exact absurd q a
            | cons y l => rfl
          · rfl
      rw [this]; exact h2
    · have key : ∀ (st : Th) (i : Nat), i < st.length → ((st.modify i fun p => (p.1, p.2 ++ [u])).map fun p => p.2.length).sum = (st.map fun p => p.2.length).sum + 1 := by
        intro st
        induction st with
        | nil => intro i hi; simp at hi
        | cons p r ih =>
          intro i hi
          cases i with
          | zero => simp only [List.modify_zero_cons, List.map_cons, List.sum_cons, List.length_append, List.length_singleton]; omega
          | succ i =>
            have := ih i (by simpa using hi)
            simp only [List.modify_succ_cons, List.map_cons, List.sum_cons]; omega
      exact key st i hi
theorem foldl_good : ∀ (L : List Mail) (st : Th) (m : Int), GoodT (st.map (·.2)) m → L.Pairwise (fun x y => x.Uid < y.Uid) → (∀ x ∈ L, m ≤ x.Uid) →
    (∃ m', GoodT ((L.foldl (fun st x => addT st (subjectOf x) x.Uid) st).map (·.2)) m') ∧ cntT (L.foldl (fun st x => addT st (subjectOf x) x.Uid) st) = cntT st + L.length
  | [], st, m, h, _, _ => ⟨⟨m, h⟩, rfl⟩
  | x :: L, st, m, h, hp, hu => by
    obtain ⟨p1, p2⟩ := List.pairwise_cons.1 hp
    obtain ⟨g1, g2⟩ := addT_good (n := subjectOf x) h (hu x (by simp))
    obtain ⟨r1, r2⟩ := foldl_good L (addT st (subjectOf x) x.Uid) (x.Uid + 1) g1 p2 (fun y hy => by have := p1 y hy; omega)
    refine ⟨r1, ?_⟩
    rw [List.foldl_cons, r2, g2, List.length_cons]; omega
theorem thr_good {L : List Mail} (hp : L.Pairwise (fun x y => x.Uid < y.Uid)) (hu : ∀ x ∈ L, 0 ≤ x.Uid) : (∃ m, GoodT ((thrL L).map (·.2)) m) ∧ (((thrL L).map (·.2)).map List.length).sum = L.length := by
  obtain ⟨h1, h2⟩ := foldl_good L [] 0 ⟨fun x hx => (by cases hx), List.Pairwise.nil⟩ hp hu
  refine ⟨h1, ?_⟩
  have : (((thrL L).map (·.2)).map List.length).sum = cntT (thrL L) := by rw [cntT, List.map_map]; rfl
  rw [this]
  show cntT (L.foldl _ []) = _
  rw [h2]; simp [cntT]
theorem mailsIn_all {b : Box} (h : boxOk b = true) : mailsIn b [⟨1, 9999⟩] = b.Mails := by
  rw [mailsIn, if_pos h, List.filter_eq_self]
  intro m hm
  obtain ⟨i, hi, rfl⟩ := List.mem_iff_getElem.1 hm
  have := mail_in h hi
  simp only [hasR, List.any_cons, List.any_nil, Bool.or_false, Bool.and_eq_true, decide_eq_true_eq]
  omega
theorem threads_each (b : Box) (s : List Range) : (threadsV b s).length ≤ 30 ∧ ∀ x ∈ threadsV b s, x.length ≤ 30 := by
  obtain ⟨c1, c2⟩ := thr_cnt (mailsIn b s)
  have c3 := mailsIn_few b s
  refine ⟨by rw [threadsV, List.length_map]; omega, fun x hx => ?_⟩
  rw [threadsV] at hx
  obtain ⟨p, hp, rfl⟩ := List.mem_map.1 hx
  obtain ⟨i, hi, rfl⟩ := List.mem_iff_getElem.1 hp
  have := mem_cnt hi
  omega
theorem threads_good {b : Box} (h : boxOk b = true) : (∃ m, GoodT (threadsV b [⟨1, 9999⟩]) m) ∧ ((threadsV b [⟨1, 9999⟩]).map List.length).sum = b.Mails.length := by
  rw [threadsV]
  have hp := mailsIn_asc b [⟨1, 9999⟩]
  rw [mailsIn_all h] at hp ⊢
  exact thr_good hp fun x hx => by
    obtain ⟨i, hi, rfl⟩ := List.mem_iff_getElem.1 hx
    have := mail_in h hi
    omega
theorem sort_mem {b : Box} (h : boxOk b = true) {i : Nat} (hi : i < b.Mails.length) : b.Mails[i].Uid ∈ sortBy b [⟨1, 9999⟩] := by
  rw [sortBy]
  refine List.mem_map.2 ⟨b.Mails[i], ?_, rfl⟩
  rw [(SM.sortI_ok ordS (mailsIn_asc b [⟨1, 9999⟩])).1.mem_iff, mailsIn_all h]
  exact List.getElem_mem hi
theorem sort_all {b : Box} (h : boxOk b = true) : (sortBy b [⟨1, 9999⟩]).length = b.Mails.length := by
  rw [sortBy, List.length_map, sortI_len, mailsIn_all h]
end Go.Proofs.YtghmjnggmacohaaGreatDoor.L

namespace Go.Proofs.YtghmjnggmacohaaGreatDoor.L
open Go Go.VM
set_option maxRecDepth 100000
set_option maxHeartbeats 8000000
set_option linter.unusedSimpArgs false
set_option linter.unusedVariables false
theorem ixT_none {st : Th} {n : List UInt8} (h : ixT st n = none) : ∀ p ∈ st, p.1 ≠ n := by
  induction st with
  | nil => exact fun p hp => (by cases hp)
  | cons q r ih =>
    obtain ⟨k, l⟩ := q
    rw [ixT] at h
    split at h
    · cases h
    · rename_i hc
      intro p hp
      rcases List.mem_cons.1 hp with rfl | hp
      · exact fun e => hc (by rw [beq_iff_eq]; exact e.symm)
      · exact ih (by simpa using h) p hp
theorem key_at : ∀ {st : Th} {n : List UInt8}, (st.map (·.1)).Nodup → ∀ k (h : k < st.length), (st[k].1 == n) = decide (ixT st n = some k)
  | (q, l) :: r, n, hn, k, h => by
    rw [List.map_cons, List.nodup_cons] at hn
    cases k with
    | zero =>
      rw [List.getElem_cons_zero, ixT]
      by_cases c : (n == q) = true
      · rw [if_pos c]
        have : n = q := by simpa using c
        subst this; simp
      · rw [if_neg c]
        have c2 : (q == n) = false := by
          rw [beq_eq_false_iff_ne]; intro e; apply c; rw [beq_iff_eq]; exact e.symm
        rw [c2]
        symm; rw [decide_eq_false_iff_not]
        intro e
        simp only [Option.map_eq_some_iff] at e
        obtain ⟨j, _, hj⟩ := e
        omega
    | succ k =>
      rw [List.getElem_cons_succ, key_at hn.2 k (by simpa using h), ixT]
      by_cases c : (n == q) = true
      · rw [if_pos c]
        have e : n = q := by simpa using c
        subst e
        have : ixT r n ≠ some k := by
          intro hk
          have hl := ixT_lt hk
          have hm := key_at (n := n) hn.2 k hl
          rw [hk] at hm
          simp at hm
          exact hn.1 (List.mem_map.2 ⟨r[k], List.getElem_mem hl, hm⟩)
        simp [this]
      · rw [if_neg c]
        rw [Bool.eq_iff_iff]
        simp
theorem addT_nodup {st : Th} {n : List UInt8} {u : Int} (h : (st.map (·.1)).Nodup) : ((addT st n u).map (·.1)).Nodup := by
  cases hx : ixT st n with
  | none =>
    rw [addT_none hx, List.map_append, List.map_cons, List.map_nil]
    refine List.nodup_append.2 ⟨h, by simp, fun a ha b hb => ?_⟩
    rw [List.mem_singleton] at hb
    subst hb
    obtain ⟨p, hp, rfl⟩ := List.mem_map.1 ha
    exact ixT_none hx p hp
  | some i =>
    rw [addT_some hx]
    have : (st.modify i fun p => (p.1, p.2 ++ [u])).map (·.1) = st.map (·.1) := by
      apply List.ext_getElem
      · simp
      · intro k h1 h2
        simp only [List.getElem_map, List.getElem_modify]
        split <;> rfl
    rw [this]; exact h
theorem foldl_nodup : ∀ (L : List Mail) (st : Th), (st.map (·.1)).Nodup → ((L.foldl (fun st x => addT st (subjectOf x) x.Uid) st).map (·.1)).Nodup
  | [], st, h => h
  | x :: L, st, h => foldl_nodup L _ (addT_nodup h)
theorem fsts_mod (st : Th) (i : Nat) (u : Int) : (st.modify i fun p => (p.1, p.2 ++ [u])).map (·.1) = st.map (·.1) := by
  apply List.ext_getElem
  · simp
  · intro k h1 h2
    simp only [List.getElem_map, List.getElem_modify]
    split <;> rfl
def T_spec_Threads : Hints := ⟨lk [(19, [(4, 12), (5, 12)])], lk [(6, [1, 2, 5, 6, 7]), (12, [1, 2, 5, 6, 7, 8, 9, 10])], lk [(0, [1, 2]), (1, [1, 2, 5]), (2, [1, 2, 5, 6]), (3, [1, 2, 5, 6, 15]), (4, [4]), (5, [1, 2, 5, 6, 7]), (6, [1, 2, 5, 6, 7, 21]), (8, [1, 2, 5, 6, 7, 32]), (9, [1, 2, 5, 6, 7, 8]), (10, [1, 2, 5, 6, 7, 8, 9]), (11, [1, 2, 5, 6, 7, 8, 9, 10]), (12, [1, 2, 5, 6, 7, 8, 9, 10, 42]), (14, [1, 2, 5, 6, 7, 8, 9, 10, 50]), (15, [1, 2, 5, 6, 7, 8, 9, 10]), (13, [1, 2, 5, 6, 7, 8, 9, 10]), (16, [1, 2, 5, 6, 7, 8, 9, 53]), (17, [1, 2, 5, 6, 7]), (18, [1, 2, 5, 6, 7]), (19, [1, 2, 5, 6, 7]), (7, [1, 2, 5, 6, 7]), (20, [4])], lk [(19, ((5, []), (9, [])))], lf []⟩
noncomputable def Phi_spec_Threads : Tab := lk [(28, spBoxOk), (29, spSetHas), (30, spSubjectOf)]
attribute [go_sem] T_spec_Threads Phi_spec_Threads
theorem phi_spec_Threads : ∀ f sp, Phi_spec_Threads f = some sp → FnOk Tryz.prog f sp ∧ ∀ n ∈ sp.need, n ∈ (["internal/bytealg.MaxLen"] : List String) := phi_cons ok_spec_BoxOk (n0 rfl) (phi_cons ok_spec_SetHas (n0 rfl) (phi_cons ok_spec_l12Subject (fun n (h : n ∈ (["internal/bytealg.MaxLen"] : List String)) => by simp only [List.mem_cons, List.not_mem_nil, or_false] at h; rcases h with rfl <;> simp) (phi_nil)))
theorem ok_spec_Threads : FnOk Tryz.prog 24 spThreads := by
  refine fn_ok (Φ := Phi_spec_Threads) (T := T_spec_Threads) phi_spec_Threads mixed Tryz.func24 rfl rfl rfl (by decide) ?_
  intro ins r outs hr hl
  clear hl
  have hs := spThreads_in hr
  clear hr
  obtain ⟨b, s, rfl, hc, hr, rfl⟩ := hs
  simp only [spThreads, Tryz.f24, Go.VM.initS]
  obtain ⟨hc, hs⟩ := hc
  cases hk : boxOk b with
  | false =>
    simp only [hc, hs, hk, go_sem]
    repeat' ((first | ((first | apply qa | apply qb | apply qc | apply qd | apply qe | apply qf | apply qg | apply qh | apply qi | apply qj | apply qk) <;> intro hp) | ((first | refine ql rfl rfl (by decide +kernel) ?_ | refine qm _ rfl rfl (by decide +kernel) ?_ | refine goes_opn rfl ?_ | refine goes_opnD rfl rfl (by decide +kernel) ?_ | refine goes_opnN _ rfl rfl (by decide +kernel) ?_) <;> have hp := True.intro)) <;> simp only [hp, hc, hs, hk, go_sem])
    all_goals (simp only [fin_mk, finV, resL, resV1, resIn, endA, listIn, Option.some_or, Option.none_or, oneOrTup, go_sem]; rw [← hr])
    all_goals (rw [threadsV, mailsIn, hk, if_neg (by simp)]; rfl)
  | true =>
    have hml : b.Mails.length ≤ 30 := (boxOk_parts hk).2.1
    rw [threadsV, mailsIn, hk, if_pos rfl] at hr
    have hs8 : s.length ≤ 8388608 := by omega
    simp only [hc, hs, hk, go_sem]
    repeat' ((first | ((first | apply qa | apply qb | apply qc | apply qd | apply qe | apply qf | apply qg | apply qh | apply qi | apply qj | apply qk) <;> intro hp) | ((first | refine ql rfl rfl (by decide +kernel) ?_ | refine qm _ rfl rfl (by decide +kernel) ?_ | refine goes_opn rfl ?_ | refine goes_opnD rfl rfl (by decide +kernel) ?_ | refine goes_opnN _ rfl rfl (by decide +kernel) ?_) <;> have hp := True.intro)) <;> simp only [hp, hc, hs, hk, go_sem])
    refine loop_go (fun i : Nat => [(7, .int .i64 (i : Int))]) (fun i => [(1, ⟨.arr, 1, ((thrL ((b.Mails.take i).filter (fun m => hasR s m.Uid))).map (·.2)).map (eList 1 eInt)⟩), (2, ⟨.arr, 1, ((thrL ((b.Mails.take i).filter (fun m => hasR s m.Uid))).map (·.1)).map eStr⟩)]) (fun i => b.Mails.length - i) (fun i => i ≤ b.Mails.length) 0 (Nat.zero_le _) rfl rfl ?_
    intro i hi ih
    obtain ⟨c1, c2⟩ := thr_cnt ((b.Mails.take i).filter (fun m => hasR s m.Uid))
    have c3 : ((b.Mails.take i).filter (fun m => hasR s m.Uid)).length ≤ 30 := Nat.le_trans (List.length_filter_le _ _) (by rw [List.length_take]; omega)
    rcases Nat.lt_or_ge i b.Mails.length with h | h
    · have g1 : (i : Int) < b.Mails.length := by omega
      have g2 : (0 : Int) ≤ i := by omega
      have g3 : b.Mails[i]? = some b.Mails[i] := List.getElem?_eq_getElem h
      have g5 := wrap_succ h (by omega)
      have gm : Mail.le 4194304 b.Mails[i] := hc.2.1.2 _ (List.getElem_mem h)
      have ih' := ih (i + 1) h (by omega)
      clear ih
      rw [filter_succ h] at ih'
      generalize hmm : b.Mails[i] = m at *
      generalize hDD : (b.Mails.take i).filter (fun m => hasR s m.Uid) = D at *
      cases hA : hasR s m.Uid with
      | false =>
        simp only [hA, Bool.false_eq_true, if_false, List.append_nil] at ih'
        simp only [g1, g2, g3, g5, hA, hs8, go_sem]
        repeat' ((first | ((first | apply qa | apply qb | apply qc | apply qd | apply qe | apply qf | apply qg | apply qh | apply qi | apply qj | apply qk) <;> intro hp) | ((first | refine ql rfl rfl (by decide +kernel) ?_ | refine qm _ rfl rfl (by decide +kernel) ?_ | refine goes_opn rfl ?_ | refine goes_opnD rfl rfl (by decide +kernel) ?_ | refine goes_opnN _ rfl rfl (by decide +kernel) ?_) <;> have hp := True.intro)) <;> simp only [hp, g1, g2, g3, g5, hA, hs8, go_sem])
        all_goals exact ih'
      | true =>
        rw [hA, if_pos rfl, thr_snoc] at ih'
        have hnd : ((thrL D).map (·.1)).Nodup := foldl_nodup D [] List.nodup_nil
        generalize hst : thrL D = st at *
        have z0 : (0 : Int) ≤ st.length := by omega
        simp only [g1, g2, g3, g5, hA, hs8, gm, go_sem]
        repeat' ((first | ((first | apply qa | apply qb | apply qc | apply qd | apply qe | apply qf | apply qg | apply qh | apply qi | apply qj | apply qk) <;> intro hp) | ((first | refine ql rfl rfl (by decide +kernel) ?_ | refine qm _ rfl rfl (by decide +kernel) ?_ | refine goes_opn rfl ?_ | refine goes_opnD rfl rfl (by decide +kernel) ?_ | refine goes_opnN _ rfl rfl (by decide +kernel) ?_) <;> have hp := True.intro)) <;> simp only [hp, g1, g2, g3, g5, hA, hs8, gm, go_sem])
        refine loop_go (fun p : Nat × Int => [(9, .int .i64 p.2), (10, .int .i64 (p.1 : Int))]) (fun p => []) (fun p => st.length - p.1) (fun p => p.1 ≤ st.length ∧ p.2 = (match ixT st (subjectOf m) with | some j => if j < p.1 then (j : Int) else -1 | none => -1)) (0, -1) ⟨Nat.zero_le _, by cases ixT st (subjectOf m) <;> simp⟩ rfl rfl ?_
        rintro ⟨k, a⟩ ⟨q1, q2⟩ ih2
        simp only at q1 q2 ih2
        rcases Nat.lt_or_ge k st.length with hkl | hkl
        · have e1 : (k : Int) < st.length := by omega
          have e2 : (0 : Int) ≤ k := by omega
          have e3 : st[k]? = some st[k] := List.getElem?_eq_getElem hkl
          have e4 : IntKind.i64.wrap ((k : Int) + 1) = ((k + 1 : Nat) : Int) := wrap_succ hkl (by omega)
          have e5 := key_at (n := subjectOf m) hnd k hkl
          by_cases hkk : ixT st (subjectOf m) = some k
          · rw [decide_eq_true hkk] at e5
            have ih3 := ih2 (k + 1, (k : Int)) ⟨hkl, by simp only [hkk]; rw [if_pos (by omega)]⟩ (by simp only; omega)
            clear ih2 ih'
            simp only [e1, e2, e3, e4, e5, List.length_map, go_sem]
            repeat' ((first | ((first | apply qa | apply qb | apply qc | apply qd | apply qe | apply qf | apply qg | apply qh | apply qi | apply qj | apply qk) <;> intro hp) | ((first | refine ql rfl rfl (by decide +kernel) ?_ | refine qm _ rfl rfl (by decide +kernel) ?_ | refine goes_opn rfl ?_ | refine goes_opnD rfl rfl (by decide +kernel) ?_ | refine goes_opnN _ rfl rfl (by decide +kernel) ?_) <;> have hp := True.intro)) <;> simp only [hp, e1, e2, e3, e4, e5, List.length_map, go_sem])
            all_goals exact ih3
          · rw [decide_eq_false hkk] at e5
            have ih3 := ih2 (k + 1, a) ⟨hkl, by
              rw [q2]
              cases hx : ixT st (subjectOf m) with
              | none => rfl
              | some j =>
                have : j ≠ k := fun e => hkk (by rw [hx, e])
                simp only
                by_cases c : j < k
                · rw [if_pos c, if_pos (by omega)]
                · rw [if_neg c, if_neg (by omega)]⟩ (by simp only; omega)
            clear ih2 ih'
            simp only [e1, e2, e3, e4, e5, List.length_map, go_sem]
            repeat' ((first | ((first | apply qa | apply qb | apply qc | apply qd | apply qe | apply qf | apply qg | apply qh | apply qi | apply qj | apply qk) <;> intro hp) | ((first | refine ql rfl rfl (by decide +kernel) ?_ | refine qm _ rfl rfl (by decide +kernel) ?_ | refine goes_opn rfl ?_ | refine goes_opnD rfl rfl (by decide +kernel) ?_ | refine goes_opnN _ rfl rfl (by decide +kernel) ?_) <;> have hp := True.intro)) <;> simp only [hp, e1, e2, e3, e4, e5, List.length_map, go_sem])
            all_goals exact ih3
        · have e1 : ¬ (k : Int) < st.length := by omega
          clear ih2
          cases hx : ixT st (subjectOf m) with
          | none =>
            rw [hx] at q2
            simp only at q2
            subst q2
            rw [addT_none hx, List.map_append, List.map_append, List.map_append, List.map_append] at ih'
            simp only [List.map_cons, List.map_nil, eList, eStr, eInt] at ih'
            have z4 : (st.length + 1) * 24 ≤ 140737488355328 := by omega
            have z5 : st.length ≤ 9223372036854775806 := by omega
            have z6 : (st.length + 1) * 16 ≤ 140737488355328 := by omega
            simp only [g1, g2, g3, g5, e1, z4, z5, z6, List.length_map, go_sem]
            repeat' ((first | ((first | apply qa | apply qb | apply qc | apply qd | apply qe | apply qf | apply qg | apply qh | apply qi | apply qj | apply qk) <;> intro hp) | ((first | refine ql rfl rfl (by decide +kernel) ?_ | refine qm _ rfl rfl (by decide +kernel) ?_ | refine goes_opn rfl ?_ | refine goes_opnD rfl rfl (by decide +kernel) ?_ | refine goes_opnN _ rfl rfl (by decide +kernel) ?_) <;> have hp := True.intro)) <;> simp only [hp, g1, g2, g3, g5, e1, z4, z5, z6, List.length_map, go_sem])
            all_goals exact ih'
          | some j =>
            have hj := ixT_lt hx
            rw [hx] at q2
            simp only at q2
            rw [if_pos (by omega)] at q2
            subst q2
            obtain ⟨T, hT⟩ : ∃ T, st.map (·.2) = T := ⟨_, rfl⟩
            have hTl : T.length = st.length := by rw [← hT, List.length_map]
            rw [addT_some hx, snds_mod, fsts_mod, hT, encs_mod (by omega)] at ih'
            simp only [hT]
            have hb : (T[j]'(by omega)).length ≤ 30 := by
              have := mem_cnt hj
              simp only [← hT, List.getElem_map]
              omega
            generalize hE : (T[j]'(by omega)) = E at *
            have z1 : (T.map (eList 1 eInt))[j]? = some (V.lst 1 (E.map eInt)) := by rw [List.getElem?_map, List.getElem?_eq_getElem (by omega), hE]; rfl
            have y0 : (0 : Int) ≤ j := by omega
            have y1 : ¬ (j : Int) < 0 := by omega
            have z2 : (j : Int) < (st.length : Int) := by omega
            have z4 : (E.length + 1) * 8 ≤ 140737488355328 := by omega
            have z5 : E.length ≤ 9223372036854775806 := by omega
            have z6 : ∀ X : V, ((T.map (eList 1 eInt)).set j X)[j]? = some X := fun X => List.getElem?_set_self (by simp; omega)
            simp only [g1, g2, g3, g5, e1, y0, y1, z1, z2, z4, z5, z6, hTl, List.length_map, List.length_append, List.length_set, beq_self_eq_true, Bool.or_true, go_sem]
            repeat' ((first | ((first | apply qa | apply qb | apply qc | apply qd | apply qe | apply qf | apply qg | apply qh | apply qi | apply qj | apply qk) <;> intro hp) | ((first | refine ql rfl rfl (by decide +kernel) ?_ | refine qm _ rfl rfl (by decide +kernel) ?_ | refine goes_opn rfl ?_ | refine goes_opnD rfl rfl (by decide +kernel) ?_ | refine goes_opnN _ rfl rfl (by decide +kernel) ?_) <;> have hp := True.intro)) <;> simp only [hp, g1, g2, g3, g5, e1, y0, y1, z1, z2, z4, z5, z6, hTl, List.length_map, List.length_append, List.length_set, beq_self_eq_true, Bool.or_true, go_sem])
            all_goals exact ih'
    · have g1 : ¬ (i : Int) < b.Mails.length := by omega
      rw [List.take_of_length_le h]
      simp only [g1, go_sem]
      repeat' ((first | ((first | apply qa | apply qb | apply qc | apply qd | apply qe | apply qf | apply qg | apply qh | apply qi | apply qj | apply qk) <;> intro hp) | ((first | refine ql rfl rfl (by decide +kernel) ?_ | refine qm _ rfl rfl (by decide +kernel) ?_ | refine goes_opn rfl ?_ | refine goes_opnD rfl rfl (by decide +kernel) ?_ | refine goes_opnN _ rfl rfl (by decide +kernel) ?_) <;> have hp := True.intro)) <;> simp only [hp, g1, go_sem])
      all_goals (simp only [fin_mk, finV, resL, resV1, resIn, endA, listIn, Option.some_or, Option.none_or, oneOrTup, go_sem]; rw [← hr])
end Go.Proofs.YtghmjnggmacohaaGreatDoor.L

namespace Go.Proofs.YtghmjnggmacohaaGreatDoor.L
open Go Go.VM
set_option maxRecDepth 100000
set_option maxHeartbeats 8000000
set_option linter.unusedSimpArgs false
set_option linter.unusedVariables false
theorem gt_lt (a b : List UInt8) : (!(Op.bytesLess a b || a == b)) = Op.bytesLess b a := by
  cases k : Op.bytesLess b a with
  | true =>
    have h1 := less_no k
    have h2 : (a == b) = false := by
      rw [beq_eq_false_iff_ne]; rintro rfl; rw [less_self] at k; cases k
    rw [h1, h2]; rfl
  | false =>
    cases k2 : Op.bytesLess a b with
    | true => rfl
    | false =>
      have := less_eq k k2
      subst this
      rw [beq_self_eq_true]; rfl
theorem app_mid (A B : List V) (x : V) : A ++ x :: B = A ++ [x] ++ B := by simp
theorem sortI_snoc (L : List Mail) (x : Mail) : SM.sortI ltS (L ++ [x]) = SM.insM ltS (SM.sortI ltS L) x := by
  rw [SM.sortI, List.foldl_append]; rfl
theorem sortI_any {b : Box} (h : boxOk b = true) (s : List Range) (i : Nat) : (SM.sortI ltS ((b.Mails.take i).filter (fun m => hasR s m.Uid))).length ≤ 30 := by
  have hp : (b.Mails.filter (fun m => hasR s m.Uid)).Pairwise fun x y => x.Uid < y.Uid := by
    have := (filter_asc h (fun m => hasR s m.Uid)).1
    rw [List.pairwise_map] at this
    exact this
  have hs : ((b.Mails.take i).filter (fun m => hasR s m.Uid)).Sublist (b.Mails.filter (fun m => hasR s m.Uid)) := (List.take_sublist _ _).filter _
  rw [(SM.sortI_ok ordS (hp.sublist hs)).1.length_eq]
  exact Nat.le_trans hs.length_le (Nat.le_trans (List.length_filter_le _ _) (boxOk_parts h).2.1)
def T_spec_SortBySubject : Hints := ⟨lk [(13, [(0, 3), (0, 5), (4, 5), (0, 6), (4, 6), (0, 8), (4, 8), (0, 9), (4, 9), (0, 10), (4, 10), (0, 11), (3, 11), (4, 11), (0, 15), (4, 15), (11, 15), (12, 15)]), (14, [(0, 3), (0, 6), (3, 6), (4, 6), (0, 10), (4, 10), (6, 10), (7, 10)])], lk [(6, [1, 2, 5, 6, 7]), (11, [1, 2, 5, 6, 7, 8, 9])], lk [(0, [1, 2]), (1, [1, 2, 5]), (2, [1, 2, 5, 6]), (3, [1, 2, 5, 6, 14]), (4, [4]), (5, [1, 2, 5, 6, 7]), (6, [1, 2, 5, 6, 7, 20]), (8, [1, 2, 5, 6, 7, 31]), (9, [1, 2, 5, 6, 7, 8]), (10, [1, 2, 5, 6, 7, 8, 9]), (11, [1, 2, 5, 6, 7, 8, 9, 50]), (12, [1, 2, 5, 6, 7, 8, 9]), (13, [1, 2, 5, 6, 7, 8, 9]), (14, [1, 2, 5, 6, 7]), (7, [1, 2, 5, 6, 7]), (15, [4])], lk [], lf []⟩
noncomputable def Phi_spec_SortBySubject : Tab := lk [(28, spBoxOk), (29, spSetHas), (30, spSubjectOf)]
attribute [go_sem] T_spec_SortBySubject Phi_spec_SortBySubject
theorem phi_spec_SortBySubject : ∀ f sp, Phi_spec_SortBySubject f = some sp → FnOk Tryz.prog f sp ∧ ∀ n ∈ sp.need, n ∈ (["internal/bytealg.MaxLen"] : List String) := phi_cons ok_spec_BoxOk (n0 rfl) (phi_cons ok_spec_SetHas (n0 rfl) (phi_cons ok_spec_l12Subject (fun n (h : n ∈ (["internal/bytealg.MaxLen"] : List String)) => by simp only [List.mem_cons, List.not_mem_nil, or_false] at h; rcases h with rfl <;> simp) (phi_nil)))
theorem ok_spec_SortBySubject : FnOk Tryz.prog 7 spSortBy := by
  refine fn_ok (Φ := Phi_spec_SortBySubject) (T := T_spec_SortBySubject) phi_spec_SortBySubject mixed Tryz.func7 rfl rfl rfl (by decide) ?_
  intro ins r outs hr hl
  clear hl
  have hs := spSortBy_in hr
  clear hr
  obtain ⟨b, s, rfl, hc, hr, rfl⟩ := hs
  simp only [spSortBy, Tryz.f7, Go.VM.initS]
  obtain ⟨hc, hs⟩ := hc
  cases hk : boxOk b with
  | false =>
    simp only [hc, hs, hk, go_sem]
    repeat' ((first | ((first | apply qa | apply qb | apply qc | apply qd | apply qe | apply qf | apply qg | apply qh | apply qi | apply qj | apply qk) <;> intro hp) | ((first | refine ql rfl rfl (by decide +kernel) ?_ | refine qm _ rfl rfl (by decide +kernel) ?_) <;> have hp := True.intro)) <;> simp only [hp, hc, hs, hk, go_sem])
    all_goals (simp only [fin_mk, finV, resL, resV1, resIn, endA, listIn, Option.some_or, Option.none_or, oneOrTup, go_sem]; rw [← hr])
    all_goals (rw [sortBy, mailsIn, hk, if_neg (by simp)]; rfl)
  | true =>
    have hml : b.Mails.length ≤ 30 := (boxOk_parts hk).2.1
    rw [sortBy, mailsIn, hk, if_pos rfl] at hr
    have hs8 : s.length ≤ 8388608 := by omega
    simp only [hc, hs, hk, go_sem]
    repeat' ((first | ((first | apply qa | apply qb | apply qc | apply qd | apply qe | apply qf | apply qg | apply qh | apply qi | apply qj | apply qk) <;> intro hp) | ((first | refine ql rfl rfl (by decide +kernel) ?_ | refine qm _ rfl rfl (by decide +kernel) ?_) <;> have hp := True.intro)) <;> simp only [hp, hc, hs, hk, go_sem])
    refine loop_go (fun i : Nat => [(7, .int .i64 (i : Int))]) (fun i => [(1, ⟨.arr, 1, ((SM.sortI ltS ((b.Mails.take i).filter (fun m => hasR s m.Uid))).map (·.Uid)).map eInt⟩), (2, ⟨.arr, 1, ((SM.sortI ltS ((b.Mails.take i).filter (fun m => hasR s m.Uid))).map subjectOf).map eStr⟩)]) (fun i => b.Mails.length - i) (fun i => i ≤ b.Mails.length) 0 (Nat.zero_le _) rfl rfl ?_
    intro i hi ih
    have hD := sortI_any hk s i
    rcases Nat.lt_or_ge i b.Mails.length with h | h
    · have g1 : (i : Int) < b.Mails.length := by omega
      have g2 : (0 : Int) ≤ i := by omega
      have g3 : b.Mails[i]? = some b.Mails[i] := List.getElem?_eq_getElem h
      have g5 := wrap_succ h (by omega)
      have gm : Mail.le 4194304 b.Mails[i] := hc.2.1.2 _ (List.getElem_mem h)
      have ih' := ih (i + 1) h (by omega)
      clear ih
      rw [filter_succ h] at ih'
      generalize hmm : b.Mails[i] = m at *
      generalize hDD : (b.Mails.take i).filter (fun m => hasR s m.Uid) = D at *
      cases hA : hasR s m.Uid with
      | false =>
        simp only [hA, Bool.false_eq_true, if_false, List.append_nil] at ih'
        simp only [g1, g2, g3, g5, hA, hs8, go_sem]
        repeat' ((first | ((first | apply qa | apply qb | apply qc | apply qd | apply qe | apply qf | apply qg | apply qh | apply qi | apply qj | apply qk) <;> intro hp) | ((first | refine ql rfl rfl (by decide +kernel) ?_ | refine qm _ rfl rfl (by decide +kernel) ?_) <;> have hp := True.intro)) <;> simp only [hp, g1, g2, g3, g5, hA, hs8, go_sem])
        all_goals exact ih'
      | true =>
        rw [hA, if_pos rfl, sortI_snoc] at ih'
        generalize hM : SM.sortI ltS D = M at *
        simp only [g1, g2, g3, g5, hA, hs8, gm, go_sem]
        repeat' ((first | ((first | apply qa | apply qb | apply qc | apply qd | apply qe | apply qf | apply qg | apply qh | apply qi | apply qj | apply qk) <;> intro hp) | ((first | refine ql rfl rfl (by decide +kernel) ?_ | refine qm _ rfl rfl (by decide +kernel) ?_) <;> have hp := True.intro)) <;> simp only [hp, g1, g2, g3, g5, hA, hs8, gm, go_sem])
        refine loop_go (fun k : Nat => [(9, .int .i64 (k : Int))]) (fun k => []) (fun k => k) (fun k => k ≤ M.length ∧ SM.posD ltS M m k = SM.posD ltS M m M.length) M.length ⟨Nat.le_refl _, rfl⟩ rfl rfl ?_
        intro k ⟨hk1, hk2⟩ ih2
        by_cases k0 : k = 0
        · have e0 : ¬ (0 : Int) < k := by omega
          have hp : SM.posD ltS M m M.length = k := by rw [← hk2, k0]; rfl
          rw [SM.insM, hp] at ih'
          clear ih2
          have z1 : (0 : Int) ≤ k := by omega
          have z2 : (k : Int) ≤ M.length := by omega
          have z3 : k ≤ M.length := hk1
          have z4 : M.length ≤ 30 := hD
          have z5 : k + (M.length - k) ≤ M.length := by omega
          have z6 : min k M.length = k := by omega
          have z7 : (M.drop k).take (M.length - k) = M.drop k := List.take_of_length_le (by rw [List.length_drop]; omega)
          simp only [List.map_append, List.map_cons, eInt, eStr] at ih'
          rw [app_mid _ _ (V.int .i64 m.Uid), app_mid _ _ (V.str (subjectOf m))] at ih'
          simp only [g1, g2, g3, g5, z1, z2, z3, hD, List.length_map, List.length_append, Nat.sub_zero, and_self, z5, z6, z7, List.length_take, List.length_drop, List.length_cons, List.length_nil, List.map_append, e0, go_sem]
          repeat' ((first | ((first | apply qa | apply qb | apply qc | apply qd | apply qe | apply qf | apply qg | apply qh | apply qi | apply qj | apply qk) <;> intro hp) | ((first | refine ql rfl rfl (by decide +kernel) ?_ | refine qm _ rfl rfl (by decide +kernel) ?_) <;> have hp := True.intro)) <;> simp only [hp, g1, g2, g3, g5, z1, z2, z3, hD, List.length_map, List.length_append, Nat.sub_zero, and_self, z5, z6, z7, List.length_take, List.length_drop, List.length_cons, List.length_nil, List.map_append, e0, go_sem])
          all_goals first | exact ih' | (clear ih'; omega)
        · obtain ⟨k', hk'⟩ : ∃ k', k = k' + 1 := ⟨k - 1, by omega⟩
          have e0 : (0 : Int) < k := by omega
          have e1 : IntKind.i64.wrap ((k : Int) - 1) = (k' : Int) := (wrap64 (by omega) (by omega)).trans (by omega)
          have e2 : (0 : Int) ≤ k' := by omega
          have e3 : (k' : Int) < M.length := by omega
          have e4 : M[k']? = some M[k'] := List.getElem?_eq_getElem (by omega)
          rw [hk', SM.posD, e4, Option.map_some] at hk2
          have f1 := gt_lt (subjectOf M[k']) (subjectOf m)
          cases hlt : ltS m M[k'] with
          | true =>
            rw [show Op.bytesLess (subjectOf m) (subjectOf M[k']) = true from hlt] at f1
            simp only [Bool.not_eq_true', Bool.or_eq_false_iff] at f1
            obtain ⟨f1, f2⟩ := f1
            rw [hlt, if_pos rfl] at hk2
            have ih3 := ih2 k' ⟨by omega, hk2⟩ (by omega)
            clear ih2 ih'
            simp only [e0, e1, e2, e3, e4, f1, f2, Bool.or_false, Bool.not_false, go_sem]
            repeat' ((first | ((first | apply qa | apply qb | apply qc | apply qd | apply qe | apply qf | apply qg | apply qh | apply qi | apply qj | apply qk) <;> intro hp) | ((first | refine ql rfl rfl (by decide +kernel) ?_ | refine qm _ rfl rfl (by decide +kernel) ?_) <;> have hp := True.intro)) <;> simp only [hp, e0, e1, e2, e3, e4, f1, f2, Bool.or_false, Bool.not_false, go_sem])
            exact ih3
          | false =>
            rw [show Op.bytesLess (subjectOf m) (subjectOf M[k']) = false from hlt] at f1
            rw [hlt, if_neg (by simp), ← hk'] at hk2
            have hp : SM.posD ltS M m M.length = k := hk2.symm
            have f3 : Op.bytesLess (subjectOf M[k']) (subjectOf m) = true ∨ (Op.bytesLess (subjectOf M[k']) (subjectOf m) = false ∧ (subjectOf M[k'] == subjectOf m) = true) := by
              cases q : Op.bytesLess (subjectOf M[k']) (subjectOf m) with
              | true => exact .inl rfl
              | false =>
                rw [q] at f1
                exact .inr ⟨rfl, by simpa using f1⟩
            rcases f3 with f3 | ⟨f3, f4⟩
            · rw [SM.insM, hp] at ih'
              clear ih2
              have z1 : (0 : Int) ≤ k := by omega
              have z2 : (k : Int) ≤ M.length := by omega
              have z3 : k ≤ M.length := hk1
              have z4 : M.length ≤ 30 := hD
              have z5 : k + (M.length - k) ≤ M.length := by omega
              have z6 : min k M.length = k := by omega
              have z7 : (M.drop k).take (M.length - k) = M.drop k := List.take_of_length_le (by rw [List.length_drop]; omega)
              simp only [List.map_append, List.map_cons, eInt, eStr] at ih'
              rw [app_mid _ _ (V.int .i64 m.Uid), app_mid _ _ (V.str (subjectOf m))] at ih'
              simp only [g1, g2, g3, g5, z1, z2, z3, hD, List.length_map, List.length_append, Nat.sub_zero, and_self, z5, z6, z7, List.length_take, List.length_drop, List.length_cons, List.length_nil, List.map_append, e0, e1, e2, e3, e4, f3, Bool.true_or, Bool.not_true, go_sem]
              repeat' ((first | ((first | apply qa | apply qb | apply qc | apply qd | apply qe | apply qf | apply qg | apply qh | apply qi | apply qj | apply qk) <;> intro hp) | ((first | refine ql rfl rfl (by decide +kernel) ?_ | refine qm _ rfl rfl (by decide +kernel) ?_) <;> have hp := True.intro)) <;> simp only [hp, g1, g2, g3, g5, z1, z2, z3, hD, List.length_map, List.length_append, Nat.sub_zero, and_self, z5, z6, z7, List.length_take, List.length_drop, List.length_cons, List.length_nil, List.map_append, e0, e1, e2, e3, e4, f3, Bool.true_or, Bool.not_true, go_sem])
              all_goals first | exact ih' | (clear ih'; omega)
            · rw [SM.insM, hp] at ih'
              clear ih2
              have z1 : (0 : Int) ≤ k := by omega
              have z2 : (k : Int) ≤ M.length := by omega
              have z3 : k ≤ M.length := hk1
              have z4 : M.length ≤ 30 := hD
              have z5 : k + (M.length - k) ≤ M.length := by omega
              have z6 : min k M.length = k := by omega
              have z7 : (M.drop k).take (M.length - k) = M.drop k := List.take_of_length_le (by rw [List.length_drop]; omega)
              simp only [List.map_append, List.map_cons, eInt, eStr] at ih'
              rw [app_mid _ _ (V.int .i64 m.Uid), app_mid _ _ (V.str (subjectOf m))] at ih'
              simp only [g1, g2, g3, g5, z1, z2, z3, hD, List.length_map, List.length_append, Nat.sub_zero, and_self, z5, z6, z7, List.length_take, List.length_drop, List.length_cons, List.length_nil, List.map_append, e0, e1, e2, e3, e4, f3, f4, Bool.false_or, Bool.not_true, go_sem]
              repeat' ((first | ((first | apply qa | apply qb | apply qc | apply qd | apply qe | apply qf | apply qg | apply qh | apply qi | apply qj | apply qk) <;> intro hp) | ((first | refine ql rfl rfl (by decide +kernel) ?_ | refine qm _ rfl rfl (by decide +kernel) ?_) <;> have hp := True.intro)) <;> simp only [hp, g1, g2, g3, g5, z1, z2, z3, hD, List.length_map, List.length_append, Nat.sub_zero, and_self, z5, z6, z7, List.length_take, List.length_drop, List.length_cons, List.length_nil, List.map_append, e0, e1, e2, e3, e4, f3, f4, Bool.false_or, Bool.not_true, go_sem])
              all_goals first | exact ih' | (clear ih'; omega)
    · have g1 : ¬ (i : Int) < b.Mails.length := by omega
      rw [List.take_of_length_le h]
      simp only [g1, go_sem]
      repeat' ((first | ((first | apply qa | apply qb | apply qc | apply qd | apply qe | apply qf | apply qg | apply qh | apply qi | apply qj | apply qk) <;> intro hp) | ((first | refine ql rfl rfl (by decide +kernel) ?_ | refine qm _ rfl rfl (by decide +kernel) ?_) <;> have hp := True.intro)) <;> simp only [hp, g1, go_sem])
      all_goals (simp only [fin_mk, finV, resL, resV1, resIn, endA, listIn, Option.some_or, Option.none_or, oneOrTup, go_sem]; rw [← hr])
end Go.Proofs.YtghmjnggmacohaaGreatDoor.L

namespace Go.Proofs.YtghmjnggmacohaaGreatDoor.L
open Go Go.VM
set_option maxRecDepth 100000
set_option maxHeartbeats 4000000
set_option linter.unusedSimpArgs false
set_option linter.unusedVariables false
def andI (a b : Int) : Int := IntKind.i64.wrap (BitVec.ofInt IntKind.i64.bits a &&& BitVec.ofInt IntKind.i64.bits b).toNat
def xorI (a b : Int) : Int := IntKind.i64.wrap (BitVec.ofInt IntKind.i64.bits a ^^^ BitVec.ofInt IntKind.i64.bits b).toNat
theorem andI_255 (a : Int) : 0 ≤ andI a 255 ∧ andI a 255 ≤ 255 := by
  have h : (BitVec.ofInt 64 a &&& BitVec.ofInt 64 255).toNat ≤ 255 := by
    rw [BitVec.toNat_and]; exact Nat.and_le_right
  have e : andI a 255 = ((BitVec.ofInt 64 a &&& BitVec.ofInt 64 255).toNat : Int) := by
    show IntKind.i64.wrap (((BitVec.ofInt 64 a &&& BitVec.ofInt 64 255).toNat : Nat) : Int) = _
    exact wrap64 (by omega) (by omega)
  rw [e]; omega
def newStep (h c : Int) : Int := andI (IntKind.i64.wrap (IntKind.i64.wrap (IntKind.i64.wrap (h * 131) + IntKind.i64.wrap c) + 7)) 1073741823
def newH : List Int → Int → Int
  | [], h => h
  | c :: l, h => newH l (newStep h c)
def cur0 (code : List Int) : Cur := ⟨code, 0, newH (code.take 4000) (IntKind.i64.wrap (35201 + (code.length : Int)))⟩
open Classical in
noncomputable def spNew : VM.Spec := { modes := [.rd], run := fun | [.lst 1 code'] => (decL dU8 code').bind fun code => if code.length ≤ 4194304 then some (.rptr (Cur.enc (cur0 code)), []) else none | _ => none, need := [] }
attribute [go_sem] spNew
theorem spNew_in {ins : List V} {r : V} {outs : List V} (h : spNew.run ins = some (r, outs)) : ∃ (code : (List Int)), ins = [.lst 1 ((code).map eU8)] ∧ (code.length ≤ 4194304) ∧ .rptr (Cur.enc (cur0 code)) = r ∧ outs = [] := by
  unfold spNew at h
  simp only at h
  split at h
  · rename_i code'
    simp only [Option.bind_eq_some_iff] at h
    obtain ⟨code, h_code, h⟩ := h
    split at h
    case isFalse => cases h
    rename_i hc
    simp only [Option.some.injEq, Prod.mk.injEq] at h
    obtain ⟨h1, h2⟩ := h
    have h_code := decL_some (fun _ _ h => dU8_some h) h_code
    subst h_code
    exact ⟨code, rfl, hc, h1, h2.symm⟩
  · cases h
def T_spec_l01New : Hints := ⟨lk [], lk [(3, [0, 3, 4])], lk [(0, [0]), (1, [0, 3]), (2, [0, 3, 4]), (3, [0, 3, 4, 15]), (5, [0, 3, 4]), (4, [0, 3, 4]), (6, [2])], lk [], lf []⟩
noncomputable def Phi_spec_l01New : Tab := lk []
attribute [go_sem] T_spec_l01New Phi_spec_l01New
theorem phi_spec_l01New : ∀ f sp, Phi_spec_l01New f = some sp → FnOk Tryz.prog f sp ∧ ∀ n ∈ sp.need, n ∈ ([] : List String) := phi_nil
theorem ok_spec_l01New : FnOk Tryz.prog 45 spNew := by
  refine fn_ok (Φ := Phi_spec_l01New) (T := T_spec_l01New) phi_spec_l01New mixed Tryz.func45 rfl rfl rfl (by decide) ?_
  intro ins r outs hr hl
  clear hl
  have hs := spNew_in hr
  clear hr
  obtain ⟨code, rfl, hc, hr, rfl⟩ := hs
  simp only [spNew, Tryz.f45, Go.VM.initS]
  simp only [go_sem]
  repeat' ((first | apply qa | apply qb | apply qc | apply qd | apply qe | apply qf | apply qg | apply qh | apply qi | apply qj | apply qk) <;> intro hp <;> simp only [hp, go_sem])
  refine loop_go (fun p : Int × Nat => [(3, .int .i64 p.1), (4, .int .i64 (p.2 : Int))]) (fun _ => []) (fun p => 4000 - p.2) (fun p => p.2 ≤ 4000 ∧ p.2 ≤ code.length ∧ newH ((code.take 4000).drop p.2) p.1 = (cur0 code).h) (IntKind.i64.wrap (35201 + (code.length : Int)), 0) ⟨Nat.zero_le _, Nat.zero_le _, rfl⟩ rfl rfl ?_
  rintro ⟨h, i⟩ ⟨hi, hl, he⟩ ih
  simp only at hi hl he ih
  rcases Nat.lt_or_ge i code.length with g | g
  · have g1 : (i : Int) < code.length := by omega
    rcases Nat.lt_or_ge i 4000 with k | k
    · have g2 : (i : Int) < 4000 := by omega
      have g3 : (0 : Int) ≤ i := by omega
      have g4 : code[i]? = some code[i] := List.getElem?_eq_getElem g
      have g5 := wrap_succ g (by omega)
      have hlt : i < (code.take 4000).length := by rw [List.length_take]; omega
      rw [List.drop_eq_getElem_cons hlt, newH, List.getElem_take] at he
      have ih' := ih (newStep h code[i], i + 1) ⟨k, g, he⟩ (by simp only; omega)
      simp only at ih'
      simp only [g1, g2, g3, g4, g5, go_sem]
      repeat' ((first | apply qa | apply qb | apply qc | apply qd | apply qe | apply qf | apply qg | apply qh | apply qi | apply qj | apply qk) <;> intro hp <;> simp only [hp, g1, g2, g3, g4, g5, go_sem])
      exact ih'
    · have g2 : ¬ (i : Int) < 4000 := by omega
      have e : (code.take 4000).drop i = [] := List.drop_of_length_le (by rw [List.length_take]; omega)
      rw [e, newH] at he
      simp only [g1, g2, go_sem]
      repeat' ((first | apply qa | apply qb | apply qc | apply qd | apply qe | apply qf | apply qg | apply qh | apply qi | apply qj | apply qk) <;> intro hp <;> simp only [hp, g1, g2, go_sem])
      simp only [fin_mk, finV, resL, resV1, resIn, endA, listIn, Option.some_or, Option.none_or, oneOrTup, go_sem]
      rw [← hr]
      simp only [cur0, he]; rfl
  · have g1 : ¬ (i : Int) < code.length := by omega
    have e : (code.take 4000).drop i = [] := List.drop_of_length_le (by rw [List.length_take]; omega)
    rw [e, newH] at he
    simp only [g1, go_sem]
    repeat' ((first | apply qa | apply qb | apply qc | apply qd | apply qe | apply qf | apply qg | apply qh | apply qi | apply qj | apply qk) <;> intro hp <;> simp only [hp, g1, go_sem])
    simp only [fin_mk, finV, resL, resV1, resIn, endA, listIn, Option.some_or, Option.none_or, oneOrTup, go_sem]
    rw [← hr]
    simp only [cur0, he]; rfl
def curI (c : Cur) : Prop := 0 ≤ c.i ∧ c.i ≤ c.b.length ∧ c.b.length ≤ 4194304
def bytH (h : Int) : Int := IntKind.i64.wrap (IntKind.i64.wrap (h * 6364136223846793005) + 1442695040888963407)
def bytX (h : Int) : Int := andI (xorI (Int.fdiv h (2 ^ 33)) (Int.fdiv h (2 ^ 45))) 255
def bytO (c : Cur) : Int × Cur := if c.i < c.b.length then (andI (IntKind.i64.wrap (bytX (bytH c.h) + IntKind.i64.wrap (c.b.getD c.i.toNat 0))) 255, ⟨c.b, c.i + 1, bytH c.h⟩) else (bytX (bytH c.h), ⟨c.b, c.i, bytH c.h⟩)
theorem bytO_in {c : Cur} (h : curI c) : curI (bytO c).2 ∧ 0 ≤ (bytO c).1 ∧ (bytO c).1 ≤ 255 := by
  obtain ⟨h0, h1, h2⟩ := h
  unfold bytO
  split
  · exact ⟨⟨by simp only; omega, by simp only; omega, h2⟩, andI_255 _⟩
  · exact ⟨⟨h0, h1, h2⟩, andI_255 _⟩
open Classical in
noncomputable def spByte : VM.Spec := { modes := [.ptr], run := fun | [.rptr (c')] => (Cur.dec c').bind fun c => if curI c then some (.int .i64 ((bytO c).1), [.rptr (Cur.enc ((bytO c).2))]) else none | _ => none, need := [] }
attribute [go_sem] spByte
theorem spByte_in {ins : List V} {r : V} {outs : List V} (h : spByte.run ins = some (r, outs)) : ∃ (c : Cur), ins = [.rptr (Cur.enc c)] ∧ (curI c) ∧ .int .i64 ((bytO c).1) = r ∧ outs = [.rptr (Cur.enc ((bytO c).2))] := by
  unfold spByte at h
  simp only at h
  split at h
  · rename_i c'
    simp only [Option.bind_eq_some_iff] at h
    obtain ⟨c, h_c, h⟩ := h
    split at h
    case isFalse => cases h
    rename_i hc
    simp only [Option.some.injEq, Prod.mk.injEq] at h
    obtain ⟨h1, h2⟩ := h
    have h_c := Cur.dec_some h_c
    subst h_c
    exact ⟨c, rfl, hc, h1, h2.symm⟩
  · cases h
def T_spec_l01Byte : Hints := ⟨lk [(2, []), (3, []), (4, [])], lk [], lk [(0, [0]), (1, [0]), (2, [0, 3]), (3, [0, 3, 34]), (4, [0, 3]), (5, [3]), (6, [2])], lk [], lf []⟩
noncomputable def Phi_spec_l01Byte : Tab := lk []
attribute [go_sem] T_spec_l01Byte Phi_spec_l01Byte
theorem phi_spec_l01Byte : ∀ f sp, Phi_spec_l01Byte f = some sp → FnOk Tryz.prog f sp ∧ ∀ n ∈ sp.need, n ∈ ([] : List String) := phi_nil
theorem ok_spec_l01Byte : FnOk Tryz.prog 93 spByte := by
  refine fn_ok (Φ := Phi_spec_l01Byte) (T := T_spec_l01Byte) phi_spec_l01Byte mixed Tryz.func93 rfl rfl rfl (by decide) ?_
  intro ins r outs hr hl
  clear hl
  have hs := spByte_in hr
  clear hr
  obtain ⟨c, rfl, hc, hr, rfl⟩ := hs
  simp only [spByte, Tryz.f93, Go.VM.initS]
  obtain ⟨b, i, h⟩ := c
  obtain ⟨h0, h1, h2⟩ := hc
  simp only at h0 h1 h2
  obtain ⟨k, rfl⟩ : ∃ k : Nat, i = k := ⟨i.toNat, by omega⟩
  have hx : IntKind.i64.wrap (BitVec.ofInt IntKind.i64.bits (IntKind.i64.wrap (BitVec.ofInt IntKind.i64.bits (Int.fdiv (bytH h) (2 ^ 33)) ^^^ BitVec.ofInt IntKind.i64.bits (Int.fdiv (bytH h) (2 ^ 45))).toNat) &&& BitVec.ofInt IntKind.i64.bits 255).toNat = bytX (bytH h) := rfl
  by_cases g1 : (k : Int) < b.length
  · have g2 : k < b.length := by omega
    have e : bytO ⟨b, k, h⟩ = (andI (IntKind.i64.wrap (bytX (bytH h) + IntKind.i64.wrap b[k])) 255, ⟨b, ((k + 1 : Nat) : Int), bytH h⟩) := by
      rw [bytO, if_pos g1]
      simp only [Int.toNat_natCast, getD_lt g2]; rfl
    rw [e] at hr
    have g3 : b[k]? = some b[k] := List.getElem?_eq_getElem g2
    have g4 := wrap_succ g2 (by omega)
    simp only [g1, g3, g4, h0, go_sem]
    repeat' ((first | ((first | apply qa | apply qb | apply qc | apply qd | apply qe | apply qf | apply qg | apply qh | apply qi | apply qj | apply qk) <;> intro hp) | ((first | refine ql rfl rfl (by decide +kernel) ?_ | refine qm _ rfl rfl (by decide +kernel) ?_) <;> have hp := True.intro)) <;> simp only [hp, g1, g3, g4, h0, go_sem])
    simp only [fin_mk, finV, resL, resV1, resIn, endA, listIn, Option.some_or, Option.none_or, oneOrTup, go_sem]
    rw [← hr]
    simp only [e]; rfl
  · have e : bytO ⟨b, k, h⟩ = (bytX (bytH h), ⟨b, k, bytH h⟩) := by rw [bytO, if_neg g1]
    rw [e] at hr
    simp only [g1, go_sem]
    repeat' ((first | ((first | apply qa | apply qb | apply qc | apply qd | apply qe | apply qf | apply qg | apply qh | apply qi | apply qj | apply qk) <;> intro hp) | ((first | refine ql rfl rfl (by decide +kernel) ?_ | refine qm _ rfl rfl (by decide +kernel) ?_) <;> have hp := True.intro)) <;> simp only [hp, g1, go_sem])
    simp only [fin_mk, finV, resL, resV1, resIn, endA, listIn, Option.some_or, Option.none_or, oneOrTup, go_sem]
    rw [← hr]
    simp only [e]; rfl
def belO (c : Cur) (n : Int) : Int × Cur :=
  if n ≤ 0 then (0, c) else if n ≤ 256 then ((bytO c).1.tmod n, (bytO c).2) else
  (((bytO c).1 * 16777216 + (bytO (bytO c).2).1 * 65536 + (bytO (bytO (bytO c).2).2).1 * 256 + (bytO (bytO (bytO (bytO c).2).2).2).1).tmod n, (bytO (bytO (bytO (bytO c).2).2).2).2)
theorem belO_in {c : Cur} {n : Int} (h : curI c) : curI (belO c n).2 ∧ 0 ≤ (belO c n).1 ∧ (0 < n → (belO c n).1 < n) := by
  have h1 := bytO_in h
  have h2 := bytO_in h1.1
  have h3 := bytO_in h2.1
  have h4 := bytO_in h3.1
  unfold belO
  split
  · exact ⟨h, Int.le_refl 0, fun e => by omega⟩
  · split
    · exact ⟨h1.1, Int.tmod_nonneg _ h1.2.1, fun e => Int.tmod_lt_of_pos _ e⟩
    · exact ⟨h4.1, Int.tmod_nonneg _ (by omega), fun e => Int.tmod_lt_of_pos _ e⟩
open Classical in
noncomputable def spBelow : VM.Spec := { modes := [.ptr, .rd], run := fun | [.rptr (c'), .int .i64 n] => (Cur.dec c').bind fun c => if curI c then some (.int .i64 ((belO c n).1), [.rptr (Cur.enc ((belO c n).2))]) else none | _ => none, need := [] }
attribute [go_sem] spBelow
theorem spBelow_in {ins : List V} {r : V} {outs : List V} (h : spBelow.run ins = some (r, outs)) : ∃ (c : Cur) (n : Int), ins = [.rptr (Cur.enc c), .int .i64 n] ∧ (curI c) ∧ .int .i64 ((belO c n).1) = r ∧ outs = [.rptr (Cur.enc ((belO c n).2))] := by
  unfold spBelow at h
  simp only at h
  split at h
  · rename_i c' n
    simp only [Option.bind_eq_some_iff] at h
    obtain ⟨c, h_c, h⟩ := h
    split at h
    case isFalse => cases h
    rename_i hc
    simp only [Option.some.injEq, Prod.mk.injEq] at h
    obtain ⟨h1, h2⟩ := h
    have h_c := Cur.dec_some h_c
    subst h_c
    exact ⟨c, n, rfl, hc, h1, h2.symm⟩
  · cases h
def T_spec_l01Below : Hints := ⟨lk [], lk [], lk [(0, [0, 1]), (1, [0, 1, 10]), (2, [4]), (3, [0, 1, 12]), (4, [4]), (5, [0, 1, 5]), (6, [0, 1, 5, 6]), (7, [0, 1, 5, 6, 7]), (8, [1, 5, 6, 7, 8]), (9, [4])], lk [], lf []⟩
noncomputable def Phi_spec_l01Below : Tab := lk [(93, spByte)]
attribute [go_sem] T_spec_l01Below Phi_spec_l01Below
theorem phi_spec_l01Below : ∀ f sp, Phi_spec_l01Below f = some sp → FnOk Tryz.prog f sp ∧ ∀ n ∈ sp.need, n ∈ ([] : List String) := phi_cons ok_spec_l01Byte (n0 rfl) (phi_nil)
theorem ok_spec_l01Below : FnOk Tryz.prog 70 spBelow := by
  refine fn_ok (Φ := Phi_spec_l01Below) (T := T_spec_l01Below) phi_spec_l01Below mixed Tryz.func70 rfl rfl rfl (by decide) ?_
  intro ins r outs hr hl
  clear hl
  have hs := spBelow_in hr
  clear hr
  obtain ⟨c, n, rfl, hc, hr, rfl⟩ := hs
  simp only [spBelow, Tryz.f70, Go.VM.initS]
  by_cases g1 : n ≤ 0
  · have e : belO c n = (0, c) := by rw [belO, if_pos g1]
    rw [e] at hr
    simp only [g1, go_sem]
    repeat' ((first | apply qa | apply qb | apply qc | apply qd | apply qe | apply qf | apply qg | apply qh | apply qi | apply qj | apply qk) <;> intro hp <;> simp only [hp, g1, go_sem])
    simp only [fin_mk, finV, resL, resV1, resIn, endA, listIn, Option.some_or, Option.none_or, oneOrTup, go_sem]
    rw [← hr]
    simp only [e]
  · by_cases g2 : n ≤ 256
    · have e : belO c n = ((bytO c).1.tmod n, (bytO c).2) := by rw [belO, if_neg g1, if_pos g2]
      rw [e] at hr
      have g3 : ¬ n = 0 := by omega
      simp only [hc, g1, g2, g3, go_sem]
      repeat' ((first | apply qa | apply qb | apply qc | apply qd | apply qe | apply qf | apply qg | apply qh | apply qi | apply qj | apply qk) <;> intro hp <;> simp only [hp, hc, g1, g2, g3, go_sem])
      simp only [fin_mk, finV, resL, resV1, resIn, endA, listIn, Option.some_or, Option.none_or, oneOrTup, go_sem]
      rw [← hr]
      simp only [e]
    · have e : belO c n = (((bytO c).1 * 16777216 + (bytO (bytO c).2).1 * 65536 + (bytO (bytO (bytO c).2).2).1 * 256 + (bytO (bytO (bytO (bytO c).2).2).2).1).tmod n, (bytO (bytO (bytO (bytO c).2).2).2).2) := by rw [belO, if_neg g1, if_neg g2]
      rw [e] at hr
      have h1 := bytO_in hc
      obtain ⟨⟨v1, c1⟩, e1⟩ : ∃ x, bytO c = x := ⟨_, rfl⟩
      rw [e1] at h1 hr e
      simp only at h1 hr e
      have h2 := bytO_in h1.1
      obtain ⟨⟨v2, c2⟩, e2⟩ : ∃ x, bytO c1 = x := ⟨_, rfl⟩
      rw [e2] at h2 hr e
      simp only at h2 hr e
      have h3 := bytO_in h2.1
      obtain ⟨⟨v3, c3⟩, e3⟩ : ∃ x, bytO c2 = x := ⟨_, rfl⟩
      rw [e3] at h3 hr e
      simp only at h3 hr e
      have h4 := bytO_in h3.1
      obtain ⟨⟨v4, c4⟩, e4⟩ : ∃ x, bytO c3 = x := ⟨_, rfl⟩
      rw [e4] at h4 hr e
      simp only at h4 hr e
      have g3 : ¬ n = 0 := by omega
      have w1 : IntKind.i64.wrap (v1 * 16777216) = v1 * 16777216 := wrap64 (by omega) (by omega)
      have w2 : IntKind.i64.wrap (v2 * 65536) = v2 * 65536 := wrap64 (by omega) (by omega)
      have w3 : IntKind.i64.wrap (v3 * 256) = v3 * 256 := wrap64 (by omega) (by omega)
      have w4 : IntKind.i64.wrap (v1 * 16777216 + v2 * 65536) = v1 * 16777216 + v2 * 65536 := wrap64 (by omega) (by omega)
      have w5 : IntKind.i64.wrap (v1 * 16777216 + v2 * 65536 + v3 * 256) = v1 * 16777216 + v2 * 65536 + v3 * 256 := wrap64 (by omega) (by omega)
      have w6 : IntKind.i64.wrap (v1 * 16777216 + v2 * 65536 + v3 * 256 + v4) = v1 * 16777216 + v2 * 65536 + v3 * 256 + v4 := wrap64 (by omega) (by omega)
      simp only [hc, h1.1, h2.1, h3.1, h4.1, e1, e2, e3, e4, g1, g2, g3, w1, w2, w3, w4, w5, w6, go_sem]
      repeat' ((first | apply qa | apply qb | apply qc | apply qd | apply qe | apply qf | apply qg | apply qh | apply qi | apply qj | apply qk) <;> intro hp <;> simp only [hp, hc, h1.1, h2.1, h3.1, h4.1, e1, e2, e3, e4, g1, g2, g3, w1, w2, w3, w4, w5, w6, go_sem])
      simp only [fin_mk, finV, resL, resV1, resIn, endA, listIn, Option.some_or, Option.none_or, oneOrTup, go_sem]
      rw [← hr]
      simp only [e]
def plc : Nat → Cur → List Int → List Int
  | 0, _, a => a
  | k + 1, c, a => plc k (belO c 10000).2 (a ++ [(belO c 10000).1])
def places (code : List Int) : List Int := plc 12 (bytO (cur0 code)).2 []
theorem cur0_in {code : List Int} (h : code.length ≤ 4194304) : curI (cur0 code) := ⟨Int.le_refl 0, by simp only [cur0]; omega, h⟩
open Classical in
noncomputable def spPlaces : VM.Spec := { modes := [.rd], run := fun | [.lst 1 code'] => (decL dU8 code').bind fun code => if code.length ≤ 4194304 then some (.lst 1 ((places code).map eInt), []) else none | _ => none, need := [] }
attribute [go_sem] spPlaces
end Go.Proofs.YtghmjnggmacohaaGreatDoor.L

namespace Go.Proofs.YtghmjnggmacohaaGreatDoor.L
open Go Go.VM
set_option maxRecDepth 100000
set_option maxHeartbeats 4000000
set_option linter.unusedSimpArgs false
set_option linter.unusedVariables false
def pickO (c : Cur) (l : List (List UInt8)) : List UInt8 × Cur := (l.getD (belO c l.length).1.toNat [], (belO c l.length).2)
theorem pickO_in {c : Cur} {l : List (List UInt8)} (h : curI c) (hl : 0 < l.length) : curI (pickO c l).2 ∧ (pickO c l).1 ∈ l := by
  have h1 := belO_in (n := (l.length : Int)) h
  have h2 := h1.2.2 (by omega)
  refine ⟨h1.1, ?_⟩
  have h3 : (belO c l.length).1.toNat < l.length := by omega
  rw [pickO]
  simp only [getD_lt h3]
  exact List.getElem_mem h3
open Classical in
noncomputable def spOnce : VM.Spec := { modes := [.ptr, .rd], run := fun | [.rptr (c'), .int .i64 n] => (Cur.dec c').bind fun c => if curI c then some (.bool (((belO c n).1 == 0)), [.rptr (Cur.enc ((belO c n).2))]) else none | _ => none, need := [] }
attribute [go_sem] spOnce
theorem spOnce_in {ins : List V} {r : V} {outs : List V} (h : spOnce.run ins = some (r, outs)) : ∃ (c : Cur) (n : Int), ins = [.rptr (Cur.enc c), .int .i64 n] ∧ (curI c) ∧ .bool (((belO c n).1 == 0)) = r ∧ outs = [.rptr (Cur.enc ((belO c n).2))] := by
  unfold spOnce at h
  simp only at h
  split at h
  · rename_i c' n
    simp only [Option.bind_eq_some_iff] at h
    obtain ⟨c, h_c, h⟩ := h
    split at h
    case isFalse => cases h
    rename_i hc
    simp only [Option.some.injEq, Prod.mk.injEq] at h
    obtain ⟨h1, h2⟩ := h
    have h_c := Cur.dec_some h_c
    subst h_c
    exact ⟨c, n, rfl, hc, h1, h2.symm⟩
  · cases h
def T_spec_l01Once : Hints := ⟨lk [], lk [], lk [(0, [0, 1]), (1, [4])], lk [], lf []⟩
noncomputable def Phi_spec_l01Once : Tab := lk [(70, spBelow)]
attribute [go_sem] T_spec_l01Once Phi_spec_l01Once
theorem phi_spec_l01Once : ∀ f sp, Phi_spec_l01Once f = some sp → FnOk Tryz.prog f sp ∧ ∀ n ∈ sp.need, n ∈ ([] : List String) := phi_cons ok_spec_l01Below (n0 rfl) (phi_nil)
theorem ok_spec_l01Once : FnOk Tryz.prog 47 spOnce := by
  refine fn_ok (Φ := Phi_spec_l01Once) (T := T_spec_l01Once) phi_spec_l01Once mixed Tryz.func47 rfl rfl rfl (by decide) ?_
  intro ins r outs hr hl
  clear hl
  have hs := spOnce_in hr
  clear hr
  obtain ⟨c, n, rfl, hc, hr, rfl⟩ := hs
  simp only [spOnce, Tryz.f47, Go.VM.initS]
  simp only [hc, go_sem]
  repeat' ((first | apply qa | apply qb | apply qc | apply qd | apply qe | apply qf | apply qg | apply qh | apply qi | apply qj | apply qk) <;> intro hp <;> simp only [hp, hc, go_sem])
  simp only [fin_mk, finV, resL, resV1, resIn, endA, listIn, Option.some_or, Option.none_or, oneOrTup, go_sem]
  rw [← hr]
open Classical in
noncomputable def spPick : VM.Spec := { modes := [.ptr, .use], run := fun | [.rptr (c'), .lst 1 l'] => (Cur.dec c').bind fun c => (decL dStr l').bind fun l => if curI c ∧ 0 < l.length ∧ l.length ≤ 4194304 then some (.str ((pickO c l).1), [.rptr (Cur.enc ((pickO c l).2))]) else none | _ => none, need := [] }
attribute [go_sem] spPick
theorem spPick_in {ins : List V} {r : V} {outs : List V} (h : spPick.run ins = some (r, outs)) : ∃ (c : Cur) (l : (List (List UInt8))), ins = [.rptr (Cur.enc c), .lst 1 ((l).map eStr)] ∧ (curI c ∧ 0 < l.length ∧ l.length ≤ 4194304) ∧ .str ((pickO c l).1) = r ∧ outs = [.rptr (Cur.enc ((pickO c l).2))] := by
  unfold spPick at h
  simp only at h
  split at h
  · rename_i c' l'
    simp only [Option.bind_eq_some_iff] at h
    obtain ⟨c, h_c, l, h_l, h⟩ := h
    split at h
    case isFalse => cases h
    rename_i hc
    simp only [Option.some.injEq, Prod.mk.injEq] at h
    obtain ⟨h1, h2⟩ := h
    have h_c := Cur.dec_some h_c
    subst h_c
    have h_l := decL_some (fun _ _ h => dStr_some h) h_l
    subst h_l
    exact ⟨c, l, rfl, hc, h1, h2.symm⟩
  · cases h
def T_spec_l01Pick : Hints := ⟨lk [], lk [], lk [(0, [0, 1]), (1, [4])], lk [], lf []⟩
noncomputable def Phi_spec_l01Pick : Tab := lk [(70, spBelow)]
attribute [go_sem] T_spec_l01Pick Phi_spec_l01Pick
theorem phi_spec_l01Pick : ∀ f sp, Phi_spec_l01Pick f = some sp → FnOk Tryz.prog f sp ∧ ∀ n ∈ sp.need, n ∈ ([] : List String) := phi_cons ok_spec_l01Below (n0 rfl) (phi_nil)
theorem ok_spec_l01Pick : FnOk Tryz.prog 69 spPick := by
  refine fn_ok (Φ := Phi_spec_l01Pick) (T := T_spec_l01Pick) phi_spec_l01Pick mixed Tryz.func69 rfl rfl rfl (by decide) ?_
  intro ins r outs hr hl
  clear hl
  have hs := spPick_in hr
  clear hr
  obtain ⟨c, l, rfl, hc, hr, rfl⟩ := hs
  simp only [spPick, Tryz.f69, Go.VM.initS]
  obtain ⟨hc, hl, hl2⟩ := hc
  have h1 := belO_in (n := (l.length : Int)) hc
  have h2 := h1.2.2 (by omega)
  obtain ⟨⟨v, d⟩, e⟩ : ∃ x, belO c l.length = x := ⟨_, rfl⟩
  rw [e] at h1 h2
  simp only at h1 h2
  obtain ⟨k, rfl⟩ : ∃ k : Nat, v = k := ⟨v.toNat, by omega⟩
  have g2 : k < l.length := by omega
  have e2 : pickO c l = (l[k], d) := by rw [pickO, e]; simp only [Int.toNat_natCast, getD_lt g2]
  rw [e2] at hr
  have g1 : (0 : Int) ≤ k := by omega
  have g3 : l[k]? = some l[k] := List.getElem?_eq_getElem g2
  have g4 : (k : Int) < l.length := by omega
  simp only [hc, e, g1, g3, g4, go_sem]
  repeat' ((first | apply qa | apply qb | apply qc | apply qd | apply qe | apply qf | apply qg | apply qh | apply qi | apply qj | apply qk) <;> intro hp <;> simp only [hp, hc, e, g1, g3, g4, go_sem])
  simp only [fin_mk, finV, resL, resV1, resIn, endA, listIn, Option.some_or, Option.none_or, oneOrTup, go_sem]
  rw [← hr]
  first | rfl | (simp only [e2]; rfl) | simp only [e2]
def pickI (c : Cur) (l : List Int) : Int × Cur := (l.getD (belO c l.length).1.toNat 0, (belO c l.length).2)
theorem pickI_in {c : Cur} {l : List Int} (h : curI c) (hl : 0 < l.length) : curI (pickI c l).2 ∧ (pickI c l).1 ∈ l := by
  have h1 := belO_in (n := (l.length : Int)) h
  have h2 := h1.2.2 (by omega)
  refine ⟨h1.1, ?_⟩
  have h3 : (belO c l.length).1.toNat < l.length := by omega
  rw [pickI]
  simp only [getD_lt h3]
  exact List.getElem_mem h3
open Classical in
noncomputable def spPickI : VM.Spec := { modes := [.ptr, .use], run := fun | [.rptr (c'), .lst 1 l'] => (Cur.dec c').bind fun c => (decL dInt l').bind fun l => if curI c ∧ 0 < l.length ∧ l.length ≤ 4194304 then some (.int .i64 ((pickI c l).1), [.rptr (Cur.enc ((pickI c l).2))]) else none | _ => none, need := [] }
attribute [go_sem] spPickI
theorem spPickI_in {ins : List V} {r : V} {outs : List V} (h : spPickI.run ins = some (r, outs)) : ∃ (c : Cur) (l : (List Int)), ins = [.rptr (Cur.enc c), .lst 1 ((l).map eInt)] ∧ (curI c ∧ 0 < l.length ∧ l.length ≤ 4194304) ∧ .int .i64 ((pickI c l).1) = r ∧ outs = [.rptr (Cur.enc ((pickI c l).2))] := by
  unfold spPickI at h
  simp only at h
  split at h
  · rename_i c' l'
    simp only [Option.bind_eq_some_iff] at h
    obtain ⟨c, h_c, l, h_l, h⟩ := h
    split at h
    case isFalse => cases h
    rename_i hc
    simp only [Option.some.injEq, Prod.mk.injEq] at h
    obtain ⟨h1, h2⟩ := h
    have h_c := Cur.dec_some h_c
    subst h_c
    have h_l := decL_some (fun _ _ h => dInt_some h) h_l
    subst h_l
    exact ⟨c, l, rfl, hc, h1, h2.symm⟩
  · cases h
def T_spec_l01PickInt : Hints := ⟨lk [], lk [], lk [(0, [0, 1]), (1, [4])], lk [], lf []⟩
noncomputable def Phi_spec_l01PickInt : Tab := lk [(70, spBelow)]
attribute [go_sem] T_spec_l01PickInt Phi_spec_l01PickInt
theorem phi_spec_l01PickInt : ∀ f sp, Phi_spec_l01PickInt f = some sp → FnOk Tryz.prog f sp ∧ ∀ n ∈ sp.need, n ∈ ([] : List String) := phi_cons ok_spec_l01Below (n0 rfl) (phi_nil)
theorem ok_spec_l01PickInt : FnOk Tryz.prog 77 spPickI := by
  refine fn_ok (Φ := Phi_spec_l01PickInt) (T := T_spec_l01PickInt) phi_spec_l01PickInt mixed Tryz.func77 rfl rfl rfl (by decide) ?_
  intro ins r outs hr hl
  clear hl
  have hs := spPickI_in hr
  clear hr
  obtain ⟨c, l, rfl, hc, hr, rfl⟩ := hs
  simp only [spPickI, Tryz.f77, Go.VM.initS]
  obtain ⟨hc, hl, hl2⟩ := hc
  have h1 := belO_in (n := (l.length : Int)) hc
  have h2 := h1.2.2 (by omega)
  obtain ⟨⟨v, d⟩, e⟩ : ∃ x, belO c l.length = x := ⟨_, rfl⟩
  rw [e] at h1 h2
  simp only at h1 h2
  obtain ⟨k, rfl⟩ : ∃ k : Nat, v = k := ⟨v.toNat, by omega⟩
  have g2 : k < l.length := by omega
  have e2 : pickI c l = (l[k], d) := by rw [pickI, e]; simp only [Int.toNat_natCast, getD_lt g2]
  rw [e2] at hr
  have g1 : (0 : Int) ≤ k := by omega
  have g3 : l[k]? = some l[k] := List.getElem?_eq_getElem g2
  have g4 : (k : Int) < l.length := by omega
  simp only [hc, e, g1, g3, g4, go_sem]
  repeat' ((first | apply qa | apply qb | apply qc | apply qd | apply qe | apply qf | apply qg | apply qh | apply qi | apply qj | apply qk) <;> intro hp <;> simp only [hp, hc, e, g1, g3, g4, go_sem])
  simp only [fin_mk, finV, resL, resV1, resIn, endA, listIn, Option.some_or, Option.none_or, oneOrTup, go_sem]
  rw [← hr]
  first | rfl | (simp only [e2]; rfl) | simp only [e2]
end Go.Proofs.YtghmjnggmacohaaGreatDoor.L

namespace Go.Proofs.YtghmjnggmacohaaGreatDoor.L
open Go Go.VM
set_option maxRecDepth 100000
set_option maxHeartbeats 4000000
set_option linter.unusedSimpArgs false
set_option linter.unusedVariables false
/-! ### a drawn mail -/
def mA (c : Cur) := pickO c [[32, 104, 101, 108, 108, 111], [32, 82, 101, 58, 32, 104, 101, 108, 108, 111], [32, 111, 116, 104, 101, 114], [32, 102, 119, 100, 58, 32, 82, 69, 58, 32, 32, 72, 101, 108, 108, 111, 32], [], [32, 110, 101, 119, 115]]
def mB (c : Cur) := belO (mA c).2 2
def mC (c : Cur) := pickO (mB c).2 [[97, 110, 110], [98, 111, 98]]
def mS (c : Cur) : List UInt8 := if ((mB c).1 == 0) = true then [83, 117, 98, 106, 101, 99, 116, 58] ++ (mA c).1 ++ [10] ++ [70, 114, 111, 109, 58, 32] ++ (mC c).1 ++ [10] else [83, 117, 98, 106, 101, 99, 116, 58] ++ (mA c).1 ++ [10]
def mD (c : Cur) : Cur := if ((mB c).1 == 0) = true then (mC c).2 else (mB c).2
def mE (c : Cur) := belO (mD c) 6
def mF (c : Cur) := pickO (mE c).2 [[116, 101, 120, 116], [98, 111, 100, 121, 32, 111, 102, 32, 105, 116, 10], [], [97, 10, 10, 98]]
def mailO (c : Cur) : List UInt8 × Cur := if ((mE c).1 == 0) = true then (mS c, (mE c).2) else (mS c ++ [10] ++ (mF c).1, (mF c).2)
theorem subs_len : ∀ x ∈ ([[32, 104, 101, 108, 108, 111], [32, 82, 101, 58, 32, 104, 101, 108, 108, 111], [32, 111, 116, 104, 101, 114], [32, 102, 119, 100, 58, 32, 82, 69, 58, 32, 32, 72, 101, 108, 108, 111, 32], [], [32, 110, 101, 119, 115]] : List (List UInt8)), x.length ≤ 17 := by decide
theorem froms_len : ∀ x ∈ ([[97, 110, 110], [98, 111, 98]] : List (List UInt8)), x.length ≤ 17 := by decide
theorem bods_len : ∀ x ∈ ([[116, 101, 120, 116], [98, 111, 100, 121, 32, 111, 102, 32, 105, 116, 10], [], [97, 10, 10, 98]] : List (List UInt8)), x.length ≤ 17 := by decide
open Classical in
noncomputable def spMail : VM.Spec := { modes := [.ptr], run := fun | [.rptr (c')] => (Cur.dec c').bind fun c => if curI c then some (.str ((mailO c).1), [.rptr (Cur.enc ((mailO c).2))]) else none | _ => none, need := [] }
attribute [go_sem] spMail
theorem spMail_in {ins : List V} {r : V} {outs : List V} (h : spMail.run ins = some (r, outs)) : ∃ (c : Cur), ins = [.rptr (Cur.enc c)] ∧ (curI c) ∧ .str ((mailO c).1) = r ∧ outs = [.rptr (Cur.enc ((mailO c).2))] := by
  unfold spMail at h
  simp only at h
  split at h
  · rename_i c'
    simp only [Option.bind_eq_some_iff] at h
    obtain ⟨c, h_c, h⟩ := h
    split at h
    case isFalse => cases h
    rename_i hc
    simp only [Option.some.injEq, Prod.mk.injEq] at h
    obtain ⟨h1, h2⟩ := h
    have h_c := Cur.dec_some h_c
    subst h_c
    exact ⟨c, rfl, hc, h1, h2.symm⟩
  · cases h
def T_spec_l07Mail : Hints := ⟨lk [], lk [], lk [(0, [0]), (1, [0, 3]), (2, [0, 3, 10]), (3, [0, 3]), (4, [0, 3, 19]), (5, [2]), (6, [2])], lk [], lf []⟩
noncomputable def Phi_spec_l07Mail : Tab := lk [(69, spPick), (47, spOnce)]
attribute [go_sem] T_spec_l07Mail Phi_spec_l07Mail
theorem phi_spec_l07Mail : ∀ f sp, Phi_spec_l07Mail f = some sp → FnOk Tryz.prog f sp ∧ ∀ n ∈ sp.need, n ∈ ([] : List String) := phi_cons ok_spec_l01Pick (n0 rfl) (phi_cons ok_spec_l01Once (n0 rfl) (phi_nil))
theorem ok_spec_l07Mail : FnOk Tryz.prog 72 spMail := by
  refine fn_ok (Φ := Phi_spec_l07Mail) (T := T_spec_l07Mail) phi_spec_l07Mail mixed Tryz.func72 rfl rfl rfl (by decide) ?_
  intro ins r outs hr hl
  clear hl
  have hs := spMail_in hr
  clear hr
  obtain ⟨c, rfl, hc, hr, rfl⟩ := hs
  simp only [spMail, Tryz.f72, Go.VM.initS]
  have ja := pickO_in (l := [[32, 104, 101, 108, 108, 111], [32, 82, 101, 58, 32, 104, 101, 108, 108, 111], [32, 111, 116, 104, 101, 114], [32, 102, 119, 100, 58, 32, 82, 69, 58, 32, 32, 72, 101, 108, 108, 111, 32], [], [32, 110, 101, 119, 115]]) hc (by decide)
  have la := subs_len _ ja.2
  obtain ⟨⟨va, ca⟩, ea⟩ : ∃ x, pickO c [[32, 104, 101, 108, 108, 111], [32, 82, 101, 58, 32, 104, 101, 108, 108, 111], [32, 111, 116, 104, 101, 114], [32, 102, 119, 100, 58, 32, 82, 69, 58, 32, 32, 72, 101, 108, 108, 111, 32], [], [32, 110, 101, 119, 115]] = x := ⟨_, rfl⟩
  rw [ea] at ja la
  have fa : mA c = (va, ca) := ea
  have jb := belO_in (n := 2) ja.1
  obtain ⟨⟨vb, cb⟩, eb⟩ : ∃ x, belO ca 2 = x := ⟨_, rfl⟩
  rw [eb] at jb
  have fb : mB c = (vb, cb) := by rw [mB, fa]; exact eb
  have jc := pickO_in (l := [[97, 110, 110], [98, 111, 98]]) jb.1 (by decide)
  have lc := froms_len _ jc.2
  obtain ⟨⟨vc, cc⟩, ec⟩ : ∃ x, pickO cb [[97, 110, 110], [98, 111, 98]] = x := ⟨_, rfl⟩
  rw [ec] at jc lc
  have fc : mC c = (vc, cc) := by rw [mC, fb]; exact ec
  simp only at ja jb jc la lc
  cases hb : (vb == 0) with
  | true =>
    have fS : mS c = [83, 117, 98, 106, 101, 99, 116, 58] ++ va ++ [10] ++ [70, 114, 111, 109, 58, 32] ++ vc ++ [10] := by simp only [mS, fa, fb, fc, hb, Bool.false_eq_true, if_true, if_false]
    have fD : mD c = cc := by simp only [mD, fb, fc, hb, Bool.false_eq_true, if_true, if_false]
    have je := belO_in (n := 6) jc.1
    obtain ⟨⟨ve, ce⟩, ee⟩ : ∃ x, belO cc 6 = x := ⟨_, rfl⟩
    rw [ee] at je
    have fe : mE c = (ve, ce) := by rw [mE, fD]; exact ee
    have jf := pickO_in (l := [[116, 101, 120, 116], [98, 111, 100, 121, 32, 111, 102, 32, 105, 116, 10], [], [97, 10, 10, 98]]) je.1 (by decide)
    have lf := bods_len _ jf.2
    obtain ⟨⟨vf, cf⟩, ef⟩ : ∃ x, pickO ce [[116, 101, 120, 116], [98, 111, 100, 121, 32, 111, 102, 32, 105, 116, 10], [], [97, 10, 10, 98]] = x := ⟨_, rfl⟩
    rw [ef] at jf lf
    have ff : mF c = (vf, cf) := by rw [mF, fe]; exact ef
    simp only at je jf lf
    cases he : (ve == 0) with
    | true =>
      have e : mailO c = ([83, 117, 98, 106, 101, 99, 116, 58] ++ va ++ [10] ++ [70, 114, 111, 109, 58, 32] ++ vc ++ [10], ce) := by simp only [mailO, fe, fS, he, if_true]
      rw [e] at hr
      simp only [hc, ea, ja.1, eb, jb.1, ec, jc.1, ee, je.1, hb, he, List.length_append, List.append_assoc, go_sem]
      repeat' ((first | apply qa | apply qb | apply qc | apply qd | apply qe | apply qf | apply qg | apply qh | apply qi | apply qj | apply qk) <;> intro hp <;> simp only [hp, hc, ea, ja.1, eb, jb.1, ec, jc.1, ee, je.1, hb, he, List.length_append, List.append_assoc, go_sem])
      all_goals first | (clear hr; omega) | skip
      all_goals (simp only [fin_mk, finV, resL, resV1, resIn, endA, listIn, Option.some_or, Option.none_or, oneOrTup, go_sem]; rw [← hr]; simp only [e, List.append_assoc, List.cons_append, List.nil_append])
    | false =>
      have e : mailO c = ([83, 117, 98, 106, 101, 99, 116, 58] ++ va ++ [10] ++ [70, 114, 111, 109, 58, 32] ++ vc ++ [10] ++ [10] ++ vf, cf) := by simp only [mailO, fe, ff, fS, he, Bool.false_eq_true, if_false]
      rw [e] at hr
      simp only [hc, ea, ja.1, eb, jb.1, ec, jc.1, ee, je.1, ef, jf.1, hb, he, List.length_append, List.append_assoc, go_sem]
      repeat' ((first | apply qa | apply qb | apply qc | apply qd | apply qe | apply qf | apply qg | apply qh | apply qi | apply qj | apply qk) <;> intro hp <;> simp only [hp, hc, ea, ja.1, eb, jb.1, ec, jc.1, ee, je.1, ef, jf.1, hb, he, List.length_append, List.append_assoc, go_sem])
      all_goals first | (clear hr; omega) | skip
      all_goals (simp only [fin_mk, finV, resL, resV1, resIn, endA, listIn, Option.some_or, Option.none_or, oneOrTup, go_sem]; rw [← hr]; simp only [e, List.append_assoc, List.cons_append, List.nil_append])
  | false =>
    have fS : mS c = [83, 117, 98, 106, 101, 99, 116, 58] ++ va ++ [10] := by simp only [mS, fa, fb, fc, hb, Bool.false_eq_true, if_true, if_false]
    have fD : mD c = cb := by simp only [mD, fb, fc, hb, Bool.false_eq_true, if_true, if_false]
    have je := belO_in (n := 6) jb.1
    obtain ⟨⟨ve, ce⟩, ee⟩ : ∃ x, belO cb 6 = x := ⟨_, rfl⟩
    rw [ee] at je
    have fe : mE c = (ve, ce) := by rw [mE, fD]; exact ee
    have jf := pickO_in (l := [[116, 101, 120, 116], [98, 111, 100, 121, 32, 111, 102, 32, 105, 116, 10], [], [97, 10, 10, 98]]) je.1 (by decide)
    have lf := bods_len _ jf.2
    obtain ⟨⟨vf, cf⟩, ef⟩ : ∃ x, pickO ce [[116, 101, 120, 116], [98, 111, 100, 121, 32, 111, 102, 32, 105, 116, 10], [], [97, 10, 10, 98]] = x := ⟨_, rfl⟩
    rw [ef] at jf lf
    have ff : mF c = (vf, cf) := by rw [mF, fe]; exact ef
    simp only at je jf lf
    cases he : (ve == 0) with
    | true =>
      have e : mailO c = ([83, 117, 98, 106, 101, 99, 116, 58] ++ va ++ [10], ce) := by simp only [mailO, fe, fS, he, if_true]
      rw [e] at hr
      simp only [hc, ea, ja.1, eb, jb.1, ec, jc.1, ee, je.1, hb, he, List.length_append, List.append_assoc, go_sem]
      repeat' ((first | apply qa | apply qb | apply qc | apply qd | apply qe | apply qf | apply qg | apply qh | apply qi | apply qj | apply qk) <;> intro hp <;> simp only [hp, hc, ea, ja.1, eb, jb.1, ec, jc.1, ee, je.1, hb, he, List.length_append, List.append_assoc, go_sem])
      all_goals first | (clear hr; omega) | skip
      all_goals (simp only [fin_mk, finV, resL, resV1, resIn, endA, listIn, Option.some_or, Option.none_or, oneOrTup, go_sem]; rw [← hr]; simp only [e, List.append_assoc, List.cons_append, List.nil_append])
    | false =>
      have e : mailO c = ([83, 117, 98, 106, 101, 99, 116, 58] ++ va ++ [10] ++ [10] ++ vf, cf) := by simp only [mailO, fe, ff, fS, he, Bool.false_eq_true, if_false]
      rw [e] at hr
      simp only [hc, ea, ja.1, eb, jb.1, ec, jc.1, ee, je.1, ef, jf.1, hb, he, List.length_append, List.append_assoc, go_sem]
      repeat' ((first | apply qa | apply qb | apply qc | apply qd | apply qe | apply qf | apply qg | apply qh | apply qi | apply qj | apply qk) <;> intro hp <;> simp only [hp, hc, ea, ja.1, eb, jb.1, ec, jc.1, ee, je.1, ef, jf.1, hb, he, List.length_append, List.append_assoc, go_sem])
      all_goals first | (clear hr; omega) | skip
      all_goals (simp only [fin_mk, finV, resL, resV1, resIn, endA, listIn, Option.some_or, Option.none_or, oneOrTup, go_sem]; rw [← hr]; simp only [e, List.append_assoc, List.cons_append, List.nil_append])
theorem mailO_len {c : Cur} (h : curI c) : (mailO c).1.length ≤ 200 ∧ curI (mailO c).2 := by
  have ja := pickO_in (c := c) (l := [[32, 104, 101, 108, 108, 111], [32, 82, 101, 58, 32, 104, 101, 108, 108, 111], [32, 111, 116, 104, 101, 114], [32, 102, 119, 100, 58, 32, 82, 69, 58, 32, 32, 72, 101, 108, 108, 111, 32], [], [32, 110, 101, 119, 115]]) h (by decide)
  have la := subs_len _ ja.2
  have jb := belO_in (c := (mA c).2) (n := 2) ja.1
  have jc := pickO_in (c := (mB c).2) (l := [[97, 110, 110], [98, 111, 98]]) jb.1 (by decide)
  have lc := froms_len _ jc.2
  have jd : curI (mD c) := by unfold mD; split; exact jc.1; exact jb.1
  have je := belO_in (n := 6) jd
  have jf := pickO_in (c := (mE c).2) (l := [[116, 101, 120, 116], [98, 111, 100, 121, 32, 111, 102, 32, 105, 116, 10], [], [97, 10, 10, 98]]) je.1 (by decide)
  have lf := bods_len _ jf.2
  have la' : (mA c).1.length ≤ 17 := la
  have lc' : (mC c).1.length ≤ 17 := lc
  have lf' : (mF c).1.length ≤ 17 := lf
  have ls : (mS c).length ≤ 80 := by unfold mS; split <;> simp only [List.length_append, List.length_cons, List.length_nil] <;> omega
  unfold mailO
  split
  · exact ⟨by simp only; omega, je.1⟩
  · exact ⟨by simp only [List.length_append, List.length_cons, List.length_nil]; omega, jf.1⟩
end Go.Proofs.YtghmjnggmacohaaGreatDoor.L

namespace Go.Proofs.YtghmjnggmacohaaGreatDoor.L
open Go Go.VM
set_option maxRecDepth 100000
set_option maxHeartbeats 4000000
set_option linter.unusedSimpArgs false
set_option linter.unusedVariables false
theorem setAdd_len (s : List Range) (lo hi : Int) (h : s.length ≤ 40) : (setAdd s lo hi).length ≤ 40 := by
  unfold setAdd
  split
  · rename_i hk
    simp only [setAddOk, setOk, Bool.and_eq_true, decide_eq_true_eq] at hk
    exact hk.2.2
  · exact h
def drawL : Nat → Nat → Cur → List Range → List Range × Cur
  | 0, _, c, s => (s, c)
  | f + 1, i, c, s => if (i : Int) < (belO c 5).1 then drawL f (i + 1) (belO (belO (belO c 5).2 14).2 4).2 (setAdd s (1 + (belO (belO c 5).2 14).1) (1 + (belO (belO c 5).2 14).1 + (belO (belO (belO c 5).2 14).2 4).1)) else (s, (belO c 5).2)
theorem drawL_in : ∀ (f i : Nat) {c : Cur} {s : List Range}, curI c → s.length ≤ 40 → (drawL f i c s).1.length ≤ 40 ∧ curI (drawL f i c s).2
  | 0, i, c, s, hc, hs => ⟨hs, hc⟩
  | f + 1, i, c, s, hc, hs => by
    have h1 := belO_in (n := 5) hc
    have h2 := belO_in (n := 14) h1.1
    have h3 := belO_in (n := 4) h2.1
    rw [drawL]
    split
    · exact drawL_in f (i + 1) h3.1 (setAdd_len _ _ _ hs)
    · exact ⟨hs, h1.1⟩
def drawO (c : Cur) : List Range × Cur := if ((belO (drawL 6 0 c []).2 10).1 == 0) = true then (setAdd (drawL 6 0 c []).1 9998 9999, (belO (drawL 6 0 c []).2 10).2) else ((drawL 6 0 c []).1, (belO (drawL 6 0 c []).2 10).2)
theorem drawO_in {c : Cur} (h : curI c) : (drawO c).1.length ≤ 40 ∧ curI (drawO c).2 := by
  have h1 := drawL_in 6 0 (s := []) h (by simp)
  have h2 := belO_in (n := 10) h1.2
  unfold drawO
  split
  · exact ⟨setAdd_len _ _ _ h1.1, h2.1⟩
  · exact ⟨h1.1, h2.1⟩
open Classical in
noncomputable def spDraw : VM.Spec := { modes := [.ptr], run := fun | [.rptr (c')] => (Cur.dec c').bind fun c => if curI c then some (.lst 2 (((drawO c).1).map Range.enc), [.rptr (Cur.enc ((drawO c).2))]) else none | _ => none, need := [] }
attribute [go_sem] spDraw
theorem spDraw_in {ins : List V} {r : V} {outs : List V} (h : spDraw.run ins = some (r, outs)) : ∃ (c : Cur), ins = [.rptr (Cur.enc c)] ∧ (curI c) ∧ .lst 2 (((drawO c).1).map Range.enc) = r ∧ outs = [.rptr (Cur.enc ((drawO c).2))] := by
  unfold spDraw at h
  simp only at h
  split at h
  · rename_i c'
    simp only [Option.bind_eq_some_iff] at h
    obtain ⟨c, h_c, h⟩ := h
    split at h
    case isFalse => cases h
    rename_i hc
    simp only [Option.some.injEq, Prod.mk.injEq] at h
    obtain ⟨h1, h2⟩ := h
    have h_c := Cur.dec_some h_c
    subst h_c
    exact ⟨c, rfl, hc, h1, h2.symm⟩
  · cases h
def T_spec_l05Draw : Hints := ⟨lk [], lk [(3, [0, 3, 4])], lk [(0, [0]), (1, [0, 3]), (2, [0, 3, 4]), (3, [0, 3, 4, 10]), (5, [0, 3, 4, 5]), (6, [0, 3, 4]), (4, [0, 3, 4]), (7, [3, 27]), (8, [3]), (9, [2])], lk [], lf []⟩
noncomputable def Phi_spec_l05Draw : Tab := lk [(70, spBelow), (47, spOnce), (95, spSetAdd)]
attribute [go_sem] T_spec_l05Draw Phi_spec_l05Draw
theorem phi_spec_l05Draw : ∀ f sp, Phi_spec_l05Draw f = some sp → FnOk Tryz.prog f sp ∧ ∀ n ∈ sp.need, n ∈ ([] : List String) := phi_cons ok_spec_l01Below (n0 rfl) (phi_cons ok_spec_l01Once (n0 rfl) (phi_cons ok_spec_SetAdd (n0 rfl) (phi_nil)))
theorem ok_spec_l05Draw : FnOk Tryz.prog 74 spDraw := by
  refine fn_ok (Φ := Phi_spec_l05Draw) (T := T_spec_l05Draw) phi_spec_l05Draw mixed Tryz.func74 rfl rfl rfl (by decide) ?_
  intro ins r outs hr hl
  clear hl
  have hs := spDraw_in hr
  clear hr
  obtain ⟨c, rfl, hc, hr, rfl⟩ := hs
  simp only [spDraw, Tryz.f74, Go.VM.initS]
  have hRi := drawL_in 6 0 (s := []) hc (by simp)
  obtain ⟨⟨RS, RC⟩, hR⟩ : ∃ R, drawL 6 0 c [] = R := ⟨_, rfl⟩
  rw [hR] at hRi
  simp only at hRi
  obtain ⟨⟨vt, ct⟩, et⟩ : ∃ x, belO RC 10 = x := ⟨_, rfl⟩
  have hO : drawO c = if (vt == 0) = true then (setAdd RS 9998 9999, ct) else (RS, ct) := by simp only [drawO, hR, et]
  rw [hO] at hr
  have hRl : RS.length ≤ 4194304 := by omega
  simp only [hO, go_sem]
  repeat' ((first | apply qa | apply qb | apply qc | apply qd | apply qe | apply qf | apply qg | apply qh | apply qi | apply qj | apply qk) <;> intro hp <;> simp only [hp, hO, go_sem])
  refine loop_go (fun p : Nat × Cur × List Range => [(4, .int .i64 (p.1 : Int))]) (fun p => [(0, ⟨.box, 3, [p.2.1.enc]⟩), (1, ⟨.arr, 2, p.2.2.map Range.enc⟩)]) (fun p => 6 - p.1) (fun p => p.1 ≤ 4 ∧ curI p.2.1 ∧ p.2.2.length ≤ 40 ∧ drawL (6 - p.1) p.1 p.2.1 p.2.2 = (RS, RC)) (0, c, []) ⟨by omega, hc, by simp, hR⟩ rfl rfl ?_
  rintro ⟨i, d, a⟩ ⟨hi, hd, hl, he⟩ ih
  simp only at hi hd hl he ih
  have h1 := belO_in (n := 5) hd
  have h2 := belO_in (n := 14) h1.1
  have h3 := belO_in (n := 4) h2.1
  rw [show 6 - i = (6 - (i + 1)) + 1 by omega, drawL] at he
  obtain ⟨⟨v1, c1⟩, e1⟩ : ∃ x, belO d 5 = x := ⟨_, rfl⟩
  rw [e1] at h1 h2 h3 he
  simp only at h1 h2 h3 he
  obtain ⟨⟨v2, c2⟩, e2⟩ : ∃ x, belO c1 14 = x := ⟨_, rfl⟩
  rw [e2] at h2 h3 he
  simp only at h2 h3 he
  obtain ⟨⟨v3, c3⟩, e3⟩ : ∃ x, belO c2 4 = x := ⟨_, rfl⟩
  rw [e3] at h3 he
  simp only at h3 he
  by_cases g1 : (i : Int) < v1
  · rw [if_pos g1] at he
    have hv := h1.2.2 (by decide)
    have hv2 := h2.2.2 (by decide)
    have hv3 := h3.2.2 (by decide)
    have ih' := ih (i + 1, c3, _) ⟨by omega, h3.1, setAdd_len _ _ _ hl, he⟩ (by simp only; omega)
    simp only at ih'
    have g5 : IntKind.i64.wrap ((i : Int) + 1) = ((i + 1 : Nat) : Int) := wrap_succ (n := 10) (by omega) (by omega)
    have g6 : IntKind.i64.wrap (1 + v2) = 1 + v2 := wrap64 (by omega) (by omega)
    have g7 : IntKind.i64.wrap (1 + v2 + v3) = 1 + v2 + v3 := wrap64 (by omega) (by omega)
    have g8 : a.length ≤ 4194304 := by omega
    simp only [hd, h1.1, h2.1, h3.1, e1, e2, e3, g1, g5, g6, g7, g8, go_sem]
    repeat' ((first | apply qa | apply qb | apply qc | apply qd | apply qe | apply qf | apply qg | apply qh | apply qi | apply qj | apply qk) <;> intro hp <;> simp only [hp, hd, h1.1, h2.1, h3.1, e1, e2, e3, g1, g5, g6, g7, g8, go_sem])
    exact ih'
  · rw [if_neg g1] at he
    simp only [Prod.mk.injEq] at he
    obtain ⟨rfl, rfl⟩ := he
    cases h0 : (vt == 0) with
    | true =>
      simp only [h0, if_true] at hr
      simp only [hd, hRi.2, e1, g1, et, h0, hRl, if_true, go_sem]
      repeat' ((first | apply qa | apply qb | apply qc | apply qd | apply qe | apply qf | apply qg | apply qh | apply qi | apply qj | apply qk) <;> intro hp <;> simp only [hp, hd, hRi.2, e1, g1, et, h0, hRl, if_true, go_sem])
      simp only [fin_mk, finV, resL, resV1, resIn, endA, listIn, Option.some_or, Option.none_or, oneOrTup, go_sem]
      rw [← hr]
    | false =>
      simp only [h0, Bool.false_eq_true, if_false] at hr
      simp only [hd, hRi.2, e1, g1, et, h0, hRl, go_sem]
      repeat' ((first | apply qa | apply qb | apply qc | apply qd | apply qe | apply qf | apply qg | apply qh | apply qi | apply qj | apply qk) <;> intro hp <;> simp only [hp, hd, hRi.2, e1, g1, et, h0, hRl, go_sem])
      simp only [fin_mk, finV, resL, resV1, resIn, endA, listIn, Option.some_or, Option.none_or, oneOrTup, go_sem]
      rw [← hr]
end Go.Proofs.YtghmjnggmacohaaGreatDoor.L

namespace Go.Proofs.YtghmjnggmacohaaGreatDoor.L
open Go Go.VM
set_option maxRecDepth 100000
set_option maxHeartbeats 4000000
set_option linter.unusedSimpArgs false
set_option linter.unusedVariables false
def lateM (s : List Range) (since : Int) (m : Mail) : Bool := hasR s m.Uid && (decide (0 ≤ since) && decide (since < m.Mod))
def chM (s : List Range) (how bits since : Int) (m : Mail) : Bool := hasR s m.Uid && !(decide (0 ≤ since) && decide (since < m.Mod)) && (flagsAfter m.Flags how bits != m.Flags)
def newM (s : List Range) (how bits since md : Int) (m : Mail) : Mail := if chM s how bits since m = true then ⟨m.Uid, flagsAfter m.Flags how bits, md + 1, m.Text⟩ else m
def doneL (b : List Mail) (s : List Range) (how bits since : Int) : List Int := (b.filter (chM s how bits since)).map (·.Uid)
def lateL (b : List Mail) (s : List Range) (since : Int) : List Int := (b.filter (lateM s since)).map (·.Uid)
def setOut (b : Box) (s : List Range) (how bits since : Int) : Box := ⟨b.Name, b.Valid, b.Next, if doneL b.Mails s how bits since = [] then b.Mod else b.Mod + 1, b.Mails.map (newM s how bits since b.Mod), b.Tombs, b.Horizon⟩
def setIn (b : Box) (s : List Range) (how bits : Int) : Bool := boxOk b && setOk s && within how 1 3 && flagsOk bits
def setGood (b : Box) (s : List Range) (how bits since : Int) : Bool := setIn b s how bits && boxOk (setOut b s how bits since)
def setFlags (b : Box) (s : List Range) (how bits since : Int) : Box := if setGood b s how bits since = true then setOut b s how bits since else b
def setDone (b : Box) (s : List Range) (how bits since : Int) : List Range := if setGood b s how bits since = true then setOf (doneL b.Mails s how bits since) else []
def setLate (b : Box) (s : List Range) (how bits since : Int) : List Range := if setGood b s how bits since = true then setOf (lateL b.Mails s since) else []
theorem map_at {α : Type} {f : α → α} {l : List α} {i : Nat} (h : i < l.length) : (l.take i).map f ++ l.drop i = (l.take i).map f ++ l[i] :: l.drop (i + 1) := by
  rw [List.drop_eq_getElem_cons h]
theorem map_get {α : Type} {f : α → α} {l : List α} {i : Nat} (h : i < l.length) : ((l.take i).map f ++ l.drop i)[i]? = some l[i] := by
  rw [map_at h, List.getElem?_append_right (by rw [List.length_map, List.length_take]; omega), List.length_map, List.length_take, Nat.min_eq_left (by omega), Nat.sub_self]; rfl
theorem map_set {α : Type} {f : α → α} {l : List α} {i : Nat} (h : i < l.length) : ((l.take i).map f ++ l.drop i).set i (f l[i]) = (l.take (i + 1)).map f ++ l.drop (i + 1) := by
  rw [map_at h, List.set_append_right _ _ (by rw [List.length_map, List.length_take]; omega), List.length_map, List.length_take, Nat.min_eq_left (by omega), Nat.sub_self, take_succ' h, List.set_cons_zero, List.map_append, List.append_assoc]
  rfl
theorem map_same {α : Type} {f : α → α} {l : List α} {i : Nat} (h : i < l.length) (hf : f l[i] = l[i]) : (l.take i).map f ++ l.drop i = (l.take (i + 1)).map f ++ l.drop (i + 1) := by
  rw [map_at h, take_succ' h, List.map_append, List.append_assoc, List.map_cons, List.map_nil, hf]
  rfl
theorem doneL_succ {l : List Mail} {s : List Range} {how bits since : Int} {i : Nat} (h : i < l.length) : doneL (l.take (i + 1)) s how bits since = doneL (l.take i) s how bits since ++ (if chM s how bits since l[i] = true then [l[i].Uid] else []) := by
  unfold doneL
  rw [filter_succ h, List.map_append]
  congr 1
  split <;> simp
theorem lateL_succ {l : List Mail} {s : List Range} {since : Int} {i : Nat} (h : i < l.length) : lateL (l.take (i + 1)) s since = lateL (l.take i) s since ++ (if lateM s since l[i] = true then [l[i].Uid] else []) := by
  unfold lateL
  rw [filter_succ h, List.map_append]
  congr 1
  split <;> simp
theorem newM_le {b : Box} (hc : b.le 4194304) (s : List Range) (how bits since md : Int) : Box.le 4194304 ⟨b.Name, b.Valid, b.Next, md, b.Mails.map (newM s how bits since b.Mod), b.Tombs, b.Horizon⟩ := by
  refine ⟨hc.1, ⟨by rw [List.length_map]; exact hc.2.1.1, fun m hm => ?_⟩, hc.2.2⟩
  obtain ⟨x, hx, rfl⟩ := List.mem_map.1 hm
  unfold newM
  split
  · exact hc.2.1.2 x hx
  · exact hc.2.1.2 x hx
open Classical in
noncomputable def spSetFlags : VM.Spec := { modes := [.rd, .rd, .rd, .rd, .rd], run := fun | [b', .lst 2 s', .int .i64 how, .int .i64 bits, .int .i64 since] => (Box.dec b').bind fun b => (decL Range.dec s').bind fun s => if b.le 4194304 ∧ s.length ≤ 4194304 then some (.tup [Box.enc (setFlags b s how bits since), .lst 2 ((setDone b s how bits since).map Range.enc), .lst 2 ((setLate b s how bits since).map Range.enc)], []) else none | _ => none, need := [] }
attribute [go_sem] spSetFlags
theorem spSetFlags_in {ins : List V} {r : V} {outs : List V} (h : spSetFlags.run ins = some (r, outs)) : ∃ (b : Box) (s : (List Range)) (how : Int) (bits : Int) (since : Int), ins = [Box.enc b, .lst 2 ((s).map Range.enc), .int .i64 how, .int .i64 bits, .int .i64 since] ∧ (b.le 4194304 ∧ s.length ≤ 4194304) ∧ .tup [Box.enc (setFlags b s how bits since), .lst 2 ((setDone b s how bits since).map Range.enc), .lst 2 ((setLate b s how bits since).map Range.enc)] = r ∧ outs = [] := by
  unfold spSetFlags at h
  simp only at h
  split at h
  · rename_i b' s' how bits since
    simp only [Option.bind_eq_some_iff] at h
    obtain ⟨b, h_b, s, h_s, h⟩ := h
    split at h
    case isFalse => cases h
    rename_i hc
    simp only [Option.some.injEq, Prod.mk.injEq] at h
    obtain ⟨h1, h2⟩ := h
    have h_b := Box.dec_some h_b
    subst h_b
    have h_s := decL_some (fun _ _ h => Range.dec_some h) h_s
    subst h_s
    exact ⟨b, s, how, bits, since, rfl, hc, h1, h2.symm⟩
  · cases h
def T_spec_SetFlags : Hints := ⟨lk [(15, [])], lk [(8, [1, 2, 3, 4, 5, 10, 13, 14, 15, 16, 17])], lk [(0, [1, 2, 3, 4, 5, 10]), (1, [1, 2, 3, 4, 5, 10, 13]), (2, [1, 2, 3, 4, 5, 10, 13, 14]), (3, [1, 2, 3, 4, 5, 10, 13, 14, 15]), (4, [1, 2, 3, 4, 5, 10, 13, 14, 15, 40]), (5, [10, 11, 12]), (6, [1, 2, 3, 4, 5, 10, 13, 14, 15, 16]), (7, [1, 2, 3, 4, 5, 10, 13, 14, 15, 16, 17]), (8, [1, 2, 3, 4, 5, 10, 13, 14, 15, 16, 17, 50]), (10, [1, 2, 3, 4, 5, 10, 13, 14, 15, 16, 17, 18]), (11, [1, 2, 3, 4, 5, 10, 13, 14, 15, 16, 17, 18, 62]), (12, [1, 2, 3, 4, 5, 10, 13, 14, 15, 16, 17, 18, 70]), (13, [1, 2, 3, 4, 5, 10, 13, 14, 15, 16, 17]), (14, [1, 2, 3, 4, 5, 10, 13, 14, 15, 16, 17, 18]), (15, [1, 2, 3, 4, 5, 10, 13, 14, 15, 16, 17, 18, 94]), (16, [1, 2, 3, 4, 5, 10, 13, 14, 15, 16, 17, 18]), (17, [1, 2, 3, 4, 5, 10, 13, 14, 15, 16, 17, 18]), (18, [1, 2, 3, 4, 5, 10, 13, 14, 15, 16, 17, 18]), (19, [1, 2, 3, 4, 5, 10, 13, 14, 15, 16, 17]), (9, [1, 2, 3, 4, 5, 10, 13, 14, 15, 16, 17]), (20, [10, 13, 14, 15, 16, 119]), (21, [10, 11, 12]), (22, [10, 11, 12])], lk [], lf []⟩
noncomputable def Phi_spec_SetFlags : Tab := lk [(78, spCopyBox), (28, spBoxOk), (94, spSetOk), (51, spWithin), (52, spFlagsOk), (29, spSetHas), (96, spFlagsAfter), (95, spSetAdd)]
attribute [go_sem] T_spec_SetFlags Phi_spec_SetFlags
theorem phi_spec_SetFlags : ∀ f sp, Phi_spec_SetFlags f = some sp → FnOk Tryz.prog f sp ∧ ∀ n ∈ sp.need, n ∈ ([] : List String) := phi_cons ok_spec_l08Copy (n0 rfl) (phi_cons ok_spec_BoxOk (n0 rfl) (phi_cons ok_spec_SetOk (n0 rfl) (phi_cons ok_spec_l01In (n0 rfl) (phi_cons ok_spec_FlagsOk (n0 rfl) (phi_cons ok_spec_SetHas (n0 rfl) (phi_cons ok_spec_FlagsAfter (n0 rfl) (phi_cons ok_spec_SetAdd (n0 rfl) (phi_nil))))))))
theorem ok_spec_SetFlags : FnOk Tryz.prog 73 spSetFlags := by
  refine fn_ok (Φ := Phi_spec_SetFlags) (T := T_spec_SetFlags) phi_spec_SetFlags mixed Tryz.func73 rfl rfl rfl (by decide) ?_
  intro ins r outs hr hl
  clear hl
  have hs := spSetFlags_in hr
  clear hr
  obtain ⟨b, s, how, bits, since, rfl, hc, hr, rfl⟩ := hs
  simp only [spSetFlags, Tryz.f73, Go.VM.initS]
  obtain ⟨hc, hs⟩ := hc
  have hs8 : s.length ≤ 8388608 := by omega
  cases hk : boxOk b with
  | false =>
    have hg : setGood b s how bits since = false := by simp [setGood, setIn, hk]
    simp only [setFlags, setDone, setLate, hg, Bool.false_eq_true, if_false] at hr
    simp only [hc, hs, hk, go_sem]
    repeat' ((first | ((first | apply qa | apply qb | apply qc | apply qd | apply qe | apply qf | apply qg | apply qh | apply qi | apply qj | apply qk) <;> intro hp) | ((first | refine ql rfl rfl (by decide +kernel) ?_ | refine qm _ rfl rfl (by decide +kernel) ?_) <;> have hp := True.intro)) <;> simp only [hp, hc, hs, hk, go_sem])
    all_goals (simp only [fin_mk, finV, resL, resV1, resIn, endA, listIn, Option.some_or, Option.none_or, oneOrTup, go_sem]; rw [← hr])
    all_goals rfl
  | true =>
  cases hk2 : setOk s with
  | false =>
    have hg : setGood b s how bits since = false := by simp [setGood, setIn, hk2]
    simp only [setFlags, setDone, setLate, hg, Bool.false_eq_true, if_false] at hr
    simp only [hc, hs, hk, hk2, go_sem]
    repeat' ((first | ((first | apply qa | apply qb | apply qc | apply qd | apply qe | apply qf | apply qg | apply qh | apply qi | apply qj | apply qk) <;> intro hp) | ((first | refine ql rfl rfl (by decide +kernel) ?_ | refine qm _ rfl rfl (by decide +kernel) ?_) <;> have hp := True.intro)) <;> simp only [hp, hc, hs, hk, hk2, go_sem])
    all_goals (simp only [fin_mk, finV, resL, resV1, resIn, endA, listIn, Option.some_or, Option.none_or, oneOrTup, go_sem]; rw [← hr])
    all_goals rfl
  | true =>
  cases hk3 : within how 1 3 with
  | false =>
    have hg : setGood b s how bits since = false := by simp [setGood, setIn, hk3]
    simp only [setFlags, setDone, setLate, hg, Bool.false_eq_true, if_false] at hr
    simp only [hc, hs, hk, hk2, hk3, go_sem]
    repeat' ((first | ((first | apply qa | apply qb | apply qc | apply qd | apply qe | apply qf | apply qg | apply qh | apply qi | apply qj | apply qk) <;> intro hp) | ((first | refine ql rfl rfl (by decide +kernel) ?_ | refine qm _ rfl rfl (by decide +kernel) ?_) <;> have hp := True.intro)) <;> simp only [hp, hc, hs, hk, hk2, hk3, go_sem])
    all_goals (simp only [fin_mk, finV, resL, resV1, resIn, endA, listIn, Option.some_or, Option.none_or, oneOrTup, go_sem]; rw [← hr])
    all_goals rfl
  | true =>
  cases hk4 : flagsOk bits with
  | false =>
    have hg : setGood b s how bits since = false := by simp [setGood, setIn, hk4]
    simp only [setFlags, setDone, setLate, hg, Bool.false_eq_true, if_false] at hr
    simp only [hc, hs, hk, hk2, hk3, hk4, go_sem]
    repeat' ((first | ((first | apply qa | apply qb | apply qc | apply qd | apply qe | apply qf | apply qg | apply qh | apply qi | apply qj | apply qk) <;> intro hp) | ((first | refine ql rfl rfl (by decide +kernel) ?_ | refine qm _ rfl rfl (by decide +kernel) ?_) <;> have hp := True.intro)) <;> simp only [hp, hc, hs, hk, hk2, hk3, hk4, go_sem])
    all_goals (simp only [fin_mk, finV, resL, resV1, resIn, endA, listIn, Option.some_or, Option.none_or, oneOrTup, go_sem]; rw [← hr])
    all_goals rfl
  | true =>
    have hp := boxOk_parts hk
    have hn := numsOk_next hp.1
    have hn0 : 1 ≤ b.Mod ∧ b.Mod ≤ 100000 := by have := hp.1; simp only [numsOk, within, Bool.and_eq_true, decide_eq_true_eq] at this; omega
    have hml : b.Mails.length ≤ 30 := hp.2.1
    have w1 : IntKind.i64.wrap (b.Mod + 1) = b.Mod + 1 := wrap64 (by omega) (by omega)
    clear hp hn
    simp only [hc, hs, hk, hk2, hk3, hk4, hs8, go_sem]
    repeat' ((first | ((first | apply qa | apply qb | apply qc | apply qd | apply qe | apply qf | apply qg | apply qh | apply qi | apply qj | apply qk) <;> intro hp) | ((first | refine ql rfl rfl (by decide +kernel) ?_ | refine qm _ rfl rfl (by decide +kernel) ?_) <;> have hp := True.intro)) <;> simp only [hp, hc, hs, hk, hk2, hk3, hk4, hs8, go_sem])
    refine loop_go (fun i : Nat => [(17, .int .i64 (i : Int))]) (fun i => [(3, ⟨.arr, 2, (setOf (doneL (b.Mails.take i) s how bits since)).map Range.enc⟩), (4, ⟨.arr, 2, (setOf (lateL (b.Mails.take i) s since)).map Range.enc⟩), (5, ⟨.box, 7, [.agg [.str b.Name, .int .i64 b.Valid, .int .i64 b.Next, .int .i64 (if doneL (b.Mails.take i) s how bits since = [] then b.Mod else b.Mod + 1), .own 8, .own 9, .int .i64 b.Horizon]]⟩), (8, ⟨.arr, 4, ((b.Mails.take i).map (newM s how bits since b.Mod) ++ b.Mails.drop i).map Mail.enc⟩)]) (fun i => b.Mails.length - i) (fun i => i ≤ b.Mails.length) 0 (Nat.zero_le _) rfl (by simp only [show doneL (List.take 0 b.Mails) s how bits since = [] from rfl, show lateL (List.take 0 b.Mails) s since = [] from rfl, setOf_nil', if_true]; rfl) ?_
    intro i hi ih
    have hD : (doneL (b.Mails.take i) s how bits since).length ≤ b.Mails.length := uids_len b.Mails (chM s how bits since) i
    have hL : (lateL (b.Mails.take i) s since).length ≤ b.Mails.length := uids_len b.Mails (lateM s since) i
    rcases Nat.lt_or_ge i b.Mails.length with h | h
    · have g1 : (i : Int) < b.Mails.length := by omega
      have g2 : (0 : Int) ≤ i := by omega
      have g3 : b.Mails[i]? = some b.Mails[i] := List.getElem?_eq_getElem h
      have g5 := wrap_succ h (by omega)
      have ih' := ih (i + 1) h (by omega)
      clear ih
      rw [doneL_succ h, lateL_succ h] at ih'
      have e0 := map_get (f := newM s how bits since b.Mod) h
      have e1 := map_set (f := newM s how bits since b.Mod) h
      have e2 := map_same (f := newM s how bits since b.Mod) h
      have hin := mail_in hk h
      have hXl : ((b.Mails.take i).map (newM s how bits since b.Mod) ++ b.Mails.drop i).length = b.Mails.length := by simp; omega
      generalize hmm : b.Mails[i] = m at *
      generalize hM : (b.Mails.take i).map (newM s how bits since b.Mod) ++ b.Mails.drop i = M at *
      generalize hM' : (b.Mails.take (i + 1)).map (newM s how bits since b.Mod) ++ b.Mails.drop (i + 1) = M' at *
      generalize hDD : doneL (b.Mails.take i) s how bits since = D at *
      generalize hLL : lateL (b.Mails.take i) s since = L at *
      have g4 : (i : Int) < M.length := by omega
      have b1 := setAdd_one (S := D) (u := m.Uid) (by omega) (by omega)
      have b2 := setAdd_one (S := L) (u := m.Uid) (by omega) (by omega)
      have b3 : (setOf D).length ≤ 4194304 := Nat.le_trans (setOf_len D) (by omega)
      have b4 : (setOf L).length ≤ 4194304 := Nat.le_trans (setOf_len L) (by omega)
      have b5 := b1.1
      have b6 := b1.2
      have b7 := b2.1
      have b8 := b2.2
      clear b1 b2
      cases c1 : hasR s m.Uid with
      | false =>
        have q1 : chM s how bits since m = false := by simp [chM, c1]
        have q2 : lateM s since m = false := by simp [lateM, c1]
        have q3 := e2 (by simp [newM, q1])
        rw [q1, q2, ← q3] at ih'
        simp only [Bool.false_eq_true, if_false, List.append_nil] at ih'
        clear e1 e2
        simp only [g1, g2, g3, g4, g5, w1, e0, hXl, hs8, c1, go_sem]
        repeat' ((first | ((first | apply qa | apply qb | apply qc | apply qd | apply qe | apply qf | apply qg | apply qh | apply qi | apply qj | apply qk) <;> intro hp) | ((first | refine ql rfl rfl (by decide +kernel) ?_ | refine qm _ rfl rfl (by decide +kernel) ?_) <;> have hp := True.intro)) <;> simp only [hp, g1, g2, g3, g4, g5, w1, e0, hXl, hs8, c1, go_sem])
        all_goals exact ih'
      | true =>
        by_cases k1 : 0 ≤ since
        · by_cases k2 : since < m.Mod
          · have q1 : chM s how bits since m = false := by simp [chM, c1, k1, k2]
            have q2 : lateM s since m = true := by simp [lateM, c1, k1, k2]
            have q3 := e2 (by simp [newM, q1])
            rw [q1, q2, ← q3] at ih'
            simp only [Bool.false_eq_true, if_false, if_true, List.append_nil, List.map_append, List.map_cons, List.map_nil] at ih'
            clear e1 e2
            simp only [g1, g2, g3, g4, g5, w1, e0, hXl, hs8, c1, k1, k2, b3, b4, b5, b6, b7, b8, go_sem]
            repeat' ((first | ((first | apply qa | apply qb | apply qc | apply qd | apply qe | apply qf | apply qg | apply qh | apply qi | apply qj | apply qk) <;> intro hp) | ((first | refine ql rfl rfl (by decide +kernel) ?_ | refine qm _ rfl rfl (by decide +kernel) ?_) <;> have hp := True.intro)) <;> simp only [hp, g1, g2, g3, g4, g5, w1, e0, hXl, hs8, c1, k1, k2, b3, b4, b5, b6, b7, b8, go_sem])
            all_goals first | exact ih' | (clear ih'; omega)
          · have hno : (decide (0 ≤ since) && decide (since < m.Mod)) = false := by simp [k2]
            have q2 : lateM s since m = false := by simp [lateM, c1, hno]
            rw [q2] at ih'
            cases c3 : (flagsAfter m.Flags how bits != m.Flags) with
            | false =>
              have q1 : chM s how bits since m = false := by simp [chM, c1, hno, c3]
              have q3 := e2 (by simp [newM, q1])
              rw [q1, ← q3] at ih'
              simp only [Bool.false_eq_true, if_false, List.append_nil] at ih'
              clear e1 e2
              simp only [g1, g2, g3, g4, g5, w1, e0, hXl, hs8, c1, c3, k1, k2, go_sem]
              repeat' ((first | ((first | apply qa | apply qb | apply qc | apply qd | apply qe | apply qf | apply qg | apply qh | apply qi | apply qj | apply qk) <;> intro hp) | ((first | refine ql rfl rfl (by decide +kernel) ?_ | refine qm _ rfl rfl (by decide +kernel) ?_) <;> have hp := True.intro)) <;> simp only [hp, g1, g2, g3, g4, g5, w1, e0, hXl, hs8, c1, c3, k1, k2, go_sem])
              all_goals exact ih'
            | true =>
              have q1 : chM s how bits since m = true := by simp only [chM, c1, hno, c3]; rfl
              have q4 : newM s how bits since b.Mod m = ⟨m.Uid, flagsAfter m.Flags how bits, b.Mod + 1, m.Text⟩ := by simp only [newM, q1, if_true]
              rw [q4] at e1
              rw [q1, ← e1] at ih'
              simp only [Bool.false_eq_true, if_false, if_true, List.append_nil, List.map_append, List.map_cons, List.map_nil, List.map_set, Mail.enc, List.append_eq_nil_iff, reduceCtorEq, and_false] at ih'
              clear e1 e2
              generalize hF : flagsAfter m.Flags how bits = F at *
              have hgs : ∀ y : V, ((List.map Mail.enc M).set i y)[i]? = some y := fun y => List.getElem?_set_self (by rw [List.length_map]; omega)
              simp only [g1, g2, g3, g4, g5, w1, e0, hXl, hs8, c1, c3, k1, k2, b3, b4, b5, b6, b7, b8, hF, hgs, List.set_set, go_sem]
              repeat' ((first | ((first | apply qa | apply qb | apply qc | apply qd | apply qe | apply qf | apply qg | apply qh | apply qi | apply qj | apply qk) <;> intro hp) | ((first | refine ql rfl rfl (by decide +kernel) ?_ | refine qm _ rfl rfl (by decide +kernel) ?_) <;> have hp := True.intro)) <;> simp only [hp, g1, g2, g3, g4, g5, w1, e0, hXl, hs8, c1, c3, k1, k2, b3, b4, b5, b6, b7, b8, hF, hgs, List.set_set, go_sem])
              all_goals first | exact ih' | (clear ih'; omega)
        · have hno : (decide (0 ≤ since) && decide (since < m.Mod)) = false := by simp [k1]
          have q2 : lateM s since m = false := by simp [lateM, c1, hno]
          rw [q2] at ih'
          cases c3 : (flagsAfter m.Flags how bits != m.Flags) with
          | false =>
            have q1 : chM s how bits since m = false := by simp [chM, c1, hno, c3]
            have q3 := e2 (by simp [newM, q1])
            rw [q1, ← q3] at ih'
            simp only [Bool.false_eq_true, if_false, List.append_nil] at ih'
            clear e1 e2
            simp only [g1, g2, g3, g4, g5, w1, e0, hXl, hs8, c1, c3, k1, go_sem]
            repeat' ((first | ((first | apply qa | apply qb | apply qc | apply qd | apply qe | apply qf | apply qg | apply qh | apply qi | apply qj | apply qk) <;> intro hp) | ((first | refine ql rfl rfl (by decide +kernel) ?_ | refine qm _ rfl rfl (by decide +kernel) ?_) <;> have hp := True.intro)) <;> simp only [hp, g1, g2, g3, g4, g5, w1, e0, hXl, hs8, c1, c3, k1, go_sem])
            all_goals exact ih'
          | true =>
            have q1 : chM s how bits since m = true := by simp only [chM, c1, hno, c3]; rfl
            have q4 : newM s how bits since b.Mod m = ⟨m.Uid, flagsAfter m.Flags how bits, b.Mod + 1, m.Text⟩ := by simp only [newM, q1, if_true]
            rw [q4] at e1
            rw [q1, ← e1] at ih'
            simp only [Bool.false_eq_true, if_false, if_true, List.append_nil, List.map_append, List.map_cons, List.map_nil, List.map_set, Mail.enc, List.append_eq_nil_iff, reduceCtorEq, and_false] at ih'
            clear e1 e2
            generalize hF : flagsAfter m.Flags how bits = F at *
            have hgs : ∀ y : V, ((List.map Mail.enc M).set i y)[i]? = some y := fun y => List.getElem?_set_self (by rw [List.length_map]; omega)
            simp only [g1, g2, g3, g4, g5, w1, e0, hXl, hs8, c1, c3, k1, b3, b4, b5, b6, b7, b8, hF, hgs, List.set_set, go_sem]
            repeat' ((first | ((first | apply qa | apply qb | apply qc | apply qd | apply qe | apply qf | apply qg | apply qh | apply qi | apply qj | apply qk) <;> intro hp) | ((first | refine ql rfl rfl (by decide +kernel) ?_ | refine qm _ rfl rfl (by decide +kernel) ?_) <;> have hp := True.intro)) <;> simp only [hp, g1, g2, g3, g4, g5, w1, e0, hXl, hs8, c1, c3, k1, b3, b4, b5, b6, b7, b8, hF, hgs, List.set_set, go_sem])
            all_goals first | exact ih' | (clear ih'; omega)
    · have g1 : ¬ (i : Int) < b.Mails.length := by omega
      rw [List.take_of_length_le h] at hD hL ⊢
      rw [List.drop_of_length_le h, List.append_nil]
      have hMl : (b.Mails.map (newM s how bits since b.Mod)).length = b.Mails.length := List.length_map _
      have hle := newM_le hc s how bits since
      have hO : setOut b s how bits since = ⟨b.Name, b.Valid, b.Next, if doneL b.Mails s how bits since = [] then b.Mod else b.Mod + 1, b.Mails.map (newM s how bits since b.Mod), b.Tombs, b.Horizon⟩ := rfl
      have hG : setGood b s how bits since = boxOk (setOut b s how bits since) := by rw [setGood, setIn, hk, hk2, hk3, hk4]; rfl
      simp only [setFlags, setDone, setLate, hG] at hr
      clear hG ih
      rw [hO] at hr
      generalize hMM : b.Mails.map (newM s how bits since b.Mod) = M at *
      generalize hDD : doneL b.Mails s how bits since = D at *
      generalize hLL : lateL b.Mails s since = L at *
      have g2 : ¬ (i : Int) < M.length := by omega
      by_cases hd : D = []
      · rw [if_pos hd] at hr ⊢
        
        cases hB : boxOk ⟨b.Name, b.Valid, b.Next, b.Mod, M, b.Tombs, b.Horizon⟩ with
        | false =>
          rw [hB] at hr
          simp only [Bool.false_eq_true, if_false] at hr
          simp only [g1, g2, hMl, hle, hB, hc, w1, go_sem]
          repeat' ((first | ((first | apply qa | apply qb | apply qc | apply qd | apply qe | apply qf | apply qg | apply qh | apply qi | apply qj | apply qk) <;> intro hp) | ((first | refine ql rfl rfl (by decide +kernel) ?_ | refine qm _ rfl rfl (by decide +kernel) ?_) <;> have hp := True.intro)) <;> simp only [hp, g1, g2, hMl, hle, hB, hc, w1, go_sem])
          all_goals (simp only [fin_mk, finV, resL, resV1, resIn, endA, listIn, Option.some_or, Option.none_or, oneOrTup, go_sem]; rw [← hr])
          all_goals rfl
        | true =>
          rw [hB] at hr
          simp only [if_true] at hr
          
          simp only [g1, g2, hMl, hle, hB, hc, w1, go_sem]
          
          repeat' ((first | ((first | apply qa | apply qb | apply qc | apply qd | apply qe | apply qf | apply qg | apply qh | apply qi | apply qj | apply qk) <;> intro hp) | ((first | refine ql rfl rfl (by decide +kernel) ?_ | refine qm _ rfl rfl (by decide +kernel) ?_) <;> have hp := True.intro)) <;> simp only [hp, g1, g2, hMl, hle, hB, hc, w1, go_sem])
          all_goals (simp only [fin_mk, finV, resL, resV1, resIn, endA, listIn, Option.some_or, Option.none_or, oneOrTup, go_sem]; rw [← hr])
          all_goals rfl
      · rw [if_neg hd] at hr ⊢
        
        cases hB : boxOk ⟨b.Name, b.Valid, b.Next, b.Mod + 1, M, b.Tombs, b.Horizon⟩ with
        | false =>
          rw [hB] at hr
          simp only [Bool.false_eq_true, if_false] at hr
          simp only [g1, g2, hMl, hle, hB, hc, w1, go_sem]
          repeat' ((first | ((first | apply qa | apply qb | apply qc | apply qd | apply qe | apply qf | apply qg | apply qh | apply qi | apply qj | apply qk) <;> intro hp) | ((first | refine ql rfl rfl (by decide +kernel) ?_ | refine qm _ rfl rfl (by decide +kernel) ?_) <;> have hp := True.intro)) <;> simp only [hp, g1, g2, hMl, hle, hB, hc, w1, go_sem])
          all_goals (simp only [fin_mk, finV, resL, resV1, resIn, endA, listIn, Option.some_or, Option.none_or, oneOrTup, go_sem]; rw [← hr])
          all_goals rfl
        | true =>
          rw [hB] at hr
          simp only [if_true] at hr
          
          simp only [g1, g2, hMl, hle, hB, hc, w1, go_sem]
          
          repeat' ((first | ((first | apply qa | apply qb | apply qc | apply qd | apply qe | apply qf | apply qg | apply qh | apply qi | apply qj | apply qk) <;> intro hp) | ((first | refine ql rfl rfl (by decide +kernel) ?_ | refine qm _ rfl rfl (by decide +kernel) ?_) <;> have hp := True.intro)) <;> simp only [hp, g1, g2, hMl, hle, hB, hc, w1, go_sem])
          all_goals (simp only [fin_mk, finV, resL, resV1, resIn, endA, listIn, Option.some_or, Option.none_or, oneOrTup, go_sem]; rw [← hr])
          all_goals rfl
end Go.Proofs.YtghmjnggmacohaaGreatDoor.L

