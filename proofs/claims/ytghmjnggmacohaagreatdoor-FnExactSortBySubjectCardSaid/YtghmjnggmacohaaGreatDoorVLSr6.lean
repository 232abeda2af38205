/- Sorted by subject as the document tells. -/
import Derived.Test.YtghmjnggmacohaaGreatDoorVLSr5
namespace Go.Proofs.YtghmjnggmacohaaGreatDoor.L
open Go Go.VM
set_option maxRecDepth 100000
set_option maxHeartbeats 8000000
set_option linter.unusedSimpArgs false
set_option linter.unusedVariables false
def T_spec_l12Subject : Hints := ⟨lk [], lk [], lk [(0, [1]), (1, [3]), (2, [2])], lk []⟩
noncomputable def Phi_spec_l12Subject : Tab := lk [(55, spHeadOf), (56, spBaseSubject)]
attribute [go_sem] T_spec_l12Subject Phi_spec_l12Subject
theorem phi_spec_l12Subject : ∀ f sp, Phi_spec_l12Subject f = some sp → FnOk Tryz.prog f sp ∧ ∀ n ∈ sp.need, n ∈ (["internal/bytealg.MaxLen"] : List String) := phi_cons ok_spec_HeadOf (fun n (h : n ∈ (["internal/bytealg.MaxLen"] : List String)) => by simp only [List.mem_cons, List.not_mem_nil, or_false] at h; rcases h with rfl <;> simp) (phi_cons ok_spec_BaseSubject (n0 rfl) (phi_nil))
theorem ok_spec_l12Subject : FnOk Tryz.prog 30 spSubjectOf := by
  refine fn_ok (Φ := Phi_spec_l12Subject) (T := T_spec_l12Subject) phi_spec_l12Subject mixed Tryz.func30 rfl rfl rfl (by decide) ?_
  intro ins r outs hr hl
  clear hl
  have hs := spSubjectOf_in hr
  clear hr
  obtain ⟨m, rfl, hc, hr, rfl⟩ := hs
  simp only [spSubjectOf, Tryz.f30, Go.VM.initS]
  have hT : m.Text.length ≤ 4194304 := hc
  have h1 := headOf_len m.Text [115, 117, 98, 106, 101, 99, 116]
  have h2 : (headOf m.Text [115, 117, 98, 106, 101, 99, 116]).1.length ≤ 1099511627776 := by omega
  simp only [hT, h2, go_sem]
  repeat' ((first | apply qa | apply qb | apply qc | apply qd | apply qe | apply qf | apply qg | apply qh | apply qi | apply qj | apply qk) <;> intro hp <;> simp only [hp, hT, h2, go_sem])
  simp only [fin_mk, finV, resL, resV1, resIn, endA, listIn, Option.some_or, Option.none_or, oneOrTup, go_sem]
  rw [← hr]
  rfl
theorem gt_lt (a b : List UInt8) : (!(Op.bytesLess a b || a == b)) = Op.bytesLess b a := by
  cases k : Op.bytesLess b a with
  | true =>
    have h1 := less_no k
    have h2 : (a == b) = false := by
      rw [beq_eq_false_iff_ne]; rintro rfl; rw [less_self] at k; cases k
    rw [h1, h2]; rfl
  | false =>
    cases k2 : Op.bytesLess a b with
    | true => rfl
    | false =>
      have := less_eq k k2
      subst this
      rw [beq_self_eq_true]; rfl
theorem app_mid (A B : List V) (x : V) : A ++ x :: B = A ++ [x] ++ B := by simp
theorem sortI_snoc (L : List Mail) (x : Mail) : SM.sortI ltS (L ++ [x]) = SM.insM ltS (SM.sortI ltS L) x := by
  rw [SM.sortI, List.foldl_append]; rfl
theorem sortI_any {b : Box} (h : boxOk b = true) (s : List Range) (i : Nat) : (SM.sortI ltS ((b.Mails.take i).filter (fun m => hasR s m.Uid))).length ≤ 30 := by
  have hp : (b.Mails.filter (fun m => hasR s m.Uid)).Pairwise fun x y => x.Uid < y.Uid := by
    have := (filter_asc h (fun m => hasR s m.Uid)).1
    rw [List.pairwise_map] at this
    exact this
  have hs : ((b.Mails.take i).filter (fun m => hasR s m.Uid)).Sublist (b.Mails.filter (fun m => hasR s m.Uid)) := (List.take_sublist _ _).filter _
  rw [(SM.sortI_ok ordS (hp.sublist hs)).1.length_eq]
  exact Nat.le_trans hs.length_le (Nat.le_trans (List.length_filter_le _ _) (boxOk_parts h).2.1)
def T_spec_SortBySubject : Hints := ⟨lk [(13, [(0, 3), (0, 5), (4, 5), (0, 6), (4, 6), (0, 8), (4, 8), (0, 9), (4, 9), (0, 10), (4, 10), (0, 11), (3, 11), (4, 11), (0, 15), (4, 15), (11, 15), (12, 15)]), (14, [(0, 3), (0, 6), (3, 6), (4, 6), (0, 10), (4, 10), (6, 10), (7, 10)])], lk [(6, [1, 2, 5, 6, 7]), (11, [1, 2, 5, 6, 7, 8, 9])], lk [(0, [1, 2]), (1, [1, 2, 5]), (2, [1, 2, 5, 6]), (3, [1, 2, 5, 6, 14]), (4, [4]), (5, [1, 2, 5, 6, 7]), (6, [1, 2, 5, 6, 7, 20]), (8, [1, 2, 5, 6, 7, 31]), (9, [1, 2, 5, 6, 7, 8]), (10, [1, 2, 5, 6, 7, 8, 9]), (11, [1, 2, 5, 6, 7, 8, 9, 50]), (12, [1, 2, 5, 6, 7, 8, 9]), (13, [1, 2, 5, 6, 7, 8, 9]), (14, [1, 2, 5, 6, 7]), (7, [1, 2, 5, 6, 7]), (15, [4])], lk []⟩
noncomputable def Phi_spec_SortBySubject : Tab := lk [(28, spBoxOk), (29, spSetHas), (30, spSubjectOf)]
attribute [go_sem] T_spec_SortBySubject Phi_spec_SortBySubject
theorem phi_spec_SortBySubject : ∀ f sp, Phi_spec_SortBySubject f = some sp → FnOk Tryz.prog f sp ∧ ∀ n ∈ sp.need, n ∈ (["internal/bytealg.MaxLen"] : List String) := phi_cons ok_spec_BoxOk (n0 rfl) (phi_cons ok_spec_SetHas (n0 rfl) (phi_cons ok_spec_l12Subject (fun n (h : n ∈ (["internal/bytealg.MaxLen"] : List String)) => by simp only [List.mem_cons, List.not_mem_nil, or_false] at h; rcases h with rfl <;> simp) (phi_nil)))
theorem ok_spec_SortBySubject : FnOk Tryz.prog 7 spSortBy := by
  refine fn_ok (Φ := Phi_spec_SortBySubject) (T := T_spec_SortBySubject) phi_spec_SortBySubject mixed Tryz.func7 rfl rfl rfl (by decide) ?_
  intro ins r outs hr hl
  clear hl
  have hs := spSortBy_in hr
  clear hr
  obtain ⟨b, s, rfl, hc, hr, rfl⟩ := hs
  simp only [spSortBy, Tryz.f7, Go.VM.initS]
  obtain ⟨hc, hs⟩ := hc
  cases hk : boxOk b with
  | false =>
    simp only [hc, hs, hk, go_sem]
    repeat' ((first | ((first | apply qa | apply qb | apply qc | apply qd | apply qe | apply qf | apply qg | apply qh | apply qi | apply qj | apply qk) <;> intro hp) | ((first | refine ql rfl rfl (by decide +kernel) ?_ | refine qm _ rfl rfl (by decide +kernel) ?_) <;> have hp := True.intro)) <;> simp only [hp, hc, hs, hk, go_sem])
    all_goals (simp only [fin_mk, finV, resL, resV1, resIn, endA, listIn, Option.some_or, Option.none_or, oneOrTup, go_sem]; rw [← hr])
    all_goals (rw [sortBy, mailsIn, hk, if_neg (by simp)]; rfl)
  | true =>
    have hml : b.Mails.length ≤ 30 := (boxOk_parts hk).2.1
    rw [sortBy, mailsIn, hk, if_pos rfl] at hr
    have hs8 : s.length ≤ 8388608 := by omega
    simp only [hc, hs, hk, go_sem]
    repeat' ((first | ((first | apply qa | apply qb | apply qc | apply qd | apply qe | apply qf | apply qg | apply qh | apply qi | apply qj | apply qk) <;> intro hp) | ((first | refine ql rfl rfl (by decide +kernel) ?_ | refine qm _ rfl rfl (by decide +kernel) ?_) <;> have hp := True.intro)) <;> simp only [hp, hc, hs, hk, go_sem])
    refine loop_go (fun i : Nat => [(7, .int .i64 (i : Int))]) (fun i => [(1, ⟨.arr, 1, ((SM.sortI ltS ((b.Mails.take i).filter (fun m => hasR s m.Uid))).map (·.Uid)).map eInt⟩), (2, ⟨.arr, 1, ((SM.sortI ltS ((b.Mails.take i).filter (fun m => hasR s m.Uid))).map subjectOf).map eStr⟩)]) (fun i => b.Mails.length - i) (fun i => i ≤ b.Mails.length) 0 (Nat.zero_le _) rfl rfl ?_
    intro i hi ih
    have hD := sortI_any hk s i
    rcases Nat.lt_or_ge i b.Mails.length with h | h
    · have g1 : (i : Int) < b.Mails.length := by omega
      have g2 : (0 : Int) ≤ i := by omega
      have g3 : b.Mails[i]? = some b.Mails[i] := List.getElem?_eq_getElem h
      have g5 := wrap_succ h (by omega)
      have gm : Mail.le 4194304 b.Mails[i] := hc.2.1.2 _ (List.getElem_mem h)
      have ih' := ih (i + 1) h (by omega)
      clear ih
      rw [filter_succ h] at ih'
      generalize hmm : b.Mails[i] = m at *
      generalize hDD : (b.Mails.take i).filter (fun m => hasR s m.Uid) = D at *
      cases hA : hasR s m.Uid with
      | false =>
        simp only [hA, Bool.false_eq_true, if_false, List.append_nil] at ih'
        simp only [g1, g2, g3, g5, hA, hs8, go_sem]
        repeat' ((first | ((first | apply qa | apply qb | apply qc | apply qd | apply qe | apply qf | apply qg | apply qh | apply qi | apply qj | apply qk) <;> intro hp) | ((first | refine ql rfl rfl (by decide +kernel) ?_ | refine qm _ rfl rfl (by decide +kernel) ?_) <;> have hp := True.intro)) <;> simp only [hp, g1, g2, g3, g5, hA, hs8, go_sem])
        all_goals exact ih'
      | true =>
        rw [hA, if_pos rfl, sortI_snoc] at ih'
        generalize hM : SM.sortI ltS D = M at *
        simp only [g1, g2, g3, g5, hA, hs8, gm, go_sem]
        repeat' ((first | ((first | apply qa | apply qb | apply qc | apply qd | apply qe | apply qf | apply qg | apply qh | apply qi | apply qj | apply qk) <;> intro hp) | ((first | refine ql rfl rfl (by decide +kernel) ?_ | refine qm _ rfl rfl (by decide +kernel) ?_) <;> have hp := True.intro)) <;> simp only [hp, g1, g2, g3, g5, hA, hs8, gm, go_sem])
        refine loop_go (fun k : Nat => [(9, .int .i64 (k : Int))]) (fun k => []) (fun k => k) (fun k => k ≤ M.length ∧ SM.posD ltS M m k = SM.posD ltS M m M.length) M.length ⟨Nat.le_refl _, rfl⟩ rfl rfl ?_
        intro k ⟨hk1, hk2⟩ ih2
        by_cases k0 : k = 0
        · have e0 : ¬ (0 : Int) < k := by omega
          have hp : SM.posD ltS M m M.length = k := by rw [← hk2, k0]; rfl
          rw [SM.insM, hp] at ih'
          clear ih2
          have z1 : (0 : Int) ≤ k := by omega
          have z2 : (k : Int) ≤ M.length := by omega
          have z3 : k ≤ M.length := hk1
          have z4 : M.length ≤ 30 := hD
          have z5 : k + (M.length - k) ≤ M.length := by omega
          have z6 : min k M.length = k := by omega
          have z7 : (M.drop k).take (M.length - k) = M.drop k := List.take_of_length_le (by rw [List.length_drop]; omega)
          simp only [List.map_append, List.map_cons, eInt, eStr] at ih'
          rw [app_mid _ _ (V.int .i64 m.Uid), app_mid _ _ (V.str (subjectOf m))] at ih'
          simp only [g1, g2, g3, g5, z1, z2, z3, hD, List.length_map, List.length_append, Nat.sub_zero, and_self, z5, z6, z7, List.length_take, List.length_drop, List.length_cons, List.length_nil, List.map_append, e0, go_sem]
          repeat' ((first | ((first | apply qa | apply qb | apply qc | apply qd | apply qe | apply qf | apply qg | apply qh | apply qi | apply qj | apply qk) <;> intro hp) | ((first | refine ql rfl rfl (by decide +kernel) ?_ | refine qm _ rfl rfl (by decide +kernel) ?_) <;> have hp := True.intro)) <;> simp only [hp, g1, g2, g3, g5, z1, z2, z3, hD, List.length_map, List.length_append, Nat.sub_zero, and_self, z5, z6, z7, List.length_take, List.length_drop, List.length_cons, List.length_nil, List.map_append, e0, go_sem])
          all_goals first | exact ih' | (clear ih'; omega)
        · obtain ⟨k', hk'⟩ : ∃ k', k = k' + 1 := ⟨k - 1, by omega⟩
          have e0 : (0 : Int) < k := by omega
          have e1 : IntKind.i64.wrap ((k : Int) - 1) = (k' : Int) := (wrap64 (by omega) (by omega)).trans (by omega)
          have e2 : (0 : Int) ≤ k' := by omega
          have e3 : (k' : Int) < M.length := by omega
          have e4 : M[k']? = some M[k'] := List.getElem?_eq_getElem (by omega)
          rw [hk', SM.posD, e4, Option.map_some] at hk2
          have f1 := gt_lt (subjectOf M[k']) (subjectOf m)
          cases hlt : ltS m M[k'] with
          | true =>
            rw [show Op.bytesLess (subjectOf m) (subjectOf M[k']) = true from hlt] at f1
            simp only [Bool.not_eq_true', Bool.or_eq_false_iff] at f1
            obtain ⟨f1, f2⟩ := f1
            rw [hlt, if_pos rfl] at hk2
            have ih3 := ih2 k' ⟨by omega, hk2⟩ (by omega)
            clear ih2 ih'
            simp only [e0, e1, e2, e3, e4, f1, f2, Bool.or_false, Bool.not_false, go_sem]
            repeat' ((first | ((first | apply qa | apply qb | apply qc | apply qd | apply qe | apply qf | apply qg | apply qh | apply qi | apply qj | apply qk) <;> intro hp) | ((first | refine ql rfl rfl (by decide +kernel) ?_ | refine qm _ rfl rfl (by decide +kernel) ?_) <;> have hp := True.intro)) <;> simp only [hp, e0, e1, e2, e3, e4, f1, f2, Bool.or_false, Bool.not_false, go_sem])
            exact ih3
          | false =>
            rw [show Op.bytesLess (subjectOf m) (subjectOf M[k']) = false from hlt] at f1
            rw [hlt, if_neg (by simp), ← hk'] at hk2
            have hp : SM.posD ltS M m M.length = k := hk2.symm
            have f3 : Op.bytesLess (subjectOf M[k']) (subjectOf m) = true ∨ (Op.bytesLess (subjectOf M[k']) (subjectOf m) = false ∧ (subjectOf M[k'] == subjectOf m) = true) := by
              cases q : Op.bytesLess (subjectOf M[k']) (subjectOf m) with
              | true => exact .inl rfl
              | false =>
                rw [q] at f1
                exact .inr ⟨rfl, by simpa using f1⟩
            rcases f3 with f3 | ⟨f3, f4⟩
            · rw [SM.insM, hp] at ih'
              clear ih2
              have z1 : (0 : Int) ≤ k := by omega
              have z2 : (k : Int) ≤ M.length := by omega
              have z3 : k ≤ M.length := hk1
              have z4 : M.length ≤ 30 := hD
              have z5 : k + (M.length - k) ≤ M.length := by omega
              have z6 : min k M.length = k := by omega
              have z7 : (M.drop k).take (M.length - k) = M.drop k := List.take_of_length_le (by rw [List.length_drop]; omega)
              simp only [List.map_append, List.map_cons, eInt, eStr] at ih'
              rw [app_mid _ _ (V.int .i64 m.Uid), app_mid _ _ (V.str (subjectOf m))] at ih'
              simp only [g1, g2, g3, g5, z1, z2, z3, hD, List.length_map, List.length_append, Nat.sub_zero, and_self, z5, z6, z7, List.length_take, List.length_drop, List.length_cons, List.length_nil, List.map_append, e0, e1, e2, e3, e4, f3, Bool.true_or, Bool.not_true, go_sem]
              repeat' ((first | ((first | apply qa | apply qb | apply qc | apply qd | apply qe | apply qf | apply qg | apply qh | apply qi | apply qj | apply qk) <;> intro hp) | ((first | refine ql rfl rfl (by decide +kernel) ?_ | refine qm _ rfl rfl (by decide +kernel) ?_) <;> have hp := True.intro)) <;> simp only [hp, g1, g2, g3, g5, z1, z2, z3, hD, List.length_map, List.length_append, Nat.sub_zero, and_self, z5, z6, z7, List.length_take, List.length_drop, List.length_cons, List.length_nil, List.map_append, e0, e1, e2, e3, e4, f3, Bool.true_or, Bool.not_true, go_sem])
              all_goals first | exact ih' | (clear ih'; omega)
            · rw [SM.insM, hp] at ih'
              clear ih2
              have z1 : (0 : Int) ≤ k := by omega
              have z2 : (k : Int) ≤ M.length := by omega
              have z3 : k ≤ M.length := hk1
              have z4 : M.length ≤ 30 := hD
              have z5 : k + (M.length - k) ≤ M.length := by omega
              have z6 : min k M.length = k := by omega
              have z7 : (M.drop k).take (M.length - k) = M.drop k := List.take_of_length_le (by rw [List.length_drop]; omega)
              simp only [List.map_append, List.map_cons, eInt, eStr] at ih'
              rw [app_mid _ _ (V.int .i64 m.Uid), app_mid _ _ (V.str (subjectOf m))] at ih'
              simp only [g1, g2, g3, g5, z1, z2, z3, hD, List.length_map, List.length_append, Nat.sub_zero, and_self, z5, z6, z7, List.length_take, List.length_drop, List.length_cons, List.length_nil, List.map_append, e0, e1, e2, e3, e4, f3, f4, Bool.false_or, Bool.not_true, go_sem]
              repeat' ((first | ((first | apply qa | apply qb | apply qc | apply qd | apply qe | apply qf | apply qg | apply qh | apply qi | apply qj | apply qk) <;> intro hp) | ((first | refine ql rfl rfl (by decide +kernel) ?_ | refine qm _ rfl rfl (by decide +kernel) ?_) <;> have hp := True.intro)) <;> simp only [hp, g1, g2, g3, g5, z1, z2, z3, hD, List.length_map, List.length_append, Nat.sub_zero, and_self, z5, z6, z7, List.length_take, List.length_drop, List.length_cons, List.length_nil, List.map_append, e0, e1, e2, e3, e4, f3, f4, Bool.false_or, Bool.not_true, go_sem])
              all_goals first | exact ih' | (clear ih'; omega)
    · have g1 : ¬ (i : Int) < b.Mails.length := by omega
      rw [List.take_of_length_le h]
      simp only [g1, go_sem]
      repeat' ((first | ((first | apply qa | apply qb | apply qc | apply qd | apply qe | apply qf | apply qg | apply qh | apply qi | apply qj | apply qk) <;> intro hp) | ((first | refine ql rfl rfl (by decide +kernel) ?_ | refine qm _ rfl rfl (by decide +kernel) ?_) <;> have hp := True.intro)) <;> simp only [hp, g1, go_sem])
      all_goals (simp only [fin_mk, finV, resL, resV1, resIn, endA, listIn, Option.some_or, Option.none_or, oneOrTup, go_sem]; rw [← hr])
end Go.Proofs.YtghmjnggmacohaaGreatDoor.L
