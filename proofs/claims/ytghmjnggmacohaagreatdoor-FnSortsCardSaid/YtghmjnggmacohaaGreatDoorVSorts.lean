/- The law FnSorts: mails of a drawn box that are sorted are all of them, by subject; put together they are all of them, each with its like. No condition. -/
import Derived.Test.YtghmjnggmacohaaGreatDoorVLSF


import Derived.Test.YtghmjnggmacohaaGreatDoorVLAb
import Derived.Test.YtghmjnggmacohaaGreatDoorVLSame
import Derived.Test.YtghmjnggmacohaaGreatDoorVmDoor
import Derived.Test.YtghmjnggmacohaaGreatDoorTie
import Derived.Test.YtghmjnggmacohaaGreatDoorCards
import Derived.Test.YtghmjnggmacohaaGreatDoorRows
import Derived.KernelRfl
namespace Go.Proofs.YtghmjnggmacohaaGreatDoor.VSorts
open Go Go.VM Go.Proofs.YtghmjnggmacohaaGreatDoor.L
set_option maxRecDepth 100000
set_option maxHeartbeats 8000000
set_option linter.unusedSimpArgs false
set_option linter.unusedVariables false
theorem wf_u8 {P : Program} {n : Nat} {t : TypeId} {v : V} (hu : P.underlying t = some (.int .u8)) (h : WfV P (n + 1) t v) : ∃ m, v = .int .u8 m := by
  unfold WfV at h
  rw [hu] at h
  cases v <;> try exact h.elim
  obtain ⟨rfl, h1, h2⟩ := h
  exact ⟨_, rfl⟩
open Classical in
noncomputable def spBig : VM.Spec := { modes := [.rd], run := fun | [.lst 1 code'] => (decL dU8 code').bind fun code => if code.length ≤ 4611686018427387904 then some (.bool (decide (1048576 < code.length)), []) else none | _ => none, need := [] }
attribute [go_sem] spBig
theorem spBig_in {ins : List V} {r : V} {outs : List V} (h : spBig.run ins = some (r, outs)) : ∃ (code : (List Int)), ins = [.lst 1 ((code).map eU8)] ∧ (code.length ≤ 4611686018427387904) ∧ .bool (decide (1048576 < code.length)) = r ∧ outs = [] := by
  unfold spBig at h
  simp only at h
  split at h
  · rename_i code'
    simp only [Option.bind_eq_some_iff] at h
    obtain ⟨code, h_code, h⟩ := h
    split at h
    case isFalse => cases h
    rename_i hc
    simp only [Option.some.injEq, Prod.mk.injEq] at h
    obtain ⟨h1, h2⟩ := h
    have h_code := decL_some (fun _ _ h => dU8_some h) h_code
    subst h_code
    exact ⟨code, rfl, hc, h1, h2.symm⟩
  · cases h
def T_laws_big : Hints := ⟨lk [], lk [], lk [(0, [0]), (1, [2])], lk [], lf []⟩
noncomputable def Phi_laws_big : Tab := lk []
attribute [go_sem] T_laws_big Phi_laws_big
theorem phi_laws_big : ∀ f sp, Phi_laws_big f = some sp → FnOk Tryz.prog f sp ∧ ∀ n ∈ sp.need, n ∈ ([] : List String) := phi_nil
theorem ok_laws_big : FnOk Tryz.prog 18 spBig := by
  refine fn_ok (Φ := Phi_laws_big) (T := T_laws_big) phi_laws_big mixed Tryz.func18 rfl rfl rfl (by decide) ?_
  intro ins r outs hr hl
  clear hl
  have hs := spBig_in hr
  clear hr
  obtain ⟨code, rfl, hc, hr, rfl⟩ := hs
  simp only [spBig, Tryz.f18, Go.VM.initS]
  have e : decide ((1048576 : Int) < (code.length : Int)) = decide (1048576 < code.length) := by rw [Bool.eq_iff_iff]; simp; omega
  simp only [e, go_sem]
  repeat' ((first | apply qa | apply qb | apply qc | apply qd | apply qe | apply qf | apply qg | apply qh | apply qi | apply qj | apply qk) <;> intro hp <;> simp only [hp, e, go_sem])
  simp only [fin_mk, finV, resL, resV1, resIn, endA, listIn, Option.some_or, Option.none_or, oneOrTup, go_sem]
  rw [← hr]
open Classical in
noncomputable def spAllR : VM.Spec := { modes := [], run := fun | [] => some (.lst 2 (([⟨1, 9999⟩]).map Range.enc), []) | _ => none, need := [] }
attribute [go_sem] spAllR
theorem spAllR_in {ins : List V} {r : V} {outs : List V} (h : spAllR.run ins = some (r, outs)) : ins = [] ∧ .lst 2 (([⟨1, 9999⟩]).map Range.enc) = r ∧ outs = [] := by
  unfold spAllR at h
  simp only at h
  split at h
  · simp only [Option.some.injEq, Prod.mk.injEq] at h
    obtain ⟨h1, h2⟩ := h
    exact ⟨rfl, h1, h2.symm⟩
  · cases h
def T_laws_all : Hints := ⟨lk [], lk [], lk [(0, []), (1, [0])], lk [], lf []⟩
noncomputable def Phi_laws_all : Tab := lk []
attribute [go_sem] T_laws_all Phi_laws_all
theorem phi_laws_all : ∀ f sp, Phi_laws_all f = some sp → FnOk Tryz.prog f sp ∧ ∀ n ∈ sp.need, n ∈ ([] : List String) := phi_nil
theorem ok_laws_all : FnOk Tryz.prog 20 spAllR := by
  refine fn_ok (Φ := Phi_laws_all) (T := T_laws_all) phi_laws_all mixed Tryz.func20 rfl rfl rfl (by decide) ?_
  intro ins r outs hr hl
  clear hl
  have hs := spAllR_in hr
  clear hr
  obtain ⟨rfl, hr, rfl⟩ := hs
  simp only [spAllR, Tryz.f20, Go.VM.initS]
  simp only [go_sem]
  repeat' ((first | apply qa | apply qb | apply qc | apply qd | apply qe | apply qf | apply qg | apply qh | apply qi | apply qj | apply qk) <;> intro hp <;> simp only [hp, go_sem])
  simp only [fin_mk, finV, resL, resV1, resIn, endA, listIn, Option.some_or, Option.none_or, oneOrTup, go_sem]
  rw [← hr]
  rfl
open Classical in
noncomputable def spIn : VM.Spec := { modes := [.rd, .rd], run := fun | [.lst 1 l', .int .i64 x] => (decL dInt l').bind fun l => if l.length ≤ 4194304 then some (.bool (decide (x ∈ l)), []) else none | _ => none, need := [] }
attribute [go_sem] spIn
theorem spIn_in {ins : List V} {r : V} {outs : List V} (h : spIn.run ins = some (r, outs)) : ∃ (l : (List Int)) (x : Int), ins = [.lst 1 ((l).map eInt), .int .i64 x] ∧ (l.length ≤ 4194304) ∧ .bool (decide (x ∈ l)) = r ∧ outs = [] := by
  unfold spIn at h
  simp only at h
  split at h
  · rename_i l' x
    simp only [Option.bind_eq_some_iff] at h
    obtain ⟨l, h_l, h⟩ := h
    split at h
    case isFalse => cases h
    rename_i hc
    simp only [Option.some.injEq, Prod.mk.injEq] at h
    obtain ⟨h1, h2⟩ := h
    have h_l := decL_some (fun _ _ h => dInt_some h) h_l
    subst h_l
    exact ⟨l, x, rfl, hc, h1, h2.symm⟩
  · cases h
def T_laws_in : Hints := ⟨lk [], lk [(2, [0, 1, 5])], lk [(0, [0, 1]), (1, [0, 1, 5]), (2, [0, 1, 5, 9]), (4, [0, 1, 5, 17]), (5, [4]), (3, [0, 1, 5]), (6, [4])], lk [], lf []⟩
noncomputable def Phi_laws_in : Tab := lk []
attribute [go_sem] T_laws_in Phi_laws_in
theorem phi_laws_in : ∀ f sp, Phi_laws_in f = some sp → FnOk Tryz.prog f sp ∧ ∀ n ∈ sp.need, n ∈ ([] : List String) := phi_nil
theorem ok_laws_in : FnOk Tryz.prog 22 spIn := by
  refine fn_ok (Φ := Phi_laws_in) (T := T_laws_in) phi_laws_in mixed Tryz.func22 rfl rfl rfl (by decide) ?_
  intro ins r outs hr hl
  clear hl
  have hs := spIn_in hr
  clear hr
  obtain ⟨l, x, rfl, hc, hr, rfl⟩ := hs
  simp only [spIn, Tryz.f22, Go.VM.initS]
  simp only [go_sem]
  refine loop_go (fun i : Nat => [(5, .int .i64 (i : Int))]) (fun _ => []) (fun i => l.length - i) (fun i => i ≤ l.length ∧ x ∉ l.take i) 0 ⟨Nat.zero_le _, by simp⟩ rfl rfl ?_
  intro i ⟨hi, he⟩ ih
  rcases Nat.lt_or_ge i l.length with h | h
  · have g1 : (i : Int) < l.length := by omega
    have g2 : (0 : Int) ≤ i := by omega
    have g3 : l[i]? = some l[i] := List.getElem?_eq_getElem h
    have g5 := wrap_succ h (by omega)
    cases hv : (l[i] == x) with
    | true =>
      have hm : x ∈ l := by rw [← eq_of_beq hv]; exact List.getElem_mem h
      clear ih
      simp only [g1, g2, g3, g5, hv, go_sem]
      repeat' ((first | apply qa | apply qb | apply qc | apply qd | apply qe | apply qf | apply qg | apply qh | apply qi | apply qj | apply qk) <;> intro hp <;> simp only [hp, g1, g2, g3, g5, hv, go_sem])
      simp only [fin_mk, finV, resL, resV1, resIn, endA, listIn, Option.some_or, Option.none_or, oneOrTup, go_sem]
      rw [← hr]
      simp only [hm, decide_true]
    | false =>
      have ih' := ih (i + 1) ⟨h, by
        rw [List.take_add_one, g3]
        intro k
        rcases List.mem_append.1 k with k | k
        · exact he k
        · simp only [Option.toList_some, List.mem_singleton] at k
          rw [k, beq_self_eq_true] at hv; cases hv⟩ (by omega)
      clear ih
      simp only [g1, g2, g3, g5, hv, go_sem]
      repeat' ((first | apply qa | apply qb | apply qc | apply qd | apply qe | apply qf | apply qg | apply qh | apply qi | apply qj | apply qk) <;> intro hp <;> simp only [hp, g1, g2, g3, g5, hv, go_sem])
      exact ih'
  · have g1 : ¬ (i : Int) < l.length := by omega
    rw [List.take_of_length_le h] at he
    clear ih
    simp only [g1, go_sem]
    repeat' ((first | apply qa | apply qb | apply qc | apply qd | apply qe | apply qf | apply qg | apply qh | apply qi | apply qj | apply qk) <;> intro hp <;> simp only [hp, g1, go_sem])
    simp only [fin_mk, finV, resL, resV1, resIn, endA, listIn, Option.some_or, Option.none_or, oneOrTup, go_sem]
    rw [← hr]
    simp only [he, decide_false]
theorem drawSo_in {code : List Int} (h : code.length ≤ 4194304) : (drawSo code).1.le 4194304 ∧ (drawSo code).2.length ≤ 4194304 := by
  have h1 := anyS_in (cur0_in h)
  have h2 := belO_in (n := 2) h1.2
  have h3 := anyB_in h2.1
  unfold drawSo
  split
  · exact ⟨h3.1, by simp⟩
  · exact ⟨h3.1, Nat.le_trans h1.1 (by decide)⟩
open Classical in
noncomputable def spLaw : VM.Spec := { modes := [.rd], run := fun | [.lst 1 code'] => (decL dU8 code').bind fun code => if code.length ≤ 4611686018427387904 then some (.bool true, []) else none | _ => none, need := ["internal/bytealg.MaxLen"] }
attribute [go_sem] spLaw
theorem spLaw_in {ins : List V} {r : V} {outs : List V} (h : spLaw.run ins = some (r, outs)) : ∃ (code : (List Int)), ins = [.lst 1 ((code).map eU8)] ∧ (code.length ≤ 4611686018427387904) ∧ .bool true = r ∧ outs = [] := by
  unfold spLaw at h
  simp only at h
  split at h
  · rename_i code'
    simp only [Option.bind_eq_some_iff] at h
    obtain ⟨code, h_code, h⟩ := h
    split at h
    case isFalse => cases h
    rename_i hc
    simp only [Option.some.injEq, Prod.mk.injEq] at h
    obtain ⟨h1, h2⟩ := h
    have h_code := decL_some (fun _ _ h => dU8_some h) h_code
    subst h_code
    exact ⟨code, rfl, hc, h1, h2.symm⟩
  · cases h
def T_laws_FnSorts : Hints := ⟨lk [(4, [(0, 1)]), (5, [(0, 1)]), (11, []), (16, []), (31, []), (33, [(13, 14), (21, 22)])], lk [(8, [0, 3, 4, 5, 6, 7]), (14, [0, 3, 4, 5, 6, 7, 8]), (19, [0, 3, 4, 6, 9]), (29, [3, 4, 6, 10, 11, 12, 13, 14])], lk [(0, [0]), (1, [0, 16]), (2, [2]), (3, [0, 3]), (4, [0, 3, 4]), (5, [0, 3, 4, 5]), (6, [0, 3, 4, 5, 6]), (7, [0, 3, 4, 5, 6, 7]), (8, [0, 3, 4, 5, 6, 7, 28]), (10, [0, 3, 4, 5, 6, 7]), (11, [0, 3, 4, 5, 6, 7, 63]), (12, [2]), (13, [0, 3, 4, 5, 6, 7, 8]), (14, [0, 3, 4, 5, 6, 7, 8, 70]), (16, [0, 3, 4, 5, 6, 7, 8, 88]), (17, [2]), (15, [0, 3, 4, 5, 6, 7, 8]), (9, [0, 3, 4, 5, 6, 7]), (18, [0, 3, 4, 6, 9]), (19, [0, 3, 4, 6, 9, 93]), (21, [0, 3, 4, 6, 9, 104]), (22, [2]), (20, [0, 3, 4, 6, 9]), (23, [3, 4, 6, 10, 11]), (24, [3, 4, 6, 10, 11, 12]), (25, [3, 4, 6, 10, 11, 12, 13]), (26, [3, 4, 6, 10, 11, 12, 13, 120]), (27, [2]), (28, [3, 4, 6, 10, 11, 12, 13, 14]), (29, [3, 4, 6, 10, 11, 12, 13, 14, 124]), (31, [3, 4, 6, 10, 11, 12, 13, 14, 136]), (32, [2]), (30, [3, 4, 6, 10, 11, 12, 13, 14]), (33, [2])], lk [], lf [(8, [5]), (29, [12,13])]⟩
noncomputable def Phi_laws_FnSorts : Tab := lk [(18, spBig), (19, spDrawBox), (20, spAllR), (10, spSortBy), (21, spThreads), (22, spIn), (23, spDrawSo), (24, spThreads), (25, spSameInts), (7, spSortBy)]
attribute [go_sem] T_laws_FnSorts Phi_laws_FnSorts
theorem phi_laws_FnSorts : ∀ f sp, Phi_laws_FnSorts f = some sp → FnOk Tryz.prog f sp ∧ ∀ n ∈ sp.need, n ∈ (["internal/bytealg.MaxLen"] : List String) := phi_cons ok_laws_big (n0 rfl) (phi_cons ok_spec_DrawBox (n0 rfl) (phi_cons ok_laws_all (n0 rfl) (phi_cons ok_impl_SortBySubject (fun n (h : n ∈ (["internal/bytealg.MaxLen"] : List String)) => by simp only [List.mem_cons, List.not_mem_nil, or_false] at h; rcases h with rfl <;> simp) (phi_cons ok_impl_Threads (fun n (h : n ∈ (["internal/bytealg.MaxLen"] : List String)) => by simp only [List.mem_cons, List.not_mem_nil, or_false] at h; rcases h with rfl <;> simp) (phi_cons ok_laws_in (n0 rfl) (phi_cons ok_spec_DrawSortBySubject (n0 rfl) (phi_cons ok_spec_Threads (fun n (h : n ∈ (["internal/bytealg.MaxLen"] : List String)) => by simp only [List.mem_cons, List.not_mem_nil, or_false] at h; rcases h with rfl <;> simp) (phi_cons ok_laws_sameInts (n0 rfl) (phi_cons ok_spec_SortBySubject (fun n (h : n ∈ (["internal/bytealg.MaxLen"] : List String)) => by simp only [List.mem_cons, List.not_mem_nil, or_false] at h; rcases h with rfl <;> simp) (phi_nil))))))))))
theorem ok_laws_FnSorts : FnOk Tryz.prog 4 spLaw := by
  refine fn_okG (Φ := Phi_laws_FnSorts) (T := T_laws_FnSorts) phi_laws_FnSorts mixed Tryz.func4 rfl rfl rfl (by decide) ?_ (.inr ⟨rfl, fun _ _ _ h => by obtain ⟨_, _, _, rfl, _⟩ := spLaw_in h; rfl⟩)
  intro ins r outs hr hl
  clear hl
  have hs := spLaw_in hr
  clear hr
  obtain ⟨code, rfl, hc, hr, rfl⟩ := hs
  simp only [spLaw, Tryz.f4, Go.VM.initS]
  by_cases hb : 1048576 < code.length
  · simp only [hc, hb, go_sem]
    repeat' ((first | ((first | apply qa | apply qb | apply qc | apply qd | apply qe | apply qf | apply qg | apply qh | apply qi | apply qj | apply qk) <;> intro hp) | ((first | refine ql rfl rfl (by decide +kernel) ?_ | refine qm _ rfl rfl (by decide +kernel) ?_) <;> have hp := True.intro)) <;> simp only [hp, hc, hb, go_sem])
    simp only [fin_mk, finV, resL, resV1, resIn, endA, listIn, Option.some_or, Option.none_or, oneOrTup, go_sem]
    rw [← hr]
  have hc4 : code.length ≤ 4194304 := by omega
  have i0 := cur0_in hc4
  have iB := (box8_in i0).1
  obtain ⟨B, hB⟩ : ∃ B, (box8 (cur0 code)).1 = B := ⟨_, rfl⟩
  rw [hB] at iB
  have lB := box_le iB
  have hml : B.Mails.length ≤ 30 := (boxOk_parts iB).2.1
  have r1 : ([⟨1, 9999⟩] : List Range).length ≤ 4194304 := by decide
  have sl := sort_all iB
  have sm := fun (i : Nat) (hi : i < B.Mails.length) => sort_mem iB hi
  obtain ⟨⟨mm, tg1, tg2⟩, tsum⟩ := threads_good iB
  have tl := (threads_each B [⟨1, 9999⟩]).1
  obtain ⟨Q, hQ⟩ : ∃ Q, sortBy B [⟨1, 9999⟩] = Q := ⟨_, rfl⟩
  obtain ⟨T, hT⟩ : ∃ T, threadsV B [⟨1, 9999⟩] = T := ⟨_, rfl⟩
  rw [hQ] at sl sm
  rw [hT] at tg1 tg2 tsum tl
  have lQ : Q.length ≤ 4194304 := by omega
  obtain ⟨x1, x2⟩ := drawSo_in hc4
  obtain ⟨DX, hDX⟩ : ∃ D, (drawSo code).1 = D := ⟨_, rfl⟩
  obtain ⟨DS, hDS⟩ : ∃ D, (drawSo code).2 = D := ⟨_, rfl⟩
  rw [hDX] at x1
  rw [hDS] at x2
  obtain ⟨wl, we⟩ := threads_each DX DS
  obtain ⟨W, hW⟩ : ∃ W, threadsV DX DS = W := ⟨_, rfl⟩
  rw [hW] at wl we
  have yl := sortBy_len (s := DS) x1
  obtain ⟨Y, hY⟩ : ∃ Y, sortBy DX DS = Y := ⟨_, rfl⟩
  rw [hY] at yl
  simp only [hc, hb, hc4, hB, lB, r1, hQ, hT, and_self, List.length_cons, List.length_nil, go_sem]
  repeat' ((first | ((first | apply qa | apply qb | apply qc | apply qd | apply qe | apply qf | apply qg | apply qh | apply qi | apply qj | apply qk) <;> intro hp) | ((first | refine ql rfl rfl (by decide +kernel) ?_ | refine qm _ rfl rfl (by decide +kernel) ?_) <;> have hp := True.intro)) <;> simp only [hp, hc, hb, hc4, hB, lB, r1, hQ, hT, and_self, List.length_cons, List.length_nil, go_sem])
  refine loop_go (fun p : Nat × Nat => [(6, .int .i64 (p.2 : Int)), (7, .int .i64 (p.1 : Int))]) (fun _ => []) (fun p => T.length - p.1) (fun p => p.1 ≤ T.length ∧ p.2 = ((T.take p.1).map List.length).sum) (0, 0) ⟨Nat.zero_le _, rfl⟩ rfl rfl ?_
  rintro ⟨i, n⟩ ⟨hi, hn⟩ ih
  simp only at hi hn ih
  have hn30 : n ≤ 30 := by
    have h1 : ((T.take i).map List.length).sum + ((T.drop i).map List.length).sum = (T.map List.length).sum := by rw [← List.sum_append, ← List.map_append, List.take_append_drop]
    omega
  rcases Nat.lt_or_ge i T.length with h | h
  · have g1 : (i : Int) < T.length := by omega
    have g2 : (0 : Int) ≤ i := by omega
    have g3 : T[i]? = some T[i] := List.getElem?_eq_getElem h
    have g5 := wrap_succ h (by omega)
    obtain ⟨t1, t2, t3⟩ := tg1 _ (List.getElem_mem h)
    have hsum : n + T[i].length = ((T.take (i + 1)).map List.length).sum := by rw [take_succ' h, List.map_append, List.sum_append, hn]; simp
    have hX30 : n + T[i].length ≤ 30 := by
      have h1 : ((T.take (i + 1)).map List.length).sum + ((T.drop (i + 1)).map List.length).sum = (T.map List.length).sum := by rw [← List.sum_append, ← List.map_append, List.take_append_drop]
      omega
    have ih' := ih (i + 1, n + T[i].length) ⟨h, hsum⟩ (by simp only; omega)
    clear ih
    have hpos : 0 < T[i].length := List.length_pos_iff.2 t1
    have hd : ∀ i', i = i' + 1 → ∀ (h' : i' < T.length), (T[i'].headD 0) < (T[i].headD 0) := by
      intro i' e h'
      have := List.pairwise_iff_getElem.1 tg2 i' i (by simpa using h') (by simpa using h) (by omega)
      simpa using this
    generalize hX : T[i] = X at *
    have e1 : ((X.length : Int) == 0) = false := by rw [beq_eq_false_iff_ne]; omega
    have w1 : IntKind.i64.wrap ((n : Int) + X.length) = ((n + X.length : Nat) : Int) := (wrap64 (by omega) (by omega)).trans (by omega)
    have inner : ∀ {F : Prop}, F → F := fun h => h
    by_cases hi0 : i = 0
    · have e2 : ¬ (0 : Int) < i := by omega
      simp only [g1, g2, g3, w1, e1, e2, go_sem]
      repeat' ((first | ((first | apply qa | apply qb | apply qc | apply qd | apply qe | apply qf | apply qg | apply qh | apply qi | apply qj | apply qk) <;> intro hp) | ((first | refine ql rfl rfl (by decide +kernel) ?_ | refine qm _ rfl rfl (by decide +kernel) ?_) <;> have hp := True.intro)) <;> simp only [hp, g1, g2, g3, w1, e1, e2, go_sem])
      refine loop_go (fun k : Nat => [(8, .int .i64 (k : Int))]) (fun _ => []) (fun k => X.length - k) (fun k => 1 ≤ k ∧ k ≤ X.length) 1 ⟨Nat.le_refl _, hpos⟩ rfl rfl ?_
      intro k ⟨k1, k2⟩ ih2
      rcases Nat.lt_or_ge k X.length with hk | hk
      · obtain ⟨k', hk'⟩ : ∃ k', k = k' + 1 := ⟨k - 1, by omega⟩
        have f1 : (k : Int) < X.length := by omega
        have f2 : IntKind.i64.wrap ((k : Int) - 1) = (k' : Int) := (wrap64 (by omega) (by omega)).trans (by omega)
        have f3 : (0 : Int) ≤ k' := by omega
        have f4 : (k' : Int) < X.length := by omega
        have f5 : (0 : Int) ≤ k := by omega
        have f6 : X[k]? = some X[k] := List.getElem?_eq_getElem hk
        have f7 : X[k']? = some X[k'] := List.getElem?_eq_getElem (by omega)
        have f8 : ¬ X[k] ≤ X[k'] := by
          have := List.pairwise_iff_getElem.1 t2 k' k (by omega) hk (by omega)
          omega
        have f9 : IntKind.i64.wrap ((k : Int) + 1) = ((k + 1 : Nat) : Int) := wrap_succ hk (by omega)
        have ih3 := ih2 (k + 1) ⟨by omega, hk⟩ (by omega)
        clear ih2 ih'
        simp only [g1, g2, g3, f1, f2, f3, f4, f5, f6, f7, f8, f9, go_sem]
        repeat' ((first | ((first | apply qa | apply qb | apply qc | apply qd | apply qe | apply qf | apply qg | apply qh | apply qi | apply qj | apply qk) <;> intro hp) | ((first | refine ql rfl rfl (by decide +kernel) ?_ | refine qm _ rfl rfl (by decide +kernel) ?_) <;> have hp := True.intro)) <;> simp only [hp, g1, g2, g3, f1, f2, f3, f4, f5, f6, f7, f8, f9, go_sem])
        exact ih3
      · have f1 : ¬ (k : Int) < X.length := by omega
        clear ih2
        simp only [g1, g2, g3, g5, f1, go_sem]
        repeat' ((first | ((first | apply qa | apply qb | apply qc | apply qd | apply qe | apply qf | apply qg | apply qh | apply qi | apply qj | apply qk) <;> intro hp) | ((first | refine ql rfl rfl (by decide +kernel) ?_ | refine qm _ rfl rfl (by decide +kernel) ?_) <;> have hp := True.intro)) <;> simp only [hp, g1, g2, g3, g5, f1, go_sem])
        exact ih'
    · obtain ⟨i', hi'⟩ : ∃ i', i = i' + 1 := ⟨i - 1, by omega⟩
      have h' : i' < T.length := by omega
      have hd' := hd i' hi' h'
      have g4 : T[i']? = some T[i'] := List.getElem?_eq_getElem h'
      obtain ⟨t1', _, _⟩ := tg1 _ (List.getElem_mem h')
      have hpos' : 0 < T[i'].length := List.length_pos_iff.2 t1'
      generalize hX' : T[i'] = X' at *
      have e2 : (0 : Int) < i := by omega
      have e3 : IntKind.i64.wrap ((i : Int) - 1) = (i' : Int) := (wrap64 (by omega) (by omega)).trans (by omega)
      have e4 : (0 : Int) ≤ i' := by omega
      have e5 : (i' : Int) < T.length := by omega
      have e6 : (0 : Int) < X.length := by omega
      have e7 : (0 : Int) < X'.length := by omega
      have e8 : X[0]? = some (X.headD 0) := by cases X with | nil => simp at hpos | cons a l => rfl
      have e9 : X'[0]? = some (X'.headD 0) := by cases X' with | nil => simp at hpos' | cons a l => rfl
      have e10 : ¬ X.headD 0 ≤ X'.headD 0 := by omega
      simp only [g1, g2, g3, g4, w1, e1, e2, e3, e4, e5, e6, e7, e8, e9, e10, go_sem]
      repeat' ((first | ((first | apply qa | apply qb | apply qc | apply qd | apply qe | apply qf | apply qg | apply qh | apply qi | apply qj | apply qk) <;> intro hp) | ((first | refine ql rfl rfl (by decide +kernel) ?_ | refine qm _ rfl rfl (by decide +kernel) ?_) <;> have hp := True.intro)) <;> simp only [hp, g1, g2, g3, g4, w1, e1, e2, e3, e4, e5, e6, e7, e8, e9, e10, go_sem])
      refine loop_go (fun k : Nat => [(8, .int .i64 (k : Int))]) (fun _ => []) (fun k => X.length - k) (fun k => 1 ≤ k ∧ k ≤ X.length) 1 ⟨Nat.le_refl _, hpos⟩ rfl rfl ?_
      intro k ⟨k1, k2⟩ ih2
      rcases Nat.lt_or_ge k X.length with hk | hk
      · obtain ⟨k', hk'⟩ : ∃ k', k = k' + 1 := ⟨k - 1, by omega⟩
        have f1 : (k : Int) < X.length := by omega
        have f2 : IntKind.i64.wrap ((k : Int) - 1) = (k' : Int) := (wrap64 (by omega) (by omega)).trans (by omega)
        have f3 : (0 : Int) ≤ k' := by omega
        have f4 : (k' : Int) < X.length := by omega
        have f5 : (0 : Int) ≤ k := by omega
        have f6 : X[k]? = some X[k] := List.getElem?_eq_getElem hk
        have f7 : X[k']? = some X[k'] := List.getElem?_eq_getElem (by omega)
        have f8 : ¬ X[k] ≤ X[k'] := by
          have := List.pairwise_iff_getElem.1 t2 k' k (by omega) hk (by omega)
          omega
        have f9 : IntKind.i64.wrap ((k : Int) + 1) = ((k + 1 : Nat) : Int) := wrap_succ hk (by omega)
        have ih3 := ih2 (k + 1) ⟨by omega, hk⟩ (by omega)
        clear ih2 ih'
        simp only [g1, g2, g3, f1, f2, f3, f4, f5, f6, f7, f8, f9, go_sem]
        repeat' ((first | ((first | apply qa | apply qb | apply qc | apply qd | apply qe | apply qf | apply qg | apply qh | apply qi | apply qj | apply qk) <;> intro hp) | ((first | refine ql rfl rfl (by decide +kernel) ?_ | refine qm _ rfl rfl (by decide +kernel) ?_) <;> have hp := True.intro)) <;> simp only [hp, g1, g2, g3, f1, f2, f3, f4, f5, f6, f7, f8, f9, go_sem])
        exact ih3
      · have f1 : ¬ (k : Int) < X.length := by omega
        clear ih2
        simp only [g1, g2, g3, g5, f1, go_sem]
        repeat' ((first | ((first | apply qa | apply qb | apply qc | apply qd | apply qe | apply qf | apply qg | apply qh | apply qi | apply qj | apply qk) <;> intro hp) | ((first | refine ql rfl rfl (by decide +kernel) ?_ | refine qm _ rfl rfl (by decide +kernel) ?_) <;> have hp := True.intro)) <;> simp only [hp, g1, g2, g3, g5, f1, go_sem])
        exact ih'
  · have g1 : ¬ (i : Int) < T.length := by omega
    rw [List.take_of_length_le h, tsum] at hn
    subst hn
    clear ih
    simp only [g1, go_sem]
    repeat' ((first | ((first | apply qa | apply qb | apply qc | apply qd | apply qe | apply qf | apply qg | apply qh | apply qi | apply qj | apply qk) <;> intro hp) | ((first | refine ql rfl rfl (by decide +kernel) ?_ | refine qm _ rfl rfl (by decide +kernel) ?_) <;> have hp := True.intro)) <;> simp only [hp, g1, go_sem])
    refine loop_go (fun j : Nat => [(9, .int .i64 (j : Int))]) (fun _ => []) (fun j => B.Mails.length - j) (fun j => j ≤ B.Mails.length) 0 (Nat.zero_le _) rfl rfl ?_
    intro j hj ih
    rcases Nat.lt_or_ge j B.Mails.length with h | h
    · have g1 : (j : Int) < B.Mails.length := by omega
      have g2 : (0 : Int) ≤ j := by omega
      have g3 : B.Mails[j]? = some B.Mails[j] := List.getElem?_eq_getElem h
      have g5 := wrap_succ h (by omega)
      have gm := eq_true (sm j h)
      have ih' := ih (j + 1) h (by omega)
      clear ih
      simp only [g1, g2, g3, g5, gm, lQ, go_sem]
      repeat' ((first | ((first | apply qa | apply qb | apply qc | apply qd | apply qe | apply qf | apply qg | apply qh | apply qi | apply qj | apply qk) <;> intro hp) | ((first | refine ql rfl rfl (by decide +kernel) ?_ | refine qm _ rfl rfl (by decide +kernel) ?_) <;> have hp := True.intro)) <;> simp only [hp, g1, g2, g3, g5, gm, lQ, go_sem])
      exact ih'
    · have g1 : ¬ (j : Int) < B.Mails.length := by omega
      clear ih
      simp only [g1, hc4, hDX, hDS, x1, x2, hW, and_self, bne_self_eq_false, go_sem]
      repeat' ((first | ((first | apply qa | apply qb | apply qc | apply qd | apply qe | apply qf | apply qg | apply qh | apply qi | apply qj | apply qk) <;> intro hp) | ((first | refine ql rfl rfl (by decide +kernel) ?_ | refine qm _ rfl rfl (by decide +kernel) ?_) <;> have hp := True.intro)) <;> simp only [hp, g1, hc4, hDX, hDS, x1, x2, hW, and_self, bne_self_eq_false, go_sem])
      refine loop_go (fun i : Nat => [(14, .int .i64 (i : Int))]) (fun _ => []) (fun i => W.length - i) (fun i => i ≤ W.length) 0 (Nat.zero_le _) rfl rfl ?_
      intro i hi ih
      rcases Nat.lt_or_ge i W.length with h | h
      · have g1 : (i : Int) < W.length := by omega
        have g2 : (0 : Int) ≤ i := by omega
        have g3 : W[i]? = some W[i] := List.getElem?_eq_getElem h
        have g5 := wrap_succ h (by omega)
        have g6 : W[i].length ≤ 4194304 := Nat.le_trans (we _ (List.getElem_mem h)) (by decide)
        have ih' := ih (i + 1) h (by omega)
        clear ih
        simp only [g1, g2, g3, g5, g6, and_self, go_sem]
        repeat' ((first | ((first | apply qa | apply qb | apply qc | apply qd | apply qe | apply qf | apply qg | apply qh | apply qi | apply qj | apply qk) <;> intro hp) | ((first | refine ql rfl rfl (by decide +kernel) ?_ | refine qm _ rfl rfl (by decide +kernel) ?_) <;> have hp := True.intro)) <;> simp only [hp, g1, g2, g3, g5, g6, and_self, go_sem])
        exact ih'
      · have g1 : ¬ (i : Int) < W.length := by omega
        clear ih
        have lB4 : B.Mails.length ≤ 4194304 := by omega
        simp only [g1, lB, lB4, r1, x1, x2, hQ, hY, yl, lQ, sl, and_self, beq_self_eq_true, List.length_cons, List.length_nil, go_sem]
        repeat' ((first | ((first | apply qa | apply qb | apply qc | apply qd | apply qe | apply qf | apply qg | apply qh | apply qi | apply qj | apply qk) <;> intro hp) | ((first | refine ql rfl rfl (by decide +kernel) ?_ | refine qm _ rfl rfl (by decide +kernel) ?_) <;> have hp := True.intro)) <;> simp only [hp, g1, lB, lB4, r1, x1, x2, hQ, hY, yl, lQ, sl, and_self, beq_self_eq_true, List.length_cons, List.length_nil, go_sem])
        all_goals (simp only [fin_mk, finV, resL, resV1, resIn, endA, listIn, Option.some_or, Option.none_or, oneOrTup, go_sem]; rw [← hr])
        all_goals first | rfl | skip
set_option maxRecDepth 100000 in
theorem gbase (W : World) (hL : laidMetH Tryz.prog Rows.fnSortsRow.laid W) (hsh : W.ShapedOpen Tryz.prog) : GBase Tryz.prog spLaw.need W :=
  ⟨fun h => absurd (show "internal/strconv.uint64pow10" ∈ (["internal/bytealg.MaxLen"] : List String) from h) (by simp),
   fun _ => (let ⟨m, hm⟩ := Go.Proofs.cell_of_shapedOpen_int hsh (g := 0) (t := 3) (zero := #[.int .i64 0]) (of_decide_eq_true (by kernel_rfl)) (by kernel_rfl) rfl (by kernel_rfl) (by kernel_rfl) Tryz.underlying3; ⟨0, m, by kernel_rfl, hm⟩),
   fun h => absurd (show "strconv.ErrSyntax" ∈ (["internal/bytealg.MaxLen"] : List String) from h) (by simp),
   fun h => absurd (show "strconv.ErrRange" ∈ (["internal/bytealg.MaxLen"] : List String) from h) (by simp)⟩
set_option maxRecDepth 100000 in
theorem own : ownKnob Tryz.prog.godebug = none := by kernel_rfl
theorem lifted (os : Os) (started : os.Started) (H : Type) (enc : TypeId × Value → H) :
    ReturnsInHanded {} Tryz.checked os 4 .any (fun w args => (Rows.fnSortsSpec.pre enc Tryz.prog Tryz.f4 [] false w args ∧ laidMetH Tryz.prog Rows.fnSortsRow.laid w) ∧ sizedMet enc Tryz.prog Tryz.f4 (OpenSpec.ofChange Rows.fnSortsSpec) false w args) (Rows.fnSortsSpec.post enc Tryz.prog Tryz.f4 false true false false) :=
  laid_of_fn Rows.fnSortsRow.laid (C := Tryz.checked) (n := 2) own started (by kernel_rfl) Tryz.func4 rfl rfl
    (ChangeSpec.witness_shaped (enc := enc) (C := Tryz.checked) (os := os) (X := fun w _ => laidMetH Tryz.prog Rows.fnSortsRow.laid w) false (World.laidAll Tryz.prog os Rows.fnSortsRow.laid) #[.slice none 0 0] 8 (World.laidAll_os _ _ _)
      (World.shaped_of_ZipB (by kernel_rfl) (by kernel_rfl)) (by kernel_rfl) (by kernel_rfl) (by kernel_rfl)
      (by rw [MakeChecks.laidMetH_plain _ _ _ (by kernel_rfl)]; exact laidMet_laidAll _ (by kernel_rfl) (by kernel_rfl)))
    rfl rfl Tryz.underlying4 (by kernel_rfl) (by
      intro t ht
      simp only [Tryz.f4, List.mem_cons, List.not_mem_nil, or_false] at ht
      subst ht; exact ⟨by kernel_rfl, by kernel_rfl, of_decide_eq_true (by kernel_rfl)⟩)
    (by
      intro ds hd
      match ds, hd with
      | [d0], _ => rfl)
    gbase ok_laws_FnSorts rfl (by
      intro xs hl hw
      match xs, hl with
      | [x0], _ =>
        obtain ⟨x0, rfl, c0, _, e0⟩ := wf_slice Tryz.underlying45 (hw 0 45 x0 rfl rfl)
        rw [Ty.bytes_5] at c0
        have c0 : x0.length ≤ 4611686018427387904 := by unfold reachBytes at c0; omega
        obtain ⟨x0, rfl, d0⟩ := list_enc (e := eU8) (R := fun _ => True) fun v hv => by
          obtain ⟨m, rfl⟩ := wf_u8 Tryz.underlying5 (e0 v hv)
          exact ⟨m, rfl, trivial⟩
        rw [List.length_map] at c0
        simp only [spLaw, Ty.cells_5, decL_u8s, Option.bind_some]
        exact if_pos c0)
theorem over : Rows.fnSortsRow.holds Tryz.pinned (OpenSpec.ofChange Rows.fnSortsSpec) :=
  OpenClaim.holds_of_wide 4 Tryz.f4 rfl rfl rfl rfl rfl rfl rfl ⟨rfl, rfl, rfl, rfl, rfl⟩ rfl rfl rfl rfl rfl (by kernel_rfl) Tryz.func4 (by kernel_rfl)
    (of_decide_eq_true (by kernel_rfl)) (by unfold Func.isWrapper; first | (rw [if_pos (by decide +kernel)]; kernel_rfl) | (rw [if_neg (by decide +kernel)]; exact ⟨rfl, rfl⟩))
    (fun os started H enc _ => lifted os started H enc)
theorem card : Rows.FnSortsCardSaid :=
  Claim7.holds_tied_plain_at .later [] [.data, .pinned] true (true, "1ff7951d1efbc6591a22b1eeb86e500c2e5aaeb5bbabb823d5c6af9bdee2a0bd") false over (fun _ h => by cases h) (by kernel_rfl) (fun _ h => by cases h) fnSorts_row_tie rfl ⟨rfl, rfl⟩ (by kernel_rfl) rfl
    (fun f fn hf hfn => by
      obtain rfl : f = 4 := Option.some.inj ((show Tryz.prog.funcNamed "loop.example/g00247/laws.FnSorts" = some 4 by kernel_rfl).symm.trans hf) |>.symm
      obtain rfl : fn = Tryz.f4 := (Option.some.inj (Tryz.func4.symm.trans hfn)).symm
      exact ⟨by kernel_rfl, fun j t ht => by
        have hm : t ∈ Tryz.f4.params.toList := Array.mem_toList_iff.2 (Array.mem_of_getElem? ht)
        have hall : (Tryz.f4.params.toList.all fun u => !Tryz.prog.wantsStandIn u) = true := by kernel_rfl
        exact (show Tryz.prog.wantsStandIn t = false by simpa using List.all_eq_true.1 hall t hm)⟩)
    (by kernel_rfl)
end Go.Proofs.YtghmjnggmacohaaGreatDoor.VSorts
namespace Go.Proofs.YtghmjnggmacohaaGreatDoor
theorem fnSorts_holds : Rows.FnSortsCardSaid := VSorts.card
#print axioms fnSorts_holds
end Go.Proofs.YtghmjnggmacohaaGreatDoor
