/- Contracts of functions, and the facts that they need. No condition. -/
import Derived.Test.YtimiccneikhkgaaGreatDoorVLM
import Derived.Test.YtimiccneikhkgaaGreatDoorVLU


import Derived.Test.YtimiccneikhkgaaGreatDoorVLFl

import Derived.Test.YtimiccneikhkgaaGreatDoorVLRs2



import Derived.Test.YtimiccneikhkgaaGreatDoorVmCur
import Derived.Test.YtimiccneikhkgaaGreatDoorVmLoop
namespace Go.Proofs.YtimiccneikhkgaaGreatDoor.L
open Go Go.VM
set_option maxRecDepth 100000
set_option maxHeartbeats 4000000
set_option linter.unusedSimpArgs false
set_option linter.unusedVariables false
def allB (m : Mail) (ks : List Key) : Bool := ks.all (matchB m)
def searchL (b : List Mail) (ks : List Key) : List Int := (b.filter fun m => allB m ks).map (·.Uid)
def search (b : Box) (ks : List Key) : List Range := if boxOk b = true then setOf (searchL b.Mails ks) else []
theorem searchL_succ {l : List Mail} {ks : List Key} {i : Nat} (h : i < l.length) : searchL (l.take (i + 1)) ks = searchL (l.take i) ks ++ (if allB l[i] ks = true then [l[i].Uid] else []) := by
  unfold searchL
  rw [filter_succ h, List.map_append]
  congr 1
  split <;> simp
theorem search_le (b : Box) (ks : List Key) : (search b ks).length ≤ 4194304 := by
  unfold search
  split
  · rename_i h
    have h1 := (boxOk_parts h).2.1
    have h2 := setOf_len (searchL b.Mails ks)
    have h3 : (searchL b.Mails ks).length ≤ b.Mails.length := by rw [searchL, List.length_map]; exact List.length_filter_le _ _
    omega
  · simp
theorem allB_succ {m : Mail} {ks : List Key} {i : Nat} (h : i < ks.length) : allB m (ks.take (i + 1)) = (allB m (ks.take i) && matchB m ks[i]) := by
  rw [allB, take_succ' h, List.all_append]; simp [allB]
theorem all_bad {m : Mail} {ks : List Key} {i : Nat} (h : i < ks.length) (hb : matchB m ks[i] = false) : allB m ks = false := by
  rw [allB, List.all_eq_false]
  exact ⟨ks[i], List.getElem_mem h, by simp [hb]⟩
open Classical in
noncomputable def spAll : VM.Spec := { modes := [.rd, .rd], run := fun | [m', .lst 3 keys'] => (Mail.dec m').bind fun m => (decL Key.dec keys').bind fun keys => if m.le 4194304 ∧ leL Key.le 4194304 keys then some (.bool (allB m keys), []) else none | _ => none, need := ["internal/bytealg.MaxLen"] }
attribute [go_sem] spAll
theorem spAll_in {ins : List V} {r : V} {outs : List V} (h : spAll.run ins = some (r, outs)) : ∃ (m : Mail) (keys : (List Key)), ins = [Mail.enc m, .lst 3 ((keys).map Key.enc)] ∧ (m.le 4194304 ∧ leL Key.le 4194304 keys) ∧ .bool (allB m keys) = r ∧ outs = [] := by
  unfold spAll at h
  simp only at h
  split at h
  · rename_i m' keys'
    simp only [Option.bind_eq_some_iff] at h
    obtain ⟨m, h_m, keys, h_keys, h⟩ := h
    split at h
    case isFalse => cases h
    rename_i hc
    simp only [Option.some.injEq, Prod.mk.injEq] at h
    obtain ⟨h1, h2⟩ := h
    have h_m := Mail.dec_some h_m
    subst h_m
    have h_keys := decL_some (fun _ _ h => Key.dec_some h) h_keys
    subst h_keys
    exact ⟨m, keys, rfl, hc, h1, h2.symm⟩
  · cases h
def T_impl_matchesAll : Hints := ⟨fun _ => none, fun i => if i = 2 then some [2, 7, 8, 9] else none, fun i => if i = 0 then some [1, 2] else if i = 1 then some [2, 7, 8, 9] else if i = 2 then some [2, 7, 8, 9, 10] else if i = 3 then some [2, 6, 7, 8, 9] else if i = 4 then some [2, 7, 8, 9, 16] else if i = 5 then some [4] else if i = 6 then some [2, 7, 8, 9] else if i = 7 then some [4] else none, fun _ => none⟩
noncomputable def Phi_impl_matchesAll : Tab := fun f => if f = 18 then some spMatches else none
attribute [go_sem] T_impl_matchesAll Phi_impl_matchesAll
theorem phi_impl_matchesAll : ∀ f sp, Phi_impl_matchesAll f = some sp → FnOk Tryz.prog f sp ∧ ∀ n ∈ sp.need, n ∈ (["internal/bytealg.MaxLen"] : List String) := by
  intro f sp h
  unfold Phi_impl_matchesAll at h
  by_cases e : f = 18
  · rw [if_pos e] at h; cases h; rw [e]; exact ⟨ok_impl_Matches, (fun n (h : n ∈ (["internal/bytealg.MaxLen"] : List String)) => by simp only [List.mem_cons, List.not_mem_nil, or_false] at h; rcases h with rfl <;> simp)⟩
  rw [if_neg e] at h
  cases h
theorem ok_impl_matchesAll : FnOk Tryz.prog 71 spAll := by
  refine fn_ok (Φ := Phi_impl_matchesAll) (T := T_impl_matchesAll) phi_impl_matchesAll mixed Tryz.func71 rfl rfl rfl (by decide) ?_
  intro ins r outs hr hl
  clear hl
  have hs := spAll_in hr
  clear hr
  obtain ⟨m, keys, rfl, hc, hr, rfl⟩ := hs
  simp only [spAll, Tryz.f71, Go.VM.initS]
  obtain ⟨hm, hks⟩ := hc
  have hl : keys.length ≤ 4194304 := hks.1
  simp only [go_sem]
  repeat' ((first | apply qa | apply qb | apply qc | apply qd | apply qe | apply qf | apply qg | apply qh | apply qi | apply qj | apply qk) <;> intro hp <;> simp only [hp, go_sem])
  refine loop_go (fun i : Nat => [(9, .int .i64 (i : Int))]) (fun _ => []) (fun i => keys.length - i) (fun i => i ≤ keys.length ∧ allB m (keys.take i) = true) 0 ⟨Nat.zero_le _, rfl⟩ rfl rfl ?_
  intro i ⟨hi, ha⟩ ih
  rcases Nat.lt_or_ge i keys.length with h | h
  · have g1 : (i : Int) < keys.length := by omega
    have g2 : (0 : Int) ≤ i := by omega
    have g3 : keys[i]? = some keys[i] := List.getElem?_eq_getElem h
    have g5 := wrap_succ h (by omega)
    have hk : keys[i].le 4194304 := hks.2 _ (List.getElem_mem h)
    cases hb : matchB m keys[i] with
    | false =>
      simp only [g1, g2, g3, g5, hb, hm, hk, go_sem]
      repeat' ((first | apply qa | apply qb | apply qc | apply qd | apply qe | apply qf | apply qg | apply qh | apply qi | apply qj | apply qk) <;> intro hp <;> simp only [hp, g1, g2, g3, g5, hb, hm, hk, go_sem])
      simp only [fin_mk, finV, resL, resV1, resIn, endA, listIn, Option.some_or, Option.none_or, oneOrTup, go_sem]
      rw [← hr]
      rw [all_bad h hb]
    | true =>
      have ih' := ih (i + 1) ⟨h, by rw [allB_succ h, ha, hb]; rfl⟩ (by omega)
      simp only [g1, g2, g3, g5, hb, hm, hk, go_sem]
      repeat' ((first | apply qa | apply qb | apply qc | apply qd | apply qe | apply qf | apply qg | apply qh | apply qi | apply qj | apply qk) <;> intro hp <;> simp only [hp, g1, g2, g3, g5, hb, hm, hk, go_sem])
      exact ih'
  · have g1 : ¬ (i : Int) < keys.length := by omega
    rw [List.take_of_length_le h] at ha
    simp only [g1, go_sem]
    repeat' ((first | apply qa | apply qb | apply qc | apply qd | apply qe | apply qf | apply qg | apply qh | apply qi | apply qj | apply qk) <;> intro hp <;> simp only [hp, g1, go_sem])
    simp only [fin_mk, finV, resL, resV1, resIn, endA, listIn, Option.some_or, Option.none_or, oneOrTup, go_sem]
    rw [← hr]
    rw [ha]
open Classical in
noncomputable def spSearch : VM.Spec := { modes := [.rd, .rd], run := fun | [b', .lst 3 keys'] => (Box.dec b').bind fun b => (decL Key.dec keys').bind fun keys => if b.le 4194304 ∧ leL Key.le 4194304 keys then some (.lst 2 ((search b keys).map Range.enc), []) else none | _ => none, need := ["internal/bytealg.MaxLen"] }
attribute [go_sem] spSearch
theorem spSearch_in {ins : List V} {r : V} {outs : List V} (h : spSearch.run ins = some (r, outs)) : ∃ (b : Box) (keys : (List Key)), ins = [Box.enc b, .lst 3 ((keys).map Key.enc)] ∧ (b.le 4194304 ∧ leL Key.le 4194304 keys) ∧ .lst 2 ((search b keys).map Range.enc) = r ∧ outs = [] := by
  unfold spSearch at h
  simp only at h
  split at h
  · rename_i b' keys'
    simp only [Option.bind_eq_some_iff] at h
    obtain ⟨b, h_b, keys, h_keys, h⟩ := h
    split at h
    case isFalse => cases h
    rename_i hc
    simp only [Option.some.injEq, Prod.mk.injEq] at h
    obtain ⟨h1, h2⟩ := h
    have h_b := Box.dec_some h_b
    subst h_b
    have h_keys := decL_some (fun _ _ h => Key.dec_some h) h_keys
    subst h_keys
    exact ⟨b, keys, rfl, hc, h1, h2.symm⟩
  · cases h
def T_impl_Search : Hints := ⟨fun _ => none, fun i => if i = 5 then some [1, 5, 15, 16, 17] else none, fun i => if i = 0 then some [1, 2] else if i = 1 then some [1, 2, 12] else if i = 2 then some [4] else if i = 3 then some [1, 2, 5] else if i = 4 then some [1, 5, 15, 16, 17] else if i = 5 then some [1, 5, 15, 16, 17, 18] else if i = 6 then some [1, 5, 7, 15, 16, 17] else if i = 7 then some [1, 5, 7, 15, 16, 17, 23] else if i = 8 then some [1, 5, 15, 16, 17] else if i = 9 then some [1, 5, 15, 16, 17] else if i = 10 then some [8] else if i = 11 then some [4] else none, fun _ => none⟩
noncomputable def Phi_impl_Search : Tab := fun f => if f = 70 then some spBoxOk else if f = 71 then some spAll else if f = 72 then some spSetOfList else none
attribute [go_sem] T_impl_Search Phi_impl_Search
theorem phi_impl_Search : ∀ f sp, Phi_impl_Search f = some sp → FnOk Tryz.prog f sp ∧ ∀ n ∈ sp.need, n ∈ (["internal/bytealg.MaxLen"] : List String) := by
  intro f sp h
  unfold Phi_impl_Search at h
  by_cases e : f = 70
  · rw [if_pos e] at h; cases h; rw [e]; exact ⟨ok_impl_BoxOk, (fun n (h : n ∈ ([] : List String)) => (nomatch h))⟩
  rw [if_neg e] at h
  by_cases e : f = 71
  · rw [if_pos e] at h; cases h; rw [e]; exact ⟨ok_impl_matchesAll, (fun n (h : n ∈ (["internal/bytealg.MaxLen"] : List String)) => by simp only [List.mem_cons, List.not_mem_nil, or_false] at h; rcases h with rfl <;> simp)⟩
  rw [if_neg e] at h
  by_cases e : f = 72
  · rw [if_pos e] at h; cases h; rw [e]; exact ⟨ok_impl_setOfList, (fun n (h : n ∈ ([] : List String)) => (nomatch h))⟩
  rw [if_neg e] at h
  cases h
theorem ok_impl_Search : FnOk Tryz.prog 17 spSearch := by
  refine fn_ok (Φ := Phi_impl_Search) (T := T_impl_Search) phi_impl_Search mixed Tryz.func17 rfl rfl rfl (by decide) ?_
  intro ins r outs hr hl
  clear hl
  have hs := spSearch_in hr
  clear hr
  obtain ⟨b, keys, rfl, hc, hr, rfl⟩ := hs
  simp only [spSearch, Tryz.f17, Go.VM.initS]
  obtain ⟨hc, hks⟩ := hc
  cases hk : boxOk b with
  | false =>
    simp only [hc, hk, go_sem]
    repeat' ((first | apply qa | apply qb | apply qc | apply qd | apply qe | apply qf | apply qg | apply qh | apply qi | apply qj | apply qk) <;> intro hp <;> simp only [hp, hc, hk, go_sem])
    all_goals (simp only [fin_mk, finV, resL, resV1, resIn, endA, listIn, Option.some_or, Option.none_or, oneOrTup, go_sem]; rw [← hr])
    all_goals (rw [search, hk, if_neg (by simp)]; rfl)
  | true =>
    have hml : b.Mails.length ≤ 30 := (boxOk_parts hk).2.1
    rw [search, hk, if_pos rfl] at hr
    have as1 : Asc (searchL b.Mails keys) 9999 := filter_asc hk _
    have aa1 := asc_all as1
    rw [setOf_asc as1] at hr
    clear as1
    simp only [hc, hk, go_sem]
    repeat' ((first | apply qa | apply qb | apply qc | apply qd | apply qe | apply qf | apply qg | apply qh | apply qi | apply qj | apply qk) <;> intro hp <;> simp only [hp, hc, hk, go_sem])
    refine loop_go (fun i : Nat => [(17, .int .i64 (i : Int))]) (fun i => [(0, ⟨.arr, 1, (searchL (b.Mails.take i) keys).map eInt⟩)]) (fun i => b.Mails.length - i) (fun i => i ≤ b.Mails.length) 0 (Nat.zero_le _) rfl rfl ?_
    intro i hi ih
    have hD : (searchL (b.Mails.take i) keys).length ≤ b.Mails.length := uids_len b.Mails (fun m => allB m keys) i
    rcases Nat.lt_or_ge i b.Mails.length with h | h
    · have g1 : (i : Int) < b.Mails.length := by omega
      have g2 : (0 : Int) ≤ i := by omega
      have g3 : b.Mails[i]? = some b.Mails[i] := List.getElem?_eq_getElem h
      have g5 := wrap_succ h (by omega)
      have hm : b.Mails[i].le 4194304 := hc.2.1.2 _ (List.getElem_mem h)
      have ih' := ih (i + 1) h (by omega)
      clear ih
      rw [searchL_succ h] at ih'
      generalize hmm : b.Mails[i] = m at *
      generalize hDD : searchL (b.Mails.take i) keys = D at *
      have b1 : (D.length + 1) * 8 ≤ 140737488355328 := by omega
      have b3 : D.length ≤ 9223372036854775806 := by omega
      cases hA : allB m keys with
      | false =>
        rw [hA] at ih'
        simp only [Bool.false_eq_true, if_false, List.append_nil] at ih'
        simp only [g1, g2, g3, g5, hA, hm, hks, and_self, go_sem]
        repeat' ((first | apply qa | apply qb | apply qc | apply qd | apply qe | apply qf | apply qg | apply qh | apply qi | apply qj | apply qk) <;> intro hp <;> simp only [hp, g1, g2, g3, g5, hA, hm, hks, and_self, go_sem])
        all_goals exact ih'
      | true =>
        rw [hA] at ih'
        simp only [if_true, List.map_append, List.map_cons, List.map_nil] at ih'
        simp only [g1, g2, g3, g5, hA, hm, hks, b1, b3, and_self, go_sem]
        repeat' ((first | apply qa | apply qb | apply qc | apply qd | apply qe | apply qf | apply qg | apply qh | apply qi | apply qj | apply qk) <;> intro hp <;> simp only [hp, g1, g2, g3, g5, hA, hm, hks, b1, b3, and_self, go_sem])
        all_goals first | exact ih' | (clear ih'; omega)
    · have g1 : ¬ (i : Int) < b.Mails.length := by omega
      rw [List.take_of_length_le h] at hD ⊢
      have sl1 : (searchL b.Mails keys).length ≤ 4194304 := by omega
      simp only [g1, sl1, aa1, go_sem]
      repeat' ((first | apply qa | apply qb | apply qc | apply qd | apply qe | apply qf | apply qg | apply qh | apply qi | apply qj | apply qk) <;> intro hp <;> simp only [hp, g1, sl1, aa1, go_sem])
      all_goals (simp only [fin_mk, finV, resL, resV1, resIn, endA, listIn, Option.some_or, Option.none_or, oneOrTup, go_sem]; rw [← hr])
def T_spec_Search : Hints := ⟨fun i => if i = 11 then some [] else if i = 13 then some [] else none, fun i => if i = 5 then some [1, 2, 5, 6] else if i = 9 then some [1, 2, 5, 6, 7, 8] else none, fun i => if i = 0 then some [1, 2] else if i = 1 then some [1, 2, 5] else if i = 2 then some [1, 2, 5, 12] else if i = 3 then some [4] else if i = 4 then some [1, 2, 5, 6] else if i = 5 then some [1, 2, 5, 6, 18] else if i = 7 then some [1, 2, 5, 6, 7] else if i = 8 then some [1, 2, 5, 6, 7, 8] else if i = 9 then some [1, 2, 5, 6, 7, 8, 24] else if i = 11 then some [1, 2, 5, 6, 7, 8] else if i = 10 then some [1, 2, 5, 6, 7, 8] else if i = 12 then some [1, 2, 5, 6, 40] else if i = 13 then some [1, 2, 5, 6] else if i = 6 then some [1, 2, 5, 6] else if i = 14 then some [4] else none, fun _ => none⟩
noncomputable def Phi_spec_Search : Tab := fun f => if f = 78 then some spBoxOk else if f = 79 then some spMatches else if f = 80 then some spSetAdd else none
attribute [go_sem] T_spec_Search Phi_spec_Search
theorem phi_spec_Search : ∀ f sp, Phi_spec_Search f = some sp → FnOk Tryz.prog f sp ∧ ∀ n ∈ sp.need, n ∈ (["internal/bytealg.MaxLen"] : List String) := by
  intro f sp h
  unfold Phi_spec_Search at h
  by_cases e : f = 78
  · rw [if_pos e] at h; cases h; rw [e]; exact ⟨ok_spec_BoxOk, (fun n (h : n ∈ ([] : List String)) => (nomatch h))⟩
  rw [if_neg e] at h
  by_cases e : f = 79
  · rw [if_pos e] at h; cases h; rw [e]; exact ⟨ok_spec_Matches, (fun n (h : n ∈ (["internal/bytealg.MaxLen"] : List String)) => by simp only [List.mem_cons, List.not_mem_nil, or_false] at h; rcases h with rfl <;> simp)⟩
  rw [if_neg e] at h
  by_cases e : f = 80
  · rw [if_pos e] at h; cases h; rw [e]; exact ⟨ok_spec_SetAdd, (fun n (h : n ∈ ([] : List String)) => (nomatch h))⟩
  rw [if_neg e] at h
  cases h
theorem ok_spec_Search : FnOk Tryz.prog 23 spSearch := by
  refine fn_ok (Φ := Phi_spec_Search) (T := T_spec_Search) phi_spec_Search mixed Tryz.func23 rfl rfl rfl (by decide) ?_
  intro ins r outs hr hl
  clear hl
  have hs := spSearch_in hr
  clear hr
  obtain ⟨b, keys, rfl, hc, hr, rfl⟩ := hs
  simp only [spSearch, Tryz.f23, Go.VM.initS]
  obtain ⟨hc, hks⟩ := hc
  have hl : keys.length ≤ 4194304 := hks.1
  cases hk : boxOk b with
  | false =>
    simp only [hc, hk, go_sem]
    repeat' ((first | ((first | apply qa | apply qb | apply qc | apply qd | apply qe | apply qf | apply qg | apply qh | apply qi | apply qj | apply qk) <;> intro hp) | ((first | refine ql rfl rfl (by decide +kernel) ?_ | refine qm _ rfl rfl (by decide +kernel) ?_) <;> have hp := True.intro)) <;> simp only [hp, hc, hk, go_sem])
    all_goals (simp only [fin_mk, finV, resL, resV1, resIn, endA, listIn, Option.some_or, Option.none_or, oneOrTup, go_sem]; rw [← hr])
    all_goals (rw [search, hk, if_neg (by simp)]; rfl)
  | true =>
    have hml : b.Mails.length ≤ 30 := (boxOk_parts hk).2.1
    rw [search, hk, if_pos rfl] at hr
    simp only [hc, hk, go_sem]
    repeat' ((first | ((first | apply qa | apply qb | apply qc | apply qd | apply qe | apply qf | apply qg | apply qh | apply qi | apply qj | apply qk) <;> intro hp) | ((first | refine ql rfl rfl (by decide +kernel) ?_ | refine qm _ rfl rfl (by decide +kernel) ?_) <;> have hp := True.intro)) <;> simp only [hp, hc, hk, go_sem])
    refine loop_go (fun i : Nat => [(6, .int .i64 (i : Int))]) (fun i => [(1, ⟨.arr, 2, (setOf (searchL (b.Mails.take i) keys)).map Range.enc⟩)]) (fun i => b.Mails.length - i) (fun i => i ≤ b.Mails.length) 0 (Nat.zero_le _) rfl (by simp only [show searchL (List.take 0 b.Mails) keys = [] from rfl, setOf_nil']; rfl) ?_
    intro i hi ih
    have hD : (searchL (b.Mails.take i) keys).length ≤ b.Mails.length := uids_len b.Mails (fun m => allB m keys) i
    rcases Nat.lt_or_ge i b.Mails.length with h | h
    · have g1 : (i : Int) < b.Mails.length := by omega
      have g2 : (0 : Int) ≤ i := by omega
      have g3 : b.Mails[i]? = some b.Mails[i] := List.getElem?_eq_getElem h
      have g5 := wrap_succ h (by omega)
      have hm : b.Mails[i].le 4194304 := hc.2.1.2 _ (List.getElem_mem h)
      have hin := mail_in hk h
      have ih' := ih (i + 1) h (by omega)
      clear ih
      rw [searchL_succ h] at ih'
      generalize hmm : b.Mails[i] = m at *
      generalize hDD : searchL (b.Mails.take i) keys = D at *
      have b1 := setAdd_one (S := D) (u := m.Uid) (by omega) (by omega)
      have b3 : (setOf D).length ≤ 4194304 := Nat.le_trans (setOf_len D) (by omega)
      have b5 := b1.1
      have b6 := b1.2
      clear b1
      simp only [g1, g2, g3, go_sem]
      repeat' ((first | ((first | apply qa | apply qb | apply qc | apply qd | apply qe | apply qf | apply qg | apply qh | apply qi | apply qj | apply qk) <;> intro hp) | ((first | refine ql rfl rfl (by decide +kernel) ?_ | refine qm _ rfl rfl (by decide +kernel) ?_) <;> have hp := True.intro)) <;> simp only [hp, g1, g2, g3, go_sem])
      refine loop_go (fun k : Nat => [(7, .bool (allB m (keys.take k))), (8, .int .i64 (k : Int))]) (fun _ => []) (fun k => keys.length - k) (fun k => k ≤ keys.length) 0 (Nat.zero_le _) rfl rfl ?_
      intro k hk' ihk
      rcases Nat.lt_or_ge k keys.length with hkl | hkl
      · have k1 : (k : Int) < keys.length := by omega
        have k2 : (0 : Int) ≤ k := by omega
        have k3 : keys[k]? = some keys[k] := List.getElem?_eq_getElem hkl
        have k5 := wrap_succ hkl (by omega)
        have hkk : keys[k].le 4194304 := hks.2 _ (List.getElem_mem hkl)
        have ihk' := ihk (k + 1) hkl (by omega)
        clear ihk ih'
        rw [allB_succ hkl] at ihk'
        cases hA : allB m (keys.take k) with
        | false =>
          rw [hA, Bool.false_and] at ihk'
          simp only [g1, g2, g3, k1, k2, k3, k5, hA, hm, hkk, and_self, go_sem]
          repeat' ((first | ((first | apply qa | apply qb | apply qc | apply qd | apply qe | apply qf | apply qg | apply qh | apply qi | apply qj | apply qk) <;> intro hp) | ((first | refine ql rfl rfl (by decide +kernel) ?_ | refine qm _ rfl rfl (by decide +kernel) ?_) <;> have hp := True.intro)) <;> simp only [hp, g1, g2, g3, k1, k2, k3, k5, hA, hm, hkk, and_self, go_sem])
          all_goals exact ihk'
        | true =>
          rw [hA, Bool.true_and] at ihk'
          simp only [g1, g2, g3, k1, k2, k3, k5, hA, hm, hkk, and_self, go_sem]
          repeat' ((first | ((first | apply qa | apply qb | apply qc | apply qd | apply qe | apply qf | apply qg | apply qh | apply qi | apply qj | apply qk) <;> intro hp) | ((first | refine ql rfl rfl (by decide +kernel) ?_ | refine qm _ rfl rfl (by decide +kernel) ?_) <;> have hp := True.intro)) <;> simp only [hp, g1, g2, g3, k1, k2, k3, k5, hA, hm, hkk, and_self, go_sem])
          all_goals exact ihk'
      · have k1 : ¬ (k : Int) < keys.length := by omega
        rw [List.take_of_length_le hkl]
        cases hA : allB m keys with
        | false =>
          rw [hA] at ih'
          simp only [Bool.false_eq_true, if_false, List.append_nil] at ih'
          simp only [g1, g2, g3, g5, k1, hA, go_sem]
          repeat' ((first | ((first | apply qa | apply qb | apply qc | apply qd | apply qe | apply qf | apply qg | apply qh | apply qi | apply qj | apply qk) <;> intro hp) | ((first | refine ql rfl rfl (by decide +kernel) ?_ | refine qm _ rfl rfl (by decide +kernel) ?_) <;> have hp := True.intro)) <;> simp only [hp, g1, g2, g3, g5, k1, hA, go_sem])
          all_goals exact ih'
        | true =>
          rw [hA] at ih'
          simp only [if_true] at ih'
          simp only [g1, g2, g3, g5, k1, hA, b3, b5, b6, go_sem]
          repeat' ((first | ((first | apply qa | apply qb | apply qc | apply qd | apply qe | apply qf | apply qg | apply qh | apply qi | apply qj | apply qk) <;> intro hp) | ((first | refine ql rfl rfl (by decide +kernel) ?_ | refine qm _ rfl rfl (by decide +kernel) ?_) <;> have hp := True.intro)) <;> simp only [hp, g1, g2, g3, g5, k1, hA, b3, b5, b6, go_sem])
          all_goals exact ih'
    · have g1 : ¬ (i : Int) < b.Mails.length := by omega
      rw [List.take_of_length_le h] at hD ⊢
      simp only [g1, go_sem]
      repeat' ((first | ((first | apply qa | apply qb | apply qc | apply qd | apply qe | apply qf | apply qg | apply qh | apply qi | apply qj | apply qk) <;> intro hp) | ((first | refine ql rfl rfl (by decide +kernel) ?_ | refine qm _ rfl rfl (by decide +kernel) ?_) <;> have hp := True.intro)) <;> simp only [hp, g1, go_sem])
      all_goals (simp only [fin_mk, finV, resL, resV1, resIn, endA, listIn, Option.some_or, Option.none_or, oneOrTup, go_sem]; rw [← hr])
end Go.Proofs.YtimiccneikhkgaaGreatDoor.L

namespace Go.Proofs.YtimiccneikhkgaaGreatDoor.L
open Go Go.VM
set_option maxRecDepth 100000
set_option maxHeartbeats 4000000
set_option linter.unusedSimpArgs false
set_option linter.unusedVariables false
def both (a b : List Range) (n : Int) : Bool := hasR a n && hasR b n
def meetL (a b : List Range) : List Range := scan ((nums 9999).filter fun n => both a b n)
open Classical in
noncomputable def spHasMeet : VM.Spec := { modes := [.rd, .rd, .rd], run := fun | [.int .i64 n, .rptr (.lst 2 a'), .rptr (.lst 2 b')] => (decL Range.dec a').bind fun a => (decL Range.dec b').bind fun b => if a.length ≤ 8388608 ∧ b.length ≤ 8388608 then some (.bool (both a b n), []) else none | _ => none, need := [] }
attribute [go_sem] spHasMeet
theorem spHasMeet_in {ins : List V} {r : V} {outs : List V} (h : spHasMeet.run ins = some (r, outs)) : ∃ (n : Int) (a : (List Range)) (b : (List Range)), ins = [.int .i64 n, .rptr (.lst 2 ((a).map Range.enc)), .rptr (.lst 2 ((b).map Range.enc))] ∧ (a.length ≤ 8388608 ∧ b.length ≤ 8388608) ∧ .bool (both a b n) = r ∧ outs = [] := by
  unfold spHasMeet at h
  simp only at h
  split at h
  · rename_i n a' b'
    simp only [Option.bind_eq_some_iff] at h
    obtain ⟨a, h_a, b, h_b, h⟩ := h
    split at h
    case isFalse => cases h
    rename_i hc
    simp only [Option.some.injEq, Prod.mk.injEq] at h
    obtain ⟨h1, h2⟩ := h
    have h_a := decL_some (fun _ _ h => Range.dec_some h) h_a
    subst h_a
    have h_b := decL_some (fun _ _ h => Range.dec_some h) h_b
    subst h_b
    exact ⟨n, a, b, rfl, hc, h1, h2.symm⟩
  · cases h
def T_impl_SetMeet_1 : Hints := ⟨fun _ => none, fun _ => none, fun i => if i = 0 then some [0, 1, 2] else if i = 1 then some [4] else none, fun _ => none⟩
noncomputable def Phi_impl_SetMeet_1 : Tab := fun f => if f = 19 then some spSetHas else none
attribute [go_sem] T_impl_SetMeet_1 Phi_impl_SetMeet_1
theorem phi_impl_SetMeet_1 : ∀ f sp, Phi_impl_SetMeet_1 f = some sp → FnOk Tryz.prog f sp ∧ ∀ n ∈ sp.need, n ∈ ([] : List String) := by
  intro f sp h
  unfold Phi_impl_SetMeet_1 at h
  by_cases e : f = 19
  · rw [if_pos e] at h; cases h; rw [e]; exact ⟨ok_impl_SetHas, (fun n (h : n ∈ ([] : List String)) => (nomatch h))⟩
  rw [if_neg e] at h
  cases h
theorem ok_impl_SetMeet_1 : FnOk Tryz.prog 77 spHasMeet := by
  refine fn_ok (Φ := Phi_impl_SetMeet_1) (T := T_impl_SetMeet_1) phi_impl_SetMeet_1 mixed Tryz.func77 rfl rfl rfl (by decide) ?_
  intro ins r outs hr hl
  clear hl
  have hs := spHasMeet_in hr
  clear hr
  obtain ⟨n, a, b, rfl, hc, hr, rfl⟩ := hs
  simp only [spHasMeet, Tryz.f77, Go.VM.initS]
  obtain ⟨h1, h2⟩ := hc
  cases k : hasR a n with
  | true =>
    simp only [h1, h2, k, go_sem]
    repeat' ((first | apply qa | apply qb | apply qc | apply qd | apply qe | apply qf | apply qg | apply qh | apply qi | apply qj | apply qk) <;> intro hp <;> simp only [hp, h1, h2, k, go_sem])
    simp only [fin_mk, finV, resL, resV1, resIn, endA, listIn, Option.some_or, Option.none_or, oneOrTup, go_sem]
    rw [← hr]
    simp only [both, k, Bool.true_and]
  | false =>
    simp only [h1, h2, k, go_sem]
    repeat' ((first | apply qa | apply qb | apply qc | apply qd | apply qe | apply qf | apply qg | apply qh | apply qi | apply qj | apply qk) <;> intro hp <;> simp only [hp, h1, h2, k, go_sem])
    simp only [fin_mk, finV, resL, resV1, resIn, endA, listIn, Option.some_or, Option.none_or, oneOrTup, go_sem]
    rw [← hr]
    simp only [both, k, Bool.false_and]
open Classical in
noncomputable def spSetOfMeet : VM.Spec := { modes := [.rd], run := fun | [.fn 77 [.rptr (.lst 2 a'), .rptr (.lst 2 b')]] => (decL Range.dec a').bind fun a => (decL Range.dec b').bind fun b => if a.length ≤ 8388608 ∧ b.length ≤ 8388608 then some (.tup [.lst 2 ((meetL a b).map Range.enc), .bool (decide ((meetL a b).length ≤ 40))], []) else none | _ => none, need := [] }
attribute [go_sem] spSetOfMeet
theorem spSetOfMeet_in {ins : List V} {r : V} {outs : List V} (h : spSetOfMeet.run ins = some (r, outs)) : ∃ (a b : List Range), ins = [.fn 77 [.rptr (.lst 2 (a.map Range.enc)), .rptr (.lst 2 (b.map Range.enc))]] ∧ (a.length ≤ 8388608 ∧ b.length ≤ 8388608) ∧ .tup [.lst 2 ((meetL a b).map Range.enc), .bool (decide ((meetL a b).length ≤ 40))] = r ∧ outs = [] := by
  unfold spSetOfMeet at h
  simp only at h
  split at h
  · rename_i a' b'
    simp only [Option.bind_eq_some_iff] at h
    obtain ⟨a, h_a, b, h_b, h⟩ := h
    split at h
    case isFalse => cases h
    rename_i hc
    simp only [Option.some.injEq, Prod.mk.injEq] at h
    obtain ⟨h1, h2⟩ := h
    have h_a := decL_some (fun _ _ h => Range.dec_some h) h_a
    subst h_a
    have h_b := decL_some (fun _ _ h => Range.dec_some h) h_b
    subst h_b
    exact ⟨a, b, rfl, hc, h1, h2.symm⟩
  · cases h
def T_impl_setOf_meet : Hints := ⟨fun _ => none, fun i => if i = 3 then some [0, 4, 5] else none, fun i => if i = 0 then some [0] else if i = 1 then some [0, 4] else if i = 2 then some [0, 4, 5] else if i = 3 then some [0, 4, 5, 9] else if i = 5 then some [0, 4, 5, 15] else if i = 6 then some [0, 4, 5, 6] else if i = 7 then some [0, 4, 5, 6, 30] else if i = 8 then some [0, 4, 5] else if i = 9 then some [0, 4, 5] else if i = 4 then some [0, 4, 5] else if i = 10 then some [2, 3] else none, fun _ => none⟩
noncomputable def Phi_impl_setOf_meet : Tab := fun f => if f = 77 then some spHasMeet else none
attribute [go_sem] T_impl_setOf_meet Phi_impl_setOf_meet
theorem phi_impl_setOf_meet : ∀ f sp, Phi_impl_setOf_meet f = some sp → FnOk Tryz.prog f sp ∧ ∀ n ∈ sp.need, n ∈ ([] : List String) := by
  intro f sp h
  unfold Phi_impl_setOf_meet at h
  by_cases e : f = 77
  · rw [if_pos e] at h; cases h; rw [e]; exact ⟨ok_impl_SetMeet_1, (fun n (h : n ∈ ([] : List String)) => (nomatch h))⟩
  rw [if_neg e] at h
  cases h
theorem ok_impl_setOf_meet : FnOk Tryz.prog 76 spSetOfMeet := by
  refine fn_ok (Φ := Phi_impl_setOf_meet) (T := T_impl_setOf_meet) phi_impl_setOf_meet mixed Tryz.func76 rfl rfl rfl (by decide) ?_
  intro ins r outs hr hl
  clear hl
  have hs := spSetOfMeet_in hr
  clear hr
  obtain ⟨a, b, rfl, hc, hr, rfl⟩ := hs
  simp only [spSetOfMeet, Tryz.f76, Go.VM.initS]
  simp only [go_sem]
  repeat' ((first | apply qa | apply qb | apply qc | apply qd | apply qe | apply qf | apply qg | apply qh | apply qi | apply qj | apply qk) <;> intro hp <;> simp only [hp, go_sem])
  refine loop_go (fun i : Nat => [(5, .int .i64 ((i + 1 : Nat) : Int))]) (fun i => [(0, ⟨.arr, 2, (scan ((nums i).filter fun n => both a b n)).map Range.enc⟩)]) (fun i => 9999 - i) (fun i => i ≤ 9999) 0 (Nat.zero_le _) rfl rfl ?_
  intro i hi ih
  have hsl : (scan ((nums i).filter fun n => both a b n)).length ≤ i := by
    refine Nat.le_trans (scan_len _) (Nat.le_trans (List.length_filter_le _ _) ?_)
    simp [nums]
  rcases Nat.lt_or_ge i 9999 with h | h
  · have g1 : ((i + 1 : Nat) : Int) ≤ 9999 := by omega
    have g5 : IntKind.i64.wrap (((i + 1 : Nat) : Int) + 1) = ((i + 1 + 1 : Nat) : Int) := wrap_succ (n := 10002) (by omega) (by omega)
    have g6 : IntKind.i64.wrap (((i + 1 : Nat) : Int) - 1) = (i : Int) := (wrap64 (by omega) (by omega)).trans (by omega)
    have ih' := ih (i + 1) h (by omega)
    rw [filter_nums_succ] at ih'
    clear ih
    cases hm : both a b ((i + 1 : Nat) : Int) with
    | false =>
      rw [hm, if_neg (by simp), List.append_nil] at ih'
      simp only [hc, g1, g5, hm, go_sem]
      repeat' ((first | apply qa | apply qb | apply qc | apply qd | apply qe | apply qf | apply qg | apply qh | apply qi | apply qj | apply qk) <;> intro hp <;> simp only [hp, hc, g1, g5, hm, go_sem])
      exact ih'
    | true =>
      rw [hm, if_pos rfl, scan_snoc] at ih'
      generalize hO : scan ((nums i).filter fun n => both a b n) = O at *
      rcases snoc_cases O with rfl | ⟨a, r', rfl⟩
      · rw [push_nil] at ih'
        have b3 : IntKind.i64.wrap (((0 : Nat) : Int) - 1) = -1 := rfl
        simp only [hc, g1, g5, hm, b3, go_sem]
        repeat' ((first | apply qa | apply qb | apply qc | apply qd | apply qe | apply qf | apply qg | apply qh | apply qi | apply qj | apply qk) <;> intro hp <;> simp only [hp, hc, g1, g5, hm, b3, go_sem])
        exact ih'
      · have hla : a.length + 1 ≤ i := by simpa using hsl
        have b3 : IntKind.i64.wrap (((a.length + 1 : Nat) : Int) - 1) = (a.length : Int) := (wrap64 (by omega) (by omega)).trans (by omega)
        have b4 : (0 : Int) ≤ (a.length : Int) := by omega
        have b5 : (a.length : Int) < ((a.length + 1 : Nat) : Int) := by omega
        have b6 : (List.map Range.enc (a ++ [r']))[a.length]? = some r'.enc := by simp
        have b7 : (List.map Range.enc (a ++ [r'])).set a.length (V.agg [.int .i64 r'.Lo, .int .i64 ((i + 1 : Nat) : Int)]) = List.map Range.enc (a ++ [⟨r'.Lo, ((i + 1 : Nat) : Int)⟩]) := by
          simp [Range.enc]
        have b8 : (List.map Range.enc (a ++ [r'])).length = a.length + 1 := by simp
        have b9 : (a ++ [r']).length = a.length + 1 := by simp
        have b10 : (a.length + 1 + 1) * 16 ≤ 140737488355328 := by omega
        have b11 : a.length + 1 ≤ 9223372036854775806 := by omega
        have b12 : a.length ≤ 9223372036854775805 := by omega
        rw [push_snoc] at ih'
        cases hH : (r'.Hi == (i : Int)) with
        | true =>
          have hH' : r'.Hi = ((i + 1 : Nat) : Int) - 1 := by simp only [beq_iff_eq] at hH; omega
          rw [if_pos hH', ← b7] at ih'
          clear b7
          generalize hX : List.map Range.enc (a ++ [r']) = X at *
          simp only [hc, g1, g5, g6, hm, b3, b4, b5, b6, b8, b9, hH, go_sem]
          repeat' ((first | apply qa | apply qb | apply qc | apply qd | apply qe | apply qf | apply qg | apply qh | apply qi | apply qj | apply qk) <;> intro hp <;> simp only [hp, hc, g1, g5, g6, hm, b3, b4, b5, b6, b8, b9, hH, go_sem])
          exact ih'
        | false =>
          have hH' : ¬ r'.Hi = ((i + 1 : Nat) : Int) - 1 := by rw [beq_eq_false_iff_ne] at hH; omega
          rw [if_neg hH', List.map_append, List.map_cons, List.map_nil] at ih'
          clear b7
          generalize hX : List.map Range.enc (a ++ [r']) = X at *
          simp only [hc, g1, g5, g6, hm, b3, b4, b5, b6, b8, b9, b10, b11, b12, hH, go_sem]
          repeat' ((first | apply qa | apply qb | apply qc | apply qd | apply qe | apply qf | apply qg | apply qh | apply qi | apply qj | apply qk) <;> intro hp <;> simp only [hp, hc, g1, g5, g6, hm, b3, b4, b5, b6, b8, b9, b10, b11, b12, hH, go_sem])
          all_goals first | exact ih' | (clear ih'; omega)
  · have hi9 : i = 9999 := by omega
    subst hi9
    have g1 : ¬ (((9999 + 1 : Nat) : Int)) ≤ 9999 := by decide
    have hB : scan ((nums 9999).filter fun n => both a b n) = meetL a b := rfl
    rw [hB]
    have e : decide (((meetL a b).length : Int) ≤ 40) = decide ((meetL a b).length ≤ 40) := by rw [Bool.eq_iff_iff]; simp; omega
    simp only [g1, e, go_sem]
    repeat' ((first | apply qa | apply qb | apply qc | apply qd | apply qe | apply qf | apply qg | apply qh | apply qi | apply qj | apply qk) <;> intro hp <;> simp only [hp, g1, e, go_sem])
    all_goals (simp only [fin_mk, finV, resL, resV1, resIn, endA, listIn, Option.some_or, Option.none_or, oneOrTup, go_sem]; rw [← hr])
theorem meet_ok {a b : List Range} : Asc ((nums 9999).filter fun n => both a b n) 9999 := (nums_asc 9999).filter _
def setMeet (a b : List Range) : List Range := if ((decide ((meetL a b).length ≤ 40) && setOk a) && setOk b) = true then meetL a b else []
def setMeetOk (a b : List Range) : Bool := (decide ((meetL a b).length ≤ 40) && setOk a) && setOk b
open Classical in
noncomputable def spSetMeet : VM.Spec := { modes := [.rd, .rd], run := fun | [.lst 2 a', .lst 2 b'] => (decL Range.dec a').bind fun a => (decL Range.dec b').bind fun b => if a.length ≤ 4194304 ∧ b.length ≤ 4194304 then some (.tup [.lst 2 ((setMeet a b).map Range.enc), .bool (setMeetOk a b)], []) else none | _ => none, need := [] }
attribute [go_sem] spSetMeet
theorem spSetMeet_in {ins : List V} {r : V} {outs : List V} (h : spSetMeet.run ins = some (r, outs)) : ∃ (a : (List Range)) (b : (List Range)), ins = [.lst 2 ((a).map Range.enc), .lst 2 ((b).map Range.enc)] ∧ (a.length ≤ 4194304 ∧ b.length ≤ 4194304) ∧ .tup [.lst 2 ((setMeet a b).map Range.enc), .bool (setMeetOk a b)] = r ∧ outs = [] := by
  unfold spSetMeet at h
  simp only at h
  split at h
  · rename_i a' b'
    simp only [Option.bind_eq_some_iff] at h
    obtain ⟨a, h_a, b, h_b, h⟩ := h
    split at h
    case isFalse => cases h
    rename_i hc
    simp only [Option.some.injEq, Prod.mk.injEq] at h
    obtain ⟨h1, h2⟩ := h
    have h_a := decL_some (fun _ _ h => Range.dec_some h) h_a
    subst h_a
    have h_b := decL_some (fun _ _ h => Range.dec_some h) h_b
    subst h_b
    exact ⟨a, b, rfl, hc, h1, h2.symm⟩
  · cases h
def T_impl_SetMeet : Hints := ⟨fun _ => none, fun _ => none, fun i => if i = 0 then some [2, 3] else if i = 1 then some [2, 3, 6, 7] else if i = 2 then some [6, 24] else if i = 3 then some [4, 5] else if i = 4 then some [4, 5] else none, fun _ => none⟩
noncomputable def Phi_impl_SetMeet : Tab := fun f => if f = 76 then some spSetOfMeet else if f = 64 then some spSetOk else if f = 77 then some spHasMeet else none
attribute [go_sem] T_impl_SetMeet Phi_impl_SetMeet
theorem phi_impl_SetMeet : ∀ f sp, Phi_impl_SetMeet f = some sp → FnOk Tryz.prog f sp ∧ ∀ n ∈ sp.need, n ∈ ([] : List String) := by
  intro f sp h
  unfold Phi_impl_SetMeet at h
  by_cases e : f = 76
  · rw [if_pos e] at h; cases h; rw [e]; exact ⟨ok_impl_setOf_meet, (fun n (h : n ∈ ([] : List String)) => (nomatch h))⟩
  rw [if_neg e] at h
  by_cases e : f = 64
  · rw [if_pos e] at h; cases h; rw [e]; exact ⟨ok_impl_SetOk, (fun n (h : n ∈ ([] : List String)) => (nomatch h))⟩
  rw [if_neg e] at h
  by_cases e : f = 77
  · rw [if_pos e] at h; cases h; rw [e]; exact ⟨ok_impl_SetMeet_1, (fun n (h : n ∈ ([] : List String)) => (nomatch h))⟩
  rw [if_neg e] at h
  cases h
theorem ok_impl_SetMeet : FnOk Tryz.prog 20 spSetMeet := by
  refine fn_ok (Φ := Phi_impl_SetMeet) (T := T_impl_SetMeet) phi_impl_SetMeet mixed Tryz.func20 rfl rfl rfl (by decide) ?_
  intro ins r outs hr hl
  clear hl
  have hs := spSetMeet_in hr
  clear hr
  obtain ⟨a, b, rfl, hc, hr, rfl⟩ := hs
  simp only [spSetMeet, Tryz.f20, Go.VM.initS]
  obtain ⟨h1, h2⟩ := hc
  have h3 : a.length ≤ 8388608 := by omega
  have h4 : b.length ≤ 8388608 := by omega
  cases k0 : decide ((meetL a b).length ≤ 40) with
  | false =>
    have e1 : setMeetOk a b = false := by rw [setMeetOk, k0]; rfl
    have e2 : setMeet a b = [] := by rw [setMeet, k0]; rfl
    rw [e1, e2] at hr
    simp only [h1, h2, h3, h4, k0, go_sem]
    repeat' ((first | apply qa | apply qb | apply qc | apply qd | apply qe | apply qf | apply qg | apply qh | apply qi | apply qj | apply qk) <;> intro hp <;> simp only [hp, h1, h2, h3, h4, k0, go_sem])
    simp only [fin_mk, finV, resL, resV1, resIn, endA, listIn, Option.some_or, Option.none_or, oneOrTup, go_sem]
    rw [← hr]
    first | rfl | skip
  | true =>
    cases k1 : setOk a with
    | false =>
      have e1 : setMeetOk a b = false := by rw [setMeetOk, k0, k1]; rfl
      have e2 : setMeet a b = [] := by rw [setMeet, k0, k1]; rfl
      rw [e1, e2] at hr
      simp only [h1, h2, h3, h4, k0, k1, go_sem]
      repeat' ((first | apply qa | apply qb | apply qc | apply qd | apply qe | apply qf | apply qg | apply qh | apply qi | apply qj | apply qk) <;> intro hp <;> simp only [hp, h1, h2, h3, h4, k0, k1, go_sem])
      simp only [fin_mk, finV, resL, resV1, resIn, endA, listIn, Option.some_or, Option.none_or, oneOrTup, go_sem]
      rw [← hr]
      first | rfl | skip
    | true =>
      cases k2 : setOk b with
      | false =>
        have e1 : setMeetOk a b = false := by rw [setMeetOk, k0, k1, k2]; rfl
        have e2 : setMeet a b = [] := by rw [setMeet, k0, k1, k2]; rfl
        rw [e1, e2] at hr
        simp only [h1, h2, h3, h4, k0, k1, k2, go_sem]
        repeat' ((first | apply qa | apply qb | apply qc | apply qd | apply qe | apply qf | apply qg | apply qh | apply qi | apply qj | apply qk) <;> intro hp <;> simp only [hp, h1, h2, h3, h4, k0, k1, k2, go_sem])
        simp only [fin_mk, finV, resL, resV1, resIn, endA, listIn, Option.some_or, Option.none_or, oneOrTup, go_sem]
        rw [← hr]
        first | rfl | skip
      | true =>
        have e1 : setMeetOk a b = true := by rw [setMeetOk, k0, k1, k2]; rfl
        have e2 : setMeet a b = meetL a b := by rw [setMeet, k0, k1, k2]; rfl
        rw [e1, e2] at hr
        simp only [h1, h2, h3, h4, k0, k1, k2, go_sem]
        repeat' ((first | apply qa | apply qb | apply qc | apply qd | apply qe | apply qf | apply qg | apply qh | apply qi | apply qj | apply qk) <;> intro hp <;> simp only [hp, h1, h2, h3, h4, k0, k1, k2, go_sem])
        simp only [fin_mk, finV, resL, resV1, resIn, endA, listIn, Option.some_or, Option.none_or, oneOrTup, go_sem]
        rw [← hr]
        first | rfl | skip
end Go.Proofs.YtimiccneikhkgaaGreatDoor.L

namespace Go.Proofs.YtimiccneikhkgaaGreatDoor.L
open Go Go.VM
set_option maxRecDepth 100000
set_option maxHeartbeats 4000000
set_option linter.unusedSimpArgs false
set_option linter.unusedVariables false
def sizeL (s : List Range) : Int := s.foldl (fun n r => n + r.Hi - r.Lo + 1) 0
def setSize (s : List Range) : Int := if setOk s = true then sizeL s else 0
theorem sizeL_snoc (s : List Range) (r : Range) : sizeL (s ++ [r]) = sizeL s + r.Hi - r.Lo + 1 := by simp [sizeL, List.foldl_append]
theorem size_at {s : List Range} (h : setOk s = true) {i : Nat} (hi : i < s.length) : 1 ≤ s[i].Lo ∧ s[i].Lo ≤ s[i].Hi ∧ s[i].Hi ≤ 9999 := by
  simp only [setOk, Bool.and_eq_true] at h
  have := allN_get h.1 hi
  simp only [rangeAt, Bool.and_eq_true, within, decide_eq_true_eq, List.getD_eq_getElem?_getD, List.getElem?_eq_getElem hi, Option.getD_some] at this
  exact ⟨this.1.1.1, this.1.2.1, this.1.2.2⟩
open Classical in
noncomputable def spSetSize : VM.Spec := { modes := [.rd], run := fun | [.lst 2 s'] => (decL Range.dec s').bind fun s => if s.length ≤ 4194304 then some (.int .i64 (setSize s), []) else none | _ => none, need := [] }
attribute [go_sem] spSetSize
theorem spSetSize_in {ins : List V} {r : V} {outs : List V} (h : spSetSize.run ins = some (r, outs)) : ∃ (s : (List Range)), ins = [.lst 2 ((s).map Range.enc)] ∧ (s.length ≤ 4194304) ∧ .int .i64 (setSize s) = r ∧ outs = [] := by
  unfold spSetSize at h
  simp only at h
  split at h
  · rename_i s'
    simp only [Option.bind_eq_some_iff] at h
    obtain ⟨s, h_s, h⟩ := h
    split at h
    case isFalse => cases h
    rename_i hc
    simp only [Option.some.injEq, Prod.mk.injEq] at h
    obtain ⟨h1, h2⟩ := h
    have h_s := decL_some (fun _ _ h => Range.dec_some h) h_s
    subst h_s
    exact ⟨s, rfl, hc, h1, h2.symm⟩
  · cases h
def T_spec_SetSize : Hints := ⟨fun i => if i = 7 then some [] else none, fun i => if i = 5 then some [0, 3, 4] else none, fun i => if i = 0 then some [0] else if i = 1 then some [0, 7] else if i = 2 then some [2] else if i = 3 then some [0, 3] else if i = 4 then some [0, 3, 4] else if i = 5 then some [0, 3, 4, 11] else if i = 7 then some [0, 3, 4] else if i = 6 then some [0, 3, 4] else if i = 8 then some [2] else none, fun _ => none⟩
noncomputable def Phi_spec_SetSize : Tab := fun f => if f = 56 then some spSetOk else none
attribute [go_sem] T_spec_SetSize Phi_spec_SetSize
theorem phi_spec_SetSize : ∀ f sp, Phi_spec_SetSize f = some sp → FnOk Tryz.prog f sp ∧ ∀ n ∈ sp.need, n ∈ ([] : List String) := by
  intro f sp h
  unfold Phi_spec_SetSize at h
  by_cases e : f = 56
  · rw [if_pos e] at h; cases h; rw [e]; exact ⟨ok_spec_SetOk, (fun n (h : n ∈ ([] : List String)) => (nomatch h))⟩
  rw [if_neg e] at h
  cases h
theorem ok_spec_SetSize : FnOk Tryz.prog 22 spSetSize := by
  refine fn_ok (Φ := Phi_spec_SetSize) (T := T_spec_SetSize) phi_spec_SetSize mixed Tryz.func22 rfl rfl rfl (by decide) ?_
  intro ins r outs hr hl
  clear hl
  have hs := spSetSize_in hr
  clear hr
  obtain ⟨s, rfl, hc, hr, rfl⟩ := hs
  simp only [spSetSize, Tryz.f22, Go.VM.initS]
  cases k : setOk s with
  | false =>
    simp only [hc, k, go_sem]
    repeat' ((first | ((first | apply qa | apply qb | apply qc | apply qd | apply qe | apply qf | apply qg | apply qh | apply qi | apply qj | apply qk) <;> intro hp) | ((first | refine ql rfl rfl (by decide +kernel) ?_ | refine qm _ rfl rfl (by decide +kernel) ?_) <;> have hp := True.intro)) <;> simp only [hp, hc, k, go_sem])
    simp only [fin_mk, finV, resL, resV1, resIn, endA, listIn, Option.some_or, Option.none_or, oneOrTup, go_sem]
    rw [← hr]
    simp only [setSize, k, Bool.false_eq_true, if_false]
  | true =>
  have hl : s.length ≤ 40 := by simp only [setOk, Bool.and_eq_true, decide_eq_true_eq] at k; exact k.2
  simp only [hc, k, go_sem]
  repeat' ((first | ((first | apply qa | apply qb | apply qc | apply qd | apply qe | apply qf | apply qg | apply qh | apply qi | apply qj | apply qk) <;> intro hp) | ((first | refine ql rfl rfl (by decide +kernel) ?_ | refine qm _ rfl rfl (by decide +kernel) ?_) <;> have hp := True.intro)) <;> simp only [hp, hc, k, go_sem])
  refine loop_go (fun p : Nat × Int => [(3, .int .i64 p.2), (4, .int .i64 (p.1 : Int))]) (fun _ => []) (fun p => s.length - p.1) (fun p => p.1 ≤ s.length ∧ p.2 = sizeL (s.take p.1) ∧ 0 ≤ p.2 ∧ p.2 ≤ 9999 * p.1) (0, 0) ⟨Nat.zero_le _, rfl, by simp, by simp⟩ rfl rfl ?_
  rintro ⟨i, n⟩ ⟨hi, hn, h0, h1⟩ ih
  simp only at hi hn h0 h1 ih
  rcases Nat.lt_or_ge i s.length with h | h
  · have g1 : (i : Int) < s.length := by omega
    have g2 : (0 : Int) ≤ i := by omega
    have g3 : s[i]? = some s[i] := List.getElem?_eq_getElem h
    have g5 := wrap_succ h (by omega)
    obtain ⟨a1, a2, a3⟩ := size_at k h
    have w1 : IntKind.i64.wrap (n + s[i].Hi) = n + s[i].Hi := wrap64 (by omega) (by omega)
    have w2 : IntKind.i64.wrap (n + s[i].Hi - s[i].Lo) = n + s[i].Hi - s[i].Lo := wrap64 (by omega) (by omega)
    have w3 : IntKind.i64.wrap (n + s[i].Hi - s[i].Lo + 1) = n + s[i].Hi - s[i].Lo + 1 := wrap64 (by omega) (by omega)
    have ih' := ih (i + 1, n + s[i].Hi - s[i].Lo + 1) ⟨h, by rw [take_succ' h, sizeL_snoc, hn], by simp only; omega, by simp only; omega⟩ (by simp only; omega)
    simp only [g1, g2, g3, g5, w1, w2, w3, go_sem]
    repeat' ((first | ((first | apply qa | apply qb | apply qc | apply qd | apply qe | apply qf | apply qg | apply qh | apply qi | apply qj | apply qk) <;> intro hp) | ((first | refine ql rfl rfl (by decide +kernel) ?_ | refine qm _ rfl rfl (by decide +kernel) ?_) <;> have hp := True.intro)) <;> simp only [hp, g1, g2, g3, g5, w1, w2, w3, go_sem])
    exact ih'
  · have g1 : ¬ (i : Int) < s.length := by omega
    simp only [g1, go_sem]
    repeat' ((first | ((first | apply qa | apply qb | apply qc | apply qd | apply qe | apply qf | apply qg | apply qh | apply qi | apply qj | apply qk) <;> intro hp) | ((first | refine ql rfl rfl (by decide +kernel) ?_ | refine qm _ rfl rfl (by decide +kernel) ?_) <;> have hp := True.intro)) <;> simp only [hp, g1, go_sem])
    simp only [fin_mk, finV, resL, resV1, resIn, endA, listIn, Option.some_or, Option.none_or, oneOrTup, go_sem]
    rw [← hr]
    rw [setSize, if_pos k, hn, List.take_of_length_le h]
theorem sizeL_push (out : List Range) (n : Int) : sizeL (push out n) = sizeL out + 1 := by
  rcases snoc_cases out with rfl | ⟨a, r, rfl⟩
  · rw [push_nil]; simp [sizeL]
  · rw [push_snoc]
    split
    · rw [sizeL_snoc, sizeL_snoc]; simp only; omega
    · rw [sizeL_snoc (a ++ [r])]; simp only; omega
theorem sizeL_scan (l : List Int) : sizeL (scan l) = l.length := by
  induction l using snoc_ind with
  | h0 => rfl
  | h1 l x ih => rw [scan_snoc, sizeL_push, ih, List.length_append, List.length_singleton]; omega
end Go.Proofs.YtimiccneikhkgaaGreatDoor.L

namespace Go.Proofs.YtimiccneikhkgaaGreatDoor.L
open Go Go.VM
set_option maxRecDepth 100000
set_option maxHeartbeats 4000000
set_option linter.unusedSimpArgs false
set_option linter.unusedVariables false
def varN (n : Nat) : List UInt8 := if 127 < n then UInt8.ofNat (n % 128 + 128) :: varN (n / 128) else [UInt8.ofNat n]
termination_by n
decreasing_by omega
theorem varN_big {n : Nat} (h : 127 < n) : varN n = UInt8.ofNat (n % 128 + 128) :: varN (n / 128) := by rw [varN, if_pos h]
theorem varN_small {n : Nat} (h : ¬ 127 < n) : varN n = [UInt8.ofNat n] := by rw [varN, if_neg h]
theorem varN_len (n : Nat) : (varN n).length ≤ n + 1 := by
  induction n using Nat.strongRecOn with
  | ind n ih =>
    by_cases h : 127 < n
    · rw [varN_big h]
      have := ih (n / 128) (by omega)
      simp; omega
    · rw [varN_small h]; simp
theorem u8_of {n : Nat} (h : n < 256) : IntKind.u8.wrap (n : Int) = (UInt8.ofNat n).toNat := by
  rw [UInt8.toNat_ofNat_of_lt' (by simpa using h)]
  simp only [IntKind.wrap, IntKind.signed, IntKind.bits]
  simp; omega
theorem tmod_nat (m k : Nat) : (m : Int).tmod k = ((m % k : Nat) : Int) := by
  rw [Int.tmod_eq_emod_of_nonneg (by omega)]; omega
theorem tdiv_nat (m k : Nat) : (m : Int).tdiv k = ((m / k : Nat) : Int) := by
  rw [Int.tdiv_eq_ediv_of_nonneg (by omega)]; omega
theorem app_u8 (acc : List UInt8) {x : Int} {b : UInt8} (h : x = b.toNat) : bytesV acc ++ [V.int .u8 x] = bytesV (acc ++ [b]) := by rw [h]; exact bytesV_app acc [b]
def varText (n : Int) : List UInt8 := if within n 0 1000000000 = true then varN n.toNat else []
def shortText (s : List UInt8) : List UInt8 := if s.length ≤ 20000 then varN s.length ++ s else []
open Classical in
noncomputable def spVarText : VM.Spec := { modes := [.rd], run := fun | [.int .i64 n] => some (.tup [.str (varText n), .bool (within n 0 1000000000)], []) | _ => none, need := [] }
attribute [go_sem] spVarText
theorem spVarText_in {ins : List V} {r : V} {outs : List V} (h : spVarText.run ins = some (r, outs)) : ∃ (n : Int), ins = [.int .i64 n] ∧ .tup [.str (varText n), .bool (within n 0 1000000000)] = r ∧ outs = [] := by
  unfold spVarText at h
  simp only at h
  split at h
  · rename_i n
    simp only [Option.some.injEq, Prod.mk.injEq] at h
    obtain ⟨h1, h2⟩ := h
    exact ⟨n, rfl, h1, h2.symm⟩
  · cases h
open Classical in
noncomputable def spVarBytes : VM.Spec := { modes := [.rd], run := fun | [.int .i64 n] => if 0 ≤ n ∧ n ≤ 70368744177664 then some (.str (varN n.toNat), []) else none | _ => none, need := [] }
attribute [go_sem] spVarBytes
theorem spVarBytes_in {ins : List V} {r : V} {outs : List V} (h : spVarBytes.run ins = some (r, outs)) : ∃ (n : Int), ins = [.int .i64 n] ∧ (0 ≤ n ∧ n ≤ 70368744177664) ∧ .str (varN n.toNat) = r ∧ outs = [] := by
  unfold spVarBytes at h
  simp only at h
  split at h
  · rename_i n
    split at h
    case isFalse => cases h
    rename_i hc
    simp only [Option.some.injEq, Prod.mk.injEq] at h
    obtain ⟨h1, h2⟩ := h
    exact ⟨n, rfl, hc, h1, h2.symm⟩
  · cases h
open Classical in
noncomputable def spShortText : VM.Spec := { modes := [.rd], run := fun | [.str s] => if s.length ≤ 4194304 then some (.tup [.str (shortText s), .bool (decide (s.length ≤ 20000))], []) else none | _ => none, need := [] }
attribute [go_sem] spShortText
theorem spShortText_in {ins : List V} {r : V} {outs : List V} (h : spShortText.run ins = some (r, outs)) : ∃ (s : (List UInt8)), ins = [.str s] ∧ (s.length ≤ 4194304) ∧ .tup [.str (shortText s), .bool (decide (s.length ≤ 20000))] = r ∧ outs = [] := by
  unfold spShortText at h
  simp only at h
  split at h
  · rename_i s
    split at h
    case isFalse => cases h
    rename_i hc
    simp only [Option.some.injEq, Prod.mk.injEq] at h
    obtain ⟨h1, h2⟩ := h
    exact ⟨s, rfl, hc, h1, h2.symm⟩
  · cases h
open Classical in
noncomputable def spShort : VM.Spec := { modes := [.rd], run := fun | [.str s] => if s.length ≤ 20000 then some (.str (varN s.length ++ s), []) else none | _ => none, need := [] }
attribute [go_sem] spShort
theorem spShort_in {ins : List V} {r : V} {outs : List V} (h : spShort.run ins = some (r, outs)) : ∃ (s : (List UInt8)), ins = [.str s] ∧ (s.length ≤ 20000) ∧ .str (varN s.length ++ s) = r ∧ outs = [] := by
  unfold spShort at h
  simp only at h
  split at h
  · rename_i s
    split at h
    case isFalse => cases h
    rename_i hc
    simp only [Option.some.injEq, Prod.mk.injEq] at h
    obtain ⟨h1, h2⟩ := h
    exact ⟨s, rfl, hc, h1, h2.symm⟩
  · cases h
open Classical in
noncomputable def spItoa : VM.Spec := { modes := [.rd], run := fun | [.int .i64 n] => if -9223372036854775808 ≤ n ∧ n ≤ 9223372036854775807 then some (.str (Lib.itoa n), []) else none | _ => none, need := ["internal/strconv.uint64pow10"] }
attribute [go_sem] spItoa
theorem spItoa_in {ins : List V} {r : V} {outs : List V} (h : spItoa.run ins = some (r, outs)) : ∃ (n : Int), ins = [.int .i64 n] ∧ (-9223372036854775808 ≤ n ∧ n ≤ 9223372036854775807) ∧ .str (Lib.itoa n) = r ∧ outs = [] := by
  unfold spItoa at h
  simp only at h
  split at h
  · rename_i n
    split at h
    case isFalse => cases h
    rename_i hc
    simp only [Option.some.injEq, Prod.mk.injEq] at h
    obtain ⟨h1, h2⟩ := h
    exact ⟨n, rfl, hc, h1, h2.symm⟩
  · cases h
theorem nDigits_le : ∀ (k u : Nat), u < 10 ^ (k + 1) → Lib.nDigits u ≤ k + 1
  | 0, u, h => by rw [Lib.nDigits_small (by simpa using h)]; omega
  | k + 1, u, h => by
    by_cases hu : u < 10
    · rw [Lib.nDigits_small hu]; omega
    · rw [Lib.nDigits_big hu]
      have := nDigits_le k (u / 10) (by rw [Nat.pow_succ] at h; omega)
      omega
theorem itoa_len {n : Int} {k : Nat} (h0 : 0 ≤ n) (h : n < 10 ^ (k + 1)) : (Lib.itoa n).length ≤ k + 1 := by
  rw [Lib.itoa, if_neg (by omega), Lib.decDigits_length]
  exact nDigits_le k n.toNat (by
    have e : ((n.toNat : Nat) : Int) = n := by omega
    have : ((n.toNat : Nat) : Int) < ((10 ^ (k + 1) : Nat) : Int) := by rw [e]; simpa using h
    exact_mod_cast this)
theorem itoa10 {n : Int} (h0 : 0 ≤ n) (h : n ≤ 1000000000) : (Lib.itoa n).length ≤ 10 := itoa_len (k := 9) h0 (by omega)
theorem itoa4 {n : Int} (h0 : 0 ≤ n) (h : n ≤ 9999) : (Lib.itoa n).length ≤ 4 := itoa_len (k := 3) h0 (by omega)
def dig (m : Nat) : List UInt8 := if m = 0 then [] else Lib.decDigits m
theorem dig_step {m : Nat} (h : m ≠ 0) : dig m = dig (m / 10) ++ [UInt8.ofNat (48 + m % 10)] := by
  unfold dig
  rw [if_neg h, Lib.decDigits]
  by_cases h1 : m < 10
  · rw [dif_pos h1, if_pos (by omega), Nat.mod_eq_of_lt h1]; rfl
  · rw [dif_neg h1, if_neg (by omega)]
theorem dig_len (m : Nat) : (dig m).length ≤ m := by
  induction m using Nat.strongRecOn with
  | ind m ih =>
    by_cases h : m = 0
    · subst h; simp [dig]
    · rw [dig_step h, List.length_append]
      have := ih (m / 10) (by omega)
      simp; omega
open Classical in
noncomputable def spDecimal : VM.Spec := { modes := [.rd], run := fun | [.int .i64 n] => if 0 ≤ n ∧ n ≤ 1000000000 then some (.str (Lib.itoa n), []) else none | _ => none, need := ["internal/strconv.uint64pow10"] }
attribute [go_sem] spDecimal
theorem spDecimal_in {ins : List V} {r : V} {outs : List V} (h : spDecimal.run ins = some (r, outs)) : ∃ (n : Int), ins = [.int .i64 n] ∧ (0 ≤ n ∧ n ≤ 1000000000) ∧ .str (Lib.itoa n) = r ∧ outs = [] := by
  unfold spDecimal at h
  simp only at h
  split at h
  · rename_i n
    split at h
    case isFalse => cases h
    rename_i hc
    simp only [Option.some.injEq, Prod.mk.injEq] at h
    obtain ⟨h1, h2⟩ := h
    exact ⟨n, rfl, hc, h1, h2.symm⟩
  · cases h
open Classical in
noncomputable def spFigure : VM.Spec := { modes := [.rd], run := fun | [.int .i64 x] => if 0 ≤ x ∧ x < 10 then some (.int .u8 (48 + x), []) else none | _ => none, need := [] }
attribute [go_sem] spFigure
theorem spFigure_in {ins : List V} {r : V} {outs : List V} (h : spFigure.run ins = some (r, outs)) : ∃ (x : Int), ins = [.int .i64 x] ∧ (0 ≤ x ∧ x < 10) ∧ .int .u8 (48 + x) = r ∧ outs = [] := by
  unfold spFigure at h
  simp only at h
  split at h
  · rename_i x
    split at h
    case isFalse => cases h
    rename_i hc
    simp only [Option.some.injEq, Prod.mk.injEq] at h
    obtain ⟨h1, h2⟩ := h
    exact ⟨x, rfl, hc, h1, h2.symm⟩
  · cases h
def T_spec_l01Figure : Hints := ⟨fun _ => none, fun _ => none, fun i => if i = 0 then some [0] else if i = 1 then some [0, 4] else if i = 2 then some [2] else if i = 3 then some [2] else none, fun _ => none⟩
noncomputable def Phi_spec_l01Figure : Tab := fun f => none
attribute [go_sem] T_spec_l01Figure Phi_spec_l01Figure
theorem phi_spec_l01Figure : ∀ f sp, Phi_spec_l01Figure f = some sp → FnOk Tryz.prog f sp ∧ ∀ n ∈ sp.need, n ∈ ([] : List String) := by
  intro f sp h
  unfold Phi_spec_l01Figure at h
  cases h
theorem ok_spec_l01Figure : FnOk Tryz.prog 187 spFigure := by
  refine fn_ok (Φ := Phi_spec_l01Figure) (T := T_spec_l01Figure) phi_spec_l01Figure mixed Tryz.func187 rfl rfl rfl (by decide) ?_
  intro ins r outs hr hl
  clear hl
  have hs := spFigure_in hr
  clear hr
  obtain ⟨x, rfl, hc, hr, rfl⟩ := hs
  simp only [spFigure, Tryz.f187, Go.VM.initS]
  obtain ⟨h0, h1⟩ := hc
  have e : IntKind.u8.wrap (IntKind.i64.wrap (48 + x)) = 48 + x := by
    rw [wrap64 (by omega) (by omega)]
    simp only [IntKind.wrap, IntKind.signed, IntKind.bits]
    simp; omega
  simp only [h1, e, go_sem]
  repeat' ((first | apply qa | apply qb | apply qc | apply qd | apply qe | apply qf | apply qg | apply qh | apply qi | apply qj | apply qk) <;> intro hp <;> simp only [hp, h1, e, go_sem])
  simp only [fin_mk, finV, resL, resV1, resIn, endA, listIn, Option.some_or, Option.none_or, oneOrTup, go_sem]
  rw [← hr]
def T_spec_Decimal : Hints := ⟨fun _ => none, fun i => if i = 5 then some [0, 3, 4] else none, fun i => if i = 0 then some [0] else if i = 1 then some [0, 7] else if i = 2 then some [2] else if i = 3 then some [0, 3] else if i = 4 then some [0, 3, 4] else if i = 5 then some [0, 3, 4, 11] else if i = 6 then some [0, 3, 4, 5] else if i = 7 then some [0, 3, 4, 5, 15] else if i = 8 then some [0, 3, 4, 5] else if i = 9 then some [0, 3, 4] else if i = 10 then some [0, 3, 4] else if i = 11 then some [4, 26] else if i = 12 then some [2] else if i = 13 then some [2] else none, fun _ => none⟩
noncomputable def Phi_spec_Decimal : Tab := fun f => if f = 187 then some spFigure else none
attribute [go_sem] T_spec_Decimal Phi_spec_Decimal
theorem phi_spec_Decimal : ∀ f sp, Phi_spec_Decimal f = some sp → FnOk Tryz.prog f sp ∧ ∀ n ∈ sp.need, n ∈ (["internal/strconv.uint64pow10"] : List String) := by
  intro f sp h
  unfold Phi_spec_Decimal at h
  by_cases e : f = 187
  · rw [if_pos e] at h; cases h; rw [e]; exact ⟨ok_spec_l01Figure, (fun n (h : n ∈ ([] : List String)) => (nomatch h))⟩
  rw [if_neg e] at h
  cases h
theorem ok_spec_Decimal : FnOk Tryz.prog 161 spDecimal := by
  refine fn_ok (Φ := Phi_spec_Decimal) (T := T_spec_Decimal) phi_spec_Decimal mixed Tryz.func161 rfl rfl rfl (by decide) ?_
  intro ins r outs hr hl
  clear hl
  have hs := spDecimal_in hr
  clear hr
  obtain ⟨n, rfl, hc, hr, rfl⟩ := hs
  simp only [spDecimal, Tryz.f161, Go.VM.initS]
  obtain ⟨h0, h1⟩ := hc
  obtain ⟨k, rfl⟩ : ∃ k : Nat, n = k := ⟨n.toNat, by omega⟩
  by_cases hz : k = 0
  · subst hz
    have e : (((0 : Nat) : Int) == 0) = true := rfl
    simp only [e, go_sem]
    repeat' ((first | apply qa | apply qb | apply qc | apply qd | apply qe | apply qf | apply qg | apply qh | apply qi | apply qj | apply qk) <;> intro hp <;> simp only [hp, e, go_sem])
    simp only [fin_mk, finV, resL, resV1, resIn, endA, listIn, Option.some_or, Option.none_or, oneOrTup, go_sem]
    rw [← hr]
    have h2 : Lib.itoa ((0 : Nat) : Int) = [48] := by
      rw [Lib.itoa, if_neg (by decide)]
      show Lib.decDigits 0 = _
      rw [Lib.decDigits]; rfl
    rw [h2]
  · have e : ((k : Int) == 0) = false := beq_eq_false_iff_ne.2 (by omega)
    have e2 : ¬ (k : Int) < 0 := by omega
    have hI : Lib.itoa (k : Int) = dig k := by rw [Lib.itoa, if_neg e2, dig, if_neg hz]; rfl
    rw [hI] at hr
    simp only [e, e2, go_sem]
    repeat' ((first | apply qa | apply qb | apply qc | apply qd | apply qe | apply qf | apply qg | apply qh | apply qi | apply qj | apply qk) <;> intro hp <;> simp only [hp, e, e2, go_sem])
    refine loop_go (fun p : List UInt8 × Nat => [(0, .int .i64 (p.2 : Int)), (4, .str p.1)]) (fun _ => []) (fun p => p.2) (fun p => dig p.2 ++ p.1 = dig k ∧ p.2 ≤ k) ([], k) ⟨by simp, Nat.le_refl _⟩ rfl rfl ?_
    rintro ⟨s, m⟩ ⟨he, hm⟩ ih
    simp only at he hm ih
    have hlen : s.length ≤ k := by
      have h2 := congrArg List.length he
      have h3 := dig_len k
      simp only [List.length_append] at h2; omega
    by_cases hm0 : m = 0
    · subst hm0
      have g1 : (((0 : Nat) : Int) != 0) = false := rfl
      simp only [g1, go_sem]
      repeat' ((first | apply qa | apply qb | apply qc | apply qd | apply qe | apply qf | apply qg | apply qh | apply qi | apply qj | apply qk) <;> intro hp <;> simp only [hp, g1, go_sem])
      simp only [fin_mk, finV, resL, resV1, resIn, endA, listIn, Option.some_or, Option.none_or, oneOrTup, go_sem]
      rw [← hr]
      rw [← he]; rfl
    · have g1 : ((m : Int) != 0) = true := by simp; omega
      have g2 : (m : Int).tmod 10 = ((m % 10 : Nat) : Int) := tmod_nat m 10
      have g3 : ¬ (((m % 10 : Nat) : Int)) < 0 := by omega
      have g4 : (0 : Int) ≤ ((m % 10 : Nat) : Int) := by omega
      have g5 : ((m % 10 : Nat) : Int) < 10 := by omega
      have g6 : (m : Int).tdiv 10 = ((m / 10 : Nat) : Int) := tdiv_nat m 10
      have g7 : IntKind.i64.wrap ((m / 10 : Nat) : Int) = ((m / 10 : Nat) : Int) := wrap64 (by omega) (by omega)
      have g8 : [V.int .u8 (48 + ((m % 10 : Nat) : Int))] = bytesV [UInt8.ofNat (48 + m % 10)] := by
        have h4 : (UInt8.ofNat (48 + m % 10)).toNat = 48 + m % 10 := UInt8.toNat_ofNat_of_lt' (by show 48 + m % 10 < 256; omega)
        rw [bytesV, List.map_cons, List.map_nil, h4]; rfl
      have g9 : 1 + s.length ≤ 9223372036854775807 := by omega
      have ih' := ih (UInt8.ofNat (48 + m % 10) :: s, m / 10) ⟨by rw [← he, dig_step hm0, List.append_assoc]; rfl, by omega⟩ (by simp only; omega)
      simp only at ih'
      simp only [g1, g2, g3, g4, g5, g6, g7, g8, g9, go_sem]
      repeat' ((first | apply qa | apply qb | apply qc | apply qd | apply qe | apply qf | apply qg | apply qh | apply qi | apply qj | apply qk) <;> intro hp <;> simp only [hp, g1, g2, g3, g4, g5, g6, g7, g8, g9, go_sem])
      exact ih'
end Go.Proofs.YtimiccneikhkgaaGreatDoor.L

namespace Go.Proofs.YtimiccneikhkgaaGreatDoor.L
open Go Go.VM
set_option maxRecDepth 100000
set_option maxHeartbeats 4000000
set_option linter.unusedSimpArgs false
set_option linter.unusedVariables false
open Classical in
noncomputable def spJoin : VM.Spec := { modes := [.rd, .rd], run := fun | [.lst 1 l', .str t] => (decL dStr l').bind fun l => if (Lib.join l t).length ≤ 140737488355328 ∧ l.length ≤ 140737488355328 then some (.str (Lib.join l t), []) else none | _ => none, need := [] }
attribute [go_sem] spJoin
theorem spJoin_in {ins : List V} {r : V} {outs : List V} (h : spJoin.run ins = some (r, outs)) : ∃ (l : (List (List UInt8))) (t : (List UInt8)), ins = [.lst 1 ((l).map eStr), .str t] ∧ ((Lib.join l t).length ≤ 140737488355328 ∧ l.length ≤ 140737488355328) ∧ .str (Lib.join l t) = r ∧ outs = [] := by
  unfold spJoin at h
  simp only at h
  split at h
  · rename_i l' t
    simp only [Option.bind_eq_some_iff] at h
    obtain ⟨l, h_l, h⟩ := h
    split at h
    case isFalse => cases h
    rename_i hc
    simp only [Option.some.injEq, Prod.mk.injEq] at h
    obtain ⟨h1, h2⟩ := h
    have h_l := decL_some (fun _ _ h => dStr_some h) h_l
    subst h_l
    exact ⟨l, t, rfl, hc, h1, h2.symm⟩
  · cases h
theorem join_snoc (l : List (List UInt8)) (x t : List UInt8) : Lib.join (l ++ [x]) t = if l = [] then x else Lib.join l t ++ (t ++ x) := by
  cases l with
  | nil => simp [Lib.join_one]
  | cons y l =>
    rw [List.cons_append, Lib.join_cons, Lib.join_cons, if_neg (by simp)]
    simp [Lib.joinTail]
theorem lens_bound {l : List (List UInt8)} {k : Nat} (h : ∀ x ∈ l, x.length ≤ k) : Lib.lens l ≤ k * l.length := by
  induction l with
  | nil => simp [Lib.lens]
  | cons y l ih =>
    have h1 := ih fun x hx => h x (by simp [hx])
    have h2 := h y (by simp)
    simp only [Lib.lens, List.map_cons, List.sum_cons, List.length_cons] at h1 ⊢
    rw [Nat.mul_add]; omega
theorem join_bound {l : List (List UInt8)} {t : List UInt8} {k : Nat} (h : ∀ x ∈ l, x.length ≤ k) : (Lib.join l t).length ≤ (t.length + k) * l.length := by
  cases l with
  | nil => simp [Lib.join_nil]
  | cons y l =>
    rw [Lib.join_length]
    have := lens_bound h
    simp only [List.length_cons] at this ⊢
    rw [Nat.add_mul, Nat.mul_add t.length]; omega
def partOf (r : Range) : List UInt8 := if r.Lo < r.Hi then Lib.itoa r.Lo ++ (58 :: Lib.itoa r.Hi) else Lib.itoa r.Lo
def setText (s : List Range) : List UInt8 := if setOk s = true then Lib.join (s.map partOf) [44] else []
theorem setOk_at {s : List Range} (h : setOk s = true) {i : Nat} (hi : i < s.length) : 1 ≤ s[i].Lo ∧ s[i].Lo ≤ s[i].Hi ∧ s[i].Hi ≤ 9999 := by
  simp only [setOk, Bool.and_eq_true] at h
  exact rangeAt_hi hi (allN_get h.1 hi)
theorem setOk_len {s : List Range} (h : setOk s = true) : s.length ≤ 40 := by
  simp only [setOk, Bool.and_eq_true, decide_eq_true_eq] at h; exact h.2
theorem partOf_len {r : Range} (h : 1 ≤ r.Lo ∧ r.Lo ≤ r.Hi ∧ r.Hi ≤ 9999) : (partOf r).length ≤ 9 := by
  have h1 := itoa4 (n := r.Lo) (by omega) (by omega)
  have h2 := itoa4 (n := r.Hi) (by omega) (by omega)
  unfold partOf
  split
  · simp; omega
  · omega
theorem parts_len {s : List Range} (h : setOk s = true) (n : Nat) : ∀ x ∈ (s.take n).map partOf, x.length ≤ 9 := by
  intro x hx
  obtain ⟨r, hr, rfl⟩ := List.mem_map.1 hx
  obtain ⟨i, hi, rfl⟩ := List.mem_iff_getElem.1 (List.mem_of_mem_take hr)
  exact partOf_len (setOk_at h hi)
theorem join_parts {s : List Range} (h : setOk s = true) (n : Nat) : (Lib.join ((s.take n).map partOf) [44]).length ≤ 400 := by
  have h1 := join_bound (t := [44]) (parts_len h n)
  have h2 := setOk_len h
  have h3 : ((s.take n).map partOf).length ≤ 40 := by simp; omega
  simp only [List.length_cons, List.length_nil] at h1
  omega
theorem setText_len (s : List Range) : (setText s).length ≤ 400 := by
  unfold setText
  split
  · rename_i h
    have := join_parts h s.length
    rwa [List.take_length] at this
  · simp
open Classical in
noncomputable def spSetText : VM.Spec := { modes := [.rd], run := fun | [.lst 2 s'] => (decL Range.dec s').bind fun s => if s.length ≤ 4194304 then some (.str (setText s), []) else none | _ => none, need := ["internal/strconv.uint64pow10"] }
attribute [go_sem] spSetText
theorem spSetText_in {ins : List V} {r : V} {outs : List V} (h : spSetText.run ins = some (r, outs)) : ∃ (s : (List Range)), ins = [.lst 2 ((s).map Range.enc)] ∧ (s.length ≤ 4194304) ∧ .str (setText s) = r ∧ outs = [] := by
  unfold spSetText at h
  simp only at h
  split at h
  · rename_i s'
    simp only [Option.bind_eq_some_iff] at h
    obtain ⟨s, h_s, h⟩ := h
    split at h
    case isFalse => cases h
    rename_i hc
    simp only [Option.some.injEq, Prod.mk.injEq] at h
    obtain ⟨h1, h2⟩ := h
    have h_s := decL_some (fun _ _ h => Range.dec_some h) h_s
    subst h_s
    exact ⟨s, rfl, hc, h1, h2.symm⟩
  · cases h
def flagNames : List (List UInt8) := [[115, 101, 101, 110], [97, 110, 115, 119, 101, 114, 101, 100], [102, 108, 97, 103, 103, 101, 100], [100, 101, 108, 101, 116, 101, 100], [100, 114, 97, 102, 116]]
def flagSel (b : Nat) : Nat → List (List UInt8)
  | 0 => []
  | i + 1 => flagSel b i ++ (if b.testBit i = true then [flagNames.getD i []] else [])
def flagsText (b : Int) : List UInt8 := if flagsOk b = true then 40 :: (Lib.join (flagSel b.toNat 5) [32] ++ [41]) else []
theorem flag_impl : ∀ b : Fin 32, ∀ i : Fin 5, ((IntKind.i64.wrap (BitVec.ofInt 64 (Int.fdiv (b.val : Int) (2 ^ (min i.val 64))) &&& BitVec.ofInt 64 1).toNat == 1) = b.val.testBit i.val) := by decide +kernel
theorem flag_spec : ∀ b : Fin 32, ∀ i : Fin 5, (((IntKind.i64.wrap ((b.val : Int).tdiv ((2 ^ i.val : Nat) : Int))).tmod 2 == 1) = b.val.testBit i.val) := by decide +kernel
theorem flag_names : ∀ i : Fin 5, flagNames[i.val]? = some (flagNames.getD i.val []) := by decide +kernel
theorem flag_sel_len : ∀ b : Fin 32, ∀ i : Fin 6, (flagSel b.val i.val).length ≤ 5 ∧ (Lib.join (flagSel b.val i.val) [32]).length ≤ 50 := by decide +kernel
theorem flag_sel_join : ∀ b : Fin 32, ∀ i : Fin 5, (Lib.join (flagSel b.val i.val) [32] = [] ↔ flagSel b.val i.val = []) := by decide +kernel
theorem flagsText_len (b : Int) : (flagsText b).length ≤ 60 := by
  unfold flagsText
  split
  · rename_i h
    have hb : 0 ≤ b ∧ b ≤ 31 := by simpa only [flagsOk, within, Bool.and_eq_true, decide_eq_true_eq] using h
    have := (flag_sel_len ⟨b.toNat, by omega⟩ ⟨5, by omega⟩).2
    simp only at this
    simp; omega
  · simp
open Classical in
noncomputable def spFlagNames : VM.Spec := { modes := [], run := fun | [] => some (.lst 1 ((flagNames).map eStr), []) | _ => none, need := [] }
attribute [go_sem] spFlagNames
theorem spFlagNames_in {ins : List V} {r : V} {outs : List V} (h : spFlagNames.run ins = some (r, outs)) : ins = [] ∧ .lst 1 ((flagNames).map eStr) = r ∧ outs = [] := by
  unfold spFlagNames at h
  simp only at h
  split at h
  · simp only [Option.some.injEq, Prod.mk.injEq] at h
    obtain ⟨h1, h2⟩ := h
    exact ⟨rfl, h1, h2.symm⟩
  · cases h
def T_spec_l06Names : Hints := ⟨fun _ => none, fun _ => none, fun i => if i = 0 then some [] else if i = 1 then some [0] else none, fun _ => none⟩
noncomputable def Phi_spec_l06Names : Tab := fun f => none
attribute [go_sem] T_spec_l06Names Phi_spec_l06Names
theorem phi_spec_l06Names : ∀ f sp, Phi_spec_l06Names f = some sp → FnOk Tryz.prog f sp ∧ ∀ n ∈ sp.need, n ∈ ([] : List String) := by
  intro f sp h
  unfold Phi_spec_l06Names at h
  cases h
theorem ok_spec_l06Names : FnOk Tryz.prog 166 spFlagNames := by
  refine fn_ok (Φ := Phi_spec_l06Names) (T := T_spec_l06Names) phi_spec_l06Names mixed Tryz.func166 rfl rfl rfl (by decide) ?_
  intro ins r outs hr hl
  clear hl
  have hs := spFlagNames_in hr
  clear hr
  obtain ⟨rfl, hr, rfl⟩ := hs
  simp only [spFlagNames, Tryz.f166, Go.VM.initS]
  simp only [go_sem]
  repeat' ((first | apply qa | apply qb | apply qc | apply qd | apply qe | apply qf | apply qg | apply qh | apply qi | apply qj | apply qk) <;> intro hp <;> simp only [hp, go_sem])
  simp only [fin_mk, finV, resL, resV1, resIn, endA, listIn, Option.some_or, Option.none_or, oneOrTup, go_sem]
  rw [← hr]
  rfl
open Classical in
noncomputable def spFlagsText : VM.Spec := { modes := [.rd], run := fun | [.int .i64 n] => some (.str (flagsText n), []) | _ => none, need := [] }
attribute [go_sem] spFlagsText
theorem spFlagsText_in {ins : List V} {r : V} {outs : List V} (h : spFlagsText.run ins = some (r, outs)) : ∃ (n : Int), ins = [.int .i64 n] ∧ .str (flagsText n) = r ∧ outs = [] := by
  unfold spFlagsText at h
  simp only at h
  split at h
  · rename_i n
    simp only [Option.some.injEq, Prod.mk.injEq] at h
    obtain ⟨h1, h2⟩ := h
    exact ⟨n, rfl, h1, h2.symm⟩
  · cases h
end Go.Proofs.YtimiccneikhkgaaGreatDoor.L

namespace Go.Proofs.YtimiccneikhkgaaGreatDoor.L
open Go Go.VM
set_option maxRecDepth 100000
set_option maxHeartbeats 1000000
set_option linter.unusedSimpArgs false
set_option linter.unusedVariables false
theorem canon_eq {m k : Int} : ∀ {A B : List Range}, Canon A m → Canon B k → (∀ n, hasR A n = hasR B n) → A = B
  | [], [], _, _, _ => rfl
  | [], b :: B, _, hB, h => by
    have h1 := h b.Lo
    have h2 := hB.1 b (by simp)
    have : hasR (b :: B) b.Lo = true := by rw [hasR, List.any_cons]; simp; omega
    rw [this] at h1
    simp [hasR] at h1
  | a :: A, [], hA, _, h => by
    have h1 := h a.Lo
    have h2 := hA.1 a (by simp)
    have : hasR (a :: A) a.Lo = true := by rw [hasR, List.any_cons]; simp; omega
    rw [this] at h1
    simp [hasR] at h1
  | a :: A, b :: B, hA, hB, h => by
    have ma := hA.1 a (by simp)
    have mb := hB.1 b (by simp)
    have pa := (List.pairwise_cons.1 hA.2).1
    have pb := (List.pairwise_cons.1 hB.2).1
    have mem : ∀ (l : List Range) (n : Int), hasR l n = true ↔ ∃ r ∈ l, r.Lo ≤ n ∧ n ≤ r.Hi := by intro l n; simp [hasR]
    have lo1 : b.Lo ≤ a.Lo := by
      obtain ⟨r, hr, h1, h2⟩ := (mem _ _).1 ((h a.Lo).symm.trans ((mem (a :: A) a.Lo).2 ⟨a, by simp, by omega, by omega⟩))
      rcases List.mem_cons.1 hr with rfl | hr
      · exact h1
      · have := pb r hr; omega
    have lo2 : a.Lo ≤ b.Lo := by
      obtain ⟨r, hr, h1, h2⟩ := (mem _ _).1 ((h b.Lo).trans ((mem (b :: B) b.Lo).2 ⟨b, by simp, by omega, by omega⟩))
      rcases List.mem_cons.1 hr with rfl | hr
      · exact h1
      · have := pa r hr; omega
    have hi1 : b.Hi ≤ a.Hi := by
      rcases Int.lt_or_le a.Hi b.Hi with hlt | hge
      · obtain ⟨r, hr, h1, h2⟩ := (mem _ _).1 ((h (a.Hi + 1)).trans ((mem (b :: B) (a.Hi + 1)).2 ⟨b, by simp, by omega, by omega⟩))
        rcases List.mem_cons.1 hr with rfl | hr
        · omega
        · have := pa r hr; omega
      · exact hge
    have hi2 : a.Hi ≤ b.Hi := by
      rcases Int.lt_or_le b.Hi a.Hi with hlt | hge
      · obtain ⟨r, hr, h1, h2⟩ := (mem _ _).1 ((h (b.Hi + 1)).symm.trans ((mem (a :: A) (b.Hi + 1)).2 ⟨a, by simp, by omega, by omega⟩))
        rcases List.mem_cons.1 hr with rfl | hr
        · omega
        · have := pb r hr; omega
      · exact hge
    have e : a = b := by
      obtain ⟨x, y⟩ := a
      obtain ⟨z, w⟩ := b
      simp only at lo1 lo2 hi1 hi2
      rw [show x = z by omega, show y = w by omega]
    subst e
    congr 1
    refine canon_eq (m := m) (k := k) ⟨fun r hr => hA.1 r (by simp [hr]), (List.pairwise_cons.1 hA.2).2⟩ ⟨fun r hr => hB.1 r (by simp [hr]), (List.pairwise_cons.1 hB.2).2⟩ fun n => ?_
    have hn := h n
    rw [Bool.eq_iff_iff, mem, mem] at hn ⊢
    constructor
    · rintro ⟨r, hr, h1, h2⟩
      obtain ⟨s, hs, h3, h4⟩ := hn.1 ⟨r, by simp [hr], h1, h2⟩
      rcases List.mem_cons.1 hs with rfl | hs
      · have := pa r hr; omega
      · exact ⟨s, hs, h3, h4⟩
    · rintro ⟨r, hr, h1, h2⟩
      obtain ⟨s, hs, h3, h4⟩ := hn.2 ⟨r, by simp [hr], h1, h2⟩
      rcases List.mem_cons.1 hs with rfl | hs
      · have := pb r hr; omega
      · exact ⟨s, hs, h3, h4⟩
theorem canon_of_ok {S : List Range} (h : setOk S = true) : Canon S 9999 := by
  simp only [setOk, Bool.and_eq_true] at h
  have hr : ∀ i, (hi : i < S.length) → rangeAt S i = true := fun i hi => allN_get h.1 hi
  refine ⟨fun r hx => ?_, ?_⟩
  · obtain ⟨i, hi, rfl⟩ := List.mem_iff_getElem.1 hx
    exact rangeAt_hi hi (hr i hi)
  · have adj : ∀ i, (hi : i + 1 < S.length) → S[i].Hi + 1 < S[i + 1].Lo := by
      intro i hi
      have := hr (i + 1) hi
      simp only [rangeAt, Bool.and_eq_true, Bool.or_eq_true, decide_eq_true_eq, Nat.add_sub_cancel, getD_lt hi, getD_lt (show i < S.length by omega), beq_iff_eq] at this
      rcases this.2 with h0 | h0
      · omega
      · exact h0
    have wf : ∀ i, (hi : i < S.length) → S[i].Lo ≤ S[i].Hi := fun i hi => (rangeAt_hi hi (hr i hi)).2.1
    rw [List.pairwise_iff_getElem]
    intro i j hi hj hij
    induction j with
    | zero => omega
    | succ j ih =>
      rcases Nat.lt_or_ge i j with h1 | h1
      · have a1 := ih (by omega) h1
        have a2 := adj j hj
        have a3 := wf j (by omega)
        omega
      · have : i = j := by omega
        subst this
        exact adj i hj
theorem setR_same {S : List Range} (h : setOk S = true) : setR S = S := by
  have hc := canon_of_ok h
  have ha : Asc ((nums 9999).filter fun n => hasR S n) 9999 := (nums_asc 9999).filter _
  refine canon_eq (scan_canon _ _ ha) hc fun n => ?_
  show hasR (scan _) n = _
  rw [hasR_scan _ _ _ ha, Bool.eq_iff_iff, decide_eq_true_eq, List.mem_filter, nums_mem]
  constructor
  · exact fun e => e.2
  · intro e
    refine ⟨?_, e⟩
    rw [hasR, List.any_eq_true] at e
    obtain ⟨r, hr, e⟩ := e
    simp only [Bool.and_eq_true, decide_eq_true_eq] at e
    have := hc.1 r hr
    omega
/-! ### numbers -/
theorem dec_read (n : Nat) : (Lib.decDigits n).all digB = true ∧ numV (Lib.decDigits n) = n := by
  induction n using Nat.strongRecOn with
  | ind n ih =>
    have key : ∀ k : Nat, k < 10 → digB (UInt8.ofNat (48 + k)) = true ∧ ((UInt8.ofNat (48 + k)).toNat : Int) = 48 + k := by
      intro k hk
      have e : (UInt8.ofNat (48 + k)).toNat = 48 + k := UInt8.toNat_ofNat_of_lt' (by show 48 + k < 256; omega)
      refine ⟨?_, by omega⟩
      simp only [digB, within, Bool.and_eq_true, decide_eq_true_eq, e]
      omega
    rw [Lib.decDigits]
    by_cases h : n < 10
    · rw [dif_pos h]
      obtain ⟨k1, k2⟩ := key n h
      refine ⟨by simp only [List.all_cons, List.all_nil, k1]; rfl, ?_⟩
      simp only [numV, List.foldl_cons, List.foldl_nil, stepV, k2]; omega
    · rw [dif_neg h]
      obtain ⟨i1, i2⟩ := ih (n / 10) (by omega)
      obtain ⟨k1, k2⟩ := key (n % 10) (by omega)
      refine ⟨by rw [List.all_append, i1]; simp only [List.all_cons, List.all_nil, k1]; rfl, ?_⟩
      rw [numV_snoc, i2, stepV, k2]; omega
theorem itoa_read {n : Int} (h : 0 ≤ n) : (Lib.itoa n).all digB = true ∧ numV (Lib.itoa n) = n := by
  rw [Lib.itoa, if_neg (by omega)]
  have := dec_read n.toNat
  exact ⟨this.1, by rw [this.2]; omega⟩
theorem itoa_ne {n : Int} (h : 0 ≤ n) : Lib.itoa n ≠ [] := by
  rw [Lib.itoa, if_neg (by omega)]
  intro e
  rw [Lib.decDigits] at e
  split at e <;> simp at e
theorem num_back {n : Int} (h1 : 1 ≤ n) (h2 : n ≤ 9999) (last : Int) : numB (Lib.itoa n) = true ∧ numN (Lib.itoa n) last = n := by
  obtain ⟨a1, a2⟩ := itoa_read (n := n) (by omega)
  have a3 := itoa4 (n := n) (by omega) h2
  have a4 := itoa_ne (n := n) (by omega)
  have a5 : Lib.itoa n ≠ [42] := by
    intro e; rw [e] at a1; revert a1; decide
  have a6 : within (Lib.itoa n).length 1 4 = true := by
    have := List.length_pos_iff.2 a4
    simp only [within, Bool.and_eq_true, decide_eq_true_eq]; omega
  refine ⟨?_, ?_⟩
  · rw [numB, if_neg a5, a6, a1, a2]; simp; omega
  · rw [numN, if_neg a5, a6, a1, if_pos (by rfl), a2]
theorem dig_no {s : List UInt8} (h : s.all digB = true) (c : UInt8) (hc : digB c = false) : ∀ x ∈ s, notB c x = true := by
  intro x hx
  have := List.all_eq_true.1 h x hx
  rw [notB, bne_iff_ne]
  rintro rfl
  rw [this] at hc; cases hc
theorem part_back {r : Range} (h1 : 1 ≤ r.Lo) (h2 : r.Lo ≤ r.Hi) (h3 : r.Hi ≤ 9999) (last : Int) : partB (partOf r) = true ∧ partLo (partOf r) last = r.Lo ∧ partHi (partOf r) last = r.Hi := by
  obtain ⟨a1, a2⟩ := num_back h1 (by omega) last
  obtain ⟨b1, b2⟩ := num_back (n := r.Hi) (by omega) h3 last
  have d1 := dig_no (itoa_read (n := r.Lo) (by omega)).1 58 (by decide)
  have d2 := dig_no (itoa_read (n := r.Hi) (by omega)).1 58 (by decide)
  unfold partOf
  split
  · rename_i hlt
    have hm : (58 : UInt8) ∈ Lib.itoa r.Lo ++ 58 :: Lib.itoa r.Hi := by simp
    have hf : first (Lib.itoa r.Lo ++ 58 :: Lib.itoa r.Hi) = Lib.itoa r.Lo := by
      rw [first, List.takeWhile_append_of_pos d1]
      simp [notB]
    have hs : second (Lib.itoa r.Lo ++ 58 :: Lib.itoa r.Hi) = Lib.itoa r.Hi := by
      rw [second, hf]
      rw [show Lib.itoa r.Lo ++ 58 :: Lib.itoa r.Hi = (Lib.itoa r.Lo ++ [58]) ++ Lib.itoa r.Hi by simp]
      exact List.drop_left' (by simp)
    refine ⟨by rw [partB, if_pos hm, hf, hs, a1, b1]; rfl, ?_, ?_⟩
    · rw [partLo, if_pos hm, hf, hs, a2, b2]; omega
    · rw [partHi, if_pos hm, hf, hs, a2, b2]; omega
  · have hm : ¬ (58 : UInt8) ∈ Lib.itoa r.Lo := fun e => by have := d1 _ e; simp [notB] at this
    refine ⟨by rw [partB, if_neg hm, a1], ?_, ?_⟩
    · rw [partLo, if_neg hm, a2]
    · rw [partHi, if_neg hm, a2]; omega
theorem part_no {r : Range} (h1 : 1 ≤ r.Lo) (h2 : r.Lo ≤ r.Hi) : ∀ x ∈ partOf r, notB 44 x = true := by
  have d1 := dig_no (itoa_read (n := r.Lo) (by omega)).1 44 (by decide)
  have d2 := dig_no (itoa_read (n := r.Hi) (by omega)).1 44 (by decide)
  intro x hx
  unfold partOf at hx
  split at hx
  · rcases List.mem_append.1 hx with hx | hx
    · exact d1 x hx
    · rcases List.mem_cons.1 hx with rfl | hx
      · decide
      · exact d2 x hx
  · exact d1 x hx
theorem join_split : ∀ {S : List Range}, S ≠ [] → (∀ r ∈ S, 1 ≤ r.Lo ∧ r.Lo ≤ r.Hi) → splitOn 44 (Lib.join (S.map partOf) [44]) = S.map partOf
  | [], h, _ => absurd rfl h
  | [r], _, hs => by
    obtain ⟨h1, h2⟩ := hs r (by simp)
    simp only [List.map_cons, List.map_nil, Lib.join_cons, Lib.joinTail, List.flatten_nil, List.append_nil]
    exact splitOn_none (part_no h1 h2)
  | r :: q :: S, _, hs => by
    obtain ⟨h1, h2⟩ := hs r (by simp)
    have ih := join_split (S := q :: S) (by simp) (fun x hx => hs x (by simp [hx]))
    have e : Lib.join ((r :: q :: S).map partOf) [44] = partOf r ++ 44 :: Lib.join ((q :: S).map partOf) [44] := by
      simp only [List.map_cons, Lib.join_cons, Lib.joinTail, List.map_map, List.flatten_cons, List.cons_append, List.nil_append]
    rw [e, splitOn_app _ (part_no h1 h2), ih]; rfl
theorem ranges_back (last : Int) : ∀ {S : List Range}, (∀ r ∈ S, 1 ≤ r.Lo ∧ r.Lo ≤ r.Hi ∧ r.Hi ≤ 9999) → rangesOf last (S.map partOf) = some S
  | [], _ => rfl
  | r :: S, hs => by
    obtain ⟨h1, h2, h3⟩ := hs r (by simp)
    obtain ⟨p1, p2, p3⟩ := part_back h1 h2 h3 last
    rw [List.map_cons, rangesOf, if_pos p1, ranges_back last (fun x hx => hs x (by simp [hx])), p2, p3]; rfl
theorem set_back {S : List Range} {last : Int} (h : setOk S = true) (hne : S ≠ []) (h0 : 1 ≤ last) (h9 : last ≤ 9999) : readOk (setText S) last = true ∧ readSet (setText S) last = S := by
  have hb : ∀ r ∈ S, 1 ≤ r.Lo ∧ r.Lo ≤ r.Hi ∧ r.Hi ≤ 9999 := (canon_of_ok h).1
  have e1 : splitOn 44 (setText S) = S.map partOf := by rw [setText, if_pos h]; exact join_split hne fun r hr => ⟨(hb r hr).1, (hb r hr).2.1⟩
  have e2 : rangesOf last (splitOn 44 (setText S)) = some S := by rw [e1]; exact ranges_back last hb
  have e3 := setR_same h
  have e4 := setOk_len h
  have hw : within last 1 9999 = true := by simp only [within, Bool.and_eq_true, decide_eq_true_eq]; omega
  have hk : readOk (setText S) last = true := by rw [readOk, e2, hw]; simp only [e3, Bool.true_and, decide_eq_true_eq]; exact e4
  exact ⟨hk, by rw [readSet, if_pos hk, e2]; exact e3⟩
theorem setText_ne {S : List Range} (h : setOk S = true) (hne : S ≠ []) : setText S ≠ [] := by
  intro e
  have := (set_back (last := 1) h hne (by omega) (by omega)).2
  rw [e] at this
  have h2 : readSet [] 1 = [] := by
    have : readOk [] 1 = false := by decide
    rw [readSet, this]; rfl
  rw [h2] at this
  exact hne this.symm
end Go.Proofs.YtimiccneikhkgaaGreatDoor.L

namespace Go.Proofs.YtimiccneikhkgaaGreatDoor.L
open Go Go.VM
set_option maxRecDepth 100000
set_option maxHeartbeats 4000000
set_option linter.unusedSimpArgs false
set_option linter.unusedVariables false
theorem search_len {b : Box} (h : boxOk b = true) (ks : List Key) : (searchL b.Mails ks).length ≤ 30 := by
  rw [searchL, List.length_map]
  exact Nat.le_trans (List.length_filter_le _ _) (boxOk_parts h).2.1
theorem search_ok {b : Box} (h : boxOk b = true) (ks : List Key) : search b ks = setOf (searchL b.Mails ks) ∧ setOk (search b ks) = true := by
  have e : search b ks = setOf (searchL b.Mails ks) := by rw [search, if_pos h]
  exact ⟨e, by rw [e]; exact setOf_ok (by have := search_len h ks; omega)⟩
theorem search_has {b : Box} (h : boxOk b = true) (ks : List Key) {i : Nat} (hi : i < b.Mails.length) : hasR (search b ks) b.Mails[i].Uid = allB b.Mails[i] ks := by
  have hm := mail_in h hi
  rw [(search_ok h ks).1, setOf_has _ _ ⟨hm.1, by omega⟩, Bool.eq_iff_iff, decide_eq_true_eq, searchL, List.mem_map]
  constructor
  · rintro ⟨m, hf, hu⟩
    obtain ⟨h1, h2⟩ := List.mem_filter.1 hf
    obtain ⟨j, hj, rfl⟩ := List.mem_iff_getElem.1 h1
    have ha := (uids_asc h).1
    rw [List.pairwise_map] at ha
    have : j = i := by
      rcases Nat.lt_trichotomy j i with hlt | heq | hgt
      · have := List.pairwise_iff_getElem.1 ha j i hj hi hlt; omega
      · exact heq
      · have := List.pairwise_iff_getElem.1 ha i j hi hj hgt; omega
    subst this
    exact h2
  · intro ha
    exact ⟨_, List.mem_filter.2 ⟨List.getElem_mem hi, ha⟩, rfl⟩
theorem has_search {b : Box} (h : boxOk b = true) (ks : List Key) (n : Int) (hn : hasR (search b ks) n = true) : n ∈ searchL b.Mails ks := by
  have ho := search_ok h ks
  have hb : 1 ≤ n ∧ n ≤ 9999 := by
    rw [hasR, List.any_eq_true] at hn
    obtain ⟨r, hr, hn⟩ := hn
    simp only [Bool.and_eq_true, decide_eq_true_eq] at hn
    have := (canon_of_ok ho.2).1 r hr
    omega
  rw [ho.1, setOf_has _ _ hb, decide_eq_true_eq] at hn
  exact hn
theorem search_more {b : Box} (h : boxOk b = true) (ks : List Key) (k : Key) : meetL (search b ks) (search b (ks ++ [k])) = search b (ks ++ [k]) := by
  have h1 := search_ok h (ks ++ [k])
  have e : ((nums 9999).filter fun n => both (search b ks) (search b (ks ++ [k])) n) = (nums 9999).filter fun n => hasR (search b (ks ++ [k])) n := by
    refine List.filter_congr fun n hn => ?_
    rw [both, Bool.eq_iff_iff, Bool.and_eq_true]
    constructor
    · exact fun e => e.2
    · intro e
      refine ⟨?_, e⟩
      have hm := has_search h _ n e
      rw [searchL, List.mem_map] at hm
      obtain ⟨m, hf, rfl⟩ := hm
      obtain ⟨m1, m2⟩ := List.mem_filter.1 hf
      obtain ⟨j, hj, rfl⟩ := List.mem_iff_getElem.1 m1
      rw [search_has h ks hj]
      simp only [allB, List.all_append, Bool.and_eq_true] at m2
      exact m2.1
  rw [meetL, e]
  exact setR_same h1.2
theorem search_all {b : Box} (h : boxOk b = true) : setSize (search b [⟨1, 0, []⟩]) = b.Mails.length := by
  have h1 := search_ok h [⟨1, 0, []⟩]
  have e : searchL b.Mails [⟨1, 0, []⟩] = b.Mails.map (·.Uid) := by
    rw [searchL]
    congr 1
    rw [List.filter_eq_self]
    intro m _
    simp [allB, matchB]
  rw [setSize, if_pos h1.2, h1.1, e, setOf_asc (uids_asc h), sizeL_scan, List.length_map]
theorem meet_more {b : Box} (h : boxOk b = true) (ks : List Key) (k : Key) : setMeetOk (search b ks) (search b (ks ++ [k])) = true ∧ setMeet (search b ks) (search b (ks ++ [k])) = search b (ks ++ [k]) := by
  have e := search_more h ks k
  have h1 := search_ok h ks
  have h2 := search_ok h (ks ++ [k])
  have hl : (search b (ks ++ [k])).length ≤ 40 := by have := h2.2; simp only [setOk, Bool.and_eq_true, decide_eq_true_eq] at this; exact this.2
  have k1 : setMeetOk (search b ks) (search b (ks ++ [k])) = true := by rw [setMeetOk, e, h1.2, h2.2, decide_eq_true hl]; rfl
  refine ⟨k1, ?_⟩
  unfold setMeetOk at k1
  rw [setMeet, if_pos k1, e]
theorem keys_le {ks : List Key} {n : Nat} (h : ks.length ≤ n) (hk : ∀ k ∈ ks, k.Text.length ≤ n) (hn : n ≤ 4194304) : leL Key.le 4194304 ks := ⟨by omega, fun k hk' => by have := hk k hk'; show k.Text.length ≤ _; omega⟩
end Go.Proofs.YtimiccneikhkgaaGreatDoor.L

namespace Go.Proofs.YtimiccneikhkgaaGreatDoor.L
open Go Go.VM
set_option maxRecDepth 100000
set_option maxHeartbeats 4000000
set_option linter.unusedSimpArgs false
set_option linter.unusedVariables false
def andI (a b : Int) : Int := IntKind.i64.wrap (BitVec.ofInt IntKind.i64.bits a &&& BitVec.ofInt IntKind.i64.bits b).toNat
def xorI (a b : Int) : Int := IntKind.i64.wrap (BitVec.ofInt IntKind.i64.bits a ^^^ BitVec.ofInt IntKind.i64.bits b).toNat
theorem andI_255 (a : Int) : 0 ≤ andI a 255 ∧ andI a 255 ≤ 255 := by
  have h : (BitVec.ofInt 64 a &&& BitVec.ofInt 64 255).toNat ≤ 255 := by
    rw [BitVec.toNat_and]; exact Nat.and_le_right
  have e : andI a 255 = ((BitVec.ofInt 64 a &&& BitVec.ofInt 64 255).toNat : Int) := by
    show IntKind.i64.wrap (((BitVec.ofInt 64 a &&& BitVec.ofInt 64 255).toNat : Nat) : Int) = _
    exact wrap64 (by omega) (by omega)
  rw [e]; omega
def newStep (h c : Int) : Int := andI (IntKind.i64.wrap (IntKind.i64.wrap (IntKind.i64.wrap (h * 131) + IntKind.i64.wrap c) + 7)) 1073741823
def newH : List Int → Int → Int
  | [], h => h
  | c :: l, h => newH l (newStep h c)
def cur0 (code : List Int) : Cur := ⟨code, 0, newH (code.take 4000) (IntKind.i64.wrap (35201 + (code.length : Int)))⟩
open Classical in
noncomputable def spNew : VM.Spec := { modes := [.rd], run := fun | [.lst 1 code'] => (decL dU8 code').bind fun code => if code.length ≤ 4194304 then some (.rptr (Cur.enc (cur0 code)), []) else none | _ => none, need := [] }
attribute [go_sem] spNew
theorem spNew_in {ins : List V} {r : V} {outs : List V} (h : spNew.run ins = some (r, outs)) : ∃ (code : (List Int)), ins = [.lst 1 ((code).map eU8)] ∧ (code.length ≤ 4194304) ∧ .rptr (Cur.enc (cur0 code)) = r ∧ outs = [] := by
  unfold spNew at h
  simp only at h
  split at h
  · rename_i code'
    simp only [Option.bind_eq_some_iff] at h
    obtain ⟨code, h_code, h⟩ := h
    split at h
    case isFalse => cases h
    rename_i hc
    simp only [Option.some.injEq, Prod.mk.injEq] at h
    obtain ⟨h1, h2⟩ := h
    have h_code := decL_some (fun _ _ h => dU8_some h) h_code
    subst h_code
    exact ⟨code, rfl, hc, h1, h2.symm⟩
  · cases h
def T_spec_l01New : Hints := ⟨fun _ => none, fun i => if i = 3 then some [0, 3, 4] else none, fun i => if i = 0 then some [0] else if i = 1 then some [0, 3] else if i = 2 then some [0, 3, 4] else if i = 3 then some [0, 3, 4, 15] else if i = 5 then some [0, 3, 4] else if i = 4 then some [0, 3, 4] else if i = 6 then some [2] else none, fun _ => none⟩
noncomputable def Phi_spec_l01New : Tab := fun f => none
attribute [go_sem] T_spec_l01New Phi_spec_l01New
theorem phi_spec_l01New : ∀ f sp, Phi_spec_l01New f = some sp → FnOk Tryz.prog f sp ∧ ∀ n ∈ sp.need, n ∈ ([] : List String) := by
  intro f sp h
  unfold Phi_spec_l01New at h
  cases h
theorem ok_spec_l01New : FnOk Tryz.prog 38 spNew := by
  refine fn_ok (Φ := Phi_spec_l01New) (T := T_spec_l01New) phi_spec_l01New mixed Tryz.func38 rfl rfl rfl (by decide) ?_
  intro ins r outs hr hl
  clear hl
  have hs := spNew_in hr
  clear hr
  obtain ⟨code, rfl, hc, hr, rfl⟩ := hs
  simp only [spNew, Tryz.f38, Go.VM.initS]
  simp only [go_sem]
  repeat' ((first | apply qa | apply qb | apply qc | apply qd | apply qe | apply qf | apply qg | apply qh | apply qi | apply qj | apply qk) <;> intro hp <;> simp only [hp, go_sem])
  refine loop_go (fun p : Int × Nat => [(3, .int .i64 p.1), (4, .int .i64 (p.2 : Int))]) (fun _ => []) (fun p => 4000 - p.2) (fun p => p.2 ≤ 4000 ∧ p.2 ≤ code.length ∧ newH ((code.take 4000).drop p.2) p.1 = (cur0 code).h) (IntKind.i64.wrap (35201 + (code.length : Int)), 0) ⟨Nat.zero_le _, Nat.zero_le _, rfl⟩ rfl rfl ?_
  rintro ⟨h, i⟩ ⟨hi, hl, he⟩ ih
  simp only at hi hl he ih
  rcases Nat.lt_or_ge i code.length with g | g
  · have g1 : (i : Int) < code.length := by omega
    rcases Nat.lt_or_ge i 4000 with k | k
    · have g2 : (i : Int) < 4000 := by omega
      have g3 : (0 : Int) ≤ i := by omega
      have g4 : code[i]? = some code[i] := List.getElem?_eq_getElem g
      have g5 := wrap_succ g (by omega)
      have hlt : i < (code.take 4000).length := by rw [List.length_take]; omega
      rw [List.drop_eq_getElem_cons hlt, newH, List.getElem_take] at he
      have ih' := ih (newStep h code[i], i + 1) ⟨k, g, he⟩ (by simp only; omega)
      simp only at ih'
      simp only [g1, g2, g3, g4, g5, go_sem]
      repeat' ((first | apply qa | apply qb | apply qc | apply qd | apply qe | apply qf | apply qg | apply qh | apply qi | apply qj | apply qk) <;> intro hp <;> simp only [hp, g1, g2, g3, g4, g5, go_sem])
      exact ih'
    · have g2 : ¬ (i : Int) < 4000 := by omega
      have e : (code.take 4000).drop i = [] := List.drop_of_length_le (by rw [List.length_take]; omega)
      rw [e, newH] at he
      simp only [g1, g2, go_sem]
      repeat' ((first | apply qa | apply qb | apply qc | apply qd | apply qe | apply qf | apply qg | apply qh | apply qi | apply qj | apply qk) <;> intro hp <;> simp only [hp, g1, g2, go_sem])
      simp only [fin_mk, finV, resL, resV1, resIn, endA, listIn, Option.some_or, Option.none_or, oneOrTup, go_sem]
      rw [← hr]
      simp only [cur0, he]; rfl
  · have g1 : ¬ (i : Int) < code.length := by omega
    have e : (code.take 4000).drop i = [] := List.drop_of_length_le (by rw [List.length_take]; omega)
    rw [e, newH] at he
    simp only [g1, go_sem]
    repeat' ((first | apply qa | apply qb | apply qc | apply qd | apply qe | apply qf | apply qg | apply qh | apply qi | apply qj | apply qk) <;> intro hp <;> simp only [hp, g1, go_sem])
    simp only [fin_mk, finV, resL, resV1, resIn, endA, listIn, Option.some_or, Option.none_or, oneOrTup, go_sem]
    rw [← hr]
    simp only [cur0, he]; rfl
def curI (c : Cur) : Prop := 0 ≤ c.i ∧ c.i ≤ c.b.length ∧ c.b.length ≤ 4194304
def bytH (h : Int) : Int := IntKind.i64.wrap (IntKind.i64.wrap (h * 6364136223846793005) + 1442695040888963407)
def bytX (h : Int) : Int := andI (xorI (Int.fdiv h (2 ^ 33)) (Int.fdiv h (2 ^ 45))) 255
def bytO (c : Cur) : Int × Cur := if c.i < c.b.length then (andI (IntKind.i64.wrap (bytX (bytH c.h) + IntKind.i64.wrap (c.b.getD c.i.toNat 0))) 255, ⟨c.b, c.i + 1, bytH c.h⟩) else (bytX (bytH c.h), ⟨c.b, c.i, bytH c.h⟩)
theorem bytO_in {c : Cur} (h : curI c) : curI (bytO c).2 ∧ 0 ≤ (bytO c).1 ∧ (bytO c).1 ≤ 255 := by
  obtain ⟨h0, h1, h2⟩ := h
  unfold bytO
  split
  · exact ⟨⟨by simp only; omega, by simp only; omega, h2⟩, andI_255 _⟩
  · exact ⟨⟨h0, h1, h2⟩, andI_255 _⟩
open Classical in
noncomputable def spByte : VM.Spec := { modes := [.ptr], run := fun | [.rptr (c')] => (Cur.dec c').bind fun c => if curI c then some (.int .i64 ((bytO c).1), [.rptr (Cur.enc ((bytO c).2))]) else none | _ => none, need := [] }
attribute [go_sem] spByte
theorem spByte_in {ins : List V} {r : V} {outs : List V} (h : spByte.run ins = some (r, outs)) : ∃ (c : Cur), ins = [.rptr (Cur.enc c)] ∧ (curI c) ∧ .int .i64 ((bytO c).1) = r ∧ outs = [.rptr (Cur.enc ((bytO c).2))] := by
  unfold spByte at h
  simp only at h
  split at h
  · rename_i c'
    simp only [Option.bind_eq_some_iff] at h
    obtain ⟨c, h_c, h⟩ := h
    split at h
    case isFalse => cases h
    rename_i hc
    simp only [Option.some.injEq, Prod.mk.injEq] at h
    obtain ⟨h1, h2⟩ := h
    have h_c := Cur.dec_some h_c
    subst h_c
    exact ⟨c, rfl, hc, h1, h2.symm⟩
  · cases h
def T_spec_l01Byte : Hints := ⟨fun i => if i = 2 then some [] else if i = 3 then some [] else if i = 4 then some [] else none, fun _ => none, fun i => if i = 0 then some [0] else if i = 1 then some [0] else if i = 2 then some [0, 3] else if i = 3 then some [0, 3, 34] else if i = 4 then some [0, 3] else if i = 5 then some [3] else if i = 6 then some [2] else none, fun _ => none⟩
noncomputable def Phi_spec_l01Byte : Tab := fun f => none
attribute [go_sem] T_spec_l01Byte Phi_spec_l01Byte
theorem phi_spec_l01Byte : ∀ f sp, Phi_spec_l01Byte f = some sp → FnOk Tryz.prog f sp ∧ ∀ n ∈ sp.need, n ∈ ([] : List String) := by
  intro f sp h
  unfold Phi_spec_l01Byte at h
  cases h
theorem ok_spec_l01Byte : FnOk Tryz.prog 108 spByte := by
  refine fn_ok (Φ := Phi_spec_l01Byte) (T := T_spec_l01Byte) phi_spec_l01Byte mixed Tryz.func108 rfl rfl rfl (by decide) ?_
  intro ins r outs hr hl
  clear hl
  have hs := spByte_in hr
  clear hr
  obtain ⟨c, rfl, hc, hr, rfl⟩ := hs
  simp only [spByte, Tryz.f108, Go.VM.initS]
  obtain ⟨b, i, h⟩ := c
  obtain ⟨h0, h1, h2⟩ := hc
  simp only at h0 h1 h2
  obtain ⟨k, rfl⟩ : ∃ k : Nat, i = k := ⟨i.toNat, by omega⟩
  have hx : IntKind.i64.wrap (BitVec.ofInt IntKind.i64.bits (IntKind.i64.wrap (BitVec.ofInt IntKind.i64.bits (Int.fdiv (bytH h) (2 ^ 33)) ^^^ BitVec.ofInt IntKind.i64.bits (Int.fdiv (bytH h) (2 ^ 45))).toNat) &&& BitVec.ofInt IntKind.i64.bits 255).toNat = bytX (bytH h) := rfl
  by_cases g1 : (k : Int) < b.length
  · have g2 : k < b.length := by omega
    have e : bytO ⟨b, k, h⟩ = (andI (IntKind.i64.wrap (bytX (bytH h) + IntKind.i64.wrap b[k])) 255, ⟨b, ((k + 1 : Nat) : Int), bytH h⟩) := by
      rw [bytO, if_pos g1]
      simp only [Int.toNat_natCast, getD_lt g2]; rfl
    rw [e] at hr
    have g3 : b[k]? = some b[k] := List.getElem?_eq_getElem g2
    have g4 := wrap_succ g2 (by omega)
    simp only [g1, g3, g4, h0, go_sem]
    repeat' ((first | ((first | apply qa | apply qb | apply qc | apply qd | apply qe | apply qf | apply qg | apply qh | apply qi | apply qj | apply qk) <;> intro hp) | ((first | refine ql rfl rfl (by decide +kernel) ?_ | refine qm _ rfl rfl (by decide +kernel) ?_) <;> have hp := True.intro)) <;> simp only [hp, g1, g3, g4, h0, go_sem])
    simp only [fin_mk, finV, resL, resV1, resIn, endA, listIn, Option.some_or, Option.none_or, oneOrTup, go_sem]
    rw [← hr]
    simp only [e]; rfl
  · have e : bytO ⟨b, k, h⟩ = (bytX (bytH h), ⟨b, k, bytH h⟩) := by rw [bytO, if_neg g1]
    rw [e] at hr
    simp only [g1, go_sem]
    repeat' ((first | ((first | apply qa | apply qb | apply qc | apply qd | apply qe | apply qf | apply qg | apply qh | apply qi | apply qj | apply qk) <;> intro hp) | ((first | refine ql rfl rfl (by decide +kernel) ?_ | refine qm _ rfl rfl (by decide +kernel) ?_) <;> have hp := True.intro)) <;> simp only [hp, g1, go_sem])
    simp only [fin_mk, finV, resL, resV1, resIn, endA, listIn, Option.some_or, Option.none_or, oneOrTup, go_sem]
    rw [← hr]
    simp only [e]; rfl
def belO (c : Cur) (n : Int) : Int × Cur :=
  if n ≤ 0 then (0, c) else if n ≤ 256 then ((bytO c).1.tmod n, (bytO c).2) else
  (((bytO c).1 * 16777216 + (bytO (bytO c).2).1 * 65536 + (bytO (bytO (bytO c).2).2).1 * 256 + (bytO (bytO (bytO (bytO c).2).2).2).1).tmod n, (bytO (bytO (bytO (bytO c).2).2).2).2)
theorem belO_in {c : Cur} {n : Int} (h : curI c) : curI (belO c n).2 ∧ 0 ≤ (belO c n).1 ∧ (0 < n → (belO c n).1 < n) := by
  have h1 := bytO_in h
  have h2 := bytO_in h1.1
  have h3 := bytO_in h2.1
  have h4 := bytO_in h3.1
  unfold belO
  split
  · exact ⟨h, Int.le_refl 0, fun e => by omega⟩
  · split
    · exact ⟨h1.1, Int.tmod_nonneg _ h1.2.1, fun e => Int.tmod_lt_of_pos _ e⟩
    · exact ⟨h4.1, Int.tmod_nonneg _ (by omega), fun e => Int.tmod_lt_of_pos _ e⟩
open Classical in
noncomputable def spBelow : VM.Spec := { modes := [.ptr, .rd], run := fun | [.rptr (c'), .int .i64 n] => (Cur.dec c').bind fun c => if curI c then some (.int .i64 ((belO c n).1), [.rptr (Cur.enc ((belO c n).2))]) else none | _ => none, need := [] }
attribute [go_sem] spBelow
theorem spBelow_in {ins : List V} {r : V} {outs : List V} (h : spBelow.run ins = some (r, outs)) : ∃ (c : Cur) (n : Int), ins = [.rptr (Cur.enc c), .int .i64 n] ∧ (curI c) ∧ .int .i64 ((belO c n).1) = r ∧ outs = [.rptr (Cur.enc ((belO c n).2))] := by
  unfold spBelow at h
  simp only at h
  split at h
  · rename_i c' n
    simp only [Option.bind_eq_some_iff] at h
    obtain ⟨c, h_c, h⟩ := h
    split at h
    case isFalse => cases h
    rename_i hc
    simp only [Option.some.injEq, Prod.mk.injEq] at h
    obtain ⟨h1, h2⟩ := h
    have h_c := Cur.dec_some h_c
    subst h_c
    exact ⟨c, n, rfl, hc, h1, h2.symm⟩
  · cases h
def T_spec_l01Below : Hints := ⟨fun _ => none, fun _ => none, fun i => if i = 0 then some [0, 1] else if i = 1 then some [0, 1, 10] else if i = 2 then some [4] else if i = 3 then some [0, 1, 12] else if i = 4 then some [4] else if i = 5 then some [0, 1, 5] else if i = 6 then some [0, 1, 5, 6] else if i = 7 then some [0, 1, 5, 6, 7] else if i = 8 then some [1, 5, 6, 7, 8] else if i = 9 then some [4] else none, fun _ => none⟩
noncomputable def Phi_spec_l01Below : Tab := fun f => if f = 108 then some spByte else none
attribute [go_sem] T_spec_l01Below Phi_spec_l01Below
theorem phi_spec_l01Below : ∀ f sp, Phi_spec_l01Below f = some sp → FnOk Tryz.prog f sp ∧ ∀ n ∈ sp.need, n ∈ ([] : List String) := by
  intro f sp h
  unfold Phi_spec_l01Below at h
  by_cases e : f = 108
  · rw [if_pos e] at h; cases h; rw [e]; exact ⟨ok_spec_l01Byte, (fun n (h : n ∈ ([] : List String)) => (nomatch h))⟩
  rw [if_neg e] at h
  cases h
theorem ok_spec_l01Below : FnOk Tryz.prog 46 spBelow := by
  refine fn_ok (Φ := Phi_spec_l01Below) (T := T_spec_l01Below) phi_spec_l01Below mixed Tryz.func46 rfl rfl rfl (by decide) ?_
  intro ins r outs hr hl
  clear hl
  have hs := spBelow_in hr
  clear hr
  obtain ⟨c, n, rfl, hc, hr, rfl⟩ := hs
  simp only [spBelow, Tryz.f46, Go.VM.initS]
  by_cases g1 : n ≤ 0
  · have e : belO c n = (0, c) := by rw [belO, if_pos g1]
    rw [e] at hr
    simp only [g1, go_sem]
    repeat' ((first | apply qa | apply qb | apply qc | apply qd | apply qe | apply qf | apply qg | apply qh | apply qi | apply qj | apply qk) <;> intro hp <;> simp only [hp, g1, go_sem])
    simp only [fin_mk, finV, resL, resV1, resIn, endA, listIn, Option.some_or, Option.none_or, oneOrTup, go_sem]
    rw [← hr]
    simp only [e]
  · by_cases g2 : n ≤ 256
    · have e : belO c n = ((bytO c).1.tmod n, (bytO c).2) := by rw [belO, if_neg g1, if_pos g2]
      rw [e] at hr
      have g3 : ¬ n = 0 := by omega
      simp only [hc, g1, g2, g3, go_sem]
      repeat' ((first | apply qa | apply qb | apply qc | apply qd | apply qe | apply qf | apply qg | apply qh | apply qi | apply qj | apply qk) <;> intro hp <;> simp only [hp, hc, g1, g2, g3, go_sem])
      simp only [fin_mk, finV, resL, resV1, resIn, endA, listIn, Option.some_or, Option.none_or, oneOrTup, go_sem]
      rw [← hr]
      simp only [e]
    · have e : belO c n = (((bytO c).1 * 16777216 + (bytO (bytO c).2).1 * 65536 + (bytO (bytO (bytO c).2).2).1 * 256 + (bytO (bytO (bytO (bytO c).2).2).2).1).tmod n, (bytO (bytO (bytO (bytO c).2).2).2).2) := by rw [belO, if_neg g1, if_neg g2]
      rw [e] at hr
      have h1 := bytO_in hc
      obtain ⟨⟨v1, c1⟩, e1⟩ : ∃ x, bytO c = x := ⟨_, rfl⟩
      rw [e1] at h1 hr e
      simp only at h1 hr e
      have h2 := bytO_in h1.1
      obtain ⟨⟨v2, c2⟩, e2⟩ : ∃ x, bytO c1 = x := ⟨_, rfl⟩
      rw [e2] at h2 hr e
      simp only at h2 hr e
      have h3 := bytO_in h2.1
      obtain ⟨⟨v3, c3⟩, e3⟩ : ∃ x, bytO c2 = x := ⟨_, rfl⟩
      rw [e3] at h3 hr e
      simp only at h3 hr e
      have h4 := bytO_in h3.1
      obtain ⟨⟨v4, c4⟩, e4⟩ : ∃ x, bytO c3 = x := ⟨_, rfl⟩
      rw [e4] at h4 hr e
      simp only at h4 hr e
      have g3 : ¬ n = 0 := by omega
      have w1 : IntKind.i64.wrap (v1 * 16777216) = v1 * 16777216 := wrap64 (by omega) (by omega)
      have w2 : IntKind.i64.wrap (v2 * 65536) = v2 * 65536 := wrap64 (by omega) (by omega)
      have w3 : IntKind.i64.wrap (v3 * 256) = v3 * 256 := wrap64 (by omega) (by omega)
      have w4 : IntKind.i64.wrap (v1 * 16777216 + v2 * 65536) = v1 * 16777216 + v2 * 65536 := wrap64 (by omega) (by omega)
      have w5 : IntKind.i64.wrap (v1 * 16777216 + v2 * 65536 + v3 * 256) = v1 * 16777216 + v2 * 65536 + v3 * 256 := wrap64 (by omega) (by omega)
      have w6 : IntKind.i64.wrap (v1 * 16777216 + v2 * 65536 + v3 * 256 + v4) = v1 * 16777216 + v2 * 65536 + v3 * 256 + v4 := wrap64 (by omega) (by omega)
      simp only [hc, h1.1, h2.1, h3.1, h4.1, e1, e2, e3, e4, g1, g2, g3, w1, w2, w3, w4, w5, w6, go_sem]
      repeat' ((first | apply qa | apply qb | apply qc | apply qd | apply qe | apply qf | apply qg | apply qh | apply qi | apply qj | apply qk) <;> intro hp <;> simp only [hp, hc, h1.1, h2.1, h3.1, h4.1, e1, e2, e3, e4, g1, g2, g3, w1, w2, w3, w4, w5, w6, go_sem])
      simp only [fin_mk, finV, resL, resV1, resIn, endA, listIn, Option.some_or, Option.none_or, oneOrTup, go_sem]
      rw [← hr]
      simp only [e]
def plc : Nat → Cur → List Int → List Int
  | 0, _, a => a
  | k + 1, c, a => plc k (belO c 10000).2 (a ++ [(belO c 10000).1])
def places (code : List Int) : List Int := plc 12 (bytO (cur0 code)).2 []
theorem plc_in : ∀ (k : Nat) {c : Cur} {a : List Int}, curI c → (∀ x ∈ a, 0 ≤ x ∧ x < 10000) → (plc k c a).length = a.length + k ∧ ∀ x ∈ plc k c a, 0 ≤ x ∧ x < 10000
  | 0, c, a, _, ha => ⟨rfl, ha⟩
  | k + 1, c, a, hc, ha => by
    have h := belO_in (n := 10000) hc
    obtain ⟨h1, h2⟩ := plc_in k (a := a ++ [(belO c 10000).1]) h.1 fun x hx => by
      rcases List.mem_append.1 hx with hx | hx
      · exact ha x hx
      · simp only [List.mem_singleton] at hx; subst hx; exact ⟨h.2.1, h.2.2 (by decide)⟩
    refine ⟨?_, h2⟩
    rw [plc, h1, List.length_append]; simp; omega
theorem cur0_in {code : List Int} (h : code.length ≤ 4194304) : curI (cur0 code) := ⟨Int.le_refl 0, by simp only [cur0]; omega, h⟩
theorem places_in {code : List Int} (h : code.length ≤ 4194304) : (places code).length = 12 ∧ ∀ x ∈ places code, 0 ≤ x ∧ x < 10000 := by
  have := plc_in 12 (c := (bytO (cur0 code)).2) (a := []) (bytO_in (cur0_in h)).1 (by simp)
  unfold places
  simpa using this
open Classical in
noncomputable def spPlaces : VM.Spec := { modes := [.rd], run := fun | [.lst 1 code'] => (decL dU8 code').bind fun code => if code.length ≤ 4194304 then some (.lst 1 ((places code).map eInt), []) else none | _ => none, need := [] }
attribute [go_sem] spPlaces
theorem spPlaces_in {ins : List V} {r : V} {outs : List V} (h : spPlaces.run ins = some (r, outs)) : ∃ (code : (List Int)), ins = [.lst 1 ((code).map eU8)] ∧ (code.length ≤ 4194304) ∧ .lst 1 ((places code).map eInt) = r ∧ outs = [] := by
  unfold spPlaces at h
  simp only at h
  split at h
  · rename_i code'
    simp only [Option.bind_eq_some_iff] at h
    obtain ⟨code, h_code, h⟩ := h
    split at h
    case isFalse => cases h
    rename_i hc
    simp only [Option.some.injEq, Prod.mk.injEq] at h
    obtain ⟨h1, h2⟩ := h
    have h_code := decL_some (fun _ _ h => dU8_some h) h_code
    subst h_code
    exact ⟨code, rfl, hc, h1, h2.symm⟩
  · cases h
end Go.Proofs.YtimiccneikhkgaaGreatDoor.L

