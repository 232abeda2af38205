/- What is found by keys. -/
import Derived.Test.YtglldabpgobimaaGreatDoorVLM
import Derived.Test.YtglldabpgobimaaGreatDoorVLK
namespace Go.Proofs.YtglldabpgobimaaGreatDoor.L
open Go Go.VM
set_option maxRecDepth 100000
set_option maxHeartbeats 4000000
set_option linter.unusedSimpArgs false
set_option linter.unusedVariables false
theorem asc_of_adj : ∀ {l : List Int}, (∀ i, (h : i + 1 < l.length) → l[i] < l[i + 1]) → l.Pairwise (· < ·)
  | [], _ => List.Pairwise.nil
  | [x], _ => List.pairwise_singleton _ _
  | x :: y :: t, h => by
    have h1 : (y :: t).Pairwise (· < ·) := asc_of_adj fun i hi => by
      have := h (i + 1) (by simpa using hi)
      simpa using this
    have h2 : x < y := by simpa using h 0 (by simp)
    refine List.Pairwise.cons (fun z hz => ?_) h1
    rcases List.mem_cons.1 hz with rfl | hz
    · exact h2
    · exact Int.lt_trans h2 ((List.pairwise_cons.1 h1).1 z hz)
theorem mailAt_of {b : Box} (h : boxOk b = true) {i : Nat} (hi : i < b.Mails.length) : mailAtOk b i = true := by
  simp only [boxOk, mailsOk, Bool.and_eq_true] at h
  exact allN_get h.1.2.1 hi
theorem mail_in {b : Box} (h : boxOk b = true) {i : Nat} (hi : i < b.Mails.length) : 1 ≤ b.Mails[i].Uid ∧ b.Mails[i].Uid ≤ 9998 ∧ flagsOk b.Mails[i].Flags = true := by
  have h1 := mailAt_of h hi
  have h2 := numsOk_next (boxOk_parts h).1
  simp only [mailAtOk, Bool.and_eq_true, within, decide_eq_true_eq, List.getD_eq_getElem?_getD, List.getElem?_eq_getElem hi, Option.getD_some] at h1
  exact ⟨h1.1.1.1.1.1, by omega, h1.1.1.2⟩
theorem uids_asc {b : Box} (h : boxOk b = true) : Asc (b.Mails.map (·.Uid)) 9999 := by
  refine ⟨asc_of_adj fun i hi => ?_, fun x hx => ?_⟩
  · rw [List.length_map] at hi
    have h1 := mailAt_of h hi
    simp only [mailAtOk, Bool.and_eq_true, Bool.or_eq_true, decide_eq_true_eq, List.getD_eq_getElem?_getD, List.getElem?_eq_getElem hi, Option.getD_some, Nat.add_sub_cancel, List.getElem?_eq_getElem (show i < b.Mails.length by omega)] at h1
    have h2 := h1.1.1.1.2
    simp only [List.getElem_map]
    rcases h2 with h2 | h2
    · simp at h2
    · exact h2
  · obtain ⟨m, hm, rfl⟩ := List.mem_map.1 hx
    obtain ⟨i, hi, rfl⟩ := List.mem_iff_getElem.1 hm
    have := mail_in h hi
    omega
theorem filter_asc {b : Box} (h : boxOk b = true) (p : Mail → Bool) : Asc ((b.Mails.filter p).map (·.Uid)) 9999 := by
  have hs : ((b.Mails.filter p).map (·.Uid)).Sublist (b.Mails.map (·.Uid)) := List.Sublist.map _ List.filter_sublist
  have ha := uids_asc h
  exact ⟨ha.1.sublist hs, fun x hx => ha.2 x (hs.subset hx)⟩
theorem asc_all {l : List Int} (h : Asc l 9999) : l.all (fun x => within x 1 9999) = true := by
  rw [List.all_eq_true]
  intro x hx
  have := h.2 x hx
  simp only [within, Bool.and_eq_true, decide_eq_true_eq]; omega
theorem filter_succ {α : Type} {l : List α} {p : α → Bool} {i : Nat} (h : i < l.length) : (l.take (i + 1)).filter p = (l.take i).filter p ++ (if p l[i] = true then [l[i]] else []) := by
  rw [take_succ' h, List.filter_append]
  congr 1
  cases hp : p l[i] <;> simp [hp]
theorem uids_len (l : List Mail) (p : Mail → Bool) (i : Nat) : (((l.take i).filter p).map (·.Uid)).length ≤ l.length := by
  rw [List.length_map]
  have h1 := List.length_filter_le p (l.take i)
  have h2 : (l.take i).length ≤ l.length := by rw [List.length_take]; omega
  omega
def allB (m : Mail) (ks : List Key) : Bool := ks.all (matchB m)
def searchL (b : List Mail) (ks : List Key) : List Int := (b.filter fun m => allB m ks).map (·.Uid)
def search (b : Box) (ks : List Key) : List Range := if boxOk b = true then setOf (searchL b.Mails ks) else []
theorem searchL_succ {l : List Mail} {ks : List Key} {i : Nat} (h : i < l.length) : searchL (l.take (i + 1)) ks = searchL (l.take i) ks ++ (if allB l[i] ks = true then [l[i].Uid] else []) := by
  unfold searchL
  rw [filter_succ h, List.map_append]
  congr 1
  split <;> simp
theorem search_le (b : Box) (ks : List Key) : (search b ks).length ≤ 4194304 := by
  unfold search
  split
  · rename_i h
    have h1 := (boxOk_parts h).2.1
    have h2 := setOf_len (searchL b.Mails ks)
    have h3 : (searchL b.Mails ks).length ≤ b.Mails.length := by rw [searchL, List.length_map]; exact List.length_filter_le _ _
    omega
  · simp
theorem allB_succ {m : Mail} {ks : List Key} {i : Nat} (h : i < ks.length) : allB m (ks.take (i + 1)) = (allB m (ks.take i) && matchB m ks[i]) := by
  rw [allB, take_succ' h, List.all_append]; simp [allB]
theorem setOf_nil' : setOf [] = [] := by
  have : (nums 9999).filter (fun n => decide (n ∈ ([] : List Int))) = [] := List.filter_eq_nil_iff.2 (fun _ _ => by simp)
  rw [setOf, this]; rfl
theorem all_bad {m : Mail} {ks : List Key} {i : Nat} (h : i < ks.length) (hb : matchB m ks[i] = false) : allB m ks = false := by
  rw [allB, List.all_eq_false]
  exact ⟨ks[i], List.getElem_mem h, by simp [hb]⟩
open Classical in
noncomputable def spAll : VM.Spec := { modes := [.rd, .rd], run := fun | [m', .lst 3 keys'] => (Mail.dec m').bind fun m => (decL Key.dec keys').bind fun keys => if m.le 4194304 ∧ leL Key.le 4194304 keys then some (.bool (allB m keys), []) else none | _ => none, need := ["internal/bytealg.MaxLen"] }
theorem spAll_in {ins : List V} {r : V} {outs : List V} (h : spAll.run ins = some (r, outs)) : ∃ (m : Mail) (keys : (List Key)), ins = [Mail.enc m, .lst 3 ((keys).map Key.enc)] ∧ (m.le 4194304 ∧ leL Key.le 4194304 keys) ∧ .bool (allB m keys) = r ∧ outs = [] := by
  unfold spAll at h
  simp only at h
  split at h
  · rename_i m' keys'
    simp only [Option.bind_eq_some_iff] at h
    obtain ⟨m, h_m, keys, h_keys, h⟩ := h
    split at h
    case isFalse => cases h
    rename_i hc
    simp only [Option.some.injEq, Prod.mk.injEq] at h
    obtain ⟨h1, h2⟩ := h
    have h_m := Mail.dec_some h_m
    subst h_m
    have h_keys := decL_some (fun _ _ h => Key.dec_some h) h_keys
    subst h_keys
    exact ⟨m, keys, rfl, hc, h1, h2.symm⟩
  · cases h
def T_impl_matchesAll : Hints := ⟨fun _ => none, fun i => if i = 2 then some [2, 7, 8, 9] else none, fun i => if i = 0 then some [1, 2] else if i = 1 then some [2, 7, 8, 9] else if i = 2 then some [2, 7, 8, 9, 10] else if i = 3 then some [2, 6, 7, 8, 9] else if i = 4 then some [2, 7, 8, 9, 16] else if i = 5 then some [4] else if i = 6 then some [2, 7, 8, 9] else if i = 7 then some [4] else none⟩
noncomputable def Phi_impl_matchesAll : Tab := fun f => if f = 82 then some spMatches else none
theorem phi_impl_matchesAll : ∀ f sp, Phi_impl_matchesAll f = some sp → FnOk Tryz.prog f sp ∧ ∀ n ∈ sp.need, n ∈ (["internal/bytealg.MaxLen"] : List String) := by
  intro f sp h
  unfold Phi_impl_matchesAll at h
  split at h
  · rename_i e; cases h; rw [e]; exact ⟨ok_impl_Matches, (fun n (h : n ∈ (["internal/bytealg.MaxLen"] : List String)) => by simp only [List.mem_cons, List.not_mem_nil, or_false] at h; rcases h with rfl <;> simp)⟩
  cases h
theorem ok_impl_matchesAll : FnOk Tryz.prog 41 spAll := by
  refine fn_ok (Φ := Phi_impl_matchesAll) (T := T_impl_matchesAll) phi_impl_matchesAll mixed Tryz.func41 rfl rfl rfl (by decide) ?_
  intro ins r outs hr hl
  clear hl
  have hs := spAll_in hr
  clear hr
  obtain ⟨m, keys, rfl, hc, hr, rfl⟩ := hs
  simp only [spAll, Tryz.f41, Go.VM.initS]
  obtain ⟨hm, hks⟩ := hc
  have hl : keys.length ≤ 4194304 := hks.1
  simp only [Phi_impl_matchesAll, T_impl_matchesAll, spMatches, go_sem]
  repeat' ((first | refine after_iteT.2 ⟨fun hp => ?_, fun hp => ?_⟩ | refine after_iteF.2 ⟨fun hp => ?_, fun hp => ?_⟩ | refine after_ite.2 ⟨fun hp => ?_, fun hp => ?_⟩ | refine grd_not.2 ⟨fun hp => ?_, fun hp => ?_⟩ | refine grd_beq.2 ⟨fun hp => ?_, fun hp => ?_⟩ | refine grd_dec.2 ⟨fun hp => ?_, fun hp => ?_⟩ | refine grd_bool.2 ⟨fun hp => ?_, fun hp => ?_⟩ | refine condG_not.2 ⟨fun hp => ?_, fun hp => ?_⟩ | refine condG_beq.2 ⟨fun hp => ?_, fun hp => ?_⟩ | refine condG_dec.2 ⟨fun hp => ?_, fun hp => ?_⟩ | refine condG_bool.2 ⟨fun hp => ?_, fun hp => ?_⟩ | (refine (goes_draw0 rfl (by decide +kernel)).2 ?_; have hp := True.intro) | (refine (goes_drawM _ rfl (by decide +kernel)).2 ?_; have hp := True.intro)) <;> simp only [hp, Phi_impl_matchesAll, T_impl_matchesAll, spMatches, go_sem])
  refine loop_go (fun i : Nat => [(9, .int .i64 (i : Int))]) (fun _ => []) (fun i => keys.length - i) (fun i => i ≤ keys.length ∧ allB m (keys.take i) = true) 0 ⟨Nat.zero_le _, rfl⟩ rfl rfl ?_
  intro i ⟨hi, ha⟩ ih
  rcases Nat.lt_or_ge i keys.length with h | h
  · have g1 : (i : Int) < keys.length := by omega
    have g2 : (0 : Int) ≤ i := by omega
    have g3 : keys[i]? = some keys[i] := List.getElem?_eq_getElem h
    have g5 := wrap_succ h (by omega)
    have hk : keys[i].le 4194304 := hks.2 _ (List.getElem_mem h)
    cases hb : matchB m keys[i] with
    | false =>
      simp only [g1, g2, g3, g5, hb, hm, hk, Phi_impl_matchesAll, T_impl_matchesAll, spMatches, go_sem]
      repeat' ((first | refine after_iteT.2 ⟨fun hp => ?_, fun hp => ?_⟩ | refine after_iteF.2 ⟨fun hp => ?_, fun hp => ?_⟩ | refine after_ite.2 ⟨fun hp => ?_, fun hp => ?_⟩ | refine grd_not.2 ⟨fun hp => ?_, fun hp => ?_⟩ | refine grd_beq.2 ⟨fun hp => ?_, fun hp => ?_⟩ | refine grd_dec.2 ⟨fun hp => ?_, fun hp => ?_⟩ | refine grd_bool.2 ⟨fun hp => ?_, fun hp => ?_⟩ | refine condG_not.2 ⟨fun hp => ?_, fun hp => ?_⟩ | refine condG_beq.2 ⟨fun hp => ?_, fun hp => ?_⟩ | refine condG_dec.2 ⟨fun hp => ?_, fun hp => ?_⟩ | refine condG_bool.2 ⟨fun hp => ?_, fun hp => ?_⟩ | (refine (goes_draw0 rfl (by decide +kernel)).2 ?_; have hp := True.intro) | (refine (goes_drawM _ rfl (by decide +kernel)).2 ?_; have hp := True.intro)) <;> simp only [hp, g1, g2, g3, g5, hb, hm, hk, Phi_impl_matchesAll, T_impl_matchesAll, spMatches, go_sem])
      simp only [fin_mk, finV, resL, resV1, allUse, oneOrTup, List.take, List.drop, List.take_succ_cons, List.take_zero, List.drop_succ_cons, List.drop_zero, Phi_impl_matchesAll, T_impl_matchesAll, spMatches, go_sem]
      rw [← hr]
      rw [all_bad h hb]
    | true =>
      have ih' := ih (i + 1) ⟨h, by rw [allB_succ h, ha, hb]; rfl⟩ (by omega)
      simp only [g1, g2, g3, g5, hb, hm, hk, Phi_impl_matchesAll, T_impl_matchesAll, spMatches, go_sem]
      repeat' ((first | refine after_iteT.2 ⟨fun hp => ?_, fun hp => ?_⟩ | refine after_iteF.2 ⟨fun hp => ?_, fun hp => ?_⟩ | refine after_ite.2 ⟨fun hp => ?_, fun hp => ?_⟩ | refine grd_not.2 ⟨fun hp => ?_, fun hp => ?_⟩ | refine grd_beq.2 ⟨fun hp => ?_, fun hp => ?_⟩ | refine grd_dec.2 ⟨fun hp => ?_, fun hp => ?_⟩ | refine grd_bool.2 ⟨fun hp => ?_, fun hp => ?_⟩ | refine condG_not.2 ⟨fun hp => ?_, fun hp => ?_⟩ | refine condG_beq.2 ⟨fun hp => ?_, fun hp => ?_⟩ | refine condG_dec.2 ⟨fun hp => ?_, fun hp => ?_⟩ | refine condG_bool.2 ⟨fun hp => ?_, fun hp => ?_⟩ | (refine (goes_draw0 rfl (by decide +kernel)).2 ?_; have hp := True.intro) | (refine (goes_drawM _ rfl (by decide +kernel)).2 ?_; have hp := True.intro)) <;> simp only [hp, g1, g2, g3, g5, hb, hm, hk, Phi_impl_matchesAll, T_impl_matchesAll, spMatches, go_sem])
      exact ih'
  · have g1 : ¬ (i : Int) < keys.length := by omega
    rw [List.take_of_length_le h] at ha
    simp only [g1, Phi_impl_matchesAll, T_impl_matchesAll, spMatches, go_sem]
    repeat' ((first | refine after_iteT.2 ⟨fun hp => ?_, fun hp => ?_⟩ | refine after_iteF.2 ⟨fun hp => ?_, fun hp => ?_⟩ | refine after_ite.2 ⟨fun hp => ?_, fun hp => ?_⟩ | refine grd_not.2 ⟨fun hp => ?_, fun hp => ?_⟩ | refine grd_beq.2 ⟨fun hp => ?_, fun hp => ?_⟩ | refine grd_dec.2 ⟨fun hp => ?_, fun hp => ?_⟩ | refine grd_bool.2 ⟨fun hp => ?_, fun hp => ?_⟩ | refine condG_not.2 ⟨fun hp => ?_, fun hp => ?_⟩ | refine condG_beq.2 ⟨fun hp => ?_, fun hp => ?_⟩ | refine condG_dec.2 ⟨fun hp => ?_, fun hp => ?_⟩ | refine condG_bool.2 ⟨fun hp => ?_, fun hp => ?_⟩ | (refine (goes_draw0 rfl (by decide +kernel)).2 ?_; have hp := True.intro) | (refine (goes_drawM _ rfl (by decide +kernel)).2 ?_; have hp := True.intro)) <;> simp only [hp, g1, Phi_impl_matchesAll, T_impl_matchesAll, spMatches, go_sem])
    simp only [fin_mk, finV, resL, resV1, allUse, oneOrTup, List.take, List.drop, List.take_succ_cons, List.take_zero, List.drop_succ_cons, List.drop_zero, Phi_impl_matchesAll, T_impl_matchesAll, spMatches, go_sem]
    rw [← hr]
    rw [ha]
open Classical in
noncomputable def spSearch : VM.Spec := { modes := [.rd, .rd], run := fun | [b', .lst 3 keys'] => (Box.dec b').bind fun b => (decL Key.dec keys').bind fun keys => if b.le 4194304 ∧ leL Key.le 4194304 keys then some (.lst 2 ((search b keys).map Range.enc), []) else none | _ => none, need := ["internal/bytealg.MaxLen"] }
theorem spSearch_in {ins : List V} {r : V} {outs : List V} (h : spSearch.run ins = some (r, outs)) : ∃ (b : Box) (keys : (List Key)), ins = [Box.enc b, .lst 3 ((keys).map Key.enc)] ∧ (b.le 4194304 ∧ leL Key.le 4194304 keys) ∧ .lst 2 ((search b keys).map Range.enc) = r ∧ outs = [] := by
  unfold spSearch at h
  simp only at h
  split at h
  · rename_i b' keys'
    simp only [Option.bind_eq_some_iff] at h
    obtain ⟨b, h_b, keys, h_keys, h⟩ := h
    split at h
    case isFalse => cases h
    rename_i hc
    simp only [Option.some.injEq, Prod.mk.injEq] at h
    obtain ⟨h1, h2⟩ := h
    have h_b := Box.dec_some h_b
    subst h_b
    have h_keys := decL_some (fun _ _ h => Key.dec_some h) h_keys
    subst h_keys
    exact ⟨b, keys, rfl, hc, h1, h2.symm⟩
  · cases h
def T_impl_Search : Hints := ⟨fun _ => none, fun i => if i = 5 then some [1, 5, 15, 16, 17] else none, fun i => if i = 0 then some [1, 2] else if i = 1 then some [1, 2, 12] else if i = 2 then some [4] else if i = 3 then some [1, 2, 5] else if i = 4 then some [1, 5, 15, 16, 17] else if i = 5 then some [1, 5, 15, 16, 17, 18] else if i = 6 then some [1, 5, 7, 15, 16, 17] else if i = 7 then some [1, 5, 7, 15, 16, 17, 23] else if i = 8 then some [1, 5, 15, 16, 17] else if i = 9 then some [1, 5, 15, 16, 17] else if i = 10 then some [8] else if i = 11 then some [4] else none⟩
noncomputable def Phi_impl_Search : Tab := fun f => if f = 40 then some spBoxOk else if f = 41 then some spAll else if f = 42 then some spSetOfList else none
theorem phi_impl_Search : ∀ f sp, Phi_impl_Search f = some sp → FnOk Tryz.prog f sp ∧ ∀ n ∈ sp.need, n ∈ (["internal/bytealg.MaxLen"] : List String) := by
  intro f sp h
  unfold Phi_impl_Search at h
  split at h
  · rename_i e; cases h; rw [e]; exact ⟨ok_impl_BoxOk, (fun n (h : n ∈ ([] : List String)) => (nomatch h))⟩
  split at h
  · rename_i e; cases h; rw [e]; exact ⟨ok_impl_matchesAll, (fun n (h : n ∈ (["internal/bytealg.MaxLen"] : List String)) => by simp only [List.mem_cons, List.not_mem_nil, or_false] at h; rcases h with rfl <;> simp)⟩
  split at h
  · rename_i e; cases h; rw [e]; exact ⟨ok_impl_setOfList, (fun n (h : n ∈ ([] : List String)) => (nomatch h))⟩
  cases h
theorem ok_impl_Search : FnOk Tryz.prog 11 spSearch := by
  refine fn_ok (Φ := Phi_impl_Search) (T := T_impl_Search) phi_impl_Search mixed Tryz.func11 rfl rfl rfl (by decide) ?_
  intro ins r outs hr hl
  clear hl
  have hs := spSearch_in hr
  clear hr
  obtain ⟨b, keys, rfl, hc, hr, rfl⟩ := hs
  simp only [spSearch, Tryz.f11, Go.VM.initS]
  obtain ⟨hc, hks⟩ := hc
  cases hk : boxOk b with
  | false =>
    simp only [hc, hk, Phi_impl_Search, T_impl_Search, spAll, spBoxOk, spSetOfList, go_sem]
    repeat' ((first | refine after_iteT.2 ⟨fun hp => ?_, fun hp => ?_⟩ | refine after_iteF.2 ⟨fun hp => ?_, fun hp => ?_⟩ | refine after_ite.2 ⟨fun hp => ?_, fun hp => ?_⟩ | refine grd_not.2 ⟨fun hp => ?_, fun hp => ?_⟩ | refine grd_beq.2 ⟨fun hp => ?_, fun hp => ?_⟩ | refine grd_dec.2 ⟨fun hp => ?_, fun hp => ?_⟩ | refine grd_bool.2 ⟨fun hp => ?_, fun hp => ?_⟩ | refine condG_not.2 ⟨fun hp => ?_, fun hp => ?_⟩ | refine condG_beq.2 ⟨fun hp => ?_, fun hp => ?_⟩ | refine condG_dec.2 ⟨fun hp => ?_, fun hp => ?_⟩ | refine condG_bool.2 ⟨fun hp => ?_, fun hp => ?_⟩ | (refine (goes_draw0 rfl (by decide +kernel)).2 ?_; have hp := True.intro) | (refine (goes_drawM _ rfl (by decide +kernel)).2 ?_; have hp := True.intro)) <;> simp only [hp, hc, hk, Phi_impl_Search, T_impl_Search, spAll, spBoxOk, spSetOfList, go_sem])
    all_goals (simp only [fin_mk, finV, resL, resV1, allUse, oneOrTup, List.take, List.drop, List.take_succ_cons, List.take_zero, List.drop_succ_cons, List.drop_zero, Phi_impl_Search, T_impl_Search, spAll, spBoxOk, spSetOfList, go_sem]; rw [← hr])
    all_goals (rw [search, hk, if_neg (by simp)]; rfl)
  | true =>
    have hml : b.Mails.length ≤ 30 := (boxOk_parts hk).2.1
    rw [search, hk, if_pos rfl] at hr
    have as1 : Asc (searchL b.Mails keys) 9999 := filter_asc hk _
    have aa1 := asc_all as1
    rw [setOf_asc as1] at hr
    clear as1
    simp only [hc, hk, Phi_impl_Search, T_impl_Search, spAll, spBoxOk, spSetOfList, go_sem]
    repeat' ((first | refine after_iteT.2 ⟨fun hp => ?_, fun hp => ?_⟩ | refine after_iteF.2 ⟨fun hp => ?_, fun hp => ?_⟩ | refine after_ite.2 ⟨fun hp => ?_, fun hp => ?_⟩ | refine grd_not.2 ⟨fun hp => ?_, fun hp => ?_⟩ | refine grd_beq.2 ⟨fun hp => ?_, fun hp => ?_⟩ | refine grd_dec.2 ⟨fun hp => ?_, fun hp => ?_⟩ | refine grd_bool.2 ⟨fun hp => ?_, fun hp => ?_⟩ | refine condG_not.2 ⟨fun hp => ?_, fun hp => ?_⟩ | refine condG_beq.2 ⟨fun hp => ?_, fun hp => ?_⟩ | refine condG_dec.2 ⟨fun hp => ?_, fun hp => ?_⟩ | refine condG_bool.2 ⟨fun hp => ?_, fun hp => ?_⟩ | (refine (goes_draw0 rfl (by decide +kernel)).2 ?_; have hp := True.intro) | (refine (goes_drawM _ rfl (by decide +kernel)).2 ?_; have hp := True.intro)) <;> simp only [hp, hc, hk, Phi_impl_Search, T_impl_Search, spAll, spBoxOk, spSetOfList, go_sem])
    refine loop_go (fun i : Nat => [(17, .int .i64 (i : Int))]) (fun i => [(0, ⟨.arr, 1, (searchL (b.Mails.take i) keys).map eInt⟩)]) (fun i => b.Mails.length - i) (fun i => i ≤ b.Mails.length) 0 (Nat.zero_le _) rfl rfl ?_
    intro i hi ih
    have hD : (searchL (b.Mails.take i) keys).length ≤ b.Mails.length := uids_len b.Mails (fun m => allB m keys) i
    rcases Nat.lt_or_ge i b.Mails.length with h | h
    · have g1 : (i : Int) < b.Mails.length := by omega
      have g2 : (0 : Int) ≤ i := by omega
      have g3 : b.Mails[i]? = some b.Mails[i] := List.getElem?_eq_getElem h
      have g5 := wrap_succ h (by omega)
      have hm : b.Mails[i].le 4194304 := hc.2.1.2 _ (List.getElem_mem h)
      have ih' := ih (i + 1) h (by omega)
      clear ih
      rw [searchL_succ h] at ih'
      generalize hmm : b.Mails[i] = m at *
      generalize hDD : searchL (b.Mails.take i) keys = D at *
      have b1 : (D.length + 1) * 8 ≤ 140737488355328 := by omega
      have b3 : D.length ≤ 9223372036854775806 := by omega
      cases hA : allB m keys with
      | false =>
        rw [hA] at ih'
        simp only [Bool.false_eq_true, if_false, List.append_nil] at ih'
        simp only [g1, g2, g3, g5, hA, hm, hks, and_self, Phi_impl_Search, T_impl_Search, spAll, spBoxOk, spSetOfList, go_sem]
        repeat' ((first | refine after_iteT.2 ⟨fun hp => ?_, fun hp => ?_⟩ | refine after_iteF.2 ⟨fun hp => ?_, fun hp => ?_⟩ | refine after_ite.2 ⟨fun hp => ?_, fun hp => ?_⟩ | refine grd_not.2 ⟨fun hp => ?_, fun hp => ?_⟩ | refine grd_beq.2 ⟨fun hp => ?_, fun hp => ?_⟩ | refine grd_dec.2 ⟨fun hp => ?_, fun hp => ?_⟩ | refine grd_bool.2 ⟨fun hp => ?_, fun hp => ?_⟩ | refine condG_not.2 ⟨fun hp => ?_, fun hp => ?_⟩ | refine condG_beq.2 ⟨fun hp => ?_, fun hp => ?_⟩ | refine condG_dec.2 ⟨fun hp => ?_, fun hp => ?_⟩ | refine condG_bool.2 ⟨fun hp => ?_, fun hp => ?_⟩ | (refine (goes_draw0 rfl (by decide +kernel)).2 ?_; have hp := True.intro) | (refine (goes_drawM _ rfl (by decide +kernel)).2 ?_; have hp := True.intro)) <;> simp only [hp, g1, g2, g3, g5, hA, hm, hks, and_self, Phi_impl_Search, T_impl_Search, spAll, spBoxOk, spSetOfList, go_sem])
        all_goals exact ih'
      | true =>
        rw [hA] at ih'
        simp only [if_true, List.map_append, List.map_cons, List.map_nil] at ih'
        simp only [g1, g2, g3, g5, hA, hm, hks, b1, b3, and_self, Phi_impl_Search, T_impl_Search, spAll, spBoxOk, spSetOfList, go_sem]
        repeat' ((first | refine after_iteT.2 ⟨fun hp => ?_, fun hp => ?_⟩ | refine after_iteF.2 ⟨fun hp => ?_, fun hp => ?_⟩ | refine after_ite.2 ⟨fun hp => ?_, fun hp => ?_⟩ | refine grd_not.2 ⟨fun hp => ?_, fun hp => ?_⟩ | refine grd_beq.2 ⟨fun hp => ?_, fun hp => ?_⟩ | refine grd_dec.2 ⟨fun hp => ?_, fun hp => ?_⟩ | refine grd_bool.2 ⟨fun hp => ?_, fun hp => ?_⟩ | refine condG_not.2 ⟨fun hp => ?_, fun hp => ?_⟩ | refine condG_beq.2 ⟨fun hp => ?_, fun hp => ?_⟩ | refine condG_dec.2 ⟨fun hp => ?_, fun hp => ?_⟩ | refine condG_bool.2 ⟨fun hp => ?_, fun hp => ?_⟩ | (refine (goes_draw0 rfl (by decide +kernel)).2 ?_; have hp := True.intro) | (refine (goes_drawM _ rfl (by decide +kernel)).2 ?_; have hp := True.intro)) <;> simp only [hp, g1, g2, g3, g5, hA, hm, hks, b1, b3, and_self, Phi_impl_Search, T_impl_Search, spAll, spBoxOk, spSetOfList, go_sem])
        all_goals first | exact ih' | (clear ih'; omega)
    · have g1 : ¬ (i : Int) < b.Mails.length := by omega
      rw [List.take_of_length_le h] at hD ⊢
      have sl1 : (searchL b.Mails keys).length ≤ 4194304 := by omega
      simp only [g1, sl1, aa1, Phi_impl_Search, T_impl_Search, spAll, spBoxOk, spSetOfList, go_sem]
      repeat' ((first | refine after_iteT.2 ⟨fun hp => ?_, fun hp => ?_⟩ | refine after_iteF.2 ⟨fun hp => ?_, fun hp => ?_⟩ | refine after_ite.2 ⟨fun hp => ?_, fun hp => ?_⟩ | refine grd_not.2 ⟨fun hp => ?_, fun hp => ?_⟩ | refine grd_beq.2 ⟨fun hp => ?_, fun hp => ?_⟩ | refine grd_dec.2 ⟨fun hp => ?_, fun hp => ?_⟩ | refine grd_bool.2 ⟨fun hp => ?_, fun hp => ?_⟩ | refine condG_not.2 ⟨fun hp => ?_, fun hp => ?_⟩ | refine condG_beq.2 ⟨fun hp => ?_, fun hp => ?_⟩ | refine condG_dec.2 ⟨fun hp => ?_, fun hp => ?_⟩ | refine condG_bool.2 ⟨fun hp => ?_, fun hp => ?_⟩ | (refine (goes_draw0 rfl (by decide +kernel)).2 ?_; have hp := True.intro) | (refine (goes_drawM _ rfl (by decide +kernel)).2 ?_; have hp := True.intro)) <;> simp only [hp, g1, sl1, aa1, Phi_impl_Search, T_impl_Search, spAll, spBoxOk, spSetOfList, go_sem])
      all_goals (simp only [fin_mk, finV, resL, resV1, allUse, oneOrTup, List.take, List.drop, List.take_succ_cons, List.take_zero, List.drop_succ_cons, List.drop_zero, Phi_impl_Search, T_impl_Search, spAll, spBoxOk, spSetOfList, go_sem]; rw [← hr])
def T_spec_Search : Hints := ⟨fun i => if i = 11 then some [] else if i = 13 then some [] else none, fun i => if i = 5 then some [1, 2, 5, 6] else if i = 9 then some [1, 2, 5, 6, 7, 8] else none, fun i => if i = 0 then some [1, 2] else if i = 1 then some [1, 2, 5] else if i = 2 then some [1, 2, 5, 12] else if i = 3 then some [4] else if i = 4 then some [1, 2, 5, 6] else if i = 5 then some [1, 2, 5, 6, 18] else if i = 7 then some [1, 2, 5, 6, 7] else if i = 8 then some [1, 2, 5, 6, 7, 8] else if i = 9 then some [1, 2, 5, 6, 7, 8, 24] else if i = 11 then some [1, 2, 5, 6, 7, 8] else if i = 10 then some [1, 2, 5, 6, 7, 8] else if i = 12 then some [1, 2, 5, 6, 40] else if i = 13 then some [1, 2, 5, 6] else if i = 6 then some [1, 2, 5, 6] else if i = 14 then some [4] else none⟩
noncomputable def Phi_spec_Search : Tab := fun f => if f = 34 then some spBoxOk else if f = 35 then some spMatches else if f = 36 then some spSetAdd else none
theorem phi_spec_Search : ∀ f sp, Phi_spec_Search f = some sp → FnOk Tryz.prog f sp ∧ ∀ n ∈ sp.need, n ∈ (["internal/bytealg.MaxLen"] : List String) := by
  intro f sp h
  unfold Phi_spec_Search at h
  split at h
  · rename_i e; cases h; rw [e]; exact ⟨ok_spec_BoxOk, (fun n (h : n ∈ ([] : List String)) => (nomatch h))⟩
  split at h
  · rename_i e; cases h; rw [e]; exact ⟨ok_spec_Matches, (fun n (h : n ∈ (["internal/bytealg.MaxLen"] : List String)) => by simp only [List.mem_cons, List.not_mem_nil, or_false] at h; rcases h with rfl <;> simp)⟩
  split at h
  · rename_i e; cases h; rw [e]; exact ⟨ok_spec_SetAdd, (fun n (h : n ∈ ([] : List String)) => (nomatch h))⟩
  cases h
theorem ok_spec_Search : FnOk Tryz.prog 8 spSearch := by
  refine fn_ok (Φ := Phi_spec_Search) (T := T_spec_Search) phi_spec_Search mixed Tryz.func8 rfl rfl rfl (by decide) ?_
  intro ins r outs hr hl
  clear hl
  have hs := spSearch_in hr
  clear hr
  obtain ⟨b, keys, rfl, hc, hr, rfl⟩ := hs
  simp only [spSearch, Tryz.f8, Go.VM.initS]
  obtain ⟨hc, hks⟩ := hc
  have hl : keys.length ≤ 4194304 := hks.1
  cases hk : boxOk b with
  | false =>
    simp only [hc, hk, Phi_spec_Search, T_spec_Search, spBoxOk, spMatches, spSetAdd, go_sem]
    repeat' ((first | refine after_iteT.2 ⟨fun hp => ?_, fun hp => ?_⟩ | refine after_iteF.2 ⟨fun hp => ?_, fun hp => ?_⟩ | refine after_ite.2 ⟨fun hp => ?_, fun hp => ?_⟩ | refine grd_not.2 ⟨fun hp => ?_, fun hp => ?_⟩ | refine grd_beq.2 ⟨fun hp => ?_, fun hp => ?_⟩ | refine grd_dec.2 ⟨fun hp => ?_, fun hp => ?_⟩ | refine grd_bool.2 ⟨fun hp => ?_, fun hp => ?_⟩ | refine condG_not.2 ⟨fun hp => ?_, fun hp => ?_⟩ | refine condG_beq.2 ⟨fun hp => ?_, fun hp => ?_⟩ | refine condG_dec.2 ⟨fun hp => ?_, fun hp => ?_⟩ | refine condG_bool.2 ⟨fun hp => ?_, fun hp => ?_⟩ | (refine (goes_draw0 rfl (by decide +kernel)).2 ?_; have hp := True.intro) | (refine (goes_drawM _ rfl (by decide +kernel)).2 ?_; have hp := True.intro)) <;> simp only [hp, hc, hk, Phi_spec_Search, T_spec_Search, spBoxOk, spMatches, spSetAdd, go_sem])
    all_goals (simp only [fin_mk, finV, resL, resV1, allUse, oneOrTup, List.take, List.drop, List.take_succ_cons, List.take_zero, List.drop_succ_cons, List.drop_zero, Phi_spec_Search, T_spec_Search, spBoxOk, spMatches, spSetAdd, go_sem]; rw [← hr])
    all_goals (rw [search, hk, if_neg (by simp)]; rfl)
  | true =>
    have hml : b.Mails.length ≤ 30 := (boxOk_parts hk).2.1
    rw [search, hk, if_pos rfl] at hr
    simp only [hc, hk, Phi_spec_Search, T_spec_Search, spBoxOk, spMatches, spSetAdd, go_sem]
    repeat' ((first | refine after_iteT.2 ⟨fun hp => ?_, fun hp => ?_⟩ | refine after_iteF.2 ⟨fun hp => ?_, fun hp => ?_⟩ | refine after_ite.2 ⟨fun hp => ?_, fun hp => ?_⟩ | refine grd_not.2 ⟨fun hp => ?_, fun hp => ?_⟩ | refine grd_beq.2 ⟨fun hp => ?_, fun hp => ?_⟩ | refine grd_dec.2 ⟨fun hp => ?_, fun hp => ?_⟩ | refine grd_bool.2 ⟨fun hp => ?_, fun hp => ?_⟩ | refine condG_not.2 ⟨fun hp => ?_, fun hp => ?_⟩ | refine condG_beq.2 ⟨fun hp => ?_, fun hp => ?_⟩ | refine condG_dec.2 ⟨fun hp => ?_, fun hp => ?_⟩ | refine condG_bool.2 ⟨fun hp => ?_, fun hp => ?_⟩ | (refine (goes_draw0 rfl (by decide +kernel)).2 ?_; have hp := True.intro) | (refine (goes_drawM _ rfl (by decide +kernel)).2 ?_; have hp := True.intro)) <;> simp only [hp, hc, hk, Phi_spec_Search, T_spec_Search, spBoxOk, spMatches, spSetAdd, go_sem])
    refine loop_go (fun i : Nat => [(6, .int .i64 (i : Int))]) (fun i => [(1, ⟨.arr, 2, (setOf (searchL (b.Mails.take i) keys)).map Range.enc⟩)]) (fun i => b.Mails.length - i) (fun i => i ≤ b.Mails.length) 0 (Nat.zero_le _) rfl (by simp only [show searchL (List.take 0 b.Mails) keys = [] from rfl, setOf_nil']; rfl) ?_
    intro i hi ih
    have hD : (searchL (b.Mails.take i) keys).length ≤ b.Mails.length := uids_len b.Mails (fun m => allB m keys) i
    rcases Nat.lt_or_ge i b.Mails.length with h | h
    · have g1 : (i : Int) < b.Mails.length := by omega
      have g2 : (0 : Int) ≤ i := by omega
      have g3 : b.Mails[i]? = some b.Mails[i] := List.getElem?_eq_getElem h
      have g5 := wrap_succ h (by omega)
      have hm : b.Mails[i].le 4194304 := hc.2.1.2 _ (List.getElem_mem h)
      have hin := mail_in hk h
      have ih' := ih (i + 1) h (by omega)
      clear ih
      rw [searchL_succ h] at ih'
      generalize hmm : b.Mails[i] = m at *
      generalize hDD : searchL (b.Mails.take i) keys = D at *
      have b1 := setAdd_one (S := D) (u := m.Uid) (by omega) (by omega)
      have b3 : (setOf D).length ≤ 4194304 := Nat.le_trans (setOf_len D) (by omega)
      have b5 := b1.1
      have b6 := b1.2
      clear b1
      simp only [g1, g2, g3, Phi_spec_Search, T_spec_Search, spBoxOk, spMatches, spSetAdd, go_sem]
      repeat' ((first | refine after_iteT.2 ⟨fun hp => ?_, fun hp => ?_⟩ | refine after_iteF.2 ⟨fun hp => ?_, fun hp => ?_⟩ | refine after_ite.2 ⟨fun hp => ?_, fun hp => ?_⟩ | refine grd_not.2 ⟨fun hp => ?_, fun hp => ?_⟩ | refine grd_beq.2 ⟨fun hp => ?_, fun hp => ?_⟩ | refine grd_dec.2 ⟨fun hp => ?_, fun hp => ?_⟩ | refine grd_bool.2 ⟨fun hp => ?_, fun hp => ?_⟩ | refine condG_not.2 ⟨fun hp => ?_, fun hp => ?_⟩ | refine condG_beq.2 ⟨fun hp => ?_, fun hp => ?_⟩ | refine condG_dec.2 ⟨fun hp => ?_, fun hp => ?_⟩ | refine condG_bool.2 ⟨fun hp => ?_, fun hp => ?_⟩ | (refine (goes_draw0 rfl (by decide +kernel)).2 ?_; have hp := True.intro) | (refine (goes_drawM _ rfl (by decide +kernel)).2 ?_; have hp := True.intro)) <;> simp only [hp, g1, g2, g3, Phi_spec_Search, T_spec_Search, spBoxOk, spMatches, spSetAdd, go_sem])
      refine loop_go (fun k : Nat => [(7, .bool (allB m (keys.take k))), (8, .int .i64 (k : Int))]) (fun _ => []) (fun k => keys.length - k) (fun k => k ≤ keys.length) 0 (Nat.zero_le _) rfl rfl ?_
      intro k hk' ihk
      rcases Nat.lt_or_ge k keys.length with hkl | hkl
      · have k1 : (k : Int) < keys.length := by omega
        have k2 : (0 : Int) ≤ k := by omega
        have k3 : keys[k]? = some keys[k] := List.getElem?_eq_getElem hkl
        have k5 := wrap_succ hkl (by omega)
        have hkk : keys[k].le 4194304 := hks.2 _ (List.getElem_mem hkl)
        have ihk' := ihk (k + 1) hkl (by omega)
        clear ihk ih'
        rw [allB_succ hkl] at ihk'
        cases hA : allB m (keys.take k) with
        | false =>
          rw [hA, Bool.false_and] at ihk'
          simp only [g1, g2, g3, k1, k2, k3, k5, hA, hm, hkk, and_self, Phi_spec_Search, T_spec_Search, spBoxOk, spMatches, spSetAdd, go_sem]
          repeat' ((first | refine after_iteT.2 ⟨fun hp => ?_, fun hp => ?_⟩ | refine after_iteF.2 ⟨fun hp => ?_, fun hp => ?_⟩ | refine after_ite.2 ⟨fun hp => ?_, fun hp => ?_⟩ | refine grd_not.2 ⟨fun hp => ?_, fun hp => ?_⟩ | refine grd_beq.2 ⟨fun hp => ?_, fun hp => ?_⟩ | refine grd_dec.2 ⟨fun hp => ?_, fun hp => ?_⟩ | refine grd_bool.2 ⟨fun hp => ?_, fun hp => ?_⟩ | refine condG_not.2 ⟨fun hp => ?_, fun hp => ?_⟩ | refine condG_beq.2 ⟨fun hp => ?_, fun hp => ?_⟩ | refine condG_dec.2 ⟨fun hp => ?_, fun hp => ?_⟩ | refine condG_bool.2 ⟨fun hp => ?_, fun hp => ?_⟩ | (refine (goes_draw0 rfl (by decide +kernel)).2 ?_; have hp := True.intro) | (refine (goes_drawM _ rfl (by decide +kernel)).2 ?_; have hp := True.intro)) <;> simp only [hp, g1, g2, g3, k1, k2, k3, k5, hA, hm, hkk, and_self, Phi_spec_Search, T_spec_Search, spBoxOk, spMatches, spSetAdd, go_sem])
          all_goals exact ihk'
        | true =>
          rw [hA, Bool.true_and] at ihk'
          simp only [g1, g2, g3, k1, k2, k3, k5, hA, hm, hkk, and_self, Phi_spec_Search, T_spec_Search, spBoxOk, spMatches, spSetAdd, go_sem]
          repeat' ((first | refine after_iteT.2 ⟨fun hp => ?_, fun hp => ?_⟩ | refine after_iteF.2 ⟨fun hp => ?_, fun hp => ?_⟩ | refine after_ite.2 ⟨fun hp => ?_, fun hp => ?_⟩ | refine grd_not.2 ⟨fun hp => ?_, fun hp => ?_⟩ | refine grd_beq.2 ⟨fun hp => ?_, fun hp => ?_⟩ | refine grd_dec.2 ⟨fun hp => ?_, fun hp => ?_⟩ | refine grd_bool.2 ⟨fun hp => ?_, fun hp => ?_⟩ | refine condG_not.2 ⟨fun hp => ?_, fun hp => ?_⟩ | refine condG_beq.2 ⟨fun hp => ?_, fun hp => ?_⟩ | refine condG_dec.2 ⟨fun hp => ?_, fun hp => ?_⟩ | refine condG_bool.2 ⟨fun hp => ?_, fun hp => ?_⟩ | (refine (goes_draw0 rfl (by decide +kernel)).2 ?_; have hp := True.intro) | (refine (goes_drawM _ rfl (by decide +kernel)).2 ?_; have hp := True.intro)) <;> simp only [hp, g1, g2, g3, k1, k2, k3, k5, hA, hm, hkk, and_self, Phi_spec_Search, T_spec_Search, spBoxOk, spMatches, spSetAdd, go_sem])
          all_goals exact ihk'
      · have k1 : ¬ (k : Int) < keys.length := by omega
        rw [List.take_of_length_le hkl]
        cases hA : allB m keys with
        | false =>
          rw [hA] at ih'
          simp only [Bool.false_eq_true, if_false, List.append_nil] at ih'
          simp only [g1, g2, g3, g5, k1, hA, Phi_spec_Search, T_spec_Search, spBoxOk, spMatches, spSetAdd, go_sem]
          repeat' ((first | refine after_iteT.2 ⟨fun hp => ?_, fun hp => ?_⟩ | refine after_iteF.2 ⟨fun hp => ?_, fun hp => ?_⟩ | refine after_ite.2 ⟨fun hp => ?_, fun hp => ?_⟩ | refine grd_not.2 ⟨fun hp => ?_, fun hp => ?_⟩ | refine grd_beq.2 ⟨fun hp => ?_, fun hp => ?_⟩ | refine grd_dec.2 ⟨fun hp => ?_, fun hp => ?_⟩ | refine grd_bool.2 ⟨fun hp => ?_, fun hp => ?_⟩ | refine condG_not.2 ⟨fun hp => ?_, fun hp => ?_⟩ | refine condG_beq.2 ⟨fun hp => ?_, fun hp => ?_⟩ | refine condG_dec.2 ⟨fun hp => ?_, fun hp => ?_⟩ | refine condG_bool.2 ⟨fun hp => ?_, fun hp => ?_⟩ | (refine (goes_draw0 rfl (by decide +kernel)).2 ?_; have hp := True.intro) | (refine (goes_drawM _ rfl (by decide +kernel)).2 ?_; have hp := True.intro)) <;> simp only [hp, g1, g2, g3, g5, k1, hA, Phi_spec_Search, T_spec_Search, spBoxOk, spMatches, spSetAdd, go_sem])
          all_goals exact ih'
        | true =>
          rw [hA] at ih'
          simp only [if_true] at ih'
          simp only [g1, g2, g3, g5, k1, hA, b3, b5, b6, Phi_spec_Search, T_spec_Search, spBoxOk, spMatches, spSetAdd, go_sem]
          repeat' ((first | refine after_iteT.2 ⟨fun hp => ?_, fun hp => ?_⟩ | refine after_iteF.2 ⟨fun hp => ?_, fun hp => ?_⟩ | refine after_ite.2 ⟨fun hp => ?_, fun hp => ?_⟩ | refine grd_not.2 ⟨fun hp => ?_, fun hp => ?_⟩ | refine grd_beq.2 ⟨fun hp => ?_, fun hp => ?_⟩ | refine grd_dec.2 ⟨fun hp => ?_, fun hp => ?_⟩ | refine grd_bool.2 ⟨fun hp => ?_, fun hp => ?_⟩ | refine condG_not.2 ⟨fun hp => ?_, fun hp => ?_⟩ | refine condG_beq.2 ⟨fun hp => ?_, fun hp => ?_⟩ | refine condG_dec.2 ⟨fun hp => ?_, fun hp => ?_⟩ | refine condG_bool.2 ⟨fun hp => ?_, fun hp => ?_⟩ | (refine (goes_draw0 rfl (by decide +kernel)).2 ?_; have hp := True.intro) | (refine (goes_drawM _ rfl (by decide +kernel)).2 ?_; have hp := True.intro)) <;> simp only [hp, g1, g2, g3, g5, k1, hA, b3, b5, b6, Phi_spec_Search, T_spec_Search, spBoxOk, spMatches, spSetAdd, go_sem])
          all_goals exact ih'
    · have g1 : ¬ (i : Int) < b.Mails.length := by omega
      rw [List.take_of_length_le h] at hD ⊢
      simp only [g1, Phi_spec_Search, T_spec_Search, spBoxOk, spMatches, spSetAdd, go_sem]
      repeat' ((first | refine after_iteT.2 ⟨fun hp => ?_, fun hp => ?_⟩ | refine after_iteF.2 ⟨fun hp => ?_, fun hp => ?_⟩ | refine after_ite.2 ⟨fun hp => ?_, fun hp => ?_⟩ | refine grd_not.2 ⟨fun hp => ?_, fun hp => ?_⟩ | refine grd_beq.2 ⟨fun hp => ?_, fun hp => ?_⟩ | refine grd_dec.2 ⟨fun hp => ?_, fun hp => ?_⟩ | refine grd_bool.2 ⟨fun hp => ?_, fun hp => ?_⟩ | refine condG_not.2 ⟨fun hp => ?_, fun hp => ?_⟩ | refine condG_beq.2 ⟨fun hp => ?_, fun hp => ?_⟩ | refine condG_dec.2 ⟨fun hp => ?_, fun hp => ?_⟩ | refine condG_bool.2 ⟨fun hp => ?_, fun hp => ?_⟩ | (refine (goes_draw0 rfl (by decide +kernel)).2 ?_; have hp := True.intro) | (refine (goes_drawM _ rfl (by decide +kernel)).2 ?_; have hp := True.intro)) <;> simp only [hp, g1, Phi_spec_Search, T_spec_Search, spBoxOk, spMatches, spSetAdd, go_sem])
      all_goals (simp only [fin_mk, finV, resL, resV1, allUse, oneOrTup, List.take, List.drop, List.take_succ_cons, List.take_zero, List.drop_succ_cons, List.drop_zero, Phi_spec_Search, T_spec_Search, spBoxOk, spMatches, spSetAdd, go_sem]; rw [← hr])
end Go.Proofs.YtglldabpgobimaaGreatDoor.L
