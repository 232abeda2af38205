/- Mails copied from box to box. -/
import Derived.Test.YtglldabpgobimaaVLN
import Derived.Test.YtglldabpgobimaaVLFl
namespace Go.Proofs.Ytglldabpgobimaa.L
open Go Go.VM
set_option maxRecDepth 100000
set_option maxHeartbeats 4000000
set_option linter.unusedSimpArgs false
set_option linter.unusedVariables false
def copyStep (set : List Range) (m : Mail) (t : Box) : Option Box := if hasR set m.Uid = true then (if addUid t m.Flags m.Text = 0 then none else some (addMail t m.Flags m.Text)) else some t
def copyL (set : List Range) : List Mail → Box → Option Box
  | [], t => some t
  | m :: l, t => (copyStep set m t).bind (copyL set l)
theorem copyL_snoc (set : List Range) : ∀ (l : List Mail) (m : Mail) (t : Box), copyL set (l ++ [m]) t = (copyL set l t).bind (copyStep set m)
  | [], m, t => by simp [copyL]
  | x :: l, m, t => by
    simp only [List.cons_append, copyL]
    cases copyStep set x t with
    | none => rfl
    | some u => simp only [Option.bind_some]; exact copyL_snoc set l m u
theorem copyL_none (set : List Range) : ∀ (l r : List Mail) (t : Box), copyL set l t = none → copyL set (l ++ r) t = none
  | [], r, t, h => by simp [copyL] at h
  | x :: l, r, t, h => by
    simp only [List.cons_append, copyL] at h ⊢
    cases hs : copyStep set x t with
    | none => rfl
    | some u => rw [hs] at h; simp only [Option.bind_some] at h ⊢; exact copyL_none set l r u h
theorem copyStep_le {set : List Range} {m : Mail} {t u : Box} (h : copyStep set m t = some u) (ht : t.le 4194304) (hm : m.Text.length ≤ 4194304) : u.le 4194304 := by
  unfold copyStep at h
  split at h
  · split at h
    · cases h
    · cases h; exact addMail_le ht hm
  · cases h; exact ht
def copyMails (s : Store) (a : List UInt8) (set : List Range) (b : List UInt8) : Store :=
  if (storeOk s && setOk set) = true then (if (boxHas s a && boxHas s b) = true then (match copyL set (boxGet s a).Mails (boxGet s b) with | none => s | some t => putBox s t) else s) else s
def copyCode (s : Store) (a : List UInt8) (set : List Range) (b : List UInt8) : Int :=
  if (storeOk s && setOk set) = true then (if (boxHas s a && boxHas s b) = true then (match copyL set (boxGet s a).Mails (boxGet s b) with | none => 3 | some t => 0) else 1) else 4
theorem copyL_le {set : List Range} : ∀ {l : List Mail} {t u : Box}, copyL set l t = some u → t.le 4194304 → (∀ m ∈ l, m.Text.length ≤ 4194304) → u.le 4194304
  | [], t, u, h, ht, _ => by simp only [copyL, Option.some.injEq] at h; subst h; exact ht
  | x :: l, t, u, h, ht, hm => by
    simp only [copyL, Option.bind_eq_some_iff] at h
    obtain ⟨v, hv, h⟩ := h
    exact copyL_le h (copyStep_le hv ht (hm x (by simp))) fun m hm' => hm m (by simp [hm'])
theorem mails_txt {b : Box} (h : b.le 4194304) : ∀ m ∈ b.Mails, m.Text.length ≤ 4194304 := h.2.1.2
theorem copyMails_le {s : Store} {a b : List UInt8} {set : List Range} (hs : s.le 4194304) : (copyMails s a set b).le 4194304 := by
  unfold copyMails
  split
  · split
    · split
      · exact hs
      · rename_i t ht
        exact putBox_le hs (copyL_le ht (boxGet_le hs) (mails_txt (boxGet_le hs)))
    · exact hs
  · exact hs
open Classical in
noncomputable def spCopyMails : VM.Spec := { modes := [.rd, .rd, .rd, .rd], run := fun | [s', .str a, .lst 2 set', .str b] => (Store.dec s').bind fun s => (decL Range.dec set').bind fun set => if s.le 4194304 ∧ set.length ≤ 4194304 then some (.tup [Store.enc (copyMails s a set b), .int .i64 (copyCode s a set b)], []) else none | _ => none, need := [] }
attribute [go_sem] spCopyMails
theorem spCopyMails_in {ins : List V} {r : V} {outs : List V} (h : spCopyMails.run ins = some (r, outs)) : ∃ (s : Store) (a : (List UInt8)) (set : (List Range)) (b : (List UInt8)), ins = [Store.enc s, .str a, .lst 2 ((set).map Range.enc), .str b] ∧ (s.le 4194304 ∧ set.length ≤ 4194304) ∧ .tup [Store.enc (copyMails s a set b), .int .i64 (copyCode s a set b)] = r ∧ outs = [] := by
  unfold spCopyMails at h
  simp only at h
  split at h
  · rename_i s' a set' b
    simp only [Option.bind_eq_some_iff] at h
    obtain ⟨s, h_s, set, h_set, h⟩ := h
    split at h
    case isFalse => cases h
    rename_i hc
    simp only [Option.some.injEq, Prod.mk.injEq] at h
    obtain ⟨h1, h2⟩ := h
    have h_s := Store.dec_some h_s
    subst h_s
    have h_set := decL_some (fun _ _ h => Range.dec_some h) h_set
    subst h_set
    exact ⟨s, a, set, b, rfl, hc, h1, h2.symm⟩
  · cases h
def T_impl_CopyMails : Hints := ⟨fun _ => none, fun i => if i = 8 then some [2, 4, 8, 12, 49, 50, 51] else none, fun i => if i = 0 then some [1, 2, 3, 4, 8] else if i = 1 then some [1, 2, 3, 4, 8, 25] else if i = 2 then some [8, 9] else if i = 3 then some [2, 3, 4, 8, 10, 11] else if i = 4 then some [2, 4, 8, 10, 11, 12, 13] else if i = 5 then some [2, 4, 8, 10, 12, 45] else if i = 6 then some [8, 9] else if i = 7 then some [2, 4, 8, 12, 49, 50, 51] else if i = 8 then some [2, 4, 8, 12, 49, 50, 51, 52] else if i = 9 then some [2, 4, 8, 12, 15, 49, 50, 51] else if i = 10 then some [2, 4, 8, 12, 15, 49, 50, 51, 59] else if i = 11 then some [2, 4, 8, 12, 16, 17, 49, 50, 51] else if i = 12 then some [2, 4, 8, 12, 16, 49, 50, 51, 70] else if i = 13 then some [8, 9] else if i = 14 then some [2, 4, 8, 12, 49, 50, 51] else if i = 15 then some [2, 4, 8, 12, 49, 50, 51] else if i = 16 then some [8, 9] else none, fun _ => none⟩
noncomputable def Phi_impl_CopyMails : Tab := fun f => if f = 81 then some spStoreOk else if f = 54 then some spSetOk else if f = 82 then some spCopyStore else if f = 83 then some spBoxAt else if f = 58 then some spSetHas else if f = 84 then some spAddMail else if f = 85 then some spPutBox else none
attribute [go_sem] T_impl_CopyMails Phi_impl_CopyMails
theorem phi_impl_CopyMails : ∀ f sp, Phi_impl_CopyMails f = some sp → FnOk Try.prog f sp ∧ ∀ n ∈ sp.need, n ∈ ([] : List String) := by
  intro f sp h
  unfold Phi_impl_CopyMails at h
  by_cases e : f = 81
  · rw [if_pos e] at h; cases h; rw [e]; exact ⟨ok_impl_StoreOk, (fun n (h : n ∈ ([] : List String)) => (nomatch h))⟩
  rw [if_neg e] at h
  by_cases e : f = 54
  · rw [if_pos e] at h; cases h; rw [e]; exact ⟨ok_impl_SetOk, (fun n (h : n ∈ ([] : List String)) => (nomatch h))⟩
  rw [if_neg e] at h
  by_cases e : f = 82
  · rw [if_pos e] at h; cases h; rw [e]; exact ⟨ok_impl_copyStore, (fun n (h : n ∈ ([] : List String)) => (nomatch h))⟩
  rw [if_neg e] at h
  by_cases e : f = 83
  · rw [if_pos e] at h; cases h; rw [e]; exact ⟨ok_impl_BoxAt, (fun n (h : n ∈ ([] : List String)) => (nomatch h))⟩
  rw [if_neg e] at h
  by_cases e : f = 58
  · rw [if_pos e] at h; cases h; rw [e]; exact ⟨ok_impl_SetHas, (fun n (h : n ∈ ([] : List String)) => (nomatch h))⟩
  rw [if_neg e] at h
  by_cases e : f = 84
  · rw [if_pos e] at h; cases h; rw [e]; exact ⟨ok_impl_AddMail, (fun n (h : n ∈ ([] : List String)) => (nomatch h))⟩
  rw [if_neg e] at h
  by_cases e : f = 85
  · rw [if_pos e] at h; cases h; rw [e]; exact ⟨ok_impl_PutBox, (fun n (h : n ∈ ([] : List String)) => (nomatch h))⟩
  rw [if_neg e] at h
  cases h
theorem ok_impl_CopyMails : FnOk Try.prog 28 spCopyMails := by
  refine fn_ok (Φ := Phi_impl_CopyMails) (T := T_impl_CopyMails) phi_impl_CopyMails mixed Try.func28 rfl rfl rfl (by decide) ?_
  intro ins r outs hr hl
  clear hl
  have hs := spCopyMails_in hr
  clear hr
  obtain ⟨s, a, set, b, rfl, hc, hr, rfl⟩ := hs
  simp only [spCopyMails, Try.f28, Go.VM.initS]
  obtain ⟨hc, hset⟩ := hc
  have hset2 : set.length ≤ 8388608 := by omega
  cases k1 : storeOk s with
  | false =>
    simp only [hc, hset, k1, go_sem]
    repeat' ((first | ((first | apply qa | apply qb | apply qc | apply qd | apply qe | apply qf | apply qg | apply qh | apply qi | apply qj | apply qk) <;> intro hp) | ((first | refine ql rfl rfl (by decide +kernel) ?_ | refine qm _ rfl rfl (by decide +kernel) ?_ | refine goes_opn rfl ?_ | refine goes_opnD rfl rfl (by decide +kernel) ?_) <;> have hp := True.intro)) <;> simp only [hp, hc, hset, k1, go_sem])
    simp only [fin_mk, finV, resL, resV1, resIn, endA, listIn, Option.some_or, Option.none_or, oneOrTup, go_sem]
    rw [← hr]
    simp only [copyMails, copyCode, k1, Bool.false_and, Bool.false_eq_true, if_false]; rfl
  | true =>
  cases k2 : setOk set with
  | false =>
    simp only [hc, hset, k1, k2, go_sem]
    repeat' ((first | ((first | apply qa | apply qb | apply qc | apply qd | apply qe | apply qf | apply qg | apply qh | apply qi | apply qj | apply qk) <;> intro hp) | ((first | refine ql rfl rfl (by decide +kernel) ?_ | refine qm _ rfl rfl (by decide +kernel) ?_ | refine goes_opn rfl ?_ | refine goes_opnD rfl rfl (by decide +kernel) ?_) <;> have hp := True.intro)) <;> simp only [hp, hc, hset, k1, k2, go_sem])
    simp only [fin_mk, finV, resL, resV1, resIn, endA, listIn, Option.some_or, Option.none_or, oneOrTup, go_sem]
    rw [← hr]
    simp only [copyMails, copyCode, k1, k2, Bool.and_false, Bool.false_eq_true, if_false]; rfl
  | true =>
  cases k3 : boxHas s a with
  | false =>
    simp only [hc, hset, k1, k2, k3, go_sem]
    repeat' ((first | ((first | apply qa | apply qb | apply qc | apply qd | apply qe | apply qf | apply qg | apply qh | apply qi | apply qj | apply qk) <;> intro hp) | ((first | refine ql rfl rfl (by decide +kernel) ?_ | refine qm _ rfl rfl (by decide +kernel) ?_ | refine goes_opn rfl ?_ | refine goes_opnD rfl rfl (by decide +kernel) ?_) <;> have hp := True.intro)) <;> simp only [hp, hc, hset, k1, k2, k3, go_sem])
    simp only [fin_mk, finV, resL, resV1, resIn, endA, listIn, Option.some_or, Option.none_or, oneOrTup, go_sem]
    rw [← hr]
    simp only [copyMails, copyCode, k1, k2, k3, Bool.and_true, Bool.false_and, if_true, Bool.false_eq_true, if_false]; rfl
  | true =>
  cases k4 : boxHas s b with
  | false =>
    simp only [hc, hset, k1, k2, k3, k4, go_sem]
    repeat' ((first | ((first | apply qa | apply qb | apply qc | apply qd | apply qe | apply qf | apply qg | apply qh | apply qi | apply qj | apply qk) <;> intro hp) | ((first | refine ql rfl rfl (by decide +kernel) ?_ | refine qm _ rfl rfl (by decide +kernel) ?_ | refine goes_opn rfl ?_ | refine goes_opnD rfl rfl (by decide +kernel) ?_) <;> have hp := True.intro)) <;> simp only [hp, hc, hset, k1, k2, k3, k4, go_sem])
    simp only [fin_mk, finV, resL, resV1, resIn, endA, listIn, Option.some_or, Option.none_or, oneOrTup, go_sem]
    rw [← hr]
    simp only [copyMails, copyCode, k1, k2, k3, k4, Bool.and_true, Bool.and_false, if_true, Bool.false_eq_true, if_false]; rfl
  | true =>
  have hA : (boxGet s a).le 4194304 := boxGet_le hc
  have hB : (boxGet s b).le 4194304 := boxGet_le hc
  have hml : (boxGet s a).Mails.length ≤ 4194304 := hA.2.1.1
  have hm2 : copyMails s a set b = (match copyL set (boxGet s a).Mails (boxGet s b) with | none => s | some t => putBox s t) := by
    simp only [copyMails, k1, k2, k3, k4, Bool.and_true, if_true]
  have hm3 : copyCode s a set b = (match copyL set (boxGet s a).Mails (boxGet s b) with | none => 3 | some t => 0) := by
    simp only [copyCode, k1, k2, k3, k4, Bool.and_true, if_true]
  rw [hm2, hm3] at hr
  clear hm2 hm3
  simp only [hc, hset, k1, k2, k3, k4, go_sem]
  repeat' ((first | ((first | apply qa | apply qb | apply qc | apply qd | apply qe | apply qf | apply qg | apply qh | apply qi | apply qj | apply qk) <;> intro hp) | ((first | refine ql rfl rfl (by decide +kernel) ?_ | refine qm _ rfl rfl (by decide +kernel) ?_ | refine goes_opn rfl ?_ | refine goes_opnD rfl rfl (by decide +kernel) ?_) <;> have hp := True.intro)) <;> simp only [hp, hc, hset, k1, k2, k3, k4, go_sem])
  generalize boxGet s a = A at *
  generalize boxGet s b = B at *
  refine loop_go (fun p : Nat × Box => [(51, .int .i64 (p.1 : Int))]) (fun p => [(2, ⟨.box, 7, [.agg [.str p.2.Name, .int .i64 p.2.Valid, .int .i64 p.2.Next, .int .i64 p.2.Mod, .own 4, .own 5, .int .i64 p.2.Horizon]]⟩), (4, ⟨.arr, 4, p.2.Mails.map Mail.enc⟩), (5, ⟨.arr, 2, p.2.Tombs.map Tomb.enc⟩)])
    (fun p => A.Mails.length - p.1) (fun p => p.1 ≤ A.Mails.length ∧ copyL set (A.Mails.take p.1) B = some p.2 ∧ p.2.le 4194304) (0, B) ⟨Nat.zero_le _, rfl, hB⟩ rfl rfl ?_
  rintro ⟨i, u⟩ ⟨hi, hu, hul⟩ ih
  simp only at hi hu hul ih
  rcases Nat.lt_or_ge i A.Mails.length with h | h
  · have g1 : (i : Int) < A.Mails.length := by omega
    have g2 : (0 : Int) ≤ i := by omega
    have g3 : A.Mails[i]? = some A.Mails[i] := List.getElem?_eq_getElem h
    have g5 := wrap_succ h (by omega)
    have gt := mails_txt hA _ (List.getElem_mem h)
    have hx : copyL set (A.Mails.take (i + 1)) B = copyStep set A.Mails[i] u := by rw [take_succ' h, copyL_snoc, hu]; rfl
    cases hq : hasR set A.Mails[i].Uid with
    | false =>
      have hs : copyStep set A.Mails[i] u = some u := by simp only [copyStep, hq, Bool.false_eq_true, if_false]
      have ih' := ih (i + 1, u) ⟨h, hx.trans hs, hul⟩ (by simp only; omega)
      simp only [g1, g2, g3, g5, gt, hq, hset2, hul, go_sem]
      repeat' ((first | ((first | apply qa | apply qb | apply qc | apply qd | apply qe | apply qf | apply qg | apply qh | apply qi | apply qj | apply qk) <;> intro hp) | ((first | refine ql rfl rfl (by decide +kernel) ?_ | refine qm _ rfl rfl (by decide +kernel) ?_ | refine goes_opn rfl ?_ | refine goes_opnD rfl rfl (by decide +kernel) ?_) <;> have hp := True.intro)) <;> simp only [hp, g1, g2, g3, g5, gt, hq, hset2, hul, go_sem])
      exact ih'
    | true =>
      by_cases hz : addUid u A.Mails[i].Flags A.Mails[i].Text = 0
      · have hs : copyStep set A.Mails[i] u = none := by simp only [copyStep, hq, hz, if_true]
        have hn : copyL set A.Mails B = none := by
          rw [← List.take_append_drop (i + 1) A.Mails]
          exact copyL_none _ _ _ _ (hx.trans hs)
        simp only [g1, g2, g3, g5, gt, hq, hset2, hul, hz, and_self, hc, beq_self_eq_true, go_sem]
        repeat' ((first | ((first | apply qa | apply qb | apply qc | apply qd | apply qe | apply qf | apply qg | apply qh | apply qi | apply qj | apply qk) <;> intro hp) | ((first | refine ql rfl rfl (by decide +kernel) ?_ | refine qm _ rfl rfl (by decide +kernel) ?_ | refine goes_opn rfl ?_ | refine goes_opnD rfl rfl (by decide +kernel) ?_) <;> have hp := True.intro)) <;> simp only [hp, g1, g2, g3, g5, gt, hq, hset2, hul, hz, and_self, hc, beq_self_eq_true, go_sem])
        simp only [fin_mk, finV, resL, resV1, resIn, endA, listIn, Option.some_or, Option.none_or, oneOrTup, go_sem]
        rw [← hr]
        rw [hn]; rfl
      · have hs : copyStep set A.Mails[i] u = some (addMail u A.Mails[i].Flags A.Mails[i].Text) := by simp only [copyStep, hq, hz, if_true, if_false]
        have hz' : (addUid u A.Mails[i].Flags A.Mails[i].Text == 0) = false := by rw [beq_eq_false_iff_ne]; exact hz
        have ih' := ih (i + 1, addMail u A.Mails[i].Flags A.Mails[i].Text) ⟨h, hx.trans hs, addMail_le hul gt⟩ (by simp only; omega)
        simp only [g1, g2, g3, g5, gt, hq, hset2, hul, hz', and_self, go_sem]
        repeat' ((first | ((first | apply qa | apply qb | apply qc | apply qd | apply qe | apply qf | apply qg | apply qh | apply qi | apply qj | apply qk) <;> intro hp) | ((first | refine ql rfl rfl (by decide +kernel) ?_ | refine qm _ rfl rfl (by decide +kernel) ?_ | refine goes_opn rfl ?_ | refine goes_opnD rfl rfl (by decide +kernel) ?_) <;> have hp := True.intro)) <;> simp only [hp, g1, g2, g3, g5, gt, hq, hset2, hul, hz', and_self, go_sem])
        exact ih'
  · have g1 : ¬ (i : Int) < A.Mails.length := by omega
    rw [List.take_of_length_le h] at hu
    rw [hu] at hr
    simp only [g1, hc, hul, and_self, go_sem]
    repeat' ((first | ((first | apply qa | apply qb | apply qc | apply qd | apply qe | apply qf | apply qg | apply qh | apply qi | apply qj | apply qk) <;> intro hp) | ((first | refine ql rfl rfl (by decide +kernel) ?_ | refine qm _ rfl rfl (by decide +kernel) ?_ | refine goes_opn rfl ?_ | refine goes_opnD rfl rfl (by decide +kernel) ?_) <;> have hp := True.intro)) <;> simp only [hp, g1, hc, hul, and_self, go_sem])
    simp only [fin_mk, finV, resL, resV1, resIn, endA, listIn, Option.some_or, Option.none_or, oneOrTup, go_sem]
    rw [← hr]
    rfl
def T_spec_CopyMails : Hints := ⟨fun i => if i = 12 then some [(0, 17), (1, 17), (2, 17), (4, 17), (5, 17), (6, 17), (7, 17), (8, 17), (10, 17), (11, 17), (12, 17), (13, 17)] else none, fun i => if i = 9 then some [2, 4, 8, 10, 11, 13, 15] else none, fun i => if i = 0 then some [1, 2, 3, 4, 8] else if i = 1 then some [1, 2, 3, 4, 8, 10] else if i = 2 then some [1, 2, 3, 4, 8, 10, 27] else if i = 3 then some [8, 9] else if i = 4 then some [2, 3, 4, 8, 10, 11, 12] else if i = 5 then some [2, 4, 8, 10, 11, 12, 13, 14] else if i = 6 then some [2, 4, 8, 10, 11, 13, 46] else if i = 7 then some [8, 9] else if i = 8 then some [2, 4, 8, 10, 11, 13, 15] else if i = 9 then some [2, 4, 8, 10, 11, 13, 15, 52] else if i = 11 then some [2, 4, 8, 10, 11, 13, 15, 63] else if i = 12 then some [2, 4, 8, 10, 11, 13, 15, 16, 17] else if i = 13 then some [2, 4, 8, 10, 11, 13, 15, 16, 82] else if i = 14 then some [8, 9] else if i = 15 then some [2, 4, 8, 10, 11, 13, 15] else if i = 10 then some [2, 4, 8, 10, 11, 13, 15] else if i = 16 then some [8, 9] else none, fun _ => none⟩
noncomputable def Phi_spec_CopyMails : Tab := fun f => if f = 76 then some spStoreOk else if f = 45 then some spSetOk else if f = 75 then some spCopyStore else if f = 77 then some spBoxAt else if f = 48 then some spSetHas else if f = 78 then some spAddMail else if f = 79 then some spPutBox else none
attribute [go_sem] T_spec_CopyMails Phi_spec_CopyMails
theorem phi_spec_CopyMails : ∀ f sp, Phi_spec_CopyMails f = some sp → FnOk Try.prog f sp ∧ ∀ n ∈ sp.need, n ∈ ([] : List String) := by
  intro f sp h
  unfold Phi_spec_CopyMails at h
  by_cases e : f = 76
  · rw [if_pos e] at h; cases h; rw [e]; exact ⟨ok_spec_StoreOk, (fun n (h : n ∈ ([] : List String)) => (nomatch h))⟩
  rw [if_neg e] at h
  by_cases e : f = 45
  · rw [if_pos e] at h; cases h; rw [e]; exact ⟨ok_spec_SetOk, (fun n (h : n ∈ ([] : List String)) => (nomatch h))⟩
  rw [if_neg e] at h
  by_cases e : f = 75
  · rw [if_pos e] at h; cases h; rw [e]; exact ⟨ok_spec_l09Copy, (fun n (h : n ∈ ([] : List String)) => (nomatch h))⟩
  rw [if_neg e] at h
  by_cases e : f = 77
  · rw [if_pos e] at h; cases h; rw [e]; exact ⟨ok_spec_BoxAt, (fun n (h : n ∈ ([] : List String)) => (nomatch h))⟩
  rw [if_neg e] at h
  by_cases e : f = 48
  · rw [if_pos e] at h; cases h; rw [e]; exact ⟨ok_spec_SetHas, (fun n (h : n ∈ ([] : List String)) => (nomatch h))⟩
  rw [if_neg e] at h
  by_cases e : f = 78
  · rw [if_pos e] at h; cases h; rw [e]; exact ⟨ok_spec_AddMail, (fun n (h : n ∈ ([] : List String)) => (nomatch h))⟩
  rw [if_neg e] at h
  by_cases e : f = 79
  · rw [if_pos e] at h; cases h; rw [e]; exact ⟨ok_spec_PutBox, (fun n (h : n ∈ ([] : List String)) => (nomatch h))⟩
  rw [if_neg e] at h
  cases h
theorem ok_spec_CopyMails : FnOk Try.prog 26 spCopyMails := by
  refine fn_ok (Φ := Phi_spec_CopyMails) (T := T_spec_CopyMails) phi_spec_CopyMails mixed Try.func26 rfl rfl rfl (by decide) ?_
  intro ins r outs hr hl
  clear hl
  have hs := spCopyMails_in hr
  clear hr
  obtain ⟨s, a, set, b, rfl, hc, hr, rfl⟩ := hs
  simp only [spCopyMails, Try.f26, Go.VM.initS]
  obtain ⟨hc, hset⟩ := hc
  have hset2 : set.length ≤ 8388608 := by omega
  cases k1 : storeOk s with
  | false =>
    simp only [hc, hset, k1, go_sem]
    repeat' ((first | ((first | apply qa | apply qb | apply qc | apply qd | apply qe | apply qf | apply qg | apply qh | apply qi | apply qj | apply qk) <;> intro hp) | ((first | refine ql rfl rfl (by decide +kernel) ?_ | refine qm _ rfl rfl (by decide +kernel) ?_ | refine goes_opn rfl ?_ | refine goes_opnD rfl rfl (by decide +kernel) ?_) <;> have hp := True.intro)) <;> simp only [hp, hc, hset, k1, go_sem])
    simp only [fin_mk, finV, resL, resV1, resIn, endA, listIn, Option.some_or, Option.none_or, oneOrTup, go_sem]
    rw [← hr]
    simp only [copyMails, copyCode, k1, Bool.false_and, Bool.false_eq_true, if_false]; rfl
  | true =>
  cases k2 : setOk set with
  | false =>
    simp only [hc, hset, k1, k2, go_sem]
    repeat' ((first | ((first | apply qa | apply qb | apply qc | apply qd | apply qe | apply qf | apply qg | apply qh | apply qi | apply qj | apply qk) <;> intro hp) | ((first | refine ql rfl rfl (by decide +kernel) ?_ | refine qm _ rfl rfl (by decide +kernel) ?_ | refine goes_opn rfl ?_ | refine goes_opnD rfl rfl (by decide +kernel) ?_) <;> have hp := True.intro)) <;> simp only [hp, hc, hset, k1, k2, go_sem])
    simp only [fin_mk, finV, resL, resV1, resIn, endA, listIn, Option.some_or, Option.none_or, oneOrTup, go_sem]
    rw [← hr]
    simp only [copyMails, copyCode, k1, k2, Bool.and_false, Bool.false_eq_true, if_false]; rfl
  | true =>
  cases k3 : boxHas s a with
  | false =>
    simp only [hc, hset, k1, k2, k3, go_sem]
    repeat' ((first | ((first | apply qa | apply qb | apply qc | apply qd | apply qe | apply qf | apply qg | apply qh | apply qi | apply qj | apply qk) <;> intro hp) | ((first | refine ql rfl rfl (by decide +kernel) ?_ | refine qm _ rfl rfl (by decide +kernel) ?_ | refine goes_opn rfl ?_ | refine goes_opnD rfl rfl (by decide +kernel) ?_) <;> have hp := True.intro)) <;> simp only [hp, hc, hset, k1, k2, k3, go_sem])
    simp only [fin_mk, finV, resL, resV1, resIn, endA, listIn, Option.some_or, Option.none_or, oneOrTup, go_sem]
    rw [← hr]
    simp only [copyMails, copyCode, k1, k2, k3, Bool.and_true, Bool.false_and, if_true, Bool.false_eq_true, if_false]; rfl
  | true =>
  cases k4 : boxHas s b with
  | false =>
    simp only [hc, hset, k1, k2, k3, k4, go_sem]
    repeat' ((first | ((first | apply qa | apply qb | apply qc | apply qd | apply qe | apply qf | apply qg | apply qh | apply qi | apply qj | apply qk) <;> intro hp) | ((first | refine ql rfl rfl (by decide +kernel) ?_ | refine qm _ rfl rfl (by decide +kernel) ?_ | refine goes_opn rfl ?_ | refine goes_opnD rfl rfl (by decide +kernel) ?_) <;> have hp := True.intro)) <;> simp only [hp, hc, hset, k1, k2, k3, k4, go_sem])
    simp only [fin_mk, finV, resL, resV1, resIn, endA, listIn, Option.some_or, Option.none_or, oneOrTup, go_sem]
    rw [← hr]
    simp only [copyMails, copyCode, k1, k2, k3, k4, Bool.and_true, Bool.and_false, if_true, Bool.false_eq_true, if_false]; rfl
  | true =>
  have hA : (boxGet s a).le 4194304 := boxGet_le hc
  have hB : (boxGet s b).le 4194304 := boxGet_le hc
  have hml : (boxGet s a).Mails.length ≤ 4194304 := hA.2.1.1
  have hm2 : copyMails s a set b = (match copyL set (boxGet s a).Mails (boxGet s b) with | none => s | some t => putBox s t) := by
    simp only [copyMails, k1, k2, k3, k4, Bool.and_true, if_true]
  have hm3 : copyCode s a set b = (match copyL set (boxGet s a).Mails (boxGet s b) with | none => 3 | some t => 0) := by
    simp only [copyCode, k1, k2, k3, k4, Bool.and_true, if_true]
  rw [hm2, hm3] at hr
  clear hm2 hm3
  simp only [hc, hset, k1, k2, k3, k4, go_sem]
  repeat' ((first | ((first | apply qa | apply qb | apply qc | apply qd | apply qe | apply qf | apply qg | apply qh | apply qi | apply qj | apply qk) <;> intro hp) | ((first | refine ql rfl rfl (by decide +kernel) ?_ | refine qm _ rfl rfl (by decide +kernel) ?_ | refine goes_opn rfl ?_ | refine goes_opnD rfl rfl (by decide +kernel) ?_) <;> have hp := True.intro)) <;> simp only [hp, hc, hset, k1, k2, k3, k4, go_sem])
  generalize boxGet s a = A at *
  generalize boxGet s b = B at *
  refine loop_go (fun p : Nat × Box => [(15, .int .i64 (p.1 : Int))]) (fun p => [(4, ⟨.box, 7, [.agg [.str p.2.Name, .int .i64 p.2.Valid, .int .i64 p.2.Next, .int .i64 p.2.Mod, .own 8, .own 9, .int .i64 p.2.Horizon]]⟩), (8, ⟨.arr, 4, p.2.Mails.map Mail.enc⟩), (9, ⟨.arr, 2, p.2.Tombs.map Tomb.enc⟩)])
    (fun p => A.Mails.length - p.1) (fun p => p.1 ≤ A.Mails.length ∧ copyL set (A.Mails.take p.1) B = some p.2 ∧ p.2.le 4194304) (0, B) ⟨Nat.zero_le _, rfl, hB⟩ rfl rfl ?_
  rintro ⟨i, u⟩ ⟨hi, hu, hul⟩ ih
  simp only at hi hu hul ih
  rcases Nat.lt_or_ge i A.Mails.length with h | h
  · have g1 : (i : Int) < A.Mails.length := by omega
    have g2 : (0 : Int) ≤ i := by omega
    have g3 : A.Mails[i]? = some A.Mails[i] := List.getElem?_eq_getElem h
    have g5 := wrap_succ h (by omega)
    have gt := mails_txt hA _ (List.getElem_mem h)
    have hx : copyL set (A.Mails.take (i + 1)) B = copyStep set A.Mails[i] u := by rw [take_succ' h, copyL_snoc, hu]; rfl
    cases hq : hasR set A.Mails[i].Uid with
    | false =>
      have hs : copyStep set A.Mails[i] u = some u := by simp only [copyStep, hq, Bool.false_eq_true, if_false]
      have ih' := ih (i + 1, u) ⟨h, hx.trans hs, hul⟩ (by simp only; omega)
      simp only [g1, g2, g3, g5, gt, hq, hset2, hul, go_sem]
      repeat' ((first | ((first | apply qa | apply qb | apply qc | apply qd | apply qe | apply qf | apply qg | apply qh | apply qi | apply qj | apply qk) <;> intro hp) | ((first | refine ql rfl rfl (by decide +kernel) ?_ | refine qm _ rfl rfl (by decide +kernel) ?_ | refine goes_opn rfl ?_ | refine goes_opnD rfl rfl (by decide +kernel) ?_) <;> have hp := True.intro)) <;> simp only [hp, g1, g2, g3, g5, gt, hq, hset2, hul, go_sem])
      exact ih'
    | true =>
      by_cases hz : addUid u A.Mails[i].Flags A.Mails[i].Text = 0
      · have hs : copyStep set A.Mails[i] u = none := by simp only [copyStep, hq, hz, if_true]
        have hn : copyL set A.Mails B = none := by
          rw [← List.take_append_drop (i + 1) A.Mails]
          exact copyL_none _ _ _ _ (hx.trans hs)
        simp only [g1, g2, g3, g5, gt, hq, hset2, hul, hz, and_self, hc, beq_self_eq_true, go_sem]
        repeat' ((first | ((first | apply qa | apply qb | apply qc | apply qd | apply qe | apply qf | apply qg | apply qh | apply qi | apply qj | apply qk) <;> intro hp) | ((first | refine ql rfl rfl (by decide +kernel) ?_ | refine qm _ rfl rfl (by decide +kernel) ?_ | refine goes_opn rfl ?_ | refine goes_opnD rfl rfl (by decide +kernel) ?_) <;> have hp := True.intro)) <;> simp only [hp, g1, g2, g3, g5, gt, hq, hset2, hul, hz, and_self, hc, beq_self_eq_true, go_sem])
        simp only [fin_mk, finV, resL, resV1, resIn, endA, listIn, Option.some_or, Option.none_or, oneOrTup, go_sem]
        rw [← hr]
        rw [hn]; rfl
      · have hs : copyStep set A.Mails[i] u = some (addMail u A.Mails[i].Flags A.Mails[i].Text) := by simp only [copyStep, hq, hz, if_true, if_false]
        have hz' : (addUid u A.Mails[i].Flags A.Mails[i].Text == 0) = false := by rw [beq_eq_false_iff_ne]; exact hz
        have ih' := ih (i + 1, addMail u A.Mails[i].Flags A.Mails[i].Text) ⟨h, hx.trans hs, addMail_le hul gt⟩ (by simp only; omega)
        simp only [g1, g2, g3, g5, gt, hq, hset2, hul, hz', and_self, go_sem]
        repeat' ((first | ((first | apply qa | apply qb | apply qc | apply qd | apply qe | apply qf | apply qg | apply qh | apply qi | apply qj | apply qk) <;> intro hp) | ((first | refine ql rfl rfl (by decide +kernel) ?_ | refine qm _ rfl rfl (by decide +kernel) ?_ | refine goes_opn rfl ?_ | refine goes_opnD rfl rfl (by decide +kernel) ?_) <;> have hp := True.intro)) <;> simp only [hp, g1, g2, g3, g5, gt, hq, hset2, hul, hz', and_self, go_sem])
        exact ih'
  · have g1 : ¬ (i : Int) < A.Mails.length := by omega
    rw [List.take_of_length_le h] at hu
    rw [hu] at hr
    simp only [g1, hc, hul, and_self, go_sem]
    repeat' ((first | ((first | apply qa | apply qb | apply qc | apply qd | apply qe | apply qf | apply qg | apply qh | apply qi | apply qj | apply qk) <;> intro hp) | ((first | refine ql rfl rfl (by decide +kernel) ?_ | refine qm _ rfl rfl (by decide +kernel) ?_ | refine goes_opn rfl ?_ | refine goes_opnD rfl rfl (by decide +kernel) ?_) <;> have hp := True.intro)) <;> simp only [hp, g1, hc, hul, and_self, go_sem])
    simp only [fin_mk, finV, resL, resV1, resIn, endA, listIn, Option.some_or, Option.none_or, oneOrTup, go_sem]
    rw [← hr]
    rfl
end Go.Proofs.Ytglldabpgobimaa.L
