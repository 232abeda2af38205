/- Mails moved from box to box. -/
import Derived.Test.YtglldabpgobimaaVLQ
import Derived.Test.YtglldabpgobimaaVLY
import Derived.Test.YtglldabpgobimaaVLSF
namespace Go.Proofs.Ytglldabpgobimaa.L
open Go Go.VM
set_option maxRecDepth 100000
set_option maxHeartbeats 4000000
set_option linter.unusedSimpArgs false
set_option linter.unusedVariables false
def sizeL (s : List Range) : Int := s.foldl (fun n r => n + r.Hi - r.Lo + 1) 0
def setSize (s : List Range) : Int := if setOk s = true then sizeL s else 0
theorem sizeL_snoc (s : List Range) (r : Range) : sizeL (s ++ [r]) = sizeL s + r.Hi - r.Lo + 1 := by simp [sizeL, List.foldl_append]
theorem size_at {s : List Range} (h : setOk s = true) {i : Nat} (hi : i < s.length) : 1 ≤ s[i].Lo ∧ s[i].Lo ≤ s[i].Hi ∧ s[i].Hi ≤ 9999 := by
  simp only [setOk, Bool.and_eq_true] at h
  have := allN_get h.1 hi
  simp only [rangeAt, Bool.and_eq_true, within, decide_eq_true_eq, List.getD_eq_getElem?_getD, List.getElem?_eq_getElem hi, Option.getD_some] at this
  exact ⟨this.1.1.1, this.1.2.1, this.1.2.2⟩
open Classical in
noncomputable def spSetSize : VM.Spec := { modes := [.rd], run := fun | [.lst 2 s'] => (decL Range.dec s').bind fun s => if s.length ≤ 4194304 then some (.int .i64 (setSize s), []) else none | _ => none, need := [] }
attribute [go_sem] spSetSize
theorem spSetSize_in {ins : List V} {r : V} {outs : List V} (h : spSetSize.run ins = some (r, outs)) : ∃ (s : (List Range)), ins = [.lst 2 ((s).map Range.enc)] ∧ (s.length ≤ 4194304) ∧ .int .i64 (setSize s) = r ∧ outs = [] := by
  unfold spSetSize at h
  simp only at h
  split at h
  · rename_i s'
    simp only [Option.bind_eq_some_iff] at h
    obtain ⟨s, h_s, h⟩ := h
    split at h
    case isFalse => cases h
    rename_i hc
    simp only [Option.some.injEq, Prod.mk.injEq] at h
    obtain ⟨h1, h2⟩ := h
    have h_s := decL_some (fun _ _ h => Range.dec_some h) h_s
    subst h_s
    exact ⟨s, rfl, hc, h1, h2.symm⟩
  · cases h
def T_spec_SetSize : Hints := ⟨fun i => if i = 7 then some [] else none, fun i => if i = 5 then some [0, 3, 4] else none, fun i => if i = 0 then some [0] else if i = 1 then some [0, 7] else if i = 2 then some [2] else if i = 3 then some [0, 3] else if i = 4 then some [0, 3, 4] else if i = 5 then some [0, 3, 4, 11] else if i = 7 then some [0, 3, 4] else if i = 6 then some [0, 3, 4] else if i = 8 then some [2] else none, fun _ => none⟩
noncomputable def Phi_spec_SetSize : Tab := fun f => if f = 45 then some spSetOk else none
attribute [go_sem] T_spec_SetSize Phi_spec_SetSize
theorem phi_spec_SetSize : ∀ f sp, Phi_spec_SetSize f = some sp → FnOk Try.prog f sp ∧ ∀ n ∈ sp.need, n ∈ ([] : List String) := by
  intro f sp h
  unfold Phi_spec_SetSize at h
  by_cases e : f = 45
  · rw [if_pos e] at h; cases h; rw [e]; exact ⟨ok_spec_SetOk, (fun n (h : n ∈ ([] : List String)) => (nomatch h))⟩
  rw [if_neg e] at h
  cases h
theorem ok_spec_SetSize : FnOk Try.prog 89 spSetSize := by
  refine fn_ok (Φ := Phi_spec_SetSize) (T := T_spec_SetSize) phi_spec_SetSize mixed Try.func89 rfl rfl rfl (by decide) ?_
  intro ins r outs hr hl
  clear hl
  have hs := spSetSize_in hr
  clear hr
  obtain ⟨s, rfl, hc, hr, rfl⟩ := hs
  simp only [spSetSize, Try.f89, Go.VM.initS]
  cases k : setOk s with
  | false =>
    simp only [hc, k, go_sem]
    repeat' ((first | ((first | apply qa | apply qb | apply qc | apply qd | apply qe | apply qf | apply qg | apply qh | apply qi | apply qj | apply qk) <;> intro hp) | ((first | refine ql rfl rfl (by decide +kernel) ?_ | refine qm _ rfl rfl (by decide +kernel) ?_ | refine goes_opn rfl ?_ | refine goes_opnD rfl rfl (by decide +kernel) ?_) <;> have hp := True.intro)) <;> simp only [hp, hc, k, go_sem])
    simp only [fin_mk, finV, resL, resV1, resIn, endA, listIn, Option.some_or, Option.none_or, oneOrTup, go_sem]
    rw [← hr]
    simp only [setSize, k, Bool.false_eq_true, if_false]
  | true =>
  have hl : s.length ≤ 40 := by simp only [setOk, Bool.and_eq_true, decide_eq_true_eq] at k; exact k.2
  simp only [hc, k, go_sem]
  repeat' ((first | ((first | apply qa | apply qb | apply qc | apply qd | apply qe | apply qf | apply qg | apply qh | apply qi | apply qj | apply qk) <;> intro hp) | ((first | refine ql rfl rfl (by decide +kernel) ?_ | refine qm _ rfl rfl (by decide +kernel) ?_ | refine goes_opn rfl ?_ | refine goes_opnD rfl rfl (by decide +kernel) ?_) <;> have hp := True.intro)) <;> simp only [hp, hc, k, go_sem])
  refine loop_go (fun p : Nat × Int => [(3, .int .i64 p.2), (4, .int .i64 (p.1 : Int))]) (fun _ => []) (fun p => s.length - p.1) (fun p => p.1 ≤ s.length ∧ p.2 = sizeL (s.take p.1) ∧ 0 ≤ p.2 ∧ p.2 ≤ 9999 * p.1) (0, 0) ⟨Nat.zero_le _, rfl, by simp, by simp⟩ rfl rfl ?_
  rintro ⟨i, n⟩ ⟨hi, hn, h0, h1⟩ ih
  simp only at hi hn h0 h1 ih
  rcases Nat.lt_or_ge i s.length with h | h
  · have g1 : (i : Int) < s.length := by omega
    have g2 : (0 : Int) ≤ i := by omega
    have g3 : s[i]? = some s[i] := List.getElem?_eq_getElem h
    have g5 := wrap_succ h (by omega)
    obtain ⟨a1, a2, a3⟩ := size_at k h
    have w1 : IntKind.i64.wrap (n + s[i].Hi) = n + s[i].Hi := wrap64 (by omega) (by omega)
    have w2 : IntKind.i64.wrap (n + s[i].Hi - s[i].Lo) = n + s[i].Hi - s[i].Lo := wrap64 (by omega) (by omega)
    have w3 : IntKind.i64.wrap (n + s[i].Hi - s[i].Lo + 1) = n + s[i].Hi - s[i].Lo + 1 := wrap64 (by omega) (by omega)
    have ih' := ih (i + 1, n + s[i].Hi - s[i].Lo + 1) ⟨h, by rw [take_succ' h, sizeL_snoc, hn], by simp only; omega, by simp only; omega⟩ (by simp only; omega)
    simp only [g1, g2, g3, g5, w1, w2, w3, go_sem]
    repeat' ((first | ((first | apply qa | apply qb | apply qc | apply qd | apply qe | apply qf | apply qg | apply qh | apply qi | apply qj | apply qk) <;> intro hp) | ((first | refine ql rfl rfl (by decide +kernel) ?_ | refine qm _ rfl rfl (by decide +kernel) ?_ | refine goes_opn rfl ?_ | refine goes_opnD rfl rfl (by decide +kernel) ?_) <;> have hp := True.intro)) <;> simp only [hp, g1, g2, g3, g5, w1, w2, w3, go_sem])
    exact ih'
  · have g1 : ¬ (i : Int) < s.length := by omega
    simp only [g1, go_sem]
    repeat' ((first | ((first | apply qa | apply qb | apply qc | apply qd | apply qe | apply qf | apply qg | apply qh | apply qi | apply qj | apply qk) <;> intro hp) | ((first | refine ql rfl rfl (by decide +kernel) ?_ | refine qm _ rfl rfl (by decide +kernel) ?_ | refine goes_opn rfl ?_ | refine goes_opnD rfl rfl (by decide +kernel) ?_) <;> have hp := True.intro)) <;> simp only [hp, g1, go_sem])
    simp only [fin_mk, finV, resL, resV1, resIn, endA, listIn, Option.some_or, Option.none_or, oneOrTup, go_sem]
    rw [← hr]
    rw [setSize, if_pos k, hn, List.take_of_length_le h]
theorem sizeL_push (out : List Range) (n : Int) : sizeL (push out n) = sizeL out + 1 := by
  rcases snoc_cases out with rfl | ⟨a, r, rfl⟩
  · rw [push_nil]; simp [sizeL]
  · rw [push_snoc]
    split
    · rw [sizeL_snoc, sizeL_snoc]; simp only; omega
    · rw [sizeL_snoc (a ++ [r])]; simp only; omega
theorem sizeL_scan (l : List Int) : sizeL (scan l) = l.length := by
  induction l using snoc_ind with
  | h0 => rfl
  | h1 l x ih => rw [scan_snoc, sizeL_push, ih, List.length_append, List.length_singleton]; omega
def inSet (set : List Range) (m : Mail) : Bool := hasR set m.Uid
def cntIn (l : List Mail) (set : List Range) : Int := (l.filter (inSet set)).length
theorem gone_in {set : List Range} {m : Mail} (h : goneI set m = true) : inSet set m = true := by
  simp only [goneI, Bool.and_eq_true] at h; exact h.1
theorem cnt_gone {set : List Range} : ∀ l : List Mail, (((l.filter (goneI set)).length : Int) = (l.filter (inSet set)).length ↔ (l.filter fun m => !goneI set m).any (inSet set) = false) ∧ (l.filter (goneI set)).length ≤ (l.filter (inSet set)).length
  | [] => ⟨⟨fun _ => rfl, fun _ => rfl⟩, Nat.le_refl _⟩
  | m :: l => by
    obtain ⟨h1, h2⟩ := cnt_gone (set := set) l
    cases hg : goneI set m with
    | true =>
      have hi := gone_in hg
      simp only [List.filter_cons, hg, hi, if_true, List.length_cons, Bool.not_true, Bool.false_eq_true, if_false]
      exact ⟨by rw [← h1]; omega, by omega⟩
    | false =>
      cases hi : inSet set m with
      | true =>
        simp only [List.filter_cons, hg, hi, if_true, List.length_cons, Bool.not_false, Bool.false_eq_true, if_false, List.any_cons, Bool.true_or]
        exact ⟨⟨fun h => by omega, fun h => by simp at h⟩, by omega⟩
      | false =>
        simp only [List.filter_cons, hg, hi, if_true, Bool.not_false, Bool.false_eq_true, if_false, List.any_cons, Bool.false_or]
        exact ⟨h1, h2⟩
theorem move_same (M : Box) (set : List Range) (hs : setOk set = true) : (setSize (exGone M set) != cntIn M.Mails set) = (expunge M set).Mails.any (inSet set) := by
  cases hg : exGood M set with
  | true =>
    have hg' := hg
    simp only [exGood, Bool.and_eq_true] at hg'
    have k1 := hg'.1.1.1
    have hp := boxOk_parts k1
    have hA : Asc (goneU M.Mails set) 9999 := filter_asc k1 _
    have hlen := goneU_len M.Mails set
    have hok : setOk (setOf (goneU M.Mails set)) = true := setOf_ok (by omega)
    have e1 : setSize (exGone M set) = ((M.Mails.filter (goneI set)).length : Int) := by
      rw [exGone, if_pos hg, setSize, if_pos hok, setOf_asc hA, sizeL_scan, goneU, List.length_map]
    have e2 : (expunge M set).Mails = M.Mails.filter fun m => !goneI set m := by rw [expunge, if_pos hg]; rfl
    rw [e1, e2, cntIn]
    have h1 := (cnt_gone (set := set) M.Mails).1
    cases ha : (M.Mails.filter fun m => !goneI set m).any (inSet set) with
    | false => rw [ha] at h1; rw [h1.2 rfl]; exact bne_self_eq_false _
    | true =>
      rw [bne_iff_ne]
      intro h
      have := h1.1 h
      rw [ha] at this; cases this
  | false =>
    have e1 : setSize (exGone M set) = 0 := by rw [exGone, if_neg (by rw [hg]; simp), setSize]; rfl
    have e2 : (expunge M set).Mails = M.Mails := by rw [expunge, if_neg (by rw [hg]; simp)]
    rw [e1, e2, cntIn]
    cases ha : M.Mails.any (inSet set) with
    | false =>
      have : M.Mails.filter (inSet set) = [] := List.filter_eq_nil_iff.2 fun m hm => by
        have := (List.any_eq_false.1 ha) m hm
        simpa using this
      rw [this]; rfl
    | true =>
      rw [bne_iff_ne]
      intro h
      obtain ⟨m, hm, hi⟩ := List.any_eq_true.1 ha
      have : m ∈ M.Mails.filter (inSet set) := List.mem_filter.2 ⟨hm, hi⟩
      rw [List.eq_nil_of_length_eq_zero (l := M.Mails.filter (inSet set)) (by omega)] at this
      cases this
theorem cnt_map (l : List Mail) (f : Mail → Mail) (hf : ∀ m, (f m).Uid = m.Uid) (set : List Range) : cntIn (l.map f) set = cntIn l set := by
  induction l with
  | nil => rfl
  | cons m l ih =>
    have : inSet set (f m) = inSet set m := by rw [inSet, inSet, hf]
    simp only [cntIn, List.map_cons, List.filter_cons, this] at ih ⊢
    split
    · simp only [List.length_cons]; omega
    · exact ih
theorem newM_uid (s : List Range) (how bits since md : Int) (m : Mail) : (newM s how bits since md m).Uid = m.Uid := by
  unfold newM; split <;> rfl
theorem cnt_set (A : Box) (set : List Range) (how bits since : Int) : cntIn (setFlags A set how bits since).Mails set = cntIn A.Mails set := by
  unfold setFlags
  split
  · exact cnt_map _ _ (newM_uid _ _ _ _ _) _
  · rfl
def moveLeft (out : Store) (a : List UInt8) (set : List Range) : Box := expunge (setFlags (boxGet out a) set 2 8 (-1)) set
def moveIn (s : Store) (a : List UInt8) (set : List Range) (b : List UInt8) : Bool := storeOk s && setOk set && !(a == b)
def moveMails (s : Store) (a : List UInt8) (set : List Range) (b : List UInt8) : Store :=
  if moveIn s a set b = true then (if copyCode s a set b = 0 then (if (moveLeft (copyMails s a set b) a set).Mails.any (inSet set) = true then s else putBox (copyMails s a set b) (moveLeft (copyMails s a set b) a set)) else s) else s
def moveCode (s : Store) (a : List UInt8) (set : List Range) (b : List UInt8) : Int :=
  if moveIn s a set b = true then (if copyCode s a set b = 0 then (if (moveLeft (copyMails s a set b) a set).Mails.any (inSet set) = true then 3 else 0) else copyCode s a set b) else 4
theorem moveLeft_le {out : Store} {a : List UInt8} {set : List Range} (h : out.le 4194304) : (moveLeft out a set).le 4194304 := expunge_le (setFlags_le (boxGet_le h))
theorem moveMails_le {s : Store} {a b : List UInt8} {set : List Range} (h : s.le 4194304) : (moveMails s a set b).le 4194304 := by
  unfold moveMails
  split
  · split
    · split
      · exact h
      · exact putBox_le (copyMails_le h) (moveLeft_le (copyMails_le h))
    · exact h
  · exact h
open Classical in
noncomputable def spInSet : VM.Spec := { modes := [.rd, .rd], run := fun | [m', .rptr (.lst 2 u')] => (Mail.dec m').bind fun m => (decL Range.dec u').bind fun u => if u.length ≤ 4194304 then some (.bool (inSet u m), []) else none | _ => none, need := [] }
attribute [go_sem] spInSet
theorem spInSet_in {ins : List V} {r : V} {outs : List V} (h : spInSet.run ins = some (r, outs)) : ∃ (m : Mail) (u : (List Range)), ins = [Mail.enc m, .rptr (.lst 2 ((u).map Range.enc))] ∧ (u.length ≤ 4194304) ∧ .bool (inSet u m) = r ∧ outs = [] := by
  unfold spInSet at h
  simp only at h
  split at h
  · rename_i m' u'
    simp only [Option.bind_eq_some_iff] at h
    obtain ⟨m, h_m, u, h_u, h⟩ := h
    split at h
    case isFalse => cases h
    rename_i hc
    simp only [Option.some.injEq, Prod.mk.injEq] at h
    obtain ⟨h1, h2⟩ := h
    have h_m := Mail.dec_some h_m
    subst h_m
    have h_u := decL_some (fun _ _ h => Range.dec_some h) h_u
    subst h_u
    exact ⟨m, u, rfl, hc, h1, h2.symm⟩
  · cases h
def T_impl_MoveMails_1 : Hints := ⟨fun _ => none, fun _ => none, fun i => if i = 0 then some [1, 2] else if i = 1 then some [3] else none, fun _ => none⟩
noncomputable def Phi_impl_MoveMails_1 : Tab := fun f => if f = 58 then some spSetHas else none
attribute [go_sem] T_impl_MoveMails_1 Phi_impl_MoveMails_1
theorem phi_impl_MoveMails_1 : ∀ f sp, Phi_impl_MoveMails_1 f = some sp → FnOk Try.prog f sp ∧ ∀ n ∈ sp.need, n ∈ ([] : List String) := by
  intro f sp h
  unfold Phi_impl_MoveMails_1 at h
  by_cases e : f = 58
  · rw [if_pos e] at h; cases h; rw [e]; exact ⟨ok_impl_SetHas, (fun n (h : n ∈ ([] : List String)) => (nomatch h))⟩
  rw [if_neg e] at h
  cases h
theorem ok_impl_MoveMails_1 : FnOk Try.prog 91 spInSet := by
  refine fn_ok (Φ := Phi_impl_MoveMails_1) (T := T_impl_MoveMails_1) phi_impl_MoveMails_1 mixed Try.func91 rfl rfl rfl (by decide) ?_
  intro ins r outs hr hl
  clear hl
  have hs := spInSet_in hr
  clear hr
  obtain ⟨m, u, rfl, hc, hr, rfl⟩ := hs
  simp only [spInSet, Try.f91, Go.VM.initS]
  have h1 : u.length ≤ 8388608 := by omega
  simp only [h1, go_sem]
  repeat' ((first | ((first | apply qa | apply qb | apply qc | apply qd | apply qe | apply qf | apply qg | apply qh | apply qi | apply qj | apply qk) <;> intro hp) | ((first | refine ql rfl rfl (by decide +kernel) ?_ | refine qm _ rfl rfl (by decide +kernel) ?_ | refine goes_opn rfl ?_ | refine goes_opnD rfl rfl (by decide +kernel) ?_) <;> have hp := True.intro)) <;> simp only [hp, h1, go_sem])
  simp only [fin_mk, finV, resL, resV1, resIn, endA, listIn, Option.some_or, Option.none_or, oneOrTup, go_sem]
  rw [← hr]
  rfl
open Classical in
noncomputable def spIdxInSet : VM.Spec := { modes := [.rd, .rd], run := fun | [.lst 4 l', .fn 91 [.rptr (.lst 2 u')]] => (decL Mail.dec l').bind fun l => (decL Range.dec u').bind fun u => if l.length ≤ 4194304 ∧ u.length ≤ 4194304 then some (.int .i64 (idxL (fun x => inSet u x) l), []) else none | _ => none, need := [] }
attribute [go_sem] spIdxInSet
theorem spIdxInSet_in {ins : List V} {r : V} {outs : List V} (h : spIdxInSet.run ins = some (r, outs)) : ∃ (l : (List Mail)) (u : (List Range)), ins = [.lst 4 ((l).map Mail.enc), .fn 91 [.rptr (.lst 2 ((u).map Range.enc))]] ∧ (l.length ≤ 4194304 ∧ u.length ≤ 4194304) ∧ .int .i64 (idxL (fun x => inSet u x) l) = r ∧ outs = [] := by
  unfold spIdxInSet at h
  simp only at h
  split at h
  · rename_i l' u'
    simp only [Option.bind_eq_some_iff] at h
    obtain ⟨l, h_l, u, h_u, h⟩ := h
    split at h
    case isFalse => cases h
    rename_i hc
    simp only [Option.some.injEq, Prod.mk.injEq] at h
    obtain ⟨h1, h2⟩ := h
    have h_l := decL_some (fun _ _ h => Mail.dec_some h) h_l
    subst h_l
    have h_u := decL_some (fun _ _ h => Range.dec_some h) h_u
    subst h_u
    exact ⟨l, u, rfl, hc, h1, h2.symm⟩
  · cases h
def T_slices_IndexFunc_loop_example_g00247_impl_Mail_loop_example_g00247_impl_Mail_inset : Hints := ⟨fun _ => none, fun i => if i = 2 then some [0, 1, 7, 8] else none, fun i => if i = 0 then some [0, 1] else if i = 1 then some [0, 1, 7, 8] else if i = 2 then some [0, 1, 7, 8, 9] else if i = 3 then some [0, 1, 5, 7, 8] else if i = 4 then some [0, 1, 5, 7, 8, 16] else if i = 5 then some [4] else if i = 6 then some [0, 1, 7, 8] else if i = 7 then some [4] else none, fun _ => none⟩
noncomputable def Phi_slices_IndexFunc_loop_example_g00247_impl_Mail_loop_example_g00247_impl_Mail_inset : Tab := fun f => if f = 91 then some spInSet else none
attribute [go_sem] T_slices_IndexFunc_loop_example_g00247_impl_Mail_loop_example_g00247_impl_Mail_inset Phi_slices_IndexFunc_loop_example_g00247_impl_Mail_loop_example_g00247_impl_Mail_inset
theorem phi_slices_IndexFunc_loop_example_g00247_impl_Mail_loop_example_g00247_impl_Mail_inset : ∀ f sp, Phi_slices_IndexFunc_loop_example_g00247_impl_Mail_loop_example_g00247_impl_Mail_inset f = some sp → FnOk Try.prog f sp ∧ ∀ n ∈ sp.need, n ∈ ([] : List String) := by
  intro f sp h
  unfold Phi_slices_IndexFunc_loop_example_g00247_impl_Mail_loop_example_g00247_impl_Mail_inset at h
  by_cases e : f = 91
  · rw [if_pos e] at h; cases h; rw [e]; exact ⟨ok_impl_MoveMails_1, (fun n (h : n ∈ ([] : List String)) => (nomatch h))⟩
  rw [if_neg e] at h
  cases h
theorem ok_slices_IndexFunc_loop_example_g00247_impl_Mail_loop_example_g00247_impl_Mail_inset : FnOk Try.prog 111 spIdxInSet := by
  refine fn_ok (Φ := Phi_slices_IndexFunc_loop_example_g00247_impl_Mail_loop_example_g00247_impl_Mail_inset) (T := T_slices_IndexFunc_loop_example_g00247_impl_Mail_loop_example_g00247_impl_Mail_inset) phi_slices_IndexFunc_loop_example_g00247_impl_Mail_loop_example_g00247_impl_Mail_inset mixed Try.func111 rfl rfl rfl (by decide) ?_
  intro ins r outs hr hl
  clear hl
  have hs := spIdxInSet_in hr
  clear hr
  obtain ⟨l, u, rfl, hc, hr, rfl⟩ := hs
  simp only [spIdxInSet, Try.f111, Go.VM.initS]
  obtain ⟨hc, hu⟩ := hc
  simp only [go_sem]
  refine loop_go (fun i : Nat => [(8, .int .i64 (i : Int))]) (fun _ => []) (fun i => l.length - i) (fun i => i ≤ l.length ∧ ∀ j (hj : j < i) (hl : j < l.length), (fun x => inSet u x) l[j] = false) 0 ⟨Nat.zero_le _, fun j hj => absurd hj (by omega)⟩ rfl rfl ?_
  intro i ⟨hi, ha⟩ ih
  rcases Nat.lt_or_ge i l.length with h | h
  · have g1 : (i : Int) < l.length := by omega
    have g2 : (0 : Int) ≤ i := by omega
    have g3 : l[i]? = some l[i] := List.getElem?_eq_getElem h
    have g5 := wrap_succ h (by omega)
    cases hb : inSet u l[i] with
    | true =>
      simp only [g1, g2, g3, g5, hb, hu, go_sem]
      repeat' ((first | ((first | apply qa | apply qb | apply qc | apply qd | apply qe | apply qf | apply qg | apply qh | apply qi | apply qj | apply qk) <;> intro hp) | ((first | refine ql rfl rfl (by decide +kernel) ?_ | refine qm _ rfl rfl (by decide +kernel) ?_ | refine goes_opn rfl ?_ | refine goes_opnD rfl rfl (by decide +kernel) ?_) <;> have hp := True.intro)) <;> simp only [hp, g1, g2, g3, g5, hb, hu, go_sem])
      simp only [fin_mk, finV, resL, resV1, resIn, endA, listIn, Option.some_or, Option.none_or, oneOrTup, go_sem]
      rw [← hr]
      rw [idxL_hit h (fun j hj => ha j hj (by omega)) hb]
    | false =>
      simp only [g1, g2, g3, g5, hb, hu, go_sem]
      repeat' ((first | ((first | apply qa | apply qb | apply qc | apply qd | apply qe | apply qf | apply qg | apply qh | apply qi | apply qj | apply qk) <;> intro hp) | ((first | refine ql rfl rfl (by decide +kernel) ?_ | refine qm _ rfl rfl (by decide +kernel) ?_ | refine goes_opn rfl ?_ | refine goes_opnD rfl rfl (by decide +kernel) ?_) <;> have hp := True.intro)) <;> simp only [hp, g1, g2, g3, g5, hb, hu, go_sem])
      refine ih (i + 1) ⟨h, fun j hj hl => ?_⟩ (by omega)
      rcases Nat.lt_or_ge j i with h1 | h1
      · exact ha j h1 hl
      · have : j = i := by omega
        subst this; exact hb
  · have g1 : ¬ (i : Int) < l.length := by omega
    simp only [g1, go_sem]
    simp only [fin_mk, finV, resL, resV1, resIn, endA, listIn, Option.some_or, Option.none_or, oneOrTup, go_sem]
    rw [← hr]
    rw [idxL_miss fun j hj => ha j (by omega) hj]
open Classical in
noncomputable def spAnyInSet : VM.Spec := { modes := [.rd, .rd], run := fun | [.lst 4 l', .fn 91 [.rptr (.lst 2 u')]] => (decL Mail.dec l').bind fun l => (decL Range.dec u').bind fun u => if l.length ≤ 4194304 ∧ u.length ≤ 4194304 then some (.bool (l.any (inSet u)), []) else none | _ => none, need := [] }
attribute [go_sem] spAnyInSet
theorem spAnyInSet_in {ins : List V} {r : V} {outs : List V} (h : spAnyInSet.run ins = some (r, outs)) : ∃ (l : (List Mail)) (u : (List Range)), ins = [.lst 4 ((l).map Mail.enc), .fn 91 [.rptr (.lst 2 ((u).map Range.enc))]] ∧ (l.length ≤ 4194304 ∧ u.length ≤ 4194304) ∧ .bool (l.any (inSet u)) = r ∧ outs = [] := by
  unfold spAnyInSet at h
  simp only at h
  split at h
  · rename_i l' u'
    simp only [Option.bind_eq_some_iff] at h
    obtain ⟨l, h_l, u, h_u, h⟩ := h
    split at h
    case isFalse => cases h
    rename_i hc
    simp only [Option.some.injEq, Prod.mk.injEq] at h
    obtain ⟨h1, h2⟩ := h
    have h_l := decL_some (fun _ _ h => Mail.dec_some h) h_l
    subst h_l
    have h_u := decL_some (fun _ _ h => Range.dec_some h) h_u
    subst h_u
    exact ⟨l, u, rfl, hc, h1, h2.symm⟩
  · cases h
def T_slices_ContainsFunc_loop_example_g00247_impl_Mail_loop_example_g00247_impl_Mail : Hints := ⟨fun _ => none, fun _ => none, fun i => if i = 0 then some [0, 1] else if i = 1 then some [4] else none, fun _ => none⟩
noncomputable def Phi_slices_ContainsFunc_loop_example_g00247_impl_Mail_loop_example_g00247_impl_Mail : Tab := fun f => if f = 111 then some spIdxInSet else if f = 91 then some spInSet else none
attribute [go_sem] T_slices_ContainsFunc_loop_example_g00247_impl_Mail_loop_example_g00247_impl_Mail Phi_slices_ContainsFunc_loop_example_g00247_impl_Mail_loop_example_g00247_impl_Mail
theorem phi_slices_ContainsFunc_loop_example_g00247_impl_Mail_loop_example_g00247_impl_Mail : ∀ f sp, Phi_slices_ContainsFunc_loop_example_g00247_impl_Mail_loop_example_g00247_impl_Mail f = some sp → FnOk Try.prog f sp ∧ ∀ n ∈ sp.need, n ∈ ([] : List String) := by
  intro f sp h
  unfold Phi_slices_ContainsFunc_loop_example_g00247_impl_Mail_loop_example_g00247_impl_Mail at h
  by_cases e : f = 111
  · rw [if_pos e] at h; cases h; rw [e]; exact ⟨ok_slices_IndexFunc_loop_example_g00247_impl_Mail_loop_example_g00247_impl_Mail_inset, (fun n (h : n ∈ ([] : List String)) => (nomatch h))⟩
  rw [if_neg e] at h
  by_cases e : f = 91
  · rw [if_pos e] at h; cases h; rw [e]; exact ⟨ok_impl_MoveMails_1, (fun n (h : n ∈ ([] : List String)) => (nomatch h))⟩
  rw [if_neg e] at h
  cases h
theorem ok_slices_ContainsFunc_loop_example_g00247_impl_Mail_loop_example_g00247_impl_Mail : FnOk Try.prog 90 spAnyInSet := by
  refine fn_ok (Φ := Phi_slices_ContainsFunc_loop_example_g00247_impl_Mail_loop_example_g00247_impl_Mail) (T := T_slices_ContainsFunc_loop_example_g00247_impl_Mail_loop_example_g00247_impl_Mail) phi_slices_ContainsFunc_loop_example_g00247_impl_Mail_loop_example_g00247_impl_Mail mixed Try.func90 rfl rfl rfl (by decide) ?_
  intro ins r outs hr hl
  clear hl
  have hs := spAnyInSet_in hr
  clear hr
  obtain ⟨l, u, rfl, hc, hr, rfl⟩ := hs
  simp only [spAnyInSet, Try.f90, Go.VM.initS]
  have e : decide ((0 : Int) ≤ idxL (fun x => inSet u x) l) = l.any (inSet u) := idxL_any _ l
  simp only [e, hc, and_self, go_sem]
  simp only [fin_mk, finV, resL, resV1, resIn, endA, listIn, Option.some_or, Option.none_or, oneOrTup, go_sem]
  rw [← hr]
open Classical in
noncomputable def spMoveMails : VM.Spec := { modes := [.rd, .rd, .rd, .rd], run := fun | [s', .str a, .lst 2 set', .str b] => (Store.dec s').bind fun s => (decL Range.dec set').bind fun set => if s.le 4194304 ∧ set.length ≤ 4194304 then some (.tup [Store.enc (moveMails s a set b), .int .i64 (moveCode s a set b)], []) else none | _ => none, need := [] }
attribute [go_sem] spMoveMails
theorem spMoveMails_in {ins : List V} {r : V} {outs : List V} (h : spMoveMails.run ins = some (r, outs)) : ∃ (s : Store) (a : (List UInt8)) (set : (List Range)) (b : (List UInt8)), ins = [Store.enc s, .str a, .lst 2 ((set).map Range.enc), .str b] ∧ (s.le 4194304 ∧ set.length ≤ 4194304) ∧ .tup [Store.enc (moveMails s a set b), .int .i64 (moveCode s a set b)] = r ∧ outs = [] := by
  unfold spMoveMails at h
  simp only at h
  split at h
  · rename_i s' a set' b
    simp only [Option.bind_eq_some_iff] at h
    obtain ⟨s, h_s, set, h_set, h⟩ := h
    split at h
    case isFalse => cases h
    rename_i hc
    simp only [Option.some.injEq, Prod.mk.injEq] at h
    obtain ⟨h1, h2⟩ := h
    have h_s := Store.dec_some h_s
    subst h_s
    have h_set := decL_some (fun _ _ h => Range.dec_some h) h_set
    subst h_set
    exact ⟨s, a, set, b, rfl, hc, h1, h2.symm⟩
  · cases h
def T_impl_MoveMails : Hints := ⟨fun _ => none, fun _ => none, fun i => if i = 0 then some [1, 3, 4, 6, 8] else if i = 1 then some [1, 3, 4, 6, 8, 31] else if i = 2 then some [8, 9] else if i = 3 then some [1, 4, 6, 8, 10, 11] else if i = 4 then some [1, 4, 6, 8, 10, 11, 43] else if i = 5 then some [8, 9] else if i = 6 then some [4, 6, 8, 10, 12] else if i = 7 then some [4, 6, 8, 10, 14] else if i = 8 then some [4, 6, 8, 10, 17] else if i = 9 then some [4, 8, 10, 17, 69] else if i = 10 then some [8, 9] else if i = 11 then some [8, 9] else none, fun _ => none⟩
noncomputable def Phi_impl_MoveMails : Tab := fun f => if f = 81 then some spStoreOk else if f = 54 then some spSetOk else if f = 82 then some spCopyStore else if f = 28 then some spCopyMails else if f = 83 then some spBoxAt else if f = 14 then some spSetFlags else if f = 22 then some spExpunge else if f = 90 then some spAnyInSet else if f = 91 then some spInSet else if f = 85 then some spPutBox else none
attribute [go_sem] T_impl_MoveMails Phi_impl_MoveMails
theorem phi_impl_MoveMails : ∀ f sp, Phi_impl_MoveMails f = some sp → FnOk Try.prog f sp ∧ ∀ n ∈ sp.need, n ∈ ([] : List String) := by
  intro f sp h
  unfold Phi_impl_MoveMails at h
  by_cases e : f = 81
  · rw [if_pos e] at h; cases h; rw [e]; exact ⟨ok_impl_StoreOk, (fun n (h : n ∈ ([] : List String)) => (nomatch h))⟩
  rw [if_neg e] at h
  by_cases e : f = 54
  · rw [if_pos e] at h; cases h; rw [e]; exact ⟨ok_impl_SetOk, (fun n (h : n ∈ ([] : List String)) => (nomatch h))⟩
  rw [if_neg e] at h
  by_cases e : f = 82
  · rw [if_pos e] at h; cases h; rw [e]; exact ⟨ok_impl_copyStore, (fun n (h : n ∈ ([] : List String)) => (nomatch h))⟩
  rw [if_neg e] at h
  by_cases e : f = 28
  · rw [if_pos e] at h; cases h; rw [e]; exact ⟨ok_impl_CopyMails, (fun n (h : n ∈ ([] : List String)) => (nomatch h))⟩
  rw [if_neg e] at h
  by_cases e : f = 83
  · rw [if_pos e] at h; cases h; rw [e]; exact ⟨ok_impl_BoxAt, (fun n (h : n ∈ ([] : List String)) => (nomatch h))⟩
  rw [if_neg e] at h
  by_cases e : f = 14
  · rw [if_pos e] at h; cases h; rw [e]; exact ⟨ok_impl_SetFlags, (fun n (h : n ∈ ([] : List String)) => (nomatch h))⟩
  rw [if_neg e] at h
  by_cases e : f = 22
  · rw [if_pos e] at h; cases h; rw [e]; exact ⟨ok_impl_Expunge, (fun n (h : n ∈ ([] : List String)) => (nomatch h))⟩
  rw [if_neg e] at h
  by_cases e : f = 90
  · rw [if_pos e] at h; cases h; rw [e]; exact ⟨ok_slices_ContainsFunc_loop_example_g00247_impl_Mail_loop_example_g00247_impl_Mail, (fun n (h : n ∈ ([] : List String)) => (nomatch h))⟩
  rw [if_neg e] at h
  by_cases e : f = 91
  · rw [if_pos e] at h; cases h; rw [e]; exact ⟨ok_impl_MoveMails_1, (fun n (h : n ∈ ([] : List String)) => (nomatch h))⟩
  rw [if_neg e] at h
  by_cases e : f = 85
  · rw [if_pos e] at h; cases h; rw [e]; exact ⟨ok_impl_PutBox, (fun n (h : n ∈ ([] : List String)) => (nomatch h))⟩
  rw [if_neg e] at h
  cases h
theorem ok_impl_MoveMails : FnOk Try.prog 33 spMoveMails := by
  refine fn_ok (Φ := Phi_impl_MoveMails) (T := T_impl_MoveMails) phi_impl_MoveMails mixed Try.func33 rfl rfl rfl (by decide) ?_
  intro ins r outs hr hl
  clear hl
  have hs := spMoveMails_in hr
  clear hr
  obtain ⟨s, a, set, b, rfl, hc, hr, rfl⟩ := hs
  simp only [spMoveMails, Try.f33, Go.VM.initS]
  obtain ⟨hc, hset⟩ := hc
  cases k1 : storeOk s with
  | false =>
    have hm : moveIn s a set b = false := by simp [moveIn, k1]
    simp only [hc, hset, k1, go_sem]
    repeat' ((first | ((first | apply qa | apply qb | apply qc | apply qd | apply qe | apply qf | apply qg | apply qh | apply qi | apply qj | apply qk) <;> intro hp) | ((first | refine ql rfl rfl (by decide +kernel) ?_ | refine qm _ rfl rfl (by decide +kernel) ?_ | refine goes_opn rfl ?_ | refine goes_opnD rfl rfl (by decide +kernel) ?_) <;> have hp := True.intro)) <;> simp only [hp, hc, hset, k1, go_sem])
    simp only [fin_mk, finV, resL, resV1, resIn, endA, listIn, Option.some_or, Option.none_or, oneOrTup, go_sem]
    rw [← hr]
    simp only [moveMails, moveCode, hm, Bool.false_eq_true, if_false]; rfl
  | true =>
  cases k2 : setOk set with
  | false =>
    have hm : moveIn s a set b = false := by simp [moveIn, k2]
    simp only [hc, hset, k1, k2, go_sem]
    repeat' ((first | ((first | apply qa | apply qb | apply qc | apply qd | apply qe | apply qf | apply qg | apply qh | apply qi | apply qj | apply qk) <;> intro hp) | ((first | refine ql rfl rfl (by decide +kernel) ?_ | refine qm _ rfl rfl (by decide +kernel) ?_ | refine goes_opn rfl ?_ | refine goes_opnD rfl rfl (by decide +kernel) ?_) <;> have hp := True.intro)) <;> simp only [hp, hc, hset, k1, k2, go_sem])
    simp only [fin_mk, finV, resL, resV1, resIn, endA, listIn, Option.some_or, Option.none_or, oneOrTup, go_sem]
    rw [← hr]
    simp only [moveMails, moveCode, hm, Bool.false_eq_true, if_false]; rfl
  | true =>
  cases k3 : (a == b) with
  | true =>
    have hm : moveIn s a set b = false := by simp [moveIn, k3]
    simp only [hc, hset, k1, k2, k3, go_sem]
    repeat' ((first | ((first | apply qa | apply qb | apply qc | apply qd | apply qe | apply qf | apply qg | apply qh | apply qi | apply qj | apply qk) <;> intro hp) | ((first | refine ql rfl rfl (by decide +kernel) ?_ | refine qm _ rfl rfl (by decide +kernel) ?_ | refine goes_opn rfl ?_ | refine goes_opnD rfl rfl (by decide +kernel) ?_) <;> have hp := True.intro)) <;> simp only [hp, hc, hset, k1, k2, k3, go_sem])
    simp only [fin_mk, finV, resL, resV1, resIn, endA, listIn, Option.some_or, Option.none_or, oneOrTup, go_sem]
    rw [← hr]
    simp only [moveMails, moveCode, hm, Bool.false_eq_true, if_false]; rfl
  | false =>
  have hm : moveIn s a set b = true := by simp [moveIn, k1, k2, k3]
  have hC : (copyMails s a set b).le 4194304 := copyMails_le hc
  by_cases h0 : copyCode s a set b = 0
  · have e0 : (copyCode s a set b != 0) = false := by rw [h0]; rfl
    have hA : (boxGet (copyMails s a set b) a).le 4194304 := boxGet_le hC
    have hM : (setFlags (boxGet (copyMails s a set b) a) set 2 8 (-1)).le 4194304 := setFlags_le hA
    have hL : (expunge (setFlags (boxGet (copyMails s a set b) a) set 2 8 (-1)) set).le 4194304 := expunge_le hM
    have hLm := hL.2.1.1
    have hd : moveLeft (copyMails s a set b) a set = expunge (setFlags (boxGet (copyMails s a set b) a) set 2 8 (-1)) set := rfl
    cases ha : (expunge (setFlags (boxGet (copyMails s a set b) a) set 2 8 (-1)) set).Mails.any (inSet set) with
    | true =>
      simp only [hc, hset, k1, k2, k3, e0, hC, hA, hM, hL, hLm, ha, and_self, go_sem]
      repeat' ((first | ((first | apply qa | apply qb | apply qc | apply qd | apply qe | apply qf | apply qg | apply qh | apply qi | apply qj | apply qk) <;> intro hp) | ((first | refine ql rfl rfl (by decide +kernel) ?_ | refine qm _ rfl rfl (by decide +kernel) ?_ | refine goes_opn rfl ?_ | refine goes_opnD rfl rfl (by decide +kernel) ?_) <;> have hp := True.intro)) <;> simp only [hp, hc, hset, k1, k2, k3, e0, hC, hA, hM, hL, hLm, ha, and_self, go_sem])
      simp only [fin_mk, finV, resL, resV1, resIn, endA, listIn, Option.some_or, Option.none_or, oneOrTup, go_sem]
      rw [← hr]
      simp only [moveMails, moveCode, hm, hd, ha, h0, if_true]; rfl
    | false =>
      simp only [hc, hset, k1, k2, k3, e0, hC, hA, hM, hL, hLm, ha, and_self, go_sem]
      repeat' ((first | ((first | apply qa | apply qb | apply qc | apply qd | apply qe | apply qf | apply qg | apply qh | apply qi | apply qj | apply qk) <;> intro hp) | ((first | refine ql rfl rfl (by decide +kernel) ?_ | refine qm _ rfl rfl (by decide +kernel) ?_ | refine goes_opn rfl ?_ | refine goes_opnD rfl rfl (by decide +kernel) ?_) <;> have hp := True.intro)) <;> simp only [hp, hc, hset, k1, k2, k3, e0, hC, hA, hM, hL, hLm, ha, and_self, go_sem])
      simp only [fin_mk, finV, resL, resV1, resIn, endA, listIn, Option.some_or, Option.none_or, oneOrTup, go_sem]
      rw [← hr]
      simp only [moveMails, moveCode, hm, hd, ha, h0, if_true, Bool.false_eq_true, if_false]; rfl
  · have e0 : (copyCode s a set b != 0) = true := by rw [bne_iff_ne]; exact h0
    simp only [hc, hset, k1, k2, k3, e0, and_self, go_sem]
    repeat' ((first | ((first | apply qa | apply qb | apply qc | apply qd | apply qe | apply qf | apply qg | apply qh | apply qi | apply qj | apply qk) <;> intro hp) | ((first | refine ql rfl rfl (by decide +kernel) ?_ | refine qm _ rfl rfl (by decide +kernel) ?_ | refine goes_opn rfl ?_ | refine goes_opnD rfl rfl (by decide +kernel) ?_) <;> have hp := True.intro)) <;> simp only [hp, hc, hset, k1, k2, k3, e0, and_self, go_sem])
    simp only [fin_mk, finV, resL, resV1, resIn, endA, listIn, Option.some_or, Option.none_or, oneOrTup, go_sem]
    rw [← hr]
    simp only [moveMails, moveCode, hm, h0, if_true, if_false]; rfl
def T_spec_MoveMails : Hints := ⟨fun _ => none, fun i => if i = 10 then some [2, 8, 10, 11, 13, 15, 16] else none, fun i => if i = 0 then some [1, 2, 3, 4, 8] else if i = 1 then some [1, 2, 3, 4, 8, 10] else if i = 2 then some [1, 2, 3, 4, 8, 10, 26] else if i = 3 then some [8, 9] else if i = 4 then some [1, 2, 8, 10, 11, 12] else if i = 5 then some [1, 2, 8, 10, 11, 12, 37] else if i = 6 then some [8, 9] else if i = 7 then some [2, 8, 10, 11, 13] else if i = 8 then some [2, 8, 10, 11, 13, 15] else if i = 9 then some [2, 8, 10, 11, 13, 15, 16] else if i = 10 then some [2, 8, 10, 11, 13, 15, 16, 50] else if i = 12 then some [2, 8, 10, 11, 13, 15, 16, 60] else if i = 13 then some [2, 8, 10, 11, 13, 15, 16] else if i = 11 then some [2, 8, 10, 11, 13, 15, 16] else if i = 14 then some [2, 8, 10, 11, 15, 17] else if i = 15 then some [8, 10, 11, 15, 20, 21] else if i = 16 then some [8, 10, 11, 20, 79] else if i = 17 then some [8, 9] else if i = 18 then some [8, 9] else none, fun _ => none⟩
noncomputable def Phi_spec_MoveMails : Tab := fun f => if f = 75 then some spCopyStore else if f = 26 then some spCopyMails else if f = 77 then some spBoxAt else if f = 48 then some spSetHas else if f = 11 then some spSetFlags else if f = 21 then some spExpunge else if f = 89 then some spSetSize else if f = 79 then some spPutBox else none
attribute [go_sem] T_spec_MoveMails Phi_spec_MoveMails
theorem phi_spec_MoveMails : ∀ f sp, Phi_spec_MoveMails f = some sp → FnOk Try.prog f sp ∧ ∀ n ∈ sp.need, n ∈ ([] : List String) := by
  intro f sp h
  unfold Phi_spec_MoveMails at h
  by_cases e : f = 75
  · rw [if_pos e] at h; cases h; rw [e]; exact ⟨ok_spec_l09Copy, (fun n (h : n ∈ ([] : List String)) => (nomatch h))⟩
  rw [if_neg e] at h
  by_cases e : f = 26
  · rw [if_pos e] at h; cases h; rw [e]; exact ⟨ok_spec_CopyMails, (fun n (h : n ∈ ([] : List String)) => (nomatch h))⟩
  rw [if_neg e] at h
  by_cases e : f = 77
  · rw [if_pos e] at h; cases h; rw [e]; exact ⟨ok_spec_BoxAt, (fun n (h : n ∈ ([] : List String)) => (nomatch h))⟩
  rw [if_neg e] at h
  by_cases e : f = 48
  · rw [if_pos e] at h; cases h; rw [e]; exact ⟨ok_spec_SetHas, (fun n (h : n ∈ ([] : List String)) => (nomatch h))⟩
  rw [if_neg e] at h
  by_cases e : f = 11
  · rw [if_pos e] at h; cases h; rw [e]; exact ⟨ok_spec_SetFlags, (fun n (h : n ∈ ([] : List String)) => (nomatch h))⟩
  rw [if_neg e] at h
  by_cases e : f = 21
  · rw [if_pos e] at h; cases h; rw [e]; exact ⟨ok_spec_Expunge, (fun n (h : n ∈ ([] : List String)) => (nomatch h))⟩
  rw [if_neg e] at h
  by_cases e : f = 89
  · rw [if_pos e] at h; cases h; rw [e]; exact ⟨ok_spec_SetSize, (fun n (h : n ∈ ([] : List String)) => (nomatch h))⟩
  rw [if_neg e] at h
  by_cases e : f = 79
  · rw [if_pos e] at h; cases h; rw [e]; exact ⟨ok_spec_PutBox, (fun n (h : n ∈ ([] : List String)) => (nomatch h))⟩
  rw [if_neg e] at h
  cases h
theorem ok_spec_MoveMails : FnOk Try.prog 32 spMoveMails := by
  refine fn_ok (Φ := Phi_spec_MoveMails) (T := T_spec_MoveMails) phi_spec_MoveMails mixed Try.func32 rfl rfl rfl (by decide) ?_
  intro ins r outs hr hl
  clear hl
  have hs := spMoveMails_in hr
  clear hr
  obtain ⟨s, a, set, b, rfl, hc, hr, rfl⟩ := hs
  simp only [spMoveMails, Try.f32, Go.VM.initS]
  obtain ⟨hc, hset⟩ := hc
  have hset8 : set.length ≤ 8388608 := by omega
  cases k3 : (a == b) with
  | true =>
    have hm : moveIn s a set b = false := by simp [moveIn, k3]
    simp only [hc, hset, k3, go_sem]
    repeat' ((first | ((first | apply qa | apply qb | apply qc | apply qd | apply qe | apply qf | apply qg | apply qh | apply qi | apply qj | apply qk) <;> intro hp) | ((first | refine ql rfl rfl (by decide +kernel) ?_ | refine qm _ rfl rfl (by decide +kernel) ?_ | refine goes_opn rfl ?_ | refine goes_opnD rfl rfl (by decide +kernel) ?_) <;> have hp := True.intro)) <;> simp only [hp, hc, hset, k3, go_sem])
    simp only [fin_mk, finV, resL, resV1, resIn, endA, listIn, Option.some_or, Option.none_or, oneOrTup, go_sem]
    rw [← hr]
    simp only [moveMails, moveCode, hm, Bool.false_eq_true, if_false]; rfl
  | false =>
  have hC : (copyMails s a set b).le 4194304 := copyMails_le hc
  by_cases h0 : copyCode s a set b = 0
  rotate_left
  · have e0 : (copyCode s a set b != 0) = true := by rw [bne_iff_ne]; exact h0
    have hm : moveMails s a set b = s ∧ moveCode s a set b = copyCode s a set b := by
      by_cases hi : moveIn s a set b = true
      · exact ⟨by rw [moveMails, if_pos hi, if_neg h0], by rw [moveCode, if_pos hi, if_neg h0]⟩
      · have hk : ¬ (storeOk s && setOk set) = true := by
          intro h; apply hi; rw [moveIn, h, k3]; rfl
        exact ⟨by rw [moveMails, if_neg hi], by rw [moveCode, if_neg hi, copyCode, if_neg hk]⟩
    rw [hm.1, hm.2] at hr
    simp only [hc, hset, k3, e0, and_self, go_sem]
    repeat' ((first | ((first | apply qa | apply qb | apply qc | apply qd | apply qe | apply qf | apply qg | apply qh | apply qi | apply qj | apply qk) <;> intro hp) | ((first | refine ql rfl rfl (by decide +kernel) ?_ | refine qm _ rfl rfl (by decide +kernel) ?_ | refine goes_opn rfl ?_ | refine goes_opnD rfl rfl (by decide +kernel) ?_) <;> have hp := True.intro)) <;> simp only [hp, hc, hset, k3, e0, and_self, go_sem])
    simp only [fin_mk, finV, resL, resV1, resIn, endA, listIn, Option.some_or, Option.none_or, oneOrTup, go_sem]
    rw [← hr]
    rfl
  have e0 : (copyCode s a set b != 0) = false := by rw [h0]; rfl
  have k12 : storeOk s = true ∧ setOk set = true := by
    by_cases h : (storeOk s && setOk set) = true
    · simpa using h
    · rw [copyCode, if_neg h] at h0; simp at h0
  obtain ⟨k1, k2⟩ := k12
  have hm : moveIn s a set b = true := by simp [moveIn, k1, k2, k3]
  have hA : (boxGet (copyMails s a set b) a).le 4194304 := boxGet_le hC
  have hM : (setFlags (boxGet (copyMails s a set b) a) set 2 8 (-1)).le 4194304 := setFlags_le hA
  have hL : (expunge (setFlags (boxGet (copyMails s a set b) a) set 2 8 (-1)) set).le 4194304 := expunge_le hM
  have hd : moveLeft (copyMails s a set b) a set = expunge (setFlags (boxGet (copyMails s a set b) a) set 2 8 (-1)) set := rfl
  have hG := exGone_len (setFlags (boxGet (copyMails s a set b) a) set 2 8 (-1)) set
  have hsame := move_same (setFlags (boxGet (copyMails s a set b) a) set 2 8 (-1)) set k2
  rw [cnt_set] at hsame
  have hres : moveMails s a set b = (if (moveLeft (copyMails s a set b) a set).Mails.any (inSet set) = true then s else putBox (copyMails s a set b) (moveLeft (copyMails s a set b) a set)) ∧ moveCode s a set b = (if (moveLeft (copyMails s a set b) a set).Mails.any (inSet set) = true then 3 else 0) := by
    constructor
    · rw [moveMails, if_pos hm, if_pos h0]
    · rw [moveCode, if_pos hm, if_pos h0]
  rw [hres.1, hres.2, hd] at hr
  clear hres hd
  have hml : (boxGet (copyMails s a set b) a).Mails.length ≤ 4194304 := hA.2.1.1
  simp only [hc, hset, k3, e0, hC, and_self, go_sem]
  repeat' ((first | ((first | apply qa | apply qb | apply qc | apply qd | apply qe | apply qf | apply qg | apply qh | apply qi | apply qj | apply qk) <;> intro hp) | ((first | refine ql rfl rfl (by decide +kernel) ?_ | refine qm _ rfl rfl (by decide +kernel) ?_ | refine goes_opn rfl ?_ | refine goes_opnD rfl rfl (by decide +kernel) ?_) <;> have hp := True.intro)) <;> simp only [hp, hc, hset, k3, e0, hC, and_self, go_sem])
  generalize hAA : boxGet (copyMails s a set b) a = A at *
  refine loop_go (fun p : Nat × Int => [(15, .int .i64 p.2), (16, .int .i64 (p.1 : Int))]) (fun _ => []) (fun p => A.Mails.length - p.1) (fun p => p.1 ≤ A.Mails.length ∧ p.2 = cntIn (A.Mails.take p.1) set ∧ 0 ≤ p.2 ∧ p.2 ≤ p.1) (0, 0) ⟨Nat.zero_le _, rfl, by simp, by simp⟩ rfl rfl ?_
  rintro ⟨i, n⟩ ⟨hi, hn, n0, n1⟩ ih
  simp only at hi hn n0 n1 ih
  rcases Nat.lt_or_ge i A.Mails.length with h | h
  · have g1 : (i : Int) < A.Mails.length := by omega
    have g2 : (0 : Int) ≤ i := by omega
    have g3 : A.Mails[i]? = some A.Mails[i] := List.getElem?_eq_getElem h
    have g5 := wrap_succ h (by omega)
    have w1 : IntKind.i64.wrap (n + 1) = n + 1 := wrap64 (by omega) (by omega)
    have hcn : cntIn (A.Mails.take (i + 1)) set = n + (if inSet set A.Mails[i] = true then 1 else 0) := by
      rw [cntIn, filter_succ h, List.length_append, hn, cntIn]
      split <;> simp
    cases hq : hasR set A.Mails[i].Uid with
    | true =>
      have hq' : inSet set A.Mails[i] = true := hq
      have ih' := ih (i + 1, n + 1) ⟨h, by rw [hcn, if_pos hq'], by simp only; omega, by simp only; omega⟩ (by simp only; omega)
      simp only [g1, g2, g3, g5, hq, hset8, w1, go_sem]
      repeat' ((first | ((first | apply qa | apply qb | apply qc | apply qd | apply qe | apply qf | apply qg | apply qh | apply qi | apply qj | apply qk) <;> intro hp) | ((first | refine ql rfl rfl (by decide +kernel) ?_ | refine qm _ rfl rfl (by decide +kernel) ?_ | refine goes_opn rfl ?_ | refine goes_opnD rfl rfl (by decide +kernel) ?_) <;> have hp := True.intro)) <;> simp only [hp, g1, g2, g3, g5, hq, hset8, w1, go_sem])
      exact ih'
    | false =>
      have hq' : ¬ inSet set A.Mails[i] = true := by rw [inSet, hq]; simp
      have ih' := ih (i + 1, n) ⟨h, by rw [hcn, if_neg hq', Int.add_zero], by simp only; omega, by simp only; omega⟩ (by simp only; omega)
      simp only [g1, g2, g3, g5, hq, hset8, go_sem]
      repeat' ((first | ((first | apply qa | apply qb | apply qc | apply qd | apply qe | apply qf | apply qg | apply qh | apply qi | apply qj | apply qk) <;> intro hp) | ((first | refine ql rfl rfl (by decide +kernel) ?_ | refine qm _ rfl rfl (by decide +kernel) ?_ | refine goes_opn rfl ?_ | refine goes_opnD rfl rfl (by decide +kernel) ?_) <;> have hp := True.intro)) <;> simp only [hp, g1, g2, g3, g5, hq, hset8, go_sem])
      exact ih'
  · have g1 : ¬ (i : Int) < A.Mails.length := by omega
    rw [List.take_of_length_le h] at hn
    rw [← hn] at hsame
    clear ih
    cases ha : (expunge (setFlags A set 2 8 (-1)) set).Mails.any (inSet set) with
    | true =>
      rw [ha] at hsame hr
      simp only [g1, hset, hA, hM, hG, hsame, and_self, go_sem]
      repeat' ((first | ((first | apply qa | apply qb | apply qc | apply qd | apply qe | apply qf | apply qg | apply qh | apply qi | apply qj | apply qk) <;> intro hp) | ((first | refine ql rfl rfl (by decide +kernel) ?_ | refine qm _ rfl rfl (by decide +kernel) ?_ | refine goes_opn rfl ?_ | refine goes_opnD rfl rfl (by decide +kernel) ?_) <;> have hp := True.intro)) <;> simp only [hp, g1, hset, hA, hM, hG, hsame, and_self, go_sem])
      simp only [fin_mk, finV, resL, resV1, resIn, endA, listIn, Option.some_or, Option.none_or, oneOrTup, go_sem]
      rw [← hr]
      rfl
    | false =>
      rw [ha] at hsame hr
      simp only [g1, hset, hA, hM, hL, hC, hG, hsame, and_self, go_sem]
      repeat' ((first | ((first | apply qa | apply qb | apply qc | apply qd | apply qe | apply qf | apply qg | apply qh | apply qi | apply qj | apply qk) <;> intro hp) | ((first | refine ql rfl rfl (by decide +kernel) ?_ | refine qm _ rfl rfl (by decide +kernel) ?_ | refine goes_opn rfl ?_ | refine goes_opnD rfl rfl (by decide +kernel) ?_) <;> have hp := True.intro)) <;> simp only [hp, g1, hset, hA, hM, hL, hC, hG, hsame, and_self, go_sem])
      simp only [fin_mk, finV, resL, resV1, resIn, endA, listIn, Option.some_or, Option.none_or, oneOrTup, go_sem]
      rw [← hr]
      rfl
end Go.Proofs.Ytglldabpgobimaa.L
