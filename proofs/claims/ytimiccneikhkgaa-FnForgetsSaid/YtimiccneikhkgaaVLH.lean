/- Boxes: copies, new ones, mails that are added, what changed, views. -/
import Derived.Test.YtimiccneikhkgaaVLF
namespace Go.Proofs.Ytimiccneikhkgaa.L
open Go Go.VM
set_option maxRecDepth 100000
set_option maxHeartbeats 4000000
set_option linter.unusedSimpArgs false
set_option linter.unusedVariables false
open Classical in
noncomputable def spCopyBox : VM.Spec := { modes := [.rd], run := fun | [b'] => (Box.dec b').bind fun b => if b.le 4194304 then some (Box.enc b, []) else none | _ => none, need := [] }
attribute [go_sem] spCopyBox
theorem spCopyBox_in {ins : List V} {r : V} {outs : List V} (h : spCopyBox.run ins = some (r, outs)) : ∃ (b : Box), ins = [Box.enc b] ∧ (b.le 4194304) ∧ Box.enc b = r ∧ outs = [] := by
  unfold spCopyBox at h
  simp only at h
  split at h
  · rename_i b'
    simp only [Option.bind_eq_some_iff] at h
    obtain ⟨b, h_b, h⟩ := h
    split at h
    case isFalse => cases h
    rename_i hc
    simp only [Option.some.injEq, Prod.mk.injEq] at h
    obtain ⟨h1, h2⟩ := h
    have h_b := Box.dec_some h_b
    subst h_b
    exact ⟨b, rfl, hc, h1, h2.symm⟩
  · cases h
def T_impl_copyBox : Hints := ⟨fun i => if i = 1 then some [(0, 1), (0, 2), (0, 4), (1, 4), (2, 4), (3, 4), (0, 5), (3, 5), (4, 5), (0, 6), (3, 6), (4, 6), (4, 8), (7, 8)] else none, fun _ => none, fun i => if i = 0 then some [1, 2] else if i = 1 then some [1, 2] else if i = 2 then some [2] else none, fun _ => none⟩
noncomputable def Phi_impl_copyBox : Tab := fun f => none
attribute [go_sem] T_impl_copyBox Phi_impl_copyBox
theorem phi_impl_copyBox : ∀ f sp, Phi_impl_copyBox f = some sp → FnOk Try.prog f sp ∧ ∀ n ∈ sp.need, n ∈ ([] : List String) := by
  intro f sp h
  unfold Phi_impl_copyBox at h
  cases h
theorem ok_impl_copyBox : FnOk Try.prog 17 spCopyBox := by
  refine fn_ok (Φ := Phi_impl_copyBox) (T := T_impl_copyBox) phi_impl_copyBox mixed Try.func17 rfl rfl rfl (by decide) ?_
  intro ins r outs hr hl
  clear hl
  have hs := spCopyBox_in hr
  clear hr
  obtain ⟨b, rfl, hc, hr, rfl⟩ := hs
  simp only [spCopyBox, Try.f17, Go.VM.initS]
  have hm : b.Mails.length ≤ 4194304 := hc.2.1.1
  have ht : b.Tombs.length ≤ 4194304 := hc.2.2.1
  have h1 : b.Mails.length * 40 ≤ 140737488355328 := by omega
  have h2 : b.Tombs.length * 16 ≤ 140737488355328 := by omega
  have h3 : b.Mails.length ≤ 9223372036854775807 := by omega
  have h4 : b.Tombs.length ≤ 9223372036854775807 := by omega
  simp only [h1, h2, h3, h4, go_sem]
  repeat' ((first | ((first | apply qa | apply qb | apply qc | apply qd | apply qe | apply qf | apply qg | apply qh | apply qi | apply qj | apply qk) <;> intro hp) | ((first | refine ql rfl rfl (by decide +kernel) ?_ | refine qm _ rfl rfl (by decide +kernel) ?_ | refine goes_opn rfl ?_ | refine goes_opnD rfl rfl (by decide +kernel) ?_) <;> have hp := True.intro)) <;> simp only [hp, h1, h2, h3, h4, go_sem])
  simp only [fin_mk, finV, resL, resV1, resIn, endA, listIn, Option.some_or, Option.none_or, oneOrTup, go_sem]
  rw [← hr]
  rfl
def T_spec_l08Copy : Hints := ⟨fun _ => none, fun _ => none, fun i => if i = 0 then some [1, 2] else if i = 1 then some [1, 2, 3] else if i = 2 then some [1, 2, 3] else if i = 3 then some [2, 3] else if i = 4 then some [2] else none, fun _ => none⟩
noncomputable def Phi_spec_l08Copy : Tab := fun f => none
attribute [go_sem] T_spec_l08Copy Phi_spec_l08Copy
theorem phi_spec_l08Copy : ∀ f sp, Phi_spec_l08Copy f = some sp → FnOk Try.prog f sp ∧ ∀ n ∈ sp.need, n ∈ ([] : List String) := by
  intro f sp h
  unfold Phi_spec_l08Copy at h
  cases h
theorem ok_spec_l08Copy : FnOk Try.prog 53 spCopyBox := by
  refine fn_ok (Φ := Phi_spec_l08Copy) (T := T_spec_l08Copy) phi_spec_l08Copy mixed Try.func53 rfl rfl rfl (by decide) ?_
  intro ins r outs hr hl
  clear hl
  have hs := spCopyBox_in hr
  clear hr
  obtain ⟨b, rfl, hc, hr, rfl⟩ := hs
  simp only [spCopyBox, Try.f53, Go.VM.initS]
  have hm : b.Mails.length ≤ 4194304 := hc.2.1.1
  have ht : b.Tombs.length ≤ 4194304 := hc.2.2.1
  have h1 : b.Mails.length * 40 ≤ 140737488355328 := by omega
  have h2 : b.Tombs.length * 16 ≤ 140737488355328 := by omega
  have h3 : b.Mails.length ≤ 9223372036854775807 := by omega
  have h4 : b.Tombs.length ≤ 9223372036854775807 := by omega
  simp only [h1, h2, h3, h4, go_sem]
  repeat' ((first | ((first | apply qa | apply qb | apply qc | apply qd | apply qe | apply qf | apply qg | apply qh | apply qi | apply qj | apply qk) <;> intro hp) | ((first | refine ql rfl rfl (by decide +kernel) ?_ | refine qm _ rfl rfl (by decide +kernel) ?_ | refine goes_opn rfl ?_ | refine goes_opnD rfl rfl (by decide +kernel) ?_) <;> have hp := True.intro)) <;> simp only [hp, h1, h2, h3, h4, go_sem])
  simp only [fin_mk, finV, resL, resV1, resIn, endA, listIn, Option.some_or, Option.none_or, oneOrTup, go_sem]
  rw [← hr]
  rfl
def boxFresh (name : List UInt8) (valid : Int) : Box := ⟨name, valid, 1, 1, [], [], 0⟩
def boxZero : Box := ⟨[], 0, 0, 0, [], [], 0⟩
def boxNew (name : List UInt8) (valid : Int) : Box := if boxOk (boxFresh name valid) = true then boxFresh name valid else boxZero
open Classical in
noncomputable def spBoxNew : VM.Spec := { modes := [.rd, .rd], run := fun | [.str name, .int .i64 valid] => if name.length ≤ 4194304 then some (.tup [Box.enc (boxNew name valid), .bool (boxOk (boxFresh name valid))], []) else none | _ => none, need := [] }
attribute [go_sem] spBoxNew
theorem spBoxNew_in {ins : List V} {r : V} {outs : List V} (h : spBoxNew.run ins = some (r, outs)) : ∃ (name : (List UInt8)) (valid : Int), ins = [.str name, .int .i64 valid] ∧ (name.length ≤ 4194304) ∧ .tup [Box.enc (boxNew name valid), .bool (boxOk (boxFresh name valid))] = r ∧ outs = [] := by
  unfold spBoxNew at h
  simp only at h
  split at h
  · rename_i name valid
    split at h
    case isFalse => cases h
    rename_i hc
    simp only [Option.some.injEq, Prod.mk.injEq] at h
    obtain ⟨h1, h2⟩ := h
    exact ⟨name, valid, rfl, hc, h1, h2.symm⟩
  · cases h
def T_spec_BoxNew : Hints := ⟨fun _ => none, fun _ => none, fun i => if i = 0 then some [0, 1, 4] else if i = 1 then some [4, 6] else if i = 2 then some [4, 6, 12] else if i = 3 then some [4, 5] else if i = 4 then some [4, 5] else none, fun _ => none⟩
noncomputable def Phi_spec_BoxNew : Tab := fun f => if f = 23 then some spBoxOk else none
attribute [go_sem] T_spec_BoxNew Phi_spec_BoxNew
theorem phi_spec_BoxNew : ∀ f sp, Phi_spec_BoxNew f = some sp → FnOk Try.prog f sp ∧ ∀ n ∈ sp.need, n ∈ ([] : List String) := by
  intro f sp h
  unfold Phi_spec_BoxNew at h
  by_cases e : f = 23
  · rw [if_pos e] at h; cases h; rw [e]; exact ⟨ok_spec_BoxOk, (fun n (h : n ∈ ([] : List String)) => (nomatch h))⟩
  rw [if_neg e] at h
  cases h
theorem ok_spec_BoxNew : FnOk Try.prog 29 spBoxNew := by
  refine fn_ok (Φ := Phi_spec_BoxNew) (T := T_spec_BoxNew) phi_spec_BoxNew mixed Try.func29 rfl rfl rfl (by decide) ?_
  intro ins r outs hr hl
  clear hl
  have hs := spBoxNew_in hr
  clear hr
  obtain ⟨name, valid, rfl, hc, hr, rfl⟩ := hs
  simp only [spBoxNew, Try.f29, Go.VM.initS]
  have hl : Box.le 4194304 ⟨name, valid, 1, 1, [], [], 0⟩ := ⟨hc, ⟨by simp, by simp⟩, ⟨by simp, by simp⟩⟩
  have hb : boxOk ⟨name, valid, 1, 1, [], [], 0⟩ = boxOk (boxFresh name valid) := rfl
  cases hk : boxOk (boxFresh name valid) with
  | true =>
    simp only [hl, hb, hk, go_sem]
    repeat' ((first | ((first | apply qa | apply qb | apply qc | apply qd | apply qe | apply qf | apply qg | apply qh | apply qi | apply qj | apply qk) <;> intro hp) | ((first | refine ql rfl rfl (by decide +kernel) ?_ | refine qm _ rfl rfl (by decide +kernel) ?_ | refine goes_opn rfl ?_ | refine goes_opnD rfl rfl (by decide +kernel) ?_) <;> have hp := True.intro)) <;> simp only [hp, hl, hb, hk, go_sem])
    simp only [fin_mk, finV, resL, resV1, resIn, endA, listIn, Option.some_or, Option.none_or, oneOrTup, go_sem]
    rw [← hr]
    simp only [boxNew, hk, if_true]; rfl
  | false =>
    simp only [hl, hb, hk, go_sem]
    repeat' ((first | ((first | apply qa | apply qb | apply qc | apply qd | apply qe | apply qf | apply qg | apply qh | apply qi | apply qj | apply qk) <;> intro hp) | ((first | refine ql rfl rfl (by decide +kernel) ?_ | refine qm _ rfl rfl (by decide +kernel) ?_ | refine goes_opn rfl ?_ | refine goes_opnD rfl rfl (by decide +kernel) ?_) <;> have hp := True.intro)) <;> simp only [hp, hl, hb, hk, go_sem])
    simp only [fin_mk, finV, resL, resV1, resIn, endA, listIn, Option.some_or, Option.none_or, oneOrTup, go_sem]
    rw [← hr]
    simp only [boxNew, hk, if_false, Bool.false_eq_true]; rfl
theorem boxNew_le {name : List UInt8} {valid : Int} (h : name.length ≤ 4194304) : (boxNew name valid).le 4194304 := by
  unfold boxNew
  split
  · exact ⟨h, ⟨by simp [boxFresh], by simp [boxFresh]⟩, ⟨by simp [boxFresh], by simp [boxFresh]⟩⟩
  · exact ⟨by simp [boxZero, leS], ⟨by simp [boxZero], by simp [boxZero]⟩, ⟨by simp [boxZero], by simp [boxZero]⟩⟩
theorem boxOk_parts {b : Box} (h : boxOk b = true) : numsOk b = true ∧ b.Mails.length ≤ 30 ∧ b.Tombs.length ≤ 40 ∧ b.Name.length ≤ 8 ∧ ∀ m ∈ b.Mails, m.Text.length ≤ 200 := by
  simp only [boxOk, mailsOk, tombsOk, boxName, Bool.and_eq_true, decide_eq_true_eq] at h
  obtain ⟨⟨⟨⟨_, hn⟩, h1⟩, hm, h2⟩, _, h3⟩ := h
  refine ⟨h1, h2, h3, ?_, fun m hm' => ?_⟩
  · simp only [within, Bool.and_eq_true, decide_eq_true_eq] at hn; omega
  · obtain ⟨i, hi, rfl⟩ := List.mem_iff_getElem.1 hm'
    have := allN_get hm hi
    simp only [mailAtOk, getD_lt hi, Bool.and_eq_true, mailOk, within, decide_eq_true_eq] at this
    omega
def addOut (b : Box) (flags : Int) (text : List UInt8) : Box := ⟨b.Name, b.Valid, b.Next + 1, b.Mod + 1, b.Mails ++ [⟨b.Next, flags, b.Mod + 1, text⟩], b.Tombs, b.Horizon⟩
def addGood (b : Box) (flags : Int) (text : List UInt8) : Bool := boxOk b && boxOk (addOut b flags text)
def addMail (b : Box) (flags : Int) (text : List UInt8) : Box := if addGood b flags text = true then addOut b flags text else b
def addUid (b : Box) (flags : Int) (text : List UInt8) : Int := if addGood b flags text = true then b.Next else 0
theorem addOut_le {b : Box} {flags : Int} {text : List UInt8} (hc : b.le 4194304) (hk : boxOk b = true) (ht : text.length ≤ 4194304) : (addOut b flags text).le 4194304 := by
  have hp := boxOk_parts hk
  refine ⟨hc.1, ⟨by simp [addOut]; omega, ?_⟩, hc.2.2⟩
  intro m hm
  simp only [addOut, List.mem_append, List.mem_singleton] at hm
  rcases hm with hm | rfl
  · exact hc.2.1.2 m hm
  · exact ht
theorem addMail_le {b : Box} {flags : Int} {text : List UInt8} (hc : b.le 4194304) (ht : text.length ≤ 4194304) : (addMail b flags text).le 4194304 := by
  unfold addMail
  split
  · rename_i h
    simp only [addGood, Bool.and_eq_true] at h
    exact addOut_le hc h.1 ht
  · exact hc
open Classical in
noncomputable def spAddMail : VM.Spec := { modes := [.rd, .rd, .rd], run := fun | [b', .int .i64 flags, .str text] => (Box.dec b').bind fun b => if b.le 4194304 ∧ text.length ≤ 4194304 then some (.tup [Box.enc (addMail b flags text), .int .i64 (addUid b flags text)], []) else none | _ => none, need := [] }
attribute [go_sem] spAddMail
theorem spAddMail_in {ins : List V} {r : V} {outs : List V} (h : spAddMail.run ins = some (r, outs)) : ∃ (b : Box) (flags : Int) (text : (List UInt8)), ins = [Box.enc b, .int .i64 flags, .str text] ∧ (b.le 4194304 ∧ text.length ≤ 4194304) ∧ .tup [Box.enc (addMail b flags text), .int .i64 (addUid b flags text)] = r ∧ outs = [] := by
  unfold spAddMail at h
  simp only at h
  split at h
  · rename_i b' flags text
    simp only [Option.bind_eq_some_iff] at h
    obtain ⟨b, h_b, h⟩ := h
    split at h
    case isFalse => cases h
    rename_i hc
    simp only [Option.some.injEq, Prod.mk.injEq] at h
    obtain ⟨h1, h2⟩ := h
    have h_b := Box.dec_some h_b
    subst h_b
    exact ⟨b, flags, text, rfl, hc, h1, h2.symm⟩
  · cases h
def T_spec_AddMail : Hints := ⟨fun i => if i = 10 then some [(1, 3), (2, 3)] else none, fun _ => none, fun i => if i = 0 then some [1, 2, 3, 6] else if i = 1 then some [1, 2, 3, 6, 8] else if i = 2 then some [1, 2, 3, 6, 8, 14] else if i = 3 then some [6, 7] else if i = 4 then some [1, 2, 3, 6, 8, 9] else if i = 5 then some [1, 2, 3, 6, 8, 9] else if i = 6 then some [1, 2, 3, 6, 8, 9] else if i = 7 then some [3, 6, 8, 9] else if i = 8 then some [3, 6, 8, 9, 40] else if i = 9 then some [6, 7] else if i = 10 then some [6, 7] else none, fun _ => none⟩
noncomputable def Phi_spec_AddMail : Tab := fun f => if f = 53 then some spCopyBox else if f = 23 then some spBoxOk else none
attribute [go_sem] T_spec_AddMail Phi_spec_AddMail
theorem phi_spec_AddMail : ∀ f sp, Phi_spec_AddMail f = some sp → FnOk Try.prog f sp ∧ ∀ n ∈ sp.need, n ∈ ([] : List String) := by
  intro f sp h
  unfold Phi_spec_AddMail at h
  by_cases e : f = 53
  · rw [if_pos e] at h; cases h; rw [e]; exact ⟨ok_spec_l08Copy, (fun n (h : n ∈ ([] : List String)) => (nomatch h))⟩
  rw [if_neg e] at h
  by_cases e : f = 23
  · rw [if_pos e] at h; cases h; rw [e]; exact ⟨ok_spec_BoxOk, (fun n (h : n ∈ ([] : List String)) => (nomatch h))⟩
  rw [if_neg e] at h
  cases h
theorem ok_spec_AddMail : FnOk Try.prog 31 spAddMail := by
  refine fn_ok (Φ := Phi_spec_AddMail) (T := T_spec_AddMail) phi_spec_AddMail mixed Try.func31 rfl rfl rfl (by decide) ?_
  intro ins r outs hr hl
  clear hl
  have hs := spAddMail_in hr
  clear hr
  obtain ⟨b, flags, text, rfl, hc, hr, rfl⟩ := hs
  simp only [spAddMail, Try.f31, Go.VM.initS]
  obtain ⟨hc, htx⟩ := hc
  have hm : b.Mails.length ≤ 4194304 := hc.2.1.1
  have h1 : (b.Mails.length + 1) * 40 ≤ 140737488355328 := by omega
  have h3 : b.Mails.length + 1 ≤ 9223372036854775807 := by omega
  cases hk : boxOk b with
  | false =>
    have hg : addGood b flags text = false := by simp [addGood, hk]
    simp only [h1, h3, hc, hk, and_self, go_sem]
    repeat' ((first | ((first | apply qa | apply qb | apply qc | apply qd | apply qe | apply qf | apply qg | apply qh | apply qi | apply qj | apply qk) <;> intro hp) | ((first | refine ql rfl rfl (by decide +kernel) ?_ | refine qm _ rfl rfl (by decide +kernel) ?_ | refine goes_opn rfl ?_ | refine goes_opnD rfl rfl (by decide +kernel) ?_) <;> have hp := True.intro)) <;> simp only [hp, h1, h3, hc, hk, and_self, go_sem])
    simp only [fin_mk, finV, resL, resV1, resIn, endA, listIn, Option.some_or, Option.none_or, oneOrTup, go_sem]
    rw [← hr]
    simp only [addMail, addUid, hg, Bool.false_eq_true, if_false]; rfl
  | true =>
    have hp := boxOk_parts hk
    have hn := numsOk_next hp.1
    have hn0 : 1 ≤ b.Mod ∧ b.Mod ≤ 100000 := by have := hp.1; simp only [numsOk, within, Bool.and_eq_true, decide_eq_true_eq] at this; omega
    have w1 : IntKind.i64.wrap (b.Mod + 1) = b.Mod + 1 := wrap64 (by omega) (by omega)
    have w2 : IntKind.i64.wrap (b.Next + 1) = b.Next + 1 := wrap64 (by omega) (by omega)
    have hl : Box.le 4194304 ⟨b.Name, b.Valid, b.Next + 1, b.Mod + 1, b.Mails ++ [⟨b.Next, flags, b.Mod + 1, text⟩], b.Tombs, b.Horizon⟩ := addOut_le hc hk htx
    have hb : boxOk ⟨b.Name, b.Valid, b.Next + 1, b.Mod + 1, b.Mails ++ [⟨b.Next, flags, b.Mod + 1, text⟩], b.Tombs, b.Horizon⟩ = boxOk (addOut b flags text) := rfl
    cases hk2 : boxOk (addOut b flags text) with
    | false =>
      have hg : addGood b flags text = false := by simp [addGood, hk2]
      simp only [h1, h3, hc, hk, w1, w2, hl, hb, hk2, and_self, go_sem]
      repeat' ((first | ((first | apply qa | apply qb | apply qc | apply qd | apply qe | apply qf | apply qg | apply qh | apply qi | apply qj | apply qk) <;> intro hp) | ((first | refine ql rfl rfl (by decide +kernel) ?_ | refine qm _ rfl rfl (by decide +kernel) ?_ | refine goes_opn rfl ?_ | refine goes_opnD rfl rfl (by decide +kernel) ?_) <;> have hp := True.intro)) <;> simp only [hp, h1, h3, hc, hk, w1, w2, hl, hb, hk2, and_self, go_sem])
      simp only [fin_mk, finV, resL, resV1, resIn, endA, listIn, Option.some_or, Option.none_or, oneOrTup, go_sem]
      rw [← hr]
      simp only [addMail, addUid, hg, Bool.false_eq_true, if_false]; rfl
    | true =>
      have hg : addGood b flags text = true := by simp [addGood, hk, hk2]
      simp only [h1, h3, hc, hk, w1, w2, hl, hb, hk2, and_self, go_sem]
      repeat' ((first | ((first | apply qa | apply qb | apply qc | apply qd | apply qe | apply qf | apply qg | apply qh | apply qi | apply qj | apply qk) <;> intro hp) | ((first | refine ql rfl rfl (by decide +kernel) ?_ | refine qm _ rfl rfl (by decide +kernel) ?_ | refine goes_opn rfl ?_ | refine goes_opnD rfl rfl (by decide +kernel) ?_) <;> have hp := True.intro)) <;> simp only [hp, h1, h3, hc, hk, w1, w2, hl, hb, hk2, and_self, go_sem])
      simp only [fin_mk, finV, resL, resV1, resIn, endA, listIn, Option.some_or, Option.none_or, oneOrTup, go_sem]
      rw [← hr]
      simp only [addMail, addUid, hg, if_true, addOut, Box.enc, List.map_append, List.map_cons, List.map_nil, Mail.enc]
def changed (b : Box) (since : Int) : List Mail := b.Mails.filter fun m => decide (since < m.Mod)
theorem filter_succ {α : Type} {l : List α} {p : α → Bool} {i : Nat} (h : i < l.length) : (l.take (i + 1)).filter p = (l.take i).filter p ++ (if p l[i] = true then [l[i]] else []) := by
  rw [take_succ' h, List.filter_append]
  congr 1
  cases hp : p l[i] <;> simp [hp]
theorem filter_take_len {α : Type} (l : List α) (p : α → Bool) (i : Nat) : ((l.take i).filter p).length ≤ l.length := by
  have h1 := List.length_filter_le p (l.take i)
  have h2 : (l.take i).length ≤ l.length := by rw [List.length_take]; omega
  omega
open Classical in
noncomputable def spChanged : VM.Spec := { modes := [.rd, .rd], run := fun | [b', .int .i64 since] => (Box.dec b').bind fun b => if b.le 4194304 then some (.lst 4 ((changed b since).map Mail.enc), []) else none | _ => none, need := [] }
attribute [go_sem] spChanged
theorem spChanged_in {ins : List V} {r : V} {outs : List V} (h : spChanged.run ins = some (r, outs)) : ∃ (b : Box) (since : Int), ins = [Box.enc b, .int .i64 since] ∧ (b.le 4194304) ∧ .lst 4 ((changed b since).map Mail.enc) = r ∧ outs = [] := by
  unfold spChanged at h
  simp only at h
  split at h
  · rename_i b' since
    simp only [Option.bind_eq_some_iff] at h
    obtain ⟨b, h_b, h⟩ := h
    split at h
    case isFalse => cases h
    rename_i hc
    simp only [Option.some.injEq, Prod.mk.injEq] at h
    obtain ⟨h1, h2⟩ := h
    have h_b := Box.dec_some h_b
    subst h_b
    exact ⟨b, since, rfl, hc, h1, h2.symm⟩
  · cases h
def uidsOf (b : Box) : List Int := b.Mails.map (·.Uid)
def viewOf (b : Box) : View := ⟨b.Name, b.Valid, uidsOf b, b.Mod⟩
open Classical in
noncomputable def spUidsOf : VM.Spec := { modes := [.rd], run := fun | [b'] => (Box.dec b').bind fun b => if b.le 4194304 then some (.lst 1 ((uidsOf b).map eInt), []) else none | _ => none, need := [] }
attribute [go_sem] spUidsOf
theorem spUidsOf_in {ins : List V} {r : V} {outs : List V} (h : spUidsOf.run ins = some (r, outs)) : ∃ (b : Box), ins = [Box.enc b] ∧ (b.le 4194304) ∧ .lst 1 ((uidsOf b).map eInt) = r ∧ outs = [] := by
  unfold spUidsOf at h
  simp only at h
  split at h
  · rename_i b'
    simp only [Option.bind_eq_some_iff] at h
    obtain ⟨b, h_b, h⟩ := h
    split at h
    case isFalse => cases h
    rename_i hc
    simp only [Option.some.injEq, Prod.mk.injEq] at h
    obtain ⟨h1, h2⟩ := h
    have h_b := Box.dec_some h_b
    subst h_b
    exact ⟨b, rfl, hc, h1, h2.symm⟩
  · cases h
open Classical in
noncomputable def spViewOf : VM.Spec := { modes := [.rd], run := fun | [b'] => (Box.dec b').bind fun b => if b.le 4194304 then some (View.enc (viewOf b), []) else none | _ => none, need := [] }
attribute [go_sem] spViewOf
theorem spViewOf_in {ins : List V} {r : V} {outs : List V} (h : spViewOf.run ins = some (r, outs)) : ∃ (b : Box), ins = [Box.enc b] ∧ (b.le 4194304) ∧ View.enc (viewOf b) = r ∧ outs = [] := by
  unfold spViewOf at h
  simp only at h
  split at h
  · rename_i b'
    simp only [Option.bind_eq_some_iff] at h
    obtain ⟨b, h_b, h⟩ := h
    split at h
    case isFalse => cases h
    rename_i hc
    simp only [Option.some.injEq, Prod.mk.injEq] at h
    obtain ⟨h1, h2⟩ := h
    have h_b := Box.dec_some h_b
    subst h_b
    exact ⟨b, rfl, hc, h1, h2.symm⟩
  · cases h
end Go.Proofs.Ytimiccneikhkgaa.L
