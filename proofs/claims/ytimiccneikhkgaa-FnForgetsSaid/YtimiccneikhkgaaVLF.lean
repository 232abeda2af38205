/- Boxes: what is right of them, what is in them. -/
import Derived.Test.YtimiccneikhkgaaVLC
namespace Go.Proofs.Ytimiccneikhkgaa.L
open Go Go.VM
set_option maxRecDepth 100000
set_option maxHeartbeats 4000000
set_option linter.unusedSimpArgs false
set_option linter.unusedVariables false
def hasMail (l : List Mail) (u : Int) : Bool := l.any (fun x => x.Uid == u)
def hasTomb (l : List Tomb) (u : Int) : Bool := l.any (fun x => x.Uid == u)
open Classical in
noncomputable def spHasMail : VM.Spec := { modes := [.rd, .rd], run := fun | [b', .int .i64 u] => (Box.dec b').bind fun b => if b.le 4194304 then some (.bool (hasMail b.Mails u), []) else none | _ => none, need := [] }
attribute [go_sem] spHasMail
theorem spHasMail_in {ins : List V} {r : V} {outs : List V} (h : spHasMail.run ins = some (r, outs)) : ∃ (b : Box) (u : Int), ins = [Box.enc b, .int .i64 u] ∧ (b.le 4194304) ∧ .bool (hasMail b.Mails u) = r ∧ outs = [] := by
  unfold spHasMail at h
  simp only at h
  split at h
  · rename_i b' u
    simp only [Option.bind_eq_some_iff] at h
    obtain ⟨b, h_b, h⟩ := h
    split at h
    case isFalse => cases h
    rename_i hc
    simp only [Option.some.injEq, Prod.mk.injEq] at h
    obtain ⟨h1, h2⟩ := h
    have h_b := Box.dec_some h_b
    subst h_b
    exact ⟨b, u, rfl, hc, h1, h2.symm⟩
  · cases h
def T_spec_l08HasMail : Hints := ⟨fun _ => none, fun i => if i = 2 then some [1, 2, 5] else none, fun i => if i = 0 then some [1, 2] else if i = 1 then some [1, 2, 5] else if i = 2 then some [1, 2, 5, 10] else if i = 4 then some [1, 2, 5, 20] else if i = 5 then some [4] else if i = 3 then some [1, 2, 5] else if i = 6 then some [4] else none, fun _ => none⟩
noncomputable def Phi_spec_l08HasMail : Tab := fun f => none
attribute [go_sem] T_spec_l08HasMail Phi_spec_l08HasMail
theorem phi_spec_l08HasMail : ∀ f sp, Phi_spec_l08HasMail f = some sp → FnOk Try.prog f sp ∧ ∀ n ∈ sp.need, n ∈ ([] : List String) := by
  intro f sp h
  unfold Phi_spec_l08HasMail at h
  cases h
theorem ok_spec_l08HasMail : FnOk Try.prog 46 spHasMail := by
  refine fn_ok (Φ := Phi_spec_l08HasMail) (T := T_spec_l08HasMail) phi_spec_l08HasMail mixed Try.func46 rfl rfl rfl (by decide) ?_
  intro ins r outs hr hl
  clear hl
  have hs := spHasMail_in hr
  clear hr
  obtain ⟨b, u, rfl, hc, hr, rfl⟩ := hs
  simp only [spHasMail, Try.f46, Go.VM.initS]
  have hl : b.Mails.length ≤ 4194304 := hc.2.1.1
  simp only [go_sem]
  refine loop_go (fun i : Nat => [(5, .int .i64 (i : Int))]) (fun _ => []) (fun i => b.Mails.length - i) (fun i => i ≤ b.Mails.length ∧ (b.Mails.take i).any (fun x => x.Uid == u) = false) 0 ⟨Nat.zero_le _, by simp⟩ rfl rfl ?_
  intro i ⟨hi, ha⟩ ih
  rcases Nat.lt_or_ge i b.Mails.length with h | h
  · have g1 : (i : Int) < b.Mails.length := by omega
    have g2 : (0 : Int) ≤ i := by omega
    have g3 : b.Mails[i]? = some b.Mails[i] := List.getElem?_eq_getElem h
    have g5 := wrap_succ h (by omega)
    cases hb : (b.Mails[i].Uid == u) with
    | true =>
      simp only [g1, g2, g3, g5, hb, go_sem]
      repeat' ((first | ((first | apply qa | apply qb | apply qc | apply qd | apply qe | apply qf | apply qg | apply qh | apply qi | apply qj | apply qk) <;> intro hp) | ((first | refine ql rfl rfl (by decide +kernel) ?_ | refine qm _ rfl rfl (by decide +kernel) ?_ | refine goes_opn rfl ?_ | refine goes_opnD rfl rfl (by decide +kernel) ?_) <;> have hp := True.intro)) <;> simp only [hp, g1, g2, g3, g5, hb, go_sem])
      simp only [fin_mk, finV, resL, resV1, resIn, endA, listIn, Option.some_or, Option.none_or, oneOrTup, go_sem]
      rw [← hr]
      rw [hasMail, any_bad h hb]
    | false =>
      simp only [g1, g2, g3, g5, hb, go_sem]
      repeat' ((first | ((first | apply qa | apply qb | apply qc | apply qd | apply qe | apply qf | apply qg | apply qh | apply qi | apply qj | apply qk) <;> intro hp) | ((first | refine ql rfl rfl (by decide +kernel) ?_ | refine qm _ rfl rfl (by decide +kernel) ?_ | refine goes_opn rfl ?_ | refine goes_opnD rfl rfl (by decide +kernel) ?_) <;> have hp := True.intro)) <;> simp only [hp, g1, g2, g3, g5, hb, go_sem])
      exact ih (i + 1) ⟨h, any_take_succ h ha hb⟩ (by omega)
  · have g1 : ¬ (i : Int) < b.Mails.length := by omega
    simp only [g1, go_sem]
    simp only [fin_mk, finV, resL, resV1, resIn, endA, listIn, Option.some_or, Option.none_or, oneOrTup, go_sem]
    rw [← hr]
    rw [hasMail, any_take_end h ha]
open Classical in
noncomputable def spMailIs : VM.Spec := { modes := [.rd, .rd], run := fun | [m', .rptr (.int .i64 u)] => (Mail.dec m').bind fun m => some (.bool (m.Uid == u), []) | _ => none, need := [] }
attribute [go_sem] spMailIs
theorem spMailIs_in {ins : List V} {r : V} {outs : List V} (h : spMailIs.run ins = some (r, outs)) : ∃ (m : Mail) (u : Int), ins = [Mail.enc m, .rptr (.int .i64 u)] ∧ .bool (m.Uid == u) = r ∧ outs = [] := by
  unfold spMailIs at h
  simp only at h
  split at h
  · rename_i m' u
    simp only [Option.bind_eq_some_iff] at h
    obtain ⟨m, h_m, h⟩ := h
    simp only [Option.some.injEq, Prod.mk.injEq] at h
    obtain ⟨h1, h2⟩ := h
    have h_m := Mail.dec_some h_m
    subst h_m
    exact ⟨m, u, rfl, h1, h2.symm⟩
  · cases h
def T_impl_mailAt_1 : Hints := ⟨fun _ => none, fun _ => none, fun i => if i = 0 then some [1, 2] else if i = 1 then some [3] else none, fun _ => none⟩
noncomputable def Phi_impl_mailAt_1 : Tab := fun f => none
attribute [go_sem] T_impl_mailAt_1 Phi_impl_mailAt_1
theorem phi_impl_mailAt_1 : ∀ f sp, Phi_impl_mailAt_1 f = some sp → FnOk Try.prog f sp ∧ ∀ n ∈ sp.need, n ∈ ([] : List String) := by
  intro f sp h
  unfold Phi_impl_mailAt_1 at h
  cases h
theorem ok_impl_mailAt_1 : FnOk Try.prog 73 spMailIs := by
  refine fn_ok (Φ := Phi_impl_mailAt_1) (T := T_impl_mailAt_1) phi_impl_mailAt_1 mixed Try.func73 rfl rfl rfl (by decide) ?_
  intro ins r outs hr hl
  clear hl
  have hs := spMailIs_in hr
  clear hr
  obtain ⟨m, u, rfl, hr, rfl⟩ := hs
  simp only [spMailIs, Try.f73, Go.VM.initS]
  simp only [go_sem]
  simp only [fin_mk, finV, resL, resV1, resIn, endA, listIn, Option.some_or, Option.none_or, oneOrTup, go_sem]
  rw [← hr]
open Classical in
noncomputable def spIdxMail : VM.Spec := { modes := [.rd, .rd], run := fun | [.lst 4 l', .fn 73 [.rptr (.int .i64 u)]] => (decL Mail.dec l').bind fun l => if l.length ≤ 4194304 then some (.int .i64 (idxL (fun x => x.Uid == u) l), []) else none | _ => none, need := [] }
attribute [go_sem] spIdxMail
theorem spIdxMail_in {ins : List V} {r : V} {outs : List V} (h : spIdxMail.run ins = some (r, outs)) : ∃ (l : (List Mail)) (u : Int), ins = [.lst 4 ((l).map Mail.enc), .fn 73 [.rptr (.int .i64 u)]] ∧ (l.length ≤ 4194304) ∧ .int .i64 (idxL (fun x => x.Uid == u) l) = r ∧ outs = [] := by
  unfold spIdxMail at h
  simp only at h
  split at h
  · rename_i l' u
    simp only [Option.bind_eq_some_iff] at h
    obtain ⟨l, h_l, h⟩ := h
    split at h
    case isFalse => cases h
    rename_i hc
    simp only [Option.some.injEq, Prod.mk.injEq] at h
    obtain ⟨h1, h2⟩ := h
    have h_l := decL_some (fun _ _ h => Mail.dec_some h) h_l
    subst h_l
    exact ⟨l, u, rfl, hc, h1, h2.symm⟩
  · cases h
def T_slices_IndexFunc_loop_example_g00247_impl_Mail_loop_example_g00247_impl_Mail : Hints := ⟨fun _ => none, fun i => if i = 2 then some [0, 1, 7, 8] else none, fun i => if i = 0 then some [0, 1] else if i = 1 then some [0, 1, 7, 8] else if i = 2 then some [0, 1, 7, 8, 9] else if i = 3 then some [0, 1, 5, 7, 8] else if i = 4 then some [0, 1, 5, 7, 8, 16] else if i = 5 then some [4] else if i = 6 then some [0, 1, 7, 8] else if i = 7 then some [4] else none, fun _ => none⟩
noncomputable def Phi_slices_IndexFunc_loop_example_g00247_impl_Mail_loop_example_g00247_impl_Mail : Tab := fun f => if f = 73 then some spMailIs else none
attribute [go_sem] T_slices_IndexFunc_loop_example_g00247_impl_Mail_loop_example_g00247_impl_Mail Phi_slices_IndexFunc_loop_example_g00247_impl_Mail_loop_example_g00247_impl_Mail
theorem phi_slices_IndexFunc_loop_example_g00247_impl_Mail_loop_example_g00247_impl_Mail : ∀ f sp, Phi_slices_IndexFunc_loop_example_g00247_impl_Mail_loop_example_g00247_impl_Mail f = some sp → FnOk Try.prog f sp ∧ ∀ n ∈ sp.need, n ∈ ([] : List String) := by
  intro f sp h
  unfold Phi_slices_IndexFunc_loop_example_g00247_impl_Mail_loop_example_g00247_impl_Mail at h
  by_cases e : f = 73
  · rw [if_pos e] at h; cases h; rw [e]; exact ⟨ok_impl_mailAt_1, (fun n (h : n ∈ ([] : List String)) => (nomatch h))⟩
  rw [if_neg e] at h
  cases h
theorem ok_slices_IndexFunc_loop_example_g00247_impl_Mail_loop_example_g00247_impl_Mail : FnOk Try.prog 72 spIdxMail := by
  refine fn_ok (Φ := Phi_slices_IndexFunc_loop_example_g00247_impl_Mail_loop_example_g00247_impl_Mail) (T := T_slices_IndexFunc_loop_example_g00247_impl_Mail_loop_example_g00247_impl_Mail) phi_slices_IndexFunc_loop_example_g00247_impl_Mail_loop_example_g00247_impl_Mail mixed Try.func72 rfl rfl rfl (by decide) ?_
  intro ins r outs hr hl
  clear hl
  have hs := spIdxMail_in hr
  clear hr
  obtain ⟨l, u, rfl, hc, hr, rfl⟩ := hs
  simp only [spIdxMail, Try.f72, Go.VM.initS]
  simp only [go_sem]
  refine loop_go (fun i : Nat => [(8, .int .i64 (i : Int))]) (fun _ => []) (fun i => l.length - i) (fun i => i ≤ l.length ∧ ∀ j (hj : j < i) (hl : j < l.length), (fun x => x.Uid == u) l[j] = false) 0 ⟨Nat.zero_le _, fun j hj => absurd hj (by omega)⟩ rfl rfl ?_
  intro i ⟨hi, ha⟩ ih
  rcases Nat.lt_or_ge i l.length with h | h
  · have g1 : (i : Int) < l.length := by omega
    have g2 : (0 : Int) ≤ i := by omega
    have g3 : l[i]? = some l[i] := List.getElem?_eq_getElem h
    have g5 := wrap_succ h (by omega)
    cases hb : (fun x => x.Uid == u) l[i] with
    | true =>
      simp only [g1, g2, g3, g5, hb, go_sem]
      repeat' ((first | ((first | apply qa | apply qb | apply qc | apply qd | apply qe | apply qf | apply qg | apply qh | apply qi | apply qj | apply qk) <;> intro hp) | ((first | refine ql rfl rfl (by decide +kernel) ?_ | refine qm _ rfl rfl (by decide +kernel) ?_ | refine goes_opn rfl ?_ | refine goes_opnD rfl rfl (by decide +kernel) ?_) <;> have hp := True.intro)) <;> simp only [hp, g1, g2, g3, g5, hb, go_sem])
      simp only [fin_mk, finV, resL, resV1, resIn, endA, listIn, Option.some_or, Option.none_or, oneOrTup, go_sem]
      rw [← hr]
      rw [idxL_hit h (fun j hj => ha j hj (by omega)) hb]
    | false =>
      simp only [g1, g2, g3, g5, hb, go_sem]
      repeat' ((first | ((first | apply qa | apply qb | apply qc | apply qd | apply qe | apply qf | apply qg | apply qh | apply qi | apply qj | apply qk) <;> intro hp) | ((first | refine ql rfl rfl (by decide +kernel) ?_ | refine qm _ rfl rfl (by decide +kernel) ?_ | refine goes_opn rfl ?_ | refine goes_opnD rfl rfl (by decide +kernel) ?_) <;> have hp := True.intro)) <;> simp only [hp, g1, g2, g3, g5, hb, go_sem])
      refine ih (i + 1) ⟨h, fun j hj hl => ?_⟩ (by omega)
      rcases Nat.lt_or_ge j i with h1 | h1
      · exact ha j h1 hl
      · have : j = i := by omega
        subst this; exact hb
  · have g1 : ¬ (i : Int) < l.length := by omega
    simp only [g1, go_sem]
    simp only [fin_mk, finV, resL, resV1, resIn, endA, listIn, Option.some_or, Option.none_or, oneOrTup, go_sem]
    rw [← hr]
    rw [idxL_miss fun j hj => ha j (by omega) hj]
open Classical in
noncomputable def spMailAt : VM.Spec := { modes := [.rd, .rd], run := fun | [b', .int .i64 u] => (Box.dec b').bind fun b => if b.le 4194304 then some (.int .i64 (idxL (fun x => x.Uid == u) b.Mails), []) else none | _ => none, need := [] }
attribute [go_sem] spMailAt
theorem spMailAt_in {ins : List V} {r : V} {outs : List V} (h : spMailAt.run ins = some (r, outs)) : ∃ (b : Box) (u : Int), ins = [Box.enc b, .int .i64 u] ∧ (b.le 4194304) ∧ .int .i64 (idxL (fun x => x.Uid == u) b.Mails) = r ∧ outs = [] := by
  unfold spMailAt at h
  simp only at h
  split at h
  · rename_i b' u
    simp only [Option.bind_eq_some_iff] at h
    obtain ⟨b, h_b, h⟩ := h
    split at h
    case isFalse => cases h
    rename_i hc
    simp only [Option.some.injEq, Prod.mk.injEq] at h
    obtain ⟨h1, h2⟩ := h
    have h_b := Box.dec_some h_b
    subst h_b
    exact ⟨b, u, rfl, hc, h1, h2.symm⟩
  · cases h
def T_impl_mailAt : Hints := ⟨fun _ => none, fun _ => none, fun i => if i = 0 then some [2, 3] else if i = 1 then some [4] else none, fun _ => none⟩
noncomputable def Phi_impl_mailAt : Tab := fun f => if f = 72 then some spIdxMail else none
attribute [go_sem] T_impl_mailAt Phi_impl_mailAt
theorem phi_impl_mailAt : ∀ f sp, Phi_impl_mailAt f = some sp → FnOk Try.prog f sp ∧ ∀ n ∈ sp.need, n ∈ ([] : List String) := by
  intro f sp h
  unfold Phi_impl_mailAt at h
  by_cases e : f = 72
  · rw [if_pos e] at h; cases h; rw [e]; exact ⟨ok_slices_IndexFunc_loop_example_g00247_impl_Mail_loop_example_g00247_impl_Mail, (fun n (h : n ∈ ([] : List String)) => (nomatch h))⟩
  rw [if_neg e] at h
  cases h
theorem ok_impl_mailAt : FnOk Try.prog 52 spMailAt := by
  refine fn_ok (Φ := Phi_impl_mailAt) (T := T_impl_mailAt) phi_impl_mailAt mixed Try.func52 rfl rfl rfl (by decide) ?_
  intro ins r outs hr hl
  clear hl
  have hs := spMailAt_in hr
  clear hr
  obtain ⟨b, u, rfl, hc, hr, rfl⟩ := hs
  simp only [spMailAt, Try.f52, Go.VM.initS]
  have hl : b.Mails.length ≤ 4194304 := hc.2.1.1
  simp only [hl, go_sem]
  simp only [fin_mk, finV, resL, resV1, resIn, endA, listIn, Option.some_or, Option.none_or, oneOrTup, go_sem]
  rw [← hr]
open Classical in
noncomputable def spTombIs : VM.Spec := { modes := [.rd, .rd], run := fun | [x', .rptr (t')] => (Tomb.dec x').bind fun x => (Tomb.dec t').bind fun t => some (.bool (x.Uid == t.Uid), []) | _ => none, need := [] }
attribute [go_sem] spTombIs
theorem spTombIs_in {ins : List V} {r : V} {outs : List V} (h : spTombIs.run ins = some (r, outs)) : ∃ (x : Tomb) (t : Tomb), ins = [Tomb.enc x, .rptr (Tomb.enc t)] ∧ .bool (x.Uid == t.Uid) = r ∧ outs = [] := by
  unfold spTombIs at h
  simp only at h
  split at h
  · rename_i x' t'
    simp only [Option.bind_eq_some_iff] at h
    obtain ⟨x, h_x, t, h_t, h⟩ := h
    simp only [Option.some.injEq, Prod.mk.injEq] at h
    obtain ⟨h1, h2⟩ := h
    have h_x := Tomb.dec_some h_x
    subst h_x
    have h_t := Tomb.dec_some h_t
    subst h_t
    exact ⟨x, t, rfl, h1, h2.symm⟩
  · cases h
def T_impl_tombsOk_1 : Hints := ⟨fun _ => none, fun _ => none, fun i => if i = 0 then some [1, 2] else if i = 1 then some [3] else none, fun _ => none⟩
noncomputable def Phi_impl_tombsOk_1 : Tab := fun f => none
attribute [go_sem] T_impl_tombsOk_1 Phi_impl_tombsOk_1
theorem phi_impl_tombsOk_1 : ∀ f sp, Phi_impl_tombsOk_1 f = some sp → FnOk Try.prog f sp ∧ ∀ n ∈ sp.need, n ∈ ([] : List String) := by
  intro f sp h
  unfold Phi_impl_tombsOk_1 at h
  cases h
theorem ok_impl_tombsOk_1 : FnOk Try.prog 51 spTombIs := by
  refine fn_ok (Φ := Phi_impl_tombsOk_1) (T := T_impl_tombsOk_1) phi_impl_tombsOk_1 mixed Try.func51 rfl rfl rfl (by decide) ?_
  intro ins r outs hr hl
  clear hl
  have hs := spTombIs_in hr
  clear hr
  obtain ⟨x, t, rfl, hr, rfl⟩ := hs
  simp only [spTombIs, Try.f51, Go.VM.initS]
  simp only [go_sem]
  simp only [fin_mk, finV, resL, resV1, resIn, endA, listIn, Option.some_or, Option.none_or, oneOrTup, go_sem]
  rw [← hr]
open Classical in
noncomputable def spIdxTomb : VM.Spec := { modes := [.rd, .rd], run := fun | [.lst 2 l', .fn 51 [.rptr (t')]] => (decL Tomb.dec l').bind fun l => (Tomb.dec t').bind fun t => if l.length ≤ 4194304 then some (.int .i64 (idxL (fun x => x.Uid == t.Uid) l), []) else none | _ => none, need := [] }
attribute [go_sem] spIdxTomb
theorem spIdxTomb_in {ins : List V} {r : V} {outs : List V} (h : spIdxTomb.run ins = some (r, outs)) : ∃ (l : (List Tomb)) (t : Tomb), ins = [.lst 2 ((l).map Tomb.enc), .fn 51 [.rptr (Tomb.enc t)]] ∧ (l.length ≤ 4194304) ∧ .int .i64 (idxL (fun x => x.Uid == t.Uid) l) = r ∧ outs = [] := by
  unfold spIdxTomb at h
  simp only at h
  split at h
  · rename_i l' t'
    simp only [Option.bind_eq_some_iff] at h
    obtain ⟨l, h_l, t, h_t, h⟩ := h
    split at h
    case isFalse => cases h
    rename_i hc
    simp only [Option.some.injEq, Prod.mk.injEq] at h
    obtain ⟨h1, h2⟩ := h
    have h_l := decL_some (fun _ _ h => Tomb.dec_some h) h_l
    subst h_l
    have h_t := Tomb.dec_some h_t
    subst h_t
    exact ⟨l, t, rfl, hc, h1, h2.symm⟩
  · cases h
def T_slices_IndexFunc_loop_example_g00247_impl_Tomb_loop_example_g00247_impl_Tomb : Hints := ⟨fun _ => none, fun i => if i = 2 then some [0, 1, 7, 8] else none, fun i => if i = 0 then some [0, 1] else if i = 1 then some [0, 1, 7, 8] else if i = 2 then some [0, 1, 7, 8, 9] else if i = 3 then some [0, 1, 5, 7, 8] else if i = 4 then some [0, 1, 5, 7, 8, 16] else if i = 5 then some [4] else if i = 6 then some [0, 1, 7, 8] else if i = 7 then some [4] else none, fun _ => none⟩
noncomputable def Phi_slices_IndexFunc_loop_example_g00247_impl_Tomb_loop_example_g00247_impl_Tomb : Tab := fun f => if f = 51 then some spTombIs else none
attribute [go_sem] T_slices_IndexFunc_loop_example_g00247_impl_Tomb_loop_example_g00247_impl_Tomb Phi_slices_IndexFunc_loop_example_g00247_impl_Tomb_loop_example_g00247_impl_Tomb
theorem phi_slices_IndexFunc_loop_example_g00247_impl_Tomb_loop_example_g00247_impl_Tomb : ∀ f sp, Phi_slices_IndexFunc_loop_example_g00247_impl_Tomb_loop_example_g00247_impl_Tomb f = some sp → FnOk Try.prog f sp ∧ ∀ n ∈ sp.need, n ∈ ([] : List String) := by
  intro f sp h
  unfold Phi_slices_IndexFunc_loop_example_g00247_impl_Tomb_loop_example_g00247_impl_Tomb at h
  by_cases e : f = 51
  · rw [if_pos e] at h; cases h; rw [e]; exact ⟨ok_impl_tombsOk_1, (fun n (h : n ∈ ([] : List String)) => (nomatch h))⟩
  rw [if_neg e] at h
  cases h
theorem ok_slices_IndexFunc_loop_example_g00247_impl_Tomb_loop_example_g00247_impl_Tomb : FnOk Try.prog 38 spIdxTomb := by
  refine fn_ok (Φ := Phi_slices_IndexFunc_loop_example_g00247_impl_Tomb_loop_example_g00247_impl_Tomb) (T := T_slices_IndexFunc_loop_example_g00247_impl_Tomb_loop_example_g00247_impl_Tomb) phi_slices_IndexFunc_loop_example_g00247_impl_Tomb_loop_example_g00247_impl_Tomb mixed Try.func38 rfl rfl rfl (by decide) ?_
  intro ins r outs hr hl
  clear hl
  have hs := spIdxTomb_in hr
  clear hr
  obtain ⟨l, t, rfl, hc, hr, rfl⟩ := hs
  simp only [spIdxTomb, Try.f38, Go.VM.initS]
  simp only [go_sem]
  refine loop_go (fun i : Nat => [(8, .int .i64 (i : Int))]) (fun _ => []) (fun i => l.length - i) (fun i => i ≤ l.length ∧ ∀ j (hj : j < i) (hl : j < l.length), (fun x => x.Uid == t.Uid) l[j] = false) 0 ⟨Nat.zero_le _, fun j hj => absurd hj (by omega)⟩ rfl rfl ?_
  intro i ⟨hi, ha⟩ ih
  rcases Nat.lt_or_ge i l.length with h | h
  · have g1 : (i : Int) < l.length := by omega
    have g2 : (0 : Int) ≤ i := by omega
    have g3 : l[i]? = some l[i] := List.getElem?_eq_getElem h
    have g5 := wrap_succ h (by omega)
    cases hb : (fun x => x.Uid == t.Uid) l[i] with
    | true =>
      simp only [g1, g2, g3, g5, hb, go_sem]
      repeat' ((first | ((first | apply qa | apply qb | apply qc | apply qd | apply qe | apply qf | apply qg | apply qh | apply qi | apply qj | apply qk) <;> intro hp) | ((first | refine ql rfl rfl (by decide +kernel) ?_ | refine qm _ rfl rfl (by decide +kernel) ?_ | refine goes_opn rfl ?_ | refine goes_opnD rfl rfl (by decide +kernel) ?_) <;> have hp := True.intro)) <;> simp only [hp, g1, g2, g3, g5, hb, go_sem])
      simp only [fin_mk, finV, resL, resV1, resIn, endA, listIn, Option.some_or, Option.none_or, oneOrTup, go_sem]
      rw [← hr]
      rw [idxL_hit h (fun j hj => ha j hj (by omega)) hb]
    | false =>
      simp only [g1, g2, g3, g5, hb, go_sem]
      repeat' ((first | ((first | apply qa | apply qb | apply qc | apply qd | apply qe | apply qf | apply qg | apply qh | apply qi | apply qj | apply qk) <;> intro hp) | ((first | refine ql rfl rfl (by decide +kernel) ?_ | refine qm _ rfl rfl (by decide +kernel) ?_ | refine goes_opn rfl ?_ | refine goes_opnD rfl rfl (by decide +kernel) ?_) <;> have hp := True.intro)) <;> simp only [hp, g1, g2, g3, g5, hb, go_sem])
      refine ih (i + 1) ⟨h, fun j hj hl => ?_⟩ (by omega)
      rcases Nat.lt_or_ge j i with h1 | h1
      · exact ha j h1 hl
      · have : j = i := by omega
        subst this; exact hb
  · have g1 : ¬ (i : Int) < l.length := by omega
    simp only [g1, go_sem]
    simp only [fin_mk, finV, resL, resV1, resIn, endA, listIn, Option.some_or, Option.none_or, oneOrTup, go_sem]
    rw [← hr]
    rw [idxL_miss fun j hj => ha j (by omega) hj]
open Classical in
noncomputable def spHasTomb : VM.Spec := { modes := [.rd, .rd], run := fun | [.lst 2 l', .fn 51 [.rptr (t')]] => (decL Tomb.dec l').bind fun l => (Tomb.dec t').bind fun t => if l.length ≤ 4194304 then some (.bool (hasTomb l t.Uid), []) else none | _ => none, need := [] }
attribute [go_sem] spHasTomb
theorem spHasTomb_in {ins : List V} {r : V} {outs : List V} (h : spHasTomb.run ins = some (r, outs)) : ∃ (l : (List Tomb)) (t : Tomb), ins = [.lst 2 ((l).map Tomb.enc), .fn 51 [.rptr (Tomb.enc t)]] ∧ (l.length ≤ 4194304) ∧ .bool (hasTomb l t.Uid) = r ∧ outs = [] := by
  unfold spHasTomb at h
  simp only at h
  split at h
  · rename_i l' t'
    simp only [Option.bind_eq_some_iff] at h
    obtain ⟨l, h_l, t, h_t, h⟩ := h
    split at h
    case isFalse => cases h
    rename_i hc
    simp only [Option.some.injEq, Prod.mk.injEq] at h
    obtain ⟨h1, h2⟩ := h
    have h_l := decL_some (fun _ _ h => Tomb.dec_some h) h_l
    subst h_l
    have h_t := Tomb.dec_some h_t
    subst h_t
    exact ⟨l, t, rfl, hc, h1, h2.symm⟩
  · cases h
def T_slices_ContainsFunc_loop_example_g00247_impl_Tomb_loop_example_g00247_impl_Tomb : Hints := ⟨fun _ => none, fun _ => none, fun i => if i = 0 then some [0, 1] else if i = 1 then some [4] else none, fun _ => none⟩
noncomputable def Phi_slices_ContainsFunc_loop_example_g00247_impl_Tomb_loop_example_g00247_impl_Tomb : Tab := fun f => if f = 38 then some spIdxTomb else none
attribute [go_sem] T_slices_ContainsFunc_loop_example_g00247_impl_Tomb_loop_example_g00247_impl_Tomb Phi_slices_ContainsFunc_loop_example_g00247_impl_Tomb_loop_example_g00247_impl_Tomb
theorem phi_slices_ContainsFunc_loop_example_g00247_impl_Tomb_loop_example_g00247_impl_Tomb : ∀ f sp, Phi_slices_ContainsFunc_loop_example_g00247_impl_Tomb_loop_example_g00247_impl_Tomb f = some sp → FnOk Try.prog f sp ∧ ∀ n ∈ sp.need, n ∈ ([] : List String) := by
  intro f sp h
  unfold Phi_slices_ContainsFunc_loop_example_g00247_impl_Tomb_loop_example_g00247_impl_Tomb at h
  by_cases e : f = 38
  · rw [if_pos e] at h; cases h; rw [e]; exact ⟨ok_slices_IndexFunc_loop_example_g00247_impl_Tomb_loop_example_g00247_impl_Tomb, (fun n (h : n ∈ ([] : List String)) => (nomatch h))⟩
  rw [if_neg e] at h
  cases h
theorem ok_slices_ContainsFunc_loop_example_g00247_impl_Tomb_loop_example_g00247_impl_Tomb : FnOk Try.prog 50 spHasTomb := by
  refine fn_ok (Φ := Phi_slices_ContainsFunc_loop_example_g00247_impl_Tomb_loop_example_g00247_impl_Tomb) (T := T_slices_ContainsFunc_loop_example_g00247_impl_Tomb_loop_example_g00247_impl_Tomb) phi_slices_ContainsFunc_loop_example_g00247_impl_Tomb_loop_example_g00247_impl_Tomb mixed Try.func50 rfl rfl rfl (by decide) ?_
  intro ins r outs hr hl
  clear hl
  have hs := spHasTomb_in hr
  clear hr
  obtain ⟨l, t, rfl, hc, hr, rfl⟩ := hs
  simp only [spHasTomb, Try.f50, Go.VM.initS]
  have e : decide ((0 : Int) ≤ idxL (fun x => x.Uid == t.Uid) l) = hasTomb l t.Uid := idxL_any _ l
  simp only [e, hc, go_sem]
  simp only [fin_mk, finV, resL, resV1, resIn, endA, listIn, Option.some_or, Option.none_or, oneOrTup, go_sem]
  rw [← hr]
def mailAtOk (b : Box) (i : Nat) : Bool := within (b.Mails.getD i default).Uid 1 (b.Next - 1) && (i == 0 || decide ((b.Mails.getD (i - 1) default).Uid < (b.Mails.getD i default).Uid)) && flagsOk (b.Mails.getD i default).Flags && within (b.Mails.getD i default).Mod 1 b.Mod && mailOk (b.Mails.getD i default).Text
def tombIn (b : Box) (i : Nat) : Bool := within (b.Tombs.getD i default).Uid 1 (b.Next - 1) && within (b.Tombs.getD i default).Mod (b.Horizon + 1) b.Mod && !hasTomb (b.Tombs.take i) (b.Tombs.getD i default).Uid && !hasMail b.Mails (b.Tombs.getD i default).Uid
def tombOrd (b : Box) (i : Nat) : Bool := i == 0 || !(decide ((b.Tombs.getD i default).Mod < (b.Tombs.getD (i - 1) default).Mod) || ((b.Tombs.getD (i - 1) default).Mod == (b.Tombs.getD i default).Mod && decide ((b.Tombs.getD i default).Uid ≤ (b.Tombs.getD (i - 1) default).Uid)))
def tombAtOk (b : Box) (i : Nat) : Bool := tombIn b i && tombOrd b i
def mailsOk (b : Box) : Bool := allN b.Mails.length (mailAtOk b) && decide (b.Mails.length ≤ 30)
def tombsOk (b : Box) : Bool := allN b.Tombs.length (tombAtOk b) && decide (b.Tombs.length ≤ 40)
def numsOk (b : Box) : Bool := within b.Valid 1 9999 && within b.Next 1 9999 && within b.Mod 1 100000 && within b.Horizon 0 b.Mod
def boxOk (b : Box) : Bool := boxName b.Name && numsOk b && mailsOk b && tombsOk b
theorem numsOk_next {b : Box} (h : numsOk b = true) : (1 ≤ b.Next ∧ b.Next ≤ 9999) ∧ (0 ≤ b.Horizon ∧ b.Horizon ≤ b.Mod ∧ b.Mod ≤ 100000) := by
  simp only [numsOk, within, Bool.and_eq_true, decide_eq_true_eq] at h
  omega
open Classical in
noncomputable def spMailsOk : VM.Spec := { modes := [.rd], run := fun | [b'] => (Box.dec b').bind fun b => if b.le 4194304 ∧ numsOk b = true then some (.bool (mailsOk b), []) else none | _ => none, need := [] }
attribute [go_sem] spMailsOk
theorem spMailsOk_in {ins : List V} {r : V} {outs : List V} (h : spMailsOk.run ins = some (r, outs)) : ∃ (b : Box), ins = [Box.enc b] ∧ (b.le 4194304 ∧ numsOk b = true) ∧ .bool (mailsOk b) = r ∧ outs = [] := by
  unfold spMailsOk at h
  simp only at h
  split at h
  · rename_i b'
    simp only [Option.bind_eq_some_iff] at h
    obtain ⟨b, h_b, h⟩ := h
    split at h
    case isFalse => cases h
    rename_i hc
    simp only [Option.some.injEq, Prod.mk.injEq] at h
    obtain ⟨h1, h2⟩ := h
    have h_b := Box.dec_some h_b
    subst h_b
    exact ⟨b, rfl, hc, h1, h2.symm⟩
  · cases h
def T_impl_mailsOk : Hints := ⟨fun i => if i = 4 then some [] else none, fun i => if i = 2 then some [1, 6, 7, 8] else none, fun i => if i = 0 then some [1] else if i = 1 then some [1, 6, 7, 8] else if i = 2 then some [1, 6, 7, 8, 9] else if i = 3 then some [1, 3, 4, 6, 7, 8] else if i = 4 then some [1, 6, 7, 8, 55] else if i = 5 then some [2] else if i = 6 then some [1, 6, 7, 8] else if i = 7 then some [2] else none, fun _ => none⟩
noncomputable def Phi_impl_mailsOk : Tab := fun f => if f = 18 then some spWithin else if f = 48 then some spFlagsOk else if f = 49 then some spMailOk else none
attribute [go_sem] T_impl_mailsOk Phi_impl_mailsOk
theorem phi_impl_mailsOk : ∀ f sp, Phi_impl_mailsOk f = some sp → FnOk Try.prog f sp ∧ ∀ n ∈ sp.need, n ∈ ([] : List String) := by
  intro f sp h
  unfold Phi_impl_mailsOk at h
  by_cases e : f = 18
  · rw [if_pos e] at h; cases h; rw [e]; exact ⟨ok_impl_within, (fun n (h : n ∈ ([] : List String)) => (nomatch h))⟩
  rw [if_neg e] at h
  by_cases e : f = 48
  · rw [if_pos e] at h; cases h; rw [e]; exact ⟨ok_impl_FlagsOk, (fun n (h : n ∈ ([] : List String)) => (nomatch h))⟩
  rw [if_neg e] at h
  by_cases e : f = 49
  · rw [if_pos e] at h; cases h; rw [e]; exact ⟨ok_impl_MailOk, (fun n (h : n ∈ ([] : List String)) => (nomatch h))⟩
  rw [if_neg e] at h
  cases h
theorem ok_impl_mailsOk : FnOk Try.prog 27 spMailsOk := by
  refine fn_ok (Φ := Phi_impl_mailsOk) (T := T_impl_mailsOk) phi_impl_mailsOk mixed Try.func27 rfl rfl rfl (by decide) ?_
  intro ins r outs hr hl
  clear hl
  have hs := spMailsOk_in hr
  clear hr
  obtain ⟨b, rfl, hc, hr, rfl⟩ := hs
  simp only [spMailsOk, Try.f27, Go.VM.initS]
  obtain ⟨hc, hn⟩ := hc
  have hl : b.Mails.length ≤ 4194304 := hc.2.1.1
  have hmt : ∀ m ∈ b.Mails, m.Text.length ≤ 4194304 := hc.2.1.2
  have hnn := numsOk_next hn
  have hn1 : IntKind.i64.wrap (b.Next - 1) = b.Next - 1 := wrap64 (by omega) (by omega)
  simp only [go_sem]
  refine loop_go (fun i : Nat => [(8, .int .i64 (i : Int))]) (fun _ => []) (fun i => b.Mails.length - i) (fun i => i ≤ b.Mails.length ∧ ∀ j, j < i → mailAtOk b j = true) 0 ⟨Nat.zero_le _, fun j hj => absurd hj (by omega)⟩ rfl rfl ?_
  intro i ⟨hi, ha⟩ ih
  rcases Nat.lt_or_ge i b.Mails.length with h | h
  · have g1 : (i : Int) < b.Mails.length := by omega
    have g2 : (0 : Int) ≤ i := by omega
    have g3 : b.Mails[i]? = some b.Mails[i] := List.getElem?_eq_getElem h
    have g5 := wrap_succ h (by omega)
    have gt : b.Mails[i].Text.length ≤ 4194304 := hmt _ (List.getElem_mem h)
    simp only [g1, g2, g3, go_sem]
    refine goes_valD 55 V.bool (!mailAtOk b i) rfl rfl rfl (by decide +kernel) ?_ ?_
    · intro G hG
      clear ih hr ha
      rcases Nat.eq_zero_or_pos i with h0 | h0
      · have k1 : ¬ (0 : Int) < i := by omega
        have g6 : mailAtOk b i = (within b.Mails[i].Uid 1 (b.Next - 1) && flagsOk b.Mails[i].Flags && within b.Mails[i].Mod 1 b.Mod && mailOk b.Mails[i].Text) := by
          have : (i == 0) = true := by simp [h0]
          simp only [mailAtOk, getD_lt h, this, Bool.true_or, Bool.and_true]
        simp only [g1, g2, g3, k1, hn1, gt, go_sem]
        repeat' ((first | ((first | apply qa | apply qb | apply qc | apply qd | apply qe | apply qf | apply qg | apply qh | apply qi | apply qj | apply qk) <;> intro hp) | ((first | refine ql rfl rfl (by decide +kernel) ?_ | refine qm _ rfl rfl (by decide +kernel) ?_ | refine goes_opn rfl ?_ | refine goes_opnD rfl rfl (by decide +kernel) ?_) <;> have hp := True.intro)) <;> simp only [hp, g1, g2, g3, k1, hn1, gt, go_sem])
        all_goals ((first | refine hG _ ?_ | (simp only [*] at hG; refine hG _ ?_)); clear hG; rw [g6]; simp_all)
      · have k1 : (0 : Int) < i := by omega
        have k2 := wrap_pred h0 (by omega)
        have k3 : (0 : Int) ≤ ((i - 1 : Nat) : Int) := by omega
        have k4 : ((i - 1 : Nat) : Int) < b.Mails.length := by omega
        have k5 : b.Mails[i - 1]? = some (b.Mails[i - 1]'(by omega)) := List.getElem?_eq_getElem (by omega)
        have g6 : mailAtOk b i = (within b.Mails[i].Uid 1 (b.Next - 1) && decide ((b.Mails[i - 1]'(by omega)).Uid < b.Mails[i].Uid) && flagsOk b.Mails[i].Flags && within b.Mails[i].Mod 1 b.Mod && mailOk b.Mails[i].Text) := by
          have : (i == 0) = false := by simp; omega
          simp only [mailAtOk, getD_lt h, getD_lt (show i - 1 < b.Mails.length by omega), this, Bool.false_or]
        rcases Int.lt_or_le (b.Mails[i - 1]'(by omega)).Uid b.Mails[i].Uid with q | q
        · have q' : ¬ b.Mails[i].Uid ≤ (b.Mails[i - 1]'(by omega)).Uid := by omega
          simp only [g1, g2, g3, k1, k2, k3, k4, k5, q', hn1, gt, go_sem]
          repeat' ((first | ((first | apply qa | apply qb | apply qc | apply qd | apply qe | apply qf | apply qg | apply qh | apply qi | apply qj | apply qk) <;> intro hp) | ((first | refine ql rfl rfl (by decide +kernel) ?_ | refine qm _ rfl rfl (by decide +kernel) ?_ | refine goes_opn rfl ?_ | refine goes_opnD rfl rfl (by decide +kernel) ?_) <;> have hp := True.intro)) <;> simp only [hp, g1, g2, g3, k1, k2, k3, k4, k5, q', hn1, gt, go_sem])
          all_goals ((first | refine hG _ ?_ | (simp only [*] at hG; refine hG _ ?_)); clear hG k2 k5; rw [g6, decide_eq_true q]; simp_all)
        · have q' : ¬ (b.Mails[i - 1]'(by omega)).Uid < b.Mails[i].Uid := by omega
          simp only [g1, g2, g3, k1, k2, k3, k4, k5, q, hn1, gt, go_sem]
          repeat' ((first | ((first | apply qa | apply qb | apply qc | apply qd | apply qe | apply qf | apply qg | apply qh | apply qi | apply qj | apply qk) <;> intro hp) | ((first | refine ql rfl rfl (by decide +kernel) ?_ | refine qm _ rfl rfl (by decide +kernel) ?_ | refine goes_opn rfl ?_ | refine goes_opnD rfl rfl (by decide +kernel) ?_) <;> have hp := True.intro)) <;> simp only [hp, g1, g2, g3, k1, k2, k3, k4, k5, q, hn1, gt, go_sem])
          all_goals ((first | refine hG _ ?_ | (simp only [*] at hG; refine hG _ ?_)); clear hG k2 k5; rw [g6, decide_eq_false q']; simp_all)
    · simp only [g5, go_sem]
      repeat' ((first | ((first | apply qa | apply qb | apply qc | apply qd | apply qe | apply qf | apply qg | apply qh | apply qi | apply qj | apply qk) <;> intro hp) | ((first | refine ql rfl rfl (by decide +kernel) ?_ | refine qm _ rfl rfl (by decide +kernel) ?_ | refine goes_opn rfl ?_ | refine goes_opnD rfl rfl (by decide +kernel) ?_) <;> have hp := True.intro)) <;> simp only [hp, g5, go_sem])
      · simp only [fin_mk, finV, resL, resV1, resIn, endA, listIn, Option.some_or, Option.none_or, oneOrTup, go_sem]
        rw [← hr]
        rw [mailsOk, allN_bad h hp]; rfl
      · exact ih (i + 1) ⟨h, all_succ ha hp⟩ (by omega)
  · have g1 : ¬ (i : Int) < b.Mails.length := by omega
    simp only [g1, go_sem]
    simp only [fin_mk, finV, resL, resV1, resIn, endA, listIn, Option.some_or, Option.none_or, oneOrTup, go_sem]
    rw [← hr]
    rw [mailsOk, allN_all h ha, Bool.true_and]
    congr 2
    simp
    omega
open Classical in
noncomputable def spTombsOk : VM.Spec := { modes := [.rd], run := fun | [b'] => (Box.dec b').bind fun b => if b.le 4194304 ∧ numsOk b = true then some (.bool (tombsOk b), []) else none | _ => none, need := [] }
attribute [go_sem] spTombsOk
theorem spTombsOk_in {ins : List V} {r : V} {outs : List V} (h : spTombsOk.run ins = some (r, outs)) : ∃ (b : Box), ins = [Box.enc b] ∧ (b.le 4194304 ∧ numsOk b = true) ∧ .bool (tombsOk b) = r ∧ outs = [] := by
  unfold spTombsOk at h
  simp only at h
  split at h
  · rename_i b'
    simp only [Option.bind_eq_some_iff] at h
    obtain ⟨b, h_b, h⟩ := h
    split at h
    case isFalse => cases h
    rename_i hc
    simp only [Option.some.injEq, Prod.mk.injEq] at h
    obtain ⟨h1, h2⟩ := h
    have h_b := Box.dec_some h_b
    subst h_b
    exact ⟨b, rfl, hc, h1, h2.symm⟩
  · cases h
def T_impl_tombsOk : Hints := ⟨fun i => if i = 7 then some [] else if i = 5 then some [] else none, fun i => if i = 2 then some [1, 7, 8, 9] else none, fun i => if i = 0 then some [1] else if i = 1 then some [1, 7, 8, 9] else if i = 2 then some [1, 7, 8, 9, 10] else if i = 3 then some [1, 3, 4, 7, 8, 9] else if i = 4 then some [1, 3, 4, 5, 7, 8, 9] else if i = 5 then some [1, 3, 4, 7, 8, 9, 47] else if i = 6 then some [2] else if i = 7 then some [1, 7, 8, 9, 85] else if i = 8 then some [2] else if i = 9 then some [1, 7, 8, 9] else if i = 10 then some [2] else none, fun _ => none⟩
noncomputable def Phi_impl_tombsOk : Tab := fun f => if f = 18 then some spWithin else if f = 50 then some spHasTomb else if f = 52 then some spMailAt else none
attribute [go_sem] T_impl_tombsOk Phi_impl_tombsOk
theorem phi_impl_tombsOk : ∀ f sp, Phi_impl_tombsOk f = some sp → FnOk Try.prog f sp ∧ ∀ n ∈ sp.need, n ∈ ([] : List String) := by
  intro f sp h
  unfold Phi_impl_tombsOk at h
  by_cases e : f = 18
  · rw [if_pos e] at h; cases h; rw [e]; exact ⟨ok_impl_within, (fun n (h : n ∈ ([] : List String)) => (nomatch h))⟩
  rw [if_neg e] at h
  by_cases e : f = 50
  · rw [if_pos e] at h; cases h; rw [e]; exact ⟨ok_slices_ContainsFunc_loop_example_g00247_impl_Tomb_loop_example_g00247_impl_Tomb, (fun n (h : n ∈ ([] : List String)) => (nomatch h))⟩
  rw [if_neg e] at h
  by_cases e : f = 52
  · rw [if_pos e] at h; cases h; rw [e]; exact ⟨ok_impl_mailAt, (fun n (h : n ∈ ([] : List String)) => (nomatch h))⟩
  rw [if_neg e] at h
  cases h
theorem ok_impl_tombsOk : FnOk Try.prog 28 spTombsOk := by
  refine fn_ok (Φ := Phi_impl_tombsOk) (T := T_impl_tombsOk) phi_impl_tombsOk mixed Try.func28 rfl rfl rfl (by decide) ?_
  intro ins r outs hr hl
  clear hl
  have hs := spTombsOk_in hr
  clear hr
  obtain ⟨b, rfl, hc, hr, rfl⟩ := hs
  simp only [spTombsOk, Try.f28, Go.VM.initS]
  obtain ⟨hc, hn⟩ := hc
  have hl : b.Tombs.length ≤ 4194304 := hc.2.2.1
  have hnn := numsOk_next hn
  have hn1 : IntKind.i64.wrap (b.Next - 1) = b.Next - 1 := wrap64 (by omega) (by omega)
  have hn2 : IntKind.i64.wrap (b.Horizon + 1) = b.Horizon + 1 := wrap64 (by omega) (by omega)
  simp only [go_sem]
  refine loop_go (fun i : Nat => [(9, .int .i64 (i : Int))]) (fun _ => []) (fun i => b.Tombs.length - i) (fun i => i ≤ b.Tombs.length ∧ ∀ j, j < i → tombAtOk b j = true) 0 ⟨Nat.zero_le _, fun j hj => absurd hj (by omega)⟩ rfl rfl ?_
  intro i ⟨hi, ha⟩ ih
  rcases Nat.lt_or_ge i b.Tombs.length with h | h
  · have g1 : (i : Int) < b.Tombs.length := by omega
    have g2 : (0 : Int) ≤ i := by omega
    have g3 : b.Tombs[i]? = some b.Tombs[i] := List.getElem?_eq_getElem h
    have g4 : i ≤ b.Tombs.length := hi
    have g5 := wrap_succ h (by omega)
    have gl : (b.Tombs.take i).length ≤ 4194304 := by rw [List.length_take]; omega
    have gm : decide ((0 : Int) ≤ idxL (fun x => x.Uid == b.Tombs[i].Uid) b.Mails) = hasMail b.Mails b.Tombs[i].Uid := idxL_any _ _
    simp only [g1, g2, g3, g4, gl, Nat.zero_le, go_sem]
    refine goes_val 47 V.bool (!tombIn b i) rfl rfl ?_ ?_
    · intro G hG
      clear ih hr ha
      have g6 : tombIn b i = (within b.Tombs[i].Uid 1 (b.Next - 1) && within b.Tombs[i].Mod (b.Horizon + 1) b.Mod && !hasTomb (b.Tombs.take i) b.Tombs[i].Uid && !hasMail b.Mails b.Tombs[i].Uid) := by
        simp only [tombIn, getD_lt h]
      simp only [hn1, hn2, hc, gm, go_sem]
      repeat' ((first | ((first | apply qa | apply qb | apply qc | apply qd | apply qe | apply qf | apply qg | apply qh | apply qi | apply qj | apply qk) <;> intro hp) | ((first | refine ql rfl rfl (by decide +kernel) ?_ | refine qm _ rfl rfl (by decide +kernel) ?_ | refine goes_opn rfl ?_ | refine goes_opnD rfl rfl (by decide +kernel) ?_) <;> have hp := True.intro)) <;> simp only [hp, hn1, hn2, hc, gm, go_sem])
      all_goals ((first | refine hG _ ?_ | (simp only [*] at hG; refine hG _ ?_)); clear hG; rw [g6]; simp_all)
    simp only [go_sem]
    refine condG_not.2 ⟨fun hq => ?_, fun hq => ?_⟩
    · simp only [go_sem]
      simp only [fin_mk, finV, resL, resV1, resIn, endA, listIn, Option.some_or, Option.none_or, oneOrTup, go_sem]
      rw [← hr]
      rw [tombsOk, allN_bad h (by rw [tombAtOk, hq]; rfl)]; rfl
    simp only [go_sem]
    refine goes_valD 85 V.bool (!tombOrd b i) rfl rfl rfl (by decide +kernel) ?_ ?_
    · intro G hG
      clear ih hr ha
      rcases Nat.eq_zero_or_pos i with h0 | h0
      · have k1 : ¬ (0 : Int) < i := by omega
        have g6 : tombOrd b i = true := by
          have : (i == 0) = true := by simp [h0]
          simp only [tombOrd, this, Bool.true_or]
        simp only [g1, g2, g3, k1, go_sem]
        repeat' ((first | ((first | apply qa | apply qb | apply qc | apply qd | apply qe | apply qf | apply qg | apply qh | apply qi | apply qj | apply qk) <;> intro hp) | ((first | refine ql rfl rfl (by decide +kernel) ?_ | refine qm _ rfl rfl (by decide +kernel) ?_ | refine goes_opn rfl ?_ | refine goes_opnD rfl rfl (by decide +kernel) ?_) <;> have hp := True.intro)) <;> simp only [hp, g1, g2, g3, k1, go_sem])
        all_goals (refine hG _ ?_; rw [g6]; rfl)
      · have k1 : (0 : Int) < i := by omega
        have k2 := wrap_pred h0 (by omega)
        have k3 : (0 : Int) ≤ ((i - 1 : Nat) : Int) := by omega
        have k4 : ((i - 1 : Nat) : Int) < b.Tombs.length := by omega
        have k5 : b.Tombs[i - 1]? = some (b.Tombs[i - 1]'(by omega)) := List.getElem?_eq_getElem (by omega)
        have g6 : tombOrd b i = !(decide (b.Tombs[i].Mod < (b.Tombs[i - 1]'(by omega)).Mod) || ((b.Tombs[i - 1]'(by omega)).Mod == b.Tombs[i].Mod && decide (b.Tombs[i].Uid ≤ (b.Tombs[i - 1]'(by omega)).Uid))) := by
          have : (i == 0) = false := by simp; omega
          simp only [tombOrd, getD_lt h, getD_lt (show i - 1 < b.Tombs.length by omega), this, Bool.false_or]
        simp only [g1, g2, g3, k1, k2, k3, k4, k5, go_sem]
        repeat' ((first | ((first | apply qa | apply qb | apply qc | apply qd | apply qe | apply qf | apply qg | apply qh | apply qi | apply qj | apply qk) <;> intro hp) | ((first | refine ql rfl rfl (by decide +kernel) ?_ | refine qm _ rfl rfl (by decide +kernel) ?_ | refine goes_opn rfl ?_ | refine goes_opnD rfl rfl (by decide +kernel) ?_) <;> have hp := True.intro)) <;> simp only [hp, g1, g2, g3, k1, k2, k3, k4, k5, go_sem])
        all_goals ((first | refine hG _ ?_ | (simp only [*] at hG; refine hG _ ?_)); clear hG k2 k5; rw [g6]; simp_all)
    · simp only [g5, go_sem]
      repeat' ((first | ((first | apply qa | apply qb | apply qc | apply qd | apply qe | apply qf | apply qg | apply qh | apply qi | apply qj | apply qk) <;> intro hp) | ((first | refine ql rfl rfl (by decide +kernel) ?_ | refine qm _ rfl rfl (by decide +kernel) ?_ | refine goes_opn rfl ?_ | refine goes_opnD rfl rfl (by decide +kernel) ?_) <;> have hp := True.intro)) <;> simp only [hp, g5, go_sem])
      · simp only [fin_mk, finV, resL, resV1, resIn, endA, listIn, Option.some_or, Option.none_or, oneOrTup, go_sem]
        rw [← hr]
        rw [tombsOk, allN_bad h (by rw [tombAtOk, hq, hp]; rfl)]; rfl
      · exact ih (i + 1) ⟨h, all_succ ha (by rw [tombAtOk, hq, hp]; rfl)⟩ (by omega)
  · have g1 : ¬ (i : Int) < b.Tombs.length := by omega
    simp only [g1, go_sem]
    simp only [fin_mk, finV, resL, resV1, resIn, endA, listIn, Option.some_or, Option.none_or, oneOrTup, go_sem]
    rw [← hr]
    rw [tombsOk, allN_all h ha, Bool.true_and]
    congr 2
    simp
    omega
open Classical in
noncomputable def spBoxOk : VM.Spec := { modes := [.rd], run := fun | [b'] => (Box.dec b').bind fun b => if b.le 4194304 then some (.bool (boxOk b), []) else none | _ => none, need := [] }
attribute [go_sem] spBoxOk
theorem spBoxOk_in {ins : List V} {r : V} {outs : List V} (h : spBoxOk.run ins = some (r, outs)) : ∃ (b : Box), ins = [Box.enc b] ∧ (b.le 4194304) ∧ .bool (boxOk b) = r ∧ outs = [] := by
  unfold spBoxOk at h
  simp only at h
  split at h
  · rename_i b'
    simp only [Option.bind_eq_some_iff] at h
    obtain ⟨b, h_b, h⟩ := h
    split at h
    case isFalse => cases h
    rename_i hc
    simp only [Option.some.injEq, Prod.mk.injEq] at h
    obtain ⟨h1, h2⟩ := h
    have h_b := Box.dec_some h_b
    subst h_b
    exact ⟨b, rfl, hc, h1, h2.symm⟩
  · cases h
def T_impl_BoxOk : Hints := ⟨fun i => if i = 1 then some [] else none, fun _ => none, fun i => if i = 0 then some [1] else if i = 1 then some [1, 3] else if i = 2 then some [2] else none, fun _ => none⟩
noncomputable def Phi_impl_BoxOk : Tab := fun f => if f = 25 then some spUid else if f = 18 then some spWithin else if f = 26 then some spBoxName else if f = 27 then some spMailsOk else if f = 28 then some spTombsOk else none
attribute [go_sem] T_impl_BoxOk Phi_impl_BoxOk
theorem phi_impl_BoxOk : ∀ f sp, Phi_impl_BoxOk f = some sp → FnOk Try.prog f sp ∧ ∀ n ∈ sp.need, n ∈ ([] : List String) := by
  intro f sp h
  unfold Phi_impl_BoxOk at h
  by_cases e : f = 25
  · rw [if_pos e] at h; cases h; rw [e]; exact ⟨ok_impl_isUid, (fun n (h : n ∈ ([] : List String)) => (nomatch h))⟩
  rw [if_neg e] at h
  by_cases e : f = 18
  · rw [if_pos e] at h; cases h; rw [e]; exact ⟨ok_impl_within, (fun n (h : n ∈ ([] : List String)) => (nomatch h))⟩
  rw [if_neg e] at h
  by_cases e : f = 26
  · rw [if_pos e] at h; cases h; rw [e]; exact ⟨ok_impl_BoxName, (fun n (h : n ∈ ([] : List String)) => (nomatch h))⟩
  rw [if_neg e] at h
  by_cases e : f = 27
  · rw [if_pos e] at h; cases h; rw [e]; exact ⟨ok_impl_mailsOk, (fun n (h : n ∈ ([] : List String)) => (nomatch h))⟩
  rw [if_neg e] at h
  by_cases e : f = 28
  · rw [if_pos e] at h; cases h; rw [e]; exact ⟨ok_impl_tombsOk, (fun n (h : n ∈ ([] : List String)) => (nomatch h))⟩
  rw [if_neg e] at h
  cases h
theorem ok_impl_BoxOk : FnOk Try.prog 10 spBoxOk := by
  refine fn_ok (Φ := Phi_impl_BoxOk) (T := T_impl_BoxOk) phi_impl_BoxOk mixed Try.func10 rfl rfl rfl (by decide) ?_
  intro ins r outs hr hl
  clear hl
  have hs := spBoxOk_in hr
  clear hr
  obtain ⟨b, rfl, hc, hr, rfl⟩ := hs
  simp only [spBoxOk, Try.f10, Go.VM.initS]
  have hb : b.Name.length ≤ 1099511627776 := Nat.le_trans hc.1 (by decide)
  simp only [go_sem]
  refine goes_val 3 V.bool (numsOk b) rfl rfl ?_ ?_
  · intro G hG
    simp only [go_sem]
    repeat' ((first | ((first | apply qa | apply qb | apply qc | apply qd | apply qe | apply qf | apply qg | apply qh | apply qi | apply qj | apply qk) <;> intro hp) | ((first | refine ql rfl rfl (by decide +kernel) ?_ | refine qm _ rfl rfl (by decide +kernel) ?_ | refine goes_opn rfl ?_ | refine goes_opnD rfl rfl (by decide +kernel) ?_) <;> have hp := True.intro)) <;> simp only [hp, go_sem])
    all_goals ((first | refine hG _ ?_ | (simp only [*] at hG; refine hG _ ?_)); clear hG; simp_all [numsOk])
  cases hn : numsOk b with
  | false =>
    simp only [hb, hn, go_sem]
    repeat' ((first | ((first | apply qa | apply qb | apply qc | apply qd | apply qe | apply qf | apply qg | apply qh | apply qi | apply qj | apply qk) <;> intro hp) | ((first | refine ql rfl rfl (by decide +kernel) ?_ | refine qm _ rfl rfl (by decide +kernel) ?_ | refine goes_opn rfl ?_ | refine goes_opnD rfl rfl (by decide +kernel) ?_) <;> have hp := True.intro)) <;> simp only [hp, hb, hn, go_sem])
    all_goals (simp only [fin_mk, finV, resL, resV1, resIn, endA, listIn, Option.some_or, Option.none_or, oneOrTup, go_sem]; rw [← hr])
    all_goals simp [boxOk, hn]
  | true =>
    simp only [hb, hn, hc, and_self, go_sem]
    repeat' ((first | ((first | apply qa | apply qb | apply qc | apply qd | apply qe | apply qf | apply qg | apply qh | apply qi | apply qj | apply qk) <;> intro hp) | ((first | refine ql rfl rfl (by decide +kernel) ?_ | refine qm _ rfl rfl (by decide +kernel) ?_ | refine goes_opn rfl ?_ | refine goes_opnD rfl rfl (by decide +kernel) ?_) <;> have hp := True.intro)) <;> simp only [hp, hb, hn, hc, and_self, go_sem])
    all_goals (simp only [fin_mk, finV, resL, resV1, resIn, endA, listIn, Option.some_or, Option.none_or, oneOrTup, go_sem]; rw [← hr])
    all_goals simp_all [boxOk]
def T_spec_BoxOk : Hints := ⟨fun i => if i = 7 then some [] else if i = 18 then some [] else if i = 20 then some [] else if i = 1 then some [] else if i = 13 then some [] else none, fun i => if i = 4 then some [1, 3] else if i = 10 then some [1, 5] else if i = 16 then some [1, 5, 6, 7] else none, fun i => if i = 0 then some [1] else if i = 1 then some [1, 49] else if i = 2 then some [2] else if i = 3 then some [1, 3] else if i = 4 then some [1, 3, 54] else if i = 6 then some [1, 3, 4] else if i = 7 then some [1, 3, 104] else if i = 8 then some [2] else if i = 5 then some [1, 3] else if i = 9 then some [1, 5] else if i = 10 then some [1, 5, 109] else if i = 12 then some [1, 5, 6] else if i = 13 then some [1, 5, 6, 143] else if i = 14 then some [2] else if i = 15 then some [1, 5, 6, 7] else if i = 16 then some [1, 5, 6, 7, 146] else if i = 18 then some [1, 5, 6, 7, 157] else if i = 19 then some [2] else if i = 17 then some [1, 5, 6, 7] else if i = 20 then some [1, 5, 195] else if i = 21 then some [2] else if i = 11 then some [1, 5] else if i = 22 then some [2] else none, fun _ => none⟩
noncomputable def Phi_spec_BoxOk : Tab := fun f => if f = 43 then some spWithin else if f = 42 then some spBoxName else if f = 44 then some spFlagsOk else if f = 45 then some spMailOk else if f = 46 then some spHasMail else none
attribute [go_sem] T_spec_BoxOk Phi_spec_BoxOk
theorem phi_spec_BoxOk : ∀ f sp, Phi_spec_BoxOk f = some sp → FnOk Try.prog f sp ∧ ∀ n ∈ sp.need, n ∈ ([] : List String) := by
  intro f sp h
  unfold Phi_spec_BoxOk at h
  by_cases e : f = 43
  · rw [if_pos e] at h; cases h; rw [e]; exact ⟨ok_spec_l01In, (fun n (h : n ∈ ([] : List String)) => (nomatch h))⟩
  rw [if_neg e] at h
  by_cases e : f = 42
  · rw [if_pos e] at h; cases h; rw [e]; exact ⟨ok_spec_BoxName, (fun n (h : n ∈ ([] : List String)) => (nomatch h))⟩
  rw [if_neg e] at h
  by_cases e : f = 44
  · rw [if_pos e] at h; cases h; rw [e]; exact ⟨ok_spec_FlagsOk, (fun n (h : n ∈ ([] : List String)) => (nomatch h))⟩
  rw [if_neg e] at h
  by_cases e : f = 45
  · rw [if_pos e] at h; cases h; rw [e]; exact ⟨ok_spec_MailOk, (fun n (h : n ∈ ([] : List String)) => (nomatch h))⟩
  rw [if_neg e] at h
  by_cases e : f = 46
  · rw [if_pos e] at h; cases h; rw [e]; exact ⟨ok_spec_l08HasMail, (fun n (h : n ∈ ([] : List String)) => (nomatch h))⟩
  rw [if_neg e] at h
  cases h
theorem ok_spec_BoxOk : FnOk Try.prog 23 spBoxOk := by
  refine fn_ok (Φ := Phi_spec_BoxOk) (T := T_spec_BoxOk) phi_spec_BoxOk mixed Try.func23 rfl rfl rfl (by decide) ?_
  intro ins r outs hr hl
  clear hl
  have hs := spBoxOk_in hr
  clear hr
  obtain ⟨b, rfl, hc, hr, rfl⟩ := hs
  simp only [spBoxOk, Try.f23, Go.VM.initS]
  have hb : b.Name.length ≤ 1099511627776 := Nat.le_trans hc.1 (by decide)
  have hl : b.Mails.length ≤ 4194304 := hc.2.1.1
  have hlt : b.Tombs.length ≤ 4194304 := hc.2.2.1
  have hmt : ∀ m ∈ b.Mails, m.Text.length ≤ 4194304 := hc.2.1.2
  have l1 : decide ((30 : Int) < b.Mails.length) = !decide (b.Mails.length ≤ 30) := by
    rcases Nat.lt_or_ge 30 b.Mails.length with h | h
    · simp [show ¬ b.Mails.length ≤ 30 by omega]; omega
    · simp [h]; omega
  have l2 : decide ((40 : Int) < b.Tombs.length) = !decide (b.Tombs.length ≤ 40) := by
    rcases Nat.lt_or_ge 40 b.Tombs.length with h | h
    · simp [show ¬ b.Tombs.length ≤ 40 by omega]; omega
    · simp [h]; omega
  simp only [go_sem]
  refine goes_val 49 V.bool (!(boxName b.Name && numsOk b && decide (b.Mails.length ≤ 30) && decide (b.Tombs.length ≤ 40))) rfl rfl ?_ ?_
  · intro G hG
    simp only [hb, l1, l2, go_sem]
    repeat' ((first | ((first | apply qa | apply qb | apply qc | apply qd | apply qe | apply qf | apply qg | apply qh | apply qi | apply qj | apply qk) <;> intro hp) | ((first | refine ql rfl rfl (by decide +kernel) ?_ | refine qm _ rfl rfl (by decide +kernel) ?_ | refine goes_opn rfl ?_ | refine goes_opnD rfl rfl (by decide +kernel) ?_) <;> have hp := True.intro)) <;> simp only [hp, hb, l1, l2, go_sem])
    all_goals ((first | refine hG _ ?_ | (simp only [*] at hG; refine hG _ ?_)); clear hG; simp_all [numsOk])
  simp only [go_sem]
  refine condG_not.2 ⟨fun hq => ?_, fun hq => ?_⟩
  · simp only [go_sem]
    simp only [fin_mk, finV, resL, resV1, resIn, endA, listIn, Option.some_or, Option.none_or, oneOrTup, go_sem]
    rw [← hr]
    congr 3
    symm
    rw [Bool.eq_false_iff]
    intro hx
    simp only [boxOk, mailsOk, tombsOk, Bool.and_eq_true] at hx
    simp only [hx, Bool.and_self, Bool.true_eq_false] at hq
  simp only [Bool.and_eq_true] at hq
  obtain ⟨⟨⟨q1, q2⟩, q3⟩, q4⟩ := hq
  have hnn := numsOk_next q2
  have hn1 : IntKind.i64.wrap (b.Next - 1) = b.Next - 1 := wrap64 (by omega) (by omega)
  have hm : mailsOk b = allN b.Mails.length (mailAtOk b) := by rw [mailsOk, q3, Bool.and_true]
  have ht : tombsOk b = allN b.Tombs.length (tombAtOk b) := by rw [tombsOk, q4, Bool.and_true]
  clear l1 l2
  simp only [go_sem]
  refine loop_go (fun i : Nat => [(3, .int .i64 (i : Int))]) (fun _ => []) (fun i => b.Mails.length - i) (fun i => i ≤ b.Mails.length ∧ ∀ j, j < i → mailAtOk b j = true) 0 ⟨Nat.zero_le _, fun j hj => absurd hj (by omega)⟩ rfl rfl ?_
  intro i ⟨hi, ha⟩ ih
  rcases Nat.lt_or_ge i b.Mails.length with h | h
  · have g1 : (i : Int) < b.Mails.length := by omega
    have g2 : (0 : Int) ≤ i := by omega
    have g3 : b.Mails[i]? = some b.Mails[i] := List.getElem?_eq_getElem h
    have g5 := wrap_succ h (by omega)
    have gt : b.Mails[i].Text.length ≤ 4194304 := hmt _ (List.getElem_mem h)
    simp only [g1, g2, g3, go_sem]
    refine goes_valD 104 V.bool (!mailAtOk b i) rfl rfl rfl (by decide +kernel) ?_ ?_
    · intro G hG
      clear ih hr ha
      rcases Nat.eq_zero_or_pos i with h0 | h0
      · have k1 : ¬ (0 : Int) < i := by omega
        have g6 : mailAtOk b i = (within b.Mails[i].Uid 1 (b.Next - 1) && flagsOk b.Mails[i].Flags && within b.Mails[i].Mod 1 b.Mod && mailOk b.Mails[i].Text) := by
          have : (i == 0) = true := by simp [h0]
          simp only [mailAtOk, getD_lt h, this, Bool.true_or, Bool.and_true]
        simp only [g1, g2, g3, k1, hn1, gt, go_sem]
        repeat' ((first | ((first | apply qa | apply qb | apply qc | apply qd | apply qe | apply qf | apply qg | apply qh | apply qi | apply qj | apply qk) <;> intro hp) | ((first | refine ql rfl rfl (by decide +kernel) ?_ | refine qm _ rfl rfl (by decide +kernel) ?_ | refine goes_opn rfl ?_ | refine goes_opnD rfl rfl (by decide +kernel) ?_) <;> have hp := True.intro)) <;> simp only [hp, g1, g2, g3, k1, hn1, gt, go_sem])
        all_goals ((first | refine hG _ ?_ | (simp only [*] at hG; refine hG _ ?_)); clear hG; rw [g6]; simp_all)
      · have k1 : (0 : Int) < i := by omega
        have k2 := wrap_pred h0 (by omega)
        have k3 : (0 : Int) ≤ ((i - 1 : Nat) : Int) := by omega
        have k4 : ((i - 1 : Nat) : Int) < b.Mails.length := by omega
        have k5 : b.Mails[i - 1]? = some (b.Mails[i - 1]'(by omega)) := List.getElem?_eq_getElem (by omega)
        have g6 : mailAtOk b i = (within b.Mails[i].Uid 1 (b.Next - 1) && decide ((b.Mails[i - 1]'(by omega)).Uid < b.Mails[i].Uid) && flagsOk b.Mails[i].Flags && within b.Mails[i].Mod 1 b.Mod && mailOk b.Mails[i].Text) := by
          have : (i == 0) = false := by simp; omega
          simp only [mailAtOk, getD_lt h, getD_lt (show i - 1 < b.Mails.length by omega), this, Bool.false_or]
        rcases Int.lt_or_le (b.Mails[i - 1]'(by omega)).Uid b.Mails[i].Uid with q | q
        · have q' : ¬ b.Mails[i].Uid ≤ (b.Mails[i - 1]'(by omega)).Uid := by omega
          simp only [g1, g2, g3, k1, k2, k3, k4, k5, q', hn1, gt, go_sem]
          repeat' ((first | ((first | apply qa | apply qb | apply qc | apply qd | apply qe | apply qf | apply qg | apply qh | apply qi | apply qj | apply qk) <;> intro hp) | ((first | refine ql rfl rfl (by decide +kernel) ?_ | refine qm _ rfl rfl (by decide +kernel) ?_ | refine goes_opn rfl ?_ | refine goes_opnD rfl rfl (by decide +kernel) ?_) <;> have hp := True.intro)) <;> simp only [hp, g1, g2, g3, k1, k2, k3, k4, k5, q', hn1, gt, go_sem])
          all_goals ((first | refine hG _ ?_ | (simp only [*] at hG; refine hG _ ?_)); clear hG k2 k5; rw [g6, decide_eq_true q]; simp_all)
        · have q' : ¬ (b.Mails[i - 1]'(by omega)).Uid < b.Mails[i].Uid := by omega
          simp only [g1, g2, g3, k1, k2, k3, k4, k5, q, hn1, gt, go_sem]
          repeat' ((first | ((first | apply qa | apply qb | apply qc | apply qd | apply qe | apply qf | apply qg | apply qh | apply qi | apply qj | apply qk) <;> intro hp) | ((first | refine ql rfl rfl (by decide +kernel) ?_ | refine qm _ rfl rfl (by decide +kernel) ?_ | refine goes_opn rfl ?_ | refine goes_opnD rfl rfl (by decide +kernel) ?_) <;> have hp := True.intro)) <;> simp only [hp, g1, g2, g3, k1, k2, k3, k4, k5, q, hn1, gt, go_sem])
          all_goals ((first | refine hG _ ?_ | (simp only [*] at hG; refine hG _ ?_)); clear hG k2 k5; rw [g6, decide_eq_false q']; simp_all)
    · simp only [g5, go_sem]
      repeat' ((first | ((first | apply qa | apply qb | apply qc | apply qd | apply qe | apply qf | apply qg | apply qh | apply qi | apply qj | apply qk) <;> intro hp) | ((first | refine ql rfl rfl (by decide +kernel) ?_ | refine qm _ rfl rfl (by decide +kernel) ?_ | refine goes_opn rfl ?_ | refine goes_opnD rfl rfl (by decide +kernel) ?_) <;> have hp := True.intro)) <;> simp only [hp, g5, go_sem])
      · simp only [fin_mk, finV, resL, resV1, resIn, endA, listIn, Option.some_or, Option.none_or, oneOrTup, go_sem]
        rw [← hr]
        rw [boxOk, hm, allN_bad h hp, Bool.and_false]; rfl
      · exact ih (i + 1) ⟨h, all_succ ha hp⟩ (by omega)
  have hm1 : mailsOk b = true := by rw [hm, allN_all h ha]
  clear ih
  have g1 : ¬ (i : Int) < b.Mails.length := by omega
  simp only [g1, go_sem]
  refine loop_go (fun i : Nat => [(5, .int .i64 (i : Int))]) (fun _ => []) (fun i => b.Tombs.length - i) (fun i => i ≤ b.Tombs.length ∧ ∀ j, j < i → tombAtOk b j = true) 0 ⟨Nat.zero_le _, fun j hj => absurd hj (by omega)⟩ rfl rfl ?_
  clear g1 ha hi h i
  intro i ⟨hi, ha⟩ ih
  rcases Nat.lt_or_ge i b.Tombs.length with h | h
  case inr =>
    have g1 : ¬ (i : Int) < b.Tombs.length := by omega
    simp only [g1, go_sem]
    simp only [fin_mk, finV, resL, resV1, resIn, endA, listIn, Option.some_or, Option.none_or, oneOrTup, go_sem]
    rw [← hr]
    rw [boxOk, q1, q2, hm1, ht, allN_all h ha]; rfl
  have g1 : (i : Int) < b.Tombs.length := by omega
  have g2 : (0 : Int) ≤ i := by omega
  have g3 : b.Tombs[i]? = some b.Tombs[i] := List.getElem?_eq_getElem h
  have g5 := wrap_succ h (by omega)
  have hbad : tombAtOk b i = false → V.bool false = r := fun hx => by
    rw [← hr, boxOk, ht, allN_bad h hx, Bool.and_false]
  simp only [g1, g2, g3, go_sem]
  have e1 : decide (b.Tombs[i].Mod ≤ b.Horizon) = !decide (b.Horizon < b.Tombs[i].Mod) := by
    rcases Int.lt_or_le b.Horizon b.Tombs[i].Mod with p | p
    · simp [p]
    · simp [p]
  have e2 : decide (b.Mod < b.Tombs[i].Mod) = !decide (b.Tombs[i].Mod ≤ b.Mod) := by
    rcases Int.lt_or_le b.Mod b.Tombs[i].Mod with p | p
    · simp [p]
    · simp [p]
  have ew : within b.Tombs[i].Mod (b.Horizon + 1) b.Mod = (decide (b.Horizon < b.Tombs[i].Mod) && decide (b.Tombs[i].Mod ≤ b.Mod)) := by
    simp only [within, Int.add_one_le_iff]
  refine goes_val 143 V.bool (!(within b.Tombs[i].Uid 1 (b.Next - 1) && decide (b.Horizon < b.Tombs[i].Mod) && decide (b.Tombs[i].Mod ≤ b.Mod) && !hasMail b.Mails b.Tombs[i].Uid)) rfl rfl ?_ ?_
  · intro G hG
    clear ih hr ha hbad ew
    simp only [hn1, hc, e1, e2, go_sem]
    repeat' ((first | ((first | apply qa | apply qb | apply qc | apply qd | apply qe | apply qf | apply qg | apply qh | apply qi | apply qj | apply qk) <;> intro hp) | ((first | refine ql rfl rfl (by decide +kernel) ?_ | refine qm _ rfl rfl (by decide +kernel) ?_ | refine goes_opn rfl ?_ | refine goes_opnD rfl rfl (by decide +kernel) ?_) <;> have hp := True.intro)) <;> simp only [hp, hn1, hc, e1, e2, go_sem])
    all_goals ((first | refine hG _ ?_ | (simp only [*] at hG; refine hG _ ?_)); clear hG e1 e2; simp_all)
  clear e1 e2
  simp only [go_sem]
  refine condG_not.2 ⟨fun hq => ?_, fun hq => ?_⟩
  · simp only [go_sem]
    simp only [fin_mk, finV, resL, resV1, resIn, endA, listIn, Option.some_or, Option.none_or, oneOrTup, go_sem]
    rw [hbad ?_]
    simp only [tombAtOk, tombIn, getD_lt h, ew, Bool.and_eq_false_iff] at hq ⊢
    rcases hq with ((hq | hq) | hq) | hq <;> simp only [hq, true_or, or_true]
  simp only [Bool.and_eq_true] at hq
  obtain ⟨⟨⟨t1, t2⟩, t3⟩, t4⟩ := hq
  simp only [go_sem]
  refine loop_go (fun k : Nat => [(7, .int .i64 (k : Int))]) (fun _ => []) (fun k => i - k) (fun k => k ≤ i ∧ (b.Tombs.take k).any (fun x => x.Uid == b.Tombs[i].Uid) = false) 0 ⟨Nat.zero_le _, by simp⟩ rfl rfl ?_
  intro k ⟨hki, hka⟩ ihk
  rcases Nat.lt_or_ge k i with hk | hk
  · have m1 : (k : Int) < i := by omega
    have m2 : (0 : Int) ≤ k := by omega
    have m3 : b.Tombs[k]? = some (b.Tombs[k]'(by omega)) := List.getElem?_eq_getElem (by omega)
    have m4 : (k : Int) < b.Tombs.length := by omega
    have m5 := wrap_succ hk (by omega)
    cases hv : ((b.Tombs[k]'(by omega)).Uid == b.Tombs[i].Uid) with
    | true =>
      clear ih ihk
      simp only [m1, m2, m3, m4, m5, hv, go_sem]
      repeat' ((first | ((first | apply qa | apply qb | apply qc | apply qd | apply qe | apply qf | apply qg | apply qh | apply qi | apply qj | apply qk) <;> intro hp) | ((first | refine ql rfl rfl (by decide +kernel) ?_ | refine qm _ rfl rfl (by decide +kernel) ?_ | refine goes_opn rfl ?_ | refine goes_opnD rfl rfl (by decide +kernel) ?_) <;> have hp := True.intro)) <;> simp only [hp, m1, m2, m3, m4, m5, hv, go_sem])
      simp only [fin_mk, finV, resL, resV1, resIn, endA, listIn, Option.some_or, Option.none_or, oneOrTup, go_sem]
      rw [hbad ?_]
      have hx : (b.Tombs.take i).any (fun x => x.Uid == b.Tombs[i].Uid) = true :=
        any_bad (i := k) (by rw [List.length_take]; omega) (by rw [List.getElem_take]; exact hv)
      simp only [tombAtOk, tombIn, getD_lt h, hasTomb, hx, Bool.not_true, Bool.and_false, Bool.false_and]
    | false =>
      simp only [m1, m2, m3, m4, m5, hv, go_sem]
      repeat' ((first | ((first | apply qa | apply qb | apply qc | apply qd | apply qe | apply qf | apply qg | apply qh | apply qi | apply qj | apply qk) <;> intro hp) | ((first | refine ql rfl rfl (by decide +kernel) ?_ | refine qm _ rfl rfl (by decide +kernel) ?_ | refine goes_opn rfl ?_ | refine goes_opnD rfl rfl (by decide +kernel) ?_) <;> have hp := True.intro)) <;> simp only [hp, m1, m2, m3, m4, m5, hv, go_sem])
      exact ihk (k + 1) ⟨hk, any_take_succ (by omega) hka hv⟩ (by omega)
  have hke : k = i := by omega
  subst hke
  clear ihk
  have tk : tombIn b k = true := by
    simp only [tombIn, getD_lt h, ew, hasTomb, hka, t1, t2, t3, t4, Bool.not_false, Bool.and_self]
  have m1 : ¬ (k : Int) < k := by omega
  simp only [m1, go_sem]
  refine goes_valD 195 V.bool (!tombOrd b k) rfl rfl rfl (by decide +kernel) ?_ ?_
  · intro G hG
    clear ih hr ha hbad
    rcases Nat.eq_zero_or_pos k with h0 | h0
    · have k1 : ¬ (0 : Int) < k := by omega
      have g6 : tombOrd b k = true := by
        have : (k == 0) = true := by simp [h0]
        simp only [tombOrd, this, Bool.true_or]
      simp only [g1, g2, g3, k1, go_sem]
      repeat' ((first | ((first | apply qa | apply qb | apply qc | apply qd | apply qe | apply qf | apply qg | apply qh | apply qi | apply qj | apply qk) <;> intro hp) | ((first | refine ql rfl rfl (by decide +kernel) ?_ | refine qm _ rfl rfl (by decide +kernel) ?_ | refine goes_opn rfl ?_ | refine goes_opnD rfl rfl (by decide +kernel) ?_) <;> have hp := True.intro)) <;> simp only [hp, g1, g2, g3, k1, go_sem])
      all_goals (refine hG _ ?_; rw [g6]; rfl)
    · have k1 : (0 : Int) < k := by omega
      have k2 := wrap_pred h0 (by omega)
      have k3 : (0 : Int) ≤ ((k - 1 : Nat) : Int) := by omega
      have k4 : ((k - 1 : Nat) : Int) < b.Tombs.length := by omega
      have k5 : b.Tombs[k - 1]? = some (b.Tombs[k - 1]'(by omega)) := List.getElem?_eq_getElem (by omega)
      have g6 : tombOrd b k = !(decide (b.Tombs[k].Mod < (b.Tombs[k - 1]'(by omega)).Mod) || ((b.Tombs[k - 1]'(by omega)).Mod == b.Tombs[k].Mod && decide (b.Tombs[k].Uid ≤ (b.Tombs[k - 1]'(by omega)).Uid))) := by
        have : (k == 0) = false := by simp; omega
        simp only [tombOrd, getD_lt h, getD_lt (show k - 1 < b.Tombs.length by omega), this, Bool.false_or]
      simp only [g1, g2, g3, k1, k2, k3, k4, k5, go_sem]
      repeat' ((first | ((first | apply qa | apply qb | apply qc | apply qd | apply qe | apply qf | apply qg | apply qh | apply qi | apply qj | apply qk) <;> intro hp) | ((first | refine ql rfl rfl (by decide +kernel) ?_ | refine qm _ rfl rfl (by decide +kernel) ?_ | refine goes_opn rfl ?_ | refine goes_opnD rfl rfl (by decide +kernel) ?_) <;> have hp := True.intro)) <;> simp only [hp, g1, g2, g3, k1, k2, k3, k4, k5, go_sem])
      all_goals ((first | refine hG _ ?_ | (simp only [*] at hG; refine hG _ ?_)); clear hG k2 k5; rw [g6]; simp_all)

  simp only [g5, go_sem]

  repeat' ((first | ((first | apply qa | apply qb | apply qc | apply qd | apply qe | apply qf | apply qg | apply qh | apply qi | apply qj | apply qk) <;> intro hp) | ((first | refine ql rfl rfl (by decide +kernel) ?_ | refine qm _ rfl rfl (by decide +kernel) ?_ | refine goes_opn rfl ?_ | refine goes_opnD rfl rfl (by decide +kernel) ?_) <;> have hp := True.intro)) <;> simp only [hp, g5, go_sem])
  · simp only [fin_mk, finV, resL, resV1, resIn, endA, listIn, Option.some_or, Option.none_or, oneOrTup, go_sem]
    rw [hbad (by rw [tombAtOk, tk, hp]; rfl)]
  · exact ih (k + 1) ⟨h, all_succ ha (by rw [tombAtOk, tk, hp]; rfl)⟩ (by omega)
end Go.Proofs.Ytimiccneikhkgaa.L
