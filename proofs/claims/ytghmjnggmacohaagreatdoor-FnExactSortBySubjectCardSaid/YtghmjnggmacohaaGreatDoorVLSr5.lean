/- Contracts of functions, and the facts that they need. No condition. -/
import Derived.Test.YtghmjnggmacohaaGreatDoorVLS

import Derived.Test.YtghmjnggmacohaaGreatDoorVLSr3
import Derived.Sort.Walk0
namespace Go.Proofs.YtghmjnggmacohaaGreatDoor.L
open Go Go.VM
set_option maxRecDepth 100000
set_option maxHeartbeats 4000000
set_option linter.unusedSimpArgs false
set_option linter.unusedVariables false
def hasMail (l : List Mail) (u : Int) : Bool := l.any (fun x => x.Uid == u)
def hasTomb (l : List Tomb) (u : Int) : Bool := l.any (fun x => x.Uid == u)
open Classical in
noncomputable def spHasMail : VM.Spec := { modes := [.rd, .rd], run := fun | [b', .int .i64 u] => (Box.dec b').bind fun b => if b.le 4194304 then some (.bool (hasMail b.Mails u), []) else none | _ => none, need := [] }
attribute [go_sem] spHasMail
theorem spHasMail_in {ins : List V} {r : V} {outs : List V} (h : spHasMail.run ins = some (r, outs)) : ∃ (b : Box) (u : Int), ins = [Box.enc b, .int .i64 u] ∧ (b.le 4194304) ∧ .bool (hasMail b.Mails u) = r ∧ outs = [] := by
  unfold spHasMail at h
  simp only at h
  split at h
  · rename_i b' u
    simp only [Option.bind_eq_some_iff] at h
    obtain ⟨b, h_b, h⟩ := h
    split at h
    case isFalse => cases h
    rename_i hc
    simp only [Option.some.injEq, Prod.mk.injEq] at h
    obtain ⟨h1, h2⟩ := h
    have h_b := Box.dec_some h_b
    subst h_b
    exact ⟨b, u, rfl, hc, h1, h2.symm⟩
  · cases h
def T_spec_l08HasMail : Hints := ⟨lk [], lk [(2, [1, 2, 5])], lk [(0, [1, 2]), (1, [1, 2, 5]), (2, [1, 2, 5, 10]), (4, [1, 2, 5, 20]), (5, [4]), (3, [1, 2, 5]), (6, [4])], lk []⟩
noncomputable def Phi_spec_l08HasMail : Tab := lk []
attribute [go_sem] T_spec_l08HasMail Phi_spec_l08HasMail
theorem phi_spec_l08HasMail : ∀ f sp, Phi_spec_l08HasMail f = some sp → FnOk Tryz.prog f sp ∧ ∀ n ∈ sp.need, n ∈ ([] : List String) := phi_nil
theorem ok_spec_l08HasMail : FnOk Tryz.prog 54 spHasMail := by
  refine fn_ok (Φ := Phi_spec_l08HasMail) (T := T_spec_l08HasMail) phi_spec_l08HasMail mixed Tryz.func54 rfl rfl rfl (by decide) ?_
  intro ins r outs hr hl
  clear hl
  have hs := spHasMail_in hr
  clear hr
  obtain ⟨b, u, rfl, hc, hr, rfl⟩ := hs
  simp only [spHasMail, Tryz.f54, Go.VM.initS]
  have hl : b.Mails.length ≤ 4194304 := hc.2.1.1
  simp only [go_sem]
  refine loop_go (fun i : Nat => [(5, .int .i64 (i : Int))]) (fun _ => []) (fun i => b.Mails.length - i) (fun i => i ≤ b.Mails.length ∧ (b.Mails.take i).any (fun x => x.Uid == u) = false) 0 ⟨Nat.zero_le _, by simp⟩ rfl rfl ?_
  intro i ⟨hi, ha⟩ ih
  rcases Nat.lt_or_ge i b.Mails.length with h | h
  · have g1 : (i : Int) < b.Mails.length := by omega
    have g2 : (0 : Int) ≤ i := by omega
    have g3 : b.Mails[i]? = some b.Mails[i] := List.getElem?_eq_getElem h
    have g5 := wrap_succ h (by omega)
    cases hb : (b.Mails[i].Uid == u) with
    | true =>
      simp only [g1, g2, g3, g5, hb, go_sem]
      repeat' ((first | apply qa | apply qb | apply qc | apply qd | apply qe | apply qf | apply qg | apply qh | apply qi | apply qj | apply qk) <;> intro hp <;> simp only [hp, g1, g2, g3, g5, hb, go_sem])
      simp only [fin_mk, finV, resL, resV1, resIn, endA, listIn, Option.some_or, Option.none_or, oneOrTup, go_sem]
      rw [← hr]
      rw [hasMail, any_bad h hb]
    | false =>
      simp only [g1, g2, g3, g5, hb, go_sem]
      repeat' ((first | apply qa | apply qb | apply qc | apply qd | apply qe | apply qf | apply qg | apply qh | apply qi | apply qj | apply qk) <;> intro hp <;> simp only [hp, g1, g2, g3, g5, hb, go_sem])
      exact ih (i + 1) ⟨h, any_take_succ h ha hb⟩ (by omega)
  · have g1 : ¬ (i : Int) < b.Mails.length := by omega
    simp only [g1, go_sem]
    simp only [fin_mk, finV, resL, resV1, resIn, endA, listIn, Option.some_or, Option.none_or, oneOrTup, go_sem]
    rw [← hr]
    rw [hasMail, any_take_end h ha]
open Classical in
noncomputable def spMailIs : VM.Spec := { modes := [.rd, .rd], run := fun | [m', .rptr (.int .i64 u)] => (Mail.dec m').bind fun m => some (.bool (m.Uid == u), []) | _ => none, need := [] }
attribute [go_sem] spMailIs
theorem spMailIs_in {ins : List V} {r : V} {outs : List V} (h : spMailIs.run ins = some (r, outs)) : ∃ (m : Mail) (u : Int), ins = [Mail.enc m, .rptr (.int .i64 u)] ∧ .bool (m.Uid == u) = r ∧ outs = [] := by
  unfold spMailIs at h
  simp only at h
  split at h
  · rename_i m' u
    simp only [Option.bind_eq_some_iff] at h
    obtain ⟨m, h_m, h⟩ := h
    simp only [Option.some.injEq, Prod.mk.injEq] at h
    obtain ⟨h1, h2⟩ := h
    have h_m := Mail.dec_some h_m
    subst h_m
    exact ⟨m, u, rfl, h1, h2.symm⟩
  · cases h
def T_impl_mailAt_1 : Hints := ⟨lk [], lk [], lk [(0, [1, 2]), (1, [3])], lk []⟩
noncomputable def Phi_impl_mailAt_1 : Tab := lk []
attribute [go_sem] T_impl_mailAt_1 Phi_impl_mailAt_1
theorem phi_impl_mailAt_1 : ∀ f sp, Phi_impl_mailAt_1 f = some sp → FnOk Tryz.prog f sp ∧ ∀ n ∈ sp.need, n ∈ ([] : List String) := phi_nil
theorem ok_impl_mailAt_1 : FnOk Tryz.prog 117 spMailIs := by
  refine fn_ok (Φ := Phi_impl_mailAt_1) (T := T_impl_mailAt_1) phi_impl_mailAt_1 mixed Tryz.func117 rfl rfl rfl (by decide) ?_
  intro ins r outs hr hl
  clear hl
  have hs := spMailIs_in hr
  clear hr
  obtain ⟨m, u, rfl, hr, rfl⟩ := hs
  simp only [spMailIs, Tryz.f117, Go.VM.initS]
  simp only [go_sem]
  simp only [fin_mk, finV, resL, resV1, resIn, endA, listIn, Option.some_or, Option.none_or, oneOrTup, go_sem]
  rw [← hr]
open Classical in
noncomputable def spIdxMail : VM.Spec := { modes := [.rd, .rd], run := fun | [.lst 4 l', .fn 117 [.rptr (.int .i64 u)]] => (decL Mail.dec l').bind fun l => if l.length ≤ 4194304 then some (.int .i64 (idxL (fun x => x.Uid == u) l), []) else none | _ => none, need := [] }
attribute [go_sem] spIdxMail
theorem spIdxMail_in {ins : List V} {r : V} {outs : List V} (h : spIdxMail.run ins = some (r, outs)) : ∃ (l : (List Mail)) (u : Int), ins = [.lst 4 ((l).map Mail.enc), .fn 117 [.rptr (.int .i64 u)]] ∧ (l.length ≤ 4194304) ∧ .int .i64 (idxL (fun x => x.Uid == u) l) = r ∧ outs = [] := by
  unfold spIdxMail at h
  simp only at h
  split at h
  · rename_i l' u
    simp only [Option.bind_eq_some_iff] at h
    obtain ⟨l, h_l, h⟩ := h
    split at h
    case isFalse => cases h
    rename_i hc
    simp only [Option.some.injEq, Prod.mk.injEq] at h
    obtain ⟨h1, h2⟩ := h
    have h_l := decL_some (fun _ _ h => Mail.dec_some h) h_l
    subst h_l
    exact ⟨l, u, rfl, hc, h1, h2.symm⟩
  · cases h
def T_slices_IndexFunc_loop_example_g00247_impl_Mail_loop_example_g00247_impl_Mail : Hints := ⟨lk [], lk [(2, [0, 1, 7, 8])], lk [(0, [0, 1]), (1, [0, 1, 7, 8]), (2, [0, 1, 7, 8, 9]), (3, [0, 1, 5, 7, 8]), (4, [0, 1, 5, 7, 8, 16]), (5, [4]), (6, [0, 1, 7, 8]), (7, [4])], lk []⟩
noncomputable def Phi_slices_IndexFunc_loop_example_g00247_impl_Mail_loop_example_g00247_impl_Mail : Tab := lk [(117, spMailIs)]
attribute [go_sem] T_slices_IndexFunc_loop_example_g00247_impl_Mail_loop_example_g00247_impl_Mail Phi_slices_IndexFunc_loop_example_g00247_impl_Mail_loop_example_g00247_impl_Mail
theorem phi_slices_IndexFunc_loop_example_g00247_impl_Mail_loop_example_g00247_impl_Mail : ∀ f sp, Phi_slices_IndexFunc_loop_example_g00247_impl_Mail_loop_example_g00247_impl_Mail f = some sp → FnOk Tryz.prog f sp ∧ ∀ n ∈ sp.need, n ∈ ([] : List String) := phi_cons ok_impl_mailAt_1 (n0 rfl) (phi_nil)
theorem ok_slices_IndexFunc_loop_example_g00247_impl_Mail_loop_example_g00247_impl_Mail : FnOk Tryz.prog 116 spIdxMail := by
  refine fn_ok (Φ := Phi_slices_IndexFunc_loop_example_g00247_impl_Mail_loop_example_g00247_impl_Mail) (T := T_slices_IndexFunc_loop_example_g00247_impl_Mail_loop_example_g00247_impl_Mail) phi_slices_IndexFunc_loop_example_g00247_impl_Mail_loop_example_g00247_impl_Mail mixed Tryz.func116 rfl rfl rfl (by decide) ?_
  intro ins r outs hr hl
  clear hl
  have hs := spIdxMail_in hr
  clear hr
  obtain ⟨l, u, rfl, hc, hr, rfl⟩ := hs
  simp only [spIdxMail, Tryz.f116, Go.VM.initS]
  simp only [go_sem]
  refine loop_go (fun i : Nat => [(8, .int .i64 (i : Int))]) (fun _ => []) (fun i => l.length - i) (fun i => i ≤ l.length ∧ ∀ j (hj : j < i) (hl : j < l.length), (fun x => x.Uid == u) l[j] = false) 0 ⟨Nat.zero_le _, fun j hj => absurd hj (by omega)⟩ rfl rfl ?_
  intro i ⟨hi, ha⟩ ih
  rcases Nat.lt_or_ge i l.length with h | h
  · have g1 : (i : Int) < l.length := by omega
    have g2 : (0 : Int) ≤ i := by omega
    have g3 : l[i]? = some l[i] := List.getElem?_eq_getElem h
    have g5 := wrap_succ h (by omega)
    cases hb : (fun x => x.Uid == u) l[i] with
    | true =>
      simp only [g1, g2, g3, g5, hb, go_sem]
      repeat' ((first | apply qa | apply qb | apply qc | apply qd | apply qe | apply qf | apply qg | apply qh | apply qi | apply qj | apply qk) <;> intro hp <;> simp only [hp, g1, g2, g3, g5, hb, go_sem])
      simp only [fin_mk, finV, resL, resV1, resIn, endA, listIn, Option.some_or, Option.none_or, oneOrTup, go_sem]
      rw [← hr]
      rw [idxL_hit h (fun j hj => ha j hj (by omega)) hb]
    | false =>
      simp only [g1, g2, g3, g5, hb, go_sem]
      repeat' ((first | apply qa | apply qb | apply qc | apply qd | apply qe | apply qf | apply qg | apply qh | apply qi | apply qj | apply qk) <;> intro hp <;> simp only [hp, g1, g2, g3, g5, hb, go_sem])
      refine ih (i + 1) ⟨h, fun j hj hl => ?_⟩ (by omega)
      rcases Nat.lt_or_ge j i with h1 | h1
      · exact ha j h1 hl
      · have : j = i := by omega
        subst this; exact hb
  · have g1 : ¬ (i : Int) < l.length := by omega
    simp only [g1, go_sem]
    simp only [fin_mk, finV, resL, resV1, resIn, endA, listIn, Option.some_or, Option.none_or, oneOrTup, go_sem]
    rw [← hr]
    rw [idxL_miss fun j hj => ha j (by omega) hj]
open Classical in
noncomputable def spMailAt : VM.Spec := { modes := [.rd, .rd], run := fun | [b', .int .i64 u] => (Box.dec b').bind fun b => if b.le 4194304 then some (.int .i64 (idxL (fun x => x.Uid == u) b.Mails), []) else none | _ => none, need := [] }
attribute [go_sem] spMailAt
theorem spMailAt_in {ins : List V} {r : V} {outs : List V} (h : spMailAt.run ins = some (r, outs)) : ∃ (b : Box) (u : Int), ins = [Box.enc b, .int .i64 u] ∧ (b.le 4194304) ∧ .int .i64 (idxL (fun x => x.Uid == u) b.Mails) = r ∧ outs = [] := by
  unfold spMailAt at h
  simp only at h
  split at h
  · rename_i b' u
    simp only [Option.bind_eq_some_iff] at h
    obtain ⟨b, h_b, h⟩ := h
    split at h
    case isFalse => cases h
    rename_i hc
    simp only [Option.some.injEq, Prod.mk.injEq] at h
    obtain ⟨h1, h2⟩ := h
    have h_b := Box.dec_some h_b
    subst h_b
    exact ⟨b, u, rfl, hc, h1, h2.symm⟩
  · cases h
def T_impl_mailAt : Hints := ⟨lk [], lk [], lk [(0, [2, 3]), (1, [4])], lk []⟩
noncomputable def Phi_impl_mailAt : Tab := lk [(116, spIdxMail)]
attribute [go_sem] T_impl_mailAt Phi_impl_mailAt
theorem phi_impl_mailAt : ∀ f sp, Phi_impl_mailAt f = some sp → FnOk Tryz.prog f sp ∧ ∀ n ∈ sp.need, n ∈ ([] : List String) := phi_cons ok_slices_IndexFunc_loop_example_g00247_impl_Mail_loop_example_g00247_impl_Mail (n0 rfl) (phi_nil)
theorem ok_impl_mailAt : FnOk Tryz.prog 102 spMailAt := by
  refine fn_ok (Φ := Phi_impl_mailAt) (T := T_impl_mailAt) phi_impl_mailAt mixed Tryz.func102 rfl rfl rfl (by decide) ?_
  intro ins r outs hr hl
  clear hl
  have hs := spMailAt_in hr
  clear hr
  obtain ⟨b, u, rfl, hc, hr, rfl⟩ := hs
  simp only [spMailAt, Tryz.f102, Go.VM.initS]
  have hl : b.Mails.length ≤ 4194304 := hc.2.1.1
  simp only [hl, go_sem]
  simp only [fin_mk, finV, resL, resV1, resIn, endA, listIn, Option.some_or, Option.none_or, oneOrTup, go_sem]
  rw [← hr]
open Classical in
noncomputable def spTombIs : VM.Spec := { modes := [.rd, .rd], run := fun | [x', .rptr (t')] => (Tomb.dec x').bind fun x => (Tomb.dec t').bind fun t => some (.bool (x.Uid == t.Uid), []) | _ => none, need := [] }
attribute [go_sem] spTombIs
theorem spTombIs_in {ins : List V} {r : V} {outs : List V} (h : spTombIs.run ins = some (r, outs)) : ∃ (x : Tomb) (t : Tomb), ins = [Tomb.enc x, .rptr (Tomb.enc t)] ∧ .bool (x.Uid == t.Uid) = r ∧ outs = [] := by
  unfold spTombIs at h
  simp only at h
  split at h
  · rename_i x' t'
    simp only [Option.bind_eq_some_iff] at h
    obtain ⟨x, h_x, t, h_t, h⟩ := h
    simp only [Option.some.injEq, Prod.mk.injEq] at h
    obtain ⟨h1, h2⟩ := h
    have h_x := Tomb.dec_some h_x
    subst h_x
    have h_t := Tomb.dec_some h_t
    subst h_t
    exact ⟨x, t, rfl, h1, h2.symm⟩
  · cases h
def T_impl_tombsOk_1 : Hints := ⟨lk [], lk [], lk [(0, [1, 2]), (1, [3])], lk []⟩
noncomputable def Phi_impl_tombsOk_1 : Tab := lk []
attribute [go_sem] T_impl_tombsOk_1 Phi_impl_tombsOk_1
theorem phi_impl_tombsOk_1 : ∀ f sp, Phi_impl_tombsOk_1 f = some sp → FnOk Tryz.prog f sp ∧ ∀ n ∈ sp.need, n ∈ ([] : List String) := phi_nil
theorem ok_impl_tombsOk_1 : FnOk Tryz.prog 101 spTombIs := by
  refine fn_ok (Φ := Phi_impl_tombsOk_1) (T := T_impl_tombsOk_1) phi_impl_tombsOk_1 mixed Tryz.func101 rfl rfl rfl (by decide) ?_
  intro ins r outs hr hl
  clear hl
  have hs := spTombIs_in hr
  clear hr
  obtain ⟨x, t, rfl, hr, rfl⟩ := hs
  simp only [spTombIs, Tryz.f101, Go.VM.initS]
  simp only [go_sem]
  simp only [fin_mk, finV, resL, resV1, resIn, endA, listIn, Option.some_or, Option.none_or, oneOrTup, go_sem]
  rw [← hr]
open Classical in
noncomputable def spIdxTomb : VM.Spec := { modes := [.rd, .rd], run := fun | [.lst 2 l', .fn 101 [.rptr (t')]] => (decL Tomb.dec l').bind fun l => (Tomb.dec t').bind fun t => if l.length ≤ 4194304 then some (.int .i64 (idxL (fun x => x.Uid == t.Uid) l), []) else none | _ => none, need := [] }
attribute [go_sem] spIdxTomb
theorem spIdxTomb_in {ins : List V} {r : V} {outs : List V} (h : spIdxTomb.run ins = some (r, outs)) : ∃ (l : (List Tomb)) (t : Tomb), ins = [.lst 2 ((l).map Tomb.enc), .fn 101 [.rptr (Tomb.enc t)]] ∧ (l.length ≤ 4194304) ∧ .int .i64 (idxL (fun x => x.Uid == t.Uid) l) = r ∧ outs = [] := by
  unfold spIdxTomb at h
  simp only at h
  split at h
  · rename_i l' t'
    simp only [Option.bind_eq_some_iff] at h
    obtain ⟨l, h_l, t, h_t, h⟩ := h
    split at h
    case isFalse => cases h
    rename_i hc
    simp only [Option.some.injEq, Prod.mk.injEq] at h
    obtain ⟨h1, h2⟩ := h
    have h_l := decL_some (fun _ _ h => Tomb.dec_some h) h_l
    subst h_l
    have h_t := Tomb.dec_some h_t
    subst h_t
    exact ⟨l, t, rfl, hc, h1, h2.symm⟩
  · cases h
def T_slices_IndexFunc_loop_example_g00247_impl_Tomb_loop_example_g00247_impl_Tomb : Hints := ⟨lk [], lk [(2, [0, 1, 7, 8])], lk [(0, [0, 1]), (1, [0, 1, 7, 8]), (2, [0, 1, 7, 8, 9]), (3, [0, 1, 5, 7, 8]), (4, [0, 1, 5, 7, 8, 16]), (5, [4]), (6, [0, 1, 7, 8]), (7, [4])], lk []⟩
noncomputable def Phi_slices_IndexFunc_loop_example_g00247_impl_Tomb_loop_example_g00247_impl_Tomb : Tab := lk [(101, spTombIs)]
attribute [go_sem] T_slices_IndexFunc_loop_example_g00247_impl_Tomb_loop_example_g00247_impl_Tomb Phi_slices_IndexFunc_loop_example_g00247_impl_Tomb_loop_example_g00247_impl_Tomb
theorem phi_slices_IndexFunc_loop_example_g00247_impl_Tomb_loop_example_g00247_impl_Tomb : ∀ f sp, Phi_slices_IndexFunc_loop_example_g00247_impl_Tomb_loop_example_g00247_impl_Tomb f = some sp → FnOk Tryz.prog f sp ∧ ∀ n ∈ sp.need, n ∈ ([] : List String) := phi_cons ok_impl_tombsOk_1 (n0 rfl) (phi_nil)
theorem ok_slices_IndexFunc_loop_example_g00247_impl_Tomb_loop_example_g00247_impl_Tomb : FnOk Tryz.prog 115 spIdxTomb := by
  refine fn_ok (Φ := Phi_slices_IndexFunc_loop_example_g00247_impl_Tomb_loop_example_g00247_impl_Tomb) (T := T_slices_IndexFunc_loop_example_g00247_impl_Tomb_loop_example_g00247_impl_Tomb) phi_slices_IndexFunc_loop_example_g00247_impl_Tomb_loop_example_g00247_impl_Tomb mixed Tryz.func115 rfl rfl rfl (by decide) ?_
  intro ins r outs hr hl
  clear hl
  have hs := spIdxTomb_in hr
  clear hr
  obtain ⟨l, t, rfl, hc, hr, rfl⟩ := hs
  simp only [spIdxTomb, Tryz.f115, Go.VM.initS]
  simp only [go_sem]
  refine loop_go (fun i : Nat => [(8, .int .i64 (i : Int))]) (fun _ => []) (fun i => l.length - i) (fun i => i ≤ l.length ∧ ∀ j (hj : j < i) (hl : j < l.length), (fun x => x.Uid == t.Uid) l[j] = false) 0 ⟨Nat.zero_le _, fun j hj => absurd hj (by omega)⟩ rfl rfl ?_
  intro i ⟨hi, ha⟩ ih
  rcases Nat.lt_or_ge i l.length with h | h
  · have g1 : (i : Int) < l.length := by omega
    have g2 : (0 : Int) ≤ i := by omega
    have g3 : l[i]? = some l[i] := List.getElem?_eq_getElem h
    have g5 := wrap_succ h (by omega)
    cases hb : (fun x => x.Uid == t.Uid) l[i] with
    | true =>
      simp only [g1, g2, g3, g5, hb, go_sem]
      repeat' ((first | apply qa | apply qb | apply qc | apply qd | apply qe | apply qf | apply qg | apply qh | apply qi | apply qj | apply qk) <;> intro hp <;> simp only [hp, g1, g2, g3, g5, hb, go_sem])
      simp only [fin_mk, finV, resL, resV1, resIn, endA, listIn, Option.some_or, Option.none_or, oneOrTup, go_sem]
      rw [← hr]
      rw [idxL_hit h (fun j hj => ha j hj (by omega)) hb]
    | false =>
      simp only [g1, g2, g3, g5, hb, go_sem]
      repeat' ((first | apply qa | apply qb | apply qc | apply qd | apply qe | apply qf | apply qg | apply qh | apply qi | apply qj | apply qk) <;> intro hp <;> simp only [hp, g1, g2, g3, g5, hb, go_sem])
      refine ih (i + 1) ⟨h, fun j hj hl => ?_⟩ (by omega)
      rcases Nat.lt_or_ge j i with h1 | h1
      · exact ha j h1 hl
      · have : j = i := by omega
        subst this; exact hb
  · have g1 : ¬ (i : Int) < l.length := by omega
    simp only [g1, go_sem]
    simp only [fin_mk, finV, resL, resV1, resIn, endA, listIn, Option.some_or, Option.none_or, oneOrTup, go_sem]
    rw [← hr]
    rw [idxL_miss fun j hj => ha j (by omega) hj]
open Classical in
noncomputable def spHasTomb : VM.Spec := { modes := [.rd, .rd], run := fun | [.lst 2 l', .fn 101 [.rptr (t')]] => (decL Tomb.dec l').bind fun l => (Tomb.dec t').bind fun t => if l.length ≤ 4194304 then some (.bool (hasTomb l t.Uid), []) else none | _ => none, need := [] }
attribute [go_sem] spHasTomb
theorem spHasTomb_in {ins : List V} {r : V} {outs : List V} (h : spHasTomb.run ins = some (r, outs)) : ∃ (l : (List Tomb)) (t : Tomb), ins = [.lst 2 ((l).map Tomb.enc), .fn 101 [.rptr (Tomb.enc t)]] ∧ (l.length ≤ 4194304) ∧ .bool (hasTomb l t.Uid) = r ∧ outs = [] := by
  unfold spHasTomb at h
  simp only at h
  split at h
  · rename_i l' t'
    simp only [Option.bind_eq_some_iff] at h
    obtain ⟨l, h_l, t, h_t, h⟩ := h
    split at h
    case isFalse => cases h
    rename_i hc
    simp only [Option.some.injEq, Prod.mk.injEq] at h
    obtain ⟨h1, h2⟩ := h
    have h_l := decL_some (fun _ _ h => Tomb.dec_some h) h_l
    subst h_l
    have h_t := Tomb.dec_some h_t
    subst h_t
    exact ⟨l, t, rfl, hc, h1, h2.symm⟩
  · cases h
def T_slices_ContainsFunc_loop_example_g00247_impl_Tomb_loop_example_g00247_impl_Tomb : Hints := ⟨lk [], lk [], lk [(0, [0, 1]), (1, [4])], lk []⟩
noncomputable def Phi_slices_ContainsFunc_loop_example_g00247_impl_Tomb_loop_example_g00247_impl_Tomb : Tab := lk [(115, spIdxTomb)]
attribute [go_sem] T_slices_ContainsFunc_loop_example_g00247_impl_Tomb_loop_example_g00247_impl_Tomb Phi_slices_ContainsFunc_loop_example_g00247_impl_Tomb_loop_example_g00247_impl_Tomb
theorem phi_slices_ContainsFunc_loop_example_g00247_impl_Tomb_loop_example_g00247_impl_Tomb : ∀ f sp, Phi_slices_ContainsFunc_loop_example_g00247_impl_Tomb_loop_example_g00247_impl_Tomb f = some sp → FnOk Tryz.prog f sp ∧ ∀ n ∈ sp.need, n ∈ ([] : List String) := phi_cons ok_slices_IndexFunc_loop_example_g00247_impl_Tomb_loop_example_g00247_impl_Tomb (n0 rfl) (phi_nil)
theorem ok_slices_ContainsFunc_loop_example_g00247_impl_Tomb_loop_example_g00247_impl_Tomb : FnOk Tryz.prog 100 spHasTomb := by
  refine fn_ok (Φ := Phi_slices_ContainsFunc_loop_example_g00247_impl_Tomb_loop_example_g00247_impl_Tomb) (T := T_slices_ContainsFunc_loop_example_g00247_impl_Tomb_loop_example_g00247_impl_Tomb) phi_slices_ContainsFunc_loop_example_g00247_impl_Tomb_loop_example_g00247_impl_Tomb mixed Tryz.func100 rfl rfl rfl (by decide) ?_
  intro ins r outs hr hl
  clear hl
  have hs := spHasTomb_in hr
  clear hr
  obtain ⟨l, t, rfl, hc, hr, rfl⟩ := hs
  simp only [spHasTomb, Tryz.f100, Go.VM.initS]
  have e : decide ((0 : Int) ≤ idxL (fun x => x.Uid == t.Uid) l) = hasTomb l t.Uid := idxL_any _ l
  simp only [e, hc, go_sem]
  simp only [fin_mk, finV, resL, resV1, resIn, endA, listIn, Option.some_or, Option.none_or, oneOrTup, go_sem]
  rw [← hr]
def mailAtOk (b : Box) (i : Nat) : Bool := within (b.Mails.getD i default).Uid 1 (b.Next - 1) && (i == 0 || decide ((b.Mails.getD (i - 1) default).Uid < (b.Mails.getD i default).Uid)) && flagsOk (b.Mails.getD i default).Flags && within (b.Mails.getD i default).Mod 1 b.Mod && mailOk (b.Mails.getD i default).Text
def tombIn (b : Box) (i : Nat) : Bool := within (b.Tombs.getD i default).Uid 1 (b.Next - 1) && within (b.Tombs.getD i default).Mod (b.Horizon + 1) b.Mod && !hasTomb (b.Tombs.take i) (b.Tombs.getD i default).Uid && !hasMail b.Mails (b.Tombs.getD i default).Uid
def tombOrd (b : Box) (i : Nat) : Bool := i == 0 || !(decide ((b.Tombs.getD i default).Mod < (b.Tombs.getD (i - 1) default).Mod) || ((b.Tombs.getD (i - 1) default).Mod == (b.Tombs.getD i default).Mod && decide ((b.Tombs.getD i default).Uid ≤ (b.Tombs.getD (i - 1) default).Uid)))
def tombAtOk (b : Box) (i : Nat) : Bool := tombIn b i && tombOrd b i
def mailsOk (b : Box) : Bool := allN b.Mails.length (mailAtOk b) && decide (b.Mails.length ≤ 30)
def tombsOk (b : Box) : Bool := allN b.Tombs.length (tombAtOk b) && decide (b.Tombs.length ≤ 40)
def numsOk (b : Box) : Bool := within b.Valid 1 9999 && within b.Next 1 9999 && within b.Mod 1 100000 && within b.Horizon 0 b.Mod
def boxOk (b : Box) : Bool := boxName b.Name && numsOk b && mailsOk b && tombsOk b
theorem numsOk_next {b : Box} (h : numsOk b = true) : (1 ≤ b.Next ∧ b.Next ≤ 9999) ∧ (0 ≤ b.Horizon ∧ b.Horizon ≤ b.Mod ∧ b.Mod ≤ 100000) := by
  simp only [numsOk, within, Bool.and_eq_true, decide_eq_true_eq] at h
  omega
open Classical in
noncomputable def spMailsOk : VM.Spec := { modes := [.rd], run := fun | [b'] => (Box.dec b').bind fun b => if b.le 4194304 ∧ numsOk b = true then some (.bool (mailsOk b), []) else none | _ => none, need := [] }
attribute [go_sem] spMailsOk
theorem spMailsOk_in {ins : List V} {r : V} {outs : List V} (h : spMailsOk.run ins = some (r, outs)) : ∃ (b : Box), ins = [Box.enc b] ∧ (b.le 4194304 ∧ numsOk b = true) ∧ .bool (mailsOk b) = r ∧ outs = [] := by
  unfold spMailsOk at h
  simp only at h
  split at h
  · rename_i b'
    simp only [Option.bind_eq_some_iff] at h
    obtain ⟨b, h_b, h⟩ := h
    split at h
    case isFalse => cases h
    rename_i hc
    simp only [Option.some.injEq, Prod.mk.injEq] at h
    obtain ⟨h1, h2⟩ := h
    have h_b := Box.dec_some h_b
    subst h_b
    exact ⟨b, rfl, hc, h1, h2.symm⟩
  · cases h
def T_impl_mailsOk : Hints := ⟨lk [(4, [])], lk [(2, [1, 6, 7, 8])], lk [(0, [1]), (1, [1, 6, 7, 8]), (2, [1, 6, 7, 8, 9]), (3, [1, 3, 4, 6, 7, 8]), (4, [1, 6, 7, 8, 55]), (5, [2]), (6, [1, 6, 7, 8]), (7, [2])], lk []⟩
noncomputable def Phi_impl_mailsOk : Tab := lk [(83, spWithin), (98, spFlagsOk), (99, spMailOk)]
attribute [go_sem] T_impl_mailsOk Phi_impl_mailsOk
theorem phi_impl_mailsOk : ∀ f sp, Phi_impl_mailsOk f = some sp → FnOk Tryz.prog f sp ∧ ∀ n ∈ sp.need, n ∈ ([] : List String) := phi_cons ok_impl_within (n0 rfl) (phi_cons ok_impl_FlagsOk (n0 rfl) (phi_cons ok_impl_MailOk (n0 rfl) (phi_nil)))
theorem ok_impl_mailsOk : FnOk Tryz.prog 85 spMailsOk := by
  refine fn_ok (Φ := Phi_impl_mailsOk) (T := T_impl_mailsOk) phi_impl_mailsOk mixed Tryz.func85 rfl rfl rfl (by decide) ?_
  intro ins r outs hr hl
  clear hl
  have hs := spMailsOk_in hr
  clear hr
  obtain ⟨b, rfl, hc, hr, rfl⟩ := hs
  simp only [spMailsOk, Tryz.f85, Go.VM.initS]
  obtain ⟨hc, hn⟩ := hc
  have hl : b.Mails.length ≤ 4194304 := hc.2.1.1
  have hmt : ∀ m ∈ b.Mails, m.Text.length ≤ 4194304 := hc.2.1.2
  have hnn := numsOk_next hn
  have hn1 : IntKind.i64.wrap (b.Next - 1) = b.Next - 1 := wrap64 (by omega) (by omega)
  simp only [go_sem]
  refine loop_go (fun i : Nat => [(8, .int .i64 (i : Int))]) (fun _ => []) (fun i => b.Mails.length - i) (fun i => i ≤ b.Mails.length ∧ ∀ j, j < i → mailAtOk b j = true) 0 ⟨Nat.zero_le _, fun j hj => absurd hj (by omega)⟩ rfl rfl ?_
  intro i ⟨hi, ha⟩ ih
  rcases Nat.lt_or_ge i b.Mails.length with h | h
  · have g1 : (i : Int) < b.Mails.length := by omega
    have g2 : (0 : Int) ≤ i := by omega
    have g3 : b.Mails[i]? = some b.Mails[i] := List.getElem?_eq_getElem h
    have g5 := wrap_succ h (by omega)
    have gt : b.Mails[i].Text.length ≤ 4194304 := hmt _ (List.getElem_mem h)
    simp only [g1, g2, g3, go_sem]
    refine goes_valD 55 V.bool (!mailAtOk b i) rfl rfl rfl (by decide +kernel) ?_ ?_
    · intro G hG
      clear ih hr ha
      rcases Nat.eq_zero_or_pos i with h0 | h0
      · have k1 : ¬ (0 : Int) < i := by omega
        have g6 : mailAtOk b i = (within b.Mails[i].Uid 1 (b.Next - 1) && flagsOk b.Mails[i].Flags && within b.Mails[i].Mod 1 b.Mod && mailOk b.Mails[i].Text) := by
          have : (i == 0) = true := by simp [h0]
          simp only [mailAtOk, getD_lt h, this, Bool.true_or, Bool.and_true]
        simp only [g1, g2, g3, k1, hn1, gt, go_sem]
        repeat' ((first | ((first | apply qa | apply qb | apply qc | apply qd | apply qe | apply qf | apply qg | apply qh | apply qi | apply qj | apply qk) <;> intro hp) | ((first | refine ql rfl rfl (by decide +kernel) ?_ | refine qm _ rfl rfl (by decide +kernel) ?_) <;> have hp := True.intro)) <;> simp only [hp, g1, g2, g3, k1, hn1, gt, go_sem])
        all_goals ((first | refine hG _ ?_ | (simp only [*] at hG; refine hG _ ?_)); clear hG; rw [g6]; simp_all)
      · have k1 : (0 : Int) < i := by omega
        have k2 := wrap_pred h0 (by omega)
        have k3 : (0 : Int) ≤ ((i - 1 : Nat) : Int) := by omega
        have k4 : ((i - 1 : Nat) : Int) < b.Mails.length := by omega
        have k5 : b.Mails[i - 1]? = some (b.Mails[i - 1]'(by omega)) := List.getElem?_eq_getElem (by omega)
        have g6 : mailAtOk b i = (within b.Mails[i].Uid 1 (b.Next - 1) && decide ((b.Mails[i - 1]'(by omega)).Uid < b.Mails[i].Uid) && flagsOk b.Mails[i].Flags && within b.Mails[i].Mod 1 b.Mod && mailOk b.Mails[i].Text) := by
          have : (i == 0) = false := by simp; omega
          simp only [mailAtOk, getD_lt h, getD_lt (show i - 1 < b.Mails.length by omega), this, Bool.false_or]
        rcases Int.lt_or_le (b.Mails[i - 1]'(by omega)).Uid b.Mails[i].Uid with q | q
        · have q' : ¬ b.Mails[i].Uid ≤ (b.Mails[i - 1]'(by omega)).Uid := by omega
          simp only [g1, g2, g3, k1, k2, k3, k4, k5, q', hn1, gt, go_sem]
          repeat' ((first | ((first | apply qa | apply qb | apply qc | apply qd | apply qe | apply qf | apply qg | apply qh | apply qi | apply qj | apply qk) <;> intro hp) | ((first | refine ql rfl rfl (by decide +kernel) ?_ | refine qm _ rfl rfl (by decide +kernel) ?_) <;> have hp := True.intro)) <;> simp only [hp, g1, g2, g3, k1, k2, k3, k4, k5, q', hn1, gt, go_sem])
          all_goals ((first | refine hG _ ?_ | (simp only [*] at hG; refine hG _ ?_)); clear hG k2 k5; rw [g6, decide_eq_true q]; simp_all)
        · have q' : ¬ (b.Mails[i - 1]'(by omega)).Uid < b.Mails[i].Uid := by omega
          simp only [g1, g2, g3, k1, k2, k3, k4, k5, q, hn1, gt, go_sem]
          repeat' ((first | ((first | apply qa | apply qb | apply qc | apply qd | apply qe | apply qf | apply qg | apply qh | apply qi | apply qj | apply qk) <;> intro hp) | ((first | refine ql rfl rfl (by decide +kernel) ?_ | refine qm _ rfl rfl (by decide +kernel) ?_) <;> have hp := True.intro)) <;> simp only [hp, g1, g2, g3, k1, k2, k3, k4, k5, q, hn1, gt, go_sem])
          all_goals ((first | refine hG _ ?_ | (simp only [*] at hG; refine hG _ ?_)); clear hG k2 k5; rw [g6, decide_eq_false q']; simp_all)
    · simp only [g5, go_sem]
      repeat' ((first | ((first | apply qa | apply qb | apply qc | apply qd | apply qe | apply qf | apply qg | apply qh | apply qi | apply qj | apply qk) <;> intro hp) | ((first | refine ql rfl rfl (by decide +kernel) ?_ | refine qm _ rfl rfl (by decide +kernel) ?_) <;> have hp := True.intro)) <;> simp only [hp, g5, go_sem])
      · simp only [fin_mk, finV, resL, resV1, resIn, endA, listIn, Option.some_or, Option.none_or, oneOrTup, go_sem]
        rw [← hr]
        rw [mailsOk, allN_bad h hp]; rfl
      · exact ih (i + 1) ⟨h, all_succ ha hp⟩ (by omega)
  · have g1 : ¬ (i : Int) < b.Mails.length := by omega
    simp only [g1, go_sem]
    simp only [fin_mk, finV, resL, resV1, resIn, endA, listIn, Option.some_or, Option.none_or, oneOrTup, go_sem]
    rw [← hr]
    rw [mailsOk, allN_all h ha, Bool.true_and]
    congr 2
    simp
    omega
open Classical in
noncomputable def spTombsOk : VM.Spec := { modes := [.rd], run := fun | [b'] => (Box.dec b').bind fun b => if b.le 4194304 ∧ numsOk b = true then some (.bool (tombsOk b), []) else none | _ => none, need := [] }
attribute [go_sem] spTombsOk
theorem spTombsOk_in {ins : List V} {r : V} {outs : List V} (h : spTombsOk.run ins = some (r, outs)) : ∃ (b : Box), ins = [Box.enc b] ∧ (b.le 4194304 ∧ numsOk b = true) ∧ .bool (tombsOk b) = r ∧ outs = [] := by
  unfold spTombsOk at h
  simp only at h
  split at h
  · rename_i b'
    simp only [Option.bind_eq_some_iff] at h
    obtain ⟨b, h_b, h⟩ := h
    split at h
    case isFalse => cases h
    rename_i hc
    simp only [Option.some.injEq, Prod.mk.injEq] at h
    obtain ⟨h1, h2⟩ := h
    have h_b := Box.dec_some h_b
    subst h_b
    exact ⟨b, rfl, hc, h1, h2.symm⟩
  · cases h
def T_impl_tombsOk : Hints := ⟨lk [(7, []), (5, [])], lk [(2, [1, 7, 8, 9])], lk [(0, [1]), (1, [1, 7, 8, 9]), (2, [1, 7, 8, 9, 10]), (3, [1, 3, 4, 7, 8, 9]), (4, [1, 3, 4, 5, 7, 8, 9]), (5, [1, 3, 4, 7, 8, 9, 47]), (6, [2]), (7, [1, 7, 8, 9, 85]), (8, [2]), (9, [1, 7, 8, 9]), (10, [2])], lk []⟩
noncomputable def Phi_impl_tombsOk : Tab := lk [(83, spWithin), (100, spHasTomb), (102, spMailAt)]
attribute [go_sem] T_impl_tombsOk Phi_impl_tombsOk
theorem phi_impl_tombsOk : ∀ f sp, Phi_impl_tombsOk f = some sp → FnOk Tryz.prog f sp ∧ ∀ n ∈ sp.need, n ∈ ([] : List String) := phi_cons ok_impl_within (n0 rfl) (phi_cons ok_slices_ContainsFunc_loop_example_g00247_impl_Tomb_loop_example_g00247_impl_Tomb (n0 rfl) (phi_cons ok_impl_mailAt (n0 rfl) (phi_nil)))
theorem ok_impl_tombsOk : FnOk Tryz.prog 86 spTombsOk := by
  refine fn_ok (Φ := Phi_impl_tombsOk) (T := T_impl_tombsOk) phi_impl_tombsOk mixed Tryz.func86 rfl rfl rfl (by decide) ?_
  intro ins r outs hr hl
  clear hl
  have hs := spTombsOk_in hr
  clear hr
  obtain ⟨b, rfl, hc, hr, rfl⟩ := hs
  simp only [spTombsOk, Tryz.f86, Go.VM.initS]
  obtain ⟨hc, hn⟩ := hc
  have hl : b.Tombs.length ≤ 4194304 := hc.2.2.1
  have hnn := numsOk_next hn
  have hn1 : IntKind.i64.wrap (b.Next - 1) = b.Next - 1 := wrap64 (by omega) (by omega)
  have hn2 : IntKind.i64.wrap (b.Horizon + 1) = b.Horizon + 1 := wrap64 (by omega) (by omega)
  simp only [go_sem]
  refine loop_go (fun i : Nat => [(9, .int .i64 (i : Int))]) (fun _ => []) (fun i => b.Tombs.length - i) (fun i => i ≤ b.Tombs.length ∧ ∀ j, j < i → tombAtOk b j = true) 0 ⟨Nat.zero_le _, fun j hj => absurd hj (by omega)⟩ rfl rfl ?_
  intro i ⟨hi, ha⟩ ih
  rcases Nat.lt_or_ge i b.Tombs.length with h | h
  · have g1 : (i : Int) < b.Tombs.length := by omega
    have g2 : (0 : Int) ≤ i := by omega
    have g3 : b.Tombs[i]? = some b.Tombs[i] := List.getElem?_eq_getElem h
    have g4 : i ≤ b.Tombs.length := hi
    have g5 := wrap_succ h (by omega)
    have gl : (b.Tombs.take i).length ≤ 4194304 := by rw [List.length_take]; omega
    have gm : decide ((0 : Int) ≤ idxL (fun x => x.Uid == b.Tombs[i].Uid) b.Mails) = hasMail b.Mails b.Tombs[i].Uid := idxL_any _ _
    simp only [g1, g2, g3, g4, gl, Nat.zero_le, go_sem]
    refine goes_val 47 V.bool (!tombIn b i) rfl rfl ?_ ?_
    · intro G hG
      clear ih hr ha
      have g6 : tombIn b i = (within b.Tombs[i].Uid 1 (b.Next - 1) && within b.Tombs[i].Mod (b.Horizon + 1) b.Mod && !hasTomb (b.Tombs.take i) b.Tombs[i].Uid && !hasMail b.Mails b.Tombs[i].Uid) := by
        simp only [tombIn, getD_lt h]
      simp only [hn1, hn2, hc, gm, go_sem]
      repeat' ((first | ((first | apply qa | apply qb | apply qc | apply qd | apply qe | apply qf | apply qg | apply qh | apply qi | apply qj | apply qk) <;> intro hp) | ((first | refine ql rfl rfl (by decide +kernel) ?_ | refine qm _ rfl rfl (by decide +kernel) ?_) <;> have hp := True.intro)) <;> simp only [hp, hn1, hn2, hc, gm, go_sem])
      all_goals ((first | refine hG _ ?_ | (simp only [*] at hG; refine hG _ ?_)); clear hG; rw [g6]; simp_all)
    simp only [go_sem]
    refine condG_not.2 ⟨fun hq => ?_, fun hq => ?_⟩
    · simp only [go_sem]
      simp only [fin_mk, finV, resL, resV1, resIn, endA, listIn, Option.some_or, Option.none_or, oneOrTup, go_sem]
      rw [← hr]
      rw [tombsOk, allN_bad h (by rw [tombAtOk, hq]; rfl)]; rfl
    simp only [go_sem]
    refine goes_valD 85 V.bool (!tombOrd b i) rfl rfl rfl (by decide +kernel) ?_ ?_
    · intro G hG
      clear ih hr ha
      rcases Nat.eq_zero_or_pos i with h0 | h0
      · have k1 : ¬ (0 : Int) < i := by omega
        have g6 : tombOrd b i = true := by
          have : (i == 0) = true := by simp [h0]
          simp only [tombOrd, this, Bool.true_or]
        simp only [g1, g2, g3, k1, go_sem]
        repeat' ((first | ((first | apply qa | apply qb | apply qc | apply qd | apply qe | apply qf | apply qg | apply qh | apply qi | apply qj | apply qk) <;> intro hp) | ((first | refine ql rfl rfl (by decide +kernel) ?_ | refine qm _ rfl rfl (by decide +kernel) ?_) <;> have hp := True.intro)) <;> simp only [hp, g1, g2, g3, k1, go_sem])
        all_goals (refine hG _ ?_; rw [g6]; rfl)
      · have k1 : (0 : Int) < i := by omega
        have k2 := wrap_pred h0 (by omega)
        have k3 : (0 : Int) ≤ ((i - 1 : Nat) : Int) := by omega
        have k4 : ((i - 1 : Nat) : Int) < b.Tombs.length := by omega
        have k5 : b.Tombs[i - 1]? = some (b.Tombs[i - 1]'(by omega)) := List.getElem?_eq_getElem (by omega)
        have g6 : tombOrd b i = !(decide (b.Tombs[i].Mod < (b.Tombs[i - 1]'(by omega)).Mod) || ((b.Tombs[i - 1]'(by omega)).Mod == b.Tombs[i].Mod && decide (b.Tombs[i].Uid ≤ (b.Tombs[i - 1]'(by omega)).Uid))) := by
          have : (i == 0) = false := by simp; omega
          simp only [tombOrd, getD_lt h, getD_lt (show i - 1 < b.Tombs.length by omega), this, Bool.false_or]
        simp only [g1, g2, g3, k1, k2, k3, k4, k5, go_sem]
        repeat' ((first | ((first | apply qa | apply qb | apply qc | apply qd | apply qe | apply qf | apply qg | apply qh | apply qi | apply qj | apply qk) <;> intro hp) | ((first | refine ql rfl rfl (by decide +kernel) ?_ | refine qm _ rfl rfl (by decide +kernel) ?_) <;> have hp := True.intro)) <;> simp only [hp, g1, g2, g3, k1, k2, k3, k4, k5, go_sem])
        all_goals ((first | refine hG _ ?_ | (simp only [*] at hG; refine hG _ ?_)); clear hG k2 k5; rw [g6]; simp_all)
    · simp only [g5, go_sem]
      repeat' ((first | ((first | apply qa | apply qb | apply qc | apply qd | apply qe | apply qf | apply qg | apply qh | apply qi | apply qj | apply qk) <;> intro hp) | ((first | refine ql rfl rfl (by decide +kernel) ?_ | refine qm _ rfl rfl (by decide +kernel) ?_) <;> have hp := True.intro)) <;> simp only [hp, g5, go_sem])
      · simp only [fin_mk, finV, resL, resV1, resIn, endA, listIn, Option.some_or, Option.none_or, oneOrTup, go_sem]
        rw [← hr]
        rw [tombsOk, allN_bad h (by rw [tombAtOk, hq, hp]; rfl)]; rfl
      · exact ih (i + 1) ⟨h, all_succ ha (by rw [tombAtOk, hq, hp]; rfl)⟩ (by omega)
  · have g1 : ¬ (i : Int) < b.Tombs.length := by omega
    simp only [g1, go_sem]
    simp only [fin_mk, finV, resL, resV1, resIn, endA, listIn, Option.some_or, Option.none_or, oneOrTup, go_sem]
    rw [← hr]
    rw [tombsOk, allN_all h ha, Bool.true_and]
    congr 2
    simp
    omega
open Classical in
noncomputable def spBoxOk : VM.Spec := { modes := [.rd], run := fun | [b'] => (Box.dec b').bind fun b => if b.le 4194304 then some (.bool (boxOk b), []) else none | _ => none, need := [] }
attribute [go_sem] spBoxOk
theorem spBoxOk_in {ins : List V} {r : V} {outs : List V} (h : spBoxOk.run ins = some (r, outs)) : ∃ (b : Box), ins = [Box.enc b] ∧ (b.le 4194304) ∧ .bool (boxOk b) = r ∧ outs = [] := by
  unfold spBoxOk at h
  simp only at h
  split at h
  · rename_i b'
    simp only [Option.bind_eq_some_iff] at h
    obtain ⟨b, h_b, h⟩ := h
    split at h
    case isFalse => cases h
    rename_i hc
    simp only [Option.some.injEq, Prod.mk.injEq] at h
    obtain ⟨h1, h2⟩ := h
    have h_b := Box.dec_some h_b
    subst h_b
    exact ⟨b, rfl, hc, h1, h2.symm⟩
  · cases h
def T_impl_BoxOk : Hints := ⟨lk [(1, [])], lk [], lk [(0, [1]), (1, [1, 3]), (2, [2])], lk []⟩
noncomputable def Phi_impl_BoxOk : Tab := lk [(82, spUid), (83, spWithin), (84, spBoxName), (85, spMailsOk), (86, spTombsOk)]
attribute [go_sem] T_impl_BoxOk Phi_impl_BoxOk
theorem phi_impl_BoxOk : ∀ f sp, Phi_impl_BoxOk f = some sp → FnOk Tryz.prog f sp ∧ ∀ n ∈ sp.need, n ∈ ([] : List String) := phi_cons ok_impl_isUid (n0 rfl) (phi_cons ok_impl_within (n0 rfl) (phi_cons ok_impl_BoxName (n0 rfl) (phi_cons ok_impl_mailsOk (n0 rfl) (phi_cons ok_impl_tombsOk (n0 rfl) (phi_nil)))))
theorem ok_impl_BoxOk : FnOk Tryz.prog 59 spBoxOk := by
  refine fn_ok (Φ := Phi_impl_BoxOk) (T := T_impl_BoxOk) phi_impl_BoxOk mixed Tryz.func59 rfl rfl rfl (by decide) ?_
  intro ins r outs hr hl
  clear hl
  have hs := spBoxOk_in hr
  clear hr
  obtain ⟨b, rfl, hc, hr, rfl⟩ := hs
  simp only [spBoxOk, Tryz.f59, Go.VM.initS]
  have hb : b.Name.length ≤ 1099511627776 := Nat.le_trans hc.1 (by decide)
  simp only [go_sem]
  refine goes_val 3 V.bool (numsOk b) rfl rfl ?_ ?_
  · intro G hG
    simp only [go_sem]
    repeat' ((first | apply qa | apply qb | apply qc | apply qd | apply qe | apply qf | apply qg | apply qh | apply qi | apply qj | apply qk) <;> intro hp <;> simp only [hp, go_sem])
    all_goals ((first | refine hG _ ?_ | (simp only [*] at hG; refine hG _ ?_)); clear hG; simp_all [numsOk])
  cases hn : numsOk b with
  | false =>
    simp only [hb, hn, go_sem]
    repeat' ((first | apply qa | apply qb | apply qc | apply qd | apply qe | apply qf | apply qg | apply qh | apply qi | apply qj | apply qk) <;> intro hp <;> simp only [hp, hb, hn, go_sem])
    all_goals (simp only [fin_mk, finV, resL, resV1, resIn, endA, listIn, Option.some_or, Option.none_or, oneOrTup, go_sem]; rw [← hr])
    all_goals simp [boxOk, hn]
  | true =>
    simp only [hb, hn, hc, and_self, go_sem]
    repeat' ((first | apply qa | apply qb | apply qc | apply qd | apply qe | apply qf | apply qg | apply qh | apply qi | apply qj | apply qk) <;> intro hp <;> simp only [hp, hb, hn, hc, and_self, go_sem])
    all_goals (simp only [fin_mk, finV, resL, resV1, resIn, endA, listIn, Option.some_or, Option.none_or, oneOrTup, go_sem]; rw [← hr])
    all_goals simp_all [boxOk]
def T_spec_BoxOk : Hints := ⟨lk [(7, []), (18, []), (20, []), (1, []), (13, [])], lk [(4, [1, 3]), (10, [1, 5]), (16, [1, 5, 6, 7])], lk [(0, [1]), (1, [1, 49]), (2, [2]), (3, [1, 3]), (4, [1, 3, 54]), (6, [1, 3, 4]), (7, [1, 3, 104]), (8, [2]), (5, [1, 3]), (9, [1, 5]), (10, [1, 5, 109]), (12, [1, 5, 6]), (13, [1, 5, 6, 143]), (14, [2]), (15, [1, 5, 6, 7]), (16, [1, 5, 6, 7, 146]), (18, [1, 5, 6, 7, 157]), (19, [2]), (17, [1, 5, 6, 7]), (20, [1, 5, 195]), (21, [2]), (11, [1, 5]), (22, [2])], lk []⟩
noncomputable def Phi_spec_BoxOk : Tab := lk [(51, spWithin), (50, spBoxName), (52, spFlagsOk), (53, spMailOk), (54, spHasMail)]
attribute [go_sem] T_spec_BoxOk Phi_spec_BoxOk
theorem phi_spec_BoxOk : ∀ f sp, Phi_spec_BoxOk f = some sp → FnOk Tryz.prog f sp ∧ ∀ n ∈ sp.need, n ∈ ([] : List String) := phi_cons ok_spec_l01In (n0 rfl) (phi_cons ok_spec_BoxName (n0 rfl) (phi_cons ok_spec_FlagsOk (n0 rfl) (phi_cons ok_spec_MailOk (n0 rfl) (phi_cons ok_spec_l08HasMail (n0 rfl) (phi_nil)))))
theorem ok_spec_BoxOk : FnOk Tryz.prog 28 spBoxOk := by
  refine fn_ok (Φ := Phi_spec_BoxOk) (T := T_spec_BoxOk) phi_spec_BoxOk mixed Tryz.func28 rfl rfl rfl (by decide) ?_
  intro ins r outs hr hl
  clear hl
  have hs := spBoxOk_in hr
  clear hr
  obtain ⟨b, rfl, hc, hr, rfl⟩ := hs
  simp only [spBoxOk, Tryz.f28, Go.VM.initS]
  have hb : b.Name.length ≤ 1099511627776 := Nat.le_trans hc.1 (by decide)
  have hl : b.Mails.length ≤ 4194304 := hc.2.1.1
  have hlt : b.Tombs.length ≤ 4194304 := hc.2.2.1
  have hmt : ∀ m ∈ b.Mails, m.Text.length ≤ 4194304 := hc.2.1.2
  have l1 : decide ((30 : Int) < b.Mails.length) = !decide (b.Mails.length ≤ 30) := by
    rcases Nat.lt_or_ge 30 b.Mails.length with h | h
    · simp [show ¬ b.Mails.length ≤ 30 by omega]; omega
    · simp [h]; omega
  have l2 : decide ((40 : Int) < b.Tombs.length) = !decide (b.Tombs.length ≤ 40) := by
    rcases Nat.lt_or_ge 40 b.Tombs.length with h | h
    · simp [show ¬ b.Tombs.length ≤ 40 by omega]; omega
    · simp [h]; omega
  simp only [go_sem]
  refine goes_val 49 V.bool (!(boxName b.Name && numsOk b && decide (b.Mails.length ≤ 30) && decide (b.Tombs.length ≤ 40))) rfl rfl ?_ ?_
  · intro G hG
    simp only [hb, l1, l2, go_sem]
    repeat' ((first | ((first | apply qa | apply qb | apply qc | apply qd | apply qe | apply qf | apply qg | apply qh | apply qi | apply qj | apply qk) <;> intro hp) | ((first | refine ql rfl rfl (by decide +kernel) ?_ | refine qm _ rfl rfl (by decide +kernel) ?_) <;> have hp := True.intro)) <;> simp only [hp, hb, l1, l2, go_sem])
    all_goals ((first | refine hG _ ?_ | (simp only [*] at hG; refine hG _ ?_)); clear hG; simp_all [numsOk])
  simp only [go_sem]
  refine condG_not.2 ⟨fun hq => ?_, fun hq => ?_⟩
  · simp only [go_sem]
    simp only [fin_mk, finV, resL, resV1, resIn, endA, listIn, Option.some_or, Option.none_or, oneOrTup, go_sem]
    rw [← hr]
    congr 3
    symm
    rw [Bool.eq_false_iff]
    intro hx
    simp only [boxOk, mailsOk, tombsOk, Bool.and_eq_true] at hx
    simp only [hx, Bool.and_self, Bool.true_eq_false] at hq
  simp only [Bool.and_eq_true] at hq
  obtain ⟨⟨⟨q1, q2⟩, q3⟩, q4⟩ := hq
  have hnn := numsOk_next q2
  have hn1 : IntKind.i64.wrap (b.Next - 1) = b.Next - 1 := wrap64 (by omega) (by omega)
  have hm : mailsOk b = allN b.Mails.length (mailAtOk b) := by rw [mailsOk, q3, Bool.and_true]
  have ht : tombsOk b = allN b.Tombs.length (tombAtOk b) := by rw [tombsOk, q4, Bool.and_true]
  clear l1 l2
  simp only [go_sem]
  refine loop_go (fun i : Nat => [(3, .int .i64 (i : Int))]) (fun _ => []) (fun i => b.Mails.length - i) (fun i => i ≤ b.Mails.length ∧ ∀ j, j < i → mailAtOk b j = true) 0 ⟨Nat.zero_le _, fun j hj => absurd hj (by omega)⟩ rfl rfl ?_
  intro i ⟨hi, ha⟩ ih
  rcases Nat.lt_or_ge i b.Mails.length with h | h
  · have g1 : (i : Int) < b.Mails.length := by omega
    have g2 : (0 : Int) ≤ i := by omega
    have g3 : b.Mails[i]? = some b.Mails[i] := List.getElem?_eq_getElem h
    have g5 := wrap_succ h (by omega)
    have gt : b.Mails[i].Text.length ≤ 4194304 := hmt _ (List.getElem_mem h)
    simp only [g1, g2, g3, go_sem]
    refine goes_valD 104 V.bool (!mailAtOk b i) rfl rfl rfl (by decide +kernel) ?_ ?_
    · intro G hG
      clear ih hr ha
      rcases Nat.eq_zero_or_pos i with h0 | h0
      · have k1 : ¬ (0 : Int) < i := by omega
        have g6 : mailAtOk b i = (within b.Mails[i].Uid 1 (b.Next - 1) && flagsOk b.Mails[i].Flags && within b.Mails[i].Mod 1 b.Mod && mailOk b.Mails[i].Text) := by
          have : (i == 0) = true := by simp [h0]
          simp only [mailAtOk, getD_lt h, this, Bool.true_or, Bool.and_true]
        simp only [g1, g2, g3, k1, hn1, gt, go_sem]
        repeat' ((first | ((first | apply qa | apply qb | apply qc | apply qd | apply qe | apply qf | apply qg | apply qh | apply qi | apply qj | apply qk) <;> intro hp) | ((first | refine ql rfl rfl (by decide +kernel) ?_ | refine qm _ rfl rfl (by decide +kernel) ?_) <;> have hp := True.intro)) <;> simp only [hp, g1, g2, g3, k1, hn1, gt, go_sem])
        all_goals ((first | refine hG _ ?_ | (simp only [*] at hG; refine hG _ ?_)); clear hG; rw [g6]; simp_all)
      · have k1 : (0 : Int) < i := by omega
        have k2 := wrap_pred h0 (by omega)
        have k3 : (0 : Int) ≤ ((i - 1 : Nat) : Int) := by omega
        have k4 : ((i - 1 : Nat) : Int) < b.Mails.length := by omega
        have k5 : b.Mails[i - 1]? = some (b.Mails[i - 1]'(by omega)) := List.getElem?_eq_getElem (by omega)
        have g6 : mailAtOk b i = (within b.Mails[i].Uid 1 (b.Next - 1) && decide ((b.Mails[i - 1]'(by omega)).Uid < b.Mails[i].Uid) && flagsOk b.Mails[i].Flags && within b.Mails[i].Mod 1 b.Mod && mailOk b.Mails[i].Text) := by
          have : (i == 0) = false := by simp; omega
          simp only [mailAtOk, getD_lt h, getD_lt (show i - 1 < b.Mails.length by omega), this, Bool.false_or]
        rcases Int.lt_or_le (b.Mails[i - 1]'(by omega)).Uid b.Mails[i].Uid with q | q
        · have q' : ¬ b.Mails[i].Uid ≤ (b.Mails[i - 1]'(by omega)).Uid := by omega
          simp only [g1, g2, g3, k1, k2, k3, k4, k5, q', hn1, gt, go_sem]
          repeat' ((first | ((first | apply qa | apply qb | apply qc | apply qd | apply qe | apply qf | apply qg | apply qh | apply qi | apply qj | apply qk) <;> intro hp) | ((first | refine ql rfl rfl (by decide +kernel) ?_ | refine qm _ rfl rfl (by decide +kernel) ?_) <;> have hp := True.intro)) <;> simp only [hp, g1, g2, g3, k1, k2, k3, k4, k5, q', hn1, gt, go_sem])
          all_goals ((first | refine hG _ ?_ | (simp only [*] at hG; refine hG _ ?_)); clear hG k2 k5; rw [g6, decide_eq_true q]; simp_all)
        · have q' : ¬ (b.Mails[i - 1]'(by omega)).Uid < b.Mails[i].Uid := by omega
          simp only [g1, g2, g3, k1, k2, k3, k4, k5, q, hn1, gt, go_sem]
          repeat' ((first | ((first | apply qa | apply qb | apply qc | apply qd | apply qe | apply qf | apply qg | apply qh | apply qi | apply qj | apply qk) <;> intro hp) | ((first | refine ql rfl rfl (by decide +kernel) ?_ | refine qm _ rfl rfl (by decide +kernel) ?_) <;> have hp := True.intro)) <;> simp only [hp, g1, g2, g3, k1, k2, k3, k4, k5, q, hn1, gt, go_sem])
          all_goals ((first | refine hG _ ?_ | (simp only [*] at hG; refine hG _ ?_)); clear hG k2 k5; rw [g6, decide_eq_false q']; simp_all)
    · simp only [g5, go_sem]
      repeat' ((first | ((first | apply qa | apply qb | apply qc | apply qd | apply qe | apply qf | apply qg | apply qh | apply qi | apply qj | apply qk) <;> intro hp) | ((first | refine ql rfl rfl (by decide +kernel) ?_ | refine qm _ rfl rfl (by decide +kernel) ?_) <;> have hp := True.intro)) <;> simp only [hp, g5, go_sem])
      · simp only [fin_mk, finV, resL, resV1, resIn, endA, listIn, Option.some_or, Option.none_or, oneOrTup, go_sem]
        rw [← hr]
        rw [boxOk, hm, allN_bad h hp, Bool.and_false]; rfl
      · exact ih (i + 1) ⟨h, all_succ ha hp⟩ (by omega)
  have hm1 : mailsOk b = true := by rw [hm, allN_all h ha]
  clear ih
  have g1 : ¬ (i : Int) < b.Mails.length := by omega
  simp only [g1, go_sem]
  refine loop_go (fun i : Nat => [(5, .int .i64 (i : Int))]) (fun _ => []) (fun i => b.Tombs.length - i) (fun i => i ≤ b.Tombs.length ∧ ∀ j, j < i → tombAtOk b j = true) 0 ⟨Nat.zero_le _, fun j hj => absurd hj (by omega)⟩ rfl rfl ?_
  clear g1 ha hi h i
  intro i ⟨hi, ha⟩ ih
  rcases Nat.lt_or_ge i b.Tombs.length with h | h
  case inr =>
    have g1 : ¬ (i : Int) < b.Tombs.length := by omega
    simp only [g1, go_sem]
    simp only [fin_mk, finV, resL, resV1, resIn, endA, listIn, Option.some_or, Option.none_or, oneOrTup, go_sem]
    rw [← hr]
    rw [boxOk, q1, q2, hm1, ht, allN_all h ha]; rfl
  have g1 : (i : Int) < b.Tombs.length := by omega
  have g2 : (0 : Int) ≤ i := by omega
  have g3 : b.Tombs[i]? = some b.Tombs[i] := List.getElem?_eq_getElem h
  have g5 := wrap_succ h (by omega)
  have hbad : tombAtOk b i = false → V.bool false = r := fun hx => by
    rw [← hr, boxOk, ht, allN_bad h hx, Bool.and_false]
  simp only [g1, g2, g3, go_sem]
  have e1 : decide (b.Tombs[i].Mod ≤ b.Horizon) = !decide (b.Horizon < b.Tombs[i].Mod) := by
    rcases Int.lt_or_le b.Horizon b.Tombs[i].Mod with p | p
    · simp [p]
    · simp [p]
  have e2 : decide (b.Mod < b.Tombs[i].Mod) = !decide (b.Tombs[i].Mod ≤ b.Mod) := by
    rcases Int.lt_or_le b.Mod b.Tombs[i].Mod with p | p
    · simp [p]
    · simp [p]
  have ew : within b.Tombs[i].Mod (b.Horizon + 1) b.Mod = (decide (b.Horizon < b.Tombs[i].Mod) && decide (b.Tombs[i].Mod ≤ b.Mod)) := by
    simp only [within, Int.add_one_le_iff]
  refine goes_val 143 V.bool (!(within b.Tombs[i].Uid 1 (b.Next - 1) && decide (b.Horizon < b.Tombs[i].Mod) && decide (b.Tombs[i].Mod ≤ b.Mod) && !hasMail b.Mails b.Tombs[i].Uid)) rfl rfl ?_ ?_
  · intro G hG
    clear ih hr ha hbad ew
    simp only [hn1, hc, e1, e2, go_sem]
    repeat' ((first | ((first | apply qa | apply qb | apply qc | apply qd | apply qe | apply qf | apply qg | apply qh | apply qi | apply qj | apply qk) <;> intro hp) | ((first | refine ql rfl rfl (by decide +kernel) ?_ | refine qm _ rfl rfl (by decide +kernel) ?_) <;> have hp := True.intro)) <;> simp only [hp, hn1, hc, e1, e2, go_sem])
    all_goals ((first | refine hG _ ?_ | (simp only [*] at hG; refine hG _ ?_)); clear hG e1 e2; simp_all)
  clear e1 e2
  simp only [go_sem]
  refine condG_not.2 ⟨fun hq => ?_, fun hq => ?_⟩
  · simp only [go_sem]
    simp only [fin_mk, finV, resL, resV1, resIn, endA, listIn, Option.some_or, Option.none_or, oneOrTup, go_sem]
    rw [hbad ?_]
    simp only [tombAtOk, tombIn, getD_lt h, ew, Bool.and_eq_false_iff] at hq ⊢
    rcases hq with ((hq | hq) | hq) | hq <;> simp only [hq, true_or, or_true]
  simp only [Bool.and_eq_true] at hq
  obtain ⟨⟨⟨t1, t2⟩, t3⟩, t4⟩ := hq
  simp only [go_sem]
  refine loop_go (fun k : Nat => [(7, .int .i64 (k : Int))]) (fun _ => []) (fun k => i - k) (fun k => k ≤ i ∧ (b.Tombs.take k).any (fun x => x.Uid == b.Tombs[i].Uid) = false) 0 ⟨Nat.zero_le _, by simp⟩ rfl rfl ?_
  intro k ⟨hki, hka⟩ ihk
  rcases Nat.lt_or_ge k i with hk | hk
  · have m1 : (k : Int) < i := by omega
    have m2 : (0 : Int) ≤ k := by omega
    have m3 : b.Tombs[k]? = some (b.Tombs[k]'(by omega)) := List.getElem?_eq_getElem (by omega)
    have m4 : (k : Int) < b.Tombs.length := by omega
    have m5 := wrap_succ hk (by omega)
    cases hv : ((b.Tombs[k]'(by omega)).Uid == b.Tombs[i].Uid) with
    | true =>
      clear ih ihk
      simp only [m1, m2, m3, m4, m5, hv, go_sem]
      repeat' ((first | ((first | apply qa | apply qb | apply qc | apply qd | apply qe | apply qf | apply qg | apply qh | apply qi | apply qj | apply qk) <;> intro hp) | ((first | refine ql rfl rfl (by decide +kernel) ?_ | refine qm _ rfl rfl (by decide +kernel) ?_) <;> have hp := True.intro)) <;> simp only [hp, m1, m2, m3, m4, m5, hv, go_sem])
      simp only [fin_mk, finV, resL, resV1, resIn, endA, listIn, Option.some_or, Option.none_or, oneOrTup, go_sem]
      rw [hbad ?_]
      have hx : (b.Tombs.take i).any (fun x => x.Uid == b.Tombs[i].Uid) = true :=
        any_bad (i := k) (by rw [List.length_take]; omega) (by rw [List.getElem_take]; exact hv)
      simp only [tombAtOk, tombIn, getD_lt h, hasTomb, hx, Bool.not_true, Bool.and_false, Bool.false_and]
    | false =>
      simp only [m1, m2, m3, m4, m5, hv, go_sem]
      repeat' ((first | ((first | apply qa | apply qb | apply qc | apply qd | apply qe | apply qf | apply qg | apply qh | apply qi | apply qj | apply qk) <;> intro hp) | ((first | refine ql rfl rfl (by decide +kernel) ?_ | refine qm _ rfl rfl (by decide +kernel) ?_) <;> have hp := True.intro)) <;> simp only [hp, m1, m2, m3, m4, m5, hv, go_sem])
      exact ihk (k + 1) ⟨hk, any_take_succ (by omega) hka hv⟩ (by omega)
  have hke : k = i := by omega
  subst hke
  clear ihk
  have tk : tombIn b k = true := by
    simp only [tombIn, getD_lt h, ew, hasTomb, hka, t1, t2, t3, t4, Bool.not_false, Bool.and_self]
  have m1 : ¬ (k : Int) < k := by omega
  simp only [m1, go_sem]
  refine goes_valD 195 V.bool (!tombOrd b k) rfl rfl rfl (by decide +kernel) ?_ ?_
  · intro G hG
    clear ih hr ha hbad
    rcases Nat.eq_zero_or_pos k with h0 | h0
    · have k1 : ¬ (0 : Int) < k := by omega
      have g6 : tombOrd b k = true := by
        have : (k == 0) = true := by simp [h0]
        simp only [tombOrd, this, Bool.true_or]
      simp only [g1, g2, g3, k1, go_sem]
      repeat' ((first | ((first | apply qa | apply qb | apply qc | apply qd | apply qe | apply qf | apply qg | apply qh | apply qi | apply qj | apply qk) <;> intro hp) | ((first | refine ql rfl rfl (by decide +kernel) ?_ | refine qm _ rfl rfl (by decide +kernel) ?_) <;> have hp := True.intro)) <;> simp only [hp, g1, g2, g3, k1, go_sem])
      all_goals (refine hG _ ?_; rw [g6]; rfl)
    · have k1 : (0 : Int) < k := by omega
      have k2 := wrap_pred h0 (by omega)
      have k3 : (0 : Int) ≤ ((k - 1 : Nat) : Int) := by omega
      have k4 : ((k - 1 : Nat) : Int) < b.Tombs.length := by omega
      have k5 : b.Tombs[k - 1]? = some (b.Tombs[k - 1]'(by omega)) := List.getElem?_eq_getElem (by omega)
      have g6 : tombOrd b k = !(decide (b.Tombs[k].Mod < (b.Tombs[k - 1]'(by omega)).Mod) || ((b.Tombs[k - 1]'(by omega)).Mod == b.Tombs[k].Mod && decide (b.Tombs[k].Uid ≤ (b.Tombs[k - 1]'(by omega)).Uid))) := by
        have : (k == 0) = false := by simp; omega
        simp only [tombOrd, getD_lt h, getD_lt (show k - 1 < b.Tombs.length by omega), this, Bool.false_or]
      simp only [g1, g2, g3, k1, k2, k3, k4, k5, go_sem]
      repeat' ((first | ((first | apply qa | apply qb | apply qc | apply qd | apply qe | apply qf | apply qg | apply qh | apply qi | apply qj | apply qk) <;> intro hp) | ((first | refine ql rfl rfl (by decide +kernel) ?_ | refine qm _ rfl rfl (by decide +kernel) ?_) <;> have hp := True.intro)) <;> simp only [hp, g1, g2, g3, k1, k2, k3, k4, k5, go_sem])
      all_goals ((first | refine hG _ ?_ | (simp only [*] at hG; refine hG _ ?_)); clear hG k2 k5; rw [g6]; simp_all)

  simp only [g5, go_sem]

  repeat' ((first | ((first | apply qa | apply qb | apply qc | apply qd | apply qe | apply qf | apply qg | apply qh | apply qi | apply qj | apply qk) <;> intro hp) | ((first | refine ql rfl rfl (by decide +kernel) ?_ | refine qm _ rfl rfl (by decide +kernel) ?_) <;> have hp := True.intro)) <;> simp only [hp, g5, go_sem])
  · simp only [fin_mk, finV, resL, resV1, resIn, endA, listIn, Option.some_or, Option.none_or, oneOrTup, go_sem]
    rw [hbad (by rw [tombAtOk, tk, hp]; rfl)]
  · exact ih (k + 1) ⟨h, all_succ ha (by rw [tombAtOk, tk, hp]; rfl)⟩ (by omega)
end Go.Proofs.YtghmjnggmacohaaGreatDoor.L

namespace Go.Proofs.YtghmjnggmacohaaGreatDoor.L
open Go Go.VM
set_option maxRecDepth 100000
set_option maxHeartbeats 4000000
set_option linter.unusedSimpArgs false
set_option linter.unusedVariables false
open Classical in
noncomputable def spCopyBox : VM.Spec := { modes := [.rd], run := fun | [b'] => (Box.dec b').bind fun b => if b.le 4194304 then some (Box.enc b, []) else none | _ => none, need := [] }
attribute [go_sem] spCopyBox
def boxFresh (name : List UInt8) (valid : Int) : Box := ⟨name, valid, 1, 1, [], [], 0⟩
def boxZero : Box := ⟨[], 0, 0, 0, [], [], 0⟩
def boxNew (name : List UInt8) (valid : Int) : Box := if boxOk (boxFresh name valid) = true then boxFresh name valid else boxZero
open Classical in
noncomputable def spBoxNew : VM.Spec := { modes := [.rd, .rd], run := fun | [.str name, .int .i64 valid] => if name.length ≤ 4194304 then some (.tup [Box.enc (boxNew name valid), .bool (boxOk (boxFresh name valid))], []) else none | _ => none, need := [] }
attribute [go_sem] spBoxNew
theorem boxOk_parts {b : Box} (h : boxOk b = true) : numsOk b = true ∧ b.Mails.length ≤ 30 ∧ b.Tombs.length ≤ 40 ∧ b.Name.length ≤ 8 ∧ ∀ m ∈ b.Mails, m.Text.length ≤ 200 := by
  simp only [boxOk, mailsOk, tombsOk, boxName, Bool.and_eq_true, decide_eq_true_eq] at h
  obtain ⟨⟨⟨⟨_, hn⟩, h1⟩, hm, h2⟩, _, h3⟩ := h
  refine ⟨h1, h2, h3, ?_, fun m hm' => ?_⟩
  · simp only [within, Bool.and_eq_true, decide_eq_true_eq] at hn; omega
  · obtain ⟨i, hi, rfl⟩ := List.mem_iff_getElem.1 hm'
    have := allN_get hm hi
    simp only [mailAtOk, getD_lt hi, Bool.and_eq_true, mailOk, within, decide_eq_true_eq] at this
    omega
def addOut (b : Box) (flags : Int) (text : List UInt8) : Box := ⟨b.Name, b.Valid, b.Next + 1, b.Mod + 1, b.Mails ++ [⟨b.Next, flags, b.Mod + 1, text⟩], b.Tombs, b.Horizon⟩
def addGood (b : Box) (flags : Int) (text : List UInt8) : Bool := boxOk b && boxOk (addOut b flags text)
def addMail (b : Box) (flags : Int) (text : List UInt8) : Box := if addGood b flags text = true then addOut b flags text else b
def addUid (b : Box) (flags : Int) (text : List UInt8) : Int := if addGood b flags text = true then b.Next else 0
open Classical in
noncomputable def spAddMail : VM.Spec := { modes := [.rd, .rd, .rd], run := fun | [b', .int .i64 flags, .str text] => (Box.dec b').bind fun b => if b.le 4194304 ∧ text.length ≤ 4194304 then some (.tup [Box.enc (addMail b flags text), .int .i64 (addUid b flags text)], []) else none | _ => none, need := [] }
attribute [go_sem] spAddMail
def changed (b : Box) (since : Int) : List Mail := b.Mails.filter fun m => decide (since < m.Mod)
theorem filter_succ {α : Type} {l : List α} {p : α → Bool} {i : Nat} (h : i < l.length) : (l.take (i + 1)).filter p = (l.take i).filter p ++ (if p l[i] = true then [l[i]] else []) := by
  rw [take_succ' h, List.filter_append]
  congr 1
  cases hp : p l[i] <;> simp [hp]
open Classical in
noncomputable def spChanged : VM.Spec := { modes := [.rd, .rd], run := fun | [b', .int .i64 since] => (Box.dec b').bind fun b => if b.le 4194304 then some (.lst 4 ((changed b since).map Mail.enc), []) else none | _ => none, need := [] }
attribute [go_sem] spChanged
def uidsOf (b : Box) : List Int := b.Mails.map (·.Uid)
def viewOf (b : Box) : View := ⟨b.Name, b.Valid, uidsOf b, b.Mod⟩
open Classical in
noncomputable def spUidsOf : VM.Spec := { modes := [.rd], run := fun | [b'] => (Box.dec b').bind fun b => if b.le 4194304 then some (.lst 1 ((uidsOf b).map eInt), []) else none | _ => none, need := [] }
attribute [go_sem] spUidsOf
open Classical in
noncomputable def spViewOf : VM.Spec := { modes := [.rd], run := fun | [b'] => (Box.dec b').bind fun b => if b.le 4194304 then some (View.enc (viewOf b), []) else none | _ => none, need := [] }
attribute [go_sem] spViewOf
end Go.Proofs.YtghmjnggmacohaaGreatDoor.L

namespace Go.Proofs.YtghmjnggmacohaaGreatDoor.L
open Go Go.VM
set_option maxRecDepth 100000
set_option maxHeartbeats 4000000
set_option linter.unusedSimpArgs false
set_option linter.unusedVariables false
def flagsAfter (o h n : Int) : Int := if (flagsOk o && flagsOk n) = true then (if h = 1 then n else if h = 2 then o + n - andN o n else if h = 3 then o - andN o n else o) else o
open Classical in
noncomputable def spFlagsAfter : VM.Spec := { modes := [.rd, .rd, .rd], run := fun | [.int .i64 o, .int .i64 h, .int .i64 n] => some (.int .i64 (flagsAfter o h n), []) | _ => none, need := [] }
attribute [go_sem] spFlagsAfter
open Classical in
noncomputable def spSetOfList : VM.Spec := { modes := [.rd], run := fun | [.lst 1 l'] => (decL dInt l').bind fun l => if l.length ≤ 4194304 ∧ l.all (fun x => within x 1 9999) = true then some (.tup [.lst 2 ((scan l).map Range.enc), .bool (setOk (scan l))], []) else none | _ => none, need := [] }
attribute [go_sem] spSetOfList
end Go.Proofs.YtghmjnggmacohaaGreatDoor.L

namespace Go.Proofs.YtghmjnggmacohaaGreatDoor.L
open Go Go.VM
set_option maxRecDepth 100000
set_option maxHeartbeats 4000000
set_option linter.unusedSimpArgs false
set_option linter.unusedVariables false
theorem asc_of_adj : ∀ {l : List Int}, (∀ i, (h : i + 1 < l.length) → l[i] < l[i + 1]) → l.Pairwise (· < ·)
  | [], _ => List.Pairwise.nil
  | [x], _ => List.pairwise_singleton _ _
  | x :: y :: t, h => by
    have h1 : (y :: t).Pairwise (· < ·) := asc_of_adj fun i hi => by
      have := h (i + 1) (by simpa using hi)
      simpa using this
    have h2 : x < y := by simpa using h 0 (by simp)
    refine List.Pairwise.cons (fun z hz => ?_) h1
    rcases List.mem_cons.1 hz with rfl | hz
    · exact h2
    · exact Int.lt_trans h2 ((List.pairwise_cons.1 h1).1 z hz)
theorem mailAt_of {b : Box} (h : boxOk b = true) {i : Nat} (hi : i < b.Mails.length) : mailAtOk b i = true := by
  simp only [boxOk, mailsOk, Bool.and_eq_true] at h
  exact allN_get h.1.2.1 hi
theorem mail_in {b : Box} (h : boxOk b = true) {i : Nat} (hi : i < b.Mails.length) : 1 ≤ b.Mails[i].Uid ∧ b.Mails[i].Uid ≤ 9998 ∧ flagsOk b.Mails[i].Flags = true := by
  have h1 := mailAt_of h hi
  have h2 := numsOk_next (boxOk_parts h).1
  simp only [mailAtOk, Bool.and_eq_true, within, decide_eq_true_eq, List.getD_eq_getElem?_getD, List.getElem?_eq_getElem hi, Option.getD_some] at h1
  exact ⟨h1.1.1.1.1.1, by omega, h1.1.1.2⟩
theorem uids_asc {b : Box} (h : boxOk b = true) : Asc (b.Mails.map (·.Uid)) 9999 := by
  refine ⟨asc_of_adj fun i hi => ?_, fun x hx => ?_⟩
  · rw [List.length_map] at hi
    have h1 := mailAt_of h hi
    simp only [mailAtOk, Bool.and_eq_true, Bool.or_eq_true, decide_eq_true_eq, List.getD_eq_getElem?_getD, List.getElem?_eq_getElem hi, Option.getD_some, Nat.add_sub_cancel, List.getElem?_eq_getElem (show i < b.Mails.length by omega)] at h1
    have h2 := h1.1.1.1.2
    simp only [List.getElem_map]
    rcases h2 with h2 | h2
    · simp at h2
    · exact h2
  · obtain ⟨m, hm, rfl⟩ := List.mem_map.1 hx
    obtain ⟨i, hi, rfl⟩ := List.mem_iff_getElem.1 hm
    have := mail_in h hi
    omega
theorem filter_asc {b : Box} (h : boxOk b = true) (p : Mail → Bool) : Asc ((b.Mails.filter p).map (·.Uid)) 9999 := by
  have hs : ((b.Mails.filter p).map (·.Uid)).Sublist (b.Mails.map (·.Uid)) := List.Sublist.map _ List.filter_sublist
  have ha := uids_asc h
  exact ⟨ha.1.sublist hs, fun x hx => ha.2 x (hs.subset hx)⟩
end Go.Proofs.YtghmjnggmacohaaGreatDoor.L

namespace Go.Proofs.YtghmjnggmacohaaGreatDoor.L
open Go Go.VM
set_option maxRecDepth 100000
set_option maxHeartbeats 8000000
set_option linter.unusedSimpArgs false
set_option linter.unusedVariables false
theorem ok_sym : ∀ n, FnOk Tryz.prog 88 (spSym n)
  | 0 => fun w S ins r outs cargs Ns hG hrun => by
    obtain ⟨l, a, m, b, _, ⟨⟨h1, h2, h3⟩, h4, h5, h6, h7⟩, _, _⟩ := spSym_in hrun
    omega
  | n + 1 => ok_slices_symMergeCmpFunc_loop_example_g00247_impl_Mail n (ok_sym n)
noncomputable def spSymB : VM.Spec := spSym 100
attribute [go_sem] spSymB
theorem ok_slices_symMergeCmpFunc_loop_example_g00247_impl_Mail_B : FnOk Tryz.prog 88 spSymB := ok_sym 100
open Classical in
noncomputable def spStab : VM.Spec := { modes := [.io, .rd, .rd], run := fun | [.lst 4 l', .int .i64 n, .fn 36 []] => (decL Mail.dec l').bind fun l => if n = l.length ∧ l.length ≤ 30 ∧ mailsLe l then some (.tup [], [.lst 4 ((SM.stab ltS l).map Mail.enc)]) else none | _ => none, need := ["internal/bytealg.MaxLen"] }
attribute [go_sem] spStab
theorem spStab_in {ins : List V} {r : V} {outs : List V} (h : spStab.run ins = some (r, outs)) : ∃ (l : (List Mail)) (n : Int), ins = [.lst 4 ((l).map Mail.enc), .int .i64 n, .fn 36 []] ∧ (n = l.length ∧ l.length ≤ 30 ∧ mailsLe l) ∧ .tup [] = r ∧ outs = [.lst 4 ((SM.stab ltS l).map Mail.enc)] := by
  unfold spStab at h
  simp only at h
  split at h
  · rename_i l' n
    simp only [Option.bind_eq_some_iff] at h
    obtain ⟨l, h_l, h⟩ := h
    split at h
    case isFalse => cases h
    rename_i hc
    simp only [Option.some.injEq, Prod.mk.injEq] at h
    obtain ⟨h1, h2⟩ := h
    have h_l := decL_some (fun _ _ h => Mail.dec_some h) h_l
    subst h_l
    exact ⟨l, n, rfl, hc, h1, h2.symm⟩
  · cases h
def T_slices_stableCmpFunc_loop_example_g00247_impl_Mail : Hints := ⟨lk [], lk [(2, [0, 1, 2, 6, 7, 8]), (7, [0, 1, 2, 6]), (9, [0, 1, 2, 6, 7, 8])], lk [(0, [0, 1, 2, 6]), (1, [0, 1, 2, 6, 7, 8]), (2, [0, 1, 2, 6, 7, 8, 13]), (3, [0, 1, 2, 6, 8]), (4, [0, 1, 2, 6, 7, 8]), (5, [0, 1, 2, 6, 7, 8]), (6, [0, 1, 2, 6]), (7, [0, 1, 2, 6, 30]), (8, [0, 1, 2, 6, 7, 8]), (9, [0, 1, 2, 6, 7, 8, 35]), (10, [0, 1, 2, 6, 8]), (11, [0, 1, 2, 6, 7, 8]), (12, [0, 1, 2, 6, 7, 8]), (13, [0, 1, 2, 6, 7, 9]), (14, [0, 1, 2, 6, 7, 9, 54]), (15, [0, 1, 2, 6]), (16, [0, 1, 2, 6])], lk []⟩
noncomputable def Phi_slices_stableCmpFunc_loop_example_g00247_impl_Mail : Tab := lk [(88, spSymB), (87, spInsS)]
attribute [go_sem] T_slices_stableCmpFunc_loop_example_g00247_impl_Mail Phi_slices_stableCmpFunc_loop_example_g00247_impl_Mail
theorem phi_slices_stableCmpFunc_loop_example_g00247_impl_Mail : ∀ f sp, Phi_slices_stableCmpFunc_loop_example_g00247_impl_Mail f = some sp → FnOk Tryz.prog f sp ∧ ∀ n ∈ sp.need, n ∈ (["internal/bytealg.MaxLen"] : List String) := phi_cons ok_slices_symMergeCmpFunc_loop_example_g00247_impl_Mail_B (fun n (h : n ∈ (["internal/bytealg.MaxLen"] : List String)) => by simp only [List.mem_cons, List.not_mem_nil, or_false] at h; rcases h with rfl <;> simp) (phi_cons ok_slices_insertionSortCmpFunc_loop_example_g00247_impl_Mail (fun n (h : n ∈ (["internal/bytealg.MaxLen"] : List String)) => by simp only [List.mem_cons, List.not_mem_nil, or_false] at h; rcases h with rfl <;> simp) (phi_nil))
theorem ok_slices_stableCmpFunc_loop_example_g00247_impl_Mail : FnOk Tryz.prog 61 spStab := by
  refine fn_ok (Φ := Phi_slices_stableCmpFunc_loop_example_g00247_impl_Mail) (T := T_slices_stableCmpFunc_loop_example_g00247_impl_Mail) phi_slices_stableCmpFunc_loop_example_g00247_impl_Mail mixed Tryz.func61 rfl rfl rfl (by decide) ?_
  intro ins r outs hr hl
  clear hl
  have hs := spStab_in hr
  clear hr
  obtain ⟨l, n, rfl, hc, hr, rfl⟩ := hs
  simp only [spStab, Tryz.f61, Go.VM.initS]
  obtain ⟨rfl, h3, hm⟩ := hc
  have z0 : (0 : Int) ≤ l.length := by omega
  have z1 : (20 : Int) ≤ 40 := by decide
  simp only [go_sem]
  by_cases h20 : 20 ≤ l.length
  · have t1 : (SM.insS ltS 0 l 19).length = l.length := SM.insS_len _
    have t2 : mailsLe (SM.insS ltS 0 l 19) := insS_le hm _
    refine loop_go (fun k : Nat => [(7, .int .i64 (if k = 0 then 0 else 20)), (8, .int .i64 (if k = 0 then 20 else 40))]) (fun k => [(0, ⟨.arr, 4, (if k = 0 then l else SM.insS ltS 0 l 19).map Mail.enc⟩)]) (fun k => 1 - k) (fun k => k ≤ 1) 0 (by decide) rfl rfl ?_
    intro k hk ih
    have hk' : k = 0 ∨ k = 1 := by omega
    rcases hk' with rfl | rfl
    · have ih' := ih 1 (by decide) (by decide)
      simp only [Nat.reduceEqDiff, if_true, if_false, Nat.one_ne_zero] at ih' ⊢
      have g1 : (20 : Int) ≤ l.length := by omega
      have w1 : IntKind.i64.wrap (20 + 20) = 40 := by decide
      clear ih
      simp only [g1, w1, h3, hm, Int.toNat_zero, Int.reduceToNat, Nat.reduceSub, and_self, go_sem]
      repeat' ((first | apply qa | apply qb | apply qc | apply qd | apply qe | apply qf | apply qg | apply qh | apply qi | apply qj | apply qk) <;> intro hp <;> simp only [hp, g1, w1, h3, hm, Int.toNat_zero, Int.reduceToNat, Nat.reduceSub, and_self, go_sem])
      all_goals first | exact ih' | skip
    · clear ih
      simp only [Nat.reduceEqDiff, if_true, if_false, Nat.one_ne_zero]
      have g1 : ¬ (40 : Int) ≤ l.length := by omega
      have t3 : (SM.insS ltS 20 (SM.insS ltS 0 l 19) (l.length - 21)).length = l.length := by rw [SM.insS_len, t1]
      have t4 : mailsLe (SM.insS ltS 20 (SM.insS ltS 0 l 19) (l.length - 21)) := insS_le t2 _
      have g2 : (20 : Int) ≤ l.length := by omega
      have e1 : l.length - 20 - 1 = l.length - 21 := by omega
      simp only [g1, g2, h3, hm, t1, t2, Int.toNat_natCast, Int.reduceToNat, Nat.reduceSub, and_self, e1, Int.le_refl, go_sem]
      repeat' ((first | apply qa | apply qb | apply qc | apply qd | apply qe | apply qf | apply qg | apply qh | apply qi | apply qj | apply qk) <;> intro hp <;> simp only [hp, g1, g2, h3, hm, t1, t2, Int.toNat_natCast, Int.reduceToNat, Nat.reduceSub, and_self, e1, Int.le_refl, go_sem])
      refine loop_go (fun k : Nat => [(6, .int .i64 (if k = 0 then 20 else 40))]) (fun k => [(0, ⟨.arr, 4, (if k = 0 then SM.insS ltS 20 (SM.insS ltS 0 l 19) (l.length - 21) else SM.symM ltS 100 (SM.insS ltS 20 (SM.insS ltS 0 l 19) (l.length - 21)) 0 20 l.length).map Mail.enc⟩)]) (fun k => 1 - k) (fun k => k ≤ 1 ∧ (k = 1 → 20 < l.length)) 0 ⟨by decide, fun h => by cases h⟩ rfl rfl ?_
      intro k hk ih
      have hk' : k = 0 ∨ k = 1 := by omega
      rcases hk' with rfl | rfl
      · simp only [if_true]
        by_cases h21 : 20 < l.length
        · have ih' := ih 1 ⟨by decide, fun _ => h21⟩ (by decide)
          simp only [Nat.reduceEqDiff, if_true, if_false, Nat.one_ne_zero] at ih'
          have f1 : (20 : Int) < l.length := by omega
          have f2 : (l.length : Int) ≤ ((100 : Nat) : Int) := by omega
          have w1 : IntKind.i64.wrap (2 * 20) = 40 := by decide
          have w2 : IntKind.i64.wrap (20 * 2) = 40 := by decide
          have w3 : IntKind.i64.wrap 20 = 20 := by decide
          have w4 : IntKind.i64.wrap 40 = 40 := by decide
          clear ih
          simp only [f1, w1, go_sem]
          repeat' ((first | apply qa | apply qb | apply qc | apply qd | apply qe | apply qf | apply qg | apply qh | apply qi | apply qj | apply qk) <;> intro hp <;> simp only [hp, f1, w1, go_sem])
          refine loop_go (fun _ : Unit => []) (fun _ => []) (fun _ => 0) (fun _ => True) () trivial rfl rfl ?_
          intro _ _ _
          simp only [g1, g2, f1, f2, w2, w3, w4, h3, t3, t4, Int.toNat_natCast, Int.reduceToNat, Nat.reduceSub, and_self, Int.sub_zero, Int.le_refl, go_sem]
          repeat' ((first | apply qa | apply qb | apply qc | apply qd | apply qe | apply qf | apply qg | apply qh | apply qi | apply qj | apply qk) <;> intro hp <;> simp only [hp, g1, g2, f1, f2, w2, w3, w4, h3, t3, t4, Int.toNat_natCast, Int.reduceToNat, Nat.reduceSub, and_self, Int.sub_zero, Int.le_refl, go_sem])
          all_goals first | exact ih' | skip
        · have f1 : ¬ (20 : Int) < l.length := by omega
          have e2 : l.length = 20 := by omega
          clear ih
          simp only [f1, go_sem]
          repeat' ((first | apply qa | apply qb | apply qc | apply qd | apply qe | apply qf | apply qg | apply qh | apply qi | apply qj | apply qk) <;> intro hp <;> simp only [hp, f1, go_sem])
          simp only [fin_mk, finV, resL, resV1, resIn, endA, listIn, Option.some_or, Option.none_or, oneOrTup, go_sem]
          rw [← hr]
          rw [SM.stab, if_neg h21, e2]
          rfl
      · simp only [Nat.reduceEqDiff, if_true, if_false, Nat.one_ne_zero]
        have h21 := hk.2 rfl
        have f1 : ¬ (40 : Int) < l.length := by omega
        clear ih
        simp only [f1, go_sem]
        repeat' ((first | apply qa | apply qb | apply qc | apply qd | apply qe | apply qf | apply qg | apply qh | apply qi | apply qj | apply qk) <;> intro hp <;> simp only [hp, f1, go_sem])
        simp only [fin_mk, finV, resL, resV1, resIn, endA, listIn, Option.some_or, Option.none_or, oneOrTup, go_sem]
        rw [← hr]
        rw [SM.stab, if_pos h21]
  · have g1 : ¬ (20 : Int) ≤ l.length := by omega
    have f1 : ¬ (20 : Int) < l.length := by omega
    refine loop_go (fun _ : Unit => []) (fun _ => []) (fun _ => 0) (fun _ => True) () trivial rfl rfl ?_
    intro _ _ _
    simp only [g1, z0, h3, hm, Int.toNat_natCast, Int.reduceToNat, Nat.sub_zero, and_self, Int.le_refl, go_sem]
    repeat' ((first | apply qa | apply qb | apply qc | apply qd | apply qe | apply qf | apply qg | apply qh | apply qi | apply qj | apply qk) <;> intro hp <;> simp only [hp, g1, z0, h3, hm, Int.toNat_natCast, Int.reduceToNat, Nat.sub_zero, and_self, Int.le_refl, go_sem])
    refine loop_go (fun _ : Unit => []) (fun _ => []) (fun _ => 0) (fun _ => True) () trivial rfl rfl ?_
    intro _ _ _
    simp only [f1, go_sem]
    repeat' ((first | apply qa | apply qb | apply qc | apply qd | apply qe | apply qf | apply qg | apply qh | apply qi | apply qj | apply qk) <;> intro hp <;> simp only [hp, f1, go_sem])
    simp only [fin_mk, finV, resL, resV1, resIn, endA, listIn, Option.some_or, Option.none_or, oneOrTup, go_sem]
    rw [← hr]
    rw [SM.stab, if_neg (by omega)]
open Classical in
noncomputable def spSortM : VM.Spec := { modes := [.io, .rd], run := fun | [.lst 4 l', .fn 36 []] => (decL Mail.dec l').bind fun l => if l.length ≤ 30 ∧ mailsLe l then some (.tup [], [.lst 4 ((SM.stab ltS l).map Mail.enc)]) else none | _ => none, need := ["internal/bytealg.MaxLen"] }
attribute [go_sem] spSortM
theorem spSortM_in {ins : List V} {r : V} {outs : List V} (h : spSortM.run ins = some (r, outs)) : ∃ (l : (List Mail)), ins = [.lst 4 ((l).map Mail.enc), .fn 36 []] ∧ (l.length ≤ 30 ∧ mailsLe l) ∧ .tup [] = r ∧ outs = [.lst 4 ((SM.stab ltS l).map Mail.enc)] := by
  unfold spSortM at h
  simp only at h
  split at h
  · rename_i l'
    simp only [Option.bind_eq_some_iff] at h
    obtain ⟨l, h_l, h⟩ := h
    split at h
    case isFalse => cases h
    rename_i hc
    simp only [Option.some.injEq, Prod.mk.injEq] at h
    obtain ⟨h1, h2⟩ := h
    have h_l := decL_some (fun _ _ h => Mail.dec_some h) h_l
    subst h_l
    exact ⟨l, rfl, hc, h1, h2.symm⟩
  · cases h
def T_slices_SortStableFunc_loop_example_g00247_impl_Mail_loop_example_g00247_impl_Mail : Hints := ⟨lk [], lk [], lk [(0, [])], lk []⟩
noncomputable def Phi_slices_SortStableFunc_loop_example_g00247_impl_Mail_loop_example_g00247_impl_Mail : Tab := lk [(61, spStab)]
attribute [go_sem] T_slices_SortStableFunc_loop_example_g00247_impl_Mail_loop_example_g00247_impl_Mail Phi_slices_SortStableFunc_loop_example_g00247_impl_Mail_loop_example_g00247_impl_Mail
theorem phi_slices_SortStableFunc_loop_example_g00247_impl_Mail_loop_example_g00247_impl_Mail : ∀ f sp, Phi_slices_SortStableFunc_loop_example_g00247_impl_Mail_loop_example_g00247_impl_Mail f = some sp → FnOk Tryz.prog f sp ∧ ∀ n ∈ sp.need, n ∈ (["internal/bytealg.MaxLen"] : List String) := phi_cons ok_slices_stableCmpFunc_loop_example_g00247_impl_Mail (fun n (h : n ∈ (["internal/bytealg.MaxLen"] : List String)) => by simp only [List.mem_cons, List.not_mem_nil, or_false] at h; rcases h with rfl <;> simp) (phi_nil)
theorem ok_slices_SortStableFunc_loop_example_g00247_impl_Mail_loop_example_g00247_impl_Mail : FnOk Tryz.prog 35 spSortM := by
  refine fn_ok (Φ := Phi_slices_SortStableFunc_loop_example_g00247_impl_Mail_loop_example_g00247_impl_Mail) (T := T_slices_SortStableFunc_loop_example_g00247_impl_Mail_loop_example_g00247_impl_Mail) phi_slices_SortStableFunc_loop_example_g00247_impl_Mail_loop_example_g00247_impl_Mail mixed Tryz.func35 rfl rfl rfl (by decide) ?_
  intro ins r outs hr hl
  clear hl
  have hs := spSortM_in hr
  clear hr
  obtain ⟨l, rfl, hc, hr, rfl⟩ := hs
  simp only [spSortM, Tryz.f35, Go.VM.initS]
  obtain ⟨h3, hm⟩ := hc
  simp only [h3, hm, and_self, go_sem]
  repeat' ((first | apply qa | apply qb | apply qc | apply qd | apply qe | apply qf | apply qg | apply qh | apply qi | apply qj | apply qk) <;> intro hp <;> simp only [hp, h3, hm, and_self, go_sem])
  simp only [fin_mk, finV, resL, resV1, resIn, endA, listIn, Option.some_or, Option.none_or, oneOrTup, go_sem]
  rw [← hr]
  first | rfl | skip
end Go.Proofs.YtghmjnggmacohaaGreatDoor.L

namespace Go.Proofs.YtghmjnggmacohaaGreatDoor.L
open Go Go.VM
set_option maxRecDepth 100000
set_option maxHeartbeats 8000000
set_option linter.unusedSimpArgs false
set_option linter.unusedVariables false
def ltR (x y : Mail) : Prop := Op.bytesLess (subjectOf x) (subjectOf y) = true ∨ (subjectOf x = subjectOf y ∧ x.Uid < y.Uid)
theorem less_iff (a b : List UInt8) : Op.bytesLess a b = true ↔ a < b := by rw [Go.Proofs.bytesLess_eq, decide_eq_true_eq]
theorem less_no {a b : List UInt8} (h : Op.bytesLess a b = true) : Op.bytesLess b a = false := by
  cases k : Op.bytesLess b a with
  | false => rfl
  | true => exact absurd ((less_iff _ _).1 k) (List.lt_asymm ((less_iff _ _).1 h))
theorem less_self (a : List UInt8) : Op.bytesLess a a = false := by
  cases k : Op.bytesLess a a with
  | false => rfl
  | true => exact absurd ((less_iff _ _).1 k) (List.lt_irrefl _)
theorem less_eq {a b : List UInt8} (h1 : Op.bytesLess a b = false) (h2 : Op.bytesLess b a = false) : a = b := by
  have k1 : ¬ a < b := fun k => by rw [(less_iff _ _).2 k] at h1; cases h1
  have k2 : ¬ b < a := fun k => by rw [(less_iff _ _).2 k] at h2; cases h2
  exact List.le_antisymm (List.not_lt.1 k2) (List.not_lt.1 k1)
theorem ordS : SM.Ord ltS (fun x y => x.Uid < y.Uid) ltR where
  trans := by
    intro x y z h1 h2
    rcases h1 with h1 | ⟨h1, h1'⟩ <;> rcases h2 with h2 | ⟨h2, h2'⟩
    · exact .inl ((less_iff _ _).2 (List.lt_trans ((less_iff _ _).1 h1) ((less_iff _ _).1 h2)))
    · exact .inl (h2 ▸ h1)
    · exact .inl (h1 ▸ h2)
    · exact .inr ⟨h1.trans h2, by omega⟩
  asym := by
    intro x y h1 h2
    rcases h1 with h1 | ⟨h1, h1'⟩ <;> rcases h2 with h2 | ⟨h2, h2'⟩
    · rw [less_no h1] at h2; cases h2
    · rw [h2, less_self] at h1; cases h1
    · rw [h1, less_self] at h2; cases h2
    · omega
  up := by
    intro x y hu
    constructor
    · exact fun h => .inl h
    · rintro (h | ⟨_, h⟩)
      · exact h
      · have hu' : x.Uid < y.Uid := hu
        omega
  down := by
    intro x y hu h
    cases k : Op.bytesLess (subjectOf x) (subjectOf y) with
    | true => exact .inl k
    | false => exact .inr ⟨less_eq k h, hu⟩
def mailsIn (b : Box) (s : List Range) : List Mail := if boxOk b = true then b.Mails.filter (fun m => hasR s m.Uid) else []
def sortBy (b : Box) (s : List Range) : List Int := (SM.sortI ltS (mailsIn b s)).map (·.Uid)
theorem mailsIn_le {b : Box} {s : List Range} (h : b.le 4194304) : mailsLe (mailsIn b s) ∧ (mailsIn b s).length ≤ 30 := by
  unfold mailsIn
  split
  · rename_i hk
    exact ⟨fun m hm => h.2.1.2 m (List.mem_filter.1 hm).1, Nat.le_trans (List.length_filter_le _ _) (boxOk_parts hk).2.1⟩
  · exact ⟨fun m hm => (by cases hm), by simp⟩
theorem mailsIn_asc (b : Box) (s : List Range) : (mailsIn b s).Pairwise fun x y => x.Uid < y.Uid := by
  unfold mailsIn
  split
  · rename_i hk
    have := (filter_asc hk (fun m => hasR s m.Uid)).1
    rw [List.pairwise_map] at this
    exact this
  · exact List.Pairwise.nil
theorem stab_mails {b : Box} {s : List Range} (h : b.le 4194304) : SM.stab ltS (mailsIn b s) = SM.sortI ltS (mailsIn b s) := SM.stab_eq ordS (mailsIn_asc b s) (mailsIn_le h).2
theorem sortI_len (b : Box) (s : List Range) : (SM.sortI ltS (mailsIn b s)).length = (mailsIn b s).length := (SM.sortI_ok ordS (mailsIn_asc b s)).1.length_eq
theorem sortBy_len {b : Box} {s : List Range} (h : b.le 4194304) : (sortBy b s).length ≤ 4194304 := by
  rw [sortBy, List.length_map, sortI_len]
  have := (mailsIn_le (s := s) h).2
  omega
open Classical in
noncomputable def spMailsIn : VM.Spec := { modes := [.rd, .rd], run := fun | [b', .lst 2 s'] => (Box.dec b').bind fun b => (decL Range.dec s').bind fun s => if b.le 4194304 ∧ s.length ≤ 4194304 then some (.lst 4 ((mailsIn b s).map Mail.enc), []) else none | _ => none, need := [] }
attribute [go_sem] spMailsIn
theorem spMailsIn_in {ins : List V} {r : V} {outs : List V} (h : spMailsIn.run ins = some (r, outs)) : ∃ (b : Box) (s : (List Range)), ins = [Box.enc b, .lst 2 ((s).map Range.enc)] ∧ (b.le 4194304 ∧ s.length ≤ 4194304) ∧ .lst 4 ((mailsIn b s).map Mail.enc) = r ∧ outs = [] := by
  unfold spMailsIn at h
  simp only at h
  split at h
  · rename_i b' s'
    simp only [Option.bind_eq_some_iff] at h
    obtain ⟨b, h_b, s, h_s, h⟩ := h
    split at h
    case isFalse => cases h
    rename_i hc
    simp only [Option.some.injEq, Prod.mk.injEq] at h
    obtain ⟨h1, h2⟩ := h
    have h_b := Box.dec_some h_b
    subst h_b
    have h_s := decL_some (fun _ _ h => Range.dec_some h) h_s
    subst h_s
    exact ⟨b, s, rfl, hc, h1, h2.symm⟩
  · cases h
def T_impl_mailsIn : Hints := ⟨lk [], lk [(5, [1, 5, 14, 15, 16])], lk [(0, [1, 2]), (1, [1, 2, 5]), (2, [1, 2, 5, 11]), (3, [4]), (4, [1, 5, 14, 15, 16]), (5, [1, 5, 14, 15, 16, 17]), (6, [1, 5, 7, 14, 15, 16]), (7, [1, 5, 7, 14, 15, 16, 23]), (8, [1, 5, 14, 15, 16]), (9, [1, 5, 14, 15, 16]), (10, [4])], lk []⟩
noncomputable def Phi_impl_mailsIn : Tab := lk [(59, spBoxOk), (60, spSetHas)]
attribute [go_sem] T_impl_mailsIn Phi_impl_mailsIn
theorem phi_impl_mailsIn : ∀ f sp, Phi_impl_mailsIn f = some sp → FnOk Tryz.prog f sp ∧ ∀ n ∈ sp.need, n ∈ ([] : List String) := phi_cons ok_impl_BoxOk (n0 rfl) (phi_cons ok_impl_SetHas (n0 rfl) (phi_nil))
theorem ok_impl_mailsIn : FnOk Tryz.prog 34 spMailsIn := by
  refine fn_ok (Φ := Phi_impl_mailsIn) (T := T_impl_mailsIn) phi_impl_mailsIn mixed Tryz.func34 rfl rfl rfl (by decide) ?_
  intro ins r outs hr hl
  clear hl
  have hs := spMailsIn_in hr
  clear hr
  obtain ⟨b, s, rfl, hc, hr, rfl⟩ := hs
  simp only [spMailsIn, Tryz.f34, Go.VM.initS]
  obtain ⟨hc, hs⟩ := hc
  cases hk : boxOk b with
  | false =>
    simp only [hc, hs, hk, go_sem]
    repeat' ((first | apply qa | apply qb | apply qc | apply qd | apply qe | apply qf | apply qg | apply qh | apply qi | apply qj | apply qk) <;> intro hp <;> simp only [hp, hc, hs, hk, go_sem])
    all_goals (simp only [fin_mk, finV, resL, resV1, resIn, endA, listIn, Option.some_or, Option.none_or, oneOrTup, go_sem]; rw [← hr])
    all_goals (rw [mailsIn, hk, if_neg (by simp)]; rfl)
  | true =>
    have hml : b.Mails.length ≤ 30 := (boxOk_parts hk).2.1
    rw [mailsIn, hk, if_pos rfl] at hr
    have hs8 : s.length ≤ 8388608 := by omega
    simp only [hc, hs, hk, go_sem]
    repeat' ((first | apply qa | apply qb | apply qc | apply qd | apply qe | apply qf | apply qg | apply qh | apply qi | apply qj | apply qk) <;> intro hp <;> simp only [hp, hc, hs, hk, go_sem])
    refine loop_go (fun i : Nat => [(16, .int .i64 (i : Int))]) (fun i => [(0, ⟨.arr, 4, ((b.Mails.take i).filter (fun m => hasR s m.Uid)).map Mail.enc⟩)]) (fun i => b.Mails.length - i) (fun i => i ≤ b.Mails.length) 0 (Nat.zero_le _) rfl rfl ?_
    intro i hi ih
    have hD : ((b.Mails.take i).filter (fun m => hasR s m.Uid)).length ≤ 30 := Nat.le_trans (List.length_filter_le _ _) (by rw [List.length_take]; omega)
    rcases Nat.lt_or_ge i b.Mails.length with h | h
    · have g1 : (i : Int) < b.Mails.length := by omega
      have g2 : (0 : Int) ≤ i := by omega
      have g3 : b.Mails[i]? = some b.Mails[i] := List.getElem?_eq_getElem h
      have g5 := wrap_succ h (by omega)
      have ih' := ih (i + 1) h (by omega)
      clear ih
      rw [filter_succ h] at ih'
      generalize hmm : b.Mails[i] = m at *
      generalize hDD : (b.Mails.take i).filter (fun m => hasR s m.Uid) = D at *
      have b1 : (D.length + 1) * 40 ≤ 140737488355328 := by omega
      have b3 : D.length ≤ 9223372036854775806 := by omega
      cases hA : hasR s m.Uid with
      | false =>
        simp only [hA, Bool.false_eq_true, if_false, List.append_nil] at ih'
        simp only [g1, g2, g3, g5, hA, hs8, go_sem]
        repeat' ((first | apply qa | apply qb | apply qc | apply qd | apply qe | apply qf | apply qg | apply qh | apply qi | apply qj | apply qk) <;> intro hp <;> simp only [hp, g1, g2, g3, g5, hA, hs8, go_sem])
        all_goals exact ih'
      | true =>
        simp only [hA, if_true, List.map_append, List.map_cons, List.map_nil, Mail.enc] at ih'
        simp only [g1, g2, g3, g5, hA, hs8, b1, b3, go_sem]
        repeat' ((first | apply qa | apply qb | apply qc | apply qd | apply qe | apply qf | apply qg | apply qh | apply qi | apply qj | apply qk) <;> intro hp <;> simp only [hp, g1, g2, g3, g5, hA, hs8, b1, b3, go_sem])
        all_goals first | exact ih' | (clear ih'; omega)
    · have g1 : ¬ (i : Int) < b.Mails.length := by omega
      rw [List.take_of_length_le h]
      simp only [g1, go_sem]
      repeat' ((first | apply qa | apply qb | apply qc | apply qd | apply qe | apply qf | apply qg | apply qh | apply qi | apply qj | apply qk) <;> intro hp <;> simp only [hp, g1, go_sem])
      all_goals (simp only [fin_mk, finV, resL, resV1, resIn, endA, listIn, Option.some_or, Option.none_or, oneOrTup, go_sem]; rw [← hr])
open Classical in
noncomputable def spSortBy : VM.Spec := { modes := [.rd, .rd], run := fun | [b', .lst 2 s'] => (Box.dec b').bind fun b => (decL Range.dec s').bind fun s => if b.le 4194304 ∧ s.length ≤ 4194304 then some (.lst 1 ((sortBy b s).map eInt), []) else none | _ => none, need := ["internal/bytealg.MaxLen"] }
attribute [go_sem] spSortBy
theorem spSortBy_in {ins : List V} {r : V} {outs : List V} (h : spSortBy.run ins = some (r, outs)) : ∃ (b : Box) (s : (List Range)), ins = [Box.enc b, .lst 2 ((s).map Range.enc)] ∧ (b.le 4194304 ∧ s.length ≤ 4194304) ∧ .lst 1 ((sortBy b s).map eInt) = r ∧ outs = [] := by
  unfold spSortBy at h
  simp only at h
  split at h
  · rename_i b' s'
    simp only [Option.bind_eq_some_iff] at h
    obtain ⟨b, h_b, s, h_s, h⟩ := h
    split at h
    case isFalse => cases h
    rename_i hc
    simp only [Option.some.injEq, Prod.mk.injEq] at h
    obtain ⟨h1, h2⟩ := h
    have h_b := Box.dec_some h_b
    subst h_b
    have h_s := decL_some (fun _ _ h => Range.dec_some h) h_s
    subst h_s
    exact ⟨b, s, rfl, hc, h1, h2.symm⟩
  · cases h
def T_impl_SortBySubject : Hints := ⟨lk [], lk [(5, [6, 15, 16, 17])], lk [(0, [1, 2]), (1, [5]), (2, [5]), (3, [5, 6]), (4, [6, 15, 16, 17]), (5, [6, 15, 16, 17, 18]), (6, [6, 8, 15, 16, 17]), (7, [6, 15, 16, 17]), (8, [6, 15, 16, 17]), (9, [4])], lk []⟩
noncomputable def Phi_impl_SortBySubject : Tab := lk [(34, spMailsIn), (35, spSortM)]
attribute [go_sem] T_impl_SortBySubject Phi_impl_SortBySubject
theorem phi_impl_SortBySubject : ∀ f sp, Phi_impl_SortBySubject f = some sp → FnOk Tryz.prog f sp ∧ ∀ n ∈ sp.need, n ∈ (["internal/bytealg.MaxLen"] : List String) := phi_cons ok_impl_mailsIn (n0 rfl) (phi_cons ok_slices_SortStableFunc_loop_example_g00247_impl_Mail_loop_example_g00247_impl_Mail (fun n (h : n ∈ (["internal/bytealg.MaxLen"] : List String)) => by simp only [List.mem_cons, List.not_mem_nil, or_false] at h; rcases h with rfl <;> simp) (phi_nil))
theorem ok_impl_SortBySubject : FnOk Tryz.prog 10 spSortBy := by
  refine fn_ok (Φ := Phi_impl_SortBySubject) (T := T_impl_SortBySubject) phi_impl_SortBySubject mixed Tryz.func10 rfl rfl rfl (by decide) ?_
  intro ins r outs hr hl
  clear hl
  have hs := spSortBy_in hr
  clear hr
  obtain ⟨b, s, rfl, hc, hr, rfl⟩ := hs
  simp only [spSortBy, Tryz.f10, Go.VM.initS]
  obtain ⟨hc, hs⟩ := hc
  obtain ⟨m1, m2⟩ := mailsIn_le (s := s) hc
  have m3 := stab_mails (s := s) hc
  have m4 := sortI_len b s
  rw [sortBy] at hr
  generalize hL : mailsIn b s = L at *
  generalize hQ : SM.sortI ltS L = Q at *
  simp only [hc, hs, hL, m1, m2, m3, and_self, go_sem]
  repeat' ((first | apply qa | apply qb | apply qc | apply qd | apply qe | apply qf | apply qg | apply qh | apply qi | apply qj | apply qk) <;> intro hp <;> simp only [hp, hc, hs, hL, m1, m2, m3, and_self, go_sem])
  refine loop_go (fun i : Nat => [(17, .int .i64 (i : Int))]) (fun i => [(0, ⟨.arr, 1, ((Q.take i).map (·.Uid)).map eInt⟩)]) (fun i => Q.length - i) (fun i => i ≤ Q.length) 0 (Nat.zero_le _) rfl rfl ?_
  intro i hi ih
  rcases Nat.lt_or_ge i Q.length with h | h
  · have g1 : (i : Int) < Q.length := by omega
    have g2 : (0 : Int) ≤ i := by omega
    have g3 : Q[i]? = some Q[i] := List.getElem?_eq_getElem h
    have g5 := wrap_succ h (by omega)
    have ih' := ih (i + 1) h (by omega)
    clear ih
    rw [take_succ' h, List.map_append, List.map_append] at ih'
    simp only [List.map_cons, List.map_nil, eInt] at ih'
    have hD : ((Q.take i).map (·.Uid)).length ≤ 30 := by rw [List.length_map, List.length_take]; omega
    generalize hDD : (Q.take i).map (·.Uid) = D at *
    have b1 : (D.length + 1) * 8 ≤ 140737488355328 := by omega
    have b3 : D.length ≤ 9223372036854775806 := by omega
    simp only [g1, g2, g3, g5, b1, b3, go_sem]
    repeat' ((first | apply qa | apply qb | apply qc | apply qd | apply qe | apply qf | apply qg | apply qh | apply qi | apply qj | apply qk) <;> intro hp <;> simp only [hp, g1, g2, g3, g5, b1, b3, go_sem])
    all_goals first | exact ih' | (clear ih'; omega)
  · have g1 : ¬ (i : Int) < Q.length := by omega
    rw [List.take_of_length_le h]
    simp only [g1, go_sem]
    repeat' ((first | apply qa | apply qb | apply qc | apply qd | apply qe | apply qf | apply qg | apply qh | apply qi | apply qj | apply qk) <;> intro hp <;> simp only [hp, g1, go_sem])
    all_goals (simp only [fin_mk, finV, resL, resV1, resIn, endA, listIn, Option.some_or, Option.none_or, oneOrTup, go_sem]; rw [← hr])
end Go.Proofs.YtghmjnggmacohaaGreatDoor.L

