/- Contracts of functions, and the facts that they need. No condition. -/
import Derived.Test.YtghmjnggmacohaaGreatDoorVLFl

import Derived.Test.YtghmjnggmacohaaGreatDoorVLM
import Derived.Test.YtghmjnggmacohaaGreatDoorVmLift
namespace Go.Proofs.YtghmjnggmacohaaGreatDoor.L
open Go Go.VM
set_option maxRecDepth 100000
set_option maxHeartbeats 4000000
set_option linter.unusedSimpArgs false
set_option linter.unusedVariables false
def hasMail (l : List Mail) (u : Int) : Bool := l.any (fun x => x.Uid == u)
def hasTomb (l : List Tomb) (u : Int) : Bool := l.any (fun x => x.Uid == u)
open Classical in
noncomputable def spHasMail : VM.Spec := { modes := [.rd, .rd], run := fun | [b', .int .i64 u] => (Box.dec b').bind fun b => if b.le 4194304 then some (.bool (hasMail b.Mails u), []) else none | _ => none, need := [] }
attribute [go_sem] spHasMail
theorem spHasMail_in {ins : List V} {r : V} {outs : List V} (h : spHasMail.run ins = some (r, outs)) : ∃ (b : Box) (u : Int), ins = [Box.enc b, .int .i64 u] ∧ (b.le 4194304) ∧ .bool (hasMail b.Mails u) = r ∧ outs = [] := by
  unfold spHasMail at h
  simp only at h
  split at h
  · rename_i b' u
    simp only [Option.bind_eq_some_iff] at h
    obtain ⟨b, h_b, h⟩ := h
    split at h
    case isFalse => cases h
    rename_i hc
    simp only [Option.some.injEq, Prod.mk.injEq] at h
    obtain ⟨h1, h2⟩ := h
    have h_b := Box.dec_some h_b
    subst h_b
    exact ⟨b, u, rfl, hc, h1, h2.symm⟩
  · cases h
def T_spec_l08HasMail : Hints := ⟨lk [], lk [(2, [1, 2, 5])], lk [(0, [1, 2]), (1, [1, 2, 5]), (2, [1, 2, 5, 10]), (4, [1, 2, 5, 20]), (5, [4]), (3, [1, 2, 5]), (6, [4])], lk [], lf []⟩
noncomputable def Phi_spec_l08HasMail : Tab := lk []
attribute [go_sem] T_spec_l08HasMail Phi_spec_l08HasMail
theorem phi_spec_l08HasMail : ∀ f sp, Phi_spec_l08HasMail f = some sp → FnOk Tryz.prog f sp ∧ ∀ n ∈ sp.need, n ∈ ([] : List String) := phi_nil
theorem ok_spec_l08HasMail : FnOk Tryz.prog 54 spHasMail := by
  refine fn_ok (Φ := Phi_spec_l08HasMail) (T := T_spec_l08HasMail) phi_spec_l08HasMail mixed Tryz.func54 rfl rfl rfl (by decide) ?_
  intro ins r outs hr hl
  clear hl
  have hs := spHasMail_in hr
  clear hr
  obtain ⟨b, u, rfl, hc, hr, rfl⟩ := hs
  simp only [spHasMail, Tryz.f54, Go.VM.initS]
  have hl : b.Mails.length ≤ 4194304 := hc.2.1.1
  simp only [go_sem]
  refine loop_go (fun i : Nat => [(5, .int .i64 (i : Int))]) (fun _ => []) (fun i => b.Mails.length - i) (fun i => i ≤ b.Mails.length ∧ (b.Mails.take i).any (fun x => x.Uid == u) = false) 0 ⟨Nat.zero_le _, by simp⟩ rfl rfl ?_
  intro i ⟨hi, ha⟩ ih
  rcases Nat.lt_or_ge i b.Mails.length with h | h
  · have g1 : (i : Int) < b.Mails.length := by omega
    have g2 : (0 : Int) ≤ i := by omega
    have g3 : b.Mails[i]? = some b.Mails[i] := List.getElem?_eq_getElem h
    have g5 := wrap_succ h (by omega)
    cases hb : (b.Mails[i].Uid == u) with
    | true =>
      simp only [g1, g2, g3, g5, hb, go_sem]
      repeat' ((first | apply qa | apply qb | apply qc | apply qd | apply qe | apply qf | apply qg | apply qh | apply qi | apply qj | apply qk) <;> intro hp <;> simp only [hp, g1, g2, g3, g5, hb, go_sem])
      simp only [fin_mk, finV, resL, resV1, resIn, endA, listIn, Option.some_or, Option.none_or, oneOrTup, go_sem]
      rw [← hr]
      rw [hasMail, any_bad h hb]
    | false =>
      simp only [g1, g2, g3, g5, hb, go_sem]
      repeat' ((first | apply qa | apply qb | apply qc | apply qd | apply qe | apply qf | apply qg | apply qh | apply qi | apply qj | apply qk) <;> intro hp <;> simp only [hp, g1, g2, g3, g5, hb, go_sem])
      exact ih (i + 1) ⟨h, any_take_succ h ha hb⟩ (by omega)
  · have g1 : ¬ (i : Int) < b.Mails.length := by omega
    simp only [g1, go_sem]
    simp only [fin_mk, finV, resL, resV1, resIn, endA, listIn, Option.some_or, Option.none_or, oneOrTup, go_sem]
    rw [← hr]
    rw [hasMail, any_take_end h ha]
open Classical in
noncomputable def spMailIs : VM.Spec := { modes := [.rd, .rd], run := fun | [m', .rptr (.int .i64 u)] => (Mail.dec m').bind fun m => some (.bool (m.Uid == u), []) | _ => none, need := [] }
attribute [go_sem] spMailIs
theorem spMailIs_in {ins : List V} {r : V} {outs : List V} (h : spMailIs.run ins = some (r, outs)) : ∃ (m : Mail) (u : Int), ins = [Mail.enc m, .rptr (.int .i64 u)] ∧ .bool (m.Uid == u) = r ∧ outs = [] := by
  unfold spMailIs at h
  simp only at h
  split at h
  · rename_i m' u
    simp only [Option.bind_eq_some_iff] at h
    obtain ⟨m, h_m, h⟩ := h
    simp only [Option.some.injEq, Prod.mk.injEq] at h
    obtain ⟨h1, h2⟩ := h
    have h_m := Mail.dec_some h_m
    subst h_m
    exact ⟨m, u, rfl, h1, h2.symm⟩
  · cases h
def T_impl_mailAt_1 : Hints := ⟨lk [], lk [], lk [(0, [1, 2]), (1, [3])], lk [], lf []⟩
noncomputable def Phi_impl_mailAt_1 : Tab := lk []
attribute [go_sem] T_impl_mailAt_1 Phi_impl_mailAt_1
theorem phi_impl_mailAt_1 : ∀ f sp, Phi_impl_mailAt_1 f = some sp → FnOk Tryz.prog f sp ∧ ∀ n ∈ sp.need, n ∈ ([] : List String) := phi_nil
theorem ok_impl_mailAt_1 : FnOk Tryz.prog 117 spMailIs := by
  refine fn_ok (Φ := Phi_impl_mailAt_1) (T := T_impl_mailAt_1) phi_impl_mailAt_1 mixed Tryz.func117 rfl rfl rfl (by decide) ?_
  intro ins r outs hr hl
  clear hl
  have hs := spMailIs_in hr
  clear hr
  obtain ⟨m, u, rfl, hr, rfl⟩ := hs
  simp only [spMailIs, Tryz.f117, Go.VM.initS]
  simp only [go_sem]
  simp only [fin_mk, finV, resL, resV1, resIn, endA, listIn, Option.some_or, Option.none_or, oneOrTup, go_sem]
  rw [← hr]
open Classical in
noncomputable def spIdxMail : VM.Spec := { modes := [.rd, .rd], run := fun | [.lst 4 l', .fn 117 [.rptr (.int .i64 u)]] => (decL Mail.dec l').bind fun l => if l.length ≤ 4194304 then some (.int .i64 (idxL (fun x => x.Uid == u) l), []) else none | _ => none, need := [] }
attribute [go_sem] spIdxMail
theorem spIdxMail_in {ins : List V} {r : V} {outs : List V} (h : spIdxMail.run ins = some (r, outs)) : ∃ (l : (List Mail)) (u : Int), ins = [.lst 4 ((l).map Mail.enc), .fn 117 [.rptr (.int .i64 u)]] ∧ (l.length ≤ 4194304) ∧ .int .i64 (idxL (fun x => x.Uid == u) l) = r ∧ outs = [] := by
  unfold spIdxMail at h
  simp only at h
  split at h
  · rename_i l' u
    simp only [Option.bind_eq_some_iff] at h
    obtain ⟨l, h_l, h⟩ := h
    split at h
    case isFalse => cases h
    rename_i hc
    simp only [Option.some.injEq, Prod.mk.injEq] at h
    obtain ⟨h1, h2⟩ := h
    have h_l := decL_some (fun _ _ h => Mail.dec_some h) h_l
    subst h_l
    exact ⟨l, u, rfl, hc, h1, h2.symm⟩
  · cases h
def T_slices_IndexFunc_loop_example_g00247_impl_Mail_loop_example_g00247_impl_Mail : Hints := ⟨lk [], lk [(2, [0, 1, 7, 8])], lk [(0, [0, 1]), (1, [0, 1, 7, 8]), (2, [0, 1, 7, 8, 9]), (3, [0, 1, 5, 7, 8]), (4, [0, 1, 5, 7, 8, 16]), (5, [4]), (6, [0, 1, 7, 8]), (7, [4])], lk [], lf []⟩
noncomputable def Phi_slices_IndexFunc_loop_example_g00247_impl_Mail_loop_example_g00247_impl_Mail : Tab := lk [(117, spMailIs)]
attribute [go_sem] T_slices_IndexFunc_loop_example_g00247_impl_Mail_loop_example_g00247_impl_Mail Phi_slices_IndexFunc_loop_example_g00247_impl_Mail_loop_example_g00247_impl_Mail
theorem phi_slices_IndexFunc_loop_example_g00247_impl_Mail_loop_example_g00247_impl_Mail : ∀ f sp, Phi_slices_IndexFunc_loop_example_g00247_impl_Mail_loop_example_g00247_impl_Mail f = some sp → FnOk Tryz.prog f sp ∧ ∀ n ∈ sp.need, n ∈ ([] : List String) := phi_cons ok_impl_mailAt_1 (n0 rfl) (phi_nil)
theorem ok_slices_IndexFunc_loop_example_g00247_impl_Mail_loop_example_g00247_impl_Mail : FnOk Tryz.prog 116 spIdxMail := by
  refine fn_ok (Φ := Phi_slices_IndexFunc_loop_example_g00247_impl_Mail_loop_example_g00247_impl_Mail) (T := T_slices_IndexFunc_loop_example_g00247_impl_Mail_loop_example_g00247_impl_Mail) phi_slices_IndexFunc_loop_example_g00247_impl_Mail_loop_example_g00247_impl_Mail mixed Tryz.func116 rfl rfl rfl (by decide) ?_
  intro ins r outs hr hl
  clear hl
  have hs := spIdxMail_in hr
  clear hr
  obtain ⟨l, u, rfl, hc, hr, rfl⟩ := hs
  simp only [spIdxMail, Tryz.f116, Go.VM.initS]
  simp only [go_sem]
  refine loop_go (fun i : Nat => [(8, .int .i64 (i : Int))]) (fun _ => []) (fun i => l.length - i) (fun i => i ≤ l.length ∧ ∀ j (hj : j < i) (hl : j < l.length), (fun x => x.Uid == u) l[j] = false) 0 ⟨Nat.zero_le _, fun j hj => absurd hj (by omega)⟩ rfl rfl ?_
  intro i ⟨hi, ha⟩ ih
  rcases Nat.lt_or_ge i l.length with h | h
  · have g1 : (i : Int) < l.length := by omega
    have g2 : (0 : Int) ≤ i := by omega
    have g3 : l[i]? = some l[i] := List.getElem?_eq_getElem h
    have g5 := wrap_succ h (by omega)
    cases hb : (fun x => x.Uid == u) l[i] with
    | true =>
      simp only [g1, g2, g3, g5, hb, go_sem]
      repeat' ((first | apply qa | apply qb | apply qc | apply qd | apply qe | apply qf | apply qg | apply qh | apply qi | apply qj | apply qk) <;> intro hp <;> simp only [hp, g1, g2, g3, g5, hb, go_sem])
      simp only [fin_mk, finV, resL, resV1, resIn, endA, listIn, Option.some_or, Option.none_or, oneOrTup, go_sem]
      rw [← hr]
      rw [idxL_hit h (fun j hj => ha j hj (by omega)) hb]
    | false =>
      simp only [g1, g2, g3, g5, hb, go_sem]
      repeat' ((first | apply qa | apply qb | apply qc | apply qd | apply qe | apply qf | apply qg | apply qh | apply qi | apply qj | apply qk) <;> intro hp <;> simp only [hp, g1, g2, g3, g5, hb, go_sem])
      refine ih (i + 1) ⟨h, fun j hj hl => ?_⟩ (by omega)
      rcases Nat.lt_or_ge j i with h1 | h1
      · exact ha j h1 hl
      · have : j = i := by omega
        subst this; exact hb
  · have g1 : ¬ (i : Int) < l.length := by omega
    simp only [g1, go_sem]
    simp only [fin_mk, finV, resL, resV1, resIn, endA, listIn, Option.some_or, Option.none_or, oneOrTup, go_sem]
    rw [← hr]
    rw [idxL_miss fun j hj => ha j (by omega) hj]
open Classical in
noncomputable def spMailAt : VM.Spec := { modes := [.rd, .rd], run := fun | [b', .int .i64 u] => (Box.dec b').bind fun b => if b.le 4194304 then some (.int .i64 (idxL (fun x => x.Uid == u) b.Mails), []) else none | _ => none, need := [] }
attribute [go_sem] spMailAt
theorem spMailAt_in {ins : List V} {r : V} {outs : List V} (h : spMailAt.run ins = some (r, outs)) : ∃ (b : Box) (u : Int), ins = [Box.enc b, .int .i64 u] ∧ (b.le 4194304) ∧ .int .i64 (idxL (fun x => x.Uid == u) b.Mails) = r ∧ outs = [] := by
  unfold spMailAt at h
  simp only at h
  split at h
  · rename_i b' u
    simp only [Option.bind_eq_some_iff] at h
    obtain ⟨b, h_b, h⟩ := h
    split at h
    case isFalse => cases h
    rename_i hc
    simp only [Option.some.injEq, Prod.mk.injEq] at h
    obtain ⟨h1, h2⟩ := h
    have h_b := Box.dec_some h_b
    subst h_b
    exact ⟨b, u, rfl, hc, h1, h2.symm⟩
  · cases h
def T_impl_mailAt : Hints := ⟨lk [], lk [], lk [(0, [2, 3]), (1, [4])], lk [], lf []⟩
noncomputable def Phi_impl_mailAt : Tab := lk [(116, spIdxMail)]
attribute [go_sem] T_impl_mailAt Phi_impl_mailAt
theorem phi_impl_mailAt : ∀ f sp, Phi_impl_mailAt f = some sp → FnOk Tryz.prog f sp ∧ ∀ n ∈ sp.need, n ∈ ([] : List String) := phi_cons ok_slices_IndexFunc_loop_example_g00247_impl_Mail_loop_example_g00247_impl_Mail (n0 rfl) (phi_nil)
theorem ok_impl_mailAt : FnOk Tryz.prog 102 spMailAt := by
  refine fn_ok (Φ := Phi_impl_mailAt) (T := T_impl_mailAt) phi_impl_mailAt mixed Tryz.func102 rfl rfl rfl (by decide) ?_
  intro ins r outs hr hl
  clear hl
  have hs := spMailAt_in hr
  clear hr
  obtain ⟨b, u, rfl, hc, hr, rfl⟩ := hs
  simp only [spMailAt, Tryz.f102, Go.VM.initS]
  have hl : b.Mails.length ≤ 4194304 := hc.2.1.1
  simp only [hl, go_sem]
  simp only [fin_mk, finV, resL, resV1, resIn, endA, listIn, Option.some_or, Option.none_or, oneOrTup, go_sem]
  rw [← hr]
open Classical in
noncomputable def spTombIs : VM.Spec := { modes := [.rd, .rd], run := fun | [x', .rptr (t')] => (Tomb.dec x').bind fun x => (Tomb.dec t').bind fun t => some (.bool (x.Uid == t.Uid), []) | _ => none, need := [] }
attribute [go_sem] spTombIs
theorem spTombIs_in {ins : List V} {r : V} {outs : List V} (h : spTombIs.run ins = some (r, outs)) : ∃ (x : Tomb) (t : Tomb), ins = [Tomb.enc x, .rptr (Tomb.enc t)] ∧ .bool (x.Uid == t.Uid) = r ∧ outs = [] := by
  unfold spTombIs at h
  simp only at h
  split at h
  · rename_i x' t'
    simp only [Option.bind_eq_some_iff] at h
    obtain ⟨x, h_x, t, h_t, h⟩ := h
    simp only [Option.some.injEq, Prod.mk.injEq] at h
    obtain ⟨h1, h2⟩ := h
    have h_x := Tomb.dec_some h_x
    subst h_x
    have h_t := Tomb.dec_some h_t
    subst h_t
    exact ⟨x, t, rfl, h1, h2.symm⟩
  · cases h
def T_impl_tombsOk_1 : Hints := ⟨lk [], lk [], lk [(0, [1, 2]), (1, [3])], lk [], lf []⟩
noncomputable def Phi_impl_tombsOk_1 : Tab := lk []
attribute [go_sem] T_impl_tombsOk_1 Phi_impl_tombsOk_1
theorem phi_impl_tombsOk_1 : ∀ f sp, Phi_impl_tombsOk_1 f = some sp → FnOk Tryz.prog f sp ∧ ∀ n ∈ sp.need, n ∈ ([] : List String) := phi_nil
theorem ok_impl_tombsOk_1 : FnOk Tryz.prog 101 spTombIs := by
  refine fn_ok (Φ := Phi_impl_tombsOk_1) (T := T_impl_tombsOk_1) phi_impl_tombsOk_1 mixed Tryz.func101 rfl rfl rfl (by decide) ?_
  intro ins r outs hr hl
  clear hl
  have hs := spTombIs_in hr
  clear hr
  obtain ⟨x, t, rfl, hr, rfl⟩ := hs
  simp only [spTombIs, Tryz.f101, Go.VM.initS]
  simp only [go_sem]
  simp only [fin_mk, finV, resL, resV1, resIn, endA, listIn, Option.some_or, Option.none_or, oneOrTup, go_sem]
  rw [← hr]
open Classical in
noncomputable def spIdxTomb : VM.Spec := { modes := [.rd, .rd], run := fun | [.lst 2 l', .fn 101 [.rptr (t')]] => (decL Tomb.dec l').bind fun l => (Tomb.dec t').bind fun t => if l.length ≤ 4194304 then some (.int .i64 (idxL (fun x => x.Uid == t.Uid) l), []) else none | _ => none, need := [] }
attribute [go_sem] spIdxTomb
theorem spIdxTomb_in {ins : List V} {r : V} {outs : List V} (h : spIdxTomb.run ins = some (r, outs)) : ∃ (l : (List Tomb)) (t : Tomb), ins = [.lst 2 ((l).map Tomb.enc), .fn 101 [.rptr (Tomb.enc t)]] ∧ (l.length ≤ 4194304) ∧ .int .i64 (idxL (fun x => x.Uid == t.Uid) l) = r ∧ outs = [] := by
  unfold spIdxTomb at h
  simp only at h
  split at h
  · rename_i l' t'
    simp only [Option.bind_eq_some_iff] at h
    obtain ⟨l, h_l, t, h_t, h⟩ := h
    split at h
    case isFalse => cases h
    rename_i hc
    simp only [Option.some.injEq, Prod.mk.injEq] at h
    obtain ⟨h1, h2⟩ := h
    have h_l := decL_some (fun _ _ h => Tomb.dec_some h) h_l
    subst h_l
    have h_t := Tomb.dec_some h_t
    subst h_t
    exact ⟨l, t, rfl, hc, h1, h2.symm⟩
  · cases h
def T_slices_IndexFunc_loop_example_g00247_impl_Tomb_loop_example_g00247_impl_Tomb : Hints := ⟨lk [], lk [(2, [0, 1, 7, 8])], lk [(0, [0, 1]), (1, [0, 1, 7, 8]), (2, [0, 1, 7, 8, 9]), (3, [0, 1, 5, 7, 8]), (4, [0, 1, 5, 7, 8, 16]), (5, [4]), (6, [0, 1, 7, 8]), (7, [4])], lk [], lf []⟩
noncomputable def Phi_slices_IndexFunc_loop_example_g00247_impl_Tomb_loop_example_g00247_impl_Tomb : Tab := lk [(101, spTombIs)]
attribute [go_sem] T_slices_IndexFunc_loop_example_g00247_impl_Tomb_loop_example_g00247_impl_Tomb Phi_slices_IndexFunc_loop_example_g00247_impl_Tomb_loop_example_g00247_impl_Tomb
theorem phi_slices_IndexFunc_loop_example_g00247_impl_Tomb_loop_example_g00247_impl_Tomb : ∀ f sp, Phi_slices_IndexFunc_loop_example_g00247_impl_Tomb_loop_example_g00247_impl_Tomb f = some sp → FnOk Tryz.prog f sp ∧ ∀ n ∈ sp.need, n ∈ ([] : List String) := phi_cons ok_impl_tombsOk_1 (n0 rfl) (phi_nil)
theorem ok_slices_IndexFunc_loop_example_g00247_impl_Tomb_loop_example_g00247_impl_Tomb : FnOk Tryz.prog 115 spIdxTomb := by
  refine fn_ok (Φ := Phi_slices_IndexFunc_loop_example_g00247_impl_Tomb_loop_example_g00247_impl_Tomb) (T := T_slices_IndexFunc_loop_example_g00247_impl_Tomb_loop_example_g00247_impl_Tomb) phi_slices_IndexFunc_loop_example_g00247_impl_Tomb_loop_example_g00247_impl_Tomb mixed Tryz.func115 rfl rfl rfl (by decide) ?_
  intro ins r outs hr hl
  clear hl
  have hs := spIdxTomb_in hr
  clear hr
  obtain ⟨l, t, rfl, hc, hr, rfl⟩ := hs
  simp only [spIdxTomb, Tryz.f115, Go.VM.initS]
  simp only [go_sem]
  refine loop_go (fun i : Nat => [(8, .int .i64 (i : Int))]) (fun _ => []) (fun i => l.length - i) (fun i => i ≤ l.length ∧ ∀ j (hj : j < i) (hl : j < l.length), (fun x => x.Uid == t.Uid) l[j] = false) 0 ⟨Nat.zero_le _, fun j hj => absurd hj (by omega)⟩ rfl rfl ?_
  intro i ⟨hi, ha⟩ ih
  rcases Nat.lt_or_ge i l.length with h | h
  · have g1 : (i : Int) < l.length := by omega
    have g2 : (0 : Int) ≤ i := by omega
    have g3 : l[i]? = some l[i] := List.getElem?_eq_getElem h
    have g5 := wrap_succ h (by omega)
    cases hb : (fun x => x.Uid == t.Uid) l[i] with
    | true =>
      simp only [g1, g2, g3, g5, hb, go_sem]
      repeat' ((first | apply qa | apply qb | apply qc | apply qd | apply qe | apply qf | apply qg | apply qh | apply qi | apply qj | apply qk) <;> intro hp <;> simp only [hp, g1, g2, g3, g5, hb, go_sem])
      simp only [fin_mk, finV, resL, resV1, resIn, endA, listIn, Option.some_or, Option.none_or, oneOrTup, go_sem]
      rw [← hr]
      rw [idxL_hit h (fun j hj => ha j hj (by omega)) hb]
    | false =>
      simp only [g1, g2, g3, g5, hb, go_sem]
      repeat' ((first | apply qa | apply qb | apply qc | apply qd | apply qe | apply qf | apply qg | apply qh | apply qi | apply qj | apply qk) <;> intro hp <;> simp only [hp, g1, g2, g3, g5, hb, go_sem])
      refine ih (i + 1) ⟨h, fun j hj hl => ?_⟩ (by omega)
      rcases Nat.lt_or_ge j i with h1 | h1
      · exact ha j h1 hl
      · have : j = i := by omega
        subst this; exact hb
  · have g1 : ¬ (i : Int) < l.length := by omega
    simp only [g1, go_sem]
    simp only [fin_mk, finV, resL, resV1, resIn, endA, listIn, Option.some_or, Option.none_or, oneOrTup, go_sem]
    rw [← hr]
    rw [idxL_miss fun j hj => ha j (by omega) hj]
open Classical in
noncomputable def spHasTomb : VM.Spec := { modes := [.rd, .rd], run := fun | [.lst 2 l', .fn 101 [.rptr (t')]] => (decL Tomb.dec l').bind fun l => (Tomb.dec t').bind fun t => if l.length ≤ 4194304 then some (.bool (hasTomb l t.Uid), []) else none | _ => none, need := [] }
attribute [go_sem] spHasTomb
theorem spHasTomb_in {ins : List V} {r : V} {outs : List V} (h : spHasTomb.run ins = some (r, outs)) : ∃ (l : (List Tomb)) (t : Tomb), ins = [.lst 2 ((l).map Tomb.enc), .fn 101 [.rptr (Tomb.enc t)]] ∧ (l.length ≤ 4194304) ∧ .bool (hasTomb l t.Uid) = r ∧ outs = [] := by
  unfold spHasTomb at h
  simp only at h
  split at h
  · rename_i l' t'
    simp only [Option.bind_eq_some_iff] at h
    obtain ⟨l, h_l, t, h_t, h⟩ := h
    split at h
    case isFalse => cases h
    rename_i hc
    simp only [Option.some.injEq, Prod.mk.injEq] at h
    obtain ⟨h1, h2⟩ := h
    have h_l := decL_some (fun _ _ h => Tomb.dec_some h) h_l
    subst h_l
    have h_t := Tomb.dec_some h_t
    subst h_t
    exact ⟨l, t, rfl, hc, h1, h2.symm⟩
  · cases h
def T_slices_ContainsFunc_loop_example_g00247_impl_Tomb_loop_example_g00247_impl_Tomb : Hints := ⟨lk [], lk [], lk [(0, [0, 1]), (1, [4])], lk [], lf []⟩
noncomputable def Phi_slices_ContainsFunc_loop_example_g00247_impl_Tomb_loop_example_g00247_impl_Tomb : Tab := lk [(115, spIdxTomb)]
attribute [go_sem] T_slices_ContainsFunc_loop_example_g00247_impl_Tomb_loop_example_g00247_impl_Tomb Phi_slices_ContainsFunc_loop_example_g00247_impl_Tomb_loop_example_g00247_impl_Tomb
theorem phi_slices_ContainsFunc_loop_example_g00247_impl_Tomb_loop_example_g00247_impl_Tomb : ∀ f sp, Phi_slices_ContainsFunc_loop_example_g00247_impl_Tomb_loop_example_g00247_impl_Tomb f = some sp → FnOk Tryz.prog f sp ∧ ∀ n ∈ sp.need, n ∈ ([] : List String) := phi_cons ok_slices_IndexFunc_loop_example_g00247_impl_Tomb_loop_example_g00247_impl_Tomb (n0 rfl) (phi_nil)
theorem ok_slices_ContainsFunc_loop_example_g00247_impl_Tomb_loop_example_g00247_impl_Tomb : FnOk Tryz.prog 100 spHasTomb := by
  refine fn_ok (Φ := Phi_slices_ContainsFunc_loop_example_g00247_impl_Tomb_loop_example_g00247_impl_Tomb) (T := T_slices_ContainsFunc_loop_example_g00247_impl_Tomb_loop_example_g00247_impl_Tomb) phi_slices_ContainsFunc_loop_example_g00247_impl_Tomb_loop_example_g00247_impl_Tomb mixed Tryz.func100 rfl rfl rfl (by decide) ?_
  intro ins r outs hr hl
  clear hl
  have hs := spHasTomb_in hr
  clear hr
  obtain ⟨l, t, rfl, hc, hr, rfl⟩ := hs
  simp only [spHasTomb, Tryz.f100, Go.VM.initS]
  have e : decide ((0 : Int) ≤ idxL (fun x => x.Uid == t.Uid) l) = hasTomb l t.Uid := idxL_any _ l
  simp only [e, hc, go_sem]
  simp only [fin_mk, finV, resL, resV1, resIn, endA, listIn, Option.some_or, Option.none_or, oneOrTup, go_sem]
  rw [← hr]
def mailAtOk (b : Box) (i : Nat) : Bool := within (b.Mails.getD i default).Uid 1 (b.Next - 1) && (i == 0 || decide ((b.Mails.getD (i - 1) default).Uid < (b.Mails.getD i default).Uid)) && flagsOk (b.Mails.getD i default).Flags && within (b.Mails.getD i default).Mod 1 b.Mod && mailOk (b.Mails.getD i default).Text
def tombIn (b : Box) (i : Nat) : Bool := within (b.Tombs.getD i default).Uid 1 (b.Next - 1) && within (b.Tombs.getD i default).Mod (b.Horizon + 1) b.Mod && !hasTomb (b.Tombs.take i) (b.Tombs.getD i default).Uid && !hasMail b.Mails (b.Tombs.getD i default).Uid
def tombOrd (b : Box) (i : Nat) : Bool := i == 0 || !(decide ((b.Tombs.getD i default).Mod < (b.Tombs.getD (i - 1) default).Mod) || ((b.Tombs.getD (i - 1) default).Mod == (b.Tombs.getD i default).Mod && decide ((b.Tombs.getD i default).Uid ≤ (b.Tombs.getD (i - 1) default).Uid)))
def tombAtOk (b : Box) (i : Nat) : Bool := tombIn b i && tombOrd b i
def mailsOk (b : Box) : Bool := allN b.Mails.length (mailAtOk b) && decide (b.Mails.length ≤ 30)
def tombsOk (b : Box) : Bool := allN b.Tombs.length (tombAtOk b) && decide (b.Tombs.length ≤ 40)
def numsOk (b : Box) : Bool := within b.Valid 1 9999 && within b.Next 1 9999 && within b.Mod 1 100000 && within b.Horizon 0 b.Mod
def boxOk (b : Box) : Bool := boxName b.Name && numsOk b && mailsOk b && tombsOk b
theorem numsOk_next {b : Box} (h : numsOk b = true) : (1 ≤ b.Next ∧ b.Next ≤ 9999) ∧ (0 ≤ b.Horizon ∧ b.Horizon ≤ b.Mod ∧ b.Mod ≤ 100000) := by
  simp only [numsOk, within, Bool.and_eq_true, decide_eq_true_eq] at h
  omega
open Classical in
noncomputable def spMailsOk : VM.Spec := { modes := [.rd], run := fun | [b'] => (Box.dec b').bind fun b => if b.le 4194304 ∧ numsOk b = true then some (.bool (mailsOk b), []) else none | _ => none, need := [] }
attribute [go_sem] spMailsOk
theorem spMailsOk_in {ins : List V} {r : V} {outs : List V} (h : spMailsOk.run ins = some (r, outs)) : ∃ (b : Box), ins = [Box.enc b] ∧ (b.le 4194304 ∧ numsOk b = true) ∧ .bool (mailsOk b) = r ∧ outs = [] := by
  unfold spMailsOk at h
  simp only at h
  split at h
  · rename_i b'
    simp only [Option.bind_eq_some_iff] at h
    obtain ⟨b, h_b, h⟩ := h
    split at h
    case isFalse => cases h
    rename_i hc
    simp only [Option.some.injEq, Prod.mk.injEq] at h
    obtain ⟨h1, h2⟩ := h
    have h_b := Box.dec_some h_b
    subst h_b
    exact ⟨b, rfl, hc, h1, h2.symm⟩
  · cases h
def T_impl_mailsOk : Hints := ⟨lk [(4, [])], lk [(2, [1, 6, 7, 8])], lk [(0, [1]), (1, [1, 6, 7, 8]), (2, [1, 6, 7, 8, 9]), (3, [1, 3, 4, 6, 7, 8]), (4, [1, 6, 7, 8, 55]), (5, [2]), (6, [1, 6, 7, 8]), (7, [2])], lk [], lf []⟩
noncomputable def Phi_impl_mailsOk : Tab := lk [(83, spWithin), (98, spFlagsOk), (99, spMailOk)]
attribute [go_sem] T_impl_mailsOk Phi_impl_mailsOk
theorem phi_impl_mailsOk : ∀ f sp, Phi_impl_mailsOk f = some sp → FnOk Tryz.prog f sp ∧ ∀ n ∈ sp.need, n ∈ ([] : List String) := phi_cons ok_impl_within (n0 rfl) (phi_cons ok_impl_FlagsOk (n0 rfl) (phi_cons ok_impl_MailOk (n0 rfl) (phi_nil)))
theorem ok_impl_mailsOk : FnOk Tryz.prog 85 spMailsOk := by
  refine fn_ok (Φ := Phi_impl_mailsOk) (T := T_impl_mailsOk) phi_impl_mailsOk mixed Tryz.func85 rfl rfl rfl (by decide) ?_
  intro ins r outs hr hl
  clear hl
  have hs := spMailsOk_in hr
  clear hr
  obtain ⟨b, rfl, hc, hr, rfl⟩ := hs
  simp only [spMailsOk, Tryz.f85, Go.VM.initS]
  obtain ⟨hc, hn⟩ := hc
  have hl : b.Mails.length ≤ 4194304 := hc.2.1.1
  have hmt : ∀ m ∈ b.Mails, m.Text.length ≤ 4194304 := hc.2.1.2
  have hnn := numsOk_next hn
  have hn1 : IntKind.i64.wrap (b.Next - 1) = b.Next - 1 := wrap64 (by omega) (by omega)
  simp only [go_sem]
  refine loop_go (fun i : Nat => [(8, .int .i64 (i : Int))]) (fun _ => []) (fun i => b.Mails.length - i) (fun i => i ≤ b.Mails.length ∧ ∀ j, j < i → mailAtOk b j = true) 0 ⟨Nat.zero_le _, fun j hj => absurd hj (by omega)⟩ rfl rfl ?_
  intro i ⟨hi, ha⟩ ih
  rcases Nat.lt_or_ge i b.Mails.length with h | h
  · have g1 : (i : Int) < b.Mails.length := by omega
    have g2 : (0 : Int) ≤ i := by omega
    have g3 : b.Mails[i]? = some b.Mails[i] := List.getElem?_eq_getElem h
    have g5 := wrap_succ h (by omega)
    have gt : b.Mails[i].Text.length ≤ 4194304 := hmt _ (List.getElem_mem h)
    simp only [g1, g2, g3, go_sem]
    refine goes_valD 55 V.bool (!mailAtOk b i) rfl rfl rfl (by decide +kernel) ?_ ?_
    · intro G hG
      clear ih hr ha
      rcases Nat.eq_zero_or_pos i with h0 | h0
      · have k1 : ¬ (0 : Int) < i := by omega
        have g6 : mailAtOk b i = (within b.Mails[i].Uid 1 (b.Next - 1) && flagsOk b.Mails[i].Flags && within b.Mails[i].Mod 1 b.Mod && mailOk b.Mails[i].Text) := by
          have : (i == 0) = true := by simp [h0]
          simp only [mailAtOk, getD_lt h, this, Bool.true_or, Bool.and_true]
        simp only [g1, g2, g3, k1, hn1, gt, go_sem]
        repeat' ((first | ((first | apply qa | apply qb | apply qc | apply qd | apply qe | apply qf | apply qg | apply qh | apply qi | apply qj | apply qk) <;> intro hp) | ((first | refine ql rfl rfl (by decide +kernel) ?_ | refine qm _ rfl rfl (by decide +kernel) ?_) <;> have hp := True.intro)) <;> simp only [hp, g1, g2, g3, k1, hn1, gt, go_sem])
        all_goals ((first | refine hG _ ?_ | (simp only [*] at hG; refine hG _ ?_)); clear hG; rw [g6]; simp_all)
      · have k1 : (0 : Int) < i := by omega
        have k2 := wrap_pred h0 (by omega)
        have k3 : (0 : Int) ≤ ((i - 1 : Nat) : Int) := by omega
        have k4 : ((i - 1 : Nat) : Int) < b.Mails.length := by omega
        have k5 : b.Mails[i - 1]? = some (b.Mails[i - 1]'(by omega)) := List.getElem?_eq_getElem (by omega)
        have g6 : mailAtOk b i = (within b.Mails[i].Uid 1 (b.Next - 1) && decide ((b.Mails[i - 1]'(by omega)).Uid < b.Mails[i].Uid) && flagsOk b.Mails[i].Flags && within b.Mails[i].Mod 1 b.Mod && mailOk b.Mails[i].Text) := by
          have : (i == 0) = false := by simp; omega
          simp only [mailAtOk, getD_lt h, getD_lt (show i - 1 < b.Mails.length by omega), this, Bool.false_or]
        rcases Int.lt_or_le (b.Mails[i - 1]'(by omega)).Uid b.Mails[i].Uid with q | q
        · have q' : ¬ b.Mails[i].Uid ≤ (b.Mails[i - 1]'(by omega)).Uid := by omega
          simp only [g1, g2, g3, k1, k2, k3, k4, k5, q', hn1, gt, go_sem]
          repeat' ((first | ((first | apply qa | apply qb | apply qc | apply qd | apply qe | apply qf | apply qg | apply qh | apply qi | apply qj | apply qk) <;> intro hp) | ((first | refine ql rfl rfl (by decide +kernel) ?_ | refine qm _ rfl rfl (by decide +kernel) ?_) <;> have hp := True.intro)) <;> simp only [hp, g1, g2, g3, k1, k2, k3, k4, k5, q', hn1, gt, go_sem])
          all_goals ((first | refine hG _ ?_ | (simp only [*] at hG; refine hG _ ?_)); clear hG k2 k5; rw [g6, decide_eq_true q]; simp_all)
        · have q' : ¬ (b.Mails[i - 1]'(by omega)).Uid < b.Mails[i].Uid := by omega
          simp only [g1, g2, g3, k1, k2, k3, k4, k5, q, hn1, gt, go_sem]
          repeat' ((first | ((first | apply qa | apply qb | apply qc | apply qd | apply qe | apply qf | apply qg | apply qh | apply qi | apply qj | apply qk) <;> intro hp) | ((first | refine ql rfl rfl (by decide +kernel) ?_ | refine qm _ rfl rfl (by decide +kernel) ?_) <;> have hp := True.intro)) <;> simp only [hp, g1, g2, g3, k1, k2, k3, k4, k5, q, hn1, gt, go_sem])
          all_goals ((first | refine hG _ ?_ | (simp only [*] at hG; refine hG _ ?_)); clear hG k2 k5; rw [g6, decide_eq_false q']; simp_all)
    · simp only [g5, go_sem]
      repeat' ((first | ((first | apply qa | apply qb | apply qc | apply qd | apply qe | apply qf | apply qg | apply qh | apply qi | apply qj | apply qk) <;> intro hp) | ((first | refine ql rfl rfl (by decide +kernel) ?_ | refine qm _ rfl rfl (by decide +kernel) ?_) <;> have hp := True.intro)) <;> simp only [hp, g5, go_sem])
      · simp only [fin_mk, finV, resL, resV1, resIn, endA, listIn, Option.some_or, Option.none_or, oneOrTup, go_sem]
        rw [← hr]
        rw [mailsOk, allN_bad h hp]; rfl
      · exact ih (i + 1) ⟨h, all_succ ha hp⟩ (by omega)
  · have g1 : ¬ (i : Int) < b.Mails.length := by omega
    simp only [g1, go_sem]
    simp only [fin_mk, finV, resL, resV1, resIn, endA, listIn, Option.some_or, Option.none_or, oneOrTup, go_sem]
    rw [← hr]
    rw [mailsOk, allN_all h ha, Bool.true_and]
    congr 2
    simp
    omega
open Classical in
noncomputable def spTombsOk : VM.Spec := { modes := [.rd], run := fun | [b'] => (Box.dec b').bind fun b => if b.le 4194304 ∧ numsOk b = true then some (.bool (tombsOk b), []) else none | _ => none, need := [] }
attribute [go_sem] spTombsOk
theorem spTombsOk_in {ins : List V} {r : V} {outs : List V} (h : spTombsOk.run ins = some (r, outs)) : ∃ (b : Box), ins = [Box.enc b] ∧ (b.le 4194304 ∧ numsOk b = true) ∧ .bool (tombsOk b) = r ∧ outs = [] := by
  unfold spTombsOk at h
  simp only at h
  split at h
  · rename_i b'
    simp only [Option.bind_eq_some_iff] at h
    obtain ⟨b, h_b, h⟩ := h
    split at h
    case isFalse => cases h
    rename_i hc
    simp only [Option.some.injEq, Prod.mk.injEq] at h
    obtain ⟨h1, h2⟩ := h
    have h_b := Box.dec_some h_b
    subst h_b
    exact ⟨b, rfl, hc, h1, h2.symm⟩
  · cases h
def T_impl_tombsOk : Hints := ⟨lk [(7, []), (5, [])], lk [(2, [1, 7, 8, 9])], lk [(0, [1]), (1, [1, 7, 8, 9]), (2, [1, 7, 8, 9, 10]), (3, [1, 3, 4, 7, 8, 9]), (4, [1, 3, 4, 5, 7, 8, 9]), (5, [1, 3, 4, 7, 8, 9, 47]), (6, [2]), (7, [1, 7, 8, 9, 85]), (8, [2]), (9, [1, 7, 8, 9]), (10, [2])], lk [], lf []⟩
noncomputable def Phi_impl_tombsOk : Tab := lk [(83, spWithin), (100, spHasTomb), (102, spMailAt)]
attribute [go_sem] T_impl_tombsOk Phi_impl_tombsOk
theorem phi_impl_tombsOk : ∀ f sp, Phi_impl_tombsOk f = some sp → FnOk Tryz.prog f sp ∧ ∀ n ∈ sp.need, n ∈ ([] : List String) := phi_cons ok_impl_within (n0 rfl) (phi_cons ok_slices_ContainsFunc_loop_example_g00247_impl_Tomb_loop_example_g00247_impl_Tomb (n0 rfl) (phi_cons ok_impl_mailAt (n0 rfl) (phi_nil)))
theorem ok_impl_tombsOk : FnOk Tryz.prog 86 spTombsOk := by
  refine fn_ok (Φ := Phi_impl_tombsOk) (T := T_impl_tombsOk) phi_impl_tombsOk mixed Tryz.func86 rfl rfl rfl (by decide) ?_
  intro ins r outs hr hl
  clear hl
  have hs := spTombsOk_in hr
  clear hr
  obtain ⟨b, rfl, hc, hr, rfl⟩ := hs
  simp only [spTombsOk, Tryz.f86, Go.VM.initS]
  obtain ⟨hc, hn⟩ := hc
  have hl : b.Tombs.length ≤ 4194304 := hc.2.2.1
  have hnn := numsOk_next hn
  have hn1 : IntKind.i64.wrap (b.Next - 1) = b.Next - 1 := wrap64 (by omega) (by omega)
  have hn2 : IntKind.i64.wrap (b.Horizon + 1) = b.Horizon + 1 := wrap64 (by omega) (by omega)
  simp only [go_sem]
  refine loop_go (fun i : Nat => [(9, .int .i64 (i : Int))]) (fun _ => []) (fun i => b.Tombs.length - i) (fun i => i ≤ b.Tombs.length ∧ ∀ j, j < i → tombAtOk b j = true) 0 ⟨Nat.zero_le _, fun j hj => absurd hj (by omega)⟩ rfl rfl ?_
  intro i ⟨hi, ha⟩ ih
  rcases Nat.lt_or_ge i b.Tombs.length with h | h
  · have g1 : (i : Int) < b.Tombs.length := by omega
    have g2 : (0 : Int) ≤ i := by omega
    have g3 : b.Tombs[i]? = some b.Tombs[i] := List.getElem?_eq_getElem h
    have g4 : i ≤ b.Tombs.length := hi
    have g5 := wrap_succ h (by omega)
    have gl : (b.Tombs.take i).length ≤ 4194304 := by rw [List.length_take]; omega
    have gm : decide ((0 : Int) ≤ idxL (fun x => x.Uid == b.Tombs[i].Uid) b.Mails) = hasMail b.Mails b.Tombs[i].Uid := idxL_any _ _
    simp only [g1, g2, g3, g4, gl, Nat.zero_le, go_sem]
    refine goes_val 47 V.bool (!tombIn b i) rfl rfl ?_ ?_
    · intro G hG
      clear ih hr ha
      have g6 : tombIn b i = (within b.Tombs[i].Uid 1 (b.Next - 1) && within b.Tombs[i].Mod (b.Horizon + 1) b.Mod && !hasTomb (b.Tombs.take i) b.Tombs[i].Uid && !hasMail b.Mails b.Tombs[i].Uid) := by
        simp only [tombIn, getD_lt h]
      simp only [hn1, hn2, hc, gm, go_sem]
      repeat' ((first | ((first | apply qa | apply qb | apply qc | apply qd | apply qe | apply qf | apply qg | apply qh | apply qi | apply qj | apply qk) <;> intro hp) | ((first | refine ql rfl rfl (by decide +kernel) ?_ | refine qm _ rfl rfl (by decide +kernel) ?_) <;> have hp := True.intro)) <;> simp only [hp, hn1, hn2, hc, gm, go_sem])
      all_goals ((first | refine hG _ ?_ | (simp only [*] at hG; refine hG _ ?_)); clear hG; rw [g6]; simp_all)
    simp only [go_sem]
    refine condG_not.2 ⟨fun hq => ?_, fun hq => ?_⟩
    · simp only [go_sem]
      simp only [fin_mk, finV, resL, resV1, resIn, endA, listIn, Option.some_or, Option.none_or, oneOrTup, go_sem]
      rw [← hr]
      rw [tombsOk, allN_bad h (by rw [tombAtOk, hq]; rfl)]; rfl
    simp only [go_sem]
    refine goes_valD 85 V.bool (!tombOrd b i) rfl rfl rfl (by decide +kernel) ?_ ?_
    · intro G hG
      clear ih hr ha
      rcases Nat.eq_zero_or_pos i with h0 | h0
      · have k1 : ¬ (0 : Int) < i := by omega
        have g6 : tombOrd b i = true := by
          have : (i == 0) = true := by simp [h0]
          simp only [tombOrd, this, Bool.true_or]
        simp only [g1, g2, g3, k1, go_sem]
        repeat' ((first | ((first | apply qa | apply qb | apply qc | apply qd | apply qe | apply qf | apply qg | apply qh | apply qi | apply qj | apply qk) <;> intro hp) | ((first | refine ql rfl rfl (by decide +kernel) ?_ | refine qm _ rfl rfl (by decide +kernel) ?_) <;> have hp := True.intro)) <;> simp only [hp, g1, g2, g3, k1, go_sem])
        all_goals (refine hG _ ?_; rw [g6]; rfl)
      · have k1 : (0 : Int) < i := by omega
        have k2 := wrap_pred h0 (by omega)
        have k3 : (0 : Int) ≤ ((i - 1 : Nat) : Int) := by omega
        have k4 : ((i - 1 : Nat) : Int) < b.Tombs.length := by omega
        have k5 : b.Tombs[i - 1]? = some (b.Tombs[i - 1]'(by omega)) := List.getElem?_eq_getElem (by omega)
        have g6 : tombOrd b i = !(decide (b.Tombs[i].Mod < (b.Tombs[i - 1]'(by omega)).Mod) || ((b.Tombs[i - 1]'(by omega)).Mod == b.Tombs[i].Mod && decide (b.Tombs[i].Uid ≤ (b.Tombs[i - 1]'(by omega)).Uid))) := by
          have : (i == 0) = false := by simp; omega
          simp only [tombOrd, getD_lt h, getD_lt (show i - 1 < b.Tombs.length by omega), this, Bool.false_or]
        simp only [g1, g2, g3, k1, k2, k3, k4, k5, go_sem]
        repeat' ((first | ((first | apply qa | apply qb | apply qc | apply qd | apply qe | apply qf | apply qg | apply qh | apply qi | apply qj | apply qk) <;> intro hp) | ((first | refine ql rfl rfl (by decide +kernel) ?_ | refine qm _ rfl rfl (by decide +kernel) ?_) <;> have hp := True.intro)) <;> simp only [hp, g1, g2, g3, k1, k2, k3, k4, k5, go_sem])
        all_goals ((first | refine hG _ ?_ | (simp only [*] at hG; refine hG _ ?_)); clear hG k2 k5; rw [g6]; simp_all)
    · simp only [g5, go_sem]
      repeat' ((first | ((first | apply qa | apply qb | apply qc | apply qd | apply qe | apply qf | apply qg | apply qh | apply qi | apply qj | apply qk) <;> intro hp) | ((first | refine ql rfl rfl (by decide +kernel) ?_ | refine qm _ rfl rfl (by decide +kernel) ?_) <;> have hp := True.intro)) <;> simp only [hp, g5, go_sem])
      · simp only [fin_mk, finV, resL, resV1, resIn, endA, listIn, Option.some_or, Option.none_or, oneOrTup, go_sem]
        rw [← hr]
        rw [tombsOk, allN_bad h (by rw [tombAtOk, hq, hp]; rfl)]; rfl
      · exact ih (i + 1) ⟨h, all_succ ha (by rw [tombAtOk, hq, hp]; rfl)⟩ (by omega)
  · have g1 : ¬ (i : Int) < b.Tombs.length := by omega
    simp only [g1, go_sem]
    simp only [fin_mk, finV, resL, resV1, resIn, endA, listIn, Option.some_or, Option.none_or, oneOrTup, go_sem]
    rw [← hr]
    rw [tombsOk, allN_all h ha, Bool.true_and]
    congr 2
    simp
    omega
open Classical in
noncomputable def spBoxOk : VM.Spec := { modes := [.rd], run := fun | [b'] => (Box.dec b').bind fun b => if b.le 4194304 then some (.bool (boxOk b), []) else none | _ => none, need := [] }
attribute [go_sem] spBoxOk
theorem spBoxOk_in {ins : List V} {r : V} {outs : List V} (h : spBoxOk.run ins = some (r, outs)) : ∃ (b : Box), ins = [Box.enc b] ∧ (b.le 4194304) ∧ .bool (boxOk b) = r ∧ outs = [] := by
  unfold spBoxOk at h
  simp only at h
  split at h
  · rename_i b'
    simp only [Option.bind_eq_some_iff] at h
    obtain ⟨b, h_b, h⟩ := h
    split at h
    case isFalse => cases h
    rename_i hc
    simp only [Option.some.injEq, Prod.mk.injEq] at h
    obtain ⟨h1, h2⟩ := h
    have h_b := Box.dec_some h_b
    subst h_b
    exact ⟨b, rfl, hc, h1, h2.symm⟩
  · cases h
def T_impl_BoxOk : Hints := ⟨lk [(1, [])], lk [], lk [(0, [1]), (1, [1, 3]), (2, [2])], lk [], lf []⟩
noncomputable def Phi_impl_BoxOk : Tab := lk [(82, spUid), (83, spWithin), (84, spBoxName), (85, spMailsOk), (86, spTombsOk)]
attribute [go_sem] T_impl_BoxOk Phi_impl_BoxOk
theorem phi_impl_BoxOk : ∀ f sp, Phi_impl_BoxOk f = some sp → FnOk Tryz.prog f sp ∧ ∀ n ∈ sp.need, n ∈ ([] : List String) := phi_cons ok_impl_isUid (n0 rfl) (phi_cons ok_impl_within (n0 rfl) (phi_cons ok_impl_BoxName (n0 rfl) (phi_cons ok_impl_mailsOk (n0 rfl) (phi_cons ok_impl_tombsOk (n0 rfl) (phi_nil)))))
theorem ok_impl_BoxOk : FnOk Tryz.prog 59 spBoxOk := by
  refine fn_ok (Φ := Phi_impl_BoxOk) (T := T_impl_BoxOk) phi_impl_BoxOk mixed Tryz.func59 rfl rfl rfl (by decide) ?_
  intro ins r outs hr hl
  clear hl
  have hs := spBoxOk_in hr
  clear hr
  obtain ⟨b, rfl, hc, hr, rfl⟩ := hs
  simp only [spBoxOk, Tryz.f59, Go.VM.initS]
  have hb : b.Name.length ≤ 1099511627776 := Nat.le_trans hc.1 (by decide)
  simp only [go_sem]
  refine goes_val 3 V.bool (numsOk b) rfl rfl ?_ ?_
  · intro G hG
    simp only [go_sem]
    repeat' ((first | apply qa | apply qb | apply qc | apply qd | apply qe | apply qf | apply qg | apply qh | apply qi | apply qj | apply qk) <;> intro hp <;> simp only [hp, go_sem])
    all_goals ((first | refine hG _ ?_ | (simp only [*] at hG; refine hG _ ?_)); clear hG; simp_all [numsOk])
  cases hn : numsOk b with
  | false =>
    simp only [hb, hn, go_sem]
    repeat' ((first | apply qa | apply qb | apply qc | apply qd | apply qe | apply qf | apply qg | apply qh | apply qi | apply qj | apply qk) <;> intro hp <;> simp only [hp, hb, hn, go_sem])
    all_goals (simp only [fin_mk, finV, resL, resV1, resIn, endA, listIn, Option.some_or, Option.none_or, oneOrTup, go_sem]; rw [← hr])
    all_goals simp [boxOk, hn]
  | true =>
    simp only [hb, hn, hc, and_self, go_sem]
    repeat' ((first | apply qa | apply qb | apply qc | apply qd | apply qe | apply qf | apply qg | apply qh | apply qi | apply qj | apply qk) <;> intro hp <;> simp only [hp, hb, hn, hc, and_self, go_sem])
    all_goals (simp only [fin_mk, finV, resL, resV1, resIn, endA, listIn, Option.some_or, Option.none_or, oneOrTup, go_sem]; rw [← hr])
    all_goals simp_all [boxOk]
def T_spec_BoxOk : Hints := ⟨lk [(7, []), (18, []), (20, []), (1, []), (13, [])], lk [(4, [1, 3]), (10, [1, 5]), (16, [1, 5, 6, 7])], lk [(0, [1]), (1, [1, 49]), (2, [2]), (3, [1, 3]), (4, [1, 3, 54]), (6, [1, 3, 4]), (7, [1, 3, 104]), (8, [2]), (5, [1, 3]), (9, [1, 5]), (10, [1, 5, 109]), (12, [1, 5, 6]), (13, [1, 5, 6, 143]), (14, [2]), (15, [1, 5, 6, 7]), (16, [1, 5, 6, 7, 146]), (18, [1, 5, 6, 7, 157]), (19, [2]), (17, [1, 5, 6, 7]), (20, [1, 5, 195]), (21, [2]), (11, [1, 5]), (22, [2])], lk [], lf []⟩
noncomputable def Phi_spec_BoxOk : Tab := lk [(51, spWithin), (50, spBoxName), (52, spFlagsOk), (53, spMailOk), (54, spHasMail)]
attribute [go_sem] T_spec_BoxOk Phi_spec_BoxOk
theorem phi_spec_BoxOk : ∀ f sp, Phi_spec_BoxOk f = some sp → FnOk Tryz.prog f sp ∧ ∀ n ∈ sp.need, n ∈ ([] : List String) := phi_cons ok_spec_l01In (n0 rfl) (phi_cons ok_spec_BoxName (n0 rfl) (phi_cons ok_spec_FlagsOk (n0 rfl) (phi_cons ok_spec_MailOk (n0 rfl) (phi_cons ok_spec_l08HasMail (n0 rfl) (phi_nil)))))
theorem ok_spec_BoxOk : FnOk Tryz.prog 28 spBoxOk := by
  refine fn_ok (Φ := Phi_spec_BoxOk) (T := T_spec_BoxOk) phi_spec_BoxOk mixed Tryz.func28 rfl rfl rfl (by decide) ?_
  intro ins r outs hr hl
  clear hl
  have hs := spBoxOk_in hr
  clear hr
  obtain ⟨b, rfl, hc, hr, rfl⟩ := hs
  simp only [spBoxOk, Tryz.f28, Go.VM.initS]
  have hb : b.Name.length ≤ 1099511627776 := Nat.le_trans hc.1 (by decide)
  have hl : b.Mails.length ≤ 4194304 := hc.2.1.1
  have hlt : b.Tombs.length ≤ 4194304 := hc.2.2.1
  have hmt : ∀ m ∈ b.Mails, m.Text.length ≤ 4194304 := hc.2.1.2
  have l1 : decide ((30 : Int) < b.Mails.length) = !decide (b.Mails.length ≤ 30) := by
    rcases Nat.lt_or_ge 30 b.Mails.length with h | h
    · simp [show ¬ b.Mails.length ≤ 30 by omega]; omega
    · simp [h]; omega
  have l2 : decide ((40 : Int) < b.Tombs.length) = !decide (b.Tombs.length ≤ 40) := by
    rcases Nat.lt_or_ge 40 b.Tombs.length with h | h
    · simp [show ¬ b.Tombs.length ≤ 40 by omega]; omega
    · simp [h]; omega
  simp only [go_sem]
  refine goes_val 49 V.bool (!(boxName b.Name && numsOk b && decide (b.Mails.length ≤ 30) && decide (b.Tombs.length ≤ 40))) rfl rfl ?_ ?_
  · intro G hG
    simp only [hb, l1, l2, go_sem]
    repeat' ((first | ((first | apply qa | apply qb | apply qc | apply qd | apply qe | apply qf | apply qg | apply qh | apply qi | apply qj | apply qk) <;> intro hp) | ((first | refine ql rfl rfl (by decide +kernel) ?_ | refine qm _ rfl rfl (by decide +kernel) ?_) <;> have hp := True.intro)) <;> simp only [hp, hb, l1, l2, go_sem])
    all_goals ((first | refine hG _ ?_ | (simp only [*] at hG; refine hG _ ?_)); clear hG; simp_all [numsOk])
  simp only [go_sem]
  refine condG_not.2 ⟨fun hq => ?_, fun hq => ?_⟩
  · simp only [go_sem]
    simp only [fin_mk, finV, resL, resV1, resIn, endA, listIn, Option.some_or, Option.none_or, oneOrTup, go_sem]
    rw [← hr]
    congr 3
    symm
    rw [Bool.eq_false_iff]
    intro hx
    simp only [boxOk, mailsOk, tombsOk, Bool.and_eq_true] at hx
    simp only [hx, Bool.and_self, Bool.true_eq_false] at hq
  simp only [Bool.and_eq_true] at hq
  obtain ⟨⟨⟨q1, q2⟩, q3⟩, q4⟩ := hq
  have hnn := numsOk_next q2
  have hn1 : IntKind.i64.wrap (b.Next - 1) = b.Next - 1 := wrap64 (by omega) (by omega)
  have hm : mailsOk b = allN b.Mails.length (mailAtOk b) := by rw [mailsOk, q3, Bool.and_true]
  have ht : tombsOk b = allN b.Tombs.length (tombAtOk b) := by rw [tombsOk, q4, Bool.and_true]
  clear l1 l2
  simp only [go_sem]
  refine loop_go (fun i : Nat => [(3, .int .i64 (i : Int))]) (fun _ => []) (fun i => b.Mails.length - i) (fun i => i ≤ b.Mails.length ∧ ∀ j, j < i → mailAtOk b j = true) 0 ⟨Nat.zero_le _, fun j hj => absurd hj (by omega)⟩ rfl rfl ?_
  intro i ⟨hi, ha⟩ ih
  rcases Nat.lt_or_ge i b.Mails.length with h | h
  · have g1 : (i : Int) < b.Mails.length := by omega
    have g2 : (0 : Int) ≤ i := by omega
    have g3 : b.Mails[i]? = some b.Mails[i] := List.getElem?_eq_getElem h
    have g5 := wrap_succ h (by omega)
    have gt : b.Mails[i].Text.length ≤ 4194304 := hmt _ (List.getElem_mem h)
    simp only [g1, g2, g3, go_sem]
    refine goes_valD 104 V.bool (!mailAtOk b i) rfl rfl rfl (by decide +kernel) ?_ ?_
    · intro G hG
      clear ih hr ha
      rcases Nat.eq_zero_or_pos i with h0 | h0
      · have k1 : ¬ (0 : Int) < i := by omega
        have g6 : mailAtOk b i = (within b.Mails[i].Uid 1 (b.Next - 1) && flagsOk b.Mails[i].Flags && within b.Mails[i].Mod 1 b.Mod && mailOk b.Mails[i].Text) := by
          have : (i == 0) = true := by simp [h0]
          simp only [mailAtOk, getD_lt h, this, Bool.true_or, Bool.and_true]
        simp only [g1, g2, g3, k1, hn1, gt, go_sem]
        repeat' ((first | ((first | apply qa | apply qb | apply qc | apply qd | apply qe | apply qf | apply qg | apply qh | apply qi | apply qj | apply qk) <;> intro hp) | ((first | refine ql rfl rfl (by decide +kernel) ?_ | refine qm _ rfl rfl (by decide +kernel) ?_) <;> have hp := True.intro)) <;> simp only [hp, g1, g2, g3, k1, hn1, gt, go_sem])
        all_goals ((first | refine hG _ ?_ | (simp only [*] at hG; refine hG _ ?_)); clear hG; rw [g6]; simp_all)
      · have k1 : (0 : Int) < i := by omega
        have k2 := wrap_pred h0 (by omega)
        have k3 : (0 : Int) ≤ ((i - 1 : Nat) : Int) := by omega
        have k4 : ((i - 1 : Nat) : Int) < b.Mails.length := by omega
        have k5 : b.Mails[i - 1]? = some (b.Mails[i - 1]'(by omega)) := List.getElem?_eq_getElem (by omega)
        have g6 : mailAtOk b i = (within b.Mails[i].Uid 1 (b.Next - 1) && decide ((b.Mails[i - 1]'(by omega)).Uid < b.Mails[i].Uid) && flagsOk b.Mails[i].Flags && within b.Mails[i].Mod 1 b.Mod && mailOk b.Mails[i].Text) := by
          have : (i == 0) = false := by simp; omega
          simp only [mailAtOk, getD_lt h, getD_lt (show i - 1 < b.Mails.length by omega), this, Bool.false_or]
        rcases Int.lt_or_le (b.Mails[i - 1]'(by omega)).Uid b.Mails[i].Uid with q | q
        · have q' : ¬ b.Mails[i].Uid ≤ (b.Mails[i - 1]'(by omega)).Uid := by omega
          simp only [g1, g2, g3, k1, k2, k3, k4, k5, q', hn1, gt, go_sem]
          repeat' ((first | ((first | apply qa | apply qb | apply qc | apply qd | apply qe | apply qf | apply qg | apply qh | apply qi | apply qj | apply qk) <;> intro hp) | ((first | refine ql rfl rfl (by decide +kernel) ?_ | refine qm _ rfl rfl (by decide +kernel) ?_) <;> have hp := True.intro)) <;> simp only [hp, g1, g2, g3, k1, k2, k3, k4, k5, q', hn1, gt, go_sem])
          all_goals ((first | refine hG _ ?_ | (simp only [*] at hG; refine hG _ ?_)); clear hG k2 k5; rw [g6, decide_eq_true q]; simp_all)
        · have q' : ¬ (b.Mails[i - 1]'(by omega)).Uid < b.Mails[i].Uid := by omega
          simp only [g1, g2, g3, k1, k2, k3, k4, k5, q, hn1, gt, go_sem]
          repeat' ((first | ((first | apply qa | apply qb | apply qc | apply qd | apply qe | apply qf | apply qg | apply qh | apply qi | apply qj | apply qk) <;> intro hp) | ((first | refine ql rfl rfl (by decide +kernel) ?_ | refine qm _ rfl rfl (by decide +kernel) ?_) <;> have hp := True.intro)) <;> simp only [hp, g1, g2, g3, k1, k2, k3, k4, k5, q, hn1, gt, go_sem])
          all_goals ((first | refine hG _ ?_ | (simp only [*] at hG; refine hG _ ?_)); clear hG k2 k5; rw [g6, decide_eq_false q']; simp_all)
    · simp only [g5, go_sem]
      repeat' ((first | ((first | apply qa | apply qb | apply qc | apply qd | apply qe | apply qf | apply qg | apply qh | apply qi | apply qj | apply qk) <;> intro hp) | ((first | refine ql rfl rfl (by decide +kernel) ?_ | refine qm _ rfl rfl (by decide +kernel) ?_) <;> have hp := True.intro)) <;> simp only [hp, g5, go_sem])
      · simp only [fin_mk, finV, resL, resV1, resIn, endA, listIn, Option.some_or, Option.none_or, oneOrTup, go_sem]
        rw [← hr]
        rw [boxOk, hm, allN_bad h hp, Bool.and_false]; rfl
      · exact ih (i + 1) ⟨h, all_succ ha hp⟩ (by omega)
  have hm1 : mailsOk b = true := by rw [hm, allN_all h ha]
  clear ih
  have g1 : ¬ (i : Int) < b.Mails.length := by omega
  simp only [g1, go_sem]
  refine loop_go (fun i : Nat => [(5, .int .i64 (i : Int))]) (fun _ => []) (fun i => b.Tombs.length - i) (fun i => i ≤ b.Tombs.length ∧ ∀ j, j < i → tombAtOk b j = true) 0 ⟨Nat.zero_le _, fun j hj => absurd hj (by omega)⟩ rfl rfl ?_
  clear g1 ha hi h i
  intro i ⟨hi, ha⟩ ih
  rcases Nat.lt_or_ge i b.Tombs.length with h | h
  case inr =>
    have g1 : ¬ (i : Int) < b.Tombs.length := by omega
    simp only [g1, go_sem]
    simp only [fin_mk, finV, resL, resV1, resIn, endA, listIn, Option.some_or, Option.none_or, oneOrTup, go_sem]
    rw [← hr]
    rw [boxOk, q1, q2, hm1, ht, allN_all h ha]; rfl
  have g1 : (i : Int) < b.Tombs.length := by omega
  have g2 : (0 : Int) ≤ i := by omega
  have g3 : b.Tombs[i]? = some b.Tombs[i] := List.getElem?_eq_getElem h
  have g5 := wrap_succ h (by omega)
  have hbad : tombAtOk b i = false → V.bool false = r := fun hx => by
    rw [← hr, boxOk, ht, allN_bad h hx, Bool.and_false]
  simp only [g1, g2, g3, go_sem]
  have e1 : decide (b.Tombs[i].Mod ≤ b.Horizon) = !decide (b.Horizon < b.Tombs[i].Mod) := by
    rcases Int.lt_or_le b.Horizon b.Tombs[i].Mod with p | p
    · simp [p]
    · simp [p]
  have e2 : decide (b.Mod < b.Tombs[i].Mod) = !decide (b.Tombs[i].Mod ≤ b.Mod) := by
    rcases Int.lt_or_le b.Mod b.Tombs[i].Mod with p | p
    · simp [p]
    · simp [p]
  have ew : within b.Tombs[i].Mod (b.Horizon + 1) b.Mod = (decide (b.Horizon < b.Tombs[i].Mod) && decide (b.Tombs[i].Mod ≤ b.Mod)) := by
    simp only [within, Int.add_one_le_iff]
  refine goes_val 143 V.bool (!(within b.Tombs[i].Uid 1 (b.Next - 1) && decide (b.Horizon < b.Tombs[i].Mod) && decide (b.Tombs[i].Mod ≤ b.Mod) && !hasMail b.Mails b.Tombs[i].Uid)) rfl rfl ?_ ?_
  · intro G hG
    clear ih hr ha hbad ew
    simp only [hn1, hc, e1, e2, go_sem]
    repeat' ((first | ((first | apply qa | apply qb | apply qc | apply qd | apply qe | apply qf | apply qg | apply qh | apply qi | apply qj | apply qk) <;> intro hp) | ((first | refine ql rfl rfl (by decide +kernel) ?_ | refine qm _ rfl rfl (by decide +kernel) ?_) <;> have hp := True.intro)) <;> simp only [hp, hn1, hc, e1, e2, go_sem])
    all_goals ((first | refine hG _ ?_ | (simp only [*] at hG; refine hG _ ?_)); clear hG e1 e2; simp_all)
  clear e1 e2
  simp only [go_sem]
  refine condG_not.2 ⟨fun hq => ?_, fun hq => ?_⟩
  · simp only [go_sem]
    simp only [fin_mk, finV, resL, resV1, resIn, endA, listIn, Option.some_or, Option.none_or, oneOrTup, go_sem]
    rw [hbad ?_]
    simp only [tombAtOk, tombIn, getD_lt h, ew, Bool.and_eq_false_iff] at hq ⊢
    rcases hq with ((hq | hq) | hq) | hq <;> simp only [hq, true_or, or_true]
  simp only [Bool.and_eq_true] at hq
  obtain ⟨⟨⟨t1, t2⟩, t3⟩, t4⟩ := hq
  simp only [go_sem]
  refine loop_go (fun k : Nat => [(7, .int .i64 (k : Int))]) (fun _ => []) (fun k => i - k) (fun k => k ≤ i ∧ (b.Tombs.take k).any (fun x => x.Uid == b.Tombs[i].Uid) = false) 0 ⟨Nat.zero_le _, by simp⟩ rfl rfl ?_
  intro k ⟨hki, hka⟩ ihk
  rcases Nat.lt_or_ge k i with hk | hk
  · have m1 : (k : Int) < i := by omega
    have m2 : (0 : Int) ≤ k := by omega
    have m3 : b.Tombs[k]? = some (b.Tombs[k]'(by omega)) := List.getElem?_eq_getElem (by omega)
    have m4 : (k : Int) < b.Tombs.length := by omega
    have m5 := wrap_succ hk (by omega)
    cases hv : ((b.Tombs[k]'(by omega)).Uid == b.Tombs[i].Uid) with
    | true =>
      clear ih ihk
      simp only [m1, m2, m3, m4, m5, hv, go_sem]
      repeat' ((first | ((first | apply qa | apply qb | apply qc | apply qd | apply qe | apply qf | apply qg | apply qh | apply qi | apply qj | apply qk) <;> intro hp) | ((first | refine ql rfl rfl (by decide +kernel) ?_ | refine qm _ rfl rfl (by decide +kernel) ?_) <;> have hp := True.intro)) <;> simp only [hp, m1, m2, m3, m4, m5, hv, go_sem])
      simp only [fin_mk, finV, resL, resV1, resIn, endA, listIn, Option.some_or, Option.none_or, oneOrTup, go_sem]
      rw [hbad ?_]
      have hx : (b.Tombs.take i).any (fun x => x.Uid == b.Tombs[i].Uid) = true :=
        any_bad (i := k) (by rw [List.length_take]; omega) (by rw [List.getElem_take]; exact hv)
      simp only [tombAtOk, tombIn, getD_lt h, hasTomb, hx, Bool.not_true, Bool.and_false, Bool.false_and]
    | false =>
      simp only [m1, m2, m3, m4, m5, hv, go_sem]
      repeat' ((first | ((first | apply qa | apply qb | apply qc | apply qd | apply qe | apply qf | apply qg | apply qh | apply qi | apply qj | apply qk) <;> intro hp) | ((first | refine ql rfl rfl (by decide +kernel) ?_ | refine qm _ rfl rfl (by decide +kernel) ?_) <;> have hp := True.intro)) <;> simp only [hp, m1, m2, m3, m4, m5, hv, go_sem])
      exact ihk (k + 1) ⟨hk, any_take_succ (by omega) hka hv⟩ (by omega)
  have hke : k = i := by omega
  subst hke
  clear ihk
  have tk : tombIn b k = true := by
    simp only [tombIn, getD_lt h, ew, hasTomb, hka, t1, t2, t3, t4, Bool.not_false, Bool.and_self]
  have m1 : ¬ (k : Int) < k := by omega
  simp only [m1, go_sem]
  refine goes_valD 195 V.bool (!tombOrd b k) rfl rfl rfl (by decide +kernel) ?_ ?_
  · intro G hG
    clear ih hr ha hbad
    rcases Nat.eq_zero_or_pos k with h0 | h0
    · have k1 : ¬ (0 : Int) < k := by omega
      have g6 : tombOrd b k = true := by
        have : (k == 0) = true := by simp [h0]
        simp only [tombOrd, this, Bool.true_or]
      simp only [g1, g2, g3, k1, go_sem]
      repeat' ((first | ((first | apply qa | apply qb | apply qc | apply qd | apply qe | apply qf | apply qg | apply qh | apply qi | apply qj | apply qk) <;> intro hp) | ((first | refine ql rfl rfl (by decide +kernel) ?_ | refine qm _ rfl rfl (by decide +kernel) ?_) <;> have hp := True.intro)) <;> simp only [hp, g1, g2, g3, k1, go_sem])
      all_goals (refine hG _ ?_; rw [g6]; rfl)
    · have k1 : (0 : Int) < k := by omega
      have k2 := wrap_pred h0 (by omega)
      have k3 : (0 : Int) ≤ ((k - 1 : Nat) : Int) := by omega
      have k4 : ((k - 1 : Nat) : Int) < b.Tombs.length := by omega
      have k5 : b.Tombs[k - 1]? = some (b.Tombs[k - 1]'(by omega)) := List.getElem?_eq_getElem (by omega)
      have g6 : tombOrd b k = !(decide (b.Tombs[k].Mod < (b.Tombs[k - 1]'(by omega)).Mod) || ((b.Tombs[k - 1]'(by omega)).Mod == b.Tombs[k].Mod && decide (b.Tombs[k].Uid ≤ (b.Tombs[k - 1]'(by omega)).Uid))) := by
        have : (k == 0) = false := by simp; omega
        simp only [tombOrd, getD_lt h, getD_lt (show k - 1 < b.Tombs.length by omega), this, Bool.false_or]
      simp only [g1, g2, g3, k1, k2, k3, k4, k5, go_sem]
      repeat' ((first | ((first | apply qa | apply qb | apply qc | apply qd | apply qe | apply qf | apply qg | apply qh | apply qi | apply qj | apply qk) <;> intro hp) | ((first | refine ql rfl rfl (by decide +kernel) ?_ | refine qm _ rfl rfl (by decide +kernel) ?_) <;> have hp := True.intro)) <;> simp only [hp, g1, g2, g3, k1, k2, k3, k4, k5, go_sem])
      all_goals ((first | refine hG _ ?_ | (simp only [*] at hG; refine hG _ ?_)); clear hG k2 k5; rw [g6]; simp_all)

  simp only [g5, go_sem]

  repeat' ((first | ((first | apply qa | apply qb | apply qc | apply qd | apply qe | apply qf | apply qg | apply qh | apply qi | apply qj | apply qk) <;> intro hp) | ((first | refine ql rfl rfl (by decide +kernel) ?_ | refine qm _ rfl rfl (by decide +kernel) ?_) <;> have hp := True.intro)) <;> simp only [hp, g5, go_sem])
  · simp only [fin_mk, finV, resL, resV1, resIn, endA, listIn, Option.some_or, Option.none_or, oneOrTup, go_sem]
    rw [hbad (by rw [tombAtOk, tk, hp]; rfl)]
  · exact ih (k + 1) ⟨h, all_succ ha (by rw [tombAtOk, tk, hp]; rfl)⟩ (by omega)
end Go.Proofs.YtghmjnggmacohaaGreatDoor.L

namespace Go.Proofs.YtghmjnggmacohaaGreatDoor.L
open Go Go.VM
set_option maxRecDepth 100000
set_option maxHeartbeats 4000000
set_option linter.unusedSimpArgs false
set_option linter.unusedVariables false
open Classical in
noncomputable def spCopyBox : VM.Spec := { modes := [.rd], run := fun | [b'] => (Box.dec b').bind fun b => if b.le 4194304 then some (Box.enc b, []) else none | _ => none, need := [] }
attribute [go_sem] spCopyBox
theorem spCopyBox_in {ins : List V} {r : V} {outs : List V} (h : spCopyBox.run ins = some (r, outs)) : ∃ (b : Box), ins = [Box.enc b] ∧ (b.le 4194304) ∧ Box.enc b = r ∧ outs = [] := by
  unfold spCopyBox at h
  simp only at h
  split at h
  · rename_i b'
    simp only [Option.bind_eq_some_iff] at h
    obtain ⟨b, h_b, h⟩ := h
    split at h
    case isFalse => cases h
    rename_i hc
    simp only [Option.some.injEq, Prod.mk.injEq] at h
    obtain ⟨h1, h2⟩ := h
    have h_b := Box.dec_some h_b
    subst h_b
    exact ⟨b, rfl, hc, h1, h2.symm⟩
  · cases h
def T_spec_l08Copy : Hints := ⟨lk [], lk [], lk [(0, [1, 2]), (1, [1, 2, 3]), (2, [1, 2, 3]), (3, [2, 3]), (4, [2])], lk [], lf []⟩
noncomputable def Phi_spec_l08Copy : Tab := lk []
attribute [go_sem] T_spec_l08Copy Phi_spec_l08Copy
theorem phi_spec_l08Copy : ∀ f sp, Phi_spec_l08Copy f = some sp → FnOk Tryz.prog f sp ∧ ∀ n ∈ sp.need, n ∈ ([] : List String) := phi_nil
theorem ok_spec_l08Copy : FnOk Tryz.prog 78 spCopyBox := by
  refine fn_ok (Φ := Phi_spec_l08Copy) (T := T_spec_l08Copy) phi_spec_l08Copy mixed Tryz.func78 rfl rfl rfl (by decide) ?_
  intro ins r outs hr hl
  clear hl
  have hs := spCopyBox_in hr
  clear hr
  obtain ⟨b, rfl, hc, hr, rfl⟩ := hs
  simp only [spCopyBox, Tryz.f78, Go.VM.initS]
  have hm : b.Mails.length ≤ 4194304 := hc.2.1.1
  have ht : b.Tombs.length ≤ 4194304 := hc.2.2.1
  have h1 : b.Mails.length * 40 ≤ 140737488355328 := by omega
  have h2 : b.Tombs.length * 16 ≤ 140737488355328 := by omega
  have h3 : b.Mails.length ≤ 9223372036854775807 := by omega
  have h4 : b.Tombs.length ≤ 9223372036854775807 := by omega
  simp only [h1, h2, h3, h4, go_sem]
  repeat' ((first | apply qa | apply qb | apply qc | apply qd | apply qe | apply qf | apply qg | apply qh | apply qi | apply qj | apply qk) <;> intro hp <;> simp only [hp, h1, h2, h3, h4, go_sem])
  simp only [fin_mk, finV, resL, resV1, resIn, endA, listIn, Option.some_or, Option.none_or, oneOrTup, go_sem]
  rw [← hr]
  rfl
def boxFresh (name : List UInt8) (valid : Int) : Box := ⟨name, valid, 1, 1, [], [], 0⟩
def boxZero : Box := ⟨[], 0, 0, 0, [], [], 0⟩
def boxNew (name : List UInt8) (valid : Int) : Box := if boxOk (boxFresh name valid) = true then boxFresh name valid else boxZero
open Classical in
noncomputable def spBoxNew : VM.Spec := { modes := [.rd, .rd], run := fun | [.str name, .int .i64 valid] => if name.length ≤ 4194304 then some (.tup [Box.enc (boxNew name valid), .bool (boxOk (boxFresh name valid))], []) else none | _ => none, need := [] }
attribute [go_sem] spBoxNew
theorem spBoxNew_in {ins : List V} {r : V} {outs : List V} (h : spBoxNew.run ins = some (r, outs)) : ∃ (name : (List UInt8)) (valid : Int), ins = [.str name, .int .i64 valid] ∧ (name.length ≤ 4194304) ∧ .tup [Box.enc (boxNew name valid), .bool (boxOk (boxFresh name valid))] = r ∧ outs = [] := by
  unfold spBoxNew at h
  simp only at h
  split at h
  · rename_i name valid
    split at h
    case isFalse => cases h
    rename_i hc
    simp only [Option.some.injEq, Prod.mk.injEq] at h
    obtain ⟨h1, h2⟩ := h
    exact ⟨name, valid, rfl, hc, h1, h2.symm⟩
  · cases h
def T_spec_BoxNew : Hints := ⟨lk [], lk [], lk [(0, [0, 1, 4]), (1, [4, 6]), (2, [4, 6, 12]), (3, [4, 5]), (4, [4, 5])], lk [], lf []⟩
noncomputable def Phi_spec_BoxNew : Tab := lk [(28, spBoxOk)]
attribute [go_sem] T_spec_BoxNew Phi_spec_BoxNew
theorem phi_spec_BoxNew : ∀ f sp, Phi_spec_BoxNew f = some sp → FnOk Tryz.prog f sp ∧ ∀ n ∈ sp.need, n ∈ ([] : List String) := phi_cons ok_spec_BoxOk (n0 rfl) (phi_nil)
theorem ok_spec_BoxNew : FnOk Tryz.prog 68 spBoxNew := by
  refine fn_ok (Φ := Phi_spec_BoxNew) (T := T_spec_BoxNew) phi_spec_BoxNew mixed Tryz.func68 rfl rfl rfl (by decide) ?_
  intro ins r outs hr hl
  clear hl
  have hs := spBoxNew_in hr
  clear hr
  obtain ⟨name, valid, rfl, hc, hr, rfl⟩ := hs
  simp only [spBoxNew, Tryz.f68, Go.VM.initS]
  have hl : Box.le 4194304 ⟨name, valid, 1, 1, [], [], 0⟩ := ⟨hc, ⟨by simp, by simp⟩, ⟨by simp, by simp⟩⟩
  have hb : boxOk ⟨name, valid, 1, 1, [], [], 0⟩ = boxOk (boxFresh name valid) := rfl
  cases hk : boxOk (boxFresh name valid) with
  | true =>
    simp only [hl, hb, hk, go_sem]
    repeat' ((first | apply qa | apply qb | apply qc | apply qd | apply qe | apply qf | apply qg | apply qh | apply qi | apply qj | apply qk) <;> intro hp <;> simp only [hp, hl, hb, hk, go_sem])
    simp only [fin_mk, finV, resL, resV1, resIn, endA, listIn, Option.some_or, Option.none_or, oneOrTup, go_sem]
    rw [← hr]
    simp only [boxNew, hk, if_true]; rfl
  | false =>
    simp only [hl, hb, hk, go_sem]
    repeat' ((first | apply qa | apply qb | apply qc | apply qd | apply qe | apply qf | apply qg | apply qh | apply qi | apply qj | apply qk) <;> intro hp <;> simp only [hp, hl, hb, hk, go_sem])
    simp only [fin_mk, finV, resL, resV1, resIn, endA, listIn, Option.some_or, Option.none_or, oneOrTup, go_sem]
    rw [← hr]
    simp only [boxNew, hk, if_false, Bool.false_eq_true]; rfl
theorem boxOk_parts {b : Box} (h : boxOk b = true) : numsOk b = true ∧ b.Mails.length ≤ 30 ∧ b.Tombs.length ≤ 40 ∧ b.Name.length ≤ 8 ∧ ∀ m ∈ b.Mails, m.Text.length ≤ 200 := by
  simp only [boxOk, mailsOk, tombsOk, boxName, Bool.and_eq_true, decide_eq_true_eq] at h
  obtain ⟨⟨⟨⟨_, hn⟩, h1⟩, hm, h2⟩, _, h3⟩ := h
  refine ⟨h1, h2, h3, ?_, fun m hm' => ?_⟩
  · simp only [within, Bool.and_eq_true, decide_eq_true_eq] at hn; omega
  · obtain ⟨i, hi, rfl⟩ := List.mem_iff_getElem.1 hm'
    have := allN_get hm hi
    simp only [mailAtOk, getD_lt hi, Bool.and_eq_true, mailOk, within, decide_eq_true_eq] at this
    omega
def addOut (b : Box) (flags : Int) (text : List UInt8) : Box := ⟨b.Name, b.Valid, b.Next + 1, b.Mod + 1, b.Mails ++ [⟨b.Next, flags, b.Mod + 1, text⟩], b.Tombs, b.Horizon⟩
def addGood (b : Box) (flags : Int) (text : List UInt8) : Bool := boxOk b && boxOk (addOut b flags text)
def addMail (b : Box) (flags : Int) (text : List UInt8) : Box := if addGood b flags text = true then addOut b flags text else b
def addUid (b : Box) (flags : Int) (text : List UInt8) : Int := if addGood b flags text = true then b.Next else 0
theorem addOut_le {b : Box} {flags : Int} {text : List UInt8} (hc : b.le 4194304) (hk : boxOk b = true) (ht : text.length ≤ 4194304) : (addOut b flags text).le 4194304 := by
  have hp := boxOk_parts hk
  refine ⟨hc.1, ⟨by simp [addOut]; omega, ?_⟩, hc.2.2⟩
  intro m hm
  simp only [addOut, List.mem_append, List.mem_singleton] at hm
  rcases hm with hm | rfl
  · exact hc.2.1.2 m hm
  · exact ht
open Classical in
noncomputable def spAddMail : VM.Spec := { modes := [.rd, .rd, .rd], run := fun | [b', .int .i64 flags, .str text] => (Box.dec b').bind fun b => if b.le 4194304 ∧ text.length ≤ 4194304 then some (.tup [Box.enc (addMail b flags text), .int .i64 (addUid b flags text)], []) else none | _ => none, need := [] }
attribute [go_sem] spAddMail
theorem spAddMail_in {ins : List V} {r : V} {outs : List V} (h : spAddMail.run ins = some (r, outs)) : ∃ (b : Box) (flags : Int) (text : (List UInt8)), ins = [Box.enc b, .int .i64 flags, .str text] ∧ (b.le 4194304 ∧ text.length ≤ 4194304) ∧ .tup [Box.enc (addMail b flags text), .int .i64 (addUid b flags text)] = r ∧ outs = [] := by
  unfold spAddMail at h
  simp only at h
  split at h
  · rename_i b' flags text
    simp only [Option.bind_eq_some_iff] at h
    obtain ⟨b, h_b, h⟩ := h
    split at h
    case isFalse => cases h
    rename_i hc
    simp only [Option.some.injEq, Prod.mk.injEq] at h
    obtain ⟨h1, h2⟩ := h
    have h_b := Box.dec_some h_b
    subst h_b
    exact ⟨b, flags, text, rfl, hc, h1, h2.symm⟩
  · cases h
def T_spec_AddMail : Hints := ⟨lk [(10, [(1, 3), (2, 3)])], lk [], lk [(0, [1, 2, 3, 6]), (1, [1, 2, 3, 6, 8]), (2, [1, 2, 3, 6, 8, 14]), (3, [6, 7]), (4, [1, 2, 3, 6, 8, 9]), (5, [1, 2, 3, 6, 8, 9]), (6, [1, 2, 3, 6, 8, 9]), (7, [3, 6, 8, 9]), (8, [3, 6, 8, 9, 40]), (9, [6, 7]), (10, [6, 7])], lk [], lf []⟩
noncomputable def Phi_spec_AddMail : Tab := lk [(78, spCopyBox), (28, spBoxOk)]
attribute [go_sem] T_spec_AddMail Phi_spec_AddMail
theorem phi_spec_AddMail : ∀ f sp, Phi_spec_AddMail f = some sp → FnOk Tryz.prog f sp ∧ ∀ n ∈ sp.need, n ∈ ([] : List String) := phi_cons ok_spec_l08Copy (n0 rfl) (phi_cons ok_spec_BoxOk (n0 rfl) (phi_nil))
theorem ok_spec_AddMail : FnOk Tryz.prog 71 spAddMail := by
  refine fn_ok (Φ := Phi_spec_AddMail) (T := T_spec_AddMail) phi_spec_AddMail mixed Tryz.func71 rfl rfl rfl (by decide) ?_
  intro ins r outs hr hl
  clear hl
  have hs := spAddMail_in hr
  clear hr
  obtain ⟨b, flags, text, rfl, hc, hr, rfl⟩ := hs
  simp only [spAddMail, Tryz.f71, Go.VM.initS]
  obtain ⟨hc, htx⟩ := hc
  have hm : b.Mails.length ≤ 4194304 := hc.2.1.1
  have h1 : (b.Mails.length + 1) * 40 ≤ 140737488355328 := by omega
  have h3 : b.Mails.length + 1 ≤ 9223372036854775807 := by omega
  cases hk : boxOk b with
  | false =>
    have hg : addGood b flags text = false := by simp [addGood, hk]
    simp only [h1, h3, hc, hk, and_self, go_sem]
    repeat' ((first | ((first | apply qa | apply qb | apply qc | apply qd | apply qe | apply qf | apply qg | apply qh | apply qi | apply qj | apply qk) <;> intro hp) | ((first | refine ql rfl rfl (by decide +kernel) ?_ | refine qm _ rfl rfl (by decide +kernel) ?_) <;> have hp := True.intro)) <;> simp only [hp, h1, h3, hc, hk, and_self, go_sem])
    simp only [fin_mk, finV, resL, resV1, resIn, endA, listIn, Option.some_or, Option.none_or, oneOrTup, go_sem]
    rw [← hr]
    simp only [addMail, addUid, hg, Bool.false_eq_true, if_false]; rfl
  | true =>
    have hp := boxOk_parts hk
    have hn := numsOk_next hp.1
    have hn0 : 1 ≤ b.Mod ∧ b.Mod ≤ 100000 := by have := hp.1; simp only [numsOk, within, Bool.and_eq_true, decide_eq_true_eq] at this; omega
    have w1 : IntKind.i64.wrap (b.Mod + 1) = b.Mod + 1 := wrap64 (by omega) (by omega)
    have w2 : IntKind.i64.wrap (b.Next + 1) = b.Next + 1 := wrap64 (by omega) (by omega)
    have hl : Box.le 4194304 ⟨b.Name, b.Valid, b.Next + 1, b.Mod + 1, b.Mails ++ [⟨b.Next, flags, b.Mod + 1, text⟩], b.Tombs, b.Horizon⟩ := addOut_le hc hk htx
    have hb : boxOk ⟨b.Name, b.Valid, b.Next + 1, b.Mod + 1, b.Mails ++ [⟨b.Next, flags, b.Mod + 1, text⟩], b.Tombs, b.Horizon⟩ = boxOk (addOut b flags text) := rfl
    cases hk2 : boxOk (addOut b flags text) with
    | false =>
      have hg : addGood b flags text = false := by simp [addGood, hk2]
      simp only [h1, h3, hc, hk, w1, w2, hl, hb, hk2, and_self, go_sem]
      repeat' ((first | ((first | apply qa | apply qb | apply qc | apply qd | apply qe | apply qf | apply qg | apply qh | apply qi | apply qj | apply qk) <;> intro hp) | ((first | refine ql rfl rfl (by decide +kernel) ?_ | refine qm _ rfl rfl (by decide +kernel) ?_) <;> have hp := True.intro)) <;> simp only [hp, h1, h3, hc, hk, w1, w2, hl, hb, hk2, and_self, go_sem])
      simp only [fin_mk, finV, resL, resV1, resIn, endA, listIn, Option.some_or, Option.none_or, oneOrTup, go_sem]
      rw [← hr]
      simp only [addMail, addUid, hg, Bool.false_eq_true, if_false]; rfl
    | true =>
      have hg : addGood b flags text = true := by simp [addGood, hk, hk2]
      simp only [h1, h3, hc, hk, w1, w2, hl, hb, hk2, and_self, go_sem]
      repeat' ((first | ((first | apply qa | apply qb | apply qc | apply qd | apply qe | apply qf | apply qg | apply qh | apply qi | apply qj | apply qk) <;> intro hp) | ((first | refine ql rfl rfl (by decide +kernel) ?_ | refine qm _ rfl rfl (by decide +kernel) ?_) <;> have hp := True.intro)) <;> simp only [hp, h1, h3, hc, hk, w1, w2, hl, hb, hk2, and_self, go_sem])
      simp only [fin_mk, finV, resL, resV1, resIn, endA, listIn, Option.some_or, Option.none_or, oneOrTup, go_sem]
      rw [← hr]
      simp only [addMail, addUid, hg, if_true, addOut, Box.enc, List.map_append, List.map_cons, List.map_nil, Mail.enc]
def changed (b : Box) (since : Int) : List Mail := b.Mails.filter fun m => decide (since < m.Mod)
theorem filter_succ {α : Type} {l : List α} {p : α → Bool} {i : Nat} (h : i < l.length) : (l.take (i + 1)).filter p = (l.take i).filter p ++ (if p l[i] = true then [l[i]] else []) := by
  rw [take_succ' h, List.filter_append]
  congr 1
  cases hp : p l[i] <;> simp [hp]
theorem filter_take_len {α : Type} (l : List α) (p : α → Bool) (i : Nat) : ((l.take i).filter p).length ≤ l.length := by
  have h1 := List.length_filter_le p (l.take i)
  have h2 : (l.take i).length ≤ l.length := by rw [List.length_take]; omega
  omega
open Classical in
noncomputable def spChanged : VM.Spec := { modes := [.rd, .rd], run := fun | [b', .int .i64 since] => (Box.dec b').bind fun b => if b.le 4194304 then some (.lst 4 ((changed b since).map Mail.enc), []) else none | _ => none, need := [] }
attribute [go_sem] spChanged
def uidsOf (b : Box) : List Int := b.Mails.map (·.Uid)
def viewOf (b : Box) : View := ⟨b.Name, b.Valid, uidsOf b, b.Mod⟩
open Classical in
noncomputable def spUidsOf : VM.Spec := { modes := [.rd], run := fun | [b'] => (Box.dec b').bind fun b => if b.le 4194304 then some (.lst 1 ((uidsOf b).map eInt), []) else none | _ => none, need := [] }
attribute [go_sem] spUidsOf
open Classical in
noncomputable def spViewOf : VM.Spec := { modes := [.rd], run := fun | [b'] => (Box.dec b').bind fun b => if b.le 4194304 then some (View.enc (viewOf b), []) else none | _ => none, need := [] }
attribute [go_sem] spViewOf
end Go.Proofs.YtghmjnggmacohaaGreatDoor.L

namespace Go.Proofs.YtghmjnggmacohaaGreatDoor.L
open Go Go.VM
set_option maxRecDepth 100000
set_option maxHeartbeats 4000000
set_option linter.unusedSimpArgs false
set_option linter.unusedVariables false
def flagsAfter (o h n : Int) : Int := if (flagsOk o && flagsOk n) = true then (if h = 1 then n else if h = 2 then o + n - andN o n else if h = 3 then o - andN o n else o) else o
theorem flags_in {a : Int} (h : flagsOk a = true) : 0 ≤ a ∧ a ≤ 31 := by simpa only [flagsOk, within, Bool.and_eq_true, decide_eq_true_eq] using h
theorem andN_in {a b : Int} (ha : flagsOk a = true) (hb : flagsOk b = true) : 0 ≤ andN a b ∧ andN a b ≤ a := by
  have ha := flags_in ha
  have hb := flags_in hb
  have := Nat.and_le_left (n := a.toNat) (m := b.toNat)
  unfold andN
  omega
open Classical in
noncomputable def spFlagsAfter : VM.Spec := { modes := [.rd, .rd, .rd], run := fun | [.int .i64 o, .int .i64 h, .int .i64 n] => some (.int .i64 (flagsAfter o h n), []) | _ => none, need := [] }
attribute [go_sem] spFlagsAfter
theorem spFlagsAfter_in {ins : List V} {r : V} {outs : List V} (h : spFlagsAfter.run ins = some (r, outs)) : ∃ (o : Int) (h : Int) (n : Int), ins = [.int .i64 o, .int .i64 h, .int .i64 n] ∧ .int .i64 (flagsAfter o h n) = r ∧ outs = [] := by
  unfold spFlagsAfter at h
  simp only at h
  split at h
  · rename_i o h n
    simp only [Option.some.injEq, Prod.mk.injEq] at h
    obtain ⟨h1, h2⟩ := h
    exact ⟨o, h, n, rfl, h1, h2.symm⟩
  · cases h
def T_spec_FlagsAfter : Hints := ⟨lk [], lk [], lk [(0, [0, 1, 2]), (1, [0, 1, 2, 14]), (2, [6]), (3, [0, 2, 16]), (4, [0, 2, 16, 17]), (5, [6]), (6, [0, 2, 16, 20]), (7, [6]), (8, [0, 2, 29]), (9, [6]), (10, [6])], lk [], lf []⟩
noncomputable def Phi_spec_FlagsAfter : Tab := lk [(52, spFlagsOk), (97, spAnd)]
attribute [go_sem] T_spec_FlagsAfter Phi_spec_FlagsAfter
theorem phi_spec_FlagsAfter : ∀ f sp, Phi_spec_FlagsAfter f = some sp → FnOk Tryz.prog f sp ∧ ∀ n ∈ sp.need, n ∈ ([] : List String) := phi_cons ok_spec_FlagsOk (n0 rfl) (phi_cons ok_spec_l06And (n0 rfl) (phi_nil))
theorem ok_spec_FlagsAfter : FnOk Tryz.prog 96 spFlagsAfter := by
  refine fn_ok (Φ := Phi_spec_FlagsAfter) (T := T_spec_FlagsAfter) phi_spec_FlagsAfter mixed Tryz.func96 rfl rfl rfl (by decide) ?_
  intro ins r outs hr hl
  clear hl
  have hs := spFlagsAfter_in hr
  clear hr
  obtain ⟨o, h, n, rfl, hr, rfl⟩ := hs
  simp only [spFlagsAfter, Tryz.f96, Go.VM.initS]
  cases f1 : flagsOk o with
  | false =>
    rw [flagsAfter, f1, Bool.false_and, if_neg (by simp)] at hr
    simp only [f1, go_sem]
    repeat' ((first | apply qa | apply qb | apply qc | apply qd | apply qe | apply qf | apply qg | apply qh | apply qi | apply qj | apply qk) <;> intro hp <;> simp only [hp, f1, go_sem])
    all_goals (simp only [fin_mk, finV, resL, resV1, resIn, endA, listIn, Option.some_or, Option.none_or, oneOrTup, go_sem]; rw [← hr])
  | true =>
    cases f2 : flagsOk n with
    | false =>
      rw [flagsAfter, f1, f2, Bool.true_and, if_neg (by simp)] at hr
      simp only [f1, f2, go_sem]
      repeat' ((first | apply qa | apply qb | apply qc | apply qd | apply qe | apply qf | apply qg | apply qh | apply qi | apply qj | apply qk) <;> intro hp <;> simp only [hp, f1, f2, go_sem])
      all_goals (simp only [fin_mk, finV, resL, resV1, resIn, endA, listIn, Option.some_or, Option.none_or, oneOrTup, go_sem]; rw [← hr])
    | true =>
      rw [flagsAfter, f1, f2, Bool.true_and, if_pos rfl] at hr
      have b1 := flags_in f1
      have b2 := flags_in f2
      have b3 := andN_in f1 f2
      have w1 : IntKind.i64.wrap (o + n) = o + n := wrap64 (by omega) (by omega)
      have w2 : IntKind.i64.wrap (o + n - andN o n) = o + n - andN o n := wrap64 (by omega) (by omega)
      have w3 : IntKind.i64.wrap (o - andN o n) = o - andN o n := wrap64 (by omega) (by omega)
      by_cases h1 : h = 1
      · subst h1
        rw [if_pos rfl] at hr
        simp only [f1, f2, go_sem]
        repeat' ((first | apply qa | apply qb | apply qc | apply qd | apply qe | apply qf | apply qg | apply qh | apply qi | apply qj | apply qk) <;> intro hp <;> simp only [hp, f1, f2, go_sem])
        all_goals (simp only [fin_mk, finV, resL, resV1, resIn, endA, listIn, Option.some_or, Option.none_or, oneOrTup, go_sem]; rw [← hr])
      · rw [if_neg h1] at hr
        have e1 : (h == 1) = false := by simpa using h1
        by_cases h2 : h = 2
        · subst h2
          rw [if_pos rfl] at hr
          simp only [f1, f2, e1, w1, w2, go_sem]
          repeat' ((first | apply qa | apply qb | apply qc | apply qd | apply qe | apply qf | apply qg | apply qh | apply qi | apply qj | apply qk) <;> intro hp <;> simp only [hp, f1, f2, e1, w1, w2, go_sem])
          all_goals (simp only [fin_mk, finV, resL, resV1, resIn, endA, listIn, Option.some_or, Option.none_or, oneOrTup, go_sem]; rw [← hr])
        · rw [if_neg h2] at hr
          have e2 : (h == 2) = false := by simpa using h2
          by_cases h3 : h = 3
          · subst h3
            rw [if_pos rfl] at hr
            simp only [f1, f2, e1, e2, w3, go_sem]
            repeat' ((first | apply qa | apply qb | apply qc | apply qd | apply qe | apply qf | apply qg | apply qh | apply qi | apply qj | apply qk) <;> intro hp <;> simp only [hp, f1, f2, e1, e2, w3, go_sem])
            all_goals (simp only [fin_mk, finV, resL, resV1, resIn, endA, listIn, Option.some_or, Option.none_or, oneOrTup, go_sem]; rw [← hr])
          · rw [if_neg h3] at hr
            have e3 : (h == 3) = false := by simpa using h3
            simp only [f1, f2, e1, e2, e3, go_sem]
            repeat' ((first | apply qa | apply qb | apply qc | apply qd | apply qe | apply qf | apply qg | apply qh | apply qi | apply qj | apply qk) <;> intro hp <;> simp only [hp, f1, f2, e1, e2, e3, go_sem])
            all_goals (simp only [fin_mk, finV, resL, resV1, resIn, endA, listIn, Option.some_or, Option.none_or, oneOrTup, go_sem]; rw [← hr])
open Classical in
noncomputable def spSetOfList : VM.Spec := { modes := [.rd], run := fun | [.lst 1 l'] => (decL dInt l').bind fun l => if l.length ≤ 4194304 ∧ l.all (fun x => within x 1 9999) = true then some (.tup [.lst 2 ((scan l).map Range.enc), .bool (setOk (scan l))], []) else none | _ => none, need := [] }
attribute [go_sem] spSetOfList
end Go.Proofs.YtghmjnggmacohaaGreatDoor.L

namespace Go.Proofs.YtghmjnggmacohaaGreatDoor.L
open Go Go.VM
set_option maxRecDepth 100000
set_option maxHeartbeats 4000000
set_option linter.unusedSimpArgs false
set_option linter.unusedVariables false
theorem asc_of_adj : ∀ {l : List Int}, (∀ i, (h : i + 1 < l.length) → l[i] < l[i + 1]) → l.Pairwise (· < ·)
  | [], _ => List.Pairwise.nil
  | [x], _ => List.pairwise_singleton _ _
  | x :: y :: t, h => by
    have h1 : (y :: t).Pairwise (· < ·) := asc_of_adj fun i hi => by
      have := h (i + 1) (by simpa using hi)
      simpa using this
    have h2 : x < y := by simpa using h 0 (by simp)
    refine List.Pairwise.cons (fun z hz => ?_) h1
    rcases List.mem_cons.1 hz with rfl | hz
    · exact h2
    · exact Int.lt_trans h2 ((List.pairwise_cons.1 h1).1 z hz)
theorem mailAt_of {b : Box} (h : boxOk b = true) {i : Nat} (hi : i < b.Mails.length) : mailAtOk b i = true := by
  simp only [boxOk, mailsOk, Bool.and_eq_true] at h
  exact allN_get h.1.2.1 hi
theorem mail_in {b : Box} (h : boxOk b = true) {i : Nat} (hi : i < b.Mails.length) : 1 ≤ b.Mails[i].Uid ∧ b.Mails[i].Uid ≤ 9998 ∧ flagsOk b.Mails[i].Flags = true := by
  have h1 := mailAt_of h hi
  have h2 := numsOk_next (boxOk_parts h).1
  simp only [mailAtOk, Bool.and_eq_true, within, decide_eq_true_eq, List.getD_eq_getElem?_getD, List.getElem?_eq_getElem hi, Option.getD_some] at h1
  exact ⟨h1.1.1.1.1.1, by omega, h1.1.1.2⟩
theorem uids_asc {b : Box} (h : boxOk b = true) : Asc (b.Mails.map (·.Uid)) 9999 := by
  refine ⟨asc_of_adj fun i hi => ?_, fun x hx => ?_⟩
  · rw [List.length_map] at hi
    have h1 := mailAt_of h hi
    simp only [mailAtOk, Bool.and_eq_true, Bool.or_eq_true, decide_eq_true_eq, List.getD_eq_getElem?_getD, List.getElem?_eq_getElem hi, Option.getD_some, Nat.add_sub_cancel, List.getElem?_eq_getElem (show i < b.Mails.length by omega)] at h1
    have h2 := h1.1.1.1.2
    simp only [List.getElem_map]
    rcases h2 with h2 | h2
    · simp at h2
    · exact h2
  · obtain ⟨m, hm, rfl⟩ := List.mem_map.1 hx
    obtain ⟨i, hi, rfl⟩ := List.mem_iff_getElem.1 hm
    have := mail_in h hi
    omega
theorem filter_asc {b : Box} (h : boxOk b = true) (p : Mail → Bool) : Asc ((b.Mails.filter p).map (·.Uid)) 9999 := by
  have hs : ((b.Mails.filter p).map (·.Uid)).Sublist (b.Mails.map (·.Uid)) := List.Sublist.map _ List.filter_sublist
  have ha := uids_asc h
  exact ⟨ha.1.sublist hs, fun x hx => ha.2 x (hs.subset hx)⟩
theorem uids_len (l : List Mail) (p : Mail → Bool) (i : Nat) : (((l.take i).filter p).map (·.Uid)).length ≤ l.length := by
  rw [List.length_map]
  have h1 := List.length_filter_le p (l.take i)
  have h2 : (l.take i).length ≤ l.length := by rw [List.length_take]; omega
  omega
theorem setOf_nil' : setOf [] = [] := by
  have : (nums 9999).filter (fun n => decide (n ∈ ([] : List Int))) = [] := List.filter_eq_nil_iff.2 (fun _ _ => by simp)
  rw [setOf, this]; rfl
end Go.Proofs.YtghmjnggmacohaaGreatDoor.L

namespace Go.Proofs.YtghmjnggmacohaaGreatDoor.L
open Go Go.VM
set_option maxRecDepth 100000
set_option maxHeartbeats 8000000
set_option linter.unusedSimpArgs false
set_option linter.unusedVariables false
def mailsIn (b : Box) (s : List Range) : List Mail := if boxOk b = true then b.Mails.filter (fun m => hasR s m.Uid) else []
theorem mailsIn_asc (b : Box) (s : List Range) : (mailsIn b s).Pairwise fun x y => x.Uid < y.Uid := by
  unfold mailsIn
  split
  · rename_i hk
    have := (filter_asc hk (fun m => hasR s m.Uid)).1
    rw [List.pairwise_map] at this
    exact this
  · exact List.Pairwise.nil
theorem mailsIn_few (b : Box) (s : List Range) : (mailsIn b s).length ≤ 30 := by
  unfold mailsIn
  split
  · rename_i hk
    exact Nat.le_trans (List.length_filter_le _ _) (boxOk_parts hk).2.1
  · simp
theorem mailsIn_each {b : Box} {s : List Range} (h : b.le 4194304) : ∀ m ∈ mailsIn b s, Mail.le 4194304 m := by
  unfold mailsIn
  split
  · exact fun m hm => h.2.1.2 m (List.mem_filter.1 hm).1
  · exact fun m hm => (by cases hm)
open Classical in
noncomputable def spMailsIn : VM.Spec := { modes := [.rd, .rd], run := fun | [b', .lst 2 s'] => (Box.dec b').bind fun b => (decL Range.dec s').bind fun s => if b.le 4194304 ∧ s.length ≤ 4194304 then some (.lst 4 ((mailsIn b s).map Mail.enc), []) else none | _ => none, need := [] }
attribute [go_sem] spMailsIn
theorem spMailsIn_in {ins : List V} {r : V} {outs : List V} (h : spMailsIn.run ins = some (r, outs)) : ∃ (b : Box) (s : (List Range)), ins = [Box.enc b, .lst 2 ((s).map Range.enc)] ∧ (b.le 4194304 ∧ s.length ≤ 4194304) ∧ .lst 4 ((mailsIn b s).map Mail.enc) = r ∧ outs = [] := by
  unfold spMailsIn at h
  simp only at h
  split at h
  · rename_i b' s'
    simp only [Option.bind_eq_some_iff] at h
    obtain ⟨b, h_b, s, h_s, h⟩ := h
    split at h
    case isFalse => cases h
    rename_i hc
    simp only [Option.some.injEq, Prod.mk.injEq] at h
    obtain ⟨h1, h2⟩ := h
    have h_b := Box.dec_some h_b
    subst h_b
    have h_s := decL_some (fun _ _ h => Range.dec_some h) h_s
    subst h_s
    exact ⟨b, s, rfl, hc, h1, h2.symm⟩
  · cases h
def T_impl_mailsIn : Hints := ⟨lk [], lk [(5, [1, 5, 14, 15, 16])], lk [(0, [1, 2]), (1, [1, 2, 5]), (2, [1, 2, 5, 11]), (3, [4]), (4, [1, 5, 14, 15, 16]), (5, [1, 5, 14, 15, 16, 17]), (6, [1, 5, 7, 14, 15, 16]), (7, [1, 5, 7, 14, 15, 16, 23]), (8, [1, 5, 14, 15, 16]), (9, [1, 5, 14, 15, 16]), (10, [4])], lk [], lf []⟩
noncomputable def Phi_impl_mailsIn : Tab := lk [(59, spBoxOk), (60, spSetHas)]
attribute [go_sem] T_impl_mailsIn Phi_impl_mailsIn
theorem phi_impl_mailsIn : ∀ f sp, Phi_impl_mailsIn f = some sp → FnOk Tryz.prog f sp ∧ ∀ n ∈ sp.need, n ∈ ([] : List String) := phi_cons ok_impl_BoxOk (n0 rfl) (phi_cons ok_impl_SetHas (n0 rfl) (phi_nil))
theorem ok_impl_mailsIn : FnOk Tryz.prog 34 spMailsIn := by
  refine fn_ok (Φ := Phi_impl_mailsIn) (T := T_impl_mailsIn) phi_impl_mailsIn mixed Tryz.func34 rfl rfl rfl (by decide) ?_
  intro ins r outs hr hl
  clear hl
  have hs := spMailsIn_in hr
  clear hr
  obtain ⟨b, s, rfl, hc, hr, rfl⟩ := hs
  simp only [spMailsIn, Tryz.f34, Go.VM.initS]
  obtain ⟨hc, hs⟩ := hc
  cases hk : boxOk b with
  | false =>
    simp only [hc, hs, hk, go_sem]
    repeat' ((first | apply qa | apply qb | apply qc | apply qd | apply qe | apply qf | apply qg | apply qh | apply qi | apply qj | apply qk) <;> intro hp <;> simp only [hp, hc, hs, hk, go_sem])
    all_goals (simp only [fin_mk, finV, resL, resV1, resIn, endA, listIn, Option.some_or, Option.none_or, oneOrTup, go_sem]; rw [← hr])
    all_goals (rw [mailsIn, hk, if_neg (by simp)]; rfl)
  | true =>
    have hml : b.Mails.length ≤ 30 := (boxOk_parts hk).2.1
    rw [mailsIn, hk, if_pos rfl] at hr
    have hs8 : s.length ≤ 8388608 := by omega
    simp only [hc, hs, hk, go_sem]
    repeat' ((first | apply qa | apply qb | apply qc | apply qd | apply qe | apply qf | apply qg | apply qh | apply qi | apply qj | apply qk) <;> intro hp <;> simp only [hp, hc, hs, hk, go_sem])
    refine loop_go (fun i : Nat => [(16, .int .i64 (i : Int))]) (fun i => [(0, ⟨.arr, 4, ((b.Mails.take i).filter (fun m => hasR s m.Uid)).map Mail.enc⟩)]) (fun i => b.Mails.length - i) (fun i => i ≤ b.Mails.length) 0 (Nat.zero_le _) rfl rfl ?_
    intro i hi ih
    have hD : ((b.Mails.take i).filter (fun m => hasR s m.Uid)).length ≤ 30 := Nat.le_trans (List.length_filter_le _ _) (by rw [List.length_take]; omega)
    rcases Nat.lt_or_ge i b.Mails.length with h | h
    · have g1 : (i : Int) < b.Mails.length := by omega
      have g2 : (0 : Int) ≤ i := by omega
      have g3 : b.Mails[i]? = some b.Mails[i] := List.getElem?_eq_getElem h
      have g5 := wrap_succ h (by omega)
      have ih' := ih (i + 1) h (by omega)
      clear ih
      rw [filter_succ h] at ih'
      generalize hmm : b.Mails[i] = m at *
      generalize hDD : (b.Mails.take i).filter (fun m => hasR s m.Uid) = D at *
      have b1 : (D.length + 1) * 40 ≤ 140737488355328 := by omega
      have b3 : D.length ≤ 9223372036854775806 := by omega
      cases hA : hasR s m.Uid with
      | false =>
        simp only [hA, Bool.false_eq_true, if_false, List.append_nil] at ih'
        simp only [g1, g2, g3, g5, hA, hs8, go_sem]
        repeat' ((first | apply qa | apply qb | apply qc | apply qd | apply qe | apply qf | apply qg | apply qh | apply qi | apply qj | apply qk) <;> intro hp <;> simp only [hp, g1, g2, g3, g5, hA, hs8, go_sem])
        all_goals exact ih'
      | true =>
        simp only [hA, if_true, List.map_append, List.map_cons, List.map_nil, Mail.enc] at ih'
        simp only [g1, g2, g3, g5, hA, hs8, b1, b3, go_sem]
        repeat' ((first | apply qa | apply qb | apply qc | apply qd | apply qe | apply qf | apply qg | apply qh | apply qi | apply qj | apply qk) <;> intro hp <;> simp only [hp, g1, g2, g3, g5, hA, hs8, b1, b3, go_sem])
        all_goals first | exact ih' | (clear ih'; omega)
    · have g1 : ¬ (i : Int) < b.Mails.length := by omega
      rw [List.take_of_length_le h]
      simp only [g1, go_sem]
      repeat' ((first | apply qa | apply qb | apply qc | apply qd | apply qe | apply qf | apply qg | apply qh | apply qi | apply qj | apply qk) <;> intro hp <;> simp only [hp, g1, go_sem])
      all_goals (simp only [fin_mk, finV, resL, resV1, resIn, endA, listIn, Option.some_or, Option.none_or, oneOrTup, go_sem]; rw [← hr])
def T_spec_l12Subject : Hints := ⟨lk [], lk [], lk [(0, [1]), (1, [3]), (2, [2])], lk [], lf []⟩
noncomputable def Phi_spec_l12Subject : Tab := lk [(55, spHeadOf), (56, spBaseSubject)]
attribute [go_sem] T_spec_l12Subject Phi_spec_l12Subject
theorem phi_spec_l12Subject : ∀ f sp, Phi_spec_l12Subject f = some sp → FnOk Tryz.prog f sp ∧ ∀ n ∈ sp.need, n ∈ (["internal/bytealg.MaxLen"] : List String) := phi_cons ok_spec_HeadOf (fun n (h : n ∈ (["internal/bytealg.MaxLen"] : List String)) => by simp only [List.mem_cons, List.not_mem_nil, or_false] at h; rcases h with rfl <;> simp) (phi_cons ok_spec_BaseSubject (n0 rfl) (phi_nil))
theorem ok_spec_l12Subject : FnOk Tryz.prog 30 spSubjectOf := by
  refine fn_ok (Φ := Phi_spec_l12Subject) (T := T_spec_l12Subject) phi_spec_l12Subject mixed Tryz.func30 rfl rfl rfl (by decide) ?_
  intro ins r outs hr hl
  clear hl
  have hs := spSubjectOf_in hr
  clear hr
  obtain ⟨m, rfl, hc, hr, rfl⟩ := hs
  simp only [spSubjectOf, Tryz.f30, Go.VM.initS]
  have hT : m.Text.length ≤ 4194304 := hc
  have h1 := headOf_len m.Text [115, 117, 98, 106, 101, 99, 116]
  have h2 : (headOf m.Text [115, 117, 98, 106, 101, 99, 116]).1.length ≤ 1099511627776 := by omega
  simp only [hT, h2, go_sem]
  repeat' ((first | apply qa | apply qb | apply qc | apply qd | apply qe | apply qf | apply qg | apply qh | apply qi | apply qj | apply qk) <;> intro hp <;> simp only [hp, hT, h2, go_sem])
  simp only [fin_mk, finV, resL, resV1, resIn, endA, listIn, Option.some_or, Option.none_or, oneOrTup, go_sem]
  rw [← hr]
  rfl
end Go.Proofs.YtghmjnggmacohaaGreatDoor.L

namespace Go.Proofs.YtghmjnggmacohaaGreatDoor.L
open Go Go.VM
set_option maxRecDepth 100000
set_option maxHeartbeats 8000000
set_option linter.unusedSimpArgs false
set_option linter.unusedVariables false
abbrev Th := List (List UInt8 × List Int)
def ixT : Th → List UInt8 → Option Nat
  | [], _ => none
  | (k, _) :: r, n => if (n == k) = true then some 0 else (ixT r n).map (· + 1)
def addT (st : Th) (n : List UInt8) (u : Int) : Th := match ixT st n with
  | some i => st.modify i fun p => (p.1, p.2 ++ [u])
  | none => st ++ [(n, [u])]
def thrL (L : List Mail) : Th := L.foldl (fun st x => addT st (subjectOf x) x.Uid) []
def threadsV (b : Box) (s : List Range) : List (List Int) := (thrL (mailsIn b s)).map (·.2)
def entT : Nat → Th → List V
  | _, [] => []
  | k, (n, _) :: r => .agg [.str n, .int .i64 (k : Int)] :: entT (k + 1) r
theorem ixT_lt : ∀ {st : Th} {n : List UInt8} {i : Nat}, ixT st n = some i → i < st.length
  | [], n, i, h => by cases h
  | (k, l) :: r, n, i, h => by
    rw [ixT] at h
    split at h
    · cases h; simp
    · simp only [Option.map_eq_some_iff] at h
      obtain ⟨j, hj, rfl⟩ := h
      have := ixT_lt hj
      simp; omega
theorem look_ent : ∀ (st : Th) (j : Nat) (n : List UInt8), lookS (entT j st) n = (ixT st n).map fun i => .int .i64 ((j + i : Nat) : Int)
  | [], j, n => rfl
  | (k, l) :: r, j, n => by
    rw [entT, lookS, ixT]
    split
    · rfl
    · rw [look_ent r (j + 1) n, Option.map_map]
      congr 1
      funext i
      simp only [Function.comp]
      congr 2; omega
theorem put_ent : ∀ (st : Th) (j : Nat) (n : List UInt8) (l : List Int), ixT st n = none → putS (entT j st) n (.int .i64 ((j + st.length : Nat) : Int)) = entT j (st ++ [(n, l)])
  | [], j, n, l, h => rfl
  | (k, q) :: r, j, n, l, h => by
    rw [ixT] at h
    split at h
    · cases h
    · rename_i hc
      rw [entT, putS, if_neg hc, List.cons_append, entT]
      have := put_ent r (j + 1) n l (by simpa using h)
      rw [← this]
      congr 4; simp only [List.length_cons]; omega
theorem ent_mod : ∀ (st : Th) (j i : Nat) (u : Int), entT j (st.modify i fun p => (p.1, p.2 ++ [u])) = entT j st
  | [], j, i, u => by simp [entT]
  | (k, q) :: r, j, 0, u => by simp [entT]
  | (k, q) :: r, j, i + 1, u => by
    simp only [List.modify_succ_cons, entT]
    rw [ent_mod r (j + 1) i u]
theorem addT_none {st : Th} {n : List UInt8} {u : Int} (h : ixT st n = none) : addT st n u = st ++ [(n, [u])] := by unfold addT; rw [h]
theorem addT_some {st : Th} {n : List UInt8} {u : Int} {i : Nat} (h : ixT st n = some i) : addT st n u = st.modify i fun p => (p.1, p.2 ++ [u]) := by unfold addT; rw [h]
theorem snds_mod (st : Th) (i : Nat) (u : Int) : (st.modify i fun p => (p.1, p.2 ++ [u])).map (·.2) = (st.map (·.2)).modify i (· ++ [u]) := by
  apply List.ext_getElem
  · simp
  · intro k h1 h2
    simp only [List.getElem_map, List.getElem_modify]
    split <;> rfl
theorem encs_mod {l : List (List Int)} {i : Nat} (h : i < l.length) (u : Int) : (l.modify i (· ++ [u])).map (eList 1 eInt) = (l.map (eList 1 eInt)).set i (V.lst 1 (l[i].map eInt ++ [.int .i64 u])) := by
  apply List.ext_getElem
  · simp
  · intro k h1 h2
    simp only [List.getElem_map, List.getElem_modify, List.getElem_set]
    split
    · rename_i e; subst e; simp [eList, eInt]
    · rfl
def cntT (st : Th) : Nat := (st.map fun p => p.2.length).sum
theorem thr_snoc (L : List Mail) (x : Mail) : thrL (L ++ [x]) = addT (thrL L) (subjectOf x) x.Uid := by rw [thrL, List.foldl_append]; rfl
theorem sum_modify : ∀ (st : Th) (i : Nat) (u : Int), ((st.modify i fun p => (p.1, p.2 ++ [u])).map fun p => p.2.length).sum ≤ (st.map fun p => p.2.length).sum + 1
  | [], i, u => by simp
  | p :: r, 0, u => by simp only [List.modify_zero_cons, List.map_cons, List.sum_cons, List.length_append, List.length_singleton]; omega
  | p :: r, i + 1, u => by
    have := sum_modify r i u
    simp only [List.modify_succ_cons, List.map_cons, List.sum_cons]; omega
theorem addT_cnt (st : Th) (n : List UInt8) (u : Int) : cntT (addT st n u) ≤ cntT st + 1 ∧ (addT st n u).length ≤ st.length + 1 := by
  unfold addT cntT
  split
  · exact ⟨sum_modify st _ u, by rw [List.length_modify]; omega⟩
  · simp
theorem foldl_cnt : ∀ (L : List Mail) (st : Th), cntT (L.foldl (fun st x => addT st (subjectOf x) x.Uid) st) ≤ cntT st + L.length ∧ (L.foldl (fun st x => addT st (subjectOf x) x.Uid) st).length ≤ st.length + L.length
  | [], st => by simp
  | x :: L, st => by
    have h1 := foldl_cnt L (addT st (subjectOf x) x.Uid)
    have h2 := addT_cnt st (subjectOf x) x.Uid
    simp only [List.foldl_cons, List.length_cons]; omega
theorem thr_cnt (L : List Mail) : cntT (thrL L) ≤ L.length ∧ (thrL L).length ≤ L.length := by
  have := foldl_cnt L []
  simpa [thrL, cntT] using this
theorem mem_cnt : ∀ {st : Th} {i : Nat} (h : i < st.length), (st[i]).2.length ≤ cntT st
  | p :: r, 0, h => by simp [cntT]
  | p :: r, i + 1, h => by
    have := mem_cnt (st := r) (i := i) (by simpa using h)
    simp only [List.getElem_cons_succ, cntT, List.map_cons, List.sum_cons] at this ⊢
    omega
theorem eL_snoc (l : List (List Int)) (u : Int) : (l ++ [[u]]).map (eList 1 eInt) = (l.map (eList 1 eInt) ++ [V.lst 1 []]).set l.length (V.lst 1 [.int .i64 u]) := by
  rw [List.map_append, List.set_append_right _ _ (by simp)]
  simp [eList, eInt]
open Classical in
noncomputable def spThreads : VM.Spec := { modes := [.rd, .rd], run := fun | [b', .lst 2 s'] => (Box.dec b').bind fun b => (decL Range.dec s').bind fun s => if b.le 4194304 ∧ s.length ≤ 4194304 then some (.lst 1 ((threadsV b s).map (eList 1 eInt)), []) else none | _ => none, need := ["internal/bytealg.MaxLen"] }
attribute [go_sem] spThreads
theorem spThreads_in {ins : List V} {r : V} {outs : List V} (h : spThreads.run ins = some (r, outs)) : ∃ (b : Box) (s : (List Range)), ins = [Box.enc b, .lst 2 ((s).map Range.enc)] ∧ (b.le 4194304 ∧ s.length ≤ 4194304) ∧ .lst 1 ((threadsV b s).map (eList 1 eInt)) = r ∧ outs = [] := by
  unfold spThreads at h
  simp only at h
  split at h
  · rename_i b' s'
    simp only [Option.bind_eq_some_iff] at h
    obtain ⟨b, h_b, s, h_s, h⟩ := h
    split at h
    case isFalse => cases h
    rename_i hc
    simp only [Option.some.injEq, Prod.mk.injEq] at h
    obtain ⟨h1, h2⟩ := h
    have h_b := Box.dec_some h_b
    subst h_b
    have h_s := decL_some (fun _ _ h => Range.dec_some h) h_s
    subst h_s
    exact ⟨b, s, rfl, hc, h1, h2.symm⟩
  · cases h
def T_impl_Threads : Hints := ⟨lk [(12, [(4, 8), (5, 8)])], lk [(4, [5, 6, 16, 17, 18])], lk [(0, [1, 2]), (1, [1, 2, 5]), (2, [1, 2, 5, 6]), (3, [5, 6, 16, 17, 18]), (4, [5, 6, 16, 17, 18, 19]), (5, [5, 6, 8, 16, 17, 18]), (6, [5, 6, 8, 9, 16, 17, 18]), (7, [5, 6, 8, 9, 10, 11, 16, 17, 18]), (8, [5, 6, 8, 9, 10, 16, 17, 18, 31]), (9, [5, 6, 8, 9, 10, 16, 17, 18]), (10, [5, 6, 8, 10, 16, 17, 18]), (11, [5, 6, 8, 10, 16, 17, 18]), (12, [5, 6, 16, 17, 18]), (13, [5, 6, 16, 17, 18]), (14, [4])], lk [(12, ((5, []), (10, [])))], lf []⟩
noncomputable def Phi_impl_Threads : Tab := lk [(34, spMailsIn), (38, spSubjectOf)]
attribute [go_sem] T_impl_Threads Phi_impl_Threads
theorem phi_impl_Threads : ∀ f sp, Phi_impl_Threads f = some sp → FnOk Tryz.prog f sp ∧ ∀ n ∈ sp.need, n ∈ (["internal/bytealg.MaxLen"] : List String) := phi_cons ok_impl_mailsIn (n0 rfl) (phi_cons ok_impl_subjectOf (fun n (h : n ∈ (["internal/bytealg.MaxLen"] : List String)) => by simp only [List.mem_cons, List.not_mem_nil, or_false] at h; rcases h with rfl <;> simp) (phi_nil))
theorem ok_impl_Threads : FnOk Tryz.prog 21 spThreads := by
  refine fn_ok (Φ := Phi_impl_Threads) (T := T_impl_Threads) phi_impl_Threads mixed Tryz.func21 rfl rfl rfl (by decide) ?_
  intro ins r outs hr hl
  clear hl
  have hs := spThreads_in hr
  clear hr
  obtain ⟨b, s, rfl, hc, hr, rfl⟩ := hs
  simp only [spThreads, Tryz.f21, Go.VM.initS]
  obtain ⟨hc, hs⟩ := hc
  have m1 := mailsIn_each (s := s) hc
  have m2 := mailsIn_few b s
  rw [threadsV] at hr
  generalize hL : mailsIn b s = L at *
  simp only [hc, hs, hL, and_self, go_sem]
  repeat' ((first | ((first | apply qa | apply qb | apply qc | apply qd | apply qe | apply qf | apply qg | apply qh | apply qi | apply qj | apply qk) <;> intro hp) | ((first | refine ql rfl rfl (by decide +kernel) ?_ | refine qm _ rfl rfl (by decide +kernel) ?_ | refine goes_opn rfl ?_ | refine goes_opnD rfl rfl (by decide +kernel) ?_ | refine goes_opnN _ rfl rfl (by decide +kernel) ?_) <;> have hp := True.intro)) <;> simp only [hp, hc, hs, hL, and_self, go_sem])
  refine loop_go (fun i : Nat => [(18, .int .i64 (i : Int))]) (fun i => [(0, ⟨.arr, 1, ((thrL (L.take i)).map (·.2)).map (eList 1 eInt)⟩), (1, ⟨.map, 0, [.lst 2 (entT 0 (thrL (L.take i)))]⟩)]) (fun i => L.length - i) (fun i => i ≤ L.length) 0 (Nat.zero_le _) rfl rfl ?_
  intro i hi ih
  obtain ⟨c1, c2⟩ := thr_cnt (L.take i)
  rw [List.length_take] at c1 c2
  rcases Nat.lt_or_ge i L.length with h | h
  · have g1 : (i : Int) < L.length := by omega
    have g2 : (0 : Int) ≤ i := by omega
    have g3 : L[i]? = some L[i] := List.getElem?_eq_getElem h
    have g5 := wrap_succ h (by omega)
    have gm : Mail.le 4194304 L[i] := m1 _ (List.getElem_mem h)
    have ih' := ih (i + 1) h (by omega)
    clear ih
    rw [take_succ' h, thr_snoc] at ih'
    generalize hmm : L[i] = m at *
    generalize hst : thrL (L.take i) = st at *
    have lk := look_ent st 0 (subjectOf m)
    have z0 : (0 : Int) ≤ st.length := by omega
    cases hx : ixT st (subjectOf m) with
    | none =>
      simp only [hx, Option.map_none] at lk
      have pt := put_ent st 0 (subjectOf m) [m.Uid] hx
      rw [Nat.zero_add] at pt
      rw [addT_none hx, ← pt, List.map_append, List.map_cons, List.map_nil, eL_snoc] at ih'
      obtain ⟨T, hT⟩ : ∃ T, st.map (·.2) = T := ⟨_, rfl⟩
      have hTl : T.length = st.length := by rw [← hT, List.length_map]
      rw [hT, hTl] at ih'
      simp only [hT]
      have z1 : (T.map (eList 1 eInt) ++ [V.lst 1 []])[st.length]? = some (V.lst 1 []) := by rw [List.getElem?_append_right (by simp; omega)]; simp [hTl]
      have z2 : (st.length : Int) < ((st.length + 1 : Nat) : Int) := by omega
      have z3 : st.length < st.length + 1 := by omega
      have z4 : (st.length + 1) * 24 ≤ 140737488355328 := by omega
      have z5 : st.length ≤ 9223372036854775806 := by omega
      have z6 : ∀ X : V, ((T.map (eList 1 eInt) ++ [V.lst 1 []]).set st.length X)[st.length]? = some X := fun X => List.getElem?_set_self (by simp; omega)
      simp only [g1, g2, g3, g5, gm, lk, z0, z1, z2, z3, z4, z5, z6, hTl, List.length_map, List.length_append, List.length_set, beq_self_eq_true, Bool.or_true, Option.isSome_none, Option.isSome_some, Option.getD_none, Option.getD_some, go_sem]
      repeat' ((first | ((first | apply qa | apply qb | apply qc | apply qd | apply qe | apply qf | apply qg | apply qh | apply qi | apply qj | apply qk) <;> intro hp) | ((first | refine ql rfl rfl (by decide +kernel) ?_ | refine qm _ rfl rfl (by decide +kernel) ?_ | refine goes_opn rfl ?_ | refine goes_opnD rfl rfl (by decide +kernel) ?_ | refine goes_opnN _ rfl rfl (by decide +kernel) ?_) <;> have hp := True.intro)) <;> simp only [hp, g1, g2, g3, g5, gm, lk, z0, z1, z2, z3, z4, z5, z6, hTl, List.length_map, List.length_append, List.length_set, beq_self_eq_true, Bool.or_true, Option.isSome_none, Option.isSome_some, Option.getD_none, Option.getD_some, go_sem])
      all_goals exact ih'
    | some j =>
      have hj := ixT_lt hx
      simp only [hx, Option.map_some, Nat.zero_add] at lk
      obtain ⟨T, hT⟩ : ∃ T, st.map (·.2) = T := ⟨_, rfl⟩
      have hTl : T.length = st.length := by rw [← hT, List.length_map]
      rw [addT_some hx, snds_mod, ent_mod, hT, encs_mod (by omega)] at ih'
      simp only [hT]
      have hb : (T[j]'(by omega)).length ≤ 30 := by
        have := mem_cnt hj
        simp only [← hT, List.getElem_map]
        omega
      generalize hE : (T[j]'(by omega)) = E at *
      have z1 : (T.map (eList 1 eInt))[j]? = some (V.lst 1 (E.map eInt)) := by rw [List.getElem?_map, List.getElem?_eq_getElem (by omega), hE]; rfl
      have y0 : (0 : Int) ≤ j := by omega
      have z2 : (j : Int) < (st.length : Int) := by omega
      have z4 : (E.length + 1) * 8 ≤ 140737488355328 := by omega
      have z5 : E.length ≤ 9223372036854775806 := by omega
      have z6 : ∀ X : V, ((T.map (eList 1 eInt)).set j X)[j]? = some X := fun X => List.getElem?_set_self (by simp; omega)
      simp only [g1, g2, g3, g5, gm, lk, y0, z1, z2, z4, z5, z6, hTl, List.length_map, List.length_append, List.length_set, beq_self_eq_true, Bool.or_true, Option.isSome_none, Option.isSome_some, Option.getD_none, Option.getD_some, go_sem]
      repeat' ((first | ((first | apply qa | apply qb | apply qc | apply qd | apply qe | apply qf | apply qg | apply qh | apply qi | apply qj | apply qk) <;> intro hp) | ((first | refine ql rfl rfl (by decide +kernel) ?_ | refine qm _ rfl rfl (by decide +kernel) ?_ | refine goes_opn rfl ?_ | refine goes_opnD rfl rfl (by decide +kernel) ?_ | refine goes_opnN _ rfl rfl (by decide +kernel) ?_) <;> have hp := True.intro)) <;> simp only [hp, g1, g2, g3, g5, gm, lk, y0, z1, z2, z4, z5, z6, hTl, List.length_map, List.length_append, List.length_set, beq_self_eq_true, Bool.or_true, Option.isSome_none, Option.isSome_some, Option.getD_none, Option.getD_some, go_sem])
      all_goals exact ih'
  · have g1 : ¬ (i : Int) < L.length := by omega
    rw [List.take_of_length_le h]
    simp only [g1, go_sem]
    repeat' ((first | ((first | apply qa | apply qb | apply qc | apply qd | apply qe | apply qf | apply qg | apply qh | apply qi | apply qj | apply qk) <;> intro hp) | ((first | refine ql rfl rfl (by decide +kernel) ?_ | refine qm _ rfl rfl (by decide +kernel) ?_ | refine goes_opn rfl ?_ | refine goes_opnD rfl rfl (by decide +kernel) ?_ | refine goes_opnN _ rfl rfl (by decide +kernel) ?_) <;> have hp := True.intro)) <;> simp only [hp, g1, go_sem])
    all_goals (simp only [fin_mk, finV, resL, resV1, resIn, endA, listIn, Option.some_or, Option.none_or, oneOrTup, go_sem]; rw [← hr])
end Go.Proofs.YtghmjnggmacohaaGreatDoor.L

