/- Contracts of functions, and the facts that they need. No condition. -/
import Derived.Test.YtjkhhplhjbmhjaaGreatVLIns3
import Derived.Test.YtjkhhplhjbmhjaaGreatVLMB
import Derived.Test.YtjkhhplhjbmhjaaGreatVLG
import Derived.Test.YtjkhhplhjbmhjaaGreatVLG2

import Derived.Test.YtjkhhplhjbmhjaaGreatVLY

namespace Go.Proofs.YtjkhhplhjbmhjaaGreat.L
open Go Go.VM
set_option maxRecDepth 100000
set_option maxHeartbeats 4000000
set_option linter.unusedSimpArgs false
set_option linter.unusedVariables false
def usesTo (k : Int) : Bool := k == 6 || k == 7
def sinceOk (x : Edit) : Bool := if x.Kind == 4 then within x.Since (-1) 100000 else if x.Kind == 8 then within x.Since 0 100000 else x.Since == 0
def eTo (x : Edit) : Bool := (x.To == [] && !usesTo x.Kind) || (usesTo x.Kind && boxName x.To)
def eSet (x : Edit) : Bool := x.Set.isEmpty || (within x.Kind 4 7 && setOk x.Set)
def eHow (x : Edit) : Bool := (x.How == 0 && !(x.Kind == 4)) || (x.Kind == 4 && within x.How 1 3)
def eBits (x : Edit) : Bool := x.Bits == 0 || ((x.Kind == 3 || x.Kind == 4) && flagsOk x.Bits)
def eText (x : Edit) : Bool := (x.Text == [] && !(x.Kind == 3)) || (x.Kind == 3 && mailOk x.Text)
def editOk (x : Edit) : Bool := (within x.Kind 1 8 && boxName x.Box && sinceOk x) && (eTo x && eSet x && eHow x && eBits x && eText x)
open Classical in
noncomputable def spUsesTo : VM.Spec := { modes := [.rd], run := fun | [.int .i64 k] => some (.bool (usesTo k), []) | _ => none, need := [] }
attribute [go_sem] spUsesTo
theorem spUsesTo_in {ins : List V} {r : V} {outs : List V} (h : spUsesTo.run ins = some (r, outs)) : ∃ (k : Int), ins = [.int .i64 k] ∧ .bool (usesTo k) = r ∧ outs = [] := by
  unfold spUsesTo at h
  simp only at h
  split at h
  · rename_i k
    simp only [Option.some.injEq, Prod.mk.injEq] at h
    obtain ⟨h1, h2⟩ := h
    exact ⟨k, rfl, h1, h2.symm⟩
  · cases h
def T_impl_usesTo : Hints := ⟨lk [], lk [], lk [(0, [0]), (1, [2])], lk []⟩
noncomputable def Phi_impl_usesTo : Tab := lk []
attribute [go_sem] T_impl_usesTo Phi_impl_usesTo
theorem phi_impl_usesTo : ∀ f sp, Phi_impl_usesTo f = some sp → FnOk Tryz.prog f sp ∧ ∀ n ∈ sp.need, n ∈ ([] : List String) := phi_nil
theorem ok_impl_usesTo : FnOk Tryz.prog 62 spUsesTo := by
  refine fn_ok (Φ := Phi_impl_usesTo) (T := T_impl_usesTo) phi_impl_usesTo mixed Tryz.func62 rfl rfl rfl (by decide) ?_
  intro ins r outs hr hl
  clear hl
  have hs := spUsesTo_in hr
  clear hr
  obtain ⟨k, rfl, hr, rfl⟩ := hs
  simp only [spUsesTo, Tryz.f62, Go.VM.initS]
  simp only [go_sem]
  repeat' ((first | apply qa | apply qb | apply qc | apply qd | apply qe | apply qf | apply qg | apply qh | apply qi | apply qj | apply qk) <;> intro hp <;> simp only [hp, go_sem])
  all_goals (simp only [fin_mk, finV, resL, resV1, resIn, endA, listIn, Option.some_or, Option.none_or, oneOrTup, go_sem]; rw [← hr])
  all_goals (clear hr; simp_all [usesTo])
open Classical in
noncomputable def spUsesSet : VM.Spec := { modes := [.rd], run := fun | [.int .i64 k] => some (.bool (within k 4 7), []) | _ => none, need := [] }
attribute [go_sem] spUsesSet
theorem spUsesSet_in {ins : List V} {r : V} {outs : List V} (h : spUsesSet.run ins = some (r, outs)) : ∃ (k : Int), ins = [.int .i64 k] ∧ .bool (within k 4 7) = r ∧ outs = [] := by
  unfold spUsesSet at h
  simp only at h
  split at h
  · rename_i k
    simp only [Option.some.injEq, Prod.mk.injEq] at h
    obtain ⟨h1, h2⟩ := h
    exact ⟨k, rfl, h1, h2.symm⟩
  · cases h
def T_impl_usesSet : Hints := ⟨lk [], lk [], lk [(0, [0]), (1, [2])], lk []⟩
noncomputable def Phi_impl_usesSet : Tab := lk [(35, spWithin)]
attribute [go_sem] T_impl_usesSet Phi_impl_usesSet
theorem phi_impl_usesSet : ∀ f sp, Phi_impl_usesSet f = some sp → FnOk Tryz.prog f sp ∧ ∀ n ∈ sp.need, n ∈ ([] : List String) := phi_cons ok_impl_within (n0 rfl) (phi_nil)
theorem ok_impl_usesSet : FnOk Tryz.prog 63 spUsesSet := by
  refine fn_ok (Φ := Phi_impl_usesSet) (T := T_impl_usesSet) phi_impl_usesSet mixed Tryz.func63 rfl rfl rfl (by decide) ?_
  intro ins r outs hr hl
  clear hl
  have hs := spUsesSet_in hr
  clear hr
  obtain ⟨k, rfl, hr, rfl⟩ := hs
  simp only [spUsesSet, Tryz.f63, Go.VM.initS]
  simp only [go_sem]
  simp only [fin_mk, finV, resL, resV1, resIn, endA, listIn, Option.some_or, Option.none_or, oneOrTup, go_sem]
  rw [← hr]
open Classical in
noncomputable def spSinceOk : VM.Spec := { modes := [.rd], run := fun | [x'] => (Edit.dec x').bind fun x => some (.bool (sinceOk x), []) | _ => none, need := [] }
attribute [go_sem] spSinceOk
theorem spSinceOk_in {ins : List V} {r : V} {outs : List V} (h : spSinceOk.run ins = some (r, outs)) : ∃ (x : Edit), ins = [Edit.enc x] ∧ .bool (sinceOk x) = r ∧ outs = [] := by
  unfold spSinceOk at h
  simp only at h
  split at h
  · rename_i x'
    simp only [Option.bind_eq_some_iff] at h
    obtain ⟨x, h_x, h⟩ := h
    simp only [Option.some.injEq, Prod.mk.injEq] at h
    obtain ⟨h1, h2⟩ := h
    have h_x := Edit.dec_some h_x
    subst h_x
    exact ⟨x, rfl, h1, h2.symm⟩
  · cases h
def T_impl_sinceOk : Hints := ⟨lk [], lk [], lk [(0, [1]), (1, [1, 4]), (2, [1, 4, 5]), (3, [2]), (4, [1, 10]), (5, [2]), (6, [2])], lk []⟩
noncomputable def Phi_impl_sinceOk : Tab := lk [(35, spWithin)]
attribute [go_sem] T_impl_sinceOk Phi_impl_sinceOk
theorem phi_impl_sinceOk : ∀ f sp, Phi_impl_sinceOk f = some sp → FnOk Tryz.prog f sp ∧ ∀ n ∈ sp.need, n ∈ ([] : List String) := phi_cons ok_impl_within (n0 rfl) (phi_nil)
theorem ok_impl_sinceOk : FnOk Tryz.prog 61 spSinceOk := by
  refine fn_ok (Φ := Phi_impl_sinceOk) (T := T_impl_sinceOk) phi_impl_sinceOk mixed Tryz.func61 rfl rfl rfl (by decide) ?_
  intro ins r outs hr hl
  clear hl
  have hs := spSinceOk_in hr
  clear hr
  obtain ⟨x, rfl, hr, rfl⟩ := hs
  simp only [spSinceOk, Tryz.f61, Go.VM.initS]
  simp only [go_sem]
  repeat' ((first | apply qa | apply qb | apply qc | apply qd | apply qe | apply qf | apply qg | apply qh | apply qi | apply qj | apply qk) <;> intro hp <;> simp only [hp, go_sem])
  all_goals (simp only [fin_mk, finV, resL, resV1, resIn, endA, listIn, Option.some_or, Option.none_or, oneOrTup, go_sem]; rw [← hr])
  all_goals simp_all [sinceOk]
open Classical in
noncomputable def spEditOk : VM.Spec := { modes := [.rd], run := fun | [x'] => (Edit.dec x').bind fun x => if x.le 4194304 then some (.bool (editOk x), []) else none | _ => none, need := [] }
attribute [go_sem] spEditOk
theorem spEditOk_in {ins : List V} {r : V} {outs : List V} (h : spEditOk.run ins = some (r, outs)) : ∃ (x : Edit), ins = [Edit.enc x] ∧ (x.le 4194304) ∧ .bool (editOk x) = r ∧ outs = [] := by
  unfold spEditOk at h
  simp only at h
  split at h
  · rename_i x'
    simp only [Option.bind_eq_some_iff] at h
    obtain ⟨x, h_x, h⟩ := h
    split at h
    case isFalse => cases h
    rename_i hc
    simp only [Option.some.injEq, Prod.mk.injEq] at h
    obtain ⟨h1, h2⟩ := h
    have h_x := Edit.dec_some h_x
    subst h_x
    exact ⟨x, rfl, hc, h1, h2.symm⟩
  · cases h
def T_impl_EditOk : Hints := ⟨lk [(1, []), (3, []), (4, []), (5, []), (6, []), (7, []), (8, [])], lk [], lk [(0, [1]), (1, [1, 22]), (2, [2]), (3, [1, 3]), (4, [1, 3, 4]), (5, [1, 3, 4, 5]), (6, [1, 3, 4, 5, 6]), (7, [3, 4, 5, 6, 7]), (8, [2])], lk []⟩
noncomputable def Phi_impl_EditOk : Tab := lk [(35, spWithin), (60, spBoxName), (61, spSinceOk), (62, spUsesTo), (63, spUsesSet), (64, spSetOk), (65, spFlagsOk), (66, spMailOk)]
attribute [go_sem] T_impl_EditOk Phi_impl_EditOk
theorem phi_impl_EditOk : ∀ f sp, Phi_impl_EditOk f = some sp → FnOk Tryz.prog f sp ∧ ∀ n ∈ sp.need, n ∈ ([] : List String) := phi_cons ok_impl_within (n0 rfl) (phi_cons ok_impl_BoxName (n0 rfl) (phi_cons ok_impl_sinceOk (n0 rfl) (phi_cons ok_impl_usesTo (n0 rfl) (phi_cons ok_impl_usesSet (n0 rfl) (phi_cons ok_impl_SetOk (n0 rfl) (phi_cons ok_impl_FlagsOk (n0 rfl) (phi_cons ok_impl_MailOk (n0 rfl) (phi_nil))))))))
theorem ok_impl_EditOk : FnOk Tryz.prog 24 spEditOk := by
  refine fn_ok (Φ := Phi_impl_EditOk) (T := T_impl_EditOk) phi_impl_EditOk mixed Tryz.func24 rfl rfl rfl (by decide) ?_
  intro ins r outs hr hl
  clear hl
  have hs := spEditOk_in hr
  clear hr
  obtain ⟨x, rfl, hc, hr, rfl⟩ := hs
  simp only [spEditOk, Tryz.f24, Go.VM.initS]
  have hb : x.Box.length ≤ 1099511627776 := Nat.le_trans hc.1 (by decide)
  have ht : x.To.length ≤ 1099511627776 := Nat.le_trans hc.2.1 (by decide)
  have hs : x.Set.length ≤ 4194304 := hc.2.2.1.1
  have hx : x.Text.length ≤ 4194304 := hc.2.2.2
  have l1 : ((x.Set.length : Int) == 0) = x.Set.isEmpty := by cases x.Set <;> simp <;> omega
  have hE : editOk x = ((within x.Kind 1 8 && boxName x.Box && sinceOk x) && (eTo x && eSet x && eHow x && eBits x && eText x)) := rfl
  rw [hE] at hr
  clear hE
  simp only [go_sem]
  refine goes_val 22 V.bool (!(within x.Kind 1 8 && boxName x.Box && sinceOk x)) rfl rfl ?_ ?_
  · intro G hG
    simp only [hb, go_sem]
    repeat' ((first | apply qa | apply qb | apply qc | apply qd | apply qe | apply qf | apply qg | apply qh | apply qi | apply qj | apply qk) <;> intro hp <;> simp only [hp, hb, go_sem])
    all_goals ((first | refine hG _ ?_ | (simp only [*] at hG; refine hG _ ?_)); clear hG; simp_all)
  simp only [go_sem]
  repeat' ((first | apply qa | apply qb | apply qc | apply qd | apply qe | apply qf | apply qg | apply qh | apply qi | apply qj | apply qk) <;> intro hp <;> simp only [hp, go_sem])
  · simp only [fin_mk, finV, resL, resV1, resIn, endA, listIn, Option.some_or, Option.none_or, oneOrTup, go_sem]
    rw [← hr]
    rw [hp]
    rfl
  refine goes_val 3 V.bool (eTo x) rfl rfl ?_ ?_
  · intro G hG
    simp only [ht, go_sem]
    repeat' ((first | apply qa | apply qb | apply qc | apply qd | apply qe | apply qf | apply qg | apply qh | apply qi | apply qj | apply qk) <;> intro hp <;> simp only [hp, ht, go_sem])
    all_goals ((first | refine hG _ ?_ | (simp only [*] at hG; refine hG _ ?_)); clear hG; simp_all [eTo])
  simp only [go_sem]
  refine goes_val 4 V.bool (eSet x) rfl rfl ?_ ?_
  · intro G hG
    simp only [hs, l1, go_sem]
    repeat' ((first | apply qa | apply qb | apply qc | apply qd | apply qe | apply qf | apply qg | apply qh | apply qi | apply qj | apply qk) <;> intro hp <;> simp only [hp, hs, l1, go_sem])
    all_goals ((first | refine hG _ ?_ | (simp only [*] at hG; refine hG _ ?_)); clear hG; simp_all [eSet])
  simp only [go_sem]
  refine goes_val 5 V.bool (eHow x) rfl rfl ?_ ?_
  · intro G hG
    simp only [go_sem]
    repeat' ((first | apply qa | apply qb | apply qc | apply qd | apply qe | apply qf | apply qg | apply qh | apply qi | apply qj | apply qk) <;> intro hp <;> simp only [hp, go_sem])
    all_goals ((first | refine hG _ ?_ | (simp only [*] at hG; refine hG _ ?_)); clear hG; simp_all [eHow])
  simp only [go_sem]
  refine goes_val 6 V.bool (eBits x) rfl rfl ?_ ?_
  · intro G hG
    simp only [go_sem]
    repeat' ((first | apply qa | apply qb | apply qc | apply qd | apply qe | apply qf | apply qg | apply qh | apply qi | apply qj | apply qk) <;> intro hp <;> simp only [hp, go_sem])
    all_goals ((first | refine hG _ ?_ | (simp only [*] at hG; refine hG _ ?_)); clear hG; simp_all [eBits])
  simp only [go_sem]
  refine goes_val 7 V.bool (eText x) rfl rfl ?_ ?_
  · intro G hG
    simp only [hx, go_sem]
    repeat' ((first | apply qa | apply qb | apply qc | apply qd | apply qe | apply qf | apply qg | apply qh | apply qi | apply qj | apply qk) <;> intro hp <;> simp only [hp, hx, go_sem])
    all_goals ((first | refine hG _ ?_ | (simp only [*] at hG; refine hG _ ?_)); clear hG; simp_all [eText])
  simp only [go_sem]
  refine goes_val 2 V.bool (eTo x && eSet x && eHow x && eBits x && eText x) rfl rfl ?_ ?_
  · intro G hG
    simp only [go_sem]
    repeat' ((first | apply qa | apply qb | apply qc | apply qd | apply qe | apply qf | apply qg | apply qh | apply qi | apply qj | apply qk) <;> intro hp <;> simp only [hp, go_sem])
    all_goals ((first | refine hG _ ?_ | (simp only [*] at hG; refine hG _ ?_)); clear hG; simp_all)
  simp only [go_sem]
  simp only [fin_mk, finV, resL, resV1, resIn, endA, listIn, Option.some_or, Option.none_or, oneOrTup, go_sem]
  rw [← hr]
  rw [hp, Bool.true_and]
def uSet (k : Int) : Bool := usesTo k || k == 4 || k == 5
def editUses (x : Edit) : Bool := (usesTo x.Kind || x.To == []) && (uSet x.Kind || x.Set.isEmpty) && (x.Kind == 4 || x.How == 0) && ((x.Kind == 4 || x.Kind == 3) || x.Bits == 0) && ((x.Kind == 4 || x.Kind == 8) || x.Since == 0) && (x.Kind == 3 || x.Text == [])
open Classical in
noncomputable def spEditUses : VM.Spec := { modes := [.rd], run := fun | [x'] => (Edit.dec x').bind fun x => some (.bool (editUses x), []) | _ => none, need := [] }
attribute [go_sem] spEditUses
theorem spEditUses_in {ins : List V} {r : V} {outs : List V} (h : spEditUses.run ins = some (r, outs)) : ∃ (x : Edit), ins = [Edit.enc x] ∧ .bool (editUses x) = r ∧ outs = [] := by
  unfold spEditUses at h
  simp only at h
  split at h
  · rename_i x'
    simp only [Option.bind_eq_some_iff] at h
    obtain ⟨x, h_x, h⟩ := h
    simp only [Option.some.injEq, Prod.mk.injEq] at h
    obtain ⟨h1, h2⟩ := h
    have h_x := Edit.dec_some h_x
    subst h_x
    exact ⟨x, rfl, h1, h2.symm⟩
  · cases h
def T_spec_l10Uses : Hints := ⟨lk [(1, []), (2, []), (5, []), (6, [])], lk [], lk [(0, [1]), (1, [1, 3]), (2, [1, 3, 4]), (3, [1, 3, 4, 5]), (4, [1, 3, 4, 5, 6]), (5, [1, 3, 4, 5, 6, 7]), (6, [2])], lk []⟩
noncomputable def Phi_spec_l10Uses : Tab := lk []
attribute [go_sem] T_spec_l10Uses Phi_spec_l10Uses
theorem phi_spec_l10Uses : ∀ f sp, Phi_spec_l10Uses f = some sp → FnOk Tryz.prog f sp ∧ ∀ n ∈ sp.need, n ∈ ([] : List String) := phi_nil
theorem ok_spec_l10Uses : FnOk Tryz.prog 86 spEditUses := by
  refine fn_ok (Φ := Phi_spec_l10Uses) (T := T_spec_l10Uses) phi_spec_l10Uses mixed Tryz.func86 rfl rfl rfl (by decide) ?_
  intro ins r outs hr hl
  clear hl
  have hs := spEditUses_in hr
  clear hr
  obtain ⟨x, rfl, hr, rfl⟩ := hs
  simp only [spEditUses, Tryz.f86, Go.VM.initS]
  have l1 : ((x.Set.length : Int) == 0) = x.Set.isEmpty := by cases x.Set <;> simp <;> omega
  simp only [go_sem]
  refine goes_val 3 V.bool (usesTo x.Kind) rfl rfl ?_ ?_
  · intro G hG
    simp only [go_sem]
    repeat' ((first | apply qa | apply qb | apply qc | apply qd | apply qe | apply qf | apply qg | apply qh | apply qi | apply qj | apply qk) <;> intro hp <;> simp only [hp, go_sem])
    all_goals ((first | refine hG _ ?_ | (simp only [*] at hG; refine hG _ ?_)); clear hG; simp_all [usesTo])
  simp only [go_sem]
  refine goes_val 4 V.bool (uSet x.Kind) rfl rfl ?_ ?_
  · intro G hG
    simp only [go_sem]
    repeat' ((first | apply qa | apply qb | apply qc | apply qd | apply qe | apply qf | apply qg | apply qh | apply qi | apply qj | apply qk) <;> intro hp <;> simp only [hp, go_sem])
    all_goals ((first | refine hG _ ?_ | (simp only [*] at hG; refine hG _ ?_)); clear hG; simp_all [uSet])
  simp only [go_sem]
  refine goes_val 7 V.bool (x.Kind == 4 || x.Kind == 8) rfl rfl ?_ ?_
  · intro G hG
    simp only [go_sem]
    repeat' ((first | apply qa | apply qb | apply qc | apply qd | apply qe | apply qf | apply qg | apply qh | apply qi | apply qj | apply qk) <;> intro hp <;> simp only [hp, go_sem])
    all_goals ((first | refine hG _ ?_ | (simp only [*] at hG; refine hG _ ?_)); clear hG; simp_all)
  simp only [go_sem]
  refine goes_val 2 V.bool (editUses x) rfl rfl ?_ ?_
  · intro G hG
    simp only [l1, go_sem]
    repeat' ((first | apply qa | apply qb | apply qc | apply qd | apply qe | apply qf | apply qg | apply qh | apply qi | apply qj | apply qk) <;> intro hp <;> simp only [hp, l1, go_sem])
    all_goals ((first | refine hG _ ?_ | (simp only [*] at hG; refine hG _ ?_)); clear hG; simp_all [editUses])
  simp only [go_sem]
  simp only [fin_mk, finV, resL, resV1, resIn, endA, listIn, Option.some_or, Option.none_or, oneOrTup, go_sem]
  rw [← hr]
def editKind (x : Edit) : Bool := if x.Kind == 6 then boxName x.To else if x.Kind == 7 then boxName x.To else if x.Kind == 4 then within x.How 1 3 && within x.Since (-1) 100000 else if x.Kind == 8 then within x.Since 0 100000 else if x.Kind == 3 then mailOk x.Text else true
theorem editOk_eq (x : Edit) : editOk x = ((within x.Kind 1 8 && boxName x.Box && editUses x && setOk x.Set && flagsOk x.Bits) && editKind x) := by
  cases hk : within x.Kind 1 8 with
  | false => simp [editOk, hk]
  | true =>
    have hk' : x.Kind = 1 ∨ x.Kind = 2 ∨ x.Kind = 3 ∨ x.Kind = 4 ∨ x.Kind = 5 ∨ x.Kind = 6 ∨ x.Kind = 7 ∨ x.Kind = 8 := by
      simp only [within, Bool.and_eq_true, decide_eq_true_eq] at hk; omega
    obtain ⟨K, B, T, S, H, I, N, X⟩ := x
    simp only at hk'
    have hS : S.isEmpty = true → setOk S = true := by cases S <;> simp; rfl
    have hI : (I == 0) = true → flagsOk I = true := by intro h; have : I = 0 := by simpa using h
                                                       subst this; rfl
    rcases hk' with rfl | rfl | rfl | rfl | rfl | rfl | rfl | rfl <;>
      simp only [editOk, editUses, editKind, eTo, eSet, eHow, eBits, eText, sinceOk, usesTo, uSet, within, Int.reduceBEq, Int.reduceLE, decide_true, decide_false, Bool.or_false, Bool.false_or, Bool.true_or, Bool.or_true, Bool.not_true, Bool.not_false, Bool.and_true, Bool.true_and, Bool.and_false, Bool.false_and, Bool.or_self, Bool.false_eq_true, if_true, if_false] <;>
      (generalize hb : boxName B = b1; generalize ht : boxName T = b2; generalize (T == []) = b3; generalize S.isEmpty = b4 at *; generalize setOk S = b5 at *; generalize (H == 0) = b6; generalize (I == 0) = b7 at *; generalize flagsOk I = b8 at *; generalize (N == 0) = b9; generalize (X == []) = b10; clear hb ht hk; revert hS hI; cases b4 <;> cases b5 <;> cases b7 <;> cases b8 <;> simp <;> cases b1 <;> cases b6 <;> simp <;> cases b9 <;> cases b10 <;> simp <;> cases b3 <;> simp <;> rw [Bool.and_comm])
def T_spec_EditOk : Hints := ⟨lk [(1, []), (8, [])], lk [], lk [(0, [1]), (1, [1, 29]), (2, [2]), (3, [1, 31]), (4, [1, 31, 32]), (5, [1, 31, 32]), (6, [2]), (7, [1, 31, 38]), (8, [2]), (9, [1, 31, 48]), (10, [2]), (11, [1, 53]), (12, [2]), (13, [2])], lk []⟩
noncomputable def Phi_spec_EditOk : Tab := lk [(84, spWithin), (85, spBoxName), (86, spEditUses), (87, spSetOk), (88, spFlagsOk), (89, spMailOk)]
attribute [go_sem] T_spec_EditOk Phi_spec_EditOk
theorem phi_spec_EditOk : ∀ f sp, Phi_spec_EditOk f = some sp → FnOk Tryz.prog f sp ∧ ∀ n ∈ sp.need, n ∈ ([] : List String) := phi_cons ok_spec_l01In (n0 rfl) (phi_cons ok_spec_BoxName (n0 rfl) (phi_cons ok_spec_l10Uses (n0 rfl) (phi_cons ok_spec_SetOk (n0 rfl) (phi_cons ok_spec_FlagsOk (n0 rfl) (phi_cons ok_spec_MailOk (n0 rfl) (phi_nil))))))
theorem ok_spec_EditOk : FnOk Tryz.prog 39 spEditOk := by
  refine fn_ok (Φ := Phi_spec_EditOk) (T := T_spec_EditOk) phi_spec_EditOk mixed Tryz.func39 rfl rfl rfl (by decide) ?_
  intro ins r outs hr hl
  clear hl
  have hs := spEditOk_in hr
  clear hr
  obtain ⟨x, rfl, hc, hr, rfl⟩ := hs
  simp only [spEditOk, Tryz.f39, Go.VM.initS]
  have hb : x.Box.length ≤ 1099511627776 := Nat.le_trans hc.1 (by decide)
  have ht : x.To.length ≤ 1099511627776 := Nat.le_trans hc.2.1 (by decide)
  have hs : x.Set.length ≤ 4194304 := hc.2.2.1.1
  have hx : x.Text.length ≤ 4194304 := hc.2.2.2
  rw [editOk_eq] at hr
  simp only [go_sem]
  refine goes_val 29 V.bool (!(within x.Kind 1 8 && boxName x.Box && editUses x && setOk x.Set && flagsOk x.Bits)) rfl rfl ?_ ?_
  · intro G hG
    simp only [hb, hs, go_sem]
    repeat' ((first | apply qa | apply qb | apply qc | apply qd | apply qe | apply qf | apply qg | apply qh | apply qi | apply qj | apply qk) <;> intro hp <;> simp only [hp, hb, hs, go_sem])
    all_goals ((first | refine hG _ ?_ | (simp only [*] at hG; refine hG _ ?_)); clear hG; simp_all)
  simp only [ht, hx, go_sem]
  repeat' ((first | apply qa | apply qb | apply qc | apply qd | apply qe | apply qf | apply qg | apply qh | apply qi | apply qj | apply qk) <;> intro hp <;> simp only [hp, ht, hx, go_sem])
  · simp only [fin_mk, finV, resL, resV1, resIn, endA, listIn, Option.some_or, Option.none_or, oneOrTup, go_sem]
    rw [← hr]
    rw [hp, Bool.false_and]
  all_goals first
    | (refine fin_mk.2 ?_; simp only [fin_mk, finV, resL, resV1, resIn, endA, listIn, Option.some_or, Option.none_or, oneOrTup, go_sem]; rw [← hr]; simp_all [editKind]; done)
    | skip
  refine goes_val 2 V.bool (within x.How 1 3 && within x.Since (-1) 100000) rfl rfl ?_ ?_
  · intro G hG
    simp only [go_sem]
    repeat' ((first | apply qa | apply qb | apply qc | apply qd | apply qe | apply qf | apply qg | apply qh | apply qi | apply qj | apply qk) <;> intro hp <;> simp only [hp, go_sem])
    all_goals ((first | refine hG _ ?_ | (simp only [*] at hG; refine hG _ ?_)); clear hG; simp_all)
  simp only [go_sem]
  simp only [fin_mk, finV, resL, resV1, resIn, endA, listIn, Option.some_or, Option.none_or, oneOrTup, go_sem]
  rw [← hr]
  simp_all [editKind]
end Go.Proofs.YtjkhhplhjbmhjaaGreat.L

namespace Go.Proofs.YtjkhhplhjbmhjaaGreat.L
open Go Go.VM
set_option maxRecDepth 100000
set_option maxHeartbeats 4000000
set_option linter.unusedSimpArgs false
set_option linter.unusedVariables false
def applyIn (b : Box) (e : Edit) : Box × Int :=
  if e.Kind = 3 then (addMail b e.Bits e.Text, if addUid b e.Bits e.Text = 0 then 3 else 0)
  else if e.Kind = 4 then (setFlags b e.Set e.How e.Bits e.Since, 0)
  else if e.Kind = 5 then (expunge b e.Set, 0)
  else (forgetTombs b e.Since, 0)
def applyPut (s : Store) (b : Box) (e : Edit) : Store × Int :=
  if (applyIn b e).2 = 0 then (putBox s (applyIn b e).1, 0) else (s, (applyIn b e).2)
def applyS (s : Store) (e : Edit) : Store × Int :=
  if storeOk s = false ∨ editOk e = false then (s, 4)
  else if e.Kind = 1 then makeBox s e.Box
  else if boxHas s e.Box = false then (s, 1)
  else if e.Kind = 2 then dropBox s e.Box
  else if e.Kind = 6 then (copyMails s e.Box e.Set e.To, copyCode s e.Box e.Set e.To)
  else if e.Kind = 7 then (moveMails s e.Box e.Set e.To, moveCode s e.Box e.Set e.To)
  else applyPut s (boxGet s e.Box) e
theorem applyIn_le {b : Box} {e : Edit} (hb : b.le 4194304) (he : e.le 4194304) : (applyIn b e).1.le 4194304 := by
  unfold applyIn
  split
  · exact addMail_le hb he.2.2.2
  · split
    · exact setFlags_le hb
    · split
      · exact expunge_le hb
      · exact forgetTombs_le hb
theorem applyPut_le {s : Store} {b : Box} {e : Edit} (hs : s.le 4194304) (hb : b.le 4194304) (he : e.le 4194304) : (applyPut s b e).1.le 4194304 := by
  unfold applyPut
  split
  · exact putBox_le hs (applyIn_le hb he)
  · exact hs
theorem applyS_le {s : Store} {e : Edit} (hs : s.le 4194304) (he : e.le 4194304) : (applyS s e).1.le 4194304 := by
  unfold applyS
  split
  · exact hs
  split
  · exact makeBox_le hs
  split
  · exact hs
  split
  · exact dropBox_le hs
  split
  · exact copyMails_le hs
  split
  · exact moveMails_le hs
  exact applyPut_le hs (boxGet_le hs) he
theorem edit_kind {e : Edit} (h : editOk e = true) : 1 ≤ e.Kind ∧ e.Kind ≤ 8 := by
  simp only [editOk, within, Bool.and_eq_true, decide_eq_true_eq] at h
  exact h.1.1.1
open Classical in
noncomputable def spApplyIn : VM.Spec := { modes := [.rd, .rd], run := fun | [b', e'] => (Box.dec b').bind fun b => (Edit.dec e').bind fun e => if b.le 4194304 ∧ e.le 4194304 then some (.tup [Box.enc ((applyIn b e).1), .int .i64 ((applyIn b e).2)], []) else none | _ => none, need := [] }
attribute [go_sem] spApplyIn
theorem spApplyIn_in {ins : List V} {r : V} {outs : List V} (h : spApplyIn.run ins = some (r, outs)) : ∃ (b : Box) (e : Edit), ins = [Box.enc b, Edit.enc e] ∧ (b.le 4194304 ∧ e.le 4194304) ∧ .tup [Box.enc ((applyIn b e).1), .int .i64 ((applyIn b e).2)] = r ∧ outs = [] := by
  unfold spApplyIn at h
  simp only at h
  split at h
  · rename_i b' e'
    simp only [Option.bind_eq_some_iff] at h
    obtain ⟨b, h_b, e, h_e, h⟩ := h
    split at h
    case isFalse => cases h
    rename_i hc
    simp only [Option.some.injEq, Prod.mk.injEq] at h
    obtain ⟨h1, h2⟩ := h
    have h_b := Box.dec_some h_b
    subst h_b
    have h_e := Edit.dec_some h_e
    subst h_e
    exact ⟨b, e, rfl, hc, h1, h2.symm⟩
  · cases h
def T_impl_applyIn : Hints := ⟨lk [], lk [], lk [(0, [2, 3, 4]), (1, [2, 3, 4, 14]), (2, [2, 3, 4, 14, 15]), (3, [4, 6, 7]), (4, [4, 6, 27]), (5, [4, 5]), (6, [4, 5]), (7, [2, 3, 4, 14, 30]), (8, [4, 8]), (9, [4, 5]), (10, [2, 3, 4, 47]), (11, [4, 11]), (12, [4, 5]), (13, [4, 5])], lk []⟩
noncomputable def Phi_impl_applyIn : Tab := lk [(71, spAddMail), (72, spSetFlags), (73, spExpunge), (76, spForgetTombs)]
attribute [go_sem] T_impl_applyIn Phi_impl_applyIn
theorem phi_impl_applyIn : ∀ f sp, Phi_impl_applyIn f = some sp → FnOk Tryz.prog f sp ∧ ∀ n ∈ sp.need, n ∈ ([] : List String) := phi_cons ok_impl_AddMail (n0 rfl) (phi_cons ok_impl_SetFlags (n0 rfl) (phi_cons ok_impl_Expunge (n0 rfl) (phi_cons ok_impl_ForgetTombs (n0 rfl) (phi_nil))))
theorem ok_impl_applyIn : FnOk Tryz.prog 30 spApplyIn := by
  refine fn_ok (Φ := Phi_impl_applyIn) (T := T_impl_applyIn) phi_impl_applyIn mixed Tryz.func30 rfl rfl rfl (by decide) ?_
  intro ins r outs hr hl
  clear hl
  have hs := spApplyIn_in hr
  clear hr
  obtain ⟨b, e, rfl, hc, hr, rfl⟩ := hs
  simp only [spApplyIn, Tryz.f30, Go.VM.initS]
  obtain ⟨hb, he⟩ := hc
  have h1 := he.2.2.1.1
  have h2 : e.Text.length ≤ 4194304 := he.2.2.2
  by_cases k3 : e.Kind = 3
  · have e3 : (e.Kind == 3) = true := by rw [k3]; rfl
    by_cases hu : addUid b e.Bits e.Text = 0
    · have eu : (addUid b e.Bits e.Text == 0) = true := by rw [hu]; rfl
      simp only [hb, h1, h2, e3, eu, go_sem]
      repeat' ((first | apply qa | apply qb | apply qc | apply qd | apply qe | apply qf | apply qg | apply qh | apply qi | apply qj | apply qk) <;> intro hp <;> simp only [hp, hb, h1, h2, e3, eu, go_sem])
      simp only [fin_mk, finV, resL, resV1, resIn, endA, listIn, Option.some_or, Option.none_or, oneOrTup, go_sem]
      rw [← hr]
      rw [applyIn, if_pos k3, if_pos hu]; rfl
    · have eu : (addUid b e.Bits e.Text == 0) = false := beq_eq_false_iff_ne.2 hu
      simp only [hb, h1, h2, e3, eu, go_sem]
      repeat' ((first | apply qa | apply qb | apply qc | apply qd | apply qe | apply qf | apply qg | apply qh | apply qi | apply qj | apply qk) <;> intro hp <;> simp only [hp, hb, h1, h2, e3, eu, go_sem])
      simp only [fin_mk, finV, resL, resV1, resIn, endA, listIn, Option.some_or, Option.none_or, oneOrTup, go_sem]
      rw [← hr]
      rw [applyIn, if_pos k3, if_neg hu]; rfl
  have e3 : (e.Kind == 3) = false := beq_eq_false_iff_ne.2 k3
  by_cases k4 : e.Kind = 4
  · have e4 : (e.Kind == 4) = true := by rw [k4]; rfl
    simp only [hb, h1, h2, e3, e4, go_sem]
    repeat' ((first | apply qa | apply qb | apply qc | apply qd | apply qe | apply qf | apply qg | apply qh | apply qi | apply qj | apply qk) <;> intro hp <;> simp only [hp, hb, h1, h2, e3, e4, go_sem])
    simp only [fin_mk, finV, resL, resV1, resIn, endA, listIn, Option.some_or, Option.none_or, oneOrTup, go_sem]
    rw [← hr]
    rw [applyIn, if_neg k3, if_pos k4]; rfl
  have e4 : (e.Kind == 4) = false := beq_eq_false_iff_ne.2 k4
  by_cases k5 : e.Kind = 5
  · have e5 : (e.Kind == 5) = true := by rw [k5]; rfl
    simp only [hb, h1, h2, e3, e4, e5, go_sem]
    repeat' ((first | apply qa | apply qb | apply qc | apply qd | apply qe | apply qf | apply qg | apply qh | apply qi | apply qj | apply qk) <;> intro hp <;> simp only [hp, hb, h1, h2, e3, e4, e5, go_sem])
    simp only [fin_mk, finV, resL, resV1, resIn, endA, listIn, Option.some_or, Option.none_or, oneOrTup, go_sem]
    rw [← hr]
    rw [applyIn, if_neg k3, if_neg k4, if_pos k5]; rfl
  have e5 : (e.Kind == 5) = false := beq_eq_false_iff_ne.2 k5
  simp only [hb, h1, h2, e3, e4, e5, go_sem]
  repeat' ((first | apply qa | apply qb | apply qc | apply qd | apply qe | apply qf | apply qg | apply qh | apply qi | apply qj | apply qk) <;> intro hp <;> simp only [hp, hb, h1, h2, e3, e4, e5, go_sem])
  simp only [fin_mk, finV, resL, resV1, resIn, endA, listIn, Option.some_or, Option.none_or, oneOrTup, go_sem]
  rw [← hr]
  rw [applyIn, if_neg k3, if_neg k4, if_neg k5]; rfl
open Classical in
noncomputable def spApplyPut : VM.Spec := { modes := [.rd, .rd, .rd], run := fun | [s', b', e'] => (Store.dec s').bind fun s => (Box.dec b').bind fun b => (Edit.dec e').bind fun e => if s.le 4194304 ∧ b.le 4194304 ∧ e.le 4194304 ∧ (e.Kind = 3 ∨ e.Kind = 4 ∨ e.Kind = 5 ∨ e.Kind = 8) then some (.tup [Store.enc ((applyPut s b e).1), .int .i64 ((applyPut s b e).2)], []) else none | _ => none, need := [] }
attribute [go_sem] spApplyPut
theorem spApplyPut_in {ins : List V} {r : V} {outs : List V} (h : spApplyPut.run ins = some (r, outs)) : ∃ (s : Store) (b : Box) (e : Edit), ins = [Store.enc s, Box.enc b, Edit.enc e] ∧ (s.le 4194304 ∧ b.le 4194304 ∧ e.le 4194304 ∧ (e.Kind = 3 ∨ e.Kind = 4 ∨ e.Kind = 5 ∨ e.Kind = 8)) ∧ .tup [Store.enc ((applyPut s b e).1), .int .i64 ((applyPut s b e).2)] = r ∧ outs = [] := by
  unfold spApplyPut at h
  simp only at h
  split at h
  · rename_i s' b' e'
    simp only [Option.bind_eq_some_iff] at h
    obtain ⟨s, h_s, b, h_b, e, h_e, h⟩ := h
    split at h
    case isFalse => cases h
    rename_i hc
    simp only [Option.some.injEq, Prod.mk.injEq] at h
    obtain ⟨h1, h2⟩ := h
    have h_s := Store.dec_some h_s
    subst h_s
    have h_b := Box.dec_some h_b
    subst h_b
    have h_e := Edit.dec_some h_e
    subst h_e
    exact ⟨s, b, e, rfl, hc, h1, h2.symm⟩
  · cases h
def T_spec_l10Box : Hints := ⟨lk [], lk [], lk [(0, [3, 4, 5, 6]), (1, [3, 4, 5, 6, 11]), (2, [3, 4, 5, 6, 11, 12]), (3, [3, 4, 6, 8, 9]), (4, [3, 4, 6, 8, 24]), (5, [6, 7]), (6, [3, 4, 6]), (7, [3, 4, 5, 6, 11, 28]), (8, [3, 4, 6]), (9, [3, 4, 5, 6, 11, 44]), (10, [3, 4, 6]), (11, [3, 4, 5, 6, 53]), (12, [3, 4, 6]), (13, [6, 7])], lk []⟩
noncomputable def Phi_spec_l10Box : Tab := lk [(93, spAddMail), (95, spSetFlags), (96, spExpunge), (98, spForgetTombs), (94, spPutBox), (40, spCopyStore)]
attribute [go_sem] T_spec_l10Box Phi_spec_l10Box
theorem phi_spec_l10Box : ∀ f sp, Phi_spec_l10Box f = some sp → FnOk Tryz.prog f sp ∧ ∀ n ∈ sp.need, n ∈ ([] : List String) := phi_cons ok_spec_AddMail (n0 rfl) (phi_cons ok_spec_SetFlags (n0 rfl) (phi_cons ok_spec_Expunge (n0 rfl) (phi_cons ok_spec_ForgetTombs (n0 rfl) (phi_cons ok_spec_PutBox (n0 rfl) (phi_cons ok_spec_l09Copy (n0 rfl) (phi_nil))))))
theorem ok_spec_l10Box : FnOk Tryz.prog 46 spApplyPut := by
  refine fn_ok (Φ := Phi_spec_l10Box) (T := T_spec_l10Box) phi_spec_l10Box mixed Tryz.func46 rfl rfl rfl (by decide) ?_
  intro ins r outs hr hl
  clear hl
  have hs := spApplyPut_in hr
  clear hr
  obtain ⟨s, b, e, rfl, hc, hr, rfl⟩ := hs
  simp only [spApplyPut, Tryz.f46, Go.VM.initS]
  obtain ⟨hs, hb, he, hk⟩ := hc
  have h1 := he.2.2.1.1
  have h2 : e.Text.length ≤ 4194304 := he.2.2.2
  have hle := applyIn_le hb he
  by_cases k3 : e.Kind = 3
  · have e3 : (e.Kind == 3) = true := by rw [k3]; rfl
    by_cases hu : addUid b e.Bits e.Text = 0
    · have eu : (addUid b e.Bits e.Text == 0) = true := by rw [hu]; rfl
      simp only [hs, hb, h1, h2, e3, eu, go_sem]
      repeat' ((first | apply qa | apply qb | apply qc | apply qd | apply qe | apply qf | apply qg | apply qh | apply qi | apply qj | apply qk) <;> intro hp <;> simp only [hp, hs, hb, h1, h2, e3, eu, go_sem])
      simp only [fin_mk, finV, resL, resV1, resIn, endA, listIn, Option.some_or, Option.none_or, oneOrTup, go_sem]
      rw [← hr]
      rw [applyPut, applyIn, if_pos k3, if_pos hu]; rfl
    · have eu : (addUid b e.Bits e.Text == 0) = false := beq_eq_false_iff_ne.2 hu
      rw [applyIn, if_pos k3] at hle
      simp only [hs, hb, h1, h2, e3, eu, hle, go_sem]
      repeat' ((first | apply qa | apply qb | apply qc | apply qd | apply qe | apply qf | apply qg | apply qh | apply qi | apply qj | apply qk) <;> intro hp <;> simp only [hp, hs, hb, h1, h2, e3, eu, hle, go_sem])
      simp only [fin_mk, finV, resL, resV1, resIn, endA, listIn, Option.some_or, Option.none_or, oneOrTup, go_sem]
      rw [← hr]
      rw [applyPut, applyIn, if_pos k3, if_neg hu]; rfl
  have e3 : (e.Kind == 3) = false := beq_eq_false_iff_ne.2 k3
  by_cases k4 : e.Kind = 4
  · have e4 : (e.Kind == 4) = true := by rw [k4]; rfl
    rw [applyIn, if_neg k3, if_pos k4] at hle
    simp only [hs, hb, h1, h2, e3, e4, hle, go_sem]
    repeat' ((first | apply qa | apply qb | apply qc | apply qd | apply qe | apply qf | apply qg | apply qh | apply qi | apply qj | apply qk) <;> intro hp <;> simp only [hp, hs, hb, h1, h2, e3, e4, hle, go_sem])
    simp only [fin_mk, finV, resL, resV1, resIn, endA, listIn, Option.some_or, Option.none_or, oneOrTup, go_sem]
    rw [← hr]
    rw [applyPut, applyIn, if_neg k3, if_pos k4]; rfl
  have e4 : (e.Kind == 4) = false := beq_eq_false_iff_ne.2 k4
  by_cases k5 : e.Kind = 5
  · have e5 : (e.Kind == 5) = true := by rw [k5]; rfl
    rw [applyIn, if_neg k3, if_neg k4, if_pos k5] at hle
    simp only [hs, hb, h1, h2, e3, e4, e5, hle, go_sem]
    repeat' ((first | apply qa | apply qb | apply qc | apply qd | apply qe | apply qf | apply qg | apply qh | apply qi | apply qj | apply qk) <;> intro hp <;> simp only [hp, hs, hb, h1, h2, e3, e4, e5, hle, go_sem])
    simp only [fin_mk, finV, resL, resV1, resIn, endA, listIn, Option.some_or, Option.none_or, oneOrTup, go_sem]
    rw [← hr]
    rw [applyPut, applyIn, if_neg k3, if_neg k4, if_pos k5]; rfl
  have e5 : (e.Kind == 5) = false := beq_eq_false_iff_ne.2 k5
  have k8 : e.Kind = 8 := by omega
  have e8 : (e.Kind == 8) = true := by rw [k8]; rfl
  rw [applyIn, if_neg k3, if_neg k4, if_neg k5] at hle
  simp only [hs, hb, h1, h2, e3, e4, e5, e8, hle, go_sem]
  repeat' ((first | apply qa | apply qb | apply qc | apply qd | apply qe | apply qf | apply qg | apply qh | apply qi | apply qj | apply qk) <;> intro hp <;> simp only [hp, hs, hb, h1, h2, e3, e4, e5, e8, hle, go_sem])
  simp only [fin_mk, finV, resL, resV1, resIn, endA, listIn, Option.some_or, Option.none_or, oneOrTup, go_sem]
  rw [← hr]
  rw [applyPut, applyIn, if_neg k3, if_neg k4, if_neg k5]; rfl
open Classical in
noncomputable def spApply : VM.Spec := { modes := [.rd, .rd], run := fun | [s', e'] => (Store.dec s').bind fun s => (Edit.dec e').bind fun e => if s.le 4194304 ∧ e.le 4194304 then some (.tup [Store.enc ((applyS s e).1), .int .i64 ((applyS s e).2)], []) else none | _ => none, need := [] }
attribute [go_sem] spApply
theorem spApply_in {ins : List V} {r : V} {outs : List V} (h : spApply.run ins = some (r, outs)) : ∃ (s : Store) (e : Edit), ins = [Store.enc s, Edit.enc e] ∧ (s.le 4194304 ∧ e.le 4194304) ∧ .tup [Store.enc ((applyS s e).1), .int .i64 ((applyS s e).2)] = r ∧ outs = [] := by
  unfold spApply at h
  simp only at h
  split at h
  · rename_i s' e'
    simp only [Option.bind_eq_some_iff] at h
    obtain ⟨s, h_s, e, h_e, h⟩ := h
    split at h
    case isFalse => cases h
    rename_i hc
    simp only [Option.some.injEq, Prod.mk.injEq] at h
    obtain ⟨h1, h2⟩ := h
    have h_s := Store.dec_some h_s
    subst h_s
    have h_e := Edit.dec_some h_e
    subst h_e
    exact ⟨s, e, rfl, hc, h1, h2.symm⟩
  · cases h
def T_impl_Apply : Hints := ⟨lk [], lk [], lk [(0, [2, 3, 4]), (1, [2, 3, 4, 17]), (2, [4, 5]), (3, [2, 3, 4, 6, 7]), (4, [2, 3, 4, 6, 7, 27]), (5, [4, 5]), (6, [2, 3, 4, 6, 37]), (7, [4, 5]), (8, [2, 3, 4, 6, 42]), (9, [4, 5]), (10, [2, 3, 4, 6, 52]), (11, [4, 5]), (12, [2, 3, 4, 6, 66]), (13, [4, 5]), (14, [2, 4, 8, 9]), (15, [2, 4, 8, 9, 87]), (16, [4, 5]), (17, [4, 5])], lk []⟩
noncomputable def Phi_impl_Apply : Tab := lk [(10, spStoreOk), (24, spEditOk), (25, spCopyStore), (9, spBoxAt), (26, spMakeBox), (27, spDropBox), (28, spCopyMails), (29, spMoveMails), (30, spApplyIn), (31, spPutBox)]
attribute [go_sem] T_impl_Apply Phi_impl_Apply
theorem phi_impl_Apply : ∀ f sp, Phi_impl_Apply f = some sp → FnOk Tryz.prog f sp ∧ ∀ n ∈ sp.need, n ∈ ([] : List String) := phi_cons ok_impl_StoreOk (n0 rfl) (phi_cons ok_impl_EditOk (n0 rfl) (phi_cons ok_impl_copyStore (n0 rfl) (phi_cons ok_impl_BoxAt (n0 rfl) (phi_cons ok_impl_MakeBox (n0 rfl) (phi_cons ok_impl_DropBox (n0 rfl) (phi_cons ok_impl_CopyMails (n0 rfl) (phi_cons ok_impl_MoveMails (n0 rfl) (phi_cons ok_impl_applyIn (n0 rfl) (phi_cons ok_impl_PutBox (n0 rfl) (phi_nil))))))))))
theorem ok_impl_Apply : FnOk Tryz.prog 8 spApply := by
  refine fn_ok (Φ := Phi_impl_Apply) (T := T_impl_Apply) phi_impl_Apply mixed Tryz.func8 rfl rfl rfl (by decide) ?_
  intro ins r outs hr hl
  clear hl
  have hs := spApply_in hr
  clear hr
  obtain ⟨s, e, rfl, hc, hr, rfl⟩ := hs
  simp only [spApply, Tryz.f8, Go.VM.initS]
  obtain ⟨hs, he⟩ := hc
  have h0 : e.Box.length ≤ 4194304 := he.1
  have h1 := he.2.2.1.1
  have hg := boxGet_le (name := e.Box) hs
  have hle := applyIn_le hg he
  cases o1 : storeOk s with
  | false =>
    simp only [hs, he, o1, go_sem]
    repeat' ((first | apply qa | apply qb | apply qc | apply qd | apply qe | apply qf | apply qg | apply qh | apply qi | apply qj | apply qk) <;> intro hp <;> simp only [hp, hs, he, o1, go_sem])
    simp only [fin_mk, finV, resL, resV1, resIn, endA, listIn, Option.some_or, Option.none_or, oneOrTup, go_sem]
    rw [← hr]
    rw [applyS, if_pos (.inl o1)]; rfl
  | true =>
  cases o2 : editOk e with
  | false =>
    simp only [hs, he, o1, o2, go_sem]
    repeat' ((first | apply qa | apply qb | apply qc | apply qd | apply qe | apply qf | apply qg | apply qh | apply qi | apply qj | apply qk) <;> intro hp <;> simp only [hp, hs, he, o1, o2, go_sem])
    simp only [fin_mk, finV, resL, resV1, resIn, endA, listIn, Option.some_or, Option.none_or, oneOrTup, go_sem]
    rw [← hr]
    rw [applyS, if_pos (.inr o2)]; rfl
  | true =>
  have no : ¬ (storeOk s = false ∨ editOk e = false) := by rw [o1, o2]; simp
  by_cases k1 : e.Kind = 1
  · have e1 : (e.Kind == 1) = true := by rw [k1]; rfl
    simp only [hs, he, o1, o2, h0, e1, go_sem]
    repeat' ((first | apply qa | apply qb | apply qc | apply qd | apply qe | apply qf | apply qg | apply qh | apply qi | apply qj | apply qk) <;> intro hp <;> simp only [hp, hs, he, o1, o2, h0, e1, go_sem])
    simp only [fin_mk, finV, resL, resV1, resIn, endA, listIn, Option.some_or, Option.none_or, oneOrTup, go_sem]
    rw [← hr]
    rw [applyS, if_neg no, if_pos k1]; rfl
  have e1 : (e.Kind == 1) = false := beq_eq_false_iff_ne.2 k1
  cases o3 : boxHas s e.Box with
  | false =>
    simp only [hs, he, o1, o2, h0, e1, o3, go_sem]
    repeat' ((first | apply qa | apply qb | apply qc | apply qd | apply qe | apply qf | apply qg | apply qh | apply qi | apply qj | apply qk) <;> intro hp <;> simp only [hp, hs, he, o1, o2, h0, e1, o3, go_sem])
    simp only [fin_mk, finV, resL, resV1, resIn, endA, listIn, Option.some_or, Option.none_or, oneOrTup, go_sem]
    rw [← hr]
    rw [applyS, if_neg no, if_neg k1, if_pos o3]; rfl
  | true =>
  have n3 : ¬ boxHas s e.Box = false := by rw [o3]; simp
  by_cases k2 : e.Kind = 2
  · have e2 : (e.Kind == 2) = true := by rw [k2]; rfl
    simp only [hs, he, o1, o2, h0, e1, o3, e2, go_sem]
    repeat' ((first | apply qa | apply qb | apply qc | apply qd | apply qe | apply qf | apply qg | apply qh | apply qi | apply qj | apply qk) <;> intro hp <;> simp only [hp, hs, he, o1, o2, h0, e1, o3, e2, go_sem])
    simp only [fin_mk, finV, resL, resV1, resIn, endA, listIn, Option.some_or, Option.none_or, oneOrTup, go_sem]
    rw [← hr]
    rw [applyS, if_neg no, if_neg k1, if_neg n3, if_pos k2]; rfl
  have e2 : (e.Kind == 2) = false := beq_eq_false_iff_ne.2 k2
  by_cases k6 : e.Kind = 6
  · have e6 : (e.Kind == 6) = true := by rw [k6]; rfl
    simp only [hs, he, o1, o2, h0, h1, e1, o3, e2, e6, go_sem]
    repeat' ((first | apply qa | apply qb | apply qc | apply qd | apply qe | apply qf | apply qg | apply qh | apply qi | apply qj | apply qk) <;> intro hp <;> simp only [hp, hs, he, o1, o2, h0, h1, e1, o3, e2, e6, go_sem])
    simp only [fin_mk, finV, resL, resV1, resIn, endA, listIn, Option.some_or, Option.none_or, oneOrTup, go_sem]
    rw [← hr]
    rw [applyS, if_neg no, if_neg k1, if_neg n3, if_neg k2, if_pos k6]; rfl
  have e6 : (e.Kind == 6) = false := beq_eq_false_iff_ne.2 k6
  by_cases k7 : e.Kind = 7
  · have e7 : (e.Kind == 7) = true := by rw [k7]; rfl
    simp only [hs, he, o1, o2, h0, h1, e1, o3, e2, e6, e7, go_sem]
    repeat' ((first | apply qa | apply qb | apply qc | apply qd | apply qe | apply qf | apply qg | apply qh | apply qi | apply qj | apply qk) <;> intro hp <;> simp only [hp, hs, he, o1, o2, h0, h1, e1, o3, e2, e6, e7, go_sem])
    simp only [fin_mk, finV, resL, resV1, resIn, endA, listIn, Option.some_or, Option.none_or, oneOrTup, go_sem]
    rw [← hr]
    rw [applyS, if_neg no, if_neg k1, if_neg n3, if_neg k2, if_neg k6, if_pos k7]; rfl
  have e7 : (e.Kind == 7) = false := beq_eq_false_iff_ne.2 k7
  by_cases ha : (applyIn (boxGet s e.Box) e).2 = 0
  · have ea : ((applyIn (boxGet s e.Box) e).2 != 0) = false := by rw [ha]; rfl
    simp only [hs, he, o1, o2, h0, h1, e1, o3, e2, e6, e7, hg, hle, ea, go_sem]
    repeat' ((first | apply qa | apply qb | apply qc | apply qd | apply qe | apply qf | apply qg | apply qh | apply qi | apply qj | apply qk) <;> intro hp <;> simp only [hp, hs, he, o1, o2, h0, h1, e1, o3, e2, e6, e7, hg, hle, ea, go_sem])
    simp only [fin_mk, finV, resL, resV1, resIn, endA, listIn, Option.some_or, Option.none_or, oneOrTup, go_sem]
    rw [← hr]
    rw [applyS, if_neg no, if_neg k1, if_neg n3, if_neg k2, if_neg k6, if_neg k7, applyPut, if_pos ha]; rfl
  · have ea : ((applyIn (boxGet s e.Box) e).2 != 0) = true := bne_iff_ne.2 ha
    simp only [hs, he, o1, o2, h0, h1, e1, o3, e2, e6, e7, hg, hle, ea, go_sem]
    repeat' ((first | apply qa | apply qb | apply qc | apply qd | apply qe | apply qf | apply qg | apply qh | apply qi | apply qj | apply qk) <;> intro hp <;> simp only [hp, hs, he, o1, o2, h0, h1, e1, o3, e2, e6, e7, hg, hle, ea, go_sem])
    simp only [fin_mk, finV, resL, resV1, resIn, endA, listIn, Option.some_or, Option.none_or, oneOrTup, go_sem]
    rw [← hr]
    rw [applyS, if_neg no, if_neg k1, if_neg n3, if_neg k2, if_neg k6, if_neg k7, applyPut, if_neg ha]; rfl
def T_spec_Apply : Hints := ⟨lk [], lk [], lk [(0, [2, 3, 4]), (1, [2, 3, 4, 15]), (2, [4, 5]), (3, [2, 3, 4, 20]), (4, [4, 5]), (5, [2, 3, 4, 6, 7]), (6, [2, 3, 4, 6, 35]), (7, [4, 5]), (8, [2, 3, 4, 6, 39]), (9, [2, 3, 4, 6, 39, 40]), (10, [4, 5]), (11, [2, 3, 4, 6, 39, 48]), (12, [4, 5]), (13, [2, 3, 4, 6, 60]), (14, [4, 5]), (15, [4, 5])], lk []⟩
noncomputable def Phi_spec_Apply : Tab := lk [(38, spStoreOk), (39, spEditOk), (40, spCopyStore), (42, spBoxAt), (41, spMakeBox), (43, spDropBox), (44, spCopyMails), (45, spMoveMails), (46, spApplyPut)]
attribute [go_sem] T_spec_Apply Phi_spec_Apply
theorem phi_spec_Apply : ∀ f sp, Phi_spec_Apply f = some sp → FnOk Tryz.prog f sp ∧ ∀ n ∈ sp.need, n ∈ ([] : List String) := phi_cons ok_spec_StoreOk (n0 rfl) (phi_cons ok_spec_EditOk (n0 rfl) (phi_cons ok_spec_l09Copy (n0 rfl) (phi_cons ok_spec_BoxAt (n0 rfl) (phi_cons ok_spec_MakeBox (n0 rfl) (phi_cons ok_spec_DropBox (n0 rfl) (phi_cons ok_spec_CopyMails (n0 rfl) (phi_cons ok_spec_MoveMails (n0 rfl) (phi_cons ok_spec_l10Box (n0 rfl) (phi_nil)))))))))
theorem ok_spec_Apply : FnOk Tryz.prog 13 spApply := by
  refine fn_ok (Φ := Phi_spec_Apply) (T := T_spec_Apply) phi_spec_Apply mixed Tryz.func13 rfl rfl rfl (by decide) ?_
  intro ins r outs hr hl
  clear hl
  have hs := spApply_in hr
  clear hr
  obtain ⟨s, e, rfl, hc, hr, rfl⟩ := hs
  simp only [spApply, Tryz.f13, Go.VM.initS]
  obtain ⟨hs, he⟩ := hc
  have h0 : e.Box.length ≤ 4194304 := he.1
  have h1 := he.2.2.1.1
  have hg := boxGet_le (name := e.Box) hs
  cases o1 : storeOk s with
  | false =>
    simp only [hs, he, o1, go_sem]
    repeat' ((first | apply qa | apply qb | apply qc | apply qd | apply qe | apply qf | apply qg | apply qh | apply qi | apply qj | apply qk) <;> intro hp <;> simp only [hp, hs, he, o1, go_sem])
    simp only [fin_mk, finV, resL, resV1, resIn, endA, listIn, Option.some_or, Option.none_or, oneOrTup, go_sem]
    rw [← hr]
    rw [applyS, if_pos (.inl o1)]; rfl
  | true =>
  cases o2 : editOk e with
  | false =>
    simp only [hs, he, o1, o2, go_sem]
    repeat' ((first | apply qa | apply qb | apply qc | apply qd | apply qe | apply qf | apply qg | apply qh | apply qi | apply qj | apply qk) <;> intro hp <;> simp only [hp, hs, he, o1, o2, go_sem])
    simp only [fin_mk, finV, resL, resV1, resIn, endA, listIn, Option.some_or, Option.none_or, oneOrTup, go_sem]
    rw [← hr]
    rw [applyS, if_pos (.inr o2)]; rfl
  | true =>
  have no : ¬ (storeOk s = false ∨ editOk e = false) := by rw [o1, o2]; simp
  by_cases k1 : e.Kind = 1
  · have e1 : (e.Kind == 1) = true := by rw [k1]; rfl
    simp only [hs, he, o1, o2, h0, e1, go_sem]
    repeat' ((first | apply qa | apply qb | apply qc | apply qd | apply qe | apply qf | apply qg | apply qh | apply qi | apply qj | apply qk) <;> intro hp <;> simp only [hp, hs, he, o1, o2, h0, e1, go_sem])
    simp only [fin_mk, finV, resL, resV1, resIn, endA, listIn, Option.some_or, Option.none_or, oneOrTup, go_sem]
    rw [← hr]
    rw [applyS, if_neg no, if_pos k1]; rfl
  have e1 : (e.Kind == 1) = false := beq_eq_false_iff_ne.2 k1
  cases o3 : boxHas s e.Box with
  | false =>
    simp only [hs, he, o1, o2, h0, e1, o3, go_sem]
    repeat' ((first | apply qa | apply qb | apply qc | apply qd | apply qe | apply qf | apply qg | apply qh | apply qi | apply qj | apply qk) <;> intro hp <;> simp only [hp, hs, he, o1, o2, h0, e1, o3, go_sem])
    simp only [fin_mk, finV, resL, resV1, resIn, endA, listIn, Option.some_or, Option.none_or, oneOrTup, go_sem]
    rw [← hr]
    rw [applyS, if_neg no, if_neg k1, if_pos o3]; rfl
  | true =>
  have n3 : ¬ boxHas s e.Box = false := by rw [o3]; simp
  by_cases k2 : e.Kind = 2
  · have e2 : (e.Kind == 2) = true := by rw [k2]; rfl
    simp only [hs, he, o1, o2, h0, e1, o3, e2, go_sem]
    repeat' ((first | apply qa | apply qb | apply qc | apply qd | apply qe | apply qf | apply qg | apply qh | apply qi | apply qj | apply qk) <;> intro hp <;> simp only [hp, hs, he, o1, o2, h0, e1, o3, e2, go_sem])
    simp only [fin_mk, finV, resL, resV1, resIn, endA, listIn, Option.some_or, Option.none_or, oneOrTup, go_sem]
    rw [← hr]
    rw [applyS, if_neg no, if_neg k1, if_neg n3, if_pos k2]; rfl
  have e2 : (e.Kind == 2) = false := beq_eq_false_iff_ne.2 k2
  by_cases k6 : e.Kind = 6
  · have e6 : (e.Kind == 6) = true := by rw [k6]; rfl
    simp only [hs, he, o1, o2, h0, h1, e1, o3, e2, e6, go_sem]
    repeat' ((first | apply qa | apply qb | apply qc | apply qd | apply qe | apply qf | apply qg | apply qh | apply qi | apply qj | apply qk) <;> intro hp <;> simp only [hp, hs, he, o1, o2, h0, h1, e1, o3, e2, e6, go_sem])
    simp only [fin_mk, finV, resL, resV1, resIn, endA, listIn, Option.some_or, Option.none_or, oneOrTup, go_sem]
    rw [← hr]
    rw [applyS, if_neg no, if_neg k1, if_neg n3, if_neg k2, if_pos k6]; rfl
  have e6 : (e.Kind == 6) = false := beq_eq_false_iff_ne.2 k6
  by_cases k7 : e.Kind = 7
  · have e7 : (e.Kind == 7) = true := by rw [k7]; rfl
    simp only [hs, he, o1, o2, h0, h1, e1, o3, e2, e6, e7, go_sem]
    repeat' ((first | apply qa | apply qb | apply qc | apply qd | apply qe | apply qf | apply qg | apply qh | apply qi | apply qj | apply qk) <;> intro hp <;> simp only [hp, hs, he, o1, o2, h0, h1, e1, o3, e2, e6, e7, go_sem])
    simp only [fin_mk, finV, resL, resV1, resIn, endA, listIn, Option.some_or, Option.none_or, oneOrTup, go_sem]
    rw [← hr]
    rw [applyS, if_neg no, if_neg k1, if_neg n3, if_neg k2, if_neg k6, if_pos k7]; rfl
  have e7 : (e.Kind == 7) = false := beq_eq_false_iff_ne.2 k7
  have kk : e.Kind = 3 ∨ e.Kind = 4 ∨ e.Kind = 5 ∨ e.Kind = 8 := by have := edit_kind o2; omega
  simp only [hs, he, o1, o2, h0, h1, e1, o3, e2, e6, e7, hg, kk, go_sem]
  repeat' ((first | apply qa | apply qb | apply qc | apply qd | apply qe | apply qf | apply qg | apply qh | apply qi | apply qj | apply qk) <;> intro hp <;> simp only [hp, hs, he, o1, o2, h0, h1, e1, o3, e2, e6, e7, hg, kk, go_sem])
  simp only [fin_mk, finV, resL, resV1, resIn, endA, listIn, Option.some_or, Option.none_or, oneOrTup, go_sem]
  rw [← hr]
  rw [applyS, if_neg no, if_neg k1, if_neg n3, if_neg k2, if_neg k6, if_neg k7]; rfl
end Go.Proofs.YtjkhhplhjbmhjaaGreat.L

