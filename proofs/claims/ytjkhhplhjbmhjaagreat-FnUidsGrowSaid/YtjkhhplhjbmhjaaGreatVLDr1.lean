/- Contracts of functions, and the facts that they need. No condition. -/
import Derived.Test.YtjkhhplhjbmhjaaGreatVLIns3
import Derived.Test.YtjkhhplhjbmhjaaGreatVLMB
import Derived.Test.YtjkhhplhjbmhjaaGreatVLG
import Derived.Test.YtjkhhplhjbmhjaaGreatVLG2

import Derived.Test.YtjkhhplhjbmhjaaGreatVLY


import Derived.Test.YtjkhhplhjbmhjaaGreatVmCur
import Derived.Test.YtjkhhplhjbmhjaaGreatVmLoop
namespace Go.Proofs.YtjkhhplhjbmhjaaGreat.L
open Go Go.VM
set_option maxRecDepth 100000
set_option maxHeartbeats 4000000
set_option linter.unusedSimpArgs false
set_option linter.unusedVariables false
def usesTo (k : Int) : Bool := k == 6 || k == 7
def sinceOk (x : Edit) : Bool := if x.Kind == 4 then within x.Since (-1) 100000 else if x.Kind == 8 then within x.Since 0 100000 else x.Since == 0
def eTo (x : Edit) : Bool := (x.To == [] && !usesTo x.Kind) || (usesTo x.Kind && boxName x.To)
def eSet (x : Edit) : Bool := x.Set.isEmpty || (within x.Kind 4 7 && setOk x.Set)
def eHow (x : Edit) : Bool := (x.How == 0 && !(x.Kind == 4)) || (x.Kind == 4 && within x.How 1 3)
def eBits (x : Edit) : Bool := x.Bits == 0 || ((x.Kind == 3 || x.Kind == 4) && flagsOk x.Bits)
def eText (x : Edit) : Bool := (x.Text == [] && !(x.Kind == 3)) || (x.Kind == 3 && mailOk x.Text)
def editOk (x : Edit) : Bool := (within x.Kind 1 8 && boxName x.Box && sinceOk x) && (eTo x && eSet x && eHow x && eBits x && eText x)
open Classical in
noncomputable def spUsesTo : VM.Spec := { modes := [.rd], run := fun | [.int .i64 k] => some (.bool (usesTo k), []) | _ => none, need := [] }
attribute [go_sem] spUsesTo
theorem spUsesTo_in {ins : List V} {r : V} {outs : List V} (h : spUsesTo.run ins = some (r, outs)) : ∃ (k : Int), ins = [.int .i64 k] ∧ .bool (usesTo k) = r ∧ outs = [] := by
  unfold spUsesTo at h
  simp only at h
  split at h
  · rename_i k
    simp only [Option.some.injEq, Prod.mk.injEq] at h
    obtain ⟨h1, h2⟩ := h
    exact ⟨k, rfl, h1, h2.symm⟩
  · cases h
def T_impl_usesTo : Hints := ⟨lk [], lk [], lk [(0, [0]), (1, [2])], lk []⟩
noncomputable def Phi_impl_usesTo : Tab := lk []
attribute [go_sem] T_impl_usesTo Phi_impl_usesTo
theorem phi_impl_usesTo : ∀ f sp, Phi_impl_usesTo f = some sp → FnOk Tryz.prog f sp ∧ ∀ n ∈ sp.need, n ∈ ([] : List String) := phi_nil
theorem ok_impl_usesTo : FnOk Tryz.prog 62 spUsesTo := by
  refine fn_ok (Φ := Phi_impl_usesTo) (T := T_impl_usesTo) phi_impl_usesTo mixed Tryz.func62 rfl rfl rfl (by decide) ?_
  intro ins r outs hr hl
  clear hl
  have hs := spUsesTo_in hr
  clear hr
  obtain ⟨k, rfl, hr, rfl⟩ := hs
  simp only [spUsesTo, Tryz.f62, Go.VM.initS]
  simp only [go_sem]
  repeat' ((first | apply qa | apply qb | apply qc | apply qd | apply qe | apply qf | apply qg | apply qh | apply qi | apply qj | apply qk) <;> intro hp <;> simp only [hp, go_sem])
  all_goals (simp only [fin_mk, finV, resL, resV1, resIn, endA, listIn, Option.some_or, Option.none_or, oneOrTup, go_sem]; rw [← hr])
  all_goals (clear hr; simp_all [usesTo])
open Classical in
noncomputable def spUsesSet : VM.Spec := { modes := [.rd], run := fun | [.int .i64 k] => some (.bool (within k 4 7), []) | _ => none, need := [] }
attribute [go_sem] spUsesSet
theorem spUsesSet_in {ins : List V} {r : V} {outs : List V} (h : spUsesSet.run ins = some (r, outs)) : ∃ (k : Int), ins = [.int .i64 k] ∧ .bool (within k 4 7) = r ∧ outs = [] := by
  unfold spUsesSet at h
  simp only at h
  split at h
  · rename_i k
    simp only [Option.some.injEq, Prod.mk.injEq] at h
    obtain ⟨h1, h2⟩ := h
    exact ⟨k, rfl, h1, h2.symm⟩
  · cases h
def T_impl_usesSet : Hints := ⟨lk [], lk [], lk [(0, [0]), (1, [2])], lk []⟩
noncomputable def Phi_impl_usesSet : Tab := lk [(35, spWithin)]
attribute [go_sem] T_impl_usesSet Phi_impl_usesSet
theorem phi_impl_usesSet : ∀ f sp, Phi_impl_usesSet f = some sp → FnOk Tryz.prog f sp ∧ ∀ n ∈ sp.need, n ∈ ([] : List String) := phi_cons ok_impl_within (n0 rfl) (phi_nil)
theorem ok_impl_usesSet : FnOk Tryz.prog 63 spUsesSet := by
  refine fn_ok (Φ := Phi_impl_usesSet) (T := T_impl_usesSet) phi_impl_usesSet mixed Tryz.func63 rfl rfl rfl (by decide) ?_
  intro ins r outs hr hl
  clear hl
  have hs := spUsesSet_in hr
  clear hr
  obtain ⟨k, rfl, hr, rfl⟩ := hs
  simp only [spUsesSet, Tryz.f63, Go.VM.initS]
  simp only [go_sem]
  simp only [fin_mk, finV, resL, resV1, resIn, endA, listIn, Option.some_or, Option.none_or, oneOrTup, go_sem]
  rw [← hr]
open Classical in
noncomputable def spSinceOk : VM.Spec := { modes := [.rd], run := fun | [x'] => (Edit.dec x').bind fun x => some (.bool (sinceOk x), []) | _ => none, need := [] }
attribute [go_sem] spSinceOk
theorem spSinceOk_in {ins : List V} {r : V} {outs : List V} (h : spSinceOk.run ins = some (r, outs)) : ∃ (x : Edit), ins = [Edit.enc x] ∧ .bool (sinceOk x) = r ∧ outs = [] := by
  unfold spSinceOk at h
  simp only at h
  split at h
  · rename_i x'
    simp only [Option.bind_eq_some_iff] at h
    obtain ⟨x, h_x, h⟩ := h
    simp only [Option.some.injEq, Prod.mk.injEq] at h
    obtain ⟨h1, h2⟩ := h
    have h_x := Edit.dec_some h_x
    subst h_x
    exact ⟨x, rfl, h1, h2.symm⟩
  · cases h
def T_impl_sinceOk : Hints := ⟨lk [], lk [], lk [(0, [1]), (1, [1, 4]), (2, [1, 4, 5]), (3, [2]), (4, [1, 10]), (5, [2]), (6, [2])], lk []⟩
noncomputable def Phi_impl_sinceOk : Tab := lk [(35, spWithin)]
attribute [go_sem] T_impl_sinceOk Phi_impl_sinceOk
theorem phi_impl_sinceOk : ∀ f sp, Phi_impl_sinceOk f = some sp → FnOk Tryz.prog f sp ∧ ∀ n ∈ sp.need, n ∈ ([] : List String) := phi_cons ok_impl_within (n0 rfl) (phi_nil)
theorem ok_impl_sinceOk : FnOk Tryz.prog 61 spSinceOk := by
  refine fn_ok (Φ := Phi_impl_sinceOk) (T := T_impl_sinceOk) phi_impl_sinceOk mixed Tryz.func61 rfl rfl rfl (by decide) ?_
  intro ins r outs hr hl
  clear hl
  have hs := spSinceOk_in hr
  clear hr
  obtain ⟨x, rfl, hr, rfl⟩ := hs
  simp only [spSinceOk, Tryz.f61, Go.VM.initS]
  simp only [go_sem]
  repeat' ((first | apply qa | apply qb | apply qc | apply qd | apply qe | apply qf | apply qg | apply qh | apply qi | apply qj | apply qk) <;> intro hp <;> simp only [hp, go_sem])
  all_goals (simp only [fin_mk, finV, resL, resV1, resIn, endA, listIn, Option.some_or, Option.none_or, oneOrTup, go_sem]; rw [← hr])
  all_goals simp_all [sinceOk]
open Classical in
noncomputable def spEditOk : VM.Spec := { modes := [.rd], run := fun | [x'] => (Edit.dec x').bind fun x => if x.le 4194304 then some (.bool (editOk x), []) else none | _ => none, need := [] }
attribute [go_sem] spEditOk
theorem spEditOk_in {ins : List V} {r : V} {outs : List V} (h : spEditOk.run ins = some (r, outs)) : ∃ (x : Edit), ins = [Edit.enc x] ∧ (x.le 4194304) ∧ .bool (editOk x) = r ∧ outs = [] := by
  unfold spEditOk at h
  simp only at h
  split at h
  · rename_i x'
    simp only [Option.bind_eq_some_iff] at h
    obtain ⟨x, h_x, h⟩ := h
    split at h
    case isFalse => cases h
    rename_i hc
    simp only [Option.some.injEq, Prod.mk.injEq] at h
    obtain ⟨h1, h2⟩ := h
    have h_x := Edit.dec_some h_x
    subst h_x
    exact ⟨x, rfl, hc, h1, h2.symm⟩
  · cases h
def T_impl_EditOk : Hints := ⟨lk [(1, []), (3, []), (4, []), (5, []), (6, []), (7, []), (8, [])], lk [], lk [(0, [1]), (1, [1, 22]), (2, [2]), (3, [1, 3]), (4, [1, 3, 4]), (5, [1, 3, 4, 5]), (6, [1, 3, 4, 5, 6]), (7, [3, 4, 5, 6, 7]), (8, [2])], lk []⟩
noncomputable def Phi_impl_EditOk : Tab := lk [(35, spWithin), (60, spBoxName), (61, spSinceOk), (62, spUsesTo), (63, spUsesSet), (64, spSetOk), (65, spFlagsOk), (66, spMailOk)]
attribute [go_sem] T_impl_EditOk Phi_impl_EditOk
theorem phi_impl_EditOk : ∀ f sp, Phi_impl_EditOk f = some sp → FnOk Tryz.prog f sp ∧ ∀ n ∈ sp.need, n ∈ ([] : List String) := phi_cons ok_impl_within (n0 rfl) (phi_cons ok_impl_BoxName (n0 rfl) (phi_cons ok_impl_sinceOk (n0 rfl) (phi_cons ok_impl_usesTo (n0 rfl) (phi_cons ok_impl_usesSet (n0 rfl) (phi_cons ok_impl_SetOk (n0 rfl) (phi_cons ok_impl_FlagsOk (n0 rfl) (phi_cons ok_impl_MailOk (n0 rfl) (phi_nil))))))))
theorem ok_impl_EditOk : FnOk Tryz.prog 24 spEditOk := by
  refine fn_ok (Φ := Phi_impl_EditOk) (T := T_impl_EditOk) phi_impl_EditOk mixed Tryz.func24 rfl rfl rfl (by decide) ?_
  intro ins r outs hr hl
  clear hl
  have hs := spEditOk_in hr
  clear hr
  obtain ⟨x, rfl, hc, hr, rfl⟩ := hs
  simp only [spEditOk, Tryz.f24, Go.VM.initS]
  have hb : x.Box.length ≤ 1099511627776 := Nat.le_trans hc.1 (by decide)
  have ht : x.To.length ≤ 1099511627776 := Nat.le_trans hc.2.1 (by decide)
  have hs : x.Set.length ≤ 4194304 := hc.2.2.1.1
  have hx : x.Text.length ≤ 4194304 := hc.2.2.2
  have l1 : ((x.Set.length : Int) == 0) = x.Set.isEmpty := by cases x.Set <;> simp <;> omega
  have hE : editOk x = ((within x.Kind 1 8 && boxName x.Box && sinceOk x) && (eTo x && eSet x && eHow x && eBits x && eText x)) := rfl
  rw [hE] at hr
  clear hE
  simp only [go_sem]
  refine goes_val 22 V.bool (!(within x.Kind 1 8 && boxName x.Box && sinceOk x)) rfl rfl ?_ ?_
  · intro G hG
    simp only [hb, go_sem]
    repeat' ((first | apply qa | apply qb | apply qc | apply qd | apply qe | apply qf | apply qg | apply qh | apply qi | apply qj | apply qk) <;> intro hp <;> simp only [hp, hb, go_sem])
    all_goals ((first | refine hG _ ?_ | (simp only [*] at hG; refine hG _ ?_)); clear hG; simp_all)
  simp only [go_sem]
  repeat' ((first | apply qa | apply qb | apply qc | apply qd | apply qe | apply qf | apply qg | apply qh | apply qi | apply qj | apply qk) <;> intro hp <;> simp only [hp, go_sem])
  · simp only [fin_mk, finV, resL, resV1, resIn, endA, listIn, Option.some_or, Option.none_or, oneOrTup, go_sem]
    rw [← hr]
    rw [hp]
    rfl
  refine goes_val 3 V.bool (eTo x) rfl rfl ?_ ?_
  · intro G hG
    simp only [ht, go_sem]
    repeat' ((first | apply qa | apply qb | apply qc | apply qd | apply qe | apply qf | apply qg | apply qh | apply qi | apply qj | apply qk) <;> intro hp <;> simp only [hp, ht, go_sem])
    all_goals ((first | refine hG _ ?_ | (simp only [*] at hG; refine hG _ ?_)); clear hG; simp_all [eTo])
  simp only [go_sem]
  refine goes_val 4 V.bool (eSet x) rfl rfl ?_ ?_
  · intro G hG
    simp only [hs, l1, go_sem]
    repeat' ((first | apply qa | apply qb | apply qc | apply qd | apply qe | apply qf | apply qg | apply qh | apply qi | apply qj | apply qk) <;> intro hp <;> simp only [hp, hs, l1, go_sem])
    all_goals ((first | refine hG _ ?_ | (simp only [*] at hG; refine hG _ ?_)); clear hG; simp_all [eSet])
  simp only [go_sem]
  refine goes_val 5 V.bool (eHow x) rfl rfl ?_ ?_
  · intro G hG
    simp only [go_sem]
    repeat' ((first | apply qa | apply qb | apply qc | apply qd | apply qe | apply qf | apply qg | apply qh | apply qi | apply qj | apply qk) <;> intro hp <;> simp only [hp, go_sem])
    all_goals ((first | refine hG _ ?_ | (simp only [*] at hG; refine hG _ ?_)); clear hG; simp_all [eHow])
  simp only [go_sem]
  refine goes_val 6 V.bool (eBits x) rfl rfl ?_ ?_
  · intro G hG
    simp only [go_sem]
    repeat' ((first | apply qa | apply qb | apply qc | apply qd | apply qe | apply qf | apply qg | apply qh | apply qi | apply qj | apply qk) <;> intro hp <;> simp only [hp, go_sem])
    all_goals ((first | refine hG _ ?_ | (simp only [*] at hG; refine hG _ ?_)); clear hG; simp_all [eBits])
  simp only [go_sem]
  refine goes_val 7 V.bool (eText x) rfl rfl ?_ ?_
  · intro G hG
    simp only [hx, go_sem]
    repeat' ((first | apply qa | apply qb | apply qc | apply qd | apply qe | apply qf | apply qg | apply qh | apply qi | apply qj | apply qk) <;> intro hp <;> simp only [hp, hx, go_sem])
    all_goals ((first | refine hG _ ?_ | (simp only [*] at hG; refine hG _ ?_)); clear hG; simp_all [eText])
  simp only [go_sem]
  refine goes_val 2 V.bool (eTo x && eSet x && eHow x && eBits x && eText x) rfl rfl ?_ ?_
  · intro G hG
    simp only [go_sem]
    repeat' ((first | apply qa | apply qb | apply qc | apply qd | apply qe | apply qf | apply qg | apply qh | apply qi | apply qj | apply qk) <;> intro hp <;> simp only [hp, go_sem])
    all_goals ((first | refine hG _ ?_ | (simp only [*] at hG; refine hG _ ?_)); clear hG; simp_all)
  simp only [go_sem]
  simp only [fin_mk, finV, resL, resV1, resIn, endA, listIn, Option.some_or, Option.none_or, oneOrTup, go_sem]
  rw [← hr]
  rw [hp, Bool.true_and]
def uSet (k : Int) : Bool := usesTo k || k == 4 || k == 5
def editUses (x : Edit) : Bool := (usesTo x.Kind || x.To == []) && (uSet x.Kind || x.Set.isEmpty) && (x.Kind == 4 || x.How == 0) && ((x.Kind == 4 || x.Kind == 3) || x.Bits == 0) && ((x.Kind == 4 || x.Kind == 8) || x.Since == 0) && (x.Kind == 3 || x.Text == [])
open Classical in
noncomputable def spEditUses : VM.Spec := { modes := [.rd], run := fun | [x'] => (Edit.dec x').bind fun x => some (.bool (editUses x), []) | _ => none, need := [] }
attribute [go_sem] spEditUses
theorem spEditUses_in {ins : List V} {r : V} {outs : List V} (h : spEditUses.run ins = some (r, outs)) : ∃ (x : Edit), ins = [Edit.enc x] ∧ .bool (editUses x) = r ∧ outs = [] := by
  unfold spEditUses at h
  simp only at h
  split at h
  · rename_i x'
    simp only [Option.bind_eq_some_iff] at h
    obtain ⟨x, h_x, h⟩ := h
    simp only [Option.some.injEq, Prod.mk.injEq] at h
    obtain ⟨h1, h2⟩ := h
    have h_x := Edit.dec_some h_x
    subst h_x
    exact ⟨x, rfl, h1, h2.symm⟩
  · cases h
def T_spec_l10Uses : Hints := ⟨lk [(1, []), (2, []), (5, []), (6, [])], lk [], lk [(0, [1]), (1, [1, 3]), (2, [1, 3, 4]), (3, [1, 3, 4, 5]), (4, [1, 3, 4, 5, 6]), (5, [1, 3, 4, 5, 6, 7]), (6, [2])], lk []⟩
noncomputable def Phi_spec_l10Uses : Tab := lk []
attribute [go_sem] T_spec_l10Uses Phi_spec_l10Uses
theorem phi_spec_l10Uses : ∀ f sp, Phi_spec_l10Uses f = some sp → FnOk Tryz.prog f sp ∧ ∀ n ∈ sp.need, n ∈ ([] : List String) := phi_nil
theorem ok_spec_l10Uses : FnOk Tryz.prog 86 spEditUses := by
  refine fn_ok (Φ := Phi_spec_l10Uses) (T := T_spec_l10Uses) phi_spec_l10Uses mixed Tryz.func86 rfl rfl rfl (by decide) ?_
  intro ins r outs hr hl
  clear hl
  have hs := spEditUses_in hr
  clear hr
  obtain ⟨x, rfl, hr, rfl⟩ := hs
  simp only [spEditUses, Tryz.f86, Go.VM.initS]
  have l1 : ((x.Set.length : Int) == 0) = x.Set.isEmpty := by cases x.Set <;> simp <;> omega
  simp only [go_sem]
  refine goes_val 3 V.bool (usesTo x.Kind) rfl rfl ?_ ?_
  · intro G hG
    simp only [go_sem]
    repeat' ((first | apply qa | apply qb | apply qc | apply qd | apply qe | apply qf | apply qg | apply qh | apply qi | apply qj | apply qk) <;> intro hp <;> simp only [hp, go_sem])
    all_goals ((first | refine hG _ ?_ | (simp only [*] at hG; refine hG _ ?_)); clear hG; simp_all [usesTo])
  simp only [go_sem]
  refine goes_val 4 V.bool (uSet x.Kind) rfl rfl ?_ ?_
  · intro G hG
    simp only [go_sem]
    repeat' ((first | apply qa | apply qb | apply qc | apply qd | apply qe | apply qf | apply qg | apply qh | apply qi | apply qj | apply qk) <;> intro hp <;> simp only [hp, go_sem])
    all_goals ((first | refine hG _ ?_ | (simp only [*] at hG; refine hG _ ?_)); clear hG; simp_all [uSet])
  simp only [go_sem]
  refine goes_val 7 V.bool (x.Kind == 4 || x.Kind == 8) rfl rfl ?_ ?_
  · intro G hG
    simp only [go_sem]
    repeat' ((first | apply qa | apply qb | apply qc | apply qd | apply qe | apply qf | apply qg | apply qh | apply qi | apply qj | apply qk) <;> intro hp <;> simp only [hp, go_sem])
    all_goals ((first | refine hG _ ?_ | (simp only [*] at hG; refine hG _ ?_)); clear hG; simp_all)
  simp only [go_sem]
  refine goes_val 2 V.bool (editUses x) rfl rfl ?_ ?_
  · intro G hG
    simp only [l1, go_sem]
    repeat' ((first | apply qa | apply qb | apply qc | apply qd | apply qe | apply qf | apply qg | apply qh | apply qi | apply qj | apply qk) <;> intro hp <;> simp only [hp, l1, go_sem])
    all_goals ((first | refine hG _ ?_ | (simp only [*] at hG; refine hG _ ?_)); clear hG; simp_all [editUses])
  simp only [go_sem]
  simp only [fin_mk, finV, resL, resV1, resIn, endA, listIn, Option.some_or, Option.none_or, oneOrTup, go_sem]
  rw [← hr]
def editKind (x : Edit) : Bool := if x.Kind == 6 then boxName x.To else if x.Kind == 7 then boxName x.To else if x.Kind == 4 then within x.How 1 3 && within x.Since (-1) 100000 else if x.Kind == 8 then within x.Since 0 100000 else if x.Kind == 3 then mailOk x.Text else true
theorem editOk_eq (x : Edit) : editOk x = ((within x.Kind 1 8 && boxName x.Box && editUses x && setOk x.Set && flagsOk x.Bits) && editKind x) := by
  cases hk : within x.Kind 1 8 with
  | false => simp [editOk, hk]
  | true =>
    have hk' : x.Kind = 1 ∨ x.Kind = 2 ∨ x.Kind = 3 ∨ x.Kind = 4 ∨ x.Kind = 5 ∨ x.Kind = 6 ∨ x.Kind = 7 ∨ x.Kind = 8 := by
      simp only [within, Bool.and_eq_true, decide_eq_true_eq] at hk; omega
    obtain ⟨K, B, T, S, H, I, N, X⟩ := x
    simp only at hk'
    have hS : S.isEmpty = true → setOk S = true := by cases S <;> simp; rfl
    have hI : (I == 0) = true → flagsOk I = true := by intro h; have : I = 0 := by simpa using h
                                                       subst this; rfl
    rcases hk' with rfl | rfl | rfl | rfl | rfl | rfl | rfl | rfl <;>
      simp only [editOk, editUses, editKind, eTo, eSet, eHow, eBits, eText, sinceOk, usesTo, uSet, within, Int.reduceBEq, Int.reduceLE, decide_true, decide_false, Bool.or_false, Bool.false_or, Bool.true_or, Bool.or_true, Bool.not_true, Bool.not_false, Bool.and_true, Bool.true_and, Bool.and_false, Bool.false_and, Bool.or_self, Bool.false_eq_true, if_true, if_false] <;>
      (generalize hb : boxName B = b1; generalize ht : boxName T = b2; generalize (T == []) = b3; generalize S.isEmpty = b4 at *; generalize setOk S = b5 at *; generalize (H == 0) = b6; generalize (I == 0) = b7 at *; generalize flagsOk I = b8 at *; generalize (N == 0) = b9; generalize (X == []) = b10; clear hb ht hk; revert hS hI; cases b4 <;> cases b5 <;> cases b7 <;> cases b8 <;> simp <;> cases b1 <;> cases b6 <;> simp <;> cases b9 <;> cases b10 <;> simp <;> cases b3 <;> simp <;> rw [Bool.and_comm])
def T_spec_EditOk : Hints := ⟨lk [(1, []), (8, [])], lk [], lk [(0, [1]), (1, [1, 29]), (2, [2]), (3, [1, 31]), (4, [1, 31, 32]), (5, [1, 31, 32]), (6, [2]), (7, [1, 31, 38]), (8, [2]), (9, [1, 31, 48]), (10, [2]), (11, [1, 53]), (12, [2]), (13, [2])], lk []⟩
noncomputable def Phi_spec_EditOk : Tab := lk [(84, spWithin), (85, spBoxName), (86, spEditUses), (87, spSetOk), (88, spFlagsOk), (89, spMailOk)]
attribute [go_sem] T_spec_EditOk Phi_spec_EditOk
theorem phi_spec_EditOk : ∀ f sp, Phi_spec_EditOk f = some sp → FnOk Tryz.prog f sp ∧ ∀ n ∈ sp.need, n ∈ ([] : List String) := phi_cons ok_spec_l01In (n0 rfl) (phi_cons ok_spec_BoxName (n0 rfl) (phi_cons ok_spec_l10Uses (n0 rfl) (phi_cons ok_spec_SetOk (n0 rfl) (phi_cons ok_spec_FlagsOk (n0 rfl) (phi_cons ok_spec_MailOk (n0 rfl) (phi_nil))))))
theorem ok_spec_EditOk : FnOk Tryz.prog 39 spEditOk := by
  refine fn_ok (Φ := Phi_spec_EditOk) (T := T_spec_EditOk) phi_spec_EditOk mixed Tryz.func39 rfl rfl rfl (by decide) ?_
  intro ins r outs hr hl
  clear hl
  have hs := spEditOk_in hr
  clear hr
  obtain ⟨x, rfl, hc, hr, rfl⟩ := hs
  simp only [spEditOk, Tryz.f39, Go.VM.initS]
  have hb : x.Box.length ≤ 1099511627776 := Nat.le_trans hc.1 (by decide)
  have ht : x.To.length ≤ 1099511627776 := Nat.le_trans hc.2.1 (by decide)
  have hs : x.Set.length ≤ 4194304 := hc.2.2.1.1
  have hx : x.Text.length ≤ 4194304 := hc.2.2.2
  rw [editOk_eq] at hr
  simp only [go_sem]
  refine goes_val 29 V.bool (!(within x.Kind 1 8 && boxName x.Box && editUses x && setOk x.Set && flagsOk x.Bits)) rfl rfl ?_ ?_
  · intro G hG
    simp only [hb, hs, go_sem]
    repeat' ((first | apply qa | apply qb | apply qc | apply qd | apply qe | apply qf | apply qg | apply qh | apply qi | apply qj | apply qk) <;> intro hp <;> simp only [hp, hb, hs, go_sem])
    all_goals ((first | refine hG _ ?_ | (simp only [*] at hG; refine hG _ ?_)); clear hG; simp_all)
  simp only [ht, hx, go_sem]
  repeat' ((first | apply qa | apply qb | apply qc | apply qd | apply qe | apply qf | apply qg | apply qh | apply qi | apply qj | apply qk) <;> intro hp <;> simp only [hp, ht, hx, go_sem])
  · simp only [fin_mk, finV, resL, resV1, resIn, endA, listIn, Option.some_or, Option.none_or, oneOrTup, go_sem]
    rw [← hr]
    rw [hp, Bool.false_and]
  all_goals first
    | (refine fin_mk.2 ?_; simp only [fin_mk, finV, resL, resV1, resIn, endA, listIn, Option.some_or, Option.none_or, oneOrTup, go_sem]; rw [← hr]; simp_all [editKind]; done)
    | skip
  refine goes_val 2 V.bool (within x.How 1 3 && within x.Since (-1) 100000) rfl rfl ?_ ?_
  · intro G hG
    simp only [go_sem]
    repeat' ((first | apply qa | apply qb | apply qc | apply qd | apply qe | apply qf | apply qg | apply qh | apply qi | apply qj | apply qk) <;> intro hp <;> simp only [hp, go_sem])
    all_goals ((first | refine hG _ ?_ | (simp only [*] at hG; refine hG _ ?_)); clear hG; simp_all)
  simp only [go_sem]
  simp only [fin_mk, finV, resL, resV1, resIn, endA, listIn, Option.some_or, Option.none_or, oneOrTup, go_sem]
  rw [← hr]
  simp_all [editKind]
end Go.Proofs.YtjkhhplhjbmhjaaGreat.L

namespace Go.Proofs.YtjkhhplhjbmhjaaGreat.L
open Go Go.VM
set_option maxRecDepth 100000
set_option maxHeartbeats 4000000
set_option linter.unusedSimpArgs false
set_option linter.unusedVariables false
def applyIn (b : Box) (e : Edit) : Box × Int :=
  if e.Kind = 3 then (addMail b e.Bits e.Text, if addUid b e.Bits e.Text = 0 then 3 else 0)
  else if e.Kind = 4 then (setFlags b e.Set e.How e.Bits e.Since, 0)
  else if e.Kind = 5 then (expunge b e.Set, 0)
  else (forgetTombs b e.Since, 0)
def applyPut (s : Store) (b : Box) (e : Edit) : Store × Int :=
  if (applyIn b e).2 = 0 then (putBox s (applyIn b e).1, 0) else (s, (applyIn b e).2)
def applyS (s : Store) (e : Edit) : Store × Int :=
  if storeOk s = false ∨ editOk e = false then (s, 4)
  else if e.Kind = 1 then makeBox s e.Box
  else if boxHas s e.Box = false then (s, 1)
  else if e.Kind = 2 then dropBox s e.Box
  else if e.Kind = 6 then (copyMails s e.Box e.Set e.To, copyCode s e.Box e.Set e.To)
  else if e.Kind = 7 then (moveMails s e.Box e.Set e.To, moveCode s e.Box e.Set e.To)
  else applyPut s (boxGet s e.Box) e
theorem applyIn_le {b : Box} {e : Edit} (hb : b.le 4194304) (he : e.le 4194304) : (applyIn b e).1.le 4194304 := by
  unfold applyIn
  split
  · exact addMail_le hb he.2.2.2
  · split
    · exact setFlags_le hb
    · split
      · exact expunge_le hb
      · exact forgetTombs_le hb
theorem applyPut_le {s : Store} {b : Box} {e : Edit} (hs : s.le 4194304) (hb : b.le 4194304) (he : e.le 4194304) : (applyPut s b e).1.le 4194304 := by
  unfold applyPut
  split
  · exact putBox_le hs (applyIn_le hb he)
  · exact hs
theorem applyS_le {s : Store} {e : Edit} (hs : s.le 4194304) (he : e.le 4194304) : (applyS s e).1.le 4194304 := by
  unfold applyS
  split
  · exact hs
  split
  · exact makeBox_le hs
  split
  · exact hs
  split
  · exact dropBox_le hs
  split
  · exact copyMails_le hs
  split
  · exact moveMails_le hs
  exact applyPut_le hs (boxGet_le hs) he
theorem edit_kind {e : Edit} (h : editOk e = true) : 1 ≤ e.Kind ∧ e.Kind ≤ 8 := by
  simp only [editOk, within, Bool.and_eq_true, decide_eq_true_eq] at h
  exact h.1.1.1
open Classical in
noncomputable def spApplyIn : VM.Spec := { modes := [.rd, .rd], run := fun | [b', e'] => (Box.dec b').bind fun b => (Edit.dec e').bind fun e => if b.le 4194304 ∧ e.le 4194304 then some (.tup [Box.enc ((applyIn b e).1), .int .i64 ((applyIn b e).2)], []) else none | _ => none, need := [] }
attribute [go_sem] spApplyIn
theorem spApplyIn_in {ins : List V} {r : V} {outs : List V} (h : spApplyIn.run ins = some (r, outs)) : ∃ (b : Box) (e : Edit), ins = [Box.enc b, Edit.enc e] ∧ (b.le 4194304 ∧ e.le 4194304) ∧ .tup [Box.enc ((applyIn b e).1), .int .i64 ((applyIn b e).2)] = r ∧ outs = [] := by
  unfold spApplyIn at h
  simp only at h
  split at h
  · rename_i b' e'
    simp only [Option.bind_eq_some_iff] at h
    obtain ⟨b, h_b, e, h_e, h⟩ := h
    split at h
    case isFalse => cases h
    rename_i hc
    simp only [Option.some.injEq, Prod.mk.injEq] at h
    obtain ⟨h1, h2⟩ := h
    have h_b := Box.dec_some h_b
    subst h_b
    have h_e := Edit.dec_some h_e
    subst h_e
    exact ⟨b, e, rfl, hc, h1, h2.symm⟩
  · cases h
def T_impl_applyIn : Hints := ⟨lk [], lk [], lk [(0, [2, 3, 4]), (1, [2, 3, 4, 14]), (2, [2, 3, 4, 14, 15]), (3, [4, 6, 7]), (4, [4, 6, 27]), (5, [4, 5]), (6, [4, 5]), (7, [2, 3, 4, 14, 30]), (8, [4, 8]), (9, [4, 5]), (10, [2, 3, 4, 47]), (11, [4, 11]), (12, [4, 5]), (13, [4, 5])], lk []⟩
noncomputable def Phi_impl_applyIn : Tab := lk [(71, spAddMail), (72, spSetFlags), (73, spExpunge), (76, spForgetTombs)]
attribute [go_sem] T_impl_applyIn Phi_impl_applyIn
theorem phi_impl_applyIn : ∀ f sp, Phi_impl_applyIn f = some sp → FnOk Tryz.prog f sp ∧ ∀ n ∈ sp.need, n ∈ ([] : List String) := phi_cons ok_impl_AddMail (n0 rfl) (phi_cons ok_impl_SetFlags (n0 rfl) (phi_cons ok_impl_Expunge (n0 rfl) (phi_cons ok_impl_ForgetTombs (n0 rfl) (phi_nil))))
theorem ok_impl_applyIn : FnOk Tryz.prog 30 spApplyIn := by
  refine fn_ok (Φ := Phi_impl_applyIn) (T := T_impl_applyIn) phi_impl_applyIn mixed Tryz.func30 rfl rfl rfl (by decide) ?_
  intro ins r outs hr hl
  clear hl
  have hs := spApplyIn_in hr
  clear hr
  obtain ⟨b, e, rfl, hc, hr, rfl⟩ := hs
  simp only [spApplyIn, Tryz.f30, Go.VM.initS]
  obtain ⟨hb, he⟩ := hc
  have h1 := he.2.2.1.1
  have h2 : e.Text.length ≤ 4194304 := he.2.2.2
  by_cases k3 : e.Kind = 3
  · have e3 : (e.Kind == 3) = true := by rw [k3]; rfl
    by_cases hu : addUid b e.Bits e.Text = 0
    · have eu : (addUid b e.Bits e.Text == 0) = true := by rw [hu]; rfl
      simp only [hb, h1, h2, e3, eu, go_sem]
      repeat' ((first | apply qa | apply qb | apply qc | apply qd | apply qe | apply qf | apply qg | apply qh | apply qi | apply qj | apply qk) <;> intro hp <;> simp only [hp, hb, h1, h2, e3, eu, go_sem])
      simp only [fin_mk, finV, resL, resV1, resIn, endA, listIn, Option.some_or, Option.none_or, oneOrTup, go_sem]
      rw [← hr]
      rw [applyIn, if_pos k3, if_pos hu]; rfl
    · have eu : (addUid b e.Bits e.Text == 0) = false := beq_eq_false_iff_ne.2 hu
      simp only [hb, h1, h2, e3, eu, go_sem]
      repeat' ((first | apply qa | apply qb | apply qc | apply qd | apply qe | apply qf | apply qg | apply qh | apply qi | apply qj | apply qk) <;> intro hp <;> simp only [hp, hb, h1, h2, e3, eu, go_sem])
      simp only [fin_mk, finV, resL, resV1, resIn, endA, listIn, Option.some_or, Option.none_or, oneOrTup, go_sem]
      rw [← hr]
      rw [applyIn, if_pos k3, if_neg hu]; rfl
  have e3 : (e.Kind == 3) = false := beq_eq_false_iff_ne.2 k3
  by_cases k4 : e.Kind = 4
  · have e4 : (e.Kind == 4) = true := by rw [k4]; rfl
    simp only [hb, h1, h2, e3, e4, go_sem]
    repeat' ((first | apply qa | apply qb | apply qc | apply qd | apply qe | apply qf | apply qg | apply qh | apply qi | apply qj | apply qk) <;> intro hp <;> simp only [hp, hb, h1, h2, e3, e4, go_sem])
    simp only [fin_mk, finV, resL, resV1, resIn, endA, listIn, Option.some_or, Option.none_or, oneOrTup, go_sem]
    rw [← hr]
    rw [applyIn, if_neg k3, if_pos k4]; rfl
  have e4 : (e.Kind == 4) = false := beq_eq_false_iff_ne.2 k4
  by_cases k5 : e.Kind = 5
  · have e5 : (e.Kind == 5) = true := by rw [k5]; rfl
    simp only [hb, h1, h2, e3, e4, e5, go_sem]
    repeat' ((first | apply qa | apply qb | apply qc | apply qd | apply qe | apply qf | apply qg | apply qh | apply qi | apply qj | apply qk) <;> intro hp <;> simp only [hp, hb, h1, h2, e3, e4, e5, go_sem])
    simp only [fin_mk, finV, resL, resV1, resIn, endA, listIn, Option.some_or, Option.none_or, oneOrTup, go_sem]
    rw [← hr]
    rw [applyIn, if_neg k3, if_neg k4, if_pos k5]; rfl
  have e5 : (e.Kind == 5) = false := beq_eq_false_iff_ne.2 k5
  simp only [hb, h1, h2, e3, e4, e5, go_sem]
  repeat' ((first | apply qa | apply qb | apply qc | apply qd | apply qe | apply qf | apply qg | apply qh | apply qi | apply qj | apply qk) <;> intro hp <;> simp only [hp, hb, h1, h2, e3, e4, e5, go_sem])
  simp only [fin_mk, finV, resL, resV1, resIn, endA, listIn, Option.some_or, Option.none_or, oneOrTup, go_sem]
  rw [← hr]
  rw [applyIn, if_neg k3, if_neg k4, if_neg k5]; rfl
open Classical in
noncomputable def spApplyPut : VM.Spec := { modes := [.rd, .rd, .rd], run := fun | [s', b', e'] => (Store.dec s').bind fun s => (Box.dec b').bind fun b => (Edit.dec e').bind fun e => if s.le 4194304 ∧ b.le 4194304 ∧ e.le 4194304 ∧ (e.Kind = 3 ∨ e.Kind = 4 ∨ e.Kind = 5 ∨ e.Kind = 8) then some (.tup [Store.enc ((applyPut s b e).1), .int .i64 ((applyPut s b e).2)], []) else none | _ => none, need := [] }
attribute [go_sem] spApplyPut
theorem spApplyPut_in {ins : List V} {r : V} {outs : List V} (h : spApplyPut.run ins = some (r, outs)) : ∃ (s : Store) (b : Box) (e : Edit), ins = [Store.enc s, Box.enc b, Edit.enc e] ∧ (s.le 4194304 ∧ b.le 4194304 ∧ e.le 4194304 ∧ (e.Kind = 3 ∨ e.Kind = 4 ∨ e.Kind = 5 ∨ e.Kind = 8)) ∧ .tup [Store.enc ((applyPut s b e).1), .int .i64 ((applyPut s b e).2)] = r ∧ outs = [] := by
  unfold spApplyPut at h
  simp only at h
  split at h
  · rename_i s' b' e'
    simp only [Option.bind_eq_some_iff] at h
    obtain ⟨s, h_s, b, h_b, e, h_e, h⟩ := h
    split at h
    case isFalse => cases h
    rename_i hc
    simp only [Option.some.injEq, Prod.mk.injEq] at h
    obtain ⟨h1, h2⟩ := h
    have h_s := Store.dec_some h_s
    subst h_s
    have h_b := Box.dec_some h_b
    subst h_b
    have h_e := Edit.dec_some h_e
    subst h_e
    exact ⟨s, b, e, rfl, hc, h1, h2.symm⟩
  · cases h
def T_spec_l10Box : Hints := ⟨lk [], lk [], lk [(0, [3, 4, 5, 6]), (1, [3, 4, 5, 6, 11]), (2, [3, 4, 5, 6, 11, 12]), (3, [3, 4, 6, 8, 9]), (4, [3, 4, 6, 8, 24]), (5, [6, 7]), (6, [3, 4, 6]), (7, [3, 4, 5, 6, 11, 28]), (8, [3, 4, 6]), (9, [3, 4, 5, 6, 11, 44]), (10, [3, 4, 6]), (11, [3, 4, 5, 6, 53]), (12, [3, 4, 6]), (13, [6, 7])], lk []⟩
noncomputable def Phi_spec_l10Box : Tab := lk [(93, spAddMail), (95, spSetFlags), (96, spExpunge), (98, spForgetTombs), (94, spPutBox), (40, spCopyStore)]
attribute [go_sem] T_spec_l10Box Phi_spec_l10Box
theorem phi_spec_l10Box : ∀ f sp, Phi_spec_l10Box f = some sp → FnOk Tryz.prog f sp ∧ ∀ n ∈ sp.need, n ∈ ([] : List String) := phi_cons ok_spec_AddMail (n0 rfl) (phi_cons ok_spec_SetFlags (n0 rfl) (phi_cons ok_spec_Expunge (n0 rfl) (phi_cons ok_spec_ForgetTombs (n0 rfl) (phi_cons ok_spec_PutBox (n0 rfl) (phi_cons ok_spec_l09Copy (n0 rfl) (phi_nil))))))
theorem ok_spec_l10Box : FnOk Tryz.prog 46 spApplyPut := by
  refine fn_ok (Φ := Phi_spec_l10Box) (T := T_spec_l10Box) phi_spec_l10Box mixed Tryz.func46 rfl rfl rfl (by decide) ?_
  intro ins r outs hr hl
  clear hl
  have hs := spApplyPut_in hr
  clear hr
  obtain ⟨s, b, e, rfl, hc, hr, rfl⟩ := hs
  simp only [spApplyPut, Tryz.f46, Go.VM.initS]
  obtain ⟨hs, hb, he, hk⟩ := hc
  have h1 := he.2.2.1.1
  have h2 : e.Text.length ≤ 4194304 := he.2.2.2
  have hle := applyIn_le hb he
  by_cases k3 : e.Kind = 3
  · have e3 : (e.Kind == 3) = true := by rw [k3]; rfl
    by_cases hu : addUid b e.Bits e.Text = 0
    · have eu : (addUid b e.Bits e.Text == 0) = true := by rw [hu]; rfl
      simp only [hs, hb, h1, h2, e3, eu, go_sem]
      repeat' ((first | apply qa | apply qb | apply qc | apply qd | apply qe | apply qf | apply qg | apply qh | apply qi | apply qj | apply qk) <;> intro hp <;> simp only [hp, hs, hb, h1, h2, e3, eu, go_sem])
      simp only [fin_mk, finV, resL, resV1, resIn, endA, listIn, Option.some_or, Option.none_or, oneOrTup, go_sem]
      rw [← hr]
      rw [applyPut, applyIn, if_pos k3, if_pos hu]; rfl
    · have eu : (addUid b e.Bits e.Text == 0) = false := beq_eq_false_iff_ne.2 hu
      rw [applyIn, if_pos k3] at hle
      simp only [hs, hb, h1, h2, e3, eu, hle, go_sem]
      repeat' ((first | apply qa | apply qb | apply qc | apply qd | apply qe | apply qf | apply qg | apply qh | apply qi | apply qj | apply qk) <;> intro hp <;> simp only [hp, hs, hb, h1, h2, e3, eu, hle, go_sem])
      simp only [fin_mk, finV, resL, resV1, resIn, endA, listIn, Option.some_or, Option.none_or, oneOrTup, go_sem]
      rw [← hr]
      rw [applyPut, applyIn, if_pos k3, if_neg hu]; rfl
  have e3 : (e.Kind == 3) = false := beq_eq_false_iff_ne.2 k3
  by_cases k4 : e.Kind = 4
  · have e4 : (e.Kind == 4) = true := by rw [k4]; rfl
    rw [applyIn, if_neg k3, if_pos k4] at hle
    simp only [hs, hb, h1, h2, e3, e4, hle, go_sem]
    repeat' ((first | apply qa | apply qb | apply qc | apply qd | apply qe | apply qf | apply qg | apply qh | apply qi | apply qj | apply qk) <;> intro hp <;> simp only [hp, hs, hb, h1, h2, e3, e4, hle, go_sem])
    simp only [fin_mk, finV, resL, resV1, resIn, endA, listIn, Option.some_or, Option.none_or, oneOrTup, go_sem]
    rw [← hr]
    rw [applyPut, applyIn, if_neg k3, if_pos k4]; rfl
  have e4 : (e.Kind == 4) = false := beq_eq_false_iff_ne.2 k4
  by_cases k5 : e.Kind = 5
  · have e5 : (e.Kind == 5) = true := by rw [k5]; rfl
    rw [applyIn, if_neg k3, if_neg k4, if_pos k5] at hle
    simp only [hs, hb, h1, h2, e3, e4, e5, hle, go_sem]
    repeat' ((first | apply qa | apply qb | apply qc | apply qd | apply qe | apply qf | apply qg | apply qh | apply qi | apply qj | apply qk) <;> intro hp <;> simp only [hp, hs, hb, h1, h2, e3, e4, e5, hle, go_sem])
    simp only [fin_mk, finV, resL, resV1, resIn, endA, listIn, Option.some_or, Option.none_or, oneOrTup, go_sem]
    rw [← hr]
    rw [applyPut, applyIn, if_neg k3, if_neg k4, if_pos k5]; rfl
  have e5 : (e.Kind == 5) = false := beq_eq_false_iff_ne.2 k5
  have k8 : e.Kind = 8 := by omega
  have e8 : (e.Kind == 8) = true := by rw [k8]; rfl
  rw [applyIn, if_neg k3, if_neg k4, if_neg k5] at hle
  simp only [hs, hb, h1, h2, e3, e4, e5, e8, hle, go_sem]
  repeat' ((first | apply qa | apply qb | apply qc | apply qd | apply qe | apply qf | apply qg | apply qh | apply qi | apply qj | apply qk) <;> intro hp <;> simp only [hp, hs, hb, h1, h2, e3, e4, e5, e8, hle, go_sem])
  simp only [fin_mk, finV, resL, resV1, resIn, endA, listIn, Option.some_or, Option.none_or, oneOrTup, go_sem]
  rw [← hr]
  rw [applyPut, applyIn, if_neg k3, if_neg k4, if_neg k5]; rfl
open Classical in
noncomputable def spApply : VM.Spec := { modes := [.rd, .rd], run := fun | [s', e'] => (Store.dec s').bind fun s => (Edit.dec e').bind fun e => if s.le 4194304 ∧ e.le 4194304 then some (.tup [Store.enc ((applyS s e).1), .int .i64 ((applyS s e).2)], []) else none | _ => none, need := [] }
attribute [go_sem] spApply
theorem spApply_in {ins : List V} {r : V} {outs : List V} (h : spApply.run ins = some (r, outs)) : ∃ (s : Store) (e : Edit), ins = [Store.enc s, Edit.enc e] ∧ (s.le 4194304 ∧ e.le 4194304) ∧ .tup [Store.enc ((applyS s e).1), .int .i64 ((applyS s e).2)] = r ∧ outs = [] := by
  unfold spApply at h
  simp only at h
  split at h
  · rename_i s' e'
    simp only [Option.bind_eq_some_iff] at h
    obtain ⟨s, h_s, e, h_e, h⟩ := h
    split at h
    case isFalse => cases h
    rename_i hc
    simp only [Option.some.injEq, Prod.mk.injEq] at h
    obtain ⟨h1, h2⟩ := h
    have h_s := Store.dec_some h_s
    subst h_s
    have h_e := Edit.dec_some h_e
    subst h_e
    exact ⟨s, e, rfl, hc, h1, h2.symm⟩
  · cases h
def T_impl_Apply : Hints := ⟨lk [], lk [], lk [(0, [2, 3, 4]), (1, [2, 3, 4, 17]), (2, [4, 5]), (3, [2, 3, 4, 6, 7]), (4, [2, 3, 4, 6, 7, 27]), (5, [4, 5]), (6, [2, 3, 4, 6, 37]), (7, [4, 5]), (8, [2, 3, 4, 6, 42]), (9, [4, 5]), (10, [2, 3, 4, 6, 52]), (11, [4, 5]), (12, [2, 3, 4, 6, 66]), (13, [4, 5]), (14, [2, 4, 8, 9]), (15, [2, 4, 8, 9, 87]), (16, [4, 5]), (17, [4, 5])], lk []⟩
noncomputable def Phi_impl_Apply : Tab := lk [(10, spStoreOk), (24, spEditOk), (25, spCopyStore), (9, spBoxAt), (26, spMakeBox), (27, spDropBox), (28, spCopyMails), (29, spMoveMails), (30, spApplyIn), (31, spPutBox)]
attribute [go_sem] T_impl_Apply Phi_impl_Apply
theorem phi_impl_Apply : ∀ f sp, Phi_impl_Apply f = some sp → FnOk Tryz.prog f sp ∧ ∀ n ∈ sp.need, n ∈ ([] : List String) := phi_cons ok_impl_StoreOk (n0 rfl) (phi_cons ok_impl_EditOk (n0 rfl) (phi_cons ok_impl_copyStore (n0 rfl) (phi_cons ok_impl_BoxAt (n0 rfl) (phi_cons ok_impl_MakeBox (n0 rfl) (phi_cons ok_impl_DropBox (n0 rfl) (phi_cons ok_impl_CopyMails (n0 rfl) (phi_cons ok_impl_MoveMails (n0 rfl) (phi_cons ok_impl_applyIn (n0 rfl) (phi_cons ok_impl_PutBox (n0 rfl) (phi_nil))))))))))
theorem ok_impl_Apply : FnOk Tryz.prog 8 spApply := by
  refine fn_ok (Φ := Phi_impl_Apply) (T := T_impl_Apply) phi_impl_Apply mixed Tryz.func8 rfl rfl rfl (by decide) ?_
  intro ins r outs hr hl
  clear hl
  have hs := spApply_in hr
  clear hr
  obtain ⟨s, e, rfl, hc, hr, rfl⟩ := hs
  simp only [spApply, Tryz.f8, Go.VM.initS]
  obtain ⟨hs, he⟩ := hc
  have h0 : e.Box.length ≤ 4194304 := he.1
  have h1 := he.2.2.1.1
  have hg := boxGet_le (name := e.Box) hs
  have hle := applyIn_le hg he
  cases o1 : storeOk s with
  | false =>
    simp only [hs, he, o1, go_sem]
    repeat' ((first | apply qa | apply qb | apply qc | apply qd | apply qe | apply qf | apply qg | apply qh | apply qi | apply qj | apply qk) <;> intro hp <;> simp only [hp, hs, he, o1, go_sem])
    simp only [fin_mk, finV, resL, resV1, resIn, endA, listIn, Option.some_or, Option.none_or, oneOrTup, go_sem]
    rw [← hr]
    rw [applyS, if_pos (.inl o1)]; rfl
  | true =>
  cases o2 : editOk e with
  | false =>
    simp only [hs, he, o1, o2, go_sem]
    repeat' ((first | apply qa | apply qb | apply qc | apply qd | apply qe | apply qf | apply qg | apply qh | apply qi | apply qj | apply qk) <;> intro hp <;> simp only [hp, hs, he, o1, o2, go_sem])
    simp only [fin_mk, finV, resL, resV1, resIn, endA, listIn, Option.some_or, Option.none_or, oneOrTup, go_sem]
    rw [← hr]
    rw [applyS, if_pos (.inr o2)]; rfl
  | true =>
  have no : ¬ (storeOk s = false ∨ editOk e = false) := by rw [o1, o2]; simp
  by_cases k1 : e.Kind = 1
  · have e1 : (e.Kind == 1) = true := by rw [k1]; rfl
    simp only [hs, he, o1, o2, h0, e1, go_sem]
    repeat' ((first | apply qa | apply qb | apply qc | apply qd | apply qe | apply qf | apply qg | apply qh | apply qi | apply qj | apply qk) <;> intro hp <;> simp only [hp, hs, he, o1, o2, h0, e1, go_sem])
    simp only [fin_mk, finV, resL, resV1, resIn, endA, listIn, Option.some_or, Option.none_or, oneOrTup, go_sem]
    rw [← hr]
    rw [applyS, if_neg no, if_pos k1]; rfl
  have e1 : (e.Kind == 1) = false := beq_eq_false_iff_ne.2 k1
  cases o3 : boxHas s e.Box with
  | false =>
    simp only [hs, he, o1, o2, h0, e1, o3, go_sem]
    repeat' ((first | apply qa | apply qb | apply qc | apply qd | apply qe | apply qf | apply qg | apply qh | apply qi | apply qj | apply qk) <;> intro hp <;> simp only [hp, hs, he, o1, o2, h0, e1, o3, go_sem])
    simp only [fin_mk, finV, resL, resV1, resIn, endA, listIn, Option.some_or, Option.none_or, oneOrTup, go_sem]
    rw [← hr]
    rw [applyS, if_neg no, if_neg k1, if_pos o3]; rfl
  | true =>
  have n3 : ¬ boxHas s e.Box = false := by rw [o3]; simp
  by_cases k2 : e.Kind = 2
  · have e2 : (e.Kind == 2) = true := by rw [k2]; rfl
    simp only [hs, he, o1, o2, h0, e1, o3, e2, go_sem]
    repeat' ((first | apply qa | apply qb | apply qc | apply qd | apply qe | apply qf | apply qg | apply qh | apply qi | apply qj | apply qk) <;> intro hp <;> simp only [hp, hs, he, o1, o2, h0, e1, o3, e2, go_sem])
    simp only [fin_mk, finV, resL, resV1, resIn, endA, listIn, Option.some_or, Option.none_or, oneOrTup, go_sem]
    rw [← hr]
    rw [applyS, if_neg no, if_neg k1, if_neg n3, if_pos k2]; rfl
  have e2 : (e.Kind == 2) = false := beq_eq_false_iff_ne.2 k2
  by_cases k6 : e.Kind = 6
  · have e6 : (e.Kind == 6) = true := by rw [k6]; rfl
    simp only [hs, he, o1, o2, h0, h1, e1, o3, e2, e6, go_sem]
    repeat' ((first | apply qa | apply qb | apply qc | apply qd | apply qe | apply qf | apply qg | apply qh | apply qi | apply qj | apply qk) <;> intro hp <;> simp only [hp, hs, he, o1, o2, h0, h1, e1, o3, e2, e6, go_sem])
    simp only [fin_mk, finV, resL, resV1, resIn, endA, listIn, Option.some_or, Option.none_or, oneOrTup, go_sem]
    rw [← hr]
    rw [applyS, if_neg no, if_neg k1, if_neg n3, if_neg k2, if_pos k6]; rfl
  have e6 : (e.Kind == 6) = false := beq_eq_false_iff_ne.2 k6
  by_cases k7 : e.Kind = 7
  · have e7 : (e.Kind == 7) = true := by rw [k7]; rfl
    simp only [hs, he, o1, o2, h0, h1, e1, o3, e2, e6, e7, go_sem]
    repeat' ((first | apply qa | apply qb | apply qc | apply qd | apply qe | apply qf | apply qg | apply qh | apply qi | apply qj | apply qk) <;> intro hp <;> simp only [hp, hs, he, o1, o2, h0, h1, e1, o3, e2, e6, e7, go_sem])
    simp only [fin_mk, finV, resL, resV1, resIn, endA, listIn, Option.some_or, Option.none_or, oneOrTup, go_sem]
    rw [← hr]
    rw [applyS, if_neg no, if_neg k1, if_neg n3, if_neg k2, if_neg k6, if_pos k7]; rfl
  have e7 : (e.Kind == 7) = false := beq_eq_false_iff_ne.2 k7
  by_cases ha : (applyIn (boxGet s e.Box) e).2 = 0
  · have ea : ((applyIn (boxGet s e.Box) e).2 != 0) = false := by rw [ha]; rfl
    simp only [hs, he, o1, o2, h0, h1, e1, o3, e2, e6, e7, hg, hle, ea, go_sem]
    repeat' ((first | apply qa | apply qb | apply qc | apply qd | apply qe | apply qf | apply qg | apply qh | apply qi | apply qj | apply qk) <;> intro hp <;> simp only [hp, hs, he, o1, o2, h0, h1, e1, o3, e2, e6, e7, hg, hle, ea, go_sem])
    simp only [fin_mk, finV, resL, resV1, resIn, endA, listIn, Option.some_or, Option.none_or, oneOrTup, go_sem]
    rw [← hr]
    rw [applyS, if_neg no, if_neg k1, if_neg n3, if_neg k2, if_neg k6, if_neg k7, applyPut, if_pos ha]; rfl
  · have ea : ((applyIn (boxGet s e.Box) e).2 != 0) = true := bne_iff_ne.2 ha
    simp only [hs, he, o1, o2, h0, h1, e1, o3, e2, e6, e7, hg, hle, ea, go_sem]
    repeat' ((first | apply qa | apply qb | apply qc | apply qd | apply qe | apply qf | apply qg | apply qh | apply qi | apply qj | apply qk) <;> intro hp <;> simp only [hp, hs, he, o1, o2, h0, h1, e1, o3, e2, e6, e7, hg, hle, ea, go_sem])
    simp only [fin_mk, finV, resL, resV1, resIn, endA, listIn, Option.some_or, Option.none_or, oneOrTup, go_sem]
    rw [← hr]
    rw [applyS, if_neg no, if_neg k1, if_neg n3, if_neg k2, if_neg k6, if_neg k7, applyPut, if_neg ha]; rfl
def T_spec_Apply : Hints := ⟨lk [], lk [], lk [(0, [2, 3, 4]), (1, [2, 3, 4, 15]), (2, [4, 5]), (3, [2, 3, 4, 20]), (4, [4, 5]), (5, [2, 3, 4, 6, 7]), (6, [2, 3, 4, 6, 35]), (7, [4, 5]), (8, [2, 3, 4, 6, 39]), (9, [2, 3, 4, 6, 39, 40]), (10, [4, 5]), (11, [2, 3, 4, 6, 39, 48]), (12, [4, 5]), (13, [2, 3, 4, 6, 60]), (14, [4, 5]), (15, [4, 5])], lk []⟩
noncomputable def Phi_spec_Apply : Tab := lk [(38, spStoreOk), (39, spEditOk), (40, spCopyStore), (42, spBoxAt), (41, spMakeBox), (43, spDropBox), (44, spCopyMails), (45, spMoveMails), (46, spApplyPut)]
attribute [go_sem] T_spec_Apply Phi_spec_Apply
theorem phi_spec_Apply : ∀ f sp, Phi_spec_Apply f = some sp → FnOk Tryz.prog f sp ∧ ∀ n ∈ sp.need, n ∈ ([] : List String) := phi_cons ok_spec_StoreOk (n0 rfl) (phi_cons ok_spec_EditOk (n0 rfl) (phi_cons ok_spec_l09Copy (n0 rfl) (phi_cons ok_spec_BoxAt (n0 rfl) (phi_cons ok_spec_MakeBox (n0 rfl) (phi_cons ok_spec_DropBox (n0 rfl) (phi_cons ok_spec_CopyMails (n0 rfl) (phi_cons ok_spec_MoveMails (n0 rfl) (phi_cons ok_spec_l10Box (n0 rfl) (phi_nil)))))))))
theorem ok_spec_Apply : FnOk Tryz.prog 13 spApply := by
  refine fn_ok (Φ := Phi_spec_Apply) (T := T_spec_Apply) phi_spec_Apply mixed Tryz.func13 rfl rfl rfl (by decide) ?_
  intro ins r outs hr hl
  clear hl
  have hs := spApply_in hr
  clear hr
  obtain ⟨s, e, rfl, hc, hr, rfl⟩ := hs
  simp only [spApply, Tryz.f13, Go.VM.initS]
  obtain ⟨hs, he⟩ := hc
  have h0 : e.Box.length ≤ 4194304 := he.1
  have h1 := he.2.2.1.1
  have hg := boxGet_le (name := e.Box) hs
  cases o1 : storeOk s with
  | false =>
    simp only [hs, he, o1, go_sem]
    repeat' ((first | apply qa | apply qb | apply qc | apply qd | apply qe | apply qf | apply qg | apply qh | apply qi | apply qj | apply qk) <;> intro hp <;> simp only [hp, hs, he, o1, go_sem])
    simp only [fin_mk, finV, resL, resV1, resIn, endA, listIn, Option.some_or, Option.none_or, oneOrTup, go_sem]
    rw [← hr]
    rw [applyS, if_pos (.inl o1)]; rfl
  | true =>
  cases o2 : editOk e with
  | false =>
    simp only [hs, he, o1, o2, go_sem]
    repeat' ((first | apply qa | apply qb | apply qc | apply qd | apply qe | apply qf | apply qg | apply qh | apply qi | apply qj | apply qk) <;> intro hp <;> simp only [hp, hs, he, o1, o2, go_sem])
    simp only [fin_mk, finV, resL, resV1, resIn, endA, listIn, Option.some_or, Option.none_or, oneOrTup, go_sem]
    rw [← hr]
    rw [applyS, if_pos (.inr o2)]; rfl
  | true =>
  have no : ¬ (storeOk s = false ∨ editOk e = false) := by rw [o1, o2]; simp
  by_cases k1 : e.Kind = 1
  · have e1 : (e.Kind == 1) = true := by rw [k1]; rfl
    simp only [hs, he, o1, o2, h0, e1, go_sem]
    repeat' ((first | apply qa | apply qb | apply qc | apply qd | apply qe | apply qf | apply qg | apply qh | apply qi | apply qj | apply qk) <;> intro hp <;> simp only [hp, hs, he, o1, o2, h0, e1, go_sem])
    simp only [fin_mk, finV, resL, resV1, resIn, endA, listIn, Option.some_or, Option.none_or, oneOrTup, go_sem]
    rw [← hr]
    rw [applyS, if_neg no, if_pos k1]; rfl
  have e1 : (e.Kind == 1) = false := beq_eq_false_iff_ne.2 k1
  cases o3 : boxHas s e.Box with
  | false =>
    simp only [hs, he, o1, o2, h0, e1, o3, go_sem]
    repeat' ((first | apply qa | apply qb | apply qc | apply qd | apply qe | apply qf | apply qg | apply qh | apply qi | apply qj | apply qk) <;> intro hp <;> simp only [hp, hs, he, o1, o2, h0, e1, o3, go_sem])
    simp only [fin_mk, finV, resL, resV1, resIn, endA, listIn, Option.some_or, Option.none_or, oneOrTup, go_sem]
    rw [← hr]
    rw [applyS, if_neg no, if_neg k1, if_pos o3]; rfl
  | true =>
  have n3 : ¬ boxHas s e.Box = false := by rw [o3]; simp
  by_cases k2 : e.Kind = 2
  · have e2 : (e.Kind == 2) = true := by rw [k2]; rfl
    simp only [hs, he, o1, o2, h0, e1, o3, e2, go_sem]
    repeat' ((first | apply qa | apply qb | apply qc | apply qd | apply qe | apply qf | apply qg | apply qh | apply qi | apply qj | apply qk) <;> intro hp <;> simp only [hp, hs, he, o1, o2, h0, e1, o3, e2, go_sem])
    simp only [fin_mk, finV, resL, resV1, resIn, endA, listIn, Option.some_or, Option.none_or, oneOrTup, go_sem]
    rw [← hr]
    rw [applyS, if_neg no, if_neg k1, if_neg n3, if_pos k2]; rfl
  have e2 : (e.Kind == 2) = false := beq_eq_false_iff_ne.2 k2
  by_cases k6 : e.Kind = 6
  · have e6 : (e.Kind == 6) = true := by rw [k6]; rfl
    simp only [hs, he, o1, o2, h0, h1, e1, o3, e2, e6, go_sem]
    repeat' ((first | apply qa | apply qb | apply qc | apply qd | apply qe | apply qf | apply qg | apply qh | apply qi | apply qj | apply qk) <;> intro hp <;> simp only [hp, hs, he, o1, o2, h0, h1, e1, o3, e2, e6, go_sem])
    simp only [fin_mk, finV, resL, resV1, resIn, endA, listIn, Option.some_or, Option.none_or, oneOrTup, go_sem]
    rw [← hr]
    rw [applyS, if_neg no, if_neg k1, if_neg n3, if_neg k2, if_pos k6]; rfl
  have e6 : (e.Kind == 6) = false := beq_eq_false_iff_ne.2 k6
  by_cases k7 : e.Kind = 7
  · have e7 : (e.Kind == 7) = true := by rw [k7]; rfl
    simp only [hs, he, o1, o2, h0, h1, e1, o3, e2, e6, e7, go_sem]
    repeat' ((first | apply qa | apply qb | apply qc | apply qd | apply qe | apply qf | apply qg | apply qh | apply qi | apply qj | apply qk) <;> intro hp <;> simp only [hp, hs, he, o1, o2, h0, h1, e1, o3, e2, e6, e7, go_sem])
    simp only [fin_mk, finV, resL, resV1, resIn, endA, listIn, Option.some_or, Option.none_or, oneOrTup, go_sem]
    rw [← hr]
    rw [applyS, if_neg no, if_neg k1, if_neg n3, if_neg k2, if_neg k6, if_pos k7]; rfl
  have e7 : (e.Kind == 7) = false := beq_eq_false_iff_ne.2 k7
  have kk : e.Kind = 3 ∨ e.Kind = 4 ∨ e.Kind = 5 ∨ e.Kind = 8 := by have := edit_kind o2; omega
  simp only [hs, he, o1, o2, h0, h1, e1, o3, e2, e6, e7, hg, kk, go_sem]
  repeat' ((first | apply qa | apply qb | apply qc | apply qd | apply qe | apply qf | apply qg | apply qh | apply qi | apply qj | apply qk) <;> intro hp <;> simp only [hp, hs, he, o1, o2, h0, h1, e1, o3, e2, e6, e7, hg, kk, go_sem])
  simp only [fin_mk, finV, resL, resV1, resIn, endA, listIn, Option.some_or, Option.none_or, oneOrTup, go_sem]
  rw [← hr]
  rw [applyS, if_neg no, if_neg k1, if_neg n3, if_neg k2, if_neg k6, if_neg k7]; rfl
end Go.Proofs.YtjkhhplhjbmhjaaGreat.L

namespace Go.Proofs.YtjkhhplhjbmhjaaGreat.L
open Go Go.VM
set_option maxRecDepth 100000
set_option maxHeartbeats 4000000
set_option linter.unusedSimpArgs false
set_option linter.unusedVariables false
structure Grow (b c : Box) : Prop where
  name : c.Name = b.Name
  valid : c.Valid = b.Valid
  next : b.Next ≤ c.Next
  mod_ : b.Mod ≤ c.Mod
  hor : b.Horizon ≤ c.Horizon
theorem Grow.refl (b : Box) : Grow b b := ⟨rfl, rfl, Int.le_refl _, Int.le_refl _, Int.le_refl _⟩
theorem Grow.trans {a b c : Box} (h : Grow a b) (k : Grow b c) : Grow a c := ⟨k.name.trans h.name, k.valid.trans h.valid, Int.le_trans h.next k.next, Int.le_trans h.mod_ k.mod_, Int.le_trans h.hor k.hor⟩
theorem addMail_ok {b : Box} {f : Int} {t : List UInt8} (h : boxOk b = true) : boxOk (addMail b f t) = true ∧ Grow b (addMail b f t) := by
  unfold addMail
  split
  · rename_i hg
    simp only [addGood, Bool.and_eq_true] at hg
    exact ⟨hg.2, rfl, rfl, by show b.Next ≤ b.Next + 1; omega, by show b.Mod ≤ b.Mod + 1; omega, Int.le_refl _⟩
  · exact ⟨h, .refl b⟩
theorem setFlags_ok {b : Box} {s : List Range} {how bits since : Int} (h : boxOk b = true) : boxOk (setFlags b s how bits since) = true ∧ Grow b (setFlags b s how bits since) := by
  unfold setFlags
  split
  · rename_i hg
    simp only [setGood, Bool.and_eq_true] at hg
    refine ⟨hg.2, rfl, rfl, Int.le_refl _, ?_, Int.le_refl _⟩
    show b.Mod ≤ (if doneL b.Mails s how bits since = [] then b.Mod else b.Mod + 1)
    split <;> omega
  · exact ⟨h, .refl b⟩
theorem trim_hor : ∀ (n : Nat) (l : List Tomb) (h : Int), l.length ≤ n → (trimT l h).2 = h ∨ ∃ t ∈ l, (trimT l h).2 = t.Mod
  | 0, [], h, _ => by left; rw [trimT]
  | 0, t :: l, h, hn => by simp at hn
  | n + 1, [], h, _ => by left; rw [trimT]
  | n + 1, t :: l, h, hn => by
    rw [trimT]
    split
    · have hlt := trim_lt t l
      rcases trim_hor n ((t :: l).filter fun x => !(x.Mod == t.Mod)) t.Mod (by omega) with e | ⟨u, hu, e⟩
      · exact .inr ⟨t, by simp, e⟩
      · exact .inr ⟨u, (List.mem_filter.1 hu).1, e⟩
    · exact .inl rfl
theorem tomb_above {b : Box} (h : boxOk b = true) : ∀ t ∈ b.Tombs, b.Horizon + 1 ≤ t.Mod := by
  intro t ht
  obtain ⟨i, hi, rfl⟩ := List.mem_iff_getElem.1 ht
  simp only [boxOk, tombsOk, Bool.and_eq_true] at h
  have h1 := allN_get h.2.1 hi
  simp only [tombAtOk, tombIn, within, Bool.and_eq_true, decide_eq_true_eq, List.getD_eq_getElem?_getD, List.getElem?_eq_getElem hi, Option.getD_some] at h1
  exact h1.1.1.1.2.1
theorem box_nums {b : Box} (h : boxOk b = true) : (1 ≤ b.Next ∧ b.Next ≤ 9999) ∧ (0 ≤ b.Horizon ∧ b.Horizon ≤ b.Mod ∧ b.Mod ≤ 100000) := by
  simp only [boxOk, Bool.and_eq_true] at h
  exact numsOk_next h.1.1.2
theorem expunge_ok {b : Box} {s : List Range} (h : boxOk b = true) : boxOk (expunge b s) = true ∧ Grow b (expunge b s) := by
  unfold expunge
  split
  · rename_i hg
    simp only [exGood, Bool.and_eq_true] at hg
    refine ⟨hg.2, rfl, rfl, Int.le_refl _, by show b.Mod ≤ b.Mod + 1; omega, ?_⟩
    show b.Horizon ≤ (exTombs b s).2
    rcases trim_hor _ (b.Tombs ++ addTs b.Mails s (b.Mod + 1)) b.Horizon (Nat.le_refl _) with e | ⟨t, ht, e⟩
    · rw [exTombs, e]; exact Int.le_refl _
    · rw [exTombs, e]
      rcases List.mem_append.1 ht with ht | ht
      · have := tomb_above h t ht; omega
      · simp only [addTs, List.mem_map] at ht
        obtain ⟨m, _, rfl⟩ := ht
        have := (box_nums h).2.2
        show b.Horizon ≤ b.Mod + 1
        omega
  · exact ⟨h, .refl b⟩
theorem pair_of_adj {α : Type} {R : α → α → Prop} (ht : ∀ a b c, R a b → R b c → R a c) : ∀ {l : List α}, (∀ i (h : i + 1 < l.length), R (l[i]'(by omega)) l[i + 1]) → l.Pairwise R
  | [], _ => List.Pairwise.nil
  | [x], _ => List.pairwise_singleton _ _
  | x :: y :: t, h => by
    have h1 : (y :: t).Pairwise R := pair_of_adj ht fun i hi => by
      have := h (i + 1) (by simpa using hi)
      simpa using this
    have h2 : R x y := by simpa using h 0 (by simp)
    refine List.Pairwise.cons (fun z hz => ?_) h1
    rcases List.mem_cons.1 hz with rfl | hz
    · exact h2
    · exact ht _ _ _ h2 ((List.pairwise_cons.1 h1).1 z hz)
theorem pair_at {α : Type} {R : α → α → Prop} {l : List α} (h : l.Pairwise R) {i j : Nat} (hij : i < j) (hj : j < l.length) : R (l[i]'(by omega)) l[j] := List.pairwise_iff_getElem.1 h i j (by omega) hj hij
def tLt (t u : Tomb) : Prop := t.Mod < u.Mod ∨ (t.Mod = u.Mod ∧ t.Uid < u.Uid)
theorem tombs_pair {b : Box} (h : boxOk b = true) : b.Tombs.Pairwise tLt ∧ b.Tombs.Pairwise (fun t u => t.Uid ≠ u.Uid) := by
  simp only [boxOk, tombsOk, Bool.and_eq_true] at h
  refine ⟨pair_of_adj (fun a b c h1 h2 => by unfold tLt at *; omega) fun i hi => ?_, List.pairwise_iff_getElem.2 fun i j hi hj hij => ?_⟩
  · have h1 := allN_get h.2.1 hi
    simp only [tombAtOk, tombOrd, Bool.and_eq_true, Bool.or_eq_true, List.getD_eq_getElem?_getD, List.getElem?_eq_getElem hi, Option.getD_some, Nat.add_sub_cancel, List.getElem?_eq_getElem (show i < b.Tombs.length by omega)] at h1
    rcases h1.2 with h2 | h2
    · simp at h2
    · simp only [Bool.not_eq_true', Bool.or_eq_false_iff, decide_eq_false_iff_not, Bool.and_eq_false_iff, beq_eq_false_iff_ne] at h2
      unfold tLt
      rcases h2.2 with h3 | h3 <;> omega
  · have h1 := allN_get h.2.1 hj
    simp only [tombAtOk, tombIn, Bool.and_eq_true, Bool.not_eq_true', List.getD_eq_getElem?_getD, List.getElem?_eq_getElem hj, Option.getD_some] at h1
    have h2 := h1.1.1.2
    intro e
    have h3 : hasTomb (b.Tombs.take j) b.Tombs[j].Uid = true := by
      rw [hasTomb, List.any_eq_true]
      refine ⟨b.Tombs[i], ?_, by rw [e]; simp⟩
      rw [List.mem_take_iff_getElem]
      exact ⟨i, by omega, rfl⟩
    rw [h3] at h2; cases h2
theorem forget_ok {b : Box} {u : Int} (h : boxOk b = true) : boxOk (forgetTombs b u) = true ∧ Grow b (forgetTombs b u) := by
  unfold forgetTombs
  split
  · rename_i hg
    have hg2 : 0 ≤ u ∧ u ≤ b.Mod := by
      simp only [forgetGood, within, Bool.and_eq_true, decide_eq_true_eq] at hg; exact hg.2
    obtain ⟨p1, p2⟩ := tombs_pair h
    have ha := tomb_above h
    have hn := box_nums h
    have h0 := h
    simp only [boxOk, Bool.and_eq_true] at h
    obtain ⟨⟨⟨hN, hU⟩, hM⟩, hT⟩ := h
    refine ⟨?_, rfl, rfl, Int.le_refl _, Int.le_refl _, ?_⟩
    · have hU2 := hU
      simp only [numsOk, within, Bool.and_eq_true, decide_eq_true_eq] at hU2
      obtain ⟨hT1, hT2⟩ : allN b.Tombs.length (tombAtOk b) = true ∧ b.Tombs.length ≤ 40 := by
        simp only [tombsOk, Bool.and_eq_true, decide_eq_true_eq] at hT; exact hT
      have q1 := p1.filter (fun x : Tomb => !decide (x.Mod ≤ u))
      have q2 := p2.filter (fun x : Tomb => !decide (x.Mod ≤ u))
      have hin : ∀ t ∈ b.Tombs, (1 ≤ t.Uid ∧ t.Uid ≤ b.Next - 1) ∧ t.Mod ≤ b.Mod ∧ hasMail b.Mails t.Uid = false := by
        intro t ht
        obtain ⟨i, hi, rfl⟩ := List.mem_iff_getElem.1 ht
        have h1 := allN_get hT1 hi
        simp only [tombAtOk, tombIn, within, Bool.and_eq_true, decide_eq_true_eq, Bool.not_eq_true', List.getD_eq_getElem?_getD, List.getElem?_eq_getElem hi, Option.getD_some] at h1
        exact ⟨h1.1.1.1.1, h1.1.1.1.2.2, h1.1.2⟩
      generalize hF : b.Tombs.filter (fun x => !decide (x.Mod ≤ u)) = F at q1 q2
      have hmem : ∀ t ∈ F, t ∈ b.Tombs ∧ u < t.Mod := by
        intro t ht
        rw [← hF, List.mem_filter] at ht
        exact ⟨ht.1, by have := ht.2; simp at this; omega⟩
      have hlen : F.length ≤ 40 := by rw [← hF]; exact Nat.le_trans (List.length_filter_le _ _) hT2
      have hhor : ∀ H : Int, H = (if b.Horizon < u then u else b.Horizon) → boxOk ⟨b.Name, b.Valid, b.Next, b.Mod, b.Mails, F, H⟩ = true := by
        intro H hH
        have hH1 : 0 ≤ H ∧ H ≤ b.Mod := by rw [hH]; split <;> omega
        have hH2 : ∀ t ∈ F, H + 1 ≤ t.Mod := by
          intro t ht
          have h1 := ha t (hmem t ht).1
          have h2 := (hmem t ht).2
          rw [hH]; split <;> omega
        simp only [boxOk, Bool.and_eq_true]
        refine ⟨⟨⟨hN, ?_⟩, hM⟩, ?_⟩
        · simp only [numsOk, within, Bool.and_eq_true, decide_eq_true_eq]; omega
        · simp only [tombsOk, Bool.and_eq_true, decide_eq_true_eq]
          refine ⟨allN_all (Nat.le_refl _) fun i hi => ?_, hlen⟩
          have hi' : i < F.length := hi
          have ht := List.getElem_mem hi'
          have h1 := hin _ (hmem _ ht).1
          have h2 := hH2 _ ht
          have hF1 : F.getD i default = F[i] := by rw [List.getD_eq_getElem?_getD, List.getElem?_eq_getElem hi']; rfl
          simp only [tombAtOk, tombIn, tombOrd, within, Bool.and_eq_true, decide_eq_true_eq, Bool.not_eq_true', Bool.or_eq_true, hF1]
          refine ⟨⟨⟨⟨h1.1, h2, h1.2.1⟩, ?_⟩, h1.2.2⟩, ?_⟩
          · cases hq : hasTomb (F.take i) F[i].Uid with
            | false => rfl
            | true =>
              rw [hasTomb, List.any_eq_true] at hq
              obtain ⟨t, ht2, he⟩ := hq
              obtain ⟨j, hj, hjt⟩ := List.mem_iff_getElem.1 ht2
              rw [List.length_take] at hj
              rw [List.getElem_take] at hjt
              have := pair_at q2 (i := j) (j := i) (by omega) hi'
              rw [hjt] at this
              exact absurd (eq_of_beq he) this
          · by_cases h0 : i = 0
            · left; simp [h0]
            · right
              have h3 := pair_at q1 (i := i - 1) (j := i) (by omega) hi'
              have hF0 : F.getD (i - 1) default = F[i - 1] := by rw [List.getD_eq_getElem?_getD, List.getElem?_eq_getElem (by omega)]; rfl
              rw [hF0]
              simp only [Bool.or_eq_false_iff, decide_eq_false_iff_not, Bool.and_eq_false_iff, beq_eq_false_iff_ne]
              unfold tLt at h3
              refine ⟨by omega, ?_⟩
              by_cases h4 : F[i - 1].Mod = F[i].Mod
              · right; omega
              · left; exact h4
      have := hhor _ rfl
      rw [forgetOut, hF]; exact this
    · show b.Horizon ≤ (if b.Horizon < u then u else b.Horizon)
      split <;> omega
  · exact ⟨h, .refl b⟩
theorem copyL_ok {set : List Range} : ∀ {l : List Mail} {t u : Box}, copyL set l t = some u → boxOk t = true → boxOk u = true ∧ Grow t u
  | [], t, u, h, ht => by simp only [copyL, Option.some.injEq] at h; subst h; exact ⟨ht, .refl t⟩
  | x :: l, t, u, h, ht => by
    simp only [copyL, Option.bind_eq_some_iff] at h
    obtain ⟨v, hv, h⟩ := h
    have h1 : boxOk v = true ∧ Grow t v := by
      unfold copyStep at hv
      split at hv
      · split at hv
        · cases hv
        · cases hv; exact addMail_ok ht
      · cases hv; exact ⟨ht, .refl t⟩
    obtain ⟨h2, h3⟩ := copyL_ok h h1.1
    exact ⟨h2, h1.2.trans h3⟩
theorem applyIn_ok {b : Box} {e : Edit} (h : boxOk b = true) : boxOk (applyIn b e).1 = true ∧ Grow b (applyIn b e).1 := by
  unfold applyIn
  split
  · exact addMail_ok h
  split
  · exact setFlags_ok h
  split
  · exact expunge_ok h
  · exact forget_ok h
structure StoreP (s : Store) : Prop where
  box : ∀ b ∈ s.Boxes, boxOk b = true ∧ b.Valid < s.Valid
  inc : Inc s.Boxes
  len : 1 ≤ s.Boxes.length ∧ s.Boxes.length ≤ 4
  val : 2 ≤ s.Valid ∧ s.Valid ≤ 9999
theorem store_p {s : Store} : storeOk s = true ↔ StoreP s := by
  constructor
  · intro h
    obtain ⟨h1, h2, h3⟩ := storeOk_inc h
    have h4 := storeOk_valid h
    refine ⟨fun b hb => ?_, h1, ⟨h2, h3⟩, h4⟩
    obtain ⟨i, hi, rfl⟩ := List.mem_iff_getElem.1 hb
    unfold storeOk at h
    rw [Bool.and_eq_true] at h
    have h5 := allN_get h.1 hi
    simp only [storeAtOk, Bool.and_eq_true, decide_eq_true_eq, List.getD_eq_getElem?_getD, List.getElem?_eq_getElem hi, Option.getD_some] at h5
    exact ⟨h5.1.1, h5.2⟩
  · intro h
    unfold storeOk
    rw [Bool.and_eq_true, Bool.and_eq_true]
    refine ⟨allN_all (Nat.le_refl _) fun i hi => ?_, ?_, ?_⟩
    · have hb := h.box _ (List.getElem_mem hi)
      have hg : s.Boxes.getD i default = s.Boxes[i] := by rw [List.getD_eq_getElem?_getD, List.getElem?_eq_getElem hi]; rfl
      simp only [storeAtOk, Bool.and_eq_true, decide_eq_true_eq, Bool.or_eq_true, hg]
      refine ⟨⟨hb.1, ?_⟩, hb.2⟩
      by_cases h0 : i = 0
      · left; simp [h0]
      · right
        have hg0 : s.Boxes.getD (i - 1) default = s.Boxes[i - 1] := by rw [List.getD_eq_getElem?_getD, List.getElem?_eq_getElem (by omega)]; rfl
        rw [hg0]
        exact h.inc.lt (i := i - 1) (j := i) (by omega) hi
    · have := h.len
      simp only [within, Bool.and_eq_true, decide_eq_true_eq]; omega
    · have := h.val
      simp only [within, Bool.and_eq_true, decide_eq_true_eq]; omega
theorem Inc.pair {l : List Box} (h : Inc l) : l.Pairwise fun a b => Op.bytesLess a.Name b.Name = true := List.pairwise_iff_getElem.2 fun i j hi hj hij => h.lt hij hj
theorem inc_of {l : List Box} (h : l.Pairwise fun a b => Op.bytesLess a.Name b.Name = true) : Inc l := fun i hi => pair_at h (by omega) hi
theorem Inc.one {l : List Box} (h : Inc l) {a b : Box} (ha : a ∈ l) (hb : b ∈ l) (he : a.Name = b.Name) : a = b := by
  obtain ⟨i, hi, rfl⟩ := List.mem_iff_getElem.1 ha
  obtain ⟨j, hj, rfl⟩ := List.mem_iff_getElem.1 hb
  rcases Nat.lt_trichotomy i j with h1 | h1 | h1
  · have := h.lt h1 hj; rw [he, bl_irrefl] at this; cases this
  · subst h1; rfl
  · have := h.lt h1 hi; rw [he, bl_irrefl] at this; cases this
theorem get_in {s : Store} (h : Inc s.Boxes) {b : Box} (hb : b ∈ s.Boxes) : boxHas s b.Name = true ∧ boxGet s b.Name = b := by
  have h0 : 0 ≤ nameIx s.Boxes b.Name := by
    cases Classical.em (0 ≤ nameIx s.Boxes b.Name) with
    | inl h => exact h
    | inr hn =>
      obtain ⟨i, hi, rfl⟩ := List.mem_iff_getElem.1 hb
      have := no_name hn i hi
      simp at this
  obtain ⟨h1, h2, h3⟩ := nameIx_at h0
  refine ⟨by rw [boxHas, decide_eq_true h0], ?_⟩
  have hg : s.Boxes.getD (nameIx s.Boxes b.Name).toNat boxZero = s.Boxes[(nameIx s.Boxes b.Name).toNat] := by rw [List.getD_eq_getElem?_getD, List.getElem?_eq_getElem h1]; rfl
  rw [boxGet, if_pos h0, hg]
  exact h.one (List.getElem_mem h1) hb (eq_of_beq h3)
theorem has_in {s : Store} {name : List UInt8} (h : boxHas s name = true) : boxGet s name ∈ s.Boxes ∧ (boxGet s name).Name = name := by
  have h0 : 0 ≤ nameIx s.Boxes name := of_decide_eq_true h
  obtain ⟨h1, h2, h3⟩ := nameIx_at h0
  have hg : s.Boxes.getD (nameIx s.Boxes name).toNat boxZero = s.Boxes[(nameIx s.Boxes name).toNat] := by rw [List.getD_eq_getElem?_getD, List.getElem?_eq_getElem h1]; rfl
  rw [boxGet, if_pos h0, hg]
  exact ⟨List.getElem_mem h1, eq_of_beq h3⟩
structure SGrow (s n : Store) : Prop where
  ok : StoreP n
  val : s.Valid ≤ n.Valid
  box : ∀ b ∈ s.Boxes, ∃ c ∈ n.Boxes, Grow b c
theorem SGrow.refl {s : Store} (h : StoreP s) : SGrow s s := ⟨h, Int.le_refl _, fun b hb => ⟨b, hb, .refl b⟩⟩
theorem SGrow.trans {a b c : Store} (h : SGrow a b) (k : SGrow b c) : SGrow a c := ⟨k.ok, Int.le_trans h.val k.val, fun x hx => by
  obtain ⟨y, hy, g⟩ := h.box x hx
  obtain ⟨z, hz, g2⟩ := k.box y hy
  exact ⟨z, hz, g.trans g2⟩⟩
theorem put_ok {s : Store} {c b : Box} (h : StoreP s) (hb : b ∈ s.Boxes) (hc : boxOk c = true) (hg : Grow b c) : SGrow s (putBox s c) := by
  obtain ⟨h1, h2⟩ := get_in h.inc hb
  have h0 : 0 ≤ nameIx s.Boxes c.Name := by rw [hg.name]; exact of_decide_eq_true h1
  obtain ⟨hk, _, hn⟩ := nameIx_at h0
  rw [putBox, if_pos h0]
  generalize (nameIx s.Boxes c.Name).toNat = k at hk hn
  have hbk : s.Boxes[k] = b := h.inc.one (List.getElem_mem hk) hb ((eq_of_beq hn).trans hg.name)
  have hmem : ∀ x ∈ s.Boxes.set k c, x = c ∨ x ∈ s.Boxes := fun x hx => (List.mem_or_eq_of_mem_set hx).symm
  have hlen : (s.Boxes.set k c).length = s.Boxes.length := List.length_set
  refine ⟨⟨fun x hx => ?_, ?_, by show 1 ≤ (s.Boxes.set k c).length ∧ _; rw [hlen]; exact h.len, h.val⟩, Int.le_refl _, fun x hx => ?_⟩
  · rcases hmem x hx with rfl | hx
    · exact ⟨hc, by rw [hg.valid]; exact (h.box b hb).2⟩
    · exact h.box x hx
  · intro i hi
    have hi' : i + 1 < s.Boxes.length := by rw [← hlen]; exact hi
    have nm : ∀ j (hj : j < (s.Boxes.set k c).length), (s.Boxes.set k c)[j].Name = (s.Boxes[j]'(by rw [← hlen]; exact hj)).Name := by
      intro j hj
      rw [List.getElem_set]
      split
      · rename_i e; subst e; rw [hbk, hg.name]
      · rfl
    rw [nm, nm]
    exact h.inc i hi'
  · by_cases e : x.Name = b.Name
    · have : x = b := h.inc.one hx hb e
      subst this
      exact ⟨c, List.mem_set hk c, hg⟩
    · obtain ⟨i, hi, rfl⟩ := List.mem_iff_getElem.1 hx
      have hne : k ≠ i := fun e2 => e (by subst e2; rw [hbk])
      refine ⟨s.Boxes[i], ?_, .refl _⟩
      rw [List.mem_iff_getElem]
      exact ⟨i, by rw [hlen]; exact hi, by rw [List.getElem_set, if_neg hne]⟩
theorem copy_ok {s : Store} {a b : List UInt8} {set : List Range} (h : StoreP s) : SGrow s (copyMails s a set b) := by
  unfold copyMails
  split
  · split
    · rename_i hh
      rw [Bool.and_eq_true] at hh
      obtain ⟨g1, _⟩ := has_in hh.2
      split
      · exact .refl h
      · rename_i t ht
        obtain ⟨k1, k2⟩ := copyL_ok ht (h.box _ g1).1
        exact put_ok h g1 k1 k2
    · exact .refl h
  · exact .refl h
theorem move_ok {s : Store} {a b : List UInt8} {set : List Range} (h : StoreP s) (ha : boxHas s a = true) : SGrow s (moveMails s a set b) := by
  unfold moveMails
  split
  · split
    · split
      · exact .refl h
      · have hc := copy_ok (a := a) (b := b) (set := set) h
        obtain ⟨g1, g2⟩ := has_in ha
        obtain ⟨x, hx, gx⟩ := hc.box _ g1
        have hn : x.Name = a := gx.name.trans g2
        obtain ⟨k1, k2⟩ := get_in hc.ok.inc hx
        rw [hn] at k1 k2
        obtain ⟨m1, _⟩ := has_in k1
        have f1 := setFlags_ok (s := set) (how := 2) (bits := 8) (since := -1) (hc.ok.box _ m1).1
        have f2 := expunge_ok (s := set) f1.1
        exact hc.trans (put_ok hc.ok m1 f2.1 (f1.2.trans f2.2))
    · exact .refl h
  · exact .refl h
theorem fresh_ok {name : List UInt8} {v : Int} (hn : boxName name = true) (h1 : 1 ≤ v) (h2 : v ≤ 9999) : boxNew name v = boxFresh name v ∧ boxOk (boxFresh name v) = true := by
  have : boxOk (boxFresh name v) = true := by
    have a : within v 1 9999 = true := by simp only [within, Bool.and_eq_true, decide_eq_true_eq]; exact ⟨h1, h2⟩
    have e : boxOk (boxFresh name v) = (boxName name && (within v 1 9999 && within 1 1 9999 && within 1 1 100000 && within 0 0 1) && (allN 0 (mailAtOk (boxFresh name v)) && decide ((0 : Nat) ≤ 30)) && (allN 0 (tombAtOk (boxFresh name v)) && decide ((0 : Nat) ≤ 40))) := rfl
    rw [e, hn, a]; rfl
  exact ⟨by rw [boxNew, if_pos this], this⟩
theorem make_ok {s : Store} {name : List UInt8} (h : StoreP s) : SGrow s (makeBox s name).1 := by
  unfold makeBox
  split
  · exact .refl h
  split
  · exact .refl h
  split
  · exact .refl h
  rename_i h1 h2 h3
  rw [not_or, Bool.not_eq_false, Bool.not_eq_false] at h1
  have hf : s.Boxes.length < 4 ∧ s.Valid < 9999 := by
    simp only [fullB, Bool.or_eq_true, decide_eq_true_eq] at h3; omega
  have hv := h.val
  obtain ⟨e, hk⟩ := fresh_ok (v := s.Valid) h1.2 (by omega) (by omega)
  obtain ⟨hp, hlt, hge⟩ := pos_ex h.inc name
  have hno := no_name h2
  generalize posIx s.Boxes name = k at hp hlt hge
  rw [e]
  have hmem : ∀ x, x ∈ s.Boxes.take k ++ [boxFresh name s.Valid] ++ s.Boxes.drop k ↔ x ∈ s.Boxes ∨ x = boxFresh name s.Valid := by
    intro x
    conv => rhs; rw [← List.take_append_drop k s.Boxes]
    simp only [List.mem_append, List.mem_singleton]
    constructor
    · rintro ((h | h) | h)
      · exact .inl (.inl h)
      · exact .inr h
      · exact .inl (.inr h)
    · rintro ((h | h) | h)
      · exact .inl (.inl h)
      · exact .inr h
      · exact .inl (.inr h)
  refine ⟨⟨fun x hx => ?_, ?_, ?_, by show 2 ≤ s.Valid + 1 ∧ s.Valid + 1 ≤ 9999; omega⟩, by show s.Valid ≤ s.Valid + 1; omega, fun b hb => ⟨b, (hmem b).2 (.inl hb), .refl b⟩⟩
  · rcases (hmem x).1 hx with hx | rfl
    · have := h.box x hx
      exact ⟨this.1, by show x.Valid < s.Valid + 1; omega⟩
    · exact ⟨hk, by show s.Valid < s.Valid + 1; omega⟩
  · apply inc_of
    have hp0 := h.inc.pair
    rw [← List.take_append_drop k s.Boxes, List.pairwise_append] at hp0
    obtain ⟨p1, p2, p3⟩ := hp0
    have lo : ∀ a ∈ s.Boxes.take k, Op.bytesLess a.Name name = true := fun a ha => by
      obtain ⟨j, hj, hjk, rfl⟩ := mem_take_at ha
      exact hlt j hj hjk
    have hi : ∀ a ∈ s.Boxes.drop k, Op.bytesLess name a.Name = true := fun a ha => by
      obtain ⟨j, hj, hjk, rfl⟩ := mem_drop_at ha
      have h5 := hge (by omega)
      have h6 := hno k (by omega)
      have h7 := bl_total h5 h6
      rcases Nat.lt_or_ge k j with h8 | h8
      · exact bl_trans h7 (h.inc.lt h8 hj)
      · have : j = k := by omega
        subst this; exact h7
    rw [List.append_assoc, List.pairwise_append]
    refine ⟨p1, ?_, ?_⟩
    · rw [List.singleton_append, List.pairwise_cons]
      exact ⟨hi, p2⟩
    · intro a ha b hb
      rw [List.singleton_append, List.mem_cons] at hb
      rcases hb with rfl | hb
      · exact lo a ha
      · exact p3 a ha b hb
  · show 1 ≤ (s.Boxes.take k ++ [boxFresh name s.Valid] ++ s.Boxes.drop k).length ∧ _
    simp only [List.length_append, List.length_take, List.length_drop, List.length_singleton]
    omega
theorem drop_ok {s : Store} {name : List UInt8} (h : StoreP s) : StoreP (dropBox s name).1 ∧ s.Valid ≤ (dropBox s name).1.Valid ∧ ∀ b ∈ s.Boxes, b ∈ (dropBox s name).1.Boxes ∨ (b.Name = name ∧ (dropBox s name).2 = 0 ∧ boxHas (dropBox s name).1 b.Name = false) := by
  unfold dropBox
  split
  · exact ⟨h, Int.le_refl _, fun b hb => .inl hb⟩
  split
  · exact ⟨h, Int.le_refl _, fun b hb => .inl hb⟩
  split
  · exact ⟨h, Int.le_refl _, fun b hb => .inl hb⟩
  rename_i h1 h2 h3
  obtain ⟨hk, _, hn⟩ := nameIx_at (show 0 ≤ nameIx s.Boxes name by omega)
  generalize (nameIx s.Boxes name).toNat = k at hk hn
  have hsub : (s.Boxes.take k ++ s.Boxes.drop (k + 1)).Sublist s.Boxes := by
    conv => rhs; rw [← List.take_append_drop k s.Boxes, List.drop_eq_getElem_cons hk]
    exact List.Sublist.append (List.Sublist.refl _) (List.Sublist.cons _ (List.Sublist.refl _))
  have hP : StoreP { s with Boxes := s.Boxes.take k ++ s.Boxes.drop (k + 1) } := by
    refine ⟨fun b hb => h.box b (hsub.subset hb), inc_of (h.inc.pair.sublist hsub), ?_, h.val⟩
    have := h.len
    show 1 ≤ (s.Boxes.take k ++ s.Boxes.drop (k + 1)).length ∧ _
    simp only [List.length_append, List.length_take, List.length_drop]
    omega
  refine ⟨hP, Int.le_refl _, fun b hb => ?_⟩
  obtain ⟨i, hi, rfl⟩ := List.mem_iff_getElem.1 hb
  rcases Nat.lt_trichotomy i k with e | e | e
  · refine .inl (List.mem_append.2 (.inl ?_))
    rw [List.mem_take_iff_getElem]; exact ⟨i, by omega, rfl⟩
  · subst e
    refine .inr ⟨eq_of_beq hn, rfl, ?_⟩
    cases hh : boxHas ({ s with Boxes := s.Boxes.take i ++ s.Boxes.drop (i + 1) } : Store) s.Boxes[i].Name with
    | false => rfl
    | true =>
      obtain ⟨g1, g2⟩ := has_in hh
      rcases List.mem_append.1 g1 with g | g
      · obtain ⟨j, hj, hji, e⟩ := mem_take_at g
        rw [e] at g2
        have := h.inc.lt hji hi
        rw [g2, bl_irrefl] at this; cases this
      · obtain ⟨j, hj, hji, e⟩ := mem_drop_at g
        rw [e] at g2
        have := h.inc.lt (i := i) (j := j) (by omega) hj
        rw [g2, bl_irrefl] at this; cases this
  · refine .inl (List.mem_append.2 (.inr ?_))
    rw [List.mem_drop_iff_getElem]; exact ⟨i - (k + 1), by omega, by congr 1; omega⟩
theorem apply_ok {s : Store} {e : Edit} (h : StoreP s) : StoreP (applyS s e).1 ∧ s.Valid ≤ (applyS s e).1.Valid ∧
    ∀ b ∈ s.Boxes, (∃ c ∈ (applyS s e).1.Boxes, Grow b c) ∨ (e.Kind = 2 ∧ (applyS s e).2 = 0 ∧ boxHas (applyS s e).1 b.Name = false) := by
  have key : ∀ {n : Store} {c : Int}, SGrow s n → StoreP n ∧ s.Valid ≤ n.Valid ∧ ∀ b ∈ s.Boxes, (∃ d ∈ n.Boxes, Grow b d) ∨ (e.Kind = 2 ∧ c = 0 ∧ boxHas n b.Name = false) := fun g => ⟨g.ok, g.val, fun b hb => .inl (g.box b hb)⟩
  unfold applyS
  split
  · exact key (.refl h)
  split
  · exact key (make_ok h)
  split
  · exact key (.refl h)
  rename_i hh
  have hh' : boxHas s e.Box = true := by simpa using hh
  split
  · rename_i hk
    obtain ⟨d1, d2, d3⟩ := drop_ok (name := e.Box) h
    refine ⟨d1, d2, fun b hb => ?_⟩
    rcases d3 b hb with g | ⟨g1, g2, g3⟩
    · exact .inl ⟨b, g, .refl b⟩
    · exact .inr ⟨hk, g2, g3⟩
  split
  · exact key (copy_ok h)
  split
  · exact key (move_ok h hh')
  · obtain ⟨g1, g2⟩ := has_in hh'
    have f := applyIn_ok (e := e) (h.box _ g1).1
    unfold applyPut
    split
    · exact key (put_ok h g1 f.1 f.2)
    · exact key (.refl h)
end Go.Proofs.YtjkhhplhjbmhjaaGreat.L

namespace Go.Proofs.YtjkhhplhjbmhjaaGreat.L
open Go Go.VM
set_option maxRecDepth 100000
set_option maxHeartbeats 4000000
set_option linter.unusedSimpArgs false
set_option linter.unusedVariables false
def andI (a b : Int) : Int := IntKind.i64.wrap (BitVec.ofInt IntKind.i64.bits a &&& BitVec.ofInt IntKind.i64.bits b).toNat
def xorI (a b : Int) : Int := IntKind.i64.wrap (BitVec.ofInt IntKind.i64.bits a ^^^ BitVec.ofInt IntKind.i64.bits b).toNat
theorem andI_255 (a : Int) : 0 ≤ andI a 255 ∧ andI a 255 ≤ 255 := by
  have h : (BitVec.ofInt 64 a &&& BitVec.ofInt 64 255).toNat ≤ 255 := by
    rw [BitVec.toNat_and]; exact Nat.and_le_right
  have e : andI a 255 = ((BitVec.ofInt 64 a &&& BitVec.ofInt 64 255).toNat : Int) := by
    show IntKind.i64.wrap (((BitVec.ofInt 64 a &&& BitVec.ofInt 64 255).toNat : Nat) : Int) = _
    exact wrap64 (by omega) (by omega)
  rw [e]; omega
def newStep (h c : Int) : Int := andI (IntKind.i64.wrap (IntKind.i64.wrap (IntKind.i64.wrap (h * 131) + IntKind.i64.wrap c) + 7)) 1073741823
def newH : List Int → Int → Int
  | [], h => h
  | c :: l, h => newH l (newStep h c)
def cur0 (code : List Int) : Cur := ⟨code, 0, newH (code.take 4000) (IntKind.i64.wrap (35201 + (code.length : Int)))⟩
open Classical in
noncomputable def spNew : VM.Spec := { modes := [.rd], run := fun | [.lst 1 code'] => (decL dU8 code').bind fun code => if code.length ≤ 4194304 then some (.rptr (Cur.enc (cur0 code)), []) else none | _ => none, need := [] }
attribute [go_sem] spNew
theorem spNew_in {ins : List V} {r : V} {outs : List V} (h : spNew.run ins = some (r, outs)) : ∃ (code : (List Int)), ins = [.lst 1 ((code).map eU8)] ∧ (code.length ≤ 4194304) ∧ .rptr (Cur.enc (cur0 code)) = r ∧ outs = [] := by
  unfold spNew at h
  simp only at h
  split at h
  · rename_i code'
    simp only [Option.bind_eq_some_iff] at h
    obtain ⟨code, h_code, h⟩ := h
    split at h
    case isFalse => cases h
    rename_i hc
    simp only [Option.some.injEq, Prod.mk.injEq] at h
    obtain ⟨h1, h2⟩ := h
    have h_code := decL_some (fun _ _ h => dU8_some h) h_code
    subst h_code
    exact ⟨code, rfl, hc, h1, h2.symm⟩
  · cases h
def T_spec_l01New : Hints := ⟨lk [], lk [(3, [0, 3, 4])], lk [(0, [0]), (1, [0, 3]), (2, [0, 3, 4]), (3, [0, 3, 4, 15]), (5, [0, 3, 4]), (4, [0, 3, 4]), (6, [2])], lk []⟩
noncomputable def Phi_spec_l01New : Tab := lk []
attribute [go_sem] T_spec_l01New Phi_spec_l01New
theorem phi_spec_l01New : ∀ f sp, Phi_spec_l01New f = some sp → FnOk Tryz.prog f sp ∧ ∀ n ∈ sp.need, n ∈ ([] : List String) := phi_nil
theorem ok_spec_l01New : FnOk Tryz.prog 22 spNew := by
  refine fn_ok (Φ := Phi_spec_l01New) (T := T_spec_l01New) phi_spec_l01New mixed Tryz.func22 rfl rfl rfl (by decide) ?_
  intro ins r outs hr hl
  clear hl
  have hs := spNew_in hr
  clear hr
  obtain ⟨code, rfl, hc, hr, rfl⟩ := hs
  simp only [spNew, Tryz.f22, Go.VM.initS]
  simp only [go_sem]
  repeat' ((first | apply qa | apply qb | apply qc | apply qd | apply qe | apply qf | apply qg | apply qh | apply qi | apply qj | apply qk) <;> intro hp <;> simp only [hp, go_sem])
  refine loop_go (fun p : Int × Nat => [(3, .int .i64 p.1), (4, .int .i64 (p.2 : Int))]) (fun _ => []) (fun p => 4000 - p.2) (fun p => p.2 ≤ 4000 ∧ p.2 ≤ code.length ∧ newH ((code.take 4000).drop p.2) p.1 = (cur0 code).h) (IntKind.i64.wrap (35201 + (code.length : Int)), 0) ⟨Nat.zero_le _, Nat.zero_le _, rfl⟩ rfl rfl ?_
  rintro ⟨h, i⟩ ⟨hi, hl, he⟩ ih
  simp only at hi hl he ih
  rcases Nat.lt_or_ge i code.length with g | g
  · have g1 : (i : Int) < code.length := by omega
    rcases Nat.lt_or_ge i 4000 with k | k
    · have g2 : (i : Int) < 4000 := by omega
      have g3 : (0 : Int) ≤ i := by omega
      have g4 : code[i]? = some code[i] := List.getElem?_eq_getElem g
      have g5 := wrap_succ g (by omega)
      have hlt : i < (code.take 4000).length := by rw [List.length_take]; omega
      rw [List.drop_eq_getElem_cons hlt, newH, List.getElem_take] at he
      have ih' := ih (newStep h code[i], i + 1) ⟨k, g, he⟩ (by simp only; omega)
      simp only at ih'
      simp only [g1, g2, g3, g4, g5, go_sem]
      repeat' ((first | apply qa | apply qb | apply qc | apply qd | apply qe | apply qf | apply qg | apply qh | apply qi | apply qj | apply qk) <;> intro hp <;> simp only [hp, g1, g2, g3, g4, g5, go_sem])
      exact ih'
    · have g2 : ¬ (i : Int) < 4000 := by omega
      have e : (code.take 4000).drop i = [] := List.drop_of_length_le (by rw [List.length_take]; omega)
      rw [e, newH] at he
      simp only [g1, g2, go_sem]
      repeat' ((first | apply qa | apply qb | apply qc | apply qd | apply qe | apply qf | apply qg | apply qh | apply qi | apply qj | apply qk) <;> intro hp <;> simp only [hp, g1, g2, go_sem])
      simp only [fin_mk, finV, resL, resV1, resIn, endA, listIn, Option.some_or, Option.none_or, oneOrTup, go_sem]
      rw [← hr]
      simp only [cur0, he]; rfl
  · have g1 : ¬ (i : Int) < code.length := by omega
    have e : (code.take 4000).drop i = [] := List.drop_of_length_le (by rw [List.length_take]; omega)
    rw [e, newH] at he
    simp only [g1, go_sem]
    repeat' ((first | apply qa | apply qb | apply qc | apply qd | apply qe | apply qf | apply qg | apply qh | apply qi | apply qj | apply qk) <;> intro hp <;> simp only [hp, g1, go_sem])
    simp only [fin_mk, finV, resL, resV1, resIn, endA, listIn, Option.some_or, Option.none_or, oneOrTup, go_sem]
    rw [← hr]
    simp only [cur0, he]; rfl
def curI (c : Cur) : Prop := 0 ≤ c.i ∧ c.i ≤ c.b.length ∧ c.b.length ≤ 4194304
def bytH (h : Int) : Int := IntKind.i64.wrap (IntKind.i64.wrap (h * 6364136223846793005) + 1442695040888963407)
def bytX (h : Int) : Int := andI (xorI (Int.fdiv h (2 ^ 33)) (Int.fdiv h (2 ^ 45))) 255
def bytO (c : Cur) : Int × Cur := if c.i < c.b.length then (andI (IntKind.i64.wrap (bytX (bytH c.h) + IntKind.i64.wrap (c.b.getD c.i.toNat 0))) 255, ⟨c.b, c.i + 1, bytH c.h⟩) else (bytX (bytH c.h), ⟨c.b, c.i, bytH c.h⟩)
theorem bytO_in {c : Cur} (h : curI c) : curI (bytO c).2 ∧ 0 ≤ (bytO c).1 ∧ (bytO c).1 ≤ 255 := by
  obtain ⟨h0, h1, h2⟩ := h
  unfold bytO
  split
  · exact ⟨⟨by simp only; omega, by simp only; omega, h2⟩, andI_255 _⟩
  · exact ⟨⟨h0, h1, h2⟩, andI_255 _⟩
open Classical in
noncomputable def spByte : VM.Spec := { modes := [.ptr], run := fun | [.rptr (c')] => (Cur.dec c').bind fun c => if curI c then some (.int .i64 ((bytO c).1), [.rptr (Cur.enc ((bytO c).2))]) else none | _ => none, need := [] }
attribute [go_sem] spByte
theorem spByte_in {ins : List V} {r : V} {outs : List V} (h : spByte.run ins = some (r, outs)) : ∃ (c : Cur), ins = [.rptr (Cur.enc c)] ∧ (curI c) ∧ .int .i64 ((bytO c).1) = r ∧ outs = [.rptr (Cur.enc ((bytO c).2))] := by
  unfold spByte at h
  simp only at h
  split at h
  · rename_i c'
    simp only [Option.bind_eq_some_iff] at h
    obtain ⟨c, h_c, h⟩ := h
    split at h
    case isFalse => cases h
    rename_i hc
    simp only [Option.some.injEq, Prod.mk.injEq] at h
    obtain ⟨h1, h2⟩ := h
    have h_c := Cur.dec_some h_c
    subst h_c
    exact ⟨c, rfl, hc, h1, h2.symm⟩
  · cases h
def T_spec_l01Byte : Hints := ⟨lk [(2, []), (3, []), (4, [])], lk [], lk [(0, [0]), (1, [0]), (2, [0, 3]), (3, [0, 3, 34]), (4, [0, 3]), (5, [3]), (6, [2])], lk []⟩
noncomputable def Phi_spec_l01Byte : Tab := lk []
attribute [go_sem] T_spec_l01Byte Phi_spec_l01Byte
theorem phi_spec_l01Byte : ∀ f sp, Phi_spec_l01Byte f = some sp → FnOk Tryz.prog f sp ∧ ∀ n ∈ sp.need, n ∈ ([] : List String) := phi_nil
theorem ok_spec_l01Byte : FnOk Tryz.prog 108 spByte := by
  refine fn_ok (Φ := Phi_spec_l01Byte) (T := T_spec_l01Byte) phi_spec_l01Byte mixed Tryz.func108 rfl rfl rfl (by decide) ?_
  intro ins r outs hr hl
  clear hl
  have hs := spByte_in hr
  clear hr
  obtain ⟨c, rfl, hc, hr, rfl⟩ := hs
  simp only [spByte, Tryz.f108, Go.VM.initS]
  obtain ⟨b, i, h⟩ := c
  obtain ⟨h0, h1, h2⟩ := hc
  simp only at h0 h1 h2
  obtain ⟨k, rfl⟩ : ∃ k : Nat, i = k := ⟨i.toNat, by omega⟩
  have hx : IntKind.i64.wrap (BitVec.ofInt IntKind.i64.bits (IntKind.i64.wrap (BitVec.ofInt IntKind.i64.bits (Int.fdiv (bytH h) (2 ^ 33)) ^^^ BitVec.ofInt IntKind.i64.bits (Int.fdiv (bytH h) (2 ^ 45))).toNat) &&& BitVec.ofInt IntKind.i64.bits 255).toNat = bytX (bytH h) := rfl
  by_cases g1 : (k : Int) < b.length
  · have g2 : k < b.length := by omega
    have e : bytO ⟨b, k, h⟩ = (andI (IntKind.i64.wrap (bytX (bytH h) + IntKind.i64.wrap b[k])) 255, ⟨b, ((k + 1 : Nat) : Int), bytH h⟩) := by
      rw [bytO, if_pos g1]
      simp only [Int.toNat_natCast, getD_lt g2]; rfl
    rw [e] at hr
    have g3 : b[k]? = some b[k] := List.getElem?_eq_getElem g2
    have g4 := wrap_succ g2 (by omega)
    simp only [g1, g3, g4, h0, go_sem]
    repeat' ((first | ((first | apply qa | apply qb | apply qc | apply qd | apply qe | apply qf | apply qg | apply qh | apply qi | apply qj | apply qk) <;> intro hp) | ((first | refine ql rfl rfl (by decide +kernel) ?_ | refine qm _ rfl rfl (by decide +kernel) ?_) <;> have hp := True.intro)) <;> simp only [hp, g1, g3, g4, h0, go_sem])
    simp only [fin_mk, finV, resL, resV1, resIn, endA, listIn, Option.some_or, Option.none_or, oneOrTup, go_sem]
    rw [← hr]
    simp only [e]; rfl
  · have e : bytO ⟨b, k, h⟩ = (bytX (bytH h), ⟨b, k, bytH h⟩) := by rw [bytO, if_neg g1]
    rw [e] at hr
    simp only [g1, go_sem]
    repeat' ((first | ((first | apply qa | apply qb | apply qc | apply qd | apply qe | apply qf | apply qg | apply qh | apply qi | apply qj | apply qk) <;> intro hp) | ((first | refine ql rfl rfl (by decide +kernel) ?_ | refine qm _ rfl rfl (by decide +kernel) ?_) <;> have hp := True.intro)) <;> simp only [hp, g1, go_sem])
    simp only [fin_mk, finV, resL, resV1, resIn, endA, listIn, Option.some_or, Option.none_or, oneOrTup, go_sem]
    rw [← hr]
    simp only [e]; rfl
def belO (c : Cur) (n : Int) : Int × Cur :=
  if n ≤ 0 then (0, c) else if n ≤ 256 then ((bytO c).1.tmod n, (bytO c).2) else
  (((bytO c).1 * 16777216 + (bytO (bytO c).2).1 * 65536 + (bytO (bytO (bytO c).2).2).1 * 256 + (bytO (bytO (bytO (bytO c).2).2).2).1).tmod n, (bytO (bytO (bytO (bytO c).2).2).2).2)
theorem belO_in {c : Cur} {n : Int} (h : curI c) : curI (belO c n).2 ∧ 0 ≤ (belO c n).1 ∧ (0 < n → (belO c n).1 < n) := by
  have h1 := bytO_in h
  have h2 := bytO_in h1.1
  have h3 := bytO_in h2.1
  have h4 := bytO_in h3.1
  unfold belO
  split
  · exact ⟨h, Int.le_refl 0, fun e => by omega⟩
  · split
    · exact ⟨h1.1, Int.tmod_nonneg _ h1.2.1, fun e => Int.tmod_lt_of_pos _ e⟩
    · exact ⟨h4.1, Int.tmod_nonneg _ (by omega), fun e => Int.tmod_lt_of_pos _ e⟩
open Classical in
noncomputable def spBelow : VM.Spec := { modes := [.ptr, .rd], run := fun | [.rptr (c'), .int .i64 n] => (Cur.dec c').bind fun c => if curI c then some (.int .i64 ((belO c n).1), [.rptr (Cur.enc ((belO c n).2))]) else none | _ => none, need := [] }
attribute [go_sem] spBelow
theorem spBelow_in {ins : List V} {r : V} {outs : List V} (h : spBelow.run ins = some (r, outs)) : ∃ (c : Cur) (n : Int), ins = [.rptr (Cur.enc c), .int .i64 n] ∧ (curI c) ∧ .int .i64 ((belO c n).1) = r ∧ outs = [.rptr (Cur.enc ((belO c n).2))] := by
  unfold spBelow at h
  simp only at h
  split at h
  · rename_i c' n
    simp only [Option.bind_eq_some_iff] at h
    obtain ⟨c, h_c, h⟩ := h
    split at h
    case isFalse => cases h
    rename_i hc
    simp only [Option.some.injEq, Prod.mk.injEq] at h
    obtain ⟨h1, h2⟩ := h
    have h_c := Cur.dec_some h_c
    subst h_c
    exact ⟨c, n, rfl, hc, h1, h2.symm⟩
  · cases h
def T_spec_l01Below : Hints := ⟨lk [], lk [], lk [(0, [0, 1]), (1, [0, 1, 10]), (2, [4]), (3, [0, 1, 12]), (4, [4]), (5, [0, 1, 5]), (6, [0, 1, 5, 6]), (7, [0, 1, 5, 6, 7]), (8, [1, 5, 6, 7, 8]), (9, [4])], lk []⟩
noncomputable def Phi_spec_l01Below : Tab := lk [(108, spByte)]
attribute [go_sem] T_spec_l01Below Phi_spec_l01Below
theorem phi_spec_l01Below : ∀ f sp, Phi_spec_l01Below f = some sp → FnOk Tryz.prog f sp ∧ ∀ n ∈ sp.need, n ∈ ([] : List String) := phi_cons ok_spec_l01Byte (n0 rfl) (phi_nil)
theorem ok_spec_l01Below : FnOk Tryz.prog 55 spBelow := by
  refine fn_ok (Φ := Phi_spec_l01Below) (T := T_spec_l01Below) phi_spec_l01Below mixed Tryz.func55 rfl rfl rfl (by decide) ?_
  intro ins r outs hr hl
  clear hl
  have hs := spBelow_in hr
  clear hr
  obtain ⟨c, n, rfl, hc, hr, rfl⟩ := hs
  simp only [spBelow, Tryz.f55, Go.VM.initS]
  by_cases g1 : n ≤ 0
  · have e : belO c n = (0, c) := by rw [belO, if_pos g1]
    rw [e] at hr
    simp only [g1, go_sem]
    repeat' ((first | apply qa | apply qb | apply qc | apply qd | apply qe | apply qf | apply qg | apply qh | apply qi | apply qj | apply qk) <;> intro hp <;> simp only [hp, g1, go_sem])
    simp only [fin_mk, finV, resL, resV1, resIn, endA, listIn, Option.some_or, Option.none_or, oneOrTup, go_sem]
    rw [← hr]
    simp only [e]
  · by_cases g2 : n ≤ 256
    · have e : belO c n = ((bytO c).1.tmod n, (bytO c).2) := by rw [belO, if_neg g1, if_pos g2]
      rw [e] at hr
      have g3 : ¬ n = 0 := by omega
      simp only [hc, g1, g2, g3, go_sem]
      repeat' ((first | apply qa | apply qb | apply qc | apply qd | apply qe | apply qf | apply qg | apply qh | apply qi | apply qj | apply qk) <;> intro hp <;> simp only [hp, hc, g1, g2, g3, go_sem])
      simp only [fin_mk, finV, resL, resV1, resIn, endA, listIn, Option.some_or, Option.none_or, oneOrTup, go_sem]
      rw [← hr]
      simp only [e]
    · have e : belO c n = (((bytO c).1 * 16777216 + (bytO (bytO c).2).1 * 65536 + (bytO (bytO (bytO c).2).2).1 * 256 + (bytO (bytO (bytO (bytO c).2).2).2).1).tmod n, (bytO (bytO (bytO (bytO c).2).2).2).2) := by rw [belO, if_neg g1, if_neg g2]
      rw [e] at hr
      have h1 := bytO_in hc
      obtain ⟨⟨v1, c1⟩, e1⟩ : ∃ x, bytO c = x := ⟨_, rfl⟩
      rw [e1] at h1 hr e
      simp only at h1 hr e
      have h2 := bytO_in h1.1
      obtain ⟨⟨v2, c2⟩, e2⟩ : ∃ x, bytO c1 = x := ⟨_, rfl⟩
      rw [e2] at h2 hr e
      simp only at h2 hr e
      have h3 := bytO_in h2.1
      obtain ⟨⟨v3, c3⟩, e3⟩ : ∃ x, bytO c2 = x := ⟨_, rfl⟩
      rw [e3] at h3 hr e
      simp only at h3 hr e
      have h4 := bytO_in h3.1
      obtain ⟨⟨v4, c4⟩, e4⟩ : ∃ x, bytO c3 = x := ⟨_, rfl⟩
      rw [e4] at h4 hr e
      simp only at h4 hr e
      have g3 : ¬ n = 0 := by omega
      have w1 : IntKind.i64.wrap (v1 * 16777216) = v1 * 16777216 := wrap64 (by omega) (by omega)
      have w2 : IntKind.i64.wrap (v2 * 65536) = v2 * 65536 := wrap64 (by omega) (by omega)
      have w3 : IntKind.i64.wrap (v3 * 256) = v3 * 256 := wrap64 (by omega) (by omega)
      have w4 : IntKind.i64.wrap (v1 * 16777216 + v2 * 65536) = v1 * 16777216 + v2 * 65536 := wrap64 (by omega) (by omega)
      have w5 : IntKind.i64.wrap (v1 * 16777216 + v2 * 65536 + v3 * 256) = v1 * 16777216 + v2 * 65536 + v3 * 256 := wrap64 (by omega) (by omega)
      have w6 : IntKind.i64.wrap (v1 * 16777216 + v2 * 65536 + v3 * 256 + v4) = v1 * 16777216 + v2 * 65536 + v3 * 256 + v4 := wrap64 (by omega) (by omega)
      simp only [hc, h1.1, h2.1, h3.1, h4.1, e1, e2, e3, e4, g1, g2, g3, w1, w2, w3, w4, w5, w6, go_sem]
      repeat' ((first | apply qa | apply qb | apply qc | apply qd | apply qe | apply qf | apply qg | apply qh | apply qi | apply qj | apply qk) <;> intro hp <;> simp only [hp, hc, h1.1, h2.1, h3.1, h4.1, e1, e2, e3, e4, g1, g2, g3, w1, w2, w3, w4, w5, w6, go_sem])
      simp only [fin_mk, finV, resL, resV1, resIn, endA, listIn, Option.some_or, Option.none_or, oneOrTup, go_sem]
      rw [← hr]
      simp only [e]
def plc : Nat → Cur → List Int → List Int
  | 0, _, a => a
  | k + 1, c, a => plc k (belO c 10000).2 (a ++ [(belO c 10000).1])
def places (code : List Int) : List Int := plc 12 (bytO (cur0 code)).2 []
theorem plc_in : ∀ (k : Nat) {c : Cur} {a : List Int}, curI c → (∀ x ∈ a, 0 ≤ x ∧ x < 10000) → (plc k c a).length = a.length + k ∧ ∀ x ∈ plc k c a, 0 ≤ x ∧ x < 10000
  | 0, c, a, _, ha => ⟨rfl, ha⟩
  | k + 1, c, a, hc, ha => by
    have h := belO_in (n := 10000) hc
    obtain ⟨h1, h2⟩ := plc_in k (a := a ++ [(belO c 10000).1]) h.1 fun x hx => by
      rcases List.mem_append.1 hx with hx | hx
      · exact ha x hx
      · simp only [List.mem_singleton] at hx; subst hx; exact ⟨h.2.1, h.2.2 (by decide)⟩
    refine ⟨?_, h2⟩
    rw [plc, h1, List.length_append]; simp; omega
theorem cur0_in {code : List Int} (h : code.length ≤ 4194304) : curI (cur0 code) := ⟨Int.le_refl 0, by simp only [cur0]; omega, h⟩
theorem places_in {code : List Int} (h : code.length ≤ 4194304) : (places code).length = 12 ∧ ∀ x ∈ places code, 0 ≤ x ∧ x < 10000 := by
  have := plc_in 12 (c := (bytO (cur0 code)).2) (a := []) (bytO_in (cur0_in h)).1 (by simp)
  unfold places
  simpa using this
open Classical in
noncomputable def spPlaces : VM.Spec := { modes := [.rd], run := fun | [.lst 1 code'] => (decL dU8 code').bind fun code => if code.length ≤ 4194304 then some (.lst 1 ((places code).map eInt), []) else none | _ => none, need := [] }
attribute [go_sem] spPlaces
theorem spPlaces_in {ins : List V} {r : V} {outs : List V} (h : spPlaces.run ins = some (r, outs)) : ∃ (code : (List Int)), ins = [.lst 1 ((code).map eU8)] ∧ (code.length ≤ 4194304) ∧ .lst 1 ((places code).map eInt) = r ∧ outs = [] := by
  unfold spPlaces at h
  simp only at h
  split at h
  · rename_i code'
    simp only [Option.bind_eq_some_iff] at h
    obtain ⟨code, h_code, h⟩ := h
    split at h
    case isFalse => cases h
    rename_i hc
    simp only [Option.some.injEq, Prod.mk.injEq] at h
    obtain ⟨h1, h2⟩ := h
    have h_code := decL_some (fun _ _ h => dU8_some h) h_code
    subst h_code
    exact ⟨code, rfl, hc, h1, h2.symm⟩
  · cases h
end Go.Proofs.YtjkhhplhjbmhjaaGreat.L

namespace Go.Proofs.YtjkhhplhjbmhjaaGreat.L
open Go Go.VM
set_option maxRecDepth 100000
set_option maxHeartbeats 4000000
set_option linter.unusedSimpArgs false
set_option linter.unusedVariables false
def pickO (c : Cur) (l : List (List UInt8)) : List UInt8 × Cur := (l.getD (belO c l.length).1.toNat [], (belO c l.length).2)
theorem pickO_in {c : Cur} {l : List (List UInt8)} (h : curI c) (hl : 0 < l.length) : curI (pickO c l).2 ∧ (pickO c l).1 ∈ l := by
  have h1 := belO_in (n := (l.length : Int)) h
  have h2 := h1.2.2 (by omega)
  refine ⟨h1.1, ?_⟩
  have h3 : (belO c l.length).1.toNat < l.length := by omega
  rw [pickO]
  simp only [getD_lt h3]
  exact List.getElem_mem h3
open Classical in
noncomputable def spOnce : VM.Spec := { modes := [.ptr, .rd], run := fun | [.rptr (c'), .int .i64 n] => (Cur.dec c').bind fun c => if curI c then some (.bool (((belO c n).1 == 0)), [.rptr (Cur.enc ((belO c n).2))]) else none | _ => none, need := [] }
attribute [go_sem] spOnce
theorem spOnce_in {ins : List V} {r : V} {outs : List V} (h : spOnce.run ins = some (r, outs)) : ∃ (c : Cur) (n : Int), ins = [.rptr (Cur.enc c), .int .i64 n] ∧ (curI c) ∧ .bool (((belO c n).1 == 0)) = r ∧ outs = [.rptr (Cur.enc ((belO c n).2))] := by
  unfold spOnce at h
  simp only at h
  split at h
  · rename_i c' n
    simp only [Option.bind_eq_some_iff] at h
    obtain ⟨c, h_c, h⟩ := h
    split at h
    case isFalse => cases h
    rename_i hc
    simp only [Option.some.injEq, Prod.mk.injEq] at h
    obtain ⟨h1, h2⟩ := h
    have h_c := Cur.dec_some h_c
    subst h_c
    exact ⟨c, n, rfl, hc, h1, h2.symm⟩
  · cases h
def T_spec_l01Once : Hints := ⟨lk [], lk [], lk [(0, [0, 1]), (1, [4])], lk []⟩
noncomputable def Phi_spec_l01Once : Tab := lk [(55, spBelow)]
attribute [go_sem] T_spec_l01Once Phi_spec_l01Once
theorem phi_spec_l01Once : ∀ f sp, Phi_spec_l01Once f = some sp → FnOk Tryz.prog f sp ∧ ∀ n ∈ sp.need, n ∈ ([] : List String) := phi_cons ok_spec_l01Below (n0 rfl) (phi_nil)
theorem ok_spec_l01Once : FnOk Tryz.prog 109 spOnce := by
  refine fn_ok (Φ := Phi_spec_l01Once) (T := T_spec_l01Once) phi_spec_l01Once mixed Tryz.func109 rfl rfl rfl (by decide) ?_
  intro ins r outs hr hl
  clear hl
  have hs := spOnce_in hr
  clear hr
  obtain ⟨c, n, rfl, hc, hr, rfl⟩ := hs
  simp only [spOnce, Tryz.f109, Go.VM.initS]
  simp only [hc, go_sem]
  repeat' ((first | apply qa | apply qb | apply qc | apply qd | apply qe | apply qf | apply qg | apply qh | apply qi | apply qj | apply qk) <;> intro hp <;> simp only [hp, hc, go_sem])
  simp only [fin_mk, finV, resL, resV1, resIn, endA, listIn, Option.some_or, Option.none_or, oneOrTup, go_sem]
  rw [← hr]
open Classical in
noncomputable def spPick : VM.Spec := { modes := [.ptr, .use], run := fun | [.rptr (c'), .lst 1 l'] => (Cur.dec c').bind fun c => (decL dStr l').bind fun l => if curI c ∧ 0 < l.length ∧ l.length ≤ 4194304 then some (.str ((pickO c l).1), [.rptr (Cur.enc ((pickO c l).2))]) else none | _ => none, need := [] }
attribute [go_sem] spPick
theorem spPick_in {ins : List V} {r : V} {outs : List V} (h : spPick.run ins = some (r, outs)) : ∃ (c : Cur) (l : (List (List UInt8))), ins = [.rptr (Cur.enc c), .lst 1 ((l).map eStr)] ∧ (curI c ∧ 0 < l.length ∧ l.length ≤ 4194304) ∧ .str ((pickO c l).1) = r ∧ outs = [.rptr (Cur.enc ((pickO c l).2))] := by
  unfold spPick at h
  simp only at h
  split at h
  · rename_i c' l'
    simp only [Option.bind_eq_some_iff] at h
    obtain ⟨c, h_c, l, h_l, h⟩ := h
    split at h
    case isFalse => cases h
    rename_i hc
    simp only [Option.some.injEq, Prod.mk.injEq] at h
    obtain ⟨h1, h2⟩ := h
    have h_c := Cur.dec_some h_c
    subst h_c
    have h_l := decL_some (fun _ _ h => dStr_some h) h_l
    subst h_l
    exact ⟨c, l, rfl, hc, h1, h2.symm⟩
  · cases h
def T_spec_l01Pick : Hints := ⟨lk [], lk [], lk [(0, [0, 1]), (1, [4])], lk []⟩
noncomputable def Phi_spec_l01Pick : Tab := lk [(55, spBelow)]
attribute [go_sem] T_spec_l01Pick Phi_spec_l01Pick
theorem phi_spec_l01Pick : ∀ f sp, Phi_spec_l01Pick f = some sp → FnOk Tryz.prog f sp ∧ ∀ n ∈ sp.need, n ∈ ([] : List String) := phi_cons ok_spec_l01Below (n0 rfl) (phi_nil)
theorem ok_spec_l01Pick : FnOk Tryz.prog 57 spPick := by
  refine fn_ok (Φ := Phi_spec_l01Pick) (T := T_spec_l01Pick) phi_spec_l01Pick mixed Tryz.func57 rfl rfl rfl (by decide) ?_
  intro ins r outs hr hl
  clear hl
  have hs := spPick_in hr
  clear hr
  obtain ⟨c, l, rfl, hc, hr, rfl⟩ := hs
  simp only [spPick, Tryz.f57, Go.VM.initS]
  obtain ⟨hc, hl, hl2⟩ := hc
  have h1 := belO_in (n := (l.length : Int)) hc
  have h2 := h1.2.2 (by omega)
  obtain ⟨⟨v, d⟩, e⟩ : ∃ x, belO c l.length = x := ⟨_, rfl⟩
  rw [e] at h1 h2
  simp only at h1 h2
  obtain ⟨k, rfl⟩ : ∃ k : Nat, v = k := ⟨v.toNat, by omega⟩
  have g2 : k < l.length := by omega
  have e2 : pickO c l = (l[k], d) := by rw [pickO, e]; simp only [Int.toNat_natCast, getD_lt g2]
  rw [e2] at hr
  have g1 : (0 : Int) ≤ k := by omega
  have g3 : l[k]? = some l[k] := List.getElem?_eq_getElem g2
  have g4 : (k : Int) < l.length := by omega
  simp only [hc, e, g1, g3, g4, go_sem]
  repeat' ((first | apply qa | apply qb | apply qc | apply qd | apply qe | apply qf | apply qg | apply qh | apply qi | apply qj | apply qk) <;> intro hp <;> simp only [hp, hc, e, g1, g3, g4, go_sem])
  simp only [fin_mk, finV, resL, resV1, resIn, endA, listIn, Option.some_or, Option.none_or, oneOrTup, go_sem]
  rw [← hr]
  first | rfl | (simp only [e2]; rfl) | simp only [e2]
def pickI (c : Cur) (l : List Int) : Int × Cur := (l.getD (belO c l.length).1.toNat 0, (belO c l.length).2)
theorem pickI_in {c : Cur} {l : List Int} (h : curI c) (hl : 0 < l.length) : curI (pickI c l).2 ∧ (pickI c l).1 ∈ l := by
  have h1 := belO_in (n := (l.length : Int)) h
  have h2 := h1.2.2 (by omega)
  refine ⟨h1.1, ?_⟩
  have h3 : (belO c l.length).1.toNat < l.length := by omega
  rw [pickI]
  simp only [getD_lt h3]
  exact List.getElem_mem h3
open Classical in
noncomputable def spPickI : VM.Spec := { modes := [.ptr, .use], run := fun | [.rptr (c'), .lst 1 l'] => (Cur.dec c').bind fun c => (decL dInt l').bind fun l => if curI c ∧ 0 < l.length ∧ l.length ≤ 4194304 then some (.int .i64 ((pickI c l).1), [.rptr (Cur.enc ((pickI c l).2))]) else none | _ => none, need := [] }
attribute [go_sem] spPickI
theorem spPickI_in {ins : List V} {r : V} {outs : List V} (h : spPickI.run ins = some (r, outs)) : ∃ (c : Cur) (l : (List Int)), ins = [.rptr (Cur.enc c), .lst 1 ((l).map eInt)] ∧ (curI c ∧ 0 < l.length ∧ l.length ≤ 4194304) ∧ .int .i64 ((pickI c l).1) = r ∧ outs = [.rptr (Cur.enc ((pickI c l).2))] := by
  unfold spPickI at h
  simp only at h
  split at h
  · rename_i c' l'
    simp only [Option.bind_eq_some_iff] at h
    obtain ⟨c, h_c, l, h_l, h⟩ := h
    split at h
    case isFalse => cases h
    rename_i hc
    simp only [Option.some.injEq, Prod.mk.injEq] at h
    obtain ⟨h1, h2⟩ := h
    have h_c := Cur.dec_some h_c
    subst h_c
    have h_l := decL_some (fun _ _ h => dInt_some h) h_l
    subst h_l
    exact ⟨c, l, rfl, hc, h1, h2.symm⟩
  · cases h
def T_spec_l01PickInt : Hints := ⟨lk [], lk [], lk [(0, [0, 1]), (1, [4])], lk []⟩
noncomputable def Phi_spec_l01PickInt : Tab := lk [(55, spBelow)]
attribute [go_sem] T_spec_l01PickInt Phi_spec_l01PickInt
theorem phi_spec_l01PickInt : ∀ f sp, Phi_spec_l01PickInt f = some sp → FnOk Tryz.prog f sp ∧ ∀ n ∈ sp.need, n ∈ ([] : List String) := phi_cons ok_spec_l01Below (n0 rfl) (phi_nil)
theorem ok_spec_l01PickInt : FnOk Tryz.prog 56 spPickI := by
  refine fn_ok (Φ := Phi_spec_l01PickInt) (T := T_spec_l01PickInt) phi_spec_l01PickInt mixed Tryz.func56 rfl rfl rfl (by decide) ?_
  intro ins r outs hr hl
  clear hl
  have hs := spPickI_in hr
  clear hr
  obtain ⟨c, l, rfl, hc, hr, rfl⟩ := hs
  simp only [spPickI, Tryz.f56, Go.VM.initS]
  obtain ⟨hc, hl, hl2⟩ := hc
  have h1 := belO_in (n := (l.length : Int)) hc
  have h2 := h1.2.2 (by omega)
  obtain ⟨⟨v, d⟩, e⟩ : ∃ x, belO c l.length = x := ⟨_, rfl⟩
  rw [e] at h1 h2
  simp only at h1 h2
  obtain ⟨k, rfl⟩ : ∃ k : Nat, v = k := ⟨v.toNat, by omega⟩
  have g2 : k < l.length := by omega
  have e2 : pickI c l = (l[k], d) := by rw [pickI, e]; simp only [Int.toNat_natCast, getD_lt g2]
  rw [e2] at hr
  have g1 : (0 : Int) ≤ k := by omega
  have g3 : l[k]? = some l[k] := List.getElem?_eq_getElem g2
  have g4 : (k : Int) < l.length := by omega
  simp only [hc, e, g1, g3, g4, go_sem]
  repeat' ((first | apply qa | apply qb | apply qc | apply qd | apply qe | apply qf | apply qg | apply qh | apply qi | apply qj | apply qk) <;> intro hp <;> simp only [hp, hc, e, g1, g3, g4, go_sem])
  simp only [fin_mk, finV, resL, resV1, resIn, endA, listIn, Option.some_or, Option.none_or, oneOrTup, go_sem]
  rw [← hr]
  first | rfl | (simp only [e2]; rfl) | simp only [e2]
end Go.Proofs.YtjkhhplhjbmhjaaGreat.L

