/- Edits read from texts. -/
import Derived.Test.YtimiccneikhkgaaGreatDoorVLRv
namespace Go.Proofs.YtimiccneikhkgaaGreatDoor.L
open Go Go.VM
set_option maxRecDepth 100000
set_option maxHeartbeats 4000000
set_option linter.unusedSimpArgs false
set_option linter.unusedVariables false
def rdI (c : Rd) : Prop := 0 ≤ c.pos ∧ c.pos ≤ c.text.length ∧ c.text.length ≤ 4194304
def rdOne (c : Rd) : Int × Rd := if c.bad = true ∨ (c.text.length : Int) ≤ c.pos then (0, ⟨c.text, c.pos, true⟩) else (((c.text.getD c.pos.toNat 0).toNat : Int), ⟨c.text, c.pos + 1, c.bad⟩)
def rdShort (c : Rd) : List UInt8 × Rd := if c.bad = true ∨ shB (c.text.drop c.pos.toNat) = false then ([], ⟨c.text, c.pos, true⟩) else (shS (c.text.drop c.pos.toNat), ⟨c.text, shN c.pos (c.text.drop c.pos.toNat), c.bad⟩)
def rdVar (c : Rd) : Int × Rd := if c.bad = true ∨ rvB (c.text.drop c.pos.toNat) = false then (0, ⟨c.text, c.pos, true⟩) else (rvV (c.text.drop c.pos.toNat), ⟨c.text, rvN c.pos (c.text.drop c.pos.toNat), c.bad⟩)
open Classical in
noncomputable def spOne : VM.Spec := { modes := [.ptr], run := fun | [.rptr (c')] => (Rd.dec c').bind fun c => if rdI c then some (.int .i64 ((rdOne c).1), [.rptr (Rd.enc ((rdOne c).2))]) else none | _ => none, need := [] }
attribute [go_sem] spOne
theorem spOne_in {ins : List V} {r : V} {outs : List V} (h : spOne.run ins = some (r, outs)) : ∃ (c : Rd), ins = [.rptr (Rd.enc c)] ∧ (rdI c) ∧ .int .i64 ((rdOne c).1) = r ∧ outs = [.rptr (Rd.enc ((rdOne c).2))] := by
  unfold spOne at h
  simp only at h
  split at h
  · rename_i c'
    simp only [Option.bind_eq_some_iff] at h
    obtain ⟨c, h_c, h⟩ := h
    split at h
    case isFalse => cases h
    rename_i hc
    simp only [Option.some.injEq, Prod.mk.injEq] at h
    obtain ⟨h1, h2⟩ := h
    have h_c := Rd.dec_some h_c
    subst h_c
    exact ⟨c, rfl, hc, h1, h2.symm⟩
  · cases h
def T_spec_l10Byte : Hints := ⟨fun i => if i = 1 then some [] else if i = 5 then some [] else none, fun _ => none, fun i => if i = 0 then some [0] else if i = 1 then some [0, 18] else if i = 2 then some [] else if i = 3 then some [2] else if i = 4 then some [0] else if i = 5 then some [2] else none, fun _ => none⟩
noncomputable def Phi_spec_l10Byte : Tab := fun f => none
attribute [go_sem] T_spec_l10Byte Phi_spec_l10Byte
theorem phi_spec_l10Byte : ∀ f sp, Phi_spec_l10Byte f = some sp → FnOk Tryz.prog f sp ∧ ∀ n ∈ sp.need, n ∈ ([] : List String) := by
  intro f sp h
  unfold Phi_spec_l10Byte at h
  cases h
theorem ok_spec_l10Byte : FnOk Tryz.prog 49 spOne := by
  refine fn_ok (Φ := Phi_spec_l10Byte) (T := T_spec_l10Byte) phi_spec_l10Byte mixed Tryz.func49 rfl rfl rfl (by decide) ?_
  intro ins r outs hr hl
  clear hl
  have hs := spOne_in hr
  clear hr
  obtain ⟨c, rfl, hc, hr, rfl⟩ := hs
  simp only [spOne, Tryz.f49, Go.VM.initS]
  obtain ⟨T, p, b⟩ := c
  obtain ⟨h0, h1, h2⟩ := hc
  simp only at h0 h1 h2
  by_cases hb : b = true
  · subst hb
    have e : rdOne ⟨T, p, true⟩ = (0, ⟨T, p, true⟩) := by rw [rdOne, if_pos (.inl rfl)]
    rw [e] at hr
    simp only [go_sem]
    repeat' ((first | ((first | apply qa | apply qb | apply qc | apply qd | apply qe | apply qf | apply qg | apply qh | apply qi | apply qj | apply qk) <;> intro hp) | ((first | refine ql rfl rfl (by decide +kernel) ?_ | refine qm _ rfl rfl (by decide +kernel) ?_ | refine goes_opn rfl ?_ | refine goes_opnD rfl rfl (by decide +kernel) ?_) <;> have hp := True.intro)) <;> simp only [hp, go_sem])
    simp only [fin_mk, finV, resL, resV1, resIn, endA, listIn, Option.some_or, Option.none_or, oneOrTup, go_sem]
    rw [← hr]
    first | rfl | (simp only [e]; rfl) | simp only [e]
  · have hb' : b = false := by simpa using hb
    subst hb'
    by_cases g1 : (T.length : Int) ≤ p
    · have e : rdOne ⟨T, p, false⟩ = (0, ⟨T, p, true⟩) := by rw [rdOne, if_pos (.inr g1)]
      rw [e] at hr
      simp only [g1, go_sem]
      repeat' ((first | ((first | apply qa | apply qb | apply qc | apply qd | apply qe | apply qf | apply qg | apply qh | apply qi | apply qj | apply qk) <;> intro hp) | ((first | refine ql rfl rfl (by decide +kernel) ?_ | refine qm _ rfl rfl (by decide +kernel) ?_ | refine goes_opn rfl ?_ | refine goes_opnD rfl rfl (by decide +kernel) ?_) <;> have hp := True.intro)) <;> simp only [hp, g1, go_sem])
      simp only [fin_mk, finV, resL, resV1, resIn, endA, listIn, Option.some_or, Option.none_or, oneOrTup, go_sem]
      rw [← hr]
      first | rfl | (simp only [e]; rfl) | simp only [e]
    · have e : rdOne ⟨T, p, false⟩ = (((T.getD p.toNat 0).toNat : Int), ⟨T, p + 1, false⟩) := by rw [rdOne, if_neg (by rintro (h | h); cases h; exact g1 h)]
      rw [e] at hr
      obtain ⟨k, rfl⟩ : ∃ k : Nat, p = k := ⟨p.toNat, by omega⟩
      have g2 : k < T.length := by omega
      rw [Int.toNat_natCast, getD_lt g2, show (k : Int) + 1 = ((k + 1 : Nat) : Int) by omega] at hr
      have g3 : T[k]? = some T[k] := List.getElem?_eq_getElem g2
      have g4 := wrap_succ g2 (by omega)
      have g5 : IntKind.i64.wrap (((k + 1 : Nat) : Int) - 1) = (k : Int) := (wrap64 (by omega) (by omega)).trans (by omega)
      have gw : IntKind.i64.wrap (T[k].toNat : Int) = (T[k].toNat : Int) := by have := T[k].toNat_lt; exact wrap64 (by omega) (by omega)
      simp only [g1, g3, g4, g5, gw, h0, go_sem]
      repeat' ((first | ((first | apply qa | apply qb | apply qc | apply qd | apply qe | apply qf | apply qg | apply qh | apply qi | apply qj | apply qk) <;> intro hp) | ((first | refine ql rfl rfl (by decide +kernel) ?_ | refine qm _ rfl rfl (by decide +kernel) ?_ | refine goes_opn rfl ?_ | refine goes_opnD rfl rfl (by decide +kernel) ?_) <;> have hp := True.intro)) <;> simp only [hp, g1, g3, g4, g5, gw, h0, go_sem])
      simp only [fin_mk, finV, resL, resV1, resIn, endA, listIn, Option.some_or, Option.none_or, oneOrTup, go_sem]
      rw [← hr]
      first | rfl | (simp only [e]; rfl) | simp only [e]
def T_impl_reader_one : Hints := ⟨fun i => if i = 1 then some [] else if i = 5 then some [] else none, fun _ => none, fun i => if i = 0 then some [0] else if i = 1 then some [0, 18] else if i = 2 then some [] else if i = 3 then some [2] else if i = 4 then some [0] else if i = 5 then some [2] else none, fun _ => none⟩
noncomputable def Phi_impl_reader_one : Tab := fun f => none
attribute [go_sem] T_impl_reader_one Phi_impl_reader_one
theorem phi_impl_reader_one : ∀ f sp, Phi_impl_reader_one f = some sp → FnOk Tryz.prog f sp ∧ ∀ n ∈ sp.need, n ∈ ([] : List String) := by
  intro f sp h
  unfold Phi_impl_reader_one at h
  cases h
theorem ok_impl_reader_one : FnOk Tryz.prog 42 spOne := by
  refine fn_ok (Φ := Phi_impl_reader_one) (T := T_impl_reader_one) phi_impl_reader_one mixed Tryz.func42 rfl rfl rfl (by decide) ?_
  intro ins r outs hr hl
  clear hl
  have hs := spOne_in hr
  clear hr
  obtain ⟨c, rfl, hc, hr, rfl⟩ := hs
  simp only [spOne, Tryz.f42, Go.VM.initS]
  obtain ⟨T, p, b⟩ := c
  obtain ⟨h0, h1, h2⟩ := hc
  simp only at h0 h1 h2
  by_cases hb : b = true
  · subst hb
    have e : rdOne ⟨T, p, true⟩ = (0, ⟨T, p, true⟩) := by rw [rdOne, if_pos (.inl rfl)]
    rw [e] at hr
    simp only [go_sem]
    repeat' ((first | ((first | apply qa | apply qb | apply qc | apply qd | apply qe | apply qf | apply qg | apply qh | apply qi | apply qj | apply qk) <;> intro hp) | ((first | refine ql rfl rfl (by decide +kernel) ?_ | refine qm _ rfl rfl (by decide +kernel) ?_ | refine goes_opn rfl ?_ | refine goes_opnD rfl rfl (by decide +kernel) ?_) <;> have hp := True.intro)) <;> simp only [hp, go_sem])
    simp only [fin_mk, finV, resL, resV1, resIn, endA, listIn, Option.some_or, Option.none_or, oneOrTup, go_sem]
    rw [← hr]
    first | rfl | (simp only [e]; rfl) | simp only [e]
  · have hb' : b = false := by simpa using hb
    subst hb'
    by_cases g1 : (T.length : Int) ≤ p
    · have e : rdOne ⟨T, p, false⟩ = (0, ⟨T, p, true⟩) := by rw [rdOne, if_pos (.inr g1)]
      rw [e] at hr
      simp only [g1, go_sem]
      repeat' ((first | ((first | apply qa | apply qb | apply qc | apply qd | apply qe | apply qf | apply qg | apply qh | apply qi | apply qj | apply qk) <;> intro hp) | ((first | refine ql rfl rfl (by decide +kernel) ?_ | refine qm _ rfl rfl (by decide +kernel) ?_ | refine goes_opn rfl ?_ | refine goes_opnD rfl rfl (by decide +kernel) ?_) <;> have hp := True.intro)) <;> simp only [hp, g1, go_sem])
      simp only [fin_mk, finV, resL, resV1, resIn, endA, listIn, Option.some_or, Option.none_or, oneOrTup, go_sem]
      rw [← hr]
      first | rfl | (simp only [e]; rfl) | simp only [e]
    · have e : rdOne ⟨T, p, false⟩ = (((T.getD p.toNat 0).toNat : Int), ⟨T, p + 1, false⟩) := by rw [rdOne, if_neg (by rintro (h | h); cases h; exact g1 h)]
      rw [e] at hr
      obtain ⟨k, rfl⟩ : ∃ k : Nat, p = k := ⟨p.toNat, by omega⟩
      have g2 : k < T.length := by omega
      rw [Int.toNat_natCast, getD_lt g2, show (k : Int) + 1 = ((k + 1 : Nat) : Int) by omega] at hr
      have g3 : T[k]? = some T[k] := List.getElem?_eq_getElem g2
      have g4 := wrap_succ g2 (by omega)
      have g5 : IntKind.i64.wrap (((k + 1 : Nat) : Int) - 1) = (k : Int) := (wrap64 (by omega) (by omega)).trans (by omega)
      have gw : IntKind.i64.wrap (T[k].toNat : Int) = (T[k].toNat : Int) := by have := T[k].toNat_lt; exact wrap64 (by omega) (by omega)
      simp only [g1, g3, g4, g5, gw, h0, go_sem]
      repeat' ((first | ((first | apply qa | apply qb | apply qc | apply qd | apply qe | apply qf | apply qg | apply qh | apply qi | apply qj | apply qk) <;> intro hp) | ((first | refine ql rfl rfl (by decide +kernel) ?_ | refine qm _ rfl rfl (by decide +kernel) ?_ | refine goes_opn rfl ?_ | refine goes_opnD rfl rfl (by decide +kernel) ?_) <;> have hp := True.intro)) <;> simp only [hp, g1, g3, g4, g5, gw, h0, go_sem])
      simp only [fin_mk, finV, resL, resV1, resIn, endA, listIn, Option.some_or, Option.none_or, oneOrTup, go_sem]
      rw [← hr]
      first | rfl | (simp only [e]; rfl) | simp only [e]
open Classical in
noncomputable def spShortR : VM.Spec := { modes := [.ptr], run := fun | [.rptr (c')] => (Rd.dec c').bind fun c => if rdI c then some (.str ((rdShort c).1), [.rptr (Rd.enc ((rdShort c).2))]) else none | _ => none, need := [] }
attribute [go_sem] spShortR
theorem spShortR_in {ins : List V} {r : V} {outs : List V} (h : spShortR.run ins = some (r, outs)) : ∃ (c : Rd), ins = [.rptr (Rd.enc c)] ∧ (rdI c) ∧ .str ((rdShort c).1) = r ∧ outs = [.rptr (Rd.enc ((rdShort c).2))] := by
  unfold spShortR at h
  simp only at h
  split at h
  · rename_i c'
    simp only [Option.bind_eq_some_iff] at h
    obtain ⟨c, h_c, h⟩ := h
    split at h
    case isFalse => cases h
    rename_i hc
    simp only [Option.some.injEq, Prod.mk.injEq] at h
    obtain ⟨h1, h2⟩ := h
    have h_c := Rd.dec_some h_c
    subst h_c
    exact ⟨c, rfl, hc, h1, h2.symm⟩
  · cases h
def T_spec_l10ReadShort : Hints := ⟨fun i => if i = 1 then some [] else none, fun _ => none, fun i => if i = 0 then some [0] else if i = 1 then some [0, 3, 4, 5] else if i = 2 then some [0, 3, 4, 26] else if i = 3 then some [] else if i = 4 then some [2] else if i = 5 then some [3] else if i = 6 then some [2] else none, fun _ => none⟩
noncomputable def Phi_spec_l10ReadShort : Tab := fun f => if f = 113 then some spReadShort else none
attribute [go_sem] T_spec_l10ReadShort Phi_spec_l10ReadShort
theorem phi_spec_l10ReadShort : ∀ f sp, Phi_spec_l10ReadShort f = some sp → FnOk Tryz.prog f sp ∧ ∀ n ∈ sp.need, n ∈ ([] : List String) := by
  intro f sp h
  unfold Phi_spec_l10ReadShort at h
  by_cases e : f = 113
  · rw [if_pos e] at h; cases h; rw [e]; exact ⟨ok_spec_ReadShort, (fun n (h : n ∈ ([] : List String)) => (nomatch h))⟩
  rw [if_neg e] at h
  cases h
theorem ok_spec_l10ReadShort : FnOk Tryz.prog 50 spShortR := by
  refine fn_ok (Φ := Phi_spec_l10ReadShort) (T := T_spec_l10ReadShort) phi_spec_l10ReadShort mixed Tryz.func50 rfl rfl rfl (by decide) ?_
  intro ins r outs hr hl
  clear hl
  have hs := spShortR_in hr
  clear hr
  obtain ⟨c, rfl, hc, hr, rfl⟩ := hs
  simp only [spShortR, Tryz.f50, Go.VM.initS]
  obtain ⟨T, p, b⟩ := c
  obtain ⟨h0, h1, h2⟩ := hc
  simp only at h0 h1 h2
  by_cases hb : b = true
  · subst hb
    have e : rdShort ⟨T, p, true⟩ = ([], ⟨T, p, true⟩) := by rw [rdShort, if_pos (.inl rfl)]
    rw [e] at hr
    simp only [h0, h1, h2, go_sem]
    repeat' ((first | ((first | apply qa | apply qb | apply qc | apply qd | apply qe | apply qf | apply qg | apply qh | apply qi | apply qj | apply qk) <;> intro hp) | ((first | refine ql rfl rfl (by decide +kernel) ?_ | refine qm _ rfl rfl (by decide +kernel) ?_ | refine goes_opn rfl ?_ | refine goes_opnD rfl rfl (by decide +kernel) ?_) <;> have hp := True.intro)) <;> simp only [hp, h0, h1, h2, go_sem])
    simp only [fin_mk, finV, resL, resV1, resIn, endA, listIn, Option.some_or, Option.none_or, oneOrTup, go_sem]
    rw [← hr]
    first | rfl | (simp only [e]; rfl) | simp only [e]
  · have hb' : b = false := by simpa using hb
    subst hb'
    cases hB : shB (T.drop p.toNat) with
    | false =>
      have e : rdShort ⟨T, p, false⟩ = ([], ⟨T, p, true⟩) := by rw [rdShort, if_pos (.inr hB)]
      rw [e] at hr
      simp only [h0, h1, h2, hB, go_sem]
      repeat' ((first | ((first | apply qa | apply qb | apply qc | apply qd | apply qe | apply qf | apply qg | apply qh | apply qi | apply qj | apply qk) <;> intro hp) | ((first | refine ql rfl rfl (by decide +kernel) ?_ | refine qm _ rfl rfl (by decide +kernel) ?_ | refine goes_opn rfl ?_ | refine goes_opnD rfl rfl (by decide +kernel) ?_) <;> have hp := True.intro)) <;> simp only [hp, h0, h1, h2, hB, go_sem])
      simp only [fin_mk, finV, resL, resV1, resIn, endA, listIn, Option.some_or, Option.none_or, oneOrTup, go_sem]
      rw [← hr]
      first | rfl | (simp only [e]; rfl) | simp only [e]
    | true =>
      have e : rdShort ⟨T, p, false⟩ = (shS (T.drop p.toNat), ⟨T, shN p (T.drop p.toNat), false⟩) := by
        rw [rdShort, if_neg (by rintro (h | h); cases h; simp only at h; rw [hB] at h; cases h)]
      rw [e] at hr
      simp only [h0, h1, h2, hB, go_sem]
      repeat' ((first | ((first | apply qa | apply qb | apply qc | apply qd | apply qe | apply qf | apply qg | apply qh | apply qi | apply qj | apply qk) <;> intro hp) | ((first | refine ql rfl rfl (by decide +kernel) ?_ | refine qm _ rfl rfl (by decide +kernel) ?_ | refine goes_opn rfl ?_ | refine goes_opnD rfl rfl (by decide +kernel) ?_) <;> have hp := True.intro)) <;> simp only [hp, h0, h1, h2, hB, go_sem])
      simp only [fin_mk, finV, resL, resV1, resIn, endA, listIn, Option.some_or, Option.none_or, oneOrTup, go_sem]
      rw [← hr]
      first | rfl | (simp only [e]; rfl) | simp only [e]
def T_impl_reader_short : Hints := ⟨fun i => if i = 1 then some [] else none, fun _ => none, fun i => if i = 0 then some [0] else if i = 1 then some [0, 3, 4, 5] else if i = 2 then some [0, 3, 4, 26] else if i = 3 then some [] else if i = 4 then some [2] else if i = 5 then some [3] else if i = 6 then some [2] else none, fun _ => none⟩
noncomputable def Phi_impl_reader_short : Tab := fun f => if f = 101 then some spReadShort else none
attribute [go_sem] T_impl_reader_short Phi_impl_reader_short
theorem phi_impl_reader_short : ∀ f sp, Phi_impl_reader_short f = some sp → FnOk Tryz.prog f sp ∧ ∀ n ∈ sp.need, n ∈ ([] : List String) := by
  intro f sp h
  unfold Phi_impl_reader_short at h
  by_cases e : f = 101
  · rw [if_pos e] at h; cases h; rw [e]; exact ⟨ok_impl_ReadShort, (fun n (h : n ∈ ([] : List String)) => (nomatch h))⟩
  rw [if_neg e] at h
  cases h
theorem ok_impl_reader_short : FnOk Tryz.prog 43 spShortR := by
  refine fn_ok (Φ := Phi_impl_reader_short) (T := T_impl_reader_short) phi_impl_reader_short mixed Tryz.func43 rfl rfl rfl (by decide) ?_
  intro ins r outs hr hl
  clear hl
  have hs := spShortR_in hr
  clear hr
  obtain ⟨c, rfl, hc, hr, rfl⟩ := hs
  simp only [spShortR, Tryz.f43, Go.VM.initS]
  obtain ⟨T, p, b⟩ := c
  obtain ⟨h0, h1, h2⟩ := hc
  simp only at h0 h1 h2
  by_cases hb : b = true
  · subst hb
    have e : rdShort ⟨T, p, true⟩ = ([], ⟨T, p, true⟩) := by rw [rdShort, if_pos (.inl rfl)]
    rw [e] at hr
    simp only [h0, h1, h2, go_sem]
    repeat' ((first | ((first | apply qa | apply qb | apply qc | apply qd | apply qe | apply qf | apply qg | apply qh | apply qi | apply qj | apply qk) <;> intro hp) | ((first | refine ql rfl rfl (by decide +kernel) ?_ | refine qm _ rfl rfl (by decide +kernel) ?_ | refine goes_opn rfl ?_ | refine goes_opnD rfl rfl (by decide +kernel) ?_) <;> have hp := True.intro)) <;> simp only [hp, h0, h1, h2, go_sem])
    simp only [fin_mk, finV, resL, resV1, resIn, endA, listIn, Option.some_or, Option.none_or, oneOrTup, go_sem]
    rw [← hr]
    first | rfl | (simp only [e]; rfl) | simp only [e]
  · have hb' : b = false := by simpa using hb
    subst hb'
    cases hB : shB (T.drop p.toNat) with
    | false =>
      have e : rdShort ⟨T, p, false⟩ = ([], ⟨T, p, true⟩) := by rw [rdShort, if_pos (.inr hB)]
      rw [e] at hr
      simp only [h0, h1, h2, hB, go_sem]
      repeat' ((first | ((first | apply qa | apply qb | apply qc | apply qd | apply qe | apply qf | apply qg | apply qh | apply qi | apply qj | apply qk) <;> intro hp) | ((first | refine ql rfl rfl (by decide +kernel) ?_ | refine qm _ rfl rfl (by decide +kernel) ?_ | refine goes_opn rfl ?_ | refine goes_opnD rfl rfl (by decide +kernel) ?_) <;> have hp := True.intro)) <;> simp only [hp, h0, h1, h2, hB, go_sem])
      simp only [fin_mk, finV, resL, resV1, resIn, endA, listIn, Option.some_or, Option.none_or, oneOrTup, go_sem]
      rw [← hr]
      first | rfl | (simp only [e]; rfl) | simp only [e]
    | true =>
      have e : rdShort ⟨T, p, false⟩ = (shS (T.drop p.toNat), ⟨T, shN p (T.drop p.toNat), false⟩) := by
        rw [rdShort, if_neg (by rintro (h | h); cases h; simp only at h; rw [hB] at h; cases h)]
      rw [e] at hr
      simp only [h0, h1, h2, hB, go_sem]
      repeat' ((first | ((first | apply qa | apply qb | apply qc | apply qd | apply qe | apply qf | apply qg | apply qh | apply qi | apply qj | apply qk) <;> intro hp) | ((first | refine ql rfl rfl (by decide +kernel) ?_ | refine qm _ rfl rfl (by decide +kernel) ?_ | refine goes_opn rfl ?_ | refine goes_opnD rfl rfl (by decide +kernel) ?_) <;> have hp := True.intro)) <;> simp only [hp, h0, h1, h2, hB, go_sem])
      simp only [fin_mk, finV, resL, resV1, resIn, endA, listIn, Option.some_or, Option.none_or, oneOrTup, go_sem]
      rw [← hr]
      first | rfl | (simp only [e]; rfl) | simp only [e]
open Classical in
noncomputable def spVarR : VM.Spec := { modes := [.ptr], run := fun | [.rptr (c')] => (Rd.dec c').bind fun c => if rdI c then some (.int .i64 ((rdVar c).1), [.rptr (Rd.enc ((rdVar c).2))]) else none | _ => none, need := [] }
attribute [go_sem] spVarR
theorem spVarR_in {ins : List V} {r : V} {outs : List V} (h : spVarR.run ins = some (r, outs)) : ∃ (c : Rd), ins = [.rptr (Rd.enc c)] ∧ (rdI c) ∧ .int .i64 ((rdVar c).1) = r ∧ outs = [.rptr (Rd.enc ((rdVar c).2))] := by
  unfold spVarR at h
  simp only at h
  split at h
  · rename_i c'
    simp only [Option.bind_eq_some_iff] at h
    obtain ⟨c, h_c, h⟩ := h
    split at h
    case isFalse => cases h
    rename_i hc
    simp only [Option.some.injEq, Prod.mk.injEq] at h
    obtain ⟨h1, h2⟩ := h
    have h_c := Rd.dec_some h_c
    subst h_c
    exact ⟨c, rfl, hc, h1, h2.symm⟩
  · cases h
def T_spec_l10Var : Hints := ⟨fun i => if i = 1 then some [] else none, fun _ => none, fun i => if i = 0 then some [0] else if i = 1 then some [0, 3, 4, 5] else if i = 2 then some [0, 3, 4, 26] else if i = 3 then some [] else if i = 4 then some [2] else if i = 5 then some [3] else if i = 6 then some [2] else none, fun _ => none⟩
noncomputable def Phi_spec_l10Var : Tab := fun f => if f = 114 then some spReadVar else none
attribute [go_sem] T_spec_l10Var Phi_spec_l10Var
theorem phi_spec_l10Var : ∀ f sp, Phi_spec_l10Var f = some sp → FnOk Tryz.prog f sp ∧ ∀ n ∈ sp.need, n ∈ ([] : List String) := by
  intro f sp h
  unfold Phi_spec_l10Var at h
  by_cases e : f = 114
  · rw [if_pos e] at h; cases h; rw [e]; exact ⟨ok_spec_ReadVar, (fun n (h : n ∈ ([] : List String)) => (nomatch h))⟩
  rw [if_neg e] at h
  cases h
theorem ok_spec_l10Var : FnOk Tryz.prog 51 spVarR := by
  refine fn_ok (Φ := Phi_spec_l10Var) (T := T_spec_l10Var) phi_spec_l10Var mixed Tryz.func51 rfl rfl rfl (by decide) ?_
  intro ins r outs hr hl
  clear hl
  have hs := spVarR_in hr
  clear hr
  obtain ⟨c, rfl, hc, hr, rfl⟩ := hs
  simp only [spVarR, Tryz.f51, Go.VM.initS]
  obtain ⟨T, p, b⟩ := c
  obtain ⟨h0, h1, h2⟩ := hc
  simp only at h0 h1 h2
  by_cases hb : b = true
  · subst hb
    have e : rdVar ⟨T, p, true⟩ = (0, ⟨T, p, true⟩) := by rw [rdVar, if_pos (.inl rfl)]
    rw [e] at hr
    simp only [h0, h1, h2, go_sem]
    repeat' ((first | ((first | apply qa | apply qb | apply qc | apply qd | apply qe | apply qf | apply qg | apply qh | apply qi | apply qj | apply qk) <;> intro hp) | ((first | refine ql rfl rfl (by decide +kernel) ?_ | refine qm _ rfl rfl (by decide +kernel) ?_ | refine goes_opn rfl ?_ | refine goes_opnD rfl rfl (by decide +kernel) ?_) <;> have hp := True.intro)) <;> simp only [hp, h0, h1, h2, go_sem])
    simp only [fin_mk, finV, resL, resV1, resIn, endA, listIn, Option.some_or, Option.none_or, oneOrTup, go_sem]
    rw [← hr]
    first | rfl | (simp only [e]; rfl) | simp only [e]
  · have hb' : b = false := by simpa using hb
    subst hb'
    cases hB : rvB (T.drop p.toNat) with
    | false =>
      have e : rdVar ⟨T, p, false⟩ = (0, ⟨T, p, true⟩) := by rw [rdVar, if_pos (.inr hB)]
      rw [e] at hr
      simp only [h0, h1, h2, hB, go_sem]
      repeat' ((first | ((first | apply qa | apply qb | apply qc | apply qd | apply qe | apply qf | apply qg | apply qh | apply qi | apply qj | apply qk) <;> intro hp) | ((first | refine ql rfl rfl (by decide +kernel) ?_ | refine qm _ rfl rfl (by decide +kernel) ?_ | refine goes_opn rfl ?_ | refine goes_opnD rfl rfl (by decide +kernel) ?_) <;> have hp := True.intro)) <;> simp only [hp, h0, h1, h2, hB, go_sem])
      simp only [fin_mk, finV, resL, resV1, resIn, endA, listIn, Option.some_or, Option.none_or, oneOrTup, go_sem]
      rw [← hr]
      first | rfl | (simp only [e]; rfl) | simp only [e]
    | true =>
      have e : rdVar ⟨T, p, false⟩ = (rvV (T.drop p.toNat), ⟨T, rvN p (T.drop p.toNat), false⟩) := by
        rw [rdVar, if_neg (by rintro (h | h); cases h; simp only at h; rw [hB] at h; cases h)]
      rw [e] at hr
      simp only [h0, h1, h2, hB, go_sem]
      repeat' ((first | ((first | apply qa | apply qb | apply qc | apply qd | apply qe | apply qf | apply qg | apply qh | apply qi | apply qj | apply qk) <;> intro hp) | ((first | refine ql rfl rfl (by decide +kernel) ?_ | refine qm _ rfl rfl (by decide +kernel) ?_ | refine goes_opn rfl ?_ | refine goes_opnD rfl rfl (by decide +kernel) ?_) <;> have hp := True.intro)) <;> simp only [hp, h0, h1, h2, hB, go_sem])
      simp only [fin_mk, finV, resL, resV1, resIn, endA, listIn, Option.some_or, Option.none_or, oneOrTup, go_sem]
      rw [← hr]
      first | rfl | (simp only [e]; rfl) | simp only [e]
def T_impl_reader_number : Hints := ⟨fun i => if i = 1 then some [] else none, fun _ => none, fun i => if i = 0 then some [0] else if i = 1 then some [0, 3, 4, 5] else if i = 2 then some [0, 3, 4, 26] else if i = 3 then some [] else if i = 4 then some [2] else if i = 5 then some [3] else if i = 6 then some [2] else none, fun _ => none⟩
noncomputable def Phi_impl_reader_number : Tab := fun f => if f = 102 then some spReadVar else none
attribute [go_sem] T_impl_reader_number Phi_impl_reader_number
theorem phi_impl_reader_number : ∀ f sp, Phi_impl_reader_number f = some sp → FnOk Tryz.prog f sp ∧ ∀ n ∈ sp.need, n ∈ ([] : List String) := by
  intro f sp h
  unfold Phi_impl_reader_number at h
  by_cases e : f = 102
  · rw [if_pos e] at h; cases h; rw [e]; exact ⟨ok_impl_ReadVar, (fun n (h : n ∈ ([] : List String)) => (nomatch h))⟩
  rw [if_neg e] at h
  cases h
theorem ok_impl_reader_number : FnOk Tryz.prog 44 spVarR := by
  refine fn_ok (Φ := Phi_impl_reader_number) (T := T_impl_reader_number) phi_impl_reader_number mixed Tryz.func44 rfl rfl rfl (by decide) ?_
  intro ins r outs hr hl
  clear hl
  have hs := spVarR_in hr
  clear hr
  obtain ⟨c, rfl, hc, hr, rfl⟩ := hs
  simp only [spVarR, Tryz.f44, Go.VM.initS]
  obtain ⟨T, p, b⟩ := c
  obtain ⟨h0, h1, h2⟩ := hc
  simp only at h0 h1 h2
  by_cases hb : b = true
  · subst hb
    have e : rdVar ⟨T, p, true⟩ = (0, ⟨T, p, true⟩) := by rw [rdVar, if_pos (.inl rfl)]
    rw [e] at hr
    simp only [h0, h1, h2, go_sem]
    repeat' ((first | ((first | apply qa | apply qb | apply qc | apply qd | apply qe | apply qf | apply qg | apply qh | apply qi | apply qj | apply qk) <;> intro hp) | ((first | refine ql rfl rfl (by decide +kernel) ?_ | refine qm _ rfl rfl (by decide +kernel) ?_ | refine goes_opn rfl ?_ | refine goes_opnD rfl rfl (by decide +kernel) ?_) <;> have hp := True.intro)) <;> simp only [hp, h0, h1, h2, go_sem])
    simp only [fin_mk, finV, resL, resV1, resIn, endA, listIn, Option.some_or, Option.none_or, oneOrTup, go_sem]
    rw [← hr]
    first | rfl | (simp only [e]; rfl) | simp only [e]
  · have hb' : b = false := by simpa using hb
    subst hb'
    cases hB : rvB (T.drop p.toNat) with
    | false =>
      have e : rdVar ⟨T, p, false⟩ = (0, ⟨T, p, true⟩) := by rw [rdVar, if_pos (.inr hB)]
      rw [e] at hr
      simp only [h0, h1, h2, hB, go_sem]
      repeat' ((first | ((first | apply qa | apply qb | apply qc | apply qd | apply qe | apply qf | apply qg | apply qh | apply qi | apply qj | apply qk) <;> intro hp) | ((first | refine ql rfl rfl (by decide +kernel) ?_ | refine qm _ rfl rfl (by decide +kernel) ?_ | refine goes_opn rfl ?_ | refine goes_opnD rfl rfl (by decide +kernel) ?_) <;> have hp := True.intro)) <;> simp only [hp, h0, h1, h2, hB, go_sem])
      simp only [fin_mk, finV, resL, resV1, resIn, endA, listIn, Option.some_or, Option.none_or, oneOrTup, go_sem]
      rw [← hr]
      first | rfl | (simp only [e]; rfl) | simp only [e]
    | true =>
      have e : rdVar ⟨T, p, false⟩ = (rvV (T.drop p.toNat), ⟨T, rvN p (T.drop p.toNat), false⟩) := by
        rw [rdVar, if_neg (by rintro (h | h); cases h; simp only at h; rw [hB] at h; cases h)]
      rw [e] at hr
      simp only [h0, h1, h2, hB, go_sem]
      repeat' ((first | ((first | apply qa | apply qb | apply qc | apply qd | apply qe | apply qf | apply qg | apply qh | apply qi | apply qj | apply qk) <;> intro hp) | ((first | refine ql rfl rfl (by decide +kernel) ?_ | refine qm _ rfl rfl (by decide +kernel) ?_ | refine goes_opn rfl ?_ | refine goes_opnD rfl rfl (by decide +kernel) ?_) <;> have hp := True.intro)) <;> simp only [hp, h0, h1, h2, hB, go_sem])
      simp only [fin_mk, finV, resL, resV1, resIn, endA, listIn, Option.some_or, Option.none_or, oneOrTup, go_sem]
      rw [← hr]
      first | rfl | (simp only [e]; rfl) | simp only [e]
end Go.Proofs.YtimiccneikhkgaaGreatDoor.L
