/- The laws' own functions: what is left of a size, copies, equality, marks. What each computes. -/
import Derived.Test.YtdnafggminbalaaVLA
namespace Go.Proofs.Ytdnafggminbalaa.L
open Go Go.VM
set_option maxRecDepth 100000
set_option linter.unusedSimpArgs false
set_option linter.unusedVariables false
open Classical in
noncomputable def spMarkText : VM.Spec := { modes := [.rd], run := fun | [.int .i64 k] => if k ≤ 4611686018427387904 then some (.str (markText k), []) else none | _ => none, need := [] }
attribute [go_sem] spMarkText
theorem spMarkText_in {ins : List V} {r : V} {outs : List V} (h : spMarkText.run ins = some (r, outs)) : ∃ (k : Int), ins = [.int .i64 k] ∧ (k ≤ 4611686018427387904) ∧ .str (markText k) = r ∧ outs = [] := by
  unfold spMarkText at h
  simp only at h
  split at h
  · rename_i k
    split at h
    case isFalse => cases h
    rename_i hc
    simp only [Option.some.injEq, Prod.mk.injEq] at h
    obtain ⟨h1, h2⟩ := h
    exact ⟨k, rfl, hc, h1, h2.symm⟩
  · cases h
def T_laws_markText : Hints := ⟨fun _ => none, fun i => if i = 4 then some [0, 3] else none, fun i => if i = 0 then some [0] else if i = 1 then some [0, 5] else if i = 2 then some [2] else if i = 3 then some [0, 3] else if i = 4 then some [0, 3, 7] else if i = 5 then some [0, 3] else if i = 6 then some [0, 3] else if i = 7 then some [2] else none, fun _ => none⟩
noncomputable def Phi_laws_markText : Tab := fun f => none
attribute [go_sem] T_laws_markText Phi_laws_markText
theorem phi_laws_markText : ∀ f sp, Phi_laws_markText f = some sp → FnOk Try.prog f sp ∧ ∀ n ∈ sp.need, n ∈ ([] : List String) := by
  intro f sp h
  unfold Phi_laws_markText at h
  cases h
theorem ok_laws_markText : FnOk Try.prog 42 spMarkText := by
  refine fn_ok (Φ := Phi_laws_markText) (T := T_laws_markText) phi_laws_markText mixed Try.func42 rfl rfl rfl (by decide) ?_
  intro ins r outs hr hl
  clear hl
  have hs := spMarkText_in hr
  clear hr
  obtain ⟨k, rfl, hc, hr, rfl⟩ := hs
  simp only [spMarkText, Try.f42, Go.VM.initS]
  by_cases hk : k ≤ 0
  · simp only [hk, go_sem]
    repeat' ((first | apply qa | apply qb | apply qc | apply qd | apply qe | apply qf | apply qg | apply qh | apply qi | apply qj | apply qk) <;> intro hp <;> simp only [hp, hk, go_sem])
    simp only [fin_mk, finV, resL, resV1, resIn, endA, listIn, Option.some_or, Option.none_or, oneOrTup, go_sem]
    rw [← hr]
    simp only [markText, hk, if_true]
  simp only [hk, go_sem]
  refine loop_go (fun p : Int × List UInt8 => [(0, .int .i64 p.1), (3, .str p.2)]) (fun _ => []) (fun p => p.1.toNat) (fun p => 0 ≤ p.1 ∧ p.1 + p.2.length ≤ k ∧ markGo p.1 p.2 = markGo k []) (k, []) ⟨by simp only; omega, by simp, rfl⟩ rfl rfl ?_
  rintro ⟨m, out⟩ ⟨h0, h1, h2⟩ ih
  simp only at h0 h1 h2 ih
  by_cases hm : 0 < m
  · have d1 : m.tdiv 10 = m / 10 := Int.tdiv_eq_ediv_of_nonneg h0
    have d2 : m.tmod 10 = m % 10 := Int.tmod_eq_emod_of_nonneg h0
    have w1 : IntKind.i64.wrap (48 + m.tmod 10) = 48 + m.tmod 10 := wrap64 (by omega) (by omega)
    have w2 : IntKind.i64.wrap (m.tdiv 10) = m.tdiv 10 := wrap64 (by omega) (by omega)
    have w3 : IntKind.u8.wrap (48 + m.tmod 10) = 48 + m.tmod 10 := by
      simp only [IntKind.wrap, IntKind.signed, IntKind.bits, Bool.false_and]
      simp; omega
    have u1 : (0 : Int) ≤ 48 + m.tmod 10 := by omega
    have u2 : 48 + m.tmod 10 < 256 := by omega
    have u3 : 1 + out.length ≤ 9223372036854775807 := by omega
    simp only [hm, w1, w2, w3, u1, u2, u3, unBytes, Int.reduceEq, go_sem]
    refine ih (m.tdiv 10, UInt8.ofNat (48 + m.tmod 10).toNat :: out) ⟨by simp only; omega, by simp only [List.length_cons]; omega, ?_⟩ (by simp only; omega)
    simp only
    rw [← h2]
    conv => rhs; rw [markGo]
    simp [hm]
  · have e : m = 0 := by omega
    subst e
    have u3 : 1 + out.length ≤ 9223372036854775807 := by omega
    simp only [u3, String.reduceToList, go_sem]
    simp only [fin_mk, finV, resL, resV1, resIn, endA, listIn, Option.some_or, Option.none_or, oneOrTup, go_sem]
    rw [← hr]
    rw [markGo] at h2
    simp only [markText, hk, if_false, ← h2]
    rfl
open Classical in
noncomputable def spSzMail : VM.Spec := { modes := [.rd, .rd], run := fun | [x', .int .i64 n] => (Mail.dec x').bind fun x => if x.le 4611686018427387904 ∧ 0 ≤ n ∧ n ≤ 4611686018427387904 then some (.int .i64 (Mail.sz x n), []) else none | _ => none, need := [] }
attribute [go_sem] spSzMail
theorem spSzMail_in {ins : List V} {r : V} {outs : List V} (h : spSzMail.run ins = some (r, outs)) : ∃ (x : Mail) (n : Int), ins = [Mail.enc x, .int .i64 n] ∧ (x.le 4611686018427387904 ∧ 0 ≤ n ∧ n ≤ 4611686018427387904) ∧ .int .i64 (Mail.sz x n) = r ∧ outs = [] := by
  unfold spSzMail at h
  simp only at h
  split at h
  · rename_i x' n
    simp only [Option.bind_eq_some_iff] at h
    obtain ⟨x, h_x, h⟩ := h
    split at h
    case isFalse => cases h
    rename_i hc
    simp only [Option.some.injEq, Prod.mk.injEq] at h
    obtain ⟨h1, h2⟩ := h
    have h_x := Mail.dec_some h_x
    subst h_x
    exact ⟨x, n, rfl, hc, h1, h2.symm⟩
  · cases h
def T_laws_szMail : Hints := ⟨fun _ => none, fun _ => none, fun i => if i = 0 then some [1, 2] else if i = 1 then some [1] else if i = 2 then some [1, 11] else if i = 3 then some [4] else if i = 4 then some [4] else none, fun _ => none⟩
noncomputable def Phi_laws_szMail : Tab := fun f => none
attribute [go_sem] T_laws_szMail Phi_laws_szMail
theorem phi_laws_szMail : ∀ f sp, Phi_laws_szMail f = some sp → FnOk Try.prog f sp ∧ ∀ n ∈ sp.need, n ∈ ([] : List String) := by
  intro f sp h
  unfold Phi_laws_szMail at h
  cases h
theorem ok_laws_szMail : FnOk Try.prog 62 spSzMail := by
  refine fn_ok (Φ := Phi_laws_szMail) (T := T_laws_szMail) phi_laws_szMail mixed Try.func62 rfl rfl rfl (by decide) ?_
  intro ins r outs hr hl
  clear hl
  have hs := spSzMail_in hr
  clear hr
  obtain ⟨x, n, rfl, hc, hr, rfl⟩ := hs
  simp only [spSzMail, Try.f62, Go.VM.initS]
  obtain ⟨hc, h0, h1⟩ := hc
  have c0 := hc
  have c0 : x.Text.length ≤ 4611686018427387904 := c0
  have w0 : IntKind.i64.wrap (n - (x.Text.length : Int)) = (n - (x.Text.length : Int)) := wrap64 (by omega) (by omega)
  by_cases b0 : (n - (x.Text.length : Int)) < 0
  · simp only [w0, b0, go_sem]
    repeat' ((first | apply qa | apply qb | apply qc | apply qd | apply qe | apply qf | apply qg | apply qh | apply qi | apply qj | apply qk) <;> intro hp <;> simp only [hp, w0, b0, go_sem])
    simp only [fin_mk, finV, resL, resV1, resIn, endA, listIn, Option.some_or, Option.none_or, oneOrTup, go_sem]
    rw [← hr]
    simp only [Mail.sz, thenSz, subSz, b0, if_true, if_false, Int.reduceNeg, Int.reduceLT]
  have a0 : 0 ≤ (n - (x.Text.length : Int)) := by omega
  have d0 : (n - (x.Text.length : Int)) ≤ 4611686018427387904 := by omega
  simp only [w0, b0, go_sem]
  repeat' ((first | apply qa | apply qb | apply qc | apply qd | apply qe | apply qf | apply qg | apply qh | apply qi | apply qj | apply qk) <;> intro hp <;> simp only [hp, w0, b0, go_sem])
  simp only [fin_mk, finV, resL, resV1, resIn, endA, listIn, Option.some_or, Option.none_or, oneOrTup, go_sem]
  rw [← hr]
  simp only [Mail.sz, thenSz, subSz, b0, if_true, if_false]
open Classical in
noncomputable def spToMail : VM.Spec := { modes := [.rd], run := fun | [x'] => (Mail.dec x').bind fun x => some (Mail.enc x, []) | _ => none, need := [] }
attribute [go_sem] spToMail
theorem spToMail_in {ins : List V} {r : V} {outs : List V} (h : spToMail.run ins = some (r, outs)) : ∃ (x : Mail), ins = [Mail.enc x] ∧ Mail.enc x = r ∧ outs = [] := by
  unfold spToMail at h
  simp only at h
  split at h
  · rename_i x'
    simp only [Option.bind_eq_some_iff] at h
    obtain ⟨x, h_x, h⟩ := h
    simp only [Option.some.injEq, Prod.mk.injEq] at h
    obtain ⟨h1, h2⟩ := h
    have h_x := Mail.dec_some h_x
    subst h_x
    exact ⟨x, rfl, h1, h2.symm⟩
  · cases h
def T_laws_toMail : Hints := ⟨fun _ => none, fun _ => none, fun i => if i = 0 then some [1, 2] else if i = 1 then some [1, 2, 3] else if i = 2 then some [1, 2, 3] else if i = 3 then some [1, 2, 3] else if i = 4 then some [1, 2, 3] else if i = 5 then some [2, 3] else if i = 6 then some [2] else none, fun _ => none⟩
noncomputable def Phi_laws_toMail : Tab := fun f => none
attribute [go_sem] T_laws_toMail Phi_laws_toMail
theorem phi_laws_toMail : ∀ f sp, Phi_laws_toMail f = some sp → FnOk Try.prog f sp ∧ ∀ n ∈ sp.need, n ∈ ([] : List String) := by
  intro f sp h
  unfold Phi_laws_toMail at h
  cases h
theorem ok_laws_toMail : FnOk Try.prog 63 spToMail := by
  refine fn_ok (Φ := Phi_laws_toMail) (T := T_laws_toMail) phi_laws_toMail mixed Try.func63 rfl rfl rfl (by decide) ?_
  intro ins r outs hr hl
  clear hl
  have hs := spToMail_in hr
  clear hr
  obtain ⟨x, rfl, hr, rfl⟩ := hs
  simp only [spToMail, Try.f63, Go.VM.initS]
  simp only [go_sem]
  repeat' ((first | apply qa | apply qb | apply qc | apply qd | apply qe | apply qf | apply qg | apply qh | apply qi | apply qj | apply qk) <;> intro hp <;> simp only [hp, go_sem])
  simp only [fin_mk, finV, resL, resV1, resIn, endA, listIn, Option.some_or, Option.none_or, oneOrTup, go_sem]
  rw [← hr]
  rfl
open Classical in
noncomputable def spEqMail : VM.Spec := { modes := [.rd, .rd], run := fun | [x', y'] => (Mail.dec x').bind fun x => (Mail.dec y').bind fun y => some (.bool (decide (x = y)), []) | _ => none, need := [] }
attribute [go_sem] spEqMail
theorem spEqMail_in {ins : List V} {r : V} {outs : List V} (h : spEqMail.run ins = some (r, outs)) : ∃ (x : Mail) (y : Mail), ins = [Mail.enc x, Mail.enc y] ∧ .bool (decide (x = y)) = r ∧ outs = [] := by
  unfold spEqMail at h
  simp only at h
  split at h
  · rename_i x' y'
    simp only [Option.bind_eq_some_iff] at h
    obtain ⟨x, h_x, y, h_y, h⟩ := h
    simp only [Option.some.injEq, Prod.mk.injEq] at h
    obtain ⟨h1, h2⟩ := h
    have h_x := Mail.dec_some h_x
    subst h_x
    have h_y := Mail.dec_some h_y
    subst h_y
    exact ⟨x, y, rfl, h1, h2.symm⟩
  · cases h
def T_laws_eqMail : Hints := ⟨fun _ => none, fun _ => none, fun i => if i = 0 then some [2, 3] else if i = 1 then some [2, 3, 9] else if i = 2 then some [4] else if i = 3 then some [2, 3, 14] else if i = 4 then some [4] else if i = 5 then some [2, 3, 19] else if i = 6 then some [4] else if i = 7 then some [24] else if i = 8 then some [4] else if i = 9 then some [4] else none, fun _ => none⟩
noncomputable def Phi_laws_eqMail : Tab := fun f => none
attribute [go_sem] T_laws_eqMail Phi_laws_eqMail
theorem phi_laws_eqMail : ∀ f sp, Phi_laws_eqMail f = some sp → FnOk Try.prog f sp ∧ ∀ n ∈ sp.need, n ∈ ([] : List String) := by
  intro f sp h
  unfold Phi_laws_eqMail at h
  cases h
theorem ok_laws_eqMail : FnOk Try.prog 70 spEqMail := by
  refine fn_ok (Φ := Phi_laws_eqMail) (T := T_laws_eqMail) phi_laws_eqMail mixed Try.func70 rfl rfl rfl (by decide) ?_
  intro ins r outs hr hl
  clear hl
  have hs := spEqMail_in hr
  clear hr
  obtain ⟨x, y, rfl, hr, rfl⟩ := hs
  simp only [spEqMail, Try.f70, Go.VM.initS]
  simp only [and_self, go_sem]
  repeat' ((first | apply qa | apply qb | apply qc | apply qd | apply qe | apply qf | apply qg | apply qh | apply qi | apply qj | apply qk) <;> intro hp <;> simp only [hp, and_self, go_sem])
  all_goals (simp only [fin_mk, finV, resL, resV1, resIn, endA, listIn, Option.some_or, Option.none_or, oneOrTup, go_sem]; rw [← hr])
  all_goals (cases x; cases y; simp_all)
open Classical in
noncomputable def spSzMailS : VM.Spec := { modes := [.rd, .rd], run := fun | [.lst 4 l', .int .i64 n] => (decL Mail.dec l').bind fun l => if leL Mail.le 4611686018427387904 l ∧ 0 ≤ n ∧ n ≤ 4611686018427387904 then some (.int .i64 (szLL Mail.sz l n), []) else none | _ => none, need := [] }
attribute [go_sem] spSzMailS
theorem spSzMailS_in {ins : List V} {r : V} {outs : List V} (h : spSzMailS.run ins = some (r, outs)) : ∃ (l : (List Mail)) (n : Int), ins = [.lst 4 ((l).map Mail.enc), .int .i64 n] ∧ (leL Mail.le 4611686018427387904 l ∧ 0 ≤ n ∧ n ≤ 4611686018427387904) ∧ .int .i64 (szLL Mail.sz l n) = r ∧ outs = [] := by
  unfold spSzMailS at h
  simp only at h
  split at h
  · rename_i l' n
    simp only [Option.bind_eq_some_iff] at h
    obtain ⟨l, h_l, h⟩ := h
    split at h
    case isFalse => cases h
    rename_i hc
    simp only [Option.some.injEq, Prod.mk.injEq] at h
    obtain ⟨h1, h2⟩ := h
    have h_l := decL_some (fun _ _ h => Mail.dec_some h) h_l
    subst h_l
    exact ⟨l, n, rfl, hc, h1, h2.symm⟩
  · cases h
def T_laws_szMailS : Hints := ⟨fun _ => none, fun i => if i = 5 then some [0, 1, 5] else none, fun i => if i = 0 then some [0, 1] else if i = 1 then some [0, 1] else if i = 2 then some [0, 1, 11] else if i = 3 then some [4] else if i = 4 then some [0, 1, 5] else if i = 5 then some [0, 1, 5, 15] else if i = 7 then some [0, 1, 5] else if i = 8 then some [0, 1, 5, 25] else if i = 9 then some [4] else if i = 6 then some [0, 1, 5] else if i = 10 then some [4] else none, fun _ => none⟩
noncomputable def Phi_laws_szMailS : Tab := fun f => if f = 62 then some spSzMail else none
attribute [go_sem] T_laws_szMailS Phi_laws_szMailS
theorem phi_laws_szMailS : ∀ f sp, Phi_laws_szMailS f = some sp → FnOk Try.prog f sp ∧ ∀ n ∈ sp.need, n ∈ ([] : List String) := by
  intro f sp h
  unfold Phi_laws_szMailS at h
  by_cases e : f = 62
  · rw [if_pos e] at h; cases h; rw [e]; exact ⟨ok_laws_szMail, (fun n (h : n ∈ ([] : List String)) => (nomatch h))⟩
  rw [if_neg e] at h
  cases h
theorem ok_laws_szMailS : FnOk Try.prog 49 spSzMailS := by
  refine fn_ok (Φ := Phi_laws_szMailS) (T := T_laws_szMailS) phi_laws_szMailS mixed Try.func49 rfl rfl rfl (by decide) ?_
  intro ins r outs hr hl
  clear hl
  have hs := spSzMailS_in hr
  clear hr
  obtain ⟨l, n, rfl, hc, hr, rfl⟩ := hs
  simp only [spSzMailS, Try.f49, Go.VM.initS]
  obtain ⟨⟨hc, hd⟩, h0, h1⟩ := hc
  have w : IntKind.i64.wrap (n - (l.length : Int)) = n - l.length := wrap64 (by omega) (by omega)
  by_cases b : n - (l.length : Int) < 0
  · simp only [w, b, go_sem]
    repeat' ((first | apply qa | apply qb | apply qc | apply qd | apply qe | apply qf | apply qg | apply qh | apply qi | apply qj | apply qk) <;> intro hp <;> simp only [hp, w, b, go_sem])
    simp only [fin_mk, finV, resL, resV1, resIn, endA, listIn, Option.some_or, Option.none_or, oneOrTup, go_sem]
    rw [← hr]
    simp only [szLL, thenSz, subSz, b, if_true, Int.reduceNeg, Int.reduceLT]
  simp only [w, b, go_sem]
  refine loop_go (fun p : Nat × Int => [(1, .int .i64 p.2), (5, .int .i64 (p.1 : Int))]) (fun _ => []) (fun p => l.length - p.1) (fun p => p.1 ≤ l.length ∧ p.2 = szL Mail.sz (l.take p.1) (n - l.length) ∧ 0 ≤ p.2 ∧ p.2 ≤ 4611686018427387904) (0, n - l.length) ⟨Nat.zero_le _, rfl, by simp only; omega, by simp only; omega⟩ rfl rfl ?_
  rintro ⟨i, m⟩ ⟨hi, hm, m0, m1⟩ ih
  simp only at hi hm m0 m1 ih
  have hsz : Mail.sz = Mail.sz := rfl
  have hend : szLL Mail.sz l n = szL Mail.sz l (n - l.length) := by simp only [szLL, thenSz, subSz, b, if_false]
  rcases Nat.lt_or_ge i l.length with h | h
  · have g1 : (i : Int) < l.length := by omega
    have g2 : (0 : Int) ≤ i := by omega
    have g3 : l[i]? = some l[i] := List.getElem?_eq_getElem h
    have g5 := wrap_succ h hc
    have gx : l[i].le 4611686018427387904 := hd _ (List.getElem_mem h)
    rcases Mail.sz_ok l[i] m 4611686018427387904 m0 m1 with e | ⟨e1, e2, -⟩
    · simp only [g1, g2, g3, g5, gx, m0, m1, e, go_sem]
      repeat' ((first | apply qa | apply qb | apply qc | apply qd | apply qe | apply qf | apply qg | apply qh | apply qi | apply qj | apply qk) <;> intro hp <;> simp only [hp, g1, g2, g3, g5, gx, m0, m1, e, go_sem])
      simp only [fin_mk, finV, resL, resV1, resIn, endA, listIn, Option.some_or, Option.none_or, oneOrTup, go_sem]
      rw [← hr]
      rw [hend, szL_bad l i _ h (by rw [← hm]; exact m0) (by rw [← hm, e]; decide)]
    · have e3 : ¬ Mail.sz l[i] m < 0 := by omega
      simp only [g1, g2, g3, g5, gx, m0, m1, e3, go_sem]
      repeat' ((first | apply qa | apply qb | apply qc | apply qd | apply qe | apply qf | apply qg | apply qh | apply qi | apply qj | apply qk) <;> intro hp <;> simp only [hp, g1, g2, g3, g5, gx, m0, m1, e3, go_sem])
      refine ih (i + 1, Mail.sz l[i] m) ⟨h, ?_, e1, by simp only; omega⟩ (by simp only; omega)
      have key := szL_take (f := Mail.sz) l i (n - l.length) h (fun k hk => ?_) (by rw [← hm]; exact m0) (by omega)
      · rw [key, hm]
      · exact Mail.sz_neg _ _ hk
  · have g1 : ¬ (i : Int) < l.length := by omega
    simp only [g1, go_sem]
    simp only [fin_mk, finV, resL, resV1, resIn, endA, listIn, Option.some_or, Option.none_or, oneOrTup, go_sem]
    rw [← hr]
    rw [hend, hm, List.take_of_length_le h]
open Classical in
noncomputable def spToMailS : VM.Spec := { modes := [.rd], run := fun | [.lst 4 l'] => (decL Mail.dec l').bind fun l => if l.length ≤ 4194304 then some (.lst 4 ((l).map Mail.enc), []) else none | _ => none, need := [] }
attribute [go_sem] spToMailS
theorem spToMailS_in {ins : List V} {r : V} {outs : List V} (h : spToMailS.run ins = some (r, outs)) : ∃ (l : (List Mail)), ins = [.lst 4 ((l).map Mail.enc)] ∧ (l.length ≤ 4194304) ∧ .lst 4 ((l).map Mail.enc) = r ∧ outs = [] := by
  unfold spToMailS at h
  simp only at h
  split at h
  · rename_i l'
    simp only [Option.bind_eq_some_iff] at h
    obtain ⟨l, h_l, h⟩ := h
    split at h
    case isFalse => cases h
    rename_i hc
    simp only [Option.some.injEq, Prod.mk.injEq] at h
    obtain ⟨h1, h2⟩ := h
    have h_l := decL_some (fun _ _ h => Mail.dec_some h) h_l
    subst h_l
    exact ⟨l, rfl, hc, h1, h2.symm⟩
  · cases h
def T_laws_toMailS : Hints := ⟨fun _ => none, fun i => if i = 3 then some [0, 3, 4] else none, fun i => if i = 0 then some [0] else if i = 1 then some [0, 3] else if i = 2 then some [0, 3, 4] else if i = 3 then some [0, 3, 4, 11] else if i = 5 then some [0, 3, 4] else if i = 4 then some [0, 3, 4] else if i = 6 then some [2] else none, fun _ => none⟩
noncomputable def Phi_laws_toMailS : Tab := fun f => if f = 63 then some spToMail else none
attribute [go_sem] T_laws_toMailS Phi_laws_toMailS
theorem phi_laws_toMailS : ∀ f sp, Phi_laws_toMailS f = some sp → FnOk Try.prog f sp ∧ ∀ n ∈ sp.need, n ∈ ([] : List String) := by
  intro f sp h
  unfold Phi_laws_toMailS at h
  by_cases e : f = 63
  · rw [if_pos e] at h; cases h; rw [e]; exact ⟨ok_laws_toMail, (fun n (h : n ∈ ([] : List String)) => (nomatch h))⟩
  rw [if_neg e] at h
  cases h
theorem ok_laws_toMailS : FnOk Try.prog 54 spToMailS := by
  refine fn_ok (Φ := Phi_laws_toMailS) (T := T_laws_toMailS) phi_laws_toMailS mixed Try.func54 rfl rfl rfl (by decide) ?_
  intro ins r outs hr hl
  clear hl
  have hs := spToMailS_in hr
  clear hr
  obtain ⟨l, rfl, hc, hr, rfl⟩ := hs
  simp only [spToMailS, Try.f54, Go.VM.initS]
  have h1 : (l.length : Int) ≤ 9223372036854775807 := by omega
  have h2 : (l.length : Int) * 40 ≤ 140737488355328 := by omega
  have h3 : (0 : Int) ≤ l.length := by omega
  simp only [h1, h2, h3, Int.cast_ofNat_Int, go_sem]
  refine loop_go (fun p : Nat × List V => [(4, .int .i64 (p.1 : Int))]) (fun p => [(0, ⟨.arr, 4, p.2⟩)]) (fun p => l.length - p.1) (fun p => p.1 ≤ l.length ∧ p.2 = (l.take p.1).map Mail.enc ++ List.replicate (l.length - p.1) (.agg [.int .i64 0, .int .i64 0, .int .i64 0, .str []])) (0, List.replicate l.length (.agg [.int .i64 0, .int .i64 0, .int .i64 0, .str []])) ⟨Nat.zero_le _, by simp⟩ rfl rfl ?_
  rintro ⟨i, els⟩ ⟨hi, hels⟩ ih
  simp only at hi hels ih
  have hlen : els.length = l.length := by rw [hels]; simp; omega
  rcases Nat.lt_or_ge i l.length with h | h
  · have g1 : (i : Int) < l.length := by omega
    have g2 : (0 : Int) ≤ i := by omega
    have g3 : l[i]? = some l[i] := List.getElem?_eq_getElem h
    have g4 : els[i]? = some (els[i]'(by omega)) := List.getElem?_eq_getElem (by omega)
    have g5 := wrap_succ h (by omega)
    skip
    simp only [g1, g2, g3, g4, g5, hlen, go_sem]
    repeat' ((first | apply qa | apply qb | apply qc | apply qd | apply qe | apply qf | apply qg | apply qh | apply qi | apply qj | apply qk) <;> intro hp <;> simp only [hp, g1, g2, g3, g4, g5, hlen, go_sem])
    refine ih (i + 1, els.set i (.agg [.int .i64 l[i].Uid, .int .i64 l[i].Flags, .int .i64 l[i].Mod, .str l[i].Text])) ⟨h, ?_⟩ (by simp only; omega)
    simp only
    rw [hels]
    exact fill_step _ h rfl
  · have g1 : ¬ (i : Int) < l.length := by omega
    simp only [g1, go_sem]
    simp only [fin_mk, finV, resL, resV1, resIn, endA, listIn, Option.some_or, Option.none_or, oneOrTup, go_sem]
    rw [← hr, hels, List.take_of_length_le h, show l.length - i = 0 by omega]
    simp
open Classical in
noncomputable def spEqMailS : VM.Spec := { modes := [.rd, .rd], run := fun | [.lst 4 x', .lst 4 y'] => (decL Mail.dec x').bind fun x => (decL Mail.dec y').bind fun y => if x.length ≤ 4194304 ∧ y.length ≤ 4194304 then some (.bool (decide (x = y)), []) else none | _ => none, need := [] }
attribute [go_sem] spEqMailS
theorem spEqMailS_in {ins : List V} {r : V} {outs : List V} (h : spEqMailS.run ins = some (r, outs)) : ∃ (x : (List Mail)) (y : (List Mail)), ins = [.lst 4 ((x).map Mail.enc), .lst 4 ((y).map Mail.enc)] ∧ (x.length ≤ 4194304 ∧ y.length ≤ 4194304) ∧ .bool (decide (x = y)) = r ∧ outs = [] := by
  unfold spEqMailS at h
  simp only at h
  split at h
  · rename_i x' y'
    simp only [Option.bind_eq_some_iff] at h
    obtain ⟨x, h_x, y, h_y, h⟩ := h
    split at h
    case isFalse => cases h
    rename_i hc
    simp only [Option.some.injEq, Prod.mk.injEq] at h
    obtain ⟨h1, h2⟩ := h
    have h_x := decL_some (fun _ _ h => Mail.dec_some h) h_x
    subst h_x
    have h_y := decL_some (fun _ _ h => Mail.dec_some h) h_y
    subst h_y
    exact ⟨x, y, rfl, hc, h1, h2.symm⟩
  · cases h
def T_laws_eqMailS : Hints := ⟨fun i => if i = 6 then some [] else none, fun i => if i = 4 then some [0, 1, 5] else none, fun i => if i = 0 then some [0, 1] else if i = 1 then some [0, 1, 10] else if i = 2 then some [4] else if i = 3 then some [0, 1, 5] else if i = 4 then some [0, 1, 5, 14] else if i = 6 then some [0, 1, 5, 26] else if i = 7 then some [4] else if i = 5 then some [0, 1, 5] else if i = 8 then some [4] else none, fun _ => none⟩
noncomputable def Phi_laws_eqMailS : Tab := fun f => if f = 70 then some spEqMail else none
attribute [go_sem] T_laws_eqMailS Phi_laws_eqMailS
theorem phi_laws_eqMailS : ∀ f sp, Phi_laws_eqMailS f = some sp → FnOk Try.prog f sp ∧ ∀ n ∈ sp.need, n ∈ ([] : List String) := by
  intro f sp h
  unfold Phi_laws_eqMailS at h
  by_cases e : f = 70
  · rw [if_pos e] at h; cases h; rw [e]; exact ⟨ok_laws_eqMail, (fun n (h : n ∈ ([] : List String)) => (nomatch h))⟩
  rw [if_neg e] at h
  cases h
theorem ok_laws_eqMailS : FnOk Try.prog 59 spEqMailS := by
  refine fn_ok (Φ := Phi_laws_eqMailS) (T := T_laws_eqMailS) phi_laws_eqMailS mixed Try.func59 rfl rfl rfl (by decide) ?_
  intro ins r outs hr hl
  clear hl
  have hs := spEqMailS_in hr
  clear hr
  obtain ⟨x, y, rfl, hc, hr, rfl⟩ := hs
  simp only [spEqMailS, Try.f59, Go.VM.initS]
  obtain ⟨hx, hy⟩ := hc
  by_cases hl : x.length = y.length
  case neg =>
    have g : ((x.length : Int) == y.length) = false := by rw [beq_eq_false_iff_ne]; omega
    have g' : ((x.length : Int) != y.length) = true := by rw [bne_iff_ne]; omega
    have hne : x ≠ y := fun e => hl (by rw [e])
    simp only [g, g', go_sem]
    repeat' ((first | ((first | apply qa | apply qb | apply qc | apply qd | apply qe | apply qf | apply qg | apply qh | apply qi | apply qj | apply qk) <;> intro hp) | ((first | refine ql rfl rfl (by decide +kernel) ?_ | refine qm _ rfl rfl (by decide +kernel) ?_) <;> have hp := True.intro)) <;> simp only [hp, g, g', go_sem])
    simp only [fin_mk, finV, resL, resV1, resIn, endA, listIn, Option.some_or, Option.none_or, oneOrTup, go_sem]
    rw [← hr]
    simp only [hne, decide_false]
  have hl' : (x.length : Int) = y.length := by omega
  simp only [hl, bne_self_eq_false, go_sem]
  repeat' ((first | ((first | apply qa | apply qb | apply qc | apply qd | apply qe | apply qf | apply qg | apply qh | apply qi | apply qj | apply qk) <;> intro hp) | ((first | refine ql rfl rfl (by decide +kernel) ?_ | refine qm _ rfl rfl (by decide +kernel) ?_) <;> have hp := True.intro)) <;> simp only [hp, hl, bne_self_eq_false, go_sem])
  refine loop_go (fun i : Nat => [(5, .int .i64 (i : Int))]) (fun _ => []) (fun i => x.length - i) (fun i => i ≤ x.length ∧ x.take i = y.take i) 0 ⟨Nat.zero_le _, by simp⟩ rfl rfl ?_
  intro i ⟨hi, he⟩ ih
  rcases Nat.lt_or_ge i x.length with h | h
  · have g1 : (i : Int) < x.length := by omega
    have g1' : (i : Int) < y.length := by omega
    have g2 : (0 : Int) ≤ i := by omega
    have g3 : x[i]? = some x[i] := List.getElem?_eq_getElem h
    have g4 : y[i]? = some (y[i]'(by omega)) := List.getElem?_eq_getElem (by omega)
    have g5 := wrap_succ h (by omega)
    skip
    by_cases hv : x[i] = (y[i]'(by omega))
    · simp only [g1, g1', g2, g3, g4, g5, hv, go_sem]
      repeat' ((first | ((first | apply qa | apply qb | apply qc | apply qd | apply qe | apply qf | apply qg | apply qh | apply qi | apply qj | apply qk) <;> intro hp) | ((first | refine ql rfl rfl (by decide +kernel) ?_ | refine qm _ rfl rfl (by decide +kernel) ?_) <;> have hp := True.intro)) <;> simp only [hp, g1, g1', g2, g3, g4, g5, hv, go_sem])
      exact ih (i + 1) ⟨h, by rw [List.take_add_one, List.take_add_one, he, g3, g4, hv]⟩ (by omega)
    · have hne : x ≠ y := by rintro rfl; exact hv rfl
      have hv1 : (x[i] == (y[i]'(by omega))) = false := by rw [beq_eq_false_iff_ne]; exact hv
      have hv2 : (x[i] != (y[i]'(by omega))) = true := by rw [bne_iff_ne]; exact hv
      simp only [g1, g1', g2, g3, g4, g5, hv, hv1, hv2, go_sem]
      repeat' ((first | ((first | apply qa | apply qb | apply qc | apply qd | apply qe | apply qf | apply qg | apply qh | apply qi | apply qj | apply qk) <;> intro hp) | ((first | refine ql rfl rfl (by decide +kernel) ?_ | refine qm _ rfl rfl (by decide +kernel) ?_) <;> have hp := True.intro)) <;> simp only [hp, g1, g1', g2, g3, g4, g5, hv, hv1, hv2, go_sem])
      simp only [fin_mk, finV, resL, resV1, resIn, endA, listIn, Option.some_or, Option.none_or, oneOrTup, go_sem]
      rw [← hr]
      simp only [hne, decide_false]
  · have g1 : ¬ (i : Int) < x.length := by omega
    have g1' : ¬ (i : Int) < y.length := by omega
    simp only [g1, g1', go_sem]
    simp only [fin_mk, finV, resL, resV1, resIn, endA, listIn, Option.some_or, Option.none_or, oneOrTup, go_sem]
    rw [← hr]
    rw [List.take_of_length_le h, List.take_of_length_le (by omega)] at he
    simp only [he, decide_true]
open Classical in
noncomputable def spMarkMailS : VM.Spec := { modes := [.io, .rd], run := fun | [.lst 4 l', .int .i64 k] => (decL Mail.dec l').bind fun l => if l.length ≤ 4194304 ∧ 0 ≤ k ∧ k ≤ 1152921504606846976 then some (.int .i64 ((markL meMail l k).2), [.lst 4 (((markL meMail l k).1).map Mail.enc)]) else none | _ => none, need := [] }
attribute [go_sem] spMarkMailS
theorem spMarkMailS_in {ins : List V} {r : V} {outs : List V} (h : spMarkMailS.run ins = some (r, outs)) : ∃ (l : (List Mail)) (k : Int), ins = [.lst 4 ((l).map Mail.enc), .int .i64 k] ∧ (l.length ≤ 4194304 ∧ 0 ≤ k ∧ k ≤ 1152921504606846976) ∧ .int .i64 ((markL meMail l k).2) = r ∧ outs = [.lst 4 (((markL meMail l k).1).map Mail.enc)] := by
  unfold spMarkMailS at h
  simp only at h
  split at h
  · rename_i l' k
    simp only [Option.bind_eq_some_iff] at h
    obtain ⟨l, h_l, h⟩ := h
    split at h
    case isFalse => cases h
    rename_i hc
    simp only [Option.some.injEq, Prod.mk.injEq] at h
    obtain ⟨h1, h2⟩ := h
    have h_l := decL_some (fun _ _ h => Mail.dec_some h) h_l
    subst h_l
    exact ⟨l, k, rfl, hc, h1, h2.symm⟩
  · cases h
def T_laws_markMailS : Hints := ⟨fun _ => none, fun i => if i = 2 then some [0, 1, 5] else none, fun i => if i = 0 then some [0, 1] else if i = 1 then some [0, 1, 5] else if i = 2 then some [0, 1, 5, 9] else if i = 4 then some [0, 1, 5] else if i = 5 then some [0, 1, 5] else if i = 6 then some [0, 1, 5] else if i = 7 then some [0, 1, 5] else if i = 8 then some [0, 1, 5] else if i = 9 then some [0, 1, 5] else if i = 10 then some [0, 1, 5] else if i = 11 then some [0, 1, 5] else if i = 3 then some [0, 1, 5] else if i = 12 then some [4] else none, fun _ => none⟩
noncomputable def Phi_laws_markMailS : Tab := fun f => if f = 42 then some spMarkText else none
attribute [go_sem] T_laws_markMailS Phi_laws_markMailS
theorem phi_laws_markMailS : ∀ f sp, Phi_laws_markMailS f = some sp → FnOk Try.prog f sp ∧ ∀ n ∈ sp.need, n ∈ ([] : List String) := by
  intro f sp h
  unfold Phi_laws_markMailS at h
  by_cases e : f = 42
  · rw [if_pos e] at h; cases h; rw [e]; exact ⟨ok_laws_markText, (fun n (h : n ∈ ([] : List String)) => (nomatch h))⟩
  rw [if_neg e] at h
  cases h
theorem ok_laws_markMailS : FnOk Try.prog 43 spMarkMailS := by
  refine fn_ok (Φ := Phi_laws_markMailS) (T := T_laws_markMailS) phi_laws_markMailS mixed Try.func43 rfl rfl rfl (by decide) ?_
  intro ins r outs hr hl
  clear hl
  have hs := spMarkMailS_in hr
  clear hr
  obtain ⟨l, k, rfl, hc, hr, rfl⟩ := hs
  simp only [spMarkMailS, Try.f43, Go.VM.initS]
  obtain ⟨hc, h0, h1⟩ := hc
  simp only [go_sem]
  refine loop_go (fun p : Nat × List V × Int => [(1, .int .i64 p.2.2), (5, .int .i64 (p.1 : Int))]) (fun p => [(0, ⟨.arr, 4, p.2.1⟩)]) (fun p => l.length - p.1) (fun p => p.1 ≤ l.length ∧ p.2.1 = ((markL meMail (l.take p.1) k).1 ++ l.drop p.1).map Mail.enc ∧ p.2.2 = (markL meMail (l.take p.1) k).2 ∧ p.2.2 = k + (4 : Nat) * p.1) (0, l.map Mail.enc, k) ⟨Nat.zero_le _, by simp [markL], rfl, by simp⟩ rfl rfl ?_
  rintro ⟨i, els, k'⟩ ⟨hi, he, hk, hb⟩ ih
  simp only at hi he hk hb ih
  rcases Nat.lt_or_ge i l.length with h | h
  · have g1 : (i : Int) < l.length := by omega
    have g2 : (0 : Int) ≤ i := by omega
    obtain ⟨g3, gl, gs, gk⟩ := mark_round h he
    rw [← hk] at gs gk
    have g5 := wrap_succ h (by omega)
    have j0 : k' ≤ 4611686018427387904 := by omega
    have w0 : IntKind.i64.wrap (k' + 1) = k' + 1 := wrap64 (by omega) (by omega)
    have w1 : IntKind.i64.wrap (k' + 1 + 1) = k' + 1 + 1 := wrap64 (by omega) (by omega)
    have w2 : IntKind.i64.wrap (k' + 1 + 1 + 1) = k' + 1 + 1 + 1 := wrap64 (by omega) (by omega)
    have w3 : IntKind.i64.wrap (k' + 1 + 1 + 1 + 1) = k' + 1 + 1 + 1 + 1 := wrap64 (by omega) (by omega)
    have j1 : k' + 1 ≤ 4611686018427387904 := by omega
    have j2 : k' + 1 + 1 ≤ 4611686018427387904 := by omega
    have j3 : k' + 1 + 1 + 1 ≤ 4611686018427387904 := by omega
    have j4 : k' + 1 + 1 + 1 + 1 ≤ 4611686018427387904 := by omega
    rw [Mail.enc] at g3
    have gi : i < els.length := by omega
    simp only [g1, g2, g3, gl, g5, h, w0, w1, w2, w3, j0, j1, j2, j3, j4, List.getElem?_set_self, List.length_set, List.set_set, go_sem]
    repeat' ((first | apply qa | apply qb | apply qc | apply qd | apply qe | apply qf | apply qg | apply qh | apply qi | apply qj | apply qk) <;> intro hp <;> simp only [hp, g1, g2, g3, gl, g5, h, w0, w1, w2, w3, j0, j1, j2, j3, j4, List.getElem?_set_self, List.length_set, List.set_set, go_sem])
    refine ih (i + 1, els.set i (Mail.enc (meMail l[i] k').1), (meMail l[i] k').2) ⟨h, gs, gk, by simp only [meMail]; omega⟩ (by simp only; omega)
  · have g1 : ¬ (i : Int) < l.length := by omega
    have gl : els.length = l.length := by rw [he]; simp [markL_len]; omega
    simp only [g1, gl, go_sem]
    simp only [fin_mk, finV, resL, resV1, resIn, endA, listIn, Option.some_or, Option.none_or, oneOrTup, go_sem]
    rw [← hr, he, hk, List.take_of_length_le h, List.drop_of_length_le h, List.append_nil]
open Classical in
noncomputable def spHeldMailS : VM.Spec := { modes := [.rd, .rd], run := fun | [.lst 4 l', .int .i64 k] => (decL Mail.dec l').bind fun l => if l.length ≤ 4194304 ∧ 0 ≤ k ∧ k ≤ 1152921504606846976 then some (.int .i64 ((heldL heMail l k).getD (-1)), []) else none | _ => none, need := [] }
attribute [go_sem] spHeldMailS
theorem spHeldMailS_in {ins : List V} {r : V} {outs : List V} (h : spHeldMailS.run ins = some (r, outs)) : ∃ (l : (List Mail)) (k : Int), ins = [.lst 4 ((l).map Mail.enc), .int .i64 k] ∧ (l.length ≤ 4194304 ∧ 0 ≤ k ∧ k ≤ 1152921504606846976) ∧ .int .i64 ((heldL heMail l k).getD (-1)) = r ∧ outs = [] := by
  unfold spHeldMailS at h
  simp only at h
  split at h
  · rename_i l' k
    simp only [Option.bind_eq_some_iff] at h
    obtain ⟨l, h_l, h⟩ := h
    split at h
    case isFalse => cases h
    rename_i hc
    simp only [Option.some.injEq, Prod.mk.injEq] at h
    obtain ⟨h1, h2⟩ := h
    have h_l := decL_some (fun _ _ h => Mail.dec_some h) h_l
    subst h_l
    exact ⟨l, k, rfl, hc, h1, h2.symm⟩
  · cases h
def T_laws_heldMailS : Hints := ⟨fun i => if i = 13 then some [(2, 6), (3, 6), (4, 6)] else none, fun i => if i = 2 then some [0, 1, 5] else none, fun i => if i = 0 then some [0, 1] else if i = 1 then some [0, 1, 5] else if i = 2 then some [0, 1, 5, 9] else if i = 4 then some [0, 1, 5, 18] else if i = 5 then some [4] else if i = 6 then some [0, 1, 5] else if i = 7 then some [0, 1, 5, 27] else if i = 8 then some [4] else if i = 9 then some [0, 1, 5] else if i = 10 then some [0, 1, 5, 36] else if i = 11 then some [4] else if i = 12 then some [0, 1, 5] else if i = 13 then some [0, 1, 5, 46] else if i = 14 then some [4] else if i = 15 then some [0, 1, 5] else if i = 3 then some [0, 1, 5] else if i = 16 then some [4] else none, fun _ => none⟩
noncomputable def Phi_laws_heldMailS : Tab := fun f => if f = 42 then some spMarkText else none
attribute [go_sem] T_laws_heldMailS Phi_laws_heldMailS
theorem phi_laws_heldMailS : ∀ f sp, Phi_laws_heldMailS f = some sp → FnOk Try.prog f sp ∧ ∀ n ∈ sp.need, n ∈ ([] : List String) := by
  intro f sp h
  unfold Phi_laws_heldMailS at h
  by_cases e : f = 42
  · rw [if_pos e] at h; cases h; rw [e]; exact ⟨ok_laws_markText, (fun n (h : n ∈ ([] : List String)) => (nomatch h))⟩
  rw [if_neg e] at h
  cases h
theorem ok_laws_heldMailS : FnOk Try.prog 45 spHeldMailS := by
  refine fn_ok (Φ := Phi_laws_heldMailS) (T := T_laws_heldMailS) phi_laws_heldMailS mixed Try.func45 rfl rfl rfl (by decide) ?_
  intro ins r outs hr hl
  clear hl
  have hs := spHeldMailS_in hr
  clear hr
  obtain ⟨l, k, rfl, hc, hr, rfl⟩ := hs
  simp only [spHeldMailS, Try.f45, Go.VM.initS]
  obtain ⟨hc, h0, h1⟩ := hc
  simp only [go_sem]
  refine loop_go (fun p : Nat × Int => [(1, .int .i64 p.2), (5, .int .i64 (p.1 : Int))]) (fun p => []) (fun p => l.length - p.1) (fun p => p.1 ≤ l.length ∧ heldL heMail (l.take p.1) k = some p.2 ∧ p.2 = k + (4 : Nat) * p.1) (0, k) ⟨Nat.zero_le _, rfl, by simp⟩ rfl rfl ?_
  rintro ⟨i, k'⟩ ⟨hi, hk, hb⟩ ih
  simp only at hi hk hb ih
  rcases Nat.lt_or_ge i l.length with h | h
  · have g1 : (i : Int) < l.length := by omega
    have g2 : (0 : Int) ≤ i := by omega
    have g3 : l[i]? = some l[i] := List.getElem?_eq_getElem h
    have g5 := wrap_succ h (by omega)
    have j0 : k' ≤ 4611686018427387904 := by omega
    have w0 : IntKind.i64.wrap (k' + 1) = k' + 1 := wrap64 (by omega) (by omega)
    have w1 : IntKind.i64.wrap (k' + 1 + 1) = k' + 1 + 1 := wrap64 (by omega) (by omega)
    have w2 : IntKind.i64.wrap (k' + 1 + 1 + 1) = k' + 1 + 1 + 1 := wrap64 (by omega) (by omega)
    have w3 : IntKind.i64.wrap (k' + 1 + 1 + 1 + 1) = k' + 1 + 1 + 1 + 1 := wrap64 (by omega) (by omega)
    have j1 : k' + 1 ≤ 4611686018427387904 := by omega
    have j2 : k' + 1 + 1 ≤ 4611686018427387904 := by omega
    have j3 : k' + 1 + 1 + 1 ≤ 4611686018427387904 := by omega
    have j4 : k' + 1 + 1 + 1 + 1 ≤ 4611686018427387904 := by omega
    have hbad : (meMail l[i] k').1 ≠ l[i] → V.int .i64 (-1) = r := fun hn => by
      rw [← hr, heldL_bad h hk (by simp only [heMail, heOf, hn, if_false])]; rfl
    have hgood : (meMail l[i] k').1 = l[i] → heldL heMail (l.take (i + 1)) k = some ((meMail l[i] k').2) := fun hn => heldL_good h hk (by simp only [heMail, heOf, hn, if_true])
    by_cases hn : (meMail l[i] k').1 = l[i]
    · have e0 : l[i].Uid = k' := (congrArg Mail.Uid hn).symm
      have e1 : l[i].Flags = k' + 1 := (congrArg Mail.Flags hn).symm
      have e2 : l[i].Mod = k' + 1 + 1 := (congrArg Mail.Mod hn).symm
      have e3 : l[i].Text = markText (k' + 1 + 1 + 1) := (congrArg Mail.Text hn).symm
      simp only [g1, g2, g3, g5, w0, w1, w2, w3, j0, j1, j2, j3, j4, e0, e1, e2, e3, bne_self_eq_false, go_sem]
      repeat' ((first | ((first | apply qa | apply qb | apply qc | apply qd | apply qe | apply qf | apply qg | apply qh | apply qi | apply qj | apply qk) <;> intro hp) | ((first | refine ql rfl rfl (by decide +kernel) ?_ | refine qm _ rfl rfl (by decide +kernel) ?_) <;> have hp := True.intro)) <;> simp only [hp, g1, g2, g3, g5, w0, w1, w2, w3, j0, j1, j2, j3, j4, e0, e1, e2, e3, bne_self_eq_false, go_sem])
      exact ih (i + 1, (meMail l[i] k').2) ⟨h, hgood hn, by simp only [meMail]; omega⟩ (by simp only; omega)
    · simp only [g1, g2, g3, g5, w0, w1, w2, w3, j0, j1, j2, j3, j4, go_sem]
      repeat' ((first | ((first | apply qa | apply qb | apply qc | apply qd | apply qe | apply qf | apply qg | apply qh | apply qi | apply qj | apply qk) <;> intro hp) | ((first | refine ql rfl rfl (by decide +kernel) ?_ | refine qm _ rfl rfl (by decide +kernel) ?_) <;> have hp := True.intro)) <;> simp only [hp, g1, g2, g3, g5, w0, w1, w2, w3, j0, j1, j2, j3, j4, go_sem])
      all_goals first
        | (refine fin_mk.2 ?_; simp only [fin_mk, finV, resL, resV1, resIn, endA, listIn, Option.some_or, Option.none_or, oneOrTup, go_sem]; rw [hbad hn])
        | (exfalso; apply hn; clear hn ih hbad hgood hk hr hc h0 h1; simp only [meMail]; cases hx : l[i]; simp_all)
  · have g1 : ¬ (i : Int) < l.length := by omega
    simp only [g1, go_sem]
    simp only [fin_mk, finV, resL, resV1, resIn, endA, listIn, Option.some_or, Option.none_or, oneOrTup, go_sem]
    rw [← hr]
    rw [List.take_of_length_le h] at hk
    rw [hk]; rfl
open Classical in
noncomputable def spToTomb : VM.Spec := { modes := [.rd], run := fun | [x'] => (Tomb.dec x').bind fun x => some (Tomb.enc x, []) | _ => none, need := [] }
attribute [go_sem] spToTomb
theorem spToTomb_in {ins : List V} {r : V} {outs : List V} (h : spToTomb.run ins = some (r, outs)) : ∃ (x : Tomb), ins = [Tomb.enc x] ∧ Tomb.enc x = r ∧ outs = [] := by
  unfold spToTomb at h
  simp only at h
  split at h
  · rename_i x'
    simp only [Option.bind_eq_some_iff] at h
    obtain ⟨x, h_x, h⟩ := h
    simp only [Option.some.injEq, Prod.mk.injEq] at h
    obtain ⟨h1, h2⟩ := h
    have h_x := Tomb.dec_some h_x
    subst h_x
    exact ⟨x, rfl, h1, h2.symm⟩
  · cases h
def T_laws_toTomb : Hints := ⟨fun _ => none, fun _ => none, fun i => if i = 0 then some [1, 2] else if i = 1 then some [1, 2, 3] else if i = 2 then some [1, 2, 3] else if i = 3 then some [2, 3] else if i = 4 then some [2] else none, fun _ => none⟩
noncomputable def Phi_laws_toTomb : Tab := fun f => none
attribute [go_sem] T_laws_toTomb Phi_laws_toTomb
theorem phi_laws_toTomb : ∀ f sp, Phi_laws_toTomb f = some sp → FnOk Try.prog f sp ∧ ∀ n ∈ sp.need, n ∈ ([] : List String) := by
  intro f sp h
  unfold Phi_laws_toTomb at h
  cases h
theorem ok_laws_toTomb : FnOk Try.prog 64 spToTomb := by
  refine fn_ok (Φ := Phi_laws_toTomb) (T := T_laws_toTomb) phi_laws_toTomb mixed Try.func64 rfl rfl rfl (by decide) ?_
  intro ins r outs hr hl
  clear hl
  have hs := spToTomb_in hr
  clear hr
  obtain ⟨x, rfl, hr, rfl⟩ := hs
  simp only [spToTomb, Try.f64, Go.VM.initS]
  simp only [go_sem]
  repeat' ((first | apply qa | apply qb | apply qc | apply qd | apply qe | apply qf | apply qg | apply qh | apply qi | apply qj | apply qk) <;> intro hp <;> simp only [hp, go_sem])
  simp only [fin_mk, finV, resL, resV1, resIn, endA, listIn, Option.some_or, Option.none_or, oneOrTup, go_sem]
  rw [← hr]
  rfl
open Classical in
noncomputable def spEqTomb : VM.Spec := { modes := [.rd, .rd], run := fun | [x', y'] => (Tomb.dec x').bind fun x => (Tomb.dec y').bind fun y => some (.bool (decide (x = y)), []) | _ => none, need := [] }
attribute [go_sem] spEqTomb
theorem spEqTomb_in {ins : List V} {r : V} {outs : List V} (h : spEqTomb.run ins = some (r, outs)) : ∃ (x : Tomb) (y : Tomb), ins = [Tomb.enc x, Tomb.enc y] ∧ .bool (decide (x = y)) = r ∧ outs = [] := by
  unfold spEqTomb at h
  simp only at h
  split at h
  · rename_i x' y'
    simp only [Option.bind_eq_some_iff] at h
    obtain ⟨x, h_x, y, h_y, h⟩ := h
    simp only [Option.some.injEq, Prod.mk.injEq] at h
    obtain ⟨h1, h2⟩ := h
    have h_x := Tomb.dec_some h_x
    subst h_x
    have h_y := Tomb.dec_some h_y
    subst h_y
    exact ⟨x, y, rfl, h1, h2.symm⟩
  · cases h
def T_laws_eqTomb : Hints := ⟨fun _ => none, fun _ => none, fun i => if i = 0 then some [2, 3] else if i = 1 then some [2, 3, 9] else if i = 2 then some [4] else if i = 3 then some [14] else if i = 4 then some [4] else if i = 5 then some [4] else none, fun _ => none⟩
noncomputable def Phi_laws_eqTomb : Tab := fun f => none
attribute [go_sem] T_laws_eqTomb Phi_laws_eqTomb
theorem phi_laws_eqTomb : ∀ f sp, Phi_laws_eqTomb f = some sp → FnOk Try.prog f sp ∧ ∀ n ∈ sp.need, n ∈ ([] : List String) := by
  intro f sp h
  unfold Phi_laws_eqTomb at h
  cases h
theorem ok_laws_eqTomb : FnOk Try.prog 71 spEqTomb := by
  refine fn_ok (Φ := Phi_laws_eqTomb) (T := T_laws_eqTomb) phi_laws_eqTomb mixed Try.func71 rfl rfl rfl (by decide) ?_
  intro ins r outs hr hl
  clear hl
  have hs := spEqTomb_in hr
  clear hr
  obtain ⟨x, y, rfl, hr, rfl⟩ := hs
  simp only [spEqTomb, Try.f71, Go.VM.initS]
  simp only [and_self, go_sem]
  repeat' ((first | apply qa | apply qb | apply qc | apply qd | apply qe | apply qf | apply qg | apply qh | apply qi | apply qj | apply qk) <;> intro hp <;> simp only [hp, and_self, go_sem])
  all_goals (simp only [fin_mk, finV, resL, resV1, resIn, endA, listIn, Option.some_or, Option.none_or, oneOrTup, go_sem]; rw [← hr])
  all_goals (cases x; cases y; simp_all)
open Classical in
noncomputable def spSzTombS : VM.Spec := { modes := [.rd, .rd], run := fun | [.lst 2 l', .int .i64 n] => (decL Tomb.dec l').bind fun l => if l.length ≤ 4611686018427387904 ∧ 0 ≤ n ∧ n ≤ 4611686018427387904 then some (.int .i64 (szF l n), []) else none | _ => none, need := [] }
attribute [go_sem] spSzTombS
theorem spSzTombS_in {ins : List V} {r : V} {outs : List V} (h : spSzTombS.run ins = some (r, outs)) : ∃ (l : (List Tomb)) (n : Int), ins = [.lst 2 ((l).map Tomb.enc), .int .i64 n] ∧ (l.length ≤ 4611686018427387904 ∧ 0 ≤ n ∧ n ≤ 4611686018427387904) ∧ .int .i64 (szF l n) = r ∧ outs = [] := by
  unfold spSzTombS at h
  simp only at h
  split at h
  · rename_i l' n
    simp only [Option.bind_eq_some_iff] at h
    obtain ⟨l, h_l, h⟩ := h
    split at h
    case isFalse => cases h
    rename_i hc
    simp only [Option.some.injEq, Prod.mk.injEq] at h
    obtain ⟨h1, h2⟩ := h
    have h_l := decL_some (fun _ _ h => Tomb.dec_some h) h_l
    subst h_l
    exact ⟨l, n, rfl, hc, h1, h2.symm⟩
  · cases h
def T_laws_szTombS : Hints := ⟨fun _ => none, fun _ => none, fun i => if i = 0 then some [0, 1] else if i = 1 then some [1] else if i = 2 then some [1, 10] else if i = 3 then some [4] else if i = 4 then some [4] else none, fun _ => none⟩
noncomputable def Phi_laws_szTombS : Tab := fun f => none
attribute [go_sem] T_laws_szTombS Phi_laws_szTombS
theorem phi_laws_szTombS : ∀ f sp, Phi_laws_szTombS f = some sp → FnOk Try.prog f sp ∧ ∀ n ∈ sp.need, n ∈ ([] : List String) := by
  intro f sp h
  unfold Phi_laws_szTombS at h
  cases h
theorem ok_laws_szTombS : FnOk Try.prog 50 spSzTombS := by
  refine fn_ok (Φ := Phi_laws_szTombS) (T := T_laws_szTombS) phi_laws_szTombS mixed Try.func50 rfl rfl rfl (by decide) ?_
  intro ins r outs hr hl
  clear hl
  have hs := spSzTombS_in hr
  clear hr
  obtain ⟨l, n, rfl, hc, hr, rfl⟩ := hs
  simp only [spSzTombS, Try.f50, Go.VM.initS]
  obtain ⟨hc, h0, h1⟩ := hc
  have w : IntKind.i64.wrap (n - (l.length : Int)) = n - l.length := wrap64 (by omega) (by omega)
  simp only [w, go_sem]
  repeat' ((first | apply qa | apply qb | apply qc | apply qd | apply qe | apply qf | apply qg | apply qh | apply qi | apply qj | apply qk) <;> intro hp <;> simp only [hp, w, go_sem])
  all_goals (simp only [fin_mk, finV, resL, resV1, resIn, endA, listIn, Option.some_or, Option.none_or, oneOrTup, go_sem]; rw [← hr])
  all_goals simp only [szF, subSz, hp, if_true, if_false]
open Classical in
noncomputable def spToTombS : VM.Spec := { modes := [.rd], run := fun | [.lst 2 l'] => (decL Tomb.dec l').bind fun l => if l.length ≤ 4194304 then some (.lst 2 ((l).map Tomb.enc), []) else none | _ => none, need := [] }
attribute [go_sem] spToTombS
theorem spToTombS_in {ins : List V} {r : V} {outs : List V} (h : spToTombS.run ins = some (r, outs)) : ∃ (l : (List Tomb)), ins = [.lst 2 ((l).map Tomb.enc)] ∧ (l.length ≤ 4194304) ∧ .lst 2 ((l).map Tomb.enc) = r ∧ outs = [] := by
  unfold spToTombS at h
  simp only at h
  split at h
  · rename_i l'
    simp only [Option.bind_eq_some_iff] at h
    obtain ⟨l, h_l, h⟩ := h
    split at h
    case isFalse => cases h
    rename_i hc
    simp only [Option.some.injEq, Prod.mk.injEq] at h
    obtain ⟨h1, h2⟩ := h
    have h_l := decL_some (fun _ _ h => Tomb.dec_some h) h_l
    subst h_l
    exact ⟨l, rfl, hc, h1, h2.symm⟩
  · cases h
def T_laws_toTombS : Hints := ⟨fun _ => none, fun i => if i = 3 then some [0, 3, 4] else none, fun i => if i = 0 then some [0] else if i = 1 then some [0, 3] else if i = 2 then some [0, 3, 4] else if i = 3 then some [0, 3, 4, 11] else if i = 5 then some [0, 3, 4] else if i = 4 then some [0, 3, 4] else if i = 6 then some [2] else none, fun _ => none⟩
noncomputable def Phi_laws_toTombS : Tab := fun f => if f = 64 then some spToTomb else none
attribute [go_sem] T_laws_toTombS Phi_laws_toTombS
theorem phi_laws_toTombS : ∀ f sp, Phi_laws_toTombS f = some sp → FnOk Try.prog f sp ∧ ∀ n ∈ sp.need, n ∈ ([] : List String) := by
  intro f sp h
  unfold Phi_laws_toTombS at h
  by_cases e : f = 64
  · rw [if_pos e] at h; cases h; rw [e]; exact ⟨ok_laws_toTomb, (fun n (h : n ∈ ([] : List String)) => (nomatch h))⟩
  rw [if_neg e] at h
  cases h
theorem ok_laws_toTombS : FnOk Try.prog 55 spToTombS := by
  refine fn_ok (Φ := Phi_laws_toTombS) (T := T_laws_toTombS) phi_laws_toTombS mixed Try.func55 rfl rfl rfl (by decide) ?_
  intro ins r outs hr hl
  clear hl
  have hs := spToTombS_in hr
  clear hr
  obtain ⟨l, rfl, hc, hr, rfl⟩ := hs
  simp only [spToTombS, Try.f55, Go.VM.initS]
  have h1 : (l.length : Int) ≤ 9223372036854775807 := by omega
  have h2 : (l.length : Int) * 16 ≤ 140737488355328 := by omega
  have h3 : (0 : Int) ≤ l.length := by omega
  simp only [h1, h2, h3, Int.cast_ofNat_Int, go_sem]
  refine loop_go (fun p : Nat × List V => [(4, .int .i64 (p.1 : Int))]) (fun p => [(0, ⟨.arr, 2, p.2⟩)]) (fun p => l.length - p.1) (fun p => p.1 ≤ l.length ∧ p.2 = (l.take p.1).map Tomb.enc ++ List.replicate (l.length - p.1) (.agg [.int .i64 0, .int .i64 0])) (0, List.replicate l.length (.agg [.int .i64 0, .int .i64 0])) ⟨Nat.zero_le _, by simp⟩ rfl rfl ?_
  rintro ⟨i, els⟩ ⟨hi, hels⟩ ih
  simp only at hi hels ih
  have hlen : els.length = l.length := by rw [hels]; simp; omega
  rcases Nat.lt_or_ge i l.length with h | h
  · have g1 : (i : Int) < l.length := by omega
    have g2 : (0 : Int) ≤ i := by omega
    have g3 : l[i]? = some l[i] := List.getElem?_eq_getElem h
    have g4 : els[i]? = some (els[i]'(by omega)) := List.getElem?_eq_getElem (by omega)
    have g5 := wrap_succ h (by omega)
    skip
    simp only [g1, g2, g3, g4, g5, hlen, go_sem]
    repeat' ((first | apply qa | apply qb | apply qc | apply qd | apply qe | apply qf | apply qg | apply qh | apply qi | apply qj | apply qk) <;> intro hp <;> simp only [hp, g1, g2, g3, g4, g5, hlen, go_sem])
    refine ih (i + 1, els.set i (.agg [.int .i64 l[i].Uid, .int .i64 l[i].Mod])) ⟨h, ?_⟩ (by simp only; omega)
    simp only
    rw [hels]
    exact fill_step _ h rfl
  · have g1 : ¬ (i : Int) < l.length := by omega
    simp only [g1, go_sem]
    simp only [fin_mk, finV, resL, resV1, resIn, endA, listIn, Option.some_or, Option.none_or, oneOrTup, go_sem]
    rw [← hr, hels, List.take_of_length_le h, show l.length - i = 0 by omega]
    simp
open Classical in
noncomputable def spEqTombS : VM.Spec := { modes := [.rd, .rd], run := fun | [.lst 2 x', .lst 2 y'] => (decL Tomb.dec x').bind fun x => (decL Tomb.dec y').bind fun y => if x.length ≤ 4194304 ∧ y.length ≤ 4194304 then some (.bool (decide (x = y)), []) else none | _ => none, need := [] }
attribute [go_sem] spEqTombS
theorem spEqTombS_in {ins : List V} {r : V} {outs : List V} (h : spEqTombS.run ins = some (r, outs)) : ∃ (x : (List Tomb)) (y : (List Tomb)), ins = [.lst 2 ((x).map Tomb.enc), .lst 2 ((y).map Tomb.enc)] ∧ (x.length ≤ 4194304 ∧ y.length ≤ 4194304) ∧ .bool (decide (x = y)) = r ∧ outs = [] := by
  unfold spEqTombS at h
  simp only at h
  split at h
  · rename_i x' y'
    simp only [Option.bind_eq_some_iff] at h
    obtain ⟨x, h_x, y, h_y, h⟩ := h
    split at h
    case isFalse => cases h
    rename_i hc
    simp only [Option.some.injEq, Prod.mk.injEq] at h
    obtain ⟨h1, h2⟩ := h
    have h_x := decL_some (fun _ _ h => Tomb.dec_some h) h_x
    subst h_x
    have h_y := decL_some (fun _ _ h => Tomb.dec_some h) h_y
    subst h_y
    exact ⟨x, y, rfl, hc, h1, h2.symm⟩
  · cases h
def T_laws_eqTombS : Hints := ⟨fun i => if i = 6 then some [] else none, fun i => if i = 4 then some [0, 1, 5] else none, fun i => if i = 0 then some [0, 1] else if i = 1 then some [0, 1, 10] else if i = 2 then some [4] else if i = 3 then some [0, 1, 5] else if i = 4 then some [0, 1, 5, 14] else if i = 6 then some [0, 1, 5, 26] else if i = 7 then some [4] else if i = 5 then some [0, 1, 5] else if i = 8 then some [4] else none, fun _ => none⟩
noncomputable def Phi_laws_eqTombS : Tab := fun f => if f = 71 then some spEqTomb else none
attribute [go_sem] T_laws_eqTombS Phi_laws_eqTombS
theorem phi_laws_eqTombS : ∀ f sp, Phi_laws_eqTombS f = some sp → FnOk Try.prog f sp ∧ ∀ n ∈ sp.need, n ∈ ([] : List String) := by
  intro f sp h
  unfold Phi_laws_eqTombS at h
  by_cases e : f = 71
  · rw [if_pos e] at h; cases h; rw [e]; exact ⟨ok_laws_eqTomb, (fun n (h : n ∈ ([] : List String)) => (nomatch h))⟩
  rw [if_neg e] at h
  cases h
theorem ok_laws_eqTombS : FnOk Try.prog 60 spEqTombS := by
  refine fn_ok (Φ := Phi_laws_eqTombS) (T := T_laws_eqTombS) phi_laws_eqTombS mixed Try.func60 rfl rfl rfl (by decide) ?_
  intro ins r outs hr hl
  clear hl
  have hs := spEqTombS_in hr
  clear hr
  obtain ⟨x, y, rfl, hc, hr, rfl⟩ := hs
  simp only [spEqTombS, Try.f60, Go.VM.initS]
  obtain ⟨hx, hy⟩ := hc
  by_cases hl : x.length = y.length
  case neg =>
    have g : ((x.length : Int) == y.length) = false := by rw [beq_eq_false_iff_ne]; omega
    have g' : ((x.length : Int) != y.length) = true := by rw [bne_iff_ne]; omega
    have hne : x ≠ y := fun e => hl (by rw [e])
    simp only [g, g', go_sem]
    repeat' ((first | ((first | apply qa | apply qb | apply qc | apply qd | apply qe | apply qf | apply qg | apply qh | apply qi | apply qj | apply qk) <;> intro hp) | ((first | refine ql rfl rfl (by decide +kernel) ?_ | refine qm _ rfl rfl (by decide +kernel) ?_) <;> have hp := True.intro)) <;> simp only [hp, g, g', go_sem])
    simp only [fin_mk, finV, resL, resV1, resIn, endA, listIn, Option.some_or, Option.none_or, oneOrTup, go_sem]
    rw [← hr]
    simp only [hne, decide_false]
  have hl' : (x.length : Int) = y.length := by omega
  simp only [hl, bne_self_eq_false, go_sem]
  repeat' ((first | ((first | apply qa | apply qb | apply qc | apply qd | apply qe | apply qf | apply qg | apply qh | apply qi | apply qj | apply qk) <;> intro hp) | ((first | refine ql rfl rfl (by decide +kernel) ?_ | refine qm _ rfl rfl (by decide +kernel) ?_) <;> have hp := True.intro)) <;> simp only [hp, hl, bne_self_eq_false, go_sem])
  refine loop_go (fun i : Nat => [(5, .int .i64 (i : Int))]) (fun _ => []) (fun i => x.length - i) (fun i => i ≤ x.length ∧ x.take i = y.take i) 0 ⟨Nat.zero_le _, by simp⟩ rfl rfl ?_
  intro i ⟨hi, he⟩ ih
  rcases Nat.lt_or_ge i x.length with h | h
  · have g1 : (i : Int) < x.length := by omega
    have g1' : (i : Int) < y.length := by omega
    have g2 : (0 : Int) ≤ i := by omega
    have g3 : x[i]? = some x[i] := List.getElem?_eq_getElem h
    have g4 : y[i]? = some (y[i]'(by omega)) := List.getElem?_eq_getElem (by omega)
    have g5 := wrap_succ h (by omega)
    skip
    by_cases hv : x[i] = (y[i]'(by omega))
    · simp only [g1, g1', g2, g3, g4, g5, hv, go_sem]
      repeat' ((first | ((first | apply qa | apply qb | apply qc | apply qd | apply qe | apply qf | apply qg | apply qh | apply qi | apply qj | apply qk) <;> intro hp) | ((first | refine ql rfl rfl (by decide +kernel) ?_ | refine qm _ rfl rfl (by decide +kernel) ?_) <;> have hp := True.intro)) <;> simp only [hp, g1, g1', g2, g3, g4, g5, hv, go_sem])
      exact ih (i + 1) ⟨h, by rw [List.take_add_one, List.take_add_one, he, g3, g4, hv]⟩ (by omega)
    · have hne : x ≠ y := by rintro rfl; exact hv rfl
      have hv1 : (x[i] == (y[i]'(by omega))) = false := by rw [beq_eq_false_iff_ne]; exact hv
      have hv2 : (x[i] != (y[i]'(by omega))) = true := by rw [bne_iff_ne]; exact hv
      simp only [g1, g1', g2, g3, g4, g5, hv, hv1, hv2, go_sem]
      repeat' ((first | ((first | apply qa | apply qb | apply qc | apply qd | apply qe | apply qf | apply qg | apply qh | apply qi | apply qj | apply qk) <;> intro hp) | ((first | refine ql rfl rfl (by decide +kernel) ?_ | refine qm _ rfl rfl (by decide +kernel) ?_) <;> have hp := True.intro)) <;> simp only [hp, g1, g1', g2, g3, g4, g5, hv, hv1, hv2, go_sem])
      simp only [fin_mk, finV, resL, resV1, resIn, endA, listIn, Option.some_or, Option.none_or, oneOrTup, go_sem]
      rw [← hr]
      simp only [hne, decide_false]
  · have g1 : ¬ (i : Int) < x.length := by omega
    have g1' : ¬ (i : Int) < y.length := by omega
    simp only [g1, g1', go_sem]
    simp only [fin_mk, finV, resL, resV1, resIn, endA, listIn, Option.some_or, Option.none_or, oneOrTup, go_sem]
    rw [← hr]
    rw [List.take_of_length_le h, List.take_of_length_le (by omega)] at he
    simp only [he, decide_true]
open Classical in
noncomputable def spMarkTombS : VM.Spec := { modes := [.io, .rd], run := fun | [.lst 2 l', .int .i64 k] => (decL Tomb.dec l').bind fun l => if l.length ≤ 4194304 ∧ 0 ≤ k ∧ k ≤ 1152921504606846976 then some (.int .i64 ((markL meTomb l k).2), [.lst 2 (((markL meTomb l k).1).map Tomb.enc)]) else none | _ => none, need := [] }
attribute [go_sem] spMarkTombS
theorem spMarkTombS_in {ins : List V} {r : V} {outs : List V} (h : spMarkTombS.run ins = some (r, outs)) : ∃ (l : (List Tomb)) (k : Int), ins = [.lst 2 ((l).map Tomb.enc), .int .i64 k] ∧ (l.length ≤ 4194304 ∧ 0 ≤ k ∧ k ≤ 1152921504606846976) ∧ .int .i64 ((markL meTomb l k).2) = r ∧ outs = [.lst 2 (((markL meTomb l k).1).map Tomb.enc)] := by
  unfold spMarkTombS at h
  simp only at h
  split at h
  · rename_i l' k
    simp only [Option.bind_eq_some_iff] at h
    obtain ⟨l, h_l, h⟩ := h
    split at h
    case isFalse => cases h
    rename_i hc
    simp only [Option.some.injEq, Prod.mk.injEq] at h
    obtain ⟨h1, h2⟩ := h
    have h_l := decL_some (fun _ _ h => Tomb.dec_some h) h_l
    subst h_l
    exact ⟨l, k, rfl, hc, h1, h2.symm⟩
  · cases h
def T_laws_markTombS : Hints := ⟨fun _ => none, fun i => if i = 2 then some [0, 1, 5] else none, fun i => if i = 0 then some [0, 1] else if i = 1 then some [0, 1, 5] else if i = 2 then some [0, 1, 5, 9] else if i = 4 then some [0, 1, 5] else if i = 5 then some [0, 1, 5] else if i = 6 then some [0, 1, 5] else if i = 7 then some [0, 1, 5] else if i = 3 then some [0, 1, 5] else if i = 8 then some [4] else none, fun _ => none⟩
noncomputable def Phi_laws_markTombS : Tab := fun f => none
attribute [go_sem] T_laws_markTombS Phi_laws_markTombS
theorem phi_laws_markTombS : ∀ f sp, Phi_laws_markTombS f = some sp → FnOk Try.prog f sp ∧ ∀ n ∈ sp.need, n ∈ ([] : List String) := by
  intro f sp h
  unfold Phi_laws_markTombS at h
  cases h
theorem ok_laws_markTombS : FnOk Try.prog 44 spMarkTombS := by
  refine fn_ok (Φ := Phi_laws_markTombS) (T := T_laws_markTombS) phi_laws_markTombS mixed Try.func44 rfl rfl rfl (by decide) ?_
  intro ins r outs hr hl
  clear hl
  have hs := spMarkTombS_in hr
  clear hr
  obtain ⟨l, k, rfl, hc, hr, rfl⟩ := hs
  simp only [spMarkTombS, Try.f44, Go.VM.initS]
  obtain ⟨hc, h0, h1⟩ := hc
  simp only [go_sem]
  refine loop_go (fun p : Nat × List V × Int => [(1, .int .i64 p.2.2), (5, .int .i64 (p.1 : Int))]) (fun p => [(0, ⟨.arr, 2, p.2.1⟩)]) (fun p => l.length - p.1) (fun p => p.1 ≤ l.length ∧ p.2.1 = ((markL meTomb (l.take p.1) k).1 ++ l.drop p.1).map Tomb.enc ∧ p.2.2 = (markL meTomb (l.take p.1) k).2 ∧ p.2.2 = k + (2 : Nat) * p.1) (0, l.map Tomb.enc, k) ⟨Nat.zero_le _, by simp [markL], rfl, by simp⟩ rfl rfl ?_
  rintro ⟨i, els, k'⟩ ⟨hi, he, hk, hb⟩ ih
  simp only at hi he hk hb ih
  rcases Nat.lt_or_ge i l.length with h | h
  · have g1 : (i : Int) < l.length := by omega
    have g2 : (0 : Int) ≤ i := by omega
    obtain ⟨g3, gl, gs, gk⟩ := mark_round h he
    rw [← hk] at gs gk
    have g5 := wrap_succ h (by omega)
    have j0 : k' ≤ 4611686018427387904 := by omega
    have w0 : IntKind.i64.wrap (k' + 1) = k' + 1 := wrap64 (by omega) (by omega)
    have w1 : IntKind.i64.wrap (k' + 1 + 1) = k' + 1 + 1 := wrap64 (by omega) (by omega)
    have j1 : k' + 1 ≤ 4611686018427387904 := by omega
    have j2 : k' + 1 + 1 ≤ 4611686018427387904 := by omega
    rw [Tomb.enc] at g3
    have gi : i < els.length := by omega
    simp only [g1, g2, g3, gl, g5, h, w0, w1, j0, j1, j2, List.getElem?_set_self, List.length_set, List.set_set, go_sem]
    repeat' ((first | apply qa | apply qb | apply qc | apply qd | apply qe | apply qf | apply qg | apply qh | apply qi | apply qj | apply qk) <;> intro hp <;> simp only [hp, g1, g2, g3, gl, g5, h, w0, w1, j0, j1, j2, List.getElem?_set_self, List.length_set, List.set_set, go_sem])
    refine ih (i + 1, els.set i (Tomb.enc (meTomb l[i] k').1), (meTomb l[i] k').2) ⟨h, gs, gk, by simp only [meTomb]; omega⟩ (by simp only; omega)
  · have g1 : ¬ (i : Int) < l.length := by omega
    have gl : els.length = l.length := by rw [he]; simp [markL_len]; omega
    simp only [g1, gl, go_sem]
    simp only [fin_mk, finV, resL, resV1, resIn, endA, listIn, Option.some_or, Option.none_or, oneOrTup, go_sem]
    rw [← hr, he, hk, List.take_of_length_le h, List.drop_of_length_le h, List.append_nil]
open Classical in
noncomputable def spHeldTombS : VM.Spec := { modes := [.rd, .rd], run := fun | [.lst 2 l', .int .i64 k] => (decL Tomb.dec l').bind fun l => if l.length ≤ 4194304 ∧ 0 ≤ k ∧ k ≤ 1152921504606846976 then some (.int .i64 ((heldL heTomb l k).getD (-1)), []) else none | _ => none, need := [] }
attribute [go_sem] spHeldTombS
theorem spHeldTombS_in {ins : List V} {r : V} {outs : List V} (h : spHeldTombS.run ins = some (r, outs)) : ∃ (l : (List Tomb)) (k : Int), ins = [.lst 2 ((l).map Tomb.enc), .int .i64 k] ∧ (l.length ≤ 4194304 ∧ 0 ≤ k ∧ k ≤ 1152921504606846976) ∧ .int .i64 ((heldL heTomb l k).getD (-1)) = r ∧ outs = [] := by
  unfold spHeldTombS at h
  simp only at h
  split at h
  · rename_i l' k
    simp only [Option.bind_eq_some_iff] at h
    obtain ⟨l, h_l, h⟩ := h
    split at h
    case isFalse => cases h
    rename_i hc
    simp only [Option.some.injEq, Prod.mk.injEq] at h
    obtain ⟨h1, h2⟩ := h
    have h_l := decL_some (fun _ _ h => Tomb.dec_some h) h_l
    subst h_l
    exact ⟨l, k, rfl, hc, h1, h2.symm⟩
  · cases h
def T_laws_heldTombS : Hints := ⟨fun _ => none, fun i => if i = 2 then some [0, 1, 5] else none, fun i => if i = 0 then some [0, 1] else if i = 1 then some [0, 1, 5] else if i = 2 then some [0, 1, 5, 9] else if i = 4 then some [0, 1, 5, 18] else if i = 5 then some [4] else if i = 6 then some [0, 1, 5] else if i = 7 then some [0, 1, 5, 27] else if i = 8 then some [4] else if i = 9 then some [0, 1, 5] else if i = 3 then some [0, 1, 5] else if i = 10 then some [4] else none, fun _ => none⟩
noncomputable def Phi_laws_heldTombS : Tab := fun f => none
attribute [go_sem] T_laws_heldTombS Phi_laws_heldTombS
theorem phi_laws_heldTombS : ∀ f sp, Phi_laws_heldTombS f = some sp → FnOk Try.prog f sp ∧ ∀ n ∈ sp.need, n ∈ ([] : List String) := by
  intro f sp h
  unfold Phi_laws_heldTombS at h
  cases h
theorem ok_laws_heldTombS : FnOk Try.prog 46 spHeldTombS := by
  refine fn_ok (Φ := Phi_laws_heldTombS) (T := T_laws_heldTombS) phi_laws_heldTombS mixed Try.func46 rfl rfl rfl (by decide) ?_
  intro ins r outs hr hl
  clear hl
  have hs := spHeldTombS_in hr
  clear hr
  obtain ⟨l, k, rfl, hc, hr, rfl⟩ := hs
  simp only [spHeldTombS, Try.f46, Go.VM.initS]
  obtain ⟨hc, h0, h1⟩ := hc
  simp only [go_sem]
  refine loop_go (fun p : Nat × Int => [(1, .int .i64 p.2), (5, .int .i64 (p.1 : Int))]) (fun p => []) (fun p => l.length - p.1) (fun p => p.1 ≤ l.length ∧ heldL heTomb (l.take p.1) k = some p.2 ∧ p.2 = k + (2 : Nat) * p.1) (0, k) ⟨Nat.zero_le _, rfl, by simp⟩ rfl rfl ?_
  rintro ⟨i, k'⟩ ⟨hi, hk, hb⟩ ih
  simp only at hi hk hb ih
  rcases Nat.lt_or_ge i l.length with h | h
  · have g1 : (i : Int) < l.length := by omega
    have g2 : (0 : Int) ≤ i := by omega
    have g3 : l[i]? = some l[i] := List.getElem?_eq_getElem h
    have g5 := wrap_succ h (by omega)
    have j0 : k' ≤ 4611686018427387904 := by omega
    have w0 : IntKind.i64.wrap (k' + 1) = k' + 1 := wrap64 (by omega) (by omega)
    have w1 : IntKind.i64.wrap (k' + 1 + 1) = k' + 1 + 1 := wrap64 (by omega) (by omega)
    have j1 : k' + 1 ≤ 4611686018427387904 := by omega
    have j2 : k' + 1 + 1 ≤ 4611686018427387904 := by omega
    have hbad : (meTomb l[i] k').1 ≠ l[i] → V.int .i64 (-1) = r := fun hn => by
      rw [← hr, heldL_bad h hk (by simp only [heTomb, heOf, hn, if_false])]; rfl
    have hgood : (meTomb l[i] k').1 = l[i] → heldL heTomb (l.take (i + 1)) k = some ((meTomb l[i] k').2) := fun hn => heldL_good h hk (by simp only [heTomb, heOf, hn, if_true])
    by_cases hn : (meTomb l[i] k').1 = l[i]
    · have e0 : l[i].Uid = k' := (congrArg Tomb.Uid hn).symm
      have e1 : l[i].Mod = k' + 1 := (congrArg Tomb.Mod hn).symm
      simp only [g1, g2, g3, g5, w0, w1, j0, j1, j2, e0, e1, bne_self_eq_false, go_sem]
      repeat' ((first | apply qa | apply qb | apply qc | apply qd | apply qe | apply qf | apply qg | apply qh | apply qi | apply qj | apply qk) <;> intro hp <;> simp only [hp, g1, g2, g3, g5, w0, w1, j0, j1, j2, e0, e1, bne_self_eq_false, go_sem])
      exact ih (i + 1, (meTomb l[i] k').2) ⟨h, hgood hn, by simp only [meTomb]; omega⟩ (by simp only; omega)
    · simp only [g1, g2, g3, g5, w0, w1, j0, j1, j2, go_sem]
      repeat' ((first | apply qa | apply qb | apply qc | apply qd | apply qe | apply qf | apply qg | apply qh | apply qi | apply qj | apply qk) <;> intro hp <;> simp only [hp, g1, g2, g3, g5, w0, w1, j0, j1, j2, go_sem])
      all_goals first
        | (refine fin_mk.2 ?_; simp only [fin_mk, finV, resL, resV1, resIn, endA, listIn, Option.some_or, Option.none_or, oneOrTup, go_sem]; rw [hbad hn])
        | (exfalso; apply hn; clear hn ih hbad hgood hk hr hc h0 h1; simp only [meTomb]; cases hx : l[i]; simp_all)
  · have g1 : ¬ (i : Int) < l.length := by omega
    simp only [g1, go_sem]
    simp only [fin_mk, finV, resL, resV1, resIn, endA, listIn, Option.some_or, Option.none_or, oneOrTup, go_sem]
    rw [← hr]
    rw [List.take_of_length_le h] at hk
    rw [hk]; rfl
open Classical in
noncomputable def spSzBox : VM.Spec := { modes := [.rd, .rd], run := fun | [x', .int .i64 n] => (Box.dec x').bind fun x => if x.le 4611686018427387904 ∧ 0 ≤ n ∧ n ≤ 4611686018427387904 then some (.int .i64 (Box.sz x n), []) else none | _ => none, need := [] }
attribute [go_sem] spSzBox
theorem spSzBox_in {ins : List V} {r : V} {outs : List V} (h : spSzBox.run ins = some (r, outs)) : ∃ (x : Box) (n : Int), ins = [Box.enc x, .int .i64 n] ∧ (x.le 4611686018427387904 ∧ 0 ≤ n ∧ n ≤ 4611686018427387904) ∧ .int .i64 (Box.sz x n) = r ∧ outs = [] := by
  unfold spSzBox at h
  simp only at h
  split at h
  · rename_i x' n
    simp only [Option.bind_eq_some_iff] at h
    obtain ⟨x, h_x, h⟩ := h
    split at h
    case isFalse => cases h
    rename_i hc
    simp only [Option.some.injEq, Prod.mk.injEq] at h
    obtain ⟨h1, h2⟩ := h
    have h_x := Box.dec_some h_x
    subst h_x
    exact ⟨x, n, rfl, hc, h1, h2.symm⟩
  · cases h
def T_laws_szBox : Hints := ⟨fun _ => none, fun _ => none, fun i => if i = 0 then some [1, 2] else if i = 1 then some [1, 2] else if i = 2 then some [1, 2, 11] else if i = 3 then some [4] else if i = 4 then some [1, 2] else if i = 5 then some [1, 2, 17] else if i = 6 then some [4] else if i = 7 then some [1] else if i = 8 then some [1, 23] else if i = 9 then some [4] else if i = 10 then some [4] else none, fun _ => none⟩
noncomputable def Phi_laws_szBox : Tab := fun f => if f = 49 then some spSzMailS else if f = 50 then some spSzTombS else none
attribute [go_sem] T_laws_szBox Phi_laws_szBox
theorem phi_laws_szBox : ∀ f sp, Phi_laws_szBox f = some sp → FnOk Try.prog f sp ∧ ∀ n ∈ sp.need, n ∈ ([] : List String) := by
  intro f sp h
  unfold Phi_laws_szBox at h
  by_cases e : f = 49
  · rw [if_pos e] at h; cases h; rw [e]; exact ⟨ok_laws_szMailS, (fun n (h : n ∈ ([] : List String)) => (nomatch h))⟩
  rw [if_neg e] at h
  by_cases e : f = 50
  · rw [if_pos e] at h; cases h; rw [e]; exact ⟨ok_laws_szTombS, (fun n (h : n ∈ ([] : List String)) => (nomatch h))⟩
  rw [if_neg e] at h
  cases h
theorem ok_laws_szBox : FnOk Try.prog 31 spSzBox := by
  refine fn_ok (Φ := Phi_laws_szBox) (T := T_laws_szBox) phi_laws_szBox mixed Try.func31 rfl rfl rfl (by decide) ?_
  intro ins r outs hr hl
  clear hl
  have hs := spSzBox_in hr
  clear hr
  obtain ⟨x, n, rfl, hc, hr, rfl⟩ := hs
  simp only [spSzBox, Try.f31, Go.VM.initS]
  obtain ⟨hc, h0, h1⟩ := hc
  obtain ⟨c0, c1, c2⟩ := hc
  have c0 : x.Name.length ≤ 4611686018427387904 := c0
  have w0 : IntKind.i64.wrap (n - (x.Name.length : Int)) = (n - (x.Name.length : Int)) := wrap64 (by omega) (by omega)
  by_cases b0 : (n - (x.Name.length : Int)) < 0
  · simp only [w0, b0, go_sem]
    repeat' ((first | apply qa | apply qb | apply qc | apply qd | apply qe | apply qf | apply qg | apply qh | apply qi | apply qj | apply qk) <;> intro hp <;> simp only [hp, w0, b0, go_sem])
    simp only [fin_mk, finV, resL, resV1, resIn, endA, listIn, Option.some_or, Option.none_or, oneOrTup, go_sem]
    rw [← hr]
    simp only [Box.sz, thenSz, subSz, b0, if_true, if_false, Int.reduceNeg, Int.reduceLT]
  have a0 : 0 ≤ (n - (x.Name.length : Int)) := by omega
  have d0 : (n - (x.Name.length : Int)) ≤ 4611686018427387904 := by omega
  have c1 : leL Mail.le 4611686018427387904 x.Mails := c1
  rcases (szLL_ok Mail.sz_ok) x.Mails (n - (x.Name.length : Int)) 4611686018427387904 a0 d0 with e | ⟨a1, d1, -⟩
  · simp only [w0, b0, c1, a0, d0, e, go_sem]
    repeat' ((first | apply qa | apply qb | apply qc | apply qd | apply qe | apply qf | apply qg | apply qh | apply qi | apply qj | apply qk) <;> intro hp <;> simp only [hp, w0, b0, c1, a0, d0, e, go_sem])
    simp only [fin_mk, finV, resL, resV1, resIn, endA, listIn, Option.some_or, Option.none_or, oneOrTup, go_sem]
    rw [← hr]
    simp only [Box.sz, thenSz, subSz, b0, e, if_true, if_false, Int.reduceNeg, Int.reduceLT]
  have b1 : ¬ ((szLL Mail.sz) x.Mails (n - (x.Name.length : Int))) < 0 := Int.not_lt.2 a1
  have d1 : ((szLL Mail.sz) x.Mails (n - (x.Name.length : Int))) ≤ 4611686018427387904 := Int.le_trans d1 d0
  have c2 : x.Tombs.length ≤ 4611686018427387904 := c2.1
  rcases (szF_ok (p := Tomb.le) (fun b x => trivial)) x.Tombs ((szLL Mail.sz) x.Mails (n - (x.Name.length : Int))) 4611686018427387904 a1 d1 with e | ⟨a2, d2, -⟩
  · simp only [w0, b0, c1, a0, d0, b1, c2, a1, d1, e, go_sem]
    repeat' ((first | apply qa | apply qb | apply qc | apply qd | apply qe | apply qf | apply qg | apply qh | apply qi | apply qj | apply qk) <;> intro hp <;> simp only [hp, w0, b0, c1, a0, d0, b1, c2, a1, d1, e, go_sem])
    simp only [fin_mk, finV, resL, resV1, resIn, endA, listIn, Option.some_or, Option.none_or, oneOrTup, go_sem]
    rw [← hr]
    simp only [Box.sz, thenSz, subSz, b0, b1, e, if_true, if_false, Int.reduceNeg, Int.reduceLT]
  have b2 : ¬ (szF x.Tombs ((szLL Mail.sz) x.Mails (n - (x.Name.length : Int)))) < 0 := Int.not_lt.2 a2
  have d2 : (szF x.Tombs ((szLL Mail.sz) x.Mails (n - (x.Name.length : Int)))) ≤ 4611686018427387904 := Int.le_trans d2 d1
  simp only [w0, b0, c1, a0, d0, b1, c2, a1, d1, b2, go_sem]
  repeat' ((first | apply qa | apply qb | apply qc | apply qd | apply qe | apply qf | apply qg | apply qh | apply qi | apply qj | apply qk) <;> intro hp <;> simp only [hp, w0, b0, c1, a0, d0, b1, c2, a1, d1, b2, go_sem])
  simp only [fin_mk, finV, resL, resV1, resIn, endA, listIn, Option.some_or, Option.none_or, oneOrTup, go_sem]
  rw [← hr]
  simp only [Box.sz, thenSz, subSz, b0, b1, b2, if_true, if_false]
open Classical in
noncomputable def spToBox : VM.Spec := { modes := [.rd], run := fun | [x'] => (Box.dec x').bind fun x => if x.le 4194304 then some (Box.enc x, []) else none | _ => none, need := [] }
attribute [go_sem] spToBox
theorem spToBox_in {ins : List V} {r : V} {outs : List V} (h : spToBox.run ins = some (r, outs)) : ∃ (x : Box), ins = [Box.enc x] ∧ (x.le 4194304) ∧ Box.enc x = r ∧ outs = [] := by
  unfold spToBox at h
  simp only at h
  split at h
  · rename_i x'
    simp only [Option.bind_eq_some_iff] at h
    obtain ⟨x, h_x, h⟩ := h
    split at h
    case isFalse => cases h
    rename_i hc
    simp only [Option.some.injEq, Prod.mk.injEq] at h
    obtain ⟨h1, h2⟩ := h
    have h_x := Box.dec_some h_x
    subst h_x
    exact ⟨x, rfl, hc, h1, h2.symm⟩
  · cases h
def T_laws_toBox : Hints := ⟨fun _ => none, fun _ => none, fun i => if i = 0 then some [1, 2] else if i = 1 then some [1, 2, 3] else if i = 2 then some [1, 2, 3] else if i = 3 then some [1, 2, 3] else if i = 4 then some [1, 2, 3] else if i = 5 then some [1, 2, 3] else if i = 6 then some [1, 2, 3] else if i = 7 then some [1, 2, 3] else if i = 8 then some [2, 3] else if i = 9 then some [2] else none, fun _ => none⟩
noncomputable def Phi_laws_toBox : Tab := fun f => if f = 54 then some spToMailS else if f = 55 then some spToTombS else none
attribute [go_sem] T_laws_toBox Phi_laws_toBox
theorem phi_laws_toBox : ∀ f sp, Phi_laws_toBox f = some sp → FnOk Try.prog f sp ∧ ∀ n ∈ sp.need, n ∈ ([] : List String) := by
  intro f sp h
  unfold Phi_laws_toBox at h
  by_cases e : f = 54
  · rw [if_pos e] at h; cases h; rw [e]; exact ⟨ok_laws_toMailS, (fun n (h : n ∈ ([] : List String)) => (nomatch h))⟩
  rw [if_neg e] at h
  by_cases e : f = 55
  · rw [if_pos e] at h; cases h; rw [e]; exact ⟨ok_laws_toTombS, (fun n (h : n ∈ ([] : List String)) => (nomatch h))⟩
  rw [if_neg e] at h
  cases h
theorem ok_laws_toBox : FnOk Try.prog 35 spToBox := by
  refine fn_ok (Φ := Phi_laws_toBox) (T := T_laws_toBox) phi_laws_toBox mixed Try.func35 rfl rfl rfl (by decide) ?_
  intro ins r outs hr hl
  clear hl
  have hs := spToBox_in hr
  clear hr
  obtain ⟨x, rfl, hc, hr, rfl⟩ := hs
  simp only [spToBox, Try.f35, Go.VM.initS]
  have c1 : x.Mails.length ≤ 4194304 := hc.2.1.1
  have c2 : x.Tombs.length ≤ 4194304 := hc.2.2.1
  simp only [c1, c2, go_sem]
  repeat' ((first | apply qa | apply qb | apply qc | apply qd | apply qe | apply qf | apply qg | apply qh | apply qi | apply qj | apply qk) <;> intro hp <;> simp only [hp, c1, c2, go_sem])
  simp only [fin_mk, finV, resL, resV1, resIn, endA, listIn, Option.some_or, Option.none_or, oneOrTup, go_sem]
  rw [← hr]
  rfl
open Classical in
noncomputable def spEqBox : VM.Spec := { modes := [.rd, .rd], run := fun | [x', y'] => (Box.dec x').bind fun x => (Box.dec y').bind fun y => if x.le 4194304 ∧ y.le 4194304 then some (.bool (decide (x = y)), []) else none | _ => none, need := [] }
attribute [go_sem] spEqBox
theorem spEqBox_in {ins : List V} {r : V} {outs : List V} (h : spEqBox.run ins = some (r, outs)) : ∃ (x : Box) (y : Box), ins = [Box.enc x, Box.enc y] ∧ (x.le 4194304 ∧ y.le 4194304) ∧ .bool (decide (x = y)) = r ∧ outs = [] := by
  unfold spEqBox at h
  simp only at h
  split at h
  · rename_i x' y'
    simp only [Option.bind_eq_some_iff] at h
    obtain ⟨x, h_x, y, h_y, h⟩ := h
    split at h
    case isFalse => cases h
    rename_i hc
    simp only [Option.some.injEq, Prod.mk.injEq] at h
    obtain ⟨h1, h2⟩ := h
    have h_x := Box.dec_some h_x
    subst h_x
    have h_y := Box.dec_some h_y
    subst h_y
    exact ⟨x, y, rfl, hc, h1, h2.symm⟩
  · cases h
def T_laws_eqBox : Hints := ⟨fun _ => none, fun _ => none, fun i => if i = 0 then some [2, 3] else if i = 1 then some [2, 3, 9] else if i = 2 then some [4] else if i = 3 then some [2, 3, 14] else if i = 4 then some [4] else if i = 5 then some [2, 3, 19] else if i = 6 then some [4] else if i = 7 then some [2, 3, 24] else if i = 8 then some [4] else if i = 9 then some [2, 3, 30] else if i = 10 then some [4] else if i = 11 then some [2, 3, 36] else if i = 12 then some [4] else if i = 13 then some [41] else if i = 14 then some [4] else if i = 15 then some [4] else none, fun _ => none⟩
noncomputable def Phi_laws_eqBox : Tab := fun f => if f = 59 then some spEqMailS else if f = 60 then some spEqTombS else none
attribute [go_sem] T_laws_eqBox Phi_laws_eqBox
theorem phi_laws_eqBox : ∀ f sp, Phi_laws_eqBox f = some sp → FnOk Try.prog f sp ∧ ∀ n ∈ sp.need, n ∈ ([] : List String) := by
  intro f sp h
  unfold Phi_laws_eqBox at h
  by_cases e : f = 59
  · rw [if_pos e] at h; cases h; rw [e]; exact ⟨ok_laws_eqMailS, (fun n (h : n ∈ ([] : List String)) => (nomatch h))⟩
  rw [if_neg e] at h
  by_cases e : f = 60
  · rw [if_pos e] at h; cases h; rw [e]; exact ⟨ok_laws_eqTombS, (fun n (h : n ∈ ([] : List String)) => (nomatch h))⟩
  rw [if_neg e] at h
  cases h
theorem ok_laws_eqBox : FnOk Try.prog 41 spEqBox := by
  refine fn_ok (Φ := Phi_laws_eqBox) (T := T_laws_eqBox) phi_laws_eqBox mixed Try.func41 rfl rfl rfl (by decide) ?_
  intro ins r outs hr hl
  clear hl
  have hs := spEqBox_in hr
  clear hr
  obtain ⟨x, y, rfl, hc, hr, rfl⟩ := hs
  simp only [spEqBox, Try.f41, Go.VM.initS]
  have c1 : x.Mails.length ≤ 4194304 := hc.1.2.1.1
  have c2 : x.Tombs.length ≤ 4194304 := hc.1.2.2.1
  have d1 : y.Mails.length ≤ 4194304 := hc.2.2.1.1
  have d2 : y.Tombs.length ≤ 4194304 := hc.2.2.2.1
  simp only [c1, c2, d1, d2, and_self, go_sem]
  repeat' ((first | apply qa | apply qb | apply qc | apply qd | apply qe | apply qf | apply qg | apply qh | apply qi | apply qj | apply qk) <;> intro hp <;> simp only [hp, c1, c2, d1, d2, and_self, go_sem])
  all_goals (simp only [fin_mk, finV, resL, resV1, resIn, endA, listIn, Option.some_or, Option.none_or, oneOrTup, go_sem]; rw [← hr])
  all_goals (cases x; cases y; simp_all)
open Classical in
noncomputable def spSzBoxS : VM.Spec := { modes := [.rd, .rd], run := fun | [.lst 7 l', .int .i64 n] => (decL Box.dec l').bind fun l => if leL Box.le 4611686018427387904 l ∧ 0 ≤ n ∧ n ≤ 4611686018427387904 then some (.int .i64 (szLL Box.sz l n), []) else none | _ => none, need := [] }
attribute [go_sem] spSzBoxS
theorem spSzBoxS_in {ins : List V} {r : V} {outs : List V} (h : spSzBoxS.run ins = some (r, outs)) : ∃ (l : (List Box)) (n : Int), ins = [.lst 7 ((l).map Box.enc), .int .i64 n] ∧ (leL Box.le 4611686018427387904 l ∧ 0 ≤ n ∧ n ≤ 4611686018427387904) ∧ .int .i64 (szLL Box.sz l n) = r ∧ outs = [] := by
  unfold spSzBoxS at h
  simp only at h
  split at h
  · rename_i l' n
    simp only [Option.bind_eq_some_iff] at h
    obtain ⟨l, h_l, h⟩ := h
    split at h
    case isFalse => cases h
    rename_i hc
    simp only [Option.some.injEq, Prod.mk.injEq] at h
    obtain ⟨h1, h2⟩ := h
    have h_l := decL_some (fun _ _ h => Box.dec_some h) h_l
    subst h_l
    exact ⟨l, n, rfl, hc, h1, h2.symm⟩
  · cases h
def T_laws_szBoxS : Hints := ⟨fun _ => none, fun i => if i = 5 then some [0, 1, 5] else none, fun i => if i = 0 then some [0, 1] else if i = 1 then some [0, 1] else if i = 2 then some [0, 1, 11] else if i = 3 then some [4] else if i = 4 then some [0, 1, 5] else if i = 5 then some [0, 1, 5, 15] else if i = 7 then some [0, 1, 5] else if i = 8 then some [0, 1, 5, 25] else if i = 9 then some [4] else if i = 6 then some [0, 1, 5] else if i = 10 then some [4] else none, fun _ => none⟩
noncomputable def Phi_laws_szBoxS : Tab := fun f => if f = 31 then some spSzBox else none
attribute [go_sem] T_laws_szBoxS Phi_laws_szBoxS
theorem phi_laws_szBoxS : ∀ f sp, Phi_laws_szBoxS f = some sp → FnOk Try.prog f sp ∧ ∀ n ∈ sp.need, n ∈ ([] : List String) := by
  intro f sp h
  unfold Phi_laws_szBoxS at h
  by_cases e : f = 31
  · rw [if_pos e] at h; cases h; rw [e]; exact ⟨ok_laws_szBox, (fun n (h : n ∈ ([] : List String)) => (nomatch h))⟩
  rw [if_neg e] at h
  cases h
theorem ok_laws_szBoxS : FnOk Try.prog 14 spSzBoxS := by
  refine fn_ok (Φ := Phi_laws_szBoxS) (T := T_laws_szBoxS) phi_laws_szBoxS mixed Try.func14 rfl rfl rfl (by decide) ?_
  intro ins r outs hr hl
  clear hl
  have hs := spSzBoxS_in hr
  clear hr
  obtain ⟨l, n, rfl, hc, hr, rfl⟩ := hs
  simp only [spSzBoxS, Try.f14, Go.VM.initS]
  obtain ⟨⟨hc, hd⟩, h0, h1⟩ := hc
  have w : IntKind.i64.wrap (n - (l.length : Int)) = n - l.length := wrap64 (by omega) (by omega)
  by_cases b : n - (l.length : Int) < 0
  · simp only [w, b, go_sem]
    repeat' ((first | apply qa | apply qb | apply qc | apply qd | apply qe | apply qf | apply qg | apply qh | apply qi | apply qj | apply qk) <;> intro hp <;> simp only [hp, w, b, go_sem])
    simp only [fin_mk, finV, resL, resV1, resIn, endA, listIn, Option.some_or, Option.none_or, oneOrTup, go_sem]
    rw [← hr]
    simp only [szLL, thenSz, subSz, b, if_true, Int.reduceNeg, Int.reduceLT]
  simp only [w, b, go_sem]
  refine loop_go (fun p : Nat × Int => [(1, .int .i64 p.2), (5, .int .i64 (p.1 : Int))]) (fun _ => []) (fun p => l.length - p.1) (fun p => p.1 ≤ l.length ∧ p.2 = szL Box.sz (l.take p.1) (n - l.length) ∧ 0 ≤ p.2 ∧ p.2 ≤ 4611686018427387904) (0, n - l.length) ⟨Nat.zero_le _, rfl, by simp only; omega, by simp only; omega⟩ rfl rfl ?_
  rintro ⟨i, m⟩ ⟨hi, hm, m0, m1⟩ ih
  simp only at hi hm m0 m1 ih
  have hsz : Box.sz = Box.sz := rfl
  have hend : szLL Box.sz l n = szL Box.sz l (n - l.length) := by simp only [szLL, thenSz, subSz, b, if_false]
  rcases Nat.lt_or_ge i l.length with h | h
  · have g1 : (i : Int) < l.length := by omega
    have g2 : (0 : Int) ≤ i := by omega
    have g3 : l[i]? = some l[i] := List.getElem?_eq_getElem h
    have g5 := wrap_succ h hc
    have gx : l[i].le 4611686018427387904 := hd _ (List.getElem_mem h)
    rcases Box.sz_ok l[i] m 4611686018427387904 m0 m1 with e | ⟨e1, e2, -⟩
    · simp only [g1, g2, g3, g5, gx, m0, m1, e, go_sem]
      repeat' ((first | apply qa | apply qb | apply qc | apply qd | apply qe | apply qf | apply qg | apply qh | apply qi | apply qj | apply qk) <;> intro hp <;> simp only [hp, g1, g2, g3, g5, gx, m0, m1, e, go_sem])
      simp only [fin_mk, finV, resL, resV1, resIn, endA, listIn, Option.some_or, Option.none_or, oneOrTup, go_sem]
      rw [← hr]
      rw [hend, szL_bad l i _ h (by rw [← hm]; exact m0) (by rw [← hm, e]; decide)]
    · have e3 : ¬ Box.sz l[i] m < 0 := by omega
      simp only [g1, g2, g3, g5, gx, m0, m1, e3, go_sem]
      repeat' ((first | apply qa | apply qb | apply qc | apply qd | apply qe | apply qf | apply qg | apply qh | apply qi | apply qj | apply qk) <;> intro hp <;> simp only [hp, g1, g2, g3, g5, gx, m0, m1, e3, go_sem])
      refine ih (i + 1, Box.sz l[i] m) ⟨h, ?_, e1, by simp only; omega⟩ (by simp only; omega)
      have key := szL_take (f := Box.sz) l i (n - l.length) h (fun k hk => ?_) (by rw [← hm]; exact m0) (by omega)
      · rw [key, hm]
      · exact Box.sz_neg _ _ hk
  · have g1 : ¬ (i : Int) < l.length := by omega
    simp only [g1, go_sem]
    simp only [fin_mk, finV, resL, resV1, resIn, endA, listIn, Option.some_or, Option.none_or, oneOrTup, go_sem]
    rw [← hr]
    rw [hend, hm, List.take_of_length_le h]
open Classical in
noncomputable def spToBoxS : VM.Spec := { modes := [.rd], run := fun | [.lst 7 l'] => (decL Box.dec l').bind fun l => if leL Box.le 4194304 l then some (.lst 7 ((l).map Box.enc), []) else none | _ => none, need := [] }
attribute [go_sem] spToBoxS
theorem spToBoxS_in {ins : List V} {r : V} {outs : List V} (h : spToBoxS.run ins = some (r, outs)) : ∃ (l : (List Box)), ins = [.lst 7 ((l).map Box.enc)] ∧ (leL Box.le 4194304 l) ∧ .lst 7 ((l).map Box.enc) = r ∧ outs = [] := by
  unfold spToBoxS at h
  simp only at h
  split at h
  · rename_i l'
    simp only [Option.bind_eq_some_iff] at h
    obtain ⟨l, h_l, h⟩ := h
    split at h
    case isFalse => cases h
    rename_i hc
    simp only [Option.some.injEq, Prod.mk.injEq] at h
    obtain ⟨h1, h2⟩ := h
    have h_l := decL_some (fun _ _ h => Box.dec_some h) h_l
    subst h_l
    exact ⟨l, rfl, hc, h1, h2.symm⟩
  · cases h
def T_laws_toBoxS : Hints := ⟨fun _ => none, fun i => if i = 3 then some [0, 3, 4] else none, fun i => if i = 0 then some [0] else if i = 1 then some [0, 3] else if i = 2 then some [0, 3, 4] else if i = 3 then some [0, 3, 4, 11] else if i = 5 then some [0, 3, 4] else if i = 4 then some [0, 3, 4] else if i = 6 then some [2] else none, fun _ => none⟩
noncomputable def Phi_laws_toBoxS : Tab := fun f => if f = 35 then some spToBox else none
attribute [go_sem] T_laws_toBoxS Phi_laws_toBoxS
theorem phi_laws_toBoxS : ∀ f sp, Phi_laws_toBoxS f = some sp → FnOk Try.prog f sp ∧ ∀ n ∈ sp.need, n ∈ ([] : List String) := by
  intro f sp h
  unfold Phi_laws_toBoxS at h
  by_cases e : f = 35
  · rw [if_pos e] at h; cases h; rw [e]; exact ⟨ok_laws_toBox, (fun n (h : n ∈ ([] : List String)) => (nomatch h))⟩
  rw [if_neg e] at h
  cases h
theorem ok_laws_toBoxS : FnOk Try.prog 18 spToBoxS := by
  refine fn_ok (Φ := Phi_laws_toBoxS) (T := T_laws_toBoxS) phi_laws_toBoxS mixed Try.func18 rfl rfl rfl (by decide) ?_
  intro ins r outs hr hl
  clear hl
  have hs := spToBoxS_in hr
  clear hr
  obtain ⟨l, rfl, hc, hr, rfl⟩ := hs
  simp only [spToBoxS, Try.f18, Go.VM.initS]
  obtain ⟨hc, hd⟩ := hc
  have h1 : (l.length : Int) ≤ 9223372036854775807 := by omega
  have h2 : (l.length : Int) * 96 ≤ 140737488355328 := by omega
  have h3 : (0 : Int) ≤ l.length := by omega
  simp only [h1, h2, h3, Int.cast_ofNat_Int, go_sem]
  refine loop_go (fun p : Nat × List V => [(4, .int .i64 (p.1 : Int))]) (fun p => [(0, ⟨.arr, 7, p.2⟩)]) (fun p => l.length - p.1) (fun p => p.1 ≤ l.length ∧ p.2 = (l.take p.1).map Box.enc ++ List.replicate (l.length - p.1) (.agg [.str [], .int .i64 0, .int .i64 0, .int .i64 0, .lst 4 [], .lst 2 [], .int .i64 0])) (0, List.replicate l.length (.agg [.str [], .int .i64 0, .int .i64 0, .int .i64 0, .lst 4 [], .lst 2 [], .int .i64 0])) ⟨Nat.zero_le _, by simp⟩ rfl rfl ?_
  rintro ⟨i, els⟩ ⟨hi, hels⟩ ih
  simp only at hi hels ih
  have hlen : els.length = l.length := by rw [hels]; simp; omega
  rcases Nat.lt_or_ge i l.length with h | h
  · have g1 : (i : Int) < l.length := by omega
    have g2 : (0 : Int) ≤ i := by omega
    have g3 : l[i]? = some l[i] := List.getElem?_eq_getElem h
    have g4 : els[i]? = some (els[i]'(by omega)) := List.getElem?_eq_getElem (by omega)
    have g5 := wrap_succ h (by omega)
    have gx := hd _ (List.getElem_mem h)
    simp only [g1, g2, g3, g4, g5, hlen, gx, go_sem]
    repeat' ((first | apply qa | apply qb | apply qc | apply qd | apply qe | apply qf | apply qg | apply qh | apply qi | apply qj | apply qk) <;> intro hp <;> simp only [hp, g1, g2, g3, g4, g5, hlen, gx, go_sem])
    refine ih (i + 1, els.set i (.agg [.str l[i].Name, .int .i64 l[i].Valid, .int .i64 l[i].Next, .int .i64 l[i].Mod, .lst 4 (l[i].Mails.map Mail.enc), .lst 2 (l[i].Tombs.map Tomb.enc), .int .i64 l[i].Horizon])) ⟨h, ?_⟩ (by simp only; omega)
    simp only
    rw [hels]
    exact fill_step _ h rfl
  · have g1 : ¬ (i : Int) < l.length := by omega
    simp only [g1, go_sem]
    simp only [fin_mk, finV, resL, resV1, resIn, endA, listIn, Option.some_or, Option.none_or, oneOrTup, go_sem]
    rw [← hr, hels, List.take_of_length_le h, show l.length - i = 0 by omega]
    simp
open Classical in
noncomputable def spEqBoxS : VM.Spec := { modes := [.rd, .rd], run := fun | [.lst 7 x', .lst 7 y'] => (decL Box.dec x').bind fun x => (decL Box.dec y').bind fun y => if leL Box.le 4194304 x ∧ leL Box.le 4194304 y then some (.bool (decide (x = y)), []) else none | _ => none, need := [] }
attribute [go_sem] spEqBoxS
theorem spEqBoxS_in {ins : List V} {r : V} {outs : List V} (h : spEqBoxS.run ins = some (r, outs)) : ∃ (x : (List Box)) (y : (List Box)), ins = [.lst 7 ((x).map Box.enc), .lst 7 ((y).map Box.enc)] ∧ (leL Box.le 4194304 x ∧ leL Box.le 4194304 y) ∧ .bool (decide (x = y)) = r ∧ outs = [] := by
  unfold spEqBoxS at h
  simp only at h
  split at h
  · rename_i x' y'
    simp only [Option.bind_eq_some_iff] at h
    obtain ⟨x, h_x, y, h_y, h⟩ := h
    split at h
    case isFalse => cases h
    rename_i hc
    simp only [Option.some.injEq, Prod.mk.injEq] at h
    obtain ⟨h1, h2⟩ := h
    have h_x := decL_some (fun _ _ h => Box.dec_some h) h_x
    subst h_x
    have h_y := decL_some (fun _ _ h => Box.dec_some h) h_y
    subst h_y
    exact ⟨x, y, rfl, hc, h1, h2.symm⟩
  · cases h
def T_laws_eqBoxS : Hints := ⟨fun i => if i = 6 then some [] else none, fun i => if i = 4 then some [0, 1, 5] else none, fun i => if i = 0 then some [0, 1] else if i = 1 then some [0, 1, 10] else if i = 2 then some [4] else if i = 3 then some [0, 1, 5] else if i = 4 then some [0, 1, 5, 14] else if i = 6 then some [0, 1, 5, 26] else if i = 7 then some [4] else if i = 5 then some [0, 1, 5] else if i = 8 then some [4] else none, fun _ => none⟩
noncomputable def Phi_laws_eqBoxS : Tab := fun f => if f = 41 then some spEqBox else none
attribute [go_sem] T_laws_eqBoxS Phi_laws_eqBoxS
theorem phi_laws_eqBoxS : ∀ f sp, Phi_laws_eqBoxS f = some sp → FnOk Try.prog f sp ∧ ∀ n ∈ sp.need, n ∈ ([] : List String) := by
  intro f sp h
  unfold Phi_laws_eqBoxS at h
  by_cases e : f = 41
  · rw [if_pos e] at h; cases h; rw [e]; exact ⟨ok_laws_eqBox, (fun n (h : n ∈ ([] : List String)) => (nomatch h))⟩
  rw [if_neg e] at h
  cases h
theorem ok_laws_eqBoxS : FnOk Try.prog 23 spEqBoxS := by
  refine fn_ok (Φ := Phi_laws_eqBoxS) (T := T_laws_eqBoxS) phi_laws_eqBoxS mixed Try.func23 rfl rfl rfl (by decide) ?_
  intro ins r outs hr hl
  clear hl
  have hs := spEqBoxS_in hr
  clear hr
  obtain ⟨x, y, rfl, hc, hr, rfl⟩ := hs
  simp only [spEqBoxS, Try.f23, Go.VM.initS]
  obtain ⟨⟨hx, hx'⟩, hy, hy'⟩ := hc
  by_cases hl : x.length = y.length
  case neg =>
    have g : ((x.length : Int) == y.length) = false := by rw [beq_eq_false_iff_ne]; omega
    have g' : ((x.length : Int) != y.length) = true := by rw [bne_iff_ne]; omega
    have hne : x ≠ y := fun e => hl (by rw [e])
    simp only [g, g', go_sem]
    repeat' ((first | ((first | apply qa | apply qb | apply qc | apply qd | apply qe | apply qf | apply qg | apply qh | apply qi | apply qj | apply qk) <;> intro hp) | ((first | refine ql rfl rfl (by decide +kernel) ?_ | refine qm _ rfl rfl (by decide +kernel) ?_) <;> have hp := True.intro)) <;> simp only [hp, g, g', go_sem])
    simp only [fin_mk, finV, resL, resV1, resIn, endA, listIn, Option.some_or, Option.none_or, oneOrTup, go_sem]
    rw [← hr]
    simp only [hne, decide_false]
  have hl' : (x.length : Int) = y.length := by omega
  simp only [hl, bne_self_eq_false, go_sem]
  repeat' ((first | ((first | apply qa | apply qb | apply qc | apply qd | apply qe | apply qf | apply qg | apply qh | apply qi | apply qj | apply qk) <;> intro hp) | ((first | refine ql rfl rfl (by decide +kernel) ?_ | refine qm _ rfl rfl (by decide +kernel) ?_) <;> have hp := True.intro)) <;> simp only [hp, hl, bne_self_eq_false, go_sem])
  refine loop_go (fun i : Nat => [(5, .int .i64 (i : Int))]) (fun _ => []) (fun i => x.length - i) (fun i => i ≤ x.length ∧ x.take i = y.take i) 0 ⟨Nat.zero_le _, by simp⟩ rfl rfl ?_
  intro i ⟨hi, he⟩ ih
  rcases Nat.lt_or_ge i x.length with h | h
  · have g1 : (i : Int) < x.length := by omega
    have g1' : (i : Int) < y.length := by omega
    have g2 : (0 : Int) ≤ i := by omega
    have g3 : x[i]? = some x[i] := List.getElem?_eq_getElem h
    have g4 : y[i]? = some (y[i]'(by omega)) := List.getElem?_eq_getElem (by omega)
    have g5 := wrap_succ h (by omega)
    have gx := hx' _ (List.getElem_mem h); have gy := hy' _ (List.getElem_mem (show i < y.length by omega))
    by_cases hv : x[i] = (y[i]'(by omega))
    · simp only [g1, g1', g2, g3, g4, g5, hv, gx, gy, go_sem]
      repeat' ((first | ((first | apply qa | apply qb | apply qc | apply qd | apply qe | apply qf | apply qg | apply qh | apply qi | apply qj | apply qk) <;> intro hp) | ((first | refine ql rfl rfl (by decide +kernel) ?_ | refine qm _ rfl rfl (by decide +kernel) ?_) <;> have hp := True.intro)) <;> simp only [hp, g1, g1', g2, g3, g4, g5, hv, gx, gy, go_sem])
      exact ih (i + 1) ⟨h, by rw [List.take_add_one, List.take_add_one, he, g3, g4, hv]⟩ (by omega)
    · have hne : x ≠ y := by rintro rfl; exact hv rfl
      have hv1 : (x[i] == (y[i]'(by omega))) = false := by rw [beq_eq_false_iff_ne]; exact hv
      have hv2 : (x[i] != (y[i]'(by omega))) = true := by rw [bne_iff_ne]; exact hv
      simp only [g1, g1', g2, g3, g4, g5, hv, hv1, hv2, gx, gy, go_sem]
      repeat' ((first | ((first | apply qa | apply qb | apply qc | apply qd | apply qe | apply qf | apply qg | apply qh | apply qi | apply qj | apply qk) <;> intro hp) | ((first | refine ql rfl rfl (by decide +kernel) ?_ | refine qm _ rfl rfl (by decide +kernel) ?_) <;> have hp := True.intro)) <;> simp only [hp, g1, g1', g2, g3, g4, g5, hv, hv1, hv2, gx, gy, go_sem])
      simp only [fin_mk, finV, resL, resV1, resIn, endA, listIn, Option.some_or, Option.none_or, oneOrTup, go_sem]
      rw [← hr]
      simp only [hne, decide_false]
  · have g1 : ¬ (i : Int) < x.length := by omega
    have g1' : ¬ (i : Int) < y.length := by omega
    simp only [g1, g1', go_sem]
    simp only [fin_mk, finV, resL, resV1, resIn, endA, listIn, Option.some_or, Option.none_or, oneOrTup, go_sem]
    rw [← hr]
    rw [List.take_of_length_le h, List.take_of_length_le (by omega)] at he
    simp only [he, decide_true]
open Classical in
noncomputable def spMarkBoxS : VM.Spec := { modes := [.io, .rd], run := fun | [.lst 7 l', .int .i64 k] => (decL Box.dec l').bind fun l => if leL Box.ln 4194304 l ∧ 0 ≤ k ∧ k ≤ 144115188075855872 then some (.int .i64 ((markL meBox l k).2), [.lst 7 (((markL meBox l k).1).map Box.enc)]) else none | _ => none, need := [] }
attribute [go_sem] spMarkBoxS
theorem spMarkBoxS_in {ins : List V} {r : V} {outs : List V} (h : spMarkBoxS.run ins = some (r, outs)) : ∃ (l : (List Box)) (k : Int), ins = [.lst 7 ((l).map Box.enc), .int .i64 k] ∧ (leL Box.ln 4194304 l ∧ 0 ≤ k ∧ k ≤ 144115188075855872) ∧ .int .i64 ((markL meBox l k).2) = r ∧ outs = [.lst 7 (((markL meBox l k).1).map Box.enc)] := by
  unfold spMarkBoxS at h
  simp only at h
  split at h
  · rename_i l' k
    simp only [Option.bind_eq_some_iff] at h
    obtain ⟨l, h_l, h⟩ := h
    split at h
    case isFalse => cases h
    rename_i hc
    simp only [Option.some.injEq, Prod.mk.injEq] at h
    obtain ⟨h1, h2⟩ := h
    have h_l := decL_some (fun _ _ h => Box.dec_some h) h_l
    subst h_l
    exact ⟨l, k, rfl, hc, h1, h2.symm⟩
  · cases h
def T_laws_markBoxS : Hints := ⟨fun _ => none, fun i => if i = 2 then some [0, 1, 5] else none, fun i => if i = 0 then some [0, 1] else if i = 1 then some [0, 1, 5] else if i = 2 then some [0, 1, 5, 9] else if i = 4 then some [0, 1, 5] else if i = 5 then some [0, 1, 5] else if i = 6 then some [0, 1, 5] else if i = 7 then some [0, 1, 5] else if i = 8 then some [0, 1, 5] else if i = 9 then some [0, 1, 5] else if i = 10 then some [0, 1, 5] else if i = 11 then some [0, 1, 5] else if i = 12 then some [0, 1, 5] else if i = 13 then some [0, 1, 5] else if i = 14 then some [0, 1, 5] else if i = 15 then some [0, 1, 5] else if i = 3 then some [0, 1, 5] else if i = 16 then some [4] else none, fun i => if i = 12 then some ((0, []), (5, [])) else if i = 13 then some ((0, []), (5, [])) else none⟩
noncomputable def Phi_laws_markBoxS : Tab := fun f => if f = 42 then some spMarkText else if f = 43 then some spMarkMailS else if f = 44 then some spMarkTombS else none
attribute [go_sem] T_laws_markBoxS Phi_laws_markBoxS
theorem phi_laws_markBoxS : ∀ f sp, Phi_laws_markBoxS f = some sp → FnOk Try.prog f sp ∧ ∀ n ∈ sp.need, n ∈ ([] : List String) := by
  intro f sp h
  unfold Phi_laws_markBoxS at h
  by_cases e : f = 42
  · rw [if_pos e] at h; cases h; rw [e]; exact ⟨ok_laws_markText, (fun n (h : n ∈ ([] : List String)) => (nomatch h))⟩
  rw [if_neg e] at h
  by_cases e : f = 43
  · rw [if_pos e] at h; cases h; rw [e]; exact ⟨ok_laws_markMailS, (fun n (h : n ∈ ([] : List String)) => (nomatch h))⟩
  rw [if_neg e] at h
  by_cases e : f = 44
  · rw [if_pos e] at h; cases h; rw [e]; exact ⟨ok_laws_markTombS, (fun n (h : n ∈ ([] : List String)) => (nomatch h))⟩
  rw [if_neg e] at h
  cases h
theorem ok_laws_markBoxS : FnOk Try.prog 24 spMarkBoxS := by
  refine fn_ok (Φ := Phi_laws_markBoxS) (T := T_laws_markBoxS) phi_laws_markBoxS mixed Try.func24 rfl rfl rfl (by decide) ?_
  intro ins r outs hr hl
  clear hl
  have hs := spMarkBoxS_in hr
  clear hr
  obtain ⟨l, k, rfl, hc, hr, rfl⟩ := hs
  simp only [spMarkBoxS, Try.f24, Go.VM.initS]
  obtain ⟨⟨hc, hd⟩, h0, h1⟩ := hc
  simp only [go_sem]
  refine loop_go (fun p : Nat × List V × Int => [(1, .int .i64 p.2.2), (5, .int .i64 (p.1 : Int))]) (fun p => [(0, ⟨.arr, 7, p.2.1⟩)]) (fun p => l.length - p.1) (fun p => p.1 ≤ l.length ∧ p.2.1 = ((markL meBox (l.take p.1) k).1 ++ l.drop p.1).map Box.enc ∧ p.2.2 = (markL meBox (l.take p.1) k).2 ∧ 0 ≤ p.2.2 ∧ p.2.2 ≤ k + 25165829 * p.1) (0, l.map Box.enc, k) ⟨Nat.zero_le _, by simp [markL], rfl, h0, by simp⟩ rfl rfl ?_
  rintro ⟨i, els, k'⟩ ⟨hi, he, hk, hb0, hb⟩ ih
  simp only at hi he hk hb0 hb ih
  rcases Nat.lt_or_ge i l.length with h | h
  · have g1 : (i : Int) < l.length := by omega
    have g2 : (0 : Int) ≤ i := by omega
    obtain ⟨g3, gl, gs, gk⟩ := mark_round h he
    rw [← hk] at gs gk
    have g5 := wrap_succ h (by omega)
    have hx := hd _ (List.getElem_mem h)
    have c0 : l[i].Mails.length ≤ 4194304 := hx.1
    have c1 : l[i].Tombs.length ≤ 4194304 := hx.2
    have j0 : k' ≤ 4611686018427387904 := by omega
    have w0 : IntKind.i64.wrap (k' + 1) = k' + 1 := wrap64 (by omega) (by omega)
    have j1 : k' + 1 ≤ 4611686018427387904 := by omega
    have w1 : IntKind.i64.wrap (k' + 1 + 1) = k' + 1 + 1 := wrap64 (by omega) (by omega)
    have j2 : k' + 1 + 1 ≤ 4611686018427387904 := by omega
    have w2 : IntKind.i64.wrap (k' + 1 + 1 + 1) = k' + 1 + 1 + 1 := wrap64 (by omega) (by omega)
    have j3 : k' + 1 + 1 + 1 ≤ 4611686018427387904 := by omega
    have w3 : IntKind.i64.wrap (k' + 1 + 1 + 1 + 1) = k' + 1 + 1 + 1 + 1 := wrap64 (by omega) (by omega)
    have j4 : k' + 1 + 1 + 1 + 1 ≤ 4611686018427387904 := by omega
    have p4 : 0 ≤ k' + 1 + 1 + 1 + 1 := by omega
    have q4 : k' + 1 + 1 + 1 + 1 ≤ 1152921504606846976 := by omega
    have r4 : (markL meMail l[i].Mails (k' + 1 + 1 + 1 + 1)).2 = k' + 1 + 1 + 1 + 1 + (4 : Nat) * l[i].Mails.length := markL_k meMail_k _ _
    have j5 : (markL meMail l[i].Mails (k' + 1 + 1 + 1 + 1)).2 ≤ 4611686018427387904 := by omega
    have s4 : ¬ (markL meMail l[i].Mails (k' + 1 + 1 + 1 + 1)).2 < 0 := by omega
    have p5 : 0 ≤ (markL meMail l[i].Mails (k' + 1 + 1 + 1 + 1)).2 := by omega
    have q5 : (markL meMail l[i].Mails (k' + 1 + 1 + 1 + 1)).2 ≤ 1152921504606846976 := by omega
    have r5 : (markL meTomb l[i].Tombs ((markL meMail l[i].Mails (k' + 1 + 1 + 1 + 1)).2)).2 = (markL meMail l[i].Mails (k' + 1 + 1 + 1 + 1)).2 + (2 : Nat) * l[i].Tombs.length := markL_k meTomb_k _ _
    have j6 : (markL meTomb l[i].Tombs ((markL meMail l[i].Mails (k' + 1 + 1 + 1 + 1)).2)).2 ≤ 4611686018427387904 := by omega
    have s5 : ¬ (markL meTomb l[i].Tombs ((markL meMail l[i].Mails (k' + 1 + 1 + 1 + 1)).2)).2 < 0 := by omega
    have w6 : IntKind.i64.wrap ((markL meTomb l[i].Tombs ((markL meMail l[i].Mails (k' + 1 + 1 + 1 + 1)).2)).2 + 1) = (markL meTomb l[i].Tombs ((markL meMail l[i].Mails (k' + 1 + 1 + 1 + 1)).2)).2 + 1 := wrap64 (by omega) (by omega)
    have j7 : (markL meTomb l[i].Tombs ((markL meMail l[i].Mails (k' + 1 + 1 + 1 + 1)).2)).2 + 1 ≤ 4611686018427387904 := by omega
    rw [Box.enc] at g3
    have gi : i < els.length := by omega
    simp only [g1, g2, g3, gl, g5, h, gi, c0, c1, j0, w0, j1, w1, j2, w2, j3, w3, j4, p4, q4, j5, s4, p5, q5, j6, s5, w6, j7, List.getElem?_set_self, List.length_set, List.set_set, go_sem]
    repeat' ((first | ((first | apply qa | apply qb | apply qc | apply qd | apply qe | apply qf | apply qg | apply qh | apply qi | apply qj | apply qk) <;> intro hp) | ((first | refine goes_opn rfl ?_ | refine goes_opnD rfl rfl (by decide +kernel) ?_) <;> have hp := True.intro)) <;> simp only [hp, g1, g2, g3, gl, g5, h, gi, c0, c1, j0, w0, j1, w1, j2, w2, j3, w3, j4, p4, q4, j5, s4, p5, q5, j6, s5, w6, j7, List.getElem?_set_self, List.length_set, List.set_set, go_sem])
    refine ih (i + 1, els.set i (Box.enc (meBox l[i] k').1), (meBox l[i] k').2) ⟨h, gs, gk, ?_, ?_⟩ (by simp only; omega)
    · simp only; rw [meBox_k]; omega
    · simp only; rw [meBox_k]; push_cast; omega
  · have g1 : ¬ (i : Int) < l.length := by omega
    have gl : els.length = l.length := by rw [he]; simp [markL_len]; omega
    simp only [g1, gl, go_sem]
    simp only [fin_mk, finV, resL, resV1, resIn, endA, listIn, Option.some_or, Option.none_or, oneOrTup, go_sem]
    rw [← hr, he, hk, List.take_of_length_le h, List.drop_of_length_le h, List.append_nil]
open Classical in
noncomputable def spHeldBoxS : VM.Spec := { modes := [.rd, .rd], run := fun | [.lst 7 l', .int .i64 k] => (decL Box.dec l').bind fun l => if leL Box.ln 4194304 l ∧ (markL meBox l k).1 = l ∧ 0 ≤ k ∧ k ≤ 144115188075855872 then some (.int .i64 ((markL meBox l k).2), []) else none | _ => none, need := [] }
attribute [go_sem] spHeldBoxS
theorem spHeldBoxS_in {ins : List V} {r : V} {outs : List V} (h : spHeldBoxS.run ins = some (r, outs)) : ∃ (l : (List Box)) (k : Int), ins = [.lst 7 ((l).map Box.enc), .int .i64 k] ∧ (leL Box.ln 4194304 l ∧ (markL meBox l k).1 = l ∧ 0 ≤ k ∧ k ≤ 144115188075855872) ∧ .int .i64 ((markL meBox l k).2) = r ∧ outs = [] := by
  unfold spHeldBoxS at h
  simp only at h
  split at h
  · rename_i l' k
    simp only [Option.bind_eq_some_iff] at h
    obtain ⟨l, h_l, h⟩ := h
    split at h
    case isFalse => cases h
    rename_i hc
    simp only [Option.some.injEq, Prod.mk.injEq] at h
    obtain ⟨h1, h2⟩ := h
    have h_l := decL_some (fun _ _ h => Box.dec_some h) h_l
    subst h_l
    exact ⟨l, k, rfl, hc, h1, h2.symm⟩
  · cases h
def T_laws_heldBoxS : Hints := ⟨fun i => if i = 4 then some [(2, 6), (3, 6), (4, 6)] else none, fun i => if i = 2 then some [0, 1, 5] else none, fun i => if i = 0 then some [0, 1] else if i = 1 then some [0, 1, 5] else if i = 2 then some [0, 1, 5, 9] else if i = 4 then some [0, 1, 5, 19] else if i = 5 then some [4] else if i = 6 then some [0, 1, 5] else if i = 7 then some [0, 1, 5, 28] else if i = 8 then some [4] else if i = 9 then some [0, 1, 5] else if i = 10 then some [0, 1, 5, 37] else if i = 11 then some [4] else if i = 12 then some [0, 1, 5] else if i = 13 then some [0, 1, 5, 46] else if i = 14 then some [4] else if i = 15 then some [0, 1, 5] else if i = 16 then some [0, 1, 5] else if i = 17 then some [0, 1, 5, 57] else if i = 18 then some [4] else if i = 19 then some [0, 1, 5] else if i = 20 then some [0, 1, 5, 66] else if i = 21 then some [4] else if i = 22 then some [0, 1, 5, 73] else if i = 23 then some [4] else if i = 24 then some [0, 1, 5] else if i = 3 then some [0, 1, 5] else if i = 25 then some [4] else none, fun _ => none⟩
noncomputable def Phi_laws_heldBoxS : Tab := fun f => if f = 42 then some spMarkText else if f = 45 then some spHeldMailS else if f = 46 then some spHeldTombS else none
attribute [go_sem] T_laws_heldBoxS Phi_laws_heldBoxS
theorem phi_laws_heldBoxS : ∀ f sp, Phi_laws_heldBoxS f = some sp → FnOk Try.prog f sp ∧ ∀ n ∈ sp.need, n ∈ ([] : List String) := by
  intro f sp h
  unfold Phi_laws_heldBoxS at h
  by_cases e : f = 42
  · rw [if_pos e] at h; cases h; rw [e]; exact ⟨ok_laws_markText, (fun n (h : n ∈ ([] : List String)) => (nomatch h))⟩
  rw [if_neg e] at h
  by_cases e : f = 45
  · rw [if_pos e] at h; cases h; rw [e]; exact ⟨ok_laws_heldMailS, (fun n (h : n ∈ ([] : List String)) => (nomatch h))⟩
  rw [if_neg e] at h
  by_cases e : f = 46
  · rw [if_pos e] at h; cases h; rw [e]; exact ⟨ok_laws_heldTombS, (fun n (h : n ∈ ([] : List String)) => (nomatch h))⟩
  rw [if_neg e] at h
  cases h
theorem ok_laws_heldBoxS : FnOk Try.prog 25 spHeldBoxS := by
  refine fn_ok (Φ := Phi_laws_heldBoxS) (T := T_laws_heldBoxS) phi_laws_heldBoxS mixed Try.func25 rfl rfl rfl (by decide) ?_
  intro ins r outs hr hl
  clear hl
  have hs := spHeldBoxS_in hr
  clear hr
  obtain ⟨l, k, rfl, hc, hr, rfl⟩ := hs
  simp only [spHeldBoxS, Try.f25, Go.VM.initS]
  obtain ⟨⟨hc, hd⟩, hm, h0, h1⟩ := hc
  simp only [go_sem]
  refine loop_go (fun p : Nat × Int => [(1, .int .i64 p.2), (5, .int .i64 (p.1 : Int))]) (fun p => []) (fun p => l.length - p.1) (fun p => p.1 ≤ l.length ∧ p.2 = (markL meBox (l.take p.1) k).2 ∧ 0 ≤ p.2 ∧ p.2 ≤ k + 25165829 * p.1) (0, k) ⟨Nat.zero_le _, rfl, h0, by simp⟩ rfl rfl ?_
  rintro ⟨i, k'⟩ ⟨hi, hk, hb0, hb⟩ ih
  simp only at hi hk hb0 hb ih
  rcases Nat.lt_or_ge i l.length with h | h
  · have g1 : (i : Int) < l.length := by omega
    have g2 : (0 : Int) ≤ i := by omega
    have g3 : l[i]? = some l[i] := List.getElem?_eq_getElem h
    have g5 := wrap_succ h (by omega)
    have hn := markL_fix hm h
    rw [← hk] at hn
    have gk : (meBox l[i] k').2 = (markL meBox (l.take (i + 1)) k).2 := by rw [take_succ' h, markL_step, hk]
    have hx := hd _ (List.getElem_mem h)
    have c0 : l[i].Mails.length ≤ 4194304 := hx.1
    have c1 : l[i].Tombs.length ≤ 4194304 := hx.2
    have j0 : k' ≤ 4611686018427387904 := by omega
    have w0 : IntKind.i64.wrap (k' + 1) = k' + 1 := wrap64 (by omega) (by omega)
    have j1 : k' + 1 ≤ 4611686018427387904 := by omega
    have w1 : IntKind.i64.wrap (k' + 1 + 1) = k' + 1 + 1 := wrap64 (by omega) (by omega)
    have j2 : k' + 1 + 1 ≤ 4611686018427387904 := by omega
    have w2 : IntKind.i64.wrap (k' + 1 + 1 + 1) = k' + 1 + 1 + 1 := wrap64 (by omega) (by omega)
    have j3 : k' + 1 + 1 + 1 ≤ 4611686018427387904 := by omega
    have w3 : IntKind.i64.wrap (k' + 1 + 1 + 1 + 1) = k' + 1 + 1 + 1 + 1 := wrap64 (by omega) (by omega)
    have j4 : k' + 1 + 1 + 1 + 1 ≤ 4611686018427387904 := by omega
    have p4 : 0 ≤ k' + 1 + 1 + 1 + 1 := by omega
    have q4 : k' + 1 + 1 + 1 + 1 ≤ 1152921504606846976 := by omega
    have r4 : (markL meMail l[i].Mails (k' + 1 + 1 + 1 + 1)).2 = k' + 1 + 1 + 1 + 1 + (4 : Nat) * l[i].Mails.length := markL_k meMail_k _ _
    have j5 : (markL meMail l[i].Mails (k' + 1 + 1 + 1 + 1)).2 ≤ 4611686018427387904 := by omega
    have s4 : ¬ (markL meMail l[i].Mails (k' + 1 + 1 + 1 + 1)).2 < 0 := by omega
    have p5 : 0 ≤ (markL meMail l[i].Mails (k' + 1 + 1 + 1 + 1)).2 := by omega
    have q5 : (markL meMail l[i].Mails (k' + 1 + 1 + 1 + 1)).2 ≤ 1152921504606846976 := by omega
    have r5 : (markL meTomb l[i].Tombs ((markL meMail l[i].Mails (k' + 1 + 1 + 1 + 1)).2)).2 = (markL meMail l[i].Mails (k' + 1 + 1 + 1 + 1)).2 + (2 : Nat) * l[i].Tombs.length := markL_k meTomb_k _ _
    have j6 : (markL meTomb l[i].Tombs ((markL meMail l[i].Mails (k' + 1 + 1 + 1 + 1)).2)).2 ≤ 4611686018427387904 := by omega
    have s5 : ¬ (markL meTomb l[i].Tombs ((markL meMail l[i].Mails (k' + 1 + 1 + 1 + 1)).2)).2 < 0 := by omega
    have w6 : IntKind.i64.wrap ((markL meTomb l[i].Tombs ((markL meMail l[i].Mails (k' + 1 + 1 + 1 + 1)).2)).2 + 1) = (markL meTomb l[i].Tombs ((markL meMail l[i].Mails (k' + 1 + 1 + 1 + 1)).2)).2 + 1 := wrap64 (by omega) (by omega)
    have j7 : (markL meTomb l[i].Tombs ((markL meMail l[i].Mails (k' + 1 + 1 + 1 + 1)).2)).2 + 1 ≤ 4611686018427387904 := by omega
    have e0 : l[i].Name = markText (k') := (congrArg Box.Name hn).symm
    have e1 : l[i].Valid = k' + 1 := (congrArg Box.Valid hn).symm
    have e2 : l[i].Next = k' + 1 + 1 := (congrArg Box.Next hn).symm
    have e3 : l[i].Mod = k' + 1 + 1 + 1 := (congrArg Box.Mod hn).symm
    have e4 : heldL heMail l[i].Mails (k' + 1 + 1 + 1 + 1) = some (markL meMail l[i].Mails (k' + 1 + 1 + 1 + 1)).2 := held_fix heMail_marked (congrArg Box.Mails hn)
    have e5 : heldL heTomb l[i].Tombs ((markL meMail l[i].Mails (k' + 1 + 1 + 1 + 1)).2) = some (markL meTomb l[i].Tombs ((markL meMail l[i].Mails (k' + 1 + 1 + 1 + 1)).2)).2 := held_fix heTomb_marked (congrArg Box.Tombs hn)
    have e6 : l[i].Horizon = (markL meTomb l[i].Tombs ((markL meMail l[i].Mails (k' + 1 + 1 + 1 + 1)).2)).2 := (congrArg Box.Horizon hn).symm
    simp only [g1, g2, g3, g5, h, c0, c1, j0, w0, j1, w1, j2, w2, j3, w3, j4, p4, q4, j5, s4, p5, q5, j6, s5, w6, j7, e0, e1, e2, e3, e4, e5, e6, bne_self_eq_false, Option.getD_some, go_sem]
    repeat' ((first | ((first | apply qa | apply qb | apply qc | apply qd | apply qe | apply qf | apply qg | apply qh | apply qi | apply qj | apply qk) <;> intro hp) | ((first | refine ql rfl rfl (by decide +kernel) ?_ | refine qm _ rfl rfl (by decide +kernel) ?_) <;> have hp := True.intro)) <;> simp only [hp, g1, g2, g3, g5, h, c0, c1, j0, w0, j1, w1, j2, w2, j3, w3, j4, p4, q4, j5, s4, p5, q5, j6, s5, w6, j7, e0, e1, e2, e3, e4, e5, e6, bne_self_eq_false, Option.getD_some, go_sem])
    refine ih (i + 1, (meBox l[i] k').2) ⟨h, gk, ?_, ?_⟩ (by simp only; omega)
    · simp only; rw [meBox_k]; omega
    · simp only; rw [meBox_k]; push_cast; omega
  · have g1 : ¬ (i : Int) < l.length := by omega
    simp only [g1, go_sem]
    simp only [fin_mk, finV, resL, resV1, resIn, endA, listIn, Option.some_or, Option.none_or, oneOrTup, go_sem]
    rw [← hr]
    rw [hk, List.take_of_length_le h]
theorem boxes_ln {l : List Box} (h : leL Box.le 4194304 l) : leL Box.ln 4194304 l := ⟨h.1, fun y hy => Box.ln_of (h.2 y hy)⟩
theorem boxes_lnm {l : List Box} {k : Int} (h : leL Box.ln 4194304 l) : leL Box.ln 4194304 (markL meBox l k).1 := leL_marked (fun x k hx => meBox_ln hx) h
theorem markBoxS_up {l : List Box} (h : leL Box.ln 4194304 l) (k : Int) : (markL meBox l k).2 ≤ k + 25165829 * l.length := by
  obtain ⟨h0, hd⟩ := h
  induction l generalizing k with
  | nil => simp [markL]
  | cons x l ih =>
    simp only [List.length_cons] at h0
    have h1 := ih (meBox x k).2 (by omega) (fun y hy => hd y (by simp [hy]))
    have h2 := meBox_k x k
    have hx := hd x (by simp)
    have e1 : x.Mails.length ≤ 4194304 := hx.1
    have e2 : x.Tombs.length ≤ 4194304 := hx.2
    simp only [markL, List.length_cons]
    omega
theorem markBoxS_le : ∀ (l : List Box) (k : Int), k ≤ (markL meBox l k).2
  | [], k => Int.le_refl _
  | x :: l, k => by
    have := markBoxS_le l (meBox x k).2
    have := meBox_k x k
    simp only [markL]; omega
open Classical in
noncomputable def spSzStore : VM.Spec := { modes := [.rd, .rd], run := fun | [x', .int .i64 n] => (Store.dec x').bind fun x => if x.le 4611686018427387904 ∧ 0 ≤ n ∧ n ≤ 4611686018427387904 then some (.int .i64 (Store.sz x n), []) else none | _ => none, need := [] }
attribute [go_sem] spSzStore
theorem spSzStore_in {ins : List V} {r : V} {outs : List V} (h : spSzStore.run ins = some (r, outs)) : ∃ (x : Store) (n : Int), ins = [Store.enc x, .int .i64 n] ∧ (x.le 4611686018427387904 ∧ 0 ≤ n ∧ n ≤ 4611686018427387904) ∧ .int .i64 (Store.sz x n) = r ∧ outs = [] := by
  unfold spSzStore at h
  simp only at h
  split at h
  · rename_i x' n
    simp only [Option.bind_eq_some_iff] at h
    obtain ⟨x, h_x, h⟩ := h
    split at h
    case isFalse => cases h
    rename_i hc
    simp only [Option.some.injEq, Prod.mk.injEq] at h
    obtain ⟨h1, h2⟩ := h
    have h_x := Store.dec_some h_x
    subst h_x
    exact ⟨x, n, rfl, hc, h1, h2.symm⟩
  · cases h
def T_laws_szStore : Hints := ⟨fun _ => none, fun _ => none, fun i => if i = 0 then some [1, 2] else if i = 1 then some [1] else if i = 2 then some [1, 10] else if i = 3 then some [4] else if i = 4 then some [4] else none, fun _ => none⟩
noncomputable def Phi_laws_szStore : Tab := fun f => if f = 14 then some spSzBoxS else none
attribute [go_sem] T_laws_szStore Phi_laws_szStore
theorem phi_laws_szStore : ∀ f sp, Phi_laws_szStore f = some sp → FnOk Try.prog f sp ∧ ∀ n ∈ sp.need, n ∈ ([] : List String) := by
  intro f sp h
  unfold Phi_laws_szStore at h
  by_cases e : f = 14
  · rw [if_pos e] at h; cases h; rw [e]; exact ⟨ok_laws_szBoxS, (fun n (h : n ∈ ([] : List String)) => (nomatch h))⟩
  rw [if_neg e] at h
  cases h
theorem ok_laws_szStore : FnOk Try.prog 5 spSzStore := by
  refine fn_ok (Φ := Phi_laws_szStore) (T := T_laws_szStore) phi_laws_szStore mixed Try.func5 rfl rfl rfl (by decide) ?_
  intro ins r outs hr hl
  clear hl
  have hs := spSzStore_in hr
  clear hr
  obtain ⟨x, n, rfl, hc, hr, rfl⟩ := hs
  simp only [spSzStore, Try.f5, Go.VM.initS]
  obtain ⟨hc, h0, h1⟩ := hc
  have c0 := hc
  have c0 : leL Box.le 4611686018427387904 x.Boxes := c0
  rcases (szLL_ok Box.sz_ok) x.Boxes n 4611686018427387904 h0 h1 with e | ⟨a0, d0, -⟩
  · simp only [c0, h0, h1, e, go_sem]
    repeat' ((first | apply qa | apply qb | apply qc | apply qd | apply qe | apply qf | apply qg | apply qh | apply qi | apply qj | apply qk) <;> intro hp <;> simp only [hp, c0, h0, h1, e, go_sem])
    simp only [fin_mk, finV, resL, resV1, resIn, endA, listIn, Option.some_or, Option.none_or, oneOrTup, go_sem]
    rw [← hr]
    simp only [Store.sz, thenSz, subSz, e, if_true, if_false, Int.reduceNeg, Int.reduceLT]
  have b0 : ¬ ((szLL Box.sz) x.Boxes n) < 0 := Int.not_lt.2 a0
  have d0 : ((szLL Box.sz) x.Boxes n) ≤ 4611686018427387904 := Int.le_trans d0 h1
  simp only [c0, h0, h1, b0, go_sem]
  repeat' ((first | apply qa | apply qb | apply qc | apply qd | apply qe | apply qf | apply qg | apply qh | apply qi | apply qj | apply qk) <;> intro hp <;> simp only [hp, c0, h0, h1, b0, go_sem])
  simp only [fin_mk, finV, resL, resV1, resIn, endA, listIn, Option.some_or, Option.none_or, oneOrTup, go_sem]
  rw [← hr]
  simp only [Store.sz, thenSz, subSz, b0, if_true, if_false]
open Classical in
noncomputable def spToStore : VM.Spec := { modes := [.rd], run := fun | [x'] => (Store.dec x').bind fun x => if x.le 4194304 then some (Store.enc x, []) else none | _ => none, need := [] }
attribute [go_sem] spToStore
theorem spToStore_in {ins : List V} {r : V} {outs : List V} (h : spToStore.run ins = some (r, outs)) : ∃ (x : Store), ins = [Store.enc x] ∧ (x.le 4194304) ∧ Store.enc x = r ∧ outs = [] := by
  unfold spToStore at h
  simp only at h
  split at h
  · rename_i x'
    simp only [Option.bind_eq_some_iff] at h
    obtain ⟨x, h_x, h⟩ := h
    split at h
    case isFalse => cases h
    rename_i hc
    simp only [Option.some.injEq, Prod.mk.injEq] at h
    obtain ⟨h1, h2⟩ := h
    have h_x := Store.dec_some h_x
    subst h_x
    exact ⟨x, rfl, hc, h1, h2.symm⟩
  · cases h
def T_laws_toStore : Hints := ⟨fun _ => none, fun _ => none, fun i => if i = 0 then some [1, 2] else if i = 1 then some [1, 2, 3] else if i = 2 then some [1, 2, 3] else if i = 3 then some [2, 3] else if i = 4 then some [2] else none, fun _ => none⟩
noncomputable def Phi_laws_toStore : Tab := fun f => if f = 18 then some spToBoxS else none
attribute [go_sem] T_laws_toStore Phi_laws_toStore
theorem phi_laws_toStore : ∀ f sp, Phi_laws_toStore f = some sp → FnOk Try.prog f sp ∧ ∀ n ∈ sp.need, n ∈ ([] : List String) := by
  intro f sp h
  unfold Phi_laws_toStore at h
  by_cases e : f = 18
  · rw [if_pos e] at h; cases h; rw [e]; exact ⟨ok_laws_toBoxS, (fun n (h : n ∈ ([] : List String)) => (nomatch h))⟩
  rw [if_neg e] at h
  cases h
theorem ok_laws_toStore : FnOk Try.prog 7 spToStore := by
  refine fn_ok (Φ := Phi_laws_toStore) (T := T_laws_toStore) phi_laws_toStore mixed Try.func7 rfl rfl rfl (by decide) ?_
  intro ins r outs hr hl
  clear hl
  have hs := spToStore_in hr
  clear hr
  obtain ⟨x, rfl, hc, hr, rfl⟩ := hs
  simp only [spToStore, Try.f7, Go.VM.initS]
  have c0 : leL Box.le 4194304 x.Boxes := hc
  simp only [c0, go_sem]
  repeat' ((first | apply qa | apply qb | apply qc | apply qd | apply qe | apply qf | apply qg | apply qh | apply qi | apply qj | apply qk) <;> intro hp <;> simp only [hp, c0, go_sem])
  simp only [fin_mk, finV, resL, resV1, resIn, endA, listIn, Option.some_or, Option.none_or, oneOrTup, go_sem]
  rw [← hr]
  rfl
open Classical in
noncomputable def spEqStore : VM.Spec := { modes := [.rd, .rd], run := fun | [x', y'] => (Store.dec x').bind fun x => (Store.dec y').bind fun y => if x.le 4194304 ∧ y.le 4194304 then some (.bool (decide (x = y)), []) else none | _ => none, need := [] }
attribute [go_sem] spEqStore
theorem spEqStore_in {ins : List V} {r : V} {outs : List V} (h : spEqStore.run ins = some (r, outs)) : ∃ (x : Store) (y : Store), ins = [Store.enc x, Store.enc y] ∧ (x.le 4194304 ∧ y.le 4194304) ∧ .bool (decide (x = y)) = r ∧ outs = [] := by
  unfold spEqStore at h
  simp only at h
  split at h
  · rename_i x' y'
    simp only [Option.bind_eq_some_iff] at h
    obtain ⟨x, h_x, y, h_y, h⟩ := h
    split at h
    case isFalse => cases h
    rename_i hc
    simp only [Option.some.injEq, Prod.mk.injEq] at h
    obtain ⟨h1, h2⟩ := h
    have h_x := Store.dec_some h_x
    subst h_x
    have h_y := Store.dec_some h_y
    subst h_y
    exact ⟨x, y, rfl, hc, h1, h2.symm⟩
  · cases h
def T_laws_eqStore : Hints := ⟨fun _ => none, fun _ => none, fun i => if i = 0 then some [2, 3] else if i = 1 then some [2, 3, 10] else if i = 2 then some [4] else if i = 3 then some [15] else if i = 4 then some [4] else if i = 5 then some [4] else none, fun _ => none⟩
noncomputable def Phi_laws_eqStore : Tab := fun f => if f = 23 then some spEqBoxS else none
attribute [go_sem] T_laws_eqStore Phi_laws_eqStore
theorem phi_laws_eqStore : ∀ f sp, Phi_laws_eqStore f = some sp → FnOk Try.prog f sp ∧ ∀ n ∈ sp.need, n ∈ ([] : List String) := by
  intro f sp h
  unfold Phi_laws_eqStore at h
  by_cases e : f = 23
  · rw [if_pos e] at h; cases h; rw [e]; exact ⟨ok_laws_eqBoxS, (fun n (h : n ∈ ([] : List String)) => (nomatch h))⟩
  rw [if_neg e] at h
  cases h
theorem ok_laws_eqStore : FnOk Try.prog 9 spEqStore := by
  refine fn_ok (Φ := Phi_laws_eqStore) (T := T_laws_eqStore) phi_laws_eqStore mixed Try.func9 rfl rfl rfl (by decide) ?_
  intro ins r outs hr hl
  clear hl
  have hs := spEqStore_in hr
  clear hr
  obtain ⟨x, y, rfl, hc, hr, rfl⟩ := hs
  simp only [spEqStore, Try.f9, Go.VM.initS]
  have c0 : leL Box.le 4194304 x.Boxes := hc.1
  have d0 : leL Box.le 4194304 y.Boxes := hc.2
  simp only [c0, d0, and_self, go_sem]
  repeat' ((first | apply qa | apply qb | apply qc | apply qd | apply qe | apply qf | apply qg | apply qh | apply qi | apply qj | apply qk) <;> intro hp <;> simp only [hp, c0, d0, and_self, go_sem])
  all_goals (simp only [fin_mk, finV, resL, resV1, resIn, endA, listIn, Option.some_or, Option.none_or, oneOrTup, go_sem]; rw [← hr])
  all_goals (cases x; cases y; simp_all)
open Classical in
noncomputable def spMarkStore : VM.Spec := { modes := [.io, .rd], run := fun | [x', .int .i64 k] => (Store.dec x').bind fun x => if leL Box.ln 4194304 x.Boxes ∧ 0 ≤ k ∧ k ≤ 144115188075855872 then some (.int .i64 ((markL meBox x.Boxes k).2), [Store.enc ({ x with Boxes := (markL meBox x.Boxes k).1 })]) else none | _ => none, need := [] }
attribute [go_sem] spMarkStore
theorem spMarkStore_in {ins : List V} {r : V} {outs : List V} (h : spMarkStore.run ins = some (r, outs)) : ∃ (x : Store) (k : Int), ins = [Store.enc x, .int .i64 k] ∧ (leL Box.ln 4194304 x.Boxes ∧ 0 ≤ k ∧ k ≤ 144115188075855872) ∧ .int .i64 ((markL meBox x.Boxes k).2) = r ∧ outs = [Store.enc ({ x with Boxes := (markL meBox x.Boxes k).1 })] := by
  unfold spMarkStore at h
  simp only at h
  split at h
  · rename_i x' k
    simp only [Option.bind_eq_some_iff] at h
    obtain ⟨x, h_x, h⟩ := h
    split at h
    case isFalse => cases h
    rename_i hc
    simp only [Option.some.injEq, Prod.mk.injEq] at h
    obtain ⟨h1, h2⟩ := h
    have h_x := Store.dec_some h_x
    subst h_x
    exact ⟨x, k, rfl, hc, h1, h2.symm⟩
  · cases h
def T_laws_markStore : Hints := ⟨fun _ => none, fun _ => none, fun i => if i = 0 then some [1, 2] else if i = 1 then some [1] else if i = 2 then some [4] else none, fun _ => none⟩
noncomputable def Phi_laws_markStore : Tab := fun f => if f = 24 then some spMarkBoxS else none
attribute [go_sem] T_laws_markStore Phi_laws_markStore
theorem phi_laws_markStore : ∀ f sp, Phi_laws_markStore f = some sp → FnOk Try.prog f sp ∧ ∀ n ∈ sp.need, n ∈ ([] : List String) := by
  intro f sp h
  unfold Phi_laws_markStore at h
  by_cases e : f = 24
  · rw [if_pos e] at h; cases h; rw [e]; exact ⟨ok_laws_markBoxS, (fun n (h : n ∈ ([] : List String)) => (nomatch h))⟩
  rw [if_neg e] at h
  cases h
theorem ok_laws_markStore : FnOk Try.prog 10 spMarkStore := by
  refine fn_ok (Φ := Phi_laws_markStore) (T := T_laws_markStore) phi_laws_markStore mixed Try.func10 rfl rfl rfl (by decide) ?_
  intro ins r outs hr hl
  clear hl
  have hs := spMarkStore_in hr
  clear hr
  obtain ⟨x, k, rfl, hc, hr, rfl⟩ := hs
  simp only [spMarkStore, Try.f10, Go.VM.initS]
  obtain ⟨hc, h0, h1⟩ := hc
  simp only [hc, h0, h1, go_sem]
  repeat' ((first | apply qa | apply qb | apply qc | apply qd | apply qe | apply qf | apply qg | apply qh | apply qi | apply qj | apply qk) <;> intro hp <;> simp only [hp, hc, h0, h1, go_sem])
  simp only [fin_mk, finV, resL, resV1, resIn, endA, listIn, Option.some_or, Option.none_or, oneOrTup, go_sem]
  rw [← hr]
open Classical in
noncomputable def spHeldStore : VM.Spec := { modes := [.rd, .rd], run := fun | [x', .int .i64 k] => (Store.dec x').bind fun x => if leL Box.ln 4194304 x.Boxes ∧ (markL meBox x.Boxes k).1 = x.Boxes ∧ 0 ≤ k ∧ k ≤ 144115188075855872 then some (.int .i64 ((markL meBox x.Boxes k).2), []) else none | _ => none, need := [] }
attribute [go_sem] spHeldStore
theorem spHeldStore_in {ins : List V} {r : V} {outs : List V} (h : spHeldStore.run ins = some (r, outs)) : ∃ (x : Store) (k : Int), ins = [Store.enc x, .int .i64 k] ∧ (leL Box.ln 4194304 x.Boxes ∧ (markL meBox x.Boxes k).1 = x.Boxes ∧ 0 ≤ k ∧ k ≤ 144115188075855872) ∧ .int .i64 ((markL meBox x.Boxes k).2) = r ∧ outs = [] := by
  unfold spHeldStore at h
  simp only at h
  split at h
  · rename_i x' k
    simp only [Option.bind_eq_some_iff] at h
    obtain ⟨x, h_x, h⟩ := h
    split at h
    case isFalse => cases h
    rename_i hc
    simp only [Option.some.injEq, Prod.mk.injEq] at h
    obtain ⟨h1, h2⟩ := h
    have h_x := Store.dec_some h_x
    subst h_x
    exact ⟨x, k, rfl, hc, h1, h2.symm⟩
  · cases h
def T_laws_heldStore : Hints := ⟨fun _ => none, fun _ => none, fun i => if i = 0 then some [1, 2] else if i = 1 then some [1] else if i = 2 then some [1, 10] else if i = 3 then some [4] else if i = 4 then some [4] else none, fun _ => none⟩
noncomputable def Phi_laws_heldStore : Tab := fun f => if f = 25 then some spHeldBoxS else none
attribute [go_sem] T_laws_heldStore Phi_laws_heldStore
theorem phi_laws_heldStore : ∀ f sp, Phi_laws_heldStore f = some sp → FnOk Try.prog f sp ∧ ∀ n ∈ sp.need, n ∈ ([] : List String) := by
  intro f sp h
  unfold Phi_laws_heldStore at h
  by_cases e : f = 25
  · rw [if_pos e] at h; cases h; rw [e]; exact ⟨ok_laws_heldBoxS, (fun n (h : n ∈ ([] : List String)) => (nomatch h))⟩
  rw [if_neg e] at h
  cases h
theorem ok_laws_heldStore : FnOk Try.prog 11 spHeldStore := by
  refine fn_ok (Φ := Phi_laws_heldStore) (T := T_laws_heldStore) phi_laws_heldStore mixed Try.func11 rfl rfl rfl (by decide) ?_
  intro ins r outs hr hl
  clear hl
  have hs := spHeldStore_in hr
  clear hr
  obtain ⟨x, k, rfl, hc, hr, rfl⟩ := hs
  simp only [spHeldStore, Try.f11, Go.VM.initS]
  obtain ⟨hc, hm, h0, h1⟩ := hc
  have hx : 25165829 * 4194304 + k ≤ 4611686018427387904 := by omega
  have hs : ¬ (markL meBox x.Boxes k).2 < 0 := Int.not_lt.2 (Int.le_trans h0 (markBoxS_le _ _))
  simp only [hc, hm, h0, h1, hs, go_sem]
  repeat' ((first | apply qa | apply qb | apply qc | apply qd | apply qe | apply qf | apply qg | apply qh | apply qi | apply qj | apply qk) <;> intro hp <;> simp only [hp, hc, hm, h0, h1, hs, go_sem])
  simp only [fin_mk, finV, resL, resV1, resIn, endA, listIn, Option.some_or, Option.none_or, oneOrTup, go_sem]
  rw [← hr]
end Go.Proofs.Ytdnafggminbalaa.L
