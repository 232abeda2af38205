/- The laws' own functions: what is left of a size, copies, equality, marks. What each computes. -/
import Derived.Test.YtjkhhplhjbmhjaaGreatVLA
namespace Go.Proofs.YtjkhhplhjbmhjaaGreat.L
open Go Go.VM
set_option maxRecDepth 100000
set_option linter.unusedSimpArgs false
set_option linter.unusedVariables false
open Classical in
noncomputable def spMarkText : VM.Spec := { modes := [.rd], run := fun | [.int .i64 k] => if k ≤ 4611686018427387904 then some (.str (markText k), []) else none | _ => none, need := [] }
attribute [go_sem] spMarkText
theorem spMarkText_in {ins : List V} {r : V} {outs : List V} (h : spMarkText.run ins = some (r, outs)) : ∃ (k : Int), ins = [.int .i64 k] ∧ (k ≤ 4611686018427387904) ∧ .str (markText k) = r ∧ outs = [] := by
  unfold spMarkText at h
  simp only at h
  split at h
  · rename_i k
    split at h
    case isFalse => cases h
    rename_i hc
    simp only [Option.some.injEq, Prod.mk.injEq] at h
    obtain ⟨h1, h2⟩ := h
    exact ⟨k, rfl, hc, h1, h2.symm⟩
  · cases h
def T_laws_markText : Hints := ⟨lk [], lk [(4, [0, 3])], lk [(0, [0]), (1, [0, 5]), (2, [2]), (3, [0, 3]), (4, [0, 3, 7]), (5, [0, 3]), (6, [0, 3]), (7, [2])], lk []⟩
noncomputable def Phi_laws_markText : Tab := lk []
attribute [go_sem] T_laws_markText Phi_laws_markText
theorem phi_laws_markText : ∀ f sp, Phi_laws_markText f = some sp → FnOk Tryz.prog f sp ∧ ∀ n ∈ sp.need, n ∈ ([] : List String) := phi_nil
theorem ok_laws_markText : FnOk Tryz.prog 103 spMarkText := by
  refine fn_ok (Φ := Phi_laws_markText) (T := T_laws_markText) phi_laws_markText mixed Tryz.func103 rfl rfl rfl (by decide) ?_
  intro ins r outs hr hl
  clear hl
  have hs := spMarkText_in hr
  clear hr
  obtain ⟨k, rfl, hc, hr, rfl⟩ := hs
  simp only [spMarkText, Tryz.f103, Go.VM.initS]
  by_cases hk : k ≤ 0
  · simp only [hk, go_sem]
    repeat' ((first | apply qa | apply qb | apply qc | apply qd | apply qe | apply qf | apply qg | apply qh | apply qi | apply qj | apply qk) <;> intro hp <;> simp only [hp, hk, go_sem])
    simp only [fin_mk, finV, resL, resV1, resIn, endA, listIn, Option.some_or, Option.none_or, oneOrTup, go_sem]
    rw [← hr]
    simp only [markText, hk, if_true]
  simp only [hk, go_sem]
  refine loop_go (fun p : Int × List UInt8 => [(0, .int .i64 p.1), (3, .str p.2)]) (fun _ => []) (fun p => p.1.toNat) (fun p => 0 ≤ p.1 ∧ p.1 + p.2.length ≤ k ∧ markGo p.1 p.2 = markGo k []) (k, []) ⟨by simp only; omega, by simp, rfl⟩ rfl rfl ?_
  rintro ⟨m, out⟩ ⟨h0, h1, h2⟩ ih
  simp only at h0 h1 h2 ih
  by_cases hm : 0 < m
  · have d1 : m.tdiv 10 = m / 10 := Int.tdiv_eq_ediv_of_nonneg h0
    have d2 : m.tmod 10 = m % 10 := Int.tmod_eq_emod_of_nonneg h0
    have w1 : IntKind.i64.wrap (48 + m.tmod 10) = 48 + m.tmod 10 := wrap64 (by omega) (by omega)
    have w2 : IntKind.i64.wrap (m.tdiv 10) = m.tdiv 10 := wrap64 (by omega) (by omega)
    have w3 : IntKind.u8.wrap (48 + m.tmod 10) = 48 + m.tmod 10 := by
      simp only [IntKind.wrap, IntKind.signed, IntKind.bits, Bool.false_and]
      simp; omega
    have u1 : (0 : Int) ≤ 48 + m.tmod 10 := by omega
    have u2 : 48 + m.tmod 10 < 256 := by omega
    have u3 : 1 + out.length ≤ 9223372036854775807 := by omega
    simp only [hm, w1, w2, w3, u1, u2, u3, unBytes, Int.reduceEq, go_sem]
    refine ih (m.tdiv 10, UInt8.ofNat (48 + m.tmod 10).toNat :: out) ⟨by simp only; omega, by simp only [List.length_cons]; omega, ?_⟩ (by simp only; omega)
    simp only
    rw [← h2]
    conv => rhs; rw [markGo]
    simp [hm]
  · have e : m = 0 := by omega
    subst e
    have u3 : 1 + out.length ≤ 9223372036854775807 := by omega
    simp only [u3, String.reduceToList, go_sem]
    simp only [fin_mk, finV, resL, resV1, resIn, endA, listIn, Option.some_or, Option.none_or, oneOrTup, go_sem]
    rw [← hr]
    rw [markGo] at h2
    simp only [markText, hk, if_false, ← h2]
    rfl
open Classical in
noncomputable def spSzMail : VM.Spec := { modes := [.rd, .rd], run := fun | [x', .int .i64 n] => (Mail.dec x').bind fun x => if x.le 4611686018427387904 ∧ 0 ≤ n ∧ n ≤ 4611686018427387904 then some (.int .i64 (Mail.sz x n), []) else none | _ => none, need := [] }
attribute [go_sem] spSzMail
theorem spSzMail_in {ins : List V} {r : V} {outs : List V} (h : spSzMail.run ins = some (r, outs)) : ∃ (x : Mail) (n : Int), ins = [Mail.enc x, .int .i64 n] ∧ (x.le 4611686018427387904 ∧ 0 ≤ n ∧ n ≤ 4611686018427387904) ∧ .int .i64 (Mail.sz x n) = r ∧ outs = [] := by
  unfold spSzMail at h
  simp only at h
  split at h
  · rename_i x' n
    simp only [Option.bind_eq_some_iff] at h
    obtain ⟨x, h_x, h⟩ := h
    split at h
    case isFalse => cases h
    rename_i hc
    simp only [Option.some.injEq, Prod.mk.injEq] at h
    obtain ⟨h1, h2⟩ := h
    have h_x := Mail.dec_some h_x
    subst h_x
    exact ⟨x, n, rfl, hc, h1, h2.symm⟩
  · cases h
def T_laws_szMail : Hints := ⟨lk [], lk [], lk [(0, [1, 2]), (1, [1]), (2, [1, 11]), (3, [4]), (4, [4])], lk []⟩
noncomputable def Phi_laws_szMail : Tab := lk []
attribute [go_sem] T_laws_szMail Phi_laws_szMail
theorem phi_laws_szMail : ∀ f sp, Phi_laws_szMail f = some sp → FnOk Tryz.prog f sp ∧ ∀ n ∈ sp.need, n ∈ ([] : List String) := phi_nil
theorem ok_laws_szMail : FnOk Tryz.prog 139 spSzMail := by
  refine fn_ok (Φ := Phi_laws_szMail) (T := T_laws_szMail) phi_laws_szMail mixed Tryz.func139 rfl rfl rfl (by decide) ?_
  intro ins r outs hr hl
  clear hl
  have hs := spSzMail_in hr
  clear hr
  obtain ⟨x, n, rfl, hc, hr, rfl⟩ := hs
  simp only [spSzMail, Tryz.f139, Go.VM.initS]
  obtain ⟨hc, h0, h1⟩ := hc
  have c0 := hc
  have c0 : x.Text.length ≤ 4611686018427387904 := c0
  have w0 : IntKind.i64.wrap (n - (x.Text.length : Int)) = (n - (x.Text.length : Int)) := wrap64 (by omega) (by omega)
  by_cases b0 : (n - (x.Text.length : Int)) < 0
  · simp only [w0, b0, go_sem]
    repeat' ((first | apply qa | apply qb | apply qc | apply qd | apply qe | apply qf | apply qg | apply qh | apply qi | apply qj | apply qk) <;> intro hp <;> simp only [hp, w0, b0, go_sem])
    simp only [fin_mk, finV, resL, resV1, resIn, endA, listIn, Option.some_or, Option.none_or, oneOrTup, go_sem]
    rw [← hr]
    simp only [Mail.sz, thenSz, subSz, b0, if_true, if_false, Int.reduceNeg, Int.reduceLT]
  have a0 : 0 ≤ (n - (x.Text.length : Int)) := by omega
  have d0 : (n - (x.Text.length : Int)) ≤ 4611686018427387904 := by omega
  simp only [w0, b0, go_sem]
  repeat' ((first | apply qa | apply qb | apply qc | apply qd | apply qe | apply qf | apply qg | apply qh | apply qi | apply qj | apply qk) <;> intro hp <;> simp only [hp, w0, b0, go_sem])
  simp only [fin_mk, finV, resL, resV1, resIn, endA, listIn, Option.some_or, Option.none_or, oneOrTup, go_sem]
  rw [← hr]
  simp only [Mail.sz, thenSz, subSz, b0, if_true, if_false]
open Classical in
noncomputable def spToMail : VM.Spec := { modes := [.rd], run := fun | [x'] => (Mail.dec x').bind fun x => some (Mail.enc x, []) | _ => none, need := [] }
attribute [go_sem] spToMail
theorem spToMail_in {ins : List V} {r : V} {outs : List V} (h : spToMail.run ins = some (r, outs)) : ∃ (x : Mail), ins = [Mail.enc x] ∧ Mail.enc x = r ∧ outs = [] := by
  unfold spToMail at h
  simp only at h
  split at h
  · rename_i x'
    simp only [Option.bind_eq_some_iff] at h
    obtain ⟨x, h_x, h⟩ := h
    simp only [Option.some.injEq, Prod.mk.injEq] at h
    obtain ⟨h1, h2⟩ := h
    have h_x := Mail.dec_some h_x
    subst h_x
    exact ⟨x, rfl, h1, h2.symm⟩
  · cases h
def T_laws_toMail : Hints := ⟨lk [], lk [], lk [(0, [1, 2]), (1, [1, 2, 3]), (2, [1, 2, 3]), (3, [1, 2, 3]), (4, [1, 2, 3]), (5, [2, 3]), (6, [2])], lk []⟩
noncomputable def Phi_laws_toMail : Tab := lk []
attribute [go_sem] T_laws_toMail Phi_laws_toMail
theorem phi_laws_toMail : ∀ f sp, Phi_laws_toMail f = some sp → FnOk Tryz.prog f sp ∧ ∀ n ∈ sp.need, n ∈ ([] : List String) := phi_nil
theorem ok_laws_toMail : FnOk Tryz.prog 140 spToMail := by
  refine fn_ok (Φ := Phi_laws_toMail) (T := T_laws_toMail) phi_laws_toMail mixed Tryz.func140 rfl rfl rfl (by decide) ?_
  intro ins r outs hr hl
  clear hl
  have hs := spToMail_in hr
  clear hr
  obtain ⟨x, rfl, hr, rfl⟩ := hs
  simp only [spToMail, Tryz.f140, Go.VM.initS]
  simp only [go_sem]
  repeat' ((first | apply qa | apply qb | apply qc | apply qd | apply qe | apply qf | apply qg | apply qh | apply qi | apply qj | apply qk) <;> intro hp <;> simp only [hp, go_sem])
  simp only [fin_mk, finV, resL, resV1, resIn, endA, listIn, Option.some_or, Option.none_or, oneOrTup, go_sem]
  rw [← hr]
  rfl
open Classical in
noncomputable def spEqMail : VM.Spec := { modes := [.rd, .rd], run := fun | [x', y'] => (Mail.dec x').bind fun x => (Mail.dec y').bind fun y => some (.bool (decide (x = y)), []) | _ => none, need := [] }
attribute [go_sem] spEqMail
theorem spEqMail_in {ins : List V} {r : V} {outs : List V} (h : spEqMail.run ins = some (r, outs)) : ∃ (x : Mail) (y : Mail), ins = [Mail.enc x, Mail.enc y] ∧ .bool (decide (x = y)) = r ∧ outs = [] := by
  unfold spEqMail at h
  simp only at h
  split at h
  · rename_i x' y'
    simp only [Option.bind_eq_some_iff] at h
    obtain ⟨x, h_x, y, h_y, h⟩ := h
    simp only [Option.some.injEq, Prod.mk.injEq] at h
    obtain ⟨h1, h2⟩ := h
    have h_x := Mail.dec_some h_x
    subst h_x
    have h_y := Mail.dec_some h_y
    subst h_y
    exact ⟨x, y, rfl, h1, h2.symm⟩
  · cases h
def T_laws_eqMail : Hints := ⟨lk [], lk [], lk [(0, [2, 3]), (1, [2, 3, 9]), (2, [4]), (3, [2, 3, 14]), (4, [4]), (5, [2, 3, 19]), (6, [4]), (7, [24]), (8, [4]), (9, [4])], lk []⟩
noncomputable def Phi_laws_eqMail : Tab := lk []
attribute [go_sem] T_laws_eqMail Phi_laws_eqMail
theorem phi_laws_eqMail : ∀ f sp, Phi_laws_eqMail f = some sp → FnOk Tryz.prog f sp ∧ ∀ n ∈ sp.need, n ∈ ([] : List String) := phi_nil
theorem ok_laws_eqMail : FnOk Tryz.prog 142 spEqMail := by
  refine fn_ok (Φ := Phi_laws_eqMail) (T := T_laws_eqMail) phi_laws_eqMail mixed Tryz.func142 rfl rfl rfl (by decide) ?_
  intro ins r outs hr hl
  clear hl
  have hs := spEqMail_in hr
  clear hr
  obtain ⟨x, y, rfl, hr, rfl⟩ := hs
  simp only [spEqMail, Tryz.f142, Go.VM.initS]
  simp only [and_self, go_sem]
  repeat' ((first | apply qa | apply qb | apply qc | apply qd | apply qe | apply qf | apply qg | apply qh | apply qi | apply qj | apply qk) <;> intro hp <;> simp only [hp, and_self, go_sem])
  all_goals (simp only [fin_mk, finV, resL, resV1, resIn, endA, listIn, Option.some_or, Option.none_or, oneOrTup, go_sem]; rw [← hr])
  all_goals (cases x; cases y; simp_all)
open Classical in
noncomputable def spSzMailS : VM.Spec := { modes := [.rd, .rd], run := fun | [.lst 4 l', .int .i64 n] => (decL Mail.dec l').bind fun l => if leL Mail.le 4611686018427387904 l ∧ 0 ≤ n ∧ n ≤ 4611686018427387904 then some (.int .i64 (szLL Mail.sz l n), []) else none | _ => none, need := [] }
attribute [go_sem] spSzMailS
theorem spSzMailS_in {ins : List V} {r : V} {outs : List V} (h : spSzMailS.run ins = some (r, outs)) : ∃ (l : (List Mail)) (n : Int), ins = [.lst 4 ((l).map Mail.enc), .int .i64 n] ∧ (leL Mail.le 4611686018427387904 l ∧ 0 ≤ n ∧ n ≤ 4611686018427387904) ∧ .int .i64 (szLL Mail.sz l n) = r ∧ outs = [] := by
  unfold spSzMailS at h
  simp only at h
  split at h
  · rename_i l' n
    simp only [Option.bind_eq_some_iff] at h
    obtain ⟨l, h_l, h⟩ := h
    split at h
    case isFalse => cases h
    rename_i hc
    simp only [Option.some.injEq, Prod.mk.injEq] at h
    obtain ⟨h1, h2⟩ := h
    have h_l := decL_some (fun _ _ h => Mail.dec_some h) h_l
    subst h_l
    exact ⟨l, n, rfl, hc, h1, h2.symm⟩
  · cases h
def T_laws_szMailS : Hints := ⟨lk [], lk [(5, [0, 1, 5])], lk [(0, [0, 1]), (1, [0, 1]), (2, [0, 1, 11]), (3, [4]), (4, [0, 1, 5]), (5, [0, 1, 5, 15]), (7, [0, 1, 5]), (8, [0, 1, 5, 25]), (9, [4]), (6, [0, 1, 5]), (10, [4])], lk []⟩
noncomputable def Phi_laws_szMailS : Tab := lk [(139, spSzMail)]
attribute [go_sem] T_laws_szMailS Phi_laws_szMailS
theorem phi_laws_szMailS : ∀ f sp, Phi_laws_szMailS f = some sp → FnOk Tryz.prog f sp ∧ ∀ n ∈ sp.need, n ∈ ([] : List String) := phi_cons ok_laws_szMail (n0 rfl) (phi_nil)
theorem ok_laws_szMailS : FnOk Tryz.prog 125 spSzMailS := by
  refine fn_ok (Φ := Phi_laws_szMailS) (T := T_laws_szMailS) phi_laws_szMailS mixed Tryz.func125 rfl rfl rfl (by decide) ?_
  intro ins r outs hr hl
  clear hl
  have hs := spSzMailS_in hr
  clear hr
  obtain ⟨l, n, rfl, hc, hr, rfl⟩ := hs
  simp only [spSzMailS, Tryz.f125, Go.VM.initS]
  obtain ⟨⟨hc, hd⟩, h0, h1⟩ := hc
  have w : IntKind.i64.wrap (n - (l.length : Int)) = n - l.length := wrap64 (by omega) (by omega)
  by_cases b : n - (l.length : Int) < 0
  · simp only [w, b, go_sem]
    repeat' ((first | apply qa | apply qb | apply qc | apply qd | apply qe | apply qf | apply qg | apply qh | apply qi | apply qj | apply qk) <;> intro hp <;> simp only [hp, w, b, go_sem])
    simp only [fin_mk, finV, resL, resV1, resIn, endA, listIn, Option.some_or, Option.none_or, oneOrTup, go_sem]
    rw [← hr]
    simp only [szLL, thenSz, subSz, b, if_true, Int.reduceNeg, Int.reduceLT]
  simp only [w, b, go_sem]
  refine loop_go (fun p : Nat × Int => [(1, .int .i64 p.2), (5, .int .i64 (p.1 : Int))]) (fun _ => []) (fun p => l.length - p.1) (fun p => p.1 ≤ l.length ∧ p.2 = szL Mail.sz (l.take p.1) (n - l.length) ∧ 0 ≤ p.2 ∧ p.2 ≤ 4611686018427387904) (0, n - l.length) ⟨Nat.zero_le _, rfl, by simp only; omega, by simp only; omega⟩ rfl rfl ?_
  rintro ⟨i, m⟩ ⟨hi, hm, m0, m1⟩ ih
  simp only at hi hm m0 m1 ih
  have hsz : Mail.sz = Mail.sz := rfl
  have hend : szLL Mail.sz l n = szL Mail.sz l (n - l.length) := by simp only [szLL, thenSz, subSz, b, if_false]
  rcases Nat.lt_or_ge i l.length with h | h
  · have g1 : (i : Int) < l.length := by omega
    have g2 : (0 : Int) ≤ i := by omega
    have g3 : l[i]? = some l[i] := List.getElem?_eq_getElem h
    have g5 := wrap_succ h hc
    have gx : l[i].le 4611686018427387904 := hd _ (List.getElem_mem h)
    rcases Mail.sz_ok l[i] m 4611686018427387904 m0 m1 with e | ⟨e1, e2, -⟩
    · simp only [g1, g2, g3, g5, gx, m0, m1, e, go_sem]
      repeat' ((first | apply qa | apply qb | apply qc | apply qd | apply qe | apply qf | apply qg | apply qh | apply qi | apply qj | apply qk) <;> intro hp <;> simp only [hp, g1, g2, g3, g5, gx, m0, m1, e, go_sem])
      simp only [fin_mk, finV, resL, resV1, resIn, endA, listIn, Option.some_or, Option.none_or, oneOrTup, go_sem]
      rw [← hr]
      rw [hend, szL_bad l i _ h (by rw [← hm]; exact m0) (by rw [← hm, e]; decide)]
    · have e3 : ¬ Mail.sz l[i] m < 0 := by omega
      simp only [g1, g2, g3, g5, gx, m0, m1, e3, go_sem]
      repeat' ((first | apply qa | apply qb | apply qc | apply qd | apply qe | apply qf | apply qg | apply qh | apply qi | apply qj | apply qk) <;> intro hp <;> simp only [hp, g1, g2, g3, g5, gx, m0, m1, e3, go_sem])
      refine ih (i + 1, Mail.sz l[i] m) ⟨h, ?_, e1, by simp only; omega⟩ (by simp only; omega)
      have key := szL_take (f := Mail.sz) l i (n - l.length) h (fun k hk => ?_) (by rw [← hm]; exact m0) (by omega)
      · rw [key, hm]
      · exact Mail.sz_neg _ _ hk
  · have g1 : ¬ (i : Int) < l.length := by omega
    simp only [g1, go_sem]
    simp only [fin_mk, finV, resL, resV1, resIn, endA, listIn, Option.some_or, Option.none_or, oneOrTup, go_sem]
    rw [← hr]
    rw [hend, hm, List.take_of_length_le h]
open Classical in
noncomputable def spToMailS : VM.Spec := { modes := [.rd], run := fun | [.lst 4 l'] => (decL Mail.dec l').bind fun l => if l.length ≤ 4194304 then some (.lst 4 ((l).map Mail.enc), []) else none | _ => none, need := [] }
attribute [go_sem] spToMailS
theorem spToMailS_in {ins : List V} {r : V} {outs : List V} (h : spToMailS.run ins = some (r, outs)) : ∃ (l : (List Mail)), ins = [.lst 4 ((l).map Mail.enc)] ∧ (l.length ≤ 4194304) ∧ .lst 4 ((l).map Mail.enc) = r ∧ outs = [] := by
  unfold spToMailS at h
  simp only at h
  split at h
  · rename_i l'
    simp only [Option.bind_eq_some_iff] at h
    obtain ⟨l, h_l, h⟩ := h
    split at h
    case isFalse => cases h
    rename_i hc
    simp only [Option.some.injEq, Prod.mk.injEq] at h
    obtain ⟨h1, h2⟩ := h
    have h_l := decL_some (fun _ _ h => Mail.dec_some h) h_l
    subst h_l
    exact ⟨l, rfl, hc, h1, h2.symm⟩
  · cases h
def T_laws_toMailS : Hints := ⟨lk [], lk [(3, [0, 3, 4])], lk [(0, [0]), (1, [0, 3]), (2, [0, 3, 4]), (3, [0, 3, 4, 11]), (5, [0, 3, 4]), (4, [0, 3, 4]), (6, [2])], lk []⟩
noncomputable def Phi_laws_toMailS : Tab := lk [(140, spToMail)]
attribute [go_sem] T_laws_toMailS Phi_laws_toMailS
theorem phi_laws_toMailS : ∀ f sp, Phi_laws_toMailS f = some sp → FnOk Tryz.prog f sp ∧ ∀ n ∈ sp.need, n ∈ ([] : List String) := phi_cons ok_laws_toMail (n0 rfl) (phi_nil)
theorem ok_laws_toMailS : FnOk Tryz.prog 130 spToMailS := by
  refine fn_ok (Φ := Phi_laws_toMailS) (T := T_laws_toMailS) phi_laws_toMailS mixed Tryz.func130 rfl rfl rfl (by decide) ?_
  intro ins r outs hr hl
  clear hl
  have hs := spToMailS_in hr
  clear hr
  obtain ⟨l, rfl, hc, hr, rfl⟩ := hs
  simp only [spToMailS, Tryz.f130, Go.VM.initS]
  have h1 : (l.length : Int) ≤ 9223372036854775807 := by omega
  have h2 : (l.length : Int) * 40 ≤ 140737488355328 := by omega
  have h3 : (0 : Int) ≤ l.length := by omega
  simp only [h1, h2, h3, Int.cast_ofNat_Int, go_sem]
  refine loop_go (fun p : Nat × List V => [(4, .int .i64 (p.1 : Int))]) (fun p => [(0, ⟨.arr, 4, p.2⟩)]) (fun p => l.length - p.1) (fun p => p.1 ≤ l.length ∧ p.2 = (l.take p.1).map Mail.enc ++ List.replicate (l.length - p.1) (.agg [.int .i64 0, .int .i64 0, .int .i64 0, .str []])) (0, List.replicate l.length (.agg [.int .i64 0, .int .i64 0, .int .i64 0, .str []])) ⟨Nat.zero_le _, by simp⟩ rfl rfl ?_
  rintro ⟨i, els⟩ ⟨hi, hels⟩ ih
  simp only at hi hels ih
  have hlen : els.length = l.length := by rw [hels]; simp; omega
  rcases Nat.lt_or_ge i l.length with h | h
  · have g1 : (i : Int) < l.length := by omega
    have g2 : (0 : Int) ≤ i := by omega
    have g3 : l[i]? = some l[i] := List.getElem?_eq_getElem h
    have g4 : els[i]? = some (els[i]'(by omega)) := List.getElem?_eq_getElem (by omega)
    have g5 := wrap_succ h (by omega)
    skip
    simp only [g1, g2, g3, g4, g5, hlen, go_sem]
    repeat' ((first | apply qa | apply qb | apply qc | apply qd | apply qe | apply qf | apply qg | apply qh | apply qi | apply qj | apply qk) <;> intro hp <;> simp only [hp, g1, g2, g3, g4, g5, hlen, go_sem])
    refine ih (i + 1, els.set i (.agg [.int .i64 l[i].Uid, .int .i64 l[i].Flags, .int .i64 l[i].Mod, .str l[i].Text])) ⟨h, ?_⟩ (by simp only; omega)
    simp only
    rw [hels]
    exact fill_step _ h rfl
  · have g1 : ¬ (i : Int) < l.length := by omega
    simp only [g1, go_sem]
    simp only [fin_mk, finV, resL, resV1, resIn, endA, listIn, Option.some_or, Option.none_or, oneOrTup, go_sem]
    rw [← hr, hels, List.take_of_length_le h, show l.length - i = 0 by omega]
    simp
open Classical in
noncomputable def spEqMailS : VM.Spec := { modes := [.rd, .rd], run := fun | [.lst 4 x', .lst 4 y'] => (decL Mail.dec x').bind fun x => (decL Mail.dec y').bind fun y => if x.length ≤ 4194304 ∧ y.length ≤ 4194304 then some (.bool (decide (x = y)), []) else none | _ => none, need := [] }
attribute [go_sem] spEqMailS
theorem spEqMailS_in {ins : List V} {r : V} {outs : List V} (h : spEqMailS.run ins = some (r, outs)) : ∃ (x : (List Mail)) (y : (List Mail)), ins = [.lst 4 ((x).map Mail.enc), .lst 4 ((y).map Mail.enc)] ∧ (x.length ≤ 4194304 ∧ y.length ≤ 4194304) ∧ .bool (decide (x = y)) = r ∧ outs = [] := by
  unfold spEqMailS at h
  simp only at h
  split at h
  · rename_i x' y'
    simp only [Option.bind_eq_some_iff] at h
    obtain ⟨x, h_x, y, h_y, h⟩ := h
    split at h
    case isFalse => cases h
    rename_i hc
    simp only [Option.some.injEq, Prod.mk.injEq] at h
    obtain ⟨h1, h2⟩ := h
    have h_x := decL_some (fun _ _ h => Mail.dec_some h) h_x
    subst h_x
    have h_y := decL_some (fun _ _ h => Mail.dec_some h) h_y
    subst h_y
    exact ⟨x, y, rfl, hc, h1, h2.symm⟩
  · cases h
def T_laws_eqMailS : Hints := ⟨lk [(6, [])], lk [(4, [0, 1, 5])], lk [(0, [0, 1]), (1, [0, 1, 10]), (2, [4]), (3, [0, 1, 5]), (4, [0, 1, 5, 14]), (6, [0, 1, 5, 26]), (7, [4]), (5, [0, 1, 5]), (8, [4])], lk []⟩
noncomputable def Phi_laws_eqMailS : Tab := lk [(142, spEqMail)]
attribute [go_sem] T_laws_eqMailS Phi_laws_eqMailS
theorem phi_laws_eqMailS : ∀ f sp, Phi_laws_eqMailS f = some sp → FnOk Tryz.prog f sp ∧ ∀ n ∈ sp.need, n ∈ ([] : List String) := phi_cons ok_laws_eqMail (n0 rfl) (phi_nil)
theorem ok_laws_eqMailS : FnOk Tryz.prog 132 spEqMailS := by
  refine fn_ok (Φ := Phi_laws_eqMailS) (T := T_laws_eqMailS) phi_laws_eqMailS mixed Tryz.func132 rfl rfl rfl (by decide) ?_
  intro ins r outs hr hl
  clear hl
  have hs := spEqMailS_in hr
  clear hr
  obtain ⟨x, y, rfl, hc, hr, rfl⟩ := hs
  simp only [spEqMailS, Tryz.f132, Go.VM.initS]
  obtain ⟨hx, hy⟩ := hc
  by_cases hl : x.length = y.length
  case neg =>
    have g : ((x.length : Int) == y.length) = false := by rw [beq_eq_false_iff_ne]; omega
    have g' : ((x.length : Int) != y.length) = true := by rw [bne_iff_ne]; omega
    have hne : x ≠ y := fun e => hl (by rw [e])
    simp only [g, g', go_sem]
    repeat' ((first | ((first | apply qa | apply qb | apply qc | apply qd | apply qe | apply qf | apply qg | apply qh | apply qi | apply qj | apply qk) <;> intro hp) | ((first | refine ql rfl rfl (by decide +kernel) ?_ | refine qm _ rfl rfl (by decide +kernel) ?_) <;> have hp := True.intro)) <;> simp only [hp, g, g', go_sem])
    simp only [fin_mk, finV, resL, resV1, resIn, endA, listIn, Option.some_or, Option.none_or, oneOrTup, go_sem]
    rw [← hr]
    simp only [hne, decide_false]
  have hl' : (x.length : Int) = y.length := by omega
  simp only [hl, bne_self_eq_false, go_sem]
  repeat' ((first | ((first | apply qa | apply qb | apply qc | apply qd | apply qe | apply qf | apply qg | apply qh | apply qi | apply qj | apply qk) <;> intro hp) | ((first | refine ql rfl rfl (by decide +kernel) ?_ | refine qm _ rfl rfl (by decide +kernel) ?_) <;> have hp := True.intro)) <;> simp only [hp, hl, bne_self_eq_false, go_sem])
  refine loop_go (fun i : Nat => [(5, .int .i64 (i : Int))]) (fun _ => []) (fun i => x.length - i) (fun i => i ≤ x.length ∧ x.take i = y.take i) 0 ⟨Nat.zero_le _, by simp⟩ rfl rfl ?_
  intro i ⟨hi, he⟩ ih
  rcases Nat.lt_or_ge i x.length with h | h
  · have g1 : (i : Int) < x.length := by omega
    have g1' : (i : Int) < y.length := by omega
    have g2 : (0 : Int) ≤ i := by omega
    have g3 : x[i]? = some x[i] := List.getElem?_eq_getElem h
    have g4 : y[i]? = some (y[i]'(by omega)) := List.getElem?_eq_getElem (by omega)
    have g5 := wrap_succ h (by omega)
    skip
    by_cases hv : x[i] = (y[i]'(by omega))
    · simp only [g1, g1', g2, g3, g4, g5, hv, go_sem]
      repeat' ((first | ((first | apply qa | apply qb | apply qc | apply qd | apply qe | apply qf | apply qg | apply qh | apply qi | apply qj | apply qk) <;> intro hp) | ((first | refine ql rfl rfl (by decide +kernel) ?_ | refine qm _ rfl rfl (by decide +kernel) ?_) <;> have hp := True.intro)) <;> simp only [hp, g1, g1', g2, g3, g4, g5, hv, go_sem])
      exact ih (i + 1) ⟨h, by rw [List.take_add_one, List.take_add_one, he, g3, g4, hv]⟩ (by omega)
    · have hne : x ≠ y := by rintro rfl; exact hv rfl
      have hv1 : (x[i] == (y[i]'(by omega))) = false := by rw [beq_eq_false_iff_ne]; exact hv
      have hv2 : (x[i] != (y[i]'(by omega))) = true := by rw [bne_iff_ne]; exact hv
      simp only [g1, g1', g2, g3, g4, g5, hv, hv1, hv2, go_sem]
      repeat' ((first | ((first | apply qa | apply qb | apply qc | apply qd | apply qe | apply qf | apply qg | apply qh | apply qi | apply qj | apply qk) <;> intro hp) | ((first | refine ql rfl rfl (by decide +kernel) ?_ | refine qm _ rfl rfl (by decide +kernel) ?_) <;> have hp := True.intro)) <;> simp only [hp, g1, g1', g2, g3, g4, g5, hv, hv1, hv2, go_sem])
      simp only [fin_mk, finV, resL, resV1, resIn, endA, listIn, Option.some_or, Option.none_or, oneOrTup, go_sem]
      rw [← hr]
      simp only [hne, decide_false]
  · have g1 : ¬ (i : Int) < x.length := by omega
    have g1' : ¬ (i : Int) < y.length := by omega
    simp only [g1, g1', go_sem]
    simp only [fin_mk, finV, resL, resV1, resIn, endA, listIn, Option.some_or, Option.none_or, oneOrTup, go_sem]
    rw [← hr]
    rw [List.take_of_length_le h, List.take_of_length_le (by omega)] at he
    simp only [he, decide_true]
open Classical in
noncomputable def spMarkMailS : VM.Spec := { modes := [.io, .rd], run := fun | [.lst 4 l', .int .i64 k] => (decL Mail.dec l').bind fun l => if l.length ≤ 4194304 ∧ 0 ≤ k ∧ k ≤ 1152921504606846976 then some (.int .i64 ((markL meMail l k).2), [.lst 4 (((markL meMail l k).1).map Mail.enc)]) else none | _ => none, need := [] }
attribute [go_sem] spMarkMailS
theorem spMarkMailS_in {ins : List V} {r : V} {outs : List V} (h : spMarkMailS.run ins = some (r, outs)) : ∃ (l : (List Mail)) (k : Int), ins = [.lst 4 ((l).map Mail.enc), .int .i64 k] ∧ (l.length ≤ 4194304 ∧ 0 ≤ k ∧ k ≤ 1152921504606846976) ∧ .int .i64 ((markL meMail l k).2) = r ∧ outs = [.lst 4 (((markL meMail l k).1).map Mail.enc)] := by
  unfold spMarkMailS at h
  simp only at h
  split at h
  · rename_i l' k
    simp only [Option.bind_eq_some_iff] at h
    obtain ⟨l, h_l, h⟩ := h
    split at h
    case isFalse => cases h
    rename_i hc
    simp only [Option.some.injEq, Prod.mk.injEq] at h
    obtain ⟨h1, h2⟩ := h
    have h_l := decL_some (fun _ _ h => Mail.dec_some h) h_l
    subst h_l
    exact ⟨l, k, rfl, hc, h1, h2.symm⟩
  · cases h
def T_laws_markMailS : Hints := ⟨lk [], lk [(2, [0, 1, 5])], lk [(0, [0, 1]), (1, [0, 1, 5]), (2, [0, 1, 5, 9]), (4, [0, 1, 5]), (5, [0, 1, 5]), (6, [0, 1, 5]), (7, [0, 1, 5]), (8, [0, 1, 5]), (9, [0, 1, 5]), (10, [0, 1, 5]), (11, [0, 1, 5]), (3, [0, 1, 5]), (12, [4])], lk []⟩
noncomputable def Phi_laws_markMailS : Tab := lk [(103, spMarkText)]
attribute [go_sem] T_laws_markMailS Phi_laws_markMailS
theorem phi_laws_markMailS : ∀ f sp, Phi_laws_markMailS f = some sp → FnOk Tryz.prog f sp ∧ ∀ n ∈ sp.need, n ∈ ([] : List String) := phi_cons ok_laws_markText (n0 rfl) (phi_nil)
theorem ok_laws_markMailS : FnOk Tryz.prog 104 spMarkMailS := by
  refine fn_ok (Φ := Phi_laws_markMailS) (T := T_laws_markMailS) phi_laws_markMailS mixed Tryz.func104 rfl rfl rfl (by decide) ?_
  intro ins r outs hr hl
  clear hl
  have hs := spMarkMailS_in hr
  clear hr
  obtain ⟨l, k, rfl, hc, hr, rfl⟩ := hs
  simp only [spMarkMailS, Tryz.f104, Go.VM.initS]
  obtain ⟨hc, h0, h1⟩ := hc
  simp only [go_sem]
  refine loop_go (fun p : Nat × List V × Int => [(1, .int .i64 p.2.2), (5, .int .i64 (p.1 : Int))]) (fun p => [(0, ⟨.arr, 4, p.2.1⟩)]) (fun p => l.length - p.1) (fun p => p.1 ≤ l.length ∧ p.2.1 = ((markL meMail (l.take p.1) k).1 ++ l.drop p.1).map Mail.enc ∧ p.2.2 = (markL meMail (l.take p.1) k).2 ∧ p.2.2 = k + (4 : Nat) * p.1) (0, l.map Mail.enc, k) ⟨Nat.zero_le _, by simp [markL], rfl, by simp⟩ rfl rfl ?_
  rintro ⟨i, els, k'⟩ ⟨hi, he, hk, hb⟩ ih
  simp only at hi he hk hb ih
  rcases Nat.lt_or_ge i l.length with h | h
  · have g1 : (i : Int) < l.length := by omega
    have g2 : (0 : Int) ≤ i := by omega
    obtain ⟨g3, gl, gs, gk⟩ := mark_round h he
    rw [← hk] at gs gk
    have g5 := wrap_succ h (by omega)
    have j0 : k' ≤ 4611686018427387904 := by omega
    have w0 : IntKind.i64.wrap (k' + 1) = k' + 1 := wrap64 (by omega) (by omega)
    have w1 : IntKind.i64.wrap (k' + 1 + 1) = k' + 1 + 1 := wrap64 (by omega) (by omega)
    have w2 : IntKind.i64.wrap (k' + 1 + 1 + 1) = k' + 1 + 1 + 1 := wrap64 (by omega) (by omega)
    have w3 : IntKind.i64.wrap (k' + 1 + 1 + 1 + 1) = k' + 1 + 1 + 1 + 1 := wrap64 (by omega) (by omega)
    have j1 : k' + 1 ≤ 4611686018427387904 := by omega
    have j2 : k' + 1 + 1 ≤ 4611686018427387904 := by omega
    have j3 : k' + 1 + 1 + 1 ≤ 4611686018427387904 := by omega
    have j4 : k' + 1 + 1 + 1 + 1 ≤ 4611686018427387904 := by omega
    rw [Mail.enc] at g3
    have gi : i < els.length := by omega
    simp only [g1, g2, g3, gl, g5, h, w0, w1, w2, w3, j0, j1, j2, j3, j4, List.getElem?_set_self, List.length_set, List.set_set, go_sem]
    repeat' ((first | apply qa | apply qb | apply qc | apply qd | apply qe | apply qf | apply qg | apply qh | apply qi | apply qj | apply qk) <;> intro hp <;> simp only [hp, g1, g2, g3, gl, g5, h, w0, w1, w2, w3, j0, j1, j2, j3, j4, List.getElem?_set_self, List.length_set, List.set_set, go_sem])
    refine ih (i + 1, els.set i (Mail.enc (meMail l[i] k').1), (meMail l[i] k').2) ⟨h, gs, gk, by simp only [meMail]; omega⟩ (by simp only; omega)
  · have g1 : ¬ (i : Int) < l.length := by omega
    have gl : els.length = l.length := by rw [he]; simp [markL_len]; omega
    simp only [g1, gl, go_sem]
    simp only [fin_mk, finV, resL, resV1, resIn, endA, listIn, Option.some_or, Option.none_or, oneOrTup, go_sem]
    rw [← hr, he, hk, List.take_of_length_le h, List.drop_of_length_le h, List.append_nil]
open Classical in
noncomputable def spHeldMailS : VM.Spec := { modes := [.rd, .rd], run := fun | [.lst 4 l', .int .i64 k] => (decL Mail.dec l').bind fun l => if l.length ≤ 4194304 ∧ 0 ≤ k ∧ k ≤ 1152921504606846976 then some (.int .i64 ((heldL heMail l k).getD (-1)), []) else none | _ => none, need := [] }
attribute [go_sem] spHeldMailS
theorem spHeldMailS_in {ins : List V} {r : V} {outs : List V} (h : spHeldMailS.run ins = some (r, outs)) : ∃ (l : (List Mail)) (k : Int), ins = [.lst 4 ((l).map Mail.enc), .int .i64 k] ∧ (l.length ≤ 4194304 ∧ 0 ≤ k ∧ k ≤ 1152921504606846976) ∧ .int .i64 ((heldL heMail l k).getD (-1)) = r ∧ outs = [] := by
  unfold spHeldMailS at h
  simp only at h
  split at h
  · rename_i l' k
    simp only [Option.bind_eq_some_iff] at h
    obtain ⟨l, h_l, h⟩ := h
    split at h
    case isFalse => cases h
    rename_i hc
    simp only [Option.some.injEq, Prod.mk.injEq] at h
    obtain ⟨h1, h2⟩ := h
    have h_l := decL_some (fun _ _ h => Mail.dec_some h) h_l
    subst h_l
    exact ⟨l, k, rfl, hc, h1, h2.symm⟩
  · cases h
def T_laws_heldMailS : Hints := ⟨lk [(13, [(2, 6), (3, 6), (4, 6)])], lk [(2, [0, 1, 5])], lk [(0, [0, 1]), (1, [0, 1, 5]), (2, [0, 1, 5, 9]), (4, [0, 1, 5, 18]), (5, [4]), (6, [0, 1, 5]), (7, [0, 1, 5, 27]), (8, [4]), (9, [0, 1, 5]), (10, [0, 1, 5, 36]), (11, [4]), (12, [0, 1, 5]), (13, [0, 1, 5, 46]), (14, [4]), (15, [0, 1, 5]), (3, [0, 1, 5]), (16, [4])], lk []⟩
noncomputable def Phi_laws_heldMailS : Tab := lk [(103, spMarkText)]
attribute [go_sem] T_laws_heldMailS Phi_laws_heldMailS
theorem phi_laws_heldMailS : ∀ f sp, Phi_laws_heldMailS f = some sp → FnOk Tryz.prog f sp ∧ ∀ n ∈ sp.need, n ∈ ([] : List String) := phi_cons ok_laws_markText (n0 rfl) (phi_nil)
theorem ok_laws_heldMailS : FnOk Tryz.prog 106 spHeldMailS := by
  refine fn_ok (Φ := Phi_laws_heldMailS) (T := T_laws_heldMailS) phi_laws_heldMailS mixed Tryz.func106 rfl rfl rfl (by decide) ?_
  intro ins r outs hr hl
  clear hl
  have hs := spHeldMailS_in hr
  clear hr
  obtain ⟨l, k, rfl, hc, hr, rfl⟩ := hs
  simp only [spHeldMailS, Tryz.f106, Go.VM.initS]
  obtain ⟨hc, h0, h1⟩ := hc
  simp only [go_sem]
  refine loop_go (fun p : Nat × Int => [(1, .int .i64 p.2), (5, .int .i64 (p.1 : Int))]) (fun p => []) (fun p => l.length - p.1) (fun p => p.1 ≤ l.length ∧ heldL heMail (l.take p.1) k = some p.2 ∧ p.2 = k + (4 : Nat) * p.1) (0, k) ⟨Nat.zero_le _, rfl, by simp⟩ rfl rfl ?_
  rintro ⟨i, k'⟩ ⟨hi, hk, hb⟩ ih
  simp only at hi hk hb ih
  rcases Nat.lt_or_ge i l.length with h | h
  · have g1 : (i : Int) < l.length := by omega
    have g2 : (0 : Int) ≤ i := by omega
    have g3 : l[i]? = some l[i] := List.getElem?_eq_getElem h
    have g5 := wrap_succ h (by omega)
    have j0 : k' ≤ 4611686018427387904 := by omega
    have w0 : IntKind.i64.wrap (k' + 1) = k' + 1 := wrap64 (by omega) (by omega)
    have w1 : IntKind.i64.wrap (k' + 1 + 1) = k' + 1 + 1 := wrap64 (by omega) (by omega)
    have w2 : IntKind.i64.wrap (k' + 1 + 1 + 1) = k' + 1 + 1 + 1 := wrap64 (by omega) (by omega)
    have w3 : IntKind.i64.wrap (k' + 1 + 1 + 1 + 1) = k' + 1 + 1 + 1 + 1 := wrap64 (by omega) (by omega)
    have j1 : k' + 1 ≤ 4611686018427387904 := by omega
    have j2 : k' + 1 + 1 ≤ 4611686018427387904 := by omega
    have j3 : k' + 1 + 1 + 1 ≤ 4611686018427387904 := by omega
    have j4 : k' + 1 + 1 + 1 + 1 ≤ 4611686018427387904 := by omega
    have hbad : (meMail l[i] k').1 ≠ l[i] → V.int .i64 (-1) = r := fun hn => by
      rw [← hr, heldL_bad h hk (by simp only [heMail, heOf, hn, if_false])]; rfl
    have hgood : (meMail l[i] k').1 = l[i] → heldL heMail (l.take (i + 1)) k = some ((meMail l[i] k').2) := fun hn => heldL_good h hk (by simp only [heMail, heOf, hn, if_true])
    by_cases hn : (meMail l[i] k').1 = l[i]
    · have e0 : l[i].Uid = k' := (congrArg Mail.Uid hn).symm
      have e1 : l[i].Flags = k' + 1 := (congrArg Mail.Flags hn).symm
      have e2 : l[i].Mod = k' + 1 + 1 := (congrArg Mail.Mod hn).symm
      have e3 : l[i].Text = markText (k' + 1 + 1 + 1) := (congrArg Mail.Text hn).symm
      simp only [g1, g2, g3, g5, w0, w1, w2, w3, j0, j1, j2, j3, j4, e0, e1, e2, e3, bne_self_eq_false, go_sem]
      repeat' ((first | ((first | apply qa | apply qb | apply qc | apply qd | apply qe | apply qf | apply qg | apply qh | apply qi | apply qj | apply qk) <;> intro hp) | ((first | refine ql rfl rfl (by decide +kernel) ?_ | refine qm _ rfl rfl (by decide +kernel) ?_) <;> have hp := True.intro)) <;> simp only [hp, g1, g2, g3, g5, w0, w1, w2, w3, j0, j1, j2, j3, j4, e0, e1, e2, e3, bne_self_eq_false, go_sem])
      exact ih (i + 1, (meMail l[i] k').2) ⟨h, hgood hn, by simp only [meMail]; omega⟩ (by simp only; omega)
    · simp only [g1, g2, g3, g5, w0, w1, w2, w3, j0, j1, j2, j3, j4, go_sem]
      repeat' ((first | ((first | apply qa | apply qb | apply qc | apply qd | apply qe | apply qf | apply qg | apply qh | apply qi | apply qj | apply qk) <;> intro hp) | ((first | refine ql rfl rfl (by decide +kernel) ?_ | refine qm _ rfl rfl (by decide +kernel) ?_) <;> have hp := True.intro)) <;> simp only [hp, g1, g2, g3, g5, w0, w1, w2, w3, j0, j1, j2, j3, j4, go_sem])
      all_goals first
        | (refine fin_mk.2 ?_; simp only [fin_mk, finV, resL, resV1, resIn, endA, listIn, Option.some_or, Option.none_or, oneOrTup, go_sem]; rw [hbad hn])
        | (exfalso; apply hn; clear hn ih hbad hgood hk hr hc h0 h1; simp only [meMail]; cases hx : l[i]; simp_all)
  · have g1 : ¬ (i : Int) < l.length := by omega
    simp only [g1, go_sem]
    simp only [fin_mk, finV, resL, resV1, resIn, endA, listIn, Option.some_or, Option.none_or, oneOrTup, go_sem]
    rw [← hr]
    rw [List.take_of_length_le h] at hk
    rw [hk]; rfl
open Classical in
noncomputable def spToTomb : VM.Spec := { modes := [.rd], run := fun | [x'] => (Tomb.dec x').bind fun x => some (Tomb.enc x, []) | _ => none, need := [] }
attribute [go_sem] spToTomb
theorem spToTomb_in {ins : List V} {r : V} {outs : List V} (h : spToTomb.run ins = some (r, outs)) : ∃ (x : Tomb), ins = [Tomb.enc x] ∧ Tomb.enc x = r ∧ outs = [] := by
  unfold spToTomb at h
  simp only at h
  split at h
  · rename_i x'
    simp only [Option.bind_eq_some_iff] at h
    obtain ⟨x, h_x, h⟩ := h
    simp only [Option.some.injEq, Prod.mk.injEq] at h
    obtain ⟨h1, h2⟩ := h
    have h_x := Tomb.dec_some h_x
    subst h_x
    exact ⟨x, rfl, h1, h2.symm⟩
  · cases h
def T_laws_toTomb : Hints := ⟨lk [], lk [], lk [(0, [1, 2]), (1, [1, 2, 3]), (2, [1, 2, 3]), (3, [2, 3]), (4, [2])], lk []⟩
noncomputable def Phi_laws_toTomb : Tab := lk []
attribute [go_sem] T_laws_toTomb Phi_laws_toTomb
theorem phi_laws_toTomb : ∀ f sp, Phi_laws_toTomb f = some sp → FnOk Tryz.prog f sp ∧ ∀ n ∈ sp.need, n ∈ ([] : List String) := phi_nil
theorem ok_laws_toTomb : FnOk Tryz.prog 141 spToTomb := by
  refine fn_ok (Φ := Phi_laws_toTomb) (T := T_laws_toTomb) phi_laws_toTomb mixed Tryz.func141 rfl rfl rfl (by decide) ?_
  intro ins r outs hr hl
  clear hl
  have hs := spToTomb_in hr
  clear hr
  obtain ⟨x, rfl, hr, rfl⟩ := hs
  simp only [spToTomb, Tryz.f141, Go.VM.initS]
  simp only [go_sem]
  repeat' ((first | apply qa | apply qb | apply qc | apply qd | apply qe | apply qf | apply qg | apply qh | apply qi | apply qj | apply qk) <;> intro hp <;> simp only [hp, go_sem])
  simp only [fin_mk, finV, resL, resV1, resIn, endA, listIn, Option.some_or, Option.none_or, oneOrTup, go_sem]
  rw [← hr]
  rfl
open Classical in
noncomputable def spEqTomb : VM.Spec := { modes := [.rd, .rd], run := fun | [x', y'] => (Tomb.dec x').bind fun x => (Tomb.dec y').bind fun y => some (.bool (decide (x = y)), []) | _ => none, need := [] }
attribute [go_sem] spEqTomb
theorem spEqTomb_in {ins : List V} {r : V} {outs : List V} (h : spEqTomb.run ins = some (r, outs)) : ∃ (x : Tomb) (y : Tomb), ins = [Tomb.enc x, Tomb.enc y] ∧ .bool (decide (x = y)) = r ∧ outs = [] := by
  unfold spEqTomb at h
  simp only at h
  split at h
  · rename_i x' y'
    simp only [Option.bind_eq_some_iff] at h
    obtain ⟨x, h_x, y, h_y, h⟩ := h
    simp only [Option.some.injEq, Prod.mk.injEq] at h
    obtain ⟨h1, h2⟩ := h
    have h_x := Tomb.dec_some h_x
    subst h_x
    have h_y := Tomb.dec_some h_y
    subst h_y
    exact ⟨x, y, rfl, h1, h2.symm⟩
  · cases h
def T_laws_eqTomb : Hints := ⟨lk [], lk [], lk [(0, [2, 3]), (1, [2, 3, 9]), (2, [4]), (3, [14]), (4, [4]), (5, [4])], lk []⟩
noncomputable def Phi_laws_eqTomb : Tab := lk []
attribute [go_sem] T_laws_eqTomb Phi_laws_eqTomb
theorem phi_laws_eqTomb : ∀ f sp, Phi_laws_eqTomb f = some sp → FnOk Tryz.prog f sp ∧ ∀ n ∈ sp.need, n ∈ ([] : List String) := phi_nil
theorem ok_laws_eqTomb : FnOk Tryz.prog 143 spEqTomb := by
  refine fn_ok (Φ := Phi_laws_eqTomb) (T := T_laws_eqTomb) phi_laws_eqTomb mixed Tryz.func143 rfl rfl rfl (by decide) ?_
  intro ins r outs hr hl
  clear hl
  have hs := spEqTomb_in hr
  clear hr
  obtain ⟨x, y, rfl, hr, rfl⟩ := hs
  simp only [spEqTomb, Tryz.f143, Go.VM.initS]
  simp only [and_self, go_sem]
  repeat' ((first | apply qa | apply qb | apply qc | apply qd | apply qe | apply qf | apply qg | apply qh | apply qi | apply qj | apply qk) <;> intro hp <;> simp only [hp, and_self, go_sem])
  all_goals (simp only [fin_mk, finV, resL, resV1, resIn, endA, listIn, Option.some_or, Option.none_or, oneOrTup, go_sem]; rw [← hr])
  all_goals (cases x; cases y; simp_all)
open Classical in
noncomputable def spSzTombS : VM.Spec := { modes := [.rd, .rd], run := fun | [.lst 2 l', .int .i64 n] => (decL Tomb.dec l').bind fun l => if l.length ≤ 4611686018427387904 ∧ 0 ≤ n ∧ n ≤ 4611686018427387904 then some (.int .i64 (szF l n), []) else none | _ => none, need := [] }
attribute [go_sem] spSzTombS
theorem spSzTombS_in {ins : List V} {r : V} {outs : List V} (h : spSzTombS.run ins = some (r, outs)) : ∃ (l : (List Tomb)) (n : Int), ins = [.lst 2 ((l).map Tomb.enc), .int .i64 n] ∧ (l.length ≤ 4611686018427387904 ∧ 0 ≤ n ∧ n ≤ 4611686018427387904) ∧ .int .i64 (szF l n) = r ∧ outs = [] := by
  unfold spSzTombS at h
  simp only at h
  split at h
  · rename_i l' n
    simp only [Option.bind_eq_some_iff] at h
    obtain ⟨l, h_l, h⟩ := h
    split at h
    case isFalse => cases h
    rename_i hc
    simp only [Option.some.injEq, Prod.mk.injEq] at h
    obtain ⟨h1, h2⟩ := h
    have h_l := decL_some (fun _ _ h => Tomb.dec_some h) h_l
    subst h_l
    exact ⟨l, n, rfl, hc, h1, h2.symm⟩
  · cases h
def T_laws_szTombS : Hints := ⟨lk [], lk [], lk [(0, [0, 1]), (1, [1]), (2, [1, 10]), (3, [4]), (4, [4])], lk []⟩
noncomputable def Phi_laws_szTombS : Tab := lk []
attribute [go_sem] T_laws_szTombS Phi_laws_szTombS
theorem phi_laws_szTombS : ∀ f sp, Phi_laws_szTombS f = some sp → FnOk Tryz.prog f sp ∧ ∀ n ∈ sp.need, n ∈ ([] : List String) := phi_nil
theorem ok_laws_szTombS : FnOk Tryz.prog 126 spSzTombS := by
  refine fn_ok (Φ := Phi_laws_szTombS) (T := T_laws_szTombS) phi_laws_szTombS mixed Tryz.func126 rfl rfl rfl (by decide) ?_
  intro ins r outs hr hl
  clear hl
  have hs := spSzTombS_in hr
  clear hr
  obtain ⟨l, n, rfl, hc, hr, rfl⟩ := hs
  simp only [spSzTombS, Tryz.f126, Go.VM.initS]
  obtain ⟨hc, h0, h1⟩ := hc
  have w : IntKind.i64.wrap (n - (l.length : Int)) = n - l.length := wrap64 (by omega) (by omega)
  simp only [w, go_sem]
  repeat' ((first | apply qa | apply qb | apply qc | apply qd | apply qe | apply qf | apply qg | apply qh | apply qi | apply qj | apply qk) <;> intro hp <;> simp only [hp, w, go_sem])
  all_goals (simp only [fin_mk, finV, resL, resV1, resIn, endA, listIn, Option.some_or, Option.none_or, oneOrTup, go_sem]; rw [← hr])
  all_goals simp only [szF, subSz, hp, if_true, if_false]
open Classical in
noncomputable def spToTombS : VM.Spec := { modes := [.rd], run := fun | [.lst 2 l'] => (decL Tomb.dec l').bind fun l => if l.length ≤ 4194304 then some (.lst 2 ((l).map Tomb.enc), []) else none | _ => none, need := [] }
attribute [go_sem] spToTombS
theorem spToTombS_in {ins : List V} {r : V} {outs : List V} (h : spToTombS.run ins = some (r, outs)) : ∃ (l : (List Tomb)), ins = [.lst 2 ((l).map Tomb.enc)] ∧ (l.length ≤ 4194304) ∧ .lst 2 ((l).map Tomb.enc) = r ∧ outs = [] := by
  unfold spToTombS at h
  simp only at h
  split at h
  · rename_i l'
    simp only [Option.bind_eq_some_iff] at h
    obtain ⟨l, h_l, h⟩ := h
    split at h
    case isFalse => cases h
    rename_i hc
    simp only [Option.some.injEq, Prod.mk.injEq] at h
    obtain ⟨h1, h2⟩ := h
    have h_l := decL_some (fun _ _ h => Tomb.dec_some h) h_l
    subst h_l
    exact ⟨l, rfl, hc, h1, h2.symm⟩
  · cases h
def T_laws_toTombS : Hints := ⟨lk [], lk [(3, [0, 3, 4])], lk [(0, [0]), (1, [0, 3]), (2, [0, 3, 4]), (3, [0, 3, 4, 11]), (5, [0, 3, 4]), (4, [0, 3, 4]), (6, [2])], lk []⟩
noncomputable def Phi_laws_toTombS : Tab := lk [(141, spToTomb)]
attribute [go_sem] T_laws_toTombS Phi_laws_toTombS
theorem phi_laws_toTombS : ∀ f sp, Phi_laws_toTombS f = some sp → FnOk Tryz.prog f sp ∧ ∀ n ∈ sp.need, n ∈ ([] : List String) := phi_cons ok_laws_toTomb (n0 rfl) (phi_nil)
theorem ok_laws_toTombS : FnOk Tryz.prog 131 spToTombS := by
  refine fn_ok (Φ := Phi_laws_toTombS) (T := T_laws_toTombS) phi_laws_toTombS mixed Tryz.func131 rfl rfl rfl (by decide) ?_
  intro ins r outs hr hl
  clear hl
  have hs := spToTombS_in hr
  clear hr
  obtain ⟨l, rfl, hc, hr, rfl⟩ := hs
  simp only [spToTombS, Tryz.f131, Go.VM.initS]
  have h1 : (l.length : Int) ≤ 9223372036854775807 := by omega
  have h2 : (l.length : Int) * 16 ≤ 140737488355328 := by omega
  have h3 : (0 : Int) ≤ l.length := by omega
  simp only [h1, h2, h3, Int.cast_ofNat_Int, go_sem]
  refine loop_go (fun p : Nat × List V => [(4, .int .i64 (p.1 : Int))]) (fun p => [(0, ⟨.arr, 2, p.2⟩)]) (fun p => l.length - p.1) (fun p => p.1 ≤ l.length ∧ p.2 = (l.take p.1).map Tomb.enc ++ List.replicate (l.length - p.1) (.agg [.int .i64 0, .int .i64 0])) (0, List.replicate l.length (.agg [.int .i64 0, .int .i64 0])) ⟨Nat.zero_le _, by simp⟩ rfl rfl ?_
  rintro ⟨i, els⟩ ⟨hi, hels⟩ ih
  simp only at hi hels ih
  have hlen : els.length = l.length := by rw [hels]; simp; omega
  rcases Nat.lt_or_ge i l.length with h | h
  · have g1 : (i : Int) < l.length := by omega
    have g2 : (0 : Int) ≤ i := by omega
    have g3 : l[i]? = some l[i] := List.getElem?_eq_getElem h
    have g4 : els[i]? = some (els[i]'(by omega)) := List.getElem?_eq_getElem (by omega)
    have g5 := wrap_succ h (by omega)
    skip
    simp only [g1, g2, g3, g4, g5, hlen, go_sem]
    repeat' ((first | apply qa | apply qb | apply qc | apply qd | apply qe | apply qf | apply qg | apply qh | apply qi | apply qj | apply qk) <;> intro hp <;> simp only [hp, g1, g2, g3, g4, g5, hlen, go_sem])
    refine ih (i + 1, els.set i (.agg [.int .i64 l[i].Uid, .int .i64 l[i].Mod])) ⟨h, ?_⟩ (by simp only; omega)
    simp only
    rw [hels]
    exact fill_step _ h rfl
  · have g1 : ¬ (i : Int) < l.length := by omega
    simp only [g1, go_sem]
    simp only [fin_mk, finV, resL, resV1, resIn, endA, listIn, Option.some_or, Option.none_or, oneOrTup, go_sem]
    rw [← hr, hels, List.take_of_length_le h, show l.length - i = 0 by omega]
    simp
open Classical in
noncomputable def spEqTombS : VM.Spec := { modes := [.rd, .rd], run := fun | [.lst 2 x', .lst 2 y'] => (decL Tomb.dec x').bind fun x => (decL Tomb.dec y').bind fun y => if x.length ≤ 4194304 ∧ y.length ≤ 4194304 then some (.bool (decide (x = y)), []) else none | _ => none, need := [] }
attribute [go_sem] spEqTombS
theorem spEqTombS_in {ins : List V} {r : V} {outs : List V} (h : spEqTombS.run ins = some (r, outs)) : ∃ (x : (List Tomb)) (y : (List Tomb)), ins = [.lst 2 ((x).map Tomb.enc), .lst 2 ((y).map Tomb.enc)] ∧ (x.length ≤ 4194304 ∧ y.length ≤ 4194304) ∧ .bool (decide (x = y)) = r ∧ outs = [] := by
  unfold spEqTombS at h
  simp only at h
  split at h
  · rename_i x' y'
    simp only [Option.bind_eq_some_iff] at h
    obtain ⟨x, h_x, y, h_y, h⟩ := h
    split at h
    case isFalse => cases h
    rename_i hc
    simp only [Option.some.injEq, Prod.mk.injEq] at h
    obtain ⟨h1, h2⟩ := h
    have h_x := decL_some (fun _ _ h => Tomb.dec_some h) h_x
    subst h_x
    have h_y := decL_some (fun _ _ h => Tomb.dec_some h) h_y
    subst h_y
    exact ⟨x, y, rfl, hc, h1, h2.symm⟩
  · cases h
def T_laws_eqTombS : Hints := ⟨lk [(6, [])], lk [(4, [0, 1, 5])], lk [(0, [0, 1]), (1, [0, 1, 10]), (2, [4]), (3, [0, 1, 5]), (4, [0, 1, 5, 14]), (6, [0, 1, 5, 26]), (7, [4]), (5, [0, 1, 5]), (8, [4])], lk []⟩
noncomputable def Phi_laws_eqTombS : Tab := lk [(143, spEqTomb)]
attribute [go_sem] T_laws_eqTombS Phi_laws_eqTombS
theorem phi_laws_eqTombS : ∀ f sp, Phi_laws_eqTombS f = some sp → FnOk Tryz.prog f sp ∧ ∀ n ∈ sp.need, n ∈ ([] : List String) := phi_cons ok_laws_eqTomb (n0 rfl) (phi_nil)
theorem ok_laws_eqTombS : FnOk Tryz.prog 133 spEqTombS := by
  refine fn_ok (Φ := Phi_laws_eqTombS) (T := T_laws_eqTombS) phi_laws_eqTombS mixed Tryz.func133 rfl rfl rfl (by decide) ?_
  intro ins r outs hr hl
  clear hl
  have hs := spEqTombS_in hr
  clear hr
  obtain ⟨x, y, rfl, hc, hr, rfl⟩ := hs
  simp only [spEqTombS, Tryz.f133, Go.VM.initS]
  obtain ⟨hx, hy⟩ := hc
  by_cases hl : x.length = y.length
  case neg =>
    have g : ((x.length : Int) == y.length) = false := by rw [beq_eq_false_iff_ne]; omega
    have g' : ((x.length : Int) != y.length) = true := by rw [bne_iff_ne]; omega
    have hne : x ≠ y := fun e => hl (by rw [e])
    simp only [g, g', go_sem]
    repeat' ((first | ((first | apply qa | apply qb | apply qc | apply qd | apply qe | apply qf | apply qg | apply qh | apply qi | apply qj | apply qk) <;> intro hp) | ((first | refine ql rfl rfl (by decide +kernel) ?_ | refine qm _ rfl rfl (by decide +kernel) ?_) <;> have hp := True.intro)) <;> simp only [hp, g, g', go_sem])
    simp only [fin_mk, finV, resL, resV1, resIn, endA, listIn, Option.some_or, Option.none_or, oneOrTup, go_sem]
    rw [← hr]
    simp only [hne, decide_false]
  have hl' : (x.length : Int) = y.length := by omega
  simp only [hl, bne_self_eq_false, go_sem]
  repeat' ((first | ((first | apply qa | apply qb | apply qc | apply qd | apply qe | apply qf | apply qg | apply qh | apply qi | apply qj | apply qk) <;> intro hp) | ((first | refine ql rfl rfl (by decide +kernel) ?_ | refine qm _ rfl rfl (by decide +kernel) ?_) <;> have hp := True.intro)) <;> simp only [hp, hl, bne_self_eq_false, go_sem])
  refine loop_go (fun i : Nat => [(5, .int .i64 (i : Int))]) (fun _ => []) (fun i => x.length - i) (fun i => i ≤ x.length ∧ x.take i = y.take i) 0 ⟨Nat.zero_le _, by simp⟩ rfl rfl ?_
  intro i ⟨hi, he⟩ ih
  rcases Nat.lt_or_ge i x.length with h | h
  · have g1 : (i : Int) < x.length := by omega
    have g1' : (i : Int) < y.length := by omega
    have g2 : (0 : Int) ≤ i := by omega
    have g3 : x[i]? = some x[i] := List.getElem?_eq_getElem h
    have g4 : y[i]? = some (y[i]'(by omega)) := List.getElem?_eq_getElem (by omega)
    have g5 := wrap_succ h (by omega)
    skip
    by_cases hv : x[i] = (y[i]'(by omega))
    · simp only [g1, g1', g2, g3, g4, g5, hv, go_sem]
      repeat' ((first | ((first | apply qa | apply qb | apply qc | apply qd | apply qe | apply qf | apply qg | apply qh | apply qi | apply qj | apply qk) <;> intro hp) | ((first | refine ql rfl rfl (by decide +kernel) ?_ | refine qm _ rfl rfl (by decide +kernel) ?_) <;> have hp := True.intro)) <;> simp only [hp, g1, g1', g2, g3, g4, g5, hv, go_sem])
      exact ih (i + 1) ⟨h, by rw [List.take_add_one, List.take_add_one, he, g3, g4, hv]⟩ (by omega)
    · have hne : x ≠ y := by rintro rfl; exact hv rfl
      have hv1 : (x[i] == (y[i]'(by omega))) = false := by rw [beq_eq_false_iff_ne]; exact hv
      have hv2 : (x[i] != (y[i]'(by omega))) = true := by rw [bne_iff_ne]; exact hv
      simp only [g1, g1', g2, g3, g4, g5, hv, hv1, hv2, go_sem]
      repeat' ((first | ((first | apply qa | apply qb | apply qc | apply qd | apply qe | apply qf | apply qg | apply qh | apply qi | apply qj | apply qk) <;> intro hp) | ((first | refine ql rfl rfl (by decide +kernel) ?_ | refine qm _ rfl rfl (by decide +kernel) ?_) <;> have hp := True.intro)) <;> simp only [hp, g1, g1', g2, g3, g4, g5, hv, hv1, hv2, go_sem])
      simp only [fin_mk, finV, resL, resV1, resIn, endA, listIn, Option.some_or, Option.none_or, oneOrTup, go_sem]
      rw [← hr]
      simp only [hne, decide_false]
  · have g1 : ¬ (i : Int) < x.length := by omega
    have g1' : ¬ (i : Int) < y.length := by omega
    simp only [g1, g1', go_sem]
    simp only [fin_mk, finV, resL, resV1, resIn, endA, listIn, Option.some_or, Option.none_or, oneOrTup, go_sem]
    rw [← hr]
    rw [List.take_of_length_le h, List.take_of_length_le (by omega)] at he
    simp only [he, decide_true]
open Classical in
noncomputable def spMarkTombS : VM.Spec := { modes := [.io, .rd], run := fun | [.lst 2 l', .int .i64 k] => (decL Tomb.dec l').bind fun l => if l.length ≤ 4194304 ∧ 0 ≤ k ∧ k ≤ 1152921504606846976 then some (.int .i64 ((markL meTomb l k).2), [.lst 2 (((markL meTomb l k).1).map Tomb.enc)]) else none | _ => none, need := [] }
attribute [go_sem] spMarkTombS
theorem spMarkTombS_in {ins : List V} {r : V} {outs : List V} (h : spMarkTombS.run ins = some (r, outs)) : ∃ (l : (List Tomb)) (k : Int), ins = [.lst 2 ((l).map Tomb.enc), .int .i64 k] ∧ (l.length ≤ 4194304 ∧ 0 ≤ k ∧ k ≤ 1152921504606846976) ∧ .int .i64 ((markL meTomb l k).2) = r ∧ outs = [.lst 2 (((markL meTomb l k).1).map Tomb.enc)] := by
  unfold spMarkTombS at h
  simp only at h
  split at h
  · rename_i l' k
    simp only [Option.bind_eq_some_iff] at h
    obtain ⟨l, h_l, h⟩ := h
    split at h
    case isFalse => cases h
    rename_i hc
    simp only [Option.some.injEq, Prod.mk.injEq] at h
    obtain ⟨h1, h2⟩ := h
    have h_l := decL_some (fun _ _ h => Tomb.dec_some h) h_l
    subst h_l
    exact ⟨l, k, rfl, hc, h1, h2.symm⟩
  · cases h
def T_laws_markTombS : Hints := ⟨lk [], lk [(2, [0, 1, 5])], lk [(0, [0, 1]), (1, [0, 1, 5]), (2, [0, 1, 5, 9]), (4, [0, 1, 5]), (5, [0, 1, 5]), (6, [0, 1, 5]), (7, [0, 1, 5]), (3, [0, 1, 5]), (8, [4])], lk []⟩
noncomputable def Phi_laws_markTombS : Tab := lk []
attribute [go_sem] T_laws_markTombS Phi_laws_markTombS
theorem phi_laws_markTombS : ∀ f sp, Phi_laws_markTombS f = some sp → FnOk Tryz.prog f sp ∧ ∀ n ∈ sp.need, n ∈ ([] : List String) := phi_nil
theorem ok_laws_markTombS : FnOk Tryz.prog 105 spMarkTombS := by
  refine fn_ok (Φ := Phi_laws_markTombS) (T := T_laws_markTombS) phi_laws_markTombS mixed Tryz.func105 rfl rfl rfl (by decide) ?_
  intro ins r outs hr hl
  clear hl
  have hs := spMarkTombS_in hr
  clear hr
  obtain ⟨l, k, rfl, hc, hr, rfl⟩ := hs
  simp only [spMarkTombS, Tryz.f105, Go.VM.initS]
  obtain ⟨hc, h0, h1⟩ := hc
  simp only [go_sem]
  refine loop_go (fun p : Nat × List V × Int => [(1, .int .i64 p.2.2), (5, .int .i64 (p.1 : Int))]) (fun p => [(0, ⟨.arr, 2, p.2.1⟩)]) (fun p => l.length - p.1) (fun p => p.1 ≤ l.length ∧ p.2.1 = ((markL meTomb (l.take p.1) k).1 ++ l.drop p.1).map Tomb.enc ∧ p.2.2 = (markL meTomb (l.take p.1) k).2 ∧ p.2.2 = k + (2 : Nat) * p.1) (0, l.map Tomb.enc, k) ⟨Nat.zero_le _, by simp [markL], rfl, by simp⟩ rfl rfl ?_
  rintro ⟨i, els, k'⟩ ⟨hi, he, hk, hb⟩ ih
  simp only at hi he hk hb ih
  rcases Nat.lt_or_ge i l.length with h | h
  · have g1 : (i : Int) < l.length := by omega
    have g2 : (0 : Int) ≤ i := by omega
    obtain ⟨g3, gl, gs, gk⟩ := mark_round h he
    rw [← hk] at gs gk
    have g5 := wrap_succ h (by omega)
    have j0 : k' ≤ 4611686018427387904 := by omega
    have w0 : IntKind.i64.wrap (k' + 1) = k' + 1 := wrap64 (by omega) (by omega)
    have w1 : IntKind.i64.wrap (k' + 1 + 1) = k' + 1 + 1 := wrap64 (by omega) (by omega)
    have j1 : k' + 1 ≤ 4611686018427387904 := by omega
    have j2 : k' + 1 + 1 ≤ 4611686018427387904 := by omega
    rw [Tomb.enc] at g3
    have gi : i < els.length := by omega
    simp only [g1, g2, g3, gl, g5, h, w0, w1, j0, j1, j2, List.getElem?_set_self, List.length_set, List.set_set, go_sem]
    repeat' ((first | apply qa | apply qb | apply qc | apply qd | apply qe | apply qf | apply qg | apply qh | apply qi | apply qj | apply qk) <;> intro hp <;> simp only [hp, g1, g2, g3, gl, g5, h, w0, w1, j0, j1, j2, List.getElem?_set_self, List.length_set, List.set_set, go_sem])
    refine ih (i + 1, els.set i (Tomb.enc (meTomb l[i] k').1), (meTomb l[i] k').2) ⟨h, gs, gk, by simp only [meTomb]; omega⟩ (by simp only; omega)
  · have g1 : ¬ (i : Int) < l.length := by omega
    have gl : els.length = l.length := by rw [he]; simp [markL_len]; omega
    simp only [g1, gl, go_sem]
    simp only [fin_mk, finV, resL, resV1, resIn, endA, listIn, Option.some_or, Option.none_or, oneOrTup, go_sem]
    rw [← hr, he, hk, List.take_of_length_le h, List.drop_of_length_le h, List.append_nil]
open Classical in
noncomputable def spHeldTombS : VM.Spec := { modes := [.rd, .rd], run := fun | [.lst 2 l', .int .i64 k] => (decL Tomb.dec l').bind fun l => if l.length ≤ 4194304 ∧ 0 ≤ k ∧ k ≤ 1152921504606846976 then some (.int .i64 ((heldL heTomb l k).getD (-1)), []) else none | _ => none, need := [] }
attribute [go_sem] spHeldTombS
theorem spHeldTombS_in {ins : List V} {r : V} {outs : List V} (h : spHeldTombS.run ins = some (r, outs)) : ∃ (l : (List Tomb)) (k : Int), ins = [.lst 2 ((l).map Tomb.enc), .int .i64 k] ∧ (l.length ≤ 4194304 ∧ 0 ≤ k ∧ k ≤ 1152921504606846976) ∧ .int .i64 ((heldL heTomb l k).getD (-1)) = r ∧ outs = [] := by
  unfold spHeldTombS at h
  simp only at h
  split at h
  · rename_i l' k
    simp only [Option.bind_eq_some_iff] at h
    obtain ⟨l, h_l, h⟩ := h
    split at h
    case isFalse => cases h
    rename_i hc
    simp only [Option.some.injEq, Prod.mk.injEq] at h
    obtain ⟨h1, h2⟩ := h
    have h_l := decL_some (fun _ _ h => Tomb.dec_some h) h_l
    subst h_l
    exact ⟨l, k, rfl, hc, h1, h2.symm⟩
  · cases h
def T_laws_heldTombS : Hints := ⟨lk [], lk [(2, [0, 1, 5])], lk [(0, [0, 1]), (1, [0, 1, 5]), (2, [0, 1, 5, 9]), (4, [0, 1, 5, 18]), (5, [4]), (6, [0, 1, 5]), (7, [0, 1, 5, 27]), (8, [4]), (9, [0, 1, 5]), (3, [0, 1, 5]), (10, [4])], lk []⟩
noncomputable def Phi_laws_heldTombS : Tab := lk []
attribute [go_sem] T_laws_heldTombS Phi_laws_heldTombS
theorem phi_laws_heldTombS : ∀ f sp, Phi_laws_heldTombS f = some sp → FnOk Tryz.prog f sp ∧ ∀ n ∈ sp.need, n ∈ ([] : List String) := phi_nil
theorem ok_laws_heldTombS : FnOk Tryz.prog 107 spHeldTombS := by
  refine fn_ok (Φ := Phi_laws_heldTombS) (T := T_laws_heldTombS) phi_laws_heldTombS mixed Tryz.func107 rfl rfl rfl (by decide) ?_
  intro ins r outs hr hl
  clear hl
  have hs := spHeldTombS_in hr
  clear hr
  obtain ⟨l, k, rfl, hc, hr, rfl⟩ := hs
  simp only [spHeldTombS, Tryz.f107, Go.VM.initS]
  obtain ⟨hc, h0, h1⟩ := hc
  simp only [go_sem]
  refine loop_go (fun p : Nat × Int => [(1, .int .i64 p.2), (5, .int .i64 (p.1 : Int))]) (fun p => []) (fun p => l.length - p.1) (fun p => p.1 ≤ l.length ∧ heldL heTomb (l.take p.1) k = some p.2 ∧ p.2 = k + (2 : Nat) * p.1) (0, k) ⟨Nat.zero_le _, rfl, by simp⟩ rfl rfl ?_
  rintro ⟨i, k'⟩ ⟨hi, hk, hb⟩ ih
  simp only at hi hk hb ih
  rcases Nat.lt_or_ge i l.length with h | h
  · have g1 : (i : Int) < l.length := by omega
    have g2 : (0 : Int) ≤ i := by omega
    have g3 : l[i]? = some l[i] := List.getElem?_eq_getElem h
    have g5 := wrap_succ h (by omega)
    have j0 : k' ≤ 4611686018427387904 := by omega
    have w0 : IntKind.i64.wrap (k' + 1) = k' + 1 := wrap64 (by omega) (by omega)
    have w1 : IntKind.i64.wrap (k' + 1 + 1) = k' + 1 + 1 := wrap64 (by omega) (by omega)
    have j1 : k' + 1 ≤ 4611686018427387904 := by omega
    have j2 : k' + 1 + 1 ≤ 4611686018427387904 := by omega
    have hbad : (meTomb l[i] k').1 ≠ l[i] → V.int .i64 (-1) = r := fun hn => by
      rw [← hr, heldL_bad h hk (by simp only [heTomb, heOf, hn, if_false])]; rfl
    have hgood : (meTomb l[i] k').1 = l[i] → heldL heTomb (l.take (i + 1)) k = some ((meTomb l[i] k').2) := fun hn => heldL_good h hk (by simp only [heTomb, heOf, hn, if_true])
    by_cases hn : (meTomb l[i] k').1 = l[i]
    · have e0 : l[i].Uid = k' := (congrArg Tomb.Uid hn).symm
      have e1 : l[i].Mod = k' + 1 := (congrArg Tomb.Mod hn).symm
      simp only [g1, g2, g3, g5, w0, w1, j0, j1, j2, e0, e1, bne_self_eq_false, go_sem]
      repeat' ((first | apply qa | apply qb | apply qc | apply qd | apply qe | apply qf | apply qg | apply qh | apply qi | apply qj | apply qk) <;> intro hp <;> simp only [hp, g1, g2, g3, g5, w0, w1, j0, j1, j2, e0, e1, bne_self_eq_false, go_sem])
      exact ih (i + 1, (meTomb l[i] k').2) ⟨h, hgood hn, by simp only [meTomb]; omega⟩ (by simp only; omega)
    · simp only [g1, g2, g3, g5, w0, w1, j0, j1, j2, go_sem]
      repeat' ((first | apply qa | apply qb | apply qc | apply qd | apply qe | apply qf | apply qg | apply qh | apply qi | apply qj | apply qk) <;> intro hp <;> simp only [hp, g1, g2, g3, g5, w0, w1, j0, j1, j2, go_sem])
      all_goals first
        | (refine fin_mk.2 ?_; simp only [fin_mk, finV, resL, resV1, resIn, endA, listIn, Option.some_or, Option.none_or, oneOrTup, go_sem]; rw [hbad hn])
        | (exfalso; apply hn; clear hn ih hbad hgood hk hr hc h0 h1; simp only [meTomb]; cases hx : l[i]; simp_all)
  · have g1 : ¬ (i : Int) < l.length := by omega
    simp only [g1, go_sem]
    simp only [fin_mk, finV, resL, resV1, resIn, endA, listIn, Option.some_or, Option.none_or, oneOrTup, go_sem]
    rw [← hr]
    rw [List.take_of_length_le h] at hk
    rw [hk]; rfl
open Classical in
noncomputable def spToRange : VM.Spec := { modes := [.rd], run := fun | [x'] => (Range.dec x').bind fun x => some (Range.enc x, []) | _ => none, need := [] }
attribute [go_sem] spToRange
theorem spToRange_in {ins : List V} {r : V} {outs : List V} (h : spToRange.run ins = some (r, outs)) : ∃ (x : Range), ins = [Range.enc x] ∧ Range.enc x = r ∧ outs = [] := by
  unfold spToRange at h
  simp only at h
  split at h
  · rename_i x'
    simp only [Option.bind_eq_some_iff] at h
    obtain ⟨x, h_x, h⟩ := h
    simp only [Option.some.injEq, Prod.mk.injEq] at h
    obtain ⟨h1, h2⟩ := h
    have h_x := Range.dec_some h_x
    subst h_x
    exact ⟨x, rfl, h1, h2.symm⟩
  · cases h
def T_laws_toRange : Hints := ⟨lk [], lk [], lk [(0, [1, 2]), (1, [1, 2, 3]), (2, [1, 2, 3]), (3, [2, 3]), (4, [2])], lk []⟩
noncomputable def Phi_laws_toRange : Tab := lk []
attribute [go_sem] T_laws_toRange Phi_laws_toRange
theorem phi_laws_toRange : ∀ f sp, Phi_laws_toRange f = some sp → FnOk Tryz.prog f sp ∧ ∀ n ∈ sp.need, n ∈ ([] : List String) := phi_nil
theorem ok_laws_toRange : FnOk Tryz.prog 100 spToRange := by
  refine fn_ok (Φ := Phi_laws_toRange) (T := T_laws_toRange) phi_laws_toRange mixed Tryz.func100 rfl rfl rfl (by decide) ?_
  intro ins r outs hr hl
  clear hl
  have hs := spToRange_in hr
  clear hr
  obtain ⟨x, rfl, hr, rfl⟩ := hs
  simp only [spToRange, Tryz.f100, Go.VM.initS]
  simp only [go_sem]
  repeat' ((first | apply qa | apply qb | apply qc | apply qd | apply qe | apply qf | apply qg | apply qh | apply qi | apply qj | apply qk) <;> intro hp <;> simp only [hp, go_sem])
  simp only [fin_mk, finV, resL, resV1, resIn, endA, listIn, Option.some_or, Option.none_or, oneOrTup, go_sem]
  rw [← hr]
  rfl
open Classical in
noncomputable def spEqRange : VM.Spec := { modes := [.rd, .rd], run := fun | [x', y'] => (Range.dec x').bind fun x => (Range.dec y').bind fun y => some (.bool (decide (x = y)), []) | _ => none, need := [] }
attribute [go_sem] spEqRange
theorem spEqRange_in {ins : List V} {r : V} {outs : List V} (h : spEqRange.run ins = some (r, outs)) : ∃ (x : Range) (y : Range), ins = [Range.enc x, Range.enc y] ∧ .bool (decide (x = y)) = r ∧ outs = [] := by
  unfold spEqRange at h
  simp only at h
  split at h
  · rename_i x' y'
    simp only [Option.bind_eq_some_iff] at h
    obtain ⟨x, h_x, y, h_y, h⟩ := h
    simp only [Option.some.injEq, Prod.mk.injEq] at h
    obtain ⟨h1, h2⟩ := h
    have h_x := Range.dec_some h_x
    subst h_x
    have h_y := Range.dec_some h_y
    subst h_y
    exact ⟨x, y, rfl, h1, h2.symm⟩
  · cases h
def T_laws_eqRange : Hints := ⟨lk [], lk [], lk [(0, [2, 3]), (1, [2, 3, 9]), (2, [4]), (3, [14]), (4, [4]), (5, [4])], lk []⟩
noncomputable def Phi_laws_eqRange : Tab := lk []
attribute [go_sem] T_laws_eqRange Phi_laws_eqRange
theorem phi_laws_eqRange : ∀ f sp, Phi_laws_eqRange f = some sp → FnOk Tryz.prog f sp ∧ ∀ n ∈ sp.need, n ∈ ([] : List String) := phi_nil
theorem ok_laws_eqRange : FnOk Tryz.prog 102 spEqRange := by
  refine fn_ok (Φ := Phi_laws_eqRange) (T := T_laws_eqRange) phi_laws_eqRange mixed Tryz.func102 rfl rfl rfl (by decide) ?_
  intro ins r outs hr hl
  clear hl
  have hs := spEqRange_in hr
  clear hr
  obtain ⟨x, y, rfl, hr, rfl⟩ := hs
  simp only [spEqRange, Tryz.f102, Go.VM.initS]
  simp only [and_self, go_sem]
  repeat' ((first | apply qa | apply qb | apply qc | apply qd | apply qe | apply qf | apply qg | apply qh | apply qi | apply qj | apply qk) <;> intro hp <;> simp only [hp, and_self, go_sem])
  all_goals (simp only [fin_mk, finV, resL, resV1, resIn, endA, listIn, Option.some_or, Option.none_or, oneOrTup, go_sem]; rw [← hr])
  all_goals (cases x; cases y; simp_all)
open Classical in
noncomputable def spSzRangeS : VM.Spec := { modes := [.rd, .rd], run := fun | [.lst 2 l', .int .i64 n] => (decL Range.dec l').bind fun l => if l.length ≤ 4611686018427387904 ∧ 0 ≤ n ∧ n ≤ 4611686018427387904 then some (.int .i64 (szF l n), []) else none | _ => none, need := [] }
attribute [go_sem] spSzRangeS
theorem spSzRangeS_in {ins : List V} {r : V} {outs : List V} (h : spSzRangeS.run ins = some (r, outs)) : ∃ (l : (List Range)) (n : Int), ins = [.lst 2 ((l).map Range.enc), .int .i64 n] ∧ (l.length ≤ 4611686018427387904 ∧ 0 ≤ n ∧ n ≤ 4611686018427387904) ∧ .int .i64 (szF l n) = r ∧ outs = [] := by
  unfold spSzRangeS at h
  simp only at h
  split at h
  · rename_i l' n
    simp only [Option.bind_eq_some_iff] at h
    obtain ⟨l, h_l, h⟩ := h
    split at h
    case isFalse => cases h
    rename_i hc
    simp only [Option.some.injEq, Prod.mk.injEq] at h
    obtain ⟨h1, h2⟩ := h
    have h_l := decL_some (fun _ _ h => Range.dec_some h) h_l
    subst h_l
    exact ⟨l, n, rfl, hc, h1, h2.symm⟩
  · cases h
def T_laws_szRangeS : Hints := ⟨lk [], lk [], lk [(0, [0, 1]), (1, [1]), (2, [1, 10]), (3, [4]), (4, [4])], lk []⟩
noncomputable def Phi_laws_szRangeS : Tab := lk []
attribute [go_sem] T_laws_szRangeS Phi_laws_szRangeS
theorem phi_laws_szRangeS : ∀ f sp, Phi_laws_szRangeS f = some sp → FnOk Tryz.prog f sp ∧ ∀ n ∈ sp.need, n ∈ ([] : List String) := phi_nil
theorem ok_laws_szRangeS : FnOk Tryz.prog 37 spSzRangeS := by
  refine fn_ok (Φ := Phi_laws_szRangeS) (T := T_laws_szRangeS) phi_laws_szRangeS mixed Tryz.func37 rfl rfl rfl (by decide) ?_
  intro ins r outs hr hl
  clear hl
  have hs := spSzRangeS_in hr
  clear hr
  obtain ⟨l, n, rfl, hc, hr, rfl⟩ := hs
  simp only [spSzRangeS, Tryz.f37, Go.VM.initS]
  obtain ⟨hc, h0, h1⟩ := hc
  have w : IntKind.i64.wrap (n - (l.length : Int)) = n - l.length := wrap64 (by omega) (by omega)
  simp only [w, go_sem]
  repeat' ((first | apply qa | apply qb | apply qc | apply qd | apply qe | apply qf | apply qg | apply qh | apply qi | apply qj | apply qk) <;> intro hp <;> simp only [hp, w, go_sem])
  all_goals (simp only [fin_mk, finV, resL, resV1, resIn, endA, listIn, Option.some_or, Option.none_or, oneOrTup, go_sem]; rw [← hr])
  all_goals simp only [szF, subSz, hp, if_true, if_false]
open Classical in
noncomputable def spToRangeS : VM.Spec := { modes := [.rd], run := fun | [.lst 2 l'] => (decL Range.dec l').bind fun l => if l.length ≤ 4194304 then some (.lst 2 ((l).map Range.enc), []) else none | _ => none, need := [] }
attribute [go_sem] spToRangeS
theorem spToRangeS_in {ins : List V} {r : V} {outs : List V} (h : spToRangeS.run ins = some (r, outs)) : ∃ (l : (List Range)), ins = [.lst 2 ((l).map Range.enc)] ∧ (l.length ≤ 4194304) ∧ .lst 2 ((l).map Range.enc) = r ∧ outs = [] := by
  unfold spToRangeS at h
  simp only at h
  split at h
  · rename_i l'
    simp only [Option.bind_eq_some_iff] at h
    obtain ⟨l, h_l, h⟩ := h
    split at h
    case isFalse => cases h
    rename_i hc
    simp only [Option.some.injEq, Prod.mk.injEq] at h
    obtain ⟨h1, h2⟩ := h
    have h_l := decL_some (fun _ _ h => Range.dec_some h) h_l
    subst h_l
    exact ⟨l, rfl, hc, h1, h2.symm⟩
  · cases h
def T_laws_toRangeS : Hints := ⟨lk [], lk [(3, [0, 3, 4])], lk [(0, [0]), (1, [0, 3]), (2, [0, 3, 4]), (3, [0, 3, 4, 11]), (5, [0, 3, 4]), (4, [0, 3, 4]), (6, [2])], lk []⟩
noncomputable def Phi_laws_toRangeS : Tab := lk [(100, spToRange)]
attribute [go_sem] T_laws_toRangeS Phi_laws_toRangeS
theorem phi_laws_toRangeS : ∀ f sp, Phi_laws_toRangeS f = some sp → FnOk Tryz.prog f sp ∧ ∀ n ∈ sp.need, n ∈ ([] : List String) := phi_cons ok_laws_toRange (n0 rfl) (phi_nil)
theorem ok_laws_toRangeS : FnOk Tryz.prog 48 spToRangeS := by
  refine fn_ok (Φ := Phi_laws_toRangeS) (T := T_laws_toRangeS) phi_laws_toRangeS mixed Tryz.func48 rfl rfl rfl (by decide) ?_
  intro ins r outs hr hl
  clear hl
  have hs := spToRangeS_in hr
  clear hr
  obtain ⟨l, rfl, hc, hr, rfl⟩ := hs
  simp only [spToRangeS, Tryz.f48, Go.VM.initS]
  have h1 : (l.length : Int) ≤ 9223372036854775807 := by omega
  have h2 : (l.length : Int) * 16 ≤ 140737488355328 := by omega
  have h3 : (0 : Int) ≤ l.length := by omega
  simp only [h1, h2, h3, Int.cast_ofNat_Int, go_sem]
  refine loop_go (fun p : Nat × List V => [(4, .int .i64 (p.1 : Int))]) (fun p => [(0, ⟨.arr, 2, p.2⟩)]) (fun p => l.length - p.1) (fun p => p.1 ≤ l.length ∧ p.2 = (l.take p.1).map Range.enc ++ List.replicate (l.length - p.1) (.agg [.int .i64 0, .int .i64 0])) (0, List.replicate l.length (.agg [.int .i64 0, .int .i64 0])) ⟨Nat.zero_le _, by simp⟩ rfl rfl ?_
  rintro ⟨i, els⟩ ⟨hi, hels⟩ ih
  simp only at hi hels ih
  have hlen : els.length = l.length := by rw [hels]; simp; omega
  rcases Nat.lt_or_ge i l.length with h | h
  · have g1 : (i : Int) < l.length := by omega
    have g2 : (0 : Int) ≤ i := by omega
    have g3 : l[i]? = some l[i] := List.getElem?_eq_getElem h
    have g4 : els[i]? = some (els[i]'(by omega)) := List.getElem?_eq_getElem (by omega)
    have g5 := wrap_succ h (by omega)
    skip
    simp only [g1, g2, g3, g4, g5, hlen, go_sem]
    repeat' ((first | apply qa | apply qb | apply qc | apply qd | apply qe | apply qf | apply qg | apply qh | apply qi | apply qj | apply qk) <;> intro hp <;> simp only [hp, g1, g2, g3, g4, g5, hlen, go_sem])
    refine ih (i + 1, els.set i (.agg [.int .i64 l[i].Lo, .int .i64 l[i].Hi])) ⟨h, ?_⟩ (by simp only; omega)
    simp only
    rw [hels]
    exact fill_step _ h rfl
  · have g1 : ¬ (i : Int) < l.length := by omega
    simp only [g1, go_sem]
    simp only [fin_mk, finV, resL, resV1, resIn, endA, listIn, Option.some_or, Option.none_or, oneOrTup, go_sem]
    rw [← hr, hels, List.take_of_length_le h, show l.length - i = 0 by omega]
    simp
open Classical in
noncomputable def spEqRangeS : VM.Spec := { modes := [.rd, .rd], run := fun | [.lst 2 x', .lst 2 y'] => (decL Range.dec x').bind fun x => (decL Range.dec y').bind fun y => if x.length ≤ 4194304 ∧ y.length ≤ 4194304 then some (.bool (decide (x = y)), []) else none | _ => none, need := [] }
attribute [go_sem] spEqRangeS
theorem spEqRangeS_in {ins : List V} {r : V} {outs : List V} (h : spEqRangeS.run ins = some (r, outs)) : ∃ (x : (List Range)) (y : (List Range)), ins = [.lst 2 ((x).map Range.enc), .lst 2 ((y).map Range.enc)] ∧ (x.length ≤ 4194304 ∧ y.length ≤ 4194304) ∧ .bool (decide (x = y)) = r ∧ outs = [] := by
  unfold spEqRangeS at h
  simp only at h
  split at h
  · rename_i x' y'
    simp only [Option.bind_eq_some_iff] at h
    obtain ⟨x, h_x, y, h_y, h⟩ := h
    split at h
    case isFalse => cases h
    rename_i hc
    simp only [Option.some.injEq, Prod.mk.injEq] at h
    obtain ⟨h1, h2⟩ := h
    have h_x := decL_some (fun _ _ h => Range.dec_some h) h_x
    subst h_x
    have h_y := decL_some (fun _ _ h => Range.dec_some h) h_y
    subst h_y
    exact ⟨x, y, rfl, hc, h1, h2.symm⟩
  · cases h
def T_laws_eqRangeS : Hints := ⟨lk [(6, [])], lk [(4, [0, 1, 5])], lk [(0, [0, 1]), (1, [0, 1, 10]), (2, [4]), (3, [0, 1, 5]), (4, [0, 1, 5, 14]), (6, [0, 1, 5, 26]), (7, [4]), (5, [0, 1, 5]), (8, [4])], lk []⟩
noncomputable def Phi_laws_eqRangeS : Tab := lk [(102, spEqRange)]
attribute [go_sem] T_laws_eqRangeS Phi_laws_eqRangeS
theorem phi_laws_eqRangeS : ∀ f sp, Phi_laws_eqRangeS f = some sp → FnOk Tryz.prog f sp ∧ ∀ n ∈ sp.need, n ∈ ([] : List String) := phi_cons ok_laws_eqRange (n0 rfl) (phi_nil)
theorem ok_laws_eqRangeS : FnOk Tryz.prog 50 spEqRangeS := by
  refine fn_ok (Φ := Phi_laws_eqRangeS) (T := T_laws_eqRangeS) phi_laws_eqRangeS mixed Tryz.func50 rfl rfl rfl (by decide) ?_
  intro ins r outs hr hl
  clear hl
  have hs := spEqRangeS_in hr
  clear hr
  obtain ⟨x, y, rfl, hc, hr, rfl⟩ := hs
  simp only [spEqRangeS, Tryz.f50, Go.VM.initS]
  obtain ⟨hx, hy⟩ := hc
  by_cases hl : x.length = y.length
  case neg =>
    have g : ((x.length : Int) == y.length) = false := by rw [beq_eq_false_iff_ne]; omega
    have g' : ((x.length : Int) != y.length) = true := by rw [bne_iff_ne]; omega
    have hne : x ≠ y := fun e => hl (by rw [e])
    simp only [g, g', go_sem]
    repeat' ((first | ((first | apply qa | apply qb | apply qc | apply qd | apply qe | apply qf | apply qg | apply qh | apply qi | apply qj | apply qk) <;> intro hp) | ((first | refine ql rfl rfl (by decide +kernel) ?_ | refine qm _ rfl rfl (by decide +kernel) ?_) <;> have hp := True.intro)) <;> simp only [hp, g, g', go_sem])
    simp only [fin_mk, finV, resL, resV1, resIn, endA, listIn, Option.some_or, Option.none_or, oneOrTup, go_sem]
    rw [← hr]
    simp only [hne, decide_false]
  have hl' : (x.length : Int) = y.length := by omega
  simp only [hl, bne_self_eq_false, go_sem]
  repeat' ((first | ((first | apply qa | apply qb | apply qc | apply qd | apply qe | apply qf | apply qg | apply qh | apply qi | apply qj | apply qk) <;> intro hp) | ((first | refine ql rfl rfl (by decide +kernel) ?_ | refine qm _ rfl rfl (by decide +kernel) ?_) <;> have hp := True.intro)) <;> simp only [hp, hl, bne_self_eq_false, go_sem])
  refine loop_go (fun i : Nat => [(5, .int .i64 (i : Int))]) (fun _ => []) (fun i => x.length - i) (fun i => i ≤ x.length ∧ x.take i = y.take i) 0 ⟨Nat.zero_le _, by simp⟩ rfl rfl ?_
  intro i ⟨hi, he⟩ ih
  rcases Nat.lt_or_ge i x.length with h | h
  · have g1 : (i : Int) < x.length := by omega
    have g1' : (i : Int) < y.length := by omega
    have g2 : (0 : Int) ≤ i := by omega
    have g3 : x[i]? = some x[i] := List.getElem?_eq_getElem h
    have g4 : y[i]? = some (y[i]'(by omega)) := List.getElem?_eq_getElem (by omega)
    have g5 := wrap_succ h (by omega)
    skip
    by_cases hv : x[i] = (y[i]'(by omega))
    · simp only [g1, g1', g2, g3, g4, g5, hv, go_sem]
      repeat' ((first | ((first | apply qa | apply qb | apply qc | apply qd | apply qe | apply qf | apply qg | apply qh | apply qi | apply qj | apply qk) <;> intro hp) | ((first | refine ql rfl rfl (by decide +kernel) ?_ | refine qm _ rfl rfl (by decide +kernel) ?_) <;> have hp := True.intro)) <;> simp only [hp, g1, g1', g2, g3, g4, g5, hv, go_sem])
      exact ih (i + 1) ⟨h, by rw [List.take_add_one, List.take_add_one, he, g3, g4, hv]⟩ (by omega)
    · have hne : x ≠ y := by rintro rfl; exact hv rfl
      have hv1 : (x[i] == (y[i]'(by omega))) = false := by rw [beq_eq_false_iff_ne]; exact hv
      have hv2 : (x[i] != (y[i]'(by omega))) = true := by rw [bne_iff_ne]; exact hv
      simp only [g1, g1', g2, g3, g4, g5, hv, hv1, hv2, go_sem]
      repeat' ((first | ((first | apply qa | apply qb | apply qc | apply qd | apply qe | apply qf | apply qg | apply qh | apply qi | apply qj | apply qk) <;> intro hp) | ((first | refine ql rfl rfl (by decide +kernel) ?_ | refine qm _ rfl rfl (by decide +kernel) ?_) <;> have hp := True.intro)) <;> simp only [hp, g1, g1', g2, g3, g4, g5, hv, hv1, hv2, go_sem])
      simp only [fin_mk, finV, resL, resV1, resIn, endA, listIn, Option.some_or, Option.none_or, oneOrTup, go_sem]
      rw [← hr]
      simp only [hne, decide_false]
  · have g1 : ¬ (i : Int) < x.length := by omega
    have g1' : ¬ (i : Int) < y.length := by omega
    simp only [g1, g1', go_sem]
    simp only [fin_mk, finV, resL, resV1, resIn, endA, listIn, Option.some_or, Option.none_or, oneOrTup, go_sem]
    rw [← hr]
    rw [List.take_of_length_le h, List.take_of_length_le (by omega)] at he
    simp only [he, decide_true]
open Classical in
noncomputable def spMarkRangeS : VM.Spec := { modes := [.io, .rd], run := fun | [.lst 2 l', .int .i64 k] => (decL Range.dec l').bind fun l => if l.length ≤ 4194304 ∧ 0 ≤ k ∧ k ≤ 1152921504606846976 then some (.int .i64 ((markL meRange l k).2), [.lst 2 (((markL meRange l k).1).map Range.enc)]) else none | _ => none, need := [] }
attribute [go_sem] spMarkRangeS
theorem spMarkRangeS_in {ins : List V} {r : V} {outs : List V} (h : spMarkRangeS.run ins = some (r, outs)) : ∃ (l : (List Range)) (k : Int), ins = [.lst 2 ((l).map Range.enc), .int .i64 k] ∧ (l.length ≤ 4194304 ∧ 0 ≤ k ∧ k ≤ 1152921504606846976) ∧ .int .i64 ((markL meRange l k).2) = r ∧ outs = [.lst 2 (((markL meRange l k).1).map Range.enc)] := by
  unfold spMarkRangeS at h
  simp only at h
  split at h
  · rename_i l' k
    simp only [Option.bind_eq_some_iff] at h
    obtain ⟨l, h_l, h⟩ := h
    split at h
    case isFalse => cases h
    rename_i hc
    simp only [Option.some.injEq, Prod.mk.injEq] at h
    obtain ⟨h1, h2⟩ := h
    have h_l := decL_some (fun _ _ h => Range.dec_some h) h_l
    subst h_l
    exact ⟨l, k, rfl, hc, h1, h2.symm⟩
  · cases h
def T_laws_markRangeS : Hints := ⟨lk [], lk [(2, [0, 1, 5])], lk [(0, [0, 1]), (1, [0, 1, 5]), (2, [0, 1, 5, 9]), (4, [0, 1, 5]), (5, [0, 1, 5]), (6, [0, 1, 5]), (7, [0, 1, 5]), (3, [0, 1, 5]), (8, [4])], lk []⟩
noncomputable def Phi_laws_markRangeS : Tab := lk []
attribute [go_sem] T_laws_markRangeS Phi_laws_markRangeS
theorem phi_laws_markRangeS : ∀ f sp, Phi_laws_markRangeS f = some sp → FnOk Tryz.prog f sp ∧ ∀ n ∈ sp.need, n ∈ ([] : List String) := phi_nil
theorem ok_laws_markRangeS : FnOk Tryz.prog 52 spMarkRangeS := by
  refine fn_ok (Φ := Phi_laws_markRangeS) (T := T_laws_markRangeS) phi_laws_markRangeS mixed Tryz.func52 rfl rfl rfl (by decide) ?_
  intro ins r outs hr hl
  clear hl
  have hs := spMarkRangeS_in hr
  clear hr
  obtain ⟨l, k, rfl, hc, hr, rfl⟩ := hs
  simp only [spMarkRangeS, Tryz.f52, Go.VM.initS]
  obtain ⟨hc, h0, h1⟩ := hc
  simp only [go_sem]
  refine loop_go (fun p : Nat × List V × Int => [(1, .int .i64 p.2.2), (5, .int .i64 (p.1 : Int))]) (fun p => [(0, ⟨.arr, 2, p.2.1⟩)]) (fun p => l.length - p.1) (fun p => p.1 ≤ l.length ∧ p.2.1 = ((markL meRange (l.take p.1) k).1 ++ l.drop p.1).map Range.enc ∧ p.2.2 = (markL meRange (l.take p.1) k).2 ∧ p.2.2 = k + (2 : Nat) * p.1) (0, l.map Range.enc, k) ⟨Nat.zero_le _, by simp [markL], rfl, by simp⟩ rfl rfl ?_
  rintro ⟨i, els, k'⟩ ⟨hi, he, hk, hb⟩ ih
  simp only at hi he hk hb ih
  rcases Nat.lt_or_ge i l.length with h | h
  · have g1 : (i : Int) < l.length := by omega
    have g2 : (0 : Int) ≤ i := by omega
    obtain ⟨g3, gl, gs, gk⟩ := mark_round h he
    rw [← hk] at gs gk
    have g5 := wrap_succ h (by omega)
    have j0 : k' ≤ 4611686018427387904 := by omega
    have w0 : IntKind.i64.wrap (k' + 1) = k' + 1 := wrap64 (by omega) (by omega)
    have w1 : IntKind.i64.wrap (k' + 1 + 1) = k' + 1 + 1 := wrap64 (by omega) (by omega)
    have j1 : k' + 1 ≤ 4611686018427387904 := by omega
    have j2 : k' + 1 + 1 ≤ 4611686018427387904 := by omega
    rw [Range.enc] at g3
    have gi : i < els.length := by omega
    simp only [g1, g2, g3, gl, g5, h, w0, w1, j0, j1, j2, List.getElem?_set_self, List.length_set, List.set_set, go_sem]
    repeat' ((first | apply qa | apply qb | apply qc | apply qd | apply qe | apply qf | apply qg | apply qh | apply qi | apply qj | apply qk) <;> intro hp <;> simp only [hp, g1, g2, g3, gl, g5, h, w0, w1, j0, j1, j2, List.getElem?_set_self, List.length_set, List.set_set, go_sem])
    refine ih (i + 1, els.set i (Range.enc (meRange l[i] k').1), (meRange l[i] k').2) ⟨h, gs, gk, by simp only [meRange]; omega⟩ (by simp only; omega)
  · have g1 : ¬ (i : Int) < l.length := by omega
    have gl : els.length = l.length := by rw [he]; simp [markL_len]; omega
    simp only [g1, gl, go_sem]
    simp only [fin_mk, finV, resL, resV1, resIn, endA, listIn, Option.some_or, Option.none_or, oneOrTup, go_sem]
    rw [← hr, he, hk, List.take_of_length_le h, List.drop_of_length_le h, List.append_nil]
open Classical in
noncomputable def spSzEdit : VM.Spec := { modes := [.rd, .rd], run := fun | [x', .int .i64 n] => (Edit.dec x').bind fun x => if x.le 4611686018427387904 ∧ 0 ≤ n ∧ n ≤ 4611686018427387904 then some (.int .i64 (Edit.sz x n), []) else none | _ => none, need := [] }
attribute [go_sem] spSzEdit
theorem spSzEdit_in {ins : List V} {r : V} {outs : List V} (h : spSzEdit.run ins = some (r, outs)) : ∃ (x : Edit) (n : Int), ins = [Edit.enc x, .int .i64 n] ∧ (x.le 4611686018427387904 ∧ 0 ≤ n ∧ n ≤ 4611686018427387904) ∧ .int .i64 (Edit.sz x n) = r ∧ outs = [] := by
  unfold spSzEdit at h
  simp only at h
  split at h
  · rename_i x' n
    simp only [Option.bind_eq_some_iff] at h
    obtain ⟨x, h_x, h⟩ := h
    split at h
    case isFalse => cases h
    rename_i hc
    simp only [Option.some.injEq, Prod.mk.injEq] at h
    obtain ⟨h1, h2⟩ := h
    have h_x := Edit.dec_some h_x
    subst h_x
    exact ⟨x, n, rfl, hc, h1, h2.symm⟩
  · cases h
def T_laws_szEdit : Hints := ⟨lk [], lk [], lk [(0, [1, 2]), (1, [1, 2]), (2, [1, 2, 11]), (3, [4]), (4, [1, 2]), (5, [1, 2, 18]), (6, [4]), (7, [1, 2]), (8, [1, 2, 24]), (9, [4]), (10, [1]), (11, [1, 31]), (12, [4]), (13, [4])], lk []⟩
noncomputable def Phi_laws_szEdit : Tab := lk [(37, spSzRangeS)]
attribute [go_sem] T_laws_szEdit Phi_laws_szEdit
theorem phi_laws_szEdit : ∀ f sp, Phi_laws_szEdit f = some sp → FnOk Tryz.prog f sp ∧ ∀ n ∈ sp.need, n ∈ ([] : List String) := phi_cons ok_laws_szRangeS (n0 rfl) (phi_nil)
theorem ok_laws_szEdit : FnOk Tryz.prog 12 spSzEdit := by
  refine fn_ok (Φ := Phi_laws_szEdit) (T := T_laws_szEdit) phi_laws_szEdit mixed Tryz.func12 rfl rfl rfl (by decide) ?_
  intro ins r outs hr hl
  clear hl
  have hs := spSzEdit_in hr
  clear hr
  obtain ⟨x, n, rfl, hc, hr, rfl⟩ := hs
  simp only [spSzEdit, Tryz.f12, Go.VM.initS]
  obtain ⟨hc, h0, h1⟩ := hc
  obtain ⟨c0, c1, c2, c3⟩ := hc
  have c0 : x.Box.length ≤ 4611686018427387904 := c0
  have w0 : IntKind.i64.wrap (n - (x.Box.length : Int)) = (n - (x.Box.length : Int)) := wrap64 (by omega) (by omega)
  by_cases b0 : (n - (x.Box.length : Int)) < 0
  · simp only [w0, b0, go_sem]
    repeat' ((first | apply qa | apply qb | apply qc | apply qd | apply qe | apply qf | apply qg | apply qh | apply qi | apply qj | apply qk) <;> intro hp <;> simp only [hp, w0, b0, go_sem])
    simp only [fin_mk, finV, resL, resV1, resIn, endA, listIn, Option.some_or, Option.none_or, oneOrTup, go_sem]
    rw [← hr]
    simp only [Edit.sz, thenSz, subSz, b0, if_true, if_false, Int.reduceNeg, Int.reduceLT]
  have a0 : 0 ≤ (n - (x.Box.length : Int)) := by omega
  have d0 : (n - (x.Box.length : Int)) ≤ 4611686018427387904 := by omega
  have c1 : x.To.length ≤ 4611686018427387904 := c1
  have w1 : IntKind.i64.wrap ((n - (x.Box.length : Int)) - (x.To.length : Int)) = ((n - (x.Box.length : Int)) - (x.To.length : Int)) := wrap64 (by omega) (by omega)
  by_cases b1 : ((n - (x.Box.length : Int)) - (x.To.length : Int)) < 0
  · simp only [w0, b0, w1, b1, go_sem]
    repeat' ((first | apply qa | apply qb | apply qc | apply qd | apply qe | apply qf | apply qg | apply qh | apply qi | apply qj | apply qk) <;> intro hp <;> simp only [hp, w0, b0, w1, b1, go_sem])
    simp only [fin_mk, finV, resL, resV1, resIn, endA, listIn, Option.some_or, Option.none_or, oneOrTup, go_sem]
    rw [← hr]
    simp only [Edit.sz, thenSz, subSz, b0, b1, if_true, if_false, Int.reduceNeg, Int.reduceLT]
  have a1 : 0 ≤ ((n - (x.Box.length : Int)) - (x.To.length : Int)) := by omega
  have d1 : ((n - (x.Box.length : Int)) - (x.To.length : Int)) ≤ 4611686018427387904 := by omega
  have c2 : x.Set.length ≤ 4611686018427387904 := c2.1
  rcases (szF_ok (p := Range.le) (fun b x => trivial)) x.Set ((n - (x.Box.length : Int)) - (x.To.length : Int)) 4611686018427387904 a1 d1 with e | ⟨a2, d2, -⟩
  · simp only [w0, b0, w1, b1, c2, a1, d1, e, go_sem]
    repeat' ((first | apply qa | apply qb | apply qc | apply qd | apply qe | apply qf | apply qg | apply qh | apply qi | apply qj | apply qk) <;> intro hp <;> simp only [hp, w0, b0, w1, b1, c2, a1, d1, e, go_sem])
    simp only [fin_mk, finV, resL, resV1, resIn, endA, listIn, Option.some_or, Option.none_or, oneOrTup, go_sem]
    rw [← hr]
    simp only [Edit.sz, thenSz, subSz, b0, b1, e, if_true, if_false, Int.reduceNeg, Int.reduceLT]
  have b2 : ¬ (szF x.Set ((n - (x.Box.length : Int)) - (x.To.length : Int))) < 0 := Int.not_lt.2 a2
  have d2 : (szF x.Set ((n - (x.Box.length : Int)) - (x.To.length : Int))) ≤ 4611686018427387904 := Int.le_trans d2 d1
  have c3 : x.Text.length ≤ 4611686018427387904 := c3
  have w3 : IntKind.i64.wrap ((szF x.Set ((n - (x.Box.length : Int)) - (x.To.length : Int))) - (x.Text.length : Int)) = ((szF x.Set ((n - (x.Box.length : Int)) - (x.To.length : Int))) - (x.Text.length : Int)) := wrap64 (by omega) (by omega)
  by_cases b3 : ((szF x.Set ((n - (x.Box.length : Int)) - (x.To.length : Int))) - (x.Text.length : Int)) < 0
  · simp only [w0, b0, w1, b1, c2, a1, d1, b2, w3, b3, go_sem]
    repeat' ((first | apply qa | apply qb | apply qc | apply qd | apply qe | apply qf | apply qg | apply qh | apply qi | apply qj | apply qk) <;> intro hp <;> simp only [hp, w0, b0, w1, b1, c2, a1, d1, b2, w3, b3, go_sem])
    simp only [fin_mk, finV, resL, resV1, resIn, endA, listIn, Option.some_or, Option.none_or, oneOrTup, go_sem]
    rw [← hr]
    simp only [Edit.sz, thenSz, subSz, b0, b1, b2, b3, if_true, if_false, Int.reduceNeg, Int.reduceLT]
  have a3 : 0 ≤ ((szF x.Set ((n - (x.Box.length : Int)) - (x.To.length : Int))) - (x.Text.length : Int)) := by omega
  have d3 : ((szF x.Set ((n - (x.Box.length : Int)) - (x.To.length : Int))) - (x.Text.length : Int)) ≤ 4611686018427387904 := by omega
  simp only [w0, b0, w1, b1, c2, a1, d1, b2, w3, b3, go_sem]
  repeat' ((first | apply qa | apply qb | apply qc | apply qd | apply qe | apply qf | apply qg | apply qh | apply qi | apply qj | apply qk) <;> intro hp <;> simp only [hp, w0, b0, w1, b1, c2, a1, d1, b2, w3, b3, go_sem])
  simp only [fin_mk, finV, resL, resV1, resIn, endA, listIn, Option.some_or, Option.none_or, oneOrTup, go_sem]
  rw [← hr]
  simp only [Edit.sz, thenSz, subSz, b0, b1, b2, b3, if_true, if_false]
open Classical in
noncomputable def spToEdit : VM.Spec := { modes := [.rd], run := fun | [x'] => (Edit.dec x').bind fun x => if x.le 4194304 then some (Edit.enc x, []) else none | _ => none, need := [] }
attribute [go_sem] spToEdit
theorem spToEdit_in {ins : List V} {r : V} {outs : List V} (h : spToEdit.run ins = some (r, outs)) : ∃ (x : Edit), ins = [Edit.enc x] ∧ (x.le 4194304) ∧ Edit.enc x = r ∧ outs = [] := by
  unfold spToEdit at h
  simp only at h
  split at h
  · rename_i x'
    simp only [Option.bind_eq_some_iff] at h
    obtain ⟨x, h_x, h⟩ := h
    split at h
    case isFalse => cases h
    rename_i hc
    simp only [Option.some.injEq, Prod.mk.injEq] at h
    obtain ⟨h1, h2⟩ := h
    have h_x := Edit.dec_some h_x
    subst h_x
    exact ⟨x, rfl, hc, h1, h2.symm⟩
  · cases h
def T_laws_toEdit : Hints := ⟨lk [], lk [], lk [(0, [1, 2]), (1, [1, 2, 3]), (2, [1, 2, 3]), (3, [1, 2, 3]), (4, [1, 2, 3]), (5, [1, 2, 3]), (6, [1, 2, 3]), (7, [1, 2, 3]), (8, [1, 2, 3]), (9, [2, 3]), (10, [2])], lk []⟩
noncomputable def Phi_laws_toEdit : Tab := lk [(48, spToRangeS)]
attribute [go_sem] T_laws_toEdit Phi_laws_toEdit
theorem phi_laws_toEdit : ∀ f sp, Phi_laws_toEdit f = some sp → FnOk Tryz.prog f sp ∧ ∀ n ∈ sp.need, n ∈ ([] : List String) := phi_cons ok_laws_toRangeS (n0 rfl) (phi_nil)
theorem ok_laws_toEdit : FnOk Tryz.prog 15 spToEdit := by
  refine fn_ok (Φ := Phi_laws_toEdit) (T := T_laws_toEdit) phi_laws_toEdit mixed Tryz.func15 rfl rfl rfl (by decide) ?_
  intro ins r outs hr hl
  clear hl
  have hs := spToEdit_in hr
  clear hr
  obtain ⟨x, rfl, hc, hr, rfl⟩ := hs
  simp only [spToEdit, Tryz.f15, Go.VM.initS]
  have c2 : x.Set.length ≤ 4194304 := hc.2.2.1.1
  simp only [c2, go_sem]
  repeat' ((first | apply qa | apply qb | apply qc | apply qd | apply qe | apply qf | apply qg | apply qh | apply qi | apply qj | apply qk) <;> intro hp <;> simp only [hp, c2, go_sem])
  simp only [fin_mk, finV, resL, resV1, resIn, endA, listIn, Option.some_or, Option.none_or, oneOrTup, go_sem]
  rw [← hr]
  rfl
open Classical in
noncomputable def spEqEdit : VM.Spec := { modes := [.rd, .rd], run := fun | [x', y'] => (Edit.dec x').bind fun x => (Edit.dec y').bind fun y => if x.le 4194304 ∧ y.le 4194304 then some (.bool (decide (x = y)), []) else none | _ => none, need := [] }
attribute [go_sem] spEqEdit
theorem spEqEdit_in {ins : List V} {r : V} {outs : List V} (h : spEqEdit.run ins = some (r, outs)) : ∃ (x : Edit) (y : Edit), ins = [Edit.enc x, Edit.enc y] ∧ (x.le 4194304 ∧ y.le 4194304) ∧ .bool (decide (x = y)) = r ∧ outs = [] := by
  unfold spEqEdit at h
  simp only at h
  split at h
  · rename_i x' y'
    simp only [Option.bind_eq_some_iff] at h
    obtain ⟨x, h_x, y, h_y, h⟩ := h
    split at h
    case isFalse => cases h
    rename_i hc
    simp only [Option.some.injEq, Prod.mk.injEq] at h
    obtain ⟨h1, h2⟩ := h
    have h_x := Edit.dec_some h_x
    subst h_x
    have h_y := Edit.dec_some h_y
    subst h_y
    exact ⟨x, y, rfl, hc, h1, h2.symm⟩
  · cases h
def T_laws_eqEdit : Hints := ⟨lk [], lk [], lk [(0, [2, 3]), (1, [2, 3, 9]), (2, [4]), (3, [2, 3, 14]), (4, [4]), (5, [2, 3, 19]), (6, [4]), (7, [2, 3, 25]), (8, [4]), (9, [2, 3, 30]), (10, [4]), (11, [2, 3, 35]), (12, [4]), (13, [2, 3, 40]), (14, [4]), (15, [45]), (16, [4]), (17, [4])], lk []⟩
noncomputable def Phi_laws_eqEdit : Tab := lk [(50, spEqRangeS)]
attribute [go_sem] T_laws_eqEdit Phi_laws_eqEdit
theorem phi_laws_eqEdit : ∀ f sp, Phi_laws_eqEdit f = some sp → FnOk Tryz.prog f sp ∧ ∀ n ∈ sp.need, n ∈ ([] : List String) := phi_cons ok_laws_eqRangeS (n0 rfl) (phi_nil)
theorem ok_laws_eqEdit : FnOk Tryz.prog 17 spEqEdit := by
  refine fn_ok (Φ := Phi_laws_eqEdit) (T := T_laws_eqEdit) phi_laws_eqEdit mixed Tryz.func17 rfl rfl rfl (by decide) ?_
  intro ins r outs hr hl
  clear hl
  have hs := spEqEdit_in hr
  clear hr
  obtain ⟨x, y, rfl, hc, hr, rfl⟩ := hs
  simp only [spEqEdit, Tryz.f17, Go.VM.initS]
  have c2 : x.Set.length ≤ 4194304 := hc.1.2.2.1.1
  have d2 : y.Set.length ≤ 4194304 := hc.2.2.2.1.1
  simp only [c2, d2, and_self, go_sem]
  repeat' ((first | apply qa | apply qb | apply qc | apply qd | apply qe | apply qf | apply qg | apply qh | apply qi | apply qj | apply qk) <;> intro hp <;> simp only [hp, c2, d2, and_self, go_sem])
  all_goals (simp only [fin_mk, finV, resL, resV1, resIn, endA, listIn, Option.some_or, Option.none_or, oneOrTup, go_sem]; rw [← hr])
  all_goals (cases x; cases y; simp_all)
open Classical in
noncomputable def spMarkEdit : VM.Spec := { modes := [.io, .rd], run := fun | [x', .int .i64 k] => (Edit.dec x').bind fun x => if (x.Set.length ≤ 4194304) ∧ 0 ≤ k ∧ k ≤ 288230376151711744 then some (.int .i64 ((msEdit x k).2), [Edit.enc ((msEdit x k).1)]) else none | _ => none, need := [] }
attribute [go_sem] spMarkEdit
theorem spMarkEdit_in {ins : List V} {r : V} {outs : List V} (h : spMarkEdit.run ins = some (r, outs)) : ∃ (x : Edit) (k : Int), ins = [Edit.enc x, .int .i64 k] ∧ ((x.Set.length ≤ 4194304) ∧ 0 ≤ k ∧ k ≤ 288230376151711744) ∧ .int .i64 ((msEdit x k).2) = r ∧ outs = [Edit.enc ((msEdit x k).1)] := by
  unfold spMarkEdit at h
  simp only at h
  split at h
  · rename_i x' k
    simp only [Option.bind_eq_some_iff] at h
    obtain ⟨x, h_x, h⟩ := h
    split at h
    case isFalse => cases h
    rename_i hc
    simp only [Option.some.injEq, Prod.mk.injEq] at h
    obtain ⟨h1, h2⟩ := h
    have h_x := Edit.dec_some h_x
    subst h_x
    exact ⟨x, k, rfl, hc, h1, h2.symm⟩
  · cases h
def T_laws_markEdit : Hints := ⟨lk [], lk [], lk [(0, [1, 2]), (1, [1]), (2, [4])], lk []⟩
noncomputable def Phi_laws_markEdit : Tab := lk [(52, spMarkRangeS)]
attribute [go_sem] T_laws_markEdit Phi_laws_markEdit
theorem phi_laws_markEdit : ∀ f sp, Phi_laws_markEdit f = some sp → FnOk Tryz.prog f sp ∧ ∀ n ∈ sp.need, n ∈ ([] : List String) := phi_cons ok_laws_markRangeS (n0 rfl) (phi_nil)
theorem ok_laws_markEdit : FnOk Tryz.prog 19 spMarkEdit := by
  refine fn_ok (Φ := Phi_laws_markEdit) (T := T_laws_markEdit) phi_laws_markEdit mixed Tryz.func19 rfl rfl rfl (by decide) ?_
  intro ins r outs hr hl
  clear hl
  have hs := spMarkEdit_in hr
  clear hr
  obtain ⟨x, k, rfl, hc, hr, rfl⟩ := hs
  simp only [spMarkEdit, Tryz.f19, Go.VM.initS]
  obtain ⟨hc, h0, h1⟩ := hc
  have c0 := hc
  have i0 : k ≤ 1152921504606846976 := by omega
  simp only [c0, h0, i0, go_sem]
  repeat' ((first | apply qa | apply qb | apply qc | apply qd | apply qe | apply qf | apply qg | apply qh | apply qi | apply qj | apply qk) <;> intro hp <;> simp only [hp, c0, h0, i0, go_sem])
  simp only [fin_mk, finV, resL, resV1, resIn, endA, listIn, Option.some_or, Option.none_or, oneOrTup, go_sem]
  rw [← hr]
  simp only [msEdit]
open Classical in
noncomputable def spSzBox : VM.Spec := { modes := [.rd, .rd], run := fun | [x', .int .i64 n] => (Box.dec x').bind fun x => if x.le 4611686018427387904 ∧ 0 ≤ n ∧ n ≤ 4611686018427387904 then some (.int .i64 (Box.sz x n), []) else none | _ => none, need := [] }
attribute [go_sem] spSzBox
theorem spSzBox_in {ins : List V} {r : V} {outs : List V} (h : spSzBox.run ins = some (r, outs)) : ∃ (x : Box) (n : Int), ins = [Box.enc x, .int .i64 n] ∧ (x.le 4611686018427387904 ∧ 0 ≤ n ∧ n ≤ 4611686018427387904) ∧ .int .i64 (Box.sz x n) = r ∧ outs = [] := by
  unfold spSzBox at h
  simp only at h
  split at h
  · rename_i x' n
    simp only [Option.bind_eq_some_iff] at h
    obtain ⟨x, h_x, h⟩ := h
    split at h
    case isFalse => cases h
    rename_i hc
    simp only [Option.some.injEq, Prod.mk.injEq] at h
    obtain ⟨h1, h2⟩ := h
    have h_x := Box.dec_some h_x
    subst h_x
    exact ⟨x, n, rfl, hc, h1, h2.symm⟩
  · cases h
def T_laws_szBox : Hints := ⟨lk [], lk [], lk [(0, [1, 2]), (1, [1, 2]), (2, [1, 2, 11]), (3, [4]), (4, [1, 2]), (5, [1, 2, 17]), (6, [4]), (7, [1]), (8, [1, 23]), (9, [4]), (10, [4])], lk []⟩
noncomputable def Phi_laws_szBox : Tab := lk [(125, spSzMailS), (126, spSzTombS)]
attribute [go_sem] T_laws_szBox Phi_laws_szBox
theorem phi_laws_szBox : ∀ f sp, Phi_laws_szBox f = some sp → FnOk Tryz.prog f sp ∧ ∀ n ∈ sp.need, n ∈ ([] : List String) := phi_cons ok_laws_szMailS (n0 rfl) (phi_cons ok_laws_szTombS (n0 rfl) (phi_nil))
theorem ok_laws_szBox : FnOk Tryz.prog 82 spSzBox := by
  refine fn_ok (Φ := Phi_laws_szBox) (T := T_laws_szBox) phi_laws_szBox mixed Tryz.func82 rfl rfl rfl (by decide) ?_
  intro ins r outs hr hl
  clear hl
  have hs := spSzBox_in hr
  clear hr
  obtain ⟨x, n, rfl, hc, hr, rfl⟩ := hs
  simp only [spSzBox, Tryz.f82, Go.VM.initS]
  obtain ⟨hc, h0, h1⟩ := hc
  obtain ⟨c0, c1, c2⟩ := hc
  have c0 : x.Name.length ≤ 4611686018427387904 := c0
  have w0 : IntKind.i64.wrap (n - (x.Name.length : Int)) = (n - (x.Name.length : Int)) := wrap64 (by omega) (by omega)
  by_cases b0 : (n - (x.Name.length : Int)) < 0
  · simp only [w0, b0, go_sem]
    repeat' ((first | apply qa | apply qb | apply qc | apply qd | apply qe | apply qf | apply qg | apply qh | apply qi | apply qj | apply qk) <;> intro hp <;> simp only [hp, w0, b0, go_sem])
    simp only [fin_mk, finV, resL, resV1, resIn, endA, listIn, Option.some_or, Option.none_or, oneOrTup, go_sem]
    rw [← hr]
    simp only [Box.sz, thenSz, subSz, b0, if_true, if_false, Int.reduceNeg, Int.reduceLT]
  have a0 : 0 ≤ (n - (x.Name.length : Int)) := by omega
  have d0 : (n - (x.Name.length : Int)) ≤ 4611686018427387904 := by omega
  have c1 : leL Mail.le 4611686018427387904 x.Mails := c1
  rcases (szLL_ok Mail.sz_ok) x.Mails (n - (x.Name.length : Int)) 4611686018427387904 a0 d0 with e | ⟨a1, d1, -⟩
  · simp only [w0, b0, c1, a0, d0, e, go_sem]
    repeat' ((first | apply qa | apply qb | apply qc | apply qd | apply qe | apply qf | apply qg | apply qh | apply qi | apply qj | apply qk) <;> intro hp <;> simp only [hp, w0, b0, c1, a0, d0, e, go_sem])
    simp only [fin_mk, finV, resL, resV1, resIn, endA, listIn, Option.some_or, Option.none_or, oneOrTup, go_sem]
    rw [← hr]
    simp only [Box.sz, thenSz, subSz, b0, e, if_true, if_false, Int.reduceNeg, Int.reduceLT]
  have b1 : ¬ ((szLL Mail.sz) x.Mails (n - (x.Name.length : Int))) < 0 := Int.not_lt.2 a1
  have d1 : ((szLL Mail.sz) x.Mails (n - (x.Name.length : Int))) ≤ 4611686018427387904 := Int.le_trans d1 d0
  have c2 : x.Tombs.length ≤ 4611686018427387904 := c2.1
  rcases (szF_ok (p := Tomb.le) (fun b x => trivial)) x.Tombs ((szLL Mail.sz) x.Mails (n - (x.Name.length : Int))) 4611686018427387904 a1 d1 with e | ⟨a2, d2, -⟩
  · simp only [w0, b0, c1, a0, d0, b1, c2, a1, d1, e, go_sem]
    repeat' ((first | apply qa | apply qb | apply qc | apply qd | apply qe | apply qf | apply qg | apply qh | apply qi | apply qj | apply qk) <;> intro hp <;> simp only [hp, w0, b0, c1, a0, d0, b1, c2, a1, d1, e, go_sem])
    simp only [fin_mk, finV, resL, resV1, resIn, endA, listIn, Option.some_or, Option.none_or, oneOrTup, go_sem]
    rw [← hr]
    simp only [Box.sz, thenSz, subSz, b0, b1, e, if_true, if_false, Int.reduceNeg, Int.reduceLT]
  have b2 : ¬ (szF x.Tombs ((szLL Mail.sz) x.Mails (n - (x.Name.length : Int)))) < 0 := Int.not_lt.2 a2
  have d2 : (szF x.Tombs ((szLL Mail.sz) x.Mails (n - (x.Name.length : Int)))) ≤ 4611686018427387904 := Int.le_trans d2 d1
  simp only [w0, b0, c1, a0, d0, b1, c2, a1, d1, b2, go_sem]
  repeat' ((first | apply qa | apply qb | apply qc | apply qd | apply qe | apply qf | apply qg | apply qh | apply qi | apply qj | apply qk) <;> intro hp <;> simp only [hp, w0, b0, c1, a0, d0, b1, c2, a1, d1, b2, go_sem])
  simp only [fin_mk, finV, resL, resV1, resIn, endA, listIn, Option.some_or, Option.none_or, oneOrTup, go_sem]
  rw [← hr]
  simp only [Box.sz, thenSz, subSz, b0, b1, b2, if_true, if_false]
open Classical in
noncomputable def spToBox : VM.Spec := { modes := [.rd], run := fun | [x'] => (Box.dec x').bind fun x => if x.le 4194304 then some (Box.enc x, []) else none | _ => none, need := [] }
attribute [go_sem] spToBox
theorem spToBox_in {ins : List V} {r : V} {outs : List V} (h : spToBox.run ins = some (r, outs)) : ∃ (x : Box), ins = [Box.enc x] ∧ (x.le 4194304) ∧ Box.enc x = r ∧ outs = [] := by
  unfold spToBox at h
  simp only at h
  split at h
  · rename_i x'
    simp only [Option.bind_eq_some_iff] at h
    obtain ⟨x, h_x, h⟩ := h
    split at h
    case isFalse => cases h
    rename_i hc
    simp only [Option.some.injEq, Prod.mk.injEq] at h
    obtain ⟨h1, h2⟩ := h
    have h_x := Box.dec_some h_x
    subst h_x
    exact ⟨x, rfl, hc, h1, h2.symm⟩
  · cases h
def T_laws_toBox : Hints := ⟨lk [], lk [], lk [(0, [1, 2]), (1, [1, 2, 3]), (2, [1, 2, 3]), (3, [1, 2, 3]), (4, [1, 2, 3]), (5, [1, 2, 3]), (6, [1, 2, 3]), (7, [1, 2, 3]), (8, [2, 3]), (9, [2])], lk []⟩
noncomputable def Phi_laws_toBox : Tab := lk [(130, spToMailS), (131, spToTombS)]
attribute [go_sem] T_laws_toBox Phi_laws_toBox
theorem phi_laws_toBox : ∀ f sp, Phi_laws_toBox f = some sp → FnOk Tryz.prog f sp ∧ ∀ n ∈ sp.need, n ∈ ([] : List String) := phi_cons ok_laws_toMailS (n0 rfl) (phi_cons ok_laws_toTombS (n0 rfl) (phi_nil))
theorem ok_laws_toBox : FnOk Tryz.prog 99 spToBox := by
  refine fn_ok (Φ := Phi_laws_toBox) (T := T_laws_toBox) phi_laws_toBox mixed Tryz.func99 rfl rfl rfl (by decide) ?_
  intro ins r outs hr hl
  clear hl
  have hs := spToBox_in hr
  clear hr
  obtain ⟨x, rfl, hc, hr, rfl⟩ := hs
  simp only [spToBox, Tryz.f99, Go.VM.initS]
  have c1 : x.Mails.length ≤ 4194304 := hc.2.1.1
  have c2 : x.Tombs.length ≤ 4194304 := hc.2.2.1
  simp only [c1, c2, go_sem]
  repeat' ((first | apply qa | apply qb | apply qc | apply qd | apply qe | apply qf | apply qg | apply qh | apply qi | apply qj | apply qk) <;> intro hp <;> simp only [hp, c1, c2, go_sem])
  simp only [fin_mk, finV, resL, resV1, resIn, endA, listIn, Option.some_or, Option.none_or, oneOrTup, go_sem]
  rw [← hr]
  rfl
open Classical in
noncomputable def spEqBox : VM.Spec := { modes := [.rd, .rd], run := fun | [x', y'] => (Box.dec x').bind fun x => (Box.dec y').bind fun y => if x.le 4194304 ∧ y.le 4194304 then some (.bool (decide (x = y)), []) else none | _ => none, need := [] }
attribute [go_sem] spEqBox
theorem spEqBox_in {ins : List V} {r : V} {outs : List V} (h : spEqBox.run ins = some (r, outs)) : ∃ (x : Box) (y : Box), ins = [Box.enc x, Box.enc y] ∧ (x.le 4194304 ∧ y.le 4194304) ∧ .bool (decide (x = y)) = r ∧ outs = [] := by
  unfold spEqBox at h
  simp only at h
  split at h
  · rename_i x' y'
    simp only [Option.bind_eq_some_iff] at h
    obtain ⟨x, h_x, y, h_y, h⟩ := h
    split at h
    case isFalse => cases h
    rename_i hc
    simp only [Option.some.injEq, Prod.mk.injEq] at h
    obtain ⟨h1, h2⟩ := h
    have h_x := Box.dec_some h_x
    subst h_x
    have h_y := Box.dec_some h_y
    subst h_y
    exact ⟨x, y, rfl, hc, h1, h2.symm⟩
  · cases h
def T_laws_eqBox : Hints := ⟨lk [], lk [], lk [(0, [2, 3]), (1, [2, 3, 9]), (2, [4]), (3, [2, 3, 14]), (4, [4]), (5, [2, 3, 19]), (6, [4]), (7, [2, 3, 24]), (8, [4]), (9, [2, 3, 30]), (10, [4]), (11, [2, 3, 36]), (12, [4]), (13, [41]), (14, [4]), (15, [4])], lk []⟩
noncomputable def Phi_laws_eqBox : Tab := lk [(132, spEqMailS), (133, spEqTombS)]
attribute [go_sem] T_laws_eqBox Phi_laws_eqBox
theorem phi_laws_eqBox : ∀ f sp, Phi_laws_eqBox f = some sp → FnOk Tryz.prog f sp ∧ ∀ n ∈ sp.need, n ∈ ([] : List String) := phi_cons ok_laws_eqMailS (n0 rfl) (phi_cons ok_laws_eqTombS (n0 rfl) (phi_nil))
theorem ok_laws_eqBox : FnOk Tryz.prog 101 spEqBox := by
  refine fn_ok (Φ := Phi_laws_eqBox) (T := T_laws_eqBox) phi_laws_eqBox mixed Tryz.func101 rfl rfl rfl (by decide) ?_
  intro ins r outs hr hl
  clear hl
  have hs := spEqBox_in hr
  clear hr
  obtain ⟨x, y, rfl, hc, hr, rfl⟩ := hs
  simp only [spEqBox, Tryz.f101, Go.VM.initS]
  have c1 : x.Mails.length ≤ 4194304 := hc.1.2.1.1
  have c2 : x.Tombs.length ≤ 4194304 := hc.1.2.2.1
  have d1 : y.Mails.length ≤ 4194304 := hc.2.2.1.1
  have d2 : y.Tombs.length ≤ 4194304 := hc.2.2.2.1
  simp only [c1, c2, d1, d2, and_self, go_sem]
  repeat' ((first | apply qa | apply qb | apply qc | apply qd | apply qe | apply qf | apply qg | apply qh | apply qi | apply qj | apply qk) <;> intro hp <;> simp only [hp, c1, c2, d1, d2, and_self, go_sem])
  all_goals (simp only [fin_mk, finV, resL, resV1, resIn, endA, listIn, Option.some_or, Option.none_or, oneOrTup, go_sem]; rw [← hr])
  all_goals (cases x; cases y; simp_all)
open Classical in
noncomputable def spSzBoxS : VM.Spec := { modes := [.rd, .rd], run := fun | [.lst 7 l', .int .i64 n] => (decL Box.dec l').bind fun l => if leL Box.le 4611686018427387904 l ∧ 0 ≤ n ∧ n ≤ 4611686018427387904 then some (.int .i64 (szLL Box.sz l n), []) else none | _ => none, need := [] }
attribute [go_sem] spSzBoxS
theorem spSzBoxS_in {ins : List V} {r : V} {outs : List V} (h : spSzBoxS.run ins = some (r, outs)) : ∃ (l : (List Box)) (n : Int), ins = [.lst 7 ((l).map Box.enc), .int .i64 n] ∧ (leL Box.le 4611686018427387904 l ∧ 0 ≤ n ∧ n ≤ 4611686018427387904) ∧ .int .i64 (szLL Box.sz l n) = r ∧ outs = [] := by
  unfold spSzBoxS at h
  simp only at h
  split at h
  · rename_i l' n
    simp only [Option.bind_eq_some_iff] at h
    obtain ⟨l, h_l, h⟩ := h
    split at h
    case isFalse => cases h
    rename_i hc
    simp only [Option.some.injEq, Prod.mk.injEq] at h
    obtain ⟨h1, h2⟩ := h
    have h_l := decL_some (fun _ _ h => Box.dec_some h) h_l
    subst h_l
    exact ⟨l, n, rfl, hc, h1, h2.symm⟩
  · cases h
def T_laws_szBoxS : Hints := ⟨lk [], lk [(5, [0, 1, 5])], lk [(0, [0, 1]), (1, [0, 1]), (2, [0, 1, 11]), (3, [4]), (4, [0, 1, 5]), (5, [0, 1, 5, 15]), (7, [0, 1, 5]), (8, [0, 1, 5, 25]), (9, [4]), (6, [0, 1, 5]), (10, [4])], lk []⟩
noncomputable def Phi_laws_szBoxS : Tab := lk [(82, spSzBox)]
attribute [go_sem] T_laws_szBoxS Phi_laws_szBoxS
theorem phi_laws_szBoxS : ∀ f sp, Phi_laws_szBoxS f = some sp → FnOk Tryz.prog f sp ∧ ∀ n ∈ sp.need, n ∈ ([] : List String) := phi_cons ok_laws_szBox (n0 rfl) (phi_nil)
theorem ok_laws_szBoxS : FnOk Tryz.prog 36 spSzBoxS := by
  refine fn_ok (Φ := Phi_laws_szBoxS) (T := T_laws_szBoxS) phi_laws_szBoxS mixed Tryz.func36 rfl rfl rfl (by decide) ?_
  intro ins r outs hr hl
  clear hl
  have hs := spSzBoxS_in hr
  clear hr
  obtain ⟨l, n, rfl, hc, hr, rfl⟩ := hs
  simp only [spSzBoxS, Tryz.f36, Go.VM.initS]
  obtain ⟨⟨hc, hd⟩, h0, h1⟩ := hc
  have w : IntKind.i64.wrap (n - (l.length : Int)) = n - l.length := wrap64 (by omega) (by omega)
  by_cases b : n - (l.length : Int) < 0
  · simp only [w, b, go_sem]
    repeat' ((first | apply qa | apply qb | apply qc | apply qd | apply qe | apply qf | apply qg | apply qh | apply qi | apply qj | apply qk) <;> intro hp <;> simp only [hp, w, b, go_sem])
    simp only [fin_mk, finV, resL, resV1, resIn, endA, listIn, Option.some_or, Option.none_or, oneOrTup, go_sem]
    rw [← hr]
    simp only [szLL, thenSz, subSz, b, if_true, Int.reduceNeg, Int.reduceLT]
  simp only [w, b, go_sem]
  refine loop_go (fun p : Nat × Int => [(1, .int .i64 p.2), (5, .int .i64 (p.1 : Int))]) (fun _ => []) (fun p => l.length - p.1) (fun p => p.1 ≤ l.length ∧ p.2 = szL Box.sz (l.take p.1) (n - l.length) ∧ 0 ≤ p.2 ∧ p.2 ≤ 4611686018427387904) (0, n - l.length) ⟨Nat.zero_le _, rfl, by simp only; omega, by simp only; omega⟩ rfl rfl ?_
  rintro ⟨i, m⟩ ⟨hi, hm, m0, m1⟩ ih
  simp only at hi hm m0 m1 ih
  have hsz : Box.sz = Box.sz := rfl
  have hend : szLL Box.sz l n = szL Box.sz l (n - l.length) := by simp only [szLL, thenSz, subSz, b, if_false]
  rcases Nat.lt_or_ge i l.length with h | h
  · have g1 : (i : Int) < l.length := by omega
    have g2 : (0 : Int) ≤ i := by omega
    have g3 : l[i]? = some l[i] := List.getElem?_eq_getElem h
    have g5 := wrap_succ h hc
    have gx : l[i].le 4611686018427387904 := hd _ (List.getElem_mem h)
    rcases Box.sz_ok l[i] m 4611686018427387904 m0 m1 with e | ⟨e1, e2, -⟩
    · simp only [g1, g2, g3, g5, gx, m0, m1, e, go_sem]
      repeat' ((first | apply qa | apply qb | apply qc | apply qd | apply qe | apply qf | apply qg | apply qh | apply qi | apply qj | apply qk) <;> intro hp <;> simp only [hp, g1, g2, g3, g5, gx, m0, m1, e, go_sem])
      simp only [fin_mk, finV, resL, resV1, resIn, endA, listIn, Option.some_or, Option.none_or, oneOrTup, go_sem]
      rw [← hr]
      rw [hend, szL_bad l i _ h (by rw [← hm]; exact m0) (by rw [← hm, e]; decide)]
    · have e3 : ¬ Box.sz l[i] m < 0 := by omega
      simp only [g1, g2, g3, g5, gx, m0, m1, e3, go_sem]
      repeat' ((first | apply qa | apply qb | apply qc | apply qd | apply qe | apply qf | apply qg | apply qh | apply qi | apply qj | apply qk) <;> intro hp <;> simp only [hp, g1, g2, g3, g5, gx, m0, m1, e3, go_sem])
      refine ih (i + 1, Box.sz l[i] m) ⟨h, ?_, e1, by simp only; omega⟩ (by simp only; omega)
      have key := szL_take (f := Box.sz) l i (n - l.length) h (fun k hk => ?_) (by rw [← hm]; exact m0) (by omega)
      · rw [key, hm]
      · exact Box.sz_neg _ _ hk
  · have g1 : ¬ (i : Int) < l.length := by omega
    simp only [g1, go_sem]
    simp only [fin_mk, finV, resL, resV1, resIn, endA, listIn, Option.some_or, Option.none_or, oneOrTup, go_sem]
    rw [← hr]
    rw [hend, hm, List.take_of_length_le h]
open Classical in
noncomputable def spToBoxS : VM.Spec := { modes := [.rd], run := fun | [.lst 7 l'] => (decL Box.dec l').bind fun l => if leL Box.le 4194304 l then some (.lst 7 ((l).map Box.enc), []) else none | _ => none, need := [] }
attribute [go_sem] spToBoxS
theorem spToBoxS_in {ins : List V} {r : V} {outs : List V} (h : spToBoxS.run ins = some (r, outs)) : ∃ (l : (List Box)), ins = [.lst 7 ((l).map Box.enc)] ∧ (leL Box.le 4194304 l) ∧ .lst 7 ((l).map Box.enc) = r ∧ outs = [] := by
  unfold spToBoxS at h
  simp only at h
  split at h
  · rename_i l'
    simp only [Option.bind_eq_some_iff] at h
    obtain ⟨l, h_l, h⟩ := h
    split at h
    case isFalse => cases h
    rename_i hc
    simp only [Option.some.injEq, Prod.mk.injEq] at h
    obtain ⟨h1, h2⟩ := h
    have h_l := decL_some (fun _ _ h => Box.dec_some h) h_l
    subst h_l
    exact ⟨l, rfl, hc, h1, h2.symm⟩
  · cases h
def T_laws_toBoxS : Hints := ⟨lk [], lk [(3, [0, 3, 4])], lk [(0, [0]), (1, [0, 3]), (2, [0, 3, 4]), (3, [0, 3, 4, 11]), (5, [0, 3, 4]), (4, [0, 3, 4]), (6, [2])], lk []⟩
noncomputable def Phi_laws_toBoxS : Tab := lk [(99, spToBox)]
attribute [go_sem] T_laws_toBoxS Phi_laws_toBoxS
theorem phi_laws_toBoxS : ∀ f sp, Phi_laws_toBoxS f = some sp → FnOk Tryz.prog f sp ∧ ∀ n ∈ sp.need, n ∈ ([] : List String) := phi_cons ok_laws_toBox (n0 rfl) (phi_nil)
theorem ok_laws_toBoxS : FnOk Tryz.prog 47 spToBoxS := by
  refine fn_ok (Φ := Phi_laws_toBoxS) (T := T_laws_toBoxS) phi_laws_toBoxS mixed Tryz.func47 rfl rfl rfl (by decide) ?_
  intro ins r outs hr hl
  clear hl
  have hs := spToBoxS_in hr
  clear hr
  obtain ⟨l, rfl, hc, hr, rfl⟩ := hs
  simp only [spToBoxS, Tryz.f47, Go.VM.initS]
  obtain ⟨hc, hd⟩ := hc
  have h1 : (l.length : Int) ≤ 9223372036854775807 := by omega
  have h2 : (l.length : Int) * 96 ≤ 140737488355328 := by omega
  have h3 : (0 : Int) ≤ l.length := by omega
  simp only [h1, h2, h3, Int.cast_ofNat_Int, go_sem]
  refine loop_go (fun p : Nat × List V => [(4, .int .i64 (p.1 : Int))]) (fun p => [(0, ⟨.arr, 7, p.2⟩)]) (fun p => l.length - p.1) (fun p => p.1 ≤ l.length ∧ p.2 = (l.take p.1).map Box.enc ++ List.replicate (l.length - p.1) (.agg [.str [], .int .i64 0, .int .i64 0, .int .i64 0, .lst 4 [], .lst 2 [], .int .i64 0])) (0, List.replicate l.length (.agg [.str [], .int .i64 0, .int .i64 0, .int .i64 0, .lst 4 [], .lst 2 [], .int .i64 0])) ⟨Nat.zero_le _, by simp⟩ rfl rfl ?_
  rintro ⟨i, els⟩ ⟨hi, hels⟩ ih
  simp only at hi hels ih
  have hlen : els.length = l.length := by rw [hels]; simp; omega
  rcases Nat.lt_or_ge i l.length with h | h
  · have g1 : (i : Int) < l.length := by omega
    have g2 : (0 : Int) ≤ i := by omega
    have g3 : l[i]? = some l[i] := List.getElem?_eq_getElem h
    have g4 : els[i]? = some (els[i]'(by omega)) := List.getElem?_eq_getElem (by omega)
    have g5 := wrap_succ h (by omega)
    have gx := hd _ (List.getElem_mem h)
    simp only [g1, g2, g3, g4, g5, hlen, gx, go_sem]
    repeat' ((first | apply qa | apply qb | apply qc | apply qd | apply qe | apply qf | apply qg | apply qh | apply qi | apply qj | apply qk) <;> intro hp <;> simp only [hp, g1, g2, g3, g4, g5, hlen, gx, go_sem])
    refine ih (i + 1, els.set i (.agg [.str l[i].Name, .int .i64 l[i].Valid, .int .i64 l[i].Next, .int .i64 l[i].Mod, .lst 4 (l[i].Mails.map Mail.enc), .lst 2 (l[i].Tombs.map Tomb.enc), .int .i64 l[i].Horizon])) ⟨h, ?_⟩ (by simp only; omega)
    simp only
    rw [hels]
    exact fill_step _ h rfl
  · have g1 : ¬ (i : Int) < l.length := by omega
    simp only [g1, go_sem]
    simp only [fin_mk, finV, resL, resV1, resIn, endA, listIn, Option.some_or, Option.none_or, oneOrTup, go_sem]
    rw [← hr, hels, List.take_of_length_le h, show l.length - i = 0 by omega]
    simp
open Classical in
noncomputable def spEqBoxS : VM.Spec := { modes := [.rd, .rd], run := fun | [.lst 7 x', .lst 7 y'] => (decL Box.dec x').bind fun x => (decL Box.dec y').bind fun y => if leL Box.le 4194304 x ∧ leL Box.le 4194304 y then some (.bool (decide (x = y)), []) else none | _ => none, need := [] }
attribute [go_sem] spEqBoxS
theorem spEqBoxS_in {ins : List V} {r : V} {outs : List V} (h : spEqBoxS.run ins = some (r, outs)) : ∃ (x : (List Box)) (y : (List Box)), ins = [.lst 7 ((x).map Box.enc), .lst 7 ((y).map Box.enc)] ∧ (leL Box.le 4194304 x ∧ leL Box.le 4194304 y) ∧ .bool (decide (x = y)) = r ∧ outs = [] := by
  unfold spEqBoxS at h
  simp only at h
  split at h
  · rename_i x' y'
    simp only [Option.bind_eq_some_iff] at h
    obtain ⟨x, h_x, y, h_y, h⟩ := h
    split at h
    case isFalse => cases h
    rename_i hc
    simp only [Option.some.injEq, Prod.mk.injEq] at h
    obtain ⟨h1, h2⟩ := h
    have h_x := decL_some (fun _ _ h => Box.dec_some h) h_x
    subst h_x
    have h_y := decL_some (fun _ _ h => Box.dec_some h) h_y
    subst h_y
    exact ⟨x, y, rfl, hc, h1, h2.symm⟩
  · cases h
def T_laws_eqBoxS : Hints := ⟨lk [(6, [])], lk [(4, [0, 1, 5])], lk [(0, [0, 1]), (1, [0, 1, 10]), (2, [4]), (3, [0, 1, 5]), (4, [0, 1, 5, 14]), (6, [0, 1, 5, 26]), (7, [4]), (5, [0, 1, 5]), (8, [4])], lk []⟩
noncomputable def Phi_laws_eqBoxS : Tab := lk [(101, spEqBox)]
attribute [go_sem] T_laws_eqBoxS Phi_laws_eqBoxS
theorem phi_laws_eqBoxS : ∀ f sp, Phi_laws_eqBoxS f = some sp → FnOk Tryz.prog f sp ∧ ∀ n ∈ sp.need, n ∈ ([] : List String) := phi_cons ok_laws_eqBox (n0 rfl) (phi_nil)
theorem ok_laws_eqBoxS : FnOk Tryz.prog 49 spEqBoxS := by
  refine fn_ok (Φ := Phi_laws_eqBoxS) (T := T_laws_eqBoxS) phi_laws_eqBoxS mixed Tryz.func49 rfl rfl rfl (by decide) ?_
  intro ins r outs hr hl
  clear hl
  have hs := spEqBoxS_in hr
  clear hr
  obtain ⟨x, y, rfl, hc, hr, rfl⟩ := hs
  simp only [spEqBoxS, Tryz.f49, Go.VM.initS]
  obtain ⟨⟨hx, hx'⟩, hy, hy'⟩ := hc
  by_cases hl : x.length = y.length
  case neg =>
    have g : ((x.length : Int) == y.length) = false := by rw [beq_eq_false_iff_ne]; omega
    have g' : ((x.length : Int) != y.length) = true := by rw [bne_iff_ne]; omega
    have hne : x ≠ y := fun e => hl (by rw [e])
    simp only [g, g', go_sem]
    repeat' ((first | ((first | apply qa | apply qb | apply qc | apply qd | apply qe | apply qf | apply qg | apply qh | apply qi | apply qj | apply qk) <;> intro hp) | ((first | refine ql rfl rfl (by decide +kernel) ?_ | refine qm _ rfl rfl (by decide +kernel) ?_) <;> have hp := True.intro)) <;> simp only [hp, g, g', go_sem])
    simp only [fin_mk, finV, resL, resV1, resIn, endA, listIn, Option.some_or, Option.none_or, oneOrTup, go_sem]
    rw [← hr]
    simp only [hne, decide_false]
  have hl' : (x.length : Int) = y.length := by omega
  simp only [hl, bne_self_eq_false, go_sem]
  repeat' ((first | ((first | apply qa | apply qb | apply qc | apply qd | apply qe | apply qf | apply qg | apply qh | apply qi | apply qj | apply qk) <;> intro hp) | ((first | refine ql rfl rfl (by decide +kernel) ?_ | refine qm _ rfl rfl (by decide +kernel) ?_) <;> have hp := True.intro)) <;> simp only [hp, hl, bne_self_eq_false, go_sem])
  refine loop_go (fun i : Nat => [(5, .int .i64 (i : Int))]) (fun _ => []) (fun i => x.length - i) (fun i => i ≤ x.length ∧ x.take i = y.take i) 0 ⟨Nat.zero_le _, by simp⟩ rfl rfl ?_
  intro i ⟨hi, he⟩ ih
  rcases Nat.lt_or_ge i x.length with h | h
  · have g1 : (i : Int) < x.length := by omega
    have g1' : (i : Int) < y.length := by omega
    have g2 : (0 : Int) ≤ i := by omega
    have g3 : x[i]? = some x[i] := List.getElem?_eq_getElem h
    have g4 : y[i]? = some (y[i]'(by omega)) := List.getElem?_eq_getElem (by omega)
    have g5 := wrap_succ h (by omega)
    have gx := hx' _ (List.getElem_mem h); have gy := hy' _ (List.getElem_mem (show i < y.length by omega))
    by_cases hv : x[i] = (y[i]'(by omega))
    · simp only [g1, g1', g2, g3, g4, g5, hv, gx, gy, go_sem]
      repeat' ((first | ((first | apply qa | apply qb | apply qc | apply qd | apply qe | apply qf | apply qg | apply qh | apply qi | apply qj | apply qk) <;> intro hp) | ((first | refine ql rfl rfl (by decide +kernel) ?_ | refine qm _ rfl rfl (by decide +kernel) ?_) <;> have hp := True.intro)) <;> simp only [hp, g1, g1', g2, g3, g4, g5, hv, gx, gy, go_sem])
      exact ih (i + 1) ⟨h, by rw [List.take_add_one, List.take_add_one, he, g3, g4, hv]⟩ (by omega)
    · have hne : x ≠ y := by rintro rfl; exact hv rfl
      have hv1 : (x[i] == (y[i]'(by omega))) = false := by rw [beq_eq_false_iff_ne]; exact hv
      have hv2 : (x[i] != (y[i]'(by omega))) = true := by rw [bne_iff_ne]; exact hv
      simp only [g1, g1', g2, g3, g4, g5, hv, hv1, hv2, gx, gy, go_sem]
      repeat' ((first | ((first | apply qa | apply qb | apply qc | apply qd | apply qe | apply qf | apply qg | apply qh | apply qi | apply qj | apply qk) <;> intro hp) | ((first | refine ql rfl rfl (by decide +kernel) ?_ | refine qm _ rfl rfl (by decide +kernel) ?_) <;> have hp := True.intro)) <;> simp only [hp, g1, g1', g2, g3, g4, g5, hv, hv1, hv2, gx, gy, go_sem])
      simp only [fin_mk, finV, resL, resV1, resIn, endA, listIn, Option.some_or, Option.none_or, oneOrTup, go_sem]
      rw [← hr]
      simp only [hne, decide_false]
  · have g1 : ¬ (i : Int) < x.length := by omega
    have g1' : ¬ (i : Int) < y.length := by omega
    simp only [g1, g1', go_sem]
    simp only [fin_mk, finV, resL, resV1, resIn, endA, listIn, Option.some_or, Option.none_or, oneOrTup, go_sem]
    rw [← hr]
    rw [List.take_of_length_le h, List.take_of_length_le (by omega)] at he
    simp only [he, decide_true]
open Classical in
noncomputable def spMarkBoxS : VM.Spec := { modes := [.io, .rd], run := fun | [.lst 7 l', .int .i64 k] => (decL Box.dec l').bind fun l => if leL Box.ln 4194304 l ∧ 0 ≤ k ∧ k ≤ 144115188075855872 then some (.int .i64 ((markL meBox l k).2), [.lst 7 (((markL meBox l k).1).map Box.enc)]) else none | _ => none, need := [] }
attribute [go_sem] spMarkBoxS
theorem spMarkBoxS_in {ins : List V} {r : V} {outs : List V} (h : spMarkBoxS.run ins = some (r, outs)) : ∃ (l : (List Box)) (k : Int), ins = [.lst 7 ((l).map Box.enc), .int .i64 k] ∧ (leL Box.ln 4194304 l ∧ 0 ≤ k ∧ k ≤ 144115188075855872) ∧ .int .i64 ((markL meBox l k).2) = r ∧ outs = [.lst 7 (((markL meBox l k).1).map Box.enc)] := by
  unfold spMarkBoxS at h
  simp only at h
  split at h
  · rename_i l' k
    simp only [Option.bind_eq_some_iff] at h
    obtain ⟨l, h_l, h⟩ := h
    split at h
    case isFalse => cases h
    rename_i hc
    simp only [Option.some.injEq, Prod.mk.injEq] at h
    obtain ⟨h1, h2⟩ := h
    have h_l := decL_some (fun _ _ h => Box.dec_some h) h_l
    subst h_l
    exact ⟨l, k, rfl, hc, h1, h2.symm⟩
  · cases h
def T_laws_markBoxS : Hints := ⟨lk [], lk [(2, [0, 1, 5])], lk [(0, [0, 1]), (1, [0, 1, 5]), (2, [0, 1, 5, 9]), (4, [0, 1, 5]), (5, [0, 1, 5]), (6, [0, 1, 5]), (7, [0, 1, 5]), (8, [0, 1, 5]), (9, [0, 1, 5]), (10, [0, 1, 5]), (11, [0, 1, 5]), (12, [0, 1, 5]), (13, [0, 1, 5]), (14, [0, 1, 5]), (15, [0, 1, 5]), (3, [0, 1, 5]), (16, [4])], lk [(12, ((0, []), (5, []))), (13, ((0, []), (5, [])))]⟩
noncomputable def Phi_laws_markBoxS : Tab := lk [(103, spMarkText), (104, spMarkMailS), (105, spMarkTombS)]
attribute [go_sem] T_laws_markBoxS Phi_laws_markBoxS
theorem phi_laws_markBoxS : ∀ f sp, Phi_laws_markBoxS f = some sp → FnOk Tryz.prog f sp ∧ ∀ n ∈ sp.need, n ∈ ([] : List String) := phi_cons ok_laws_markText (n0 rfl) (phi_cons ok_laws_markMailS (n0 rfl) (phi_cons ok_laws_markTombS (n0 rfl) (phi_nil)))
theorem ok_laws_markBoxS : FnOk Tryz.prog 51 spMarkBoxS := by
  refine fn_ok (Φ := Phi_laws_markBoxS) (T := T_laws_markBoxS) phi_laws_markBoxS mixed Tryz.func51 rfl rfl rfl (by decide) ?_
  intro ins r outs hr hl
  clear hl
  have hs := spMarkBoxS_in hr
  clear hr
  obtain ⟨l, k, rfl, hc, hr, rfl⟩ := hs
  simp only [spMarkBoxS, Tryz.f51, Go.VM.initS]
  obtain ⟨⟨hc, hd⟩, h0, h1⟩ := hc
  simp only [go_sem]
  refine loop_go (fun p : Nat × List V × Int => [(1, .int .i64 p.2.2), (5, .int .i64 (p.1 : Int))]) (fun p => [(0, ⟨.arr, 7, p.2.1⟩)]) (fun p => l.length - p.1) (fun p => p.1 ≤ l.length ∧ p.2.1 = ((markL meBox (l.take p.1) k).1 ++ l.drop p.1).map Box.enc ∧ p.2.2 = (markL meBox (l.take p.1) k).2 ∧ 0 ≤ p.2.2 ∧ p.2.2 ≤ k + 25165829 * p.1) (0, l.map Box.enc, k) ⟨Nat.zero_le _, by simp [markL], rfl, h0, by simp⟩ rfl rfl ?_
  rintro ⟨i, els, k'⟩ ⟨hi, he, hk, hb0, hb⟩ ih
  simp only at hi he hk hb0 hb ih
  rcases Nat.lt_or_ge i l.length with h | h
  · have g1 : (i : Int) < l.length := by omega
    have g2 : (0 : Int) ≤ i := by omega
    obtain ⟨g3, gl, gs, gk⟩ := mark_round h he
    rw [← hk] at gs gk
    have g5 := wrap_succ h (by omega)
    have hx := hd _ (List.getElem_mem h)
    have c0 : l[i].Mails.length ≤ 4194304 := hx.1
    have c1 : l[i].Tombs.length ≤ 4194304 := hx.2
    have j0 : k' ≤ 4611686018427387904 := by omega
    have w0 : IntKind.i64.wrap (k' + 1) = k' + 1 := wrap64 (by omega) (by omega)
    have j1 : k' + 1 ≤ 4611686018427387904 := by omega
    have w1 : IntKind.i64.wrap (k' + 1 + 1) = k' + 1 + 1 := wrap64 (by omega) (by omega)
    have j2 : k' + 1 + 1 ≤ 4611686018427387904 := by omega
    have w2 : IntKind.i64.wrap (k' + 1 + 1 + 1) = k' + 1 + 1 + 1 := wrap64 (by omega) (by omega)
    have j3 : k' + 1 + 1 + 1 ≤ 4611686018427387904 := by omega
    have w3 : IntKind.i64.wrap (k' + 1 + 1 + 1 + 1) = k' + 1 + 1 + 1 + 1 := wrap64 (by omega) (by omega)
    have j4 : k' + 1 + 1 + 1 + 1 ≤ 4611686018427387904 := by omega
    have p4 : 0 ≤ k' + 1 + 1 + 1 + 1 := by omega
    have q4 : k' + 1 + 1 + 1 + 1 ≤ 1152921504606846976 := by omega
    have r4 : (markL meMail l[i].Mails (k' + 1 + 1 + 1 + 1)).2 = k' + 1 + 1 + 1 + 1 + (4 : Nat) * l[i].Mails.length := markL_k meMail_k _ _
    have j5 : (markL meMail l[i].Mails (k' + 1 + 1 + 1 + 1)).2 ≤ 4611686018427387904 := by omega
    have s4 : ¬ (markL meMail l[i].Mails (k' + 1 + 1 + 1 + 1)).2 < 0 := by omega
    have p5 : 0 ≤ (markL meMail l[i].Mails (k' + 1 + 1 + 1 + 1)).2 := by omega
    have q5 : (markL meMail l[i].Mails (k' + 1 + 1 + 1 + 1)).2 ≤ 1152921504606846976 := by omega
    have r5 : (markL meTomb l[i].Tombs ((markL meMail l[i].Mails (k' + 1 + 1 + 1 + 1)).2)).2 = (markL meMail l[i].Mails (k' + 1 + 1 + 1 + 1)).2 + (2 : Nat) * l[i].Tombs.length := markL_k meTomb_k _ _
    have j6 : (markL meTomb l[i].Tombs ((markL meMail l[i].Mails (k' + 1 + 1 + 1 + 1)).2)).2 ≤ 4611686018427387904 := by omega
    have s5 : ¬ (markL meTomb l[i].Tombs ((markL meMail l[i].Mails (k' + 1 + 1 + 1 + 1)).2)).2 < 0 := by omega
    have w6 : IntKind.i64.wrap ((markL meTomb l[i].Tombs ((markL meMail l[i].Mails (k' + 1 + 1 + 1 + 1)).2)).2 + 1) = (markL meTomb l[i].Tombs ((markL meMail l[i].Mails (k' + 1 + 1 + 1 + 1)).2)).2 + 1 := wrap64 (by omega) (by omega)
    have j7 : (markL meTomb l[i].Tombs ((markL meMail l[i].Mails (k' + 1 + 1 + 1 + 1)).2)).2 + 1 ≤ 4611686018427387904 := by omega
    rw [Box.enc] at g3
    have gi : i < els.length := by omega
    simp only [g1, g2, g3, gl, g5, h, gi, c0, c1, j0, w0, j1, w1, j2, w2, j3, w3, j4, p4, q4, j5, s4, p5, q5, j6, s5, w6, j7, List.getElem?_set_self, List.length_set, List.set_set, go_sem]
    repeat' ((first | ((first | apply qa | apply qb | apply qc | apply qd | apply qe | apply qf | apply qg | apply qh | apply qi | apply qj | apply qk) <;> intro hp) | ((first | refine goes_opn rfl ?_ | refine goes_opnD rfl rfl (by decide +kernel) ?_) <;> have hp := True.intro)) <;> simp only [hp, g1, g2, g3, gl, g5, h, gi, c0, c1, j0, w0, j1, w1, j2, w2, j3, w3, j4, p4, q4, j5, s4, p5, q5, j6, s5, w6, j7, List.getElem?_set_self, List.length_set, List.set_set, go_sem])
    refine ih (i + 1, els.set i (Box.enc (meBox l[i] k').1), (meBox l[i] k').2) ⟨h, gs, gk, ?_, ?_⟩ (by simp only; omega)
    · simp only; rw [meBox_k]; omega
    · simp only; rw [meBox_k]; push_cast; omega
  · have g1 : ¬ (i : Int) < l.length := by omega
    have gl : els.length = l.length := by rw [he]; simp [markL_len]; omega
    simp only [g1, gl, go_sem]
    simp only [fin_mk, finV, resL, resV1, resIn, endA, listIn, Option.some_or, Option.none_or, oneOrTup, go_sem]
    rw [← hr, he, hk, List.take_of_length_le h, List.drop_of_length_le h, List.append_nil]
open Classical in
noncomputable def spHeldBoxS : VM.Spec := { modes := [.rd, .rd], run := fun | [.lst 7 l', .int .i64 k] => (decL Box.dec l').bind fun l => if leL Box.ln 4194304 l ∧ (markL meBox l k).1 = l ∧ 0 ≤ k ∧ k ≤ 144115188075855872 then some (.int .i64 ((markL meBox l k).2), []) else none | _ => none, need := [] }
attribute [go_sem] spHeldBoxS
theorem spHeldBoxS_in {ins : List V} {r : V} {outs : List V} (h : spHeldBoxS.run ins = some (r, outs)) : ∃ (l : (List Box)) (k : Int), ins = [.lst 7 ((l).map Box.enc), .int .i64 k] ∧ (leL Box.ln 4194304 l ∧ (markL meBox l k).1 = l ∧ 0 ≤ k ∧ k ≤ 144115188075855872) ∧ .int .i64 ((markL meBox l k).2) = r ∧ outs = [] := by
  unfold spHeldBoxS at h
  simp only at h
  split at h
  · rename_i l' k
    simp only [Option.bind_eq_some_iff] at h
    obtain ⟨l, h_l, h⟩ := h
    split at h
    case isFalse => cases h
    rename_i hc
    simp only [Option.some.injEq, Prod.mk.injEq] at h
    obtain ⟨h1, h2⟩ := h
    have h_l := decL_some (fun _ _ h => Box.dec_some h) h_l
    subst h_l
    exact ⟨l, k, rfl, hc, h1, h2.symm⟩
  · cases h
def T_laws_heldBoxS : Hints := ⟨lk [(4, [(2, 6), (3, 6), (4, 6)])], lk [(2, [0, 1, 5])], lk [(0, [0, 1]), (1, [0, 1, 5]), (2, [0, 1, 5, 9]), (4, [0, 1, 5, 19]), (5, [4]), (6, [0, 1, 5]), (7, [0, 1, 5, 28]), (8, [4]), (9, [0, 1, 5]), (10, [0, 1, 5, 37]), (11, [4]), (12, [0, 1, 5]), (13, [0, 1, 5, 46]), (14, [4]), (15, [0, 1, 5]), (16, [0, 1, 5]), (17, [0, 1, 5, 57]), (18, [4]), (19, [0, 1, 5]), (20, [0, 1, 5, 66]), (21, [4]), (22, [0, 1, 5, 73]), (23, [4]), (24, [0, 1, 5]), (3, [0, 1, 5]), (25, [4])], lk []⟩
noncomputable def Phi_laws_heldBoxS : Tab := lk [(103, spMarkText), (106, spHeldMailS), (107, spHeldTombS)]
attribute [go_sem] T_laws_heldBoxS Phi_laws_heldBoxS
theorem phi_laws_heldBoxS : ∀ f sp, Phi_laws_heldBoxS f = some sp → FnOk Tryz.prog f sp ∧ ∀ n ∈ sp.need, n ∈ ([] : List String) := phi_cons ok_laws_markText (n0 rfl) (phi_cons ok_laws_heldMailS (n0 rfl) (phi_cons ok_laws_heldTombS (n0 rfl) (phi_nil)))
theorem ok_laws_heldBoxS : FnOk Tryz.prog 53 spHeldBoxS := by
  refine fn_ok (Φ := Phi_laws_heldBoxS) (T := T_laws_heldBoxS) phi_laws_heldBoxS mixed Tryz.func53 rfl rfl rfl (by decide) ?_
  intro ins r outs hr hl
  clear hl
  have hs := spHeldBoxS_in hr
  clear hr
  obtain ⟨l, k, rfl, hc, hr, rfl⟩ := hs
  simp only [spHeldBoxS, Tryz.f53, Go.VM.initS]
  obtain ⟨⟨hc, hd⟩, hm, h0, h1⟩ := hc
  simp only [go_sem]
  refine loop_go (fun p : Nat × Int => [(1, .int .i64 p.2), (5, .int .i64 (p.1 : Int))]) (fun p => []) (fun p => l.length - p.1) (fun p => p.1 ≤ l.length ∧ p.2 = (markL meBox (l.take p.1) k).2 ∧ 0 ≤ p.2 ∧ p.2 ≤ k + 25165829 * p.1) (0, k) ⟨Nat.zero_le _, rfl, h0, by simp⟩ rfl rfl ?_
  rintro ⟨i, k'⟩ ⟨hi, hk, hb0, hb⟩ ih
  simp only at hi hk hb0 hb ih
  rcases Nat.lt_or_ge i l.length with h | h
  · have g1 : (i : Int) < l.length := by omega
    have g2 : (0 : Int) ≤ i := by omega
    have g3 : l[i]? = some l[i] := List.getElem?_eq_getElem h
    have g5 := wrap_succ h (by omega)
    have hn := markL_fix hm h
    rw [← hk] at hn
    have gk : (meBox l[i] k').2 = (markL meBox (l.take (i + 1)) k).2 := by rw [take_succ' h, markL_step, hk]
    have hx := hd _ (List.getElem_mem h)
    have c0 : l[i].Mails.length ≤ 4194304 := hx.1
    have c1 : l[i].Tombs.length ≤ 4194304 := hx.2
    have j0 : k' ≤ 4611686018427387904 := by omega
    have w0 : IntKind.i64.wrap (k' + 1) = k' + 1 := wrap64 (by omega) (by omega)
    have j1 : k' + 1 ≤ 4611686018427387904 := by omega
    have w1 : IntKind.i64.wrap (k' + 1 + 1) = k' + 1 + 1 := wrap64 (by omega) (by omega)
    have j2 : k' + 1 + 1 ≤ 4611686018427387904 := by omega
    have w2 : IntKind.i64.wrap (k' + 1 + 1 + 1) = k' + 1 + 1 + 1 := wrap64 (by omega) (by omega)
    have j3 : k' + 1 + 1 + 1 ≤ 4611686018427387904 := by omega
    have w3 : IntKind.i64.wrap (k' + 1 + 1 + 1 + 1) = k' + 1 + 1 + 1 + 1 := wrap64 (by omega) (by omega)
    have j4 : k' + 1 + 1 + 1 + 1 ≤ 4611686018427387904 := by omega
    have p4 : 0 ≤ k' + 1 + 1 + 1 + 1 := by omega
    have q4 : k' + 1 + 1 + 1 + 1 ≤ 1152921504606846976 := by omega
    have r4 : (markL meMail l[i].Mails (k' + 1 + 1 + 1 + 1)).2 = k' + 1 + 1 + 1 + 1 + (4 : Nat) * l[i].Mails.length := markL_k meMail_k _ _
    have j5 : (markL meMail l[i].Mails (k' + 1 + 1 + 1 + 1)).2 ≤ 4611686018427387904 := by omega
    have s4 : ¬ (markL meMail l[i].Mails (k' + 1 + 1 + 1 + 1)).2 < 0 := by omega
    have p5 : 0 ≤ (markL meMail l[i].Mails (k' + 1 + 1 + 1 + 1)).2 := by omega
    have q5 : (markL meMail l[i].Mails (k' + 1 + 1 + 1 + 1)).2 ≤ 1152921504606846976 := by omega
    have r5 : (markL meTomb l[i].Tombs ((markL meMail l[i].Mails (k' + 1 + 1 + 1 + 1)).2)).2 = (markL meMail l[i].Mails (k' + 1 + 1 + 1 + 1)).2 + (2 : Nat) * l[i].Tombs.length := markL_k meTomb_k _ _
    have j6 : (markL meTomb l[i].Tombs ((markL meMail l[i].Mails (k' + 1 + 1 + 1 + 1)).2)).2 ≤ 4611686018427387904 := by omega
    have s5 : ¬ (markL meTomb l[i].Tombs ((markL meMail l[i].Mails (k' + 1 + 1 + 1 + 1)).2)).2 < 0 := by omega
    have w6 : IntKind.i64.wrap ((markL meTomb l[i].Tombs ((markL meMail l[i].Mails (k' + 1 + 1 + 1 + 1)).2)).2 + 1) = (markL meTomb l[i].Tombs ((markL meMail l[i].Mails (k' + 1 + 1 + 1 + 1)).2)).2 + 1 := wrap64 (by omega) (by omega)
    have j7 : (markL meTomb l[i].Tombs ((markL meMail l[i].Mails (k' + 1 + 1 + 1 + 1)).2)).2 + 1 ≤ 4611686018427387904 := by omega
    have e0 : l[i].Name = markText (k') := (congrArg Box.Name hn).symm
    have e1 : l[i].Valid = k' + 1 := (congrArg Box.Valid hn).symm
    have e2 : l[i].Next = k' + 1 + 1 := (congrArg Box.Next hn).symm
    have e3 : l[i].Mod = k' + 1 + 1 + 1 := (congrArg Box.Mod hn).symm
    have e4 : heldL heMail l[i].Mails (k' + 1 + 1 + 1 + 1) = some (markL meMail l[i].Mails (k' + 1 + 1 + 1 + 1)).2 := held_fix heMail_marked (congrArg Box.Mails hn)
    have e5 : heldL heTomb l[i].Tombs ((markL meMail l[i].Mails (k' + 1 + 1 + 1 + 1)).2) = some (markL meTomb l[i].Tombs ((markL meMail l[i].Mails (k' + 1 + 1 + 1 + 1)).2)).2 := held_fix heTomb_marked (congrArg Box.Tombs hn)
    have e6 : l[i].Horizon = (markL meTomb l[i].Tombs ((markL meMail l[i].Mails (k' + 1 + 1 + 1 + 1)).2)).2 := (congrArg Box.Horizon hn).symm
    simp only [g1, g2, g3, g5, h, c0, c1, j0, w0, j1, w1, j2, w2, j3, w3, j4, p4, q4, j5, s4, p5, q5, j6, s5, w6, j7, e0, e1, e2, e3, e4, e5, e6, bne_self_eq_false, Option.getD_some, go_sem]
    repeat' ((first | ((first | apply qa | apply qb | apply qc | apply qd | apply qe | apply qf | apply qg | apply qh | apply qi | apply qj | apply qk) <;> intro hp) | ((first | refine ql rfl rfl (by decide +kernel) ?_ | refine qm _ rfl rfl (by decide +kernel) ?_) <;> have hp := True.intro)) <;> simp only [hp, g1, g2, g3, g5, h, c0, c1, j0, w0, j1, w1, j2, w2, j3, w3, j4, p4, q4, j5, s4, p5, q5, j6, s5, w6, j7, e0, e1, e2, e3, e4, e5, e6, bne_self_eq_false, Option.getD_some, go_sem])
    refine ih (i + 1, (meBox l[i] k').2) ⟨h, gk, ?_, ?_⟩ (by simp only; omega)
    · simp only; rw [meBox_k]; omega
    · simp only; rw [meBox_k]; push_cast; omega
  · have g1 : ¬ (i : Int) < l.length := by omega
    simp only [g1, go_sem]
    simp only [fin_mk, finV, resL, resV1, resIn, endA, listIn, Option.some_or, Option.none_or, oneOrTup, go_sem]
    rw [← hr]
    rw [hk, List.take_of_length_le h]
theorem boxes_ln {l : List Box} (h : leL Box.le 4194304 l) : leL Box.ln 4194304 l := ⟨h.1, fun y hy => Box.ln_of (h.2 y hy)⟩
theorem boxes_lnm {l : List Box} {k : Int} (h : leL Box.ln 4194304 l) : leL Box.ln 4194304 (markL meBox l k).1 := leL_marked (fun x k hx => meBox_ln hx) h
theorem markBoxS_up {l : List Box} (h : leL Box.ln 4194304 l) (k : Int) : (markL meBox l k).2 ≤ k + 25165829 * l.length := by
  obtain ⟨h0, hd⟩ := h
  induction l generalizing k with
  | nil => simp [markL]
  | cons x l ih =>
    simp only [List.length_cons] at h0
    have h1 := ih (meBox x k).2 (by omega) (fun y hy => hd y (by simp [hy]))
    have h2 := meBox_k x k
    have hx := hd x (by simp)
    have e1 : x.Mails.length ≤ 4194304 := hx.1
    have e2 : x.Tombs.length ≤ 4194304 := hx.2
    simp only [markL, List.length_cons]
    omega
theorem markBoxS_le : ∀ (l : List Box) (k : Int), k ≤ (markL meBox l k).2
  | [], k => Int.le_refl _
  | x :: l, k => by
    have := markBoxS_le l (meBox x k).2
    have := meBox_k x k
    simp only [markL]; omega
open Classical in
noncomputable def spSzStore : VM.Spec := { modes := [.rd, .rd], run := fun | [x', .int .i64 n] => (Store.dec x').bind fun x => if x.le 4611686018427387904 ∧ 0 ≤ n ∧ n ≤ 4611686018427387904 then some (.int .i64 (Store.sz x n), []) else none | _ => none, need := [] }
attribute [go_sem] spSzStore
theorem spSzStore_in {ins : List V} {r : V} {outs : List V} (h : spSzStore.run ins = some (r, outs)) : ∃ (x : Store) (n : Int), ins = [Store.enc x, .int .i64 n] ∧ (x.le 4611686018427387904 ∧ 0 ≤ n ∧ n ≤ 4611686018427387904) ∧ .int .i64 (Store.sz x n) = r ∧ outs = [] := by
  unfold spSzStore at h
  simp only at h
  split at h
  · rename_i x' n
    simp only [Option.bind_eq_some_iff] at h
    obtain ⟨x, h_x, h⟩ := h
    split at h
    case isFalse => cases h
    rename_i hc
    simp only [Option.some.injEq, Prod.mk.injEq] at h
    obtain ⟨h1, h2⟩ := h
    have h_x := Store.dec_some h_x
    subst h_x
    exact ⟨x, n, rfl, hc, h1, h2.symm⟩
  · cases h
def T_laws_szStore : Hints := ⟨lk [], lk [], lk [(0, [1, 2]), (1, [1]), (2, [1, 10]), (3, [4]), (4, [4])], lk []⟩
noncomputable def Phi_laws_szStore : Tab := lk [(36, spSzBoxS)]
attribute [go_sem] T_laws_szStore Phi_laws_szStore
theorem phi_laws_szStore : ∀ f sp, Phi_laws_szStore f = some sp → FnOk Tryz.prog f sp ∧ ∀ n ∈ sp.need, n ∈ ([] : List String) := phi_cons ok_laws_szBoxS (n0 rfl) (phi_nil)
theorem ok_laws_szStore : FnOk Tryz.prog 11 spSzStore := by
  refine fn_ok (Φ := Phi_laws_szStore) (T := T_laws_szStore) phi_laws_szStore mixed Tryz.func11 rfl rfl rfl (by decide) ?_
  intro ins r outs hr hl
  clear hl
  have hs := spSzStore_in hr
  clear hr
  obtain ⟨x, n, rfl, hc, hr, rfl⟩ := hs
  simp only [spSzStore, Tryz.f11, Go.VM.initS]
  obtain ⟨hc, h0, h1⟩ := hc
  have c0 := hc
  have c0 : leL Box.le 4611686018427387904 x.Boxes := c0
  rcases (szLL_ok Box.sz_ok) x.Boxes n 4611686018427387904 h0 h1 with e | ⟨a0, d0, -⟩
  · simp only [c0, h0, h1, e, go_sem]
    repeat' ((first | apply qa | apply qb | apply qc | apply qd | apply qe | apply qf | apply qg | apply qh | apply qi | apply qj | apply qk) <;> intro hp <;> simp only [hp, c0, h0, h1, e, go_sem])
    simp only [fin_mk, finV, resL, resV1, resIn, endA, listIn, Option.some_or, Option.none_or, oneOrTup, go_sem]
    rw [← hr]
    simp only [Store.sz, thenSz, subSz, e, if_true, if_false, Int.reduceNeg, Int.reduceLT]
  have b0 : ¬ ((szLL Box.sz) x.Boxes n) < 0 := Int.not_lt.2 a0
  have d0 : ((szLL Box.sz) x.Boxes n) ≤ 4611686018427387904 := Int.le_trans d0 h1
  simp only [c0, h0, h1, b0, go_sem]
  repeat' ((first | apply qa | apply qb | apply qc | apply qd | apply qe | apply qf | apply qg | apply qh | apply qi | apply qj | apply qk) <;> intro hp <;> simp only [hp, c0, h0, h1, b0, go_sem])
  simp only [fin_mk, finV, resL, resV1, resIn, endA, listIn, Option.some_or, Option.none_or, oneOrTup, go_sem]
  rw [← hr]
  simp only [Store.sz, thenSz, subSz, b0, if_true, if_false]
open Classical in
noncomputable def spToStore : VM.Spec := { modes := [.rd], run := fun | [x'] => (Store.dec x').bind fun x => if x.le 4194304 then some (Store.enc x, []) else none | _ => none, need := [] }
attribute [go_sem] spToStore
theorem spToStore_in {ins : List V} {r : V} {outs : List V} (h : spToStore.run ins = some (r, outs)) : ∃ (x : Store), ins = [Store.enc x] ∧ (x.le 4194304) ∧ Store.enc x = r ∧ outs = [] := by
  unfold spToStore at h
  simp only at h
  split at h
  · rename_i x'
    simp only [Option.bind_eq_some_iff] at h
    obtain ⟨x, h_x, h⟩ := h
    split at h
    case isFalse => cases h
    rename_i hc
    simp only [Option.some.injEq, Prod.mk.injEq] at h
    obtain ⟨h1, h2⟩ := h
    have h_x := Store.dec_some h_x
    subst h_x
    exact ⟨x, rfl, hc, h1, h2.symm⟩
  · cases h
def T_laws_toStore : Hints := ⟨lk [], lk [], lk [(0, [1, 2]), (1, [1, 2, 3]), (2, [1, 2, 3]), (3, [2, 3]), (4, [2])], lk []⟩
noncomputable def Phi_laws_toStore : Tab := lk [(47, spToBoxS)]
attribute [go_sem] T_laws_toStore Phi_laws_toStore
theorem phi_laws_toStore : ∀ f sp, Phi_laws_toStore f = some sp → FnOk Tryz.prog f sp ∧ ∀ n ∈ sp.need, n ∈ ([] : List String) := phi_cons ok_laws_toBoxS (n0 rfl) (phi_nil)
theorem ok_laws_toStore : FnOk Tryz.prog 14 spToStore := by
  refine fn_ok (Φ := Phi_laws_toStore) (T := T_laws_toStore) phi_laws_toStore mixed Tryz.func14 rfl rfl rfl (by decide) ?_
  intro ins r outs hr hl
  clear hl
  have hs := spToStore_in hr
  clear hr
  obtain ⟨x, rfl, hc, hr, rfl⟩ := hs
  simp only [spToStore, Tryz.f14, Go.VM.initS]
  have c0 : leL Box.le 4194304 x.Boxes := hc
  simp only [c0, go_sem]
  repeat' ((first | apply qa | apply qb | apply qc | apply qd | apply qe | apply qf | apply qg | apply qh | apply qi | apply qj | apply qk) <;> intro hp <;> simp only [hp, c0, go_sem])
  simp only [fin_mk, finV, resL, resV1, resIn, endA, listIn, Option.some_or, Option.none_or, oneOrTup, go_sem]
  rw [← hr]
  rfl
open Classical in
noncomputable def spEqStore : VM.Spec := { modes := [.rd, .rd], run := fun | [x', y'] => (Store.dec x').bind fun x => (Store.dec y').bind fun y => if x.le 4194304 ∧ y.le 4194304 then some (.bool (decide (x = y)), []) else none | _ => none, need := [] }
attribute [go_sem] spEqStore
theorem spEqStore_in {ins : List V} {r : V} {outs : List V} (h : spEqStore.run ins = some (r, outs)) : ∃ (x : Store) (y : Store), ins = [Store.enc x, Store.enc y] ∧ (x.le 4194304 ∧ y.le 4194304) ∧ .bool (decide (x = y)) = r ∧ outs = [] := by
  unfold spEqStore at h
  simp only at h
  split at h
  · rename_i x' y'
    simp only [Option.bind_eq_some_iff] at h
    obtain ⟨x, h_x, y, h_y, h⟩ := h
    split at h
    case isFalse => cases h
    rename_i hc
    simp only [Option.some.injEq, Prod.mk.injEq] at h
    obtain ⟨h1, h2⟩ := h
    have h_x := Store.dec_some h_x
    subst h_x
    have h_y := Store.dec_some h_y
    subst h_y
    exact ⟨x, y, rfl, hc, h1, h2.symm⟩
  · cases h
def T_laws_eqStore : Hints := ⟨lk [], lk [], lk [(0, [2, 3]), (1, [2, 3, 10]), (2, [4]), (3, [15]), (4, [4]), (5, [4])], lk []⟩
noncomputable def Phi_laws_eqStore : Tab := lk [(49, spEqBoxS)]
attribute [go_sem] T_laws_eqStore Phi_laws_eqStore
theorem phi_laws_eqStore : ∀ f sp, Phi_laws_eqStore f = some sp → FnOk Tryz.prog f sp ∧ ∀ n ∈ sp.need, n ∈ ([] : List String) := phi_cons ok_laws_eqBoxS (n0 rfl) (phi_nil)
theorem ok_laws_eqStore : FnOk Tryz.prog 16 spEqStore := by
  refine fn_ok (Φ := Phi_laws_eqStore) (T := T_laws_eqStore) phi_laws_eqStore mixed Tryz.func16 rfl rfl rfl (by decide) ?_
  intro ins r outs hr hl
  clear hl
  have hs := spEqStore_in hr
  clear hr
  obtain ⟨x, y, rfl, hc, hr, rfl⟩ := hs
  simp only [spEqStore, Tryz.f16, Go.VM.initS]
  have c0 : leL Box.le 4194304 x.Boxes := hc.1
  have d0 : leL Box.le 4194304 y.Boxes := hc.2
  simp only [c0, d0, and_self, go_sem]
  repeat' ((first | apply qa | apply qb | apply qc | apply qd | apply qe | apply qf | apply qg | apply qh | apply qi | apply qj | apply qk) <;> intro hp <;> simp only [hp, c0, d0, and_self, go_sem])
  all_goals (simp only [fin_mk, finV, resL, resV1, resIn, endA, listIn, Option.some_or, Option.none_or, oneOrTup, go_sem]; rw [← hr])
  all_goals (cases x; cases y; simp_all)
open Classical in
noncomputable def spMarkStore : VM.Spec := { modes := [.io, .rd], run := fun | [x', .int .i64 k] => (Store.dec x').bind fun x => if leL Box.ln 4194304 x.Boxes ∧ 0 ≤ k ∧ k ≤ 144115188075855872 then some (.int .i64 ((markL meBox x.Boxes k).2), [Store.enc ({ x with Boxes := (markL meBox x.Boxes k).1 })]) else none | _ => none, need := [] }
attribute [go_sem] spMarkStore
theorem spMarkStore_in {ins : List V} {r : V} {outs : List V} (h : spMarkStore.run ins = some (r, outs)) : ∃ (x : Store) (k : Int), ins = [Store.enc x, .int .i64 k] ∧ (leL Box.ln 4194304 x.Boxes ∧ 0 ≤ k ∧ k ≤ 144115188075855872) ∧ .int .i64 ((markL meBox x.Boxes k).2) = r ∧ outs = [Store.enc ({ x with Boxes := (markL meBox x.Boxes k).1 })] := by
  unfold spMarkStore at h
  simp only at h
  split at h
  · rename_i x' k
    simp only [Option.bind_eq_some_iff] at h
    obtain ⟨x, h_x, h⟩ := h
    split at h
    case isFalse => cases h
    rename_i hc
    simp only [Option.some.injEq, Prod.mk.injEq] at h
    obtain ⟨h1, h2⟩ := h
    have h_x := Store.dec_some h_x
    subst h_x
    exact ⟨x, k, rfl, hc, h1, h2.symm⟩
  · cases h
def T_laws_markStore : Hints := ⟨lk [], lk [], lk [(0, [1, 2]), (1, [1]), (2, [4])], lk []⟩
noncomputable def Phi_laws_markStore : Tab := lk [(51, spMarkBoxS)]
attribute [go_sem] T_laws_markStore Phi_laws_markStore
theorem phi_laws_markStore : ∀ f sp, Phi_laws_markStore f = some sp → FnOk Tryz.prog f sp ∧ ∀ n ∈ sp.need, n ∈ ([] : List String) := phi_cons ok_laws_markBoxS (n0 rfl) (phi_nil)
theorem ok_laws_markStore : FnOk Tryz.prog 18 spMarkStore := by
  refine fn_ok (Φ := Phi_laws_markStore) (T := T_laws_markStore) phi_laws_markStore mixed Tryz.func18 rfl rfl rfl (by decide) ?_
  intro ins r outs hr hl
  clear hl
  have hs := spMarkStore_in hr
  clear hr
  obtain ⟨x, k, rfl, hc, hr, rfl⟩ := hs
  simp only [spMarkStore, Tryz.f18, Go.VM.initS]
  obtain ⟨hc, h0, h1⟩ := hc
  simp only [hc, h0, h1, go_sem]
  repeat' ((first | apply qa | apply qb | apply qc | apply qd | apply qe | apply qf | apply qg | apply qh | apply qi | apply qj | apply qk) <;> intro hp <;> simp only [hp, hc, h0, h1, go_sem])
  simp only [fin_mk, finV, resL, resV1, resIn, endA, listIn, Option.some_or, Option.none_or, oneOrTup, go_sem]
  rw [← hr]
open Classical in
noncomputable def spHeldStore : VM.Spec := { modes := [.rd, .rd], run := fun | [x', .int .i64 k] => (Store.dec x').bind fun x => if leL Box.ln 4194304 x.Boxes ∧ (markL meBox x.Boxes k).1 = x.Boxes ∧ 0 ≤ k ∧ k ≤ 144115188075855872 then some (.int .i64 ((markL meBox x.Boxes k).2), []) else none | _ => none, need := [] }
attribute [go_sem] spHeldStore
theorem spHeldStore_in {ins : List V} {r : V} {outs : List V} (h : spHeldStore.run ins = some (r, outs)) : ∃ (x : Store) (k : Int), ins = [Store.enc x, .int .i64 k] ∧ (leL Box.ln 4194304 x.Boxes ∧ (markL meBox x.Boxes k).1 = x.Boxes ∧ 0 ≤ k ∧ k ≤ 144115188075855872) ∧ .int .i64 ((markL meBox x.Boxes k).2) = r ∧ outs = [] := by
  unfold spHeldStore at h
  simp only at h
  split at h
  · rename_i x' k
    simp only [Option.bind_eq_some_iff] at h
    obtain ⟨x, h_x, h⟩ := h
    split at h
    case isFalse => cases h
    rename_i hc
    simp only [Option.some.injEq, Prod.mk.injEq] at h
    obtain ⟨h1, h2⟩ := h
    have h_x := Store.dec_some h_x
    subst h_x
    exact ⟨x, k, rfl, hc, h1, h2.symm⟩
  · cases h
def T_laws_heldStore : Hints := ⟨lk [], lk [], lk [(0, [1, 2]), (1, [1]), (2, [1, 10]), (3, [4]), (4, [4])], lk []⟩
noncomputable def Phi_laws_heldStore : Tab := lk [(53, spHeldBoxS)]
attribute [go_sem] T_laws_heldStore Phi_laws_heldStore
theorem phi_laws_heldStore : ∀ f sp, Phi_laws_heldStore f = some sp → FnOk Tryz.prog f sp ∧ ∀ n ∈ sp.need, n ∈ ([] : List String) := phi_cons ok_laws_heldBoxS (n0 rfl) (phi_nil)
theorem ok_laws_heldStore : FnOk Tryz.prog 20 spHeldStore := by
  refine fn_ok (Φ := Phi_laws_heldStore) (T := T_laws_heldStore) phi_laws_heldStore mixed Tryz.func20 rfl rfl rfl (by decide) ?_
  intro ins r outs hr hl
  clear hl
  have hs := spHeldStore_in hr
  clear hr
  obtain ⟨x, k, rfl, hc, hr, rfl⟩ := hs
  simp only [spHeldStore, Tryz.f20, Go.VM.initS]
  obtain ⟨hc, hm, h0, h1⟩ := hc
  have hx : 25165829 * 4194304 + k ≤ 4611686018427387904 := by omega
  have hs : ¬ (markL meBox x.Boxes k).2 < 0 := Int.not_lt.2 (Int.le_trans h0 (markBoxS_le _ _))
  simp only [hc, hm, h0, h1, hs, go_sem]
  repeat' ((first | apply qa | apply qb | apply qc | apply qd | apply qe | apply qf | apply qg | apply qh | apply qi | apply qj | apply qk) <;> intro hp <;> simp only [hp, hc, hm, h0, h1, hs, go_sem])
  simp only [fin_mk, finV, resL, resV1, resIn, endA, listIn, Option.some_or, Option.none_or, oneOrTup, go_sem]
  rw [← hr]
end Go.Proofs.YtjkhhplhjbmhjaaGreat.L
