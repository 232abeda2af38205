/- The body of a mail's text. -/
import Derived.Test.YtknagbmhmjcnkaaDoorVLCu
namespace Go.Proofs.YtknagbmhmjcnkaaDoor.L
open Go Go.VM
set_option maxRecDepth 100000
set_option maxHeartbeats 4000000
set_option linter.unusedSimpArgs false
set_option linter.unusedVariables false
/-- What stands behind the first line that is empty; whether a line begins. -/
def bodyG : Bool → List UInt8 → List UInt8
  | _, [] => []
  | true, b :: s => if b = 10 then s else bodyG false s
  | false, b :: s => if b = 10 then bodyG true s else bodyG false s
def bodyT (s : List UInt8) : List UInt8 := bodyG true s
theorem cut2_step (b : UInt8) (s t : List UInt8) : cut2 (b :: s) t = if t.isPrefixOf (b :: s) = true then (b :: s).drop t.length else cut2 s t := by
  have hge := Lib.index_ge s t
  by_cases hp : t.isPrefixOf (b :: s) = true
  · have e : Lib.index (b :: s) t = 0 := by rw [Lib.index, if_pos hp]
    rw [if_pos hp, cut2, cutB, e]; simp
  · rw [if_neg hp]
    by_cases hm : Lib.index s t = -1
    · have e : Lib.index (b :: s) t = -1 := by rw [Lib.index, if_neg hp]; simp [hm]
      rw [cut2, cut2, cutB, cutB, e, hm]; simp
    · have e : Lib.index (b :: s) t = Lib.index s t + 1 := by rw [Lib.index, if_neg hp]; simp [hm]
      rw [cut2, cut2, cutB, cutB, e, decide_eq_true (by omega), decide_eq_true (by omega), if_pos rfl, if_pos rfl]
      rw [show (Lib.index s t + 1).toNat + t.length = ((Lib.index s t).toNat + t.length) + 1 by omega, List.drop_succ_cons]
theorem bodyG_cut : ∀ s : List UInt8, bodyG false s = cut2 s [10, 10]
  | [] => by simp [bodyG, cut2]
  | b :: s => by
    have ih := bodyG_cut s
    rw [cut2_step]
    by_cases hb : b = 10
    · subst hb
      match s, ih with
      | [], ih => simp [bodyG, List.isPrefixOf, cut2]
      | c :: r, ih =>
        by_cases hc : c = 10
        · subst hc; simp [bodyG, List.isPrefixOf]
        · have hc' : ¬ (10 : UInt8) = c := fun e => hc e.symm
          have e1 : ([10, 10] : List UInt8).isPrefixOf (10 :: c :: r) = false := by simp [List.isPrefixOf, hc']
          rw [e1, if_neg (by simp), ← ih]
          simp [bodyG, hc]
    · have hb' : ¬ (10 : UInt8) = b := fun e => hb e.symm
      have e1 : ([10, 10] : List UInt8).isPrefixOf (b :: s) = false := by simp [List.isPrefixOf, hb']
      rw [e1, if_neg (by simp), ← ih]
      simp [bodyG, hb]
theorem bodyG_line : ∀ s : List UInt8, bodyG false s = bodyG true (s.drop ((s.takeWhile (notB 10)).length + 1))
  | [] => by simp [bodyG]
  | b :: s => by
    by_cases hb : b = 10
    · subst hb; simp [bodyG, notB, List.takeWhile_cons]
    · have hn : notB 10 b = true := by simp [notB, hb]
      rw [List.takeWhile_cons, if_pos hn, List.length_cons, List.drop_succ_cons, ← bodyG_line s]
      simp [bodyG, hb]
open Classical in
noncomputable def spBodyOf : VM.Spec := { modes := [.rd], run := fun | [.str t] => if t.length ≤ 4194304 then some (.str (bodyT t), []) else none | _ => none, need := ["internal/bytealg.MaxLen"] }
attribute [go_sem] spBodyOf
theorem spBodyOf_in {ins : List V} {r : V} {outs : List V} (h : spBodyOf.run ins = some (r, outs)) : ∃ (t : (List UInt8)), ins = [.str t] ∧ (t.length ≤ 4194304) ∧ .str (bodyT t) = r ∧ outs = [] := by
  unfold spBodyOf at h
  simp only at h
  split at h
  · rename_i t
    split at h
    case isFalse => cases h
    rename_i hc
    simp only [Option.some.injEq, Prod.mk.injEq] at h
    obtain ⟨h1, h2⟩ := h
    exact ⟨t, rfl, hc, h1, h2.symm⟩
  · cases h
def T_impl_BodyOf : Hints := ⟨fun _ => none, fun _ => none, fun i => if i = 0 then some [0] else if i = 1 then some [0, 3, 4] else if i = 2 then some [0, 3, 13] else if i = 3 then some [2] else if i = 4 then some [6] else if i = 5 then some [2] else none, fun _ => none⟩
noncomputable def Phi_impl_BodyOf : Tab := fun f => if f = 29 then some spCutPrefix else if f = 31 then some spCut else none
attribute [go_sem] T_impl_BodyOf Phi_impl_BodyOf
theorem phi_impl_BodyOf : ∀ f sp, Phi_impl_BodyOf f = some sp → FnOk Tryd.prog f sp ∧ ∀ n ∈ sp.need, n ∈ (["internal/bytealg.MaxLen"] : List String) := by
  intro f sp h
  unfold Phi_impl_BodyOf at h
  by_cases e : f = 29
  · rw [if_pos e] at h; cases h; rw [e]; exact ⟨ok_strings_CutPrefix, (fun n (h : n ∈ ([] : List String)) => (nomatch h))⟩
  rw [if_neg e] at h
  by_cases e : f = 31
  · rw [if_pos e] at h; cases h; rw [e]; exact ⟨ok_strings_Cut, (fun n (h : n ∈ (["internal/bytealg.MaxLen"] : List String)) => by simp only [List.mem_cons, List.not_mem_nil, or_false] at h; rcases h with rfl <;> simp)⟩
  rw [if_neg e] at h
  cases h
theorem ok_impl_BodyOf : FnOk Tryd.prog 10 spBodyOf := by
  refine fn_ok (Φ := Phi_impl_BodyOf) (T := T_impl_BodyOf) phi_impl_BodyOf mixed Tryd.func10 rfl rfl rfl (by decide) ?_
  intro ins r outs hr hl
  clear hl
  have hs := spBodyOf_in hr
  clear hr
  obtain ⟨t, rfl, hc, hr, rfl⟩ := hs
  simp only [spBodyOf, Tryd.f10, Go.VM.initS]
  have h1 : t.length ≤ 1099511627776 := by omega
  match t, hc, h1, hr with
  | [], hc, h1, hr =>
    have e : cut2 [] [10, 10] = [] := by simp [cut2]
    have e1 : bodyT [] = [] := rfl
    rw [e1] at hr
    simp only [hc, h1, e, List.isPrefixOf, go_sem]
    repeat' ((first | ((first | apply qa | apply qb | apply qc | apply qd | apply qe | apply qf | apply qg | apply qh | apply qi | apply qj | apply qk) <;> intro hp) | ((first | refine ql rfl rfl (by decide +kernel) ?_ | refine qm _ rfl rfl (by decide +kernel) ?_ | refine goes_opn rfl ?_ | refine goes_opnD rfl rfl (by decide +kernel) ?_) <;> have hp := True.intro)) <;> simp only [hp, hc, h1, e, List.isPrefixOf, go_sem])
    simp only [fin_mk, finV, resL, resV1, resIn, endA, listIn, Option.some_or, Option.none_or, oneOrTup, go_sem]
    rw [← hr]
  | b :: s, hc, h1, hr =>
    by_cases hb : b = 10
    · subst hb
      have e : bodyT (10 :: s) = s := rfl
      rw [e] at hr
      have p1 : ([10] : List UInt8).isPrefixOf (10 :: s) = true := rfl
      have p2 : cutPrefix (10 :: s) [10] = s := rfl
      generalize hX : (10 :: s : List UInt8) = X at *
      simp only [hc, h1, p1, p2, go_sem]
      repeat' ((first | ((first | apply qa | apply qb | apply qc | apply qd | apply qe | apply qf | apply qg | apply qh | apply qi | apply qj | apply qk) <;> intro hp) | ((first | refine ql rfl rfl (by decide +kernel) ?_ | refine qm _ rfl rfl (by decide +kernel) ?_ | refine goes_opn rfl ?_ | refine goes_opnD rfl rfl (by decide +kernel) ?_) <;> have hp := True.intro)) <;> simp only [hp, hc, h1, p1, p2, go_sem])
      simp only [fin_mk, finV, resL, resV1, resIn, endA, listIn, Option.some_or, Option.none_or, oneOrTup, go_sem]
      rw [← hr]
    · have hb' : ¬ (10 : UInt8) = b := fun e => hb e.symm
      have p1 : ([10] : List UInt8).isPrefixOf (b :: s) = false := by simp [List.isPrefixOf, hb']
      have e : bodyT (b :: s) = cut2 (b :: s) [10, 10] := by rw [← bodyG_cut, bodyT]; simp [bodyG, hb]
      rw [e] at hr
      generalize hX : (b :: s : List UInt8) = X at *
      simp only [hc, h1, p1, go_sem]
      repeat' ((first | ((first | apply qa | apply qb | apply qc | apply qd | apply qe | apply qf | apply qg | apply qh | apply qi | apply qj | apply qk) <;> intro hp) | ((first | refine ql rfl rfl (by decide +kernel) ?_ | refine qm _ rfl rfl (by decide +kernel) ?_ | refine goes_opn rfl ?_ | refine goes_opnD rfl rfl (by decide +kernel) ?_) <;> have hp := True.intro)) <;> simp only [hp, hc, h1, p1, go_sem])
      simp only [fin_mk, finV, resL, resV1, resIn, endA, listIn, Option.some_or, Option.none_or, oneOrTup, go_sem]
      rw [← hr]
def T_spec_BodyOf : Hints := ⟨fun _ => none, fun i => if i = 2 then some [0, 3] else none, fun i => if i = 0 then some [0] else if i = 1 then some [0, 3] else if i = 2 then some [0, 4, 5] else if i = 3 then some [0, 4, 5, 13] else if i = 4 then some [2] else if i = 5 then some [0, 5, 15] else if i = 6 then some [2] else if i = 7 then some [0, 3] else none, fun _ => none⟩
noncomputable def Phi_spec_BodyOf : Tab := fun f => if f = 39 then some spLine else none
attribute [go_sem] T_spec_BodyOf Phi_spec_BodyOf
theorem phi_spec_BodyOf : ∀ f sp, Phi_spec_BodyOf f = some sp → FnOk Tryd.prog f sp ∧ ∀ n ∈ sp.need, n ∈ (["internal/bytealg.MaxLen"] : List String) := by
  intro f sp h
  unfold Phi_spec_BodyOf at h
  by_cases e : f = 39
  · rw [if_pos e] at h; cases h; rw [e]; exact ⟨ok_spec_l07Line, (fun n (h : n ∈ ([] : List String)) => (nomatch h))⟩
  rw [if_neg e] at h
  cases h
theorem ok_spec_BodyOf : FnOk Tryd.prog 21 spBodyOf := by
  refine fn_ok (Φ := Phi_spec_BodyOf) (T := T_spec_BodyOf) phi_spec_BodyOf mixed Tryd.func21 rfl rfl rfl (by decide) ?_
  intro ins r outs hr hl
  clear hl
  have hs := spBodyOf_in hr
  clear hr
  obtain ⟨t, rfl, hc, hr, rfl⟩ := hs
  simp only [spBodyOf, Tryd.f21, Go.VM.initS]
  simp only [go_sem]
  repeat' ((first | ((first | apply qa | apply qb | apply qc | apply qd | apply qe | apply qf | apply qg | apply qh | apply qi | apply qj | apply qk) <;> intro hp) | ((first | refine ql rfl rfl (by decide +kernel) ?_ | refine qm _ rfl rfl (by decide +kernel) ?_ | refine goes_opn rfl ?_ | refine goes_opnD rfl rfl (by decide +kernel) ?_) <;> have hp := True.intro)) <;> simp only [hp, go_sem])
  refine loop_go (fun a : Nat => [(3, .int .i64 (a : Int))]) (fun _ => []) (fun a => t.length - a) (fun a => a ≤ t.length ∧ bodyG true (t.drop a) = bodyT t) 0 ⟨Nat.zero_le _, rfl⟩ rfl rfl ?_
  intro a ⟨ha, he⟩ ih
  have g0 : (0 : Int) ≤ a := by omega
  rcases Nat.lt_or_ge a t.length with h | h
  · have hN : ¬ t.length ≤ a := by omega
    by_cases hb : t[a] = 10
    · have hd : t.drop a = t[a] :: t.drop (a + 1) := List.drop_eq_getElem_cons h
      have hL : lineAt t a = [] := by rw [lineAt, hd, hb]; simp [notB, List.takeWhile_cons]
      have hX : nextAt t a = ((a + 1 : Nat) : Int) := by
        rw [nextAt, if_neg hN, hL, hd, hb, if_pos (by simp)]; rfl
      have hB : bodyT t = t.drop (a + 1) := by rw [← he, hd, hb]; rfl
      rw [hB] at hr
      have g1 : ¬ ((a + 1 : Nat) : Int) < 0 := by omega
      have g2 : (0 : Int) ≤ ((a + 1 : Nat) : Int) := by omega
      have g3 : a + 1 ≤ t.length := h
      simp only [hc, g0, hL, hX, g1, g2, g3, Int.toNat_natCast, Nat.le_refl, List.take_length, go_sem]
      repeat' ((first | ((first | apply qa | apply qb | apply qc | apply qd | apply qe | apply qf | apply qg | apply qh | apply qi | apply qj | apply qk) <;> intro hp) | ((first | refine ql rfl rfl (by decide +kernel) ?_ | refine qm _ rfl rfl (by decide +kernel) ?_ | refine goes_opn rfl ?_ | refine goes_opnD rfl rfl (by decide +kernel) ?_) <;> have hp := True.intro)) <;> simp only [hp, hc, g0, hL, hX, g1, g2, g3, Int.toNat_natCast, Nat.le_refl, List.take_length, go_sem])
      simp only [fin_mk, finV, resL, resV1, resIn, endA, listIn, Option.some_or, Option.none_or, oneOrTup, go_sem]
      rw [← hr]
    · have hd : t.drop a = t[a] :: t.drop (a + 1) := List.drop_eq_getElem_cons h
      have hn : notB 10 t[a] = true := by simp [notB, hb]
      have hL : lineAt t a = t[a] :: (t.drop (a + 1)).takeWhile (notB 10) := by rw [lineAt, hd, List.takeWhile_cons, if_pos hn]
      have hLn : (lineAt t a == []) = false := by rw [hL]; rfl
      have hs : bodyG true (t.drop (a + (lineAt t a).length + 1)) = bodyT t := by
        rw [← he, hd, show bodyG true (t[a] :: t.drop (a + 1)) = bodyG false (t.drop (a + 1)) by simp [bodyG, hb], bodyG_line, hL, List.drop_drop, List.length_cons]
        congr 2; omega
      have hpos : 0 < (lineAt t a).length := by rw [hL]; simp
      have hlen : (lineAt t a).length ≤ t.length - a := by
        have := (List.takeWhile_sublist (l := t.drop a) (notB 10)).length_le
        rw [List.length_drop] at this; exact this
      by_cases hm : (10 : UInt8) ∈ t.drop a
      · have hX : nextAt t a = ((a + (lineAt t a).length + 1 : Nat) : Int) := by rw [nextAt, if_neg hN, if_pos hm]
        have hle : a + (lineAt t a).length + 1 ≤ t.length := by
          rcases Nat.lt_or_ge (lineAt t a).length (t.length - a) with q | q
          · omega
          · exfalso
            have hall : ∀ x ∈ t.drop a, notB 10 x = true := by
              have hsub : lineAt t a = t.drop a := (List.takeWhile_sublist (l := t.drop a) (notB 10)).eq_of_length_le (by rw [List.length_drop]; exact q)
              intro x hx
              rw [← hsub] at hx
              exact takeWhile_mem hx
            have := hall 10 hm
            simp [notB] at this
        have ih' := ih (a + (lineAt t a).length + 1) ⟨hle, hs⟩ (by omega)
        have g1 : ¬ ((a + (lineAt t a).length + 1 : Nat) : Int) < 0 := by omega
        simp only [hc, g0, hLn, hX, g1, Int.toNat_natCast, go_sem]
        repeat' ((first | ((first | apply qa | apply qb | apply qc | apply qd | apply qe | apply qf | apply qg | apply qh | apply qi | apply qj | apply qk) <;> intro hp) | ((first | refine ql rfl rfl (by decide +kernel) ?_ | refine qm _ rfl rfl (by decide +kernel) ?_ | refine goes_opn rfl ?_ | refine goes_opnD rfl rfl (by decide +kernel) ?_) <;> have hp := True.intro)) <;> simp only [hp, hc, g0, hLn, hX, g1, Int.toNat_natCast, go_sem])
        exact ih'
      · have hX : nextAt t a = (t.length : Int) := by rw [nextAt, if_neg hN, if_neg hm]
        have hz : bodyG true (t.drop t.length) = bodyT t := by
          rw [List.drop_length, ← hs]
          have hw : lineAt t a = t.drop a := takeWhile_all fun x hx => by simp only [notB, bne_iff_ne]; rintro rfl; exact hm hx
          rw [hw, List.length_drop, List.drop_of_length_le (by omega)]
        have ih' := ih t.length ⟨Nat.le_refl _, hz⟩ (by omega)
        have g1 : ¬ (t.length : Int) < 0 := by omega
        simp only [hc, g0, hLn, hX, g1, Int.toNat_natCast, go_sem]
        repeat' ((first | ((first | apply qa | apply qb | apply qc | apply qd | apply qe | apply qf | apply qg | apply qh | apply qi | apply qj | apply qk) <;> intro hp) | ((first | refine ql rfl rfl (by decide +kernel) ?_ | refine qm _ rfl rfl (by decide +kernel) ?_ | refine goes_opn rfl ?_ | refine goes_opnD rfl rfl (by decide +kernel) ?_) <;> have hp := True.intro)) <;> simp only [hp, hc, g0, hLn, hX, g1, Int.toNat_natCast, go_sem])
        exact ih'
  · have hX : nextAt t a = -1 := by rw [nextAt, if_pos h]
    have hB : bodyT t = [] := by rw [← he, List.drop_of_length_le h]; rfl
    rw [hB] at hr
    simp only [hc, g0, hX, Int.toNat_natCast, go_sem]
    repeat' ((first | ((first | apply qa | apply qb | apply qc | apply qd | apply qe | apply qf | apply qg | apply qh | apply qi | apply qj | apply qk) <;> intro hp) | ((first | refine ql rfl rfl (by decide +kernel) ?_ | refine qm _ rfl rfl (by decide +kernel) ?_ | refine goes_opn rfl ?_ | refine goes_opnD rfl rfl (by decide +kernel) ?_) <;> have hp := True.intro)) <;> simp only [hp, hc, g0, hX, Int.toNat_natCast, go_sem])
    simp only [fin_mk, finV, resL, resV1, resIn, endA, listIn, Option.some_or, Option.none_or, oneOrTup, go_sem]
    rw [← hr]
end Go.Proofs.YtknagbmhmjcnkaaDoor.L
