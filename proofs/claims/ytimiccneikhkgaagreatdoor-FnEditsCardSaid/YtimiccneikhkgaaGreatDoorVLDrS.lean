/- Drawn bytes, spoilt texts, texts of edits. -/
import Derived.Test.YtimiccneikhkgaaGreatDoorVLDrE
import Derived.Test.YtimiccneikhkgaaGreatDoorVLT3
namespace Go.Proofs.YtimiccneikhkgaaGreatDoor.L
open Go Go.VM
set_option maxRecDepth 100000
set_option maxHeartbeats 4000000
set_option linter.unusedSimpArgs false
set_option linter.unusedVariables false
def textL : Nat → Cur → List UInt8 → List UInt8 × Cur
  | 0, c, a => (a, c)
  | k + 1, c, a => textL k (bytO c).2 (a ++ [UInt8.ofNat (bytO c).1.toNat])
theorem textL_in : ∀ (k : Nat) {c : Cur} {a : List UInt8}, curI c → (textL k c a).1.length = a.length + k ∧ curI (textL k c a).2
  | 0, c, a, h => ⟨rfl, h⟩
  | k + 1, c, a, h => by
    have h1 := bytO_in h
    have h2 := textL_in k (a := a ++ [UInt8.ofNat (bytO c).1.toNat]) h1.1
    rw [textL]
    exact ⟨by rw [h2.1, List.length_append]; simp; omega, h2.2⟩
open Classical in
noncomputable def spText : VM.Spec := { modes := [.ptr, .rd], run := fun | [.rptr (c'), .int .i64 n] => (Cur.dec c').bind fun c => if curI c ∧ 0 ≤ n ∧ n ≤ 5000 then some (.str ((textL n.toNat c []).1), [.rptr (Cur.enc ((textL n.toNat c []).2))]) else none | _ => none, need := [] }
attribute [go_sem] spText
theorem spText_in {ins : List V} {r : V} {outs : List V} (h : spText.run ins = some (r, outs)) : ∃ (c : Cur) (n : Int), ins = [.rptr (Cur.enc c), .int .i64 n] ∧ (curI c ∧ 0 ≤ n ∧ n ≤ 5000) ∧ .str ((textL n.toNat c []).1) = r ∧ outs = [.rptr (Cur.enc ((textL n.toNat c []).2))] := by
  unfold spText at h
  simp only at h
  split at h
  · rename_i c' n
    simp only [Option.bind_eq_some_iff] at h
    obtain ⟨c, h_c, h⟩ := h
    split at h
    case isFalse => cases h
    rename_i hc
    simp only [Option.some.injEq, Prod.mk.injEq] at h
    obtain ⟨h1, h2⟩ := h
    have h_c := Cur.dec_some h_c
    subst h_c
    exact ⟨c, n, rfl, hc, h1, h2.symm⟩
  · cases h
def T_spec_l01Text : Hints := ⟨fun _ => none, fun i => if i = 5 then some [0, 1, 5, 6] else none, fun i => if i = 0 then some [0, 1] else if i = 1 then some [0, 1, 8] else if i = 2 then some [0, 1] else if i = 3 then some [0, 1, 5] else if i = 4 then some [0, 1, 5, 6] else if i = 5 then some [0, 1, 5, 6, 12] else if i = 7 then some [0, 1, 5, 6] else if i = 6 then some [0, 1, 5, 6] else if i = 8 then some [4] else none, fun _ => none⟩
noncomputable def Phi_spec_l01Text : Tab := fun f => if f = 108 then some spByte else none
attribute [go_sem] T_spec_l01Text Phi_spec_l01Text
theorem phi_spec_l01Text : ∀ f sp, Phi_spec_l01Text f = some sp → FnOk Tryz.prog f sp ∧ ∀ n ∈ sp.need, n ∈ ([] : List String) := by
  intro f sp h
  unfold Phi_spec_l01Text at h
  by_cases e : f = 108
  · rw [if_pos e] at h; cases h; rw [e]; exact ⟨ok_spec_l01Byte, (fun n (h : n ∈ ([] : List String)) => (nomatch h))⟩
  rw [if_neg e] at h
  cases h
theorem ok_spec_l01Text : FnOk Tryz.prog 112 spText := by
  refine fn_ok (Φ := Phi_spec_l01Text) (T := T_spec_l01Text) phi_spec_l01Text mixed Tryz.func112 rfl rfl rfl (by decide) ?_
  intro ins r outs hr hl
  clear hl
  have hs := spText_in hr
  clear hr
  obtain ⟨c, n, rfl, hc, hr, rfl⟩ := hs
  simp only [spText, Tryz.f112, Go.VM.initS]
  obtain ⟨hc, h0, h1⟩ := hc
  obtain ⟨k, rfl⟩ : ∃ k : Nat, n = k := ⟨n.toNat, by omega⟩
  simp only [Int.toNat_natCast] at hr
  obtain ⟨R, hR⟩ : ∃ R, textL k c [] = R := ⟨_, rfl⟩
  rw [hR] at hr
  have g0 : ¬ (5000 : Int) < k := by omega
  simp only [g0, hR, Int.toNat_natCast, go_sem]
  repeat' ((first | ((first | apply qa | apply qb | apply qc | apply qd | apply qe | apply qf | apply qg | apply qh | apply qi | apply qj | apply qk) <;> intro hp) | ((first | refine ql rfl rfl (by decide +kernel) ?_ | refine qm _ rfl rfl (by decide +kernel) ?_ | refine goes_opn rfl ?_ | refine goes_opnD rfl rfl (by decide +kernel) ?_) <;> have hp := True.intro)) <;> simp only [hp, g0, hR, Int.toNat_natCast, go_sem])
  refine loop_go (fun p : Nat × Cur × List UInt8 => [(6, .int .i64 (p.1 : Int))]) (fun p => [(0, ⟨.box, 3, [p.2.1.enc]⟩), (1, ⟨.arr, 1, bytesV p.2.2⟩)]) (fun p => k - p.1) (fun p => p.1 ≤ k ∧ curI p.2.1 ∧ p.2.2.length = p.1 ∧ textL (k - p.1) p.2.1 p.2.2 = R) (0, c, []) ⟨Nat.zero_le _, hc, rfl, hR⟩ rfl rfl ?_
  rintro ⟨i, d, a⟩ ⟨hi, hd, hl, he⟩ ih
  simp only at hi hd hl he ih
  have b1 := bytO_in hd
  rcases Nat.lt_or_ge i k with h | h
  · have g1 : (i : Int) < k := by omega
    have g5 := wrap_succ h (by omega)
    rw [show k - i = (k - (i + 1)) + 1 by omega, textL] at he
    obtain ⟨⟨v1, c1⟩, e1⟩ : ∃ x, bytO d = x := ⟨_, rfl⟩
    rw [e1] at b1 he
    simp only at b1 he
    obtain ⟨m, rfl⟩ : ∃ m : Nat, v1 = m := ⟨v1.toNat, by omega⟩
    simp only [Int.toNat_natCast] at he
    have g4 := app_u8 a (u8_of (n := m) (by omega))
    have hlen : a.length ≤ 9223372036854775806 := by omega
    have hlen2 : a.length ≤ 140737488355327 := by omega
    have ih' := ih (i + 1, c1, a ++ [UInt8.ofNat m]) ⟨h, b1.1, by simp [hl], he⟩ (by simp only; omega)
    simp only at ih'
    simp only [hd, e1, b1.1, g1, g4, g5, hlen, hlen2, go_sem]
    repeat' ((first | ((first | apply qa | apply qb | apply qc | apply qd | apply qe | apply qf | apply qg | apply qh | apply qi | apply qj | apply qk) <;> intro hp) | ((first | refine ql rfl rfl (by decide +kernel) ?_ | refine qm _ rfl rfl (by decide +kernel) ?_ | refine goes_opn rfl ?_ | refine goes_opnD rfl rfl (by decide +kernel) ?_) <;> have hp := True.intro)) <;> simp only [hp, hd, e1, b1.1, g1, g4, g5, hlen, hlen2, go_sem])
    exact ih'
  · have hk : k - i = 0 := by omega
    rw [hk, textL] at he
    have g1 : ¬ (i : Int) < k := by omega
    simp only [g1, go_sem]
    repeat' ((first | ((first | apply qa | apply qb | apply qc | apply qd | apply qe | apply qf | apply qg | apply qh | apply qi | apply qj | apply qk) <;> intro hp) | ((first | refine ql rfl rfl (by decide +kernel) ?_ | refine qm _ rfl rfl (by decide +kernel) ?_ | refine goes_opn rfl ?_ | refine goes_opnD rfl rfl (by decide +kernel) ?_) <;> have hp := True.intro)) <;> simp only [hp, g1, go_sem])
    simp only [fin_mk, finV, resL, resV1, resIn, endA, listIn, Option.some_or, Option.none_or, oneOrTup, go_sem]
    rw [← hr]
    rw [← he]
def spoil (c : Cur) (s : List UInt8) : List UInt8 × Cur :=
  let k := belO c 12
  if k.1 = 0 then (s ++ (textL 1 k.2 []).1, (textL 1 k.2 []).2) else
  if k.1 = 1 then (s.take (belO k.2 ((s.length + 1 : Nat) : Int)).1.toNat, (belO k.2 ((s.length + 1 : Nat) : Int)).2) else
  if (k.1 = 2 ∨ k.1 = 3) ∧ s ≠ [] then (s.take (belO k.2 s.length).1.toNat ++ (textL 1 (belO k.2 s.length).2 []).1 ++ s.drop ((belO k.2 s.length).1.toNat + 1), (textL 1 (belO k.2 s.length).2 []).2) else (s, k.2)
theorem spoil_in {c : Cur} {s : List UInt8} (h : curI c) : (spoil c s).1.length ≤ s.length + 1 ∧ curI (spoil c s).2 := by
  have h1 := belO_in (n := 12) h
  have h2 := textL_in 1 (a := []) h1.1
  have h3 := belO_in (n := ((s.length + 1 : Nat) : Int)) h1.1
  have h4 := belO_in (n := (s.length : Int)) h1.1
  have h5 := textL_in 1 (a := []) h4.1
  unfold spoil
  simp only
  split
  · exact ⟨by simp only [List.length_append, h2.1]; simp, h2.2⟩
  · split
    · exact ⟨by simp only [List.length_take]; omega, h3.1⟩
    · split
      · rename_i hh
        have h6 := h4.2.2 (by have := List.length_pos_iff.2 hh.2; omega)
        exact ⟨by simp only [List.length_append, List.length_take, List.length_drop, h5.1]; simp; omega, h5.2⟩
      · exact ⟨by simp only; omega, h1.1⟩
open Classical in
noncomputable def spSpoil : VM.Spec := { modes := [.ptr, .rd], run := fun | [.rptr (c'), .str s] => (Cur.dec c').bind fun c => if curI c ∧ s.length ≤ 4194304 then some (.str ((spoil c s).1), [.rptr (Cur.enc ((spoil c s).2))]) else none | _ => none, need := [] }
attribute [go_sem] spSpoil
theorem spSpoil_in {ins : List V} {r : V} {outs : List V} (h : spSpoil.run ins = some (r, outs)) : ∃ (c : Cur) (s : (List UInt8)), ins = [.rptr (Cur.enc c), .str s] ∧ (curI c ∧ s.length ≤ 4194304) ∧ .str ((spoil c s).1) = r ∧ outs = [.rptr (Cur.enc ((spoil c s).2))] := by
  unfold spSpoil at h
  simp only at h
  split at h
  · rename_i c' s
    simp only [Option.bind_eq_some_iff] at h
    obtain ⟨c, h_c, h⟩ := h
    split at h
    case isFalse => cases h
    rename_i hc
    simp only [Option.some.injEq, Prod.mk.injEq] at h
    obtain ⟨h1, h2⟩ := h
    have h_c := Cur.dec_some h_c
    subst h_c
    exact ⟨c, s, rfl, hc, h1, h2.symm⟩
  · cases h
def T_spec_l02Spoilt : Hints := ⟨fun i => if i = 10 then some [(2, 4), (4, 9)] else none, fun _ => none, fun i => if i = 0 then some [0, 1] else if i = 1 then some [0, 1, 7] else if i = 2 then some [0, 1, 7, 8] else if i = 3 then some [4] else if i = 4 then some [0, 1, 7, 14] else if i = 5 then some [4] else if i = 6 then some [0, 1, 7, 23] else if i = 7 then some [0, 1, 23] else if i = 8 then some [0, 1, 28] else if i = 9 then some [0, 1, 5] else if i = 10 then some [4] else if i = 11 then some [4] else none, fun _ => none⟩
noncomputable def Phi_spec_l02Spoilt : Tab := fun f => if f = 46 then some spBelow else if f = 112 then some spText else none
attribute [go_sem] T_spec_l02Spoilt Phi_spec_l02Spoilt
theorem phi_spec_l02Spoilt : ∀ f sp, Phi_spec_l02Spoilt f = some sp → FnOk Tryz.prog f sp ∧ ∀ n ∈ sp.need, n ∈ ([] : List String) := by
  intro f sp h
  unfold Phi_spec_l02Spoilt at h
  by_cases e : f = 46
  · rw [if_pos e] at h; cases h; rw [e]; exact ⟨ok_spec_l01Below, (fun n (h : n ∈ ([] : List String)) => (nomatch h))⟩
  rw [if_neg e] at h
  by_cases e : f = 112
  · rw [if_pos e] at h; cases h; rw [e]; exact ⟨ok_spec_l01Text, (fun n (h : n ∈ ([] : List String)) => (nomatch h))⟩
  rw [if_neg e] at h
  cases h
theorem ok_spec_l02Spoilt : FnOk Tryz.prog 48 spSpoil := by
  refine fn_ok (Φ := Phi_spec_l02Spoilt) (T := T_spec_l02Spoilt) phi_spec_l02Spoilt mixed Tryz.func48 rfl rfl rfl (by decide) ?_
  intro ins r outs hr hl
  clear hl
  have hs := spSpoil_in hr
  clear hr
  obtain ⟨c, s, rfl, hc, hr, rfl⟩ := hs
  simp only [spSpoil, Tryz.f48, Go.VM.initS]
  obtain ⟨hc, hs⟩ := hc
  have h1 := belO_in (n := 12) hc
  obtain ⟨⟨k, d⟩, e1⟩ : ∃ x, belO c 12 = x := ⟨_, rfl⟩
  rw [e1] at h1
  simp only at h1
  have h2 := textL_in 1 (a := []) h1.1
  have t1 : ((1 : Int)).toNat = 1 := rfl
  have t2 : (0 : Int) ≤ 1 := by decide
  have t3 : (1 : Int) ≤ 5000 := by decide
  by_cases k0 : k = 0
  · subst k0
    have e : spoil c s = (s ++ (textL 1 d []).1, (textL 1 d []).2) := by simp [spoil, e1]
    rw [e] at hr
    have l1 : s.length + (textL 1 d []).1.length ≤ 9223372036854775807 := by rw [h2.1]; simp; omega
    simp only [hc, e1, h1.1, t1, t2, t3, l1, go_sem]
    repeat' ((first | ((first | apply qa | apply qb | apply qc | apply qd | apply qe | apply qf | apply qg | apply qh | apply qi | apply qj | apply qk) <;> intro hp) | ((first | refine ql rfl rfl (by decide +kernel) ?_ | refine qm _ rfl rfl (by decide +kernel) ?_ | refine goes_opn rfl ?_ | refine goes_opnD rfl rfl (by decide +kernel) ?_) <;> have hp := True.intro)) <;> simp only [hp, hc, e1, h1.1, t1, t2, t3, l1, go_sem])
    simp only [fin_mk, finV, resL, resV1, resIn, endA, listIn, Option.some_or, Option.none_or, oneOrTup, go_sem]
    rw [← hr]
    first | rfl | (simp only [e]; rfl) | simp only [e]
  by_cases k1 : k = 1
  · subst k1
    have w1 : IntKind.i64.wrap ((s.length : Int) + 1) = ((s.length + 1 : Nat) : Int) := (wrap64 (by omega) (by omega)).trans (by omega)
    have h3 := belO_in (n := ((s.length + 1 : Nat) : Int)) h1.1
    obtain ⟨⟨v, d2⟩, e2⟩ : ∃ x, belO d ((s.length + 1 : Nat) : Int) = x := ⟨_, rfl⟩
    rw [e2] at h3
    have h4 := h3.2.2 (by omega)
    simp only at h3 h4
    obtain ⟨m, rfl⟩ : ∃ m : Nat, v = m := ⟨v.toNat, by omega⟩
    have e : spoil c s = (s.take m, d2) := by simp only [spoil, e1, Int.reduceEq, if_true, if_false, e2, Int.toNat_natCast]
    rw [e] at hr
    have l0 : (0 : Int) ≤ m := by omega
    have l1 : m ≤ s.length := by omega
    simp only [hc, e1, e2, h1.1, w1, l0, l1, Nat.zero_le, Nat.sub_zero, List.drop_zero, go_sem]
    repeat' ((first | ((first | apply qa | apply qb | apply qc | apply qd | apply qe | apply qf | apply qg | apply qh | apply qi | apply qj | apply qk) <;> intro hp) | ((first | refine ql rfl rfl (by decide +kernel) ?_ | refine qm _ rfl rfl (by decide +kernel) ?_ | refine goes_opn rfl ?_ | refine goes_opnD rfl rfl (by decide +kernel) ?_) <;> have hp := True.intro)) <;> simp only [hp, hc, e1, e2, h1.1, w1, l0, l1, Nat.zero_le, Nat.sub_zero, List.drop_zero, go_sem])
    simp only [fin_mk, finV, resL, resV1, resIn, endA, listIn, Option.some_or, Option.none_or, oneOrTup, go_sem]
    rw [← hr]
    first | rfl | (simp only [e]; rfl) | simp only [e]
  have n0 : (k == 0) = false := beq_eq_false_iff_ne.2 k0
  have n1 : (k == 1) = false := beq_eq_false_iff_ne.2 k1
  by_cases hse : s = []
  · subst hse
    have e : spoil c [] = ([], d) := by simp [spoil, e1, k0, k1]
    rw [e] at hr
    have z0 : ¬ (0 : Int) < (((0 : Nat)) : Int) := by decide
    by_cases k2 : k = 2
    · subst k2
      simp only [hc, e1, h1.1, z0, List.length_nil, go_sem]
      repeat' ((first | ((first | apply qa | apply qb | apply qc | apply qd | apply qe | apply qf | apply qg | apply qh | apply qi | apply qj | apply qk) <;> intro hp) | ((first | refine ql rfl rfl (by decide +kernel) ?_ | refine qm _ rfl rfl (by decide +kernel) ?_ | refine goes_opn rfl ?_ | refine goes_opnD rfl rfl (by decide +kernel) ?_) <;> have hp := True.intro)) <;> simp only [hp, hc, e1, h1.1, z0, List.length_nil, go_sem])
      all_goals (simp only [fin_mk, finV, resL, resV1, resIn, endA, listIn, Option.some_or, Option.none_or, oneOrTup, go_sem]; rw [← hr])
      all_goals first | rfl | (simp only [e]; rfl) | simp only [e]
    have n2 : (k == 2) = false := beq_eq_false_iff_ne.2 k2
    by_cases k3 : k = 3
    · subst k3
      simp only [hc, e1, h1.1, z0, List.length_nil, go_sem]
      repeat' ((first | ((first | apply qa | apply qb | apply qc | apply qd | apply qe | apply qf | apply qg | apply qh | apply qi | apply qj | apply qk) <;> intro hp) | ((first | refine ql rfl rfl (by decide +kernel) ?_ | refine qm _ rfl rfl (by decide +kernel) ?_ | refine goes_opn rfl ?_ | refine goes_opnD rfl rfl (by decide +kernel) ?_) <;> have hp := True.intro)) <;> simp only [hp, hc, e1, h1.1, z0, List.length_nil, go_sem])
      all_goals (simp only [fin_mk, finV, resL, resV1, resIn, endA, listIn, Option.some_or, Option.none_or, oneOrTup, go_sem]; rw [← hr])
      all_goals first | rfl | (simp only [e]; rfl) | simp only [e]
    have n3 : (k == 3) = false := beq_eq_false_iff_ne.2 k3
    simp only [hc, e1, h1.1, n0, n1, n2, n3, go_sem]
    repeat' ((first | ((first | apply qa | apply qb | apply qc | apply qd | apply qe | apply qf | apply qg | apply qh | apply qi | apply qj | apply qk) <;> intro hp) | ((first | refine ql rfl rfl (by decide +kernel) ?_ | refine qm _ rfl rfl (by decide +kernel) ?_ | refine goes_opn rfl ?_ | refine goes_opnD rfl rfl (by decide +kernel) ?_) <;> have hp := True.intro)) <;> simp only [hp, hc, e1, h1.1, n0, n1, n2, n3, go_sem])
    simp only [fin_mk, finV, resL, resV1, resIn, endA, listIn, Option.some_or, Option.none_or, oneOrTup, go_sem]
    rw [← hr]
    first | rfl | (simp only [e]; rfl) | simp only [e]
  have hl0 : 0 < s.length := List.length_pos_iff.2 hse
  have hl : (0 : Int) < (s.length : Int) := by omega
  have h3 := belO_in (n := (s.length : Int)) h1.1
  have h4 := h3.2.2 (by omega)
  obtain ⟨⟨v, d2⟩, e2⟩ : ∃ x, belO d (s.length : Int) = x := ⟨_, rfl⟩
  rw [e2] at h3 h4
  simp only at h3 h4
  obtain ⟨m, rfl⟩ : ∃ m : Nat, v = m := ⟨v.toNat, by omega⟩
  have h5 := textL_in 1 (a := []) h3.1
  have w1 : IntKind.i64.wrap ((m : Int) + 1) = ((m + 1 : Nat) : Int) := (wrap64 (by omega) (by omega)).trans (by omega)
  have l0 : (0 : Int) ≤ m := by omega
  have l1 : m ≤ s.length := by omega
  have l2 : (0 : Int) ≤ ((m + 1 : Nat) : Int) := by omega
  have l3 : m + 1 ≤ s.length := by omega
  have l4 : m + (textL 1 d2 []).1.length ≤ 9223372036854775807 := by rw [h5.1]; simp; omega
  have l5 : m + ((textL 1 d2 []).1.length + (s.length - (m + 1))) ≤ 9223372036854775807 := by rw [h5.1]; simp; omega
  have l6 : m + (textL 1 d2 []).1.length + (s.length - (m + 1)) ≤ 9223372036854775807 := by rw [h5.1]; simp; omega
  have lt : (s.take m).length = m := by rw [List.length_take]; omega
  by_cases k2 : k = 2
  · subst k2
    have e : spoil c s = (s.take m ++ (textL 1 d2 []).1 ++ s.drop (m + 1), (textL 1 d2 []).2) := by simp [spoil, e1, e2, hse]
    rw [e] at hr
    simp only [hc, e1, e2, h1.1, h3.1, hl, w1, l0, l1, l2, l3, l4, l5, l6, lt, t1, t2, t3, Nat.zero_le, Nat.sub_zero, List.drop_zero, List.length_append, List.length_drop, Nat.le_refl, List.take_length, go_sem]
    repeat' ((first | ((first | apply qa | apply qb | apply qc | apply qd | apply qe | apply qf | apply qg | apply qh | apply qi | apply qj | apply qk) <;> intro hp) | ((first | refine ql rfl rfl (by decide +kernel) ?_ | refine qm _ rfl rfl (by decide +kernel) ?_ | refine goes_opn rfl ?_ | refine goes_opnD rfl rfl (by decide +kernel) ?_) <;> have hp := True.intro)) <;> simp only [hp, hc, e1, e2, h1.1, h3.1, hl, w1, l0, l1, l2, l3, l4, l5, l6, lt, t1, t2, t3, Nat.zero_le, Nat.sub_zero, List.drop_zero, List.length_append, List.length_drop, Nat.le_refl, List.take_length, go_sem])
    simp only [fin_mk, finV, resL, resV1, resIn, endA, listIn, Option.some_or, Option.none_or, oneOrTup, go_sem]
    rw [← hr]
    first | rfl | (simp only [e]; rfl) | simp only [e]
  by_cases k3 : k = 3
  · subst k3
    have e : spoil c s = (s.take m ++ (textL 1 d2 []).1 ++ s.drop (m + 1), (textL 1 d2 []).2) := by simp [spoil, e1, e2, hse]
    rw [e] at hr
    simp only [hc, e1, e2, h1.1, h3.1, hl, w1, l0, l1, l2, l3, l4, l5, l6, lt, t1, t2, t3, Nat.zero_le, Nat.sub_zero, List.drop_zero, List.length_append, List.length_drop, Nat.le_refl, List.take_length, go_sem]
    repeat' ((first | ((first | apply qa | apply qb | apply qc | apply qd | apply qe | apply qf | apply qg | apply qh | apply qi | apply qj | apply qk) <;> intro hp) | ((first | refine ql rfl rfl (by decide +kernel) ?_ | refine qm _ rfl rfl (by decide +kernel) ?_ | refine goes_opn rfl ?_ | refine goes_opnD rfl rfl (by decide +kernel) ?_) <;> have hp := True.intro)) <;> simp only [hp, hc, e1, e2, h1.1, h3.1, hl, w1, l0, l1, l2, l3, l4, l5, l6, lt, t1, t2, t3, Nat.zero_le, Nat.sub_zero, List.drop_zero, List.length_append, List.length_drop, Nat.le_refl, List.take_length, go_sem])
    simp only [fin_mk, finV, resL, resV1, resIn, endA, listIn, Option.some_or, Option.none_or, oneOrTup, go_sem]
    rw [← hr]
    first | rfl | (simp only [e]; rfl) | simp only [e]
  have n2 : (k == 2) = false := beq_eq_false_iff_ne.2 k2
  have n3 : (k == 3) = false := beq_eq_false_iff_ne.2 k3
  have e : spoil c s = (s, d) := by simp [spoil, e1, k0, k1, k2, k3]
  rw [e] at hr
  simp only [hc, e1, h1.1, n0, n1, n2, n3, go_sem]
  repeat' ((first | ((first | apply qa | apply qb | apply qc | apply qd | apply qe | apply qf | apply qg | apply qh | apply qi | apply qj | apply qk) <;> intro hp) | ((first | refine ql rfl rfl (by decide +kernel) ?_ | refine qm _ rfl rfl (by decide +kernel) ?_ | refine goes_opn rfl ?_ | refine goes_opnD rfl rfl (by decide +kernel) ?_) <;> have hp := True.intro)) <;> simp only [hp, hc, e1, h1.1, n0, n1, n2, n3, go_sem])
  simp only [fin_mk, finV, resL, resV1, resIn, endA, listIn, Option.some_or, Option.none_or, oneOrTup, go_sem]
  rw [← hr]
  first | rfl | (simp only [e]; rfl) | simp only [e]
theorem editText_len (e : Edit) : (editText e).length ≤ 2000 := by
  by_cases hk : editOk e = true
  · obtain ⟨⟨k1, k2⟩, hB, hT, hS, ⟨w1, w2⟩, ⟨b1, b2⟩, ⟨s1, s2⟩, hX⟩ := editOk_parts hk
    have hst := setText_len e.Set
    have v1 := varN_len e.Box.length
    have v2 := varN_len e.To.length
    have v3 := varN_len (setText e.Set).length
    have v4 := varN_len e.Text.length
    have v5 : (varN (e.Since + 1).toNat).length ≤ 5 := by
      have key : ∀ (k n : Nat), n < 128 ^ (k + 1) → (varN n).length ≤ k + 1 := by
        intro k
        induction k with
        | zero => intro n h; rw [varN_small (by omega)]; simp
        | succ k ih =>
          intro n h
          by_cases hb : 127 < n
          · rw [varN_big hb, List.length_cons]
            have := ih (n / 128) (by rw [Nat.pow_succ] at h; omega)
            omega
          · rw [varN_small hb]; simp
      exact key 4 _ (by show _ < 34359738368; omega)
    rw [editText, if_pos hk]
    simp only [short, List.length_append, List.length_cons, List.length_nil]
    omega
  · rw [editText, if_neg hk]; simp
def readEC (code : List Int) : Int × Cur := belO (cur0 code) 3
def readEA (code : List Int) : Edit × Cur := edAny (readEC code).2
def drawRE (code : List Int) : List UInt8 := if ((readEC code).1 == 0) = true then (spoil (readEA code).2 (editText (readEA code).1)).1 else editText (readEA code).1
theorem drawRE_len {code : List Int} (h : code.length ≤ 4194304) : (drawRE code).length ≤ 4194304 := by
  have i0 := cur0_in h
  have i1 := belO_in (n := 3) i0
  have i2 := edAny_in (c := (readEC code).2) i1.1
  have i3 := spoil_in (c := (readEA code).2) (s := editText (readEA code).1) i2.2
  have := editText_len (readEA code).1
  unfold drawRE
  split <;> omega
open Classical in
noncomputable def spDrawReadEdit : VM.Spec := { modes := [.rd], run := fun | [.lst 1 code'] => (decL dU8 code').bind fun code => if code.length ≤ 4194304 then some (.str (drawRE code), []) else none | _ => none, need := ["internal/strconv.uint64pow10"] }
attribute [go_sem] spDrawReadEdit
theorem spDrawReadEdit_in {ins : List V} {r : V} {outs : List V} (h : spDrawReadEdit.run ins = some (r, outs)) : ∃ (code : (List Int)), ins = [.lst 1 ((code).map eU8)] ∧ (code.length ≤ 4194304) ∧ .str (drawRE code) = r ∧ outs = [] := by
  unfold spDrawReadEdit at h
  simp only at h
  split at h
  · rename_i code'
    simp only [Option.bind_eq_some_iff] at h
    obtain ⟨code, h_code, h⟩ := h
    split at h
    case isFalse => cases h
    rename_i hc
    simp only [Option.some.injEq, Prod.mk.injEq] at h
    obtain ⟨h1, h2⟩ := h
    have h_code := decL_some (fun _ _ h => dU8_some h) h_code
    subst h_code
    exact ⟨code, rfl, hc, h1, h2.symm⟩
  · cases h
def T_spec_DrawReadEdit : Hints := ⟨fun _ => none, fun _ => none, fun i => if i = 0 then some [0] else if i = 1 then some [3] else if i = 2 then some [3, 4] else if i = 3 then some [3, 4, 5] else if i = 4 then some [3, 5, 18] else if i = 5 then some [2] else if i = 6 then some [2] else none, fun _ => none⟩
noncomputable def Phi_spec_DrawReadEdit : Tab := fun f => if f = 38 then some spNew else if f = 46 then some spBelow else if f = 37 then some spEdAny else if f = 47 then some spEditText else if f = 48 then some spSpoil else none
attribute [go_sem] T_spec_DrawReadEdit Phi_spec_DrawReadEdit
theorem phi_spec_DrawReadEdit : ∀ f sp, Phi_spec_DrawReadEdit f = some sp → FnOk Tryz.prog f sp ∧ ∀ n ∈ sp.need, n ∈ (["internal/strconv.uint64pow10"] : List String) := by
  intro f sp h
  unfold Phi_spec_DrawReadEdit at h
  by_cases e : f = 38
  · rw [if_pos e] at h; cases h; rw [e]; exact ⟨ok_spec_l01New, (fun n (h : n ∈ ([] : List String)) => (nomatch h))⟩
  rw [if_neg e] at h
  by_cases e : f = 46
  · rw [if_pos e] at h; cases h; rw [e]; exact ⟨ok_spec_l01Below, (fun n (h : n ∈ ([] : List String)) => (nomatch h))⟩
  rw [if_neg e] at h
  by_cases e : f = 37
  · rw [if_pos e] at h; cases h; rw [e]; exact ⟨ok_spec_l10Any, (fun n (h : n ∈ ([] : List String)) => (nomatch h))⟩
  rw [if_neg e] at h
  by_cases e : f = 47
  · rw [if_pos e] at h; cases h; rw [e]; exact ⟨ok_spec_EditText, (fun n (h : n ∈ (["internal/strconv.uint64pow10"] : List String)) => by simp only [List.mem_cons, List.not_mem_nil, or_false] at h; rcases h with rfl <;> simp)⟩
  rw [if_neg e] at h
  by_cases e : f = 48
  · rw [if_pos e] at h; cases h; rw [e]; exact ⟨ok_spec_l02Spoilt, (fun n (h : n ∈ ([] : List String)) => (nomatch h))⟩
  rw [if_neg e] at h
  cases h
theorem ok_spec_DrawReadEdit : FnOk Tryz.prog 10 spDrawReadEdit := by
  refine fn_ok (Φ := Phi_spec_DrawReadEdit) (T := T_spec_DrawReadEdit) phi_spec_DrawReadEdit mixed Tryz.func10 rfl rfl rfl (by decide) ?_
  intro ins r outs hr hl
  clear hl
  have hs := spDrawReadEdit_in hr
  clear hr
  obtain ⟨code, rfl, hc, hr, rfl⟩ := hs
  simp only [spDrawReadEdit, Tryz.f10, Go.VM.initS]
  have i0 := cur0_in hc
  have i1 := belO_in (n := 3) i0
  obtain ⟨⟨k, c1⟩, e1⟩ : ∃ x, belO (cur0 code) 3 = x := ⟨_, rfl⟩
  have i2 := edAny_in (c := c1) (by rw [e1] at i1; exact i1.1)
  have i2l := i2.1.le
  have f1 : readEC code = (k, c1) := e1
  obtain ⟨⟨E, c2⟩, e2⟩ : ∃ x, edAny c1 = x := ⟨_, rfl⟩
  have f2 : readEA code = (E, c2) := by rw [readEA, f1]; exact e2
  rw [e2] at i2 i2l
  rw [e1] at i1
  simp only at i1 i2 i2l
  have hl : (editText E).length ≤ 4194304 := by have := editText_len E; omega
  cases hk : (k == 0) with
  | true =>
    have e : drawRE code = (spoil c2 (editText E)).1 := by simp only [drawRE, f1, f2, hk, if_true]
    rw [e] at hr
    simp only [hc, i0, e1, i1.1, e2, i2.2, i2l, hl, hk, go_sem]
    repeat' ((first | ((first | apply qa | apply qb | apply qc | apply qd | apply qe | apply qf | apply qg | apply qh | apply qi | apply qj | apply qk) <;> intro hp) | ((first | refine ql rfl rfl (by decide +kernel) ?_ | refine qm _ rfl rfl (by decide +kernel) ?_ | refine goes_opn rfl ?_ | refine goes_opnD rfl rfl (by decide +kernel) ?_) <;> have hp := True.intro)) <;> simp only [hp, hc, i0, e1, i1.1, e2, i2.2, i2l, hl, hk, go_sem])
    simp only [fin_mk, finV, resL, resV1, resIn, endA, listIn, Option.some_or, Option.none_or, oneOrTup, go_sem]
    rw [← hr]
  | false =>
    have e : drawRE code = editText E := by simp only [drawRE, f1, f2, hk, Bool.false_eq_true, if_false]
    rw [e] at hr
    simp only [hc, i0, e1, i1.1, e2, i2.2, i2l, hl, hk, go_sem]
    repeat' ((first | ((first | apply qa | apply qb | apply qc | apply qd | apply qe | apply qf | apply qg | apply qh | apply qi | apply qj | apply qk) <;> intro hp) | ((first | refine ql rfl rfl (by decide +kernel) ?_ | refine qm _ rfl rfl (by decide +kernel) ?_ | refine goes_opn rfl ?_ | refine goes_opnD rfl rfl (by decide +kernel) ?_) <;> have hp := True.intro)) <;> simp only [hp, hc, i0, e1, i1.1, e2, i2.2, i2l, hl, hk, go_sem])
    simp only [fin_mk, finV, resL, resV1, resIn, endA, listIn, Option.some_or, Option.none_or, oneOrTup, go_sem]
    rw [← hr]
end Go.Proofs.YtimiccneikhkgaaGreatDoor.L
