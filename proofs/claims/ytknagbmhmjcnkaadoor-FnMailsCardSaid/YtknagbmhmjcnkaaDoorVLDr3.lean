/- Drawn texts. -/
import Derived.Test.YtknagbmhmjcnkaaDoorVLDr2
namespace Go.Proofs.YtknagbmhmjcnkaaDoor.L
open Go Go.VM
set_option maxRecDepth 100000
set_option maxHeartbeats 4000000
set_option linter.unusedSimpArgs false
set_option linter.unusedVariables false
theorem rep_set {i n : Nat} (h : i < n) : (List.replicate i (V.int .u8 97) ++ List.replicate (n - i) (V.int .u8 0)).set i (V.int .u8 97) = List.replicate (i + 1) (V.int .u8 97) ++ List.replicate (n - (i + 1)) (V.int .u8 0) := by
  obtain ⟨m, hm⟩ : ∃ m, n - i = m + 1 := ⟨n - i - 1, by omega⟩
  rw [hm, show n - (i + 1) = m by omega, List.set_append, if_neg (by simp), List.length_replicate, Nat.sub_self, List.replicate_succ (n := m), List.set_cons_zero, List.replicate_succ' (n := i), List.append_assoc]
  rfl
theorem rep_bytes (n : Nat) : List.replicate n (V.int .u8 97) = bytesV (List.replicate n 97) := by
  rw [bytesV, List.map_replicate]; rfl
open Classical in
noncomputable def spLong : VM.Spec := { modes := [.rd, .rd], run := fun | [.int .i64 n, .int .u8 x] => if 0 ≤ n ∧ n ≤ 1000 ∧ x = 97 then some (.str (List.replicate n.toNat 97), []) else none | _ => none, need := [] }
attribute [go_sem] spLong
theorem spLong_in {ins : List V} {r : V} {outs : List V} (h : spLong.run ins = some (r, outs)) : ∃ (n : Int) (x : Int), ins = [.int .i64 n, .int .u8 x] ∧ (0 ≤ n ∧ n ≤ 1000 ∧ x = 97) ∧ .str (List.replicate n.toNat 97) = r ∧ outs = [] := by
  unfold spLong at h
  simp only at h
  split at h
  · rename_i n x
    split at h
    case isFalse => cases h
    rename_i hc
    simp only [Option.some.injEq, Prod.mk.injEq] at h
    obtain ⟨h1, h2⟩ := h
    exact ⟨n, x, rfl, hc, h1, h2.symm⟩
  · cases h
def T_spec_l01Long : Hints := ⟨fun _ => none, fun i => if i = 3 then some [0, 1, 5, 6] else none, fun i => if i = 0 then some [0, 1] else if i = 1 then some [0, 1, 5] else if i = 2 then some [0, 1, 5, 6] else if i = 3 then some [0, 1, 5, 6, 11] else if i = 5 then some [0, 1, 5, 6] else if i = 4 then some [0, 1, 5, 6] else if i = 6 then some [4] else none, fun _ => none⟩
noncomputable def Phi_spec_l01Long : Tab := fun f => none
attribute [go_sem] T_spec_l01Long Phi_spec_l01Long
theorem phi_spec_l01Long : ∀ f sp, Phi_spec_l01Long f = some sp → FnOk Tryd.prog f sp ∧ ∀ n ∈ sp.need, n ∈ ([] : List String) := by
  intro f sp h
  unfold Phi_spec_l01Long at h
  cases h
theorem ok_spec_l01Long : FnOk Tryd.prog 54 spLong := by
  refine fn_ok (Φ := Phi_spec_l01Long) (T := T_spec_l01Long) phi_spec_l01Long mixed Tryd.func54 rfl rfl rfl (by decide) ?_
  intro ins r outs hr hl
  clear hl
  have hs := spLong_in hr
  clear hr
  obtain ⟨n, x, rfl, hc, hr, rfl⟩ := hs
  simp only [spLong, Tryd.f54, Go.VM.initS]
  obtain ⟨h0, h1, rfl⟩ := hc
  obtain ⟨k, rfl⟩ : ∃ k : Nat, n = k := ⟨n.toNat, by omega⟩
  have g0 : k ≤ 140737488355328 := by omega
  have g01 : (0 : Int) ≤ k := by omega
  have g02 : (k : Int) ≤ 9223372036854775807 := by omega
  have g03 : (k : Int) * ((1 : Nat) : Int) ≤ 140737488355328 := by omega
  simp only [Int.toNat_natCast] at hr
  simp only [g0, g01, g02, g03, go_sem]
  repeat' ((first | ((first | apply qa | apply qb | apply qc | apply qd | apply qe | apply qf | apply qg | apply qh | apply qi | apply qj | apply qk) <;> intro hp) | ((first | refine ql rfl rfl (by decide +kernel) ?_ | refine qm _ rfl rfl (by decide +kernel) ?_ | refine goes_opn rfl ?_ | refine goes_opnD rfl rfl (by decide +kernel) ?_) <;> have hp := True.intro)) <;> simp only [hp, g0, g01, g02, g03, go_sem])
  refine loop_go (fun i : Nat => [(6, .int .i64 (i : Int))]) (fun i => [(0, ⟨.arr, 1, List.replicate i (V.int .u8 97) ++ List.replicate (k - i) (V.int .u8 0)⟩)]) (fun i => k - i) (fun i => i ≤ k) 0 (Nat.zero_le _) rfl rfl ?_
  intro i hi ih
  rcases Nat.lt_or_ge i k with h | h
  · have g1 : (i : Int) < k := by omega
    have g2 : (0 : Int) ≤ i := by omega
    have g5 := wrap_succ h (by omega)
    have ih' := ih (i + 1) h (by omega)
    rw [← rep_set h] at ih'
    have g3 : (List.replicate i (V.int .u8 97) ++ List.replicate (k - i) (V.int .u8 0)).length = k := by simp; omega
    have g4 : (List.replicate i (V.int .u8 97) ++ List.replicate (k - i) (V.int .u8 0))[i]? = some (V.int .u8 0) := by
      rw [List.getElem?_append_right (by simp), List.length_replicate, Nat.sub_self, List.getElem?_replicate, if_pos (by omega)]
    generalize List.replicate i (V.int .u8 97) ++ List.replicate (k - i) (V.int .u8 0) = X at *
    simp only [g1, g2, g3, g4, g5, go_sem]
    repeat' ((first | ((first | apply qa | apply qb | apply qc | apply qd | apply qe | apply qf | apply qg | apply qh | apply qi | apply qj | apply qk) <;> intro hp) | ((first | refine ql rfl rfl (by decide +kernel) ?_ | refine qm _ rfl rfl (by decide +kernel) ?_ | refine goes_opn rfl ?_ | refine goes_opnD rfl rfl (by decide +kernel) ?_) <;> have hp := True.intro)) <;> simp only [hp, g1, g2, g3, g4, g5, go_sem])
    all_goals exact ih'
  · have hk : i = k := by omega
    subst hk
    have g1 : ¬ (i : Int) < i := by omega
    have e : List.replicate i (V.int .u8 97) ++ List.replicate (i - i) (V.int .u8 0) = bytesV (List.replicate i 97) := by rw [Nat.sub_self, List.replicate_zero, List.append_nil]; exact rep_bytes i
    rw [e]
    simp only [g1, go_sem]
    repeat' ((first | ((first | apply qa | apply qb | apply qc | apply qd | apply qe | apply qf | apply qg | apply qh | apply qi | apply qj | apply qk) <;> intro hp) | ((first | refine ql rfl rfl (by decide +kernel) ?_ | refine qm _ rfl rfl (by decide +kernel) ?_ | refine goes_opn rfl ?_ | refine goes_opnD rfl rfl (by decide +kernel) ?_) <;> have hp := True.intro)) <;> simp only [hp, g1, go_sem])
    simp only [fin_mk, finV, resL, resV1, resIn, endA, listIn, Option.some_or, Option.none_or, oneOrTup, go_sem]
    rw [← hr]
def anyO (c : Cur) : List UInt8 × Cur :=
  if ((belO c 10).1 == 0) = true then pickO (belO c 10).2 [[], [10], [10, 10], [115, 117, 98, 106, 101, 99, 116, 58, 32, 120], [83, 85, 66, 74, 69, 67, 84, 58, 121, 10, 115, 117, 98, 106, 101, 99, 116, 58, 32, 122, 10], [97, 0, 98], [58, 10]] else
  if ((belO c 10).1 == 1) = true then (List.replicate (200 + (belO (belO c 10).2 2).1).toNat 97, (belO (belO c 10).2 2).2) else mailO (belO c 10).2
open Classical in
noncomputable def spAny : VM.Spec := { modes := [.ptr], run := fun | [.rptr (c')] => (Cur.dec c').bind fun c => if curI c then some (.str ((anyO c).1), [.rptr (Cur.enc ((anyO c).2))]) else none | _ => none, need := [] }
attribute [go_sem] spAny
theorem spAny_in {ins : List V} {r : V} {outs : List V} (h : spAny.run ins = some (r, outs)) : ∃ (c : Cur), ins = [.rptr (Cur.enc c)] ∧ (curI c) ∧ .str ((anyO c).1) = r ∧ outs = [.rptr (Cur.enc ((anyO c).2))] := by
  unfold spAny at h
  simp only at h
  split at h
  · rename_i c'
    simp only [Option.bind_eq_some_iff] at h
    obtain ⟨c, h_c, h⟩ := h
    split at h
    case isFalse => cases h
    rename_i hc
    simp only [Option.some.injEq, Prod.mk.injEq] at h
    obtain ⟨h1, h2⟩ := h
    have h_c := Cur.dec_some h_c
    subst h_c
    exact ⟨c, rfl, hc, h1, h2.symm⟩
  · cases h
def T_spec_l07Any : Hints := ⟨fun _ => none, fun _ => none, fun i => if i = 0 then some [0] else if i = 1 then some [0, 4] else if i = 2 then some [0, 4, 5] else if i = 3 then some [2] else if i = 4 then some [0, 10] else if i = 5 then some [2] else if i = 6 then some [2] else none, fun _ => none⟩
noncomputable def Phi_spec_l07Any : Tab := fun f => if f = 26 then some spBelow else if f = 38 then some spPick else if f = 54 then some spLong else if f = 30 then some spMail else none
attribute [go_sem] T_spec_l07Any Phi_spec_l07Any
theorem phi_spec_l07Any : ∀ f sp, Phi_spec_l07Any f = some sp → FnOk Tryd.prog f sp ∧ ∀ n ∈ sp.need, n ∈ ([] : List String) := by
  intro f sp h
  unfold Phi_spec_l07Any at h
  by_cases e : f = 26
  · rw [if_pos e] at h; cases h; rw [e]; exact ⟨ok_spec_l01Below, (fun n (h : n ∈ ([] : List String)) => (nomatch h))⟩
  rw [if_neg e] at h
  by_cases e : f = 38
  · rw [if_pos e] at h; cases h; rw [e]; exact ⟨ok_spec_l01Pick, (fun n (h : n ∈ ([] : List String)) => (nomatch h))⟩
  rw [if_neg e] at h
  by_cases e : f = 54
  · rw [if_pos e] at h; cases h; rw [e]; exact ⟨ok_spec_l01Long, (fun n (h : n ∈ ([] : List String)) => (nomatch h))⟩
  rw [if_neg e] at h
  by_cases e : f = 30
  · rw [if_pos e] at h; cases h; rw [e]; exact ⟨ok_spec_l07Mail, (fun n (h : n ∈ ([] : List String)) => (nomatch h))⟩
  rw [if_neg e] at h
  cases h
theorem ok_spec_l07Any : FnOk Tryd.prog 35 spAny := by
  refine fn_ok (Φ := Phi_spec_l07Any) (T := T_spec_l07Any) phi_spec_l07Any mixed Tryd.func35 rfl rfl rfl (by decide) ?_
  intro ins r outs hr hl
  clear hl
  have hs := spAny_in hr
  clear hr
  obtain ⟨c, rfl, hc, hr, rfl⟩ := hs
  simp only [spAny, Tryd.f35, Go.VM.initS]
  have ja := belO_in (n := 10) hc
  obtain ⟨⟨va, ca⟩, ea⟩ : ∃ x, belO c 10 = x := ⟨_, rfl⟩
  rw [ea] at ja
  simp only at ja
  cases h0 : (va == 0) with
  | true =>
    have e : anyO c = pickO ca [[], [10], [10, 10], [115, 117, 98, 106, 101, 99, 116, 58, 32, 120], [83, 85, 66, 74, 69, 67, 84, 58, 121, 10, 115, 117, 98, 106, 101, 99, 116, 58, 32, 122, 10], [97, 0, 98], [58, 10]] := by simp only [anyO, ea, h0, if_true]
    rw [e] at hr
    simp only [hc, ea, ja.1, h0, go_sem]
    repeat' ((first | ((first | apply qa | apply qb | apply qc | apply qd | apply qe | apply qf | apply qg | apply qh | apply qi | apply qj | apply qk) <;> intro hp) | ((first | refine ql rfl rfl (by decide +kernel) ?_ | refine qm _ rfl rfl (by decide +kernel) ?_ | refine goes_opn rfl ?_ | refine goes_opnD rfl rfl (by decide +kernel) ?_) <;> have hp := True.intro)) <;> simp only [hp, hc, ea, ja.1, h0, go_sem])
    simp only [fin_mk, finV, resL, resV1, resIn, endA, listIn, Option.some_or, Option.none_or, oneOrTup, go_sem]
    rw [← hr]
    simp only [e]
  | false =>
    cases h1 : (va == 1) with
    | true =>
      have jb := belO_in (n := 2) ja.1
      obtain ⟨⟨vb, cb⟩, eb⟩ : ∃ x, belO ca 2 = x := ⟨_, rfl⟩
      rw [eb] at jb
      simp only at jb
      have jb3 := jb.2.2 (by decide)
      have e : anyO c = (List.replicate (200 + vb).toNat 97, cb) := by simp only [anyO, ea, eb, h0, h1, Bool.false_eq_true, if_true, if_false]
      rw [e] at hr
      have w : IntKind.i64.wrap (200 + vb) = 200 + vb := wrap64 (by omega) (by omega)
      have w0 : (0 : Int) ≤ 200 + vb := by omega
      have w1 : 200 + vb ≤ 1000 := by omega
      simp only [hc, ea, ja.1, eb, jb.1, h0, h1, w, w0, w1, go_sem]
      repeat' ((first | ((first | apply qa | apply qb | apply qc | apply qd | apply qe | apply qf | apply qg | apply qh | apply qi | apply qj | apply qk) <;> intro hp) | ((first | refine ql rfl rfl (by decide +kernel) ?_ | refine qm _ rfl rfl (by decide +kernel) ?_ | refine goes_opn rfl ?_ | refine goes_opnD rfl rfl (by decide +kernel) ?_) <;> have hp := True.intro)) <;> simp only [hp, hc, ea, ja.1, eb, jb.1, h0, h1, w, w0, w1, go_sem])
      simp only [fin_mk, finV, resL, resV1, resIn, endA, listIn, Option.some_or, Option.none_or, oneOrTup, go_sem]
      rw [← hr]
      simp only [e]
    | false =>
      have e : anyO c = mailO ca := by simp only [anyO, ea, h0, h1, Bool.false_eq_true, if_false]
      rw [e] at hr
      simp only [hc, ea, ja.1, h0, h1, go_sem]
      repeat' ((first | ((first | apply qa | apply qb | apply qc | apply qd | apply qe | apply qf | apply qg | apply qh | apply qi | apply qj | apply qk) <;> intro hp) | ((first | refine ql rfl rfl (by decide +kernel) ?_ | refine qm _ rfl rfl (by decide +kernel) ?_ | refine goes_opn rfl ?_ | refine goes_opnD rfl rfl (by decide +kernel) ?_) <;> have hp := True.intro)) <;> simp only [hp, hc, ea, ja.1, h0, h1, go_sem])
      simp only [fin_mk, finV, resL, resV1, resIn, endA, listIn, Option.some_or, Option.none_or, oneOrTup, go_sem]
      rw [← hr]
      simp only [e]
theorem mailO_len {c : Cur} (h : curI c) : (mailO c).1.length ≤ 200 ∧ curI (mailO c).2 := by
  have ja := pickO_in (c := c) (l := [[32, 104, 101, 108, 108, 111], [32, 82, 101, 58, 32, 104, 101, 108, 108, 111], [32, 111, 116, 104, 101, 114], [32, 102, 119, 100, 58, 32, 82, 69, 58, 32, 32, 72, 101, 108, 108, 111, 32], [], [32, 110, 101, 119, 115]]) h (by decide)
  have la := subs_len _ ja.2
  have jb := belO_in (c := (mA c).2) (n := 2) ja.1
  have jc := pickO_in (c := (mB c).2) (l := [[97, 110, 110], [98, 111, 98]]) jb.1 (by decide)
  have lc := froms_len _ jc.2
  have jd : curI (mD c) := by unfold mD; split; exact jc.1; exact jb.1
  have je := belO_in (n := 6) jd
  have jf := pickO_in (c := (mE c).2) (l := [[116, 101, 120, 116], [98, 111, 100, 121, 32, 111, 102, 32, 105, 116, 10], [], [97, 10, 10, 98]]) je.1 (by decide)
  have lf := bods_len _ jf.2
  have la' : (mA c).1.length ≤ 17 := la
  have lc' : (mC c).1.length ≤ 17 := lc
  have lf' : (mF c).1.length ≤ 17 := lf
  have ls : (mS c).length ≤ 80 := by unfold mS; split <;> simp only [List.length_append, List.length_cons, List.length_nil] <;> omega
  unfold mailO
  split
  · exact ⟨by simp only; omega, je.1⟩
  · exact ⟨by simp only [List.length_append, List.length_cons, List.length_nil]; omega, jf.1⟩
theorem odd_len : ∀ x ∈ ([[], [10], [10, 10], [115, 117, 98, 106, 101, 99, 116, 58, 32, 120], [83, 85, 66, 74, 69, 67, 84, 58, 121, 10, 115, 117, 98, 106, 101, 99, 116, 58, 32, 122, 10], [97, 0, 98], [58, 10]] : List (List UInt8)), x.length ≤ 200 := by decide
theorem anyO_len {c : Cur} (h : curI c) : (anyO c).1.length ≤ 1000 ∧ curI (anyO c).2 := by
  have ja := belO_in (n := 10) h
  have jb := belO_in (c := (belO c 10).2) (n := 2) ja.1
  have jb3 := jb.2.2 (by decide)
  unfold anyO
  split
  · have jp := pickO_in (l := [[], [10], [10, 10], [115, 117, 98, 106, 101, 99, 116, 58, 32, 120], [83, 85, 66, 74, 69, 67, 84, 58, 121, 10, 115, 117, 98, 106, 101, 99, 116, 58, 32, 122, 10], [97, 0, 98], [58, 10]]) ja.1 (by decide)
    have := odd_len _ jp.2
    exact ⟨by omega, jp.1⟩
  · split
    · exact ⟨by simp only [List.length_replicate]; omega, jb.1⟩
    · have := mailO_len ja.1
      exact ⟨by omega, this.2⟩
def names5 : List (List UInt8) := [[115, 117, 98, 106, 101, 99, 116], [83, 117, 98, 106, 101, 99, 116], [102, 114, 111, 109], [110, 111, 110, 101], []]
def subj9 : List (List UInt8) := [[], [104, 101, 108, 108, 111], [82, 101, 58, 32, 104, 101, 108, 108, 111], [82, 69, 58, 114, 101, 58, 32, 70, 119, 100, 58, 120], [114, 101], [114, 101, 58], [32, 102, 119, 100, 58, 32, 32, 97, 32, 98, 32], [114, 101, 102, 119, 100, 58, 32, 120], [102, 119, 100, 58, 114, 101, 58]]
open Classical in
noncomputable def spDrawAny : VM.Spec := { modes := [.rd], run := fun | [.lst 1 code'] => (decL dU8 code').bind fun code => if code.length ≤ 4194304 then some (.str ((anyO (cur0 code)).1), []) else none | _ => none, need := [] }
attribute [go_sem] spDrawAny
theorem spDrawAny_in {ins : List V} {r : V} {outs : List V} (h : spDrawAny.run ins = some (r, outs)) : ∃ (code : (List Int)), ins = [.lst 1 ((code).map eU8)] ∧ (code.length ≤ 4194304) ∧ .str ((anyO (cur0 code)).1) = r ∧ outs = [] := by
  unfold spDrawAny at h
  simp only at h
  split at h
  · rename_i code'
    simp only [Option.bind_eq_some_iff] at h
    obtain ⟨code, h_code, h⟩ := h
    split at h
    case isFalse => cases h
    rename_i hc
    simp only [Option.some.injEq, Prod.mk.injEq] at h
    obtain ⟨h1, h2⟩ := h
    have h_code := decL_some (fun _ _ h => dU8_some h) h_code
    subst h_code
    exact ⟨code, rfl, hc, h1, h2.symm⟩
  · cases h
def T_spec_DrawMailOk : Hints := ⟨fun _ => none, fun _ => none, fun i => if i = 0 then some [0] else if i = 1 then some [2] else none, fun _ => none⟩
noncomputable def Phi_spec_DrawMailOk : Tab := fun f => if f = 24 then some spNew else if f = 35 then some spAny else none
attribute [go_sem] T_spec_DrawMailOk Phi_spec_DrawMailOk
theorem phi_spec_DrawMailOk : ∀ f sp, Phi_spec_DrawMailOk f = some sp → FnOk Tryd.prog f sp ∧ ∀ n ∈ sp.need, n ∈ ([] : List String) := by
  intro f sp h
  unfold Phi_spec_DrawMailOk at h
  by_cases e : f = 24
  · rw [if_pos e] at h; cases h; rw [e]; exact ⟨ok_spec_l01New, (fun n (h : n ∈ ([] : List String)) => (nomatch h))⟩
  rw [if_neg e] at h
  by_cases e : f = 35
  · rw [if_pos e] at h; cases h; rw [e]; exact ⟨ok_spec_l07Any, (fun n (h : n ∈ ([] : List String)) => (nomatch h))⟩
  rw [if_neg e] at h
  cases h
theorem ok_spec_DrawMailOk : FnOk Tryd.prog 20 spDrawAny := by
  refine fn_ok (Φ := Phi_spec_DrawMailOk) (T := T_spec_DrawMailOk) phi_spec_DrawMailOk mixed Tryd.func20 rfl rfl rfl (by decide) ?_
  intro ins r outs hr hl
  clear hl
  have hs := spDrawAny_in hr
  clear hr
  obtain ⟨code, rfl, hc, hr, rfl⟩ := hs
  simp only [spDrawAny, Tryd.f20, Go.VM.initS]
  have i0 := cur0_in hc
  simp only [hc, i0, go_sem]
  repeat' ((first | ((first | apply qa | apply qb | apply qc | apply qd | apply qe | apply qf | apply qg | apply qh | apply qi | apply qj | apply qk) <;> intro hp) | ((first | refine ql rfl rfl (by decide +kernel) ?_ | refine qm _ rfl rfl (by decide +kernel) ?_ | refine goes_opn rfl ?_ | refine goes_opnD rfl rfl (by decide +kernel) ?_) <;> have hp := True.intro)) <;> simp only [hp, hc, i0, go_sem])
  simp only [fin_mk, finV, resL, resV1, resIn, endA, listIn, Option.some_or, Option.none_or, oneOrTup, go_sem]
  rw [← hr]
def T_spec_DrawBodyOf : Hints := ⟨fun _ => none, fun _ => none, fun i => if i = 0 then some [0] else if i = 1 then some [2] else none, fun _ => none⟩
noncomputable def Phi_spec_DrawBodyOf : Tab := fun f => if f = 24 then some spNew else if f = 35 then some spAny else none
attribute [go_sem] T_spec_DrawBodyOf Phi_spec_DrawBodyOf
theorem phi_spec_DrawBodyOf : ∀ f sp, Phi_spec_DrawBodyOf f = some sp → FnOk Tryd.prog f sp ∧ ∀ n ∈ sp.need, n ∈ ([] : List String) := by
  intro f sp h
  unfold Phi_spec_DrawBodyOf at h
  by_cases e : f = 24
  · rw [if_pos e] at h; cases h; rw [e]; exact ⟨ok_spec_l01New, (fun n (h : n ∈ ([] : List String)) => (nomatch h))⟩
  rw [if_neg e] at h
  by_cases e : f = 35
  · rw [if_pos e] at h; cases h; rw [e]; exact ⟨ok_spec_l07Any, (fun n (h : n ∈ ([] : List String)) => (nomatch h))⟩
  rw [if_neg e] at h
  cases h
theorem ok_spec_DrawBodyOf : FnOk Tryd.prog 18 spDrawAny := by
  refine fn_ok (Φ := Phi_spec_DrawBodyOf) (T := T_spec_DrawBodyOf) phi_spec_DrawBodyOf mixed Tryd.func18 rfl rfl rfl (by decide) ?_
  intro ins r outs hr hl
  clear hl
  have hs := spDrawAny_in hr
  clear hr
  obtain ⟨code, rfl, hc, hr, rfl⟩ := hs
  simp only [spDrawAny, Tryd.f18, Go.VM.initS]
  have i0 := cur0_in hc
  simp only [hc, i0, go_sem]
  repeat' ((first | ((first | apply qa | apply qb | apply qc | apply qd | apply qe | apply qf | apply qg | apply qh | apply qi | apply qj | apply qk) <;> intro hp) | ((first | refine ql rfl rfl (by decide +kernel) ?_ | refine qm _ rfl rfl (by decide +kernel) ?_ | refine goes_opn rfl ?_ | refine goes_opnD rfl rfl (by decide +kernel) ?_) <;> have hp := True.intro)) <;> simp only [hp, hc, i0, go_sem])
  simp only [fin_mk, finV, resL, resV1, resIn, endA, listIn, Option.some_or, Option.none_or, oneOrTup, go_sem]
  rw [← hr]
open Classical in
noncomputable def spDrawSubject : VM.Spec := { modes := [.rd], run := fun | [.lst 1 code'] => (decL dU8 code').bind fun code => if code.length ≤ 4194304 then some (.str ((pickO (cur0 code) subj9).1), []) else none | _ => none, need := [] }
attribute [go_sem] spDrawSubject
theorem spDrawSubject_in {ins : List V} {r : V} {outs : List V} (h : spDrawSubject.run ins = some (r, outs)) : ∃ (code : (List Int)), ins = [.lst 1 ((code).map eU8)] ∧ (code.length ≤ 4194304) ∧ .str ((pickO (cur0 code) subj9).1) = r ∧ outs = [] := by
  unfold spDrawSubject at h
  simp only at h
  split at h
  · rename_i code'
    simp only [Option.bind_eq_some_iff] at h
    obtain ⟨code, h_code, h⟩ := h
    split at h
    case isFalse => cases h
    rename_i hc
    simp only [Option.some.injEq, Prod.mk.injEq] at h
    obtain ⟨h1, h2⟩ := h
    have h_code := decL_some (fun _ _ h => dU8_some h) h_code
    subst h_code
    exact ⟨code, rfl, hc, h1, h2.symm⟩
  · cases h
def T_spec_DrawBaseSubject : Hints := ⟨fun _ => none, fun _ => none, fun i => if i = 0 then some [0] else if i = 1 then some [3] else if i = 2 then some [2] else none, fun _ => none⟩
noncomputable def Phi_spec_DrawBaseSubject : Tab := fun f => if f = 24 then some spNew else if f = 38 then some spPick else none
attribute [go_sem] T_spec_DrawBaseSubject Phi_spec_DrawBaseSubject
theorem phi_spec_DrawBaseSubject : ∀ f sp, Phi_spec_DrawBaseSubject f = some sp → FnOk Tryd.prog f sp ∧ ∀ n ∈ sp.need, n ∈ ([] : List String) := by
  intro f sp h
  unfold Phi_spec_DrawBaseSubject at h
  by_cases e : f = 24
  · rw [if_pos e] at h; cases h; rw [e]; exact ⟨ok_spec_l01New, (fun n (h : n ∈ ([] : List String)) => (nomatch h))⟩
  rw [if_neg e] at h
  by_cases e : f = 38
  · rw [if_pos e] at h; cases h; rw [e]; exact ⟨ok_spec_l01Pick, (fun n (h : n ∈ ([] : List String)) => (nomatch h))⟩
  rw [if_neg e] at h
  cases h
theorem ok_spec_DrawBaseSubject : FnOk Tryd.prog 19 spDrawSubject := by
  refine fn_ok (Φ := Phi_spec_DrawBaseSubject) (T := T_spec_DrawBaseSubject) phi_spec_DrawBaseSubject mixed Tryd.func19 rfl rfl rfl (by decide) ?_
  intro ins r outs hr hl
  clear hl
  have hs := spDrawSubject_in hr
  clear hr
  obtain ⟨code, rfl, hc, hr, rfl⟩ := hs
  simp only [spDrawSubject, Tryd.f19, Go.VM.initS]
  have i0 := cur0_in hc
  rw [subj9] at hr
  simp only [hc, i0, go_sem]
  repeat' ((first | ((first | apply qa | apply qb | apply qc | apply qd | apply qe | apply qf | apply qg | apply qh | apply qi | apply qj | apply qk) <;> intro hp) | ((first | refine ql rfl rfl (by decide +kernel) ?_ | refine qm _ rfl rfl (by decide +kernel) ?_ | refine goes_opn rfl ?_ | refine goes_opnD rfl rfl (by decide +kernel) ?_) <;> have hp := True.intro)) <;> simp only [hp, hc, i0, go_sem])
  simp only [fin_mk, finV, resL, resV1, resIn, endA, listIn, Option.some_or, Option.none_or, oneOrTup, go_sem]
  rw [← hr]
open Classical in
noncomputable def spDrawHead : VM.Spec := { modes := [.rd], run := fun | [.lst 1 code'] => (decL dU8 code').bind fun code => if code.length ≤ 4194304 then some (.tup [.str ((anyO (pickO (cur0 code) names5).2).1), .str ((pickO (cur0 code) names5).1)], []) else none | _ => none, need := [] }
attribute [go_sem] spDrawHead
theorem spDrawHead_in {ins : List V} {r : V} {outs : List V} (h : spDrawHead.run ins = some (r, outs)) : ∃ (code : (List Int)), ins = [.lst 1 ((code).map eU8)] ∧ (code.length ≤ 4194304) ∧ .tup [.str ((anyO (pickO (cur0 code) names5).2).1), .str ((pickO (cur0 code) names5).1)] = r ∧ outs = [] := by
  unfold spDrawHead at h
  simp only at h
  split at h
  · rename_i code'
    simp only [Option.bind_eq_some_iff] at h
    obtain ⟨code, h_code, h⟩ := h
    split at h
    case isFalse => cases h
    rename_i hc
    simp only [Option.some.injEq, Prod.mk.injEq] at h
    obtain ⟨h1, h2⟩ := h
    have h_code := decL_some (fun _ _ h => dU8_some h) h_code
    subst h_code
    exact ⟨code, rfl, hc, h1, h2.symm⟩
  · cases h
def T_spec_DrawHeadOf : Hints := ⟨fun _ => none, fun _ => none, fun i => if i = 0 then some [0] else if i = 1 then some [4] else if i = 2 then some [4, 5] else if i = 3 then some [2, 3] else none, fun _ => none⟩
noncomputable def Phi_spec_DrawHeadOf : Tab := fun f => if f = 24 then some spNew else if f = 38 then some spPick else if f = 35 then some spAny else none
attribute [go_sem] T_spec_DrawHeadOf Phi_spec_DrawHeadOf
theorem phi_spec_DrawHeadOf : ∀ f sp, Phi_spec_DrawHeadOf f = some sp → FnOk Tryd.prog f sp ∧ ∀ n ∈ sp.need, n ∈ ([] : List String) := by
  intro f sp h
  unfold Phi_spec_DrawHeadOf at h
  by_cases e : f = 24
  · rw [if_pos e] at h; cases h; rw [e]; exact ⟨ok_spec_l01New, (fun n (h : n ∈ ([] : List String)) => (nomatch h))⟩
  rw [if_neg e] at h
  by_cases e : f = 38
  · rw [if_pos e] at h; cases h; rw [e]; exact ⟨ok_spec_l01Pick, (fun n (h : n ∈ ([] : List String)) => (nomatch h))⟩
  rw [if_neg e] at h
  by_cases e : f = 35
  · rw [if_pos e] at h; cases h; rw [e]; exact ⟨ok_spec_l07Any, (fun n (h : n ∈ ([] : List String)) => (nomatch h))⟩
  rw [if_neg e] at h
  cases h
theorem ok_spec_DrawHeadOf : FnOk Tryd.prog 16 spDrawHead := by
  refine fn_ok (Φ := Phi_spec_DrawHeadOf) (T := T_spec_DrawHeadOf) phi_spec_DrawHeadOf mixed Tryd.func16 rfl rfl rfl (by decide) ?_
  intro ins r outs hr hl
  clear hl
  have hs := spDrawHead_in hr
  clear hr
  obtain ⟨code, rfl, hc, hr, rfl⟩ := hs
  simp only [spDrawHead, Tryd.f16, Go.VM.initS]
  have i0 := cur0_in hc
  have i1 := (pickO_in (l := [[115, 117, 98, 106, 101, 99, 116], [83, 117, 98, 106, 101, 99, 116], [102, 114, 111, 109], [110, 111, 110, 101], []]) i0 (by decide)).1
  rw [names5] at hr
  simp only [hc, i0, i1, go_sem]
  repeat' ((first | ((first | apply qa | apply qb | apply qc | apply qd | apply qe | apply qf | apply qg | apply qh | apply qi | apply qj | apply qk) <;> intro hp) | ((first | refine ql rfl rfl (by decide +kernel) ?_ | refine qm _ rfl rfl (by decide +kernel) ?_ | refine goes_opn rfl ?_ | refine goes_opnD rfl rfl (by decide +kernel) ?_) <;> have hp := True.intro)) <;> simp only [hp, hc, i0, i1, go_sem])
  simp only [fin_mk, finV, resL, resV1, resIn, endA, listIn, Option.some_or, Option.none_or, oneOrTup, go_sem]
  rw [← hr]
end Go.Proofs.YtknagbmhmjcnkaaDoor.L
