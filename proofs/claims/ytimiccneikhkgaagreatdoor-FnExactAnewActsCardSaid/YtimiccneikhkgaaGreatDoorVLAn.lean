/- Acts that write a log anew. -/
import Derived.Test.YtimiccneikhkgaaGreatDoorVLL
import Derived.Test.YtimiccneikhkgaaGreatDoorVLDk
namespace Go.Proofs.YtimiccneikhkgaaGreatDoor.L
open Go Go.VM
set_option maxRecDepth 100000
set_option maxHeartbeats 4000000
set_option linter.unusedSimpArgs false
set_option linter.unusedVariables false
def tNew : List UInt8 := [110, 101, 119]
def frameT (x : Edit) : List UInt8 := frame (editText x)
def framesT (l : List Edit) : List UInt8 := (l.map frameT).flatten
def anewOk (d : Disk) (l : List Edit) : Bool := diskOk d && l.all framedOk
def anewL (d : Disk) (l : List Edit) : List VM.Act := [⟨1, tNew, framesT l, []⟩, ⟨2, tNew, [], []⟩, ⟨3, tNew, [], tLog⟩]
def anewActs (d : Disk) (l : List Edit) : List VM.Act := if anewOk d l = true then (if fileHas d tNew = true then ⟨4, tNew, [], []⟩ :: anewL d l else anewL d l) else []
theorem frameT_len (x : Edit) : (frameT x).length ≤ 20000 := by
  unfold frameT frame
  split
  · rename_i h
    simp only [frameOk, within, Bool.and_eq_true, decide_eq_true_eq] at h
    have := varN_len (editText x).length
    simp only [List.length_append, four, List.length_cons, List.length_nil]
    omega
  · simp
theorem framesT_len : ∀ l : List Edit, (framesT l).length ≤ 20000 * l.length
  | [] => by simp [framesT]
  | x :: l => by
    have h1 := frameT_len x
    have h2 := framesT_len l
    have e : framesT (x :: l) = frameT x ++ framesT l := by simp [framesT]
    rw [e, List.length_append, List.length_cons]; omega
theorem framesT_succ {l : List Edit} {i : Nat} (h : i < l.length) : framesT (l.take (i + 1)) = framesT (l.take i) ++ frameT l[i] := by
  rw [framesT, take_succ' h, List.map_append, List.flatten_append]; simp [framesT]
theorem all_take {l : List Edit} {i : Nat} (h : i < l.length) (ha : (l.take i).all framedOk = true) (hb : framedOk l[i] = true) : (l.take (i + 1)).all framedOk = true := by
  rw [take_succ' h, List.all_append, ha]; simp [hb]
theorem all_no {l : List Edit} {i : Nat} (h : i < l.length) (hb : framedOk l[i] = false) : l.all framedOk = false := by
  rw [List.all_eq_false]; exact ⟨_, List.getElem_mem h, by simp [hb]⟩
theorem anewActs_le (d : Disk) (l : List Edit) : (anewActs d l).length ≤ 4194304 := by
  unfold anewActs anewL; repeat' split
  all_goals simp
open Classical in
noncomputable def spAnew : VM.Spec := { modes := [.rd, .rd], run := fun | [d', .lst 8 l'] => (Disk.dec d').bind fun d => (decL Edit.dec l').bind fun l => if d.le 4194304 ∧ leL Edit.le 4194304 l then some (.tup [.lst 4 ((anewActs d l).map VM.Act.enc), .bool (anewOk d l)], []) else none | _ => none, need := ["internal/strconv.uint64pow10"] }
attribute [go_sem] spAnew
theorem spAnew_in {ins : List V} {r : V} {outs : List V} (h : spAnew.run ins = some (r, outs)) : ∃ (d : Disk) (l : (List Edit)), ins = [Disk.enc d, .lst 8 ((l).map Edit.enc)] ∧ (d.le 4194304 ∧ leL Edit.le 4194304 l) ∧ .tup [.lst 4 ((anewActs d l).map VM.Act.enc), .bool (anewOk d l)] = r ∧ outs = [] := by
  unfold spAnew at h
  simp only at h
  split at h
  · rename_i d' l'
    simp only [Option.bind_eq_some_iff] at h
    obtain ⟨d, h_d, l, h_l, h⟩ := h
    split at h
    case isFalse => cases h
    rename_i hc
    simp only [Option.some.injEq, Prod.mk.injEq] at h
    obtain ⟨h1, h2⟩ := h
    have h_d := Disk.dec_some h_d
    subst h_d
    have h_l := decL_some (fun _ _ h => Edit.dec_some h) h_l
    subst h_l
    exact ⟨d, l, rfl, hc, h1, h2.symm⟩
  · cases h
def T_impl_AnewActs : Hints := ⟨fun _ => none, fun i => if i = 5 then some [2, 6, 17, 18, 19] else none, fun i => if i = 0 then some [1, 2] else if i = 1 then some [1, 2, 16] else if i = 2 then some [4, 5] else if i = 3 then some [1, 2, 6] else if i = 4 then some [2, 6, 17, 18, 19] else if i = 5 then some [2, 6, 17, 18, 19, 20] else if i = 6 then some [2, 6, 8, 17, 18, 19] else if i = 7 then some [2, 6, 9, 10, 17, 18, 19] else if i = 8 then some [2, 6, 9, 17, 18, 19, 29] else if i = 9 then some [4, 5] else if i = 10 then some [2, 6, 17, 18, 19] else if i = 11 then some [2, 6, 17, 18, 19] else if i = 12 then some [2, 6, 11] else if i = 13 then some [6, 11, 13] else if i = 14 then some [6, 11, 40] else if i = 15 then some [6, 11] else if i = 16 then some [4, 5] else none, fun _ => none⟩
noncomputable def Phi_impl_AnewActs : Tab := fun f => if f = 88 then some spDiskOk else if f = 89 then some spFramed else if f = 90 then some spFileAt else none
attribute [go_sem] T_impl_AnewActs Phi_impl_AnewActs
theorem phi_impl_AnewActs : ∀ f sp, Phi_impl_AnewActs f = some sp → FnOk Tryz.prog f sp ∧ ∀ n ∈ sp.need, n ∈ (["internal/strconv.uint64pow10"] : List String) := by
  intro f sp h
  unfold Phi_impl_AnewActs at h
  by_cases e : f = 88
  · rw [if_pos e] at h; cases h; rw [e]; exact ⟨ok_impl_DiskOk, (fun n (h : n ∈ ([] : List String)) => (nomatch h))⟩
  rw [if_neg e] at h
  by_cases e : f = 89
  · rw [if_pos e] at h; cases h; rw [e]; exact ⟨ok_impl_framed, (fun n (h : n ∈ (["internal/strconv.uint64pow10"] : List String)) => by simp only [List.mem_cons, List.not_mem_nil, or_false] at h; rcases h with rfl <;> simp)⟩
  rw [if_neg e] at h
  by_cases e : f = 90
  · rw [if_pos e] at h; cases h; rw [e]; exact ⟨ok_impl_FileAt, (fun n (h : n ∈ ([] : List String)) => (nomatch h))⟩
  rw [if_neg e] at h
  cases h
theorem ok_impl_AnewActs : FnOk Tryz.prog 29 spAnew := by
  refine fn_ok (Φ := Phi_impl_AnewActs) (T := T_impl_AnewActs) phi_impl_AnewActs mixed Tryz.func29 rfl rfl rfl (by decide) ?_
  intro ins r outs hr hl
  clear hl
  have hs := spAnew_in hr
  clear hr
  obtain ⟨d, l, rfl, hc, hr, rfl⟩ := hs
  simp only [spAnew, Tryz.f29, Go.VM.initS]
  obtain ⟨hd, hl, he⟩ := hc
  cases hk : diskOk d with
  | false =>
    have e1 : anewActs d l = [] := by rw [anewActs, anewOk, hk]; rfl
    have e2 : anewOk d l = false := by rw [anewOk, hk]; rfl
    rw [e1, e2] at hr
    simp only [hd, hk, go_sem]
    repeat' ((first | ((first | apply qa | apply qb | apply qc | apply qd | apply qe | apply qf | apply qg | apply qh | apply qi | apply qj | apply qk) <;> intro hp) | ((first | refine ql rfl rfl (by decide +kernel) ?_ | refine qm _ rfl rfl (by decide +kernel) ?_ | refine goes_opn rfl ?_ | refine goes_opnD rfl rfl (by decide +kernel) ?_) <;> have hp := True.intro)) <;> simp only [hp, hd, hk, go_sem])
    simp only [fin_mk, finV, resL, resV1, resIn, endA, listIn, Option.some_or, Option.none_or, oneOrTup, go_sem]
    rw [← hr]
    rfl
  | true =>
    have e2 : anewOk d l = l.all framedOk := by rw [anewOk, hk, Bool.true_and]
    simp only [hd, hk, go_sem]
    refine loop_go (fun p : List UInt8 × Nat => [(6, .str p.1), (19, .int .i64 (p.2 : Int))]) (fun _ => []) (fun p => l.length - p.2) (fun p => p.2 ≤ l.length ∧ (l.take p.2).all framedOk = true ∧ p.1 = framesT (l.take p.2)) ([], 0) ⟨Nat.zero_le _, by simp, by simp [framesT]⟩ rfl rfl ?_
    rintro ⟨acc, i⟩ ⟨hi, ha, hacc⟩ ih
    simp only at hi ha hacc ih
    have hal : acc.length ≤ 83886080000 := by
      have := framesT_len (l.take i)
      rw [List.length_take] at this
      rw [hacc]
      have h2 : min i l.length ≤ 4194304 := by omega
      omega
    rcases Nat.lt_or_ge i l.length with h | h
    · have g1 : (i : Int) < l.length := by omega
      have g2 : (0 : Int) ≤ i := by omega
      have g3 : l[i]? = some l[i] := List.getElem?_eq_getElem h
      have g5 := wrap_succ h (by omega)
      have gx := he _ (List.getElem_mem h)
      have gt : (editText l[i]).length ≤ 4194304 := by have := editText_len l[i]; omega
      have fl := frameT_len l[i]
      have fl2 : acc.length + (frame (editText l[i])).length ≤ 9223372036854775807 := by
        have : (frame (editText l[i])).length ≤ 20000 := fl
        omega
      cases hf : framedOk l[i] with
      | true =>
        have hf' := hf
        simp only [framedOk, Bool.and_eq_true] at hf'
        have ih' := ih (acc ++ frame (editText l[i]), i + 1) ⟨h, all_take h ha hf, by rw [framesT_succ h, hacc]; rfl⟩ (by simp only; omega)
        simp only at ih'
        simp only [g1, g2, g3, g5, gx, gt, fl2, hf, go_sem]
        repeat' ((first | ((first | apply qa | apply qb | apply qc | apply qd | apply qe | apply qf | apply qg | apply qh | apply qi | apply qj | apply qk) <;> intro hp) | ((first | refine ql rfl rfl (by decide +kernel) ?_ | refine qm _ rfl rfl (by decide +kernel) ?_ | refine goes_opn rfl ?_ | refine goes_opnD rfl rfl (by decide +kernel) ?_) <;> have hp := True.intro)) <;> simp only [hp, g1, g2, g3, g5, gx, gt, fl2, hf, go_sem])
        exact ih'
      | false =>
        have e1 : anewActs d l = [] := by rw [anewActs, e2, all_no h hf]; rfl
        rw [e1, e2, all_no h hf] at hr
        simp only [g1, g2, g3, g5, gx, hf, go_sem]
        repeat' ((first | ((first | apply qa | apply qb | apply qc | apply qd | apply qe | apply qf | apply qg | apply qh | apply qi | apply qj | apply qk) <;> intro hp) | ((first | refine ql rfl rfl (by decide +kernel) ?_ | refine qm _ rfl rfl (by decide +kernel) ?_ | refine goes_opn rfl ?_ | refine goes_opnD rfl rfl (by decide +kernel) ?_) <;> have hp := True.intro)) <;> simp only [hp, g1, g2, g3, g5, gx, hf, go_sem])
        simp only [fin_mk, finV, resL, resV1, resIn, endA, listIn, Option.some_or, Option.none_or, oneOrTup, go_sem]
        rw [← hr]
        rfl

    · have g1 : ¬ (i : Int) < l.length := by omega
      rw [List.take_of_length_le h] at ha hacc
      cases hh : fileHas d [110, 101, 119] with
      | true =>
        have e1 : anewActs d l = [⟨4, tNew, [], []⟩, ⟨1, tNew, framesT l, []⟩, ⟨2, tNew, [], []⟩, ⟨3, tNew, [], tLog⟩] := by rw [anewActs, e2, ha, if_pos rfl, if_pos (show fileHas d tNew = true from hh)]; rfl
        rw [e1, e2, ha, ← hacc] at hr
        simp only [hd, g1, hh, go_sem]
        repeat' ((first | ((first | apply qa | apply qb | apply qc | apply qd | apply qe | apply qf | apply qg | apply qh | apply qi | apply qj | apply qk) <;> intro hp) | ((first | refine ql rfl rfl (by decide +kernel) ?_ | refine qm _ rfl rfl (by decide +kernel) ?_ | refine goes_opn rfl ?_ | refine goes_opnD rfl rfl (by decide +kernel) ?_) <;> have hp := True.intro)) <;> simp only [hp, hd, g1, hh, go_sem])
        simp only [fin_mk, finV, resL, resV1, resIn, endA, listIn, Option.some_or, Option.none_or, oneOrTup, go_sem]
        rw [← hr]
        rfl
      | false =>
        have e1 : anewActs d l = [⟨1, tNew, framesT l, []⟩, ⟨2, tNew, [], []⟩, ⟨3, tNew, [], tLog⟩] := by rw [anewActs, e2, ha, if_pos rfl, if_neg (by rw [show fileHas d tNew = false from hh]; simp)]; rfl
        rw [e1, e2, ha, ← hacc] at hr
        simp only [hd, g1, hh, go_sem]
        repeat' ((first | ((first | apply qa | apply qb | apply qc | apply qd | apply qe | apply qf | apply qg | apply qh | apply qi | apply qj | apply qk) <;> intro hp) | ((first | refine ql rfl rfl (by decide +kernel) ?_ | refine qm _ rfl rfl (by decide +kernel) ?_ | refine goes_opn rfl ?_ | refine goes_opnD rfl rfl (by decide +kernel) ?_) <;> have hp := True.intro)) <;> simp only [hp, hd, g1, hh, go_sem])
        simp only [fin_mk, finV, resL, resV1, resIn, endA, listIn, Option.some_or, Option.none_or, oneOrTup, go_sem]
        rw [← hr]
        rfl
def T_spec_AnewActs : Hints := ⟨fun _ => none, fun i => if i = 6 then some [1, 2, 6, 7, 8] else none, fun i => if i = 0 then some [1, 2] else if i = 1 then some [1, 2, 6] else if i = 2 then some [1, 2, 6, 19] else if i = 3 then some [4, 5] else if i = 4 then some [1, 2, 6, 7] else if i = 5 then some [1, 2, 6, 7, 8] else if i = 6 then some [1, 2, 6, 7, 8, 24] else if i = 8 then some [1, 2, 6, 7, 8, 9, 10] else if i = 9 then some [1, 2, 6, 7, 8, 10, 11, 12] else if i = 10 then some [1, 2, 6, 7, 8, 11, 45] else if i = 11 then some [4, 5] else if i = 12 then some [1, 2, 6, 7, 8] else if i = 7 then some [1, 2, 6, 7, 8] else if i = 13 then some [2, 7, 13] else if i = 14 then some [7, 13, 15] else if i = 15 then some [7, 13, 56] else if i = 16 then some [7, 13] else if i = 17 then some [4, 5] else none, fun _ => none⟩
noncomputable def Phi_spec_AnewActs : Tab := fun f => if f = 83 then some spDiskOk else if f = 47 then some spEditText else if f = 84 then some spFrame else if f = 85 then some spFileAt else none
attribute [go_sem] T_spec_AnewActs Phi_spec_AnewActs
theorem phi_spec_AnewActs : ∀ f sp, Phi_spec_AnewActs f = some sp → FnOk Tryz.prog f sp ∧ ∀ n ∈ sp.need, n ∈ (["internal/strconv.uint64pow10"] : List String) := by
  intro f sp h
  unfold Phi_spec_AnewActs at h
  by_cases e : f = 83
  · rw [if_pos e] at h; cases h; rw [e]; exact ⟨ok_spec_DiskOk, (fun n (h : n ∈ ([] : List String)) => (nomatch h))⟩
  rw [if_neg e] at h
  by_cases e : f = 47
  · rw [if_pos e] at h; cases h; rw [e]; exact ⟨ok_spec_EditText, (fun n (h : n ∈ (["internal/strconv.uint64pow10"] : List String)) => by simp only [List.mem_cons, List.not_mem_nil, or_false] at h; rcases h with rfl <;> simp)⟩
  rw [if_neg e] at h
  by_cases e : f = 84
  · rw [if_pos e] at h; cases h; rw [e]; exact ⟨ok_spec_Frame, (fun n (h : n ∈ ([] : List String)) => (nomatch h))⟩
  rw [if_neg e] at h
  by_cases e : f = 85
  · rw [if_pos e] at h; cases h; rw [e]; exact ⟨ok_spec_FileAt, (fun n (h : n ∈ ([] : List String)) => (nomatch h))⟩
  rw [if_neg e] at h
  cases h
theorem ok_spec_AnewActs : FnOk Tryz.prog 26 spAnew := by
  refine fn_ok (Φ := Phi_spec_AnewActs) (T := T_spec_AnewActs) phi_spec_AnewActs mixed Tryz.func26 rfl rfl rfl (by decide) ?_
  intro ins r outs hr hl
  clear hl
  have hs := spAnew_in hr
  clear hr
  obtain ⟨d, l, rfl, hc, hr, rfl⟩ := hs
  simp only [spAnew, Tryz.f26, Go.VM.initS]
  obtain ⟨hd, hl, he⟩ := hc
  cases hk : diskOk d with
  | false =>
    have e1 : anewActs d l = [] := by rw [anewActs, anewOk, hk]; rfl
    have e2 : anewOk d l = false := by rw [anewOk, hk]; rfl
    rw [e1, e2] at hr
    simp only [hd, hk, go_sem]
    repeat' ((first | ((first | apply qa | apply qb | apply qc | apply qd | apply qe | apply qf | apply qg | apply qh | apply qi | apply qj | apply qk) <;> intro hp) | ((first | refine ql rfl rfl (by decide +kernel) ?_ | refine qm _ rfl rfl (by decide +kernel) ?_ | refine goes_opn rfl ?_ | refine goes_opnD rfl rfl (by decide +kernel) ?_) <;> have hp := True.intro)) <;> simp only [hp, hd, hk, go_sem])
    simp only [fin_mk, finV, resL, resV1, resIn, endA, listIn, Option.some_or, Option.none_or, oneOrTup, go_sem]
    rw [← hr]
    rfl
  | true =>
    have e2 : anewOk d l = l.all framedOk := by rw [anewOk, hk, Bool.true_and]
    simp only [hd, hk, go_sem]
    refine loop_go (fun p : List UInt8 × Nat => [(7, .str p.1), (8, .int .i64 (p.2 : Int))]) (fun _ => []) (fun p => l.length - p.2) (fun p => p.2 ≤ l.length ∧ (l.take p.2).all framedOk = true ∧ p.1 = framesT (l.take p.2)) ([], 0) ⟨Nat.zero_le _, by simp, by simp [framesT]⟩ rfl rfl ?_
    rintro ⟨acc, i⟩ ⟨hi, ha, hacc⟩ ih
    simp only at hi ha hacc ih
    have hal : acc.length ≤ 83886080000 := by
      have := framesT_len (l.take i)
      rw [List.length_take] at this
      rw [hacc]
      have h2 : min i l.length ≤ 4194304 := by omega
      omega
    rcases Nat.lt_or_ge i l.length with h | h
    · have g1 : (i : Int) < l.length := by omega
      have g2 : (0 : Int) ≤ i := by omega
      have g3 : l[i]? = some l[i] := List.getElem?_eq_getElem h
      have g5 := wrap_succ h (by omega)
      have gx := he _ (List.getElem_mem h)
      have gt : (editText l[i]).length ≤ 4194304 := by have := editText_len l[i]; omega
      have fl := frameT_len l[i]
      have fl2 : acc.length + (frame (editText l[i])).length ≤ 9223372036854775807 := by
        have : (frame (editText l[i])).length ≤ 20000 := fl
        omega
      cases hf : framedOk l[i] with
      | true =>
        have hf' := hf
        simp only [framedOk, Bool.and_eq_true] at hf'
        have ih' := ih (acc ++ frame (editText l[i]), i + 1) ⟨h, all_take h ha hf, by rw [framesT_succ h, hacc]; rfl⟩ (by simp only; omega)
        simp only at ih'
        simp only [g1, g2, g3, g5, gx, gt, fl2, hf, hf'.1, hf'.2, go_sem]
        repeat' ((first | ((first | apply qa | apply qb | apply qc | apply qd | apply qe | apply qf | apply qg | apply qh | apply qi | apply qj | apply qk) <;> intro hp) | ((first | refine ql rfl rfl (by decide +kernel) ?_ | refine qm _ rfl rfl (by decide +kernel) ?_ | refine goes_opn rfl ?_ | refine goes_opnD rfl rfl (by decide +kernel) ?_) <;> have hp := True.intro)) <;> simp only [hp, g1, g2, g3, g5, gx, gt, fl2, hf, hf'.1, hf'.2, go_sem])
        exact ih'
      | false =>
        have e1 : anewActs d l = [] := by rw [anewActs, e2, all_no h hf]; rfl
        rw [e1, e2, all_no h hf] at hr
        cases hk2 : editOk l[i] with
        | false =>
          simp only [g1, g2, g3, g5, gx, gt, hk2, go_sem]
          repeat' ((first | ((first | apply qa | apply qb | apply qc | apply qd | apply qe | apply qf | apply qg | apply qh | apply qi | apply qj | apply qk) <;> intro hp) | ((first | refine ql rfl rfl (by decide +kernel) ?_ | refine qm _ rfl rfl (by decide +kernel) ?_ | refine goes_opn rfl ?_ | refine goes_opnD rfl rfl (by decide +kernel) ?_) <;> have hp := True.intro)) <;> simp only [hp, g1, g2, g3, g5, gx, gt, hk2, go_sem])
          simp only [fin_mk, finV, resL, resV1, resIn, endA, listIn, Option.some_or, Option.none_or, oneOrTup, go_sem]
          rw [← hr]
          rfl
        | true =>
          have hk3 : frameOk (editText l[i]) = false := by
            cases hq : frameOk (editText l[i]) with
            | false => rfl
            | true => rw [framedOk, hk2, hq] at hf; cases hf
          simp only [g1, g2, g3, g5, gx, gt, hk2, hk3, go_sem]
          repeat' ((first | ((first | apply qa | apply qb | apply qc | apply qd | apply qe | apply qf | apply qg | apply qh | apply qi | apply qj | apply qk) <;> intro hp) | ((first | refine ql rfl rfl (by decide +kernel) ?_ | refine qm _ rfl rfl (by decide +kernel) ?_ | refine goes_opn rfl ?_ | refine goes_opnD rfl rfl (by decide +kernel) ?_) <;> have hp := True.intro)) <;> simp only [hp, g1, g2, g3, g5, gx, gt, hk2, hk3, go_sem])
          simp only [fin_mk, finV, resL, resV1, resIn, endA, listIn, Option.some_or, Option.none_or, oneOrTup, go_sem]
          rw [← hr]
          rfl

    · have g1 : ¬ (i : Int) < l.length := by omega
      rw [List.take_of_length_le h] at ha hacc
      cases hh : fileHas d [110, 101, 119] with
      | true =>
        have e1 : anewActs d l = [⟨4, tNew, [], []⟩, ⟨1, tNew, framesT l, []⟩, ⟨2, tNew, [], []⟩, ⟨3, tNew, [], tLog⟩] := by rw [anewActs, e2, ha, if_pos rfl, if_pos (show fileHas d tNew = true from hh)]; rfl
        rw [e1, e2, ha, ← hacc] at hr
        simp only [hd, g1, hh, go_sem]
        repeat' ((first | ((first | apply qa | apply qb | apply qc | apply qd | apply qe | apply qf | apply qg | apply qh | apply qi | apply qj | apply qk) <;> intro hp) | ((first | refine ql rfl rfl (by decide +kernel) ?_ | refine qm _ rfl rfl (by decide +kernel) ?_ | refine goes_opn rfl ?_ | refine goes_opnD rfl rfl (by decide +kernel) ?_) <;> have hp := True.intro)) <;> simp only [hp, hd, g1, hh, go_sem])
        simp only [fin_mk, finV, resL, resV1, resIn, endA, listIn, Option.some_or, Option.none_or, oneOrTup, go_sem]
        rw [← hr]
        rfl
      | false =>
        have e1 : anewActs d l = [⟨1, tNew, framesT l, []⟩, ⟨2, tNew, [], []⟩, ⟨3, tNew, [], tLog⟩] := by rw [anewActs, e2, ha, if_pos rfl, if_neg (by rw [show fileHas d tNew = false from hh]; simp)]; rfl
        rw [e1, e2, ha, ← hacc] at hr
        simp only [hd, g1, hh, go_sem]
        repeat' ((first | ((first | apply qa | apply qb | apply qc | apply qd | apply qe | apply qf | apply qg | apply qh | apply qi | apply qj | apply qk) <;> intro hp) | ((first | refine ql rfl rfl (by decide +kernel) ?_ | refine qm _ rfl rfl (by decide +kernel) ?_ | refine goes_opn rfl ?_ | refine goes_opnD rfl rfl (by decide +kernel) ?_) <;> have hp := True.intro)) <;> simp only [hp, hd, g1, hh, go_sem])
        simp only [fin_mk, finV, resL, resV1, resIn, endA, listIn, Option.some_or, Option.none_or, oneOrTup, go_sem]
        rw [← hr]
        rfl
end Go.Proofs.YtimiccneikhkgaaGreatDoor.L
