/- Disks: what is right of them, files found. -/
import Derived.Test.YtimiccneikhkgaaGreatDoorVLA
namespace Go.Proofs.YtimiccneikhkgaaGreatDoor.L
open Go Go.VM
set_option maxRecDepth 100000
set_option maxHeartbeats 4000000
set_option linter.unusedSimpArgs false
set_option linter.unusedVariables false
def fileAtOk (d : Disk) (i : Nat) : Bool := within (d.Files.getD i default).Name.length 1 8 && decide (((d.Files.getD i default).Text.length : Int) ≤ 20000) && within (d.Files.getD i default).Kept 0 (d.Files.getD i default).Text.length && (i == 0 || Op.bytesLess (d.Files.getD (i - 1) default).Name (d.Files.getD i default).Name)
def diskOk (d : Disk) : Bool := allN d.Files.length (fileAtOk d) && decide ((d.Files.length : Int) ≤ 30)
open Classical in
noncomputable def spFileName : VM.Spec := { modes := [.rd], run := fun | [.str s] => if s.length ≤ 4194304 then some (.bool (within s.length 1 8), []) else none | _ => none, need := [] }
attribute [go_sem] spFileName
theorem spFileName_in {ins : List V} {r : V} {outs : List V} (h : spFileName.run ins = some (r, outs)) : ∃ (s : (List UInt8)), ins = [.str s] ∧ (s.length ≤ 4194304) ∧ .bool (within s.length 1 8) = r ∧ outs = [] := by
  unfold spFileName at h
  simp only at h
  split at h
  · rename_i s
    split at h
    case isFalse => cases h
    rename_i hc
    simp only [Option.some.injEq, Prod.mk.injEq] at h
    obtain ⟨h1, h2⟩ := h
    exact ⟨s, rfl, hc, h1, h2.symm⟩
  · cases h
def T_spec_l03Name : Hints := ⟨fun _ => none, fun _ => none, fun i => if i = 0 then some [0] else if i = 1 then some [2] else none, fun _ => none⟩
noncomputable def Phi_spec_l03Name : Tab := fun f => if f = 53 then some spWithin else none
attribute [go_sem] T_spec_l03Name Phi_spec_l03Name
theorem phi_spec_l03Name : ∀ f sp, Phi_spec_l03Name f = some sp → FnOk Tryz.prog f sp ∧ ∀ n ∈ sp.need, n ∈ ([] : List String) := by
  intro f sp h
  unfold Phi_spec_l03Name at h
  by_cases e : f = 53
  · rw [if_pos e] at h; cases h; rw [e]; exact ⟨ok_spec_l01In, (fun n (h : n ∈ ([] : List String)) => (nomatch h))⟩
  rw [if_neg e] at h
  cases h
theorem ok_spec_l03Name : FnOk Tryz.prog 144 spFileName := by
  refine fn_ok (Φ := Phi_spec_l03Name) (T := T_spec_l03Name) phi_spec_l03Name mixed Tryz.func144 rfl rfl rfl (by decide) ?_
  intro ins r outs hr hl
  clear hl
  have hs := spFileName_in hr
  clear hr
  obtain ⟨s, rfl, hc, hr, rfl⟩ := hs
  simp only [spFileName, Tryz.f144, Go.VM.initS]
  simp only [go_sem]
  repeat' ((first | ((first | apply qa | apply qb | apply qc | apply qd | apply qe | apply qf | apply qg | apply qh | apply qi | apply qj | apply qk) <;> intro hp) | ((first | refine ql rfl rfl (by decide +kernel) ?_ | refine qm _ rfl rfl (by decide +kernel) ?_ | refine goes_opn rfl ?_ | refine goes_opnD rfl rfl (by decide +kernel) ?_) <;> have hp := True.intro)) <;> simp only [hp, go_sem])
  simp only [fin_mk, finV, resL, resV1, resIn, endA, listIn, Option.some_or, Option.none_or, oneOrTup, go_sem]
  rw [← hr]
open Classical in
noncomputable def spDiskOk : VM.Spec := { modes := [.rd], run := fun | [d'] => (Disk.dec d').bind fun d => if d.le 4194304 then some (.bool (diskOk d), []) else none | _ => none, need := [] }
attribute [go_sem] spDiskOk
theorem spDiskOk_in {ins : List V} {r : V} {outs : List V} (h : spDiskOk.run ins = some (r, outs)) : ∃ (d : Disk), ins = [Disk.enc d] ∧ (d.le 4194304) ∧ .bool (diskOk d) = r ∧ outs = [] := by
  unfold spDiskOk at h
  simp only at h
  split at h
  · rename_i d'
    simp only [Option.bind_eq_some_iff] at h
    obtain ⟨d, h_d, h⟩ := h
    split at h
    case isFalse => cases h
    rename_i hc
    simp only [Option.some.injEq, Prod.mk.injEq] at h
    obtain ⟨h1, h2⟩ := h
    have h_d := Disk.dec_some h_d
    subst h_d
    exact ⟨d, rfl, hc, h1, h2.symm⟩
  · cases h
def T_impl_DiskOk : Hints := ⟨fun i => if i = 4 then some [] else none, fun i => if i = 2 then some [1, 6, 7, 8] else none, fun i => if i = 0 then some [1] else if i = 1 then some [1, 6, 7, 8] else if i = 2 then some [1, 6, 7, 8, 9] else if i = 3 then some [1, 3, 4, 6, 7, 8] else if i = 4 then some [1, 6, 7, 8, 48] else if i = 5 then some [2] else if i = 6 then some [1, 6, 7, 8] else if i = 7 then some [2] else none, fun _ => none⟩
noncomputable def Phi_impl_DiskOk : Tab := fun f => if f = 59 then some spWithin else none
attribute [go_sem] T_impl_DiskOk Phi_impl_DiskOk
theorem phi_impl_DiskOk : ∀ f sp, Phi_impl_DiskOk f = some sp → FnOk Tryz.prog f sp ∧ ∀ n ∈ sp.need, n ∈ ([] : List String) := by
  intro f sp h
  unfold Phi_impl_DiskOk at h
  by_cases e : f = 59
  · rw [if_pos e] at h; cases h; rw [e]; exact ⟨ok_impl_within, (fun n (h : n ∈ ([] : List String)) => (nomatch h))⟩
  rw [if_neg e] at h
  cases h
theorem ok_impl_DiskOk : FnOk Tryz.prog 88 spDiskOk := by
  refine fn_ok (Φ := Phi_impl_DiskOk) (T := T_impl_DiskOk) phi_impl_DiskOk mixed Tryz.func88 rfl rfl rfl (by decide) ?_
  intro ins r outs hr hl
  clear hl
  have hs := spDiskOk_in hr
  clear hr
  obtain ⟨d, rfl, hc, hr, rfl⟩ := hs
  simp only [spDiskOk, Tryz.f88, Go.VM.initS]
  have hl : d.Files.length ≤ 4194304 := hc.1
  simp only [go_sem]
  refine loop_go (fun i : Nat => [(8, .int .i64 (i : Int))]) (fun _ => []) (fun i => d.Files.length - i) (fun i => i ≤ d.Files.length ∧ ∀ j, j < i → fileAtOk d j = true) 0 ⟨Nat.zero_le _, fun j hj => absurd hj (by omega)⟩ rfl rfl ?_
  intro i ⟨hi, ha⟩ ih
  rcases Nat.lt_or_ge i d.Files.length with h | h
  · have g1 : (i : Int) < d.Files.length := by omega
    have g2 : (0 : Int) ≤ i := by omega
    have g3 : d.Files[i]? = some d.Files[i] := List.getElem?_eq_getElem h
    have g5 := wrap_succ h (by omega)
    simp only [g1, g2, g3, go_sem]
    refine goes_valD 48 V.bool (!fileAtOk d i) rfl rfl rfl (by decide +kernel) ?_ ?_
    · intro G hG
      clear ih hr ha
      have e1 : decide ((20000 : Int) < (d.Files[i].Text.length : Int)) = !decide ((d.Files[i].Text.length : Int) ≤ 20000) := by
        rcases Int.lt_or_le 20000 (d.Files[i].Text.length : Int) with p | p
        · rw [decide_eq_true p, decide_eq_false (by omega)]; rfl
        · rw [decide_eq_false (by omega), decide_eq_true p]; rfl
      rcases Nat.eq_zero_or_pos i with h0 | h0
      · have k1 : ¬ (0 : Int) < i := by omega
        have g6 : fileAtOk d i = (within d.Files[i].Name.length 1 8 && decide ((d.Files[i].Text.length : Int) ≤ 20000) && within d.Files[i].Kept 0 d.Files[i].Text.length) := by
          have : (i == 0) = true := by simp [h0]
          simp only [fileAtOk, getD_lt h, this, Bool.true_or, Bool.and_true]
        simp only [g1, g2, g3, k1, e1, go_sem]
        repeat' ((first | ((first | apply qa | apply qb | apply qc | apply qd | apply qe | apply qf | apply qg | apply qh | apply qi | apply qj | apply qk) <;> intro hp) | ((first | refine ql rfl rfl (by decide +kernel) ?_ | refine qm _ rfl rfl (by decide +kernel) ?_ | refine goes_opn rfl ?_ | refine goes_opnD rfl rfl (by decide +kernel) ?_) <;> have hp := True.intro)) <;> simp only [hp, g1, g2, g3, k1, e1, go_sem])
        all_goals ((first | refine hG _ ?_ | (simp only [*] at hG; refine hG _ ?_)); clear hG; rw [g6]; simp_all)
      · have k1 : (0 : Int) < i := by omega
        have k2 := wrap_pred h0 (by omega)
        have k3 : (0 : Int) ≤ ((i - 1 : Nat) : Int) := by omega
        have k4 : ((i - 1 : Nat) : Int) < d.Files.length := by omega
        have k5 : d.Files[i - 1]? = some (d.Files[i - 1]'(by omega)) := List.getElem?_eq_getElem (by omega)
        have g6 : fileAtOk d i = (within d.Files[i].Name.length 1 8 && decide ((d.Files[i].Text.length : Int) ≤ 20000) && within d.Files[i].Kept 0 d.Files[i].Text.length && Op.bytesLess (d.Files[i - 1]'(by omega)).Name d.Files[i].Name) := by
          have : (i == 0) = false := by simp; omega
          simp only [fileAtOk, getD_lt h, getD_lt (show i - 1 < d.Files.length by omega), this, Bool.false_or]
        simp only [g1, g2, g3, k1, k2, k3, k4, k5, e1, go_sem]
        repeat' ((first | ((first | apply qa | apply qb | apply qc | apply qd | apply qe | apply qf | apply qg | apply qh | apply qi | apply qj | apply qk) <;> intro hp) | ((first | refine ql rfl rfl (by decide +kernel) ?_ | refine qm _ rfl rfl (by decide +kernel) ?_ | refine goes_opn rfl ?_ | refine goes_opnD rfl rfl (by decide +kernel) ?_) <;> have hp := True.intro)) <;> simp only [hp, g1, g2, g3, k1, k2, k3, k4, k5, e1, go_sem])
        all_goals ((first | refine hG _ ?_ | (simp only [*] at hG; refine hG _ ?_)); clear hG k2 k5; rw [g6]; simp_all)
    · simp only [g5, go_sem]
      repeat' ((first | ((first | apply qa | apply qb | apply qc | apply qd | apply qe | apply qf | apply qg | apply qh | apply qi | apply qj | apply qk) <;> intro hp) | ((first | refine ql rfl rfl (by decide +kernel) ?_ | refine qm _ rfl rfl (by decide +kernel) ?_ | refine goes_opn rfl ?_ | refine goes_opnD rfl rfl (by decide +kernel) ?_) <;> have hp := True.intro)) <;> simp only [hp, g5, go_sem])
      · simp only [fin_mk, finV, resL, resV1, resIn, endA, listIn, Option.some_or, Option.none_or, oneOrTup, go_sem]
        rw [← hr]
        rw [diskOk, allN_bad h hp]; rfl
      · exact ih (i + 1) ⟨h, all_succ ha hp⟩ (by omega)
  · have g1 : ¬ (i : Int) < d.Files.length := by omega
    have hs : diskOk d = decide ((d.Files.length : Int) ≤ 30) := by rw [diskOk, allN_all h ha, Bool.true_and]
    simp only [g1, go_sem]
    repeat' ((first | ((first | apply qa | apply qb | apply qc | apply qd | apply qe | apply qf | apply qg | apply qh | apply qi | apply qj | apply qk) <;> intro hp) | ((first | refine ql rfl rfl (by decide +kernel) ?_ | refine qm _ rfl rfl (by decide +kernel) ?_ | refine goes_opn rfl ?_ | refine goes_opnD rfl rfl (by decide +kernel) ?_) <;> have hp := True.intro)) <;> simp only [hp, g1, go_sem])
    all_goals (simp only [fin_mk, finV, resL, resV1, resIn, endA, listIn, Option.some_or, Option.none_or, oneOrTup, go_sem]; rw [← hr])
    all_goals rw [hs]
def T_spec_DiskOk : Hints := ⟨fun i => if i = 7 then some [] else none, fun i => if i = 4 then some [1, 3] else none, fun i => if i = 0 then some [1] else if i = 1 then some [1, 8] else if i = 2 then some [2] else if i = 3 then some [1, 3] else if i = 4 then some [1, 3, 13] else if i = 6 then some [1, 3, 4] else if i = 7 then some [1, 3, 55] else if i = 8 then some [2] else if i = 5 then some [1, 3] else if i = 9 then some [2] else none, fun _ => none⟩
noncomputable def Phi_spec_DiskOk : Tab := fun f => if f = 144 then some spFileName else if f = 53 then some spWithin else none
attribute [go_sem] T_spec_DiskOk Phi_spec_DiskOk
theorem phi_spec_DiskOk : ∀ f sp, Phi_spec_DiskOk f = some sp → FnOk Tryz.prog f sp ∧ ∀ n ∈ sp.need, n ∈ ([] : List String) := by
  intro f sp h
  unfold Phi_spec_DiskOk at h
  by_cases e : f = 144
  · rw [if_pos e] at h; cases h; rw [e]; exact ⟨ok_spec_l03Name, (fun n (h : n ∈ ([] : List String)) => (nomatch h))⟩
  rw [if_neg e] at h
  by_cases e : f = 53
  · rw [if_pos e] at h; cases h; rw [e]; exact ⟨ok_spec_l01In, (fun n (h : n ∈ ([] : List String)) => (nomatch h))⟩
  rw [if_neg e] at h
  cases h
theorem ok_spec_DiskOk : FnOk Tryz.prog 83 spDiskOk := by
  refine fn_ok (Φ := Phi_spec_DiskOk) (T := T_spec_DiskOk) phi_spec_DiskOk mixed Tryz.func83 rfl rfl rfl (by decide) ?_
  intro ins r outs hr hl
  clear hl
  have hs := spDiskOk_in hr
  clear hr
  obtain ⟨d, rfl, hc, hr, rfl⟩ := hs
  simp only [spDiskOk, Tryz.f83, Go.VM.initS]
  have hl : d.Files.length ≤ 4194304 := hc.1
  have hn : ∀ i, (h : i < d.Files.length) → d.Files[i].Name.length ≤ 4194304 := fun i h => (hc.2 _ (List.getElem_mem h)).1
  by_cases h30 : (30 : Int) < d.Files.length
  · have hs : diskOk d = false := by rw [diskOk, decide_eq_false (by omega), Bool.and_false]
    simp only [h30, go_sem]
    repeat' ((first | ((first | apply qa | apply qb | apply qc | apply qd | apply qe | apply qf | apply qg | apply qh | apply qi | apply qj | apply qk) <;> intro hp) | ((first | refine ql rfl rfl (by decide +kernel) ?_ | refine qm _ rfl rfl (by decide +kernel) ?_ | refine goes_opn rfl ?_ | refine goes_opnD rfl rfl (by decide +kernel) ?_) <;> have hp := True.intro)) <;> simp only [hp, h30, go_sem])
    simp only [fin_mk, finV, resL, resV1, resIn, endA, listIn, Option.some_or, Option.none_or, oneOrTup, go_sem]
    rw [← hr]
    rw [hs]
  simp only [h30, go_sem]
  refine loop_go (fun i : Nat => [(3, .int .i64 (i : Int))]) (fun _ => []) (fun i => d.Files.length - i) (fun i => i ≤ d.Files.length ∧ ∀ j, j < i → fileAtOk d j = true) 0 ⟨Nat.zero_le _, fun j hj => absurd hj (by omega)⟩ rfl rfl ?_
  intro i ⟨hi, ha⟩ ih
  rcases Nat.lt_or_ge i d.Files.length with h | h
  · have g1 : (i : Int) < d.Files.length := by omega
    have g2 : (0 : Int) ≤ i := by omega
    have g3 : d.Files[i]? = some d.Files[i] := List.getElem?_eq_getElem h
    have g5 := wrap_succ h (by omega)
    have gn := hn i h
    simp only [g1, g2, g3, go_sem]
    refine goes_valD 55 V.bool (!fileAtOk d i) rfl rfl rfl (by decide +kernel) ?_ ?_
    · intro G hG
      clear ih hr ha
      have e1 : decide ((20000 : Int) < (d.Files[i].Text.length : Int)) = !decide ((d.Files[i].Text.length : Int) ≤ 20000) := by
        rcases Int.lt_or_le 20000 (d.Files[i].Text.length : Int) with p | p
        · rw [decide_eq_true p, decide_eq_false (by omega)]; rfl
        · rw [decide_eq_false (by omega), decide_eq_true p]; rfl
      rcases Nat.eq_zero_or_pos i with h0 | h0
      · have k1 : ¬ (0 : Int) < i := by omega
        have g6 : fileAtOk d i = (within d.Files[i].Name.length 1 8 && decide ((d.Files[i].Text.length : Int) ≤ 20000) && within d.Files[i].Kept 0 d.Files[i].Text.length) := by
          have : (i == 0) = true := by simp [h0]
          simp only [fileAtOk, getD_lt h, this, Bool.true_or, Bool.and_true]
        simp only [g1, g2, g3, k1, e1, gn, go_sem]
        repeat' ((first | ((first | apply qa | apply qb | apply qc | apply qd | apply qe | apply qf | apply qg | apply qh | apply qi | apply qj | apply qk) <;> intro hp) | ((first | refine ql rfl rfl (by decide +kernel) ?_ | refine qm _ rfl rfl (by decide +kernel) ?_ | refine goes_opn rfl ?_ | refine goes_opnD rfl rfl (by decide +kernel) ?_) <;> have hp := True.intro)) <;> simp only [hp, g1, g2, g3, k1, e1, gn, go_sem])
        all_goals ((first | refine hG _ ?_ | (simp only [*] at hG; refine hG _ ?_)); clear hG; rw [g6]; simp_all)
      · have k1 : (0 : Int) < i := by omega
        have k2 := wrap_pred h0 (by omega)
        have k3 : (0 : Int) ≤ ((i - 1 : Nat) : Int) := by omega
        have k4 : ((i - 1 : Nat) : Int) < d.Files.length := by omega
        have k5 : d.Files[i - 1]? = some (d.Files[i - 1]'(by omega)) := List.getElem?_eq_getElem (by omega)
        have g6 : fileAtOk d i = (within d.Files[i].Name.length 1 8 && decide ((d.Files[i].Text.length : Int) ≤ 20000) && within d.Files[i].Kept 0 d.Files[i].Text.length && Op.bytesLess (d.Files[i - 1]'(by omega)).Name d.Files[i].Name) := by
          have : (i == 0) = false := by simp; omega
          simp only [fileAtOk, getD_lt h, getD_lt (show i - 1 < d.Files.length by omega), this, Bool.false_or]
        simp only [g1, g2, g3, k1, k2, k3, k4, k5, e1, gn, go_sem]
        repeat' ((first | ((first | apply qa | apply qb | apply qc | apply qd | apply qe | apply qf | apply qg | apply qh | apply qi | apply qj | apply qk) <;> intro hp) | ((first | refine ql rfl rfl (by decide +kernel) ?_ | refine qm _ rfl rfl (by decide +kernel) ?_ | refine goes_opn rfl ?_ | refine goes_opnD rfl rfl (by decide +kernel) ?_) <;> have hp := True.intro)) <;> simp only [hp, g1, g2, g3, k1, k2, k3, k4, k5, e1, gn, go_sem])
        all_goals ((first | refine hG _ ?_ | (simp only [*] at hG; refine hG _ ?_)); clear hG k2 k5; rw [g6]; simp_all)
    · simp only [g5, go_sem]
      repeat' ((first | ((first | apply qa | apply qb | apply qc | apply qd | apply qe | apply qf | apply qg | apply qh | apply qi | apply qj | apply qk) <;> intro hp) | ((first | refine ql rfl rfl (by decide +kernel) ?_ | refine qm _ rfl rfl (by decide +kernel) ?_ | refine goes_opn rfl ?_ | refine goes_opnD rfl rfl (by decide +kernel) ?_) <;> have hp := True.intro)) <;> simp only [hp, g5, go_sem])
      · simp only [fin_mk, finV, resL, resV1, resIn, endA, listIn, Option.some_or, Option.none_or, oneOrTup, go_sem]
        rw [← hr]
        rw [diskOk, allN_bad h hp]; rfl
      · exact ih (i + 1) ⟨h, all_succ ha hp⟩ (by omega)
  · have g1 : ¬ (i : Int) < d.Files.length := by omega
    have hs : diskOk d = true := by rw [diskOk, allN_all h ha, Bool.true_and, decide_eq_true (by omega)]
    simp only [g1, go_sem]
    repeat' ((first | ((first | apply qa | apply qb | apply qc | apply qd | apply qe | apply qf | apply qg | apply qh | apply qi | apply qj | apply qk) <;> intro hp) | ((first | refine ql rfl rfl (by decide +kernel) ?_ | refine qm _ rfl rfl (by decide +kernel) ?_ | refine goes_opn rfl ?_ | refine goes_opnD rfl rfl (by decide +kernel) ?_) <;> have hp := True.intro)) <;> simp only [hp, g1, go_sem])
    all_goals (simp only [fin_mk, finV, resL, resV1, resIn, endA, listIn, Option.some_or, Option.none_or, oneOrTup, go_sem]; rw [← hr])
    all_goals rw [hs]
/-! ### files found -/
def fileIx (l : List File) (name : List UInt8) : Int := idxL (fun f : File => f.Name == name) l
open Classical in
noncomputable def spSameFile : VM.Spec := { modes := [.rd, .rd], run := fun | [f', .rptr (.str name)] => (File.dec f').bind fun f => some (.bool ((f.Name == name)), []) | _ => none, need := [] }
attribute [go_sem] spSameFile
theorem spSameFile_in {ins : List V} {r : V} {outs : List V} (h : spSameFile.run ins = some (r, outs)) : ∃ (f : File) (name : (List UInt8)), ins = [File.enc f, .rptr (.str name)] ∧ .bool ((f.Name == name)) = r ∧ outs = [] := by
  unfold spSameFile at h
  simp only at h
  split at h
  · rename_i f' name
    simp only [Option.bind_eq_some_iff] at h
    obtain ⟨f, h_f, h⟩ := h
    simp only [Option.some.injEq, Prod.mk.injEq] at h
    obtain ⟨h1, h2⟩ := h
    have h_f := File.dec_some h_f
    subst h_f
    exact ⟨f, name, rfl, h1, h2.symm⟩
  · cases h
def T_impl_placeOf_1 : Hints := ⟨fun _ => none, fun _ => none, fun i => if i = 0 then some [1, 2] else if i = 1 then some [3] else none, fun _ => none⟩
noncomputable def Phi_impl_placeOf_1 : Tab := fun f => none
attribute [go_sem] T_impl_placeOf_1 Phi_impl_placeOf_1
theorem phi_impl_placeOf_1 : ∀ f sp, Phi_impl_placeOf_1 f = some sp → FnOk Tryz.prog f sp ∧ ∀ n ∈ sp.need, n ∈ ([] : List String) := by
  intro f sp h
  unfold Phi_impl_placeOf_1 at h
  cases h
theorem ok_impl_placeOf_1 : FnOk Tryz.prog 180 spSameFile := by
  refine fn_ok (Φ := Phi_impl_placeOf_1) (T := T_impl_placeOf_1) phi_impl_placeOf_1 mixed Tryz.func180 rfl rfl rfl (by decide) ?_
  intro ins r outs hr hl
  clear hl
  have hs := spSameFile_in hr
  clear hr
  obtain ⟨f, name, rfl, hr, rfl⟩ := hs
  simp only [spSameFile, Tryz.f180, Go.VM.initS]
  simp only [go_sem]
  repeat' ((first | ((first | apply qa | apply qb | apply qc | apply qd | apply qe | apply qf | apply qg | apply qh | apply qi | apply qj | apply qk) <;> intro hp) | ((first | refine ql rfl rfl (by decide +kernel) ?_ | refine qm _ rfl rfl (by decide +kernel) ?_ | refine goes_opn rfl ?_ | refine goes_opnD rfl rfl (by decide +kernel) ?_) <;> have hp := True.intro)) <;> simp only [hp, go_sem])
  simp only [fin_mk, finV, resL, resV1, resIn, endA, listIn, Option.some_or, Option.none_or, oneOrTup, go_sem]
  rw [← hr]
open Classical in
noncomputable def spIdxFile : VM.Spec := { modes := [.rd, .rd], run := fun | [.lst 3 l', .fn 180 [.rptr (.str name)]] => (decL File.dec l').bind fun l => if l.length ≤ 4194304 then some (.int .i64 (fileIx l name), []) else none | _ => none, need := [] }
attribute [go_sem] spIdxFile
theorem spIdxFile_in {ins : List V} {r : V} {outs : List V} (h : spIdxFile.run ins = some (r, outs)) : ∃ (l : (List File)) (name : (List UInt8)), ins = [.lst 3 ((l).map File.enc), .fn 180 [.rptr (.str name)]] ∧ (l.length ≤ 4194304) ∧ .int .i64 (fileIx l name) = r ∧ outs = [] := by
  unfold spIdxFile at h
  simp only at h
  split at h
  · rename_i l' name
    simp only [Option.bind_eq_some_iff] at h
    obtain ⟨l, h_l, h⟩ := h
    split at h
    case isFalse => cases h
    rename_i hc
    simp only [Option.some.injEq, Prod.mk.injEq] at h
    obtain ⟨h1, h2⟩ := h
    have h_l := decL_some (fun _ _ h => File.dec_some h) h_l
    subst h_l
    exact ⟨l, name, rfl, hc, h1, h2.symm⟩
  · cases h
def T_slices_IndexFunc_loop_example_g00247_impl_File_loop_example_g00247_impl_File : Hints := ⟨fun _ => none, fun i => if i = 2 then some [0, 1, 7, 8] else none, fun i => if i = 0 then some [0, 1] else if i = 1 then some [0, 1, 7, 8] else if i = 2 then some [0, 1, 7, 8, 9] else if i = 3 then some [0, 1, 5, 7, 8] else if i = 4 then some [0, 1, 5, 7, 8, 16] else if i = 5 then some [4] else if i = 6 then some [0, 1, 7, 8] else if i = 7 then some [4] else none, fun _ => none⟩
noncomputable def Phi_slices_IndexFunc_loop_example_g00247_impl_File_loop_example_g00247_impl_File : Tab := fun f => if f = 180 then some spSameFile else none
attribute [go_sem] T_slices_IndexFunc_loop_example_g00247_impl_File_loop_example_g00247_impl_File Phi_slices_IndexFunc_loop_example_g00247_impl_File_loop_example_g00247_impl_File
theorem phi_slices_IndexFunc_loop_example_g00247_impl_File_loop_example_g00247_impl_File : ∀ f sp, Phi_slices_IndexFunc_loop_example_g00247_impl_File_loop_example_g00247_impl_File f = some sp → FnOk Tryz.prog f sp ∧ ∀ n ∈ sp.need, n ∈ ([] : List String) := by
  intro f sp h
  unfold Phi_slices_IndexFunc_loop_example_g00247_impl_File_loop_example_g00247_impl_File at h
  by_cases e : f = 180
  · rw [if_pos e] at h; cases h; rw [e]; exact ⟨ok_impl_placeOf_1, (fun n (h : n ∈ ([] : List String)) => (nomatch h))⟩
  rw [if_neg e] at h
  cases h
theorem ok_slices_IndexFunc_loop_example_g00247_impl_File_loop_example_g00247_impl_File : FnOk Tryz.prog 179 spIdxFile := by
  refine fn_ok (Φ := Phi_slices_IndexFunc_loop_example_g00247_impl_File_loop_example_g00247_impl_File) (T := T_slices_IndexFunc_loop_example_g00247_impl_File_loop_example_g00247_impl_File) phi_slices_IndexFunc_loop_example_g00247_impl_File_loop_example_g00247_impl_File mixed Tryz.func179 rfl rfl rfl (by decide) ?_
  intro ins r outs hr hl
  clear hl
  have hs := spIdxFile_in hr
  clear hr
  obtain ⟨l, name, rfl, hc, hr, rfl⟩ := hs
  simp only [spIdxFile, Tryz.f179, Go.VM.initS]
  simp only [go_sem]
  refine loop_go (fun i : Nat => [(8, .int .i64 (i : Int))]) (fun _ => []) (fun i => l.length - i) (fun i => i ≤ l.length ∧ ∀ j (hj : j < i) (hj' : j < l.length), (l[j].Name == name) = false) 0 ⟨Nat.zero_le _, fun j hj => by omega⟩ rfl rfl ?_
  rintro i ⟨hi, ha⟩ ih
  rcases Nat.lt_or_ge i l.length with h | h
  · have g1 : (i : Int) < l.length := by omega
    have g2 : (0 : Int) ≤ i := by omega
    have g3 : l[i]? = some l[i] := List.getElem?_eq_getElem h
    have g5 := wrap_succ h (by omega)
    cases hq : (l[i].Name == name) with
    | true =>
      simp only [g1, g2, g3, g5, hq, go_sem]
      repeat' ((first | ((first | apply qa | apply qb | apply qc | apply qd | apply qe | apply qf | apply qg | apply qh | apply qi | apply qj | apply qk) <;> intro hp) | ((first | refine ql rfl rfl (by decide +kernel) ?_ | refine qm _ rfl rfl (by decide +kernel) ?_ | refine goes_opn rfl ?_ | refine goes_opnD rfl rfl (by decide +kernel) ?_) <;> have hp := True.intro)) <;> simp only [hp, g1, g2, g3, g5, hq, go_sem])
      simp only [fin_mk, finV, resL, resV1, resIn, endA, listIn, Option.some_or, Option.none_or, oneOrTup, go_sem]
      rw [← hr]
      rw [fileIx, idxL_hit h (fun j hj => ha j hj (by omega)) hq]
    | false =>
      simp only [g1, g2, g3, g5, hq, go_sem]
      repeat' ((first | ((first | apply qa | apply qb | apply qc | apply qd | apply qe | apply qf | apply qg | apply qh | apply qi | apply qj | apply qk) <;> intro hp) | ((first | refine ql rfl rfl (by decide +kernel) ?_ | refine qm _ rfl rfl (by decide +kernel) ?_ | refine goes_opn rfl ?_ | refine goes_opnD rfl rfl (by decide +kernel) ?_) <;> have hp := True.intro)) <;> simp only [hp, g1, g2, g3, g5, hq, go_sem])
      refine ih (i + 1) ⟨h, fun j hj hj' => ?_⟩ (by omega)
      rcases Nat.lt_or_ge j i with h1 | h1
      · exact ha j h1 hj'
      · have : j = i := by omega
        subst this; exact hq
  · have g1 : ¬ (i : Int) < l.length := by omega
    simp only [g1, go_sem]
    simp only [fin_mk, finV, resL, resV1, resIn, endA, listIn, Option.some_or, Option.none_or, oneOrTup, go_sem]
    rw [← hr]
    rw [fileIx, idxL_miss fun j hj => ha j (by omega) hj]
open Classical in
noncomputable def spFileIx : VM.Spec := { modes := [.rd, .rd], run := fun | [d', .str name] => (Disk.dec d').bind fun d => if d.le 4194304 then some (.int .i64 (fileIx d.Files name), []) else none | _ => none, need := [] }
attribute [go_sem] spFileIx
theorem spFileIx_in {ins : List V} {r : V} {outs : List V} (h : spFileIx.run ins = some (r, outs)) : ∃ (d : Disk) (name : (List UInt8)), ins = [Disk.enc d, .str name] ∧ (d.le 4194304) ∧ .int .i64 (fileIx d.Files name) = r ∧ outs = [] := by
  unfold spFileIx at h
  simp only at h
  split at h
  · rename_i d' name
    simp only [Option.bind_eq_some_iff] at h
    obtain ⟨d, h_d, h⟩ := h
    split at h
    case isFalse => cases h
    rename_i hc
    simp only [Option.some.injEq, Prod.mk.injEq] at h
    obtain ⟨h1, h2⟩ := h
    have h_d := Disk.dec_some h_d
    subst h_d
    exact ⟨d, name, rfl, hc, h1, h2.symm⟩
  · cases h
def T_impl_placeOf : Hints := ⟨fun _ => none, fun _ => none, fun i => if i = 0 then some [2, 3] else if i = 1 then some [4] else none, fun _ => none⟩
noncomputable def Phi_impl_placeOf : Tab := fun f => if f = 179 then some spIdxFile else none
attribute [go_sem] T_impl_placeOf Phi_impl_placeOf
theorem phi_impl_placeOf : ∀ f sp, Phi_impl_placeOf f = some sp → FnOk Tryz.prog f sp ∧ ∀ n ∈ sp.need, n ∈ ([] : List String) := by
  intro f sp h
  unfold Phi_impl_placeOf at h
  by_cases e : f = 179
  · rw [if_pos e] at h; cases h; rw [e]; exact ⟨ok_slices_IndexFunc_loop_example_g00247_impl_File_loop_example_g00247_impl_File, (fun n (h : n ∈ ([] : List String)) => (nomatch h))⟩
  rw [if_neg e] at h
  cases h
theorem ok_impl_placeOf : FnOk Tryz.prog 151 spFileIx := by
  refine fn_ok (Φ := Phi_impl_placeOf) (T := T_impl_placeOf) phi_impl_placeOf mixed Tryz.func151 rfl rfl rfl (by decide) ?_
  intro ins r outs hr hl
  clear hl
  have hs := spFileIx_in hr
  clear hr
  obtain ⟨d, name, rfl, hc, hr, rfl⟩ := hs
  simp only [spFileIx, Tryz.f151, Go.VM.initS]
  have hl : d.Files.length ≤ 4194304 := hc.1
  simp only [hl, go_sem]
  repeat' ((first | ((first | apply qa | apply qb | apply qc | apply qd | apply qe | apply qf | apply qg | apply qh | apply qi | apply qj | apply qk) <;> intro hp) | ((first | refine ql rfl rfl (by decide +kernel) ?_ | refine qm _ rfl rfl (by decide +kernel) ?_ | refine goes_opn rfl ?_ | refine goes_opnD rfl rfl (by decide +kernel) ?_) <;> have hp := True.intro)) <;> simp only [hp, hl, go_sem])
  simp only [fin_mk, finV, resL, resV1, resIn, endA, listIn, Option.some_or, Option.none_or, oneOrTup, go_sem]
  rw [← hr]
def T_spec_l03At : Hints := ⟨fun _ => none, fun i => if i = 2 then some [1, 2, 5] else none, fun i => if i = 0 then some [1, 2] else if i = 1 then some [1, 2, 5] else if i = 2 then some [1, 2, 5, 10] else if i = 4 then some [1, 2, 5, 20] else if i = 5 then some [4] else if i = 3 then some [1, 2, 5] else if i = 6 then some [4] else none, fun _ => none⟩
noncomputable def Phi_spec_l03At : Tab := fun f => none
attribute [go_sem] T_spec_l03At Phi_spec_l03At
theorem phi_spec_l03At : ∀ f sp, Phi_spec_l03At f = some sp → FnOk Tryz.prog f sp ∧ ∀ n ∈ sp.need, n ∈ ([] : List String) := by
  intro f sp h
  unfold Phi_spec_l03At at h
  cases h
theorem ok_spec_l03At : FnOk Tryz.prog 147 spFileIx := by
  refine fn_ok (Φ := Phi_spec_l03At) (T := T_spec_l03At) phi_spec_l03At mixed Tryz.func147 rfl rfl rfl (by decide) ?_
  intro ins r outs hr hl
  clear hl
  have hs := spFileIx_in hr
  clear hr
  obtain ⟨d, name, rfl, hc, hr, rfl⟩ := hs
  simp only [spFileIx, Tryz.f147, Go.VM.initS]
  have hl : d.Files.length ≤ 4194304 := hc.1
  simp only [go_sem]
  refine loop_go (fun i : Nat => [(5, .int .i64 (i : Int))]) (fun _ => []) (fun i => d.Files.length - i) (fun i => i ≤ d.Files.length ∧ ∀ j (hj : j < i) (hj' : j < d.Files.length), (d.Files[j].Name == name) = false) 0 ⟨Nat.zero_le _, fun j hj => by omega⟩ rfl rfl ?_
  rintro i ⟨hi, ha⟩ ih
  rcases Nat.lt_or_ge i d.Files.length with h | h
  · have g1 : (i : Int) < d.Files.length := by omega
    have g2 : (0 : Int) ≤ i := by omega
    have g3 : d.Files[i]? = some d.Files[i] := List.getElem?_eq_getElem h
    have g5 := wrap_succ h (by omega)
    cases hq : (d.Files[i].Name == name) with
    | true =>
      simp only [g1, g2, g3, g5, hq, go_sem]
      repeat' ((first | ((first | apply qa | apply qb | apply qc | apply qd | apply qe | apply qf | apply qg | apply qh | apply qi | apply qj | apply qk) <;> intro hp) | ((first | refine ql rfl rfl (by decide +kernel) ?_ | refine qm _ rfl rfl (by decide +kernel) ?_ | refine goes_opn rfl ?_ | refine goes_opnD rfl rfl (by decide +kernel) ?_) <;> have hp := True.intro)) <;> simp only [hp, g1, g2, g3, g5, hq, go_sem])
      simp only [fin_mk, finV, resL, resV1, resIn, endA, listIn, Option.some_or, Option.none_or, oneOrTup, go_sem]
      rw [← hr]
      rw [fileIx, idxL_hit h (fun j hj => ha j hj (by omega)) hq]
    | false =>
      simp only [g1, g2, g3, g5, hq, go_sem]
      repeat' ((first | ((first | apply qa | apply qb | apply qc | apply qd | apply qe | apply qf | apply qg | apply qh | apply qi | apply qj | apply qk) <;> intro hp) | ((first | refine ql rfl rfl (by decide +kernel) ?_ | refine qm _ rfl rfl (by decide +kernel) ?_ | refine goes_opn rfl ?_ | refine goes_opnD rfl rfl (by decide +kernel) ?_) <;> have hp := True.intro)) <;> simp only [hp, g1, g2, g3, g5, hq, go_sem])
      refine ih (i + 1) ⟨h, fun j hj hj' => ?_⟩ (by omega)
      rcases Nat.lt_or_ge j i with h1 | h1
      · exact ha j h1 hj'
      · have : j = i := by omega
        subst this; exact hq
  · have g1 : ¬ (i : Int) < d.Files.length := by omega
    simp only [g1, go_sem]
    simp only [fin_mk, finV, resL, resV1, resIn, endA, listIn, Option.some_or, Option.none_or, oneOrTup, go_sem]
    rw [← hr]
    rw [fileIx, idxL_miss fun j hj => ha j (by omega) hj]
def fileTx (d : Disk) (name : List UInt8) : List UInt8 := if 0 ≤ fileIx d.Files name then (d.Files.getD (fileIx d.Files name).toNat default).Text else []
def fileHas (d : Disk) (name : List UInt8) : Bool := decide (0 ≤ fileIx d.Files name)
open Classical in
noncomputable def spFileAt : VM.Spec := { modes := [.rd, .rd], run := fun | [d', .str name] => (Disk.dec d').bind fun d => if d.le 4194304 then some (.tup [.str (fileTx d name), .bool (fileHas d name)], []) else none | _ => none, need := [] }
attribute [go_sem] spFileAt
theorem spFileAt_in {ins : List V} {r : V} {outs : List V} (h : spFileAt.run ins = some (r, outs)) : ∃ (d : Disk) (name : (List UInt8)), ins = [Disk.enc d, .str name] ∧ (d.le 4194304) ∧ .tup [.str (fileTx d name), .bool (fileHas d name)] = r ∧ outs = [] := by
  unfold spFileAt at h
  simp only at h
  split at h
  · rename_i d' name
    simp only [Option.bind_eq_some_iff] at h
    obtain ⟨d, h_d, h⟩ := h
    split at h
    case isFalse => cases h
    rename_i hc
    simp only [Option.some.injEq, Prod.mk.injEq] at h
    obtain ⟨h1, h2⟩ := h
    have h_d := Disk.dec_some h_d
    subst h_d
    exact ⟨d, name, rfl, hc, h1, h2.symm⟩
  · cases h
def T_impl_FileAt : Hints := ⟨fun _ => none, fun _ => none, fun i => if i = 0 then some [1, 2] else if i = 1 then some [2, 6] else if i = 2 then some [2, 6, 11] else if i = 3 then some [4, 5] else if i = 4 then some [4, 5] else none, fun _ => none⟩
noncomputable def Phi_impl_FileAt : Tab := fun f => if f = 151 then some spFileIx else none
attribute [go_sem] T_impl_FileAt Phi_impl_FileAt
theorem phi_impl_FileAt : ∀ f sp, Phi_impl_FileAt f = some sp → FnOk Tryz.prog f sp ∧ ∀ n ∈ sp.need, n ∈ ([] : List String) := by
  intro f sp h
  unfold Phi_impl_FileAt at h
  by_cases e : f = 151
  · rw [if_pos e] at h; cases h; rw [e]; exact ⟨ok_impl_placeOf, (fun n (h : n ∈ ([] : List String)) => (nomatch h))⟩
  rw [if_neg e] at h
  cases h
theorem ok_impl_FileAt : FnOk Tryz.prog 90 spFileAt := by
  refine fn_ok (Φ := Phi_impl_FileAt) (T := T_impl_FileAt) phi_impl_FileAt mixed Tryz.func90 rfl rfl rfl (by decide) ?_
  intro ins r outs hr hl
  clear hl
  have hs := spFileAt_in hr
  clear hr
  obtain ⟨d, name, rfl, hc, hr, rfl⟩ := hs
  simp only [spFileAt, Tryz.f90, Go.VM.initS]
  have hl : d.Files.length ≤ 4194304 := hc.1
  have hg := idxL_ge (fun f : File => f.Name == name) d.Files
  obtain ⟨x, hx⟩ : ∃ x, fileIx d.Files name = x := ⟨_, rfl⟩
  have hx' : idxL (fun f : File => f.Name == name) d.Files = x := hx
  rw [hx'] at hg
  by_cases h0 : x < 0
  · have e1 : fileTx d name = [] := by rw [fileTx, hx, if_neg (by omega)]
    have e2 : fileHas d name = false := by rw [fileHas, hx, decide_eq_false (by omega)]
    rw [e1, e2] at hr
    simp only [hc, hx, h0, go_sem]
    repeat' ((first | ((first | apply qa | apply qb | apply qc | apply qd | apply qe | apply qf | apply qg | apply qh | apply qi | apply qj | apply qk) <;> intro hp) | ((first | refine ql rfl rfl (by decide +kernel) ?_ | refine qm _ rfl rfl (by decide +kernel) ?_ | refine goes_opn rfl ?_ | refine goes_opnD rfl rfl (by decide +kernel) ?_) <;> have hp := True.intro)) <;> simp only [hp, hc, hx, h0, go_sem])
    simp only [fin_mk, finV, resL, resV1, resIn, endA, listIn, Option.some_or, Option.none_or, oneOrTup, go_sem]
    rw [← hr]
  · obtain ⟨k, rfl⟩ : ∃ k : Nat, x = k := ⟨x.toNat, by omega⟩
    have hk : k < d.Files.length := by omega
    have e1 : fileTx d name = d.Files[k].Text := by rw [fileTx, hx, if_pos (by omega)]; simp only [Int.toNat_natCast, getD_lt hk]
    have e2 : fileHas d name = true := by rw [fileHas, hx, decide_eq_true (by omega)]
    rw [e1, e2] at hr
    have g2 : (0 : Int) ≤ k := by omega
    have g3 : d.Files[k]? = some d.Files[k] := List.getElem?_eq_getElem hk
    have g4 : (k : Int) < d.Files.length := by omega
    simp only [hc, hx, h0, g2, g3, g4, go_sem]
    repeat' ((first | ((first | apply qa | apply qb | apply qc | apply qd | apply qe | apply qf | apply qg | apply qh | apply qi | apply qj | apply qk) <;> intro hp) | ((first | refine ql rfl rfl (by decide +kernel) ?_ | refine qm _ rfl rfl (by decide +kernel) ?_ | refine goes_opn rfl ?_ | refine goes_opnD rfl rfl (by decide +kernel) ?_) <;> have hp := True.intro)) <;> simp only [hp, hc, hx, h0, g2, g3, g4, go_sem])
    simp only [fin_mk, finV, resL, resV1, resIn, endA, listIn, Option.some_or, Option.none_or, oneOrTup, go_sem]
    rw [← hr]
def T_spec_FileAt : Hints := ⟨fun _ => none, fun _ => none, fun i => if i = 0 then some [1, 2] else if i = 1 then some [2, 6] else if i = 2 then some [2, 6, 11] else if i = 3 then some [4, 5] else if i = 4 then some [4, 5] else none, fun _ => none⟩
noncomputable def Phi_spec_FileAt : Tab := fun f => if f = 147 then some spFileIx else none
attribute [go_sem] T_spec_FileAt Phi_spec_FileAt
theorem phi_spec_FileAt : ∀ f sp, Phi_spec_FileAt f = some sp → FnOk Tryz.prog f sp ∧ ∀ n ∈ sp.need, n ∈ ([] : List String) := by
  intro f sp h
  unfold Phi_spec_FileAt at h
  by_cases e : f = 147
  · rw [if_pos e] at h; cases h; rw [e]; exact ⟨ok_spec_l03At, (fun n (h : n ∈ ([] : List String)) => (nomatch h))⟩
  rw [if_neg e] at h
  cases h
theorem ok_spec_FileAt : FnOk Tryz.prog 85 spFileAt := by
  refine fn_ok (Φ := Phi_spec_FileAt) (T := T_spec_FileAt) phi_spec_FileAt mixed Tryz.func85 rfl rfl rfl (by decide) ?_
  intro ins r outs hr hl
  clear hl
  have hs := spFileAt_in hr
  clear hr
  obtain ⟨d, name, rfl, hc, hr, rfl⟩ := hs
  simp only [spFileAt, Tryz.f85, Go.VM.initS]
  have hl : d.Files.length ≤ 4194304 := hc.1
  have hg := idxL_ge (fun f : File => f.Name == name) d.Files
  obtain ⟨x, hx⟩ : ∃ x, fileIx d.Files name = x := ⟨_, rfl⟩
  have hx' : idxL (fun f : File => f.Name == name) d.Files = x := hx
  rw [hx'] at hg
  by_cases h0 : x < 0
  · have e1 : fileTx d name = [] := by rw [fileTx, hx, if_neg (by omega)]
    have e2 : fileHas d name = false := by rw [fileHas, hx, decide_eq_false (by omega)]
    rw [e1, e2] at hr
    simp only [hc, hx, h0, go_sem]
    repeat' ((first | ((first | apply qa | apply qb | apply qc | apply qd | apply qe | apply qf | apply qg | apply qh | apply qi | apply qj | apply qk) <;> intro hp) | ((first | refine ql rfl rfl (by decide +kernel) ?_ | refine qm _ rfl rfl (by decide +kernel) ?_ | refine goes_opn rfl ?_ | refine goes_opnD rfl rfl (by decide +kernel) ?_) <;> have hp := True.intro)) <;> simp only [hp, hc, hx, h0, go_sem])
    simp only [fin_mk, finV, resL, resV1, resIn, endA, listIn, Option.some_or, Option.none_or, oneOrTup, go_sem]
    rw [← hr]
  · obtain ⟨k, rfl⟩ : ∃ k : Nat, x = k := ⟨x.toNat, by omega⟩
    have hk : k < d.Files.length := by omega
    have e1 : fileTx d name = d.Files[k].Text := by rw [fileTx, hx, if_pos (by omega)]; simp only [Int.toNat_natCast, getD_lt hk]
    have e2 : fileHas d name = true := by rw [fileHas, hx, decide_eq_true (by omega)]
    rw [e1, e2] at hr
    have g2 : (0 : Int) ≤ k := by omega
    have g3 : d.Files[k]? = some d.Files[k] := List.getElem?_eq_getElem hk
    have g4 : (k : Int) < d.Files.length := by omega
    simp only [hc, hx, h0, g2, g3, g4, go_sem]
    repeat' ((first | ((first | apply qa | apply qb | apply qc | apply qd | apply qe | apply qf | apply qg | apply qh | apply qi | apply qj | apply qk) <;> intro hp) | ((first | refine ql rfl rfl (by decide +kernel) ?_ | refine qm _ rfl rfl (by decide +kernel) ?_ | refine goes_opn rfl ?_ | refine goes_opnD rfl rfl (by decide +kernel) ?_) <;> have hp := True.intro)) <;> simp only [hp, hc, hx, h0, g2, g3, g4, go_sem])
    simp only [fin_mk, finV, resL, resV1, resIn, endA, listIn, Option.some_or, Option.none_or, oneOrTup, go_sem]
    rw [← hr]
end Go.Proofs.YtimiccneikhkgaaGreatDoor.L
