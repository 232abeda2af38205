/- What matches a key. -/
import Derived.Test.YtglldabpgobimaaGreatDoorVLRs3
namespace Go.Proofs.YtglldabpgobimaaGreatDoor.L
open Go Go.VM
set_option maxRecDepth 100000
set_option maxHeartbeats 4000000
set_option linter.unusedSimpArgs false
set_option linter.unusedVariables false
theorem headIn_len (nm : List UInt8) (n : Nat) : ∀ ls : List (List UInt8), (∀ x ∈ ls, x.length ≤ n) → (headIn nm ls).1.length ≤ n
  | [], _ => by simp [headIn]
  | l :: ls, h => by
    rw [headIn]
    split
    · simp
    · split
      · have h1 := trim_len (l.drop (nm.length + 1))
        have h2 := h l (by simp)
        rw [List.length_drop] at h1
        simp only; omega
      · exact headIn_len nm n ls fun x hx => h x (by simp [hx])
theorem headOf_len (t nm : List UInt8) : (headOf t nm).1.length ≤ t.length := headIn_len nm _ _ (splitOn_mem 10 t)
theorem baseL_len : ∀ (n : Nat) (s : List UInt8), (baseL n s).length ≤ s.length
  | 0, s => Nat.le_refl _
  | n + 1, s => by
    rw [baseL]
    split
    · exact Nat.le_trans (baseL_len n _) (Nat.le_trans (trim_len _) (by rw [List.length_drop]; omega))
    · split
      · exact Nat.le_trans (baseL_len n _) (Nat.le_trans (trim_len _) (by rw [List.length_drop]; omega))
      · exact Nat.le_refl _
theorem baseSubject_len (s : List UInt8) : (baseSubject s).length ≤ s.length :=
  Nat.le_trans (baseL_len _ _) (Nat.le_trans (trim_len _) (by rw [lowS_len]; exact Nat.le_refl _))
theorem readSet_len (t : List UInt8) (last : Int) : (readSet t last).length ≤ 40 := by
  unfold readSet
  split
  · rename_i h
    simp only [readOk, Bool.and_eq_true] at h
    split
    · rename_i l hl
      rw [hl] at h
      simpa using h.2
    · simp
  · simp
theorem readSet_no {t : List UInt8} {last : Int} (h : readOk t last = false) : readSet t last = [] := by rw [readSet, h, if_neg (by simp)]
/-- A text has another one. -/
def hasT (s t : List UInt8) : Bool := decide (0 ≤ Lib.index s t)
theorem index_nil {s : List UInt8} : Lib.index s [] = 0 := by cases s <;> simp [Lib.index, List.isPrefixOf]
theorem hasT_here {s t : List UInt8} (h : t.isPrefixOf s = true) : hasT s t = true := by
  cases s with
  | nil =>
    have : t = [] := by cases t with | nil => rfl | cons a l => simp [List.isPrefixOf] at h
    subst this; simp [hasT, Lib.index]
  | cons b s => simp [hasT, Lib.index, h]
theorem hasT_next {b : UInt8} {s t : List UInt8} (h : t.isPrefixOf (b :: s) = false) : hasT (b :: s) t = hasT s t := by
  have hge := Lib.index_ge s t
  simp only [hasT, Lib.index, h, Bool.false_eq_true, if_false]
  by_cases he : Lib.index s t = -1
  · rw [he]; rfl
  · have : (Lib.index s t == -1) = false := beq_eq_false_iff_ne.2 he
    rw [this, Bool.eq_iff_iff]
    simp; omega
theorem hasT_short {s t : List UInt8} (h : s.length < t.length) : hasT s t = false := by
  rw [hasT, decide_eq_false_iff_not]
  intro h0
  have := index_room h0
  omega
theorem pre_at {s t : List UInt8} {i : Nat} (h : i + t.length ≤ s.length) : t.isPrefixOf (s.drop i) = ((s.take (i + t.length)).drop i == t) := by
  rw [Bool.eq_iff_iff, List.isPrefixOf_iff_prefix, List.prefix_iff_eq_take, beq_iff_eq, List.drop_take]
  rw [show i + t.length - i = t.length by omega]
  exact eq_comm
open Classical in
noncomputable def spHasT : VM.Spec := { modes := [.rd, .rd], run := fun | [.str s, .str t] => if s.length ≤ 4194304 ∧ t.length ≤ 4194304 then some (.bool (hasT s t), []) else none | _ => none, need := ["internal/bytealg.MaxLen"] }
theorem spHasT_in {ins : List V} {r : V} {outs : List V} (h : spHasT.run ins = some (r, outs)) : ∃ (s : (List UInt8)) (t : (List UInt8)), ins = [.str s, .str t] ∧ (s.length ≤ 4194304 ∧ t.length ≤ 4194304) ∧ .bool (hasT s t) = r ∧ outs = [] := by
  unfold spHasT at h
  simp only at h
  split at h
  · rename_i s t
    split at h
    case isFalse => cases h
    rename_i hc
    simp only [Option.some.injEq, Prod.mk.injEq] at h
    obtain ⟨h1, h2⟩ := h
    exact ⟨s, t, rfl, hc, h1, h2.symm⟩
  · cases h
theorem ok_strings_Index : FnOk Tryz.prog 146 spIndex :=
  index_ok Tryz.func146 rfl (by kernel_rfl) (g := 0) (by kernel_rfl) (by simp [spIndex]) rfl (fun _ _ _ h => spIndex_in h) Tryz.strings_Index
def T_strings_Contains : Hints := ⟨fun _ => none, fun _ => none, fun i => if i = 0 then some [0, 1] else if i = 1 then some [4] else none⟩
noncomputable def Phi_strings_Contains : Tab := fun f => if f = 146 then some spIndex else none
theorem phi_strings_Contains : ∀ f sp, Phi_strings_Contains f = some sp → FnOk Tryz.prog f sp ∧ ∀ n ∈ sp.need, n ∈ (["internal/bytealg.MaxLen"] : List String) := by
  intro f sp h
  unfold Phi_strings_Contains at h
  split at h
  · rename_i e; cases h; rw [e]; exact ⟨ok_strings_Index, (fun n (h : n ∈ (["internal/bytealg.MaxLen"] : List String)) => by simp only [List.mem_cons, List.not_mem_nil, or_false] at h; rcases h with rfl <;> simp)⟩
  cases h
theorem ok_strings_Contains : FnOk Tryz.prog 119 spHasT := by
  refine fn_ok (Φ := Phi_strings_Contains) (T := T_strings_Contains) phi_strings_Contains mixed Tryz.func119 rfl rfl rfl (by decide) ?_
  intro ins r outs hr hl
  clear hl
  have hs := spHasT_in hr
  clear hr
  obtain ⟨s, t, rfl, hc, hr, rfl⟩ := hs
  simp only [spHasT, Tryz.f119, Go.VM.initS]
  obtain ⟨hs, ht⟩ := hc
  have h1 : s.length < 4294967281 := by omega
  simp only [h1, Phi_strings_Contains, T_strings_Contains, spIndex, go_sem]
  repeat' ((first | refine after_iteT.2 ⟨fun hp => ?_, fun hp => ?_⟩ | refine after_iteF.2 ⟨fun hp => ?_, fun hp => ?_⟩ | refine after_ite.2 ⟨fun hp => ?_, fun hp => ?_⟩ | refine grd_not.2 ⟨fun hp => ?_, fun hp => ?_⟩ | refine grd_beq.2 ⟨fun hp => ?_, fun hp => ?_⟩ | refine grd_dec.2 ⟨fun hp => ?_, fun hp => ?_⟩ | refine grd_bool.2 ⟨fun hp => ?_, fun hp => ?_⟩ | refine condG_not.2 ⟨fun hp => ?_, fun hp => ?_⟩ | refine condG_beq.2 ⟨fun hp => ?_, fun hp => ?_⟩ | refine condG_dec.2 ⟨fun hp => ?_, fun hp => ?_⟩ | refine condG_bool.2 ⟨fun hp => ?_, fun hp => ?_⟩ | (refine (goes_draw0 rfl (by decide +kernel)).2 ?_; have hp := True.intro) | (refine (goes_drawM _ rfl (by decide +kernel)).2 ?_; have hp := True.intro)) <;> simp only [hp, h1, Phi_strings_Contains, T_strings_Contains, spIndex, go_sem])
  simp only [fin_mk, finV, resL, resV1, allUse, oneOrTup, List.take, List.drop, List.take_succ_cons, List.take_zero, List.drop_succ_cons, List.drop_zero, Phi_strings_Contains, T_strings_Contains, spIndex, go_sem]
  rw [← hr]
  rfl
def T_spec_l12Has : Hints := ⟨fun _ => none, fun i => if i = 2 then some [0, 1, 5] else none, fun i => if i = 0 then some [0, 1] else if i = 1 then some [0, 1, 5] else if i = 2 then some [0, 1, 5, 12] else if i = 4 then some [0, 1, 5, 23] else if i = 5 then some [4] else if i = 3 then some [0, 1, 5] else if i = 6 then some [4] else none⟩
noncomputable def Phi_spec_l12Has : Tab := fun f => none
theorem phi_spec_l12Has : ∀ f sp, Phi_spec_l12Has f = some sp → FnOk Tryz.prog f sp ∧ ∀ n ∈ sp.need, n ∈ (["internal/bytealg.MaxLen"] : List String) := by
  intro f sp h
  unfold Phi_spec_l12Has at h
  cases h
theorem ok_spec_l12Has : FnOk Tryz.prog 70 spHasT := by
  refine fn_ok (Φ := Phi_spec_l12Has) (T := T_spec_l12Has) phi_spec_l12Has mixed Tryz.func70 rfl rfl rfl (by decide) ?_
  intro ins r outs hr hl
  clear hl
  have hs := spHasT_in hr
  clear hr
  obtain ⟨s, t, rfl, hc, hr, rfl⟩ := hs
  simp only [spHasT, Tryz.f70, Go.VM.initS]
  obtain ⟨hs, ht⟩ := hc
  simp only [Phi_spec_l12Has, T_spec_l12Has, go_sem]
  repeat' ((first | refine after_iteT.2 ⟨fun hp => ?_, fun hp => ?_⟩ | refine after_iteF.2 ⟨fun hp => ?_, fun hp => ?_⟩ | refine after_ite.2 ⟨fun hp => ?_, fun hp => ?_⟩ | refine grd_not.2 ⟨fun hp => ?_, fun hp => ?_⟩ | refine grd_beq.2 ⟨fun hp => ?_, fun hp => ?_⟩ | refine grd_dec.2 ⟨fun hp => ?_, fun hp => ?_⟩ | refine grd_bool.2 ⟨fun hp => ?_, fun hp => ?_⟩ | refine condG_not.2 ⟨fun hp => ?_, fun hp => ?_⟩ | refine condG_beq.2 ⟨fun hp => ?_, fun hp => ?_⟩ | refine condG_dec.2 ⟨fun hp => ?_, fun hp => ?_⟩ | refine condG_bool.2 ⟨fun hp => ?_, fun hp => ?_⟩ | (refine (goes_draw0 rfl (by decide +kernel)).2 ?_; have hp := True.intro) | (refine (goes_drawM _ rfl (by decide +kernel)).2 ?_; have hp := True.intro)) <;> simp only [hp, Phi_spec_l12Has, T_spec_l12Has, go_sem])
  refine loop_go (fun i : Nat => [(5, .int .i64 (i : Int))]) (fun _ => []) (fun i => s.length + 1 - i) (fun i => i ≤ s.length ∧ hasT s t = hasT (s.drop i) t) 0 ⟨Nat.zero_le _, rfl⟩ rfl rfl ?_
  intro i ⟨hi, ha⟩ ih
  have w1 : IntKind.i64.wrap ((i : Int) + (t.length : Int)) = ((i + t.length : Nat) : Int) := (wrap64 (by omega) (by omega)).trans (by omega)
  have g2 : (0 : Int) ≤ i := by omega
  by_cases h : i + t.length ≤ s.length
  · have g1 : ((i + t.length : Nat) : Int) ≤ (s.length : Int) := by omega
    have g3 : (0 : Int) ≤ ((i + t.length : Nat) : Int) := by omega
    have g4 : i ≤ i + t.length := by omega
    have g5 : IntKind.i64.wrap ((i : Int) + 1) = ((i + 1 : Nat) : Int) := (wrap64 (by omega) (by omega)).trans (by omega)
    have hp0 := pre_at h
    cases hb : ((s.take (i + t.length)).drop i == t) with
    | true =>
      rw [hb] at hp0
      have hh := ha.trans (hasT_here hp0)
      rw [hh] at hr
      simp only [w1, g1, g2, g3, g4, h, hb, Int.toNat_natCast, Phi_spec_l12Has, T_spec_l12Has, go_sem]
      repeat' ((first | refine after_iteT.2 ⟨fun hp => ?_, fun hp => ?_⟩ | refine after_iteF.2 ⟨fun hp => ?_, fun hp => ?_⟩ | refine after_ite.2 ⟨fun hp => ?_, fun hp => ?_⟩ | refine grd_not.2 ⟨fun hp => ?_, fun hp => ?_⟩ | refine grd_beq.2 ⟨fun hp => ?_, fun hp => ?_⟩ | refine grd_dec.2 ⟨fun hp => ?_, fun hp => ?_⟩ | refine grd_bool.2 ⟨fun hp => ?_, fun hp => ?_⟩ | refine condG_not.2 ⟨fun hp => ?_, fun hp => ?_⟩ | refine condG_beq.2 ⟨fun hp => ?_, fun hp => ?_⟩ | refine condG_dec.2 ⟨fun hp => ?_, fun hp => ?_⟩ | refine condG_bool.2 ⟨fun hp => ?_, fun hp => ?_⟩ | (refine (goes_draw0 rfl (by decide +kernel)).2 ?_; have hp := True.intro) | (refine (goes_drawM _ rfl (by decide +kernel)).2 ?_; have hp := True.intro)) <;> simp only [hp, w1, g1, g2, g3, g4, h, hb, Int.toNat_natCast, Phi_spec_l12Has, T_spec_l12Has, go_sem])
      all_goals (simp only [fin_mk, finV, resL, resV1, allUse, oneOrTup, List.take, List.drop, List.take_succ_cons, List.take_zero, List.drop_succ_cons, List.drop_zero, Phi_spec_l12Has, T_spec_l12Has, go_sem]; rw [← hr])
    | false =>
      rw [hb] at hp0
      have hlt : i < s.length := by
        rcases Nat.lt_or_ge i s.length with h' | h'
        · exact h'
        · have e1 : t = [] := List.eq_nil_of_length_eq_zero (by omega)
          subst e1
          simp [List.isPrefixOf] at hp0
      have hd : s.drop i = s[i] :: s.drop (i + 1) := List.drop_eq_getElem_cons hlt
      rw [hd] at hp0
      have ih' := ih (i + 1) ⟨hlt, by rw [ha, hd, hasT_next hp0]⟩ (by omega)
      simp only [w1, g1, g2, g3, g4, g5, h, hb, Int.toNat_natCast, Phi_spec_l12Has, T_spec_l12Has, go_sem]
      repeat' ((first | refine after_iteT.2 ⟨fun hp => ?_, fun hp => ?_⟩ | refine after_iteF.2 ⟨fun hp => ?_, fun hp => ?_⟩ | refine after_ite.2 ⟨fun hp => ?_, fun hp => ?_⟩ | refine grd_not.2 ⟨fun hp => ?_, fun hp => ?_⟩ | refine grd_beq.2 ⟨fun hp => ?_, fun hp => ?_⟩ | refine grd_dec.2 ⟨fun hp => ?_, fun hp => ?_⟩ | refine grd_bool.2 ⟨fun hp => ?_, fun hp => ?_⟩ | refine condG_not.2 ⟨fun hp => ?_, fun hp => ?_⟩ | refine condG_beq.2 ⟨fun hp => ?_, fun hp => ?_⟩ | refine condG_dec.2 ⟨fun hp => ?_, fun hp => ?_⟩ | refine condG_bool.2 ⟨fun hp => ?_, fun hp => ?_⟩ | (refine (goes_draw0 rfl (by decide +kernel)).2 ?_; have hp := True.intro) | (refine (goes_drawM _ rfl (by decide +kernel)).2 ?_; have hp := True.intro)) <;> simp only [hp, w1, g1, g2, g3, g4, g5, h, hb, Int.toNat_natCast, Phi_spec_l12Has, T_spec_l12Has, go_sem])
      all_goals exact ih'
  · have g1 : ¬ ((i + t.length : Nat) : Int) ≤ (s.length : Int) := by omega
    rw [ha, hasT_short (by rw [List.length_drop]; omega)] at hr
    simp only [w1, g1, Phi_spec_l12Has, T_spec_l12Has, go_sem]
    repeat' ((first | refine after_iteT.2 ⟨fun hp => ?_, fun hp => ?_⟩ | refine after_iteF.2 ⟨fun hp => ?_, fun hp => ?_⟩ | refine after_ite.2 ⟨fun hp => ?_, fun hp => ?_⟩ | refine grd_not.2 ⟨fun hp => ?_, fun hp => ?_⟩ | refine grd_beq.2 ⟨fun hp => ?_, fun hp => ?_⟩ | refine grd_dec.2 ⟨fun hp => ?_, fun hp => ?_⟩ | refine grd_bool.2 ⟨fun hp => ?_, fun hp => ?_⟩ | refine condG_not.2 ⟨fun hp => ?_, fun hp => ?_⟩ | refine condG_beq.2 ⟨fun hp => ?_, fun hp => ?_⟩ | refine condG_dec.2 ⟨fun hp => ?_, fun hp => ?_⟩ | refine condG_bool.2 ⟨fun hp => ?_, fun hp => ?_⟩ | (refine (goes_draw0 rfl (by decide +kernel)).2 ?_; have hp := True.intro) | (refine (goes_drawM _ rfl (by decide +kernel)).2 ?_; have hp := True.intro)) <;> simp only [hp, w1, g1, Phi_spec_l12Has, T_spec_l12Has, go_sem])
    simp only [fin_mk, finV, resL, resV1, allUse, oneOrTup, List.take, List.drop, List.take_succ_cons, List.take_zero, List.drop_succ_cons, List.drop_zero, Phi_spec_l12Has, T_spec_l12Has, go_sem]
    rw [← hr]
def subjectOf (m : Mail) : List UInt8 := baseSubject (headOf m.Text [115, 117, 98, 106, 101, 99, 116]).1
open Classical in
noncomputable def spSubjectOf : VM.Spec := { modes := [.rd], run := fun | [m'] => (Mail.dec m').bind fun m => if m.le 4194304 then some (.str (subjectOf m), []) else none | _ => none, need := ["internal/bytealg.MaxLen"] }
theorem spSubjectOf_in {ins : List V} {r : V} {outs : List V} (h : spSubjectOf.run ins = some (r, outs)) : ∃ (m : Mail), ins = [Mail.enc m] ∧ (m.le 4194304) ∧ .str (subjectOf m) = r ∧ outs = [] := by
  unfold spSubjectOf at h
  simp only at h
  split at h
  · rename_i m'
    simp only [Option.bind_eq_some_iff] at h
    obtain ⟨m, h_m, h⟩ := h
    split at h
    case isFalse => cases h
    rename_i hc
    simp only [Option.some.injEq, Prod.mk.injEq] at h
    obtain ⟨h1, h2⟩ := h
    have h_m := Mail.dec_some h_m
    subst h_m
    exact ⟨m, rfl, hc, h1, h2.symm⟩
  · cases h
def T_impl_subjectOf : Hints := ⟨fun _ => none, fun _ => none, fun i => if i = 0 then some [1] else if i = 1 then some [3] else if i = 2 then some [2] else none⟩
noncomputable def Phi_impl_subjectOf : Tab := fun f => if f = 89 then some spHeadOf else if f = 90 then some spBaseSubject else none
theorem phi_impl_subjectOf : ∀ f sp, Phi_impl_subjectOf f = some sp → FnOk Tryz.prog f sp ∧ ∀ n ∈ sp.need, n ∈ (["internal/bytealg.MaxLen"] : List String) := by
  intro f sp h
  unfold Phi_impl_subjectOf at h
  split at h
  · rename_i e; cases h; rw [e]; exact ⟨ok_impl_HeadOf, (fun n (h : n ∈ (["internal/bytealg.MaxLen"] : List String)) => by simp only [List.mem_cons, List.not_mem_nil, or_false] at h; rcases h with rfl <;> simp)⟩
  split at h
  · rename_i e; cases h; rw [e]; exact ⟨ok_impl_BaseSubject, (fun n (h : n ∈ ([] : List String)) => (nomatch h))⟩
  cases h
theorem ok_impl_subjectOf : FnOk Tryz.prog 57 spSubjectOf := by
  refine fn_ok (Φ := Phi_impl_subjectOf) (T := T_impl_subjectOf) phi_impl_subjectOf mixed Tryz.func57 rfl rfl rfl (by decide) ?_
  intro ins r outs hr hl
  clear hl
  have hs := spSubjectOf_in hr
  clear hr
  obtain ⟨m, rfl, hc, hr, rfl⟩ := hs
  simp only [spSubjectOf, Tryz.f57, Go.VM.initS]
  have hT : m.Text.length ≤ 4194304 := hc
  have h1 := headOf_len m.Text [115, 117, 98, 106, 101, 99, 116]
  have h2 : (headOf m.Text [115, 117, 98, 106, 101, 99, 116]).1.length ≤ 1099511627776 := by omega
  simp only [hT, h2, Phi_impl_subjectOf, T_impl_subjectOf, spBaseSubject, spHeadOf, go_sem]
  repeat' ((first | refine after_iteT.2 ⟨fun hp => ?_, fun hp => ?_⟩ | refine after_iteF.2 ⟨fun hp => ?_, fun hp => ?_⟩ | refine after_ite.2 ⟨fun hp => ?_, fun hp => ?_⟩ | refine grd_not.2 ⟨fun hp => ?_, fun hp => ?_⟩ | refine grd_beq.2 ⟨fun hp => ?_, fun hp => ?_⟩ | refine grd_dec.2 ⟨fun hp => ?_, fun hp => ?_⟩ | refine grd_bool.2 ⟨fun hp => ?_, fun hp => ?_⟩ | refine condG_not.2 ⟨fun hp => ?_, fun hp => ?_⟩ | refine condG_beq.2 ⟨fun hp => ?_, fun hp => ?_⟩ | refine condG_dec.2 ⟨fun hp => ?_, fun hp => ?_⟩ | refine condG_bool.2 ⟨fun hp => ?_, fun hp => ?_⟩ | (refine (goes_draw0 rfl (by decide +kernel)).2 ?_; have hp := True.intro) | (refine (goes_drawM _ rfl (by decide +kernel)).2 ?_; have hp := True.intro)) <;> simp only [hp, hT, h2, Phi_impl_subjectOf, T_impl_subjectOf, spBaseSubject, spHeadOf, go_sem])
  simp only [fin_mk, finV, resL, resV1, allUse, oneOrTup, List.take, List.drop, List.take_succ_cons, List.take_zero, List.drop_succ_cons, List.drop_zero, Phi_impl_subjectOf, T_impl_subjectOf, spBaseSubject, spHeadOf, go_sem]
  rw [← hr]
  rfl
def matchB (m : Mail) (k : Key) : Bool :=
  if k.Kind = 1 then true
  else if k.Kind = 2 then flagsOk m.Flags && flagsOk k.Num && decide (0 < andN m.Flags k.Num)
  else if k.Kind = 3 then flagsOk m.Flags && flagsOk k.Num && (andN m.Flags k.Num == 0)
  else if k.Kind = 4 then hasT (subjectOf m) (lowS k.Text)
  else if k.Kind = 5 then hasT (lowS m.Text) (lowS k.Text)
  else if k.Kind = 6 then hasR (readSet k.Text 9999) m.Uid
  else if k.Kind = 7 then decide (k.Num < m.Mod) else false
theorem and_some : ∀ a b : Fin 32, ((IntKind.i64.wrap (BitVec.ofInt 64 (a.val : Int) &&& BitVec.ofInt 64 (b.val : Int)).toNat != 0) = decide ((0 : Int) < ((a.val &&& b.val : Nat) : Int))) ∧ ((IntKind.i64.wrap (BitVec.ofInt 64 (a.val : Int) &&& BitVec.ofInt 64 (b.val : Int)).toNat == 0) = (((a.val &&& b.val : Nat) : Int) == 0)) := by decide +kernel
theorem and_impl {a b : Int} (ha : flagsOk a = true) (hb : flagsOk b = true) : ((IntKind.i64.wrap (BitVec.ofInt 64 a &&& BitVec.ofInt 64 b).toNat != 0) = decide (0 < andN a b)) ∧ ((IntKind.i64.wrap (BitVec.ofInt 64 a &&& BitVec.ofInt 64 b).toNat == 0) = (andN a b == 0)) := by
  have ha : 0 ≤ a ∧ a ≤ 31 := by simpa only [flagsOk, within, Bool.and_eq_true, decide_eq_true_eq] using ha
  have hb : 0 ≤ b ∧ b ≤ 31 := by simpa only [flagsOk, within, Bool.and_eq_true, decide_eq_true_eq] using hb
  obtain ⟨x, rfl⟩ : ∃ x : Nat, a = x := ⟨a.toNat, by omega⟩
  obtain ⟨y, rfl⟩ : ∃ y : Nat, b = y := ⟨b.toNat, by omega⟩
  exact and_some ⟨x, by omega⟩ ⟨y, by omega⟩
open Classical in
noncomputable def spMatches : VM.Spec := { modes := [.rd, .rd], run := fun | [m', k'] => (Mail.dec m').bind fun m => (Key.dec k').bind fun k => if m.le 4194304 ∧ k.le 4194304 then some (.bool (matchB m k), []) else none | _ => none, need := ["internal/bytealg.MaxLen"] }
theorem spMatches_in {ins : List V} {r : V} {outs : List V} (h : spMatches.run ins = some (r, outs)) : ∃ (m : Mail) (k : Key), ins = [Mail.enc m, Key.enc k] ∧ (m.le 4194304 ∧ k.le 4194304) ∧ .bool (matchB m k) = r ∧ outs = [] := by
  unfold spMatches at h
  simp only at h
  split at h
  · rename_i m' k'
    simp only [Option.bind_eq_some_iff] at h
    obtain ⟨m, h_m, k, h_k, h⟩ := h
    split at h
    case isFalse => cases h
    rename_i hc
    simp only [Option.some.injEq, Prod.mk.injEq] at h
    obtain ⟨h1, h2⟩ := h
    have h_m := Mail.dec_some h_m
    subst h_m
    have h_k := Key.dec_some h_k
    subst h_k
    exact ⟨m, k, rfl, hc, h1, h2.symm⟩
  · cases h
def T_impl_Matches : Hints := ⟨fun i => if i = 9 then some [(1, 2), (1, 3)] else if i = 11 then some [(2, 3), (2, 4)] else none, fun _ => none, fun i => if i = 0 then some [2, 3] else if i = 1 then some [2, 3, 8] else if i = 2 then some [2, 3, 8, 9] else if i = 3 then some [4] else if i = 4 then some [2, 3, 8, 11] else if i = 5 then some [4] else if i = 6 then some [2, 3, 8, 29] else if i = 7 then some [4] else if i = 8 then some [2, 3, 8, 47] else if i = 9 then some [4] else if i = 10 then some [2, 3, 8, 55] else if i = 11 then some [4] else if i = 12 then some [2, 3, 64] else if i = 13 then some [2, 5] else if i = 14 then some [4] else if i = 15 then some [4] else none⟩
noncomputable def Phi_impl_Matches : Tab := fun f => if f = 114 then some spFlagsOk else if f = 57 then some spSubjectOf else if f = 120 then some spLow else if f = 119 then some spHasT else if f = 101 then some spReadSet else if f = 86 then some spSetHas else none
theorem phi_impl_Matches : ∀ f sp, Phi_impl_Matches f = some sp → FnOk Tryz.prog f sp ∧ ∀ n ∈ sp.need, n ∈ (["internal/bytealg.MaxLen"] : List String) := by
  intro f sp h
  unfold Phi_impl_Matches at h
  split at h
  · rename_i e; cases h; rw [e]; exact ⟨ok_impl_FlagsOk, (fun n (h : n ∈ ([] : List String)) => (nomatch h))⟩
  split at h
  · rename_i e; cases h; rw [e]; exact ⟨ok_impl_subjectOf, (fun n (h : n ∈ (["internal/bytealg.MaxLen"] : List String)) => by simp only [List.mem_cons, List.not_mem_nil, or_false] at h; rcases h with rfl <;> simp)⟩
  split at h
  · rename_i e; cases h; rw [e]; exact ⟨ok_impl_lower, (fun n (h : n ∈ ([] : List String)) => (nomatch h))⟩
  split at h
  · rename_i e; cases h; rw [e]; exact ⟨ok_strings_Contains, (fun n (h : n ∈ (["internal/bytealg.MaxLen"] : List String)) => by simp only [List.mem_cons, List.not_mem_nil, or_false] at h; rcases h with rfl <;> simp)⟩
  split at h
  · rename_i e; cases h; rw [e]; exact ⟨ok_impl_ReadSet, (fun n (h : n ∈ (["internal/bytealg.MaxLen"] : List String)) => by simp only [List.mem_cons, List.not_mem_nil, or_false] at h; rcases h with rfl <;> simp)⟩
  split at h
  · rename_i e; cases h; rw [e]; exact ⟨ok_impl_SetHas, (fun n (h : n ∈ ([] : List String)) => (nomatch h))⟩
  cases h
theorem ok_impl_Matches : FnOk Tryz.prog 82 spMatches := by
  refine fn_ok (Φ := Phi_impl_Matches) (T := T_impl_Matches) phi_impl_Matches mixed Tryz.func82 rfl rfl rfl (by decide) ?_
  intro ins r outs hr hl
  clear hl
  have hs := spMatches_in hr
  clear hr
  obtain ⟨m, k, rfl, hc, hr, rfl⟩ := hs
  simp only [spMatches, Tryz.f82, Go.VM.initS]
  obtain ⟨hm, hk'⟩ := hc
  have hk : k.Text.length ≤ 4194304 := hk'
  have hT : m.Text.length ≤ 4194304 := hm
  have t1 : m.Text.length ≤ 1099511627776 := by omega
  have t2 : k.Text.length ≤ 1099511627776 := by omega
  have t3 : (lowS m.Text).length ≤ 4194304 := by rw [lowS_len]; exact hT
  have t4 : (lowS k.Text).length ≤ 4194304 := by rw [lowS_len]; exact hk
  have hS := headOf_len m.Text [115, 117, 98, 106, 101, 99, 116]
  have hB := baseSubject_len (headOf m.Text [115, 117, 98, 106, 101, 99, 116]).1
  have t5 : (headOf m.Text [115, 117, 98, 106, 101, 99, 116]).1.length ≤ 1099511627776 := by omega
  have t6 : (baseSubject (headOf m.Text [115, 117, 98, 106, 101, 99, 116]).1).length ≤ 4194304 := by omega
  have t7 : (subjectOf m).length ≤ 4194304 := t6
  have t8 : (readSet k.Text 9999).length ≤ 8388608 := Nat.le_trans (readSet_len _ _) (by decide)
  have ml : m.le 4194304 := hm
  by_cases h1 : k.Kind = 1
  · have e1 : (k.Kind == 1) = true := by rw [h1]; rfl
    rw [matchB, if_pos h1] at hr
    simp only [e1, Phi_impl_Matches, T_impl_Matches, spFlagsOk, spHasT, spLow, spReadSet, spSetHas, spSubjectOf, go_sem]
    repeat' ((first | refine after_iteT.2 ⟨fun hp => ?_, fun hp => ?_⟩ | refine after_iteF.2 ⟨fun hp => ?_, fun hp => ?_⟩ | refine after_ite.2 ⟨fun hp => ?_, fun hp => ?_⟩ | refine grd_not.2 ⟨fun hp => ?_, fun hp => ?_⟩ | refine grd_beq.2 ⟨fun hp => ?_, fun hp => ?_⟩ | refine grd_dec.2 ⟨fun hp => ?_, fun hp => ?_⟩ | refine grd_bool.2 ⟨fun hp => ?_, fun hp => ?_⟩ | refine condG_not.2 ⟨fun hp => ?_, fun hp => ?_⟩ | refine condG_beq.2 ⟨fun hp => ?_, fun hp => ?_⟩ | refine condG_dec.2 ⟨fun hp => ?_, fun hp => ?_⟩ | refine condG_bool.2 ⟨fun hp => ?_, fun hp => ?_⟩ | (refine (goes_draw0 rfl (by decide +kernel)).2 ?_; have hp := True.intro) | (refine (goes_drawM _ rfl (by decide +kernel)).2 ?_; have hp := True.intro)) <;> simp only [hp, e1, Phi_impl_Matches, T_impl_Matches, spFlagsOk, spHasT, spLow, spReadSet, spSetHas, spSubjectOf, go_sem])
    simp only [fin_mk, finV, resL, resV1, allUse, oneOrTup, List.take, List.drop, List.take_succ_cons, List.take_zero, List.drop_succ_cons, List.drop_zero, Phi_impl_Matches, T_impl_Matches, spFlagsOk, spHasT, spLow, spReadSet, spSetHas, spSubjectOf, go_sem]
    rw [← hr]
  have e1 : (k.Kind == 1) = false := by simpa using h1
  by_cases h2 : k.Kind = 2
  · have e2 : (k.Kind == 2) = true := by rw [h2]; rfl
    rw [matchB, if_neg h1, if_pos h2] at hr
    cases f1 : flagsOk m.Flags with
    | false =>
      rw [f1] at hr
      simp only [e1, e2, f1, Phi_impl_Matches, T_impl_Matches, spFlagsOk, spHasT, spLow, spReadSet, spSetHas, spSubjectOf, go_sem]
      repeat' ((first | refine after_iteT.2 ⟨fun hp => ?_, fun hp => ?_⟩ | refine after_iteF.2 ⟨fun hp => ?_, fun hp => ?_⟩ | refine after_ite.2 ⟨fun hp => ?_, fun hp => ?_⟩ | refine grd_not.2 ⟨fun hp => ?_, fun hp => ?_⟩ | refine grd_beq.2 ⟨fun hp => ?_, fun hp => ?_⟩ | refine grd_dec.2 ⟨fun hp => ?_, fun hp => ?_⟩ | refine grd_bool.2 ⟨fun hp => ?_, fun hp => ?_⟩ | refine condG_not.2 ⟨fun hp => ?_, fun hp => ?_⟩ | refine condG_beq.2 ⟨fun hp => ?_, fun hp => ?_⟩ | refine condG_dec.2 ⟨fun hp => ?_, fun hp => ?_⟩ | refine condG_bool.2 ⟨fun hp => ?_, fun hp => ?_⟩ | (refine (goes_draw0 rfl (by decide +kernel)).2 ?_; have hp := True.intro) | (refine (goes_drawM _ rfl (by decide +kernel)).2 ?_; have hp := True.intro)) <;> simp only [hp, e1, e2, f1, Phi_impl_Matches, T_impl_Matches, spFlagsOk, spHasT, spLow, spReadSet, spSetHas, spSubjectOf, go_sem])
      all_goals (simp only [fin_mk, finV, resL, resV1, allUse, oneOrTup, List.take, List.drop, List.take_succ_cons, List.take_zero, List.drop_succ_cons, List.drop_zero, Phi_impl_Matches, T_impl_Matches, spFlagsOk, spHasT, spLow, spReadSet, spSetHas, spSubjectOf, go_sem]; rw [← hr])
      all_goals rfl
    | true =>
      cases f2 : flagsOk k.Num with
      | false =>
        rw [f1, f2] at hr
        simp only [e1, e2, f1, f2, Phi_impl_Matches, T_impl_Matches, spFlagsOk, spHasT, spLow, spReadSet, spSetHas, spSubjectOf, go_sem]
        repeat' ((first | refine after_iteT.2 ⟨fun hp => ?_, fun hp => ?_⟩ | refine after_iteF.2 ⟨fun hp => ?_, fun hp => ?_⟩ | refine after_ite.2 ⟨fun hp => ?_, fun hp => ?_⟩ | refine grd_not.2 ⟨fun hp => ?_, fun hp => ?_⟩ | refine grd_beq.2 ⟨fun hp => ?_, fun hp => ?_⟩ | refine grd_dec.2 ⟨fun hp => ?_, fun hp => ?_⟩ | refine grd_bool.2 ⟨fun hp => ?_, fun hp => ?_⟩ | refine condG_not.2 ⟨fun hp => ?_, fun hp => ?_⟩ | refine condG_beq.2 ⟨fun hp => ?_, fun hp => ?_⟩ | refine condG_dec.2 ⟨fun hp => ?_, fun hp => ?_⟩ | refine condG_bool.2 ⟨fun hp => ?_, fun hp => ?_⟩ | (refine (goes_draw0 rfl (by decide +kernel)).2 ?_; have hp := True.intro) | (refine (goes_drawM _ rfl (by decide +kernel)).2 ?_; have hp := True.intro)) <;> simp only [hp, e1, e2, f1, f2, Phi_impl_Matches, T_impl_Matches, spFlagsOk, spHasT, spLow, spReadSet, spSetHas, spSubjectOf, go_sem])
        all_goals (simp only [fin_mk, finV, resL, resV1, allUse, oneOrTup, List.take, List.drop, List.take_succ_cons, List.take_zero, List.drop_succ_cons, List.drop_zero, Phi_impl_Matches, T_impl_Matches, spFlagsOk, spHasT, spLow, spReadSet, spSetHas, spSubjectOf, go_sem]; rw [← hr])
        all_goals rfl
      | true =>
        rw [f1, f2] at hr
        have q := (and_impl f1 f2).1
        rw [← q] at hr
        simp only [e1, e2, f1, f2, Phi_impl_Matches, T_impl_Matches, spFlagsOk, spHasT, spLow, spReadSet, spSetHas, spSubjectOf, go_sem]
        repeat' ((first | refine after_iteT.2 ⟨fun hp => ?_, fun hp => ?_⟩ | refine after_iteF.2 ⟨fun hp => ?_, fun hp => ?_⟩ | refine after_ite.2 ⟨fun hp => ?_, fun hp => ?_⟩ | refine grd_not.2 ⟨fun hp => ?_, fun hp => ?_⟩ | refine grd_beq.2 ⟨fun hp => ?_, fun hp => ?_⟩ | refine grd_dec.2 ⟨fun hp => ?_, fun hp => ?_⟩ | refine grd_bool.2 ⟨fun hp => ?_, fun hp => ?_⟩ | refine condG_not.2 ⟨fun hp => ?_, fun hp => ?_⟩ | refine condG_beq.2 ⟨fun hp => ?_, fun hp => ?_⟩ | refine condG_dec.2 ⟨fun hp => ?_, fun hp => ?_⟩ | refine condG_bool.2 ⟨fun hp => ?_, fun hp => ?_⟩ | (refine (goes_draw0 rfl (by decide +kernel)).2 ?_; have hp := True.intro) | (refine (goes_drawM _ rfl (by decide +kernel)).2 ?_; have hp := True.intro)) <;> simp only [hp, e1, e2, f1, f2, Phi_impl_Matches, T_impl_Matches, spFlagsOk, spHasT, spLow, spReadSet, spSetHas, spSubjectOf, go_sem])
        all_goals (simp only [fin_mk, finV, resL, resV1, allUse, oneOrTup, List.take, List.drop, List.take_succ_cons, List.take_zero, List.drop_succ_cons, List.drop_zero, Phi_impl_Matches, T_impl_Matches, spFlagsOk, spHasT, spLow, spReadSet, spSetHas, spSubjectOf, go_sem]; rw [← hr])
        all_goals rfl
  have e2 : (k.Kind == 2) = false := by simpa using h2
  by_cases h3 : k.Kind = 3
  · have e3 : (k.Kind == 3) = true := by rw [h3]; rfl
    rw [matchB, if_neg h1, if_neg h2, if_pos h3] at hr
    cases f1 : flagsOk m.Flags with
    | false =>
      rw [f1] at hr
      simp only [e1, e2, e3, f1, Phi_impl_Matches, T_impl_Matches, spFlagsOk, spHasT, spLow, spReadSet, spSetHas, spSubjectOf, go_sem]
      repeat' ((first | refine after_iteT.2 ⟨fun hp => ?_, fun hp => ?_⟩ | refine after_iteF.2 ⟨fun hp => ?_, fun hp => ?_⟩ | refine after_ite.2 ⟨fun hp => ?_, fun hp => ?_⟩ | refine grd_not.2 ⟨fun hp => ?_, fun hp => ?_⟩ | refine grd_beq.2 ⟨fun hp => ?_, fun hp => ?_⟩ | refine grd_dec.2 ⟨fun hp => ?_, fun hp => ?_⟩ | refine grd_bool.2 ⟨fun hp => ?_, fun hp => ?_⟩ | refine condG_not.2 ⟨fun hp => ?_, fun hp => ?_⟩ | refine condG_beq.2 ⟨fun hp => ?_, fun hp => ?_⟩ | refine condG_dec.2 ⟨fun hp => ?_, fun hp => ?_⟩ | refine condG_bool.2 ⟨fun hp => ?_, fun hp => ?_⟩ | (refine (goes_draw0 rfl (by decide +kernel)).2 ?_; have hp := True.intro) | (refine (goes_drawM _ rfl (by decide +kernel)).2 ?_; have hp := True.intro)) <;> simp only [hp, e1, e2, e3, f1, Phi_impl_Matches, T_impl_Matches, spFlagsOk, spHasT, spLow, spReadSet, spSetHas, spSubjectOf, go_sem])
      all_goals (simp only [fin_mk, finV, resL, resV1, allUse, oneOrTup, List.take, List.drop, List.take_succ_cons, List.take_zero, List.drop_succ_cons, List.drop_zero, Phi_impl_Matches, T_impl_Matches, spFlagsOk, spHasT, spLow, spReadSet, spSetHas, spSubjectOf, go_sem]; rw [← hr])
      all_goals rfl
    | true =>
      cases f2 : flagsOk k.Num with
      | false =>
        rw [f1, f2] at hr
        simp only [e1, e2, e3, f1, f2, Phi_impl_Matches, T_impl_Matches, spFlagsOk, spHasT, spLow, spReadSet, spSetHas, spSubjectOf, go_sem]
        repeat' ((first | refine after_iteT.2 ⟨fun hp => ?_, fun hp => ?_⟩ | refine after_iteF.2 ⟨fun hp => ?_, fun hp => ?_⟩ | refine after_ite.2 ⟨fun hp => ?_, fun hp => ?_⟩ | refine grd_not.2 ⟨fun hp => ?_, fun hp => ?_⟩ | refine grd_beq.2 ⟨fun hp => ?_, fun hp => ?_⟩ | refine grd_dec.2 ⟨fun hp => ?_, fun hp => ?_⟩ | refine grd_bool.2 ⟨fun hp => ?_, fun hp => ?_⟩ | refine condG_not.2 ⟨fun hp => ?_, fun hp => ?_⟩ | refine condG_beq.2 ⟨fun hp => ?_, fun hp => ?_⟩ | refine condG_dec.2 ⟨fun hp => ?_, fun hp => ?_⟩ | refine condG_bool.2 ⟨fun hp => ?_, fun hp => ?_⟩ | (refine (goes_draw0 rfl (by decide +kernel)).2 ?_; have hp := True.intro) | (refine (goes_drawM _ rfl (by decide +kernel)).2 ?_; have hp := True.intro)) <;> simp only [hp, e1, e2, e3, f1, f2, Phi_impl_Matches, T_impl_Matches, spFlagsOk, spHasT, spLow, spReadSet, spSetHas, spSubjectOf, go_sem])
        all_goals (simp only [fin_mk, finV, resL, resV1, allUse, oneOrTup, List.take, List.drop, List.take_succ_cons, List.take_zero, List.drop_succ_cons, List.drop_zero, Phi_impl_Matches, T_impl_Matches, spFlagsOk, spHasT, spLow, spReadSet, spSetHas, spSubjectOf, go_sem]; rw [← hr])
        all_goals rfl
      | true =>
        rw [f1, f2] at hr
        have q := (and_impl f1 f2).2
        rw [← q] at hr
        simp only [e1, e2, e3, f1, f2, Phi_impl_Matches, T_impl_Matches, spFlagsOk, spHasT, spLow, spReadSet, spSetHas, spSubjectOf, go_sem]
        repeat' ((first | refine after_iteT.2 ⟨fun hp => ?_, fun hp => ?_⟩ | refine after_iteF.2 ⟨fun hp => ?_, fun hp => ?_⟩ | refine after_ite.2 ⟨fun hp => ?_, fun hp => ?_⟩ | refine grd_not.2 ⟨fun hp => ?_, fun hp => ?_⟩ | refine grd_beq.2 ⟨fun hp => ?_, fun hp => ?_⟩ | refine grd_dec.2 ⟨fun hp => ?_, fun hp => ?_⟩ | refine grd_bool.2 ⟨fun hp => ?_, fun hp => ?_⟩ | refine condG_not.2 ⟨fun hp => ?_, fun hp => ?_⟩ | refine condG_beq.2 ⟨fun hp => ?_, fun hp => ?_⟩ | refine condG_dec.2 ⟨fun hp => ?_, fun hp => ?_⟩ | refine condG_bool.2 ⟨fun hp => ?_, fun hp => ?_⟩ | (refine (goes_draw0 rfl (by decide +kernel)).2 ?_; have hp := True.intro) | (refine (goes_drawM _ rfl (by decide +kernel)).2 ?_; have hp := True.intro)) <;> simp only [hp, e1, e2, e3, f1, f2, Phi_impl_Matches, T_impl_Matches, spFlagsOk, spHasT, spLow, spReadSet, spSetHas, spSubjectOf, go_sem])
        all_goals (simp only [fin_mk, finV, resL, resV1, allUse, oneOrTup, List.take, List.drop, List.take_succ_cons, List.take_zero, List.drop_succ_cons, List.drop_zero, Phi_impl_Matches, T_impl_Matches, spFlagsOk, spHasT, spLow, spReadSet, spSetHas, spSubjectOf, go_sem]; rw [← hr])
        all_goals rfl
  have e3 : (k.Kind == 3) = false := by simpa using h3
  by_cases h4 : k.Kind = 4
  · have e4 : (k.Kind == 4) = true := by rw [h4]; rfl
    rw [matchB, if_neg h1, if_neg h2, if_neg h3, if_pos h4] at hr
    simp only [e1, e2, e3, e4, t2, t4, t5, t6, t7, hT, ml, Phi_impl_Matches, T_impl_Matches, spFlagsOk, spHasT, spLow, spReadSet, spSetHas, spSubjectOf, go_sem]
    repeat' ((first | refine after_iteT.2 ⟨fun hp => ?_, fun hp => ?_⟩ | refine after_iteF.2 ⟨fun hp => ?_, fun hp => ?_⟩ | refine after_ite.2 ⟨fun hp => ?_, fun hp => ?_⟩ | refine grd_not.2 ⟨fun hp => ?_, fun hp => ?_⟩ | refine grd_beq.2 ⟨fun hp => ?_, fun hp => ?_⟩ | refine grd_dec.2 ⟨fun hp => ?_, fun hp => ?_⟩ | refine grd_bool.2 ⟨fun hp => ?_, fun hp => ?_⟩ | refine condG_not.2 ⟨fun hp => ?_, fun hp => ?_⟩ | refine condG_beq.2 ⟨fun hp => ?_, fun hp => ?_⟩ | refine condG_dec.2 ⟨fun hp => ?_, fun hp => ?_⟩ | refine condG_bool.2 ⟨fun hp => ?_, fun hp => ?_⟩ | (refine (goes_draw0 rfl (by decide +kernel)).2 ?_; have hp := True.intro) | (refine (goes_drawM _ rfl (by decide +kernel)).2 ?_; have hp := True.intro)) <;> simp only [hp, e1, e2, e3, e4, t2, t4, t5, t6, t7, hT, ml, Phi_impl_Matches, T_impl_Matches, spFlagsOk, spHasT, spLow, spReadSet, spSetHas, spSubjectOf, go_sem])
    all_goals (simp only [fin_mk, finV, resL, resV1, allUse, oneOrTup, List.take, List.drop, List.take_succ_cons, List.take_zero, List.drop_succ_cons, List.drop_zero, Phi_impl_Matches, T_impl_Matches, spFlagsOk, spHasT, spLow, spReadSet, spSetHas, spSubjectOf, go_sem]; rw [← hr])
  have e4 : (k.Kind == 4) = false := by simpa using h4
  by_cases h5 : k.Kind = 5
  · have e5 : (k.Kind == 5) = true := by rw [h5]; rfl
    rw [matchB, if_neg h1, if_neg h2, if_neg h3, if_neg h4, if_pos h5] at hr
    simp only [e1, e2, e3, e4, e5, t1, t2, t3, t4, Phi_impl_Matches, T_impl_Matches, spFlagsOk, spHasT, spLow, spReadSet, spSetHas, spSubjectOf, go_sem]
    repeat' ((first | refine after_iteT.2 ⟨fun hp => ?_, fun hp => ?_⟩ | refine after_iteF.2 ⟨fun hp => ?_, fun hp => ?_⟩ | refine after_ite.2 ⟨fun hp => ?_, fun hp => ?_⟩ | refine grd_not.2 ⟨fun hp => ?_, fun hp => ?_⟩ | refine grd_beq.2 ⟨fun hp => ?_, fun hp => ?_⟩ | refine grd_dec.2 ⟨fun hp => ?_, fun hp => ?_⟩ | refine grd_bool.2 ⟨fun hp => ?_, fun hp => ?_⟩ | refine condG_not.2 ⟨fun hp => ?_, fun hp => ?_⟩ | refine condG_beq.2 ⟨fun hp => ?_, fun hp => ?_⟩ | refine condG_dec.2 ⟨fun hp => ?_, fun hp => ?_⟩ | refine condG_bool.2 ⟨fun hp => ?_, fun hp => ?_⟩ | (refine (goes_draw0 rfl (by decide +kernel)).2 ?_; have hp := True.intro) | (refine (goes_drawM _ rfl (by decide +kernel)).2 ?_; have hp := True.intro)) <;> simp only [hp, e1, e2, e3, e4, e5, t1, t2, t3, t4, Phi_impl_Matches, T_impl_Matches, spFlagsOk, spHasT, spLow, spReadSet, spSetHas, spSubjectOf, go_sem])
    all_goals (simp only [fin_mk, finV, resL, resV1, allUse, oneOrTup, List.take, List.drop, List.take_succ_cons, List.take_zero, List.drop_succ_cons, List.drop_zero, Phi_impl_Matches, T_impl_Matches, spFlagsOk, spHasT, spLow, spReadSet, spSetHas, spSubjectOf, go_sem]; rw [← hr])
  have e5 : (k.Kind == 5) = false := by simpa using h5
  by_cases h6 : k.Kind = 6
  · have e6 : (k.Kind == 6) = true := by rw [h6]; rfl
    rw [matchB, if_neg h1, if_neg h2, if_neg h3, if_neg h4, if_neg h5, if_pos h6] at hr
    simp only [e1, e2, e3, e4, e5, e6, hk, t8, Phi_impl_Matches, T_impl_Matches, spFlagsOk, spHasT, spLow, spReadSet, spSetHas, spSubjectOf, go_sem]
    repeat' ((first | refine after_iteT.2 ⟨fun hp => ?_, fun hp => ?_⟩ | refine after_iteF.2 ⟨fun hp => ?_, fun hp => ?_⟩ | refine after_ite.2 ⟨fun hp => ?_, fun hp => ?_⟩ | refine grd_not.2 ⟨fun hp => ?_, fun hp => ?_⟩ | refine grd_beq.2 ⟨fun hp => ?_, fun hp => ?_⟩ | refine grd_dec.2 ⟨fun hp => ?_, fun hp => ?_⟩ | refine grd_bool.2 ⟨fun hp => ?_, fun hp => ?_⟩ | refine condG_not.2 ⟨fun hp => ?_, fun hp => ?_⟩ | refine condG_beq.2 ⟨fun hp => ?_, fun hp => ?_⟩ | refine condG_dec.2 ⟨fun hp => ?_, fun hp => ?_⟩ | refine condG_bool.2 ⟨fun hp => ?_, fun hp => ?_⟩ | (refine (goes_draw0 rfl (by decide +kernel)).2 ?_; have hp := True.intro) | (refine (goes_drawM _ rfl (by decide +kernel)).2 ?_; have hp := True.intro)) <;> simp only [hp, e1, e2, e3, e4, e5, e6, hk, t8, Phi_impl_Matches, T_impl_Matches, spFlagsOk, spHasT, spLow, spReadSet, spSetHas, spSubjectOf, go_sem])
    all_goals (simp only [fin_mk, finV, resL, resV1, allUse, oneOrTup, List.take, List.drop, List.take_succ_cons, List.take_zero, List.drop_succ_cons, List.drop_zero, Phi_impl_Matches, T_impl_Matches, spFlagsOk, spHasT, spLow, spReadSet, spSetHas, spSubjectOf, go_sem]; rw [← hr])
  have e6 : (k.Kind == 6) = false := by simpa using h6
  by_cases h7 : k.Kind = 7
  · have e7 : (k.Kind == 7) = true := by rw [h7]; rfl
    rw [matchB, if_neg h1, if_neg h2, if_neg h3, if_neg h4, if_neg h5, if_neg h6, if_pos h7] at hr
    simp only [e1, e2, e3, e4, e5, e6, e7, Phi_impl_Matches, T_impl_Matches, spFlagsOk, spHasT, spLow, spReadSet, spSetHas, spSubjectOf, go_sem]
    repeat' ((first | refine after_iteT.2 ⟨fun hp => ?_, fun hp => ?_⟩ | refine after_iteF.2 ⟨fun hp => ?_, fun hp => ?_⟩ | refine after_ite.2 ⟨fun hp => ?_, fun hp => ?_⟩ | refine grd_not.2 ⟨fun hp => ?_, fun hp => ?_⟩ | refine grd_beq.2 ⟨fun hp => ?_, fun hp => ?_⟩ | refine grd_dec.2 ⟨fun hp => ?_, fun hp => ?_⟩ | refine grd_bool.2 ⟨fun hp => ?_, fun hp => ?_⟩ | refine condG_not.2 ⟨fun hp => ?_, fun hp => ?_⟩ | refine condG_beq.2 ⟨fun hp => ?_, fun hp => ?_⟩ | refine condG_dec.2 ⟨fun hp => ?_, fun hp => ?_⟩ | refine condG_bool.2 ⟨fun hp => ?_, fun hp => ?_⟩ | (refine (goes_draw0 rfl (by decide +kernel)).2 ?_; have hp := True.intro) | (refine (goes_drawM _ rfl (by decide +kernel)).2 ?_; have hp := True.intro)) <;> simp only [hp, e1, e2, e3, e4, e5, e6, e7, Phi_impl_Matches, T_impl_Matches, spFlagsOk, spHasT, spLow, spReadSet, spSetHas, spSubjectOf, go_sem])
    all_goals (simp only [fin_mk, finV, resL, resV1, allUse, oneOrTup, List.take, List.drop, List.take_succ_cons, List.take_zero, List.drop_succ_cons, List.drop_zero, Phi_impl_Matches, T_impl_Matches, spFlagsOk, spHasT, spLow, spReadSet, spSetHas, spSubjectOf, go_sem]; rw [← hr])
  have e7 : (k.Kind == 7) = false := by simpa using h7
  rw [matchB, if_neg h1, if_neg h2, if_neg h3, if_neg h4, if_neg h5, if_neg h6, if_neg h7] at hr
  simp only [e1, e2, e3, e4, e5, e6, e7, Phi_impl_Matches, T_impl_Matches, spFlagsOk, spHasT, spLow, spReadSet, spSetHas, spSubjectOf, go_sem]
  repeat' ((first | refine after_iteT.2 ⟨fun hp => ?_, fun hp => ?_⟩ | refine after_iteF.2 ⟨fun hp => ?_, fun hp => ?_⟩ | refine after_ite.2 ⟨fun hp => ?_, fun hp => ?_⟩ | refine grd_not.2 ⟨fun hp => ?_, fun hp => ?_⟩ | refine grd_beq.2 ⟨fun hp => ?_, fun hp => ?_⟩ | refine grd_dec.2 ⟨fun hp => ?_, fun hp => ?_⟩ | refine grd_bool.2 ⟨fun hp => ?_, fun hp => ?_⟩ | refine condG_not.2 ⟨fun hp => ?_, fun hp => ?_⟩ | refine condG_beq.2 ⟨fun hp => ?_, fun hp => ?_⟩ | refine condG_dec.2 ⟨fun hp => ?_, fun hp => ?_⟩ | refine condG_bool.2 ⟨fun hp => ?_, fun hp => ?_⟩ | (refine (goes_draw0 rfl (by decide +kernel)).2 ?_; have hp := True.intro) | (refine (goes_drawM _ rfl (by decide +kernel)).2 ?_; have hp := True.intro)) <;> simp only [hp, e1, e2, e3, e4, e5, e6, e7, Phi_impl_Matches, T_impl_Matches, spFlagsOk, spHasT, spLow, spReadSet, spSetHas, spSubjectOf, go_sem])
  all_goals (simp only [fin_mk, finV, resL, resV1, allUse, oneOrTup, List.take, List.drop, List.take_succ_cons, List.take_zero, List.drop_succ_cons, List.drop_zero, Phi_impl_Matches, T_impl_Matches, spFlagsOk, spHasT, spLow, spReadSet, spSetHas, spSubjectOf, go_sem]; rw [← hr])
def T_spec_Matches : Hints := ⟨fun i => if i = 10 then some [(1, 2), (1, 3)] else if i = 12 then some [(2, 3), (2, 4)] else none, fun _ => none, fun i => if i = 0 then some [2, 3] else if i = 1 then some [2, 3, 10] else if i = 2 then some [2, 3, 10, 11] else if i = 3 then some [4] else if i = 4 then some [2, 3, 10, 13] else if i = 5 then some [4] else if i = 6 then some [2, 3, 10, 31] else if i = 7 then some [4] else if i = 8 then some [2, 3, 10, 49] else if i = 9 then some [3, 5] else if i = 10 then some [4] else if i = 11 then some [2, 3, 10, 63] else if i = 12 then some [4] else if i = 13 then some [2, 3, 10, 72] else if i = 14 then some [2, 7, 8] else if i = 15 then some [4] else if i = 16 then some [2, 3, 87] else if i = 17 then some [4] else if i = 18 then some [4] else none⟩
noncomputable def Phi_spec_Matches : Tab := fun f => if f = 65 then some spFlagsOk else if f = 68 then some spAnd else if f = 69 then some spHeadOf else if f = 71 then some spBaseSubject else if f = 72 then some spLow else if f = 70 then some spHasT else if f = 73 then some spReadSet else if f = 50 then some spSetHas else none
theorem phi_spec_Matches : ∀ f sp, Phi_spec_Matches f = some sp → FnOk Tryz.prog f sp ∧ ∀ n ∈ sp.need, n ∈ (["internal/bytealg.MaxLen"] : List String) := by
  intro f sp h
  unfold Phi_spec_Matches at h
  split at h
  · rename_i e; cases h; rw [e]; exact ⟨ok_spec_FlagsOk, (fun n (h : n ∈ ([] : List String)) => (nomatch h))⟩
  split at h
  · rename_i e; cases h; rw [e]; exact ⟨ok_spec_l06And, (fun n (h : n ∈ ([] : List String)) => (nomatch h))⟩
  split at h
  · rename_i e; cases h; rw [e]; exact ⟨ok_spec_HeadOf, (fun n (h : n ∈ (["internal/bytealg.MaxLen"] : List String)) => by simp only [List.mem_cons, List.not_mem_nil, or_false] at h; rcases h with rfl <;> simp)⟩
  split at h
  · rename_i e; cases h; rw [e]; exact ⟨ok_spec_BaseSubject, (fun n (h : n ∈ ([] : List String)) => (nomatch h))⟩
  split at h
  · rename_i e; cases h; rw [e]; exact ⟨ok_spec_l06Low, (fun n (h : n ∈ ([] : List String)) => (nomatch h))⟩
  split at h
  · rename_i e; cases h; rw [e]; exact ⟨ok_spec_l12Has, (fun n (h : n ∈ (["internal/bytealg.MaxLen"] : List String)) => by simp only [List.mem_cons, List.not_mem_nil, or_false] at h; rcases h with rfl <;> simp)⟩
  split at h
  · rename_i e; cases h; rw [e]; exact ⟨ok_spec_ReadSet, (fun n (h : n ∈ (["internal/bytealg.MaxLen"] : List String)) => by simp only [List.mem_cons, List.not_mem_nil, or_false] at h; rcases h with rfl <;> simp)⟩
  split at h
  · rename_i e; cases h; rw [e]; exact ⟨ok_spec_SetHas, (fun n (h : n ∈ ([] : List String)) => (nomatch h))⟩
  cases h
theorem ok_spec_Matches : FnOk Tryz.prog 35 spMatches := by
  refine fn_ok (Φ := Phi_spec_Matches) (T := T_spec_Matches) phi_spec_Matches mixed Tryz.func35 rfl rfl rfl (by decide) ?_
  intro ins r outs hr hl
  clear hl
  have hs := spMatches_in hr
  clear hr
  obtain ⟨m, k, rfl, hc, hr, rfl⟩ := hs
  simp only [spMatches, Tryz.f35, Go.VM.initS]
  obtain ⟨hm, hk'⟩ := hc
  have hk : k.Text.length ≤ 4194304 := hk'
  have hT : m.Text.length ≤ 4194304 := hm
  have t1 : m.Text.length ≤ 1099511627776 := by omega
  have t2 : k.Text.length ≤ 1099511627776 := by omega
  have t3 : (lowS m.Text).length ≤ 4194304 := by rw [lowS_len]; exact hT
  have t4 : (lowS k.Text).length ≤ 4194304 := by rw [lowS_len]; exact hk
  have hS := headOf_len m.Text [115, 117, 98, 106, 101, 99, 116]
  have hB := baseSubject_len (headOf m.Text [115, 117, 98, 106, 101, 99, 116]).1
  have t5 : (headOf m.Text [115, 117, 98, 106, 101, 99, 116]).1.length ≤ 1099511627776 := by omega
  have t6 : (baseSubject (headOf m.Text [115, 117, 98, 106, 101, 99, 116]).1).length ≤ 4194304 := by omega
  have t7 : (subjectOf m).length ≤ 4194304 := t6
  have t8 : (readSet k.Text 9999).length ≤ 8388608 := Nat.le_trans (readSet_len _ _) (by decide)
  have ml : m.le 4194304 := hm
  by_cases h1 : k.Kind = 1
  · have e1 : (k.Kind == 1) = true := by rw [h1]; rfl
    rw [matchB, if_pos h1] at hr
    simp only [e1, Phi_spec_Matches, T_spec_Matches, spAnd, spBaseSubject, spFlagsOk, spHasT, spHeadOf, spLow, spReadSet, spSetHas, go_sem]
    repeat' ((first | refine after_iteT.2 ⟨fun hp => ?_, fun hp => ?_⟩ | refine after_iteF.2 ⟨fun hp => ?_, fun hp => ?_⟩ | refine after_ite.2 ⟨fun hp => ?_, fun hp => ?_⟩ | refine grd_not.2 ⟨fun hp => ?_, fun hp => ?_⟩ | refine grd_beq.2 ⟨fun hp => ?_, fun hp => ?_⟩ | refine grd_dec.2 ⟨fun hp => ?_, fun hp => ?_⟩ | refine grd_bool.2 ⟨fun hp => ?_, fun hp => ?_⟩ | refine condG_not.2 ⟨fun hp => ?_, fun hp => ?_⟩ | refine condG_beq.2 ⟨fun hp => ?_, fun hp => ?_⟩ | refine condG_dec.2 ⟨fun hp => ?_, fun hp => ?_⟩ | refine condG_bool.2 ⟨fun hp => ?_, fun hp => ?_⟩ | (refine (goes_draw0 rfl (by decide +kernel)).2 ?_; have hp := True.intro) | (refine (goes_drawM _ rfl (by decide +kernel)).2 ?_; have hp := True.intro)) <;> simp only [hp, e1, Phi_spec_Matches, T_spec_Matches, spAnd, spBaseSubject, spFlagsOk, spHasT, spHeadOf, spLow, spReadSet, spSetHas, go_sem])
    simp only [fin_mk, finV, resL, resV1, allUse, oneOrTup, List.take, List.drop, List.take_succ_cons, List.take_zero, List.drop_succ_cons, List.drop_zero, Phi_spec_Matches, T_spec_Matches, spAnd, spBaseSubject, spFlagsOk, spHasT, spHeadOf, spLow, spReadSet, spSetHas, go_sem]
    rw [← hr]
  have e1 : (k.Kind == 1) = false := by simpa using h1
  by_cases h2 : k.Kind = 2
  · have e2 : (k.Kind == 2) = true := by rw [h2]; rfl
    rw [matchB, if_neg h1, if_pos h2] at hr
    cases f1 : flagsOk m.Flags with
    | false =>
      rw [f1] at hr
      simp only [e1, e2, f1, Phi_spec_Matches, T_spec_Matches, spAnd, spBaseSubject, spFlagsOk, spHasT, spHeadOf, spLow, spReadSet, spSetHas, go_sem]
      repeat' ((first | refine after_iteT.2 ⟨fun hp => ?_, fun hp => ?_⟩ | refine after_iteF.2 ⟨fun hp => ?_, fun hp => ?_⟩ | refine after_ite.2 ⟨fun hp => ?_, fun hp => ?_⟩ | refine grd_not.2 ⟨fun hp => ?_, fun hp => ?_⟩ | refine grd_beq.2 ⟨fun hp => ?_, fun hp => ?_⟩ | refine grd_dec.2 ⟨fun hp => ?_, fun hp => ?_⟩ | refine grd_bool.2 ⟨fun hp => ?_, fun hp => ?_⟩ | refine condG_not.2 ⟨fun hp => ?_, fun hp => ?_⟩ | refine condG_beq.2 ⟨fun hp => ?_, fun hp => ?_⟩ | refine condG_dec.2 ⟨fun hp => ?_, fun hp => ?_⟩ | refine condG_bool.2 ⟨fun hp => ?_, fun hp => ?_⟩ | (refine (goes_draw0 rfl (by decide +kernel)).2 ?_; have hp := True.intro) | (refine (goes_drawM _ rfl (by decide +kernel)).2 ?_; have hp := True.intro)) <;> simp only [hp, e1, e2, f1, Phi_spec_Matches, T_spec_Matches, spAnd, spBaseSubject, spFlagsOk, spHasT, spHeadOf, spLow, spReadSet, spSetHas, go_sem])
      all_goals (simp only [fin_mk, finV, resL, resV1, allUse, oneOrTup, List.take, List.drop, List.take_succ_cons, List.take_zero, List.drop_succ_cons, List.drop_zero, Phi_spec_Matches, T_spec_Matches, spAnd, spBaseSubject, spFlagsOk, spHasT, spHeadOf, spLow, spReadSet, spSetHas, go_sem]; rw [← hr])
      all_goals rfl
    | true =>
      cases f2 : flagsOk k.Num with
      | false =>
        rw [f1, f2] at hr
        simp only [e1, e2, f1, f2, Phi_spec_Matches, T_spec_Matches, spAnd, spBaseSubject, spFlagsOk, spHasT, spHeadOf, spLow, spReadSet, spSetHas, go_sem]
        repeat' ((first | refine after_iteT.2 ⟨fun hp => ?_, fun hp => ?_⟩ | refine after_iteF.2 ⟨fun hp => ?_, fun hp => ?_⟩ | refine after_ite.2 ⟨fun hp => ?_, fun hp => ?_⟩ | refine grd_not.2 ⟨fun hp => ?_, fun hp => ?_⟩ | refine grd_beq.2 ⟨fun hp => ?_, fun hp => ?_⟩ | refine grd_dec.2 ⟨fun hp => ?_, fun hp => ?_⟩ | refine grd_bool.2 ⟨fun hp => ?_, fun hp => ?_⟩ | refine condG_not.2 ⟨fun hp => ?_, fun hp => ?_⟩ | refine condG_beq.2 ⟨fun hp => ?_, fun hp => ?_⟩ | refine condG_dec.2 ⟨fun hp => ?_, fun hp => ?_⟩ | refine condG_bool.2 ⟨fun hp => ?_, fun hp => ?_⟩ | (refine (goes_draw0 rfl (by decide +kernel)).2 ?_; have hp := True.intro) | (refine (goes_drawM _ rfl (by decide +kernel)).2 ?_; have hp := True.intro)) <;> simp only [hp, e1, e2, f1, f2, Phi_spec_Matches, T_spec_Matches, spAnd, spBaseSubject, spFlagsOk, spHasT, spHeadOf, spLow, spReadSet, spSetHas, go_sem])
        all_goals (simp only [fin_mk, finV, resL, resV1, allUse, oneOrTup, List.take, List.drop, List.take_succ_cons, List.take_zero, List.drop_succ_cons, List.drop_zero, Phi_spec_Matches, T_spec_Matches, spAnd, spBaseSubject, spFlagsOk, spHasT, spHeadOf, spLow, spReadSet, spSetHas, go_sem]; rw [← hr])
        all_goals rfl
      | true =>
        rw [f1, f2] at hr
        simp only [e1, e2, f1, f2, Phi_spec_Matches, T_spec_Matches, spAnd, spBaseSubject, spFlagsOk, spHasT, spHeadOf, spLow, spReadSet, spSetHas, go_sem]
        repeat' ((first | refine after_iteT.2 ⟨fun hp => ?_, fun hp => ?_⟩ | refine after_iteF.2 ⟨fun hp => ?_, fun hp => ?_⟩ | refine after_ite.2 ⟨fun hp => ?_, fun hp => ?_⟩ | refine grd_not.2 ⟨fun hp => ?_, fun hp => ?_⟩ | refine grd_beq.2 ⟨fun hp => ?_, fun hp => ?_⟩ | refine grd_dec.2 ⟨fun hp => ?_, fun hp => ?_⟩ | refine grd_bool.2 ⟨fun hp => ?_, fun hp => ?_⟩ | refine condG_not.2 ⟨fun hp => ?_, fun hp => ?_⟩ | refine condG_beq.2 ⟨fun hp => ?_, fun hp => ?_⟩ | refine condG_dec.2 ⟨fun hp => ?_, fun hp => ?_⟩ | refine condG_bool.2 ⟨fun hp => ?_, fun hp => ?_⟩ | (refine (goes_draw0 rfl (by decide +kernel)).2 ?_; have hp := True.intro) | (refine (goes_drawM _ rfl (by decide +kernel)).2 ?_; have hp := True.intro)) <;> simp only [hp, e1, e2, f1, f2, Phi_spec_Matches, T_spec_Matches, spAnd, spBaseSubject, spFlagsOk, spHasT, spHeadOf, spLow, spReadSet, spSetHas, go_sem])
        all_goals (simp only [fin_mk, finV, resL, resV1, allUse, oneOrTup, List.take, List.drop, List.take_succ_cons, List.take_zero, List.drop_succ_cons, List.drop_zero, Phi_spec_Matches, T_spec_Matches, spAnd, spBaseSubject, spFlagsOk, spHasT, spHeadOf, spLow, spReadSet, spSetHas, go_sem]; rw [← hr])
        all_goals rfl
  have e2 : (k.Kind == 2) = false := by simpa using h2
  by_cases h3 : k.Kind = 3
  · have e3 : (k.Kind == 3) = true := by rw [h3]; rfl
    rw [matchB, if_neg h1, if_neg h2, if_pos h3] at hr
    cases f1 : flagsOk m.Flags with
    | false =>
      rw [f1] at hr
      simp only [e1, e2, e3, f1, Phi_spec_Matches, T_spec_Matches, spAnd, spBaseSubject, spFlagsOk, spHasT, spHeadOf, spLow, spReadSet, spSetHas, go_sem]
      repeat' ((first | refine after_iteT.2 ⟨fun hp => ?_, fun hp => ?_⟩ | refine after_iteF.2 ⟨fun hp => ?_, fun hp => ?_⟩ | refine after_ite.2 ⟨fun hp => ?_, fun hp => ?_⟩ | refine grd_not.2 ⟨fun hp => ?_, fun hp => ?_⟩ | refine grd_beq.2 ⟨fun hp => ?_, fun hp => ?_⟩ | refine grd_dec.2 ⟨fun hp => ?_, fun hp => ?_⟩ | refine grd_bool.2 ⟨fun hp => ?_, fun hp => ?_⟩ | refine condG_not.2 ⟨fun hp => ?_, fun hp => ?_⟩ | refine condG_beq.2 ⟨fun hp => ?_, fun hp => ?_⟩ | refine condG_dec.2 ⟨fun hp => ?_, fun hp => ?_⟩ | refine condG_bool.2 ⟨fun hp => ?_, fun hp => ?_⟩ | (refine (goes_draw0 rfl (by decide +kernel)).2 ?_; have hp := True.intro) | (refine (goes_drawM _ rfl (by decide +kernel)).2 ?_; have hp := True.intro)) <;> simp only [hp, e1, e2, e3, f1, Phi_spec_Matches, T_spec_Matches, spAnd, spBaseSubject, spFlagsOk, spHasT, spHeadOf, spLow, spReadSet, spSetHas, go_sem])
      all_goals (simp only [fin_mk, finV, resL, resV1, allUse, oneOrTup, List.take, List.drop, List.take_succ_cons, List.take_zero, List.drop_succ_cons, List.drop_zero, Phi_spec_Matches, T_spec_Matches, spAnd, spBaseSubject, spFlagsOk, spHasT, spHeadOf, spLow, spReadSet, spSetHas, go_sem]; rw [← hr])
      all_goals rfl
    | true =>
      cases f2 : flagsOk k.Num with
      | false =>
        rw [f1, f2] at hr
        simp only [e1, e2, e3, f1, f2, Phi_spec_Matches, T_spec_Matches, spAnd, spBaseSubject, spFlagsOk, spHasT, spHeadOf, spLow, spReadSet, spSetHas, go_sem]
        repeat' ((first | refine after_iteT.2 ⟨fun hp => ?_, fun hp => ?_⟩ | refine after_iteF.2 ⟨fun hp => ?_, fun hp => ?_⟩ | refine after_ite.2 ⟨fun hp => ?_, fun hp => ?_⟩ | refine grd_not.2 ⟨fun hp => ?_, fun hp => ?_⟩ | refine grd_beq.2 ⟨fun hp => ?_, fun hp => ?_⟩ | refine grd_dec.2 ⟨fun hp => ?_, fun hp => ?_⟩ | refine grd_bool.2 ⟨fun hp => ?_, fun hp => ?_⟩ | refine condG_not.2 ⟨fun hp => ?_, fun hp => ?_⟩ | refine condG_beq.2 ⟨fun hp => ?_, fun hp => ?_⟩ | refine condG_dec.2 ⟨fun hp => ?_, fun hp => ?_⟩ | refine condG_bool.2 ⟨fun hp => ?_, fun hp => ?_⟩ | (refine (goes_draw0 rfl (by decide +kernel)).2 ?_; have hp := True.intro) | (refine (goes_drawM _ rfl (by decide +kernel)).2 ?_; have hp := True.intro)) <;> simp only [hp, e1, e2, e3, f1, f2, Phi_spec_Matches, T_spec_Matches, spAnd, spBaseSubject, spFlagsOk, spHasT, spHeadOf, spLow, spReadSet, spSetHas, go_sem])
        all_goals (simp only [fin_mk, finV, resL, resV1, allUse, oneOrTup, List.take, List.drop, List.take_succ_cons, List.take_zero, List.drop_succ_cons, List.drop_zero, Phi_spec_Matches, T_spec_Matches, spAnd, spBaseSubject, spFlagsOk, spHasT, spHeadOf, spLow, spReadSet, spSetHas, go_sem]; rw [← hr])
        all_goals rfl
      | true =>
        rw [f1, f2] at hr
        simp only [e1, e2, e3, f1, f2, Phi_spec_Matches, T_spec_Matches, spAnd, spBaseSubject, spFlagsOk, spHasT, spHeadOf, spLow, spReadSet, spSetHas, go_sem]
        repeat' ((first | refine after_iteT.2 ⟨fun hp => ?_, fun hp => ?_⟩ | refine after_iteF.2 ⟨fun hp => ?_, fun hp => ?_⟩ | refine after_ite.2 ⟨fun hp => ?_, fun hp => ?_⟩ | refine grd_not.2 ⟨fun hp => ?_, fun hp => ?_⟩ | refine grd_beq.2 ⟨fun hp => ?_, fun hp => ?_⟩ | refine grd_dec.2 ⟨fun hp => ?_, fun hp => ?_⟩ | refine grd_bool.2 ⟨fun hp => ?_, fun hp => ?_⟩ | refine condG_not.2 ⟨fun hp => ?_, fun hp => ?_⟩ | refine condG_beq.2 ⟨fun hp => ?_, fun hp => ?_⟩ | refine condG_dec.2 ⟨fun hp => ?_, fun hp => ?_⟩ | refine condG_bool.2 ⟨fun hp => ?_, fun hp => ?_⟩ | (refine (goes_draw0 rfl (by decide +kernel)).2 ?_; have hp := True.intro) | (refine (goes_drawM _ rfl (by decide +kernel)).2 ?_; have hp := True.intro)) <;> simp only [hp, e1, e2, e3, f1, f2, Phi_spec_Matches, T_spec_Matches, spAnd, spBaseSubject, spFlagsOk, spHasT, spHeadOf, spLow, spReadSet, spSetHas, go_sem])
        all_goals (simp only [fin_mk, finV, resL, resV1, allUse, oneOrTup, List.take, List.drop, List.take_succ_cons, List.take_zero, List.drop_succ_cons, List.drop_zero, Phi_spec_Matches, T_spec_Matches, spAnd, spBaseSubject, spFlagsOk, spHasT, spHeadOf, spLow, spReadSet, spSetHas, go_sem]; rw [← hr])
        all_goals rfl
  have e3 : (k.Kind == 3) = false := by simpa using h3
  by_cases h4 : k.Kind = 4
  · have e4 : (k.Kind == 4) = true := by rw [h4]; rfl
    rw [matchB, if_neg h1, if_neg h2, if_neg h3, if_pos h4] at hr
    simp only [e1, e2, e3, e4, t2, t4, t5, t6, t7, hT, ml, Phi_spec_Matches, T_spec_Matches, spAnd, spBaseSubject, spFlagsOk, spHasT, spHeadOf, spLow, spReadSet, spSetHas, go_sem]
    repeat' ((first | refine after_iteT.2 ⟨fun hp => ?_, fun hp => ?_⟩ | refine after_iteF.2 ⟨fun hp => ?_, fun hp => ?_⟩ | refine after_ite.2 ⟨fun hp => ?_, fun hp => ?_⟩ | refine grd_not.2 ⟨fun hp => ?_, fun hp => ?_⟩ | refine grd_beq.2 ⟨fun hp => ?_, fun hp => ?_⟩ | refine grd_dec.2 ⟨fun hp => ?_, fun hp => ?_⟩ | refine grd_bool.2 ⟨fun hp => ?_, fun hp => ?_⟩ | refine condG_not.2 ⟨fun hp => ?_, fun hp => ?_⟩ | refine condG_beq.2 ⟨fun hp => ?_, fun hp => ?_⟩ | refine condG_dec.2 ⟨fun hp => ?_, fun hp => ?_⟩ | refine condG_bool.2 ⟨fun hp => ?_, fun hp => ?_⟩ | (refine (goes_draw0 rfl (by decide +kernel)).2 ?_; have hp := True.intro) | (refine (goes_drawM _ rfl (by decide +kernel)).2 ?_; have hp := True.intro)) <;> simp only [hp, e1, e2, e3, e4, t2, t4, t5, t6, t7, hT, ml, Phi_spec_Matches, T_spec_Matches, spAnd, spBaseSubject, spFlagsOk, spHasT, spHeadOf, spLow, spReadSet, spSetHas, go_sem])
    all_goals (simp only [fin_mk, finV, resL, resV1, allUse, oneOrTup, List.take, List.drop, List.take_succ_cons, List.take_zero, List.drop_succ_cons, List.drop_zero, Phi_spec_Matches, T_spec_Matches, spAnd, spBaseSubject, spFlagsOk, spHasT, spHeadOf, spLow, spReadSet, spSetHas, go_sem]; rw [← hr])
    all_goals rfl
  have e4 : (k.Kind == 4) = false := by simpa using h4
  by_cases h5 : k.Kind = 5
  · have e5 : (k.Kind == 5) = true := by rw [h5]; rfl
    rw [matchB, if_neg h1, if_neg h2, if_neg h3, if_neg h4, if_pos h5] at hr
    simp only [e1, e2, e3, e4, e5, t1, t2, t3, t4, Phi_spec_Matches, T_spec_Matches, spAnd, spBaseSubject, spFlagsOk, spHasT, spHeadOf, spLow, spReadSet, spSetHas, go_sem]
    repeat' ((first | refine after_iteT.2 ⟨fun hp => ?_, fun hp => ?_⟩ | refine after_iteF.2 ⟨fun hp => ?_, fun hp => ?_⟩ | refine after_ite.2 ⟨fun hp => ?_, fun hp => ?_⟩ | refine grd_not.2 ⟨fun hp => ?_, fun hp => ?_⟩ | refine grd_beq.2 ⟨fun hp => ?_, fun hp => ?_⟩ | refine grd_dec.2 ⟨fun hp => ?_, fun hp => ?_⟩ | refine grd_bool.2 ⟨fun hp => ?_, fun hp => ?_⟩ | refine condG_not.2 ⟨fun hp => ?_, fun hp => ?_⟩ | refine condG_beq.2 ⟨fun hp => ?_, fun hp => ?_⟩ | refine condG_dec.2 ⟨fun hp => ?_, fun hp => ?_⟩ | refine condG_bool.2 ⟨fun hp => ?_, fun hp => ?_⟩ | (refine (goes_draw0 rfl (by decide +kernel)).2 ?_; have hp := True.intro) | (refine (goes_drawM _ rfl (by decide +kernel)).2 ?_; have hp := True.intro)) <;> simp only [hp, e1, e2, e3, e4, e5, t1, t2, t3, t4, Phi_spec_Matches, T_spec_Matches, spAnd, spBaseSubject, spFlagsOk, spHasT, spHeadOf, spLow, spReadSet, spSetHas, go_sem])
    all_goals (simp only [fin_mk, finV, resL, resV1, allUse, oneOrTup, List.take, List.drop, List.take_succ_cons, List.take_zero, List.drop_succ_cons, List.drop_zero, Phi_spec_Matches, T_spec_Matches, spAnd, spBaseSubject, spFlagsOk, spHasT, spHeadOf, spLow, spReadSet, spSetHas, go_sem]; rw [← hr])
  have e5 : (k.Kind == 5) = false := by simpa using h5
  by_cases h6 : k.Kind = 6
  · have e6 : (k.Kind == 6) = true := by rw [h6]; rfl
    rw [matchB, if_neg h1, if_neg h2, if_neg h3, if_neg h4, if_neg h5, if_pos h6] at hr
    cases f1 : readOk k.Text 9999 with
    | false =>
      rw [readSet_no f1] at hr
      simp only [e1, e2, e3, e4, e5, e6, hk, t8, f1, Phi_spec_Matches, T_spec_Matches, spAnd, spBaseSubject, spFlagsOk, spHasT, spHeadOf, spLow, spReadSet, spSetHas, go_sem]
      repeat' ((first | refine after_iteT.2 ⟨fun hp => ?_, fun hp => ?_⟩ | refine after_iteF.2 ⟨fun hp => ?_, fun hp => ?_⟩ | refine after_ite.2 ⟨fun hp => ?_, fun hp => ?_⟩ | refine grd_not.2 ⟨fun hp => ?_, fun hp => ?_⟩ | refine grd_beq.2 ⟨fun hp => ?_, fun hp => ?_⟩ | refine grd_dec.2 ⟨fun hp => ?_, fun hp => ?_⟩ | refine grd_bool.2 ⟨fun hp => ?_, fun hp => ?_⟩ | refine condG_not.2 ⟨fun hp => ?_, fun hp => ?_⟩ | refine condG_beq.2 ⟨fun hp => ?_, fun hp => ?_⟩ | refine condG_dec.2 ⟨fun hp => ?_, fun hp => ?_⟩ | refine condG_bool.2 ⟨fun hp => ?_, fun hp => ?_⟩ | (refine (goes_draw0 rfl (by decide +kernel)).2 ?_; have hp := True.intro) | (refine (goes_drawM _ rfl (by decide +kernel)).2 ?_; have hp := True.intro)) <;> simp only [hp, e1, e2, e3, e4, e5, e6, hk, t8, f1, Phi_spec_Matches, T_spec_Matches, spAnd, spBaseSubject, spFlagsOk, spHasT, spHeadOf, spLow, spReadSet, spSetHas, go_sem])
      all_goals (simp only [fin_mk, finV, resL, resV1, allUse, oneOrTup, List.take, List.drop, List.take_succ_cons, List.take_zero, List.drop_succ_cons, List.drop_zero, Phi_spec_Matches, T_spec_Matches, spAnd, spBaseSubject, spFlagsOk, spHasT, spHeadOf, spLow, spReadSet, spSetHas, go_sem]; rw [← hr])
      all_goals rfl
    | true =>
      simp only [e1, e2, e3, e4, e5, e6, hk, t8, f1, Phi_spec_Matches, T_spec_Matches, spAnd, spBaseSubject, spFlagsOk, spHasT, spHeadOf, spLow, spReadSet, spSetHas, go_sem]
      repeat' ((first | refine after_iteT.2 ⟨fun hp => ?_, fun hp => ?_⟩ | refine after_iteF.2 ⟨fun hp => ?_, fun hp => ?_⟩ | refine after_ite.2 ⟨fun hp => ?_, fun hp => ?_⟩ | refine grd_not.2 ⟨fun hp => ?_, fun hp => ?_⟩ | refine grd_beq.2 ⟨fun hp => ?_, fun hp => ?_⟩ | refine grd_dec.2 ⟨fun hp => ?_, fun hp => ?_⟩ | refine grd_bool.2 ⟨fun hp => ?_, fun hp => ?_⟩ | refine condG_not.2 ⟨fun hp => ?_, fun hp => ?_⟩ | refine condG_beq.2 ⟨fun hp => ?_, fun hp => ?_⟩ | refine condG_dec.2 ⟨fun hp => ?_, fun hp => ?_⟩ | refine condG_bool.2 ⟨fun hp => ?_, fun hp => ?_⟩ | (refine (goes_draw0 rfl (by decide +kernel)).2 ?_; have hp := True.intro) | (refine (goes_drawM _ rfl (by decide +kernel)).2 ?_; have hp := True.intro)) <;> simp only [hp, e1, e2, e3, e4, e5, e6, hk, t8, f1, Phi_spec_Matches, T_spec_Matches, spAnd, spBaseSubject, spFlagsOk, spHasT, spHeadOf, spLow, spReadSet, spSetHas, go_sem])
      all_goals (simp only [fin_mk, finV, resL, resV1, allUse, oneOrTup, List.take, List.drop, List.take_succ_cons, List.take_zero, List.drop_succ_cons, List.drop_zero, Phi_spec_Matches, T_spec_Matches, spAnd, spBaseSubject, spFlagsOk, spHasT, spHeadOf, spLow, spReadSet, spSetHas, go_sem]; rw [← hr])
  have e6 : (k.Kind == 6) = false := by simpa using h6
  by_cases h7 : k.Kind = 7
  · have e7 : (k.Kind == 7) = true := by rw [h7]; rfl
    rw [matchB, if_neg h1, if_neg h2, if_neg h3, if_neg h4, if_neg h5, if_neg h6, if_pos h7] at hr
    simp only [e1, e2, e3, e4, e5, e6, e7, Phi_spec_Matches, T_spec_Matches, spAnd, spBaseSubject, spFlagsOk, spHasT, spHeadOf, spLow, spReadSet, spSetHas, go_sem]
    repeat' ((first | refine after_iteT.2 ⟨fun hp => ?_, fun hp => ?_⟩ | refine after_iteF.2 ⟨fun hp => ?_, fun hp => ?_⟩ | refine after_ite.2 ⟨fun hp => ?_, fun hp => ?_⟩ | refine grd_not.2 ⟨fun hp => ?_, fun hp => ?_⟩ | refine grd_beq.2 ⟨fun hp => ?_, fun hp => ?_⟩ | refine grd_dec.2 ⟨fun hp => ?_, fun hp => ?_⟩ | refine grd_bool.2 ⟨fun hp => ?_, fun hp => ?_⟩ | refine condG_not.2 ⟨fun hp => ?_, fun hp => ?_⟩ | refine condG_beq.2 ⟨fun hp => ?_, fun hp => ?_⟩ | refine condG_dec.2 ⟨fun hp => ?_, fun hp => ?_⟩ | refine condG_bool.2 ⟨fun hp => ?_, fun hp => ?_⟩ | (refine (goes_draw0 rfl (by decide +kernel)).2 ?_; have hp := True.intro) | (refine (goes_drawM _ rfl (by decide +kernel)).2 ?_; have hp := True.intro)) <;> simp only [hp, e1, e2, e3, e4, e5, e6, e7, Phi_spec_Matches, T_spec_Matches, spAnd, spBaseSubject, spFlagsOk, spHasT, spHeadOf, spLow, spReadSet, spSetHas, go_sem])
    all_goals (simp only [fin_mk, finV, resL, resV1, allUse, oneOrTup, List.take, List.drop, List.take_succ_cons, List.take_zero, List.drop_succ_cons, List.drop_zero, Phi_spec_Matches, T_spec_Matches, spAnd, spBaseSubject, spFlagsOk, spHasT, spHeadOf, spLow, spReadSet, spSetHas, go_sem]; rw [← hr])
  have e7 : (k.Kind == 7) = false := by simpa using h7
  rw [matchB, if_neg h1, if_neg h2, if_neg h3, if_neg h4, if_neg h5, if_neg h6, if_neg h7] at hr
  simp only [e1, e2, e3, e4, e5, e6, e7, Phi_spec_Matches, T_spec_Matches, spAnd, spBaseSubject, spFlagsOk, spHasT, spHeadOf, spLow, spReadSet, spSetHas, go_sem]
  repeat' ((first | refine after_iteT.2 ⟨fun hp => ?_, fun hp => ?_⟩ | refine after_iteF.2 ⟨fun hp => ?_, fun hp => ?_⟩ | refine after_ite.2 ⟨fun hp => ?_, fun hp => ?_⟩ | refine grd_not.2 ⟨fun hp => ?_, fun hp => ?_⟩ | refine grd_beq.2 ⟨fun hp => ?_, fun hp => ?_⟩ | refine grd_dec.2 ⟨fun hp => ?_, fun hp => ?_⟩ | refine grd_bool.2 ⟨fun hp => ?_, fun hp => ?_⟩ | refine condG_not.2 ⟨fun hp => ?_, fun hp => ?_⟩ | refine condG_beq.2 ⟨fun hp => ?_, fun hp => ?_⟩ | refine condG_dec.2 ⟨fun hp => ?_, fun hp => ?_⟩ | refine condG_bool.2 ⟨fun hp => ?_, fun hp => ?_⟩ | (refine (goes_draw0 rfl (by decide +kernel)).2 ?_; have hp := True.intro) | (refine (goes_drawM _ rfl (by decide +kernel)).2 ?_; have hp := True.intro)) <;> simp only [hp, e1, e2, e3, e4, e5, e6, e7, Phi_spec_Matches, T_spec_Matches, spAnd, spBaseSubject, spFlagsOk, spHasT, spHeadOf, spLow, spReadSet, spSetHas, go_sem])
  all_goals (simp only [fin_mk, finV, resL, resV1, allUse, oneOrTup, List.take, List.drop, List.take_succ_cons, List.take_zero, List.drop_succ_cons, List.drop_zero, Phi_spec_Matches, T_spec_Matches, spAnd, spBaseSubject, spFlagsOk, spHasT, spHeadOf, spLow, spReadSet, spSetHas, go_sem]; rw [← hr])
end Go.Proofs.YtglldabpgobimaaGreatDoor.L
