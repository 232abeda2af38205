/- Contracts of functions, and the facts that they need. No condition. -/
import Derived.Test.YtdnafggminbalaaVLA
import Derived.Test.YtdnafggminbalaaVmCur
import Derived.Test.YtdnafggminbalaaVmLoop
import Derived.Test.YtdnafggminbalaaVmRec
import Derived.Sort.Walk0
import Derived.Test.YtdnafggminbalaaVmLift
namespace Go.Proofs.Ytdnafggminbalaa.L
open Go Go.VM
set_option maxRecDepth 100000
set_option maxHeartbeats 4000000
set_option linter.unusedSimpArgs false
set_option linter.unusedVariables false
def flagsOk (n : Int) : Bool := within n 0 31
open Classical in
noncomputable def spFlagsOk : VM.Spec := { modes := [.rd], run := fun | [.int .i64 n] => some (.bool (flagsOk n), []) | _ => none, need := [] }
attribute [go_sem] spFlagsOk
theorem spFlagsOk_in {ins : List V} {r : V} {outs : List V} (h : spFlagsOk.run ins = some (r, outs)) : ∃ (n : Int), ins = [.int .i64 n] ∧ .bool (flagsOk n) = r ∧ outs = [] := by
  unfold spFlagsOk at h
  simp only at h
  split at h
  · rename_i n
    simp only [Option.some.injEq, Prod.mk.injEq] at h
    obtain ⟨h1, h2⟩ := h
    exact ⟨n, rfl, h1, h2.symm⟩
  · cases h
def T_impl_FlagsOk : Hints := ⟨fun _ => none, fun _ => none, fun i => if i = 0 then some [0] else if i = 1 then some [2] else none, fun _ => none⟩
noncomputable def Phi_impl_FlagsOk : Tab := fun f => if f = 40 then some spWithin else none
attribute [go_sem] T_impl_FlagsOk Phi_impl_FlagsOk
theorem phi_impl_FlagsOk : ∀ f sp, Phi_impl_FlagsOk f = some sp → FnOk Try.prog f sp ∧ ∀ n ∈ sp.need, n ∈ ([] : List String) := by
  intro f sp h
  unfold Phi_impl_FlagsOk at h
  by_cases e : f = 40
  · rw [if_pos e] at h; cases h; rw [e]; exact ⟨ok_impl_within, (fun n (h : n ∈ ([] : List String)) => (nomatch h))⟩
  rw [if_neg e] at h
  cases h
theorem ok_impl_FlagsOk : FnOk Try.prog 65 spFlagsOk := by
  refine fn_ok (Φ := Phi_impl_FlagsOk) (T := T_impl_FlagsOk) phi_impl_FlagsOk mixed Try.func65 rfl rfl rfl (by decide) ?_
  intro ins r outs hr hl
  clear hl
  have hs := spFlagsOk_in hr
  clear hr
  obtain ⟨n, rfl, hr, rfl⟩ := hs
  simp only [spFlagsOk, Try.f65, Go.VM.initS]
  simp only [go_sem]
  simp only [fin_mk, finV, resL, resV1, resIn, endA, listIn, Option.some_or, Option.none_or, oneOrTup, go_sem]
  rw [← hr]
  rfl
def T_spec_FlagsOk : Hints := ⟨fun _ => none, fun _ => none, fun i => if i = 0 then some [0] else if i = 1 then some [2] else none, fun _ => none⟩
noncomputable def Phi_spec_FlagsOk : Tab := fun f => if f = 34 then some spWithin else none
attribute [go_sem] T_spec_FlagsOk Phi_spec_FlagsOk
theorem phi_spec_FlagsOk : ∀ f sp, Phi_spec_FlagsOk f = some sp → FnOk Try.prog f sp ∧ ∀ n ∈ sp.need, n ∈ ([] : List String) := by
  intro f sp h
  unfold Phi_spec_FlagsOk at h
  by_cases e : f = 34
  · rw [if_pos e] at h; cases h; rw [e]; exact ⟨ok_spec_l01In, (fun n (h : n ∈ ([] : List String)) => (nomatch h))⟩
  rw [if_neg e] at h
  cases h
theorem ok_spec_FlagsOk : FnOk Try.prog 51 spFlagsOk := by
  refine fn_ok (Φ := Phi_spec_FlagsOk) (T := T_spec_FlagsOk) phi_spec_FlagsOk mixed Try.func51 rfl rfl rfl (by decide) ?_
  intro ins r outs hr hl
  clear hl
  have hs := spFlagsOk_in hr
  clear hr
  obtain ⟨n, rfl, hr, rfl⟩ := hs
  simp only [spFlagsOk, Try.f51, Go.VM.initS]
  simp only [go_sem]
  simp only [fin_mk, finV, resL, resV1, resIn, endA, listIn, Option.some_or, Option.none_or, oneOrTup, go_sem]
  rw [← hr]
  rfl
theorem ok_internal_bytealg_IndexByteString : FnOk Try.prog 78 spIndexByte :=
  indexByte_ext Try.func78 (by kernel_rfl) (by kernel_rfl) (by kernel_rfl) (by kernel_rfl)
def T_internal_stringslite_IndexByte : Hints := ⟨fun _ => none, fun _ => none, fun i => if i = 0 then some [0, 1] else if i = 1 then some [4] else none, fun _ => none⟩
noncomputable def Phi_internal_stringslite_IndexByte : Tab := fun f => if f = 78 then some spIndexByte else none
attribute [go_sem] T_internal_stringslite_IndexByte Phi_internal_stringslite_IndexByte
theorem phi_internal_stringslite_IndexByte : ∀ f sp, Phi_internal_stringslite_IndexByte f = some sp → FnOk Try.prog f sp ∧ ∀ n ∈ sp.need, n ∈ ([] : List String) := by
  intro f sp h
  unfold Phi_internal_stringslite_IndexByte at h
  by_cases e : f = 78
  · rw [if_pos e] at h; cases h; rw [e]; exact ⟨ok_internal_bytealg_IndexByteString, (fun n (h : n ∈ ([] : List String)) => (nomatch h))⟩
  rw [if_neg e] at h
  cases h
theorem ok_internal_stringslite_IndexByte : FnOk Try.prog 77 spIndexByte := by
  refine fn_ok (Φ := Phi_internal_stringslite_IndexByte) (T := T_internal_stringslite_IndexByte) phi_internal_stringslite_IndexByte mixed Try.func77 rfl rfl rfl (by decide) ?_
  intro ins r outs hr hl
  clear hl
  have hs := spIndexByte_in hr
  clear hr
  obtain ⟨s, c, rfl, hr, rfl⟩ := hs
  simp only [spIndexByte, Try.f77, Go.VM.initS]
  simp only [go_sem]
  simp only [fin_mk, finV, resL, resV1, resIn, endA, listIn, Option.some_or, Option.none_or, oneOrTup, go_sem]
  rw [← hr]
def T_strings_IndexByte : Hints := ⟨fun _ => none, fun _ => none, fun i => if i = 0 then some [0, 1] else if i = 1 then some [4] else none, fun _ => none⟩
noncomputable def Phi_strings_IndexByte : Tab := fun f => if f = 77 then some spIndexByte else none
attribute [go_sem] T_strings_IndexByte Phi_strings_IndexByte
theorem phi_strings_IndexByte : ∀ f sp, Phi_strings_IndexByte f = some sp → FnOk Try.prog f sp ∧ ∀ n ∈ sp.need, n ∈ ([] : List String) := by
  intro f sp h
  unfold Phi_strings_IndexByte at h
  by_cases e : f = 77
  · rw [if_pos e] at h; cases h; rw [e]; exact ⟨ok_internal_stringslite_IndexByte, (fun n (h : n ∈ ([] : List String)) => (nomatch h))⟩
  rw [if_neg e] at h
  cases h
theorem ok_strings_IndexByte : FnOk Try.prog 73 spIndexByte := by
  refine fn_ok (Φ := Phi_strings_IndexByte) (T := T_strings_IndexByte) phi_strings_IndexByte mixed Try.func73 rfl rfl rfl (by decide) ?_
  intro ins r outs hr hl
  clear hl
  have hs := spIndexByte_in hr
  clear hr
  obtain ⟨s, c, rfl, hr, rfl⟩ := hs
  simp only [spIndexByte, Try.f73, Go.VM.initS]
  simp only [go_sem]
  simp only [fin_mk, finV, resL, resV1, resIn, endA, listIn, Option.some_or, Option.none_or, oneOrTup, go_sem]
  rw [← hr]
def mailOk (s : List UInt8) : Bool := within s.length 1 200 && !s.contains 0
open Classical in
noncomputable def spMailOk : VM.Spec := { modes := [.rd], run := fun | [.str s] => if s.length ≤ 4194304 then some (.bool (mailOk s), []) else none | _ => none, need := [] }
attribute [go_sem] spMailOk
theorem spMailOk_in {ins : List V} {r : V} {outs : List V} (h : spMailOk.run ins = some (r, outs)) : ∃ (s : (List UInt8)), ins = [.str s] ∧ (s.length ≤ 4194304) ∧ .bool (mailOk s) = r ∧ outs = [] := by
  unfold spMailOk at h
  simp only at h
  split at h
  · rename_i s
    split at h
    case isFalse => cases h
    rename_i hc
    simp only [Option.some.injEq, Prod.mk.injEq] at h
    obtain ⟨h1, h2⟩ := h
    exact ⟨s, rfl, hc, h1, h2.symm⟩
  · cases h
def T_impl_MailOk : Hints := ⟨fun _ => none, fun _ => none, fun i => if i = 0 then some [0] else if i = 1 then some [2] else none, fun _ => none⟩
noncomputable def Phi_impl_MailOk : Tab := fun f => if f = 40 then some spWithin else if f = 73 then some spIndexByte else none
attribute [go_sem] T_impl_MailOk Phi_impl_MailOk
theorem phi_impl_MailOk : ∀ f sp, Phi_impl_MailOk f = some sp → FnOk Try.prog f sp ∧ ∀ n ∈ sp.need, n ∈ ([] : List String) := by
  intro f sp h
  unfold Phi_impl_MailOk at h
  by_cases e : f = 40
  · rw [if_pos e] at h; cases h; rw [e]; exact ⟨ok_impl_within, (fun n (h : n ∈ ([] : List String)) => (nomatch h))⟩
  rw [if_neg e] at h
  by_cases e : f = 73
  · rw [if_pos e] at h; cases h; rw [e]; exact ⟨ok_strings_IndexByte, (fun n (h : n ∈ ([] : List String)) => (nomatch h))⟩
  rw [if_neg e] at h
  cases h
theorem ok_impl_MailOk : FnOk Try.prog 66 spMailOk := by
  refine fn_ok (Φ := Phi_impl_MailOk) (T := T_impl_MailOk) phi_impl_MailOk mixed Try.func66 rfl rfl rfl (by decide) ?_
  intro ins r outs hr hl
  clear hl
  have hs := spMailOk_in hr
  clear hr
  obtain ⟨s, rfl, hc, hr, rfl⟩ := hs
  simp only [spMailOk, Try.f66, Go.VM.initS]
  have e : decide (Lib.indexByte s (Nat.toUInt8 0) < 0) = !s.contains 0 := by
    by_cases hm : (0 : UInt8) ∈ s
    · have : ¬ Lib.indexByte s 0 < 0 := fun h => (indexByte_neg s 0).1 h hm
      simp [this, hm]
    · have := (indexByte_neg s 0).2 hm
      simp [this, hm]
  simp only [e, go_sem]
  repeat' ((first | apply qa | apply qb | apply qc | apply qd | apply qe | apply qf | apply qg | apply qh | apply qi | apply qj | apply qk) <;> intro hp <;> simp only [hp, e, go_sem])
  all_goals (simp only [fin_mk, finV, resL, resV1, resIn, endA, listIn, Option.some_or, Option.none_or, oneOrTup, go_sem]; rw [← hr])
  all_goals simp only [mailOk, hp, Bool.true_and, Bool.false_and]
def T_spec_MailOk : Hints := ⟨fun _ => none, fun i => if i = 2 then some [0, 3] else none, fun i => if i = 0 then some [0] else if i = 1 then some [0, 3] else if i = 2 then some [0, 3, 7] else if i = 4 then some [0, 3, 13] else if i = 5 then some [2] else if i = 3 then some [0, 3] else if i = 6 then some [2] else none, fun _ => none⟩
noncomputable def Phi_spec_MailOk : Tab := fun f => if f = 34 then some spWithin else none
attribute [go_sem] T_spec_MailOk Phi_spec_MailOk
theorem phi_spec_MailOk : ∀ f sp, Phi_spec_MailOk f = some sp → FnOk Try.prog f sp ∧ ∀ n ∈ sp.need, n ∈ ([] : List String) := by
  intro f sp h
  unfold Phi_spec_MailOk at h
  by_cases e : f = 34
  · rw [if_pos e] at h; cases h; rw [e]; exact ⟨ok_spec_l01In, (fun n (h : n ∈ ([] : List String)) => (nomatch h))⟩
  rw [if_neg e] at h
  cases h
theorem ok_spec_MailOk : FnOk Try.prog 52 spMailOk := by
  refine fn_ok (Φ := Phi_spec_MailOk) (T := T_spec_MailOk) phi_spec_MailOk mixed Try.func52 rfl rfl rfl (by decide) ?_
  intro ins r outs hr hl
  clear hl
  have hs := spMailOk_in hr
  clear hr
  obtain ⟨s, rfl, hc, hr, rfl⟩ := hs
  simp only [spMailOk, Try.f52, Go.VM.initS]
  simp only [go_sem]
  refine loop_go (fun i : Nat => [(3, .int .i64 (i : Int))]) (fun _ => []) (fun i => s.length - i) (fun i => i ≤ s.length ∧ (s.take i).contains 0 = false) 0 ⟨Nat.zero_le _, by simp⟩ rfl rfl ?_
  intro i ⟨hi, ha⟩ ih
  rcases Nat.lt_or_ge i s.length with h | h
  · have g1 : (i : Int) < s.length := by omega
    have g2 : (0 : Int) ≤ i := by omega
    have g3 : s[i]? = some s[i] := List.getElem?_eq_getElem h
    have g5 := wrap_succ h (by omega)
    by_cases hz : s[i] = 0
    · have e : ((s[i].toNat : Int) == 0) = true := by rw [hz]; rfl
      simp only [g1, g2, g3, g5, e, go_sem]
      repeat' ((first | apply qa | apply qb | apply qc | apply qd | apply qe | apply qf | apply qg | apply qh | apply qi | apply qj | apply qk) <;> intro hp <;> simp only [hp, g1, g2, g3, g5, e, go_sem])
      simp only [fin_mk, finV, resL, resV1, resIn, endA, listIn, Option.some_or, Option.none_or, oneOrTup, go_sem]
      rw [← hr]
      have : s.contains 0 = true := by rw [List.contains_iff_mem]; exact hz ▸ List.getElem_mem h
      rw [mailOk, this, Bool.not_true, Bool.and_false]
    · have e : ((s[i].toNat : Int) == 0) = false := by
        rw [beq_eq_false_iff_ne]
        intro hh
        exact hz (UInt8.toNat_inj.1 (by simpa using hh))
      simp only [g1, g2, g3, g5, e, go_sem]
      repeat' ((first | apply qa | apply qb | apply qc | apply qd | apply qe | apply qf | apply qg | apply qh | apply qi | apply qj | apply qk) <;> intro hp <;> simp only [hp, g1, g2, g3, g5, e, go_sem])
      refine ih (i + 1) ⟨h, ?_⟩ (by omega)
      rw [take_succ' h]
      simp only [List.contains_eq_mem, List.mem_append, List.mem_singleton, decide_eq_false_iff_not, not_or] at ha ⊢
      exact ⟨ha, fun hh => hz hh.symm⟩
  · have g1 : ¬ (i : Int) < s.length := by omega
    simp only [g1, go_sem]
    simp only [fin_mk, finV, resL, resV1, resIn, endA, listIn, Option.some_or, Option.none_or, oneOrTup, go_sem]
    rw [← hr]
    rw [List.take_of_length_le h] at ha
    rw [mailOk, ha, Bool.not_false, Bool.and_true]
def rangeAt (x : List Range) (i : Nat) : Bool := within (x.getD i default).Lo 1 9999 && within (x.getD i default).Hi (x.getD i default).Lo 9999 && (i == 0 || decide ((x.getD (i - 1) default).Hi + 1 < (x.getD i default).Lo))
def setOk (x : List Range) : Bool := allN x.length (rangeAt x) && decide (x.length ≤ 40)
theorem rangeAt_hi {x : List Range} {i : Nat} (h : i < x.length) (hb : rangeAt x i = true) : 1 ≤ x[i].Lo ∧ x[i].Lo ≤ x[i].Hi ∧ x[i].Hi ≤ 9999 := by
  simp only [rangeAt, getD_lt h, Bool.and_eq_true, within, decide_eq_true_eq] at hb
  omega
open Classical in
noncomputable def spSetOk : VM.Spec := { modes := [.rd], run := fun | [.lst 2 x'] => (decL Range.dec x').bind fun x => if x.length ≤ 4194304 then some (.bool (setOk x), []) else none | _ => none, need := [] }
attribute [go_sem] spSetOk
theorem spSetOk_in {ins : List V} {r : V} {outs : List V} (h : spSetOk.run ins = some (r, outs)) : ∃ (x : (List Range)), ins = [.lst 2 ((x).map Range.enc)] ∧ (x.length ≤ 4194304) ∧ .bool (setOk x) = r ∧ outs = [] := by
  unfold spSetOk at h
  simp only at h
  split at h
  · rename_i x'
    simp only [Option.bind_eq_some_iff] at h
    obtain ⟨x, h_x, h⟩ := h
    split at h
    case isFalse => cases h
    rename_i hc
    simp only [Option.some.injEq, Prod.mk.injEq] at h
    obtain ⟨h1, h2⟩ := h
    have h_x := decL_some (fun _ _ h => Range.dec_some h) h_x
    subst h_x
    exact ⟨x, rfl, hc, h1, h2.symm⟩
  · cases h
end Go.Proofs.Ytdnafggminbalaa.L

namespace Go.Proofs.Ytdnafggminbalaa.L
open Go Go.VM
set_option maxRecDepth 100000
set_option maxHeartbeats 4000000
set_option linter.unusedSimpArgs false
set_option linter.unusedVariables false
def lineOk (x : Line) : Bool :=
  if x.Kind = 1 then within x.Num 0 30 && (x.Uid == 0 && x.Flags == 0 && x.Mod == 0 && x.Set.isEmpty && !x.All)
  else if x.Kind = 2 then within x.Num 1 30 && (x.Uid == 0 && x.Flags == 0 && x.Mod == 0 && x.Set.isEmpty && !x.All)
  else if x.Kind = 3 then within x.Num 1 30 && within x.Uid 1 9999 && flagsOk x.Flags && within x.Mod 1 100000 && (x.Set.isEmpty && !x.All)
  else if x.Kind = 4 then setOk x.Set && !x.Set.isEmpty && (x.Num == 0 && x.Uid == 0 && x.Flags == 0 && x.Mod == 0 && !x.All)
  else if x.Kind = 5 then within x.Num 1 9999 && within x.Mod 1 100000 && (x.Uid == 0 && x.Flags == 0 && x.Set.isEmpty)
  else if x.Kind = 6 then setOk x.Set && (x.Num == 0 && x.Uid == 0 && x.Flags == 0 && x.Mod == 0 && !x.All)
  else if x.Kind = 8 then within x.Num 1 9 && (x.Uid == 0 && x.Flags == 0 && x.Mod == 0 && x.Set.isEmpty && !x.All)
  else if x.Kind = 7 ∨ x.Kind = 9 then x.Num == 0 && x.Uid == 0 && x.Flags == 0 && x.Mod == 0 && x.Set.isEmpty && !x.All
  else false
theorem setOk_nil : setOk [] = true := rfl
theorem setOk_ne {S : List Range} (h : setOk S = false) : ¬ S = [] := by rintro rfl; cases h
open Classical in
noncomputable def spLineOk : VM.Spec := { modes := [.rd], run := fun | [x'] => (Line.dec x').bind fun x => if x.le 4194304 then some (.bool (lineOk x), []) else none | _ => none, need := [] }
attribute [go_sem] spLineOk
theorem spLineOk_in {ins : List V} {r : V} {outs : List V} (h : spLineOk.run ins = some (r, outs)) : ∃ (x : Line), ins = [Line.enc x] ∧ (x.le 4194304) ∧ .bool (lineOk x) = r ∧ outs = [] := by
  unfold spLineOk at h
  simp only at h
  split at h
  · rename_i x'
    simp only [Option.bind_eq_some_iff] at h
    obtain ⟨x, h_x, h⟩ := h
    split at h
    case isFalse => cases h
    rename_i hc
    simp only [Option.some.injEq, Prod.mk.injEq] at h
    obtain ⟨h1, h2⟩ := h
    have h_x := Line.dec_some h_x
    subst h_x
    exact ⟨x, rfl, hc, h1, h2.symm⟩
  · cases h
end Go.Proofs.Ytdnafggminbalaa.L

namespace Go.Proofs.Ytdnafggminbalaa.L
open Go Go.VM
set_option maxRecDepth 100000
set_option maxHeartbeats 4000000
set_option linter.unusedSimpArgs false
set_option linter.unusedVariables false
theorem loop_two {P : Program} {Φ : Tab} {T : Hints} {α β : Type} {c : Code} {k : List Item} {Q : St → Prop} {E : List (Nat × V)} {H : List (Nat × Blk)} {n nt : Nat} {io : List V}
    (ch : α → List (Nat × V)) (hh : α → List (Nat × Blk)) (μ : α → Nat) (I : α → Prop) (n2 : Nat) (E2 : β → List (Nat × V)) (H2 : β → List (Nat × Blk)) (ν : β → Nat) (J : β → Prop) (a : α) (ha : I a) (hE : setE (ch a) E = E) (hH : setH (hh a) H = H)
    (r2 : ∀ x, J x → (∀ y, J y → ν y < ν x → Head (P := P) (Φ := Φ) (T := T) c k ⟨eOf (E2 y), hOf (H2 y), n2, nt, io⟩ Q) → Goes P Φ T (.code c :: .inLoop c :: k) ⟨eOf (E2 x), hOf (H2 x), n2, nt, io⟩ Q)
    (r1 : ∀ x, I x → (∀ y, I y → μ y < μ x → Head (P := P) (Φ := Φ) (T := T) c k (stL E H n nt io (ch y) (hh y)) Q) → (∀ y, J y → Head (P := P) (Φ := Φ) (T := T) c k ⟨eOf (E2 y), hOf (H2 y), n2, nt, io⟩ Q) → Goes P Φ T (.code c :: .inLoop c :: k) (stL E H n nt io (ch x) (hh x)) Q) :
    Head (P := P) (Φ := Φ) (T := T) c k ⟨eOf E, hOf H, n, nt, io⟩ Q :=
  have h2 := loop_ind (P := P) (Φ := Φ) (T := T) (c := c) (k := k) (Q := Q) (fun x => ⟨eOf (E2 x), hOf (H2 x), n2, nt, io⟩) ν J r2
  loop_go ch hh μ I a ha hE hH fun x hx ih => r1 x hx ih h2
theorem bl_trans {a b c : List UInt8} (h1 : Op.bytesLess a b = true) (h2 : Op.bytesLess b c = true) : Op.bytesLess a c = true := by
  simp only [Go.Proofs.bytesLess_eq, decide_eq_true_eq] at *
  exact List.lt_trans h1 h2
theorem bl_irrefl (a : List UInt8) : Op.bytesLess a a = false := by
  rw [Go.Proofs.bytesLess_eq, decide_eq_false_iff_not]
  exact List.lt_irrefl a
theorem bl_asymm {a b : List UInt8} (h : Op.bytesLess a b = true) : Op.bytesLess b a = false := by
  cases h2 : Op.bytesLess b a with
  | false => rfl
  | true => have := bl_trans h h2; rw [bl_irrefl] at this; cases this
theorem bl_ne {a b : List UInt8} (h : Op.bytesLess a b = true) : (a == b) = false ∧ (b == a) = false := by
  have : a ≠ b := fun e => by rw [e, bl_irrefl] at h; cases h
  exact ⟨beq_eq_false_iff_ne.2 this, beq_eq_false_iff_ne.2 this.symm⟩
theorem bl_total {a b : List UInt8} (h1 : Op.bytesLess a b = false) (h2 : (a == b) = false) : Op.bytesLess b a = true := by
  rw [Go.Proofs.bytesLess_eq, decide_eq_false_iff_not] at h1
  rw [Go.Proofs.bytesLess_eq, decide_eq_true_eq]
  rcases Std.le_iff_lt_or_eq.1 (List.not_lt.1 h1) with h | h
  · exact h
  · exact absurd h.symm (beq_eq_false_iff_ne.1 h2)
def Inc (l : List Box) : Prop := ∀ i (h : i + 1 < l.length), Op.bytesLess (l[i]'(by omega)).Name l[i + 1].Name = true
theorem Inc.lt {l : List Box} (h : Inc l) : ∀ {i j : Nat} (hij : i < j) (hj : j < l.length), Op.bytesLess (l[i]'(by omega)).Name l[j].Name = true := by
  intro i j hij
  induction j with
  | zero => omega
  | succ j ih =>
    intro hj
    rcases Nat.lt_or_ge i j with h1 | h1
    · exact bl_trans (ih h1 (by omega)) (h j hj)
    · have : i = j := by omega
      subst this
      exact h i hj
theorem filter_parts {α : Type} {p : α → Bool} {l : List α} (k : Nat) (h1 : ∀ x ∈ l.take k, p x = true) (h2 : ∀ x ∈ l.drop k, p x = false) : l.filter p = l.take k := by
  conv => lhs; rw [← List.take_append_drop k l]
  rw [List.filter_append, List.filter_eq_self.2 h1, List.filter_eq_nil_iff.2 (fun x hx => by rw [h2 x hx]; simp), List.append_nil]
theorem filter_rest {α : Type} {p : α → Bool} {l : List α} (k : Nat) (h1 : ∀ x ∈ l.take k, p x = false) (h2 : ∀ x ∈ l.drop k, p x = true) : l.filter p = l.drop k := by
  conv => lhs; rw [← List.take_append_drop k l]
  rw [List.filter_append, List.filter_eq_self.2 h2, List.filter_eq_nil_iff.2 (fun x hx => by rw [h1 x hx]; simp), List.nil_append]
theorem mem_take_at {α : Type} {l : List α} {k : Nat} {x : α} (h : x ∈ l.take k) : ∃ (j : Nat) (hj : j < l.length), j < k ∧ x = l[j] := by
  obtain ⟨j, hj, rfl⟩ := List.mem_iff_getElem.1 h
  rw [List.length_take] at hj
  exact ⟨j, by omega, by omega, by rw [List.getElem_take]⟩
theorem mem_drop_at {α : Type} {l : List α} {k : Nat} {x : α} (h : x ∈ l.drop k) : ∃ (j : Nat) (hj : j < l.length), k ≤ j ∧ x = l[j] := by
  obtain ⟨j, hj, rfl⟩ := List.mem_iff_getElem.1 h
  rw [List.length_drop] at hj
  exact ⟨k + j, by omega, by omega, by rw [List.getElem_drop]⟩
theorem filter_del {l : List Box} (h : Inc l) {k : Nat} (hk : k < l.length) {name : List UInt8} (hn : l[k].Name = name) : l.filter (fun b => !(b.Name == name)) = l.take k ++ l.drop (k + 1) := by
  have e : l = l.take k ++ l[k] :: l.drop (k + 1) := by rw [List.getElem_cons_drop, List.take_append_drop]
  have h1 : (l.take k).filter (fun b => !(b.Name == name)) = l.take k := List.filter_eq_self.2 fun x hx => by
    obtain ⟨j, hj, h1, rfl⟩ := mem_take_at hx
    rw [← hn, (bl_ne (h.lt (i := j) (j := k) h1 hk)).1]; rfl
  have h2 : (l.drop (k + 1)).filter (fun b => !(b.Name == name)) = l.drop (k + 1) := List.filter_eq_self.2 fun x hx => by
    obtain ⟨j, hj, h1, rfl⟩ := mem_drop_at hx
    rw [← hn, (bl_ne (h.lt (i := k) (j := j) (by omega) hj)).2]; rfl
  have h3 : (!(l[k].Name == name)) = false := by rw [hn]; simp
  calc l.filter (fun b => !(b.Name == name)) = (l.take k ++ l[k] :: l.drop (k + 1)).filter (fun b => !(b.Name == name)) := by rw [← e]
    _ = l.take k ++ l.drop (k + 1) := by rw [List.filter_append, h1, List.filter_cons, h3, if_neg (by simp), h2]
theorem filter_lt {l : List Box} (h : Inc l) {name : List UInt8} {k : Nat} (h1 : ∀ j (hj : j < l.length), j < k → Op.bytesLess l[j].Name name = true) (h2 : ∀ hk : k < l.length, Op.bytesLess l[k].Name name = false) :
    l.filter (fun b => Op.bytesLess b.Name name) = l.take k := by
  refine filter_parts k (fun x hx => ?_) (fun x hx => ?_)
  · obtain ⟨j, hj, hjk, rfl⟩ := mem_take_at hx
    exact h1 j hj hjk
  · obtain ⟨j, hj, hjk, rfl⟩ := mem_drop_at hx
    have h3 := h2 (by omega)
    rcases Nat.lt_or_ge k j with h4 | h4
    · cases h5 : Op.bytesLess l[j].Name name with
      | false => rfl
      | true => rw [bl_trans (h.lt h4 hj) h5] at h3; cases h3
    · have : j = k := by omega
      subst this; exact h3
theorem filter_gt {l : List Box} (h : Inc l) {name : List UInt8} {k : Nat} (h1 : ∀ j (hj : j < l.length), j < k → Op.bytesLess l[j].Name name = true) (h2 : ∀ hk : k < l.length, Op.bytesLess l[k].Name name = false)
    (hno : ∀ j (hj : j < l.length), (l[j].Name == name) = false) : l.filter (fun b => !(Op.bytesLess b.Name name || b.Name == name)) = l.drop k := by
  refine filter_rest k (fun x hx => ?_) (fun x hx => ?_)
  · obtain ⟨j, hj, hjk, rfl⟩ := mem_take_at hx
    rw [h1 j hj hjk]; rfl
  · obtain ⟨j, hj, hjk, rfl⟩ := mem_drop_at hx
    have h3 := h2 (by omega)
    rw [hno j hj, Bool.or_false]
    rcases Nat.lt_or_ge k j with h4 | h4
    · cases h5 : Op.bytesLess l[j].Name name with
      | false => rfl
      | true => rw [bl_trans (h.lt h4 hj) h5] at h3; cases h3
    · have : j = k := by omega
      subst this; rw [h3]; rfl
end Go.Proofs.Ytdnafggminbalaa.L

namespace Go.Proofs.Ytdnafggminbalaa.L
open Go Go.VM
set_option maxRecDepth 100000
set_option maxHeartbeats 4000000
set_option linter.unusedSimpArgs false
set_option linter.unusedVariables false
structure RBox where
  Name : List UInt8
  Valid : Int
  Next : Int
  Mod : Int
  ma : Option Addr
  mn : Nat
  mc : Nat
  ta : Option Addr
  tn : Nat
  tc : Nat
  Horizon : Int
def RBox.enc (x : RBox) : V := .agg [.str x.Name, .int .i64 x.Valid, .int .i64 x.Next, .int .i64 x.Mod, .raw x.ma x.mn x.mc, .raw x.ta x.tn x.tc, .int .i64 x.Horizon]
def RBox.dec : V → Option RBox
  | .agg [.str x0, .int .i64 x1, .int .i64 x2, .int .i64 x3, .raw a n c, .raw a' n' c', .int .i64 x6] => some ⟨x0, x1, x2, x3, a, n, c, a', n', c', x6⟩
  | _ => none
theorem RBox.dec_enc (x : RBox) : RBox.dec x.enc = some x := rfl
theorem RBox.dec_some {v : V} {x : RBox} (h : RBox.dec v = some x) : v = x.enc := by
  unfold RBox.dec at h
  split at h
  · cases h; rfl
  · cases h
theorem RBox.flat (l : List RBox) : (l.map RBox.enc).all V.flat = true := by
  rw [List.all_eq_true]
  intro v hv
  obtain ⟨x, _, rfl⟩ := List.mem_map.1 hv
  rfl
attribute [go_sem] RBox.flat RBox.dec_enc
theorem decL_RBox (l : List RBox) : decL RBox.dec (l.map RBox.enc) = some l := decL_map RBox.dec_enc l
attribute [go_sem] decL_RBox
theorem of_encs {α : Type} {enc : α → V} : ∀ {R : List V}, (∀ y ∈ R, ∃ x, enc x = y) → ∃ rl : List α, rl.map enc = R
  | [], _ => ⟨[], rfl⟩
  | y :: R, h => by
    obtain ⟨x, hx⟩ := h y (by simp)
    obtain ⟨rl, hr⟩ := of_encs (enc := enc) (R := R) fun z hz => h z (by simp [hz])
    exact ⟨x :: rl, by rw [List.map_cons, hx, hr]⟩
theorem raw_box {l : List Box} {R : List V} {F : Nat → Nat → Value} (h : RawOf (l.map Box.enc) R F) : ∃ rl : List RBox, rl.map RBox.enc = R ∧ rl.length = l.length := by
  obtain ⟨rl, hr⟩ : ∃ rl : List RBox, rl.map RBox.enc = R := by
    refine of_encs fun y hy => ?_
    obtain ⟨i, hi, rfl⟩ := List.mem_iff_getElem.1 hy
    have hi' : i < l.length := by have := h.len; rw [List.length_map] at this; omega
    have h1 : (l.map Box.enc)[i]? = some (Box.enc l[i]) := by simp [hi']
    obtain ⟨a, n, c, h4⟩ := h.lst i _ 4 4 (l[i].Mails.map Mail.enc) h1 rfl
    obtain ⟨a', n', c', h5⟩ := h.lst i _ 5 2 (l[i].Tombs.map Tomb.enc) h1 rfl
    refine ⟨⟨l[i].Name, l[i].Valid, l[i].Next, l[i].Mod, a, n, c, a', n', c', l[i].Horizon⟩, ?_⟩
    have h2 := h.at_ i _ h1
    rw [List.getElem?_eq_getElem hi] at h2
    rw [Option.some.inj h2]
    simp [RBox.enc, Box.enc, rawA, rawC, h4, h5]
  exact ⟨rl, hr, by have := h.len; rw [← hr, List.length_map, List.length_map] at this; exact this⟩
theorem pickL_cut {α : Type} (E : List α) {i j : Nat} (hi : i ≤ E.length) (hj : j ≤ E.length) : pickL (List.range i ++ List.range' j (E.length - j)) E = E.take i ++ E.drop j := by
  have hlt : ∀ k ∈ List.range i ++ List.range' j (E.length - j), k < E.length := by
    intro k hk
    rw [List.mem_append, List.mem_range, List.mem_range'_1] at hk
    omega
  obtain ⟨p1, p2⟩ := pickL_at hlt
  have hl : (List.range i ++ List.range' j (E.length - j)).length = i + (E.length - j) := by simp
  apply List.ext_getElem?
  intro m
  by_cases h3 : m < i + (E.length - j)
  · by_cases hm : m < i
    · have e : (List.range i ++ List.range' j (E.length - j))[m]? = some m := by
        rw [List.getElem?_append_left (by simpa using hm), List.getElem?_range hm]
      rw [p2 m m e, List.getElem?_append_left (by rw [List.length_take]; omega), List.getElem?_take, if_pos hm]
    · have e : (List.range i ++ List.range' j (E.length - j))[m]? = some (j + (m - i)) := by
        rw [List.getElem?_append_right (by simp; omega), List.length_range, List.getElem?_range' (by omega)]
        simp
      rw [p2 m _ e, List.getElem?_append_right (by rw [List.length_take]; omega), List.getElem?_drop, List.length_take, Nat.min_eq_left hi]
  · rw [List.getElem?_eq_none (by rw [p1, hl]; omega), List.getElem?_eq_none (by simp; omega)]
theorem nodup_cut {n i j : Nat} (h : i ≤ j) : (List.range i ++ List.range' j (n - j)).Nodup := by
  rw [List.nodup_append]
  refine ⟨List.nodup_range, List.nodup_range', ?_⟩
  intro a ha b hb
  rw [List.mem_range] at ha
  rw [List.mem_range'_1] at hb
  omega
open Classical in
noncomputable def spDelRBox : VM.Spec := { modes := [.use, .rd, .rd], run := fun | [.lst 7 l', .int .i64 i, .int .i64 j] => (decL RBox.dec l').bind fun l => if l.length ≤ 1000000 ∧ 0 ≤ i ∧ i < j ∧ j ≤ l.length then some (.lst 7 ((l.take i.toNat ++ l.drop j.toNat).map RBox.enc), []) else none | _ => none, need := [] }
attribute [go_sem] spDelRBox
theorem spDelRBox_in {ins : List V} {r : V} {outs : List V} (h : spDelRBox.run ins = some (r, outs)) : ∃ (l : (List RBox)) (i : Int) (j : Int), ins = [.lst 7 ((l).map RBox.enc), .int .i64 i, .int .i64 j] ∧ (l.length ≤ 1000000 ∧ 0 ≤ i ∧ i < j ∧ j ≤ l.length) ∧ .lst 7 ((l.take i.toNat ++ l.drop j.toNat).map RBox.enc) = r ∧ outs = [] := by
  unfold spDelRBox at h
  simp only at h
  split at h
  · rename_i l' i j
    simp only [Option.bind_eq_some_iff] at h
    obtain ⟨l, h_l, h⟩ := h
    split at h
    case isFalse => cases h
    rename_i hc
    simp only [Option.some.injEq, Prod.mk.injEq] at h
    obtain ⟨h1, h2⟩ := h
    have h_l := decL_some (fun _ _ h => RBox.dec_some h) h_l
    subst h_l
    exact ⟨l, i, j, rfl, hc, h1, h2.symm⟩
  · cases h
open Classical in
noncomputable def spDelBox : VM.Spec := { modes := [.use, .rd, .rd], run := fun | [.lst 7 l', .int .i64 i, .int .i64 j] => (decL Box.dec l').bind fun l => if l.length ≤ 1000000 ∧ 0 ≤ i ∧ i < j ∧ j ≤ l.length then some (.lst 7 ((l.take i.toNat ++ l.drop j.toNat).map Box.enc), []) else none | _ => none, need := [] }
attribute [go_sem] spDelBox
theorem spDelBox_in {ins : List V} {r : V} {outs : List V} (h : spDelBox.run ins = some (r, outs)) : ∃ (l : (List Box)) (i : Int) (j : Int), ins = [.lst 7 ((l).map Box.enc), .int .i64 i, .int .i64 j] ∧ (l.length ≤ 1000000 ∧ 0 ≤ i ∧ i < j ∧ j ≤ l.length) ∧ .lst 7 ((l.take i.toNat ++ l.drop j.toNat).map Box.enc) = r ∧ outs = [] := by
  unfold spDelBox at h
  simp only at h
  split at h
  · rename_i l' i j
    simp only [Option.bind_eq_some_iff] at h
    obtain ⟨l, h_l, h⟩ := h
    split at h
    case isFalse => cases h
    rename_i hc
    simp only [Option.some.injEq, Prod.mk.injEq] at h
    obtain ⟨h1, h2⟩ := h
    have h_l := decL_some (fun _ _ h => Box.dec_some h) h_l
    subst h_l
    exact ⟨l, i, j, rfl, hc, h1, h2.symm⟩
  · cases h
theorem del_lift : ∀ ins r outs, spDelBox.run ins = some (r, outs) → ∃ (E : List V) (i j : V) (is : List Nat), ins = [.lst 7 E, i, j] ∧ r = .lst 7 (pickL is E) ∧ outs = [] ∧ is.Nodup ∧ (∀ k ∈ is, k < E.length) ∧
      ∀ R F, RawOf E R F → spDelRBox.run [.lst 7 R, i, j] = some (.lst 7 (pickL is R), []) := by
  intro ins r outs h
  obtain ⟨l, i, j, rfl, ⟨hl, h0, h1, h2⟩, hr, rfl⟩ := spDelBox_in h
  have hi : i.toNat ≤ l.length := by omega
  have hj : j.toNat ≤ l.length := by omega
  refine ⟨l.map Box.enc, .int .i64 i, .int .i64 j, List.range i.toNat ++ List.range' j.toNat (l.length - j.toNat), rfl, ?_, rfl, nodup_cut (by omega), ?_, ?_⟩
  · have := pickL_cut (l.map Box.enc) (i := i.toNat) (j := j.toNat) (by rw [List.length_map]; exact hi) (by rw [List.length_map]; exact hj)
    rw [List.length_map] at this
    rw [this, ← hr, List.map_append, List.map_take, List.map_drop]
  · intro k hk
    rw [List.mem_append, List.mem_range, List.mem_range'_1] at hk
    rw [List.length_map]
    omega
  · intro R F hR
    obtain ⟨rl, rfl, hlen⟩ := raw_box hR
    have := pickL_cut (rl.map RBox.enc) (i := i.toNat) (j := j.toNat) (by rw [List.length_map, hlen]; exact hi) (by rw [List.length_map, hlen]; exact hj)
    rw [List.length_map, hlen] at this
    rw [this]
    simp only [spDelRBox, decL_map RBox.dec_enc, Option.bind_some]
    rw [if_pos ⟨by omega, h0, h1, by omega⟩, List.map_append, List.map_take, List.map_drop]
def T_slices_Delete_loop_example_g00247_impl_Box_loop_example_g00247_impl_Box_R : Hints := ⟨fun i => if i = 5 then some [] else none, fun _ => none, fun i => if i = 0 then some [0, 1, 2] else if i = 1 then some [0, 1, 2] else if i = 2 then some [0, 1, 2, 16] else if i = 3 then some [6] else if i = 4 then some [0, 1, 2, 7] else if i = 5 then some [0, 7] else if i = 6 then some [0] else if i = 7 then some [6] else none, fun _ => none⟩
noncomputable def Phi_slices_Delete_loop_example_g00247_impl_Box_loop_example_g00247_impl_Box_R : Tab := fun f => none
attribute [go_sem] T_slices_Delete_loop_example_g00247_impl_Box_loop_example_g00247_impl_Box_R Phi_slices_Delete_loop_example_g00247_impl_Box_loop_example_g00247_impl_Box_R
theorem phi_slices_Delete_loop_example_g00247_impl_Box_loop_example_g00247_impl_Box_R : ∀ f sp, Phi_slices_Delete_loop_example_g00247_impl_Box_loop_example_g00247_impl_Box_R f = some sp → FnOk Try.prog f sp ∧ ∀ n ∈ sp.need, n ∈ ([] : List String) := by
  intro f sp h
  unfold Phi_slices_Delete_loop_example_g00247_impl_Box_loop_example_g00247_impl_Box_R at h
  cases h
theorem ok_slices_Delete_loop_example_g00247_impl_Box_loop_example_g00247_impl_Box_R : FnOk Try.prog 22 spDelRBox := by
  refine fn_ok (Φ := Phi_slices_Delete_loop_example_g00247_impl_Box_loop_example_g00247_impl_Box_R) (T := T_slices_Delete_loop_example_g00247_impl_Box_loop_example_g00247_impl_Box_R) phi_slices_Delete_loop_example_g00247_impl_Box_loop_example_g00247_impl_Box_R mixed Try.func22 rfl rfl rfl (by decide) ?_
  intro ins r outs hr hl
  clear hl
  have hs := spDelRBox_in hr
  clear hr
  obtain ⟨l, i, j, rfl, hc, hr, rfl⟩ := hs
  simp only [spDelRBox, Try.f22, Go.VM.initS]
  obtain ⟨hl, h0, h1, h2⟩ := hc
  obtain ⟨a, rfl⟩ : ∃ a : Nat, i = a := ⟨i.toNat, by omega⟩
  obtain ⟨b, rfl⟩ : ∃ b : Nat, j = b := ⟨j.toNat, by omega⟩
  have g1 : (a : Int) ≤ b := by omega
  have g2 : a ≤ b := by omega
  have g3 : b ≤ l.length := by omega
  have g4 : ¬ (a : Int) = b := by omega
  have g4' : ((a : Int) == (b : Int)) = false := beq_eq_false_iff_ne.2 g4
  have g8 : a + (l.length - b) ≤ l.length := by omega
  have g9 : b + (l.length - b) ≤ l.length := by omega
  have g10 : (a + (l.length - b)) * 96 ≤ 140737488355328 := by omega
  have g11 : a + (l.length - b) ≤ 9223372036854775807 := by omega
  have g5 : a ≤ l.length := by omega
  have g6 : a < l.length := by omega
  have g7 : 0 < l.length := by omega
  have gb : (layB (List.map RBox.enc l) a (List.map RBox.enc (List.take (l.length - b) (List.drop b l)))).length = l.length := by
    rw [layB_len (by simp only [List.length_map, List.length_take, List.length_drop]; omega), List.length_map]
  have gm : min (a + (l.length - b)) l.length = a + (l.length - b) := by omega
  have gs : a + (l.length - b) + (l.length - (a + (l.length - b))) = l.length := by omega
  have gl : a + (l.length - b) < l.length := by omega
  simp only [gb, gm, gs, gl, g1, g2, g3, g4', g8, g9, g10, g11, Nat.min_self, Nat.min_eq_left g5, take_map, drop_map, g5, g6, g7, h0, Int.natCast_nonneg, Nat.le_refl, List.length_take, List.length_drop, Nat.sub_zero, Nat.zero_le, go_sem]
  repeat' ((first | ((first | apply qa | apply qb | apply qc | apply qd | apply qe | apply qf | apply qg | apply qh | apply qi | apply qj | apply qk) <;> intro hp) | ((first | refine ql rfl rfl (by decide +kernel) ?_ | refine qm _ rfl rfl (by decide +kernel) ?_) <;> have hp := True.intro)) <;> simp only [hp, gb, gm, gs, gl, g1, g2, g3, g4', g8, g9, g10, g11, Nat.min_self, Nat.min_eq_left g5, take_map, drop_map, g5, g6, g7, h0, Int.natCast_nonneg, Nat.le_refl, List.length_take, List.length_drop, Nat.sub_zero, Nat.zero_le, go_sem])
  have ge : (layV (layB (List.map RBox.enc l) a (List.map RBox.enc (List.take (l.length - b) (List.drop b l)))) (a + (l.length - b)) (l.length - (a + (l.length - b))) (V.agg [V.str [], V.int IntKind.i64 0, V.int IntKind.i64 0, V.int IntKind.i64 0, V.lst 4 [], V.lst 2 [], V.int IntKind.i64 0])).take (a + (l.length - b)) = (l.take a ++ l.drop b).map RBox.enc := by
    have e1 : (layB (List.map RBox.enc l) a (List.map RBox.enc (List.take (l.length - b) (List.drop b l)))).take (a + (l.length - b)) = (l.take a ++ l.drop b).map RBox.enc := by
      rw [layB, List.take_append_of_le_length (by simp only [List.length_append, List.length_map, List.length_take, List.length_drop]; omega), List.take_of_length_le (by simp only [List.length_append, List.length_map, List.length_take, List.length_drop]; omega), List.map_append, take_map, List.take_of_length_le (l := List.drop b l) (by rw [List.length_drop]; omega)]
    rw [layV, List.append_assoc, List.take_append_of_le_length (by rw [List.length_take, gb]; omega), List.take_take, Nat.min_self, e1]
  have g12 : (layV (layB (List.map RBox.enc l) a (List.map RBox.enc (List.take (l.length - b) (List.drop b l)))) (a + (l.length - b)) (l.length - (a + (l.length - b))) (V.agg [V.str [], V.int IntKind.i64 0, V.int IntKind.i64 0, V.int IntKind.i64 0, V.lst 4 [], V.lst 2 [], V.int IntKind.i64 0])).length = l.length := by
    rw [layV_len (by rw [gb]; omega), gb]
  simp only [fin_mk, finV, resL, resV1, resIn, endA, listIn, Option.some_or, Option.none_or, oneOrTup, go_sem]
  rw [← hr, ge, if_pos ⟨by rw [g12]; omega, by rw [g12]; omega⟩]; rfl
theorem ok_slices_Delete_loop_example_g00247_impl_Box_loop_example_g00247_impl_Box : FnOk Try.prog 22 spDelBox :=
  lift_pick ok_slices_Delete_loop_example_g00247_impl_Box_loop_example_g00247_impl_Box_R rfl rfl rfl del_lift
end Go.Proofs.Ytdnafggminbalaa.L

namespace Go.Proofs.Ytdnafggminbalaa.L
open Go Go.VM
set_option maxRecDepth 100000
set_option maxHeartbeats 4000000
set_option linter.unusedSimpArgs false
set_option linter.unusedVariables false
def hasMail (l : List Mail) (u : Int) : Bool := l.any (fun x => x.Uid == u)
def hasTomb (l : List Tomb) (u : Int) : Bool := l.any (fun x => x.Uid == u)
open Classical in
noncomputable def spHasMail : VM.Spec := { modes := [.rd, .rd], run := fun | [b', .int .i64 u] => (Box.dec b').bind fun b => if b.le 4194304 then some (.bool (hasMail b.Mails u), []) else none | _ => none, need := [] }
attribute [go_sem] spHasMail
theorem spHasMail_in {ins : List V} {r : V} {outs : List V} (h : spHasMail.run ins = some (r, outs)) : ∃ (b : Box) (u : Int), ins = [Box.enc b, .int .i64 u] ∧ (b.le 4194304) ∧ .bool (hasMail b.Mails u) = r ∧ outs = [] := by
  unfold spHasMail at h
  simp only at h
  split at h
  · rename_i b' u
    simp only [Option.bind_eq_some_iff] at h
    obtain ⟨b, h_b, h⟩ := h
    split at h
    case isFalse => cases h
    rename_i hc
    simp only [Option.some.injEq, Prod.mk.injEq] at h
    obtain ⟨h1, h2⟩ := h
    have h_b := Box.dec_some h_b
    subst h_b
    exact ⟨b, u, rfl, hc, h1, h2.symm⟩
  · cases h
def T_spec_l08HasMail : Hints := ⟨fun _ => none, fun i => if i = 2 then some [1, 2, 5] else none, fun i => if i = 0 then some [1, 2] else if i = 1 then some [1, 2, 5] else if i = 2 then some [1, 2, 5, 10] else if i = 4 then some [1, 2, 5, 20] else if i = 5 then some [4] else if i = 3 then some [1, 2, 5] else if i = 6 then some [4] else none, fun _ => none⟩
noncomputable def Phi_spec_l08HasMail : Tab := fun f => none
attribute [go_sem] T_spec_l08HasMail Phi_spec_l08HasMail
theorem phi_spec_l08HasMail : ∀ f sp, Phi_spec_l08HasMail f = some sp → FnOk Try.prog f sp ∧ ∀ n ∈ sp.need, n ∈ ([] : List String) := by
  intro f sp h
  unfold Phi_spec_l08HasMail at h
  cases h
theorem ok_spec_l08HasMail : FnOk Try.prog 53 spHasMail := by
  refine fn_ok (Φ := Phi_spec_l08HasMail) (T := T_spec_l08HasMail) phi_spec_l08HasMail mixed Try.func53 rfl rfl rfl (by decide) ?_
  intro ins r outs hr hl
  clear hl
  have hs := spHasMail_in hr
  clear hr
  obtain ⟨b, u, rfl, hc, hr, rfl⟩ := hs
  simp only [spHasMail, Try.f53, Go.VM.initS]
  have hl : b.Mails.length ≤ 4194304 := hc.2.1.1
  simp only [go_sem]
  refine loop_go (fun i : Nat => [(5, .int .i64 (i : Int))]) (fun _ => []) (fun i => b.Mails.length - i) (fun i => i ≤ b.Mails.length ∧ (b.Mails.take i).any (fun x => x.Uid == u) = false) 0 ⟨Nat.zero_le _, by simp⟩ rfl rfl ?_
  intro i ⟨hi, ha⟩ ih
  rcases Nat.lt_or_ge i b.Mails.length with h | h
  · have g1 : (i : Int) < b.Mails.length := by omega
    have g2 : (0 : Int) ≤ i := by omega
    have g3 : b.Mails[i]? = some b.Mails[i] := List.getElem?_eq_getElem h
    have g5 := wrap_succ h (by omega)
    cases hb : (b.Mails[i].Uid == u) with
    | true =>
      simp only [g1, g2, g3, g5, hb, go_sem]
      repeat' ((first | apply qa | apply qb | apply qc | apply qd | apply qe | apply qf | apply qg | apply qh | apply qi | apply qj | apply qk) <;> intro hp <;> simp only [hp, g1, g2, g3, g5, hb, go_sem])
      simp only [fin_mk, finV, resL, resV1, resIn, endA, listIn, Option.some_or, Option.none_or, oneOrTup, go_sem]
      rw [← hr]
      rw [hasMail, any_bad h hb]
    | false =>
      simp only [g1, g2, g3, g5, hb, go_sem]
      repeat' ((first | apply qa | apply qb | apply qc | apply qd | apply qe | apply qf | apply qg | apply qh | apply qi | apply qj | apply qk) <;> intro hp <;> simp only [hp, g1, g2, g3, g5, hb, go_sem])
      exact ih (i + 1) ⟨h, any_take_succ h ha hb⟩ (by omega)
  · have g1 : ¬ (i : Int) < b.Mails.length := by omega
    simp only [g1, go_sem]
    simp only [fin_mk, finV, resL, resV1, resIn, endA, listIn, Option.some_or, Option.none_or, oneOrTup, go_sem]
    rw [← hr]
    rw [hasMail, any_take_end h ha]
open Classical in
noncomputable def spMailIs : VM.Spec := { modes := [.rd, .rd], run := fun | [m', .rptr (.int .i64 u)] => (Mail.dec m').bind fun m => some (.bool (m.Uid == u), []) | _ => none, need := [] }
attribute [go_sem] spMailIs
theorem spMailIs_in {ins : List V} {r : V} {outs : List V} (h : spMailIs.run ins = some (r, outs)) : ∃ (m : Mail) (u : Int), ins = [Mail.enc m, .rptr (.int .i64 u)] ∧ .bool (m.Uid == u) = r ∧ outs = [] := by
  unfold spMailIs at h
  simp only at h
  split at h
  · rename_i m' u
    simp only [Option.bind_eq_some_iff] at h
    obtain ⟨m, h_m, h⟩ := h
    simp only [Option.some.injEq, Prod.mk.injEq] at h
    obtain ⟨h1, h2⟩ := h
    have h_m := Mail.dec_some h_m
    subst h_m
    exact ⟨m, u, rfl, h1, h2.symm⟩
  · cases h
def T_impl_mailAt_1 : Hints := ⟨fun _ => none, fun _ => none, fun i => if i = 0 then some [1, 2] else if i = 1 then some [3] else none, fun _ => none⟩
noncomputable def Phi_impl_mailAt_1 : Tab := fun f => none
attribute [go_sem] T_impl_mailAt_1 Phi_impl_mailAt_1
theorem phi_impl_mailAt_1 : ∀ f sp, Phi_impl_mailAt_1 f = some sp → FnOk Try.prog f sp ∧ ∀ n ∈ sp.need, n ∈ ([] : List String) := by
  intro f sp h
  unfold Phi_impl_mailAt_1 at h
  cases h
theorem ok_impl_mailAt_1 : FnOk Try.prog 76 spMailIs := by
  refine fn_ok (Φ := Phi_impl_mailAt_1) (T := T_impl_mailAt_1) phi_impl_mailAt_1 mixed Try.func76 rfl rfl rfl (by decide) ?_
  intro ins r outs hr hl
  clear hl
  have hs := spMailIs_in hr
  clear hr
  obtain ⟨m, u, rfl, hr, rfl⟩ := hs
  simp only [spMailIs, Try.f76, Go.VM.initS]
  simp only [go_sem]
  simp only [fin_mk, finV, resL, resV1, resIn, endA, listIn, Option.some_or, Option.none_or, oneOrTup, go_sem]
  rw [← hr]
open Classical in
noncomputable def spIdxMail : VM.Spec := { modes := [.rd, .rd], run := fun | [.lst 4 l', .fn 76 [.rptr (.int .i64 u)]] => (decL Mail.dec l').bind fun l => if l.length ≤ 4194304 then some (.int .i64 (idxL (fun x => x.Uid == u) l), []) else none | _ => none, need := [] }
attribute [go_sem] spIdxMail
theorem spIdxMail_in {ins : List V} {r : V} {outs : List V} (h : spIdxMail.run ins = some (r, outs)) : ∃ (l : (List Mail)) (u : Int), ins = [.lst 4 ((l).map Mail.enc), .fn 76 [.rptr (.int .i64 u)]] ∧ (l.length ≤ 4194304) ∧ .int .i64 (idxL (fun x => x.Uid == u) l) = r ∧ outs = [] := by
  unfold spIdxMail at h
  simp only at h
  split at h
  · rename_i l' u
    simp only [Option.bind_eq_some_iff] at h
    obtain ⟨l, h_l, h⟩ := h
    split at h
    case isFalse => cases h
    rename_i hc
    simp only [Option.some.injEq, Prod.mk.injEq] at h
    obtain ⟨h1, h2⟩ := h
    have h_l := decL_some (fun _ _ h => Mail.dec_some h) h_l
    subst h_l
    exact ⟨l, u, rfl, hc, h1, h2.symm⟩
  · cases h
def T_slices_IndexFunc_loop_example_g00247_impl_Mail_loop_example_g00247_impl_Mail : Hints := ⟨fun _ => none, fun i => if i = 2 then some [0, 1, 7, 8] else none, fun i => if i = 0 then some [0, 1] else if i = 1 then some [0, 1, 7, 8] else if i = 2 then some [0, 1, 7, 8, 9] else if i = 3 then some [0, 1, 5, 7, 8] else if i = 4 then some [0, 1, 5, 7, 8, 16] else if i = 5 then some [4] else if i = 6 then some [0, 1, 7, 8] else if i = 7 then some [4] else none, fun _ => none⟩
noncomputable def Phi_slices_IndexFunc_loop_example_g00247_impl_Mail_loop_example_g00247_impl_Mail : Tab := fun f => if f = 76 then some spMailIs else none
attribute [go_sem] T_slices_IndexFunc_loop_example_g00247_impl_Mail_loop_example_g00247_impl_Mail Phi_slices_IndexFunc_loop_example_g00247_impl_Mail_loop_example_g00247_impl_Mail
theorem phi_slices_IndexFunc_loop_example_g00247_impl_Mail_loop_example_g00247_impl_Mail : ∀ f sp, Phi_slices_IndexFunc_loop_example_g00247_impl_Mail_loop_example_g00247_impl_Mail f = some sp → FnOk Try.prog f sp ∧ ∀ n ∈ sp.need, n ∈ ([] : List String) := by
  intro f sp h
  unfold Phi_slices_IndexFunc_loop_example_g00247_impl_Mail_loop_example_g00247_impl_Mail at h
  by_cases e : f = 76
  · rw [if_pos e] at h; cases h; rw [e]; exact ⟨ok_impl_mailAt_1, (fun n (h : n ∈ ([] : List String)) => (nomatch h))⟩
  rw [if_neg e] at h
  cases h
theorem ok_slices_IndexFunc_loop_example_g00247_impl_Mail_loop_example_g00247_impl_Mail : FnOk Try.prog 75 spIdxMail := by
  refine fn_ok (Φ := Phi_slices_IndexFunc_loop_example_g00247_impl_Mail_loop_example_g00247_impl_Mail) (T := T_slices_IndexFunc_loop_example_g00247_impl_Mail_loop_example_g00247_impl_Mail) phi_slices_IndexFunc_loop_example_g00247_impl_Mail_loop_example_g00247_impl_Mail mixed Try.func75 rfl rfl rfl (by decide) ?_
  intro ins r outs hr hl
  clear hl
  have hs := spIdxMail_in hr
  clear hr
  obtain ⟨l, u, rfl, hc, hr, rfl⟩ := hs
  simp only [spIdxMail, Try.f75, Go.VM.initS]
  simp only [go_sem]
  refine loop_go (fun i : Nat => [(8, .int .i64 (i : Int))]) (fun _ => []) (fun i => l.length - i) (fun i => i ≤ l.length ∧ ∀ j (hj : j < i) (hl : j < l.length), (fun x => x.Uid == u) l[j] = false) 0 ⟨Nat.zero_le _, fun j hj => absurd hj (by omega)⟩ rfl rfl ?_
  intro i ⟨hi, ha⟩ ih
  rcases Nat.lt_or_ge i l.length with h | h
  · have g1 : (i : Int) < l.length := by omega
    have g2 : (0 : Int) ≤ i := by omega
    have g3 : l[i]? = some l[i] := List.getElem?_eq_getElem h
    have g5 := wrap_succ h (by omega)
    cases hb : (fun x => x.Uid == u) l[i] with
    | true =>
      simp only [g1, g2, g3, g5, hb, go_sem]
      repeat' ((first | apply qa | apply qb | apply qc | apply qd | apply qe | apply qf | apply qg | apply qh | apply qi | apply qj | apply qk) <;> intro hp <;> simp only [hp, g1, g2, g3, g5, hb, go_sem])
      simp only [fin_mk, finV, resL, resV1, resIn, endA, listIn, Option.some_or, Option.none_or, oneOrTup, go_sem]
      rw [← hr]
      rw [idxL_hit h (fun j hj => ha j hj (by omega)) hb]
    | false =>
      simp only [g1, g2, g3, g5, hb, go_sem]
      repeat' ((first | apply qa | apply qb | apply qc | apply qd | apply qe | apply qf | apply qg | apply qh | apply qi | apply qj | apply qk) <;> intro hp <;> simp only [hp, g1, g2, g3, g5, hb, go_sem])
      refine ih (i + 1) ⟨h, fun j hj hl => ?_⟩ (by omega)
      rcases Nat.lt_or_ge j i with h1 | h1
      · exact ha j h1 hl
      · have : j = i := by omega
        subst this; exact hb
  · have g1 : ¬ (i : Int) < l.length := by omega
    simp only [g1, go_sem]
    simp only [fin_mk, finV, resL, resV1, resIn, endA, listIn, Option.some_or, Option.none_or, oneOrTup, go_sem]
    rw [← hr]
    rw [idxL_miss fun j hj => ha j (by omega) hj]
open Classical in
noncomputable def spMailAt : VM.Spec := { modes := [.rd, .rd], run := fun | [b', .int .i64 u] => (Box.dec b').bind fun b => if b.le 4194304 then some (.int .i64 (idxL (fun x => x.Uid == u) b.Mails), []) else none | _ => none, need := [] }
attribute [go_sem] spMailAt
theorem spMailAt_in {ins : List V} {r : V} {outs : List V} (h : spMailAt.run ins = some (r, outs)) : ∃ (b : Box) (u : Int), ins = [Box.enc b, .int .i64 u] ∧ (b.le 4194304) ∧ .int .i64 (idxL (fun x => x.Uid == u) b.Mails) = r ∧ outs = [] := by
  unfold spMailAt at h
  simp only at h
  split at h
  · rename_i b' u
    simp only [Option.bind_eq_some_iff] at h
    obtain ⟨b, h_b, h⟩ := h
    split at h
    case isFalse => cases h
    rename_i hc
    simp only [Option.some.injEq, Prod.mk.injEq] at h
    obtain ⟨h1, h2⟩ := h
    have h_b := Box.dec_some h_b
    subst h_b
    exact ⟨b, u, rfl, hc, h1, h2.symm⟩
  · cases h
def T_impl_mailAt : Hints := ⟨fun _ => none, fun _ => none, fun i => if i = 0 then some [2, 3] else if i = 1 then some [4] else none, fun _ => none⟩
noncomputable def Phi_impl_mailAt : Tab := fun f => if f = 75 then some spIdxMail else none
attribute [go_sem] T_impl_mailAt Phi_impl_mailAt
theorem phi_impl_mailAt : ∀ f sp, Phi_impl_mailAt f = some sp → FnOk Try.prog f sp ∧ ∀ n ∈ sp.need, n ∈ ([] : List String) := by
  intro f sp h
  unfold Phi_impl_mailAt at h
  by_cases e : f = 75
  · rw [if_pos e] at h; cases h; rw [e]; exact ⟨ok_slices_IndexFunc_loop_example_g00247_impl_Mail_loop_example_g00247_impl_Mail, (fun n (h : n ∈ ([] : List String)) => (nomatch h))⟩
  rw [if_neg e] at h
  cases h
theorem ok_impl_mailAt : FnOk Try.prog 69 spMailAt := by
  refine fn_ok (Φ := Phi_impl_mailAt) (T := T_impl_mailAt) phi_impl_mailAt mixed Try.func69 rfl rfl rfl (by decide) ?_
  intro ins r outs hr hl
  clear hl
  have hs := spMailAt_in hr
  clear hr
  obtain ⟨b, u, rfl, hc, hr, rfl⟩ := hs
  simp only [spMailAt, Try.f69, Go.VM.initS]
  have hl : b.Mails.length ≤ 4194304 := hc.2.1.1
  simp only [hl, go_sem]
  simp only [fin_mk, finV, resL, resV1, resIn, endA, listIn, Option.some_or, Option.none_or, oneOrTup, go_sem]
  rw [← hr]
open Classical in
noncomputable def spTombIs : VM.Spec := { modes := [.rd, .rd], run := fun | [x', .rptr (t')] => (Tomb.dec x').bind fun x => (Tomb.dec t').bind fun t => some (.bool (x.Uid == t.Uid), []) | _ => none, need := [] }
attribute [go_sem] spTombIs
theorem spTombIs_in {ins : List V} {r : V} {outs : List V} (h : spTombIs.run ins = some (r, outs)) : ∃ (x : Tomb) (t : Tomb), ins = [Tomb.enc x, .rptr (Tomb.enc t)] ∧ .bool (x.Uid == t.Uid) = r ∧ outs = [] := by
  unfold spTombIs at h
  simp only at h
  split at h
  · rename_i x' t'
    simp only [Option.bind_eq_some_iff] at h
    obtain ⟨x, h_x, t, h_t, h⟩ := h
    simp only [Option.some.injEq, Prod.mk.injEq] at h
    obtain ⟨h1, h2⟩ := h
    have h_x := Tomb.dec_some h_x
    subst h_x
    have h_t := Tomb.dec_some h_t
    subst h_t
    exact ⟨x, t, rfl, h1, h2.symm⟩
  · cases h
def T_impl_tombsOk_1 : Hints := ⟨fun _ => none, fun _ => none, fun i => if i = 0 then some [1, 2] else if i = 1 then some [3] else none, fun _ => none⟩
noncomputable def Phi_impl_tombsOk_1 : Tab := fun f => none
attribute [go_sem] T_impl_tombsOk_1 Phi_impl_tombsOk_1
theorem phi_impl_tombsOk_1 : ∀ f sp, Phi_impl_tombsOk_1 f = some sp → FnOk Try.prog f sp ∧ ∀ n ∈ sp.need, n ∈ ([] : List String) := by
  intro f sp h
  unfold Phi_impl_tombsOk_1 at h
  cases h
theorem ok_impl_tombsOk_1 : FnOk Try.prog 68 spTombIs := by
  refine fn_ok (Φ := Phi_impl_tombsOk_1) (T := T_impl_tombsOk_1) phi_impl_tombsOk_1 mixed Try.func68 rfl rfl rfl (by decide) ?_
  intro ins r outs hr hl
  clear hl
  have hs := spTombIs_in hr
  clear hr
  obtain ⟨x, t, rfl, hr, rfl⟩ := hs
  simp only [spTombIs, Try.f68, Go.VM.initS]
  simp only [go_sem]
  simp only [fin_mk, finV, resL, resV1, resIn, endA, listIn, Option.some_or, Option.none_or, oneOrTup, go_sem]
  rw [← hr]
open Classical in
noncomputable def spIdxTomb : VM.Spec := { modes := [.rd, .rd], run := fun | [.lst 2 l', .fn 68 [.rptr (t')]] => (decL Tomb.dec l').bind fun l => (Tomb.dec t').bind fun t => if l.length ≤ 4194304 then some (.int .i64 (idxL (fun x => x.Uid == t.Uid) l), []) else none | _ => none, need := [] }
attribute [go_sem] spIdxTomb
theorem spIdxTomb_in {ins : List V} {r : V} {outs : List V} (h : spIdxTomb.run ins = some (r, outs)) : ∃ (l : (List Tomb)) (t : Tomb), ins = [.lst 2 ((l).map Tomb.enc), .fn 68 [.rptr (Tomb.enc t)]] ∧ (l.length ≤ 4194304) ∧ .int .i64 (idxL (fun x => x.Uid == t.Uid) l) = r ∧ outs = [] := by
  unfold spIdxTomb at h
  simp only at h
  split at h
  · rename_i l' t'
    simp only [Option.bind_eq_some_iff] at h
    obtain ⟨l, h_l, t, h_t, h⟩ := h
    split at h
    case isFalse => cases h
    rename_i hc
    simp only [Option.some.injEq, Prod.mk.injEq] at h
    obtain ⟨h1, h2⟩ := h
    have h_l := decL_some (fun _ _ h => Tomb.dec_some h) h_l
    subst h_l
    have h_t := Tomb.dec_some h_t
    subst h_t
    exact ⟨l, t, rfl, hc, h1, h2.symm⟩
  · cases h
def T_slices_IndexFunc_loop_example_g00247_impl_Tomb_loop_example_g00247_impl_Tomb : Hints := ⟨fun _ => none, fun i => if i = 2 then some [0, 1, 7, 8] else none, fun i => if i = 0 then some [0, 1] else if i = 1 then some [0, 1, 7, 8] else if i = 2 then some [0, 1, 7, 8, 9] else if i = 3 then some [0, 1, 5, 7, 8] else if i = 4 then some [0, 1, 5, 7, 8, 16] else if i = 5 then some [4] else if i = 6 then some [0, 1, 7, 8] else if i = 7 then some [4] else none, fun _ => none⟩
noncomputable def Phi_slices_IndexFunc_loop_example_g00247_impl_Tomb_loop_example_g00247_impl_Tomb : Tab := fun f => if f = 68 then some spTombIs else none
attribute [go_sem] T_slices_IndexFunc_loop_example_g00247_impl_Tomb_loop_example_g00247_impl_Tomb Phi_slices_IndexFunc_loop_example_g00247_impl_Tomb_loop_example_g00247_impl_Tomb
theorem phi_slices_IndexFunc_loop_example_g00247_impl_Tomb_loop_example_g00247_impl_Tomb : ∀ f sp, Phi_slices_IndexFunc_loop_example_g00247_impl_Tomb_loop_example_g00247_impl_Tomb f = some sp → FnOk Try.prog f sp ∧ ∀ n ∈ sp.need, n ∈ ([] : List String) := by
  intro f sp h
  unfold Phi_slices_IndexFunc_loop_example_g00247_impl_Tomb_loop_example_g00247_impl_Tomb at h
  by_cases e : f = 68
  · rw [if_pos e] at h; cases h; rw [e]; exact ⟨ok_impl_tombsOk_1, (fun n (h : n ∈ ([] : List String)) => (nomatch h))⟩
  rw [if_neg e] at h
  cases h
theorem ok_slices_IndexFunc_loop_example_g00247_impl_Tomb_loop_example_g00247_impl_Tomb : FnOk Try.prog 74 spIdxTomb := by
  refine fn_ok (Φ := Phi_slices_IndexFunc_loop_example_g00247_impl_Tomb_loop_example_g00247_impl_Tomb) (T := T_slices_IndexFunc_loop_example_g00247_impl_Tomb_loop_example_g00247_impl_Tomb) phi_slices_IndexFunc_loop_example_g00247_impl_Tomb_loop_example_g00247_impl_Tomb mixed Try.func74 rfl rfl rfl (by decide) ?_
  intro ins r outs hr hl
  clear hl
  have hs := spIdxTomb_in hr
  clear hr
  obtain ⟨l, t, rfl, hc, hr, rfl⟩ := hs
  simp only [spIdxTomb, Try.f74, Go.VM.initS]
  simp only [go_sem]
  refine loop_go (fun i : Nat => [(8, .int .i64 (i : Int))]) (fun _ => []) (fun i => l.length - i) (fun i => i ≤ l.length ∧ ∀ j (hj : j < i) (hl : j < l.length), (fun x => x.Uid == t.Uid) l[j] = false) 0 ⟨Nat.zero_le _, fun j hj => absurd hj (by omega)⟩ rfl rfl ?_
  intro i ⟨hi, ha⟩ ih
  rcases Nat.lt_or_ge i l.length with h | h
  · have g1 : (i : Int) < l.length := by omega
    have g2 : (0 : Int) ≤ i := by omega
    have g3 : l[i]? = some l[i] := List.getElem?_eq_getElem h
    have g5 := wrap_succ h (by omega)
    cases hb : (fun x => x.Uid == t.Uid) l[i] with
    | true =>
      simp only [g1, g2, g3, g5, hb, go_sem]
      repeat' ((first | apply qa | apply qb | apply qc | apply qd | apply qe | apply qf | apply qg | apply qh | apply qi | apply qj | apply qk) <;> intro hp <;> simp only [hp, g1, g2, g3, g5, hb, go_sem])
      simp only [fin_mk, finV, resL, resV1, resIn, endA, listIn, Option.some_or, Option.none_or, oneOrTup, go_sem]
      rw [← hr]
      rw [idxL_hit h (fun j hj => ha j hj (by omega)) hb]
    | false =>
      simp only [g1, g2, g3, g5, hb, go_sem]
      repeat' ((first | apply qa | apply qb | apply qc | apply qd | apply qe | apply qf | apply qg | apply qh | apply qi | apply qj | apply qk) <;> intro hp <;> simp only [hp, g1, g2, g3, g5, hb, go_sem])
      refine ih (i + 1) ⟨h, fun j hj hl => ?_⟩ (by omega)
      rcases Nat.lt_or_ge j i with h1 | h1
      · exact ha j h1 hl
      · have : j = i := by omega
        subst this; exact hb
  · have g1 : ¬ (i : Int) < l.length := by omega
    simp only [g1, go_sem]
    simp only [fin_mk, finV, resL, resV1, resIn, endA, listIn, Option.some_or, Option.none_or, oneOrTup, go_sem]
    rw [← hr]
    rw [idxL_miss fun j hj => ha j (by omega) hj]
open Classical in
noncomputable def spHasTomb : VM.Spec := { modes := [.rd, .rd], run := fun | [.lst 2 l', .fn 68 [.rptr (t')]] => (decL Tomb.dec l').bind fun l => (Tomb.dec t').bind fun t => if l.length ≤ 4194304 then some (.bool (hasTomb l t.Uid), []) else none | _ => none, need := [] }
attribute [go_sem] spHasTomb
theorem spHasTomb_in {ins : List V} {r : V} {outs : List V} (h : spHasTomb.run ins = some (r, outs)) : ∃ (l : (List Tomb)) (t : Tomb), ins = [.lst 2 ((l).map Tomb.enc), .fn 68 [.rptr (Tomb.enc t)]] ∧ (l.length ≤ 4194304) ∧ .bool (hasTomb l t.Uid) = r ∧ outs = [] := by
  unfold spHasTomb at h
  simp only at h
  split at h
  · rename_i l' t'
    simp only [Option.bind_eq_some_iff] at h
    obtain ⟨l, h_l, t, h_t, h⟩ := h
    split at h
    case isFalse => cases h
    rename_i hc
    simp only [Option.some.injEq, Prod.mk.injEq] at h
    obtain ⟨h1, h2⟩ := h
    have h_l := decL_some (fun _ _ h => Tomb.dec_some h) h_l
    subst h_l
    have h_t := Tomb.dec_some h_t
    subst h_t
    exact ⟨l, t, rfl, hc, h1, h2.symm⟩
  · cases h
def T_slices_ContainsFunc_loop_example_g00247_impl_Tomb_loop_example_g00247_impl_Tomb : Hints := ⟨fun _ => none, fun _ => none, fun i => if i = 0 then some [0, 1] else if i = 1 then some [4] else none, fun _ => none⟩
noncomputable def Phi_slices_ContainsFunc_loop_example_g00247_impl_Tomb_loop_example_g00247_impl_Tomb : Tab := fun f => if f = 74 then some spIdxTomb else none
attribute [go_sem] T_slices_ContainsFunc_loop_example_g00247_impl_Tomb_loop_example_g00247_impl_Tomb Phi_slices_ContainsFunc_loop_example_g00247_impl_Tomb_loop_example_g00247_impl_Tomb
theorem phi_slices_ContainsFunc_loop_example_g00247_impl_Tomb_loop_example_g00247_impl_Tomb : ∀ f sp, Phi_slices_ContainsFunc_loop_example_g00247_impl_Tomb_loop_example_g00247_impl_Tomb f = some sp → FnOk Try.prog f sp ∧ ∀ n ∈ sp.need, n ∈ ([] : List String) := by
  intro f sp h
  unfold Phi_slices_ContainsFunc_loop_example_g00247_impl_Tomb_loop_example_g00247_impl_Tomb at h
  by_cases e : f = 74
  · rw [if_pos e] at h; cases h; rw [e]; exact ⟨ok_slices_IndexFunc_loop_example_g00247_impl_Tomb_loop_example_g00247_impl_Tomb, (fun n (h : n ∈ ([] : List String)) => (nomatch h))⟩
  rw [if_neg e] at h
  cases h
theorem ok_slices_ContainsFunc_loop_example_g00247_impl_Tomb_loop_example_g00247_impl_Tomb : FnOk Try.prog 67 spHasTomb := by
  refine fn_ok (Φ := Phi_slices_ContainsFunc_loop_example_g00247_impl_Tomb_loop_example_g00247_impl_Tomb) (T := T_slices_ContainsFunc_loop_example_g00247_impl_Tomb_loop_example_g00247_impl_Tomb) phi_slices_ContainsFunc_loop_example_g00247_impl_Tomb_loop_example_g00247_impl_Tomb mixed Try.func67 rfl rfl rfl (by decide) ?_
  intro ins r outs hr hl
  clear hl
  have hs := spHasTomb_in hr
  clear hr
  obtain ⟨l, t, rfl, hc, hr, rfl⟩ := hs
  simp only [spHasTomb, Try.f67, Go.VM.initS]
  have e : decide ((0 : Int) ≤ idxL (fun x => x.Uid == t.Uid) l) = hasTomb l t.Uid := idxL_any _ l
  simp only [e, hc, go_sem]
  simp only [fin_mk, finV, resL, resV1, resIn, endA, listIn, Option.some_or, Option.none_or, oneOrTup, go_sem]
  rw [← hr]
def mailAtOk (b : Box) (i : Nat) : Bool := within (b.Mails.getD i default).Uid 1 (b.Next - 1) && (i == 0 || decide ((b.Mails.getD (i - 1) default).Uid < (b.Mails.getD i default).Uid)) && flagsOk (b.Mails.getD i default).Flags && within (b.Mails.getD i default).Mod 1 b.Mod && mailOk (b.Mails.getD i default).Text
def tombIn (b : Box) (i : Nat) : Bool := within (b.Tombs.getD i default).Uid 1 (b.Next - 1) && within (b.Tombs.getD i default).Mod (b.Horizon + 1) b.Mod && !hasTomb (b.Tombs.take i) (b.Tombs.getD i default).Uid && !hasMail b.Mails (b.Tombs.getD i default).Uid
def tombOrd (b : Box) (i : Nat) : Bool := i == 0 || !(decide ((b.Tombs.getD i default).Mod < (b.Tombs.getD (i - 1) default).Mod) || ((b.Tombs.getD (i - 1) default).Mod == (b.Tombs.getD i default).Mod && decide ((b.Tombs.getD i default).Uid ≤ (b.Tombs.getD (i - 1) default).Uid)))
def tombAtOk (b : Box) (i : Nat) : Bool := tombIn b i && tombOrd b i
def mailsOk (b : Box) : Bool := allN b.Mails.length (mailAtOk b) && decide (b.Mails.length ≤ 30)
def tombsOk (b : Box) : Bool := allN b.Tombs.length (tombAtOk b) && decide (b.Tombs.length ≤ 40)
def numsOk (b : Box) : Bool := within b.Valid 1 9999 && within b.Next 1 9999 && within b.Mod 1 100000 && within b.Horizon 0 b.Mod
def boxOk (b : Box) : Bool := boxName b.Name && numsOk b && mailsOk b && tombsOk b
theorem numsOk_next {b : Box} (h : numsOk b = true) : (1 ≤ b.Next ∧ b.Next ≤ 9999) ∧ (0 ≤ b.Horizon ∧ b.Horizon ≤ b.Mod ∧ b.Mod ≤ 100000) := by
  simp only [numsOk, within, Bool.and_eq_true, decide_eq_true_eq] at h
  omega
open Classical in
noncomputable def spMailsOk : VM.Spec := { modes := [.rd], run := fun | [b'] => (Box.dec b').bind fun b => if b.le 4194304 ∧ numsOk b = true then some (.bool (mailsOk b), []) else none | _ => none, need := [] }
attribute [go_sem] spMailsOk
theorem spMailsOk_in {ins : List V} {r : V} {outs : List V} (h : spMailsOk.run ins = some (r, outs)) : ∃ (b : Box), ins = [Box.enc b] ∧ (b.le 4194304 ∧ numsOk b = true) ∧ .bool (mailsOk b) = r ∧ outs = [] := by
  unfold spMailsOk at h
  simp only at h
  split at h
  · rename_i b'
    simp only [Option.bind_eq_some_iff] at h
    obtain ⟨b, h_b, h⟩ := h
    split at h
    case isFalse => cases h
    rename_i hc
    simp only [Option.some.injEq, Prod.mk.injEq] at h
    obtain ⟨h1, h2⟩ := h
    have h_b := Box.dec_some h_b
    subst h_b
    exact ⟨b, rfl, hc, h1, h2.symm⟩
  · cases h
def T_impl_mailsOk : Hints := ⟨fun i => if i = 4 then some [] else none, fun i => if i = 2 then some [1, 6, 7, 8] else none, fun i => if i = 0 then some [1] else if i = 1 then some [1, 6, 7, 8] else if i = 2 then some [1, 6, 7, 8, 9] else if i = 3 then some [1, 3, 4, 6, 7, 8] else if i = 4 then some [1, 6, 7, 8, 55] else if i = 5 then some [2] else if i = 6 then some [1, 6, 7, 8] else if i = 7 then some [2] else none, fun _ => none⟩
noncomputable def Phi_impl_mailsOk : Tab := fun f => if f = 40 then some spWithin else if f = 65 then some spFlagsOk else if f = 66 then some spMailOk else none
attribute [go_sem] T_impl_mailsOk Phi_impl_mailsOk
theorem phi_impl_mailsOk : ∀ f sp, Phi_impl_mailsOk f = some sp → FnOk Try.prog f sp ∧ ∀ n ∈ sp.need, n ∈ ([] : List String) := by
  intro f sp h
  unfold Phi_impl_mailsOk at h
  by_cases e : f = 40
  · rw [if_pos e] at h; cases h; rw [e]; exact ⟨ok_impl_within, (fun n (h : n ∈ ([] : List String)) => (nomatch h))⟩
  rw [if_neg e] at h
  by_cases e : f = 65
  · rw [if_pos e] at h; cases h; rw [e]; exact ⟨ok_impl_FlagsOk, (fun n (h : n ∈ ([] : List String)) => (nomatch h))⟩
  rw [if_neg e] at h
  by_cases e : f = 66
  · rw [if_pos e] at h; cases h; rw [e]; exact ⟨ok_impl_MailOk, (fun n (h : n ∈ ([] : List String)) => (nomatch h))⟩
  rw [if_neg e] at h
  cases h
theorem ok_impl_mailsOk : FnOk Try.prog 57 spMailsOk := by
  refine fn_ok (Φ := Phi_impl_mailsOk) (T := T_impl_mailsOk) phi_impl_mailsOk mixed Try.func57 rfl rfl rfl (by decide) ?_
  intro ins r outs hr hl
  clear hl
  have hs := spMailsOk_in hr
  clear hr
  obtain ⟨b, rfl, hc, hr, rfl⟩ := hs
  simp only [spMailsOk, Try.f57, Go.VM.initS]
  obtain ⟨hc, hn⟩ := hc
  have hl : b.Mails.length ≤ 4194304 := hc.2.1.1
  have hmt : ∀ m ∈ b.Mails, m.Text.length ≤ 4194304 := hc.2.1.2
  have hnn := numsOk_next hn
  have hn1 : IntKind.i64.wrap (b.Next - 1) = b.Next - 1 := wrap64 (by omega) (by omega)
  simp only [go_sem]
  refine loop_go (fun i : Nat => [(8, .int .i64 (i : Int))]) (fun _ => []) (fun i => b.Mails.length - i) (fun i => i ≤ b.Mails.length ∧ ∀ j, j < i → mailAtOk b j = true) 0 ⟨Nat.zero_le _, fun j hj => absurd hj (by omega)⟩ rfl rfl ?_
  intro i ⟨hi, ha⟩ ih
  rcases Nat.lt_or_ge i b.Mails.length with h | h
  · have g1 : (i : Int) < b.Mails.length := by omega
    have g2 : (0 : Int) ≤ i := by omega
    have g3 : b.Mails[i]? = some b.Mails[i] := List.getElem?_eq_getElem h
    have g5 := wrap_succ h (by omega)
    have gt : b.Mails[i].Text.length ≤ 4194304 := hmt _ (List.getElem_mem h)
    simp only [g1, g2, g3, go_sem]
    refine goes_valD 55 V.bool (!mailAtOk b i) rfl rfl rfl (by decide +kernel) ?_ ?_
    · intro G hG
      clear ih hr ha
      rcases Nat.eq_zero_or_pos i with h0 | h0
      · have k1 : ¬ (0 : Int) < i := by omega
        have g6 : mailAtOk b i = (within b.Mails[i].Uid 1 (b.Next - 1) && flagsOk b.Mails[i].Flags && within b.Mails[i].Mod 1 b.Mod && mailOk b.Mails[i].Text) := by
          have : (i == 0) = true := by simp [h0]
          simp only [mailAtOk, getD_lt h, this, Bool.true_or, Bool.and_true]
        simp only [g1, g2, g3, k1, hn1, gt, go_sem]
        repeat' ((first | ((first | apply qa | apply qb | apply qc | apply qd | apply qe | apply qf | apply qg | apply qh | apply qi | apply qj | apply qk) <;> intro hp) | ((first | refine ql rfl rfl (by decide +kernel) ?_ | refine qm _ rfl rfl (by decide +kernel) ?_) <;> have hp := True.intro)) <;> simp only [hp, g1, g2, g3, k1, hn1, gt, go_sem])
        all_goals ((first | refine hG _ ?_ | (simp only [*] at hG; refine hG _ ?_)); clear hG; rw [g6]; simp_all)
      · have k1 : (0 : Int) < i := by omega
        have k2 := wrap_pred h0 (by omega)
        have k3 : (0 : Int) ≤ ((i - 1 : Nat) : Int) := by omega
        have k4 : ((i - 1 : Nat) : Int) < b.Mails.length := by omega
        have k5 : b.Mails[i - 1]? = some (b.Mails[i - 1]'(by omega)) := List.getElem?_eq_getElem (by omega)
        have g6 : mailAtOk b i = (within b.Mails[i].Uid 1 (b.Next - 1) && decide ((b.Mails[i - 1]'(by omega)).Uid < b.Mails[i].Uid) && flagsOk b.Mails[i].Flags && within b.Mails[i].Mod 1 b.Mod && mailOk b.Mails[i].Text) := by
          have : (i == 0) = false := by simp; omega
          simp only [mailAtOk, getD_lt h, getD_lt (show i - 1 < b.Mails.length by omega), this, Bool.false_or]
        rcases Int.lt_or_le (b.Mails[i - 1]'(by omega)).Uid b.Mails[i].Uid with q | q
        · have q' : ¬ b.Mails[i].Uid ≤ (b.Mails[i - 1]'(by omega)).Uid := by omega
          simp only [g1, g2, g3, k1, k2, k3, k4, k5, q', hn1, gt, go_sem]
          repeat' ((first | ((first | apply qa | apply qb | apply qc | apply qd | apply qe | apply qf | apply qg | apply qh | apply qi | apply qj | apply qk) <;> intro hp) | ((first | refine ql rfl rfl (by decide +kernel) ?_ | refine qm _ rfl rfl (by decide +kernel) ?_) <;> have hp := True.intro)) <;> simp only [hp, g1, g2, g3, k1, k2, k3, k4, k5, q', hn1, gt, go_sem])
          all_goals ((first | refine hG _ ?_ | (simp only [*] at hG; refine hG _ ?_)); clear hG k2 k5; rw [g6, decide_eq_true q]; simp_all)
        · have q' : ¬ (b.Mails[i - 1]'(by omega)).Uid < b.Mails[i].Uid := by omega
          simp only [g1, g2, g3, k1, k2, k3, k4, k5, q, hn1, gt, go_sem]
          repeat' ((first | ((first | apply qa | apply qb | apply qc | apply qd | apply qe | apply qf | apply qg | apply qh | apply qi | apply qj | apply qk) <;> intro hp) | ((first | refine ql rfl rfl (by decide +kernel) ?_ | refine qm _ rfl rfl (by decide +kernel) ?_) <;> have hp := True.intro)) <;> simp only [hp, g1, g2, g3, k1, k2, k3, k4, k5, q, hn1, gt, go_sem])
          all_goals ((first | refine hG _ ?_ | (simp only [*] at hG; refine hG _ ?_)); clear hG k2 k5; rw [g6, decide_eq_false q']; simp_all)
    · simp only [g5, go_sem]
      repeat' ((first | ((first | apply qa | apply qb | apply qc | apply qd | apply qe | apply qf | apply qg | apply qh | apply qi | apply qj | apply qk) <;> intro hp) | ((first | refine ql rfl rfl (by decide +kernel) ?_ | refine qm _ rfl rfl (by decide +kernel) ?_) <;> have hp := True.intro)) <;> simp only [hp, g5, go_sem])
      · simp only [fin_mk, finV, resL, resV1, resIn, endA, listIn, Option.some_or, Option.none_or, oneOrTup, go_sem]
        rw [← hr]
        rw [mailsOk, allN_bad h hp]; rfl
      · exact ih (i + 1) ⟨h, all_succ ha hp⟩ (by omega)
  · have g1 : ¬ (i : Int) < b.Mails.length := by omega
    simp only [g1, go_sem]
    simp only [fin_mk, finV, resL, resV1, resIn, endA, listIn, Option.some_or, Option.none_or, oneOrTup, go_sem]
    rw [← hr]
    rw [mailsOk, allN_all h ha, Bool.true_and]
    congr 2
    simp
    omega
open Classical in
noncomputable def spTombsOk : VM.Spec := { modes := [.rd], run := fun | [b'] => (Box.dec b').bind fun b => if b.le 4194304 ∧ numsOk b = true then some (.bool (tombsOk b), []) else none | _ => none, need := [] }
attribute [go_sem] spTombsOk
theorem spTombsOk_in {ins : List V} {r : V} {outs : List V} (h : spTombsOk.run ins = some (r, outs)) : ∃ (b : Box), ins = [Box.enc b] ∧ (b.le 4194304 ∧ numsOk b = true) ∧ .bool (tombsOk b) = r ∧ outs = [] := by
  unfold spTombsOk at h
  simp only at h
  split at h
  · rename_i b'
    simp only [Option.bind_eq_some_iff] at h
    obtain ⟨b, h_b, h⟩ := h
    split at h
    case isFalse => cases h
    rename_i hc
    simp only [Option.some.injEq, Prod.mk.injEq] at h
    obtain ⟨h1, h2⟩ := h
    have h_b := Box.dec_some h_b
    subst h_b
    exact ⟨b, rfl, hc, h1, h2.symm⟩
  · cases h
def T_impl_tombsOk : Hints := ⟨fun i => if i = 7 then some [] else if i = 5 then some [] else none, fun i => if i = 2 then some [1, 7, 8, 9] else none, fun i => if i = 0 then some [1] else if i = 1 then some [1, 7, 8, 9] else if i = 2 then some [1, 7, 8, 9, 10] else if i = 3 then some [1, 3, 4, 7, 8, 9] else if i = 4 then some [1, 3, 4, 5, 7, 8, 9] else if i = 5 then some [1, 3, 4, 7, 8, 9, 47] else if i = 6 then some [2] else if i = 7 then some [1, 7, 8, 9, 85] else if i = 8 then some [2] else if i = 9 then some [1, 7, 8, 9] else if i = 10 then some [2] else none, fun _ => none⟩
noncomputable def Phi_impl_tombsOk : Tab := fun f => if f = 40 then some spWithin else if f = 67 then some spHasTomb else if f = 69 then some spMailAt else none
attribute [go_sem] T_impl_tombsOk Phi_impl_tombsOk
theorem phi_impl_tombsOk : ∀ f sp, Phi_impl_tombsOk f = some sp → FnOk Try.prog f sp ∧ ∀ n ∈ sp.need, n ∈ ([] : List String) := by
  intro f sp h
  unfold Phi_impl_tombsOk at h
  by_cases e : f = 40
  · rw [if_pos e] at h; cases h; rw [e]; exact ⟨ok_impl_within, (fun n (h : n ∈ ([] : List String)) => (nomatch h))⟩
  rw [if_neg e] at h
  by_cases e : f = 67
  · rw [if_pos e] at h; cases h; rw [e]; exact ⟨ok_slices_ContainsFunc_loop_example_g00247_impl_Tomb_loop_example_g00247_impl_Tomb, (fun n (h : n ∈ ([] : List String)) => (nomatch h))⟩
  rw [if_neg e] at h
  by_cases e : f = 69
  · rw [if_pos e] at h; cases h; rw [e]; exact ⟨ok_impl_mailAt, (fun n (h : n ∈ ([] : List String)) => (nomatch h))⟩
  rw [if_neg e] at h
  cases h
theorem ok_impl_tombsOk : FnOk Try.prog 58 spTombsOk := by
  refine fn_ok (Φ := Phi_impl_tombsOk) (T := T_impl_tombsOk) phi_impl_tombsOk mixed Try.func58 rfl rfl rfl (by decide) ?_
  intro ins r outs hr hl
  clear hl
  have hs := spTombsOk_in hr
  clear hr
  obtain ⟨b, rfl, hc, hr, rfl⟩ := hs
  simp only [spTombsOk, Try.f58, Go.VM.initS]
  obtain ⟨hc, hn⟩ := hc
  have hl : b.Tombs.length ≤ 4194304 := hc.2.2.1
  have hnn := numsOk_next hn
  have hn1 : IntKind.i64.wrap (b.Next - 1) = b.Next - 1 := wrap64 (by omega) (by omega)
  have hn2 : IntKind.i64.wrap (b.Horizon + 1) = b.Horizon + 1 := wrap64 (by omega) (by omega)
  simp only [go_sem]
  refine loop_go (fun i : Nat => [(9, .int .i64 (i : Int))]) (fun _ => []) (fun i => b.Tombs.length - i) (fun i => i ≤ b.Tombs.length ∧ ∀ j, j < i → tombAtOk b j = true) 0 ⟨Nat.zero_le _, fun j hj => absurd hj (by omega)⟩ rfl rfl ?_
  intro i ⟨hi, ha⟩ ih
  rcases Nat.lt_or_ge i b.Tombs.length with h | h
  · have g1 : (i : Int) < b.Tombs.length := by omega
    have g2 : (0 : Int) ≤ i := by omega
    have g3 : b.Tombs[i]? = some b.Tombs[i] := List.getElem?_eq_getElem h
    have g4 : i ≤ b.Tombs.length := hi
    have g5 := wrap_succ h (by omega)
    have gl : (b.Tombs.take i).length ≤ 4194304 := by rw [List.length_take]; omega
    have gm : decide ((0 : Int) ≤ idxL (fun x => x.Uid == b.Tombs[i].Uid) b.Mails) = hasMail b.Mails b.Tombs[i].Uid := idxL_any _ _
    simp only [g1, g2, g3, g4, gl, Nat.zero_le, go_sem]
    refine goes_val 47 V.bool (!tombIn b i) rfl rfl ?_ ?_
    · intro G hG
      clear ih hr ha
      have g6 : tombIn b i = (within b.Tombs[i].Uid 1 (b.Next - 1) && within b.Tombs[i].Mod (b.Horizon + 1) b.Mod && !hasTomb (b.Tombs.take i) b.Tombs[i].Uid && !hasMail b.Mails b.Tombs[i].Uid) := by
        simp only [tombIn, getD_lt h]
      simp only [hn1, hn2, hc, gm, go_sem]
      repeat' ((first | ((first | apply qa | apply qb | apply qc | apply qd | apply qe | apply qf | apply qg | apply qh | apply qi | apply qj | apply qk) <;> intro hp) | ((first | refine ql rfl rfl (by decide +kernel) ?_ | refine qm _ rfl rfl (by decide +kernel) ?_) <;> have hp := True.intro)) <;> simp only [hp, hn1, hn2, hc, gm, go_sem])
      all_goals ((first | refine hG _ ?_ | (simp only [*] at hG; refine hG _ ?_)); clear hG; rw [g6]; simp_all)
    simp only [go_sem]
    refine condG_not.2 ⟨fun hq => ?_, fun hq => ?_⟩
    · simp only [go_sem]
      simp only [fin_mk, finV, resL, resV1, resIn, endA, listIn, Option.some_or, Option.none_or, oneOrTup, go_sem]
      rw [← hr]
      rw [tombsOk, allN_bad h (by rw [tombAtOk, hq]; rfl)]; rfl
    simp only [go_sem]
    refine goes_valD 85 V.bool (!tombOrd b i) rfl rfl rfl (by decide +kernel) ?_ ?_
    · intro G hG
      clear ih hr ha
      rcases Nat.eq_zero_or_pos i with h0 | h0
      · have k1 : ¬ (0 : Int) < i := by omega
        have g6 : tombOrd b i = true := by
          have : (i == 0) = true := by simp [h0]
          simp only [tombOrd, this, Bool.true_or]
        simp only [g1, g2, g3, k1, go_sem]
        repeat' ((first | ((first | apply qa | apply qb | apply qc | apply qd | apply qe | apply qf | apply qg | apply qh | apply qi | apply qj | apply qk) <;> intro hp) | ((first | refine ql rfl rfl (by decide +kernel) ?_ | refine qm _ rfl rfl (by decide +kernel) ?_) <;> have hp := True.intro)) <;> simp only [hp, g1, g2, g3, k1, go_sem])
        all_goals (refine hG _ ?_; rw [g6]; rfl)
      · have k1 : (0 : Int) < i := by omega
        have k2 := wrap_pred h0 (by omega)
        have k3 : (0 : Int) ≤ ((i - 1 : Nat) : Int) := by omega
        have k4 : ((i - 1 : Nat) : Int) < b.Tombs.length := by omega
        have k5 : b.Tombs[i - 1]? = some (b.Tombs[i - 1]'(by omega)) := List.getElem?_eq_getElem (by omega)
        have g6 : tombOrd b i = !(decide (b.Tombs[i].Mod < (b.Tombs[i - 1]'(by omega)).Mod) || ((b.Tombs[i - 1]'(by omega)).Mod == b.Tombs[i].Mod && decide (b.Tombs[i].Uid ≤ (b.Tombs[i - 1]'(by omega)).Uid))) := by
          have : (i == 0) = false := by simp; omega
          simp only [tombOrd, getD_lt h, getD_lt (show i - 1 < b.Tombs.length by omega), this, Bool.false_or]
        simp only [g1, g2, g3, k1, k2, k3, k4, k5, go_sem]
        repeat' ((first | ((first | apply qa | apply qb | apply qc | apply qd | apply qe | apply qf | apply qg | apply qh | apply qi | apply qj | apply qk) <;> intro hp) | ((first | refine ql rfl rfl (by decide +kernel) ?_ | refine qm _ rfl rfl (by decide +kernel) ?_) <;> have hp := True.intro)) <;> simp only [hp, g1, g2, g3, k1, k2, k3, k4, k5, go_sem])
        all_goals ((first | refine hG _ ?_ | (simp only [*] at hG; refine hG _ ?_)); clear hG k2 k5; rw [g6]; simp_all)
    · simp only [g5, go_sem]
      repeat' ((first | ((first | apply qa | apply qb | apply qc | apply qd | apply qe | apply qf | apply qg | apply qh | apply qi | apply qj | apply qk) <;> intro hp) | ((first | refine ql rfl rfl (by decide +kernel) ?_ | refine qm _ rfl rfl (by decide +kernel) ?_) <;> have hp := True.intro)) <;> simp only [hp, g5, go_sem])
      · simp only [fin_mk, finV, resL, resV1, resIn, endA, listIn, Option.some_or, Option.none_or, oneOrTup, go_sem]
        rw [← hr]
        rw [tombsOk, allN_bad h (by rw [tombAtOk, hq, hp]; rfl)]; rfl
      · exact ih (i + 1) ⟨h, all_succ ha (by rw [tombAtOk, hq, hp]; rfl)⟩ (by omega)
  · have g1 : ¬ (i : Int) < b.Tombs.length := by omega
    simp only [g1, go_sem]
    simp only [fin_mk, finV, resL, resV1, resIn, endA, listIn, Option.some_or, Option.none_or, oneOrTup, go_sem]
    rw [← hr]
    rw [tombsOk, allN_all h ha, Bool.true_and]
    congr 2
    simp
    omega
open Classical in
noncomputable def spBoxOk : VM.Spec := { modes := [.rd], run := fun | [b'] => (Box.dec b').bind fun b => if b.le 4194304 then some (.bool (boxOk b), []) else none | _ => none, need := [] }
attribute [go_sem] spBoxOk
theorem spBoxOk_in {ins : List V} {r : V} {outs : List V} (h : spBoxOk.run ins = some (r, outs)) : ∃ (b : Box), ins = [Box.enc b] ∧ (b.le 4194304) ∧ .bool (boxOk b) = r ∧ outs = [] := by
  unfold spBoxOk at h
  simp only at h
  split at h
  · rename_i b'
    simp only [Option.bind_eq_some_iff] at h
    obtain ⟨b, h_b, h⟩ := h
    split at h
    case isFalse => cases h
    rename_i hc
    simp only [Option.some.injEq, Prod.mk.injEq] at h
    obtain ⟨h1, h2⟩ := h
    have h_b := Box.dec_some h_b
    subst h_b
    exact ⟨b, rfl, hc, h1, h2.symm⟩
  · cases h
def T_impl_BoxOk : Hints := ⟨fun i => if i = 1 then some [] else none, fun _ => none, fun i => if i = 0 then some [1] else if i = 1 then some [1, 3] else if i = 2 then some [2] else none, fun _ => none⟩
noncomputable def Phi_impl_BoxOk : Tab := fun f => if f = 56 then some spUid else if f = 40 then some spWithin else if f = 28 then some spBoxName else if f = 57 then some spMailsOk else if f = 58 then some spTombsOk else none
attribute [go_sem] T_impl_BoxOk Phi_impl_BoxOk
theorem phi_impl_BoxOk : ∀ f sp, Phi_impl_BoxOk f = some sp → FnOk Try.prog f sp ∧ ∀ n ∈ sp.need, n ∈ ([] : List String) := by
  intro f sp h
  unfold Phi_impl_BoxOk at h
  by_cases e : f = 56
  · rw [if_pos e] at h; cases h; rw [e]; exact ⟨ok_impl_isUid, (fun n (h : n ∈ ([] : List String)) => (nomatch h))⟩
  rw [if_neg e] at h
  by_cases e : f = 40
  · rw [if_pos e] at h; cases h; rw [e]; exact ⟨ok_impl_within, (fun n (h : n ∈ ([] : List String)) => (nomatch h))⟩
  rw [if_neg e] at h
  by_cases e : f = 28
  · rw [if_pos e] at h; cases h; rw [e]; exact ⟨ok_impl_BoxName, (fun n (h : n ∈ ([] : List String)) => (nomatch h))⟩
  rw [if_neg e] at h
  by_cases e : f = 57
  · rw [if_pos e] at h; cases h; rw [e]; exact ⟨ok_impl_mailsOk, (fun n (h : n ∈ ([] : List String)) => (nomatch h))⟩
  rw [if_neg e] at h
  by_cases e : f = 58
  · rw [if_pos e] at h; cases h; rw [e]; exact ⟨ok_impl_tombsOk, (fun n (h : n ∈ ([] : List String)) => (nomatch h))⟩
  rw [if_neg e] at h
  cases h
theorem ok_impl_BoxOk : FnOk Try.prog 39 spBoxOk := by
  refine fn_ok (Φ := Phi_impl_BoxOk) (T := T_impl_BoxOk) phi_impl_BoxOk mixed Try.func39 rfl rfl rfl (by decide) ?_
  intro ins r outs hr hl
  clear hl
  have hs := spBoxOk_in hr
  clear hr
  obtain ⟨b, rfl, hc, hr, rfl⟩ := hs
  simp only [spBoxOk, Try.f39, Go.VM.initS]
  have hb : b.Name.length ≤ 1099511627776 := Nat.le_trans hc.1 (by decide)
  simp only [go_sem]
  refine goes_val 3 V.bool (numsOk b) rfl rfl ?_ ?_
  · intro G hG
    simp only [go_sem]
    repeat' ((first | apply qa | apply qb | apply qc | apply qd | apply qe | apply qf | apply qg | apply qh | apply qi | apply qj | apply qk) <;> intro hp <;> simp only [hp, go_sem])
    all_goals ((first | refine hG _ ?_ | (simp only [*] at hG; refine hG _ ?_)); clear hG; simp_all [numsOk])
  cases hn : numsOk b with
  | false =>
    simp only [hb, hn, go_sem]
    repeat' ((first | apply qa | apply qb | apply qc | apply qd | apply qe | apply qf | apply qg | apply qh | apply qi | apply qj | apply qk) <;> intro hp <;> simp only [hp, hb, hn, go_sem])
    all_goals (simp only [fin_mk, finV, resL, resV1, resIn, endA, listIn, Option.some_or, Option.none_or, oneOrTup, go_sem]; rw [← hr])
    all_goals simp [boxOk, hn]
  | true =>
    simp only [hb, hn, hc, and_self, go_sem]
    repeat' ((first | apply qa | apply qb | apply qc | apply qd | apply qe | apply qf | apply qg | apply qh | apply qi | apply qj | apply qk) <;> intro hp <;> simp only [hp, hb, hn, hc, and_self, go_sem])
    all_goals (simp only [fin_mk, finV, resL, resV1, resIn, endA, listIn, Option.some_or, Option.none_or, oneOrTup, go_sem]; rw [← hr])
    all_goals simp_all [boxOk]
def T_spec_BoxOk : Hints := ⟨fun i => if i = 7 then some [] else if i = 18 then some [] else if i = 20 then some [] else if i = 1 then some [] else if i = 13 then some [] else none, fun i => if i = 4 then some [1, 3] else if i = 10 then some [1, 5] else if i = 16 then some [1, 5, 6, 7] else none, fun i => if i = 0 then some [1] else if i = 1 then some [1, 49] else if i = 2 then some [2] else if i = 3 then some [1, 3] else if i = 4 then some [1, 3, 54] else if i = 6 then some [1, 3, 4] else if i = 7 then some [1, 3, 104] else if i = 8 then some [2] else if i = 5 then some [1, 3] else if i = 9 then some [1, 5] else if i = 10 then some [1, 5, 109] else if i = 12 then some [1, 5, 6] else if i = 13 then some [1, 5, 6, 143] else if i = 14 then some [2] else if i = 15 then some [1, 5, 6, 7] else if i = 16 then some [1, 5, 6, 7, 146] else if i = 18 then some [1, 5, 6, 7, 157] else if i = 19 then some [2] else if i = 17 then some [1, 5, 6, 7] else if i = 20 then some [1, 5, 195] else if i = 21 then some [2] else if i = 11 then some [1, 5] else if i = 22 then some [2] else none, fun _ => none⟩
noncomputable def Phi_spec_BoxOk : Tab := fun f => if f = 34 then some spWithin else if f = 26 then some spBoxName else if f = 51 then some spFlagsOk else if f = 52 then some spMailOk else if f = 53 then some spHasMail else none
attribute [go_sem] T_spec_BoxOk Phi_spec_BoxOk
theorem phi_spec_BoxOk : ∀ f sp, Phi_spec_BoxOk f = some sp → FnOk Try.prog f sp ∧ ∀ n ∈ sp.need, n ∈ ([] : List String) := by
  intro f sp h
  unfold Phi_spec_BoxOk at h
  by_cases e : f = 34
  · rw [if_pos e] at h; cases h; rw [e]; exact ⟨ok_spec_l01In, (fun n (h : n ∈ ([] : List String)) => (nomatch h))⟩
  rw [if_neg e] at h
  by_cases e : f = 26
  · rw [if_pos e] at h; cases h; rw [e]; exact ⟨ok_spec_BoxName, (fun n (h : n ∈ ([] : List String)) => (nomatch h))⟩
  rw [if_neg e] at h
  by_cases e : f = 51
  · rw [if_pos e] at h; cases h; rw [e]; exact ⟨ok_spec_FlagsOk, (fun n (h : n ∈ ([] : List String)) => (nomatch h))⟩
  rw [if_neg e] at h
  by_cases e : f = 52
  · rw [if_pos e] at h; cases h; rw [e]; exact ⟨ok_spec_MailOk, (fun n (h : n ∈ ([] : List String)) => (nomatch h))⟩
  rw [if_neg e] at h
  by_cases e : f = 53
  · rw [if_pos e] at h; cases h; rw [e]; exact ⟨ok_spec_l08HasMail, (fun n (h : n ∈ ([] : List String)) => (nomatch h))⟩
  rw [if_neg e] at h
  cases h
theorem ok_spec_BoxOk : FnOk Try.prog 33 spBoxOk := by
  refine fn_ok (Φ := Phi_spec_BoxOk) (T := T_spec_BoxOk) phi_spec_BoxOk mixed Try.func33 rfl rfl rfl (by decide) ?_
  intro ins r outs hr hl
  clear hl
  have hs := spBoxOk_in hr
  clear hr
  obtain ⟨b, rfl, hc, hr, rfl⟩ := hs
  simp only [spBoxOk, Try.f33, Go.VM.initS]
  have hb : b.Name.length ≤ 1099511627776 := Nat.le_trans hc.1 (by decide)
  have hl : b.Mails.length ≤ 4194304 := hc.2.1.1
  have hlt : b.Tombs.length ≤ 4194304 := hc.2.2.1
  have hmt : ∀ m ∈ b.Mails, m.Text.length ≤ 4194304 := hc.2.1.2
  have l1 : decide ((30 : Int) < b.Mails.length) = !decide (b.Mails.length ≤ 30) := by
    rcases Nat.lt_or_ge 30 b.Mails.length with h | h
    · simp [show ¬ b.Mails.length ≤ 30 by omega]; omega
    · simp [h]; omega
  have l2 : decide ((40 : Int) < b.Tombs.length) = !decide (b.Tombs.length ≤ 40) := by
    rcases Nat.lt_or_ge 40 b.Tombs.length with h | h
    · simp [show ¬ b.Tombs.length ≤ 40 by omega]; omega
    · simp [h]; omega
  simp only [go_sem]
  refine goes_val 49 V.bool (!(boxName b.Name && numsOk b && decide (b.Mails.length ≤ 30) && decide (b.Tombs.length ≤ 40))) rfl rfl ?_ ?_
  · intro G hG
    simp only [hb, l1, l2, go_sem]
    repeat' ((first | ((first | apply qa | apply qb | apply qc | apply qd | apply qe | apply qf | apply qg | apply qh | apply qi | apply qj | apply qk) <;> intro hp) | ((first | refine ql rfl rfl (by decide +kernel) ?_ | refine qm _ rfl rfl (by decide +kernel) ?_) <;> have hp := True.intro)) <;> simp only [hp, hb, l1, l2, go_sem])
    all_goals ((first | refine hG _ ?_ | (simp only [*] at hG; refine hG _ ?_)); clear hG; simp_all [numsOk])
  simp only [go_sem]
  refine condG_not.2 ⟨fun hq => ?_, fun hq => ?_⟩
  · simp only [go_sem]
    simp only [fin_mk, finV, resL, resV1, resIn, endA, listIn, Option.some_or, Option.none_or, oneOrTup, go_sem]
    rw [← hr]
    congr 3
    symm
    rw [Bool.eq_false_iff]
    intro hx
    simp only [boxOk, mailsOk, tombsOk, Bool.and_eq_true] at hx
    simp only [hx, Bool.and_self, Bool.true_eq_false] at hq
  simp only [Bool.and_eq_true] at hq
  obtain ⟨⟨⟨q1, q2⟩, q3⟩, q4⟩ := hq
  have hnn := numsOk_next q2
  have hn1 : IntKind.i64.wrap (b.Next - 1) = b.Next - 1 := wrap64 (by omega) (by omega)
  have hm : mailsOk b = allN b.Mails.length (mailAtOk b) := by rw [mailsOk, q3, Bool.and_true]
  have ht : tombsOk b = allN b.Tombs.length (tombAtOk b) := by rw [tombsOk, q4, Bool.and_true]
  clear l1 l2
  simp only [go_sem]
  refine loop_go (fun i : Nat => [(3, .int .i64 (i : Int))]) (fun _ => []) (fun i => b.Mails.length - i) (fun i => i ≤ b.Mails.length ∧ ∀ j, j < i → mailAtOk b j = true) 0 ⟨Nat.zero_le _, fun j hj => absurd hj (by omega)⟩ rfl rfl ?_
  intro i ⟨hi, ha⟩ ih
  rcases Nat.lt_or_ge i b.Mails.length with h | h
  · have g1 : (i : Int) < b.Mails.length := by omega
    have g2 : (0 : Int) ≤ i := by omega
    have g3 : b.Mails[i]? = some b.Mails[i] := List.getElem?_eq_getElem h
    have g5 := wrap_succ h (by omega)
    have gt : b.Mails[i].Text.length ≤ 4194304 := hmt _ (List.getElem_mem h)
    simp only [g1, g2, g3, go_sem]
    refine goes_valD 104 V.bool (!mailAtOk b i) rfl rfl rfl (by decide +kernel) ?_ ?_
    · intro G hG
      clear ih hr ha
      rcases Nat.eq_zero_or_pos i with h0 | h0
      · have k1 : ¬ (0 : Int) < i := by omega
        have g6 : mailAtOk b i = (within b.Mails[i].Uid 1 (b.Next - 1) && flagsOk b.Mails[i].Flags && within b.Mails[i].Mod 1 b.Mod && mailOk b.Mails[i].Text) := by
          have : (i == 0) = true := by simp [h0]
          simp only [mailAtOk, getD_lt h, this, Bool.true_or, Bool.and_true]
        simp only [g1, g2, g3, k1, hn1, gt, go_sem]
        repeat' ((first | ((first | apply qa | apply qb | apply qc | apply qd | apply qe | apply qf | apply qg | apply qh | apply qi | apply qj | apply qk) <;> intro hp) | ((first | refine ql rfl rfl (by decide +kernel) ?_ | refine qm _ rfl rfl (by decide +kernel) ?_) <;> have hp := True.intro)) <;> simp only [hp, g1, g2, g3, k1, hn1, gt, go_sem])
        all_goals ((first | refine hG _ ?_ | (simp only [*] at hG; refine hG _ ?_)); clear hG; rw [g6]; simp_all)
      · have k1 : (0 : Int) < i := by omega
        have k2 := wrap_pred h0 (by omega)
        have k3 : (0 : Int) ≤ ((i - 1 : Nat) : Int) := by omega
        have k4 : ((i - 1 : Nat) : Int) < b.Mails.length := by omega
        have k5 : b.Mails[i - 1]? = some (b.Mails[i - 1]'(by omega)) := List.getElem?_eq_getElem (by omega)
        have g6 : mailAtOk b i = (within b.Mails[i].Uid 1 (b.Next - 1) && decide ((b.Mails[i - 1]'(by omega)).Uid < b.Mails[i].Uid) && flagsOk b.Mails[i].Flags && within b.Mails[i].Mod 1 b.Mod && mailOk b.Mails[i].Text) := by
          have : (i == 0) = false := by simp; omega
          simp only [mailAtOk, getD_lt h, getD_lt (show i - 1 < b.Mails.length by omega), this, Bool.false_or]
        rcases Int.lt_or_le (b.Mails[i - 1]'(by omega)).Uid b.Mails[i].Uid with q | q
        · have q' : ¬ b.Mails[i].Uid ≤ (b.Mails[i - 1]'(by omega)).Uid := by omega
          simp only [g1, g2, g3, k1, k2, k3, k4, k5, q', hn1, gt, go_sem]
          repeat' ((first | ((first | apply qa | apply qb | apply qc | apply qd | apply qe | apply qf | apply qg | apply qh | apply qi | apply qj | apply qk) <;> intro hp) | ((first | refine ql rfl rfl (by decide +kernel) ?_ | refine qm _ rfl rfl (by decide +kernel) ?_) <;> have hp := True.intro)) <;> simp only [hp, g1, g2, g3, k1, k2, k3, k4, k5, q', hn1, gt, go_sem])
          all_goals ((first | refine hG _ ?_ | (simp only [*] at hG; refine hG _ ?_)); clear hG k2 k5; rw [g6, decide_eq_true q]; simp_all)
        · have q' : ¬ (b.Mails[i - 1]'(by omega)).Uid < b.Mails[i].Uid := by omega
          simp only [g1, g2, g3, k1, k2, k3, k4, k5, q, hn1, gt, go_sem]
          repeat' ((first | ((first | apply qa | apply qb | apply qc | apply qd | apply qe | apply qf | apply qg | apply qh | apply qi | apply qj | apply qk) <;> intro hp) | ((first | refine ql rfl rfl (by decide +kernel) ?_ | refine qm _ rfl rfl (by decide +kernel) ?_) <;> have hp := True.intro)) <;> simp only [hp, g1, g2, g3, k1, k2, k3, k4, k5, q, hn1, gt, go_sem])
          all_goals ((first | refine hG _ ?_ | (simp only [*] at hG; refine hG _ ?_)); clear hG k2 k5; rw [g6, decide_eq_false q']; simp_all)
    · simp only [g5, go_sem]
      repeat' ((first | ((first | apply qa | apply qb | apply qc | apply qd | apply qe | apply qf | apply qg | apply qh | apply qi | apply qj | apply qk) <;> intro hp) | ((first | refine ql rfl rfl (by decide +kernel) ?_ | refine qm _ rfl rfl (by decide +kernel) ?_) <;> have hp := True.intro)) <;> simp only [hp, g5, go_sem])
      · simp only [fin_mk, finV, resL, resV1, resIn, endA, listIn, Option.some_or, Option.none_or, oneOrTup, go_sem]
        rw [← hr]
        rw [boxOk, hm, allN_bad h hp, Bool.and_false]; rfl
      · exact ih (i + 1) ⟨h, all_succ ha hp⟩ (by omega)
  have hm1 : mailsOk b = true := by rw [hm, allN_all h ha]
  clear ih
  have g1 : ¬ (i : Int) < b.Mails.length := by omega
  simp only [g1, go_sem]
  refine loop_go (fun i : Nat => [(5, .int .i64 (i : Int))]) (fun _ => []) (fun i => b.Tombs.length - i) (fun i => i ≤ b.Tombs.length ∧ ∀ j, j < i → tombAtOk b j = true) 0 ⟨Nat.zero_le _, fun j hj => absurd hj (by omega)⟩ rfl rfl ?_
  clear g1 ha hi h i
  intro i ⟨hi, ha⟩ ih
  rcases Nat.lt_or_ge i b.Tombs.length with h | h
  case inr =>
    have g1 : ¬ (i : Int) < b.Tombs.length := by omega
    simp only [g1, go_sem]
    simp only [fin_mk, finV, resL, resV1, resIn, endA, listIn, Option.some_or, Option.none_or, oneOrTup, go_sem]
    rw [← hr]
    rw [boxOk, q1, q2, hm1, ht, allN_all h ha]; rfl
  have g1 : (i : Int) < b.Tombs.length := by omega
  have g2 : (0 : Int) ≤ i := by omega
  have g3 : b.Tombs[i]? = some b.Tombs[i] := List.getElem?_eq_getElem h
  have g5 := wrap_succ h (by omega)
  have hbad : tombAtOk b i = false → V.bool false = r := fun hx => by
    rw [← hr, boxOk, ht, allN_bad h hx, Bool.and_false]
  simp only [g1, g2, g3, go_sem]
  have e1 : decide (b.Tombs[i].Mod ≤ b.Horizon) = !decide (b.Horizon < b.Tombs[i].Mod) := by
    rcases Int.lt_or_le b.Horizon b.Tombs[i].Mod with p | p
    · simp [p]
    · simp [p]
  have e2 : decide (b.Mod < b.Tombs[i].Mod) = !decide (b.Tombs[i].Mod ≤ b.Mod) := by
    rcases Int.lt_or_le b.Mod b.Tombs[i].Mod with p | p
    · simp [p]
    · simp [p]
  have ew : within b.Tombs[i].Mod (b.Horizon + 1) b.Mod = (decide (b.Horizon < b.Tombs[i].Mod) && decide (b.Tombs[i].Mod ≤ b.Mod)) := by
    simp only [within, Int.add_one_le_iff]
  refine goes_val 143 V.bool (!(within b.Tombs[i].Uid 1 (b.Next - 1) && decide (b.Horizon < b.Tombs[i].Mod) && decide (b.Tombs[i].Mod ≤ b.Mod) && !hasMail b.Mails b.Tombs[i].Uid)) rfl rfl ?_ ?_
  · intro G hG
    clear ih hr ha hbad ew
    simp only [hn1, hc, e1, e2, go_sem]
    repeat' ((first | ((first | apply qa | apply qb | apply qc | apply qd | apply qe | apply qf | apply qg | apply qh | apply qi | apply qj | apply qk) <;> intro hp) | ((first | refine ql rfl rfl (by decide +kernel) ?_ | refine qm _ rfl rfl (by decide +kernel) ?_) <;> have hp := True.intro)) <;> simp only [hp, hn1, hc, e1, e2, go_sem])
    all_goals ((first | refine hG _ ?_ | (simp only [*] at hG; refine hG _ ?_)); clear hG e1 e2; simp_all)
  clear e1 e2
  simp only [go_sem]
  refine condG_not.2 ⟨fun hq => ?_, fun hq => ?_⟩
  · simp only [go_sem]
    simp only [fin_mk, finV, resL, resV1, resIn, endA, listIn, Option.some_or, Option.none_or, oneOrTup, go_sem]
    rw [hbad ?_]
    simp only [tombAtOk, tombIn, getD_lt h, ew, Bool.and_eq_false_iff] at hq ⊢
    rcases hq with ((hq | hq) | hq) | hq <;> simp only [hq, true_or, or_true]
  simp only [Bool.and_eq_true] at hq
  obtain ⟨⟨⟨t1, t2⟩, t3⟩, t4⟩ := hq
  simp only [go_sem]
  refine loop_go (fun k : Nat => [(7, .int .i64 (k : Int))]) (fun _ => []) (fun k => i - k) (fun k => k ≤ i ∧ (b.Tombs.take k).any (fun x => x.Uid == b.Tombs[i].Uid) = false) 0 ⟨Nat.zero_le _, by simp⟩ rfl rfl ?_
  intro k ⟨hki, hka⟩ ihk
  rcases Nat.lt_or_ge k i with hk | hk
  · have m1 : (k : Int) < i := by omega
    have m2 : (0 : Int) ≤ k := by omega
    have m3 : b.Tombs[k]? = some (b.Tombs[k]'(by omega)) := List.getElem?_eq_getElem (by omega)
    have m4 : (k : Int) < b.Tombs.length := by omega
    have m5 := wrap_succ hk (by omega)
    cases hv : ((b.Tombs[k]'(by omega)).Uid == b.Tombs[i].Uid) with
    | true =>
      clear ih ihk
      simp only [m1, m2, m3, m4, m5, hv, go_sem]
      repeat' ((first | ((first | apply qa | apply qb | apply qc | apply qd | apply qe | apply qf | apply qg | apply qh | apply qi | apply qj | apply qk) <;> intro hp) | ((first | refine ql rfl rfl (by decide +kernel) ?_ | refine qm _ rfl rfl (by decide +kernel) ?_) <;> have hp := True.intro)) <;> simp only [hp, m1, m2, m3, m4, m5, hv, go_sem])
      simp only [fin_mk, finV, resL, resV1, resIn, endA, listIn, Option.some_or, Option.none_or, oneOrTup, go_sem]
      rw [hbad ?_]
      have hx : (b.Tombs.take i).any (fun x => x.Uid == b.Tombs[i].Uid) = true :=
        any_bad (i := k) (by rw [List.length_take]; omega) (by rw [List.getElem_take]; exact hv)
      simp only [tombAtOk, tombIn, getD_lt h, hasTomb, hx, Bool.not_true, Bool.and_false, Bool.false_and]
    | false =>
      simp only [m1, m2, m3, m4, m5, hv, go_sem]
      repeat' ((first | ((first | apply qa | apply qb | apply qc | apply qd | apply qe | apply qf | apply qg | apply qh | apply qi | apply qj | apply qk) <;> intro hp) | ((first | refine ql rfl rfl (by decide +kernel) ?_ | refine qm _ rfl rfl (by decide +kernel) ?_) <;> have hp := True.intro)) <;> simp only [hp, m1, m2, m3, m4, m5, hv, go_sem])
      exact ihk (k + 1) ⟨hk, any_take_succ (by omega) hka hv⟩ (by omega)
  have hke : k = i := by omega
  subst hke
  clear ihk
  have tk : tombIn b k = true := by
    simp only [tombIn, getD_lt h, ew, hasTomb, hka, t1, t2, t3, t4, Bool.not_false, Bool.and_self]
  have m1 : ¬ (k : Int) < k := by omega
  simp only [m1, go_sem]
  refine goes_valD 195 V.bool (!tombOrd b k) rfl rfl rfl (by decide +kernel) ?_ ?_
  · intro G hG
    clear ih hr ha hbad
    rcases Nat.eq_zero_or_pos k with h0 | h0
    · have k1 : ¬ (0 : Int) < k := by omega
      have g6 : tombOrd b k = true := by
        have : (k == 0) = true := by simp [h0]
        simp only [tombOrd, this, Bool.true_or]
      simp only [g1, g2, g3, k1, go_sem]
      repeat' ((first | ((first | apply qa | apply qb | apply qc | apply qd | apply qe | apply qf | apply qg | apply qh | apply qi | apply qj | apply qk) <;> intro hp) | ((first | refine ql rfl rfl (by decide +kernel) ?_ | refine qm _ rfl rfl (by decide +kernel) ?_) <;> have hp := True.intro)) <;> simp only [hp, g1, g2, g3, k1, go_sem])
      all_goals (refine hG _ ?_; rw [g6]; rfl)
    · have k1 : (0 : Int) < k := by omega
      have k2 := wrap_pred h0 (by omega)
      have k3 : (0 : Int) ≤ ((k - 1 : Nat) : Int) := by omega
      have k4 : ((k - 1 : Nat) : Int) < b.Tombs.length := by omega
      have k5 : b.Tombs[k - 1]? = some (b.Tombs[k - 1]'(by omega)) := List.getElem?_eq_getElem (by omega)
      have g6 : tombOrd b k = !(decide (b.Tombs[k].Mod < (b.Tombs[k - 1]'(by omega)).Mod) || ((b.Tombs[k - 1]'(by omega)).Mod == b.Tombs[k].Mod && decide (b.Tombs[k].Uid ≤ (b.Tombs[k - 1]'(by omega)).Uid))) := by
        have : (k == 0) = false := by simp; omega
        simp only [tombOrd, getD_lt h, getD_lt (show k - 1 < b.Tombs.length by omega), this, Bool.false_or]
      simp only [g1, g2, g3, k1, k2, k3, k4, k5, go_sem]
      repeat' ((first | ((first | apply qa | apply qb | apply qc | apply qd | apply qe | apply qf | apply qg | apply qh | apply qi | apply qj | apply qk) <;> intro hp) | ((first | refine ql rfl rfl (by decide +kernel) ?_ | refine qm _ rfl rfl (by decide +kernel) ?_) <;> have hp := True.intro)) <;> simp only [hp, g1, g2, g3, k1, k2, k3, k4, k5, go_sem])
      all_goals ((first | refine hG _ ?_ | (simp only [*] at hG; refine hG _ ?_)); clear hG k2 k5; rw [g6]; simp_all)

  simp only [g5, go_sem]

  repeat' ((first | ((first | apply qa | apply qb | apply qc | apply qd | apply qe | apply qf | apply qg | apply qh | apply qi | apply qj | apply qk) <;> intro hp) | ((first | refine ql rfl rfl (by decide +kernel) ?_ | refine qm _ rfl rfl (by decide +kernel) ?_) <;> have hp := True.intro)) <;> simp only [hp, g5, go_sem])
  · simp only [fin_mk, finV, resL, resV1, resIn, endA, listIn, Option.some_or, Option.none_or, oneOrTup, go_sem]
    rw [hbad (by rw [tombAtOk, tk, hp]; rfl)]
  · exact ih (k + 1) ⟨h, all_succ ha (by rw [tombAtOk, tk, hp]; rfl)⟩ (by omega)
end Go.Proofs.Ytdnafggminbalaa.L

