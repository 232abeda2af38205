/- Contracts of functions, and the facts that they need. No condition. -/
import Derived.Test.YtonjbbfgdloljaaGreatDoorVLDr6



import Derived.Test.YtonjbbfgdloljaaGreatDoorVmCur
namespace Go.Proofs.YtonjbbfgdloljaaGreatDoor.L
open Go Go.VM
set_option maxRecDepth 100000
set_option maxHeartbeats 4000000
set_option linter.unusedSimpArgs false
set_option linter.unusedVariables false
def usesTo (k : Int) : Bool := k == 6 || k == 7
def sinceOk (x : Edit) : Bool := if x.Kind == 4 then within x.Since (-1) 100000 else if x.Kind == 8 then within x.Since 0 100000 else x.Since == 0
def eTo (x : Edit) : Bool := (x.To == [] && !usesTo x.Kind) || (usesTo x.Kind && boxName x.To)
def eSet (x : Edit) : Bool := x.Set.isEmpty || (within x.Kind 4 7 && setOk x.Set)
def eHow (x : Edit) : Bool := (x.How == 0 && !(x.Kind == 4)) || (x.Kind == 4 && within x.How 1 3)
def eBits (x : Edit) : Bool := x.Bits == 0 || ((x.Kind == 3 || x.Kind == 4) && flagsOk x.Bits)
def eText (x : Edit) : Bool := (x.Text == [] && !(x.Kind == 3)) || (x.Kind == 3 && mailOk x.Text)
def editOk (x : Edit) : Bool := (within x.Kind 1 8 && boxName x.Box && sinceOk x) && (eTo x && eSet x && eHow x && eBits x && eText x)
open Classical in
noncomputable def spUsesTo : VM.Spec := { modes := [.rd], run := fun | [.int .i64 k] => some (.bool (usesTo k), []) | _ => none, need := [] }
attribute [go_sem] spUsesTo
theorem spUsesTo_in {ins : List V} {r : V} {outs : List V} (h : spUsesTo.run ins = some (r, outs)) : ∃ (k : Int), ins = [.int .i64 k] ∧ .bool (usesTo k) = r ∧ outs = [] := by
  unfold spUsesTo at h
  simp only at h
  split at h
  · rename_i k
    simp only [Option.some.injEq, Prod.mk.injEq] at h
    obtain ⟨h1, h2⟩ := h
    exact ⟨k, rfl, h1, h2.symm⟩
  · cases h
open Classical in
noncomputable def spUsesSet : VM.Spec := { modes := [.rd], run := fun | [.int .i64 k] => some (.bool (within k 4 7), []) | _ => none, need := [] }
attribute [go_sem] spUsesSet
theorem spUsesSet_in {ins : List V} {r : V} {outs : List V} (h : spUsesSet.run ins = some (r, outs)) : ∃ (k : Int), ins = [.int .i64 k] ∧ .bool (within k 4 7) = r ∧ outs = [] := by
  unfold spUsesSet at h
  simp only at h
  split at h
  · rename_i k
    simp only [Option.some.injEq, Prod.mk.injEq] at h
    obtain ⟨h1, h2⟩ := h
    exact ⟨k, rfl, h1, h2.symm⟩
  · cases h
open Classical in
noncomputable def spSinceOk : VM.Spec := { modes := [.rd], run := fun | [x'] => (Edit.dec x').bind fun x => some (.bool (sinceOk x), []) | _ => none, need := [] }
attribute [go_sem] spSinceOk
theorem spSinceOk_in {ins : List V} {r : V} {outs : List V} (h : spSinceOk.run ins = some (r, outs)) : ∃ (x : Edit), ins = [Edit.enc x] ∧ .bool (sinceOk x) = r ∧ outs = [] := by
  unfold spSinceOk at h
  simp only at h
  split at h
  · rename_i x'
    simp only [Option.bind_eq_some_iff] at h
    obtain ⟨x, h_x, h⟩ := h
    simp only [Option.some.injEq, Prod.mk.injEq] at h
    obtain ⟨h1, h2⟩ := h
    have h_x := Edit.dec_some h_x
    subst h_x
    exact ⟨x, rfl, h1, h2.symm⟩
  · cases h
open Classical in
noncomputable def spEditOk : VM.Spec := { modes := [.rd], run := fun | [x'] => (Edit.dec x').bind fun x => if x.le 4194304 then some (.bool (editOk x), []) else none | _ => none, need := [] }
attribute [go_sem] spEditOk
theorem spEditOk_in {ins : List V} {r : V} {outs : List V} (h : spEditOk.run ins = some (r, outs)) : ∃ (x : Edit), ins = [Edit.enc x] ∧ (x.le 4194304) ∧ .bool (editOk x) = r ∧ outs = [] := by
  unfold spEditOk at h
  simp only at h
  split at h
  · rename_i x'
    simp only [Option.bind_eq_some_iff] at h
    obtain ⟨x, h_x, h⟩ := h
    split at h
    case isFalse => cases h
    rename_i hc
    simp only [Option.some.injEq, Prod.mk.injEq] at h
    obtain ⟨h1, h2⟩ := h
    have h_x := Edit.dec_some h_x
    subst h_x
    exact ⟨x, rfl, hc, h1, h2.symm⟩
  · cases h
def uSet (k : Int) : Bool := usesTo k || k == 4 || k == 5
def editUses (x : Edit) : Bool := (usesTo x.Kind || x.To == []) && (uSet x.Kind || x.Set.isEmpty) && (x.Kind == 4 || x.How == 0) && ((x.Kind == 4 || x.Kind == 3) || x.Bits == 0) && ((x.Kind == 4 || x.Kind == 8) || x.Since == 0) && (x.Kind == 3 || x.Text == [])
open Classical in
noncomputable def spEditUses : VM.Spec := { modes := [.rd], run := fun | [x'] => (Edit.dec x').bind fun x => some (.bool (editUses x), []) | _ => none, need := [] }
attribute [go_sem] spEditUses
theorem spEditUses_in {ins : List V} {r : V} {outs : List V} (h : spEditUses.run ins = some (r, outs)) : ∃ (x : Edit), ins = [Edit.enc x] ∧ .bool (editUses x) = r ∧ outs = [] := by
  unfold spEditUses at h
  simp only at h
  split at h
  · rename_i x'
    simp only [Option.bind_eq_some_iff] at h
    obtain ⟨x, h_x, h⟩ := h
    simp only [Option.some.injEq, Prod.mk.injEq] at h
    obtain ⟨h1, h2⟩ := h
    have h_x := Edit.dec_some h_x
    subst h_x
    exact ⟨x, rfl, h1, h2.symm⟩
  · cases h
def editKind (x : Edit) : Bool := if x.Kind == 6 then boxName x.To else if x.Kind == 7 then boxName x.To else if x.Kind == 4 then within x.How 1 3 && within x.Since (-1) 100000 else if x.Kind == 8 then within x.Since 0 100000 else if x.Kind == 3 then mailOk x.Text else true
theorem editOk_eq (x : Edit) : editOk x = ((within x.Kind 1 8 && boxName x.Box && editUses x && setOk x.Set && flagsOk x.Bits) && editKind x) := by
  cases hk : within x.Kind 1 8 with
  | false => simp [editOk, hk]
  | true =>
    have hk' : x.Kind = 1 ∨ x.Kind = 2 ∨ x.Kind = 3 ∨ x.Kind = 4 ∨ x.Kind = 5 ∨ x.Kind = 6 ∨ x.Kind = 7 ∨ x.Kind = 8 := by
      simp only [within, Bool.and_eq_true, decide_eq_true_eq] at hk; omega
    obtain ⟨K, B, T, S, H, I, N, X⟩ := x
    simp only at hk'
    have hS : S.isEmpty = true → setOk S = true := by cases S <;> simp; rfl
    have hI : (I == 0) = true → flagsOk I = true := by intro h; have : I = 0 := by simpa using h
                                                       subst this; rfl
    rcases hk' with rfl | rfl | rfl | rfl | rfl | rfl | rfl | rfl <;>
      simp only [editOk, editUses, editKind, eTo, eSet, eHow, eBits, eText, sinceOk, usesTo, uSet, within, Int.reduceBEq, Int.reduceLE, decide_true, decide_false, Bool.or_false, Bool.false_or, Bool.true_or, Bool.or_true, Bool.not_true, Bool.not_false, Bool.and_true, Bool.true_and, Bool.and_false, Bool.false_and, Bool.or_self, Bool.false_eq_true, if_true, if_false] <;>
      (generalize hb : boxName B = b1; generalize ht : boxName T = b2; generalize (T == []) = b3; generalize S.isEmpty = b4 at *; generalize setOk S = b5 at *; generalize (H == 0) = b6; generalize (I == 0) = b7 at *; generalize flagsOk I = b8 at *; generalize (N == 0) = b9; generalize (X == []) = b10; clear hb ht hk; revert hS hI; cases b4 <;> cases b5 <;> cases b7 <;> cases b8 <;> simp <;> cases b1 <;> cases b6 <;> simp <;> cases b9 <;> cases b10 <;> simp <;> cases b3 <;> simp <;> rw [Bool.and_comm])
end Go.Proofs.YtonjbbfgdloljaaGreatDoor.L

namespace Go.Proofs.YtonjbbfgdloljaaGreatDoor.L
open Go Go.VM
set_option maxRecDepth 100000
set_option maxHeartbeats 4000000
set_option linter.unusedSimpArgs false
set_option linter.unusedVariables false
def edKinds : List Int := [1, 3, 3, 3, 3, 4, 4, 4, 5, 5, 6, 7, 2, 8]
def edBoxes : List (List UInt8) := [[105, 110, 98, 111, 120], [105, 110, 98, 111, 120], [105, 110, 98, 111, 120], [119, 111, 114, 107], [111, 108, 100]]
def edMade : List (List UInt8) := [[119, 111, 114, 107], [111, 108, 100], [97]]
def edTos : List (List UInt8) := [[119, 111, 114, 107], [111, 108, 100], [105, 110, 98, 111, 120]]
def edF3 : List Int := [0, 1, 8, 4, 9]
def edF4 : List Int := [1, 8, 8, 4, 31]
def edS4 : List Int := [-1, -1, 3, 9]
def edIn (c : Cur) := pickO (pickI c edKinds).2 edBoxes
def edM (c : Cur) := pickO (edIn c).2 edMade
def edA1 (c : Cur) := pickI (edIn c).2 edF3
def edA2 (c : Cur) := mailO (edA1 c).2
def edF_1 (c : Cur) := drawO (edIn c).2
def edF_2 (c : Cur) := belO (edF_1 c).2 3
def edF_3 (c : Cur) := pickI (edF_2 c).2 edF4
def edF_4 (c : Cur) := pickI (edF_3 c).2 edS4
def edN (c : Cur) := belO (edIn c).2 9
def edT (c : Cur) := pickO (edF_1 c).2 edTos
def editD (c : Cur) : Edit × Cur :=
  if (pickI c edKinds).1 = 1 then (⟨1, (edM c).1, [], [], 0, 0, 0, []⟩, (edM c).2) else
  if (pickI c edKinds).1 = 2 then (⟨2, (edM c).1, [], [], 0, 0, 0, []⟩, (edM c).2) else
  if (pickI c edKinds).1 = 3 then (⟨3, (edIn c).1, [], [], 0, (edA1 c).1, 0, (edA2 c).1⟩, (edA2 c).2) else
  if (pickI c edKinds).1 = 4 then (⟨4, (edIn c).1, [], (edF_1 c).1, 1 + (edF_2 c).1, (edF_3 c).1, (edF_4 c).1, []⟩, (edF_4 c).2) else
  if (pickI c edKinds).1 = 5 then (⟨5, (edIn c).1, [], [⟨1, 9999⟩], 0, 0, 0, []⟩, (edIn c).2) else
  if (pickI c edKinds).1 = 6 then (⟨6, (edIn c).1, (edT c).1, (edF_1 c).1, 0, 0, 0, []⟩, (edT c).2) else
  if (pickI c edKinds).1 = 7 then (⟨7, (edIn c).1, (edT c).1, (edF_1 c).1, 0, 0, 0, []⟩, (edT c).2) else
  (⟨8, (edIn c).1, [], [], 0, 0, (edN c).1, []⟩, (edN c).2)
theorem nameLe_boxes : ∀ x ∈ edBoxes, x.length ≤ 8 := by decide
theorem nameLe_made : ∀ x ∈ edMade, x.length ≤ 8 := by decide
theorem nameLe_tos : ∀ x ∈ edTos, x.length ≤ 8 := by decide
def edSmall (e : Edit) : Prop := e.Box.length ≤ 8 ∧ e.To.length ≤ 8 ∧ e.Set.length ≤ 40 ∧ e.Text.length ≤ 200
theorem edSmall.le {e : Edit} (h : edSmall e) : e.le 4194304 := by
  obtain ⟨h1, h2, h3, h4⟩ := h
  exact ⟨by show e.Box.length ≤ _; omega, by show e.To.length ≤ _; omega, ⟨by omega, fun _ _ => trivial⟩, by show e.Text.length ≤ _; omega⟩
theorem editD_in {c : Cur} (h : curI c) : edSmall (editD c).1 ∧ curI (editD c).2 := by
  have h1 := pickI_in (l := edKinds) h (by decide)
  have h2 := pickO_in (l := edBoxes) h1.1 (by decide)
  have h3 := pickO_in (l := edMade) (c := (edIn c).2) h2.1 (by decide)
  have h4 := pickI_in (l := edF3) (c := (edIn c).2) h2.1 (by decide)
  have h5 := mailO_len (c := (edA1 c).2) h4.1
  have h6 := drawO_in (c := (edIn c).2) h2.1
  have h7 := belO_in (c := (edF_1 c).2) (n := 3) h6.2
  have h8 := pickI_in (l := edF4) (c := (edF_2 c).2) h7.1 (by decide)
  have h9 := pickI_in (l := edS4) (c := (edF_3 c).2) h8.1 (by decide)
  have h10 := belO_in (c := (edIn c).2) (n := 9) h2.1
  have h11 := pickO_in (l := edTos) (c := (edF_1 c).2) h6.2 (by decide)
  have b2 : (edIn c).1.length ≤ 8 := nameLe_boxes _ h2.2
  have b3 : (edM c).1.length ≤ 8 := nameLe_made _ h3.2
  have b11 : (edT c).1.length ≤ 8 := nameLe_tos _ h11.2
  have b5 : (edA2 c).1.length ≤ 200 := h5.1
  have b6 : (edF_1 c).1.length ≤ 40 := h6.1
  unfold editD
  repeat' split
  · exact ⟨⟨b3, by simp, by simp, by simp⟩, h3.1⟩
  · exact ⟨⟨b3, by simp, by simp, by simp⟩, h3.1⟩
  · exact ⟨⟨b2, by simp, by simp, b5⟩, h5.2⟩
  · exact ⟨⟨b2, by simp, b6, by simp⟩, h9.1⟩
  · exact ⟨⟨b2, by simp, by simp, by simp⟩, h2.1⟩
  · exact ⟨⟨b2, b11, b6, by simp⟩, h11.1⟩
  · exact ⟨⟨b2, b11, b6, by simp⟩, h11.1⟩
  · exact ⟨⟨b2, by simp, by simp, by simp⟩, h10.1⟩
open Classical in
noncomputable def spEditD : VM.Spec := { modes := [.ptr], run := fun | [.rptr (c')] => (Cur.dec c').bind fun c => if curI c then some (Edit.enc ((editD c).1), [.rptr (Cur.enc ((editD c).2))]) else none | _ => none, need := [] }
attribute [go_sem] spEditD
theorem spEditD_in {ins : List V} {r : V} {outs : List V} (h : spEditD.run ins = some (r, outs)) : ∃ (c : Cur), ins = [.rptr (Cur.enc c)] ∧ (curI c) ∧ Edit.enc ((editD c).1) = r ∧ outs = [.rptr (Cur.enc ((editD c).2))] := by
  unfold spEditD at h
  simp only at h
  split at h
  · rename_i c'
    simp only [Option.bind_eq_some_iff] at h
    obtain ⟨c, h_c, h⟩ := h
    split at h
    case isFalse => cases h
    rename_i hc
    simp only [Option.some.injEq, Prod.mk.injEq] at h
    obtain ⟨h1, h2⟩ := h
    have h_c := Cur.dec_some h_c
    subst h_c
    exact ⟨c, rfl, hc, h1, h2.symm⟩
  · cases h
def edAny (c : Cur) : Edit × Cur :=
  let k := belO c 14
  let y := belO k.2 60
  let x := editD y.2
  if k.1 = 0 then ({ x.1 with Kind := y.1.tmod 10 }, x.2) else
  if k.1 = 1 then ({ x.1 with Box := ([[], [65]] : List (List UInt8)).getD (y.1.tmod 2).toNat [] }, x.2) else
  if k.1 = 2 then ({ x.1 with Since := ([-2, -1, 100000, 100001] : List Int).getD (y.1.tmod 4).toNat 0 }, x.2) else
  if k.1 = 3 then ({ x.1 with How := y.1.tmod 5 }, x.2) else
  if k.1 = 4 then ({ x.1 with Bits := y.1 }, x.2) else
  if k.1 = 5 then ({ x.1 with Text := ([[120], [97, 0]] : List (List UInt8)).getD (y.1.tmod 2).toNat [] }, x.2) else x
theorem getD_all {α : Type} {p : α → Prop} {l : List α} {d : α} (h : ∀ x ∈ l, p x) (hd : p d) (i : Nat) : p (l.getD i d) := by
  rcases Nat.lt_or_ge i l.length with hi | hi
  · rw [getD_lt hi]; exact h _ (List.getElem_mem hi)
  · rw [List.getD_eq_getElem?_getD, List.getElem?_eq_none hi]; exact hd
theorem edAny_in {c : Cur} (h : curI c) : edSmall (edAny c).1 ∧ curI (edAny c).2 := by
  have h1 := belO_in (n := 14) h
  have h2 := belO_in (n := 60) h1.1
  obtain ⟨⟨s1, s2, s3, s4⟩, h3⟩ := editD_in h2.1
  have g1 := getD_all (p := fun x : List UInt8 => x.length ≤ 8) (l := [[], [65]]) (d := []) (by decide) (by decide)
  have g2 := getD_all (p := fun x : List UInt8 => x.length ≤ 200) (l := [[120], [97, 0]]) (d := []) (by decide) (by decide)
  unfold edAny
  simp only
  repeat' split
  all_goals first
    | exact ⟨⟨s1, s2, s3, s4⟩, h3⟩
    | exact ⟨⟨g1 _, s2, s3, s4⟩, h3⟩
    | exact ⟨⟨s1, s2, s3, g2 _⟩, h3⟩
open Classical in
noncomputable def spEdAny : VM.Spec := { modes := [.ptr], run := fun | [.rptr (c')] => (Cur.dec c').bind fun c => if curI c then some (Edit.enc ((edAny c).1), [.rptr (Cur.enc ((edAny c).2))]) else none | _ => none, need := [] }
attribute [go_sem] spEdAny
theorem spEdAny_in {ins : List V} {r : V} {outs : List V} (h : spEdAny.run ins = some (r, outs)) : ∃ (c : Cur), ins = [.rptr (Cur.enc c)] ∧ (curI c) ∧ Edit.enc ((edAny c).1) = r ∧ outs = [.rptr (Cur.enc ((edAny c).2))] := by
  unfold spEdAny at h
  simp only at h
  split at h
  · rename_i c'
    simp only [Option.bind_eq_some_iff] at h
    obtain ⟨c, h_c, h⟩ := h
    split at h
    case isFalse => cases h
    rename_i hc
    simp only [Option.some.injEq, Prod.mk.injEq] at h
    obtain ⟨h1, h2⟩ := h
    have h_c := Cur.dec_some h_c
    subst h_c
    exact ⟨c, rfl, hc, h1, h2.symm⟩
  · cases h
open Classical in
noncomputable def spDrawEdit : VM.Spec := { modes := [.rd], run := fun | [.lst 1 code'] => (decL dU8 code').bind fun code => if code.length ≤ 4194304 then some (Edit.enc ((editD (cur0 code)).1), []) else none | _ => none, need := [] }
attribute [go_sem] spDrawEdit
theorem spDrawEdit_in {ins : List V} {r : V} {outs : List V} (h : spDrawEdit.run ins = some (r, outs)) : ∃ (code : (List Int)), ins = [.lst 1 ((code).map eU8)] ∧ (code.length ≤ 4194304) ∧ Edit.enc ((editD (cur0 code)).1) = r ∧ outs = [] := by
  unfold spDrawEdit at h
  simp only at h
  split at h
  · rename_i code'
    simp only [Option.bind_eq_some_iff] at h
    obtain ⟨code, h_code, h⟩ := h
    split at h
    case isFalse => cases h
    rename_i hc
    simp only [Option.some.injEq, Prod.mk.injEq] at h
    obtain ⟨h1, h2⟩ := h
    have h_code := decL_some (fun _ _ h => dU8_some h) h_code
    subst h_code
    exact ⟨code, rfl, hc, h1, h2.symm⟩
  · cases h
open Classical in
noncomputable def spDrawEditText : VM.Spec := { modes := [.rd], run := fun | [.lst 1 code'] => (decL dU8 code').bind fun code => if code.length ≤ 4194304 then some (Edit.enc ((edAny (cur0 code)).1), []) else none | _ => none, need := [] }
attribute [go_sem] spDrawEditText
theorem spDrawEditText_in {ins : List V} {r : V} {outs : List V} (h : spDrawEditText.run ins = some (r, outs)) : ∃ (code : (List Int)), ins = [.lst 1 ((code).map eU8)] ∧ (code.length ≤ 4194304) ∧ Edit.enc ((edAny (cur0 code)).1) = r ∧ outs = [] := by
  unfold spDrawEditText at h
  simp only at h
  split at h
  · rename_i code'
    simp only [Option.bind_eq_some_iff] at h
    obtain ⟨code, h_code, h⟩ := h
    split at h
    case isFalse => cases h
    rename_i hc
    simp only [Option.some.injEq, Prod.mk.injEq] at h
    obtain ⟨h1, h2⟩ := h
    have h_code := decL_some (fun _ _ h => dU8_some h) h_code
    subst h_code
    exact ⟨code, rfl, hc, h1, h2.symm⟩
  · cases h
end Go.Proofs.YtonjbbfgdloljaaGreatDoor.L

namespace Go.Proofs.YtonjbbfgdloljaaGreatDoor.L
open Go Go.VM
set_option maxRecDepth 100000
set_option maxHeartbeats 4000000
set_option linter.unusedSimpArgs false
set_option linter.unusedVariables false
def isB (c : Int) (b : UInt8) : Bool := (b.toNat : Int) == c
def trimL (c : Int) (s : List UInt8) : List UInt8 := s.dropWhile (isB c)
def trimR (c : Int) (s : List UInt8) : List UInt8 := (s.reverse.dropWhile (isB c)).reverse
def trim (s : List UInt8) : List UInt8 := trimL 32 (trimR 32 s)
theorem trimL_nil (c : Int) : trimL c [] = [] := rfl
theorem trimL_hit {c : Int} {b : UInt8} {s : List UInt8} (h : isB c b = true) : trimL c (b :: s) = trimL c s := by simp [trimL, List.dropWhile_cons, h]
theorem trimL_miss {c : Int} {b : UInt8} {s : List UInt8} (h : isB c b = false) : trimL c (b :: s) = b :: s := by simp [trimL, List.dropWhile_cons, h]
theorem trimR_hit {c : Int} {b : UInt8} {s : List UInt8} (h : isB c b = true) : trimR c (s ++ [b]) = trimR c s := by simp [trimR, List.dropWhile_cons, h]
theorem trimR_miss {c : Int} {b : UInt8} {s : List UInt8} (h : isB c b = false) : trimR c (s ++ [b]) = s ++ [b] := by simp [trimR, List.dropWhile_cons, h]
theorem trimL_len (c : Int) (s : List UInt8) : (trimL c s).length ≤ s.length := by
  induction s with
  | nil => simp [trimL]
  | cons b s ih =>
    cases h : isB c b with
    | true => rw [trimL_hit h]; simp; omega
    | false => rw [trimL_miss h]; simp
theorem trimR_len (c : Int) (s : List UInt8) : (trimR c s).length ≤ s.length := by
  have := trimL_len c s.reverse
  simp only [trimL, List.length_reverse] at this
  simpa [trimR] using this
theorem trim_len (s : List UInt8) : (trim s).length ≤ s.length := Nat.le_trans (trimL_len _ _) (trimR_len _ _)
theorem no0 : ¬ (0 : Int) < ((0 : Nat) : Int) := by decide
theorem snoc_of {u : List UInt8} {n : Nat} (h : u.length = n + 1) : u = u.take n ++ [u[n]] := by
  have := take_succ' (x := u) (i := n) (by omega)
  rw [← this, List.take_of_length_le (by omega)]
open Classical in
noncomputable def spTrimL : VM.Spec := { modes := [.rd, .rd], run := fun | [.str s, .int .u8 c] => if s.length ≤ 1099511627776 then some (.str (trimL c s), []) else none | _ => none, need := [] }
attribute [go_sem] spTrimL
theorem spTrimL_in {ins : List V} {r : V} {outs : List V} (h : spTrimL.run ins = some (r, outs)) : ∃ (s : (List UInt8)) (c : Int), ins = [.str s, .int .u8 c] ∧ (s.length ≤ 1099511627776) ∧ .str (trimL c s) = r ∧ outs = [] := by
  unfold spTrimL at h
  simp only at h
  split at h
  · rename_i s c
    split at h
    case isFalse => cases h
    rename_i hc
    simp only [Option.some.injEq, Prod.mk.injEq] at h
    obtain ⟨h1, h2⟩ := h
    exact ⟨s, c, rfl, hc, h1, h2.symm⟩
  · cases h
open Classical in
noncomputable def spTrimR : VM.Spec := { modes := [.rd, .rd], run := fun | [.str s, .int .u8 c] => if s.length ≤ 1099511627776 then some (.str (trimR c s), []) else none | _ => none, need := [] }
attribute [go_sem] spTrimR
theorem spTrimR_in {ins : List V} {r : V} {outs : List V} (h : spTrimR.run ins = some (r, outs)) : ∃ (s : (List UInt8)) (c : Int), ins = [.str s, .int .u8 c] ∧ (s.length ≤ 1099511627776) ∧ .str (trimR c s) = r ∧ outs = [] := by
  unfold spTrimR at h
  simp only at h
  split at h
  · rename_i s c
    split at h
    case isFalse => cases h
    rename_i hc
    simp only [Option.some.injEq, Prod.mk.injEq] at h
    obtain ⟨h1, h2⟩ := h
    exact ⟨s, c, rfl, hc, h1, h2.symm⟩
  · cases h
open Classical in
noncomputable def spTrim : VM.Spec := { modes := [.rd, .rd], run := fun | [.str s, .str t] => if t = [32] ∧ s.length ≤ 1099511627776 then some (.str (trim s), []) else none | _ => none, need := [] }
attribute [go_sem] spTrim
theorem spTrim_in {ins : List V} {r : V} {outs : List V} (h : spTrim.run ins = some (r, outs)) : ∃ (s : (List UInt8)) (t : (List UInt8)), ins = [.str s, .str t] ∧ (t = [32] ∧ s.length ≤ 1099511627776) ∧ .str (trim s) = r ∧ outs = [] := by
  unfold spTrim at h
  simp only at h
  split at h
  · rename_i s t
    split at h
    case isFalse => cases h
    rename_i hc
    simp only [Option.some.injEq, Prod.mk.injEq] at h
    obtain ⟨h1, h2⟩ := h
    exact ⟨s, t, rfl, hc, h1, h2.symm⟩
  · cases h
theorem dropWhile_append_nil {p : UInt8 → Bool} {a b : List UInt8} (h : a.dropWhile p = []) : (a ++ b).dropWhile p = b.dropWhile p := by
  induction a with
  | nil => rfl
  | cons x a ih =>
    rw [List.dropWhile_cons] at h
    cases hx : p x with
    | true => rw [hx] at h; rw [List.cons_append, List.dropWhile_cons, hx]; exact ih h
    | false => rw [hx] at h; simp at h
theorem dropWhile_append_ne {p : UInt8 → Bool} {a b : List UInt8} (h : a.dropWhile p ≠ []) : (a ++ b).dropWhile p = a.dropWhile p ++ b := by
  induction a with
  | nil => simp at h
  | cons x a ih =>
    rw [List.dropWhile_cons] at h
    cases hx : p x with
    | true => rw [hx] at h; rw [List.cons_append, List.dropWhile_cons, hx, List.dropWhile_cons, hx]; exact ih h
    | false => rw [List.cons_append, List.dropWhile_cons, hx, List.dropWhile_cons, hx]; rfl
theorem all_of_dropWhile {p : UInt8 → Bool} {a : List UInt8} (h : a.dropWhile p = []) : ∀ x ∈ a, p x = true := by
  induction a with
  | nil => simp
  | cons x a ih =>
    rw [List.dropWhile_cons] at h
    cases hx : p x with
    | true =>
      rw [hx] at h
      intro y hy
      rcases List.mem_cons.1 hy with rfl | hy
      · exact hx
      · exact ih h y hy
    | false => rw [hx] at h; simp at h
theorem dropWhile_of_all {p : UInt8 → Bool} {a : List UInt8} (h : ∀ x ∈ a, p x = true) : a.dropWhile p = [] := by
  induction a with
  | nil => rfl
  | cons x a ih => rw [List.dropWhile_cons, h x (by simp)]; exact ih fun y hy => h y (by simp [hy])
theorem trim_comm (s : List UInt8) : trimR 32 (trimL 32 s) = trim s := by
  unfold trim
  induction s with
  | nil => rfl
  | cons b s ih =>
    cases hb : isB 32 b with
    | true =>
      rw [trimL_hit hb, ih]
      by_cases h : s.reverse.dropWhile (isB 32) = []
      · have e1 : trimR 32 s = [] := by simp [trimR, h]
        have e2 : trimR 32 (b :: s) = [] := by
          simp only [trimR, List.reverse_cons]
          rw [dropWhile_append_nil h]
          simp [List.dropWhile_cons, hb]
        rw [e1, e2]
      · have e2 : trimR 32 (b :: s) = b :: trimR 32 s := by
          simp only [trimR, List.reverse_cons]
          rw [dropWhile_append_ne h]
          simp
        rw [e2, trimL_hit hb]
    | false =>
      rw [trimL_miss hb]
      have e2 : ∃ t, trimR 32 (b :: s) = b :: t := by
        simp only [trimR, List.reverse_cons]
        by_cases h : s.reverse.dropWhile (isB 32) = []
        · rw [dropWhile_append_nil h]
          exact ⟨[], by simp [List.dropWhile_cons, hb]⟩
        · rw [dropWhile_append_ne h]
          exact ⟨(s.reverse.dropWhile (isB 32)).reverse, by simp⟩
      obtain ⟨t, e2⟩ := e2
      rw [e2, trimL_miss hb]
open Classical in
noncomputable def spTrim1 : VM.Spec := { modes := [.rd], run := fun | [.str s] => if s.length ≤ 1099511627776 then some (.str (trim s), []) else none | _ => none, need := [] }
attribute [go_sem] spTrim1
theorem spTrim1_in {ins : List V} {r : V} {outs : List V} (h : spTrim1.run ins = some (r, outs)) : ∃ (s : (List UInt8)), ins = [.str s] ∧ (s.length ≤ 1099511627776) ∧ .str (trim s) = r ∧ outs = [] := by
  unfold spTrim1 at h
  simp only at h
  split at h
  · rename_i s
    split at h
    case isFalse => cases h
    rename_i hc
    simp only [Option.some.injEq, Prod.mk.injEq] at h
    obtain ⟨h1, h2⟩ := h
    exact ⟨s, rfl, hc, h1, h2.symm⟩
  · cases h
def low1 (b : UInt8) : UInt8 := if 65 ≤ b.toNat ∧ b.toNat ≤ 90 then b + 32 else b
def lowS (s : List UInt8) : List UInt8 := s.map low1
theorem lowS_len (s : List UInt8) : (lowS s).length = s.length := by simp [lowS]
def lowTo (s : List UInt8) (i : Nat) : List UInt8 := (s.take i).map low1 ++ s.drop i
theorem lowTo_len (s : List UInt8) (i : Nat) : (lowTo s i).length = s.length := by simp [lowTo]; omega
theorem lowTo_get {s : List UInt8} {i : Nat} (h : i < s.length) : (lowTo s i)[i]? = some s[i] := by
  have h1 : ((s.take i).map low1).length = i := by simp; omega
  rw [lowTo, List.getElem?_append_right (by omega), h1, Nat.sub_self, List.getElem?_drop, Nat.add_zero]
  exact List.getElem?_eq_getElem h
theorem lowTo_succ {s : List UInt8} {i : Nat} (h : i < s.length) : (lowTo s i).set i (low1 s[i]) = lowTo s (i + 1) := by
  have h1 : ((s.take i).map low1).length = i := by simp; omega
  rw [lowTo, lowTo, List.set_append_right _ _ (by omega), h1, Nat.sub_self, List.drop_eq_getElem_cons h, List.set_cons_zero, take_succ' h, List.map_append, List.append_assoc]
  rfl
theorem lowTo_skip {s : List UInt8} {i : Nat} (h : i < s.length) (hn : low1 s[i] = s[i]) : lowTo s (i + 1) = lowTo s i := by
  rw [← lowTo_succ h, hn]
  apply List.ext_getElem?
  intro j
  rw [List.getElem?_set]
  split
  · rename_i e
    subst e
    rw [if_pos (by rw [lowTo_len]; exact h), lowTo_get h]
  · rfl
theorem lowTo_end {s : List UInt8} {i : Nat} (h : s.length ≤ i) : lowTo s i = lowS s := by simp [lowTo, lowS, List.take_of_length_le h, List.drop_of_length_le h]
theorem low1_up {b : UInt8} (h : within b.toNat 65 90 = true) : IntKind.u8.wrap ((b.toNat : Int) + 32) = (low1 b).toNat := by
  have hb : 65 ≤ b.toNat ∧ b.toNat ≤ 90 := by
    simp only [within, Bool.and_eq_true, decide_eq_true_eq] at h; omega
  have : (low1 b).toNat = b.toNat + 32 := by
    rw [low1, if_pos hb, UInt8.toNat_add]
    have e : UInt8.toNat 32 = 32 := rfl
    rw [e]; omega
  rw [this]
  simp only [IntKind.wrap, IntKind.signed, IntKind.bits]
  simp; omega
theorem low1_no {b : UInt8} (h : within b.toNat 65 90 = false) : low1 b = b := by
  have hb : ¬ (65 ≤ b.toNat ∧ b.toNat ≤ 90) := by
    intro hb
    simp only [within, Bool.and_eq_false_iff, decide_eq_false_iff_not] at h; omega
  rw [low1, if_neg hb]
open Classical in
noncomputable def spLow : VM.Spec := { modes := [.rd], run := fun | [.str s] => if s.length ≤ 1099511627776 then some (.str (lowS s), []) else none | _ => none, need := [] }
attribute [go_sem] spLow
theorem spLow_in {ins : List V} {r : V} {outs : List V} (h : spLow.run ins = some (r, outs)) : ∃ (s : (List UInt8)), ins = [.str s] ∧ (s.length ≤ 1099511627776) ∧ .str (lowS s) = r ∧ outs = [] := by
  unfold spLow at h
  simp only at h
  split at h
  · rename_i s
    split at h
    case isFalse => cases h
    rename_i hc
    simp only [Option.some.injEq, Prod.mk.injEq] at h
    obtain ⟨h1, h2⟩ := h
    exact ⟨s, rfl, hc, h1, h2.symm⟩
  · cases h
def T_impl_lower : Hints := ⟨lk [], lk [(3, [3, 8, 9, 10])], lk [(0, [0]), (1, [3]), (2, [3, 8, 9, 10]), (3, [3, 8, 9, 10, 11]), (4, [3, 4, 5, 8, 9, 10]), (5, [3, 4, 5, 8, 9, 10, 17]), (6, [3, 8, 9, 10]), (7, [3, 8, 9, 10]), (8, [2])], lk []⟩
noncomputable def Phi_impl_lower : Tab := lk [(41, spWithin)]
attribute [go_sem] T_impl_lower Phi_impl_lower
theorem phi_impl_lower : ∀ f sp, Phi_impl_lower f = some sp → FnOk Tryz.prog f sp ∧ ∀ n ∈ sp.need, n ∈ ([] : List String) := phi_cons ok_impl_within (n0 rfl) (phi_nil)
theorem ok_impl_lower : FnOk Tryz.prog 62 spLow := by
  refine fn_ok (Φ := Phi_impl_lower) (T := T_impl_lower) phi_impl_lower mixed Tryz.func62 rfl rfl rfl (by decide) ?_
  intro ins r outs hr hl
  clear hl
  have hs := spLow_in hr
  clear hr
  obtain ⟨s, rfl, hc, hr, rfl⟩ := hs
  simp only [spLow, Tryz.f62, Go.VM.initS]
  have hl : s.length ≤ 9223372036854775807 := by omega
  simp only [hl, go_sem]
  repeat' ((first | apply qa | apply qb | apply qc | apply qd | apply qe | apply qf | apply qg | apply qh | apply qi | apply qj | apply qk) <;> intro hp <;> simp only [hp, hl, go_sem])
  refine loop_go (fun i : Nat => [(10, .int .i64 (i : Int))]) (fun i => [(0, ⟨.arr, 1, bytesV (lowTo s i)⟩)]) (fun i => s.length - i) (fun i => i ≤ s.length) 0 (Nat.zero_le _) rfl rfl ?_
  intro i hi ih
  have hn := lowTo_len s i
  rcases Nat.lt_or_ge i s.length with h | h
  · have g1 : (i : Int) < s.length := by omega
    have g2 : (0 : Int) ≤ i := by omega
    have g3 := lowTo_get h
    have g5 := wrap_succ h (by omega)
    have ih' := ih (i + 1) h (by omega)
    cases hw : within (s[i].toNat : Int) 65 90 with
    | true =>
      have g6 := low1_up hw
      have e1 : (bytesV (lowTo s i)).set i (.int .u8 (IntKind.u8.wrap ((s[i].toNat : Int) + 32))) = bytesV (lowTo s (i + 1)) := by rw [g6, bytesV_set, lowTo_succ h]
      simp only [g1, g2, g3, g5, hn, byte_wrap, hw, e1, go_sem]
      repeat' ((first | apply qa | apply qb | apply qc | apply qd | apply qe | apply qf | apply qg | apply qh | apply qi | apply qj | apply qk) <;> intro hp <;> simp only [hp, g1, g2, g3, g5, hn, byte_wrap, hw, e1, go_sem])
      exact ih'
    | false =>
      rw [lowTo_skip h (low1_no hw)] at ih'
      simp only [g1, g2, g3, g5, hn, byte_wrap, hw, go_sem]
      repeat' ((first | apply qa | apply qb | apply qc | apply qd | apply qe | apply qf | apply qg | apply qh | apply qi | apply qj | apply qk) <;> intro hp <;> simp only [hp, g1, g2, g3, g5, hn, byte_wrap, hw, go_sem])
      exact ih'
  · have g1 : ¬ (i : Int) < s.length := by omega
    simp only [g1, hn, go_sem]
    repeat' ((first | apply qa | apply qb | apply qc | apply qd | apply qe | apply qf | apply qg | apply qh | apply qi | apply qj | apply qk) <;> intro hp <;> simp only [hp, g1, hn, go_sem])
    simp only [fin_mk, finV, resL, resV1, resIn, endA, listIn, Option.some_or, Option.none_or, oneOrTup, go_sem]
    rw [← hr]
    rw [lowTo_end h]
def T_spec_l06Low : Hints := ⟨lk [], lk [(3, [3, 4])], lk [(0, [0]), (1, [3]), (2, [3, 4]), (3, [3, 4, 10]), (5, [3, 4, 24]), (6, [3, 4]), (4, [3, 4]), (7, [2])], lk []⟩
noncomputable def Phi_spec_l06Low : Tab := lk []
attribute [go_sem] T_spec_l06Low Phi_spec_l06Low
theorem phi_spec_l06Low : ∀ f sp, Phi_spec_l06Low f = some sp → FnOk Tryz.prog f sp ∧ ∀ n ∈ sp.need, n ∈ ([] : List String) := phi_nil
theorem ok_spec_l06Low : FnOk Tryz.prog 69 spLow := by
  refine fn_ok (Φ := Phi_spec_l06Low) (T := T_spec_l06Low) phi_spec_l06Low mixed Tryz.func69 rfl rfl rfl (by decide) ?_
  intro ins r outs hr hl
  clear hl
  have hs := spLow_in hr
  clear hr
  obtain ⟨s, rfl, hc, hr, rfl⟩ := hs
  simp only [spLow, Tryz.f69, Go.VM.initS]
  have hl : s.length ≤ 9223372036854775807 := by omega
  simp only [hl, go_sem]
  repeat' ((first | apply qa | apply qb | apply qc | apply qd | apply qe | apply qf | apply qg | apply qh | apply qi | apply qj | apply qk) <;> intro hp <;> simp only [hp, hl, go_sem])
  refine loop_go (fun i : Nat => [(4, .int .i64 (i : Int))]) (fun i => [(0, ⟨.arr, 1, bytesV (lowTo s i)⟩)]) (fun i => s.length - i) (fun i => i ≤ s.length) 0 (Nat.zero_le _) rfl rfl ?_
  intro i hi ih
  have hn := lowTo_len s i
  rcases Nat.lt_or_ge i s.length with h | h
  · have g1 : (i : Int) < s.length := by omega
    have g2 : (0 : Int) ≤ i := by omega
    have g3 := lowTo_get h
    have g5 := wrap_succ h (by omega)
    have ih' := ih (i + 1) h (by omega)
    cases hw : within (s[i].toNat : Int) 65 90 with
    | true =>
      have g6 := low1_up hw
      have e1 : (bytesV (lowTo s i)).set i (.int .u8 (IntKind.u8.wrap ((s[i].toNat : Int) + 32))) = bytesV (lowTo s (i + 1)) := by rw [g6, bytesV_set, lowTo_succ h]
      simp only [within, Bool.and_eq_true, decide_eq_true_eq] at hw
      obtain ⟨w1, w2⟩ := hw
      simp only [g1, g2, g3, g5, hn, byte_wrap, w1, w2, e1, go_sem]
      repeat' ((first | apply qa | apply qb | apply qc | apply qd | apply qe | apply qf | apply qg | apply qh | apply qi | apply qj | apply qk) <;> intro hp <;> simp only [hp, g1, g2, g3, g5, hn, byte_wrap, w1, w2, e1, go_sem])
      exact ih'
    | false =>
      rw [lowTo_skip h (low1_no hw)] at ih'
      simp only [within, Bool.and_eq_false_iff, decide_eq_false_iff_not] at hw
      simp only [g1, g2, g3, g5, hn, byte_wrap, go_sem]
      repeat' ((first | apply qa | apply qb | apply qc | apply qd | apply qe | apply qf | apply qg | apply qh | apply qi | apply qj | apply qk) <;> intro hp <;> simp only [hp, g1, g2, g3, g5, hn, byte_wrap, go_sem])
      all_goals first
        | exact ih'
        | (exfalso; clear ih ih'; simp_all; done)
        | (exfalso; clear ih ih'; simp only [decide_eq_true_eq] at *; omega)
  · have g1 : ¬ (i : Int) < s.length := by omega
    simp only [g1, hn, go_sem]
    repeat' ((first | apply qa | apply qb | apply qc | apply qd | apply qe | apply qf | apply qg | apply qh | apply qi | apply qj | apply qk) <;> intro hp <;> simp only [hp, g1, hn, go_sem])
    simp only [fin_mk, finV, resL, resV1, resIn, endA, listIn, Option.some_or, Option.none_or, oneOrTup, go_sem]
    rw [← hr]
    rw [lowTo_end h]
theorem isPrefixOf_len {t s : List UInt8} (h : t.isPrefixOf s = true) : t.length ≤ s.length := (List.isPrefixOf_iff_prefix.1 h).length_le
theorem isPrefixOf_short {t s : List UInt8} (h : s.length < t.length) : t.isPrefixOf s = false := by
  cases hp : t.isPrefixOf s with
  | false => rfl
  | true => have := isPrefixOf_len hp; omega
theorem isPrefixOf_take (s t : List UInt8) : t.isPrefixOf s = (s.take t.length == t) := by
  rw [Bool.eq_iff_iff, List.isPrefixOf_iff_prefix, beq_iff_eq, List.prefix_iff_eq_take]
  exact ⟨fun h => h.symm, fun h => h.symm⟩
def cutPrefix (s t : List UInt8) : List UInt8 := if t.isPrefixOf s = true then s.drop t.length else s
open Classical in
noncomputable def spHasPrefix : VM.Spec := { modes := [.rd, .rd], run := fun | [.str s, .str t] => if s.length ≤ 1099511627776 ∧ t.length ≤ 1099511627776 then some (.bool (t.isPrefixOf s), []) else none | _ => none, need := [] }
attribute [go_sem] spHasPrefix
theorem spHasPrefix_in {ins : List V} {r : V} {outs : List V} (h : spHasPrefix.run ins = some (r, outs)) : ∃ (s : (List UInt8)) (t : (List UInt8)), ins = [.str s, .str t] ∧ (s.length ≤ 1099511627776 ∧ t.length ≤ 1099511627776) ∧ .bool (t.isPrefixOf s) = r ∧ outs = [] := by
  unfold spHasPrefix at h
  simp only at h
  split at h
  · rename_i s t
    split at h
    case isFalse => cases h
    rename_i hc
    simp only [Option.some.injEq, Prod.mk.injEq] at h
    obtain ⟨h1, h2⟩ := h
    exact ⟨s, t, rfl, hc, h1, h2.symm⟩
  · cases h
def T_internal_stringslite_HasPrefix : Hints := ⟨lk [], lk [], lk [(0, [0, 1]), (1, [4])], lk []⟩
noncomputable def Phi_internal_stringslite_HasPrefix : Tab := lk []
attribute [go_sem] T_internal_stringslite_HasPrefix Phi_internal_stringslite_HasPrefix
theorem phi_internal_stringslite_HasPrefix : ∀ f sp, Phi_internal_stringslite_HasPrefix f = some sp → FnOk Tryz.prog f sp ∧ ∀ n ∈ sp.need, n ∈ ([] : List String) := phi_nil
theorem ok_internal_stringslite_HasPrefix : FnOk Tryz.prog 136 spHasPrefix := by
  refine fn_ok (Φ := Phi_internal_stringslite_HasPrefix) (T := T_internal_stringslite_HasPrefix) phi_internal_stringslite_HasPrefix mixed Tryz.func136 rfl rfl rfl (by decide) ?_
  intro ins r outs hr hl
  clear hl
  have hs := spHasPrefix_in hr
  clear hr
  obtain ⟨s, t, rfl, hc, hr, rfl⟩ := hs
  simp only [spHasPrefix, Tryz.f136, Go.VM.initS]
  obtain ⟨h1, h2⟩ := hc
  rcases Nat.lt_or_ge s.length t.length with h | h
  · have g1 : ¬ (t.length : Int) ≤ s.length := by omega
    simp only [g1, go_sem]
    repeat' ((first | apply qa | apply qb | apply qc | apply qd | apply qe | apply qf | apply qg | apply qh | apply qi | apply qj | apply qk) <;> intro hp <;> simp only [hp, g1, go_sem])
    simp only [fin_mk, finV, resL, resV1, resIn, endA, listIn, Option.some_or, Option.none_or, oneOrTup, go_sem]
    rw [← hr]
    rw [isPrefixOf_short h]
  · have g1 : (t.length : Int) ≤ s.length := by omega
    have g2 : (0 : Int) ≤ t.length := by omega
    simp only [g1, g2, h, Nat.zero_le, List.drop_zero, Int.toNat_natCast, go_sem]
    repeat' ((first | apply qa | apply qb | apply qc | apply qd | apply qe | apply qf | apply qg | apply qh | apply qi | apply qj | apply qk) <;> intro hp <;> simp only [hp, g1, g2, h, Nat.zero_le, List.drop_zero, Int.toNat_natCast, go_sem])
    simp only [fin_mk, finV, resL, resV1, resIn, endA, listIn, Option.some_or, Option.none_or, oneOrTup, go_sem]
    rw [← hr]
    rw [isPrefixOf_take]
open Classical in
noncomputable def spCutPrefix : VM.Spec := { modes := [.rd, .rd], run := fun | [.str s, .str t] => if s.length ≤ 1099511627776 ∧ t.length ≤ 1099511627776 then some (.tup [.str (cutPrefix s t), .bool (t.isPrefixOf s)], []) else none | _ => none, need := [] }
attribute [go_sem] spCutPrefix
theorem spCutPrefix_in {ins : List V} {r : V} {outs : List V} (h : spCutPrefix.run ins = some (r, outs)) : ∃ (s : (List UInt8)) (t : (List UInt8)), ins = [.str s, .str t] ∧ (s.length ≤ 1099511627776 ∧ t.length ≤ 1099511627776) ∧ .tup [.str (cutPrefix s t), .bool (t.isPrefixOf s)] = r ∧ outs = [] := by
  unfold spCutPrefix at h
  simp only at h
  split at h
  · rename_i s t
    split at h
    case isFalse => cases h
    rename_i hc
    simp only [Option.some.injEq, Prod.mk.injEq] at h
    obtain ⟨h1, h2⟩ := h
    exact ⟨s, t, rfl, hc, h1, h2.symm⟩
  · cases h
def T_internal_stringslite_CutPrefix : Hints := ⟨lk [], lk [], lk [(0, [0, 1]), (1, [0, 1, 9]), (2, [4, 5]), (3, [4, 5])], lk []⟩
noncomputable def Phi_internal_stringslite_CutPrefix : Tab := lk [(136, spHasPrefix)]
attribute [go_sem] T_internal_stringslite_CutPrefix Phi_internal_stringslite_CutPrefix
theorem phi_internal_stringslite_CutPrefix : ∀ f sp, Phi_internal_stringslite_CutPrefix f = some sp → FnOk Tryz.prog f sp ∧ ∀ n ∈ sp.need, n ∈ ([] : List String) := phi_cons ok_internal_stringslite_HasPrefix (n0 rfl) (phi_nil)
theorem ok_internal_stringslite_CutPrefix : FnOk Tryz.prog 116 spCutPrefix := by
  refine fn_ok (Φ := Phi_internal_stringslite_CutPrefix) (T := T_internal_stringslite_CutPrefix) phi_internal_stringslite_CutPrefix mixed Tryz.func116 rfl rfl rfl (by decide) ?_
  intro ins r outs hr hl
  clear hl
  have hs := spCutPrefix_in hr
  clear hr
  obtain ⟨s, t, rfl, hc, hr, rfl⟩ := hs
  simp only [spCutPrefix, Tryz.f116, Go.VM.initS]
  obtain ⟨h1, h2⟩ := hc
  cases hp : t.isPrefixOf s with
  | false =>
    simp only [hp, h1, h2, go_sem]
    repeat' ((first | apply qa | apply qb | apply qc | apply qd | apply qe | apply qf | apply qg | apply qh | apply qi | apply qj | apply qk) <;> intro hp <;> simp only [hp, hp, h1, h2, go_sem])
    simp only [fin_mk, finV, resL, resV1, resIn, endA, listIn, Option.some_or, Option.none_or, oneOrTup, go_sem]
    rw [← hr]
    simp only [cutPrefix, hp, Bool.false_eq_true, if_false]
  | true =>
    have h3 := isPrefixOf_len hp
    have g2 : (0 : Int) ≤ t.length := by omega
    simp only [hp, h1, h2, h3, g2, Int.toNat_natCast, List.take_length, Nat.le_refl, go_sem]
    repeat' ((first | apply qa | apply qb | apply qc | apply qd | apply qe | apply qf | apply qg | apply qh | apply qi | apply qj | apply qk) <;> intro hp <;> simp only [hp, hp, h1, h2, h3, g2, Int.toNat_natCast, List.take_length, Nat.le_refl, go_sem])
    simp only [fin_mk, finV, resL, resV1, resIn, endA, listIn, Option.some_or, Option.none_or, oneOrTup, go_sem]
    rw [← hr]
    simp only [cutPrefix, hp, if_true]
def T_strings_CutPrefix : Hints := ⟨lk [], lk [], lk [(0, [0, 1]), (1, [4, 5])], lk []⟩
noncomputable def Phi_strings_CutPrefix : Tab := lk [(116, spCutPrefix)]
attribute [go_sem] T_strings_CutPrefix Phi_strings_CutPrefix
theorem phi_strings_CutPrefix : ∀ f sp, Phi_strings_CutPrefix f = some sp → FnOk Tryz.prog f sp ∧ ∀ n ∈ sp.need, n ∈ ([] : List String) := phi_cons ok_internal_stringslite_CutPrefix (n0 rfl) (phi_nil)
theorem ok_strings_CutPrefix : FnOk Tryz.prog 76 spCutPrefix := by
  refine fn_ok (Φ := Phi_strings_CutPrefix) (T := T_strings_CutPrefix) phi_strings_CutPrefix mixed Tryz.func76 rfl rfl rfl (by decide) ?_
  intro ins r outs hr hl
  clear hl
  have hs := spCutPrefix_in hr
  clear hr
  obtain ⟨s, t, rfl, hc, hr, rfl⟩ := hs
  simp only [spCutPrefix, Tryz.f76, Go.VM.initS]
  obtain ⟨h1, h2⟩ := hc
  simp only [h1, h2, go_sem]
  repeat' ((first | apply qa | apply qb | apply qc | apply qd | apply qe | apply qf | apply qg | apply qh | apply qi | apply qj | apply qk) <;> intro hp <;> simp only [hp, h1, h2, go_sem])
  simp only [fin_mk, finV, resL, resV1, resIn, endA, listIn, Option.some_or, Option.none_or, oneOrTup, go_sem]
  rw [← hr]
def re_ : List UInt8 := [114, 101, 58]
def fwd_ : List UInt8 := [102, 119, 100, 58]
def baseL : Nat → List UInt8 → List UInt8
  | 0, s => s
  | n + 1, s => if re_.isPrefixOf s = true then baseL n (trim (s.drop 3)) else if fwd_.isPrefixOf s = true then baseL n (trim (s.drop 4)) else s
theorem drop_lt {t s : List UInt8} {k : Nat} (hp : t.isPrefixOf s = true) (hk : t.length = k) (h0 : 0 < k) : (trim (s.drop k)).length < s.length := by
  have h1 := isPrefixOf_len hp
  have h2 := trim_len (s.drop k)
  rw [List.length_drop] at h2
  omega
theorem baseL_more : ∀ (n : Nat) (s : List UInt8), s.length ≤ n → baseL n s = baseL (n + 1) s
  | 0, s, h => by
    have : s = [] := List.eq_nil_of_length_eq_zero (by omega)
    subst this
    rfl
  | n + 1, s, h => by
    rw [baseL, baseL]
    cases h1 : re_.isPrefixOf s with
    | true =>
      have := drop_lt h1 (k := 3) rfl (by decide)
      simp only [if_true]
      exact baseL_more n _ (by omega)
    | false =>
      cases h2 : fwd_.isPrefixOf s with
      | true =>
        have := drop_lt h2 (k := 4) rfl (by decide)
        simp only [if_true, Bool.false_eq_true, if_false]
        exact baseL_more n _ (by omega)
      | false => simp only [Bool.false_eq_true, if_false]
theorem baseL_any {n : Nat} {s : List UInt8} (h : s.length ≤ n) : baseL n s = baseL s.length s := by
  induction n with
  | zero => rw [show s.length = 0 by omega]
  | succ n ih =>
    rcases Nat.lt_or_ge n s.length with h1 | h1
    · rw [show s.length = n + 1 by omega]
    · rw [← baseL_more n s h1, ih h1]
def base (s : List UInt8) : List UInt8 := baseL s.length s
theorem base_re {s : List UInt8} (h : re_.isPrefixOf s = true) : base s = base (trim (s.drop 3)) := by
  have h1 := drop_lt h (k := 3) rfl (by decide)
  unfold base
  rw [← baseL_any (n := s.length) (Nat.le_refl _)]
  obtain ⟨n, hn⟩ : ∃ n, s.length = n + 1 := ⟨s.length - 1, by omega⟩
  rw [hn, baseL, if_pos h, baseL_any (by omega)]
theorem base_fwd {s : List UInt8} (h0 : re_.isPrefixOf s = false) (h : fwd_.isPrefixOf s = true) : base s = base (trim (s.drop 4)) := by
  have h1 := drop_lt h (k := 4) rfl (by decide)
  unfold base
  obtain ⟨n, hn⟩ : ∃ n, s.length = n + 1 := ⟨s.length - 1, by omega⟩
  rw [hn, baseL, if_neg (by rw [h0]; simp), if_pos h, baseL_any (by omega)]
theorem base_end {s : List UInt8} (h0 : re_.isPrefixOf s = false) (h : fwd_.isPrefixOf s = false) : base s = s := by
  unfold base
  cases s.length with
  | zero => rfl
  | succ n => rw [baseL, if_neg (by rw [h0]; simp), if_neg (by rw [h]; simp)]
theorem isB_low (b : UInt8) : isB 32 (low1 b) = isB 32 b := by
  unfold low1
  split
  · rename_i h
    have : (b + 32).toNat = b.toNat + 32 := by
      rw [UInt8.toNat_add]
      have e : UInt8.toNat 32 = 32 := rfl
      rw [e]; omega
    have e1 : isB 32 b = false := by unfold isB; rw [beq_eq_false_iff_ne]; omega
    have e2 : isB 32 (b + 32) = false := by unfold isB; rw [beq_eq_false_iff_ne]; omega
    rw [e1, e2]
  · rfl
theorem dropWhile_low (s : List UInt8) : (s.map low1).dropWhile (isB 32) = (s.dropWhile (isB 32)).map low1 := by
  induction s with
  | nil => rfl
  | cons b s ih =>
    rw [List.map_cons, List.dropWhile_cons, List.dropWhile_cons, isB_low]
    cases isB 32 b with
    | true => exact ih
    | false => rfl
theorem trim_low (s : List UInt8) : trim (lowS s) = lowS (trim s) := by
  unfold trim trimL trimR lowS
  rw [← List.map_reverse, dropWhile_low, ← List.map_reverse, dropWhile_low]
def baseSubject (s : List UInt8) : List UInt8 := base (trim (lowS s))
open Classical in
noncomputable def spBaseSubject : VM.Spec := { modes := [.rd], run := fun | [.str s] => if s.length ≤ 1099511627776 then some (.str (baseSubject s), []) else none | _ => none, need := [] }
attribute [go_sem] spBaseSubject
theorem spBaseSubject_in {ins : List V} {r : V} {outs : List V} (h : spBaseSubject.run ins = some (r, outs)) : ∃ (s : (List UInt8)), ins = [.str s] ∧ (s.length ≤ 1099511627776) ∧ .str (baseSubject s) = r ∧ outs = [] := by
  unfold spBaseSubject at h
  simp only at h
  split at h
  · rename_i s
    split at h
    case isFalse => cases h
    rename_i hc
    simp only [Option.some.injEq, Prod.mk.injEq] at h
    obtain ⟨h1, h2⟩ := h
    exact ⟨s, rfl, hc, h1, h2.symm⟩
  · cases h
end Go.Proofs.YtonjbbfgdloljaaGreatDoor.L

