/- The check of a region's order, with the sets as numbers: quicker for the kernel. No condition. -/
import Derived.Test.YtknagbmhmjcnkaaVmRun
set_option linter.unusedVariables false
set_option linter.unusedSimpArgs false
namespace Go.VM
open Go
def ancM : List Oper → List Nat → List Nat
  | [], acc => acc
  | o :: os, acc => ancM os (acc ++ [(edgesOf o).foldl (fun m i => m ||| (1 <<< i) ||| acc.getD i 0) 0])
def pairChkM (ops : Array Oper) (need : List (Nat × Nat)) (M : Nat) (i a : Nat) : Bool :=
  M.testBit a ||
  match ops[i]?, ops[a]? with
  | some oi, some oa => (oa.apart ops oi && (clsO oa == 0 || clsO oi == 0 || (clsO oa == 1 && clsO oi == 1) || ((clsO oa == 1 || clsO oi == 1 || (okc oa && okc oi)) && need.contains (a, i))))
  | _, _ => false
def orderChkM (ops : Array Oper) (need : List (Nat × Nat)) : Bool :=
  (List.range ops.size).all fun i =>
    (match ops[i]? with | some o => (edgesOf o).all (· < i) | none => false) &&
    (List.range i).all fun a => pairChkM ops need ((ancM ops.toList []).getD i 0) i a

def Same (A : List (List Nat)) (M : List Nat) : Prop := ∀ i a, (A.getD i []).contains a = (M.getD i 0).testBit a
theorem same_fold {A : List (List Nat)} {M : List Nat} (h : Same A M) (a : Nat) : ∀ (l : List Nat) (m : Nat),
    (l.foldl (fun m i => m ||| (1 <<< i) ||| M.getD i 0) m).testBit a = (m.testBit a || (l.flatMap fun i => i :: A.getD i []).contains a)
  | [], m => by simp
  | i :: l, m => by
    rw [List.foldl_cons, same_fold h a l, List.flatMap_cons, List.contains_append, List.contains_cons, h i a, Nat.testBit_or, Nat.testBit_or, Nat.one_shiftLeft, Nat.testBit_two_pow]
    have : decide (i = a) = (a == i) := by
      by_cases e : i = a
      · simp [e]
      · simp [e, Ne.symm e]
    rw [this]
    simp only [Bool.or_assoc]
theorem same_anc : ∀ (os : List Oper) (A : List (List Nat)) (M : List Nat), A.length = M.length → Same A M → Same (ancs os A) (ancM os M)
  | [], A, M, _, h => h
  | o :: os, A, M, hl, h => by
    refine same_anc os _ _ (by simp [hl]) fun i a => ?_
    rcases Nat.lt_trichotomy i A.length with h1 | h1 | h1
    · have := h i a
      simp only [List.getD_eq_getElem?_getD, List.getElem?_append_left h1, List.getElem?_append_left (show i < M.length by omega)] at this ⊢
      exact this
    · subst h1
      have e1 : (A ++ [(edgesOf o).flatMap fun i => i :: A.getD i []]).getD A.length [] = (edgesOf o).flatMap fun i => i :: A.getD i [] := by
        simp [List.getD_eq_getElem?_getD]
      have e2 : (M ++ [(edgesOf o).foldl (fun m i => m ||| (1 <<< i) ||| M.getD i 0) 0]).getD A.length 0 = (edgesOf o).foldl (fun m i => m ||| (1 <<< i) ||| M.getD i 0) 0 := by
        simp [List.getD_eq_getElem?_getD, hl]
      rw [e1, e2, same_fold h]
      simp
    · have e1 : (A ++ [(edgesOf o).flatMap fun i => i :: A.getD i []]).getD i [] = [] := by
        simp only [List.getD_eq_getElem?_getD]
        rw [List.getElem?_eq_none (by simp; omega)]; rfl
      have e2 : (M ++ [(edgesOf o).foldl (fun m i => m ||| (1 <<< i) ||| M.getD i 0) 0]).getD i 0 = 0 := by
        simp only [List.getD_eq_getElem?_getD]
        rw [List.getElem?_eq_none (by simp; omega)]; rfl
      rw [e1, e2]; simp
theorem orderChk_of {ops : Array Oper} {need : List (Nat × Nat)} (h : orderChkM ops need = true) : orderChk ops need = true := by
  have hs : Same (ancs ops.toList []) (ancM ops.toList []) := same_anc _ _ _ rfl fun i a => by simp
  unfold orderChkM at h
  unfold orderChk
  rw [List.all_eq_true] at h ⊢
  intro i hi
  have := h i hi
  rw [Bool.and_eq_true] at this ⊢
  refine ⟨this.1, ?_⟩
  rw [List.all_eq_true]
  intro a ha
  have h2 := (List.all_eq_true.1 this.2) a ha
  have hi' : i < ops.size := List.mem_range.1 hi
  have ha' : a < ops.size := by have := List.mem_range.1 ha; omega
  unfold pairChkM at h2
  unfold pairChk
  rw [← hs i a] at h2
  simp only [Array.getElem?_eq_getElem hi', Array.getElem?_eq_getElem ha'] at h2 ⊢
  exact h2
section
variable {P : Program} {Φ : Tab} {T : Hints} {k : List Item} {s : St} {Q : St → Prop}
theorem goes_drawM {id : Nat} {ops : Array Oper} (need : List (Nat × Nat)) (hl : T.ord id = some need) (ho : T.opn id = none) (hok : orderChkM ops need = true) : Goes P Φ T (.code (.region id ops true) :: k) s Q ↔
    NextT P Φ ops s.nt s.next 0 ops.toList [] (ContD P Φ T (T.cut id) need k (s.next + stride * ops.size) s.nt s.io Q) (s.env, s.heap) := goes_draw need hl ho (orderChk_of hok)
end
end Go.VM
