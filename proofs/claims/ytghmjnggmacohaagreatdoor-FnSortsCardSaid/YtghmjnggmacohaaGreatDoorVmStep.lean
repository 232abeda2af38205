import Derived.Test.YtghmjnggmacohaaGreatDoorVmRun

/- The check of a region's order, with the sets as numbers: quicker for the kernel. No condition. -/
set_option linter.unusedVariables false
set_option linter.unusedSimpArgs false
namespace Go.VM
open Go
def ancM : List Oper → List Nat → List Nat
  | [], acc => acc
  | o :: os, acc => ancM os (acc ++ [(edgesOf o).foldl (fun m i => m ||| (1 <<< i) ||| acc.getD i 0) 0])
def pairChkM (ops : Array Oper) (need : List (Nat × Nat)) (M : Nat) (i a : Nat) : Bool :=
  M.testBit a ||
  match ops[i]?, ops[a]? with
  | some oi, some oa => (oa.apart ops oi && (clsO oa == 0 || clsO oi == 0 || (clsO oa == 1 && clsO oi == 1) || ((clsO oa == 1 || clsO oi == 1 || (okc oa && okc oi)) && need.contains (a, i))))
  | _, _ => false
def orderChkM (ops : Array Oper) (need : List (Nat × Nat)) : Bool :=
  (List.range ops.size).all fun i =>
    (match ops[i]? with | some o => (edgesOf o).all (· < i) | none => false) &&
    (List.range i).all fun a => pairChkM ops need ((ancM ops.toList []).getD i 0) i a

def Same (A : List (List Nat)) (M : List Nat) : Prop := ∀ i a, (A.getD i []).contains a = (M.getD i 0).testBit a
theorem same_fold {A : List (List Nat)} {M : List Nat} (h : Same A M) (a : Nat) : ∀ (l : List Nat) (m : Nat),
    (l.foldl (fun m i => m ||| (1 <<< i) ||| M.getD i 0) m).testBit a = (m.testBit a || (l.flatMap fun i => i :: A.getD i []).contains a)
  | [], m => by simp
  | i :: l, m => by
    rw [List.foldl_cons, same_fold h a l, List.flatMap_cons, List.contains_append, List.contains_cons, h i a, Nat.testBit_or, Nat.testBit_or, Nat.one_shiftLeft, Nat.testBit_two_pow]
    have : decide (i = a) = (a == i) := by
      by_cases e : i = a
      · simp [e]
      · simp [e, Ne.symm e]
    rw [this]
    simp only [Bool.or_assoc]
theorem same_anc : ∀ (os : List Oper) (A : List (List Nat)) (M : List Nat), A.length = M.length → Same A M → Same (ancs os A) (ancM os M)
  | [], A, M, _, h => h
  | o :: os, A, M, hl, h => by
    refine same_anc os _ _ (by simp [hl]) fun i a => ?_
    rcases Nat.lt_trichotomy i A.length with h1 | h1 | h1
    · have := h i a
      simp only [List.getD_eq_getElem?_getD, List.getElem?_append_left h1, List.getElem?_append_left (show i < M.length by omega)] at this ⊢
      exact this
    · subst h1
      have e1 : (A ++ [(edgesOf o).flatMap fun i => i :: A.getD i []]).getD A.length [] = (edgesOf o).flatMap fun i => i :: A.getD i [] := by
        simp [List.getD_eq_getElem?_getD]
      have e2 : (M ++ [(edgesOf o).foldl (fun m i => m ||| (1 <<< i) ||| M.getD i 0) 0]).getD A.length 0 = (edgesOf o).foldl (fun m i => m ||| (1 <<< i) ||| M.getD i 0) 0 := by
        simp [List.getD_eq_getElem?_getD, hl]
      rw [e1, e2, same_fold h]
      simp
    · have e1 : (A ++ [(edgesOf o).flatMap fun i => i :: A.getD i []]).getD i [] = [] := by
        simp only [List.getD_eq_getElem?_getD]
        rw [List.getElem?_eq_none (by simp; omega)]; rfl
      have e2 : (M ++ [(edgesOf o).foldl (fun m i => m ||| (1 <<< i) ||| M.getD i 0) 0]).getD i 0 = 0 := by
        simp only [List.getD_eq_getElem?_getD]
        rw [List.getElem?_eq_none (by simp; omega)]; rfl
      rw [e1, e2]; simp
theorem orderChk_of {ops : Array Oper} {need : List (Nat × Nat)} (h : orderChkM ops need = true) : orderChk ops need = true := by
  have hs : Same (ancs ops.toList []) (ancM ops.toList []) := same_anc _ _ _ rfl fun i a => by simp
  unfold orderChkM at h
  unfold orderChk
  rw [List.all_eq_true] at h ⊢
  intro i hi
  have := h i hi
  rw [Bool.and_eq_true] at this ⊢
  refine ⟨this.1, ?_⟩
  rw [List.all_eq_true]
  intro a ha
  have h2 := (List.all_eq_true.1 this.2) a ha
  have hi' : i < ops.size := List.mem_range.1 hi
  have ha' : a < ops.size := by have := List.mem_range.1 ha; omega
  unfold pairChkM at h2
  unfold pairChk
  rw [← hs i a] at h2
  simp only [Array.getElem?_eq_getElem hi', Array.getElem?_eq_getElem ha'] at h2 ⊢
  exact h2
section
variable {P : Program} {Φ : Tab} {T : Hints} {k : List Item} {s : St} {Q : St → Prop}
theorem goes_drawM {id : Nat} {ops : Array Oper} (need : List (Nat × Nat)) (hl : T.ord id = some need) (ho : T.opn id = none) (hok : orderChkM ops need = true) : Goes P Φ T (.code (.region id ops true) :: k) s Q ↔
    NextT P Φ ops s.nt s.next 0 ops.toList [] (ContD P Φ T (T.cut id) need k (s.next + stride * ops.size) s.nt s.io Q) (s.env, s.heap) := goes_draw need hl ho (orderChk_of hok)
end
end Go.VM

/- Steps of the abstract machine, one operation at a time, as rewrite rules. No condition. -/
set_option linter.unusedVariables false
set_option linter.unusedSimpArgs false
namespace Go.VM
open Go

/-- Goes on behind an operation. -/
def Thn (P : Program) (Φ : Tab) (ops : Array Oper) (nt n0 i : Nat) (d : Option Nat) (l : List Oper) (F : Env × Heap → Prop) (e : Env) (h : Heap) (r : V × List (Nat × Option Blk)) : Prop :=
  Next P Φ ops nt n0 (i + 1) l F (putE e d r.1, updsH h r.2)
section
variable {P : Program} {Φ : Tab} {ops : Array Oper} {nt n0 i : Nat} {l : List Oper} {F : Env × Heap → Prop} {e : Env} {h : Heap} {d t : Nat} {op : Op} {ty : TypeId} {p : String} {af : Array Edge}
theorem thn_none {v : V} {us : List (Nat × Option Blk)} : Thn P Φ ops nt n0 i none l F e h (v, us) ↔ Next P Φ ops nt n0 (i + 1) l F (e, updsH h us) := Iff.rfl
theorem thn_some {v : V} {us : List (Nat × Option Blk)} : Thn P Φ ops nt n0 i (some d) l F e h (v, us) ↔ Next P Φ ops nt n0 (i + 1) l F (updE e d v, updsH h us) := Iff.rfl
theorem thn_pure {v : V} : Thn P Φ ops nt n0 i (some d) l F e h (v, []) ↔ Next P Φ ops nt n0 (i + 1) l F (updE e d v, h) := Iff.rfl
theorem after_map {α β : Type} {f : α → β} {o : Option α} {G : β → Prop} : After (o.map f) G ↔ After o (fun r => G (f r)) := by cases o <;> rfl
theorem next_none : Next P Φ ops nt n0 i (⟨none, op, ty, p, af, none⟩ :: l) F (e, h) ↔ After (opV P Φ (n0 + stride * i) e h ⟨none, op, ty, p, af, none⟩) (Thn P Φ ops nt n0 i none l F e h) := by
  rw [next_cons]
  simp only [dstOk, if_true, wantedV, sel, after_map]
  rfl
theorem next_some (hd : d < nt) : Next P Φ ops nt n0 i (⟨some d, op, ty, p, af, none⟩ :: l) F (e, h) ↔ After (opV P Φ (n0 + stride * i) e h ⟨some d, op, ty, p, af, none⟩) (Thn P Φ ops nt n0 i (some d) l F e h) := by
  rw [next_cons]
  simp only [dstOk, hd, decide_true, if_true, wantedV, sel, after_map]
  rfl
theorem next_move (x : Operand) (hd : d < nt) : Next P Φ ops nt n0 i (⟨some d, .move x, ty, p, af, none⟩ :: l) F (e, h) ↔ Next P Φ ops nt n0 (i + 1) l F (updE e d (evO P e ty x), h) := by
  rw [next_some hd]; rfl
theorem next_assign (x : Operand) (hd : d < nt) : Next P Φ ops nt n0 i (⟨some d, .assign x, ty, p, af, none⟩ :: l) F (e, h) ↔ Next P Φ ops nt n0 (i + 1) l F (updE e d (evO P e ty x), h) := by
  rw [next_some hd]; rfl
/-- What a guard's operation gave. -/
def gval (o : Option Oper) (e : Env) : V := match o with | some o => (match o.dst with | some d => e d | none => .undef) | none => .undef
theorem gval_some {dd : Nat} {g : Option (Nat × Bool)} : gval (some ⟨some dd, op, ty, p, af, g⟩) e = e dd := rfl
def wantB : V → Bool → Option Bool
  | .bool b, w => some (b == w)
  | .void, _ => some false
  | _, _ => none
theorem wantB_t {b : Bool} : wantB (.bool b) true = some b := by cases b <;> rfl
theorem wantB_f {b : Bool} : wantB (.bool b) false = some (!b) := by cases b <;> rfl
theorem wantB_v {w : Bool} : wantB .void w = some false := rfl
theorem wanted_g {o : Oper} {j : Nat} {w : Bool} (ho : o.guard = some (j, w)) : wantedV ops e o = wantB (gval ops[j]? e) w := by
  unfold wantedV gval
  rw [ho]
  simp only
  cases hj : ops[j]? with
  | none => rfl
  | some oj =>
    cases hd : oj.dst with
    | none => simp [hd, wantB]
    | some dd =>
      simp only [Option.bind_some, hd]
      cases e dd <;> rfl
/-- A guarded operation: done, or passed over. -/
def Grd (P : Program) (Φ : Tab) (ops : Array Oper) (nt n0 i : Nat) (d : Option Nat) (o : Oper) (l : List Oper) (F : Env × Heap → Prop) (e : Env) (h : Heap) (w : Option Bool) : Prop :=
  match w with
  | some true => After (opV P Φ (n0 + stride * i) e h o) (Thn P Φ ops nt n0 i d l F e h)
  | some false => Next P Φ ops nt n0 (i + 1) l F (putE e d .void, h)
  | none => False
theorem next_g {j : Nat} {w : Bool} (hd : d < nt) : Next P Φ ops nt n0 i (⟨some d, op, ty, p, af, some (j, w)⟩ :: l) F (e, h) ↔ Grd P Φ ops nt n0 i (some d) ⟨some d, op, ty, p, af, some (j, w)⟩ l F e h (wantB (gval ops[j]? e) w) := by
  rw [next_cons, wanted_g (ops := ops) (e := e) (o := ⟨some d, op, ty, p, af, some (j, w)⟩) rfl]
  simp only [dstOk, hd, decide_true, if_true]
  unfold Grd
  split <;> rename_i hw <;> rw [hw]
  · simp only [sel, after_map]; rfl
  · rfl
  · rfl
theorem next_gn {j : Nat} {w : Bool} : Next P Φ ops nt n0 i (⟨none, op, ty, p, af, some (j, w)⟩ :: l) F (e, h) ↔ Grd P Φ ops nt n0 i none ⟨none, op, ty, p, af, some (j, w)⟩ l F e h (wantB (gval ops[j]? e) w) := by
  rw [next_cons, wanted_g (ops := ops) (e := e) (o := ⟨none, op, ty, p, af, some (j, w)⟩) rfl]
  simp only [dstOk, if_true]
  unfold Grd
  split <;> rename_i hw <;> rw [hw]
  · simp only [sel, after_map]; rfl
  · rfl
  · rfl
theorem grd_true {d : Option Nat} {o : Oper} : Grd P Φ ops nt n0 i d o l F e h (some true) ↔ After (opV P Φ (n0 + stride * i) e h o) (Thn P Φ ops nt n0 i d l F e h) := Iff.rfl
theorem grd_false {o : Oper} : Grd P Φ ops nt n0 i (some d) o l F e h (some false) ↔ Next P Φ ops nt n0 (i + 1) l F (updE e d .void, h) := Iff.rfl
theorem grd_falseN {o : Oper} : Grd P Φ ops nt n0 i none o l F e h (some false) ↔ Next P Φ ops nt n0 (i + 1) l F (e, h) := Iff.rfl
theorem grd_bool {d : Option Nat} {o : Oper} {b : Bool} : Grd P Φ ops nt n0 i d o l F e h (some b) ↔ (b = true → Grd P Φ ops nt n0 i d o l F e h (some true)) ∧ (b = false → Grd P Φ ops nt n0 i d o l F e h (some false)) := by
  cases b <;> simp
theorem grd_not {d : Option Nat} {o : Oper} {b : Bool} : Grd P Φ ops nt n0 i d o l F e h (some (!b)) ↔ (b = false → Grd P Φ ops nt n0 i d o l F e h (some true)) ∧ (b = true → Grd P Φ ops nt n0 i d o l F e h (some false)) := by
  cases b <;> simp
theorem grd_beq {d : Option Nat} {o : Oper} {α : Type} [BEq α] {x y : α} : Grd P Φ ops nt n0 i d o l F e h (some (x == y)) ↔ ((x == y) = true → Grd P Φ ops nt n0 i d o l F e h (some true)) ∧ ((x == y) = false → Grd P Φ ops nt n0 i d o l F e h (some false)) := grd_bool
theorem grd_dec {d : Option Nat} {o : Oper} {q : Prop} [Decidable q] : Grd P Φ ops nt n0 i d o l F e h (some (decide q)) ↔ (q → Grd P Φ ops nt n0 i d o l F e h (some true)) ∧ (¬ q → Grd P Φ ops nt n0 i d o l F e h (some false)) := by
  by_cases hq : q <;> simp [hq]
end
theorem condG_beq {P : Program} {Φ : Tab} {T : Hints} {k : List Item} {s : St} {Q : St → Prop} {α : Type} [BEq α] {a b : α} {x y : Code} : CondG P Φ T (.bool (a == b)) x y k s Q ↔ ((a == b) = true → Goes P Φ T (.code x :: k) s Q) ∧ ((a == b) = false → Goes P Φ T (.code y :: k) s Q) := condG_bool
/-! ### regions that draw, where no pair is to be looked at: as plain ones -/
section
variable {P : Program} {Φ : Tab} {T : Hints} {k : List Item} {s : St} {Q : St → Prop}
theorem runOT_fst (P : Program) (Φ : Tab) (ops : Array Oper) (nt n0 : Nat) : ∀ (i : Nat) (l : List Oper) (s : Env × Heap), (runOT P Φ ops nt n0 i l s).map (·.1) = runOs P Φ ops nt n0 i l s
  | _, [], s => rfl
  | i, o :: l, s => by
    simp only [runOT, runOs]
    cases hd : dstOk nt o.dst with
    | false => simp
    | true =>
      simp only [if_true]
      cases hw : wantedV ops s.1 o with
      | none => simp [sel]
      | some b =>
        cases b with
        | false =>
          simp only [sel, Option.bind_some, Option.map_map, updsH]
          rw [← runOT_fst P Φ ops nt n0 (i + 1) l]
          congr 1
        | true =>
          simp only [sel]
          cases opV P Φ (n0 + stride * i) s.1 s.2 o with
          | none => simp
          | some r =>
            simp only [Option.map_some, Option.bind_some, Option.map_map]
            rw [← runOT_fst P Φ ops nt n0 (i + 1) l]
            congr 1
theorem goes_draw0 {id : Nat} {ops : Array Oper} (hl : T.ord id = some []) (ho : T.opn id = none) (hok : orderChkM ops [] = true) : Goes P Φ T (.code (.region id ops true) :: k) s Q ↔
    Next P Φ ops s.nt s.next 0 ops.toList (Cont P Φ T (T.cut id) k (s.next + stride * ops.size) s.nt s.io Q) (s.env, s.heap) := by
  rw [goes_draw [] hl ho (orderChk_of hok)]
  unfold NextT Next
  rw [← runOT_fst P Φ ops s.nt s.next 0 ops.toList (s.env, s.heap), after_map]
  cases runOT P Φ ops s.nt s.next 0 ops.toList (s.env, s.heap) with
  | none => exact Iff.rfl
  | some q => simp only [after_some, ContD, Cont, dynOk, true_and]
end
theorem goes_opnD {P : Program} {Φ : Tab} {T : Hints} {k : List Item} {s : St} {Q : St → Prop} {id : Nat} {ops : Array Oper} {q : (Nat × List (Option Nat)) × (Nat × List (Option Nat))} (hl : T.ord id = some []) (ho : T.opn id = some q) (hok : orderChkM ops [] = true)
    (hg : OpenG s.heap s.next (openAt s.env s.heap q) fun b h => Next P Φ ops s.nt (s.next + stride) 0 ops.toList (ContC P Φ T (T.cut id) b k (s.next + stride + stride * ops.size) s.nt s.io Q) (s.env, h)) :
    Goes P Φ T (.code (.region id ops true) :: k) s Q := by
  refine goes_opnT hl (orderChk_of hok) ho ?_
  simp only [runOT_fst]
  exact hg
/-! ### a region whose ways meet again: what it leaves in one slot, told as one value -/
section
variable {P : Program} {Φ : Tab} {T : Hints} {k : List Item} {s : St} {Q : St → Prop}
theorem goes_regionN {id : Nat} {ops : Array Oper} (hn : T.ord id = none) (ho : T.opn id = none) : Goes P Φ T (.code (.region id ops false) :: k) s Q ↔
    Next P Φ ops s.nt s.next 0 ops.toList (Cont P Φ T (T.cut id) k (s.next + stride * ops.size) s.nt s.io Q) (s.env, s.heap) := goes_region ho
theorem next_mono {ops : Array Oper} {nt n0 i : Nat} {l : List Oper} {F G : Env × Heap → Prop} {r : Env × Heap} (hFG : ∀ q, F q → G q) (h : Next P Φ ops nt n0 i l F r) : Next P Φ ops nt n0 i l G r := by
  unfold Next After at *
  split at h
  · exact hFG _ h
  · exact h
theorem goes_val {α : Type} {id : Nat} {ops : Array Oper} {l : List Nat} (t : Nat) (mk : α → V) (f : α) (hl : T.cut id = some l) (hx : T.opn id = none)
    (hr : ∀ G : Env → Prop, (∀ b, b = f → G (eOf (keepR (updE s.env t (mk b)) l))) → Next P Φ ops s.nt s.next 0 ops.toList (fun r => G (eOf (keepR r.1 l)) ∧ r.2 = s.heap) (s.env, s.heap))
    (hc : Goes P Φ T k ⟨eOf (keepR (updE s.env t (mk f)) l), s.heap, s.next + stride * ops.size, s.nt, s.io⟩ Q) : Goes P Φ T (.code (.region id ops false) :: k) s Q := by
  rw [goes_region hx]
  refine next_mono (F := fun r => Goes P Φ T k ⟨eOf (keepR r.1 l), s.heap, s.next + stride * ops.size, s.nt, s.io⟩ Q ∧ r.2 = s.heap) ?_ (hr (fun e' => Goes P Φ T k ⟨e', s.heap, s.next + stride * ops.size, s.nt, s.io⟩ Q) fun b hb => by rw [hb]; exact hc)
  rintro ⟨e', h'⟩ ⟨h1, h2⟩
  simp only at h1 h2
  simp only [Cont, hl, cutV]
  rw [h2]; exact h1
theorem goes_valD {α : Type} {id : Nat} {ops : Array Oper} {l : List Nat} (t : Nat) (mk : α → V) (f : α) (hl : T.cut id = some l) (ho : T.ord id = some []) (hx : T.opn id = none) (hok : orderChkM ops [] = true)
    (hr : ∀ G : Env → Prop, (∀ b, b = f → G (eOf (keepR (updE s.env t (mk b)) l))) → Next P Φ ops s.nt s.next 0 ops.toList (fun r => G (eOf (keepR r.1 l)) ∧ r.2 = s.heap) (s.env, s.heap))
    (hc : Goes P Φ T k ⟨eOf (keepR (updE s.env t (mk f)) l), s.heap, s.next + stride * ops.size, s.nt, s.io⟩ Q) : Goes P Φ T (.code (.region id ops true) :: k) s Q := by
  rw [goes_draw0 ho hx hok]
  refine next_mono (F := fun r => Goes P Φ T k ⟨eOf (keepR r.1 l), s.heap, s.next + stride * ops.size, s.nt, s.io⟩ Q ∧ r.2 = s.heap) ?_ (hr (fun e' => Goes P Φ T k ⟨e', s.heap, s.next + stride * ops.size, s.nt, s.io⟩ Q) fun b hb => by rw [hb]; exact hc)
  rintro ⟨e', h'⟩ ⟨h1, h2⟩
  simp only at h1 h2
  simp only [Cont, hl, cutV]
  rw [h2]; exact h1
end
/-! ### operations, one by one -/
section
variable {P : Program} {Φ : Tab} {n : Nat} {e : Env} {h : Heap} {d : Option Nat} {ty : TypeId} {p : String} {af : Array Edge} {g : Option (Nat × Bool)}
theorem opr_move (x : Operand) : opV P Φ n e h ⟨d, .move x, ty, p, af, g⟩ = some (evO P e ty x, []) := rfl
theorem opr_assign (x : Operand) : opV P Φ n e h ⟨d, .assign x, ty, p, af, g⟩ = some (evO P e ty x, []) := rfl
def pickV (c a b : V) : Option (V × List (Nat × Option Blk)) := match c with | .bool t => some (if t then a else b, []) | _ => none
theorem opr_pick (c a b : Operand) : opV P Φ n e h ⟨d, .pick c a b, ty, p, af, g⟩ = pickV (evO P e ty c) (evO P e ty a) (evO P e ty b) := by
  simp only [opV, pickV]; cases evO P e ty c <;> rfl
theorem pick_true {a b : V} : pickV (.bool true) a b = some (a, []) := rfl
theorem pick_false {a b : V} : pickV (.bool false) a b = some (b, []) := rfl
theorem pick_or {t : Bool} {v : Bool} : pickV (.bool t) (.bool true) (.bool v) = some (.bool (t || v), []) := by cases t <;> rfl
theorem pick_and {t : Bool} {v : Bool} : pickV (.bool t) (.bool v) (.bool false) = some (.bool (t && v), []) := by cases t <;> rfl
theorem opr_alloc (t : TypeId) : opV P Φ n e h ⟨d, .alloc t, ty, p, af, g⟩ = (zeroV P t).map fun z => (.ptr n 0 none, [(n, some ⟨.box, z.cells.length, [z]⟩)]) := rfl
theorem opr_box (t : TypeId) (x : Operand) : opV P Φ n e h ⟨d, .box t x, ty, p, af, g⟩ = if storable h (evO P e t x) then some (.ptr n 0 none, [(n, some ⟨.box, (evO P e t x).cells.length, [evO P e t x]⟩)]) else none := rfl
theorem opr_load (t : TypeId) (a : Operand) : opV P Φ n e h ⟨d, .load t a, ty, p, af, g⟩ = (loadV P h t (evO P e ty a)).map fun v => (v, []) := rfl
theorem opr_store (t : TypeId) (a x : Operand) : opV P Φ n e h ⟨d, .store t a x, ty, p, af, g⟩ = (storeV P h t (evO P e ty a) (evO P e t x)).map fun us => (.undef, us) := rfl
theorem opr_bin (op : BinOp) (t : TypeId) (x y : Operand) (z : TypeId) : opV P Φ n e h ⟨d, .binOp op t x y z, ty, p, af, g⟩ = (binO P op t y (evO P e t x) (evO P e t y)).map fun v => (v, []) := rfl
theorem opr_un (op : UnOp) (t : TypeId) (x : Operand) : opV P Φ n e h ⟨d, .unOp op t x, ty, p, af, g⟩ = (unV op (evO P e ty x)).map fun v => (v, []) := rfl
theorem opr_conv (s t : TypeId) (x : Operand) : opV P Φ n e h ⟨d, .convert s t x, ty, p, af, g⟩ = convV P h n s t (evO P e s x) := rfl
theorem opr_slice (t : TypeId) (x : Operand) (lo hi : Option Operand) : opV P Φ n e h ⟨d, .slice t x lo hi none, ty, p, af, g⟩ = (sliceV P h t (evO P e t x) (lo.map (evO P e ty)) (hi.map (evO P e ty))).map fun v => (v, []) := rfl
theorem opr_slice3 (t : TypeId) (x lo hi mx : Operand) : opV P Φ n e h ⟨d, .slice t x (some lo) (some hi) (some mx), ty, p, af, g⟩ = slice3V P h t (evO P e t x) (evO P e ty lo) (evO P e ty hi) (evO P e ty mx) := rfl
theorem opr_nilCheck (x : Operand) : opV P Φ n e h ⟨d, .nilCheck x, ty, p, af, g⟩ = (nilV h (evO P e ty x)).map fun v => (v, []) := rfl
theorem opr_fieldAddr (t : TypeId) (x : Operand) (f : Nat) : opV P Φ n e h ⟨d, .fieldAddr t x f, ty, p, af, g⟩ = (fieldAddrV P h t (evO P e ty x) f).map fun v => (v, []) := rfl
def idxA (P : Program) (h : Heap) (t : TypeId) (x i : V) : Option (V × List (Nat × Option Blk)) := match i with | .int _ j => (indexAddrV P h t x j).map fun v => (v, []) | _ => none
theorem idxA_int {t : TypeId} {x : V} {k : IntKind} {j : Int} : idxA P h t x (.int k j) = (indexAddrV P h t x j).map fun v => (v, []) := rfl
theorem opr_indexAddr (t : TypeId) (x i : Operand) : opV P Φ n e h ⟨d, .indexAddr t x i, ty, p, af, g⟩ = idxA P h t (evO P e t x) (evO P e ty i) := by
  simp only [opV, idxA]; cases evO P e ty i <;> rfl
theorem opr_extract (x : Operand) (i : Nat) : opV P Φ n e h ⟨d, .extract x i, ty, p, af, g⟩ = (match evO P e ty x with | .tup l => (l[i]?).map fun v => (v, []) | _ => none) := rfl
theorem opr_call1 (b : Builtin) (args : Array Operand) (tys : Array TypeId) : opV P Φ n e h ⟨d, .call ⟨.builtin b, args, tys⟩, ty, p, af, g⟩ =
    builtinV P h n b tys ((args.toList.zip (tys.toList ++ List.replicate args.size 0)).map fun x => evO P e x.2 x.1) := rfl
theorem opr_call (f : Operand) (args : Array Operand) (tys : Array TypeId) : opV P Φ n e h ⟨d, .call ⟨.value f, args, tys⟩, ty, p, af, g⟩ =
    (callee e ((args.toList.zip (tys.toList ++ List.replicate args.size 0)).map fun x => evO P e x.2 x.1) f).bind fun p => callV Φ h n p.1 p.2 := rfl
theorem opr_field (t : TypeId) (x : Operand) (f : Nat) : opV P Φ n e h ⟨d, .field t x f, ty, p, af, g⟩ = (match evO P e t x with
    | .agg l => if scalarField P t f then (l[f]?).map fun v => (v, []) else none
    | _ => none) := rfl
theorem opr_index (t : TypeId) (x i : Operand) : opV P Φ n e h ⟨d, .index t x i, ty, p, af, g⟩ = (match P.underlying t, evO P e t x, evO P e ty i with
    | some .string, .str s, .int _ j => if 0 ≤ j then (s[j.toNat]?).map fun b => (.int .u8 b.toNat, []) else none
    | _, _, _ => none) := rfl
theorem opr_build (t : TypeId) (ps : Array (Nat × Operand)) : opV P Φ n e h ⟨d, .build t ps, ty, p, af, g⟩ = (match zeroV P t with
    | some (.agg z) => if fieldsFlat P t ∧ P.cellsOf t = z.length then (buildL h (ps.toList.map fun p => (p.1, evO P e t p.2)) z).map fun l => (.agg l, []) else none
    | _ => none) := rfl
theorem opr_buildSlice (t : TypeId) (len : Nat) (ps : Array (Nat × Operand)) : opV P Φ n e h ⟨d, .buildSlice t len ps, ty, p, af, g⟩ = (match P.underlying t with
    | some (.slice el) =>
      (match (zeroV P el).bind (clA h) with
       | some (z, []) => if z.cells.length = P.cellsOf el ∧ 0 < P.cellsOf el ∧ len * P.cellsOf el ≤ 16777216 then
           (clParts h (P.cellsOf el) (ps.toList.map fun p => (p.1, evO P e el p.2)) (List.replicate len z)).bind fun r =>
             if nodupB r.2 then some (.own n, gone r.2 ++ [(n, some ⟨.arr, P.cellsOf el, r.1⟩)]) else none
         else none
       | _ => none)
    | _ => none) := rfl
theorem opr_makeMap (t : TypeId) : opV P Φ n e h ⟨d, .makeMap t none, ty, p, af, g⟩ = some (.ptr n 1 none, [(n, some ⟨.map, 0, [.lst 2 []]⟩)]) := rfl
theorem opr_lookup (t : TypeId) (m k : Operand) : opV P Φ n e h ⟨d, .lookup t m k true, ty, p, af, g⟩ = (lookupV P h t (evO P e t m) (evO P e t k)).map fun v => (v, []) := rfl
theorem opr_mapUpdate (t : TypeId) (m k x : Operand) : opV P Φ n e h ⟨d, .mapUpdate t m k x, ty, p, af, g⟩ = (mapPutV P h t (evO P e t m) (evO P e t k) (evO P e t x)).map fun us => (.undef, us) := rfl
theorem opr_makeFunc (f : Nat) (first caps : Array Operand) : opV P Φ n e h ⟨d, .makeFunc (.func f) first caps, ty, p, af, g⟩ = if first.size = 0 then some (.fn f (caps.toList.map (evO P e ty)), []) else none := rfl
theorem opr_makeSlice (t : TypeId) (a c : Operand) : opV P Φ n e h ⟨d, .makeSlice t a c, ty, p, af, g⟩ = (match P.underlying t, evO P e ty a, evO P e ty c with
    | some (.slice el), .int .i64 a, .int .i64 b =>
      (match (zeroV P el).bind (clA h) with
       | some (z, []) => if z.cells.length = P.cellsOf el ∧ 0 < P.cellsOf el ∧ a = b ∧ 0 ≤ a ∧ a ≤ 9223372036854775807 ∧ a * P.bytesOf el ≤ 140737488355328 then
           some (.own n, [(n, some ⟨.arr, P.cellsOf el, List.replicate a.toNat z⟩)]) else none
       | _ => none)
    | _, _, _ => none) := rfl
end
/-! ### numbers and texts -/
section
variable {P : Program} {t : TypeId} {k : IntKind} {a b : Int} {s u : List UInt8} {x y : Bool}
theorem binO_tmp {op : BinOp} {u : Tmp} {vx vy : V} : binO P op t (.tmp u) vx vy = binV P op t vx vy := rfl
theorem binO_int {op : BinOp} {m : Int} {vx vy : V} : binO P op t (.const (.int k m)) vx vy = binV P op t vx vy := rfl
theorem binO_str {op : BinOp} {m : ByteArray} {vx vy : V} : binO P op t (.const (.string m)) vx vy = binV P op t vx vy := rfl
theorem binO_bool {op : BinOp} {m : Bool} {vx vy : V} : binO P op t (.const (.bool m)) vx vy = binV P op t vx vy := rfl
theorem binO_slice {op : BinOp} {m : Option Addr} {i j : Nat} {vx vy : V} : binO P op t (.const (.slice m i j)) vx vy = binV P op t vx vy := rfl
theorem binO_nil {op : BinOp} {vx vy : V} : binO P op t (.const .nilIface) vx vy = if ifaceT P t = true then errCmp op vx else none := rfl
theorem bin_add : binV P .add t (.int k a) (.int k b) = some (.int k (k.wrap (a + b))) := by simp [binV, intOp]
theorem bin_sub : binV P .sub t (.int k a) (.int k b) = some (.int k (k.wrap (a - b))) := by simp [binV, intOp]
theorem bin_mul : binV P .mul t (.int k a) (.int k b) = some (.int k (k.wrap (a * b))) := by simp [binV, intOp]
theorem bin_quo : binV P .quo t (.int k a) (.int k b) = if b = 0 then none else some (.int k (k.wrap (a.tdiv b))) := by simp [binV, intOp]
theorem bin_rem : binV P .rem t (.int k a) (.int k b) = if b = 0 then none else some (.int k (a.tmod b)) := by simp [binV, intOp]
theorem bin_and : binV P .and t (.int k a) (.int k b) = some (.int k (k.wrap (BitVec.ofInt k.bits a &&& BitVec.ofInt k.bits b).toNat)) := by simp [binV, intOp]
theorem bin_or : binV P .or t (.int k a) (.int k b) = some (.int k (k.wrap (BitVec.ofInt k.bits a ||| BitVec.ofInt k.bits b).toNat)) := by simp [binV, intOp]
theorem bin_xor : binV P .xor t (.int k a) (.int k b) = some (.int k (k.wrap (BitVec.ofInt k.bits a ^^^ BitVec.ofInt k.bits b).toNat)) := by simp [binV, intOp]
theorem bin_andNot : binV P .andNot t (.int k a) (.int k b) = some (.int k (k.wrap (BitVec.ofInt k.bits a &&& ~~~ BitVec.ofInt k.bits b).toNat)) := by simp [binV, intOp]
theorem bin_eql : binV P .eql t (.int k a) (.int k b) = some (.bool (a == b)) := by simp [binV, intOp]
theorem bin_neq : binV P .neq t (.int k a) (.int k b) = some (.bool (a != b)) := by simp [binV, intOp]
theorem bin_lss : binV P .lss t (.int k a) (.int k b) = some (.bool (decide (a < b))) := by simp [binV, intOp]
theorem bin_leq : binV P .leq t (.int k a) (.int k b) = some (.bool (decide (a ≤ b))) := by simp [binV, intOp]
theorem bin_gtr : binV P .gtr t (.int k a) (.int k b) = some (.bool (decide (b < a))) := by simp [binV, intOp]
theorem bin_geq : binV P .geq t (.int k a) (.int k b) = some (.bool (decide (b ≤ a))) := by simp [binV, intOp]
theorem bin_shl {k' : IntKind} : binV P .shl t (.int k a) (.int k' b) = shiftOp .shl k a b := rfl
theorem bin_shr {k' : IntKind} : binV P .shr t (.int k a) (.int k' b) = shiftOp .shr k a b := rfl
theorem bin_sadd : binV P .add t (.str s) (.str u) = if s.length + u.length ≤ 9223372036854775807 then some (.str (s ++ u)) else none := rfl
theorem bin_seql : binV P .eql t (.str s) (.str u) = some (.bool (s == u)) := rfl
theorem bin_sneq : binV P .neq t (.str s) (.str u) = some (.bool (s != u)) := rfl
theorem bin_slss : binV P .lss t (.str s) (.str u) = some (.bool (Op.bytesLess s u)) := rfl
theorem bin_sleq : binV P .leq t (.str s) (.str u) = some (.bool (Op.bytesLess s u || s == u)) := rfl
theorem bin_sgtr : binV P .gtr t (.str s) (.str u) = some (.bool (!(Op.bytesLess s u || s == u))) := rfl
theorem bin_sgeq : binV P .geq t (.str s) (.str u) = some (.bool (!(Op.bytesLess s u))) := rfl
theorem bin_beql : binV P .eql t (.bool x) (.bool y) = if isBool P t then some (.bool (x == y)) else none := rfl
theorem bin_aeql {xs ys : List V} : binV P .eql t (.agg xs) (.agg ys) = (structEq P t).bind fun ks => (eqCells ks xs ys).map fun b => .bool b := rfl
theorem bin_aneq {xs ys : List V} : binV P .neq t (.agg xs) (.agg ys) = (structEq P t).bind fun ks => (eqCells ks xs ys).map fun b => .bool (!b) := rfl
theorem bin_bneq : binV P .neq t (.bool x) (.bool y) = if isBool P t then some (.bool (!(x == y))) else none := rfl
end
theorem eOf_hit (k : Nat) (v : V) (l : List (Nat × V)) : eOf ((k, v) :: l) k = v := by simp [eOf]
/-! ### the rules that part a walk, under short names -/
section
variable {α : Type} {P : Program} {Φ : Tab} {T : Hints} {ops : Array Oper} {nt n0 i : Nat} {l : List Oper} {F : Env × Heap → Prop} {e : Env} {h : Heap} {d : Option Nat} {o : Oper} {b : Bool} {p : Prop} {x y : Code} {k : List Item} {s : St} {Q : St → Prop}
theorem qa {u v : Option α} {F : α → Prop} (h1 : b = true → After u F) (h2 : b = false → After v F) : After (if b = true then u else v) F := after_iteT.2 ⟨h1, h2⟩
theorem qb {u v : Option α} {F : α → Prop} (h1 : b = false → After u F) (h2 : b = true → After v F) : After (if b = false then u else v) F := after_iteF.2 ⟨h1, h2⟩
theorem qc [Decidable p] {u v : Option α} {F : α → Prop} (h1 : p → After u F) (h2 : ¬ p → After v F) : After (if p then u else v) F := after_ite.2 ⟨h1, h2⟩
theorem qd (h1 : b = false → Grd P Φ ops nt n0 i d o l F e h (some true)) (h2 : b = true → Grd P Φ ops nt n0 i d o l F e h (some false)) : Grd P Φ ops nt n0 i d o l F e h (some (!b)) := grd_not.2 ⟨h1, h2⟩
theorem qe [BEq α] {u v : α} (h1 : (u == v) = true → Grd P Φ ops nt n0 i d o l F e h (some true)) (h2 : (u == v) = false → Grd P Φ ops nt n0 i d o l F e h (some false)) : Grd P Φ ops nt n0 i d o l F e h (some (u == v)) := grd_beq.2 ⟨h1, h2⟩
theorem qf [Decidable p] (h1 : p → Grd P Φ ops nt n0 i d o l F e h (some true)) (h2 : ¬ p → Grd P Φ ops nt n0 i d o l F e h (some false)) : Grd P Φ ops nt n0 i d o l F e h (some (decide p)) := grd_dec.2 ⟨h1, h2⟩
theorem qg (h1 : b = true → Grd P Φ ops nt n0 i d o l F e h (some true)) (h2 : b = false → Grd P Φ ops nt n0 i d o l F e h (some false)) : Grd P Φ ops nt n0 i d o l F e h (some b) := grd_bool.2 ⟨h1, h2⟩
theorem qh (h1 : b = false → Goes P Φ T (.code x :: k) s Q) (h2 : b = true → Goes P Φ T (.code y :: k) s Q) : CondG P Φ T (.bool (!b)) x y k s Q := condG_not.2 ⟨h1, h2⟩
theorem qi [BEq α] {u v : α} (h1 : (u == v) = true → Goes P Φ T (.code x :: k) s Q) (h2 : (u == v) = false → Goes P Φ T (.code y :: k) s Q) : CondG P Φ T (.bool (u == v)) x y k s Q := condG_beq.2 ⟨h1, h2⟩
theorem qj [Decidable p] (h1 : p → Goes P Φ T (.code x :: k) s Q) (h2 : ¬ p → Goes P Φ T (.code y :: k) s Q) : CondG P Φ T (.bool (decide p)) x y k s Q := condG_dec.2 ⟨h1, h2⟩
theorem qk (h1 : b = true → Goes P Φ T (.code x :: k) s Q) (h2 : b = false → Goes P Φ T (.code y :: k) s Q) : CondG P Φ T (.bool b) x y k s Q := condG_bool.2 ⟨h1, h2⟩
theorem ql {id : Nat} {ops : Array Oper} (hl : T.ord id = some []) (ho : T.opn id = none) (hok : orderChkM ops [] = true)
    (h : Next P Φ ops s.nt s.next 0 ops.toList (Cont P Φ T (T.cut id) k (s.next + stride * ops.size) s.nt s.io Q) (s.env, s.heap)) : Goes P Φ T (.code (.region id ops true) :: k) s Q := (goes_draw0 hl ho hok).2 h
theorem qm {id : Nat} {ops : Array Oper} (need : List (Nat × Nat)) (hl : T.ord id = some need) (ho : T.opn id = none) (hok : orderChkM ops need = true)
    (h : NextT P Φ ops s.nt s.next 0 ops.toList [] (ContD P Φ T (T.cut id) need k (s.next + stride * ops.size) s.nt s.io Q) (s.env, s.heap)) : Goes P Φ T (.code (.region id ops true) :: k) s Q := (goes_drawM need hl ho hok).2 h
end
end Go.VM

