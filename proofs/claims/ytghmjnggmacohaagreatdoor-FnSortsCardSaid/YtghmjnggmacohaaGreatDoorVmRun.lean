/- Running the abstract machine by rewriting. -/
import Derived.Test.YtghmjnggmacohaaGreatDoorVmBase
set_option linter.unusedVariables false
set_option linter.unusedSimpArgs false
namespace Go.VM

/-- It comes to something, of which F holds. -/
def After {α : Type} (o : Option α) (F : α → Prop) : Prop := match o with | some r => F r | none => False
theorem after_some {α : Type} {r : α} {F : α → Prop} : After (some r) F ↔ F r := Iff.rfl
theorem after_none {α : Type} {F : α → Prop} : After (none : Option α) F ↔ False := Iff.rfl
theorem map_ite {α β : Type} {p : Prop} [Decidable p] {a b : Option α} {f : α → β} : (if p then a else b).map f = if p then a.map f else b.map f := by split <;> rfl
theorem after_ite {α : Type} {p : Prop} [Decidable p] {a b : Option α} {F : α → Prop} : After (if p then a else b) F ↔ (p → After a F) ∧ (¬ p → After b F) := by
  split <;> simp_all
theorem after_iteT {α : Type} {c : Bool} {a b : Option α} {F : α → Prop} : After (if c = true then a else b) F ↔ (c = true → After a F) ∧ (c = false → After b F) := by
  cases c <;> simp
theorem after_iteF {α : Type} {c : Bool} {a b : Option α} {F : α → Prop} : After (if c = false then a else b) F ↔ (c = false → After a F) ∧ (c = true → After b F) := by
  cases c <;> simp
section
variable (P : Program) (Φ : Tab) (T : Hints)

/-- From these items and this state the code ends in a state of which Q holds. -/
def Goes (k : List Item) (s : St) (Q : St → Prop) : Prop := ∃ n r, go P Φ T n k s = some r ∧ Q r

/-- On with what stands behind a region. -/
def Cont (c : Option (List Nat)) (k : List Item) (next nt : Nat) (io : List V) (Q : St → Prop) (r : Env × Heap) : Prop := Goes P Φ T k { env := cutV c r.1, heap := r.2, next := next, nt := nt, io := io } Q
def ContD (c : Option (List Nat)) (need : List (Nat × Nat)) (k : List Item) (next nt : Nat) (io : List V) (Q : St → Prop) (q : (Env × Heap) × List Fp) : Prop :=
  dynOk need q.2 = true ∧ Goes P Φ T k { env := cutV c q.1.1, heap := q.1.2, next := next, nt := nt, io := io } Q

variable {P Φ T} {k : List Item} {s : St} {Q : St → Prop}
theorem cont_pair {c : Option (List Nat)} {next nt : Nat} {io : List V} {e : Env} {h : Heap} : Cont P Φ T c k next nt io Q (e, h) ↔ Goes P Φ T k { env := cutV c e, heap := h, next := next, nt := nt, io := io } Q := Iff.rfl
theorem contD_pair {c : Option (List Nat)} {need : List (Nat × Nat)} {next nt : Nat} {io : List V} {e : Env} {h : Heap} {tr : List Fp} : ContD P Φ T c need k next nt io Q ((e, h), tr) ↔ dynOk need tr = true ∧ Goes P Φ T k { env := cutV c e, heap := h, next := next, nt := nt, io := io } Q := Iff.rfl

theorem goes_step {k : List Item} {s : St} {k' : List Item} {s' : St} (h : ∀ n, go P Φ T (n + 1) k s = go P Φ T n k' s') :
    Goes P Φ T k s Q ↔ Goes P Φ T k' s' Q := by
  constructor
  · rintro ⟨n, r, hn, hq⟩
    cases n with
    | zero => simp [go] at hn
    | succ n => exact ⟨n, r, by rw [← h]; exact hn, hq⟩
  · rintro ⟨n, r, hn, hq⟩
    exact ⟨n + 1, r, by rw [h]; exact hn, hq⟩
theorem goes_end {k : List Item} {s : St} (h : ∀ n, go P Φ T (n + 1) k s = some s) : Goes P Φ T k s Q ↔ Q s := by
  constructor
  · rintro ⟨n, r, hn, hq⟩
    cases n with
    | zero => simp [go] at hn
    | succ n => rw [h] at hn; cases hn; exact hq
  · intro hq; exact ⟨1, s, h 0, hq⟩
theorem goes_nil : Goes P Φ T [] s Q ↔ Q s := goes_end fun n => by simp [go]
theorem goes_ret : Goes P Φ T (.code .ret :: k) s Q ↔ Q s := goes_end fun n => by simp [go]
theorem goes_skip : Goes P Φ T (.code .skip :: k) s Q ↔ Goes P Φ T k s Q := goes_step fun n => by simp [go]
theorem goes_inBlock {i : Nat} : Goes P Φ T (.inBlock i :: k) s Q ↔ Goes P Φ T k s Q := goes_step fun n => by simp [go]
theorem goes_inScope {c : Code} : Goes P Φ T (.inScope c :: k) s Q ↔ Goes P Φ T k s Q := goes_step fun n => by simp [go]
theorem goes_seq {a b : Code} : Goes P Φ T (.code (.seq a b) :: k) s Q ↔ Goes P Φ T (.code a :: .code b :: k) s Q := goes_step fun n => by simp [go]
theorem goes_block {i : Nat} {c : Code} : Goes P Φ T (.code (.block i c) :: k) s Q ↔ Goes P Φ T (.code c :: .inBlock i :: k) s Q := goes_step fun n => by simp [go]
theorem goes_scope {c : Code} : Goes P Φ T (.code (.scope c) :: k) s Q ↔ Goes P Φ T (.code c :: .inScope c :: k) s Q := goes_step fun n => by simp [go]
theorem goes_exit {i : Nat} {k' : List Item} (h : exitTo i k = some k') : Goes P Φ T (.code (.exit i) :: k) s Q ↔ Goes P Φ T k' s Q := goes_step fun n => by simp [go, h]
def ExitO (o : Option (List Item)) (s : St) (Q : St → Prop) : Prop := match o with | some k' => Goes P Φ T k' s Q | none => False
theorem exitO_some {k' : List Item} : ExitO (P := P) (Φ := Φ) (T := T) (some k') s Q ↔ Goes P Φ T k' s Q := Iff.rfl
theorem goes_exitO {i : Nat} : Goes P Φ T (.code (.exit i) :: k) s Q ↔ ExitO (P := P) (Φ := Φ) (T := T) (exitTo i k) s Q := by
  unfold ExitO
  split
  · rename_i k' h; exact goes_exit h
  · rename_i h
    constructor
    · rintro ⟨n, r, hn, _⟩
      cases n with
      | zero => simp [go] at hn
      | succ n => simp [go, h] at hn
    · exact False.elim
/-- The beginning of a loop's round. -/
def Head (c : Code) (k : List Item) (s : St) (Q : St → Prop) : Prop := Goes P Φ T (.code c :: .inLoop c :: k) s Q
def HeadO (o : Option (List Nat)) (z : List Nat) (c : Code) (k : List Item) (s : St) (Q : St → Prop) : Prop := match o with | some l => Head (P := P) (Φ := Φ) (T := T) c k (canon l (frzS z s)) Q | none => Head (P := P) (Φ := Φ) (T := T) c k s Q
theorem headO_some {c : Code} {l z : List Nat} : HeadO (P := P) (Φ := Φ) (T := T) (some l) z c k s Q ↔ Head (P := P) (Φ := Φ) (T := T) c k (canon l (frzS z s)) Q := Iff.rfl
theorem goes_loop {c : Code} : Goes P Φ T (.code (.loop c) :: k) s Q ↔ HeadO (P := P) (Φ := Φ) (T := T) (T.keep (firstRegion c)) (T.frz (firstRegion c)) c k s Q := by
  unfold HeadO
  split <;> rename_i h <;> exact goes_step fun n => by simp [go, h]
theorem goes_inLoop {c : Code} : Goes P Φ T (.inLoop c :: k) s Q ↔ HeadO (P := P) (Φ := Φ) (T := T) (T.keep (firstRegion c)) (T.frz (firstRegion c)) c k s Q := by
  unfold HeadO
  split <;> rename_i h <;> exact goes_step fun n => by simp [go, h]
theorem goes_cond {c : Operand} {x y : Code} {b : Bool} (h : evO P s.env 0 c = .bool b) : Goes P Φ T (.code (.cond c x y) :: k) s Q ↔ Goes P Φ T (.code (if b then x else y) :: k) s Q :=
  goes_step fun n => by simp [go, h]
/-- A branch, by its value. -/
def CondG (P : Program) (Φ : Tab) (T : Hints) (v : V) (x y : Code) (k : List Item) (s : St) (Q : St → Prop) : Prop :=
  match v with
  | .bool b => (b = true → Goes P Φ T (.code x :: k) s Q) ∧ (b = false → Goes P Φ T (.code y :: k) s Q)
  | _ => False
theorem condG_bool {b : Bool} {x y : Code} : CondG P Φ T (.bool b) x y k s Q ↔ (b = true → Goes P Φ T (.code x :: k) s Q) ∧ (b = false → Goes P Φ T (.code y :: k) s Q) := Iff.rfl
theorem condG_not {b : Bool} {x y : Code} : CondG P Φ T (.bool (!b)) x y k s Q ↔ (b = false → Goes P Φ T (.code x :: k) s Q) ∧ (b = true → Goes P Φ T (.code y :: k) s Q) := by
  cases b <;> simp [CondG]
theorem condG_true {x y : Code} : CondG P Φ T (.bool true) x y k s Q ↔ Goes P Φ T (.code x :: k) s Q := by simp [CondG]
theorem condG_false {x y : Code} : CondG P Φ T (.bool false) x y k s Q ↔ Goes P Φ T (.code y :: k) s Q := by simp [CondG]
theorem condG_dec {p : Prop} [Decidable p] {x y : Code} : CondG P Φ T (.bool (decide p)) x y k s Q ↔ (p → Goes P Φ T (.code x :: k) s Q) ∧ (¬ p → Goes P Φ T (.code y :: k) s Q) := by simp [CondG]
theorem goes_cond_tmp {t : Nat} {x y : Code} : Goes P Φ T (.code (.cond (.tmp t) x y) :: k) s Q ↔ CondG P Φ T (s.env t) x y k s Q := by
  unfold CondG
  split
  · rename_i b hb
    rw [goes_cond (b := b) (by simpa [evO] using hb)]
    cases b <;> simp
  · rename_i hb
    constructor
    · rintro ⟨n, r, hn, _⟩
      cases n with
      | zero => simp [go] at hn
      | succ n =>
        simp [go, evO] at hn
    · exact False.elim

def sel {α : Type} (w : Option Bool) (x y : Option α) : Option α := match w with | none => none | some false => y | some true => x
theorem sel_some {α : Type} (b : Bool) (x y : Option α) : sel (some b) x y = if b = true then x else y := by cases b <;> rfl
theorem sel_none {α : Type} (x y : Option α) : sel none x y = none := rfl
/-- The operations of a region in the order of the text. -/
def runOs (P : Program) (Φ : Tab) (ops : Array Oper) (nt n0 : Nat) : Nat → List Oper → Env × Heap → Option (Env × Heap)
  | _, [], s => some s
  | i, o :: l, s =>
    (if dstOk nt o.dst = true then
      sel (wantedV ops s.1 o) ((opV P Φ (n0 + stride * i) s.1 s.2 o).map fun (r : V × List (Nat × Option Blk)) => (putE s.1 o.dst r.1, updsH s.2 r.2)) (some (putE s.1 o.dst .void, s.2))
     else none).bind (runOs P Φ ops nt n0 (i + 1) l)
/-- The rest of a region. -/
def Next (P : Program) (Φ : Tab) (ops : Array Oper) (nt n0 i : Nat) (l : List Oper) (F : Env × Heap → Prop) (r : Env × Heap) : Prop := After (runOs P Φ ops nt n0 i l r) F
theorem next_nil {ops : Array Oper} {nt n0 i : Nat} {F : Env × Heap → Prop} {e : Env} {h : Heap} : Next P Φ ops nt n0 i [] F (e, h) ↔ F (e, h) := Iff.rfl
theorem next_cons {ops : Array Oper} {nt n0 i : Nat} {o : Oper} {l : List Oper} {F : Env × Heap → Prop} {e : Env} {h : Heap} : Next P Φ ops nt n0 i (o :: l) F (e, h) ↔
    After (if dstOk nt o.dst = true then sel (wantedV ops e o) ((opV P Φ (n0 + stride * i) e h o).map fun (r : V × List (Nat × Option Blk)) => (putE e o.dst r.1, updsH h r.2)) (some (putE e o.dst .void, h)) else none)
      (Next P Φ ops nt n0 (i + 1) l F) := by
  unfold Next
  simp only [runOs]
  cases (if dstOk nt o.dst = true then sel (wantedV ops e o) ((opV P Φ (n0 + stride * i) e h o).map fun (r : V × List (Nat × Option Blk)) => (putE e o.dst r.1, updsH h r.2)) (some (putE e o.dst .void, h)) else none) <;> rfl
theorem runL_range' (P : Program) (Φ : Tab) (ops : Array Oper) (nt n0 : Nat) : ∀ (d i : Nat) (l : List Oper) (s : Env × Heap), l.length = d → l = ops.toList.drop i →
    runL P Φ ops nt n0 (List.range' i d) s = runOs P Φ ops nt n0 i l s
  | 0, i, l, s, hl, _ => by
    have : l = [] := List.eq_nil_of_length_eq_zero hl
    subst this
    simp [runL, runOs]
  | d + 1, i, l, s, hl, he => by
    cases l with
    | nil => simp at hl
    | cons o l =>
      have ho : ops[i]? = some o := by
        have := congrArg (fun x => x[0]?) he
        simpa using this.symm
      have hl' : l = ops.toList.drop (i + 1) := by
        have := congrArg List.tail he
        simpa using this
      simp only [List.range'_succ, runL, stepO, ho, runOs]
      congr 1
      funext s'
      exact runL_range' P Φ ops nt n0 d (i + 1) l s' (by simpa using hl) hl'
theorem regionV_eq (ops : Array Oper) (s : St) : regionV P Φ ops s (List.range ops.size) =
    (runOs P Φ ops s.nt s.next 0 ops.toList (s.env, s.heap)).map fun r => { env := r.1, heap := r.2, next := s.next + stride * ops.size, nt := s.nt, io := s.io } := by
  unfold regionV
  rw [List.range_eq_range', runL_range' P Φ ops s.nt s.next ops.size 0 ops.toList (s.env, s.heap) (by simp) (by simp)]
theorem goes_region {id : Nat} {ops : Array Oper} (ho : T.opn id = none) : Goes P Φ T (.code (.region id ops false) :: k) s Q ↔
    Next P Φ ops s.nt s.next 0 ops.toList (Cont P Φ T (T.cut id) k (s.next + stride * ops.size) s.nt s.io Q) (s.env, s.heap) := by
  unfold Next
  cases h : runOs P Φ ops s.nt s.next 0 ops.toList (s.env, s.heap) with
  | none =>
    constructor
    · rintro ⟨n, r, hn, _⟩
      cases n with
      | zero => simp [go] at hn
      | succ n => simp [go, regionV_eq, h, cutS, ho, openS, closeS] at hn
    · exact False.elim
  | some r => exact goes_step fun n => by simp [go, regionV_eq, h, cutS, ho, openS, closeS]
/-- The operations of a region that draws its order, in the order of the text, with what each touches. -/
def runOT (P : Program) (Φ : Tab) (ops : Array Oper) (nt n0 : Nat) : Nat → List Oper → Env × Heap → Option ((Env × Heap) × List Fp)
  | _, [], s => some (s, [])
  | i, o :: l, s =>
    (if dstOk nt o.dst = true then
      sel (wantedV ops s.1 o) ((opV P Φ (n0 + stride * i) s.1 s.2 o).map fun (r : V × List (Nat × Option Blk)) => (r.1, r.2, readsH s.2 s.1 o)) (some (V.void, [], []))
     else none).bind fun (r : V × List (Nat × Option Blk) × List Nat) => (runOT P Φ ops nt n0 (i + 1) l (putE s.1 o.dst r.1, updsH s.2 r.2.1)).map fun (q : (Env × Heap) × List Fp) => (q.1, (i, r.2.2, r.2.1.map (·.1)) :: q.2)
def NextT (P : Program) (Φ : Tab) (ops : Array Oper) (nt n0 i : Nat) (l : List Oper) (pre : List Fp) (F : (Env × Heap) × List Fp → Prop) (r : Env × Heap) : Prop := After (runOT P Φ ops nt n0 i l r) fun q => F (q.1, pre ++ q.2)
theorem nextT_nil {ops : Array Oper} {nt n0 i : Nat} {pre : List Fp} {F : (Env × Heap) × List Fp → Prop} {e : Env} {h : Heap} : NextT P Φ ops nt n0 i [] pre F (e, h) ↔ F ((e, h), pre) := by
  unfold NextT runOT After; simp
/-- Puts down what an operation touches. -/
def Note (P : Program) (Φ : Tab) (ops : Array Oper) (nt n0 i : Nat) (d : Option Nat) (l : List Oper) (pre : List Fp) (F : (Env × Heap) × List Fp → Prop) (e : Env) (h : Heap) (r : V × List (Nat × Option Blk) × List Nat) : Prop :=
  NextT P Φ ops nt n0 (i + 1) l (pre ++ [(i, r.2.2, r.2.1.map (·.1))]) F (putE e d r.1, updsH h r.2.1)
theorem note_trip {ops : Array Oper} {nt n0 i : Nat} {d : Option Nat} {l : List Oper} {pre : List Fp} {F : (Env × Heap) × List Fp → Prop} {e : Env} {h : Heap} {v : V} {us : List (Nat × Option Blk)} {R : List Nat} :
    Note P Φ ops nt n0 i d l pre F e h (v, us, R) ↔ NextT P Φ ops nt n0 (i + 1) l (pre ++ [(i, R, us.map (·.1))]) F (putE e d v, updsH h us) := Iff.rfl
theorem nextT_cons {ops : Array Oper} {nt n0 i : Nat} {o : Oper} {l : List Oper} {pre : List Fp} {F : (Env × Heap) × List Fp → Prop} {e : Env} {h : Heap} : NextT P Φ ops nt n0 i (o :: l) pre F (e, h) ↔
    After (if dstOk nt o.dst = true then sel (wantedV ops e o) ((opV P Φ (n0 + stride * i) e h o).map fun (r : V × List (Nat × Option Blk)) => (r.1, r.2, readsH h e o)) (some (V.void, [], [])) else none)
      (Note P Φ ops nt n0 i o.dst l pre F e h) := by
  unfold NextT
  simp only [runOT]
  cases (if dstOk nt o.dst = true then sel (wantedV ops e o) ((opV P Φ (n0 + stride * i) e h o).map fun (r : V × List (Nat × Option Blk)) => (r.1, r.2, readsH h e o)) (some (V.void, [], [])) else none) with
  | none => rfl
  | some r =>
    simp only [Option.bind_some, after_some, Note, NextT]
    cases runOT P Φ ops nt n0 (i + 1) l (putE e o.dst r.1, updsH h r.2.1) with
    | none => rfl
    | some q => simp [After]
theorem runT_range' (P : Program) (Φ : Tab) (ops : Array Oper) (nt n0 : Nat) : ∀ (d i : Nat) (l : List Oper) (s : Env × Heap), l.length = d → l = ops.toList.drop i →
    runT P Φ ops nt n0 (List.range' i d) s = runOT P Φ ops nt n0 i l s
  | 0, i, l, s, hl, _ => by
    have : l = [] := List.eq_nil_of_length_eq_zero hl
    subst this
    simp [runT, runOT]
  | d + 1, i, l, s, hl, he => by
    cases l with
    | nil => simp at hl
    | cons o l =>
      have ho : ops[i]? = some o := by
        have := congrArg (fun x => x[0]?) he
        simpa using this.symm
      have hl' : l = ops.toList.drop (i + 1) := by
        have := congrArg List.tail he
        simpa using this
      simp only [List.range'_succ, runT, ho, runOT, resO, Option.bind_some]
      congr 1
      funext r
      rw [runT_range' P Φ ops nt n0 d (i + 1) l _ (by simpa using hl) hl']
theorem drawV_eq (ops : Array Oper) (need : List (Nat × Nat)) (s : St) : drawV P Φ ops need s =
    (runOT P Φ ops s.nt s.next 0 ops.toList (s.env, s.heap)).bind fun q =>
      if dynOk need q.2 then some { env := q.1.1, heap := q.1.2, next := s.next + stride * ops.size, nt := s.nt, io := s.io } else none := by
  unfold drawV
  rw [List.range_eq_range', runT_range' P Φ ops s.nt s.next ops.size 0 ops.toList (s.env, s.heap) (by simp) (by simp)]
theorem goes_draw {id : Nat} {ops : Array Oper} (need : List (Nat × Nat)) (hl : T.ord id = some need) (ho : T.opn id = none) (hok : orderChk ops need = true) : Goes P Φ T (.code (.region id ops true) :: k) s Q ↔
    NextT P Φ ops s.nt s.next 0 ops.toList [] (ContD P Φ T (T.cut id) need k (s.next + stride * ops.size) s.nt s.io Q) (s.env, s.heap) := by
  unfold NextT
  have hno : ∀ {R : Prop}, (∀ n, go P Φ T (n + 1) (.code (.region id ops true) :: k) s = none) → (Goes P Φ T (.code (.region id ops true) :: k) s Q ↔ False) := by
    intro R h
    constructor
    · rintro ⟨n, r, hn, _⟩
      cases n with
      | zero => simp [go] at hn
      | succ n => rw [h n] at hn; cases hn
    · exact False.elim
  cases h : runOT P Φ ops s.nt s.next 0 ops.toList (s.env, s.heap) with
  | none => exact hno (R := True) fun n => by simp [go, hl, hok, drawV_eq, h, ho, openS, closeS]
  | some q =>
    by_cases hd : dynOk need q.2 = true
    · simp only [after_some, ContD, List.nil_append, hd, true_and]
      exact goes_step fun n => by simp [go, hl, hok, drawV_eq, h, hd, cutS, ho, openS, closeS]
    · exact (hno (R := True) fun n => by simp [go, hl, hok, drawV_eq, h, hd, cutS, ho, openS, closeS]).trans ⟨False.elim, fun x => hd x.1⟩
/-! a region ahead of which an element is opened, behind which it is closed -/
def ContC (P : Program) (Φ : Tab) (T : Hints) (c : Option (List Nat)) (b : Nat) (k : List Item) (next nt : Nat) (io : List V) (Q : St → Prop) (r : Env × Heap) : Prop := Goes P Φ T k { env := cutV c r.1, heap := closeB r.2 b, next := next, nt := nt, io := io } Q
theorem contC_pair {c : Option (List Nat)} {b next nt : Nat} {io : List V} {e : Env} {h : Heap} : ContC P Φ T c b k next nt io Q (e, h) ↔ Goes P Φ T k { env := cutV c e, heap := closeB h b, next := next, nt := nt, io := io } Q := Iff.rfl
def OpenH (o : Option Heap) (F : Heap → Prop) : Prop := match o with | some h => F h | none => False
theorem openH_some {h : Heap} {F : Heap → Prop} : OpenH (some h) F ↔ F h := Iff.rfl
def OpenG (h : Heap) (n : Nat) (o : Option (Nat × Nat)) (F : Nat → Heap → Prop) : Prop := match o with | some (b, i) => OpenH (openB n h b i) (F b) | none => False
theorem openG_some {h : Heap} {n b i : Nat} {F : Nat → Heap → Prop} : OpenG h n (some (b, i)) F ↔ OpenH (openB n h b i) (F b) := Iff.rfl
theorem goes_opn {id : Nat} {ops : Array Oper} {q : (Nat × List (Option Nat)) × (Nat × List (Option Nat))} (ho : T.opn id = some q)
    (hg : OpenG s.heap s.next (openAt s.env s.heap q) fun b h => Next P Φ ops s.nt (s.next + stride) 0 ops.toList (ContC P Φ T (T.cut id) b k (s.next + stride + stride * ops.size) s.nt s.io Q) (s.env, h)) :
    Goes P Φ T (.code (.region id ops false) :: k) s Q := by
  cases h1 : openAt s.env s.heap q with
  | none => rw [h1] at hg; exact hg.elim
  | some p =>
    obtain ⟨b, i⟩ := p
    rw [h1, openG_some] at hg
    cases h2 : openB s.next s.heap b i with
    | none => rw [h2] at hg; exact hg.elim
    | some h =>
      rw [h2, openH_some] at hg
      unfold Next at hg
      cases h3 : runOs P Φ ops s.nt (s.next + stride) 0 ops.toList (s.env, h) with
      | none => rw [h3] at hg; exact hg.elim
      | some r =>
        rw [h3, after_some] at hg
        exact (goes_step fun n => by simp [go, regionV_eq, h1, h2, h3, cutS, ho, openS, closeS]).2 hg
theorem goes_opnT {id : Nat} {ops : Array Oper} {q : (Nat × List (Option Nat)) × (Nat × List (Option Nat))} (hl : T.ord id = some []) (hok : orderChk ops [] = true) (ho : T.opn id = some q)
    (hg : OpenG s.heap s.next (openAt s.env s.heap q) fun b h => After ((runOT P Φ ops s.nt (s.next + stride) 0 ops.toList (s.env, h)).map (·.1)) (ContC P Φ T (T.cut id) b k (s.next + stride + stride * ops.size) s.nt s.io Q)) :
    Goes P Φ T (.code (.region id ops true) :: k) s Q := by
  cases h1 : openAt s.env s.heap q with
  | none => rw [h1] at hg; exact hg.elim
  | some p =>
    obtain ⟨b, i⟩ := p
    rw [h1, openG_some] at hg
    cases h2 : openB s.next s.heap b i with
    | none => rw [h2] at hg; exact hg.elim
    | some h =>
      rw [h2, openH_some] at hg
      cases h3 : runOT P Φ ops s.nt (s.next + stride) 0 ops.toList (s.env, h) with
      | none => rw [h3] at hg; exact hg.elim
      | some r =>
        rw [h3, Option.map_some, after_some] at hg
        exact (goes_step fun n => by simp [go, hl, hok, drawV_eq, h1, h2, h3, cutS, ho, openS, closeS, dynOk]).2 hg
end

/-- Rounds of a loop: by a measure. -/
theorem loop_ind {P : Program} {Φ : Tab} {T : Hints} {α : Type} {c : Code} {k : List Item} {Q : St → Prop} (st : α → St) (μ : α → Nat) (I : α → Prop)
    (round : ∀ x, I x → (∀ y, I y → μ y < μ x → Head (P := P) (Φ := Φ) (T := T) c k (st y) Q) → Goes P Φ T (.code c :: .inLoop c :: k) (st x) Q) : ∀ x, I x → Head (P := P) (Φ := Φ) (T := T) c k (st x) Q := by
  have key : ∀ n x, μ x = n → I x → Head (P := P) (Φ := Φ) (T := T) c k (st x) Q := by
    intro n
    induction n using Nat.strongRecOn with
    | _ n ih => exact fun x hx hI => round x hI fun y hy hlt => ih (μ y) (by omega) y rfl hy
  exact fun x hI => key _ x rfl hI

/-! ### reading the fixed form -/
theorem updE_eOf (l : List (Nat × V)) (t : Nat) (v : V) : updE (eOf l) t v = eOf ((t, v) :: l) := rfl
theorem eOf_cons (k : Nat) (v : V) (l : List (Nat × V)) (t : Nat) : eOf ((k, v) :: l) t = if t = k then v else eOf l t := rfl
theorem hOf_cons (k : Nat) (b : Blk) (l : List (Nat × Blk)) (t : Nat) : hOf ((k, b) :: l) t = if t = k then some b else hOf l t := rfl
theorem updH_hOf (l : List (Nat × Blk)) (i : Nat) (b : Blk) : updH (hOf l) i (some b) = hOf ((i, b) :: l) := rfl
theorem updH_apply (h : Heap) (i j : Nat) (b : Option Blk) : updH h i b j = if j = i then b else h j := rfl
end Go.VM
