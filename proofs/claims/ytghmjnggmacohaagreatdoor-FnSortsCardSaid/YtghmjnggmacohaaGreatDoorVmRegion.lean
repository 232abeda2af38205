/- Every operation; a region in a given order. -/
import Derived.Test.YtghmjnggmacohaaGreatDoorVmConv
import Derived.Test.YtghmjnggmacohaaGreatDoorVmCall2

set_option linter.unusedVariables false
set_option linter.unusedSimpArgs false
namespace Go.VM
open Go

section
variable {P : Program} {Φ : Tab} {w0 w : World} {O S : Nat → Prop} {g : G} {h : Heap} {U : Nat → Prop} {a : Act} {e : Env} {n : Nat} {o : Oper} {K : Act → World → Prop} {Q : Exit → Act → World → Prop}

theorem does_wp {v : V} {us : List (Nat × Option Blk)} (hD : Does P w0 O w S g h U a n o v us)
    (hK : ∀ cv w' g', HOk w0 O w' S g' (updsH h us) (fun k => U k ∨ (n ≤ k ∧ k < n + stride)) → Tr w S g h w' S g' (updsH h us) → VR w' S g' (updsH h us) v cv → K (a.put o.dst cv) w') : o.wp P a w K Q := by
  obtain ⟨cv, w', g', hrun, H', tr, hv⟩ := hD
  unfold Oper.wp
  rcases hrun with hrun | ⟨hrun, rfl⟩
  · rw [hrun]; exact hK cv w' g' H' tr hv
  · rw [hrun]; exact hK _ w' g' H' tr hv

theorem two_map {α β γ : Type} {R : α → β → Prop} (f : γ → α) (k : γ → β) (l : List γ) (h : ∀ x ∈ l, R (f x) (k x)) : Two R (l.map f) (l.map k) := forall2_map f k l h

theorem zip_fst {α β : Type} : ∀ (l : List α) (m : List β), l.length ≤ m.length → (l.zip m).map (·.1) = l
  | [], _, _ => rfl
  | x :: l, [], h => by simp at h
  | x :: l, y :: m, h => by simp only [List.zip_cons_cons, List.map_cons]; rw [zip_fst l m (by simpa using h)]

theorem args_two (E : ∀ t, VR w S g h (e t) (a.tmps.getD t Go.undef)) (args : Array Operand) (tys : Array TypeId) :
    Two (VR w S g h) ((args.toList.zip (tys.toList ++ List.replicate args.size 0)).map fun x => evO P e x.2 x.1) (args.map a.eval).toList := by
  have hz := zip_fst args.toList (tys.toList ++ List.replicate args.size 0) (by simp)
  have e1 : (args.map a.eval).toList = (args.toList.zip (tys.toList ++ List.replicate args.size 0)).map fun x => a.eval x.1 := by
    rw [Array.toList_map]
    conv => lhs; rw [← hz]
    rw [List.map_map]; rfl
  rw [e1]
  exact two_map _ _ _ fun x _ => evO_ok E x.2 x.1

theorem two_append {α β : Type} {R : α → β → Prop} {l l' : List α} {m m' : List β} (t : Two R l m) (t' : Two R l' m') : Two R (l ++ l') (m ++ m') := by
  induction t with
  | nil => exact t'
  | cons h _ ih => exact .cons h ih
theorem two_of {α β : Type} {R : α → β → Prop} : ∀ {l : List α} {m : List β}, l.length = m.length → (∀ (i : Nat) x c, l[i]? = some x → m[i]? = some c → R x c) → Two R l m
  | [], [], _, _ => .nil
  | [], _ :: _, h, _ => by simp at h
  | _ :: _, [], h, _ => by simp at h
  | x :: l, y :: m, h, hr => .cons (hr 0 x y rfl rfl) (two_of (by simpa using h) fun i x c hx hc => hr (i + 1) x c (by simpa using hx) (by simpa using hc))

theorem callee_ok (E : ∀ t, VR w S g h (e t) (a.tmps.getD t Go.undef)) {f : Operand} {args : List V} {cargs : List Value} {q : Nat × List V} (hv : callee e args f = some q) (ht : Two (VR w S g h) args cargs) :
    ∃ cap : Array Value, a.eval f = .func (.func q.1) #[] cap ∧ Two (VR w S g h) q.2 (cargs ++ cap.toList) := by
  cases f with
  | func f =>
    simp only [callee, Option.some.injEq] at hv
    subst hv
    exact ⟨#[], rfl, by simpa using ht⟩
  | tmp t =>
    simp only [callee] at hv
    have hx := E t
    split at hv
    · rename_i f caps heq
      cases hv
      rw [heq] at hx
      obtain ⟨cs, hc, hl, hr⟩ := hx.inv_fn
      exact ⟨cs, hc, two_append ht (two_of (by simpa using hl) fun i x c hx hc => hr i x c hx (by simpa using hc))⟩
    · cases hv
  | const v => simp [callee] at hv
  | global u => simp [callee] at hv

theorem two_one {R : V → Value → Prop} {x : V} {cs : List Value} (t : Two R [x] cs) : ∃ c, cs = [c] ∧ R x c := by
  cases t with
  | cons h t => cases t; exact ⟨_, rfl, h⟩
theorem two_two {R : V → Value → Prop} {x y : V} {cs : List Value} (t : Two R [x, y] cs) : ∃ c d, cs = [c, d] ∧ R x c ∧ R y d := by
  cases t with
  | cons h t => obtain ⟨d, rfl, h'⟩ := two_one t; exact ⟨_, d, rfl, h, h'⟩

theorem builtin_ok (H : HOk w0 O w S g h U) {c : Call} {b : Builtin} {vs : List V} {v : V} {us : List (Nat × Option Blk)} (ho : o.op = .call c) (hc : c.callee = .builtin b) (hv : builtinV P h n b c.argTypes vs = some (v, us))
    (ht : Two (VR w S g h) vs (c.args.map a.eval).toList) (hU : ∀ i, n ≤ i → i < n + stride → ¬ U i) : Does P w0 O w S g h U a n o v us := by
  obtain ⟨ks, hex⟩ : ∃ ks, (execOp a.eval o).run P w = (builtin b c.argTypes o.type ks (c.args.map a.eval)).run P w := by
    refine ⟨c.args.map fun | .const _ => true | _ => false, ?_⟩
    simp [execOp, ho, resolve, hc, invoke]
    rfl
  have harr : c.args.map a.eval = (c.args.map a.eval).toList.toArray := (Array.toArray_toList).symm
  unfold builtinV at hv
  split at hv
  · rename_i t x hty
    simp only [Option.map_eq_some_iff] at hv
    obtain ⟨r, hr, hv⟩ := hv
    simp only [Prod.mk.injEq] at hv
    obtain ⟨rfl, rfl⟩ := hv
    obtain ⟨cx, hcx, hx⟩ := two_one ht
    obtain ⟨cv, hrun, hd⟩ := len_ok (P := P) H hr hx o.type hty
    refine does_pure H (cv := cv) ?_ (.rd _ _ hd)
    rw [hex, harr, hcx]
    simp [builtin, hrun]
  · rename_i t s x hty
    split at hv
    · rename_i hp
      obtain ⟨cs, cx, hcx, hs, hx⟩ := two_two ht
      obtain ⟨cv, w', g', hrun, H', tr, hvr⟩ := append_ok (ty := o.type) H hty hp hs hx hv hU
      refine ⟨cv, w', g', .inl ?_, H', tr, hvr⟩
      rw [hex, harr, hcx]
      simp [builtin, hrun]
    · cases hv
  · rename_i t x hty
    obtain ⟨cx, hcx, hx⟩ := two_one ht
    obtain ⟨w', g', hrun, H', tr, rfl⟩ := clear_ok (P := P) (ty := o.type) H hty hx hv
    refine ⟨_, w', g', .inl ?_, H'.weak fun _ hk => .inl hk, tr, .tup [] #[] rfl fun i x c hi => by simp at hi⟩
    rw [hex, harr, hcx]
    simp [builtin, hrun]
  · rename_i x y
    simp only [Option.map_eq_some_iff] at hv
    obtain ⟨r, hr, hv⟩ := hv
    simp only [Prod.mk.injEq] at hv
    obtain ⟨rfl, rfl⟩ := hv
    obtain ⟨cx, cy, hcx, hx, hy⟩ := two_two ht
    obtain ⟨cv, hrun, hd⟩ := min_ok (P := P) hx hy hr c.argTypes o.type
    refine does_pure H (cv := cv) ?_ (.rd _ _ hd)
    rw [hex, harr, hcx]
    simp [builtin, hrun]
  · rename_i x y
    simp only [Option.map_eq_some_iff] at hv
    obtain ⟨r, hr, hv⟩ := hv
    simp only [Prod.mk.injEq] at hv
    obtain ⟨rfl, rfl⟩ := hv
    obtain ⟨cx, cy, hcx, hx, hy⟩ := two_two ht
    obtain ⟨cv, hrun, hd⟩ := max_ok (P := P) hx hy hr c.argTypes o.type
    refine does_pure H (cv := cv) ?_ (.rd _ _ hd)
    rw [hex, harr, hcx]
    simp [builtin, hrun]
  · cases hv

/-- Every operation. -/
theorem op_ok (hΦ : ∀ f sp, Φ f = some sp → FnAt P w0 O f sp) (H : HOk w0 O w S g h U) (E : ∀ t, VR w S g h (e t) (a.tmps.getD t Go.undef)) {v : V} {us : List (Nat × Option Blk)} (hv : opV P Φ n e h o = some (v, us))
    (hU : ∀ i, n ≤ i → i < n + stride → ¬ U i)
    (hK : ∀ cv w' g', HOk w0 O w' S g' (updsH h us) (fun k => U k ∨ (n ≤ k ∧ k < n + stride)) → Tr w S g h w' S g' (updsH h us) → VR w' S g' (updsH h us) v cv → K (a.put o.dst cv) w') : o.wp P a w K Q := by
  unfold opV at hv
  split at hv
  · rename_i x ho
    cases hv
    exact does_wp (does_pure H (by simp [execOp, ho]) (evO_ok E _ x)) hK
  · rename_i x ho
    cases hv
    exact does_wp (does_pure H (by simp [execOp, ho]) (evO_ok E _ x)) hK
  · rename_i c x y ho
    split at hv
    · rename_i t hc
      cases hv
      have hcb := evO_ok (P := P) E o.type c
      rw [hc] at hcb
      have ec := hcb.inv_bool
      refine does_wp (does_pure H (cv := if t then a.eval x else a.eval y) (by simp [execOp, ho, ec, asBool]) ?_) hK
      cases t
      · exact evO_ok E _ y
      · exact evO_ok E _ x
    · cases hv
  · rename_i t ho
    simp only [Option.map_eq_some_iff] at hv
    obtain ⟨z, hz, hv⟩ := hv
    cases hv
    exact does_wp (op_alloc H ho hz hU) hK
  · rename_i t x ho
    split at hv
    · rename_i hs
      cases hv
      exact does_wp (op_box H ho (evO_ok E t x) hs hU) hK
    · cases hv
  · rename_i t ps ho
    split at hv
    · rename_i z hz
      split at hv
      · rename_i hc
        simp only [Option.map_eq_some_iff] at hv
        obtain ⟨l, hl, hv⟩ := hv
        cases hv
        exact does_wp (op_build H E ho hz hc.1 hl) hK
      · cases hv
    · cases hv
  · rename_i t len ps ho
    split at hv
    · rename_i el hu
      split at hv
      · rename_i z hzc
        split at hv
        · rename_i hc
          simp only [Option.bind_eq_some_iff] at hv hzc
          obtain ⟨r, hr, hv⟩ := hv
          obtain ⟨z0, hz0, hcl⟩ := hzc
          split at hv
          · rename_i hnd
            cases hv
            exact does_wp (op_buildSlice H E ho hu hz0 hcl hc.1 hc.2.1 hc.2.2 hr hnd hU) hK
          · cases hv
        · cases hv
      · cases hv
    · cases hv
  · rename_i t x ho
    simp only [Option.map_eq_some_iff] at hv
    obtain ⟨r, hr, hv⟩ := hv
    cases hv
    exact does_wp (op_load H ho (evO_ok E _ x) hr) hK
  · rename_i t p x ho
    simp only [Option.map_eq_some_iff] at hv
    obtain ⟨r, hr, hv⟩ := hv
    cases hv
    exact does_wp (op_store H ho (evO_ok E _ p) (evO_ok E _ x) hr) hK
  · rename_i op t x y t' ho
    simp only [Option.map_eq_some_iff] at hv
    obtain ⟨r, hr, hv⟩ := hv
    cases hv
    exact does_wp (op_bin H ho (evO_ok E _ x) (evO_ok E _ y) (fun e => isNilC_eval e) hr) hK
  · rename_i op t x ho
    simp only [Option.map_eq_some_iff] at hv
    obtain ⟨r, hr, hv⟩ := hv
    cases hv
    exact does_wp (op_un H ho (evO_ok E _ x) hr) hK
  · rename_i s d x ho
    exact does_wp (convV_ok H ho (evO_ok E _ x) hv hU) hK
  · rename_i f first caps ho
    split at hv
    · rename_i hf
      cases hv
      refine does_wp (op_makeFunc H ho hf (by simp) fun i x c hx hc => ?_) hK
      simp only [List.getElem?_map, Option.map_eq_some_iff] at hx
      obtain ⟨c', hc', rfl⟩ := hx
      have : caps.toList[i]? = some c := by simpa using hc
      rw [this] at hc'; cases hc'
      exact evO_ok E _ c
    · cases hv
  · rename_i t l c ho
    split at hv
    · rename_i el m m' hu hl hc
      split at hv
      · rename_i z hzc
        split at hv
        · rename_i hcond
          simp only [Option.bind_eq_some_iff] at hzc
          obtain ⟨z0, hz0, hcl⟩ := hzc
          cases hv
          obtain ⟨c1, c2, rfl, c4, c5, c6⟩ := hcond
          have e1 := evO_ok (P := P) E o.type l
          have e2 := evO_ok (P := P) E o.type c
          rw [hl] at e1; rw [hc] at e2
          exact does_wp (op_makeSlice H ho hu e1 e2 hz0 hcl c1 c2 c4 c5 c6 hU) hK
        · cases hv
      · cases hv
    · cases hv
  · rename_i t x lo hi ho
    simp only [Option.map_eq_some_iff] at hv
    obtain ⟨r, hr, hv⟩ := hv
    cases hv
    refine does_wp (op_slice H ho (evO_ok E t x) (vlo := lo.map (evO P e o.type)) (vhi := hi.map (evO P e o.type)) ?_ ?_ ?_ ?_ hr) hK
    · intro v hv; cases lo with
      | none => simp at hv
      | some q => simp at hv; subst hv; exact ⟨_, rfl, evO_ok E _ q⟩
    · intro hv; cases lo with
      | none => rfl
      | some q => simp at hv
    · intro v hv; cases hi with
      | none => simp at hv
      | some q => simp at hv; subst hv; exact ⟨_, rfl, evO_ok E _ q⟩
    · intro hv; cases hi with
      | none => rfl
      | some q => simp at hv
  · rename_i t x lo hi mx ho
    obtain ⟨hus, hd⟩ := op_slice3 H ho (evO_ok E t x) (evO_ok E _ lo) (evO_ok E _ hi) (evO_ok E _ mx) hv
    subst hus
    exact does_wp hd hK
  · rename_i x ho
    simp only [Option.map_eq_some_iff] at hv
    obtain ⟨r, hr, hv⟩ := hv
    cases hv
    exact does_wp (op_nilCheck H ho (evO_ok E _ x) hr) hK
  · rename_i t x f ho
    simp only [Option.map_eq_some_iff] at hv
    obtain ⟨r, hr, hv⟩ := hv
    cases hv
    exact does_wp (op_fieldAddr H ho (evO_ok E _ x) hr) hK
  · rename_i t x f ho
    split at hv
    · rename_i l hl
      split at hv
      · rename_i hsf
        simp only [Option.map_eq_some_iff] at hv
        obtain ⟨r, hr, hv⟩ := hv
        cases hv
        have e1 := evO_ok (P := P) E t x
        rw [hl] at e1
        exact does_wp (op_field H ho e1 hsf hr) hK
      · cases hv
    · cases hv
  · rename_i t x i ho
    split at hv
    · rename_i k j hj
      simp only [Option.map_eq_some_iff] at hv
      obtain ⟨r, hr, hv⟩ := hv
      cases hv
      have e1 := evO_ok (P := P) E o.type i
      rw [hj] at e1
      exact does_wp (op_indexAddr H ho (evO_ok E _ x) e1 hr) hK
    · cases hv
  · rename_i t x i ho
    split at hv
    · rename_i s k j hu hs hj
      split at hv
      · rename_i h0
        simp only [Option.map_eq_some_iff] at hv
        obtain ⟨r, hr, hv⟩ := hv
        cases hv
        have e1 := evO_ok (P := P) E t x
        have e2 := evO_ok (P := P) E o.type i
        rw [hs] at e1; rw [hj] at e2
        exact does_wp (op_index H ho hu e1 e2 h0 hr) hK
      · cases hv
    · cases hv
  · rename_i x i ho
    split at hv
    · rename_i l hl
      simp only [Option.map_eq_some_iff] at hv
      obtain ⟨r, hr, hv⟩ := hv
      cases hv
      have e1 := evO_ok (P := P) E o.type x
      rw [hl] at e1
      exact does_wp (op_extract H ho e1 hr) hK
    · cases hv
  · rename_i c ho
    have ht := args_two (P := P) E c.args c.argTypes
    split at hv
    · rename_i b hb
      exact does_wp (builtin_ok H ho hb hv ht hU) hK
    · rename_i f hf
      simp only [Option.bind_eq_some_iff] at hv
      obtain ⟨q, hq, hv⟩ := hv
      obtain ⟨cap, hcap, ht'⟩ := callee_ok E hq ht
      have harr : (c.args.map a.eval ++ cap) = ((c.args.map a.eval).toList ++ cap.toList).toArray := by simp
      rcases call_ok hΦ H hv ht' hU with ⟨cv, w', hval, _, g', he, H', tr, hvr⟩ | ⟨hent, hcalls⟩
      · cases he
        have hex : (execOp a.eval o).run P w = .ok (.value cv) w' := by
          simp only [execOp, ho, resolve, hf, hcap, Deferred.ofValue, Sem.run_bind, Sem.run_pure, Result.andThen_ok, invoke]
          rw [← harr] at hval
          simpa using hval
        unfold Oper.wp
        rw [hex, Oper.upon_value]
        exact hK cv w' g' H' tr hvr
      · have hex : (execOp a.eval o).run P w = .ok (.enter q.1 (c.args.map a.eval ++ cap)) w := by
          simp only [execOp, ho, resolve, hf, hcap, Deferred.ofValue, Sem.run_bind, Sem.run_pure, Result.andThen_ok, invoke]
          rw [← harr] at hent
          simpa using hent
        unfold Oper.wp
        rw [hex, Oper.upon_enter, harr]
        refine hcalls.mono ?_
        rintro ev w' ⟨cv, g', rfl, H', tr, hvr⟩
        exact hK cv w' g' H' tr hvr
    · cases hv
  · rename_i t ho
    cases hv
    exact does_wp (op_makeMap H ho hU) hK
  · rename_i t m k ho
    simp only [Option.map_eq_some_iff] at hv
    obtain ⟨z, hz, hv⟩ := hv
    cases hv
    exact does_wp (op_lookup H ho (evO_ok E t m) (evO_ok E t k) hz) hK
  · rename_i t m k x ho
    simp only [Option.map_eq_some_iff] at hv
    obtain ⟨z, hz, hv⟩ := hv
    cases hv
    exact does_wp (op_mapUpdate H ho (evO_ok E t m) (evO_ok E t k) (evO_ok E t x) hz) hK
  · cases hv

/-- The relation of a whole state. -/
structure Sim (w0 : World) (O S : Nat → Prop) (cio : List Value) (e : Env) (h : Heap) (nt : Nat) (io : List V) (U : Nat → Prop) (a : Act) (w : World) : Prop where
  ex : ∃ g, HOk w0 O w S g h U ∧ (∀ t, VR w S g h (e t) (a.tmps.getD t Go.undef)) ∧ Two (VR w S g h) io cio
  size : a.tmps.size = nt
  defers : a.defers = []

theorem put_getD (a : Act) (d : Nat) (v : Value) (hd : d < a.tmps.size) (t : Nat) : (a.put (some d) v).tmps.getD t Go.undef = if t = d then v else a.tmps.getD t Go.undef := by
  simp only [Act.put]
  by_cases ht : t = d
  · subst ht
    rw [if_pos rfl]
    simp [Array.getD, hd]
  · rw [if_neg ht]
    simp only [Array.getD, Array.size_setIfInBounds]
    split
    · rename_i hlt
      rw [Array.getInternal_eq_getElem, Array.getInternal_eq_getElem]
      rw [Array.getElem_setIfInBounds_ne _ (Ne.symm ht)]
    · rfl

theorem two_mono {α β : Type} {R R' : α → β → Prop} (hr : ∀ x y, R x y → R' x y) {l : List α} {m : List β} (t : Two R l m) : Two R' l m := by
  induction t with
  | nil => exact .nil
  | cons h _ ih => exact .cons (hr _ _ h) ih

theorem put_env {g' : G} {h' : Heap} {w' : World} {S' : Nat → Prop} {nt : Nat} (hs : a.tmps.size = nt) {dst : Option Nat} (hd : dstOk nt dst = true) {v : V} {cv : Value} (E : ∀ t, VR w' S' g' h' (e t) (a.tmps.getD t Go.undef)) (hv : VR w' S' g' h' v cv) :
    ∀ t, VR w' S' g' h' (putE e dst v t) ((a.put dst cv).tmps.getD t Go.undef) := by
  intro t
  cases dst with
  | none => exact E t
  | some d =>
    have hdl : d < a.tmps.size := by simp only [dstOk, decide_eq_true_eq] at hd; omega
    rw [put_getD a d cv hdl t]
    simp only [putE, updE]
    split
    · exact hv
    · exact E t

/-- The ids in use, where the operations of X have run. -/
def Used (n0 : Nat) (X : Nat → Prop) (id : Nat) : Prop := id < n0 ∨ ∃ i, X i ∧ n0 + stride * i ≤ id ∧ id < n0 + stride * i + stride

theorem Used.all {n0 n : Nat} {X : Nat → Prop} (hX : ∀ i, X i → i < n) : ∀ id, Used n0 X id → id < n0 + stride * n := by
  rintro id (hid | ⟨i, hi, h4, h5⟩)
  · omega
  · have := hX i hi
    have : stride * i + stride ≤ stride * n := by rw [← Nat.mul_succ]; exact Nat.mul_le_mul_left _ this
    omega

theorem VR.inv_void {c : Value} (x : VR w S g h .void c) : c = Go.undef := by
  cases x with
  | void => rfl
  | rd _ _ hr => cases hr
  | dead _ id hi _ => simp [idsC] at hi

/-- One operation of a region. -/
theorem step_ok (hΦ : ∀ f sp, Φ f = some sp → FnAt P w0 O f sp) {ops : Array Oper} {nt n0 i : Nat} {cio : List Value} {io : List V} {X : Nat → Prop} {e : Env} {h : Heap} {s1 : Env × Heap} {a : Act} {w : World} {K : Act → World → Prop}
    (hX : ¬ X i) (hst : stepO P Φ ops nt n0 i (e, h) = some s1) (hs : Sim w0 O S cio e h nt io (Used n0 X) a w)
    (hK : ∀ a' w', Sim w0 O S cio s1.1 s1.2 nt io (Used n0 fun j => X j ∨ j = i) a' w' → K a' w') : wpOp P ops Q i K a w := by
  unfold stepO at hst
  split at hst
  · cases hst
  rename_i o ho
  split at hst
  case isFalse => cases hst
  rename_i hdst
  obtain ⟨⟨g, H, E, I⟩, hsz, hdf⟩ := hs
  have hw : ∀ b, wantedV ops e o = some b → Region.wanted o (yielded ops a.tmps) = b := by
    intro b hb
    unfold wantedV at hb
    split at hb
    · rename_i hg
      simp only [Option.some.injEq] at hb
      subst hb
      simp [Region.wanted, hg]
    · rename_i j want hg
      split at hb
      · rename_i d hd
        split at hb
        · rename_i q hq
          simp only [Option.some.injEq] at hb
          subst hb
          have hE := E d
          rw [hq] at hE
          have hc := hE.inv_bool
          have hlt : d < a.tmps.size := by
            rcases Nat.lt_or_ge d a.tmps.size with h1 | h1
            · exact h1
            · simp [Array.getD, Nat.not_lt.2 h1, Go.undef] at hc
          have hget : a.tmps[d]? = some (.bool q) := by
            rw [Array.getElem?_eq_getElem hlt]
            simp [Array.getD, hlt] at hc
            rw [hc]
          simp only [Region.wanted, hg, yielded, hd, Option.bind_some, hget]
          cases q <;> cases want <;> rfl
        · rename_i hq
          simp only [Option.some.injEq] at hb
          subst hb
          have hE := E d
          rw [hq] at hE
          have hc := VR.inv_void hE
          have hy : (match a.tmps[d]? with | some (.bool b) => some b | _ => none) = (none : Option Bool) := by
            rcases Nat.lt_or_ge d a.tmps.size with h1 | h1
            · rw [Array.getElem?_eq_getElem h1]
              simp [Array.getD, h1] at hc
              rw [hc]
              rfl
            · rw [Array.getElem?_eq_none h1]
          simp only [Region.wanted, hg, yielded, hd, Option.bind_some]
          split
          · rename_i b hb
            rw [hb] at hy
            simp at hy
          · rfl
        · cases hb
      · cases hb
  unfold wpOp
  simp only [ho]
  split at hst
  · cases hst
  · rename_i hwf
    cases hst
    rw [hw false hwf]
    simp only [Bool.false_eq_true, if_false]
    refine hK _ _ ⟨⟨g, H.weak ?_, put_env hsz hdst E .void, I⟩, ?_, ?_⟩
    · rintro id (hid | ⟨j, hj, h4⟩)
      · exact .inl hid
      · exact .inr ⟨j, .inl hj, h4⟩
    · cases o.dst <;> simp [Act.put, hsz]
    · cases o.dst <;> simp [Act.put, hdf]
  · rename_i hwt
    simp only [Option.map_eq_some_iff] at hst
    obtain ⟨r, hop, rfl⟩ := hst
    rw [hw true hwt]
    simp only [if_true]
    refine .inl (op_ok hΦ H E (v := r.1) (us := r.2) hop ?_ ?_)
    · rintro id h1 h2 (h3 | ⟨j, hj, h4, h5⟩)
      · omega
      · have hji : j ≠ i := fun e => hX (e ▸ hj)
        rcases Nat.lt_or_ge j i with hlt | hge
        · have : stride * j + stride ≤ stride * i := by rw [← Nat.mul_succ]; exact Nat.mul_le_mul_left _ hlt
          omega
        · have : stride * i + stride ≤ stride * j := by rw [← Nat.mul_succ]; exact Nat.mul_le_mul_left _ (by omega)
          omega
    · intro cv w' g' H' tr hv
      refine hK _ _ ⟨⟨g', H'.weak ?_, put_env hsz hdst (fun t => tr _ _ (E t)) hv, two_mono tr I⟩, ?_, ?_⟩
      · rintro id ((hid | ⟨j, hj, h4⟩) | hid)
        · exact .inl hid
        · exact .inr ⟨j, .inl hj, h4⟩
        · exact .inr ⟨i, .inr rfl, hid⟩
      · cases o.dst <;> simp [Act.put, hsz]
      · cases o.dst <;> simp [Act.put, hdf]

theorem Sim.weak {cio : List Value} {io : List V} {e : Env} {nt : Nat} {U' : Nat → Prop} (s : Sim w0 O S cio e h nt io U a w) (hU : ∀ k, U k → U' k) : Sim w0 O S cio e h nt io U' a w := by
  obtain ⟨⟨g, H, E, I⟩, h2, h3⟩ := s
  exact ⟨⟨g, H.weak hU, E, I⟩, h2, h3⟩

theorem stepO_lt {ops : Array Oper} {nt n0 i : Nat} {s s1 : Env × Heap} (hst : stepO P Φ ops nt n0 i s = some s1) : i < ops.size := by
  unfold stepO at hst
  split at hst
  · cases hst
  · rename_i o ho; exact (Array.getElem?_eq_some_iff.1 ho).1

theorem runL_ok (hΦ : ∀ f sp, Φ f = some sp → FnAt P w0 O f sp) {ops : Array Oper} {nt n0 : Nat} {cio : List Value} {io : List V} : ∀ (l : List Nat) (X : Nat → Prop) (e : Env) (h : Heap) (s' : Env × Heap) (a : Act) (w : World), l.Nodup → (∀ i ∈ l, ¬ X i) → (∀ i, X i → i < ops.size) →
    runL P Φ ops nt n0 l (e, h) = some s' → Sim w0 O S cio e h nt io (Used n0 X) a w →
    (∀ a' w', Sim w0 O S cio s'.1 s'.2 nt io (fun id => id < n0 + stride * ops.size) a' w' → Q .normal a' w') → wpOps P ops Q l a w
  | [], X, e, h, s', a, w, _, _, hX, hr, hs, hQ => by
    simp only [runL, Option.some.injEq] at hr
    subst hr
    simp only [wpOps]
    exact hQ a w (hs.weak (Used.all hX))
  | i :: l, X, e, h, s', a, w, hn, hlX, hX, hr, hs, hQ => by
    simp only [runL, Option.bind_eq_some_iff] at hr
    obtain ⟨s1, hst, hr⟩ := hr
    rw [wpOps_cons]
    rw [List.nodup_cons] at hn
    have hi := stepO_lt hst
    refine step_ok hΦ (hlX i (by simp)) hst hs fun a' w' hs' => ?_
    refine runL_ok hΦ l (fun j => X j ∨ j = i) _ _ s' _ w' hn.2 ?_ ?_ hr hs' hQ
    · rintro j hj (hj' | rfl)
      · exact hlX j (List.mem_cons_of_mem _ hj) hj'
      · exact hn.1 hj
    · rintro j (hj | rfl)
      · exact hX j hj
      · exact hi

end
end Go.VM
