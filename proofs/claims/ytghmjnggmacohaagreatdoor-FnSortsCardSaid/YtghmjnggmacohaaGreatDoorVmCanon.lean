import Derived.Test.YtghmjnggmacohaaGreatDoorVmRegion
import Derived.Test.YtghmjnggmacohaaGreatDoorVmConv
/- Regions that draw their order: every order that the edges leave comes to the same. -/
set_option linter.unusedVariables false
set_option linter.unusedSimpArgs false
namespace Go.VM
open Go

section env
variable {P : Program} {Φ : Tab} {ops : Array Oper} {nt n : Nat}

def Sees (o : Oper) (x : Operand) : Prop := x ∈ o.op.operands

theorem evO_congr {e e' : Env} {t : TypeId} {x : Operand} (h : ∀ u, x = .tmp u → e u = e' u) : evO P e t x = evO P e' t x := by
  cases x <;> first | rfl | exact h _ rfl

theorem sees_tmp {o : Oper} {e e' : Env} (h : ∀ t ∈ o.looksAt ops, e t = e' t) {x : Operand} (hx : x ∈ o.op.operands) : ∀ u, x = .tmp u → e u = e' u := by
  rintro u rfl
  exact h u (List.mem_append_left _ (List.mem_filterMap.2 ⟨.tmp u, by simpa using hx, rfl⟩))

theorem wantedV_congr {o : Oper} {e e' : Env} (h : ∀ t ∈ o.looksAt ops, e t = e' t) : wantedV ops e o = wantedV ops e' o := by
  unfold wantedV
  split
  · rfl
  · rename_i j want hg
    split
    · rename_i d hd
      rw [h d (List.mem_append_right _ (by simp [hg, hd]))]
    · rfl

theorem callee_congr {e e' : Env} {f : Operand} {args : List V} (h : ∀ u, f = .tmp u → e u = e' u) : callee e args f = callee e' args f := by
  cases f <;> first | rfl | (simp only [callee]; rw [h _ rfl])

theorem opV_env {e e' : Env} {h : Heap} {o : Oper} (hx : ∀ x ∈ o.op.operands, ∀ u, x = .tmp u → e u = e' u) : opV P Φ n e h o = opV P Φ n e' h o := by
  have E : ∀ t x, x ∈ o.op.operands → evO P e t x = evO P e' t x := fun t x hm => evO_congr (hx x hm)
  have pairs : ∀ (ps : Array (Nat × Operand)) (t : TypeId), (∀ p ∈ ps, p.2 ∈ o.op.operands) → (ps.toList.map fun p => (p.1, evO P e t p.2)) = ps.toList.map fun p => (p.1, evO P e' t p.2) := fun ps t hp =>
    List.map_congr_left fun p hm => by rw [E t p.2 (hp p (by simpa using hm))]
  obtain ⟨dst, op, type, pos, after, guard⟩ := o
  simp only at E hx pairs
  cases op <;> simp only [Op.operands] at E hx pairs <;> simp only [opV]
  case build t ps => rw [pairs ps t fun p hp => by simp; exact ⟨p.1, by simpa using hp⟩]
  case buildSlice t k ps =>
    split
    · rename_i el hu
      rw [pairs ps el fun p hp => by simp; exact ⟨p.1, by simpa using hp⟩]
    · rfl
  case makeFunc fn first captured =>
    have : captured.toList.map (evO P e type) = captured.toList.map (evO P e' type) := List.map_congr_left fun x hm => E _ x (by simp; exact .inr (by simpa using hm))
    cases fn <;> simp only [opV, this]
  case slice t x lo hi mx =>
    have h1 : evO P e t x = evO P e' t x := E _ x (by simp)
    have h2 : lo.map (evO P e type) = lo.map (evO P e' type) := by cases lo with
      | none => rfl
      | some q => simp only [Option.map_some]; rw [E _ q (by simp)]
    have h3 : hi.map (evO P e type) = hi.map (evO P e' type) := by cases hi with
      | none => rfl
      | some q => simp only [Option.map_some]; rw [E _ q (by simp)]
    cases mx with
    | none => simp only [opV, h1, h2, h3]
    | some m =>
      have h4 : evO P e type m = evO P e' type m := E _ m (by simp)
      cases lo with
      | none => rfl
      | some l =>
        cases hi with
        | none => rfl
        | some q =>
          simp only [Option.map_some, Option.some.injEq] at h2 h3
          simp only [opV, h1, h2, h3, h4]
  case call c =>
    have ha : (c.args.toList.zip (c.argTypes.toList ++ List.replicate c.args.size 0)).map (fun x => evO P e x.2 x.1) = (c.args.toList.zip (c.argTypes.toList ++ List.replicate c.args.size 0)).map (fun x => evO P e' x.2 x.1) :=
      List.map_congr_left fun p hm => E _ p.1 (by
        have := (List.of_mem_zip hm).1
        simp only [Call.operands]
        simp; right; simpa using this)
    cases hc : c.callee with
    | builtin b => simp only [ha]
    | value f => simp only [ha]; rw [callee_congr fun u hu => hx f (by simp [Call.operands, hc]) u hu]
    | invoke r m => rfl
  case pick c a b => rw [E _ c (by simp), E _ a (by simp), E _ b (by simp)]
  case store t a v => rw [E _ a (by simp), E _ v (by simp)]
  case binOp b t x y ty => rw [E _ x (by simp), E _ y (by simp)]
  case indexAddr t a v => rw [E _ a (by simp), E _ v (by simp)]
  case index t a v => rw [E _ a (by simp), E _ v (by simp)]
  case makeSlice t a v => rw [E _ a (by simp), E _ v (by simp)]
  case makeMap t r => cases r <;> rfl
  case lookup t m k c => cases c with
    | false => rfl
    | true => simp only [opV]; rw [E _ m (by simp), E _ k (by simp)]
  case mapUpdate t m k v => rw [E _ m (by simp), E _ k (by simp), E _ v (by simp)]
  all_goals (first
    | rfl
    | (simp only [E _ _ (Array.mem_singleton.2 rfl)]; done)
    | skip)

theorem resO_env {e e' : Env} {h : Heap} {o : Oper} (hx : ∀ t ∈ o.looksAt ops, e t = e' t) : resO P Φ ops nt n o e h = resO P Φ ops nt n o e' h := by
  unfold resO
  rw [wantedV_congr hx, opV_env (P := P) (Φ := Φ) (n := n) (h := h) fun x hm => sees_tmp hx hm]
  have hr : readsO e o = readsO e' o := by
    have I : ∀ x, x ∈ o.op.operands → idsO e x = idsO e' x := fun x hm => by
      cases x <;> first | rfl | (simp only [idsO]; rw [sees_tmp hx hm _ rfl])
    obtain ⟨dst, op, type, pos, after, guard⟩ := o
    cases op <;> simp only [readsO] <;> first
      | rfl
      | exact I _ (by simp [Op.operands])
      | skip
    case buildSlice t len ps =>
      have IA : ∀ x, x ∈ ps.toList.map (·.2) → idsOA e x = idsOA e' x := fun x hm => by
        have hm' : x ∈ (Op.buildSlice t len ps).operands := by
          simp only [List.mem_map] at hm
          obtain ⟨p, hp, rfl⟩ := hm
          simp [Op.operands]
          exact ⟨p.1, by simpa using hp⟩
        cases x <;> first | rfl | (simp only [idsOA]; rw [sees_tmp hx hm' _ rfl])
      generalize ps.toList = L at IA
      clear hx
      induction L with
      | nil => rfl
      | cons p L ih =>
        simp only [List.flatMap_cons]
        rw [IA p.2 (by simp), ih fun x hm => IA x (by simp only [List.map_cons, List.mem_cons]; exact .inr hm)]
    case build t ps =>
      have IA : ∀ x, x ∈ ps.toList.map (·.2) → idsO e x = idsO e' x := fun x hm => I x (by
        simp only [List.mem_map] at hm
        obtain ⟨p, hp, rfl⟩ := hm
        simp [Op.operands]
        exact ⟨p.1, by simpa using hp⟩)
      generalize ps.toList = L at IA
      clear hx
      induction L with
      | nil => rfl
      | cons p L ih =>
        simp only [List.flatMap_cons]
        rw [IA p.2 (by simp), ih fun x hm => IA x (by simp only [List.map_cons, List.mem_cons]; exact .inr hm)]
    case call c =>
      have IA : ∀ x, x ∈ c.args.toList → idsOA e x = idsOA e' x := fun x hm => by
        have hm' : x ∈ (Op.call c).operands := by
          have : x ∈ c.args := by simpa using hm
          simp [Op.operands, Call.operands, this]
        cases x <;> first | rfl | (simp only [idsOA]; rw [sees_tmp hx hm' _ rfl])
      have I0 : (match c.args[0]? with | some x => idsO e x | none => []) = (match c.args[0]? with | some x => idsO e' x | none => []) := by
        cases hc : c.args[0]? with
        | none => rfl
        | some x => exact I x (by
            have := Array.mem_of_getElem? hc
            simp [Op.operands, Call.operands, this])
      have IL : c.args.toList.flatMap (idsOA e) = c.args.toList.flatMap (idsOA e') := by
        generalize c.args.toList = L at IA
        clear hx I0
        induction L with
        | nil => rfl
        | cons p L ih =>
          simp only [List.flatMap_cons]
          rw [IA p (by simp), ih fun x hm => IA x (by simp only [List.mem_cons]; exact .inr hm)]
      have IAV : ∀ x, x ∈ c.args.toList → idsOV e x = idsOV e' x := fun x hm => by
        have hm' : x ∈ (Op.call c).operands := by
          have : x ∈ c.args := by simpa using hm
          simp [Op.operands, Call.operands, this]
        cases x <;> first | rfl | (simp only [idsOV]; rw [sees_tmp hx hm' _ rfl])
      have IV : c.args.toList.flatMap (idsOV e) = c.args.toList.flatMap (idsOV e') := by
        generalize c.args.toList = L at IAV
        clear hx I0 IA IL
        induction L with
        | nil => rfl
        | cons p L ih =>
          simp only [List.flatMap_cons]
          rw [IAV p (by simp), ih fun x hm => IAV x (by simp only [List.mem_cons]; exact .inr hm)]
      unfold readsC
      split
      · exact IL
      · rename_i g hg
        rw [IV]
        congr 1
        have hm' : g ∈ (Op.call c).operands := by simp [Op.operands, Call.operands, hg]
        cases g <;> first | rfl | (simp only [idsOF]; rw [sees_tmp hx hm' _ rfl])
      · exact I0
  unfold readsH
  rw [hr]

theorem opV_c0 {e : Env} {h h' : Heap} {o : Oper} (hc : clsO o = 0) : opV P Φ n e h o = opV P Φ n e h' o ∧ ∀ r, opV P Φ n e h o = some r → r.2 = [] := by
  obtain ⟨dst, op, type, pos, after, guard⟩ := o
  cases op
  case slice t x lo hi mx => cases mx <;> simp [clsO] at hc
  case call c =>
    obtain ⟨callee, args, argTypes⟩ := c
    cases callee with
    | builtin b => cases b <;> simp [clsO] at hc
    | _ => simp [clsO] at hc
  all_goals (try (simp only [clsO, reduceCtorEq, Nat.succ_ne_zero] at hc; done))
  all_goals simp only [opV]
  all_goals refine ⟨by trivial, fun r hr => ?_⟩
  case move | assign => cases hr; rfl
  case pick => split at hr <;> cases hr; rfl
  case binOp | unOp => simp only [Option.map_eq_some_iff] at hr; obtain ⟨_, _, rfl⟩ := hr; rfl
  case field =>
    split at hr
    · split at hr
      · simp only [Option.map_eq_some_iff] at hr; obtain ⟨_, _, rfl⟩ := hr; rfl
      · cases hr
    · cases hr
  case index =>
    split at hr
    · split at hr
      · simp only [Option.map_eq_some_iff] at hr; obtain ⟨_, _, rfl⟩ := hr; rfl
      · cases hr
    · cases hr
  case extract =>
    split at hr
    · simp only [Option.map_eq_some_iff] at hr; obtain ⟨_, _, rfl⟩ := hr; rfl
    · cases hr

theorem ids_ev {e : Env} {t : TypeId} {x : Operand} : ∀ id ∈ idsC (evO P e t x), id ∈ idsO e x := by
  intro id hid
  cases x with
  | tmp u => exact hid
  | const v =>
    simp only [evO, constV] at hid
    split at hid <;> try (simp [idsC] at hid; done)
    split at hid <;> simp [idsC] at hid
  | func f => simp [evO, idsC] at hid
  | global u => simp [evO, idsC] at hid

theorem elsOf_congr {h h' : Heap} {x : V} (hx : ∀ id ∈ idsC x, h id = h' id) : elsOf h x = elsOf h' x := by
  cases x <;> first | rfl | (simp only [elsOf]; rw [hx _ (by simp [idsC])])
theorem loadV_congr {h h' : Heap} {t : TypeId} {x : V} (hx : ∀ id ∈ idsC x, h id = h' id) : loadV P h t x = loadV P h' t x := by
  cases x <;> first | rfl | (simp only [loadV]; rw [hx _ (by simp [idsC])])
theorem fieldAddrV_congr {h h' : Heap} {t : TypeId} {f : Nat} {x : V} (hx : ∀ id ∈ idsC x, h id = h' id) : fieldAddrV P h t x f = fieldAddrV P h' t x f := by
  cases x with
  | ptr id i fl => cases fl <;> first | rfl | (simp only [fieldAddrV]; rw [hx _ (by simp [idsC])])
  | rptr v => cases v <;> rfl
  | _ => rfl
theorem indexAddrV_congr {h h' : Heap} {t : TypeId} {i : Int} {x : V} (hx : ∀ id ∈ idsC x, h id = h' id) : indexAddrV P h t x i = indexAddrV P h' t x i := by
  cases x <;> first | rfl | (simp only [indexAddrV]; rw [hx _ (by simp [idsC])])
theorem sliceV_congr {h h' : Heap} {t : TypeId} {lo hi : Option V} {x : V} (hx : ∀ id ∈ idsC x, h id = h' id) : sliceV P h t x lo hi = sliceV P h' t x lo hi := by
  cases x <;> first | rfl | (simp only [sliceV]; rw [hx _ (by simp [idsC])])
theorem lenV_congr {h h' : Heap} {t : TypeId} {x : V} (hx : ∀ id ∈ idsC x, h id = h' id) : lenV P h t x = lenV P h' t x := by
  have := elsOf_congr (h := h) (h' := h') (x := x) hx
  unfold lenV; split
  · rfl
  · rw [this]
  · rfl

theorem opV_c1 {e : Env} {h h' : Heap} {o : Oper} (hc : clsO o = 1) (hx : ∀ id ∈ readsO e o, h id = h' id) : opV P Φ n e h o = opV P Φ n e h' o ∧ ∀ r, opV P Φ n e h o = some r → r.2 = [] := by
  obtain ⟨dst, op, type, pos, after, guard⟩ := o
  cases op
  case load t x =>
    simp only [readsO] at hx
    simp only [opV]
    rw [loadV_congr fun id hid => hx id (ids_ev id hid)]
    exact ⟨rfl, fun r hr => by simp only [Option.map_eq_some_iff] at hr; obtain ⟨_, _, rfl⟩ := hr; rfl⟩
  case nilCheck x =>
    simp only [readsO] at hx
    simp only [opV]
    have e1 : nilV h (evO P e type x) = nilV h' (evO P e type x) := by
      have hk : ∀ id ∈ idsC (evO P e type x), h id = h' id := fun id hid => hx id (ids_ev id hid)
      generalize evO P e type x = v at hk
      cases v <;> first | rfl | (simp only [nilV]; rw [hk _ (by simp [idsC])])
    rw [e1]
    exact ⟨rfl, fun r hr => by simp only [Option.map_eq_some_iff] at hr; obtain ⟨_, _, rfl⟩ := hr; rfl⟩
  case build t ps =>
    simp only [readsO] at hx
    simp only [opV]
    have key : ∀ (L : List (Nat × Operand)) (z : List V), (∀ id ∈ L.flatMap (fun p => idsO e p.2), h id = h' id) → buildL h (L.map fun p => (p.1, evO P e t p.2)) z = buildL h' (L.map fun p => (p.1, evO P e t p.2)) z := by
      intro L
      induction L with
      | nil => intro z _; rfl
      | cons p L ih =>
        intro z hL
        have hp : liveB h (idsC (evO P e t p.2)) = liveB h' (idsC (evO P e t p.2)) := by
          unfold liveB
          rw [Bool.eq_iff_iff, List.all_eq_true, List.all_eq_true]
          have hq : ∀ id ∈ idsC (evO P e t p.2), h id = h' id := fun id hid => hL id (by simp only [List.flatMap_cons, List.mem_append]; exact .inl (ids_ev id hid))
          constructor
          · intro H id hid; rw [← hq id hid]; exact H id hid
          · intro H id hid; rw [hq id hid]; exact H id hid
        simp only [List.map_cons, buildL, hp]
        split
        · exact ih _ fun id hid => hL id (by simp only [List.flatMap_cons, List.mem_append]; exact .inr hid)
        · rfl
    constructor
    · split
      · simp only [key ps.toList _ hx]
      · rfl
    · intro r hr
      split at hr
      · split at hr
        · simp only [Option.map_eq_some_iff] at hr; obtain ⟨_, _, rfl⟩ := hr; rfl
        · cases hr
      · cases hr
  case fieldAddr t x f =>
    simp only [readsO] at hx
    simp only [opV]
    rw [fieldAddrV_congr fun id hid => hx id (ids_ev id hid)]
    exact ⟨rfl, fun r hr => by simp only [Option.map_eq_some_iff] at hr; obtain ⟨_, _, rfl⟩ := hr; rfl⟩
  case indexAddr t x i =>
    simp only [readsO] at hx
    simp only [opV]
    split
    · rw [indexAddrV_congr fun id hid => hx id (ids_ev id hid)]
      exact ⟨rfl, fun r hr => by simp only [Option.map_eq_some_iff] at hr; obtain ⟨_, _, rfl⟩ := hr; rfl⟩
    · exact ⟨rfl, fun r hr => by cases hr⟩
  case slice t x lo hi mx =>
    cases mx with
    | some m => simp [clsO] at hc
    | none =>
      simp only [readsO] at hx
      simp only [opV]
      rw [sliceV_congr fun id hid => hx id (ids_ev id hid)]
      exact ⟨rfl, fun r hr => by simp only [Option.map_eq_some_iff] at hr; obtain ⟨_, _, rfl⟩ := hr; rfl⟩
  case call c =>
    obtain ⟨callee, args, argTypes⟩ := c
    cases callee with
    | builtin b =>
      cases b <;> try (simp [clsO] at hc; done)
      simp only [readsO, readsC] at hx
      simp only [opV, builtinV]
      cases hty : argTypes[0]? with
      | none => exact ⟨rfl, fun r hr => by simp at hr⟩
      | some t =>
        obtain ⟨argsL⟩ := args
        rcases argsL with _ | ⟨x, _ | ⟨y, l⟩⟩
        · exact ⟨rfl, fun r hr => by simp at hr⟩
        · simp only [List.getElem?_toArray, List.getElem?_cons_zero] at hx
          have hl : ∃ u us, argTypes.toList ++ List.replicate (List.toArray [x]).size 0 = u :: us := by
            cases h1 : argTypes.toList with
            | nil => exact ⟨0, [], rfl⟩
            | cons u us => exact ⟨u, _, rfl⟩
          obtain ⟨u, us, hl⟩ := hl
          rw [hl]
          simp only [List.zip_cons_cons, List.zip_nil_left, List.map_cons, List.map_nil]
          rw [lenV_congr fun id hid => hx id (ids_ev id hid)]
          exact ⟨rfl, fun r hr => by simp only [Option.map_eq_some_iff] at hr; obtain ⟨_, _, rfl⟩ := hr; rfl⟩
        · have hl : ∃ u v us, argTypes.toList ++ List.replicate (List.toArray (x :: y :: l)).size 0 = u :: v :: us := by
            cases h1 : argTypes.toList with
            | nil => exact ⟨0, 0, List.replicate l.length 0, by simp [List.replicate_succ]⟩
            | cons u us => cases us with
              | nil => exact ⟨u, 0, List.replicate (l.length + 1) 0, by simp [List.replicate_succ]⟩
              | cons v us => exact ⟨u, v, _, rfl⟩
          obtain ⟨u, v, us, hl⟩ := hl
          rw [hl]
          simp only [List.zip_cons_cons, List.map_cons]
          exact ⟨by trivial, fun r hr => by simp at hr⟩
    | _ => simp [clsO] at hc
  all_goals (simp only [clsO, reduceCtorEq] at hc <;> simp at hc)

theorem deepR_id {h : Heap} {o : Oper} {l : List Nat} (hc : clsO o ≠ 4) : deepR h o l = l := by
  unfold deepR
  split
  · rename_i c _ _ ho
    exfalso; apply hc; unfold clsO; rw [ho]
  · rfl
theorem resO_heap {e : Env} {h h' : Heap} {o : Oper} {r : V × List (Nat × Option Blk) × List Nat} (hr : resO P Φ ops nt n o e h = some r) (hc : clsO o = 0 ∨ clsO o = 1 ∧ ∀ id ∈ r.2.2, h id = h' id) :
    resO P Φ ops nt n o e h' = some r ∧ r.2.1 = [] := by
  unfold resO at hr ⊢
  split at hr
  · rename_i hd
    rw [if_pos hd]
    split at hr
    · cases hr
    · cases hr; exact ⟨rfl, rfl⟩
    · simp only [Option.map_eq_some_iff] at hr
      obtain ⟨q, hq, rfl⟩ := hr
      rcases hc with hc | ⟨hc, hx⟩
      · obtain ⟨h1, h2⟩ := opV_c0 (P := P) (Φ := Φ) (n := n) (e := e) (h := h) (h' := h') hc
        have n4 : clsO o ≠ 4 := by omega
        exact ⟨by rw [← h1, hq]; simp only [Option.map_some, readsH, deepR_id n4], h2 _ hq⟩
      · have n4 : clsO o ≠ 4 := by omega
        simp only [readsH, deepR_id n4] at hx
        obtain ⟨h1, h2⟩ := opV_c1 (P := P) (Φ := Φ) (n := n) (e := e) (h := h) (h' := h') hc hx
        exact ⟨by rw [← h1, hq]; simp only [Option.map_some, readsH, deepR_id n4], h2 _ hq⟩
  · cases hr

theorem appendV_congr {h h' : Heap} {t : TypeId} {s x : V} (hs : ∀ id ∈ idsC s, h id = h' id) (hx : ∀ id ∈ idsC x, h id = h' id) : appendV P h n t s x = appendV P h' n t s x := by
  have e1 := elsOf_congr hs
  have e2 : ∀ e, srcOf P h e x = srcOf P h' e x := fun e => by
    cases x <;> first | rfl | exact elsOf_congr hx
  have e3 : ∀ b, appendIn h s b = appendIn h' s b := fun b => by
    unfold appendIn
    cases s with
    | win id lo len => simp only [hs id (by simp [idsC])]
    | _ => rfl
  unfold appendV
  simp only [e1, e2, e3]
theorem opV_c3 {e : Env} {h h' : Heap} {o : Oper} (hc : clsO o = 3) (hx : ∀ id ∈ readsO e o, h id = h' id) : opV P Φ n e h o = opV P Φ n e h' o := by
  obtain ⟨dst, op, type, pos, after, guard⟩ := o
  cases op
  case buildSlice t len ps =>
    simp only [readsO, List.mem_flatMap] at hx
    simp only [opV]
    split
    · rename_i el hel
      have e1 : (zeroV P el).bind (clA h) = (zeroV P el).bind (clA h') := by
        cases hz : zeroV P el with
        | none => rfl
        | some z => exact clA_congr fun id hid => by rw [zeroV_ids hz] at hid; cases hid
      rw [e1]
      have e2 : ∀ els, clParts h (P.cellsOf el) (ps.toList.map fun p => (p.1, evO P e el p.2)) els = clParts h' (P.cellsOf el) (ps.toList.map fun p => (p.1, evO P e el p.2)) els := fun els =>
        clParts_congr fun q hq id hid => by
          obtain ⟨p, hp, rfl⟩ := List.mem_map.1 hq
          exact hx id ⟨p, hp, ids_evA id hid⟩
      simp only [e2]
    · rfl
  case convert s t x =>
    simp only [readsO] at hx
    simp only [opV]
    have e1 : elsOf h (evO P e s x) = elsOf h' (evO P e s x) := elsOf_congr fun id hid => hx id (ids_ev id hid)
    generalize evO P e s x = v at e1
    unfold convV
    split <;> first | rfl | skip
    rw [e1]
  case alloc t => rfl
  case call c =>
    obtain ⟨callee, args, argTypes⟩ := c
    cases callee with
    | builtin b =>
      cases b
      case append =>
        simp only [readsO, readsC, List.mem_flatMap] at hx
        simp only [opV]
        have key : ∀ v ∈ (args.toList.zip (argTypes.toList ++ List.replicate args.size 0)).map (fun x => evO P e x.2 x.1), ∀ id ∈ idsC v, h id = h' id := by
          intro v hv id hid
          obtain ⟨p, hp, rfl⟩ := List.mem_map.1 hv
          exact hx id ⟨p.1, (List.of_mem_zip (a := p.1) (b := p.2) hp).1, ids_evA id (idsC_sub hid)⟩
        generalize (args.toList.zip (argTypes.toList ++ List.replicate args.size 0)).map (fun x => evO P e x.2 x.1) = L at key
        cases h0 : argTypes[0]? with
        | none => simp only [builtinV, h0]
        | some t =>
          rcases L with _ | ⟨s, _ | ⟨x, _ | ⟨y, l⟩⟩⟩
          · simp only [builtinV, h0]
          · simp only [builtinV, h0]
          · simp only [builtinV, h0]
            rw [appendV_congr (key s (by simp)) (key x (by simp))]
          · simp only [builtinV, h0]
      all_goals (simp [clsO] at hc)
    | value f => simp [clsO] at hc
    | invoke r m => simp [clsO] at hc
  case slice t x lo hi mx => cases mx <;> simp [clsO] at hc
  all_goals (simp [clsO] at hc)
/-! ### a call: what the blocks that it names, and those in boxes so named, tell -/
theorem boxIds_cg {h h' : Heap} : ∀ {l : List Nat}, (∀ id ∈ l, h id = h' id) → boxIds h l = boxIds h' l
  | [], _ => rfl
  | i :: l, hx => by simp only [boxIds]; rw [hx i (by simp), boxIds_cg fun k hk => hx k (by simp [hk])]
theorem boxIds_mem {h : Heap} {k id : Nat} : ∀ {l : List Nat}, id ∈ l → k ∈ boxIds h [id] → k ∈ boxIds h l
  | i :: l, hm, hk => by
    simp only [boxIds, List.append_nil] at hk
    simp only [boxIds, List.mem_append]
    rcases List.mem_cons.1 hm with rfl | hm
    · exact .inl hk
    · exact .inr (boxIds_mem hm (by simpa only [boxIds, List.append_nil] using hk))
/-- The blocks agree that a value names, and those in boxes so named. -/
def Loc (h h' : Heap) (l : List Nat) : Prop := ∀ id ∈ l, h id = h' id ∧ ∀ k ∈ boxIds h [id], h k = h' k
theorem Loc.of {h h' : Heap} {l m : List Nat} (hx : ∀ id ∈ m ++ boxIds h m, h id = h' id) (hl : ∀ id ∈ l, id ∈ m) : Loc h h' l := fun id hid =>
  ⟨hx id (List.mem_append_left _ (hl id hid)), fun k hk => hx k (List.mem_append_right _ (boxIds_mem (hl id hid) hk))⟩
theorem Loc.sub {h h' : Heap} {l m : List Nat} (hx : Loc h h' m) (hl : ∀ id ∈ l, id ∈ m) : Loc h h' l := fun id hid => hx id (hl id hid)
theorem mapO_congr {f g : V → Option V} : ∀ {l : List V}, (∀ x ∈ l, f x = g x) → mapO f l = mapO g l
  | [], _ => rfl
  | x :: l, h => by simp only [mapO]; rw [h x (by simp), mapO_congr fun y hy => h y (by simp [hy])]
theorem idsL_in {l : List V} {x : V} (hx : x ∈ l) {id : Nat} (hid : id ∈ idsC x) : id ∈ idsL l := by
  induction l with
  | nil => cases hx
  | cons y l ih =>
    simp only [idsL, List.mem_append]
    rcases List.mem_cons.1 hx with rfl | hx
    · exact .inl hid
    · exact .inr (ih hx)
theorem dC_cg {h h' : Heap} {v : V} (hv : ∀ id ∈ idsC v, h id = h' id) : dC h v = dC h' v := by
  cases v <;> first | rfl | (simp only [dC]; rw [hv _ (by simp [idsC])])
theorem dA_cg {h h' : Heap} {v : V} (hv : ∀ id ∈ idsA v, h id = h' id) : dA h v = dA h' v := by
  cases v with
  | agg l => simp only [dA]; rw [mapO_congr fun x hx => dC_cg fun id hid => hv id (idsL_in hx hid)]
  | _ => exact dC_cg (by simpa only [idsA] using hv)
theorem idsA_V {v : V} {id : Nat} (hid : id ∈ idsA v) : id ∈ idsV v := by cases v <;> first | exact hid | (simp [idsA, idsC] at hid)
theorem dP_cg {h h' : Heap} {v : V} (hv : Loc h h' (idsA v)) : dP h v = dP h' v ∧ idsP h v = idsP h' v := by
  cases v with
  | ptr id i f =>
    obtain ⟨h1, h2⟩ := hv id (by simp [idsA, idsC])
    refine ⟨?_, by simp only [idsP]; rw [h1]⟩
    cases i with
    | succ i => rfl
    | zero =>
      cases f with
      | some f => rfl
      | none =>
        simp only [dP]
        rw [← h1]
        split
        · rename_i sz x hb
          rw [dA_cg (h := h) (h' := h') (v := x) fun k hk => h2 k (by simp only [boxIds, hb, List.append_nil]; exact idsA_V hk)]
        · rfl
  | agg l => exact ⟨dA_cg (v := .agg l) fun id hid => (hv id hid).1, rfl⟩
  | _ => exact ⟨dA_cg (fun id hid => (hv id hid).1), rfl⟩
theorem dF_cg' {h h' : Heap} {v : V} (hn : ∀ f l, v ≠ .fn f l) (hv : Loc h h' (idsA v)) : dF h v = dF h' v ∧ idsF h v = idsF h' v := by
  rw [(notFn (h := h) hn).1, (notFn (h := h) hn).2, (notFn (h := h') hn).1, (notFn (h := h') hn).2]
  exact dP_cg hv
theorem dF_cg {h h' : Heap} {v : V} (hv : Loc h h' (idsW v)) : dF h v = dF h' v ∧ idsF h v = idsF h' v := by
  cases v with
  | fn f l =>
    have key : ∀ x ∈ l, dP h x = dP h' x ∧ idsP h x = idsP h' x := by
      intro x hx
      have hw : ∀ id ∈ idsA x, id ∈ idsW (.fn f l) := fun id hid => by simp only [idsW, List.mem_flatMap]; exact ⟨x, hx, hid⟩
      cases x with
      | fn g m => exact ⟨rfl, rfl⟩
      | tup m => exact ⟨rfl, rfl⟩
      | _ => exact dP_cg (hv.sub hw)
    refine ⟨by simp only [dF]; rw [mapO_congr fun x hx => (key x hx).1], ?_⟩
    simp only [idsF]
    clear hv
    induction l with
    | nil => rfl
    | cons x l ih => simp only [idsPL]; rw [(key x (by simp)).2, ih fun y hy => key y (by simp [hy])]
  | tup l => exact ⟨rfl, rfl⟩
  | _ =>
    refine dF_cg' (fun f l e => by cases e) ?_
    exact hv
theorem idsA_inW {v : V} {id : Nat} (hid : id ∈ idsA v) : id ∈ idsW v := by cases v <;> first | exact hid | (simp [idsA, idsC] at hid)
theorem ptrIn_cg {h h' : Heap} {v : V} (hv : ∀ id ∈ idsA v, h id = h' id) : ptrIn h v = ptrIn h' v := by
  cases v with
  | ptr id i f => cases i <;> cases f <;> first | rfl | (simp only [ptrIn]; rw [hv id (by simp [idsA, idsC])])
  | _ => rfl
theorem ptrBack_cg {h h' : Heap} {v d : V} (hv : ∀ id ∈ idsA v, h id = h' id) : ptrBack h v d = ptrBack h' v d := by
  cases v with
  | ptr id i f =>
    cases i <;> cases f <;> first | rfl | skip
    cases d <;> first | rfl | (simp only [ptrBack]; rw [hv id (by simp [idsA, idsC])])
  | _ => rfl
theorem argsIn_cg {h h' : Heap} : ∀ {ms : List Mode} {vs : List V}, (∀ v ∈ vs, Loc h h' (idsW v)) → argsIn h ms vs = argsIn h' ms vs
  | [], [], _ => rfl
  | [], _ :: _, _ => rfl
  | m :: ms, [], _ => by cases m <;> rfl
  | m :: ms, v :: vs, hv => by
    have ih := argsIn_cg (h := h) (h' := h') (ms := ms) (vs := vs) fun x hx => hv x (by simp [hx])
    have h1 := hv v (by simp)
    have hA : ∀ id ∈ idsA v, h id = h' id := fun id hid => (h1 id (idsA_inW hid)).1
    have h2 : clA h v = clA h' v := clA_congr hA
    cases m
    · simp only [argsIn]; rw [ih, (dF_cg h1).1, (dF_cg h1).2]
    · simp only [argsIn]; rw [ih, h2]
    · simp only [argsIn]; rw [ih, h2]
    · simp only [argsIn]; rw [ih, ptrIn_cg hA]
theorem backC_cg {h h' : Heap} {v d : V} (hv : ∀ id ∈ idsC v, h id = h' id) : backC h v d = backC h' v d := by
  cases v with
  | own id => cases d <;> first | rfl | (simp only [backC]; rw [hv id (by simp [idsC])])
  | _ => rfl
theorem backL_cg {h h' : Heap} : ∀ {l m : List V}, (∀ x ∈ l, ∀ id ∈ idsC x, h id = h' id) → backL h l m = backL h' l m
  | [], [], _ => rfl
  | [], _ :: _, _ => rfl
  | _ :: _, [], _ => rfl
  | x :: l, y :: m, hx => by simp only [backL]; rw [backC_cg (hx x (by simp)), backL_cg fun z hz => hx z (by simp [hz])]
theorem backA_cg {h h' : Heap} {v d : V} (hv : ∀ id ∈ idsA v, h id = h' id) : backA h v d = backA h' v d := by
  cases v with
  | agg l => cases d with
    | agg m => exact backL_cg fun x hx id hid => hv id (idsL_in hx hid)
    | _ => rfl
  | own id => exact backC_cg hv
  | _ => rfl
theorem backs_cg {h h' : Heap} : ∀ {ms : List Mode} {vs os : List V}, (∀ v ∈ vs, ∀ id ∈ idsA v, h id = h' id) → backs h ms vs os = backs h' ms vs os
  | [], [], [], _ => rfl
  | [], [], _ :: _, _ => rfl
  | [], _ :: _, _, _ => rfl
  | m :: ms, [], _, _ => by cases m <;> rfl
  | m :: ms, v :: vs, os, hv => by
    have ih := fun os => backs_cg (h := h) (h' := h') (ms := ms) (vs := vs) (os := os) fun x hx => hv x (by simp [hx])
    cases m
    · simp only [backs]; exact ih os
    · cases os with
      | nil => rfl
      | cons o os => simp only [backs]; rw [ih, backA_cg (hv v (by simp))]
    · simp only [backs]; rw [ih]
    · cases os with
      | nil => rfl
      | cons o os => simp only [backs]; rw [ih, ptrBack_cg (hv v (by simp))]
theorem callV_cg {Φ : Tab} {h h' : Heap} {n f : Nat} {vs : List V} (hv : ∀ v ∈ vs, Loc h h' (idsW v)) : callV Φ h n f vs = callV Φ h' n f vs := by
  unfold callV
  cases Φ f with
  | none => rfl
  | some sp =>
    simp only
    rw [argsIn_cg (h' := h') hv]
    cases argsIn h' sp.modes vs with
    | none => rfl
    | some ins =>
      simp only
      split
      · cases sp.run ins.1 with
        | none => rfl
        | some r => simp only; rw [backs_cg (h' := h') fun v hvm id hid => (hv v hvm id (idsA_inW hid)).1]
      · rfl
theorem ids_evW {e : Env} {t : TypeId} {x : Operand} : ∀ id ∈ idsW (evO P e t x), id ∈ idsOV e x := by
  intro id hid
  cases x with
  | tmp u => exact hid
  | const v =>
    simp only [evO, constV] at hid
    split at hid <;> first | (simp [idsW, idsA, idsC] at hid; done) | (split at hid <;> simp [idsW, idsA, idsC] at hid)
  | func f => simp [evO, idsW] at hid
  | global u => simp [evO, idsW, idsA, idsC] at hid
theorem opV_c4 {e : Env} {h h' : Heap} {o : Oper} (hc : clsO o = 4) (hx : ∀ id ∈ readsH h e o, h id = h' id) : opV P Φ n e h o = opV P Φ n e h' o ∧ readsH h e o = readsH h' e o := by
  obtain ⟨dst, op, type, pos, after, guard⟩ := o
  cases op
  case call c =>
    obtain ⟨cal, args, argTypes⟩ := c
    cases cal with
    | builtin b => cases b <;> simp [clsO] at hc
    | invoke r m => simp [clsO] at hc
    | value f =>
      simp only [readsH, deepR] at hx ⊢
      refine ⟨?_, by rw [boxIds_cg fun id hid => hx id (List.mem_append_left _ hid)]⟩
      simp only [opV]
      cases hcal : callee e ((args.toList.zip (argTypes.toList ++ List.replicate args.size 0)).map fun x => evO P e x.2 x.1) f with
      | none => rfl
      | some p =>
        simp only [Option.bind_some]
        have harg : ∀ v ∈ (args.toList.zip (argTypes.toList ++ List.replicate args.size 0)).map (fun x => evO P e x.2 x.1), Loc h h' (idsW v) := by
          intro v hv
          obtain ⟨q, hq, rfl⟩ := List.mem_map.1 hv
          refine Loc.of hx fun id hid => ?_
          simp only [readsO, readsC, List.mem_append, List.mem_flatMap]
          exact .inr ⟨q.1, (List.of_mem_zip (a := q.1) (b := q.2) hq).1, ids_evW id hid⟩
        refine callV_cg fun v hv => ?_
        unfold callee at hcal
        split at hcal
        · cases hcal; exact harg v hv
        · rename_i t
          split at hcal
          · rename_i f' caps he
            cases hcal
            rcases List.mem_append.1 hv with hv | hv
            · exact harg v hv
            · -- a captured value
              refine Loc.of hx fun id hid => ?_
              simp only [readsO, readsC, List.mem_append, List.mem_flatMap]
              left
              simp only [idsOF, he, List.mem_flatMap]
              exact ⟨v, hv, hid⟩
          · cases hcal
        · cases hcal
  case slice t x lo hi mx => cases mx <;> simp [clsO] at hc
  all_goals (simp [clsO] at hc)
theorem resO_heap3 {e : Env} {h h' : Heap} {o : Oper} {r : V × List (Nat × Option Blk) × List Nat} (hr : resO P Φ ops nt n o e h = some r) (hc : clsO o = 3 ∨ clsO o = 4) (hx : ∀ id ∈ r.2.2, h id = h' id) :
    resO P Φ ops nt n o e h' = some r := by
  unfold resO at hr ⊢
  split at hr
  · rename_i hd
    rw [if_pos hd]
    split at hr
    · cases hr
    · cases hr; rfl
    · simp only [Option.map_eq_some_iff] at hr
      obtain ⟨q, hq, rfl⟩ := hr
      rcases hc with hc | hc
      · have n4 : clsO o ≠ 4 := by omega
        simp only [readsH, deepR_id n4] at hx
        rw [← opV_c3 (P := P) (Φ := Φ) (n := n) (e := e) (h := h) (h' := h') hc hx, hq]; simp only [Option.map_some, readsH, deepR_id n4]
      · obtain ⟨e1, e2⟩ := opV_c4 (P := P) (Φ := Φ) (n := n) (e := e) (h := h) (h' := h') hc hx
        rw [← e1, hq, ← e2]; rfl
  · cases hr
theorem updsH_in {h h' : Heap} {k : Nat} : ∀ {us : List (Nat × Option Blk)}, k ∈ us.map (·.1) → updsH h us k = updsH h' us k
  | (i, b) :: us, hk => by
    simp only [updsH]
    by_cases hin : k ∈ us.map (·.1)
    · exact updsH_in hin
    · have : k = i := by
        simp only [List.map_cons, List.mem_cons] at hk
        rcases hk with hk | hk
        · exact hk
        · exact absurd hk hin
      subst this
      have e : ∀ g : Heap, updsH (updH g k b) us k = updH g k b k := fun g => by
        clear hk
        induction us generalizing g with
        | nil => rfl
        | cons u us ih =>
          obtain ⟨j, b'⟩ := u
          simp only [List.map_cons, List.mem_cons, not_or] at hin
          have hnm := hin.2
          have gen : ∀ (us : List (Nat × Option Blk)) (g : Heap), k ∉ us.map (·.1) → updsH g us k = g k := by
            intro us
            induction us with
            | nil => intro g _; rfl
            | cons u us ih =>
              intro g hn
              obtain ⟨j, b'⟩ := u
              simp only [List.map_cons, List.mem_cons, not_or] at hn
              simp only [updsH]
              rw [ih _ hn.2]; simp [updH, hn.1]
          exact gen _ _ (by simp only [List.map_cons, List.mem_cons, not_or]; exact ⟨hin.1, hnm⟩)
      rw [e, e]; simp [updH]

theorem updsH_notin {h : Heap} {k : Nat} : ∀ {us : List (Nat × Option Blk)}, k ∉ us.map (·.1) → updsH h us k = h k
  | [], _ => rfl
  | (i, b) :: us, hk => by
    simp only [List.map_cons, List.mem_cons, not_or] at hk
    simp only [updsH]
    rw [updsH_notin hk.2]
    simp [updH, hk.1]

theorem putE_other {e : Env} {d : Option Nat} {v : V} {t : Nat} (h : d ≠ some t) : putE e d v t = e t := by
  cases d with
  | none => rfl
  | some u => simp only [putE, updE]; rw [if_neg]; rintro rfl; exact h rfl
theorem putE_comm {e : Env} {d d' : Option Nat} {v v' : V} (h : ∀ t, d = some t → d' ≠ some t) : putE (putE e d v) d' v' = putE (putE e d' v') d v := by
  cases d with
  | none => rfl
  | some t =>
    cases d' with
    | none => rfl
    | some u =>
      have hne : t ≠ u := by rintro rfl; exact h t rfl rfl
      funext x
      simp only [putE, updE]
      split <;> split <;> simp_all

/-- Two operations that may change places. -/
def Comm (ops : Array Oper) (x y : Fp) : Prop := ∃ ox oy, ops[x.1]? = some ox ∧ ops[y.1]? = some oy ∧ ox.apart ops oy = true ∧
  (clsO ox = 0 ∨ clsO oy = 0 ∨ (clsO ox = 1 ∧ clsO oy = 1) ∨ ((clsO ox = 1 ∨ clsO oy = 1 ∨ ((clsO ox = 3 ∨ clsO ox = 4) ∧ (clsO oy = 3 ∨ clsO oy = 4))) ∧ (∀ k ∈ x.2.1, k ∉ y.2.2) ∧ (∀ k ∈ y.2.1, k ∉ x.2.2) ∧ (∀ k ∈ x.2.2, k ∉ y.2.2)))

theorem runT_cons {n0 i : Nat} {l : List Nat} {s s' : Env × Heap} {tr : List Fp} : runT P Φ ops nt n0 (i :: l) s = some (s', tr) ↔
    ∃ o r tl, ops[i]? = some o ∧ resO P Φ ops nt (n0 + stride * i) o s.1 s.2 = some r ∧ runT P Φ ops nt n0 l (putE s.1 o.dst r.1, updsH s.2 r.2.1) = some (s', tl) ∧ tr = (i, r.2.2, r.2.1.map (·.1)) :: tl := by
  simp only [runT, Option.bind_eq_some_iff, Option.map_eq_some_iff, Prod.mk.injEq]
  constructor
  · rintro ⟨o, ho, r, hr, ⟨q1, q2⟩, hq, rfl, rfl⟩
    exact ⟨o, r, q2, ho, hr, hq, rfl⟩
  · rintro ⟨o, r, tl, ho, hr, hq, rfl⟩
    exact ⟨o, ho, r, hr, (s', tl), hq, rfl, rfl⟩

theorem runT_swap {n0 a i : Nat} {l : List Nat} {s s' : Env × Heap} {ta ti : Fp} {tl : List Fp} (hr : runT P Φ ops nt n0 (a :: i :: l) s = some (s', ta :: ti :: tl)) (hc : Comm ops ta ti) :
    runT P Φ ops nt n0 (i :: a :: l) s = some (s', ti :: ta :: tl) := by
  obtain ⟨e, h⟩ := s
  obtain ⟨oa, ra, t1, hoa, hra, hr, heq⟩ := runT_cons.1 hr
  simp only [List.cons.injEq] at heq
  obtain ⟨rfl, rfl⟩ := heq
  obtain ⟨oi, ri, t2, hoi, hri, hr, heq⟩ := runT_cons.1 hr
  simp only [List.cons.injEq] at heq
  obtain ⟨rfl, rfl⟩ := heq
  obtain ⟨ox, oy, hx, hy, hap, hcl⟩ := hc
  simp only at hx hy hcl hra hri hr
  rw [hoa] at hx; cases hx
  rw [hoi] at hy; cases hy
  obtain ⟨ap1, ap2, ap3⟩ := Oper.apart_spec hap
  have E1 : ∀ t ∈ oi.looksAt ops, putE e oa.dst ra.1 t = e t := fun t ht => putE_other fun hd => ap1 t hd ht
  have E2 : ∀ t ∈ oa.looksAt ops, e t = putE e oi.dst ri.1 t := fun t ht => (putE_other fun hd => ap3 t hd ht).symm
  rw [resO_env (P := P) (Φ := Φ) (nt := nt) (h := updsH h ra.2.1) E1] at hri
  have hua : clsO oa = 0 ∨ clsO oa = 1 → ra.2.1 = [] := fun hc => (resO_heap (h' := h) hra (hc.imp id fun hc => ⟨hc, fun _ _ => rfl⟩)).2
  have hui : clsO oi = 0 ∨ clsO oi = 1 → ri.2.1 = [] := fun hc => (resO_heap (h' := updsH h ra.2.1) hri (hc.imp id fun hc => ⟨hc, fun _ _ => rfl⟩)).2
  have hri' : resO P Φ ops nt (n0 + stride * i) oi e h = some ri := by
    by_cases ha : clsO oa = 0 ∨ clsO oa = 1
    · have := hua ha
      rw [this] at hri
      exact hri
    · rcases hcl with hcl | hcl | hcl | hcl
      · exact absurd (.inl hcl) ha
      · exact (resO_heap hri (.inl hcl)).1
      · exact absurd (.inr hcl.1) ha
      · rcases hcl.1 with h1 | h1 | h1
        · exact absurd (.inr h1) ha
        · exact (resO_heap hri (.inr ⟨h1, fun k hk => updsH_notin (hcl.2.2.1 k hk)⟩)).1
        · exact resO_heap3 hri h1.2 fun k hk => updsH_notin (hcl.2.2.1 k hk)
  have hra' : resO P Φ ops nt (n0 + stride * a) oa (putE e oi.dst ri.1) (updsH h ri.2.1) = some ra := by
    rw [← resO_env (P := P) (Φ := Φ) (nt := nt) (h := updsH h ri.2.1) E2]
    by_cases hi : clsO oi = 0 ∨ clsO oi = 1
    · rw [hui hi]; exact hra
    · rcases hcl with hcl | hcl | hcl | hcl
      · exact (resO_heap hra (.inl hcl)).1
      · exact absurd (.inl hcl) hi
      · exact absurd (.inr hcl.2) hi
      · rcases hcl.1 with h1 | h1 | h1
        · exact (resO_heap hra (.inr ⟨h1, fun k hk => (updsH_notin (hcl.2.1 k hk)).symm⟩)).1
        · exact absurd (.inr h1) hi
        · exact resO_heap3 hra h1.1 fun k hk => (updsH_notin (hcl.2.1 k hk)).symm
  have hheap : updsH (updsH h ra.2.1) ri.2.1 = updsH (updsH h ri.2.1) ra.2.1 := by
    by_cases ha : clsO oa = 0 ∨ clsO oa = 1
    · rw [hua ha]; rfl
    · by_cases hi : clsO oi = 0 ∨ clsO oi = 1
      · rw [hui hi]; rfl
      · have h3 : ∀ k ∈ ra.2.1.map (·.1), k ∉ ri.2.1.map (·.1) := by
          rcases hcl with hcl | hcl | hcl | hcl
          · exact absurd (.inl hcl) ha
          · exact absurd (.inl hcl) hi
          · exact absurd (.inr hcl.1) ha
          · exact hcl.2.2.2
        funext k
        by_cases hk : k ∈ ra.2.1.map (·.1)
        · rw [updsH_notin (h3 k hk)]
          exact updsH_in hk
        · rw [updsH_notin hk]
          by_cases hk2 : k ∈ ri.2.1.map (·.1)
          · exact updsH_in hk2
          · rw [updsH_notin hk2, updsH_notin hk2, updsH_notin hk]
  refine runT_cons.2 ⟨oi, ri, _, hoi, hri', runT_cons.2 ⟨oa, ra, _, hoa, hra', ?_, rfl⟩, rfl⟩
  simp only
  rw [← hheap, ← putE_comm ap2]
  exact hr

theorem runT_front {n0 i : Nat} {q : List Nat} {s' : Env × Heap} {ti : Fp} {tq : List Fp} : ∀ {p : List Nat} {s : Env × Heap} {tp : List Fp}, runT P Φ ops nt n0 (p ++ i :: q) s = some (s', tp ++ ti :: tq) → tp.length = p.length → (∀ x ∈ tp, Comm ops x ti) →
    runT P Φ ops nt n0 (i :: (p ++ q)) s = some (s', ti :: (tp ++ tq))
  | [], s, tp, hr, hl, hc => by
    have : tp = [] := List.eq_nil_of_length_eq_zero hl
    subst this
    exact hr
  | a :: p, s, tp, hr, hl, hc => by
    cases tp with
    | nil => simp at hl
    | cons ta tp =>
      obtain ⟨o, r, tl, ho, hres, hr', heq⟩ := runT_cons.1 hr
      simp only [List.cons_append, List.cons.injEq] at heq
      obtain ⟨rfl, rfl⟩ := heq
      have := runT_front hr' (by simpa using hl) fun x hx => hc x (List.mem_cons_of_mem _ hx)
      exact runT_swap (runT_cons.2 ⟨o, r, _, ho, hres, this, rfl⟩) (hc _ (by simp))

theorem runT_fst {n0 : Nat} {s' : Env × Heap} : ∀ {l : List Nat} {s : Env × Heap} {tr : List Fp}, runT P Φ ops nt n0 l s = some (s', tr) → tr.map (·.1) = l
  | [], s, tr, hr => by simp only [runT, Option.some.injEq, Prod.mk.injEq] at hr; rw [← hr.2]; rfl
  | i :: l, s, tr, hr => by
    obtain ⟨o, r, tl, ho, hres, hr', rfl⟩ := runT_cons.1 hr
    rw [List.map_cons, runT_fst hr']

theorem stepO_of_res {n0 i : Nat} {o : Oper} {e : Env} {h : Heap} {r : V × List (Nat × Option Blk) × List Nat} (ho : ops[i]? = some o) (hr : resO P Φ ops nt (n0 + stride * i) o e h = some r) :
    stepO P Φ ops nt n0 i (e, h) = some (putE e o.dst r.1, updsH h r.2.1) := by
  unfold resO at hr
  unfold stepO
  simp only [ho]
  split at hr
  · rename_i hd
    rw [if_pos hd]
    split at hr
    · cases hr
    · rename_i hw; cases hr; simp only [hw]; rfl
    · rename_i hw
      simp only [Option.map_eq_some_iff] at hr
      obtain ⟨q, hq, rfl⟩ := hr
      simp only [hw, hq, Option.map_some]
  · cases hr

/-- Whatever is listed has all that must stand before it listed. -/
def Closed (ops : Array Oper) (listed : Array Bool) : Prop := ∀ j o, listed.getD j false = true → ops[j]? = some o → ∀ k ∈ edgesOf o, listed.getD k false = true

theorem closed_ready {listed : Array Bool} {i : Nat} (hc : Closed ops listed) (hi : i ∈ Region.ready .any ops listed) :
    listed.getD i true = false ∧ ∃ o, ops[i]? = some o ∧ ∀ k ∈ edgesOf o, listed.getD k false = true := by
  obtain ⟨h0, o, ho, hall⟩ := mem_ready.1 hi
  refine ⟨h0, o, ho, fun k hk => ?_⟩
  simp only [edgesOf, List.mem_map, List.mem_filter] at hk
  obtain ⟨e, ⟨he, hb⟩, rfl⟩ := hk
  exact hall e (by simpa using he) hb

theorem anc_ok {listed : Array Bool} (hcl : Closed ops listed) : ∀ (os : List Oper) (acc : List (List Nat)), os = ops.toList.drop acc.length →
    (∀ i o, i < acc.length → ops[i]? = some o → (∀ k ∈ edgesOf o, listed.getD k false = true) → ∀ x ∈ acc.getD i [], listed.getD x false = true) →
    ∀ i o, ops[i]? = some o → (∀ k ∈ edgesOf o, listed.getD k false = true) → ∀ x ∈ (ancs os acc).getD i [], listed.getD x false = true
  | [], acc, hd, hacc, i, o, ho, hk, x, hx => by
    simp only [ancs] at hx
    refine hacc i o ?_ ho hk x hx
    have := (Array.getElem?_eq_some_iff.1 ho).1
    have h2 : ops.size ≤ acc.length := by
      have := congrArg List.length hd
      simp at this
      omega
    omega
  | o' :: os, acc, hd, hacc, i, o, ho, hk, x, hx => by
    simp only [ancs] at hx
    have ho' : ops[acc.length]? = some o' := by
      have := congrArg (fun l => l[0]?) hd
      simpa using this.symm
    refine anc_ok hcl os _ ?_ ?_ i o ho hk x hx
    · have := congrArg List.tail hd
      simpa using this
    · intro j oj hj hoj hkj y hy
      simp only [List.length_append, List.length_cons, List.length_nil] at hj
      rcases Nat.lt_or_ge j acc.length with hlt | hge
      · refine hacc j oj hlt hoj hkj y ?_
        simpa [List.getD_eq_getElem?_getD, List.getElem?_append_left hlt] using hy
      · have : j = acc.length := by omega
        subst this
        rw [ho'] at hoj; cases hoj
        simp only [List.getD_eq_getElem?_getD, List.getElem?_append_right (Nat.le_refl _), Nat.sub_self, List.getElem?_cons_zero, Option.getD_some, List.mem_flatMap, List.mem_cons] at hy
        obtain ⟨k, hk', hy⟩ := hy
        rcases hy with rfl | hy
        · exact hkj _ hk'
        · rcases Nat.lt_or_ge k acc.length with hlt | hge
          · have hlt' : k < ops.size := by have := (Array.getElem?_eq_some_iff.1 ho').1; omega
            have hok : ops[k]? = some ops[k] := Array.getElem?_eq_getElem hlt'
            exact hacc k _ hlt hok (fun m hm => hcl k _ (hkj k hk') hok m hm) y (by simpa [List.getD_eq_getElem?_getD] using hy)
          · rw [List.getElem?_eq_none hge] at hy; simp at hy
end env

section any
variable {P : Program} {Φ : Tab} {w0 : World} {O S : Nat → Prop} {Q : Exit → Act → World → Prop} {ops : Array Oper}

def Anc (ops : Array Oper) (x y : Nat) : Prop := x ∈ (ancs ops.toList []).getD y []

theorem any_ok (hΦ : ∀ f sp, Φ f = some sp → FnAt P w0 O f sp) {nt n0 : Nat} {cio : List Value} {io : List V} (hedge : ∀ i o, ops[i]? = some o → ∀ j ∈ edgesOf o, j < i) :
    ∀ (fuel : Nat) (r : List Nat) (tr : List Fp) (listed : Array Bool) (e : Env) (h : Heap) (s' : Env × Heap) (a : Act) (w : World), r.Pairwise (· < ·) → (∀ j, j ∈ r ↔ j < ops.size ∧ listed.getD j true = false) → Closed ops listed → listed.size = ops.size →
      runT P Φ ops nt n0 r (e, h) = some (s', tr) → tr.Pairwise (fun x y => Anc ops x.1 y.1 ∨ Comm ops x y) → r.length ≤ fuel →
      Sim w0 O S cio e h nt io (Used n0 fun j => j < ops.size ∧ listed.getD j true = true) a w →
      (∀ a' w', Sim w0 O S cio s'.1 s'.2 nt io (fun id => id < n0 + stride * ops.size) a' w' → Q .normal a' w') → wpAny P .any ops Q fuel listed a w := by
  have base : ∀ (r : List Nat) (listed : Array Bool), r.Pairwise (· < ·) → (∀ j, j ∈ r ↔ j < ops.size ∧ listed.getD j true = false) → listed.size = ops.size → Region.ready .any ops listed = [] → r = [] := by
    intro r listed hp hr hsz hn
    cases r with
    | nil => rfl
    | cons i l =>
      exfalso
      obtain ⟨hi, hl⟩ := (hr i).1 (by simp)
      have ho : ops[i]? = some ops[i] := Array.getElem?_eq_getElem hi
      have : i ∈ Region.ready .any ops listed := by
        refine mem_ready.2 ⟨hl, _, ho, fun e he hb => ?_⟩
        have hlt := hedge i _ ho e.on (by simp only [edgesOf, List.mem_map, List.mem_filter]; exact ⟨e, ⟨by simpa using he, hb⟩, rfl⟩)
        have hlt' : e.on < ops.size := by omega
        have hnr : e.on ∉ i :: l := by
          intro hm
          rcases List.mem_cons.1 hm with h1 | h1
          · omega
          · have := (List.pairwise_cons.1 hp).1 _ h1; omega
        have hnl : ¬ listed.getD e.on true = false := fun hf => hnr ((hr e.on).2 ⟨hlt', hf⟩)
        have hsome : listed[e.on]? = some listed[e.on] := Array.getElem?_eq_getElem (by omega)
        simp only [Array.getD_eq_getD_getElem?, hsome, Option.getD_some] at hnl ⊢
        simpa using hnl
      rw [hn] at this; cases this
  intro fuel
  induction fuel with
  | zero =>
    intro r tr listed e h s' a w hp hr hcl hsz hrun hpw hfl hs hQ
    have : r = [] := List.eq_nil_of_length_eq_zero (by omega)
    subst this
    simp only [runT, Option.some.injEq, Prod.mk.injEq] at hrun
    obtain ⟨rfl, rfl⟩ := hrun
    refine ⟨?_, hQ a w (hs.weak (Used.all fun i hi => hi.1))⟩
    cases hrd : Region.ready .any ops listed with
    | nil => rfl
    | cons i l =>
      have hi : i ∈ Region.ready .any ops listed := by rw [hrd]; simp
      obtain ⟨h0, o, ho, _⟩ := closed_ready hcl hi
      exact absurd ((hr i).2 ⟨(Array.getElem?_eq_some_iff.1 ho).1, h0⟩) (by simp)
  | succ fuel ih =>
    intro r tr listed e h s' a w hp hr hcl hsz hrun hpw hfl hs hQ
    refine ⟨fun hn => ?_, fun i hi => ?_⟩
    · have := base r listed hp hr hsz hn
      subst this
      simp only [runT, Option.some.injEq, Prod.mk.injEq] at hrun
      obtain ⟨rfl, rfl⟩ := hrun
      exact hQ a w (hs.weak (Used.all fun i hi => hi.1))
    · obtain ⟨h0, o, ho, hpre⟩ := closed_ready hcl hi
      have hil : i < ops.size := (Array.getElem?_eq_some_iff.1 ho).1
      have him : i ∈ r := (hr i).2 ⟨hil, h0⟩
      obtain ⟨p, q, rfl⟩ := List.append_of_mem him
      have hfst := runT_fst hrun
      obtain ⟨tp, t1, rfl, htp, ht1⟩ := List.map_eq_append_iff.1 hfst
      obtain ⟨ti, tq, rfl, hti, htq⟩ := List.map_eq_cons_iff.1 ht1
      rw [List.pairwise_append] at hpw
      obtain ⟨pw1, pw2, pw3⟩ := hpw
      rw [List.pairwise_cons] at pw2
      have hnd : (p ++ i :: q).Nodup := hp.imp fun h => Nat.ne_of_lt h
      have hip : i ∉ p ∧ i ∉ q := by
        rw [List.nodup_append] at hnd
        refine ⟨fun hm => hnd.2.2 i hm i (by simp) rfl, (List.nodup_cons.1 hnd.2.1).1⟩
      have hfront := runT_front hrun (by rw [← htp]; simp) fun x hx => by
        rcases pw3 x hx ti (by simp) with h1 | h1
        · exfalso
          rw [hti] at h1
          have h2 := anc_ok hcl ops.toList [] rfl (fun _ _ h => absurd h (by simp)) i o ho hpre x.1 h1
          have h3 : x.1 ∈ p := by rw [← htp]; exact List.mem_map_of_mem hx
          have h4 := ((hr x.1).1 (List.mem_append_left _ h3)).2
          have hlt : x.1 < listed.size := by have := ((hr x.1).1 (List.mem_append_left _ h3)).1; omega
          have hsome : listed[x.1]? = some (listed[x.1]'hlt) := Array.getElem?_eq_getElem hlt
          simp only [Array.getD_eq_getD_getElem?, hsome, Option.getD_some] at h2 h4
          rw [h2] at h4; cases h4
        · exact h1
      obtain ⟨o', ri, tl, ho', hres, hrest, heq⟩ := runT_cons.1 hfront
      simp only [List.cons.injEq] at heq
      obtain ⟨_, rfl⟩ := heq
      rw [ho] at ho'; cases ho'
      have hset : ∀ j, (listed.setIfInBounds i true).getD j true = if j = i then true else listed.getD j true := by
        intro j
        by_cases hj : j = i
        · subst hj; simp [hsz, hil]
        · rw [if_neg hj, getD_set_ne true (Ne.symm hj)]
      refine step_ok hΦ (i := i) (X := fun j => j < ops.size ∧ listed.getD j true = true) (fun hX => by rw [h0] at hX; cases hX.2) (stepO_of_res ho hres) hs fun a' w' hs' => ?_
      refine ih (p ++ q) (tp ++ tq) _ _ _ s' a' w' ?_ ?_ ?_ (by simp [hsz]) hrest ?_ (by simp at hfl ⊢; omega) (hs'.weak ?_) hQ
      · rw [List.pairwise_append] at hp ⊢
        exact ⟨hp.1, (List.pairwise_cons.1 hp.2.1).2, fun x hx y hy => hp.2.2 x hx y (List.mem_cons_of_mem _ hy)⟩
      · intro j
        rw [hset j]
        have := hr j
        simp only [List.mem_append, List.mem_cons] at this ⊢
        by_cases hj : j = i
        · subst hj
          simp [hip.1, hip.2]
        · simp only [hj, false_or, if_false] at this ⊢
          exact this
      · intro j o2 hj ho2 k hk
        by_cases hji : j = i
        · subst hji
          rw [ho] at ho2; cases ho2
          exact getD_set_true (hpre k hk)
        · rw [getD_set_ne false (Ne.symm hji)] at hj
          exact getD_set_true (hcl j o2 hj ho2 k hk)
      · rw [List.pairwise_append]
        exact ⟨pw1, pw2.2, fun x hx y hy => pw3 x hx y (List.mem_cons_of_mem _ hy)⟩
      · rintro id (hid | ⟨j, hj, h4⟩)
        · exact .inl hid
        · refine .inr ⟨j, ?_, h4⟩
          rcases hj with hj | rfl
          · refine ⟨hj.1, ?_⟩
            rw [hset j]; split
            · rfl
            · exact hj.2
          · exact ⟨hil, by rw [hset j]; simp⟩

theorem fpOf_mem : ∀ {tr : List Fp}, (tr.map (·.1)).Nodup → ∀ x ∈ tr, fpOf x.1 tr = some x.2
  | [], _, x, hx => by simp at hx
  | (j, r) :: tr, hn, x, hx => by
    simp only [List.map_cons, List.nodup_cons] at hn
    simp only [fpOf]
    rcases List.mem_cons.1 hx with rfl | hx
    · rw [if_pos rfl]
    · rw [if_neg]
      · exact fpOf_mem hn.2 x hx
      · intro e
        apply hn.1
        rw [e]
        exact List.mem_map_of_mem hx

theorem disjB_ok {a b : List Nat} (h : disjB a b = true) : ∀ k ∈ a, k ∉ b := by
  intro k hk hb
  have := List.all_eq_true.1 h k hk
  simp [hb] at this

theorem dynOk_ok : ∀ {need : List (Nat × Nat)} {tr : List Fp}, dynOk need tr = true → ∀ p ∈ need, ∃ x y, fpOf p.1 tr = some x ∧ fpOf p.2 tr = some y ∧ disjB x.1 y.2 = true ∧ disjB y.1 x.2 = true ∧ disjB x.2 y.2 = true
  | [], _, _, p, hp => by simp at hp
  | (a, i) :: l, tr, h, p, hp => by
    simp only [dynOk, Bool.and_eq_true] at h
    rcases List.mem_cons.1 hp with rfl | hp
    · have h1 := h.1
      split at h1
      · rename_i x y hx hy
        simp only [Bool.and_eq_true] at h1
        exact ⟨x, y, hx, hy, h1.1.1, h1.1.2, h1.2⟩
      · cases h1
    · exact dynOk_ok h.2 p hp
theorem draw_ok (hΦ : ∀ f sp, Φ f = some sp → FnAt P w0 O f sp) {need : List (Nat × Nat)} (hchk : orderChk ops need = true) {s s2 : St} {cio : List Value} (hv : drawV P Φ ops need s = some s2) {a : Act} {w : World}
    (hs : Sim w0 O S cio s.env s.heap s.nt s.io (fun id => id < s.next) a w)
    (hQ : ∀ a' w', Sim w0 O S cio s2.env s2.heap s2.nt s2.io (fun id => id < s2.next) a' w' → Q .normal a' w') : wpAny P .any ops Q ops.size (Array.replicate ops.size false) a w := by
  unfold drawV at hv
  simp only [Option.bind_eq_some_iff] at hv
  obtain ⟨⟨s', tr⟩, hrun, hv⟩ := hv
  split at hv
  case isFalse => cases hv
  rename_i hdyn
  cases hv
  simp only [orderChk, List.all_eq_true, List.mem_range, Bool.and_eq_true] at hchk
  have hedge : ∀ i o, ops[i]? = some o → ∀ j ∈ edgesOf o, j < i := by
    intro i o ho j hj
    have h1 := (hchk i (Array.getElem?_eq_some_iff.1 ho).1).1
    simp only [ho, List.all_eq_true, decide_eq_true_eq] at h1
    exact h1 j hj
  have hfst := runT_fst hrun
  have hnd : (tr.map (·.1)).Nodup := by rw [hfst]; exact List.nodup_range
  have hlt : (tr.map (·.1)).Pairwise (· < ·) := by rw [hfst]; exact List.pairwise_lt_range
  rw [List.pairwise_map] at hlt
  refine any_ok hΦ (s' := s') hedge ops.size (List.range ops.size) tr _ s.env s.heap a w List.pairwise_lt_range ?_ ?_ (by simp) hrun ?_ (by simp) (hs.weak fun k hk => .inl hk) hQ
  · intro j
    simp only [List.mem_range]
    constructor
    · intro h; exact ⟨h, by simp [h]⟩
    · exact fun h => h.1
  · intro j o hj ho
    exfalso
    have := (Array.getElem?_eq_some_iff.1 ho).1
    simp [this] at hj
  · refine List.Pairwise.imp_of_mem ?_ hlt
    intro x y hx hy hxy
    have hys : y.1 < ops.size := by
      have : y.1 ∈ tr.map (·.1) := List.mem_map_of_mem hy
      rw [hfst] at this
      simpa using this
    have hpc := (hchk y.1 hys).2 x.1 hxy
    unfold pairChk at hpc
    split at hpc
    · rename_i oi oa hoi hoa
      simp only [Bool.or_eq_true, Bool.and_eq_true, List.contains_iff_mem, beq_iff_eq] at hpc
      rcases hpc with hpc | ⟨hap, hpc⟩
      · exact .inl hpc
      · refine .inr ⟨oa, oi, hoa, hoi, hap, ?_⟩
        have hcc : ∀ oz, okc oz = true → clsO oz = 3 ∨ clsO oz = 4 := by
          intro oz h
          simpa only [okc, Bool.or_eq_true, beq_iff_eq] using h
        rcases hpc with ((hpc | hpc) | hpc) | ⟨hc, hn⟩
        · exact .inl hpc
        · exact .inr (.inl hpc)
        · exact .inr (.inr (.inl hpc))
        · refine .inr (.inr (.inr ⟨by rcases hc with (hc | hc) | hc; exact .inl hc; exact .inr (.inl hc); exact .inr (.inr ⟨hcc oa hc.1, hcc oi hc.2⟩), ?_⟩))
          obtain ⟨u, v, hu, hv, d1, d2, d3⟩ := dynOk_ok hdyn _ hn
          rw [fpOf_mem hnd x hx] at hu
          rw [fpOf_mem hnd y hy] at hv
          cases hu; cases hv
          exact ⟨disjB_ok d1, disjB_ok d2, disjB_ok d3⟩
    · cases hpc
end any
end Go.VM

/- The fixed form of a state: what a loop's round begins with. -/
set_option linter.unusedVariables false
set_option linter.unusedSimpArgs false
namespace Go.VM
open Go

theorem findIx_ok {x : Nat} : ∀ {l : List Nat} {n j : Nat}, findIx x l n = some j → n ≤ j ∧ l[j - n]? = some x
  | [], n, j, h => by simp [findIx] at h
  | y :: l, n, j, h => by
    simp only [findIx] at h
    split at h
    · rename_i e
      cases h
      subst e
      simp
    · obtain ⟨h1, h2⟩ := findIx_ok h
      refine ⟨by omega, ?_⟩
      have : j - n = (j - (n + 1)) + 1 := by omega
      rw [this]
      simpa using h2

theorem addNew_nodup : ∀ (l acc : List Nat), acc.Nodup → (addNew acc l).Nodup
  | [], acc, h => h
  | x :: l, acc, h => by
    simp only [addNew]
    refine addNew_nodup l _ ?_
    split
    · exact h
    · rename_i hc
      rw [List.nodup_append]
      refine ⟨h, by simp, ?_⟩
      rintro a ha b hb rfl
      simp only [List.mem_singleton] at hb
      subst hb
      simp only [List.contains_iff_mem] at hc
      exact hc ha

theorem roots_nodup (keep : List Nat) (s : St) : (roots keep s).Nodup := addNew_nodup _ _ (addNew_nodup _ _ .nil)

theorem hOf_append {l l' : List (Nat × Blk)} {t : Nat} (h : ∀ p ∈ l, p.1 ≠ t) : hOf (l ++ l') t = hOf l' t := by
  induction l with
  | nil => rfl
  | cons p l ih =>
    obtain ⟨k, b⟩ := p
    simp only [List.cons_append, hOf]
    rw [if_neg (fun e => h (k, b) (by simp) e.symm)]
    exact ih fun p hp => h p (List.mem_cons_of_mem _ hp)

theorem keepH_ge (m : List Nat) (h : Heap) : ∀ (l : List Nat) (n : Nat), ∀ p ∈ keepH m h l n, n ≤ p.1
  | [], n, p, hp => by simp [keepH] at hp
  | i :: l, n, p, hp => by
    simp only [keepH, List.mem_append] at hp
    rcases hp with hp | hp
    · split at hp
      · split at hp
        · simp only [List.mem_singleton] at hp; subst hp; exact Nat.le_refl _
        · simp at hp
      · simp at hp
    · have := keepH_ge m h l (n + 1) p hp; omega
theorem hOf_none {l : List (Nat × Blk)} {t : Nat} (h : ∀ p ∈ l, p.1 ≠ t) : hOf l t = none := by
  have := hOf_append (l' := []) h
  rw [List.append_nil] at this
  exact this

theorem keepH_at (m : List Nat) (h : Heap) : ∀ (l : List Nat) (n t : Nat), hOf (keepH m h l n) (n + t) = (l[t]?).bind fun i => (h i).bind (renB m)
  | [], n, t => by simp [keepH, hOf]
  | i :: l, n, t => by
    simp only [keepH]
    cases t with
    | zero =>
      have htl : hOf (keepH m h l (n + 1)) n = none := hOf_none fun p hp => by have := keepH_ge m h l (n + 1) p hp; omega
      simp only [Nat.add_zero, List.getElem?_cons_zero, Option.bind_some]
      cases hi : h i with
      | none => simpa using htl
      | some b =>
        cases hb : renB m b with
        | none => simpa [hb] using htl
        | some b' => simp [hb, hOf]
    | succ t =>
      rw [hOf_append]
      · have := keepH_at m h l (n + 1) t
        rw [show n + (t + 1) = n + 1 + t by omega, this]
        rfl
      · intro p hp
        split at hp
        · split at hp
          · simp only [List.mem_singleton] at hp; subst hp; simp only; omega
          · simp at hp
        · simp at hp

theorem eOf_keep {m : List Nat} {e : Env} {R : V → Prop} (hu : R .undef) {t : Nat} (hR : R (renV m (e t))) : ∀ (l : List Nat), R (eOf (keepE m e l) t)
  | [] => hu
  | u :: l => by
    simp only [keepE, eOf]
    split
    · rename_i h; subst h; exact hR
    · exact eOf_keep hu hR l

section
variable {w0 w : World} {O S : Nat → Prop} {g : G} {h : Heap} {U : Nat → Prop} {m : List Nat}

def hR (m : List Nat) (h : Heap) : Heap := hOf (keepH m h m 0)
def gR (m : List Nat) (g : G) (h : Heap) : G where
  base j := (m[j]?).bind g.base
  cap j := match m[j]? with | some i => g.cap i | none => 0
  N j := match m[j]? with | some i => g.N i | none => fun _ => False
  dead j := j < m.length ∧ hR m h j = none

theorem hR_eq (j : Nat) : hR m h j = (m[j]?).bind fun i => (h i).bind (renB m) := by
  have := keepH_at m h m 0 j
  simpa [hR] using this

theorem renB_ok {b b' : Blk} (h : renB m b = some b') : b'.kind = b.kind ∧ b'.sz = b.sz ∧ b'.els.length = b.els.length := by
  unfold renB at h
  split at h
  · split at h <;> cases h; exact ⟨rfl, rfl, rfl⟩
  · cases h; exact ⟨rfl, rfl, rfl⟩
  · cases h; exact ⟨rfl, rfl, rfl⟩
  · cases h

theorem renC_ok {y : V} {c : Value} (x : VR w S g h y c) (hdead : ∀ id, g.dead id → h id = none) : VR w S (gR m g h) (hR m h) (renC m y) c := by
  have key : ∀ id j, findIx id m 0 = some j → (gR m g h).dead j ∨ ∃ b b', h id = some b ∧ hR m h j = some b' ∧ b'.kind = b.kind ∧ b'.sz = b.sz ∧ b'.els.length = b.els.length ∧ m[j]? = some id := by
    intro id j hj
    have h1 := (findIx_ok hj).2
    simp only [Nat.sub_zero] at h1
    cases h2 : hR m h j with
    | none => exact .inl ⟨(List.getElem?_eq_some_iff.1 h1).1, h2⟩
    | some b' =>
      right
      have h3 := h2
      rw [hR_eq, h1] at h3
      simp only [Option.bind_some, Option.bind_eq_some_iff] at h3
      obtain ⟨b, hb, hb'⟩ := h3
      obtain ⟨q1, q2, q3⟩ := renB_ok hb'
      exact ⟨b, b', hb, rfl, q1, q2, q3, h1⟩
  cases y with
  | undef => exact .undef _
  | void => rw [VR.inv_void x]; exact .void
  | int k n => rw [x.inv_int]; exact .rd _ _ (.int _ _)
  | bool b => rw [x.inv_bool]; exact .rd _ _ (.bool _)
  | str s => obtain ⟨b, rfl, hb⟩ := x.inv_str; exact .rd _ _ (.str _ _ hb)
  | lst sz l => exact .rd _ _ x.inv_lst
  | nils sz => rw [x.inv_nils]; exact .nils _
  | rptr v => exact .rd _ _ x.inv_rptr
  | agg l => exact .undef _
  | tup l => exact .undef _
  | fn f l => exact .undef _
  | raw a n k => rw [x.inv_raw]; exact .rd _ _ (.raw _ _ _)
  | err b =>
    rcases x.inv_err with ⟨rfl, rfl⟩ | ⟨rfl, t, v, rfl⟩
    · exact .rd _ _ .errN
    · exact .rd _ _ (.errS t v)
  | hole =>
    cases x with
    | rd _ _ hr => cases hr with | hole a n c => exact .rd _ _ (.hole a n c)
    | dead _ id hi _ _ => simp [idsC] at hi
  | own id =>
    simp only [renC]
    split
    · rename_i j hj
      rcases key id j hj with hd | ⟨b, b', hb, hb', q1, q2, q3, hm⟩
      · exact .dead _ j (by simp [idsC]) hd _
      · obtain ⟨k, sz, els⟩ := b
        obtain ⟨k', sz', els'⟩ := b'
        obtain ⟨hkb, rfl⟩ := x.inv_own hb (fun hd => by rw [hdead id hd] at hb; cases hb)
        simp only at q1 q2 q3
        subst q1
        have := VR.own (w := w) (S := S) (g := gR m g h) (h := hR m h) j sz' k' els' hb' hkb
        rw [q3] at this
        simpa [gR, hm] using this
    · exact .undef _
  | win id lo len =>
    simp only [renC]
    split
    · rename_i j hj
      rcases key id j hj with hd | ⟨b, b', hb, hb', q1, q2, q3, hm⟩
      · exact .dead _ j (by simp [idsC]) hd _
      · obtain ⟨k, sz, els⟩ := b
        obtain ⟨k', sz', els'⟩ := b'
        obtain ⟨hkb, e⟩ := x.inv_winA hb (fun hd => by rw [hdead id hd] at hb; cases hb)
        simp only at q1 q2 q3
        subst q1 q2
        rcases e with ⟨rfl, hcz, a', rfl, ha⟩ | ⟨ad, cp, hbase, hcp, hlc, rfl⟩
        · exact .win0 _ _ _ k' els' hb' hkb _ (by simpa [gR, hm] using hcz) (fun h0 => by simpa [gR, hm] using ha h0)
        · exact .win j lo len sz' cp k' els' ad hb' hkb (by simpa [gR, hm] using hbase) (by simpa [gR, hm] using hcp) hlc
    · exact .undef _
  | ptr id i f =>
    simp only [renC]
    split
    · rename_i j hj
      rcases key id j hj with hd | ⟨b, b', hb, hb', q1, q2, q3, hm⟩
      · exact .dead _ j (by simp [idsC]) hd _
      · rcases x.inv_ptr2 hb (fun hd => by rw [hdead id hd] at hb; cases hb) with ⟨ad, hbase, hi, rfl⟩ | ⟨sz, v, ad, rfl, rfl, rfl, hbase, rfl⟩
        · rw [← q2]
          exact .ptr j i f b' ad hb' (by simpa [gR, hm] using hbase) (by rw [q3]; exact hi)
        · obtain ⟨k', sz', els'⟩ := b'
          simp only at q1 q3
          subst q1
          match els', q3 with
          | [v'], _ => exact .mref j sz' v' ad hb' (by simpa [gR, hm] using hbase)
    · exact .undef _

theorem renL_eq (m : List Nat) : ∀ l : List V, renL m l = l.map (renC m)
  | [] => rfl
  | x :: l => by simp [renL, renL_eq m l]
theorem renVL_eq (m : List Nat) : ∀ l : List V, renVL m l = l.map (renV m)
  | [] => rfl
  | x :: l => by simp [renVL, renVL_eq m l]

theorem renV_ok {y : V} {c : Value} (x : VR w S g h y c) (hdead : ∀ id, g.dead id → h id = none) : VR w S (gR m g h) (hR m h) (renV m y) c := by
  have hl : ∀ {l : List V} {cs : Array Value}, l.length = cs.size → (∀ (i : Nat) x c, l[i]? = some x → cs[i]? = some c → VR w S g h x c) →
      (renL m l).length = cs.size ∧ ∀ (i : Nat) x c, (renL m l)[i]? = some x → cs[i]? = some c → VR w S (gR m g h) (hR m h) x c := by
    intro l cs hl hr
    rw [renL_eq]
    refine ⟨by simpa using hl, fun i x c hx hc => ?_⟩
    simp only [List.getElem?_map, Option.map_eq_some_iff] at hx
    obtain ⟨y, hy, rfl⟩ := hx
    exact renC_ok (hr i y c hy hc) hdead
  cases y with
  | agg l => obtain ⟨cs, rfl, h1, h2⟩ := x.inv_agg; obtain ⟨q1, q2⟩ := hl h1 h2; exact .agg _ _ q1 q2
  | tup l => obtain ⟨cs, rfl, h1, h2⟩ := x.inv_tup; obtain ⟨q1, q2⟩ := hl h1 h2; exact .tup _ _ q1 q2
  | fn f l => obtain ⟨cs, rfl, h1, h2⟩ := x.inv_fn; obtain ⟨q1, q2⟩ := hl h1 h2; exact .fn f _ _ q1 q2
  | _ => exact renC_ok x hdead

theorem renV_cells {v : V} (hb : boxableA v = true) (hb' : boxableA (renV m v) = true) : (renV m v).cells.length = v.cells.length ∧ ∀ (j : Nat) y, (renV m v).cells[j]? = some y → ∃ x, v.cells[j]? = some x ∧ (y = renC m x ∨ y = renV m x) := by
  cases v with
  | agg l =>
    simp only [renV, V.cells, renL_eq, List.length_map, List.getElem?_map, Option.map_eq_some_iff, true_and]
    rintro j y ⟨x, hx, rfl⟩
    exact ⟨x, hx, .inl rfl⟩
  | fn f l => exact ⟨rfl, fun j y hy => by cases j with
    | zero => simp [renV, V.cells] at hy; subst hy; exact ⟨_, rfl, .inr rfl⟩
    | succ j => simp [renV, V.cells] at hy⟩
  | tup l => simp [boxableA, okCell] at hb
  | undef => simp [boxableA, okCell] at hb
  | void => simp [boxableA, okCell] at hb
  | own id | win id lo len | ptr id i f =>
    cases hj : findIx id m 0 with
    | some j =>
      refine ⟨by simp [renV, renC, hj, V.cells], fun k y hy => ?_⟩
      cases k with
      | zero => simp [renV, renC, hj, V.cells] at hy; subst hy; exact ⟨_, rfl, .inl (by simp [renC, hj])⟩
      | succ k => simp [renV, renC, hj, V.cells] at hy
    | none => simp [renV, renC, hj, boxableA, okCell] at hb'
  | _ => exact ⟨rfl, fun k y hy => by cases k with
    | zero => simp [renV, renC, V.cells] at hy; subst hy; exact ⟨_, rfl, .inl rfl⟩
    | succ k => simp [renV, renC, V.cells] at hy⟩

theorem hR_ok (H : HOk w0 O w S g h U) (hn : m.Nodup) : HOk w0 O w S (gR m g h) (hR m h) (fun id => id < m.length) := by
  have get : ∀ j b', hR m h j = some b' → ∃ id b, m[j]? = some id ∧ h id = some b ∧ renB m b = some b' := by
    intro j b' hb'
    rw [hR_eq] at hb'
    simp only [Option.bind_eq_some_iff] at hb'
    obtain ⟨id, h1, b, h2, h3⟩ := hb'
    exact ⟨id, b, h1, h2, h3⟩
  refine ⟨?_, ?_, ?_, H.slt, ?_, fun id hd => hd.2, H.fr⟩
  · intro j b' hb'
    obtain ⟨id, b, hm, hb, hren⟩ := get j b' hb'
    have hB := H.blk id b hb
    unfold renB at hren
    split at hren
    · rename_i sz v
      split at hren
      · rename_i hbx
        cases hren
        obtain ⟨ad, cur, e', fr, v'', h1, h2, h3, h4, h5, h6, h7, h8, h9, h10, h11⟩ := hB
        simp only [List.cons.injEq, and_true] at h6
        subst h6
        obtain ⟨q1, q2⟩ := renV_cells (m := m) h9 hbx
        refine ⟨ad, cur, e', fr, renV m v, by simp [gR, hm, h1], h2, h3, h4, h5, rfl, by rw [q1]; exact h7, by rw [q1]; exact h8, hbx, ?_, ?_⟩
        · intro k y c hy hc
          obtain ⟨x, hx, hy'⟩ := q2 k y hy
          have := h10 k x c hx hc
          rcases hy' with rfl | rfl
          · exact renC_ok this H.dead
          · exact renV_ok this H.dead
        · intro k
          simp only [gR, hm]
          exact h11 k
      · cases hren
    · cases hren
      simpa only [BlkOk, gR, hm, Option.bind_some] using hB
    · cases hren
      simpa only [BlkOk, gR, hm, Option.bind_some] using hB
    · cases hren
  · intro i j b b' k hi hj hk hk'
    obtain ⟨id, b1, hm, hb, _⟩ := get i b hi
    obtain ⟨id', b2, hm', hb2, _⟩ := get j b' hj
    simp only [gR, hm] at hk
    simp only [gR, hm'] at hk'
    have := H.disj id id' b1 b2 k hb hb2 hk hk'
    subst this
    have h1 := List.getElem?_eq_some_iff.1 hm
    have h2 := List.getElem?_eq_some_iff.1 hm'
    obtain ⟨l1, e1⟩ := h1
    obtain ⟨l2, e2⟩ := h2
    have hp := List.pairwise_iff_getElem.1 hn
    rcases Nat.lt_trichotomy i j with h3 | h3 | h3
    · exact absurd (e1.trans e2.symm) (hp i j l1 l2 h3)
    · exact h3
    · exact absurd (e2.trans e1.symm) (hp j i l2 l1 h3)
  · intro i b k hi hk
    obtain ⟨id, b1, hm, hb, _⟩ := get i b hi
    simp only [gR, hm] at hk
    exact H.own id b1 k hb hk
  · rintro id (hid | hid)
    · obtain ⟨b, hb⟩ := Option.ne_none_iff_exists'.1 hid
      obtain ⟨_, _, hm, _⟩ := get id b hb
      exact (List.getElem?_eq_some_iff.1 hm).1
    · exact hid.1

theorem canon_ok {s : St} {keep : List Nat} {cio : List Value} {a : Act} (hs : Sim w0 O S cio s.env s.heap s.nt s.io (fun id => id < s.next) a w) :
    Sim w0 O S cio (canon keep s).env (canon keep s).heap (canon keep s).nt (canon keep s).io (fun id => id < (canon keep s).next) a w := by
  obtain ⟨⟨g, H, E, I⟩, h2, h3⟩ := hs
  refine ⟨⟨gR (roots keep s) g s.heap, hR_ok H (roots_nodup keep s), fun t => ?_, ?_⟩, h2, h3⟩
  · exact eOf_keep (R := fun v => VR w S (gR (roots keep s) g s.heap) (hR (roots keep s) s.heap) v (a.tmps.getD t Go.undef)) (.undef _) (renV_ok (E t) H.dead) keep
  · simp only [canon, renVL_eq]
    have : ∀ {l : List V} {cs : List Value}, Two (VR w S g s.heap) l cs → Two (VR w S (gR (roots keep s) g s.heap) (hR (roots keep s) s.heap)) (l.map (renV (roots keep s))) cs := by
      intro l cs t
      induction t with
      | nil => exact .nil
      | cons h _ ih => exact .cons (renV_ok h H.dead) ih
    exact this I
end
end Go.VM

