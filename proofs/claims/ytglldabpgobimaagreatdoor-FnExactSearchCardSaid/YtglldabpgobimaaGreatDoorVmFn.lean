/- A function as a whole: from its arguments to its results. -/
import Derived.Test.YtglldabpgobimaaGreatDoorVmGo
import Derived.Test.YtglldabpgobimaaGreatDoorVmRun
set_option linter.unusedVariables false
set_option linter.unusedSimpArgs false
namespace Go.VM
open Go

/-! ### the beginning -/
def initV (n : Nat) : List Mode → List V → List V × List (Nat × Option Blk)
  | .rd :: ms, v :: vs => (v :: (initV (n + 16) ms vs).1, (initV (n + 16) ms vs).2)
  | _ :: ms, v :: vs => ((adA n v).1 :: (initV (n + 16) ms vs).1, (adA n v).2 ++ (initV (n + 16) ms vs).2)
  | _, _ => ([], [])
def envL : Nat → List V → List (Nat × V)
  | _, [] => []
  | i, v :: l => (i, v) :: envL (i + 1) l
def ioOf {α : Type} : List Mode → List α → List α
  | .io :: ms, v :: vs => v :: ioOf ms vs
  | _ :: ms, _ :: vs => ioOf ms vs
  | _, _ => []
def initS (nt : Nat) (ms : List Mode) (ins : List V) : St :=
  { env := eOf (envL 0 (initV 0 ms ins).1), heap := updsH (hOf []) (initV 0 ms ins).2, next := 16 * ins.length, nt := nt, io := ioOf ms (initV 0 ms ins).1 }

/-! ### the end -/
def resV1 (P : Program) (s : St) : ResultVar → Option V
  | .tmp t => some (s.env t)
  | .cell a t => loadV P s.heap t (s.env a)
def oneOrTup : List V → V
  | [x] => x
  | l => .tup l
def resL (P : Program) (s : St) : List ResultVar → Option (List V)
  | [] => some []
  | r :: rs => (resV1 P s r).bind fun v => (resL P s rs).map (v :: ·)
def allUse : List V → List Mode
  | [] => []
  | _ :: l => .use :: allUse l
/-- What the function gives: its result, what stands in the blocks that it was handed to write. -/
def finV (P : Program) (rs : List ResultVar) (s : St) : Option (V × List V) :=
  (resL P s rs).bind fun vs => (argsIn s.heap (allUse (vs ++ s.io)) (vs ++ s.io)).bind fun q =>
    if nodupB q.2.1 then some (oneOrTup (q.1.take vs.length), q.1.drop vs.length) else none

/-- The end: what the function gives. -/
def VEnds (P : Program) (rs : List ResultVar) (r : V) (outs : List V) (s : St) : Prop := finV P rs s = some (r, outs)
theorem fin_mk {P : Program} {rs : List ResultVar} {r : V} {outs : List V} {e : Env} {h : Heap} {n nt : Nat} {io : List V} : VEnds P rs r outs ⟨e, h, n, nt, io⟩ ↔ finV P rs ⟨e, h, n, nt, io⟩ = some (r, outs) := Iff.rfl

section
variable {P : Program} {w0 w : World} {O S : Nat → Prop}

theorem init_ok : ∀ {ms : List Mode} {ins : List V} {cs : List Value} {Ns : List (Nat → Prop)} {g : G} {h : Heap} {U : Nat → Prop} {n : Nat}, ArgsOk w S ms ins cs Ns → DisjS Ns → HOk w0 O w S g h U → (∀ k, n ≤ k → ¬ U k) →
    (∀ j b k, h j = some b → g.N j k → ¬ AnyS Ns k) → (∀ k, AnyS Ns k → ¬ S k ∧ (w0.heap.size ≤ k ∨ O k)) →
    ∃ g', HOk w0 O w S g' (updsH h (initV n ms ins).2) (fun k => U k ∨ (n ≤ k ∧ k < n + 16 * ins.length)) ∧ Tr w S g h w S g' (updsH h (initV n ms ins).2) ∧ Two (VR w S g' (updsH h (initV n ms ins).2)) (initV n ms ins).1 cs
  | _, _, _, _, g, h, U, n, .nil, _, H, _, _, _ => ⟨g, H.weak fun _ hk => .inl hk, Tr.refl _ _ _ _, .nil⟩
  | _, _, _, _, g, h, U, n, .rd (d := d) (ms := ms) (ds := ds) hd ht, hdis, H, hU, hl, hN => by
    obtain ⟨g', H', tr, t⟩ := init_ok (n := n + 16) ht hdis.tail H (fun k hk => hU k (by omega)) (fun j b k hb hk ha => hl j b k hb hk (AnyS.cons.2 (.inr ha))) (fun k hk => hN k (AnyS.cons.2 (.inr hk)))
    refine ⟨g', H'.weak ?_, tr, .cons (.rd _ _ hd) t⟩
    rintro k (hk | hk)
    · exact .inl hk
    · simp only [List.length_cons]
      exact .inr ⟨by omega, by omega⟩
  | _, _, _, _, g, h, U, n, .wr (m := m) (d := d) (N := N) (ms := ms) (ds := ds) hm hd ht, hdis, H, hU, hl, hN => by
    obtain ⟨g1, t1, v1⟩ := adA_ok H (n := n) hd (fun k h1 _ => hU k h1) (fun j b k hb hk hn => hl j b k hb hk (AnyS.cons.2 (.inl hn))) (fun k hk => hN k (AnyS.cons.2 (.inl hk)))
    obtain ⟨g', H', tr, t⟩ := init_ok (n := n + 16) ht hdis.tail t1.ok (fun k hk => by rintro (h1 | h1); exact hU k (by omega) h1; omega)
      (fun j b k hb hk ha => by
        rcases t1.live j b k hb hk with ⟨b0, hb0, hk0⟩ | h1
        · exact hl j b0 k hb0 hk0 (AnyS.cons.2 (.inr ha))
        · exact hdis.head k h1 ha) (fun k hk => hN k (AnyS.cons.2 (.inr hk)))
    have e : initV n (m :: ms) (d :: ds) = ((adA n d).1 :: (initV (n + 16) ms ds).1, (adA n d).2 ++ (initV (n + 16) ms ds).2) := by
      cases m <;> first | rfl | exact absurd rfl hm
    rw [e]
    simp only
    rw [updsH_append]
    refine ⟨g', H'.weak ?_, t1.tr.trans tr, .cons (tr _ _ v1) t⟩
    rintro k ((hk | hk) | hk)
    · exact .inl hk
    · simp only [List.length_cons]; exact .inr ⟨hk.1, by omega⟩
    · simp only [List.length_cons]; exact .inr ⟨by omega, by omega⟩

theorem initV_len : ∀ {ms : List Mode} {ins : List V} {cs : List Value} {Ns : List (Nat → Prop)} (n : Nat), ArgsOk w S ms ins cs Ns → (initV n ms ins).1.length = ms.length ∧ cs.length = ms.length ∧ ins.length = ms.length
  | _, _, _, _, n, .nil => ⟨rfl, rfl, rfl⟩
  | _, _, _, _, n, .rd hd ht => by
    obtain ⟨h1, h2, h3⟩ := initV_len (n + 16) ht
    simp [initV, h1, h2, h3]
  | _, _, _, _, n, .wr (m := m) hm hd ht => by
    obtain ⟨h1, h2, h3⟩ := initV_len (n + 16) ht
    cases m <;> first | exact absurd rfl hm | simp [initV, h1, h2, h3]

theorem io_two {R : V → Value → Prop} : ∀ (ms : List Mode) {vs : List V} {cs : List Value}, Two R vs cs → Two R (ioOf ms vs) (ioOf ms cs)
  | [], _, _, _ => .nil
  | m :: ms, _, _, .nil => by cases m <;> exact .nil
  | m :: ms, _, _, .cons h t => by
    cases m
    · exact io_two ms t
    · exact .cons h (io_two ms t)
    · exact io_two ms t

theorem envL_get : ∀ (l : List V) (i t : Nat), eOf (envL i l) t = if i ≤ t then l.getD (t - i) .undef else .undef
  | [], i, t => by simp [envL, eOf]
  | v :: l, i, t => by
    simp only [envL, eOf]
    rw [envL_get l (i + 1) t]
    by_cases h1 : t = i
    · subst h1; simp
    · rw [if_neg h1]
      by_cases h2 : i ≤ t
      · rw [if_pos h2, if_pos (by omega)]
        have : t - i = (t - (i + 1)) + 1 := by omega
        rw [this]; simp
      · rw [if_neg h2, if_neg (by omega)]

theorem two_get {R : V → Value → Prop} (hu : ∀ c, R .undef c) {vs : List V} {cs : List Value} (t : Two R vs cs) (i : Nat) : R (vs.getD i .undef) (cs.getD i Go.undef) := by
  induction t generalizing i with
  | nil => exact hu _
  | cons h _ ih =>
    cases i with
    | zero => exact h
    | succ i => simpa using ih i

/-! ### results -/
/-- Data in blocks of its own, one by one. -/
inductive Owns (w : World) : List V → List Value → List (Nat → Prop) → Prop
  | nil : Owns w [] [] []
  | cons {d : V} {c : Value} {N : Nat → Prop} {ds : List V} {cs : List Value} {Ns : List (Nat → Prop)} (h : OW w d c N) (t : Owns w ds cs Ns) : Owns w (d :: ds) (c :: cs) (N :: Ns)

theorem owns_of : ∀ {vs ds : List V} {cs : List Value} {Ns : List (Nat → Prop)}, ArgsOk w S (allUse vs) ds cs Ns → Owns w ds cs Ns
  | [], _, _, _, h => by cases h; exact .nil
  | _ :: vs, _, _, _, h => by
    cases h with
    | wr hm h t => exact .cons h (owns_of t)

theorem Owns.split : ∀ {xs ys : List V} {cs ds : List Value} {Ns : List (Nat → Prop)}, Owns w (xs ++ ys) (cs ++ ds) Ns → xs.length = cs.length → ∃ N1 N2, Ns = N1 ++ N2 ∧ Owns w xs cs N1 ∧ Owns w ys ds N2
  | [], ys, cs, ds, Ns, h, hl => by
    have : cs = [] := List.eq_nil_of_length_eq_zero hl.symm
    subst this
    exact ⟨[], Ns, rfl, .nil, h⟩
  | x :: xs, ys, cs, ds, Ns, h, hl => by
    cases cs with
    | nil => simp at hl
    | cons c cs =>
      cases h with
      | cons h t =>
        obtain ⟨N1, N2, rfl, t1, t2⟩ := t.split (by simpa using hl)
        exact ⟨_ :: N1, N2, rfl, .cons h t1, t2⟩

theorem Owns.get : ∀ {xs : List V} {cs : List Value} {Ns : List (Nat → Prop)}, Owns w xs cs Ns → xs.length = cs.length ∧ xs.length = Ns.length ∧ ∀ i x c, xs[i]? = some x → cs[i]? = some c → OW w x c (Ns.getD i fun _ => False)
  | _, _, _, .nil => ⟨rfl, rfl, fun i x c h => by simp at h⟩
  | _, _, _, .cons h t => by
    obtain ⟨h1, h2, h3⟩ := t.get
    refine ⟨by simp [h1], by simp [h2], fun i x c hx hc => ?_⟩
    cases i with
    | zero => simp at hx hc; subst hx hc; exact h
    | succ i => simpa using h3 i x c (by simpa using hx) (by simpa using hc)

theorem Owns.len {xs : List V} {cs : List Value} {Ns : List (Nat → Prop)} (t : Owns w xs cs Ns) : xs.length = cs.length := t.get.1

theorem oneOrTup_ok {xs : List V} {cs : Array Value} {Ns : List (Nat → Prop)} (t : Owns w xs cs.toList Ns) (hd : DisjS Ns) : ∃ N, OW w (oneOrTup xs) (if h : cs.size = 1 then cs[0] else .tuple cs) N ∧ ∀ k, N k → AnyS Ns k := by
  obtain ⟨h1, h2, h3⟩ := t.get
  have hsz : xs.length = cs.size := by simpa using h1
  by_cases hone : cs.size = 1
  · rw [dif_pos hone]
    rcases xs with _ | ⟨x, _ | ⟨y, l⟩⟩
    · simp at hsz; omega
    · refine ⟨_, h3 0 x cs[0] rfl (by rw [Array.getElem?_toList]; exact Array.getElem?_eq_getElem (by omega)), fun k hk => ?_⟩
      refine ⟨Ns.getD 0 fun _ => False, ?_, hk⟩
      have : 0 < Ns.length := by rw [← h2]; simp
      rw [List.getD_eq_getElem?_getD, List.getElem?_eq_getElem this]
      exact List.getElem_mem this
    · simp at hsz; omega
  · rw [dif_neg hone]
    have e : oneOrTup xs = .tup xs := by
      rcases xs with _ | ⟨x, _ | ⟨y, l⟩⟩ <;> first | rfl | (simp at hsz; omega)
    rw [e]
    have hget : ∀ i, i < xs.length → Ns[i]? = some (Ns.getD i fun _ => False) := fun i hi => by
      rw [List.getD_eq_getElem?_getD, List.getElem?_eq_getElem (by omega)]; rfl
    refine ⟨_, .tup xs cs (fun i => Ns.getD i fun _ => False) hsz (fun i x c hx hc => h3 i x c hx (by simpa using hc)) (fun i i' k hi hi' hk hk' => hd i i' _ _ k (hget i hi) (hget i' hi') hk hk'), ?_⟩
    rintro k ⟨i, hi, hk⟩
    exact ⟨_, List.mem_of_getElem? (hget i hi), hk⟩

theorem outs_ok : ∀ {ms : List Mode} {cs : List Value} {outs : List V} {Ms : List (Nat → Prop)}, Owns w outs (ioOf ms cs) Ms → DisjS Ms → ms.length = cs.length → ∃ NOs, OutsOk w ms outs cs NOs ∧ DisjS NOs ∧ ∀ k, AnyS NOs k → AnyS Ms k
  | [], [], _, _, t, hd, _ => by cases t; exact ⟨[], .nil, hd, fun _ h => h⟩
  | [], _ :: _, _, _, _, _, hl => by simp at hl
  | _ :: _, [], _, _, _, _, hl => by simp at hl
  | m :: ms, c :: cs, outs, Ms, t, hd, hl => by
    by_cases hm : m = .io
    · subst hm
      simp only [ioOf] at t
      cases t with
      | cons h t =>
        obtain ⟨NOs, h1, h2, h3⟩ := outs_ok t hd.tail (by simpa using hl)
        refine ⟨_ :: NOs, .io h h1, DisjS.cons (fun k hk ha => hd.head k hk (h3 k ha)) h2, fun k hk => ?_⟩
        rcases AnyS.cons.1 hk with hk | hk
        · exact AnyS.cons.2 (.inl hk)
        · exact AnyS.cons.2 (.inr (h3 k hk))
    · have e : ioOf (m :: ms) (c :: cs) = ioOf ms cs := by cases m <;> first | rfl | exact absurd rfl hm
      rw [e] at t
      obtain ⟨NOs, h1, h2, h3⟩ := outs_ok t hd (by simpa using hl)
      refine ⟨_ :: NOs, .no hm h1, DisjS.cons (fun k hk => hk.elim) h2, fun k hk => ?_⟩
      rcases AnyS.cons.1 hk with hk | hk
      · exact hk.elim
      · exact h3 k hk

theorem DisjS.split {A B : List (Nat → Prop)} (h : DisjS (A ++ B)) : DisjS A ∧ DisjS B ∧ ∀ k, AnyS A k → ¬ AnyS B k := by
  refine ⟨fun i j N M k hN hM h1 h2 => ?_, fun i j N M k hN hM h1 h2 => ?_, ?_⟩
  · have l1 := (List.getElem?_eq_some_iff.1 hN).1
    have l2 := (List.getElem?_eq_some_iff.1 hM).1
    exact h i j N M k (by rw [List.getElem?_append_left l1]; exact hN) (by rw [List.getElem?_append_left l2]; exact hM) h1 h2
  · have := h (A.length + i) (A.length + j) N M k (by rw [List.getElem?_append_right (by omega)]; simpa using hN) (by rw [List.getElem?_append_right (by omega)]; simpa using hM) h1 h2
    omega
  · rintro k ⟨N, hN, h1⟩ ⟨M, hM, h2⟩
    obtain ⟨i, hi, rfl⟩ := List.mem_iff_getElem.1 hN
    obtain ⟨j, hj, rfl⟩ := List.mem_iff_getElem.1 hM
    have := h i (A.length + j) _ _ k (by rw [List.getElem?_append_left hi]; exact List.getElem?_eq_getElem hi) (by rw [List.getElem?_append_right (by omega)]; simp [hj]) h1 h2
    omega

/-- What one result slot holds. -/
def resOne (tmps : Array Value) : ResultVar → Sem Value
  | .tmp t => pure (tmps.getD t undef)
  | .cell a t => do loadVar t (← asAddr (tmps.getD a undef))

theorem results_eq (fn : Func) (tmps : Array Value) : results fn tmps = (do let vs ← fn.results.mapM (resOne tmps); pure (if h : vs.size = 1 then vs[0] else .tuple vs)) := by
  unfold results
  congr 1

section
variable {g : G} {s : St} {U : Nat → Prop} {a : Act}

theorem resOne_ok (H : HOk w0 O w S g s.heap U) (E : ∀ t, VR w S g s.heap (s.env t) (a.tmps.getD t Go.undef)) {r : ResultVar} {v : V} (hv : resV1 P s r = some v) :
    ∃ c, (resOne a.tmps r).run P w = .ok c w ∧ VR w S g s.heap v c := by
  cases r with
  | tmp t =>
    simp only [resV1, Option.some.injEq] at hv
    subst hv
    exact ⟨_, by simp [resOne], E t⟩
  | cell x t =>
    simp only [resV1] at hv
    have hE := E x
    obtain ⟨cv, hrun, hvr⟩ := loadAt_ok (P := P) H hE hv
    refine ⟨cv, ?_, hvr⟩
    simp only [resOne]
    generalize a.tmps.getD x Go.undef = pc at hrun
    unfold Instr.loadAt Instr.sureAddr at hrun
    unfold asAddr
    split at hrun
    · exact hrun
    · exfalso
      simp at hrun

theorem resL_ok (H : HOk w0 O w S g s.heap U) (E : ∀ t, VR w S g s.heap (s.env t) (a.tmps.getD t Go.undef)) : ∀ {rs : List ResultVar} {vs : List V}, resL P s rs = some vs →
    ∃ cs, (rs.mapM (resOne a.tmps)).run P w = .ok cs w ∧ Two (VR w S g s.heap) vs cs
  | [], vs, hv => by
    simp only [resL, Option.some.injEq] at hv
    subst hv
    exact ⟨[], by simp, .nil⟩
  | r :: rs, vs, hv => by
    simp only [resL, Option.bind_eq_some_iff, Option.map_eq_some_iff] at hv
    obtain ⟨v, hv1, vs', hvs, rfl⟩ := hv
    obtain ⟨c, h1, h2⟩ := resOne_ok (P := P) H E hv1
    obtain ⟨cs, h3, h4⟩ := resL_ok H E hvs
    exact ⟨c :: cs, by simp [List.mapM_cons, h1, h3], .cons h2 h4⟩

theorem allUse_len : ∀ l : List V, (allUse l).length = l.length
  | [] => rfl
  | _ :: l => by simp [allUse, allUse_len l]

theorem enters_of {P : Program} {f : FuncId} {fn : Func} (hf : P.funcs[f]? = some fn) (hb : fn.body.isSome = true) (hname : (fn.name == "runtime.NumGoroutine") = false) : Enters P f := by
  have hname' : ¬ fn.name = "runtime.NumGoroutine" := by simpa using hname
  obtain ⟨c, hc⟩ := Option.isSome_iff_exists.1 hb
  exact fun args w => by simp [callFunc, hf, hc, hname']
/-- A function: what the abstract machine computes for its body. -/
theorem fn_ok {Φ : Tab} {T : Hints} {D : List String} (hΦ : ∀ f sp, Φ f = some sp → FnOk P f sp ∧ ∀ n ∈ sp.need, n ∈ D) (hm : P.follows .mixedOrders = true) {f : FuncId} {fn : Func} {c : Code} (hf : P.funcs[f]? = some fn) (hb : fn.body = some c)
    (hname : (fn.name == "runtime.NumGoroutine") = false) {sp : Spec} (hD : sp.need = D) (hnt : sp.modes.length ≤ fn.ntmps)
    (hgo : ∀ ins r outs, sp.run ins = some (r, outs) → ins.length = sp.modes.length → Goes P Φ T [.code c] (initS fn.ntmps sp.modes ins) (VEnds P fn.results.toList r outs)) : FnOk P f sp := by
  have hname' : ¬ fn.name = "runtime.NumGoroutine" := by simpa using hname
  intro w S ins r outs cargs Ns hG hrun hargs hdis hNs hS
  refine .inr ⟨by simp [callFunc, hf, hb, hname'], ?_⟩
  intro cs
  obtain ⟨L1, L2, L3⟩ := initV_len 0 hargs
  obtain ⟨n, s', hgo, hfin⟩ := hgo ins r outs hrun L3
  have H0 : HOk w (AnyS Ns) w S ⟨fun _ => none, fun _ => 0, fun _ _ => False, fun _ => False⟩ (hOf []) (fun _ => False) :=
    ⟨fun id b hb => (by cases hb), fun i j b b' k hi => (by cases hi), fun i b k hi => (by cases hi), hS, fun _ h => h.elim (fun h => h rfl) (fun h => h), fun id h => h.elim, Fr.refl _ _⟩
  obtain ⟨g1, H1, _, t1⟩ := init_ok (n := 0) hargs hdis H0 (fun _ _ h => h) (fun j b k hb => by cases hb) (fun k hk => ⟨(hNs k hk).1, .inr hk⟩)
  let tm : Array Value := cargs.toArray ++ Array.replicate (fn.ntmps - cargs.toArray.size) undef
  have hs0 : SimS w (AnyS Ns) S (ioOf sp.modes cargs) (initS fn.ntmps sp.modes ins) ⟨tm, []⟩ w := by
    refine ⟨⟨g1, H1.weak ?_, fun t => ?_, io_two sp.modes t1⟩, ?_, rfl⟩
    · rintro k (hk | hk)
      · exact hk.elim
      · simp only [initS]; omega
    · show VR w S g1 _ (eOf (envL 0 (initV 0 sp.modes ins).1) t) (tm.getD t Go.undef)
      rw [envL_get, if_pos (Nat.zero_le _), Nat.sub_zero]
      have h1 : tm.getD t Go.undef = cargs.getD t Go.undef := by
        simp only [tm, Array.getD_eq_getD_getElem?, List.getD_eq_getElem?_getD]
        by_cases ht : t < cargs.length
        · rw [Array.getElem?_append_left (by simpa using ht)]; simp
        · rw [Array.getElem?_append_right (by simpa using Nat.le_of_not_lt ht), List.getElem?_eq_none (by omega)]
          simp only [List.size_toArray, Option.getD_none]
          by_cases h2 : t - cargs.length < fn.ntmps - cargs.length
          · rw [Array.getElem?_replicate, if_pos h2]; rfl
          · rw [Array.getElem?_replicate, if_neg h2]; rfl
      rw [h1]
      exact two_get (fun c => .undef c) t1 t
    · simp only [tm, initS, Array.size_append, List.size_toArray, Array.size_replicate]; omega
  let b : Frame := { (default : Frame) with fn := f, kind := .normal }
  have henter : Frame.enter P f cargs.toArray .normal = b.at ⟨tm, []⟩ [.code c] := by
    simp [Frame.enter, Frame.at, hf, hb, b, tm]
  obtain ⟨a', w', todo, hst, hs'⟩ := go_ok (fun f sp h => (hΦ f sp h).1.at (hG.sub (by rw [hD]; exact (hΦ f sp h).2))) hm n _ _ _ _ w b cs hgo hs0
  rw [← henter] at hst
  obtain ⟨⟨g', H', E', I'⟩, hsz', hdf'⟩ := hs'
  unfold VEnds finV at hfin
  simp only [Option.bind_eq_some_iff] at hfin
  obtain ⟨vs, hvs, q, hq, hfin⟩ := hfin
  split at hfin
  case isFalse => cases hfin
  rename_i hnd
  simp only [Option.some.injEq, Prod.mk.injEq] at hfin
  obtain ⟨rfl, rfl⟩ := hfin
  obtain ⟨rcs, hres, htwo⟩ := resL_ok (P := P) H' E' hvs
  have hnd' : q.2.1.Nodup := nodupB_iff.1 hnd
  obtain ⟨_, Ms, ha, hdM, hin⟩ := argsIn_ok H' (W0 := []) hq (two_append htwo I') hnd' (fun id _ => by simp)
  have hown := owns_of ha
  have hlen1 := two_length htwo
  have hlenq : q.1.length = vs.length + s'.io.length := by
    have := hown.len
    have h2 := two_length I'
    simp only [List.length_append] at this
    omega
  rw [← List.take_append_drop vs.length q.1] at hown
  obtain ⟨N1, N2, rfl, o1, o2⟩ := hown.split (by rw [List.length_take]; omega)
  obtain ⟨d1, d2, d3⟩ := hdM.split
  have hrcs : Owns w' (q.1.take vs.length) rcs.toArray.toList N1 := by simpa using o1
  obtain ⟨NR, hR, hRsub⟩ := oneOrTup_ok hrcs d1
  obtain ⟨NOs, hO, hOd, hOsub⟩ := outs_ok o2 d2 L2.symm
  refine ⟨.returned _, w', _, ⟨_, NR, NOs, rfl, H'.fr, hR, hO, DisjS.cons (fun k hk ha => d3 k (hRsub k hk) (hOsub k ha)) hOd, fun k hk => ?_⟩, hst, rfl, rfl, hdf', rfl, fn, hf, ?_⟩
  · have hk' : AnyS (N1 ++ N2) k := by
      rcases AnyS.cons.1 hk with hk | hk
      · obtain ⟨N, hN, h1⟩ := hRsub k hk; exact ⟨N, List.mem_append_left _ hN, h1⟩
      · obtain ⟨N, hN, h1⟩ := hOsub k hk; exact ⟨N, List.mem_append_right _ hN, h1⟩
    obtain ⟨id, _, hl, hgk⟩ := hin k hk'
    obtain ⟨blk, hblk⟩ := Option.ne_none_iff_exists'.1 hl
    exact ⟨H'.lt id blk k hblk hgk, (H'.own id blk k hblk hgk).2⟩
  · show (results fn a'.tmps).run P w' = _
    rw [results_eq, Array.mapM_eq_mapM_toList]
    simp [hres]
end
end
end Go.VM
