import Derived.Test.YtghmjnggmacohaaGreatDoorVmGo
import Derived.Test.YtghmjnggmacohaaGreatDoorVmRun
import Derived.OpenShut
import Derived.SizedLaws
import Derived.ChangeOld
import Derived.Carry
/- A function as a whole: from its arguments to its results. -/
set_option linter.unusedVariables false
set_option linter.unusedSimpArgs false
namespace Go.VM
open Go

/-! ### the beginning -/
def adP (n : Nat) : V → V × List (Nat × Option Blk)
  | .rptr v => (.ptr n 0 none, [(n, some ⟨.box, v.cells.length, [v]⟩)])
  | _ => (.undef, [])
def initV (n : Nat) : List Mode → List V → List V × List (Nat × Option Blk)
  | .ptr :: ms, v :: vs => ((adP n v).1 :: (initV (n + 16) ms vs).1, (adP n v).2 ++ (initV (n + 16) ms vs).2)
  | .rd :: ms, v :: vs => (v :: (initV (n + 16) ms vs).1, (initV (n + 16) ms vs).2)
  | _ :: ms, v :: vs => ((adA n v).1 :: (initV (n + 16) ms vs).1, (adA n v).2 ++ (initV (n + 16) ms vs).2)
  | _, _ => ([], [])
def envL : Nat → List V → List (Nat × V)
  | _, [] => []
  | i, v :: l => (i, v) :: envL (i + 1) l
def ioOf {α : Type} : List Mode → List α → List α
  | .io :: ms, v :: vs => v :: ioOf ms vs
  | .ptr :: ms, v :: vs => v :: ioOf ms vs
  | _ :: ms, _ :: vs => ioOf ms vs
  | _, _ => []
def initS (nt : Nat) (ms : List Mode) (ins : List V) : St :=
  { env := eOf (envL 0 (initV 0 ms ins).1), heap := updsH (hOf []) (initV 0 ms ins).2, next := 16 * ins.length, nt := nt, io := ioOf ms (initV 0 ms ins).1 }

/-! ### the end -/
def resV1 (P : Program) (s : St) : ResultVar → Option V
  | .tmp t => some (s.env t)
  | .cell a t => loadV P s.heap t (s.env a)
def oneOrTup : List V → V
  | [x] => x
  | l => .tup l
def resL (P : Program) (s : St) : List ResultVar → Option (List V)
  | [] => some []
  | r :: rs => (resV1 P s r).bind fun v => (resL P s rs).map (v :: ·)
/-- A value that is handed back: closed, or a pointer to a box. -/
def endA (h : Heap) (v : V) : Option (V × List Nat) := (clA h v).or ((ptrIn h v).map fun p => (p.1, [p.2]))
def listIn (f : V → Option (V × List Nat)) : List V → Option (List V × List Nat)
  | [] => some ([], [])
  | v :: l => (f v).bind fun y => (listIn f l).map fun z => (y.1 :: z.1, y.2 ++ z.2)
def resIn (h : Heap) : List V → Option (List V × List Nat)
  | [v] => (endA h v).map fun q => ([q.1], q.2)
  | l => listIn (clA h) l
/-- What the function gives: its result, what stands in the blocks that it was handed to write. -/
def finV (P : Program) (rs : List ResultVar) (s : St) : Option (V × List V) :=
  (resL P s rs).bind fun vs => (resIn s.heap vs).bind fun q => (listIn (endA s.heap) s.io).bind fun p =>
    if nodupB (q.2 ++ p.2) then some (oneOrTup q.1, p.1) else none

/-- The end: what the function gives. -/
def VEnds (P : Program) (rs : List ResultVar) (r : V) (outs : List V) (s : St) : Prop := finV P rs s = some (r, outs)
theorem fin_mk {P : Program} {rs : List ResultVar} {r : V} {outs : List V} {e : Env} {h : Heap} {n nt : Nat} {io : List V} : VEnds P rs r outs ⟨e, h, n, nt, io⟩ ↔ finV P rs ⟨e, h, n, nt, io⟩ = some (r, outs) := Iff.rfl

section
variable {P : Program} {w0 w : World} {O S : Nat → Prop}

theorem init_ok : ∀ {ms : List Mode} {ins : List V} {cs : List Value} {Ns : List (Nat → Prop)} {g : G} {h : Heap} {U : Nat → Prop} {n : Nat}, ArgsOk w S ms ins cs Ns → DisjS Ns → HOk w0 O w S g h U → (∀ k, n ≤ k → ¬ U k) →
    (∀ j b k, h j = some b → g.N j k → ¬ AnyS Ns k) → (∀ k, AnyS Ns k → ¬ S k ∧ (w0.heap.size ≤ k ∨ O k)) →
    ∃ g', HOk w0 O w S g' (updsH h (initV n ms ins).2) (fun k => U k ∨ (n ≤ k ∧ k < n + 16 * ins.length)) ∧ Tr w S g h w S g' (updsH h (initV n ms ins).2) ∧ Two (VR w S g' (updsH h (initV n ms ins).2)) (initV n ms ins).1 cs
  | _, _, _, _, g, h, U, n, .nil, _, H, _, _, _ => ⟨g, H.weak fun _ hk => .inl hk, Tr.refl _ _ _ _, .nil⟩
  | _, _, _, _, g, h, U, n, .rd (d := d) (ms := ms) (ds := ds) hd ht, hdis, H, hU, hl, hN => by
    obtain ⟨g', H', tr, t⟩ := init_ok (n := n + 16) ht hdis.tail H (fun k hk => hU k (by omega)) (fun j b k hb hk ha => hl j b k hb hk (AnyS.cons.2 (.inr ha))) (fun k hk => hN k (AnyS.cons.2 (.inr hk)))
    refine ⟨g', H'.weak ?_, tr, .cons (.rd _ _ hd) t⟩
    rintro k (hk | hk)
    · exact .inl hk
    · simp only [List.length_cons]
      exact .inr ⟨by omega, by omega⟩
  | _, _, _, _, g, h, U, n, .wr (m := m) (d := d) (N := N) (ms := ms) (ds := ds) hm hd ht, hdis, H, hU, hl, hN => by
    obtain ⟨g1, t1, v1⟩ := adA_ok H (n := n) hd (fun k h1 _ => hU k h1) (fun j b k hb hk hn => hl j b k hb hk (AnyS.cons.2 (.inl hn))) (fun k hk => hN k (AnyS.cons.2 (.inl hk)))
    obtain ⟨g', H', tr, t⟩ := init_ok (n := n + 16) ht hdis.tail t1.ok (fun k hk => by rintro (h1 | h1); exact hU k (by omega) h1; omega)
      (fun j b k hb hk ha => by
        rcases t1.live j b k hb hk with ⟨b0, hb0, hk0⟩ | h1
        · exact hl j b0 k hb0 hk0 (AnyS.cons.2 (.inr ha))
        · exact hdis.head k h1 ha) (fun k hk => hN k (AnyS.cons.2 (.inr hk)))
    have e : initV n (m :: ms) (d :: ds) = ((adA n d).1 :: (initV (n + 16) ms ds).1, (adA n d).2 ++ (initV (n + 16) ms ds).2) := by
      rcases hm with rfl | rfl <;> rfl
    rw [e]
    simp only
    rw [updsH_append]
    refine ⟨g', H'.weak ?_, t1.tr.trans tr, .cons (tr _ _ v1) t⟩
    rintro k ((hk | hk) | hk)
    · exact .inl hk
    · simp only [List.length_cons]; exact .inr ⟨hk.1, by omega⟩
    · simp only [List.length_cons]; exact .inr ⟨by omega, by omega⟩
  | _, _, _, _, g, h, U, n, .pt (d := d) (N := N) (ms := ms) (ds := ds) hd ht, hdis, H, hU, hl, hN => by
    obtain ⟨v, rfl⟩ : ∃ v, d = .rptr v := by obtain ⟨v, _, _, _, _, h, _⟩ := hd; exact ⟨v, h⟩
    obtain ⟨g1, H1, tr1, v1, e1, e2⟩ := H.addBox (id := n) hd (hU n (Nat.le_refl _)) (fun j b k hb hk hn => hl j b k hb hk (AnyS.cons.2 (.inl hn))) (fun k hk => hN k (AnyS.cons.2 (.inl hk)))
    obtain ⟨g', H', tr, t⟩ := init_ok (n := n + 16) ht hdis.tail H1 (fun k hk => by rintro (h1 | h1); exact hU k (by omega) h1; omega)
      (fun j b k hb hk ha => by
        by_cases hj : j = n
        · subst hj; rw [e1] at hk; exact hdis.head k hk ha
        · rw [e2 j hj] at hk
          simp only [updH, hj, if_false] at hb
          exact hl j b k hb hk (AnyS.cons.2 (.inr ha))) (fun k hk => hN k (AnyS.cons.2 (.inr hk)))
    refine ⟨g', H'.weak ?_, tr1.trans tr, .cons (tr _ _ v1) t⟩
    rintro k ((hk | hk) | hk)
    · exact .inl hk
    · simp only [List.length_cons]; exact .inr ⟨by omega, by omega⟩
    · simp only [List.length_cons]; exact .inr ⟨by omega, by omega⟩

theorem initV_len : ∀ {ms : List Mode} {ins : List V} {cs : List Value} {Ns : List (Nat → Prop)} (n : Nat), ArgsOk w S ms ins cs Ns → (initV n ms ins).1.length = ms.length ∧ cs.length = ms.length ∧ ins.length = ms.length
  | _, _, _, _, n, .nil => ⟨rfl, rfl, rfl⟩
  | _, _, _, _, n, .rd hd ht => by
    obtain ⟨h1, h2, h3⟩ := initV_len (n + 16) ht
    simp [initV, h1, h2, h3]
  | _, _, _, _, n, .wr (m := m) hm hd ht => by
    obtain ⟨h1, h2, h3⟩ := initV_len (n + 16) ht
    rcases hm with rfl | rfl <;> simp [initV, h1, h2, h3]
  | _, _, _, _, n, .pt hd ht => by
    obtain ⟨h1, h2, h3⟩ := initV_len (n + 16) ht
    simp [initV, h1, h2, h3]

theorem io_two {R : V → Value → Prop} : ∀ (ms : List Mode) {vs : List V} {cs : List Value}, Two R vs cs → Two R (ioOf ms vs) (ioOf ms cs)
  | [], _, _, _ => .nil
  | m :: ms, _, _, .nil => by cases m <;> exact .nil
  | m :: ms, _, _, .cons h t => by
    cases m
    · exact io_two ms t
    · exact .cons h (io_two ms t)
    · exact io_two ms t
    · exact .cons h (io_two ms t)

theorem envL_get : ∀ (l : List V) (i t : Nat), eOf (envL i l) t = if i ≤ t then l.getD (t - i) .undef else .undef
  | [], i, t => by simp [envL, eOf]
  | v :: l, i, t => by
    simp only [envL, eOf]
    rw [envL_get l (i + 1) t]
    by_cases h1 : t = i
    · subst h1; simp
    · rw [if_neg h1]
      by_cases h2 : i ≤ t
      · rw [if_pos h2, if_pos (by omega)]
        have : t - i = (t - (i + 1)) + 1 := by omega
        rw [this]; simp
      · rw [if_neg h2, if_neg (by omega)]

theorem two_get {R : V → Value → Prop} (hu : ∀ c, R .undef c) {vs : List V} {cs : List Value} (t : Two R vs cs) (i : Nat) : R (vs.getD i .undef) (cs.getD i Go.undef) := by
  induction t generalizing i with
  | nil => exact hu _
  | cons h _ ih =>
    cases i with
    | zero => exact h
    | succ i => simpa using ih i

/-! ### results -/
/-- Data in blocks of its own, one by one. -/
inductive Owns (K : V → Value → (Nat → Prop) → Prop) : List V → List Value → List (Nat → Prop) → Prop
  | nil : Owns K [] [] []
  | cons {d : V} {c : Value} {N : Nat → Prop} {ds : List V} {cs : List Value} {Ns : List (Nat → Prop)} (h : K d c N) (t : Owns K ds cs Ns) : Owns K (d :: ds) (c :: cs) (N :: Ns)
theorem Owns.get {K : V → Value → (Nat → Prop) → Prop} : ∀ {xs : List V} {cs : List Value} {Ns : List (Nat → Prop)}, Owns K xs cs Ns → xs.length = cs.length ∧ xs.length = Ns.length ∧ ∀ i x c, xs[i]? = some x → cs[i]? = some c → K x c (Ns.getD i fun _ => False)
  | _, _, _, .nil => ⟨rfl, rfl, fun i x c h => by simp at h⟩
  | _, _, _, .cons h t => by
    obtain ⟨h1, h2, h3⟩ := t.get
    refine ⟨by simp [h1], by simp [h2], fun i x c hx hc => ?_⟩
    cases i with
    | zero => simp at hx hc; subst hx hc; exact h
    | succ i => simpa using h3 i x c (by simpa using hx) (by simpa using hc)

theorem tup_ok {xs : List V} {cs : Array Value} {Ns : List (Nat → Prop)} (t : Owns (OW w) xs cs.toList Ns) (hd : DisjS Ns) : ∃ N, OW w (.tup xs) (.tuple cs) N ∧ ∀ k, N k → AnyS Ns k := by
  obtain ⟨h1, h2, h3⟩ := t.get
  have hsz : xs.length = cs.size := by simpa using h1
  have hget : ∀ i, i < xs.length → Ns[i]? = some (Ns.getD i fun _ => False) := fun i hi => by
    rw [List.getD_eq_getElem?_getD, List.getElem?_eq_getElem (by omega)]; rfl
  refine ⟨_, .tup xs cs (fun i => Ns.getD i fun _ => False) hsz (fun i x c hx hc => h3 i x c hx (by simpa using hc)) (fun i i' k hi hi' hk hk' => hd i i' _ _ k (hget i hi) (hget i' hi') hk hk'), ?_⟩
  rintro k ⟨i, hi, hk⟩
  exact ⟨_, List.mem_of_getElem? (hget i hi), hk⟩

theorem DisjS.split {A B : List (Nat → Prop)} (h : DisjS (A ++ B)) : DisjS A ∧ DisjS B ∧ ∀ k, AnyS A k → ¬ AnyS B k := by
  refine ⟨fun i j N M k hN hM h1 h2 => ?_, fun i j N M k hN hM h1 h2 => ?_, ?_⟩
  · have l1 := (List.getElem?_eq_some_iff.1 hN).1
    have l2 := (List.getElem?_eq_some_iff.1 hM).1
    exact h i j N M k (by rw [List.getElem?_append_left l1]; exact hN) (by rw [List.getElem?_append_left l2]; exact hM) h1 h2
  · have := h (A.length + i) (A.length + j) N M k (by rw [List.getElem?_append_right (by omega)]; simpa using hN) (by rw [List.getElem?_append_right (by omega)]; simpa using hM) h1 h2
    omega
  · rintro k ⟨N, hN, h1⟩ ⟨M, hM, h2⟩
    obtain ⟨i, hi, rfl⟩ := List.mem_iff_getElem.1 hN
    obtain ⟨j, hj, rfl⟩ := List.mem_iff_getElem.1 hM
    have := h i (A.length + j) _ _ k (by rw [List.getElem?_append_left hi]; exact List.getElem?_eq_getElem hi) (by rw [List.getElem?_append_right (by omega)]; simp [hj]) h1 h2
    omega

/-- What one result slot holds. -/
def resOne (tmps : Array Value) : ResultVar → Sem Value
  | .tmp t => pure (tmps.getD t undef)
  | .cell a t => do loadVar t (← asAddr (tmps.getD a undef))

theorem results_eq (fn : Func) (tmps : Array Value) : results fn tmps = (do let vs ← fn.results.mapM (resOne tmps); pure (if h : vs.size = 1 then vs[0] else .tuple vs)) := by
  unfold results
  congr 1

section
variable {g : G} {h : Heap} {s : St} {U : Nat → Prop} {a : Act}

theorem resOne_ok (H : HOk w0 O w S g s.heap U) (E : ∀ t, VR w S g s.heap (s.env t) (a.tmps.getD t Go.undef)) {r : ResultVar} {v : V} (hv : resV1 P s r = some v) :
    ∃ c, (resOne a.tmps r).run P w = .ok c w ∧ VR w S g s.heap v c := by
  cases r with
  | tmp t =>
    simp only [resV1, Option.some.injEq] at hv
    subst hv
    exact ⟨_, by simp [resOne], E t⟩
  | cell x t =>
    simp only [resV1] at hv
    have hE := E x
    obtain ⟨cv, hrun, hvr⟩ := loadAt_ok (P := P) H hE hv
    refine ⟨cv, ?_, hvr⟩
    simp only [resOne]
    generalize a.tmps.getD x Go.undef = pc at hrun
    unfold Instr.loadAt Instr.sureAddr at hrun
    unfold asAddr
    split at hrun
    · exact hrun
    · exfalso
      simp at hrun

theorem resL_ok (H : HOk w0 O w S g s.heap U) (E : ∀ t, VR w S g s.heap (s.env t) (a.tmps.getD t Go.undef)) : ∀ {rs : List ResultVar} {vs : List V}, resL P s rs = some vs →
    ∃ cs, (rs.mapM (resOne a.tmps)).run P w = .ok cs w ∧ Two (VR w S g s.heap) vs cs
  | [], vs, hv => by
    simp only [resL, Option.some.injEq] at hv
    subst hv
    exact ⟨[], by simp, .nil⟩
  | r :: rs, vs, hv => by
    simp only [resL, Option.bind_eq_some_iff, Option.map_eq_some_iff] at hv
    obtain ⟨v, hv1, vs', hvs, rfl⟩ := hv
    obtain ⟨c, h1, h2⟩ := resOne_ok (P := P) H E hv1
    obtain ⟨cs, h3, h4⟩ := resL_ok H E hvs
    exact ⟨c :: cs, by simp [List.mapM_cons, h1, h3], .cons h2 h4⟩

theorem endA_ok (H : HOk w0 O w S g h U) {v d : V} {c : Value} {ids : List Nat} (hv : endA h v = some (d, ids)) (hn : ids.Nodup) (x : VR w S g h v c) :
    (∀ id ∈ ids, h id ≠ none) ∧ ∃ N, ResOk w S d c N ∧ InIds g h ids N := by
  unfold endA at hv
  cases hcl : clA h v with
  | some q =>
    rw [hcl] at hv
    simp only [Option.some_or, Option.some.injEq] at hv
    subst hv
    obtain ⟨_, q2, N, q3, q4⟩ := clA_ow H hcl hn x
    exact ⟨q2, N, .inl q3, q4⟩
  | none =>
    rw [hcl] at hv
    simp only [Option.none_or, Option.map_eq_some_iff, Prod.mk.injEq] at hv
    obtain ⟨⟨d', id⟩, hp, rfl, rfl⟩ := hv
    obtain ⟨q1, q2⟩ := ptrIn_ok H hp x (fun _ h => h)
    refine ⟨fun i hi => by simp only [List.mem_singleton] at hi; subst hi; exact q1, _, .inr q2, fun k hk => ⟨id, by simp, q1, hk⟩⟩
theorem listIn_ok (H : HOk w0 O w S g h U) {f : V → Option (V × List Nat)} {K : V → Value → (Nat → Prop) → Prop}
    (hf : ∀ {v d : V} {c : Value} {ids : List Nat}, f v = some (d, ids) → ids.Nodup → VR w S g h v c → (∀ id ∈ ids, h id ≠ none) ∧ ∃ N, K d c N ∧ InIds g h ids N) :
    ∀ {vs ds : List V} {cs : List Value} {ids : List Nat}, listIn f vs = some (ds, ids) → ids.Nodup → Two (VR w S g h) vs cs →
    (∀ id ∈ ids, h id ≠ none) ∧ ∃ Ns, Owns K ds cs Ns ∧ DisjS Ns ∧ InIds g h ids (AnyS Ns)
  | [], ds, _, ids, hv, hn, .nil => by
    simp only [listIn, Option.some.injEq, Prod.mk.injEq] at hv
    obtain ⟨rfl, rfl⟩ := hv
    exact ⟨by simp, [], .nil, fun i j A B k ha => by simp at ha, fun k ⟨N, hN, _⟩ => by simp at hN⟩
  | v :: vs, ds, _, ids, hv, hn, .cons hx ht => by
    simp only [listIn, Option.bind_eq_some_iff, Option.map_eq_some_iff, Prod.mk.injEq] at hv
    obtain ⟨⟨y, i1⟩, hy, ⟨ys, i2⟩, hys, rfl, rfl⟩ := hv
    simp only at hn ⊢
    rw [List.nodup_append] at hn
    obtain ⟨a1, N, a2, a3⟩ := hf hy hn.1 hx
    obtain ⟨b1, Ns, b2, b3, b4⟩ := listIn_ok H hf hys hn.2.1 ht
    refine ⟨fun id hid => ?_, _, .cons a2 b2, DisjS.cons (InIds.disj H a3 b4 fun id j1 j2 => hn.2.2 id j1 id j2 rfl) b3, fun k hk => ?_⟩
    · rcases List.mem_append.1 hid with hid | hid
      · exact a1 id hid
      · exact b1 id hid
    · rcases AnyS.cons.1 hk with hk | hk
      · obtain ⟨id, c1, c2⟩ := a3 k hk; exact ⟨id, List.mem_append_left _ c1, c2⟩
      · obtain ⟨id, c1, c2⟩ := b4 k hk; exact ⟨id, List.mem_append_right _ c1, c2⟩
theorem resIn_ok (H : HOk w0 O w S g h U) {vs ds : List V} {cs : Array Value} {ids : List Nat} (hv : resIn h vs = some (ds, ids)) (hn : ids.Nodup) (t : Two (VR w S g h) vs cs.toList) :
    ∃ N, ResOk w S (oneOrTup ds) (if h : cs.size = 1 then cs[0] else .tuple cs) N ∧ InIds g h ids N := by
  have hl := two_length t
  by_cases hone : ∃ v, vs = [v]
  · obtain ⟨v, rfl⟩ := hone
    simp only [resIn, Option.map_eq_some_iff, Prod.mk.injEq] at hv
    obtain ⟨⟨d, ids'⟩, hd, rfl, rfl⟩ := hv
    have hs : cs.size = 1 := by simpa using hl.symm
    rw [dif_pos hs]
    obtain ⟨cl⟩ := cs
    rcases cl with _ | ⟨c, _ | _⟩
    · simp at hs
    · cases t with
      | cons hx _ =>
        obtain ⟨_, N, h1, h2⟩ := endA_ok H hd hn hx
        exact ⟨N, h1, h2⟩
    · simp at hs
  · have e : resIn h vs = listIn (clA h) vs := by
      rcases vs with _ | ⟨v, _ | _⟩
      · rfl
      · exact absurd ⟨v, rfl⟩ hone
      · rfl
    rw [e] at hv
    obtain ⟨_, Ns, h1, h2, h3⟩ := listIn_ok H (K := OW w) (fun hv hn hx => by
      obtain ⟨_, q2, N, q3, q4⟩ := clA_ow H hv hn hx
      exact ⟨q2, N, q3, q4⟩) hv hn t
    have hs : ¬ cs.size = 1 := by
      intro hs
      rcases vs with _ | ⟨v, _ | _⟩
      · simp at hl; omega
      · exact hone ⟨v, rfl⟩
      · simp at hl; omega
    rw [dif_neg hs]
    obtain ⟨N, k1, k2⟩ := tup_ok h1 h2
    have hlen : ds.length = vs.length := by have := h1.get.1; omega
    have e2 : oneOrTup ds = .tup ds := by
      rcases ds with _ | ⟨x, _ | ⟨y, l⟩⟩
      · rfl
      · simp at hlen
        rcases vs with _ | ⟨v, _ | _⟩
        · simp at hlen
        · exact absurd ⟨v, rfl⟩ hone
        · simp at hlen
      · rfl
    rw [e2]
    exact ⟨N, .inl k1, fun k hk => h3 k (k2 k hk)⟩
/-- What a function hands back, one by one. -/
theorem outs_ok {w1 : World} {S1 : Nat → Prop} : ∀ {ms : List Mode} {cs : List Value} {outs : List V} {Ms : List (Nat → Prop)} {ins : List V} {Zs : List (Nat → Prop)}, Owns (ResOk w S) outs (ioOf ms cs) Ms → DisjS Ms → ArgsOk w1 S1 ms ins cs Zs →
    ∃ NOs, OutsOk w S ms outs cs NOs ∧ DisjS NOs ∧ ∀ k, AnyS NOs k → AnyS Ms k
  | _, _, _, _, _, _, t, hd, .nil => by cases t; exact ⟨[], .nil, hd, fun _ h => h⟩
  | _, _, outs, Ms, _, _, t, hd, .rd _ ha => by
    simp only [ioOf] at t
    obtain ⟨NOs, h1, h2, h3⟩ := outs_ok t hd ha
    refine ⟨_ :: NOs, .no (.inl rfl) h1, DisjS.cons (fun k hk => hk.elim) h2, fun k hk => ?_⟩
    rcases AnyS.cons.1 hk with hk | hk
    · exact hk.elim
    · exact h3 k hk
  | _, _, outs, Ms, _, _, t, hd, .pt hb ha => by
    simp only [ioOf] at t
    cases t with
    | cons h t =>
      obtain ⟨NOs, h1, h2, h3⟩ := outs_ok t hd.tail ha
      rcases h with h | h'
      · obtain ⟨v, ad, _, _, _, _, rfl, _⟩ := hb
        cases h
      refine ⟨_ :: NOs, .pt h' h1, DisjS.cons (fun k hk ha => hd.head k hk (h3 k ha)) h2, fun k hk => ?_⟩
      rcases AnyS.cons.1 hk with hk | hk
      · exact AnyS.cons.2 (.inl hk)
      · exact AnyS.cons.2 (.inr (h3 k hk))
  | _, _, outs, Ms, _, _, t, hd, .wr hw ho ha => by
    rcases hw with rfl | rfl
    · simp only [ioOf] at t
      cases t with
      | cons h t =>
        obtain ⟨NOs, h1, h2, h3⟩ := outs_ok t hd.tail ha
        rcases h with h' | h
        rotate_left
        · obtain ⟨v, ad, _, _, _, _, rfl, _⟩ := h
          cases ho
        refine ⟨_ :: NOs, .io h' h1, DisjS.cons (fun k hk ha => hd.head k hk (h3 k ha)) h2, fun k hk => ?_⟩
        rcases AnyS.cons.1 hk with hk | hk
        · exact AnyS.cons.2 (.inl hk)
        · exact AnyS.cons.2 (.inr (h3 k hk))
    · simp only [ioOf] at t
      obtain ⟨NOs, h1, h2, h3⟩ := outs_ok t hd ha
      refine ⟨_ :: NOs, .no (.inr rfl) h1, DisjS.cons (fun k hk => hk.elim) h2, fun k hk => ?_⟩
      rcases AnyS.cons.1 hk with hk | hk
      · exact hk.elim
      · exact h3 k hk

theorem enters_of {P : Program} {f : FuncId} {fn : Func} (hf : P.funcs[f]? = some fn) (hb : fn.body.isSome = true) (hname : (fn.name == "runtime.NumGoroutine") = false) : Enters P f := by
  have hname' : ¬ fn.name = "runtime.NumGoroutine" := by simpa using hname
  obtain ⟨c, hc⟩ := Option.isSome_iff_exists.1 hb
  exact fun args w => by simp [callFunc, hf, hc, hname']
/-- A function: what the abstract machine computes for its body. -/
theorem fn_okG {Φ : Tab} {T : Hints} {D : List String} (hΦ : ∀ f sp, Φ f = some sp → FnOk P f sp ∧ ∀ n ∈ sp.need, n ∈ D) (hm : P.follows .mixedOrders = true) {f : FuncId} {fn : Func} {c : Code} (hf : P.funcs[f]? = some fn) (hb : fn.body = some c)
    (hname : (fn.name == "runtime.NumGoroutine") = false) {sp : Spec} (hD : sp.need = D) (hnt : sp.modes.length ≤ fn.ntmps)
    (hgo : ∀ ins r outs, sp.run ins = some (r, outs) → ins.length = sp.modes.length → Goes P Φ T [.code c] (initS fn.ntmps sp.modes ins) (VEnds P fn.results.toList r outs))
    (hz : (∀ i, T.frz i = []) ∨ (hasPtr sp.modes = false ∧ ∀ ins r outs, sp.run ins = some (r, outs) → isRp r = false)) : FnOk P f sp := by
  have hname' : ¬ fn.name = "runtime.NumGoroutine" := by simpa using hname
  intro w S ins r outs cargs Ns hG hrun hargs hdis hNs hS
  refine .inr ⟨by simp [callFunc, hf, hb, hname'], ?_⟩
  intro cs
  obtain ⟨L1, L2, L3⟩ := initV_len 0 hargs
  obtain ⟨n, s', hgo, hfin⟩ := hgo ins r outs hrun L3
  have H0 : HOk w (AnyS Ns) w S ⟨fun _ => none, fun _ => 0, fun _ _ => False, fun _ => False⟩ (hOf []) (fun _ => False) :=
    ⟨fun id b hb => (by cases hb), fun i j b b' k hi => (by cases hi), fun i b k hi => (by cases hi), hS, fun _ h => h.elim (fun h => h rfl) (fun h => h), fun id h => h.elim, Fr.refl _ _⟩
  obtain ⟨g1, H1, _, t1⟩ := init_ok (n := 0) hargs hdis H0 (fun _ _ h => h) (fun j b k hb => by cases hb) (fun k hk => ⟨(hNs k hk).1, .inr hk⟩)
  let tm : Array Value := cargs.toArray ++ Array.replicate (fn.ntmps - cargs.toArray.size) undef
  have hs0 : SimS w (AnyS Ns) S (ioOf sp.modes cargs) (initS fn.ntmps sp.modes ins) ⟨tm, []⟩ w := by
    refine ⟨⟨g1, H1.weak ?_, fun t => ?_, io_two sp.modes t1⟩, ?_, rfl⟩
    · rintro k (hk | hk)
      · exact hk.elim
      · simp only [initS]; omega
    · show VR w S g1 _ (eOf (envL 0 (initV 0 sp.modes ins).1) t) (tm.getD t Go.undef)
      rw [envL_get, if_pos (Nat.zero_le _), Nat.sub_zero]
      have h1 : tm.getD t Go.undef = cargs.getD t Go.undef := by
        simp only [tm, Array.getD_eq_getD_getElem?, List.getD_eq_getElem?_getD]
        by_cases ht : t < cargs.length
        · rw [Array.getElem?_append_left (by simpa using ht)]; simp
        · rw [Array.getElem?_append_right (by simpa using Nat.le_of_not_lt ht), List.getElem?_eq_none (by omega)]
          simp only [List.size_toArray, Option.getD_none]
          by_cases h2 : t - cargs.length < fn.ntmps - cargs.length
          · rw [Array.getElem?_replicate, if_pos h2]; rfl
          · rw [Array.getElem?_replicate, if_neg h2]; rfl
      rw [h1]
      exact two_get (fun c => .undef c) t1 t
    · simp only [tm, initS, Array.size_append, List.size_toArray, Array.size_replicate]; omega
  let b : Frame := { (default : Frame) with fn := f, kind := .normal }
  have henter : Frame.enter P f cargs.toArray .normal = b.at ⟨tm, []⟩ [.code c] := by
    simp [Frame.enter, Frame.at, hf, hb, b, tm]
  obtain ⟨S1, a', w', todo, hS1, hzS, hst, hs'⟩ := go_ok (fun f sp h => (hΦ f sp h).1.at (hG.sub (by rw [hD]; exact (hΦ f sp h).2))) hm n S _ _ _ _ w b cs hgo hs0
  rw [← henter] at hst
  obtain ⟨⟨g', H', E', I'⟩, hsz', hdf'⟩ := hs'
  unfold VEnds finV at hfin
  simp only [Option.bind_eq_some_iff] at hfin
  obtain ⟨vs, hvs, ⟨q1, q2⟩, hq, ⟨p1, p2⟩, hp, hfin⟩ := hfin
  simp only at hfin
  split at hfin
  case isFalse => cases hfin
  rename_i hnd
  simp only [Option.some.injEq, Prod.mk.injEq] at hfin
  obtain ⟨rfl, rfl⟩ := hfin
  obtain ⟨rcs, hres, htwo⟩ := resL_ok (P := P) H' E' hvs
  have hnd' : (q2 ++ p2).Nodup := nodupB_iff.1 hnd
  rw [List.nodup_append] at hnd'
  obtain ⟨NR, hR, hRin⟩ := resIn_ok H' (cs := rcs.toArray) hq hnd'.1 (by simpa using htwo)
  obtain ⟨_, Ms, o2, d2, hin⟩ := listIn_ok H' (K := ResOk w' S1) (fun hv hn hx => endA_ok H' hv hn hx) hp hnd'.2.1 I'
  obtain ⟨NOs, hO, hOd, hOsub⟩ := outs_ok o2 d2 hargs
  have hdj := InIds.disj H' hRin hin (fun id i1 i2 => hnd'.2.2 id i1 id i2 rfl)
  have cvR : ∀ {r0 : V} {c0 : Value} {N0 : Nat → Prop}, isRp r0 = false → ResOk w' S1 r0 c0 N0 → ResOk w' S r0 c0 N0 := by
    intro r0 c0 N0 hr hq
    rcases hq with hq | ⟨v', _, _, _, _, rfl, _⟩
    · exact .inl hq
    · cases hr
  refine ⟨.returned _, w', _, ⟨_, NR, NOs, rfl, H'.fr, (by
      rcases hz with hz | ⟨_, hr0⟩
      · rw [hzS hz] at hR; exact hR
      · exact cvR (hr0 _ _ _ hrun) hR), (by
      rcases hz with hz | ⟨hp0, _⟩
      · rw [hzS hz] at hO; exact hO
      · exact hO.noPtr hp0), DisjS.cons (fun k hk ha => hdj k hk (hOsub k ha)) hOd, fun k hk => ?_⟩, hst, rfl, rfl, hdf', rfl, fn, hf, ?_⟩
  · have hk' : ∃ id ∈ q2 ++ p2, s'.heap id ≠ none ∧ g'.N id k := by
      rcases AnyS.cons.1 hk with hk | hk
      · obtain ⟨id, i1, i2⟩ := hRin k hk; exact ⟨id, List.mem_append_left _ i1, i2⟩
      · obtain ⟨id, i1, i2⟩ := hin k (hOsub k hk); exact ⟨id, List.mem_append_right _ i1, i2⟩
    obtain ⟨id, _, hl, hgk⟩ := hk'
    obtain ⟨blk, hblk⟩ := Option.ne_none_iff_exists'.1 hl
    exact ⟨H'.lt id blk k hblk hgk, (H'.own id blk k hblk hgk).2⟩
  · show (results fn a'.tmps).run P w' = _
    rw [results_eq, Array.mapM_eq_mapM_toList]
    simp [hres]
theorem fn_ok {Φ : Tab} {T : Hints} {D : List String} (hΦ : ∀ f sp, Φ f = some sp → FnOk P f sp ∧ ∀ n ∈ sp.need, n ∈ D) (hm : P.follows .mixedOrders = true) {f : FuncId} {fn : Func} {c : Code} (hf : P.funcs[f]? = some fn) (hb : fn.body = some c)
    (hname : (fn.name == "runtime.NumGoroutine") = false) {sp : Spec} (hD : sp.need = D) (hnt : sp.modes.length ≤ fn.ntmps)
    (hgo : ∀ ins r outs, sp.run ins = some (r, outs) → ins.length = sp.modes.length → Goes P Φ T [.code c] (initS fn.ntmps sp.modes ins) (VEnds P fn.results.toList r outs)) (hz : ∀ i, T.frz i = [] := by exact fun _ => rfl) : FnOk P f sp :=
  fn_okG hΦ hm hf hb hname hD hnt hgo (.inl hz)
end
end
end Go.VM

/- A statement's arguments, as the model's reading gives them, are readable data. -/
set_option linter.unusedVariables false
set_option linter.unusedSimpArgs false
namespace Go.VM
open Go

/-- A type whose data this machine reads: numbers, truth values, texts, slices of such, structs of such that lie flat. -/
def okT (P : Program) : Nat → TypeId → Bool
  | 0, _ => false
  | n + 1, t =>
    match P.underlying t with
    | some .bool | some (.int _) | some .string => true
    | some (.slice e) => decide (0 < P.cellsOf e) && okT P n e
    | some (.struct fs) => P.cellsOf t == fs.size && (List.range fs.size).all fun i => match fs[i]? with
      | some f => f.offset == i && P.cellsOf f.type == 1 && isScalarT P f.type && okT P n f.type
      | none => false
    | _ => false

/-- What such data is like. -/
def WfV (P : Program) : Nat → TypeId → V → Prop
  | 0, _, _ => False
  | n + 1, t, v =>
    match P.underlying t, v with
    | some .bool, .bool _ => True
    | some (.int k), .int k' m => k' = k ∧ k.min ≤ m ∧ m ≤ k.max
    | some .string, .str l => l.length ≤ reachBytes
    | some (.slice e), .lst sz l => sz = P.cellsOf e ∧ l.length * P.bytesOf e ≤ reachBytes ∧ l.length ≤ maxLen ∧ ∀ x ∈ l, WfV P n e x
    | some (.struct fs), .agg l => l.length = fs.size ∧ ∀ (i : Nat) f x, fs[i]? = some f → l[i]? = some x → WfV P n f.type x
    | _, _ => False

section
variable {H : Type} {enc : TypeId × Value → H} {P : Program} {w : World} {spare : Nat → Bool} {held : Bool}

theorem weights_all {e : TypeId} {d : DataW H} : ∀ {l : List (DataW H)}, d ∈ l → ∀ m ∈ d.weights P e, m ∈ DataW.weightsAll P e l
  | [], h, _, _ => by simp at h
  | d' :: l, h, m, hm => by
    simp only [DataW.weightsAll, List.mem_append]
    rcases List.mem_cons.1 h with rfl | h
    · exact .inl hm
    · exact .inr (weights_all h m hm)

theorem list_choice {α : Type} {R : Nat → α → Prop} [Inhabited α] (n : Nat) (h : ∀ i, i < n → ∃ x, R i x) : ∃ l : List α, l.length = n ∧ ∀ i x, l[i]? = some x → R i x := by
  classical
  refine ⟨(List.range n).map fun i => if hi : i < n then (h i hi).choose else default, by simp, fun i x hx => ?_⟩
  simp only [List.getElem?_map, Option.map_eq_some_iff] at hx
  obtain ⟨j, hj, rfl⟩ := hx
  have hlt := (List.getElem?_eq_some_iff.1 hj).1
  simp only [List.length_range] at hlt
  rw [List.getElem?_range hlt] at hj
  cases hj
  rw [dif_pos hlt]
  exact (h i hlt).choose_spec

theorem one_cell {S : Nat → Prop} {v : V} {c : Value} (hv : v.cells = [v]) (h : RD w S v c) : v.cells.length = [c].length ∧ ∀ (j : Nat) y c', v.cells[j]? = some y → [c][j]? = some c' → RD w S y c' := by
  rw [hv]
  refine ⟨rfl, fun j y c' hy hc => ?_⟩
  cases j with
  | zero => simp at hy hc; subst hy hc; exact h
  | succ j => simp at hy

theorem trod_bool' {fuel : Nat} {t : TypeId} {cs : List Value} {x : DataW H × List MemPlace} (hu : P.underlying t = some .bool) (h : DataW.trod enc P w 0 spare held fuel t cs = some x) : ∃ b, cs = [.bool b] := by
  cases fuel with
  | zero => simp [DataW.trod] at h
  | succ n =>
    unfold DataW.trod at h
    rw [hu] at h
    split at h <;> simp_all
theorem trod_int' {fuel : Nat} {t : TypeId} {cs : List Value} {k : IntKind} {x : DataW H × List MemPlace} (hu : P.underlying t = some (.int k)) (h : DataW.trod enc P w 0 spare held fuel t cs = some x) : ∃ m, cs = [.int k m] ∧ (Lit.int k m).wf = true := by
  cases fuel with
  | zero => simp [DataW.trod] at h
  | succ n =>
    unfold DataW.trod at h
    rw [hu] at h
    split at h <;> simp_all
theorem trod_string' {fuel : Nat} {t : TypeId} {cs : List Value} {x : DataW H × List MemPlace} (hu : P.underlying t = some .string) (h : DataW.trod enc P w 0 spare held fuel t cs = some x) : ∃ s, cs = [.string s] ∧ x.1 = .lit (.string s.data.toList) := by
  cases fuel with
  | zero => simp [DataW.trod] at h
  | succ n =>
    unfold DataW.trod at h
    rw [hu] at h
    split at h <;> simp_all
    rw [← h.2]

def Reads (P : Program) (w : World) (n : Nat) (t : TypeId) (v : V) (cs : List Value) : Prop :=
  WfV P n t v ∧ v.cells.length = cs.length ∧ ∀ (j : Nat) y c, v.cells[j]? = some y → cs[j]? = some c → RD w (fun k => k < w.heap.size) y c

theorem wf_scalar {n : Nat} {t : TypeId} {v : V} (h : WfV P n t v) (hs : isScalarT P t = true) : v.cells = [v] := by
  cases n with
  | zero => exact h.elim
  | succ n =>
    cases v <;> first | rfl | skip
    rename_i l
    unfold WfV at h
    unfold isScalarT at hs
    split at h <;> simp_all

theorem add_add (a : Addr) (x j : Nat) (hs : a.spot = none) : (a.add x).add j = ⟨a.block, a.off + (x + j), none⟩ := by
  obtain ⟨b, o, sp⟩ := a
  simp only at hs
  subst hs
  unfold Addr.add
  by_cases h1 : x = 0 <;> by_cases h2 : j = 0 <;> simp [h1, h2] <;> omega

theorem cell_spot {a : Addr} {c : Value} (h : w.cell? a = some c) : a.spot = none := by
  unfold World.cell? at h
  split at h
  · split at h
    · cases h
    · rename_i hs; simpa using hs
  · cases h

theorem trod_rd : ∀ (n fuel : Nat) (t : TypeId) (cs : List Value) (x : DataW H × List MemPlace), okT P n t = true → DataW.trod enc P w 0 spare held fuel t cs = some x → (∀ m ∈ x.1.weights P t, m ≤ reachBytes) → ∃ v, Reads P w n t v cs
  | 0, _, _, _, _, h, _, _ => by simp [okT] at h
  | n + 1, fuel, t, cs, x, hok, htr, hw => by
    unfold okT at hok
    split at hok
    · rename_i hu
      obtain ⟨b, rfl⟩ := trod_bool' hu htr
      exact ⟨.bool b, by simp [WfV, hu], one_cell rfl (.bool b)⟩
    · rename_i k hu
      obtain ⟨m, rfl, hwf⟩ := trod_int' hu htr
      simp only [Lit.wf, Bool.and_eq_true, decide_eq_true_eq] at hwf
      exact ⟨.int k m, by simp [WfV, hu, hwf], one_cell rfl (.int k m)⟩
    · rename_i hu
      obtain ⟨s, rfl, hx⟩ := trod_string' hu htr
      rw [hx] at hw
      have := hw s.data.toList.length (by simp only [DataW.weights, List.mem_singleton])
      exact ⟨.str s.data.toList, by simpa only [WfV, hu] using this, one_cell rfl (.str s _ rfl)⟩
    · rename_i e hu
      simp only [Bool.and_eq_true, decide_eq_true_eq] at hok
      rcases DataW.trod_slice hu htr with ⟨rfl, rfl⟩ | ⟨a, len, cap, elems, rest, m, rfl, rfl, rfl, hb, hlc, hcm, hel, helem, _, _⟩
      · refine ⟨.lst (P.cellsOf e) [], ?_, one_cell rfl (.lnil _ _ _)⟩
        simp only [WfV, hu]
        exact ⟨trivial, by simp, by simp, by simp⟩
      · have hsz : len * P.bytesOf e ≤ reachBytes := by
          have := hw ((elems.map (·.1)).length + (rest.map (·.1)).length |> (· * P.bytesOf e)) (by simp [DataW.weights, hu])
          refine Nat.le_trans (Nat.mul_le_mul_right _ ?_) this
          simp; omega
        have hone : ∀ i, i < len → ∃ (q : V × List Value), Reads P w n e q.1 q.2 ∧ w.cells? 0 (a.add (i * P.cellsOf e)) (P.cellsOf e) = some q.2 := by
          intro i hi
          have h1 := helem i hi
          have hie : i < elems.length := by omega
          rw [List.getElem?_eq_getElem hie] at h1
          simp only [Option.bind_eq_some_iff] at h1
          obtain ⟨cs', hcs', htr'⟩ := h1
          obtain ⟨v, hv⟩ := trod_rd n m e cs' _ hok.2 htr' (fun q hq => hw q (by
            simp only [DataW.weights, hu, List.mem_cons, List.mem_append]
            right; left
            exact weights_all (List.mem_map_of_mem (List.getElem_mem hie)) q hq))
          exact ⟨(v, cs'), hv, hcs'⟩
        obtain ⟨L, hL, hR⟩ := list_choice len hone
        have hget : ∀ i, i < len → ∃ v cs', L[i]? = some (v, cs') ∧ Reads P w n e v cs' ∧ w.cells? 0 (a.add (i * P.cellsOf e)) (P.cellsOf e) = some cs' := fun i hi =>
          ⟨_, _, List.getElem?_eq_getElem (by omega), hR i _ (List.getElem?_eq_getElem (by omega))⟩
        have hLl : (L.map (·.1)).length = len := by simp [hL]
        refine ⟨.lst (P.cellsOf e) (L.map (·.1)), ?_, one_cell rfl ?_⟩
        · simp only [WfV, hu]
          refine ⟨trivial, by rw [hLl]; exact hsz, by rw [hLl]; omega, fun x hx => ?_⟩
          obtain ⟨q, hq, rfl⟩ := List.mem_map.1 hx
          obtain ⟨i, hi, rfl⟩ := List.mem_iff_getElem.1 hq
          exact (hR i _ (List.getElem?_eq_getElem hi)).1.1
        · rcases Nat.eq_zero_or_pos len with h0 | h0
          · subst h0
            have : L = [] := List.eq_nil_of_length_eq_zero hL
            subst this
            exact .lnil _ _ _
          · have hfirst : a.spot = none ∧ a.block < w.heap.size := by
              obtain ⟨v, cs', _, _, hc⟩ := hget 0 h0
              have hb := World.cells?_block hc hok.1
              obtain ⟨_, hl, hcc⟩ := World.cells?_some hc
              have := hcc 0 hok.1
              rw [List.getElem?_eq_getElem (by omega)] at this
              have hsp := cell_spot this
              simp [Addr.add] at hsp hb
              exact ⟨hsp, hb⟩
            have hcell : ∀ i j, i < len → j < P.cellsOf e → ∃ c, w.cell? ⟨a.block, a.off + (i * P.cellsOf e + j), none⟩ = some c ∧ ∀ v y, L[i]?.map (·.1) = some v → v.cells[j]? = some y → RD w (fun k => k < w.heap.size) y c := by
              intro i j hi hj
              obtain ⟨v, cs', hLi, hrd, hc⟩ := hget i hi
              obtain ⟨_, hl, hcc⟩ := World.cells?_some hc
              have h1 := hcc j hj
              rw [add_add a _ j hfirst.1, List.getElem?_eq_getElem (by omega)] at h1
              refine ⟨_, h1, fun v' y hv' hy => ?_⟩
              rw [hLi] at hv'
              simp only [Option.map_some, Option.some.injEq] at hv'
              subst hv'
              exact hrd.2.2 j y _ hy (List.getElem?_eq_getElem (by omega))
            classical
            let f : Nat → Nat → Value := fun i j => if h : i < len ∧ j < P.cellsOf e then (hcell i j h.1 h.2).choose else Go.undef
            have hf : ∀ i j (hi : i < len) (hj : j < P.cellsOf e), f i j = (hcell i j hi hj).choose := fun i j hi hj => by simp only [f]; rw [dif_pos ⟨hi, hj⟩]
            have hcl : ∀ x ∈ L.map (·.1), x.cells.length = P.cellsOf e := by
              intro x hx
              obtain ⟨q, hq, rfl⟩ := List.mem_map.1 hx
              obtain ⟨i, hi, rfl⟩ := List.mem_iff_getElem.1 hq
              obtain ⟨h1, h2⟩ := hR i _ (List.getElem?_eq_getElem hi)
              obtain ⟨_, hl, _⟩ := World.cells?_some h2
              rw [h1.2.1, hl]
            have := RD.lst (w := w) (S := fun k => k < w.heap.size) (P.cellsOf e) (L.map (·.1)) a cap f hfirst.1 hfirst.2 (by rw [hLl]; exact hlc) hcl
              (fun i j hi hj => by rw [hLl] at hi; rw [hf i j hi hj]; exact (hcell i j hi hj).choose_spec.1)
              (fun i x j y hx hy => by
                have hi : i < len := by have := (List.getElem?_eq_some_iff.1 hx).1; omega
                have hj : j < P.cellsOf e := by have := (List.getElem?_eq_some_iff.1 hy).1; rw [hcl x (List.mem_of_getElem? hx)] at this; exact this
                rw [hf i j hi hj]
                exact (hcell i j hi hj).choose_spec.2 x y (by simpa using hx) hy)
            rw [hLl] at this
            exact this
    · rename_i fs hu
      simp only [Bool.and_eq_true, beq_iff_eq, List.all_eq_true, List.mem_range] at hok
      obtain ⟨xs, m, rfl, rfl, hcl, hxl, hxs⟩ := DataW.trod_struct hu htr
      have hone : ∀ i, i < fs.size → ∃ v, (∀ f, fs[i]? = some f → ∃ c, cs[i]? = some c ∧ Reads P w n f.type v [c]) := by
        intro i hi
        have h1 := hok.2 i hi
        rw [Array.getElem?_eq_getElem hi] at h1
        simp only [Bool.and_eq_true, beq_iff_eq] at h1
        obtain ⟨⟨⟨ho, hc1⟩, _⟩, hokf⟩ := h1
        have h2 := hxs i _ (Array.getElem?_eq_getElem hi)
        have hic : i < cs.length := by omega
        have e1 : (cs.drop fs[i].offset).take (P.cellsOf fs[i].type) = [cs[i]] := by
          rw [ho, hc1, List.drop_eq_getElem_cons hic]; rfl
        rw [e1, List.getElem?_eq_getElem (by omega)] at h2
        obtain ⟨v, hv⟩ := trod_rd n m _ _ _ hokf h2 (fun q hq => hw q (by
          simp only [DataW.weights, hu]
          exact DataW.weights_mem_each (j := i) (by simp [hi]) (by simp [List.getElem?_eq_getElem (show i < xs.length by omega)]) q hq))
        refine ⟨v, fun f hf => ?_⟩
        rw [Array.getElem?_eq_getElem hi] at hf
        cases hf
        exact ⟨_, List.getElem?_eq_getElem hic, hv⟩
      obtain ⟨L, hL, hR⟩ := list_choice fs.size hone
      refine ⟨.agg L, ?_, by simp only [V.cells]; omega, fun j y c hy hc => ?_⟩
      · simp only [WfV, hu]
        refine ⟨hL, fun i f x hf hx => ?_⟩
        obtain ⟨c, _, hr⟩ := hR i x hx f hf
        exact hr.1
      · simp only [V.cells] at hy
        have hj : j < fs.size := by have := (List.getElem?_eq_some_iff.1 hy).1; omega
        obtain ⟨c', hc', hr⟩ := hR j y hy _ (Array.getElem?_eq_getElem hj)
        rw [hc] at hc'; cases hc'
        have h1 := hok.2 j hj
        rw [Array.getElem?_eq_getElem hj] at h1
        simp only [Bool.and_eq_true, beq_iff_eq] at h1
        exact hr.2.2 0 y c (by rw [wf_scalar hr.1 h1.1.2]; rfl) rfl
    · cases hok
end
end Go.VM

