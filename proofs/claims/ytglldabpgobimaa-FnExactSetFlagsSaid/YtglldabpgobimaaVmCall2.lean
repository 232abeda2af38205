/- What stands in the handed blocks behind a call; the call itself. -/
import Derived.Test.YtglldabpgobimaaVmCall
set_option linter.unusedVariables false
set_option linter.unusedSimpArgs false
namespace Go.VM
open Go

section
variable {P : Program} {w0 w w' : World} {O S : Nat → Prop} {g : G} {h : Heap} {U : Nat → Prop} {a : Act} {e : Env} {n : Nat} {o : Oper}

/-- Blocks told anew: these ids, by this list; new words in NS. -/
def Piece (w' : World) (g : G) (h : Heap) (ids : List Nat) (us : List (Nat × Option Blk)) (NS : Nat → Prop) : Prop :=
  (∀ h0 j, j ∉ ids → updsH h0 us j = h0 j) ∧ ∃ N' : Nat → Nat → Prop,
    (∀ id ∈ ids, (∀ h0, updsH h0 us id = none) ∨ ∃ sz els els', h id = some ⟨.arr, sz, els⟩ ∧ (∀ h0, updsH h0 us id = some ⟨.arr, sz, els'⟩) ∧ els'.length = els.length ∧
      OW w' (.lst sz els') (.slice (g.base id) els'.length (g.cap id)) (N' id) ∧ ∀ k, N' id k → NS k) ∧
    ∀ i j k, i ∈ ids → j ∈ ids → updsH (fun _ => none) us i ≠ none → updsH (fun _ => none) us j ≠ none → N' i k → N' j k → i = j

theorem Piece.nil : Piece w' g h [] [] (fun _ => False) := ⟨fun _ _ _ => rfl, fun _ _ => False, by simp, by simp⟩
theorem Piece.weak {ids : List Nat} {us : List (Nat × Option Blk)} {A B : Nat → Prop} (p : Piece w' g h ids us A) (hs : ∀ k, A k → B k) : Piece w' g h ids us B := by
  obtain ⟨p1, N', p2, p3⟩ := p
  refine ⟨p1, N', fun id hid => ?_, p3⟩
  rcases p2 id hid with q | ⟨sz, els, els', q1, q2, q3, q4, q5⟩
  · exact .inl q
  · exact .inr ⟨sz, els, els', q1, q2, q3, q4, fun k hk => hs k (q5 k hk)⟩
theorem Piece.append {i1 i2 : List Nat} {u1 u2 : List (Nat × Option Blk)} {A B : Nat → Prop} (p : Piece w' g h i1 u1 A) (q : Piece w' g h i2 u2 B) (hd : ∀ id ∈ i1, id ∉ i2) (hAB : ∀ k, A k → ¬ B k) :
    Piece w' g h (i1 ++ i2) (u1 ++ u2) (fun k => A k ∨ B k) := by
  obtain ⟨p1, N1, p2, p3⟩ := p
  obtain ⟨q1, N2, q2, q3⟩ := q
  have l1 : ∀ h0 id, id ∈ i1 → updsH h0 (u1 ++ u2) id = updsH h0 u1 id := fun h0 id hid => by rw [updsH_append, q1 _ id (hd id hid)]
  have l2 : ∀ h0 id, id ∈ i2 → updsH h0 (u1 ++ u2) id = updsH (updsH h0 u1) u2 id := fun h0 id hid => by rw [updsH_append]
  have at2 : ∀ id ∈ i2, ∀ h0 h0', updsH h0 u2 id = updsH h0' u2 id := by
    intro id hid h0 h0'
    rcases q2 id hid with r | ⟨sz, els, els', r1, r2, _⟩
    · rw [r, r]
    · rw [r2, r2]
  refine ⟨fun h0 j hj => ?_, fun id => if id ∈ i1 then N1 id else N2 id, fun id hid => ?_, fun i j k hi hj li lj hNi hNj => ?_⟩
  · simp only [List.mem_append, not_or] at hj
    rw [updsH_append, q1 _ j hj.2, p1 _ j hj.1]
  · by_cases h1 : id ∈ i1
    · simp only [h1, if_true]
      rcases p2 id h1 with r | ⟨sz, els, els', r1, r2, r3, r4, r5⟩
      · exact .inl fun h0 => by rw [l1 h0 id h1]; exact r h0
      · exact .inr ⟨sz, els, els', r1, fun h0 => by rw [l1 h0 id h1]; exact r2 h0, r3, r4, fun k hk => .inl (r5 k hk)⟩
    · have h2 : id ∈ i2 := by rcases List.mem_append.1 hid with q | q; exact absurd q h1; exact q
      simp only [h1, if_false]
      rcases q2 id h2 with r | ⟨sz, els, els', r1, r2, r3, r4, r5⟩
      · exact .inl fun h0 => by rw [l2 h0 id h2]; exact r _
      · exact .inr ⟨sz, els, els', r1, fun h0 => by rw [l2 h0 id h2]; exact r2 _, r3, r4, fun k hk => .inr (r5 k hk)⟩
  · have key : ∀ id, id ∈ i1 ++ i2 → updsH (fun _ => none) (u1 ++ u2) id ≠ none → ∀ k, (if id ∈ i1 then N1 id else N2 id) k → (id ∈ i1 ∧ A k) ∨ (id ∈ i2 ∧ id ∉ i1 ∧ B k) := by
      intro id hid hl k hk
      by_cases h1 : id ∈ i1
      · simp only [h1, if_true] at hk
        rcases p2 id h1 with r | ⟨sz, els, els', r1, r2, r3, r4, r5⟩
        · exact absurd (by rw [l1 _ id h1]; exact r _) hl
        · exact .inl ⟨h1, r5 k hk⟩
      · have h2 : id ∈ i2 := by rcases List.mem_append.1 hid with q | q; exact absurd q h1; exact q
        simp only [h1, if_false] at hk
        rcases q2 id h2 with r | ⟨sz, els, els', r1, r2, r3, r4, r5⟩
        · exact absurd (by rw [l2 _ id h2]; exact r _) hl
        · exact .inr ⟨h2, h1, r5 k hk⟩
    rcases key i hi li k hNi with ⟨a1, a2⟩ | ⟨a1, a2, a3⟩ <;> rcases key j hj lj k hNj with ⟨b1, b2⟩ | ⟨b1, b2, b3⟩
    · simp only [a1, b1, if_true] at hNi hNj
      exact p3 i j k a1 b1 (by rw [l1 _ i a1] at li; exact li) (by rw [l1 _ j b1] at lj; exact lj) hNi hNj
    · exact absurd b3 (hAB k a2)
    · exact absurd a3 (hAB k b2)
    · simp only [a2, b2, if_false] at hNi hNj
      exact q3 i j k a1 b1 (by rw [l2 _ i a1, at2 i a1 _ (fun _ => none)] at li; exact li) (by rw [l2 _ j b1, at2 j b1 _ (fun _ => none)] at lj; exact lj) hNi hNj

theorem backC_ok (H : HOk w0 O w S g h U) {x y d : V} {c : Value} {ids : List Nat} {us : List (Nat × Option Blk)} {N : Nat → Prop} (hcl : clC h x = some (y, ids)) (hx : VR w S g h x c) (hb : backC h x d = some us) (ho : OW w' d c N) : Piece w' g h ids us N := by
  cases x with
  | own id =>
    simp only [clC] at hcl
    split at hcl
    · rename_i sz els hbk
      simp only [Option.some.injEq, Prod.mk.injEq] at hcl
      obtain ⟨_, rfl⟩ := hcl
      cases d with
      | lst sz' l =>
        simp only [backC, hbk] at hb
        split at hb
        · rename_i hs
          subst hs
          cases hb
          obtain ⟨_, rfl⟩ := hx.inv_own hbk (H.notDead hbk)
          have hlen := ho.len_le.2
          refine ⟨fun h0 j hj => ?_, fun _ => N, ?_, ?_⟩
          · simp only [List.mem_singleton] at hj
            simp [updsH, updH, hj]
          · intro id' hid'
            simp only [List.mem_singleton] at hid'
            subst hid'
            refine .inr ⟨sz, els, l, hbk, fun h0 => by simp [updsH, updH], hlen.symm, by rw [← hlen]; exact ho, fun k hk => hk⟩
          · intro i j k hi hj _ _ _ _
            simp only [List.mem_singleton] at hi hj
            rw [hi, hj]
        · cases hb
      | _ => simp [backC] at hb
    · cases hcl
  | int k m => simp only [clC, Option.some.injEq, Prod.mk.injEq] at hcl; simp only [backC, Option.some.injEq] at hb; obtain ⟨_, rfl⟩ := hcl; subst hb; exact Piece.nil.weak fun _ h => h.elim
  | bool b => simp only [clC, Option.some.injEq, Prod.mk.injEq] at hcl; simp only [backC, Option.some.injEq] at hb; obtain ⟨_, rfl⟩ := hcl; subst hb; exact Piece.nil.weak fun _ h => h.elim
  | str s => simp only [clC, Option.some.injEq, Prod.mk.injEq] at hcl; simp only [backC, Option.some.injEq] at hb; obtain ⟨_, rfl⟩ := hcl; subst hb; exact Piece.nil.weak fun _ h => h.elim
  | nils sz => simp only [clC, Option.some.injEq, Prod.mk.injEq] at hcl; simp only [backC, Option.some.injEq] at hb; obtain ⟨_, rfl⟩ := hcl; subst hb; exact Piece.nil.weak fun _ h => h.elim
  | win id lo len => simp [backC] at hb
  | _ => simp [clC] at hcl

theorem backL_ok (H : HOk w0 O w S g h U) : ∀ {l ys m : List V} {cs : List Value} {ids : List Nat} {us : List (Nat × Option Blk)} {Ns : Nat → Nat → Prop}, clL h l = some (ys, ids) → ids.Nodup → l.length = cs.length →
    (∀ (i : Nat) x c, l[i]? = some x → cs[i]? = some c → VR w S g h x c) → backL h l m = some us → (∀ (i : Nat) d c, m[i]? = some d → cs[i]? = some c → OW w' d c (Ns i)) →
    (∀ i j k, i < m.length → j < m.length → Ns i k → Ns j k → i = j) → m.length = l.length ∧ Piece w' g h ids us (fun k => ∃ i, i < m.length ∧ Ns i k)
  | [], ys, m, cs, ids, us, Ns, hcl, _, _, _, hb, _, _ => by
    cases m with
    | nil =>
      simp only [clL, Option.some.injEq, Prod.mk.injEq] at hcl
      simp only [backL, Option.some.injEq] at hb
      obtain ⟨_, rfl⟩ := hcl
      subst hb
      exact ⟨rfl, Piece.nil.weak fun _ h => h.elim⟩
    | cons => simp [backL] at hb
  | x :: l, ys, m, [], ids, us, Ns, _, _, hl, _, _, _, _ => by simp at hl
  | x :: l, ys, m, c :: cs, ids, us, Ns, hcl, hn, hl, hr, hb, ho, hd => by
    cases m with
    | nil => simp [backL] at hb
    | cons d m =>
      simp only [clL, Option.bind_eq_some_iff, Option.map_eq_some_iff] at hcl
      obtain ⟨⟨y, i1⟩, hy, ⟨ys', i2⟩, hys, hcl⟩ := hcl
      simp only [Prod.mk.injEq] at hcl
      obtain ⟨rfl, rfl⟩ := hcl
      simp only [backL, Option.bind_eq_some_iff, Option.map_eq_some_iff] at hb
      obtain ⟨u1, hu1, u2, hu2, rfl⟩ := hb
      rw [List.nodup_append] at hn
      have p1 := backC_ok H hy (hr 0 x c rfl rfl) hu1 (ho 0 d c rfl rfl)
      obtain ⟨e2, p2⟩ := backL_ok H (Ns := fun i => Ns (i + 1)) hys hn.2.1 (by simpa using hl) (fun i x c hx hc => hr (i + 1) x c (by simpa using hx) (by simpa using hc)) hu2 (fun i d c hd hc => ho (i + 1) d c (by simpa using hd) (by simpa using hc))
        (fun i j k hi hj h1 h2 => by have := hd (i + 1) (j + 1) k (by simpa using hi) (by simpa using hj) h1 h2; omega)
      refine ⟨by simp [e2], (p1.append p2 (fun id i1 i2 => hn.2.2 id i1 id i2 rfl) ?_).weak ?_⟩
      · rintro k h1 ⟨i, hi, h2⟩
        have := hd 0 (i + 1) k (by simp) (by simpa using hi) h1 h2
        omega
      · rintro k (h1 | ⟨i, hi, h2⟩)
        · exact ⟨0, by simp, h1⟩
        · exact ⟨i + 1, by simpa using hi, h2⟩

theorem backA_ok (H : HOk w0 O w S g h U) {x y d : V} {c : Value} {ids : List Nat} {us : List (Nat × Option Blk)} {N : Nat → Prop} (hcl : clA h x = some (y, ids)) (hn : ids.Nodup) (hx : VR w S g h x c) (hb : backA h x d = some us) (ho : OW w' d c N) : Piece w' g h ids us N := by
  by_cases hagg : ∃ l, x = .agg l
  · obtain ⟨l, rfl⟩ := hagg
    simp only [clA, Option.map_eq_some_iff] at hcl
    obtain ⟨⟨ys, ids'⟩, hys, hcl⟩ := hcl
    simp only [Prod.mk.injEq] at hcl
    obtain ⟨rfl, rfl⟩ := hcl
    obtain ⟨cs, rfl, hl, hr⟩ := hx.inv_agg
    cases d with
    | agg m =>
      simp only [backA] at hb
      cases ho with
      | agg _ _ Ns hl' hr' hd' =>
        exact (backL_ok H (Ns := Ns) hys hn (cs := cs.toList) (by simpa using hl) (fun i x c hx hc => hr i x c hx (by simpa using hc)) hb (fun i d c hd hc => hr' i d c hd (by simpa using hc)) hd').2
    | _ => simp [backA, backC] at hb
  · have e1 : clA h x = clC h x := by cases x <;> first | rfl | (rename_i l; exact absurd ⟨l, rfl⟩ hagg)
    have e2 : backA h x d = backC h x d := by cases x <;> first | rfl | (rename_i l; exact absurd ⟨l, rfl⟩ hagg)
    rw [e1] at hcl; rw [e2] at hb
    exact backC_ok H hcl hx hb ho

theorem piece_gone : ∀ (ids : List Nat), Piece w' g h ids (ids.map fun i => (i, (none : Option Blk))) (fun _ => False)
  | [] => Piece.nil
  | i :: ids => by
    have hm : ∀ (l : List Nat) (h0 : Heap) j, updsH h0 (l.map fun i => (i, (none : Option Blk))) j = if j ∈ l then none else h0 j := by
      intro l h0 j
      have := congrFun (updsH_gone (h := h0) l []) j
      simpa [gone, updsH] using this
    refine ⟨fun h0 j hj => by rw [hm, if_neg hj], fun _ _ => False, fun id hid => .inl fun h0 => by rw [hm, if_pos hid], fun i j k _ _ _ _ h => h.elim⟩

theorem backs_ok (H : HOk w0 O w S g h U) : ∀ {ms : List Mode} {vs outs : List V} {cs : List Value} {r : List V × List Nat × List Nat} {us : List (Nat × Option Blk)} {Ns : List (Nat → Prop)}, argsIn h ms vs = some r → Two (VR w S g h) vs cs → r.2.1.Nodup →
    backs h ms vs outs = some us → OutsOk w' ms outs cs Ns → DisjS Ns → Piece w' g h r.2.1 us (AnyS Ns)
  | [], [], outs, _, r, us, Ns, hv, hc, _, hb, ho, _ => by
    cases hc
    cases ho
    simp only [argsIn, Option.some.injEq] at hv
    subst hv
    simp only [backs, Option.some.injEq] at hb
    subst hb
    exact Piece.nil.weak fun _ h => h.elim
  | [], _ :: _, _, _, r, us, Ns, hv, _, _, _, _, _ => by simp [argsIn] at hv
  | m :: ms, [], _, _, r, us, Ns, hv, _, _, _, _, _ => by cases m <;> simp [argsIn] at hv
  | m :: ms, v :: vs, outs, _, r, us, Ns, hv, hc, hn, hb, ho, hd => by
    cases hc with
    | cons hx ht =>
      rename_i c cs
      cases m with
      | rd =>
        simp only [argsIn, Option.bind_eq_some_iff, Option.map_eq_some_iff] at hv
        obtain ⟨d, hd', r', hr', rfl⟩ := hv
        simp only [backs] at hb
        cases ho with
        | no hm t => exact (backs_ok H hr' ht hn hb t hd.tail).weak fun k hk => AnyS.cons.2 (.inr hk)
      | io =>
        simp only [argsIn, Option.bind_eq_some_iff, Option.map_eq_some_iff] at hv
        obtain ⟨⟨y, ids⟩, hy, r', hr', rfl⟩ := hv
        simp only at hn ⊢
        rw [List.nodup_append] at hn
        cases ho with
        | no hm t => exact absurd rfl hm
        | io h1 t =>
          simp only [backs, Option.bind_eq_some_iff, Option.map_eq_some_iff] at hb
          obtain ⟨u1, hu1, u2, hu2, rfl⟩ := hb
          have p1 := backA_ok H hy hn.1 hx hu1 h1
          have p2 := backs_ok H hr' ht hn.2.1 hu2 t hd.tail
          exact (p1.append p2 (fun id i1 i2 => hn.2.2 id i1 id i2 rfl) hd.head).weak fun k hk => AnyS.cons.2 hk
      | use =>
        simp only [argsIn, Option.bind_eq_some_iff, Option.map_eq_some_iff] at hv
        obtain ⟨⟨y, ids⟩, hy, r', hr', rfl⟩ := hv
        simp only at hn ⊢
        rw [List.nodup_append] at hn
        have hids := (clA_ow H hy hn.1 hx).1
        cases ho with
        | no hm t =>
          simp only [backs, Option.map_eq_some_iff] at hb
          obtain ⟨u2, hu2, rfl⟩ := hb
          have p2 := backs_ok H hr' ht hn.2.1 hu2 t hd.tail
          rw [hids]
          exact ((piece_gone ids).append p2 (fun id i1 i2 => hn.2.2 id i1 id i2 rfl) (fun _ h => h.elim)).weak fun k hk => AnyS.cons.2 (.inr (hk.resolve_left id))

theorem two_length {α β : Type} {R : α → β → Prop} {l : List α} {m : List β} (t : Two R l m) : l.length = m.length := by
  induction t with
  | nil => rfl
  | cons _ _ ih => simp [ih]

/-- A call of a function that is known. -/
theorem call_ok {Φ : Tab} (hΦ : ∀ f sp, Φ f = some sp → FnAt P w0 O f sp) (H : HOk w0 O w S g h U) {f : Nat} {vs : List V} {cs : List Value} {v : V} {us : List (Nat × Option Blk)} (hv : callV Φ h n f vs = some (v, us)) (hc : Two (VR w S g h) vs cs)
    (hU : ∀ i, n ≤ i → i < n + stride → ¬ U i) :
    Gives P f cs.toArray w fun e w' => ∃ cv g', e = .returned cv ∧ HOk w0 O w' S g' (updsH h us) (fun k => U k ∨ (n ≤ k ∧ k < n + stride)) ∧ Tr w S g h w' S g' (updsH h us) ∧ VR w' S g' (updsH h us) v cv := by
  unfold callV at hv
  split at hv
  · cases hv
  · rename_i sp hsp
    split at hv
    · cases hv
    · rename_i ins hins
      split at hv
      · rename_i hchk
        simp only [Bool.and_eq_true, nodupB_iff, disjB, List.all_eq_true, Bool.not_eq_true', List.contains_eq_mem, decide_eq_false_iff_not] at hchk
        split at hv
        · cases hv
        · rename_i r hrun
          split at hv
          · cases hv
          · rename_i ub hub
            simp only [Option.some.injEq, Prod.mk.injEq] at hv
            obtain ⟨rfl, rfl⟩ := hv
            obtain ⟨ins, W, R⟩ := ins
            obtain ⟨res, outs⟩ := r
            simp only at hchk hrun hub ⊢
            have hfn := hΦ f sp hsp
            obtain ⟨hWl, Ns, hargs, hNd, hNin⟩ := argsIn_ok H (W0 := W) hins hc hchk.1 (fun id hid hW => hchk.2 id hW hid)
            have hNW : ∀ k, AnyS Ns k → ∃ id ∈ W, h id ≠ none ∧ g.N id k := hNin
            refine (hfn w (Rest w g h W) ins res outs cs Ns H.fr (fun k hk => by
              obtain ⟨id, i1, i2, i3⟩ := hNW k hk
              obtain ⟨b', hb'⟩ := Option.ne_none_iff_exists'.1 i2
              exact (H.own id b' k hb' i3).2) hrun hargs hNd ?_ (fun k hk => hk.1)).mono ?_
            · intro k hk
              obtain ⟨id, h1, h2, h3⟩ := hNW k hk
              obtain ⟨b, hb⟩ := Option.ne_none_iff_exists'.1 h2
              exact ⟨fun hr => hr.2 id h1 h2 h3, H.lt id b k hb h3⟩
            · rintro ev w' ⟨cv, NR, NOs, rfl, hfr, how, houts, hdis, hlt⟩
              obtain ⟨p1, N', p2, p3⟩ := backs_ok H hins hc hchk.1 hub houts hdis.tail
              simp only at p1 p2 p3
              have hat : ∀ id ∈ W, ∀ h0, updsH h0 ub id = updsH (fun _ => none) ub id := by
                intro id hid h0
                rcases p2 id hid with q | ⟨sz, els, els', q1, q2, _⟩
                · rw [q, q]
                · rw [q2, q2]
              let g1 : G := { base := g.base, cap := g.cap, N := fun j => if j ∈ W then N' j else g.N j, dead := fun j => g.dead j ∨ (j ∈ W ∧ updsH h ub j = none) }
              have hkeep : ∀ j b k, j ∉ W → h j = some b → g.N j k → w'.heap[k]? = w.heap[k]? := by
                intro j b k hj hb hk
                refine hfr.block k (H.lt j b k hb hk) fun hN => ?_
                obtain ⟨id, h1, h2, h3⟩ := hNW k hN
                obtain ⟨b', hb'⟩ := Option.ne_none_iff_exists'.1 h2
                have := H.disj j id b b' k hb hb' hk h3
                subst this
                exact hj h1
              have hSk : ∀ k, S k → w'.heap[k]? = w.heap[k]? := fun k hk => hfr.block k (H.slt k hk) fun hN => by
                obtain ⟨id, h1, h2, h3⟩ := hNW k hN
                obtain ⟨b', hb'⟩ := Option.ne_none_iff_exists'.1 h2
                exact (H.own id b' k hb' h3).1 hk
              have hplace : ∀ k, AnyS (NR :: NOs) k → ¬ S k ∧ (w0.heap.size ≤ k ∨ O k) := by
                intro k hk
                rcases (hlt k hk).2 with h1 | h1
                · exact ⟨fun hS => by have := H.slt k hS; omega, .inl (Nat.le_trans H.fr.size h1)⟩
                · obtain ⟨id, i1, i2, i3⟩ := hNW k h1
                  obtain ⟨b', hb'⟩ := Option.ne_none_iff_exists'.1 i2
                  exact H.own id b' k hb' i3
              have hfar : ∀ k j b, AnyS (NR :: NOs) k → j ∉ W → h j = some b → ¬ g.N j k := by
                intro k j b hk hj hb hN
                rcases (hlt k hk).2 with h1 | h1
                · have := H.lt j b k hb hN; omega
                · obtain ⟨id, i1, i2, i3⟩ := hNW k h1
                  obtain ⟨b', hb'⟩ := Option.ne_none_iff_exists'.1 i2
                  have := H.disj j id b b' k hb hb' hN i3
                  subst this
                  exact hj i1
              have tr1 : Tr w S g h w' S g1 (updsH h ub) := by
                refine Tr.of hSk (fun _ h => h) (fun _ h => .inl h) fun id b hb => ?_
                by_cases hW : id ∈ W
                · rcases p2 id hW with q | ⟨sz, els, els', q1, q2, q3, q4, q5⟩
                  · exact .inl (.inr ⟨hW, q h⟩)
                  · rw [q1] at hb; cases hb
                    exact .inr ⟨_, q2 h, rfl, rfl, q3, rfl, rfl⟩
                · exact .inr ⟨b, by rw [p1 h id hW]; exact hb, rfl, rfl, rfl, rfl, rfl⟩
              have hN1 : ∀ j b k, updsH h ub j = some b → g1.N j k → (j ∈ W ∧ N' j k ∧ AnyS NOs k) ∨ (j ∉ W ∧ g.N j k ∧ h j = some b) := by
                intro j b k hb hk
                by_cases hW : j ∈ W
                · have hk' : N' j k := by simpa [g1, hW] using hk
                  rcases p2 j hW with q | ⟨sz, els, els', q1, q2, q3, q4, q5⟩
                  · rw [q h] at hb; cases hb
                  · exact .inl ⟨hW, hk', q5 k hk'⟩
                · exact .inr ⟨hW, by simpa [g1, hW] using hk, by rw [← p1 h j hW]; exact hb⟩
              have hfr' : Fr w0 w' O := ⟨hfr.os.trans H.fr.os, hfr.tape.trans H.fr.tape, hfr.output.trans H.fr.output, Nat.le_trans H.fr.size hfr.size, fun k hk hno => by
                have hk' := Nat.lt_of_lt_of_le hk H.fr.size
                refine (hfr.block k hk' fun hN => ?_).trans (H.fr.block k hk hno)
                obtain ⟨id, i1, i2, i3⟩ := hNW k hN
                obtain ⟨b', hb'⟩ := Option.ne_none_iff_exists'.1 i2
                rcases (H.own id b' k hb' i3).2 with q | q
                · omega
                · exact hno q⟩
              have H1 : HOk w0 O w' S g1 (updsH h ub) U := by
                refine H.change tr1 hfr' (fun k hk => Nat.lt_of_lt_of_le (H.slt k hk) hfr.size) ?_ ?_ ?_ ?_
                · intro j b hb
                  by_cases hW : j ∈ W
                  · rcases p2 j hW with q | ⟨sz, els, els', q1, q2, q3, q4, q5⟩
                    · rw [q h] at hb; cases hb
                    · rw [q2 h] at hb; cases hb
                      refine .inr ⟨⟨by simpa [g1, hW] using q4, fun ad had => (H.blk j _ q1).2 ad had⟩, fun k hk => ?_⟩
                      exact hplace k (AnyS.cons.2 (.inr (q5 k (by simpa [g1, hW] using hk))))
                  · rw [p1 h j hW] at hb
                    exact .inl ⟨hb, by simp [g1, hW], rfl, rfl, fun k hk => ⟨hkeep j b k hW hb hk, (H.own j b k hb hk).1⟩⟩
                · intro i j b b' k hi hj hNi hNj
                  rcases hN1 i b k hi hNi with ⟨a1, a2, a3⟩ | ⟨a1, a2, a3⟩ <;> rcases hN1 j b' k hj hNj with ⟨c1, c2, c3⟩ | ⟨c1, c2, c3⟩
                  · exact p3 i j k a1 c1 (by rw [← hat i a1 h, hi]; simp) (by rw [← hat j c1 h, hj]; simp) a2 c2
                  · exact absurd c2 (hfar k j b' (AnyS.cons.2 (.inr a3)) c1 c3)
                  · exact absurd a2 (hfar k i b (AnyS.cons.2 (.inr c3)) a1 a3)
                  · exact H.disj i j b b' k a3 c3 a2 c2
                · rintro id (hid | hid | hid)
                  · by_cases hW : id ∈ W
                    · exact H.used id (.inl (hWl id hW))
                    · rw [p1 h id hW] at hid; exact H.used id (.inl hid)
                  · exact H.used id (.inr hid)
                  · exact H.used id (.inl (hWl id hid.1))
                · rintro id (hid | hid)
                  · have h0 := H.dead id hid
                    have hW : id ∉ W := fun hW => hWl id hW h0
                    rw [p1 h id hW]; exact h0
                  · exact hid.2
              obtain ⟨g2, tk, hvr⟩ := adT_ok H1 how hU (fun j b k hb hN hNR => by
                rcases hN1 j b k hb hN with ⟨a1, a2, a3⟩ | ⟨a1, a2, a3⟩
                · exact hdis.head k hNR a3
                · exact hfar k j b (AnyS.cons.2 (.inl hNR)) a1 a3 a2) (fun k hk => hplace k (AnyS.cons.2 (.inl hk)))
              rw [updsH_append]
              exact ⟨cv, g2, rfl, tk.ok, tr1.trans tk.tr, hvr⟩
      · cases hv

end
end Go.VM
