/- Writing into rows, and what the heap says behind it. -/
import Derived.Test.YtknagbmhmjcnkaaVmOps3
set_option linter.unusedVariables false
set_option linter.unusedSimpArgs false
namespace Go.VM
open Go

/-- One block alone may have turned. -/
structure Only (w w' : World) (b : Nat) : Prop where
  os : w'.os = w.os
  tape : w'.tape = w.tape
  output : w'.output = w.output
  size : w'.heap.size = w.heap.size
  block : ∀ k, k ≠ b → w'.heap[k]? = w.heap[k]?

theorem Only.refl (w : World) (b : Nat) : Only w w b := ⟨rfl, rfl, rfl, rfl, fun _ _ => rfl⟩
theorem Only.trans {w w' w'' : World} {b : Nat} (x : Only w w' b) (y : Only w' w'' b) : Only w w'' b :=
  ⟨y.os.trans x.os, y.tape.trans x.tape, y.output.trans x.output, y.size.trans x.size, fun k hk => (y.block k hk).trans (x.block k hk)⟩

section
variable {P : Program} {w0 w : World} {O S : Nat → Prop} {g : G} {h : Heap} {U : Nat → Prop}

theorem setCell_row {b o : Nat} {cur : Array Value} {e : TypeId} {fr : Nat × Nat} {v : Value} (hb : w.heap[b]? = some (.cells cur e fr)) :
    (w.setCell ⟨b, o, none⟩ v).heap[b]? = some (.cells (cur.setIfInBounds o v) e fr) ∧ Only w (w.setCell ⟨b, o, none⟩ v) b := by
  refine ⟨?_, rfl, rfl, rfl, by simp, fun k hk => ?_⟩
  · show (w.heap.modify b _)[b]? = _
    rw [Array.getElem?_modify, if_pos rfl, hb]
    simp
  · show (w.heap.modify b _)[k]? = _
    rw [Array.getElem?_modify, if_neg (Ne.symm hk)]

theorem run_storeCells_row (P : Program) {b off : Nat} {e : TypeId} {fr : Nat × Nat} : ∀ (vs : List Value) (i : Nat) (w : World) (cur : Array Value), w.heap[b]? = some (.cells cur e fr) → NoFr cur.size fr →
    (∀ u ∈ vs, u.oneCell' = true) → off + i + vs.length ≤ cur.size →
    ∃ w' cur', (storeCells ⟨b, off, none⟩ vs i).run P w = .ok () w' ∧ w'.heap[b]? = some (.cells cur' e fr) ∧ cur'.size = cur.size ∧
      (∀ o, cur'[o]? = if off + i ≤ o ∧ o < off + i + vs.length then vs[o - (off + i)]? else cur[o]?) ∧ Only w w' b
  | [], i, w, cur, hb, _, _, _ => by
    refine ⟨w, cur, by simp [storeCells], hb, rfl, fun o => ?_, .refl _ _⟩
    rw [if_neg]
    simp
  | v :: vs, i, w, cur, hb, hfr, h1, hfit => by
    simp only [List.length_cons] at hfit
    have hlt : off + i < cur.size := by omega
    have hcell : w.cell? ⟨b, off + i, none⟩ = some cur[off + i] := by rw [cell_of_row hb]; exact Array.getElem?_eq_getElem hlt
    have hfz := frozen_of_row hb hfr hlt
    obtain ⟨hb', ho⟩ := setCell_row (o := off + i) (v := v) hb
    obtain ⟨w', cur', hrun, hb'', hsz, hc, ho'⟩ := run_storeCells_row P (off := off) vs (i + 1) _ _ hb' (by simpa using hfr) (fun u hu => h1 u (List.mem_cons_of_mem _ hu)) (by simp; omega)
    refine ⟨w', cur', ?_, hb'', by simpa using hsz, fun o => ?_, ho.trans ho'⟩
    · simp only [storeCells, Sem.run_bind, add_mk]
      rw [run_store P w _ v .plain (h1 v (List.mem_cons_self ..)), hcell]
      simp [hfz, hrun]
    · rw [hc o, Array.getElem?_setIfInBounds]
      by_cases h3 : o = off + i
      · subst h3
        rw [if_neg (by omega), if_pos rfl, if_pos hlt, if_pos (by simp only [List.length_cons]; omega), Nat.sub_self]
        rfl
      · by_cases h4 : off + (i + 1) ≤ o ∧ o < off + (i + 1) + vs.length
        · rw [if_pos h4, if_pos (by simp only [List.length_cons]; omega)]
          have : o - (off + i) = (o - (off + (i + 1))) + 1 := by omega
          rw [this]; simp
        · rw [if_neg h4, if_neg (fun e => h3 e.symm), if_neg (by simp only [List.length_cons]; omega)]

theorem Fr.only {w' : World} {b : Nat} (f : Fr w0 w O) (x : Only w w' b) (hb : w0.heap.size ≤ b ∨ O b) : Fr w0 w' O :=
  ⟨x.os.trans f.os, x.tape.trans f.tape, x.output.trans f.output, by rw [x.size]; exact f.size, fun k hk hn => by
    have : k ≠ b := fun e => by subst e; rcases hb with h1 | h1; omega; exact hn h1
    exact (x.block k this).trans (f.block k hk hn)⟩

theorem updsH_gone {h : Heap} : ∀ (R : List Nat) (us : List (Nat × Option Blk)), updsH h (gone R ++ us) = updsH (fun j => if j ∈ R then none else h j) us
  | [], us => by simp [gone]
  | r :: R, us => by
    have ih := updsH_gone (h := updH h r none) R us
    simp only [gone, List.map_cons, List.cons_append, updsH] at ih ⊢
    rw [ih]
    congr 1
    funext j
    by_cases hj : j ∈ R
    · simp [hj]
    · by_cases e : j = r <;> simp [hj, updH, e]

/-- An array is put in the place of others, or laid anew. -/
theorem HOk.replace {w' : World} (H : HOk w0 O w S g h U) {R : List Nat} {m sz : Nat} {els : List V} {base : Option Addr} {cap : Nat} {N : Nat → Prop}
    (hm : m ∉ R) (hnew : (¬ U m) ∨ ∃ els0, h m = some ⟨.arr, sz, els0⟩ ∧ els0.length = els.length ∧ base = g.base m ∧ cap = g.cap m)
    (how : OW w' (.lst sz els) (.slice base els.length cap) N) (hsp : ∀ ad, base = some ad → ad.spot = none)
    (hN : ∀ k, N k → w.heap.size ≤ k ∨ ∃ r, (r ∈ R ∨ r = m) ∧ h r ≠ none ∧ g.N r k)
    (hw : ∀ k, k < w.heap.size → (∀ r, (r ∈ R ∨ r = m) → h r ≠ none → ¬ g.N r k) → w'.heap[k]? = w.heap[k]?)
    (hos : w'.os = w.os) (htape : w'.tape = w.tape) (hout : w'.output = w.output) (hsize : w.heap.size ≤ w'.heap.size) :
    ∃ g', HOk w0 O w' S g' (updsH h (gone R ++ [(m, some ⟨.arr, sz, els⟩)])) (fun k => U k ∨ k = m) ∧ Tr w S g h w' S g' (updsH h (gone R ++ [(m, some ⟨.arr, sz, els⟩)])) ∧
      VR w' S g' (updsH h (gone R ++ [(m, some ⟨.arr, sz, els⟩)])) (.own m) (.slice base els.length cap) := by
  let g' : G := { base := fun k => if k = m then base else g.base k, cap := fun k => if k = m then cap else g.cap k, N := fun k => if k = m then N else g.N k, dead := fun k => g.dead k ∨ (k ∈ R ∧ h k ≠ none) }
  have eh : updsH h (gone R ++ [(m, some ⟨.arr, sz, els⟩)]) = fun j => if j = m then some ⟨.arr, sz, els⟩ else if j ∈ R then none else h j := by
    rw [updsH_gone]; rfl
  rw [eh]
  have hSw : ∀ k, S k → w'.heap[k]? = w.heap[k]? := fun k hk => hw k (H.slt k hk) fun r _ hr hNr => by
    obtain ⟨b, hb⟩ := Option.ne_none_iff_exists'.1 hr
    exact (H.own r b k hb hNr).1 hk
  have tr : Tr w S g h w' S g' (fun j => if j = m then some ⟨.arr, sz, els⟩ else if j ∈ R then none else h j) := by
    refine Tr.of hSw (fun _ h => h) (fun _ h => .inl h) fun id b hb => ?_
    by_cases e : id = m
    · subst e
      rcases hnew with hU | ⟨els0, h0, hl, hb0, hc0⟩
      · exact absurd (H.used id (.inl (by simp [hb]))) hU
      · rw [h0] at hb; cases hb
        exact .inr ⟨⟨.arr, sz, els⟩, by simp, rfl, rfl, hl.symm, by simp [g', hb0], by simp [g', hc0]⟩
    · by_cases hR : id ∈ R
      · exact .inl (.inr ⟨hR, by simp [hb]⟩)
      · exact .inr ⟨b, by simp [e, hR, hb], rfl, rfl, rfl, by simp [g', e], by simp [g', e]⟩
  refine ⟨g', H.change tr ?_ ?_ ?_ ?_ ?_ ?_, tr, ?_⟩
  · refine ⟨hos.trans H.fr.os, htape.trans H.fr.tape, hout.trans H.fr.output, Nat.le_trans H.fr.size hsize, fun k hk hn => ?_⟩
    have hk' := Nat.lt_of_lt_of_le hk H.fr.size
    refine (hw k hk' fun r _ hr hNr => ?_).trans (H.fr.block k hk hn)
    obtain ⟨b, hb⟩ := Option.ne_none_iff_exists'.1 hr
    rcases (H.own r b k hb hNr).2 with h1 | h1
    · omega
    · exact hn h1
  · exact fun k hk => Nat.lt_of_lt_of_le (H.slt k hk) hsize
  · intro id b hb
    by_cases e : id = m
    · subst e
      simp at hb; subst hb
      refine .inr ⟨⟨by simpa [g'] using how, by simpa [g'] using hsp⟩, fun k hk => ?_⟩
      have hk' : N k := by simpa [g'] using hk
      rcases hN k hk' with h1 | ⟨r, hr, hh, hNr⟩
      · exact ⟨fun hS => by have := H.slt k hS; omega, .inl (Nat.le_trans H.fr.size h1)⟩
      · obtain ⟨b, hb⟩ := Option.ne_none_iff_exists'.1 hh
        exact H.own r b k hb hNr
    · by_cases hR : id ∈ R
      · simp [e, hR] at hb
      · simp only [e, hR, if_false] at hb
        refine .inl ⟨hb, by simp [g', e], by simp [g', e], by simp [g', e], fun k hk => ⟨hw k (H.lt id b k hb hk) fun r hr hh hNr => ?_, (H.own id b k hb hk).1⟩⟩
        obtain ⟨b', hb'⟩ := Option.ne_none_iff_exists'.1 hh
        have := H.disj id r b b' k hb hb' hk hNr
        subst this
        rcases hr with h1 | h1
        · exact hR h1
        · exact e h1
  · have key : ∀ j b k, j ≠ m → (if j = m then some (⟨.arr, sz, els⟩ : Blk) else if j ∈ R then none else h j) = some b → g'.N j k → ¬ N k := by
      intro j b k hj hb hNj hNk
      by_cases hR : j ∈ R
      · simp [hj, hR] at hb
      · simp only [hj, hR, if_false] at hb
        have hNj' : g.N j k := by simpa [g', hj] using hNj
        rcases hN k hNk with h1 | ⟨r, hr, hh, hNr⟩
        · have := H.lt j b k hb hNj'; omega
        · obtain ⟨b', hb'⟩ := Option.ne_none_iff_exists'.1 hh
          have := H.disj j r b b' k hb hb' hNj' hNr
          subst this
          rcases hr with h1 | h1
          · exact hR h1
          · exact hj h1
    intro i j b b' k hi hj hNi hNj
    by_cases ei : i = m <;> by_cases ej : j = m
    · rw [ei, ej]
    · exact absurd (by simpa [g', ei] using hNi) (key j b' k ej hj hNj)
    · exact absurd (by simpa [g', ej] using hNj) (key i b k ei hi hNi)
    · by_cases hRi : i ∈ R
      · simp [ei, hRi] at hi
      · by_cases hRj : j ∈ R
        · simp [ej, hRj] at hj
        · simp only [ei, ej, hRi, hRj, if_false] at hi hj
          exact H.disj i j b b' k hi hj (by simpa [g', ei] using hNi) (by simpa [g', ej] using hNj)
  · rintro id (hid | hid | hid)
    · by_cases e : id = m
      · exact .inr e
      · by_cases hR : id ∈ R
        · simp [e, hR] at hid
        · simp only [e, hR, if_false] at hid
          exact .inl (H.used id (.inl hid))
    · exact .inl (H.used id (.inr hid))
    · exact .inl (H.used id (.inl hid.2))
  · rintro id (hid | hid)
    · have h0 := H.dead id hid
      by_cases e : id = m
      · subst e
        rcases hnew with hU | ⟨els0, h1, _⟩
        · exact absurd (H.used id (.inr hid)) hU
        · rw [h0] at h1; cases h1
      · simp [e, h0]
    · have e : id ≠ m := fun e => hm (e ▸ hid.1)
      simp [e, hid.1]
  · have := VR.own (w := w') (S := S) (g := g') (h := fun j => if j = m then some ⟨.arr, sz, els⟩ else if j ∈ R then none else h j) m sz .arr els (by simp) rfl
    simpa [g'] using this

/-- A box is written. -/
theorem HOk.setBox {w' : World} (H : HOk w0 O w S g h U) {id sz : Nat} {old x : V} {ad : Addr} {cur' : Array Value} {e : TypeId} {fr : Nat × Nat} (hb : h id = some ⟨.box, sz, [old]⟩) (hbase : g.base id = some ad)
    (hx : boxableA x = true) (hsz : sz = x.cells.length) (ho : Only w w' ad.block) (hw : w'.heap[ad.block]? = some (.cells cur' e fr)) (hfr : NoFr cur'.size fr) (hcs : cur'.size = x.cells.length)
    (hr : ∀ (j : Nat) y c, x.cells[j]? = some y → cur'[j]? = some c → VR w S g h y c) :
    HOk w0 O w' S g (updH h id (some ⟨.box, sz, [x]⟩)) U ∧ Tr w S g h w' S g (updH h id (some ⟨.box, sz, [x]⟩)) := by
  have hB := H.blk id _ hb
  obtain ⟨ad', cur, e', fr', v, h1, h2, h3, h4, h5, h6, h7, h8, h9, h10, h11⟩ := hB
  rw [hbase] at h1; cases h1
  have hown := H.own id _ ad.block hb ((h11 _).2 rfl)
  have tr : Tr w S g h w' S g (updH h id (some ⟨.box, sz, [x]⟩)) := by
    refine Tr.of (fun k hk => ho.block k fun e => ?_) (fun _ h => h) (fun _ h => h) fun j b hj => .inr ?_
    · subst e; exact hown.1 hk
    · by_cases ej : j = id
      · subst ej
        rw [hb] at hj; cases hj
        exact ⟨⟨.box, sz, [x]⟩, by simp [updH], rfl, rfl, rfl, rfl, rfl⟩
      · exact ⟨b, by simp [updH, ej, hj], rfl, rfl, rfl, rfl, rfl⟩
  refine ⟨H.change tr (H.fr.only ho hown.2) (fun k hk => by rw [ho.size]; exact H.slt k hk) ?_ ?_ ?_ ?_, tr⟩
  · intro j b hj
    by_cases ej : j = id
    · subst ej
      simp [updH] at hj; subst hj
      refine .inr ⟨⟨ad, cur', e, fr, x, hbase, h2, h3, hw, hfr, rfl, hsz, hcs, hx, fun q y c hy hc => tr _ _ (hr q y c hy hc), h11⟩, fun k hk => H.own j _ k hb hk⟩
    · simp only [updH, ej, if_false] at hj
      refine .inl ⟨hj, rfl, rfl, rfl, fun k hk => ⟨ho.block k fun e => ?_, (H.own j b k hj hk).1⟩⟩
      subst e
      exact ej (H.disj j id b _ _ hj hb hk ((h11 _).2 rfl))
  · intro i j b b' k hi hj hNi hNj
    have f : ∀ i b, updH h id (some ⟨.box, sz, [x]⟩) i = some b → ∃ b0, h i = some b0 := by
      intro i b hi
      by_cases ei : i = id
      · subst ei; exact ⟨_, hb⟩
      · simp only [updH, ei, if_false] at hi; exact ⟨_, hi⟩
    obtain ⟨b0, hb0⟩ := f i b hi
    obtain ⟨b1, hb1⟩ := f j b' hj
    exact H.disj i j b0 b1 k hb0 hb1 hNi hNj
  · rintro j (hj | hj)
    · by_cases ej : j = id
      · subst ej; exact H.used j (.inl (by simp [hb]))
      · simp only [updH, ej, if_false] at hj; exact H.used j (.inl hj)
    · exact H.used j (.inr hj)
  · intro j hj
    have ej : j ≠ id := fun e => H.notDead hb (e ▸ hj)
    simp only [updH, ej, if_false]
    exact H.dead j hj

end
end Go.VM
