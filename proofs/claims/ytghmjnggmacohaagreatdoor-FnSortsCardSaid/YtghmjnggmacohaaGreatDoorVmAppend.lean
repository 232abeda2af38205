import Derived.Test.YtghmjnggmacohaaGreatDoorVmOps3
import Derived.Laws.Append
import Derived.Laws.AppendOwn
/- Writing into rows, and what the heap says behind it. -/
set_option linter.unusedVariables false
set_option linter.unusedSimpArgs false
namespace Go.VM
open Go

/-- One block alone may have turned. -/
structure Only (w w' : World) (b : Nat) : Prop where
  os : w'.os = w.os
  tape : w'.tape = w.tape
  output : w'.output = w.output
  size : w'.heap.size = w.heap.size
  block : ∀ k, k ≠ b → w'.heap[k]? = w.heap[k]?

theorem Only.refl (w : World) (b : Nat) : Only w w b := ⟨rfl, rfl, rfl, rfl, fun _ _ => rfl⟩
theorem Only.trans {w w' w'' : World} {b : Nat} (x : Only w w' b) (y : Only w' w'' b) : Only w w'' b :=
  ⟨y.os.trans x.os, y.tape.trans x.tape, y.output.trans x.output, y.size.trans x.size, fun k hk => (y.block k hk).trans (x.block k hk)⟩

section
variable {P : Program} {w0 w : World} {O S : Nat → Prop} {g : G} {h : Heap} {U : Nat → Prop}

theorem setCell_row {b o : Nat} {cur : Array Value} {e : TypeId} {fr : Nat × Nat} {v : Value} (hb : w.heap[b]? = some (.cells cur e fr)) :
    (w.setCell ⟨b, o, none⟩ v).heap[b]? = some (.cells (cur.setIfInBounds o v) e fr) ∧ Only w (w.setCell ⟨b, o, none⟩ v) b := by
  refine ⟨?_, rfl, rfl, rfl, by simp, fun k hk => ?_⟩
  · show (w.heap.modify b _)[b]? = _
    rw [Array.getElem?_modify, if_pos rfl, hb]
    simp
  · show (w.heap.modify b _)[k]? = _
    rw [Array.getElem?_modify, if_neg (Ne.symm hk)]

theorem run_storeCells_row (P : Program) {b off sz : Nat} {e : TypeId} {fr : Nat × Nat} : ∀ (vs : List Value) (i : Nat) (w : World) (cur : Array Value), w.heap[b]? = some (.cells cur e fr) → NoFr sz cur.size fr →
    (∀ u ∈ vs, u.oneCell' = true) → off + i + vs.length ≤ cur.size →
    ∃ w' cur', (storeCells ⟨b, off, none⟩ vs i).run P w = .ok () w' ∧ w'.heap[b]? = some (.cells cur' e fr) ∧ cur'.size = cur.size ∧
      (∀ o, cur'[o]? = if off + i ≤ o ∧ o < off + i + vs.length then vs[o - (off + i)]? else cur[o]?) ∧ Only w w' b
  | [], i, w, cur, hb, _, _, _ => by
    refine ⟨w, cur, by simp [storeCells], hb, rfl, fun o => ?_, .refl _ _⟩
    rw [if_neg]
    simp
  | v :: vs, i, w, cur, hb, hfr, h1, hfit => by
    simp only [List.length_cons] at hfit
    have hlt : off + i < cur.size := by omega
    have hcell : w.cell? ⟨b, off + i, none⟩ = some cur[off + i] := by rw [cell_of_row hb]; exact Array.getElem?_eq_getElem hlt
    have hfz := frozen_of_row hb hfr hlt
    obtain ⟨hb', ho⟩ := setCell_row (o := off + i) (v := v) hb
    obtain ⟨w', cur', hrun, hb'', hsz, hc, ho'⟩ := run_storeCells_row P (off := off) vs (i + 1) _ _ hb' (by simpa using hfr) (fun u hu => h1 u (List.mem_cons_of_mem _ hu)) (by simp; omega)
    refine ⟨w', cur', ?_, hb'', by simpa using hsz, fun o => ?_, ho.trans ho'⟩
    · simp only [storeCells, Sem.run_bind, add_mk]
      rw [run_store P w _ v .plain (h1 v (List.mem_cons_self ..)), hcell]
      simp [hfz, hrun]
    · rw [hc o, Array.getElem?_setIfInBounds]
      by_cases h3 : o = off + i
      · subst h3
        rw [if_neg (by omega), if_pos rfl, if_pos hlt, if_pos (by simp only [List.length_cons]; omega), Nat.sub_self]
        rfl
      · by_cases h4 : off + (i + 1) ≤ o ∧ o < off + (i + 1) + vs.length
        · rw [if_pos h4, if_pos (by simp only [List.length_cons]; omega)]
          have : o - (off + i) = (o - (off + (i + 1))) + 1 := by omega
          rw [this]; simp
        · rw [if_neg h4, if_neg (fun e => h3 e.symm), if_neg (by simp only [List.length_cons]; omega)]

theorem Fr.only {w' : World} {b : Nat} (f : Fr w0 w O) (x : Only w w' b) (hb : w0.heap.size ≤ b ∨ O b) : Fr w0 w' O :=
  ⟨x.os.trans f.os, x.tape.trans f.tape, x.output.trans f.output, by rw [x.size]; exact f.size, fun k hk hn => by
    have : k ≠ b := fun e => by subst e; rcases hb with h1 | h1; omega; exact hn h1
    exact (x.block k this).trans (f.block k hk hn)⟩

theorem updsH_gone {h : Heap} : ∀ (R : List Nat) (us : List (Nat × Option Blk)), updsH h (gone R ++ us) = updsH (fun j => if j ∈ R then none else h j) us
  | [], us => by simp [gone]
  | r :: R, us => by
    have ih := updsH_gone (h := updH h r none) R us
    simp only [gone, List.map_cons, List.cons_append, updsH] at ih ⊢
    rw [ih]
    congr 1
    funext j
    by_cases hj : j ∈ R
    · simp [hj]
    · by_cases e : j = r <;> simp [hj, updH, e]

/-- An array is put in the place of others, or laid anew. -/
theorem HOk.replace {w' : World} (H : HOk w0 O w S g h U) {R : List Nat} {m sz : Nat} {els : List V} {base : Option Addr} {cap : Nat} {N : Nat → Prop}
    (hm : m ∉ R) (hnew : (¬ U m) ∨ ∃ els0, h m = some ⟨.arr, sz, els0⟩ ∧ els0.length = els.length ∧ base = g.base m ∧ cap = g.cap m)
    (how : OW w' (.lst sz els) (.slice base els.length cap) N) (hsp : ∀ ad, base = some ad → ad.spot = none)
    (hN : ∀ k, N k → w.heap.size ≤ k ∨ ∃ r, (r ∈ R ∨ r = m) ∧ h r ≠ none ∧ g.N r k)
    (hw : ∀ k, k < w.heap.size → (∀ r, (r ∈ R ∨ r = m) → h r ≠ none → ¬ g.N r k) → w'.heap[k]? = w.heap[k]?)
    (hos : w'.os = w.os) (htape : w'.tape = w.tape) (hout : w'.output = w.output) (hsize : w.heap.size ≤ w'.heap.size) :
    ∃ g', HOk w0 O w' S g' (updsH h (gone R ++ [(m, some ⟨.arr, sz, els⟩)])) (fun k => U k ∨ k = m) ∧ Tr w S g h w' S g' (updsH h (gone R ++ [(m, some ⟨.arr, sz, els⟩)])) ∧
      VR w' S g' (updsH h (gone R ++ [(m, some ⟨.arr, sz, els⟩)])) (.own m) (.slice base els.length cap) := by
  let g' : G := { base := fun k => if k = m then base else g.base k, cap := fun k => if k = m then cap else g.cap k, N := fun k => if k = m then N else g.N k, dead := fun k => g.dead k ∨ (k ∈ R ∧ h k ≠ none) }
  have eh : updsH h (gone R ++ [(m, some ⟨.arr, sz, els⟩)]) = fun j => if j = m then some ⟨.arr, sz, els⟩ else if j ∈ R then none else h j := by
    rw [updsH_gone]; rfl
  rw [eh]
  have hSw : ∀ k, S k → w'.heap[k]? = w.heap[k]? := fun k hk => hw k (H.slt k hk) fun r _ hr hNr => by
    obtain ⟨b, hb⟩ := Option.ne_none_iff_exists'.1 hr
    exact (H.own r b k hb hNr).1 hk
  have tr : Tr w S g h w' S g' (fun j => if j = m then some ⟨.arr, sz, els⟩ else if j ∈ R then none else h j) := by
    refine Tr.of hSw (fun _ h => h) (fun _ h => .inl h) fun id b hb => ?_
    by_cases e : id = m
    · subst e
      rcases hnew with hU | ⟨els0, h0, hl, hb0, hc0⟩
      · exact absurd (H.used id (.inl (by simp [hb]))) hU
      · rw [h0] at hb; cases hb
        exact .inr ⟨⟨.arr, sz, els⟩, by simp, rfl, rfl, hl.symm, by simp [g', hb0], by simp [g', hc0]⟩
    · by_cases hR : id ∈ R
      · exact .inl (.inr ⟨hR, by simp [hb]⟩)
      · exact .inr ⟨b, by simp [e, hR, hb], rfl, rfl, rfl, by simp [g', e], by simp [g', e]⟩
  refine ⟨g', H.change tr ?_ ?_ ?_ ?_ ?_ ?_, tr, ?_⟩
  · refine ⟨hos.trans H.fr.os, htape.trans H.fr.tape, hout.trans H.fr.output, Nat.le_trans H.fr.size hsize, fun k hk hn => ?_⟩
    have hk' := Nat.lt_of_lt_of_le hk H.fr.size
    refine (hw k hk' fun r _ hr hNr => ?_).trans (H.fr.block k hk hn)
    obtain ⟨b, hb⟩ := Option.ne_none_iff_exists'.1 hr
    rcases (H.own r b k hb hNr).2 with h1 | h1
    · omega
    · exact hn h1
  · exact fun k hk => Nat.lt_of_lt_of_le (H.slt k hk) hsize
  · intro id b hb
    by_cases e : id = m
    · subst e
      simp at hb; subst hb
      refine .inr ⟨⟨by simpa [g'] using how, by simpa [g'] using hsp⟩, fun k hk => ?_⟩
      have hk' : N k := by simpa [g'] using hk
      rcases hN k hk' with h1 | ⟨r, hr, hh, hNr⟩
      · exact ⟨fun hS => by have := H.slt k hS; omega, .inl (Nat.le_trans H.fr.size h1)⟩
      · obtain ⟨b, hb⟩ := Option.ne_none_iff_exists'.1 hh
        exact H.own r b k hb hNr
    · by_cases hR : id ∈ R
      · simp [e, hR] at hb
      · simp only [e, hR, if_false] at hb
        refine .inl ⟨hb, by simp [g', e], by simp [g', e], by simp [g', e], fun k hk => ⟨hw k (H.lt id b k hb hk) fun r hr hh hNr => ?_, (H.own id b k hb hk).1⟩⟩
        obtain ⟨b', hb'⟩ := Option.ne_none_iff_exists'.1 hh
        have := H.disj id r b b' k hb hb' hk hNr
        subst this
        rcases hr with h1 | h1
        · exact hR h1
        · exact e h1
  · have key : ∀ j b k, j ≠ m → (if j = m then some (⟨.arr, sz, els⟩ : Blk) else if j ∈ R then none else h j) = some b → g'.N j k → ¬ N k := by
      intro j b k hj hb hNj hNk
      by_cases hR : j ∈ R
      · simp [hj, hR] at hb
      · simp only [hj, hR, if_false] at hb
        have hNj' : g.N j k := by simpa [g', hj] using hNj
        rcases hN k hNk with h1 | ⟨r, hr, hh, hNr⟩
        · have := H.lt j b k hb hNj'; omega
        · obtain ⟨b', hb'⟩ := Option.ne_none_iff_exists'.1 hh
          have := H.disj j r b b' k hb hb' hNj' hNr
          subst this
          rcases hr with h1 | h1
          · exact hR h1
          · exact hj h1
    intro i j b b' k hi hj hNi hNj
    by_cases ei : i = m <;> by_cases ej : j = m
    · rw [ei, ej]
    · exact absurd (by simpa [g', ei] using hNi) (key j b' k ej hj hNj)
    · exact absurd (by simpa [g', ej] using hNj) (key i b k ei hi hNi)
    · by_cases hRi : i ∈ R
      · simp [ei, hRi] at hi
      · by_cases hRj : j ∈ R
        · simp [ej, hRj] at hj
        · simp only [ei, ej, hRi, hRj, if_false] at hi hj
          exact H.disj i j b b' k hi hj (by simpa [g', ei] using hNi) (by simpa [g', ej] using hNj)
  · rintro id (hid | hid | hid)
    · by_cases e : id = m
      · exact .inr e
      · by_cases hR : id ∈ R
        · simp [e, hR] at hid
        · simp only [e, hR, if_false] at hid
          exact .inl (H.used id (.inl hid))
    · exact .inl (H.used id (.inr hid))
    · exact .inl (H.used id (.inl hid.2))
  · rintro id (hid | hid)
    · have h0 := H.dead id hid
      by_cases e : id = m
      · subst e
        rcases hnew with hU | ⟨els0, h1, _⟩
        · exact absurd (H.used id (.inr hid)) hU
        · rw [h0] at h1; cases h1
      · simp [e, h0]
    · have e : id ≠ m := fun e => hm (e ▸ hid.1)
      simp [e, hid.1]
  · have := VR.own (w := w') (S := S) (g := g') (h := fun j => if j = m then some ⟨.arr, sz, els⟩ else if j ∈ R then none else h j) m sz .arr els (by simp) rfl
    simpa [g'] using this

/-- A box is written. -/
theorem HOk.setBox {w' : World} (H : HOk w0 O w S g h U) {id sz : Nat} {old x : V} {ad : Addr} {cur' : Array Value} {e : TypeId} {fr : Nat × Nat} (hb : h id = some ⟨.box, sz, [old]⟩) (hbase : g.base id = some ad)
    (hx : boxableA x = true) (hsz : sz = x.cells.length) (ho : Only w w' ad.block) (hw : w'.heap[ad.block]? = some (.cells cur' e fr)) (hfr : NoFr 1 cur'.size fr) (hcs : cur'.size = x.cells.length)
    (hr : ∀ (j : Nat) y c, x.cells[j]? = some y → cur'[j]? = some c → VR w S g h y c) :
    HOk w0 O w' S g (updH h id (some ⟨.box, sz, [x]⟩)) U ∧ Tr w S g h w' S g (updH h id (some ⟨.box, sz, [x]⟩)) := by
  have hB := H.blk id _ hb
  obtain ⟨ad', cur, e', fr', v, h1, h2, h3, h4, h5, h6, h7, h8, h9, h10, h11⟩ := hB
  rw [hbase] at h1; cases h1
  have hown := H.own id _ ad.block hb ((h11 _).2 rfl)
  have tr : Tr w S g h w' S g (updH h id (some ⟨.box, sz, [x]⟩)) := by
    refine Tr.of (fun k hk => ho.block k fun e => ?_) (fun _ h => h) (fun _ h => h) fun j b hj => .inr ?_
    · subst e; exact hown.1 hk
    · by_cases ej : j = id
      · subst ej
        rw [hb] at hj; cases hj
        exact ⟨⟨.box, sz, [x]⟩, by simp [updH], rfl, rfl, rfl, rfl, rfl⟩
      · exact ⟨b, by simp [updH, ej, hj], rfl, rfl, rfl, rfl, rfl⟩
  refine ⟨H.change tr (H.fr.only ho hown.2) (fun k hk => by rw [ho.size]; exact H.slt k hk) ?_ ?_ ?_ ?_, tr⟩
  · intro j b hj
    by_cases ej : j = id
    · subst ej
      simp [updH] at hj; subst hj
      refine .inr ⟨⟨ad, cur', e, fr, x, hbase, h2, h3, hw, hfr, rfl, hsz, hcs, hx, fun q y c hy hc => tr _ _ (hr q y c hy hc), h11⟩, fun k hk => H.own j _ k hb hk⟩
    · simp only [updH, ej, if_false] at hj
      refine .inl ⟨hj, rfl, rfl, rfl, fun k hk => ⟨ho.block k fun e => ?_, (H.own j b k hj hk).1⟩⟩
      subst e
      exact ej (H.disj j id b _ _ hj hb hk ((h11 _).2 rfl))
  · intro i j b b' k hi hj hNi hNj
    have f : ∀ i b, updH h id (some ⟨.box, sz, [x]⟩) i = some b → ∃ b0, h i = some b0 := by
      intro i b hi
      by_cases ei : i = id
      · subst ei; exact ⟨_, hb⟩
      · simp only [updH, ei, if_false] at hi; exact ⟨_, hi⟩
    obtain ⟨b0, hb0⟩ := f i b hi
    obtain ⟨b1, hb1⟩ := f j b' hj
    exact H.disj i j b0 b1 k hb0 hb1 hNi hNj
  · rintro j (hj | hj)
    · by_cases ej : j = id
      · subst ej; exact H.used j (.inl (by simp [hb]))
      · simp only [updH, ej, if_false] at hj; exact H.used j (.inl hj)
    · exact H.used j (.inr hj)
  · intro j hj
    have ej : j ≠ id := fun e => H.notDead hb (e ▸ hj)
    simp only [updH, ej, if_false]
    exact H.dead j hj

end
end Go.VM

/- append: the row that is handed on, in its place or laid anew. -/
set_option linter.unusedVariables false
set_option linter.unusedSimpArgs false
namespace Go.VM
open Go

section
variable {P : Program} {w0 w : World} {O S : Nat → Prop} {g : G} {h : Heap} {U : Nat → Prop} {a : Act} {e : Env} {n : Nat} {o : Oper}

theorem elsOf_flat (H : HOk w0 O w S g h U) {id sz : Nat} {els : List V} (hb : h id = some ⟨.arr, sz, els⟩) : ∀ x ∈ els, x.cells.length = sz := by
  intro x hx
  obtain ⟨i, hi, rfl⟩ := List.mem_iff_getElem.1 hx
  have hB := H.blk id _ hb
  obtain ⟨ad, hbase⟩ := hB.base_arr (List.getElem?_eq_getElem hi)
  have hO := hB.1
  rw [hbase] at hO
  exact hO.row.2.2.2.2.1 _ (List.getElem_mem hi)

/-- What a slice value shows, cell by cell. -/
theorem src_cells (H : HOk w0 O w S g h U) {v : V} {c : Value} {sz : Nat} {l : List V} (hv : elsOf h v = some (sz, l)) (x : VR w S g h v c) :
    ∃ (ba : Option Addr) (cp : Nat) (f : Nat → Nat → Value), c = .slice ba l.length cp ∧ (∀ x ∈ l, x.cells.length = sz) ∧
      (∀ i j, i < l.length → j < sz → ∃ ad, ba = some ad ∧ ad.spot = none ∧ w.cell? ⟨ad.block, ad.off + (i * sz + j), none⟩ = some (f i j)) ∧
      ∀ (i : Nat) x (j : Nat) y, l[i]? = some x → x.cells[j]? = some y → y.flatC = true → RD w S y (f i j) := by
  cases v with
  | lst sz' l' =>
    simp only [elsOf, Option.some.injEq, Prod.mk.injEq] at hv
    obtain ⟨rfl, rfl⟩ := hv
    have := x.inv_lst
    cases this with
    | lnil _ ba cp => exact ⟨ba, cp, fun _ _ => Go.undef, rfl, by simp, fun i j hi => by simp at hi, fun i x j y hx => by simp at hx⟩
    | lst _ _ ad cap f hsp hS hlen hsz hc hr => exact ⟨some ad, cap, f, rfl, hsz, fun i j hi hj => ⟨ad, rfl, hsp, hc i j hi hj⟩, fun i x j y hx hy _ => hr i x j y hx hy⟩
  | nils sz' =>
    simp only [elsOf, Option.some.injEq, Prod.mk.injEq] at hv
    obtain ⟨rfl, rfl⟩ := hv
    exact ⟨none, 0, fun _ _ => Go.undef, x.inv_nils, by simp, fun i j hi => by simp at hi, fun i x j y hx => by simp at hx⟩
  | own id =>
    simp only [elsOf] at hv
    split at hv
    · rename_i sz' els hb
      cases hv
      obtain ⟨_, e⟩ := x.inv_own hb (H.notDead hb)
      have hsz := elsOf_flat H hb
      refine ⟨_, _, fun i j => ((g.base id).bind fun ad => w.cell? ⟨ad.block, ad.off + (i * sz + j), none⟩).getD Go.undef, e, hsz, fun i j hi hj => ?_, fun i x j y hx hy hf => ?_⟩
      · obtain ⟨ad, hbase⟩ := (H.blk id _ hb).base_arr (List.getElem?_eq_getElem hi)
        have hj' : j < l[i].cells.length := by rw [hsz _ (List.getElem_mem hi)]; exact hj
        obtain ⟨hsp, c, hc, _⟩ := cellAt H hb (List.getElem?_eq_getElem hi) hbase (List.getElem?_eq_getElem hj')
        exact ⟨ad, hbase, hsp, by simp only [hbase, Option.bind_some]; simp only at hc; rw [hc]; rfl⟩
      · obtain ⟨ad, hbase⟩ := (H.blk id _ hb).base_arr hx
        obtain ⟨hsp, c, hc, hvr⟩ := cellAt H hb hx hbase hy
        have := hvr (.inr (.inl hf))
        simp only [hbase, Option.bind_some]
        simp only at hc
        rw [hc]
        cases this with
        | rd _ _ hr => exact hr
        | undef => simp [V.flatC] at hf
        | dead _ id hi => simp only [Option.getD_some]; cases y <;> simp [V.flatC, idsC] at hf hi
        | _ => simp [V.flatC] at hf
    · cases hv
  | win id lo len =>
    simp only [elsOf] at hv
    split at hv
    · rename_i sz' els hb
      split at hv
      · rename_i hle
        cases hv
        have hl : ((els.drop lo).take len).length = len := by simp; omega
        rw [hl]
        obtain ⟨_, e⟩ := x.inv_win hb (H.notDead hb)
        have hsz := elsOf_flat H hb
        have hget : ∀ i, i < len → ((els.drop lo).take len)[i]? = els[lo + i]? := fun i hi => by rw [List.getElem?_take, if_pos hi, List.getElem?_drop]
        rcases e with ⟨h0, _, a', e⟩ | ⟨ad, cp, hbase, hcp, hlc, e⟩
        · subst h0
          exact ⟨a', 0, fun _ _ => Go.undef, e, by simp, fun i j hi => by omega, fun i x j y hx => by simp at hx⟩
        · refine ⟨_, cp, fun i j => (w.cell? ⟨ad.block, ad.off + ((lo + i) * sz + j), none⟩).getD Go.undef, e, fun x hx => hsz x (List.mem_of_mem_drop (List.mem_of_mem_take hx)), fun i j hi hj => ?_, fun i x j y hx hy hf => ?_⟩
          · have hi' : lo + i < els.length := by omega
            have hj' : j < els[lo + i].cells.length := by rw [hsz _ (List.getElem_mem hi')]; exact hj
            obtain ⟨hsp, c, hc, _⟩ := cellAt H hb (List.getElem?_eq_getElem hi') hbase (List.getElem?_eq_getElem hj')
            refine ⟨_, rfl, rfl, ?_⟩
            simp only at hc
            show w.cell? ⟨ad.block, ad.off + lo * sz + (i * sz + j), none⟩ = some ((w.cell? _).getD Go.undef)
            simp only [hc, Option.getD_some]
            simpa [Nat.add_mul, Nat.add_assoc] using hc
          · have hi : i < len := by
              have := (List.getElem?_eq_some_iff.1 hx).1
              rw [hl] at this; exact this
            rw [hget i hi] at hx
            obtain ⟨hsp, c, hc, hvr⟩ := cellAt H hb hx hbase hy
            have := hvr (.inr (.inl hf))
            simp only at hc
            simp only [hc, Option.getD_some]
            cases this with
            | rd _ _ hr => exact hr
            | undef => simp [V.flatC] at hf
            | dead _ id hi => cases y <;> simp [V.flatC, idsC] at hf hi
            | _ => simp [V.flatC] at hf
      · cases hv
    · cases hv
  | _ => simp [elsOf] at hv

theorem run_firstCells {ba : Option Addr} {len cp m sz : Nat} {f : Nat → Nat → Value} (hsz : 0 < sz)
    (hc : ∀ i j, i < m → j < sz → ∃ ad, ba = some ad ∧ ad.spot = none ∧ w.cell? ⟨ad.block, ad.off + (i * sz + j), none⟩ = some (f i j)) :
    ∃ news : Array Value, (Builtin.firstCells sz m (.slice ba len cp)).run P w = .ok news w ∧ news.size = m * sz ∧ ∀ i j, i < m → j < sz → news[i * sz + j]? = some (f i j) := by
  have idx : ∀ i j, i < m → j < sz → i * sz + j < m * sz := fun i j hi hj => by
    have h1 : i * sz + sz ≤ m * sz := by rw [← Nat.succ_mul]; exact Nat.mul_le_mul_right _ hi
    omega
  cases m with
  | zero =>
    refine ⟨#[], ?_, by simp, fun i j hi => by omega⟩
    cases ba <;> simp [Builtin.firstCells, loadCells, loadCellsFrom]
  | succ m =>
    obtain ⟨ad, rfl, hsp, _⟩ := hc 0 0 (by omega) hsz
    have hF : ∀ q, q < (m + 1) * sz → w.cell? (ad.add q) = some (f (q / sz) (q % sz)) := by
      intro q hq
      have hi : q / sz < m + 1 := Nat.div_lt_of_lt_mul (by rw [Nat.mul_comm]; exact hq)
      obtain ⟨ad', he, _, h2⟩ := hc (q / sz) (q % sz) hi (Nat.mod_lt _ hsz)
      cases he
      rw [add_none hsp, ← h2]
      have : q / sz * sz + q % sz = q := by rw [Nat.mul_comm]; exact Nat.div_add_mod q sz
      rw [this]
    refine ⟨_, by simp only [Builtin.firstCells]; exact run_loadCells w ad ((m + 1) * sz) _ hF, by simp, fun i j hi hj => ?_⟩
    have hq := idx i j hi hj
    simp only [List.getElem?_toArray, List.getElem?_map, List.getElem?_range, hq, if_true, Option.map_some]
    have e1 : (i * sz + j) / sz = i := by
      rw [Nat.mul_comm, Nat.mul_add_div hsz, Nat.div_eq_of_lt hj]; rfl
    have e2 : (i * sz + j) % sz = j := by
      rw [Nat.mul_comm, Nat.mul_add_mod, Nat.mod_eq_of_lt hj]
    simp [hq, e1, e2]

/-- The row that an append goes on with. -/
def DstRow (w : World) (g : G) (h : Heap) (s : V) (c : Value) (sz : Nat) (a : List V) : Prop :=
  ∃ (id : Nat) (ad : Addr) (cp : Nat) (cur : Array Value) (e : TypeId) (fr : Nat × Nat) (Ng : Nat → Nat → Nat → Prop), id ∈ idsC s ∧ h id ≠ none ∧ ad.spot = none ∧ c = .slice (some ad) a.length cp ∧ a.length ≤ cp ∧ cp ≤ maxLen ∧
    w.heap[ad.block]? = some (.cells cur e fr) ∧ NoFr sz cur.size fr ∧ ad.off + cp * sz ≤ cur.size ∧ (∀ x ∈ a, x.cells.length = sz) ∧ (∀ x ∈ a, ∀ y ∈ x.cells, okCell y = true) ∧
    (∀ (i : Nat) x (j : Nat) y, a[i]? = some x → x.cells[j]? = some y → ∃ c, cur[ad.off + (i * sz + j)]? = some c ∧ OW w y c (Ng i j)) ∧
    (∀ i j, i < a.length → j < sz → ¬ Ng i j ad.block) ∧ (∀ i j i' j' k, i < a.length → j < sz → i' < a.length → j' < sz → Ng i j k → Ng i' j' k → i = i' ∧ j = j') ∧
    g.N id ad.block ∧ ∀ i j k, i < a.length → j < sz → Ng i j k → g.N id k

theorem dst_row (H : HOk w0 O w S g h U) {s : V} {c : Value} {sz : Nat} {a : List V} (hs : isLst s = false) (hv : elsOf h s = some (sz, a)) (x : VR w S g h s c) :
    (a = [] ∧ ∃ ba, c = .slice ba 0 0 ∧ (isWin s = true ∨ ba = none)) ∨ DstRow w g h s c sz a := by
  have row : ∀ {id sz els}, h id = some ⟨.arr, sz, els⟩ → ∀ {ad}, g.base id = some ad → els.length ≤ g.cap id ∧ g.cap id ≤ maxLen ∧ ad.spot = none ∧ ∃ (cur : Array Value) (e : TypeId) (fr : Nat × Nat) (Ng : Nat → Nat → Nat → Prop),
      w.heap[ad.block]? = some (.cells cur e fr) ∧ NoFr sz cur.size fr ∧ ad.off + g.cap id * sz ≤ cur.size ∧ (∀ x ∈ els, x.cells.length = sz) ∧ (∀ x ∈ els, ∀ y ∈ x.cells, okCell y = true) ∧
      (∀ (i : Nat) x (j : Nat) y, els[i]? = some x → x.cells[j]? = some y → ∃ c, cur[ad.off + (i * sz + j)]? = some c ∧ OW w y c (Ng i j)) ∧
      (∀ i j, i < els.length → j < sz → ¬ Ng i j ad.block) ∧ (∀ i j i' j' k, i < els.length → j < sz → i' < els.length → j' < sz → Ng i j k → Ng i' j' k → i = i' ∧ j = j') ∧
      g.N id ad.block ∧ ∀ i j k, i < els.length → j < sz → Ng i j k → g.N id k := by
    intro id sz els hb ad hbase
    have hO := (H.blk id _ hb).1
    rw [hbase] at hO
    obtain ⟨_, hsp, hle, hmax, hsz, hok, cur, e, fr, Ng, h1, h2, h3, h4, h5, h6, h7⟩ := hO.row
    exact ⟨hle, hmax, hsp, cur, e, fr, Ng, h1, h2, h3, hsz, hok, h4, h5, h6, (h7 _).2 (.inl rfl), fun i j k hi hj hk => (h7 k).2 (.inr ⟨i, j, hi, hj, hk⟩)⟩
  cases s with
  | nils sz' =>
    simp only [elsOf, Option.some.injEq, Prod.mk.injEq] at hv
    exact .inl ⟨hv.2.symm, none, x.inv_nils, .inr rfl⟩
  | own id =>
    simp only [elsOf] at hv
    split at hv
    · rename_i sz' els hb
      cases hv
      obtain ⟨_, e⟩ := x.inv_own hb (H.notDead hb)
      cases hbase : g.base id with
      | none =>
        have hO := (H.blk id _ hb).1
        rw [hbase] at hO
        obtain ⟨e0, e1⟩ := hO.none_nil
        exact .inl ⟨e0, none, by rw [e, hbase, e0, e1]; rfl, .inr rfl⟩
      | some ad =>
        obtain ⟨h1, h2, hsp, cur, e', fr, Ng, h3, h4, h5, hsz, hok, h6, h7, h8, h9, h10⟩ := row hb hbase
        exact .inr ⟨id, ad, g.cap id, cur, e', fr, Ng, by simp [idsC], by simp [hb], hsp, by rw [e, hbase], h1, h2, h3, h4, h5, hsz, hok, h6, h7, h8, h9, h10⟩
    · cases hv
  | win id lo len =>
    simp only [elsOf] at hv
    split at hv
    · rename_i sz' els hb
      split at hv
      · rename_i hle
        cases hv
        obtain ⟨_, e⟩ := x.inv_win hb (H.notDead hb)
        have hl : ((els.drop lo).take len).length = len := by simp; omega
        rcases e with ⟨h0, _, ba, e⟩ | ⟨ad, cp, hbase, hcp, hlc, e⟩
        · subst h0
          exact .inl ⟨by simp, ba, e, .inl rfl⟩
        · obtain ⟨h1, h2, hsp, cur, e', fr, Ng, h3, h4, h5, hsz, hok, h6, h7, h8, h9, h10⟩ := row hb hbase
          have hmul : lo * sz + cp * sz ≤ g.cap id * sz := by rw [← Nat.add_mul]; exact Nat.mul_le_mul_right _ (Nat.le_of_eq hcp)
          refine .inr ⟨id, ⟨ad.block, ad.off + lo * sz, none⟩, cp, cur, e', fr, fun i j => Ng (lo + i) j, by simp [idsC], by simp [hb], rfl, by rw [hl]; exact e, by rw [hl]; exact hlc, by omega, h3, h4, ?_,
            fun x hx => hsz x (List.mem_of_mem_drop (List.mem_of_mem_take hx)), fun x hx => hok x (List.mem_of_mem_drop (List.mem_of_mem_take hx)), ?_, ?_, ?_, h9, ?_⟩
          · show ad.off + lo * sz + cp * sz ≤ cur.size
            omega
          · intro i x j y hx hy
            have hi : i < len := by
              have := (List.getElem?_eq_some_iff.1 hx).1
              rw [hl] at this; exact this
            rw [List.getElem?_take, if_pos hi, List.getElem?_drop] at hx
            obtain ⟨c, hc, ho⟩ := h6 (lo + i) x j y hx hy
            refine ⟨c, ?_, ho⟩
            simpa [Nat.add_mul, Nat.add_assoc] using hc
          · rw [hl]; exact fun i j hi hj => h7 (lo + i) j (by omega) hj
          · rw [hl]
            intro i j i' j' k hi hj hi' hj' h1 h2
            obtain ⟨e1, e2⟩ := h8 (lo + i) j (lo + i') j' k (by omega) hj (by omega) hj' h1 h2
            exact ⟨by omega, e2⟩
          · rw [hl]; exact fun i j k hi hj hk => h10 (lo + i) j k (by omega) hj hk
      · cases hv
    · cases hv
  | lst sz' l' => simp [isLst] at hs
  | _ => simp [elsOf] at hv

theorem plainSrc_eq {tys : Array TypeId} (h : plainSrc P tys = true) : ∃ u d, tys[1]? = some u ∧ P.underlying u = some d ∧ ∀ k, d ≠ .int k := by
  unfold plainSrc at h
  split at h
  · rename_i u hu
    split at h
    · cases h
    · rename_i d hne hd
      exact ⟨u, d, hu, hd, fun k e => hne k e⟩
    · cases h
  · cases h

/-- An append, as the model runs it, out of what it reads. -/
theorem run_append {tys : Array TypeId} {ty t el : TypeId} {ba : Option Addr} {sLen sCap m sz : Nat} {x : Value} {news : Array Value} {z : V} (ht : tys[0]? = some t) (hp : plainSrc P tys = true)
    (hu : P.underlying t = some (.slice el)) (hsz : sz = P.cellsOf el) (h0 : 0 < sz) (hz : zeroV P el = some z) (hzl : z.cells.length = sz)
    (hlen : (Builtin.lenOf x).run P w = .ok m w) (hnew : (Builtin.firstCells sz m x).run P w = .ok news w)
    (hnew' : (Builtin.firstCells sz m x).run P w.drew = .ok news w.drew)
    (hb : (sLen + m) * P.bytesOf el ≤ 140737488355328) (hm : sLen + m ≤ 9223372036854775807) :
    (sLen + m ≤ sCap → (Builtin.append_ tys ty #[.slice ba sLen sCap, x]).run P w =
      (match ba with | some a => ((storeCells (a.add (sLen * sz)) news.toList).run P w).andThen fun _ w' => .ok (.slice ba (sLen + m) sCap) w' | none => .ok (.slice ba (sLen + m) sCap) w)) ∧
    (sCap < sLen + m → ∀ old : Array Value, (Builtin.firstCells sz sLen (.slice ba sLen sCap)).run P w.drew = .ok old w.drew → ∃ rest : Array Value, rest.size = (grownCap w (sLen + m) sCap el - (sLen + m)) * sz ∧ (Builtin.append_ tys ty #[.slice ba sLen sCap, x]).run P w =
      .ok (.slice (some ⟨w.heap.size, 0, none⟩) (sLen + m) (grownCap w (sLen + m) sCap el)) (w.drew.alloc (.cells (old ++ news ++ rest) el))) := by
  obtain ⟨u, d, hu1, hd, hne⟩ := plainSrc_eq hp
  have hmatch : (match d with | .int _ => true | _ => false) = false := by cases d <;> first | rfl | (rename_i k; exact absurd rfl (hne k))
  have hso : (sizeOf el).run P w = .ok sz w := by rw [hsz]; exact run_sizeOf (by omega)
  obtain ⟨i, hi, his⟩ := info_of_cellsOf (P := P) (t := el) (by omega)
  obtain ⟨i', zv, hi', hzv, hzs, _⟩ := zeroV_ok (P := P) (w := w) (S := fun _ => False) (g := ⟨fun _ => none, fun _ => 0, fun _ _ => False, fun _ => False⟩) (h := fun _ => none) hz
  rw [hi] at hi'; cases hi'
  constructor
  · intro hroom
    simp only [Builtin.append_, ht, hu1]
    simp only [List.getElem?_toArray, List.getElem?_cons_zero, List.getElem?_cons_succ, Sem.run_bind, run_underlying' hu, Result.andThen_ok, hso, run_underlying' hd, Sem.run_pure, hmatch]
    simp only [Bool.false_eq_true, if_false, hlen, Result.andThen_ok, hroom, if_true, Sem.run_bind, Bool.not_false, hnew, Sem.run_ite]
    cases ba with
    | none => simp
    | some a => simp
  · intro hgrow old hold
    have hng : ¬ sLen + m ≤ sCap := by omega
    refine ⟨Builtin.zeroCells zv.cells (grownCap w (sLen + m) sCap el - (sLen + m)), by simp [Builtin.zeroCells, hzs, hzl], ?_⟩
    have hby : i.bytes = P.bytesOf el := by simp [Program.bytesOf, hi]
    have hfit : ¬ Builtin.nextslicecap (sLen + m) sCap * i.bytes > 2 ^ 48 := by
      have := growslice_fits (bytes := i.bytes) hgrow (by rw [hby]; exact hb)
      omega
    have hmx : ¬ ((((sLen + m : Nat) : Int) > IntKind.i64.max) ∧ (i.bytes = 0)) := by
      have e : IntKind.i64.max = 9223372036854775807 := by decide
      rw [e]; omega
    have hti : ∀ w : World, (typeInfo el).run P w = .ok i w := fun w => by simp [typeInfo, hi]
    have hzr : ∀ w : World, (zeroValue el).run P w = .ok zv w := fun w => run_zeroValue hi hzv
    simp only [Builtin.append_, ht, hu1]
    simp only [List.getElem?_toArray, List.getElem?_cons_zero, List.getElem?_cons_succ, Sem.run_bind, run_underlying' hu, Result.andThen_ok, hso, run_underlying' hd, Sem.run_pure]
    simp only [Bool.false_eq_true, if_false, hlen, Result.andThen_ok, hng, Sem.run_bind, Bool.not_false, if_true, Sem.run_ite, hti, Sem.run_pure, false_or, hmx, hfit, run_choose, Question.forced, World.drew_eq, run_askRoom, hold, hnew', hzr]
    simp only [newRow, Sem.run_bind, run_newObj, Result.andThen_ok, Sem.run_pure, World.alloc_eq, grownCap]
    rfl

theorem OW.one {y : V} {c : Value} {N : Nat → Prop} (x : OW w y c N) (hy : okCell y = true) : c.oneCell' = true := by
  cases x <;> first | rfl | (simp [okCell] at hy)
theorem flatC_ok {y : V} (h : y.flatC = true) : okCell y = true := by cases y <;> first | rfl | (simp [V.flatC] at h)

/-- What an append's second operand is good for. -/
def SrcOk (P : Program) (w : World) (g : G) (h : Heap) (R : List Nat) (sz : Nat) (b : List V) (cx : Value) : Prop :=
  (Builtin.lenOf cx).run P w = .ok b.length w ∧ ∃ news : Array Value, (Builtin.firstCells sz b.length cx).run P w = .ok news w ∧ (Builtin.firstCells sz b.length cx).run P w.drew = .ok news w.drew ∧ news.size = b.length * sz ∧
    (∀ x ∈ b, x.cells.length = sz) ∧ (∀ x ∈ b, ∀ y ∈ x.cells, okCell y = true) ∧ ∃ Nb : Nat → Nat → Nat → Prop,
    (∀ (i : Nat) x (j : Nat) y, b[i]? = some x → x.cells[j]? = some y → ∃ c, news[i * sz + j]? = some c ∧ OW w y c (Nb i j)) ∧
    (∀ i j k, i < b.length → j < sz → Nb i j k → ∃ id ∈ R, h id ≠ none ∧ g.N id k) ∧
    ∀ i j i' j' k, i < b.length → j < sz → i' < b.length → j' < sz → Nb i j k → Nb i' j' k → i = i' ∧ j = j'

theorem src_flat (H : HOk w0 O w S g h U) {x : V} {cx : Value} {sz : Nat} {b : List V} (h0 : 0 < sz) (hv : elsOf h x = some (sz, b)) (hf : flatL b = true) (hx : VR w S g h x cx) : SrcOk P w g h [] sz b cx := by
  obtain ⟨ba, cp, f, rfl, hsz, hc, hr⟩ := src_cells H hv hx
  obtain ⟨news, r1, hn, hg⟩ := run_firstCells (P := P) (w := w) (len := b.length) (cp := cp) h0 hc
  obtain ⟨news', r2, hn', hg'⟩ := run_firstCells (P := P) (w := w.drew) (len := b.length) (cp := cp) h0 (fun i j hi hj => by simpa using hc i j hi hj)
  have idx : ∀ q, q < b.length * sz → ∃ i j, i < b.length ∧ j < sz ∧ q = i * sz + j := fun q hq =>
    ⟨q / sz, q % sz, Nat.div_lt_of_lt_mul (by rw [Nat.mul_comm]; exact hq), Nat.mod_lt _ h0, by rw [Nat.mul_comm]; exact (Nat.div_add_mod q sz).symm⟩
  have he : news' = news := by
    apply Array.ext_getElem?
    intro q
    by_cases hq : q < b.length * sz
    · obtain ⟨i, j, hi, hj, rfl⟩ := idx q hq
      rw [hg i j hi hj, hg' i j hi hj]
    · rw [Array.getElem?_eq_none (by omega), Array.getElem?_eq_none (by omega)]
  subst he
  have hfl : ∀ x ∈ b, ∀ y ∈ x.cells, y.flatC = true := by
    intro x hx y hy
    obtain ⟨j, hj, rfl⟩ := List.mem_iff_getElem.1 hy
    exact flat_cells ((List.all_eq_true.1 hf) x hx) (List.getElem?_eq_getElem hj)
  refine ⟨by simp [Builtin.lenOf], news', r1, r2, hn, hsz, fun x hx y hy => flatC_ok (hfl x hx y hy), fun _ _ _ => False, ?_, fun _ _ _ _ _ h => h.elim, fun _ _ _ _ _ _ _ _ _ h => h.elim⟩
  intro i x j y hx hy
  have hi := (List.getElem?_eq_some_iff.1 hx).1
  have hj := (List.getElem?_eq_some_iff.1 hy).1
  rw [hsz x (List.mem_of_getElem? hx)] at hj
  have hfy := hfl x (List.mem_of_getElem? hx) y (List.mem_of_getElem? hy)
  exact ⟨f i j, hg i j hi hj, OW.of_flatC hfy (hr i x j y hx hy hfy)⟩

theorem src_own (H : HOk w0 O w S g h U) {id : Nat} {cx : Value} {sz : Nat} {b : List V} (h0 : 0 < sz) (hb : h id = some ⟨.arr, sz, b⟩) (hx : VR w S g h (.own id) cx) : SrcOk P w g h [id] sz b cx := by
  obtain ⟨ba, cp, f, rfl, hsz, hc, hr⟩ := src_cells H (v := .own id) (sz := sz) (l := b) (by simp [elsOf, hb]) hx
  obtain ⟨news, r1, hn, hg⟩ := run_firstCells (P := P) (w := w) (len := b.length) (cp := cp) h0 hc
  obtain ⟨news', r2, hn', hg'⟩ := run_firstCells (P := P) (w := w.drew) (len := b.length) (cp := cp) h0 (fun i j hi hj => by simpa using hc i j hi hj)
  have idx : ∀ q, q < b.length * sz → ∃ i j, i < b.length ∧ j < sz ∧ q = i * sz + j := fun q hq =>
    ⟨q / sz, q % sz, Nat.div_lt_of_lt_mul (by rw [Nat.mul_comm]; exact hq), Nat.mod_lt _ h0, by rw [Nat.mul_comm]; exact (Nat.div_add_mod q sz).symm⟩
  have he : news' = news := by
    apply Array.ext_getElem?
    intro q
    by_cases hq : q < b.length * sz
    · obtain ⟨i, j, hi, hj, rfl⟩ := idx q hq
      rw [hg i j hi hj, hg' i j hi hj]
    · rw [Array.getElem?_eq_none (by omega), Array.getElem?_eq_none (by omega)]
  subst he
  obtain ⟨_, e⟩ := hx.inv_own hb (H.notDead hb)
  have hO := (H.blk id _ hb).1
  cases hbase : g.base id with
  | none =>
    rw [hbase] at hO
    obtain ⟨rfl, _⟩ := hO.none_nil
    exact ⟨by simp [Builtin.lenOf], news', r1, r2, hn, by simp, by simp, fun _ _ _ => False, fun i x j y hx => by simp at hx, fun _ _ _ _ _ h => h.elim, fun _ _ _ _ _ _ _ _ _ h => h.elim⟩
  | some ad =>
    rw [hbase] at hO
    obtain ⟨_, hsp, hle, hmax, hsz', hok, cur, e', fr, Ng, h1, h2, h3, h4, h5, h6, h7⟩ := hO.row
    rw [hbase] at e
    cases e
    refine ⟨by simp [Builtin.lenOf], news', r1, r2, hn, hsz, hok, Ng, ?_, fun i j k hi hj hk => ⟨id, by simp, by simp [hb], (h7 k).2 (.inr ⟨i, j, hi, hj, hk⟩)⟩, h6⟩
    intro i x j y hx hy
    have hi := (List.getElem?_eq_some_iff.1 hx).1
    have hj := (List.getElem?_eq_some_iff.1 hy).1
    rw [hsz x (List.mem_of_getElem? hx)] at hj
    obtain ⟨c, hcc, ho⟩ := h4 i x j y hx hy
    obtain ⟨ad', ha, _, hcell⟩ := hc i j hi hj
    cases ha
    rw [cell_of_row h1, hcc] at hcell
    cases hcell
    exact ⟨_, hg i j hi hj, ho⟩

theorem src_str {b : ByteArray} {l : List UInt8} (hl : b.data.toList = l) : SrcOk P w g h [] 1 (bytesV l) (.string b) := by
  have hsz : b.size = l.length := by rw [← hl, Array.length_toList]; rfl
  have hnews : ((b.extract 0 b.size).data.map fun c => Value.int .u8 c.toNat) = (l.map fun c => Value.int .u8 (c.toNat : Int)).toArray := by
    have : (b.extract 0 b.size).data = b.data := by
      rw [ByteArray.data_extract]
      show b.data.extract 0 b.data.size = b.data
      simp
    rw [this, ← hl]
    apply Array.ext'
    simp
  refine ⟨by simp [Builtin.lenOf, bytesV, hsz], (l.map fun c => Value.int .u8 (c.toNat : Int)).toArray, ?_, ?_, by simp [bytesV], by simp [bytesV, V.cells], by simp [bytesV, V.cells, okCell], fun _ _ _ => False, ?_, fun _ _ _ _ _ h => h.elim, fun _ _ _ _ _ _ _ _ _ h => h.elim⟩
  · have : (bytesV l).length = b.size := by simp [bytesV, hsz]
    rw [this, ← hnews]; simp [Builtin.firstCells]
  · have : (bytesV l).length = b.size := by simp [bytesV, hsz]
    rw [this, ← hnews]; simp [Builtin.firstCells]
  · intro i x j y hx hy
    simp only [bytesV, List.getElem?_map, Option.map_eq_some_iff] at hx
    obtain ⟨c, hc, rfl⟩ := hx
    cases j with
    | zero =>
      simp [V.cells] at hy
      subst hy
      refine ⟨.int .u8 c.toNat, by simp [hc], .int _ _⟩
    | succ j => simp [V.cells] at hy

/-- The words of two rows, one behind the other. -/
def joinN (m : Nat) (A B : Nat → Nat → Nat → Prop) : Nat → Nat → Nat → Prop := fun i j => if i < m then A i j else B (i - m) j

theorem join_cells {w' : World} {la lb : List V} {sz : Nat} {cell : Nat → Option Value} {A B : Nat → Nat → Nat → Prop}
    (ha : ∀ (i : Nat) x (j : Nat) y, la[i]? = some x → x.cells[j]? = some y → ∃ c, cell (i * sz + j) = some c ∧ OW w' y c (A i j))
    (hb : ∀ (i : Nat) x (j : Nat) y, lb[i]? = some x → x.cells[j]? = some y → ∃ c, cell (la.length * sz + (i * sz + j)) = some c ∧ OW w' y c (B i j)) :
    ∀ (i : Nat) x (j : Nat) y, (la ++ lb)[i]? = some x → x.cells[j]? = some y → ∃ c, cell (i * sz + j) = some c ∧ OW w' y c (joinN la.length A B i j) := by
  intro i x j y hx hy
  by_cases hi : i < la.length
  · rw [List.getElem?_append_left hi] at hx
    simp only [joinN, hi, if_true]
    exact ha i x j y hx hy
  · rw [List.getElem?_append_right (by omega)] at hx
    simp only [joinN, hi, if_false]
    obtain ⟨c, hc, ho⟩ := hb (i - la.length) x j y hx hy
    refine ⟨c, ?_, ho⟩
    rw [← hc]
    congr 1
    rw [← Nat.add_assoc, ← Nat.add_mul]
    congr 2
    omega

theorem join_dis {m n sz : Nat} {A B : Nat → Nat → Nat → Prop} (ha : ∀ i j i' j' k, i < m → j < sz → i' < m → j' < sz → A i j k → A i' j' k → i = i' ∧ j = j')
    (hb : ∀ i j i' j' k, i < n → j < sz → i' < n → j' < sz → B i j k → B i' j' k → i = i' ∧ j = j') (hab : ∀ i j i' j' k, i < m → j < sz → i' < n → j' < sz → A i j k → ¬ B i' j' k) :
    ∀ i j i' j' k, i < m + n → j < sz → i' < m + n → j' < sz → joinN m A B i j k → joinN m A B i' j' k → i = i' ∧ j = j' := by
  intro i j i' j' k hi hj hi' hj' h1 h2
  by_cases e1 : i < m <;> by_cases e2 : i' < m <;> simp only [joinN, e1, e2, if_true, if_false] at h1 h2
  · exact ha i j i' j' k e1 hj e2 hj' h1 h2
  · exact absurd h2 (hab i j (i' - m) j' k e1 hj (by omega) hj' h1)
  · exact absurd h1 (hab i' j' (i - m) j k e2 hj' (by omega) hj h2)
  · obtain ⟨e3, e4⟩ := hb (i - m) j (i' - m) j' k (by omega) hj (by omega) hj' h1 h2
    exact ⟨by omega, e4⟩

theorem join_in {m n sz : Nat} {A B : Nat → Nat → Nat → Prop} {X : Nat → Prop} (ha : ∀ i j k, i < m → j < sz → A i j k → X k) (hb : ∀ i j k, i < n → j < sz → B i j k → X k) :
    ∀ i j k, i < m + n → j < sz → joinN m A B i j k → X k := by
  intro i j k hi hj h1
  by_cases e1 : i < m <;> simp only [joinN, e1, if_true, if_false] at h1
  · exact ha i j k e1 hj h1
  · exact hb (i - m) j k (by omega) hj h1

/-- An append, whole. -/
theorem append_core (H : HOk w0 O w S g h U) {tys : Array TypeId} {ty t el : TypeId} {s : V} {cs cx : Value} {sz : Nat} {la lb : List V} {R : List Nat} (ht : tys[0]? = some t) (hp : plainSrc P tys = true) (hu : P.underlying t = some (.slice el))
    (hs : VR w S g h s cs) (hls : isLst s = false) (hea : elsOf h s = some (sz, la)) (hsz : sz = P.cellsOf el) (h0 : 0 < sz) (hz : zeroFits P el sz = true) (hwin : isWin s = true → lb ≠ [])
    (hb : (la.length + lb.length) * P.bytesOf el ≤ 140737488355328) (hm : la.length + lb.length ≤ 9223372036854775807) (hsrc : SrcOk P w g h R sz lb cx) (hR : ∀ id ∈ R, id ∉ idsC s) (hU : ¬ U n) (hnR : n ∉ R ++ idsC s) :
    ∃ cv w' g', (Builtin.append_ tys ty #[cs, cx]).run P w = .ok cv w' ∧ HOk w0 O w' S g' (updsH h (gone (R ++ idsC s) ++ [(n, some ⟨.arr, sz, la ++ lb⟩)])) (fun k => U k ∨ k = n) ∧
      Tr w S g h w' S g' (updsH h (gone (R ++ idsC s) ++ [(n, some ⟨.arr, sz, la ++ lb⟩)])) ∧ VR w' S g' (updsH h (gone (R ++ idsC s) ++ [(n, some ⟨.arr, sz, la ++ lb⟩)])) (.own n) cv := by
  obtain ⟨hlen, news, r1, r2, hn, hbsz, hbok, Nb, hbc, hbN, hbdis⟩ := hsrc
  obtain ⟨z, hzv, hzl⟩ : ∃ z, zeroV P el = some z ∧ z.cells.length = sz := by
    unfold zeroFits at hz
    split at hz
    · rename_i z hz'; exact ⟨z, hz', by simpa using hz⟩
    · cases hz
  have elen : (la ++ lb).length = la.length + lb.length := by simp
  -- a row laid anew
  have grow : ∀ {ba : Option Addr} {cp : Nat} (old : Array Value) (Ng : Nat → Nat → Nat → Prop), cs = .slice ba la.length cp → cp < la.length + lb.length → cp ≤ maxLen →
      (Builtin.firstCells sz la.length (.slice ba la.length cp)).run P w.drew = .ok old w.drew → old.size = la.length * sz → (∀ x ∈ la, x.cells.length = sz) → (∀ x ∈ la, ∀ y ∈ x.cells, okCell y = true) →
      (∀ (i : Nat) x (j : Nat) y, la[i]? = some x → x.cells[j]? = some y → ∃ c, old[i * sz + j]? = some c ∧ OW w y c (Ng i j)) →
      (∀ i j k, i < la.length → j < sz → Ng i j k → ∃ id ∈ idsC s, h id ≠ none ∧ g.N id k) → (∀ i j i' j' k, i < la.length → j < sz → i' < la.length → j' < sz → Ng i j k → Ng i' j' k → i = i' ∧ j = j') →
      ∃ cv w' g', (Builtin.append_ tys ty #[cs, cx]).run P w = .ok cv w' ∧ HOk w0 O w' S g' (updsH h (gone (R ++ idsC s) ++ [(n, some ⟨.arr, sz, la ++ lb⟩)])) (fun k => U k ∨ k = n) ∧
      Tr w S g h w' S g' (updsH h (gone (R ++ idsC s) ++ [(n, some ⟨.arr, sz, la ++ lb⟩)])) ∧ VR w' S g' (updsH h (gone (R ++ idsC s) ++ [(n, some ⟨.arr, sz, la ++ lb⟩)])) (.own n) cv := by
    intro ba cp old Ng hcs hcp hcm hold holds hasz haok hac haN hadis
    obtain ⟨rest, hrs, hrun⟩ := (run_append (tys := tys) (ty := ty) ht hp hu hsz h0 hzv hzl hlen r1 r2 hb hm).2 hcp old hold
    have hgc := grownCap_ge w (la.length + lb.length) cp el
    have hgm : grownCap w (la.length + lb.length) cp el ≤ maxLen := grownCap_le_maxLen w _ cp el (by unfold maxLen; omega)
    let w' : World := w.drew.alloc (.cells (old ++ news ++ rest) el)
    have hwk : ∀ k, k < w.heap.size → w'.heap[k]? = w.heap[k]? := fun k hk => heap_alloc_old' w.drew _ k hk
    have hlt : ∀ id k, h id ≠ none → g.N id k → k < w.heap.size := fun id k hh hk => by
      obtain ⟨b, hb'⟩ := Option.ne_none_iff_exists'.1 hh
      exact H.lt id b k hb' hk
    have hNlt : ∀ i j k, i < la.length + lb.length → j < sz → joinN la.length Ng Nb i j k → ∃ id ∈ R ++ idsC s, h id ≠ none ∧ g.N id k :=
      join_in (X := fun k => ∃ id ∈ R ++ idsC s, h id ≠ none ∧ g.N id k) (fun i j k hi hj hk => by obtain ⟨id, h1, h2⟩ := haN i j k hi hj hk; exact ⟨id, List.mem_append_right _ h1, h2⟩)
        (fun i j k hi hj hk => by obtain ⟨id, h1, h2⟩ := hbN i j k hi hj hk; exact ⟨id, List.mem_append_left _ h1, h2⟩)
    have how : OW w' (.lst sz (la ++ lb)) (.slice (some ⟨w.heap.size, 0, none⟩) (la ++ lb).length (grownCap w (la.length + lb.length) cp el))
        (fun k => k = w.heap.size ∨ ∃ i j, i < (la ++ lb).length ∧ j < sz ∧ joinN la.length Ng Nb i j k) := by
      refine OW.mk_row (cur := old ++ news ++ rest) (e := el) (fr := (0, 0)) rfl (by rw [elen]; exact hgc) hgm ?_ ?_ (heap_alloc_new' w.drew _) .new ?_ ?_ ?_ ?_
      · intro x hx
        rcases List.mem_append.1 hx with h1 | h1
        · exact hasz x h1
        · exact hbsz x h1
      · intro x hx
        rcases List.mem_append.1 hx with h1 | h1
        · exact haok x h1
        · exact hbok x h1
      · show 0 + _ ≤ _
        simp only [Array.size_append, holds, hn, hrs, ← Nat.add_mul, Nat.zero_add]
        exact Nat.mul_le_mul_right _ (by omega)
      · refine join_cells (cell := fun q => (old ++ news ++ rest)[0 + q]?) ?_ ?_
        · intro i x j y hx hy
          obtain ⟨c, hc, ho⟩ := hac i x j y hx hy
          have hi := (List.getElem?_eq_some_iff.1 hx).1
          have hj := (List.getElem?_eq_some_iff.1 hy).1
          rw [hasz x (List.mem_of_getElem? hx)] at hj
          have hq := (Array.getElem?_eq_some_iff.1 hc).1
          refine ⟨c, ?_, ho.mono fun k hk => ?_⟩
          · simp only [Nat.zero_add]
            rw [Array.append_assoc, Array.getElem?_append_left hq]; exact hc
          · obtain ⟨id, _, h1, h2⟩ := haN i j k hi hj hk
            exact hwk k (hlt id k h1 h2)
        · intro i x j y hx hy
          obtain ⟨c, hc, ho⟩ := hbc i x j y hx hy
          have hi := (List.getElem?_eq_some_iff.1 hx).1
          have hj := (List.getElem?_eq_some_iff.1 hy).1
          rw [hbsz x (List.mem_of_getElem? hx)] at hj
          have hq := (Array.getElem?_eq_some_iff.1 hc).1
          refine ⟨c, ?_, ho.mono fun k hk => ?_⟩
          · simp only [Nat.zero_add]
            rw [Array.append_assoc, Array.getElem?_append_right (by omega), holds, Nat.add_sub_cancel_left, Array.getElem?_append_left hq]; exact hc
          · obtain ⟨id, _, h1, h2⟩ := hbN i j k hi hj hk
            exact hwk k (hlt id k h1 h2)
      · intro i j hi hj hk
        rw [elen] at hi
        obtain ⟨id, _, h1, h2⟩ := hNlt i j _ hi hj hk
        exact Nat.lt_irrefl _ (hlt id _ h1 h2)
      · rw [elen]
        exact join_dis hadis hbdis fun i j i' j' k hi hj hi' hj' h1 h2 => by
          obtain ⟨id, hid, hh, hN⟩ := haN i j k hi hj h1
          obtain ⟨id', hid', hh', hN'⟩ := hbN i' j' k hi' hj' h2
          obtain ⟨b1, hb1⟩ := Option.ne_none_iff_exists'.1 hh
          obtain ⟨b2, hb2⟩ := Option.ne_none_iff_exists'.1 hh'
          have := H.disj id id' b1 b2 k hb1 hb2 hN hN'
          subst this
          exact hR id hid' hid
    have hNN : ∀ k, (k = w.heap.size ∨ ∃ i j, i < (la ++ lb).length ∧ j < sz ∧ joinN la.length Ng Nb i j k) → w.heap.size ≤ k ∨ ∃ r, (r ∈ R ++ idsC s ∨ r = n) ∧ h r ≠ none ∧ g.N r k := by
      rintro k (rfl | ⟨i, j, hi, hj, hk⟩)
      · exact .inl (Nat.le_refl _)
      · rw [elen] at hi
        obtain ⟨id, h1, h2, h3⟩ := hNlt i j k hi hj hk
        exact .inr ⟨id, .inl h1, h2, h3⟩
    obtain ⟨g', H', tr, hv⟩ := H.replace (R := R ++ idsC s) (m := n) hnR (.inl hU) how (fun ad h => by cases h; rfl) hNN (fun k hk _ => hwk k hk) rfl rfl rfl (by show _ ≤ (w.drew.alloc _).heap.size; simp)
    exact ⟨_, w', g', by rw [hcs]; rw [← elen] at hrun ⊢; exact hrun, H', tr, hv⟩
  rcases dst_row H hls hea hs with ⟨rfl, ba, rfl, hba⟩ | ⟨id, ad, cp, cur, e, fr, Ng, hid, hidl, hsp, rfl, hle, hcm, hrow, hfr, hcap, hasz, haok, hac, hself, hadis, hNad, hNg⟩
  · by_cases hlb : lb = []
    · subst hlb
      have hnone : ba = none := by
        rcases hba with h1 | h1
        · exact absurd rfl (hwin h1)
        · exact h1
      subst hnone
      have hrun := (run_append (tys := tys) (ty := ty) (sLen := 0) (sCap := 0) (ba := none) ht hp hu hsz h0 hzv hzl hlen r1 r2 (by simp) (by simp)).1 (by simp)
      obtain ⟨g', H', tr, hv⟩ := H.replace (w' := w) (R := R ++ idsC s) (m := n) (sz := sz) (els := []) (base := none) (cap := 0) hnR (.inl hU) (.lnil sz) (fun ad h => by cases h) (fun k hk => hk.elim) (fun _ _ _ => rfl) rfl rfl rfl (Nat.le_refl _)
      exact ⟨_, w, g', hrun, H', tr, hv⟩
    · refine grow (ba := ba) (cp := 0) #[] (fun _ _ _ => False) rfl ?_ (Nat.zero_le _) ?_ (by simp) (by simp) (by simp) (fun i x j y hx => by simp at hx) (fun _ _ _ hi => by simp at hi) (fun _ _ _ _ _ hi => by simp at hi)
      · have := List.length_pos_iff.2 hlb
        simp; exact this
      · cases ba <;> simp [Builtin.firstCells, loadCells, loadCellsFrom]
  · by_cases hroom : la.length + lb.length ≤ cp
    · have hidx : ∀ q, q < lb.length * sz → ∃ i j, i < lb.length ∧ j < sz ∧ q = i * sz + j := fun q hq =>
        ⟨q / sz, q % sz, Nat.div_lt_of_lt_mul (by rw [Nat.mul_comm]; exact hq), Nat.mod_lt _ h0, by rw [Nat.mul_comm]; exact (Nat.div_add_mod q sz).symm⟩
      have hone : ∀ u ∈ news.toList, u.oneCell' = true := by
        intro u hu
        obtain ⟨q, hq, rfl⟩ := List.mem_iff_getElem.1 hu
        obtain ⟨i, j, hi, hj, rfl⟩ := hidx q (by simpa [hn] using hq)
        have hj' : j < lb[i].cells.length := by rw [hbsz _ (List.getElem_mem hi)]; exact hj
        obtain ⟨c, hc, ho⟩ := hbc i _ j _ (List.getElem?_eq_getElem hi) (List.getElem?_eq_getElem hj')
        have := (Array.getElem?_eq_some_iff.1 hc).2
        simp only [Array.getElem_toList]
        rw [this]
        exact ho.one (hbok _ (List.getElem_mem hi) _ (List.getElem_mem hj'))
      have hmul : la.length * sz + lb.length * sz ≤ cp * sz := by rw [← Nat.add_mul]; exact Nat.mul_le_mul_right _ hroom
      obtain ⟨w', cur', hst, hrow', hcsz, hcc, ho⟩ := run_storeCells_row P (off := ad.off + la.length * sz) news.toList 0 w cur hrow hfr hone (by simp only [Array.length_toList, hn]; omega)
      have hrun := (run_append (tys := tys) (ty := ty) (sLen := la.length) (sCap := cp) (ba := some ad) (x := cx) (m := lb.length) (news := news) ht hp hu hsz h0 hzv hzl hlen r1 r2 hb hm).1 hroom
      simp only [add_none hsp, hst, Result.andThen_ok] at hrun
      have hnb : ∀ i j k, i < lb.length → j < sz → Nb i j k → k ≠ ad.block := by
        rintro i j k hi hj hk rfl
        obtain ⟨id', hid', hh', hN'⟩ := hbN i j _ hi hj hk
        obtain ⟨b1, hb1⟩ := Option.ne_none_iff_exists'.1 hidl
        obtain ⟨b2, hb2⟩ := Option.ne_none_iff_exists'.1 hh'
        have := H.disj id id' b1 b2 _ hb1 hb2 hNad hN'
        subst this
        exact hR id hid' hid
      have how : OW w' (.lst sz (la ++ lb)) (.slice (some ad) (la ++ lb).length cp) (fun k => k = ad.block ∨ ∃ i j, i < (la ++ lb).length ∧ j < sz ∧ joinN la.length Ng Nb i j k) := by
        refine OW.mk_row (cur := cur') (e := e) (fr := fr) hsp (by rw [elen]; exact hroom) hcm ?_ ?_ hrow' (by rw [hcsz]; exact hfr) (by rw [hcsz]; exact hcap) ?_ ?_ ?_
        · intro x hx
          rcases List.mem_append.1 hx with h1 | h1
          · exact hasz x h1
          · exact hbsz x h1
        · intro x hx
          rcases List.mem_append.1 hx with h1 | h1
          · exact haok x h1
          · exact hbok x h1
        · refine join_cells (cell := fun q => cur'[ad.off + q]?) ?_ ?_
          · intro i x j y hx hy
            obtain ⟨c, hc, hoo⟩ := hac i x j y hx hy
            have hi := (List.getElem?_eq_some_iff.1 hx).1
            have hj := (List.getElem?_eq_some_iff.1 hy).1
            rw [hasz x (List.mem_of_getElem? hx)] at hj
            have hq : i * sz + j < la.length * sz := by
              have h1 : i * sz + sz ≤ la.length * sz := by rw [← Nat.succ_mul]; exact Nat.mul_le_mul_right _ hi
              omega
            refine ⟨c, ?_, hoo.mono fun k hk => ho.block k fun ek => hself i j hi hj (ek ▸ hk)⟩
            show cur'[ad.off + (i * sz + j)]? = _
            rw [hcc, if_neg (by omega)]
            exact hc
          · intro i x j y hx hy
            obtain ⟨c, hc, hoo⟩ := hbc i x j y hx hy
            have hi := (List.getElem?_eq_some_iff.1 hx).1
            have hj := (List.getElem?_eq_some_iff.1 hy).1
            rw [hbsz x (List.mem_of_getElem? hx)] at hj
            have hq := (Array.getElem?_eq_some_iff.1 hc).1
            refine ⟨c, ?_, hoo.mono fun k hk => ho.block k (hnb i j k hi hj hk)⟩
            show cur'[ad.off + (la.length * sz + (i * sz + j))]? = _
            rw [hcc, if_pos (by simp only [Array.length_toList]; omega)]
            have : ad.off + (la.length * sz + (i * sz + j)) - (ad.off + la.length * sz + 0) = i * sz + j := by omega
            rw [this]
            simpa using hc
        · intro i j hi hj
          rw [elen] at hi
          intro hk
          by_cases e1 : i < la.length <;> simp only [joinN, e1, if_true, if_false] at hk
          · exact hself i j e1 hj hk
          · exact hnb (i - la.length) j _ (by omega) hj hk rfl
        · rw [elen]
          exact join_dis hadis hbdis fun i j i' j' k hi hj hi' hj' h1 h2 => by
            obtain ⟨id', hid', hh', hN'⟩ := hbN i' j' k hi' hj' h2
            obtain ⟨b1, hb1⟩ := Option.ne_none_iff_exists'.1 hidl
            obtain ⟨b2, hb2⟩ := Option.ne_none_iff_exists'.1 hh'
            have := H.disj id id' b1 b2 k hb1 hb2 (hNg i j k hi hj h1) hN'
            subst this
            exact hR id hid' hid
      have hNN : ∀ k, (k = ad.block ∨ ∃ i j, i < (la ++ lb).length ∧ j < sz ∧ joinN la.length Ng Nb i j k) → w.heap.size ≤ k ∨ ∃ r, (r ∈ R ++ idsC s ∨ r = n) ∧ h r ≠ none ∧ g.N r k := by
        rintro k (rfl | ⟨i, j, hi, hj, hk⟩)
        · exact .inr ⟨id, .inl (List.mem_append_right _ hid), hidl, hNad⟩
        · rw [elen] at hi
          refine .inr (join_in (X := fun k => ∃ r, (r ∈ R ++ idsC s ∨ r = n) ∧ h r ≠ none ∧ g.N r k) (fun i j k hi hj hk => ⟨id, .inl (List.mem_append_right _ hid), hidl, hNg i j k hi hj hk⟩)
            (fun i j k hi hj hk => ?_) i j k hi hj hk)
          obtain ⟨id', h1, h2, h3⟩ := hbN i j k hi hj hk
          exact ⟨id', .inl (List.mem_append_left _ h1), h2, h3⟩
      obtain ⟨g', H', tr, hv⟩ := H.replace (R := R ++ idsC s) (m := n) hnR (.inl hU) how (fun ad' h => by cases h; exact hsp) hNN
        (fun k hk hno => ho.block k fun ek => hno id (.inl (List.mem_append_right _ hid)) hidl (ek ▸ hNad)) ho.os ho.tape ho.output (by rw [ho.size]; exact Nat.le_refl _)
      exact ⟨_, w', g', by rw [← elen] at hrun; exact hrun, H', tr, hv⟩
    · have hcl : ∀ i j, i < la.length → j < sz → ∃ c, cur[ad.off + (i * sz + j)]? = some c := fun i j hi hj => by
        have hj' : j < la[i].cells.length := by rw [hasz _ (List.getElem_mem hi)]; exact hj
        obtain ⟨c, hc, _⟩ := hac i _ j _ (List.getElem?_eq_getElem hi) (List.getElem?_eq_getElem hj')
        exact ⟨c, hc⟩
      obtain ⟨old, r3, hos, hog⟩ := run_firstCells (P := P) (w := w.drew) (ba := some ad) (len := la.length) (cp := cp) (m := la.length) (f := fun i j => (cur[ad.off + (i * sz + j)]?).getD Go.undef) h0 (fun i j hi hj => by
        obtain ⟨c, hc⟩ := hcl i j hi hj
        refine ⟨ad, rfl, hsp, ?_⟩
        rw [World.cell?_drew, cell_of_row hrow, hc]; rfl)
      refine grow old Ng rfl (by omega) hcm r3 hos hasz haok ?_ (fun i j k hi hj hk => ⟨id, hid, hidl, hNg i j k hi hj hk⟩) hadis
      intro i x j y hx hy
      obtain ⟨c, hc, ho⟩ := hac i x j y hx hy
      have hi := (List.getElem?_eq_some_iff.1 hx).1
      have hj := (List.getElem?_eq_some_iff.1 hy).1
      rw [hasz x (List.mem_of_getElem? hx)] at hj
      exact ⟨c, by rw [hog i j hi hj, hc]; rfl, ho⟩

end
end Go.VM

