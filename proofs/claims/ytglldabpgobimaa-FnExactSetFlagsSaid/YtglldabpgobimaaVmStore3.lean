/- Struct values; slice literals; make; bytes of texts. -/
import Derived.Test.YtglldabpgobimaaVmStore2
set_option linter.unusedVariables false
set_option linter.unusedSimpArgs false
namespace Go.VM
open Go

section
variable {P : Program} {w0 w : World} {O S : Nat → Prop} {g : G} {h : Heap} {U : Nat → Prop} {a : Act} {e : Env} {n : Nat} {o : Oper}

theorem splice_list (off : Nat) : ∀ (vs : List Value) (k : Nat) (cs : Array Value), ((vs.zipIdx k).foldl (fun cs (p : Value × Nat) => cs.setIfInBounds (off + p.2) p.1) cs).size = cs.size ∧
    ∀ q, off + k + vs.length ≤ cs.size → ((vs.zipIdx k).foldl (fun cs (p : Value × Nat) => cs.setIfInBounds (off + p.2) p.1) cs)[q]? = if off + k ≤ q ∧ q < off + k + vs.length then vs[q - (off + k)]? else cs[q]?
  | [], k, cs => by
    refine ⟨rfl, fun q _ => ?_⟩
    rw [if_neg (by simp)]
    rfl
  | v :: vs, k, cs => by
    obtain ⟨h1, h2⟩ := splice_list off vs (k + 1) (cs.setIfInBounds (off + k) v)
    refine ⟨by simpa [List.zipIdx_cons] using h1, fun q hq => ?_⟩
    simp only [List.length_cons] at hq
    have := h2 q (by simp; omega)
    simp only [List.zipIdx_cons, List.foldl_cons]
    rw [this, Array.getElem?_setIfInBounds]
    by_cases e1 : q = off + k
    · subst e1
      rw [if_neg (by omega), if_pos rfl, if_pos (by omega), if_pos (by simp only [List.length_cons]; omega), Nat.sub_self]
      rfl
    · by_cases e2 : off + (k + 1) ≤ q ∧ q < off + (k + 1) + vs.length
      · rw [if_pos e2, if_pos (by simp only [List.length_cons]; omega)]
        have : q - (off + k) = (q - (off + (k + 1))) + 1 := by omega
        rw [this]; rfl
      · rw [if_neg e2, if_neg (fun e => e1 e.symm), if_neg (by simp only [List.length_cons]; omega)]

/-- Cells laid over others. -/
def splice (off : Nat) (v cs : Array Value) : Array Value := v.zipIdx.foldl (fun cs (p : Value × Nat) => cs.setIfInBounds (off + p.2) p.1) cs
theorem splice_size (off : Nat) (v cs : Array Value) : (splice off v cs).size = cs.size := by
  unfold splice
  rw [← Array.foldl_toList, Array.toList_zipIdx]
  exact (splice_list off v.toList 0 cs).1
theorem splice_get (off : Nat) (v cs : Array Value) (hf : off + v.size ≤ cs.size) (q : Nat) : (splice off v cs)[q]? = if off ≤ q ∧ q < off + v.size then v[q - off]? else cs[q]? := by
  unfold splice
  rw [← Array.foldl_toList, Array.toList_zipIdx]
  have := (splice_list off v.toList 0 cs).2 q (by simpa using hf)
  simpa using this
theorem fill_cons (place : Nat → Option (Nat × Nat)) (cells : Array Value) (i : Nat) (v : Value) (rest : List (Nat × Value)) {off size : Nat} (hp : place i = some (off, size)) (hs : v.cells.size = size) (hf : off + size ≤ cells.size) :
    Instr.fill place cells ((i, v) :: rest) = Instr.fill place (splice off v.cells cells) rest := by
  simp only [Instr.fill, hp]
  rw [if_neg (by simp; omega)]
  rfl

/-- Two lists, row by row. -/
inductive Two {α β : Type} (R : α → β → Prop) : List α → List β → Prop
  | nil : Two R [] []
  | cons {x : α} {y : β} {l : List α} {m : List β} (h : R x y) (t : Two R l m) : Two R (x :: l) (y :: m)

/-! ### struct values -/
theorem buildL_ok (H : HOk w0 O w S g h U) (place : Nat → Option (Nat × Nat)) : ∀ {ps : List (Nat × V)} {cps : List (Nat × Value)} {l l' : List V} {cells : Array Value}, buildL h ps l = some l' →
    Two (fun (p : Nat × V) (c : Nat × Value) => p.1 = c.1 ∧ VR w S g h p.2 c.2) ps cps → (∀ i, i < l.length → place i = some (i, 1)) → l.length = cells.size →
    (∀ (i : Nat) x c, l[i]? = some x → cells[i]? = some c → VR w S g h x c) →
    ∃ cells', Instr.fill place cells cps = some cells' ∧ l'.length = cells'.size ∧ ∀ (i : Nat) x c, l'[i]? = some x → cells'[i]? = some c → VR w S g h x c
  | [], _, l, l', cells, hv, hf, _, hl, hr => by
    cases hf
    simp only [buildL, Option.some.injEq] at hv
    subst hv
    exact ⟨cells, rfl, hl, hr⟩
  | (i, v) :: ps, _, l, l', cells, hv, hf, hp, hl, hr => by
    cases hf with
    | cons h1 h2 =>
      rename_i c cps
      obtain ⟨i', c⟩ := c
      simp only at h1
      obtain ⟨rfl, hvr⟩ := h1
      simp only [buildL] at hv
      split at hv
      · rename_i hc
        obtain ⟨e1, e2⟩ := hvr.cell_ok hc.2.1 (liveB_notDead H hc.2.2)
        have hpi := hp i hc.1
        rw [fill_cons place cells i c cps hpi (by rw [e1]; rfl) (by omega)]
        refine buildL_ok H place hv h2 (by simpa using hp) (by rw [splice_size]; simpa using hl) ?_
        intro q x d hx hd
        rw [splice_get _ _ _ (by rw [e1]; simp; omega), e1] at hd
        by_cases hq : q = i
        · subst hq
          rw [if_pos (by simp), Nat.sub_self] at hd
          rw [List.getElem?_set_self hc.1] at hx
          simp at hx hd
          subst hx hd
          exact hvr
        · rw [if_neg (by simp; omega)] at hd
          rw [List.getElem?_set_ne (Ne.symm hq)] at hx
          exact hr q x d hx hd
      · cases hv

theorem fieldsFlat_eq {t : TypeId} (hf : fieldsFlat P t = true) : ∃ fs : Array Field, P.underlying t = some (.struct fs) ∧ ∀ (i : Nat) (f : Field), fs[i]? = some f → f.offset = i ∧ P.cellsOf f.type = 1 := by
  unfold fieldsFlat at hf
  split at hf
  · rename_i fs hu
    refine ⟨fs, hu, fun i f hif => ?_⟩
    have hi := (Array.getElem?_eq_some_iff.1 hif).1
    have := (List.all_eq_true.1 hf) i (by simpa using hi)
    simp only [hif, Bool.and_eq_true, beq_iff_eq] at this
    exact this
  · cases hf

theorem places_flat : ∀ (fs : List Field) (k : Nat), (∀ (i : Nat) (f : Field), fs[i]? = some f → f.offset = k + i ∧ P.cellsOf f.type = 1) →
    fs.mapM (fun f => (P.info? f.type).map fun i => (f.offset, i.size)) = some ((List.range' k fs.length).map fun i => (i, 1))
  | [], k, _ => by simp
  | f :: fs, k, h => by
    have h0 := h 0 f rfl
    obtain ⟨i, hi, hs⟩ := info_of_cellsOf (P := P) (t := f.type) (by omega)
    have ih := places_flat fs (k + 1) (fun i f hf => by have := h (i + 1) f (by simpa using hf); omega)
    simp only [List.mapM_cons, hi, Option.map_some, ih]
    simp [List.range'_succ, h0.1, hs, h0.2]

theorem forall2_map {α β γ : Type} {R : α → β → Prop} (f : γ → α) (k : γ → β) : ∀ (l : List γ), (∀ x ∈ l, R (f x) (k x)) → Two R (l.map f) (l.map k)
  | [], _ => .nil
  | x :: l, h => .cons (h x (by simp)) (forall2_map f k l fun y hy => h y (by simp [hy]))

theorem op_build (H : HOk w0 O w S g h U) (E : ∀ t, VR w S g h (e t) (a.tmps.getD t Go.undef)) {t : TypeId} {ps : Array (Nat × Operand)} {z l : List V} (ho : o.op = .build t ps) (hz : zeroV P t = some (.agg z)) (hff : fieldsFlat P t = true)
    (hv : buildL h (ps.toList.map fun p => (p.1, evO P e t p.2)) z = some l) : Does P w0 O w S g h U a n o (.agg l) [] := by
  obtain ⟨i, zv, hi, hzv, hzs, hzb, hzc, hzr, hzz⟩ := zeroV_ok (w := w) (S := S) (g := g) (h := h) hz
  obtain ⟨fs, hu, hfs⟩ := fieldsFlat_eq hff
  rcases hzz with ⟨fs', hu', z', cs, ez, ezv, hzl⟩ | ⟨hns, _⟩
  · cases ez
    subst ezv
    rw [hu] at hu'; cases hu'
    have hpl := places_flat (P := P) fs.toList 0 (fun i f hf => by have := hfs i f (by simpa using hf); omega)
    obtain ⟨cells', hfill, hl', hr'⟩ := buildL_ok H (((List.range' 0 fs.toList.length).map fun i => (i, 1)).toArray[·]?) (cps := ps.toList.map fun p => (p.1, a.eval p.2)) (cells := cs) hv
      (forall2_map _ _ _ fun p _ => ⟨rfl, evO_ok E t p.2⟩)
      (fun i hi => by
        have : i < fs.size := by rw [← hzl]; exact hi
        simp [this])
      (by simpa [Value.cells, V.cells] using hzs.symm) (fun i x c hx hc => hzc i x c (by simpa [V.cells] using hx) (by simpa [Value.cells] using hc))
    refine does_pure H (cv := .agg cells') ?_ (.agg _ _ hl' hr')
    have hb : P.built t (ps.map fun (i, x) => (i, a.eval x)).toList = some cells' := by
      simp only [Program.built, hi, hu, hzv, hpl]
      simpa [Value.cells] using hfill
    simp [execOp, ho, run_build w t _ _ hb]
  · exact absurd hu (hns fs)

/-! ### rows laid anew -/
/-- Cells that make elements, closed. -/
def RowInv (w : World) (g : G) (h : Heap) (sz : Nat) (els : List V) (cells : Array Value) (ids : List Nat) : Prop :=
  cells.size = els.length * sz ∧ (∀ x ∈ els, x.cells.length = sz) ∧ (∀ x ∈ els, ∀ y ∈ x.cells, okCell y = true) ∧ (∀ id ∈ ids, h id ≠ none) ∧ ∃ F : Nat → Nat → Nat → Prop,
    (∀ (i : Nat) x (j : Nat) y, els[i]? = some x → x.cells[j]? = some y → ∃ c, cells[i * sz + j]? = some c ∧ OW w y c (F i j)) ∧ (∀ i j, i < els.length → j < sz → InIds g h ids (F i j)) ∧
    (ids.Nodup → ∀ i j i' j' k, i < els.length → j < sz → i' < els.length → j' < sz → F i j k → F i' j' k → i = i' ∧ j = j')

theorem RowInv.set (H : HOk w0 O w S g h U) {sz i : Nat} {els : List V} {cells vs : Array Value} {ids ids' : List Nat} {y : V} (R : RowInv w g h sz els cells ids) (E : ElemOk w g h y vs ids') (hi : i < els.length) (hy : y.cells.length = sz) :
    RowInv w g h sz (els.set i y) (splice (i * sz) vs cells) (ids ++ ids') := by
  obtain ⟨r1, r2, r3, r4, F, r5, r6, r7⟩ := R
  obtain ⟨c1, c2, c3, Ns, c4, c5, c6⟩ := E
  have hmul : i * sz + sz ≤ els.length * sz := by rw [← Nat.succ_mul]; exact Nat.mul_le_mul_right _ hi
  have hlen : (els.set i y).length = els.length := by simp
  refine ⟨by rw [splice_size, r1, hlen], ?_, ?_, ?_, fun p q => if p = i then Ns q else F p q, ?_, ?_, ?_⟩
  · intro x hx
    rcases List.mem_or_eq_of_mem_set hx with hm | rfl
    · exact r2 x hm
    · exact hy
  · intro x hx
    rcases List.mem_or_eq_of_mem_set hx with hm | rfl
    · exact r3 x hm
    · exact c2
  · intro id hid
    rcases List.mem_append.1 hid with hm | hm
    · exact r4 id hm
    · exact c3 id hm
  · intro p x q z hx hz
    have hp : p < els.length := by have := (List.getElem?_eq_some_iff.1 hx).1; simpa using this
    by_cases hpi : p = i
    · subst hpi
      rw [List.getElem?_set_self hi] at hx
      cases hx
      have hq := (List.getElem?_eq_some_iff.1 hz).1
      have hqv : q < vs.size := by omega
      obtain ⟨h1, _⟩ := c4 q z vs[q] hz (Array.getElem?_eq_getElem hqv)
      refine ⟨vs[q], ?_, by simpa using h1⟩
      rw [splice_get _ _ _ (by omega), if_pos (by omega)]
      have : p * sz + q - p * sz = q := by omega
      rw [this]; exact Array.getElem?_eq_getElem hqv
    · rw [List.getElem?_set_ne (Ne.symm hpi)] at hx
      have hq := (List.getElem?_eq_some_iff.1 hz).1
      rw [r2 x (List.mem_of_getElem? hx)] at hq
      obtain ⟨c, h1, h2⟩ := r5 p x q z hx hz
      refine ⟨c, ?_, by simpa [hpi] using h2⟩
      rw [splice_get _ _ _ (by omega), if_neg ?_]
      · exact h1
      · intro hcon
        rcases Nat.lt_or_ge p i with hlt | hge
        · have : p * sz + sz ≤ i * sz := by rw [← Nat.succ_mul]; exact Nat.mul_le_mul_right _ hlt
          omega
        · have : i * sz + sz ≤ p * sz := by rw [← Nat.succ_mul]; exact Nat.mul_le_mul_right _ (by omega)
          omega
  · intro p q hp hq k hk
    by_cases hpi : p = i
    · simp only [hpi, if_true] at hk
      obtain ⟨id, h1, h2⟩ := c5 q (by omega) k hk
      exact ⟨id, List.mem_append_right _ h1, h2⟩
    · simp only [hpi, if_false] at hk
      obtain ⟨id, h1, h2⟩ := r6 p q (by rw [hlen] at hp; exact hp) hq k hk
      exact ⟨id, List.mem_append_left _ h1, h2⟩
  · intro hnd p q p' q' k hp hq hp' hq' hk hk'
    rw [List.nodup_append] at hnd
    rw [hlen] at hp hp'
    have hx : ∀ id ∈ ids, id ∉ ids' := fun id q1 q2 => hnd.2.2 id q1 id q2 rfl
    by_cases e1 : p = i <;> by_cases e2 : p' = i <;> simp only [e1, e2, if_true, if_false] at hk hk'
    · exact ⟨e1.trans e2.symm, c6 hnd.2.1 q q' k (by omega) (by omega) hk hk'⟩
    · exact absurd hk (InIds.disj H (r6 p' q' hp' hq') (c5 q (by omega)) hx k hk')
    · exact absurd hk' (InIds.disj H (r6 p q hp hq) (c5 q' (by omega)) hx k hk)
    · exact r7 hnd.1 p q p' q' k hp hq hp' hq' hk hk'

theorem clParts_ok (H : HOk w0 O w S g h U) {sz : Nat} : ∀ {ps : List (Nat × V)} {cps : List (Nat × Value)} {els els' : List V} {cells : Array Value} {acc ids : List Nat}, clParts h sz ps els = some (els', ids) →
    Two (fun (p : Nat × V) (c : Nat × Value) => p.1 = c.1 ∧ VR w S g h p.2 c.2) ps cps → RowInv w g h sz els cells acc →
    ∃ cells', Instr.fill (fun i => some (i * sz, sz)) cells cps = some cells' ∧ RowInv w g h sz els' cells' (acc ++ ids)
  | [], _, els, els', cells, acc, ids, hv, hf, hR => by
    cases hf
    simp only [clParts, Option.some.injEq, Prod.mk.injEq] at hv
    obtain ⟨rfl, rfl⟩ := hv
    exact ⟨cells, rfl, by simpa using hR⟩
  | (i, v) :: ps, _, els, els', cells, acc, ids, hv, hf, hR => by
    cases hf with
    | cons h1 h2 =>
      rename_i c cps
      obtain ⟨i', c⟩ := c
      simp only at h1
      obtain ⟨rfl, hvr⟩ := h1
      simp only [clParts, Option.bind_eq_some_iff] at hv
      obtain ⟨⟨y, i1⟩, hy, hv⟩ := hv
      simp only at hv
      split at hv
      · rename_i hc
        simp only [Bool.and_eq_true, decide_eq_true_eq, beq_iff_eq] at hc
        simp only [Option.map_eq_some_iff] at hv
        obtain ⟨⟨els'', i2⟩, hrec, hv⟩ := hv
        simp only [Prod.mk.injEq] at hv
        obtain ⟨rfl, rfl⟩ := hv
        have E := clA_ok H hy hvr
        have hmul : i * sz + sz ≤ els.length * sz := by rw [← Nat.succ_mul]; exact Nat.mul_le_mul_right _ hc.1
        obtain ⟨cells', hfill, hR'⟩ := clParts_ok H hrec h2 (hR.set H E hc.1 hc.2)
        refine ⟨cells', ?_, by simpa using hR'⟩
        rw [fill_cons _ cells i c cps rfl (by have := E.1; omega) (by rw [hR.1]; exact hmul)]
        exact hfill
      · cases hv

/-- A row that is laid anew. -/
theorem HOk.newRow (H : HOk w0 O w S g h U) {sz : Nat} {els : List V} {cells : Array Value} {ids : List Nat} (t : TypeId) {cap : Nat} {rest : Array Value} (hR : RowInv w g h sz els cells ids) (hnd : ids.Nodup) (hU : ¬ U n)
    (hcap : els.length ≤ cap) (hmax : cap ≤ maxLen) (hrest : cap * sz ≤ cells.size + rest.size) {fr : Nat × Nat} (hfr : NoFr (cells ++ rest).size fr) :
    ∃ g', HOk w0 O (w.alloc (.cells (cells ++ rest) t fr)) S g' (updsH h (gone ids ++ [(n, some ⟨.arr, sz, els⟩)])) (fun k => U k ∨ k = n) ∧ Tr w S g h (w.alloc (.cells (cells ++ rest) t fr)) S g' (updsH h (gone ids ++ [(n, some ⟨.arr, sz, els⟩)])) ∧
      VR (w.alloc (.cells (cells ++ rest) t fr)) S g' (updsH h (gone ids ++ [(n, some ⟨.arr, sz, els⟩)])) (.own n) (.slice (some ⟨w.heap.size, 0, none⟩) els.length cap) := by
  obtain ⟨r1, r2, r3, r4, F, r5, r6, r7⟩ := hR
  have hlt : ∀ id k, h id ≠ none → g.N id k → k < w.heap.size := fun id k hh hk => by
    obtain ⟨b, hb'⟩ := Option.ne_none_iff_exists'.1 hh
    exact H.lt id b k hb' hk
  have hwk : ∀ k, k < w.heap.size → (w.alloc (.cells (cells ++ rest) t fr)).heap[k]? = w.heap[k]? := fun k hk => heap_alloc_old' w _ k hk
  have hFlt : ∀ i j k, i < els.length → j < sz → F i j k → k < w.heap.size := fun i j k hi hj hk => by
    obtain ⟨id, _, h1, h2⟩ := r6 i j hi hj k hk
    exact hlt id k h1 h2
  have how : OW (w.alloc (.cells (cells ++ rest) t fr)) (.lst sz els) (.slice (some ⟨w.heap.size, 0, none⟩) els.length cap) (fun k => k = w.heap.size ∨ ∃ i j, i < els.length ∧ j < sz ∧ F i j k) := by
    refine OW.mk_row (cur := cells ++ rest) (e := t) (fr := fr) rfl hcap hmax r2 r3 (heap_alloc_new' w _) hfr (by simp only [Array.size_append, Nat.zero_add]; exact hrest) ?_ ?_ (r7 hnd)
    · intro i x j y hx hy
      obtain ⟨c, h1, h2⟩ := r5 i x j y hx hy
      have hi := (List.getElem?_eq_some_iff.1 hx).1
      have hj := (List.getElem?_eq_some_iff.1 hy).1
      rw [r2 x (List.mem_of_getElem? hx)] at hj
      refine ⟨c, ?_, h2.mono fun k hk => hwk k (hFlt i j k hi hj hk)⟩
      simp only [Nat.zero_add]
      rw [Array.getElem?_append_left (Array.getElem?_eq_some_iff.1 h1).1]
      exact h1
    · intro i j hi hj hk
      exact Nat.lt_irrefl _ (hFlt i j _ hi hj hk)
  have hNN : ∀ k, (k = w.heap.size ∨ ∃ i j, i < els.length ∧ j < sz ∧ F i j k) → w.heap.size ≤ k ∨ ∃ r, (r ∈ ids ∨ r = n) ∧ h r ≠ none ∧ g.N r k := by
    rintro k (rfl | ⟨i, j, hi, hj, hk⟩)
    · exact .inl (Nat.le_refl _)
    · obtain ⟨id, h1, h2, h3⟩ := r6 i j hi hj k hk
      exact .inr ⟨id, .inl h1, h2, h3⟩
  obtain ⟨g', H', tr, hv⟩ := H.replace (w' := w.alloc (.cells (cells ++ rest) t fr)) (R := ids) (m := n) (fun hn => hU (H.used n (.inl (r4 n hn)))) (.inl hU) how (fun ad h => by cases h; rfl) hNN (fun k hk _ => hwk k hk) rfl rfl rfl (by simp)
  exact ⟨g', H', tr, hv⟩

/-- A zero value as an element; many of it. -/
theorem rowInv_zero (H : HOk w0 O w S g h U) {z0 z : V} {zv : Value} {sz len : Nat} (hcl : clA h z0 = some (z, [])) (hz : VR w S g h z0 zv) (hzl : z.cells.length = sz) (h0 : 0 < sz) :
    RowInv w g h sz (List.replicate len z) ((Array.range (len * sz)).map (zv.cells[· % zv.cells.size]!)) [] := by
  obtain ⟨c1, c2, c3, Ns, c4, c5, c6⟩ := clA_ok H hcl hz
  refine ⟨by simp, ?_, ?_, by simp, fun _ j => Ns j, ?_, ?_, ?_⟩
  · intro x hx; rw [(List.mem_replicate.1 hx).2]; exact hzl
  · intro x hx; rw [(List.mem_replicate.1 hx).2]; exact c2
  · intro i x j y hx hy
    have hi : i < len := by have := (List.getElem?_eq_some_iff.1 hx).1; simpa using this
    have hxz : x = z := by rw [List.getElem?_replicate] at hx; simp [hi] at hx; exact hx.symm
    subst hxz
    have hj := (List.getElem?_eq_some_iff.1 hy).1
    have hjs : j < zv.cells.size := by omega
    have hmul : i * sz + sz ≤ len * sz := by rw [← Nat.succ_mul]; exact Nat.mul_le_mul_right _ hi
    have hq : i * sz + j < len * sz := by omega
    have e2 : (i * sz + j) % zv.cells.size = j := by
      rw [c1, hzl, Nat.mul_comm, Nat.mul_add_mod, Nat.mod_eq_of_lt (by omega)]
    refine ⟨zv.cells[j], ?_, (c4 j y _ hy (Array.getElem?_eq_getElem hjs)).1⟩
    simp only [Array.getElem?_map, Array.getElem?_range, hq, if_true, Option.map_some, e2]
    simp [hjs]
  · intro i j hi hj k hk
    exact c5 j (by omega) k hk
  · intro _ i j i' j' k hi hj hi' hj' hk _
    obtain ⟨id, h1, _⟩ := c5 j (by omega) k hk
    simp at h1

theorem RowInv.zero_agree (H : HOk w0 O w S g h U) : True := trivial

theorem op_buildSlice (H : HOk w0 O w S g h U) (E : ∀ t, VR w S g h (e t) (a.tmps.getD t Go.undef)) {t el : TypeId} {len : Nat} {ps : Array (Nat × Operand)} {z0 z : V} {r : List V × List Nat} (ho : o.op = .buildSlice t len ps) (hu : P.underlying t = some (.slice el))
    (hz0 : zeroV P el = some z0) (hcl : clA h z0 = some (z, [])) (hzl : z.cells.length = P.cellsOf el) (h0 : 0 < P.cellsOf el) (hb : len * P.cellsOf el ≤ 16777216)
    (hv : clParts h (P.cellsOf el) (ps.toList.map fun p => (p.1, evO P e el p.2)) (List.replicate len z) = some r) (hnd : nodupB r.2 = true) (hU : ∀ i, n ≤ i → i < n + stride → ¬ U i) :
    Does P w0 O w S g h U a n o (.own n) (gone r.2 ++ [(n, some ⟨.arr, P.cellsOf el, r.1⟩)]) := by
  obtain ⟨i, zv, hi, hzv, hzs, hzb, hzc, hzr, _⟩ := zeroV_ok (w := w) (S := S) (g := g) (h := h) hz0
  obtain ⟨els, ids⟩ := r
  have R0 := rowInv_zero H (len := len) hcl hzr hzl h0
  obtain ⟨cells', hfill, R1⟩ := clParts_ok H hv (cps := ps.toList.map fun p => (p.1, a.eval p.2)) (forall2_map _ _ _ fun p _ => ⟨rfl, evO_ok E el p.2⟩) R0
  have hlen : ∀ (ps : List (Nat × V)) (els els' : List V) (ids : List Nat), clParts h (P.cellsOf el) ps els = some (els', ids) → els'.length = els.length := by
    intro ps
    induction ps with
    | nil => intro els els' ids hv; simp only [clParts, Option.some.injEq, Prod.mk.injEq] at hv; rw [hv.1]
    | cons p ps ih =>
      intro els els' ids hv
      obtain ⟨i, v⟩ := p
      simp only [clParts, Option.bind_eq_some_iff] at hv
      obtain ⟨y, _, hv⟩ := hv
      split at hv
      · simp only [Option.map_eq_some_iff] at hv
        obtain ⟨z, hz, hv⟩ := hv
        simp only [Prod.mk.injEq] at hv
        rw [← hv.1, ih _ _ _ hz]; simp
      · cases hv
  have hl := hlen _ _ _ _ hv
  simp only [List.length_replicate] at hl
  have hle : len ≤ 16777216 := Nat.le_trans (Nat.le_mul_of_pos_right _ h0) hb
  obtain ⟨g', H', tr, hvr⟩ := H.newRow (n := n) el (cap := len) (rest := #[]) (fr := (0, 0)) R1 (by simpa using nodupB_iff.1 hnd) (hU n (Nat.le_refl _) (by simp [stride])) (by rw [hl]; exact Nat.le_refl _) (by unfold maxLen; omega)
    (by rw [R1.1, hl]; simp) (fun o _ => by simp)
  simp only [List.nil_append, Array.append_empty] at H' tr hvr
  refine ⟨_, _, g', .inl ?_, H'.weak ?_, tr, hvr⟩
  · have hnl : ¬ len * P.cellsOf el > 2 ^ 24 := by omega
    have hz' : (zeroValue el).run P w = .ok zv w := run_zeroValue hi hzv
    have hparts : (ps.map fun (i, x) => (i, a.eval x)).toList = ps.toList.map fun p => (p.1, a.eval p.2) := by simp
    simp only [execOp, ho, Instr.buildSlice, Sem.run_bind, run_underlying' hu, Result.andThen_ok, run_sizeOf (P := P) (w := w) (t := el) (by omega), hnl, if_false, Sem.run_ite, hz', Sem.run_pure, hparts]
    by_cases hzero : len * P.cellsOf el = 0
    · have hl0 : len = 0 := by
        rcases Nat.mul_eq_zero.1 hzero with h1 | h1
        · exact h1
        · omega
      subst hl0
      have e0 : ((Array.range (0 * P.cellsOf el)).map fun x => zv.cells[x % zv.cells.size]!) = #[] := by simp
      rw [e0] at hfill
      have r0 : Array.range 0 = #[] := rfl
      simp [r0, hfill, newRow, hl]
    · simp only [hzero, if_false]
      rw [hfill]
      simp [newRow, hl]
  · rintro k (hk | rfl)
    · exact .inl hk
    · exact .inr ⟨Nat.le_refl _, by simp [stride]⟩

theorem op_makeSlice (H : HOk w0 O w S g h U) {t el : TypeId} {lo co : Operand} {m : Int} {z0 z : V} (ho : o.op = .makeSlice t lo co) (hu : P.underlying t = some (.slice el))
    (hl : VR w S g h (.int .i64 m) (a.eval lo)) (hc : VR w S g h (.int .i64 m) (a.eval co)) (hz0 : zeroV P el = some z0) (hcl : clA h z0 = some (z, [])) (hzl : z.cells.length = P.cellsOf el) (h0 : 0 < P.cellsOf el) (hm0 : 0 ≤ m) (hm : m ≤ 9223372036854775807)
    (hb : m * P.bytesOf el ≤ 140737488355328) (hU : ∀ i, n ≤ i → i < n + stride → ¬ U i) : Does P w0 O w S g h U a n o (.own n) [(n, some ⟨.arr, P.cellsOf el, List.replicate m.toNat z⟩)] := by
  obtain ⟨i, zv, hi, hzv, hzs, hzb, hzc, hzr, _⟩ := zeroV_ok (w := w) (S := S) (g := g) (h := h) hz0
  have R0 := rowInv_zero H (len := m.toNat) hcl hzr hzl h0
  have el' := hl.inv_int
  have ec' := hc.inv_int
  obtain ⟨g', H', tr, hvr⟩ := H.newRow (n := n) el (cap := m.toNat) (rest := #[]) (fr := (0, 0)) R0 (by simp) (hU n (Nat.le_refl _) (by simp [stride])) (by simp) (by unfold maxLen; omega) (by simp) (fun o _ => by simp)
  simp only [gone, List.map_nil, List.nil_append, Array.append_empty, List.length_replicate] at H' tr hvr
  refine ⟨_, _, g', .inl ?_, H'.weak ?_, tr, hvr⟩
  · have hz' : ∀ w : World, (zeroValue el).run P w = .ok zv w := fun w => run_zeroValue hi hzv
    have hti : (typeInfo el).run P w = .ok i w := by simp [typeInfo, hi]
    have hby : (i.bytes : Int) = P.bytesOf el := by simp [Program.bytesOf, hi]
    have hwrap : IntKind.i64.wrap m = m := by
      have e1 : IntKind.i64.bits = 64 := rfl
      simp only [IntKind.wrap, IntKind.signed, e1]
      have : m % 2 ^ 64 = m := Int.emod_eq_of_lt hm0 (by omega)
      rw [this]
      simp
      omega
    have hcomm : (i.bytes : Int) * m ≤ 140737488355328 := by rw [hby, Int.mul_comm]; exact hb
    have htl : ¬ ((decide (m < 0) || decide ((i.bytes : Int) * m > 2 ^ 48)) = true ∨ decide (m < 0) = true ∨ decide (m > m) = true) := by
      simp
      omega
    have hso := run_sizeOf (P := P) (w := w) (t := el) (by omega)
    have hmn : ¬ m < 0 := by omega
    have hmb : ¬ (i.bytes : Int) * m > 2 ^ 48 := by omega
    have hmb' : ¬ (281474976710656 < (i.bytes : Int) * m) := by omega
    have r0 : Array.range 0 = #[] := rfl
    by_cases hzero : m.toNat * P.cellsOf el = 0
    · simp [r0, execOp, ho, Instr.makeSlice, run_underlying' hu, el', ec', asInt, asIntOf, hti, hwrap, hmn, hmb', hso, hzero, newRow]
    · simp [execOp, ho, Instr.makeSlice, run_underlying' hu, el', ec', asInt, asIntOf, hti, hwrap, hmn, hmb', hso, hzero, hz', newRow]
  · rintro k (hk | rfl)
    · exact .inl hk
    · exact .inr ⟨Nat.le_refl _, by simp [stride]⟩

end
end Go.VM
