/- Operations that read memory: lengths, loads. -/
import Derived.Test.YtglldabpgobimaaVmOps2
set_option linter.unusedVariables false
set_option linter.unusedSimpArgs false
namespace Go.VM
open Go

section
variable {P : Program} {w0 w : World} {O S : Nat → Prop} {g : G} {h : Heap} {U : Nat → Prop} {a : Act} {e : Env} {n : Nat} {o : Oper}

theorem elsOf_len {v : V} {c : Value} {sz : Nat} {l : List V} (H : HOk w0 O w S g h U) (hv : elsOf h v = some (sz, l)) (x : VR w S g h v c) : ∃ ba cp, c = .slice ba l.length cp ∧ (l.length ≤ cp ∨ l = []) := by
  cases v with
  | lst sz' l' =>
    simp only [elsOf, Option.some.injEq, Prod.mk.injEq] at hv
    obtain ⟨rfl, rfl⟩ := hv
    have := x.inv_lst
    cases this with
    | lnil _ ba cp => exact ⟨ba, cp, rfl, .inr rfl⟩
    | lst _ _ ad cap f hsp hS hlen hsz hc hr => exact ⟨some ad, cap, rfl, .inl hlen⟩
  | nils sz' =>
    simp only [elsOf, Option.some.injEq, Prod.mk.injEq] at hv
    obtain ⟨rfl, rfl⟩ := hv
    exact ⟨none, 0, x.inv_nils, .inr rfl⟩
  | own id =>
    simp only [elsOf] at hv
    split at hv
    · rename_i sz' els hb
      cases hv
      obtain ⟨_, e⟩ := x.inv_own hb (H.notDead hb)
      exact ⟨_, _, e, .inl (H.blk id _ hb).1.len_le.1⟩
    · cases hv
  | win id lo len =>
    simp only [elsOf] at hv
    split at hv
    · rename_i sz' els hb
      split at hv
      · rename_i hle
        cases hv
        have hl : ((els.drop lo).take len).length = len := by simp; omega
        rw [hl]
        obtain ⟨_, e⟩ := x.inv_win hb (H.notDead hb)
        rcases e with ⟨h0, _, a', e⟩ | ⟨ad, cp, hbase, hcp, hlc, e⟩
        · subst h0; exact ⟨a', 0, e, .inl (Nat.le_refl _)⟩
        · exact ⟨_, cp, e, .inl hlc⟩
      · cases hv
    · cases hv
  | _ => simp [elsOf] at hv

theorem len_ok (H : HOk w0 O w S g h U) {t : TypeId} {v r : V} {c : Value} (hv : lenV P h t v = some r) (x : VR w S g h v c) (ty : TypeId) {tys : Array TypeId} (ht : tys[0]? = some t) :
    ∃ cv, (Builtin.len_ tys ty #[c]).run P w = .ok cv w ∧ RD w S r cv := by
  unfold lenV at hv
  split at hv
  · rename_i s hu
    cases hv
    obtain ⟨b, rfl, hb⟩ := x.inv_str
    refine ⟨.int .i64 b.size, ?_, ?_⟩
    · simp [Builtin.len_, ht, run_underlying' hu, goInt]
    · have : s.length = b.size := by rw [← hb, Array.length_toList]; rfl
      rw [this]; exact .int _ _
  · rename_i e' hu
    simp only [Option.map_eq_some_iff] at hv
    obtain ⟨⟨sz, l⟩, hl, rfl⟩ := hv
    obtain ⟨ba, cp, rfl, _⟩ := elsOf_len H hl x
    refine ⟨.int .i64 l.length, ?_, .int _ _⟩
    simp [Builtin.len_, ht, run_underlying' hu, goInt]
  · cases hv

theorem min_ok {x y r : V} {cx cy : Value} (hx : VR w S g h x cx) (hy : VR w S g h y cy) (hv : minV x y = some r) (tys : Array TypeId) (ty : TypeId) :
    ∃ cv, (Builtin.min_ tys ty #[cx, cy]).run P w = .ok cv w ∧ RD w S r cv := by
  unfold minV at hv
  split at hv
  · cases hv
    obtain rfl := hx.inv_int
    obtain rfl := hy.inv_int
    exact ⟨_, by simp [Builtin.min_, Builtin.min2], .int _ _⟩
  · cases hv
theorem max_ok {x y r : V} {cx cy : Value} (hx : VR w S g h x cx) (hy : VR w S g h y cy) (hv : maxV x y = some r) (tys : Array TypeId) (ty : TypeId) :
    ∃ cv, (Builtin.max_ tys ty #[cx, cy]).run P w = .ok cv w ∧ RD w S r cv := by
  unfold maxV at hv
  split at hv
  · cases hv
    obtain rfl := hx.inv_int
    obtain rfl := hy.inv_int
    exact ⟨_, by simp [Builtin.max_, Builtin.max2], .int _ _⟩
  · cases hv

/-! ### rows -/
/-- An array's cells, out of its own words. -/
theorem OW.row {sz m cap : Nat} {l : List V} {ad : Addr} {N : Nat → Prop} (x : OW w (.lst sz l) (.slice (some ad) m cap) N) :
    m = l.length ∧ ad.spot = none ∧ l.length ≤ cap ∧ cap ≤ maxLen ∧ (∀ x ∈ l, x.cells.length = sz) ∧ (∀ x ∈ l, ∀ y ∈ x.cells, okCell y = true) ∧ ∃ (cur : Array Value) (e : TypeId) (fr : Nat × Nat) (Ng : Nat → Nat → Nat → Prop), w.heap[ad.block]? = some (.cells cur e fr) ∧ NoFr cur.size fr ∧ ad.off + cap * sz ≤ cur.size ∧
      (∀ (i : Nat) x (j : Nat) y, l[i]? = some x → x.cells[j]? = some y → ∃ c, cur[ad.off + (i * sz + j)]? = some c ∧ OW w y c (Ng i j)) ∧
      (∀ i j, i < l.length → j < sz → ¬ Ng i j ad.block) ∧ (∀ i j i' j' k, i < l.length → j < sz → i' < l.length → j' < sz → Ng i j k → Ng i' j' k → i = i' ∧ j = j') ∧
      ∀ k, N k ↔ (k = ad.block ∨ ∃ i j, i < l.length ∧ j < sz ∧ Ng i j k) := by
  generalize hv : V.lst sz l = v at x
  generalize hc : Value.slice (some ad) m cap = cv at x
  cases x <;> try (simp_all; done)
  rename_i sz' l' ad' cap' cur e fr f Ng hsp hb hfr hlen hcap hmax hsz hok hcc hr hself hdis
  cases hv
  cases hc
  refine ⟨rfl, hsp, hlen, hmax, hsz, hok, cur, e, fr, Ng, hb, hfr, hcap, ?_, hself, hdis, fun k => Iff.rfl⟩
  intro i x j y hx hy
  have hi := (List.getElem?_eq_some_iff.1 hx).1
  have hj := (List.getElem?_eq_some_iff.1 hy).1
  rw [hsz x (List.mem_of_getElem? hx)] at hj
  exact ⟨f i j, hcc i j hi hj, hr i x j y hx hy⟩

/-- An array's own words, out of its cells. -/
theorem OW.mk_row {sz cap : Nat} {l : List V} {ad : Addr} {cur : Array Value} {e : TypeId} {fr : Nat × Nat} {Ng : Nat → Nat → Nat → Prop} (hsp : ad.spot = none) (hlen : l.length ≤ cap) (hmax : cap ≤ maxLen)
    (hsz : ∀ x ∈ l, x.cells.length = sz) (hok : ∀ x ∈ l, ∀ y ∈ x.cells, okCell y = true) (hb : w.heap[ad.block]? = some (.cells cur e fr)) (hfr : NoFr cur.size fr) (hcap : ad.off + cap * sz ≤ cur.size)
    (hr : ∀ (i : Nat) x (j : Nat) y, l[i]? = some x → x.cells[j]? = some y → ∃ c, cur[ad.off + (i * sz + j)]? = some c ∧ OW w y c (Ng i j))
    (hself : ∀ i j, i < l.length → j < sz → ¬ Ng i j ad.block) (hdis : ∀ i j i' j' k, i < l.length → j < sz → i' < l.length → j' < sz → Ng i j k → Ng i' j' k → i = i' ∧ j = j') :
    OW w (.lst sz l) (.slice (some ad) l.length cap) (fun k => k = ad.block ∨ ∃ i j, i < l.length ∧ j < sz ∧ Ng i j k) := by
  refine .lst sz l ad cap cur e fr (fun i j => (cur[ad.off + (i * sz + j)]?).getD Go.undef) Ng hsp hb hfr hlen hcap hmax hsz hok ?_ ?_ hself hdis
  · intro i j hi hj
    have hj' : j < l[i].cells.length := by rw [hsz _ (List.getElem_mem hi)]; exact hj
    obtain ⟨c, hc, _⟩ := hr i l[i] j _ (List.getElem?_eq_getElem hi) (List.getElem?_eq_getElem hj')
    rw [hc]; rfl
  · intro i x j y hx hy
    obtain ⟨c, hc, ho⟩ := hr i x j y hx hy
    rw [hc]; exact ho

theorem BlkOk.base_arr {id sz : Nat} {els : List V} (hB : BlkOk w S g h id ⟨.arr, sz, els⟩) {i : Nat} {v : V} (hi : els[i]? = some v) : ∃ ad, g.base id = some ad := by
  cases hb : g.base id with
  | some ad => exact ⟨ad, rfl⟩
  | none =>
    have := hB.1
    rw [hb] at this
    rw [this.none_nil.1] at hi
    simp at hi

/-- A cell of a local block. -/
theorem cellAt (H : HOk w0 O w S g h U) {id : Nat} {b : Blk} (hb : h id = some b) {i : Nat} {v : V} (hi : b.els[i]? = some v) {ad : Addr} (hbase : g.base id = some ad) {j : Nat} {y : V} (hj : v.cells[j]? = some y) :
    ad.spot = none ∧ ∃ c, w.cell? ⟨ad.block, ad.off + (i * b.sz + j), none⟩ = some c ∧ (b.kind = .box ∨ y.flatC = true → VR w S g h y c) := by
  have hB := H.blk id b hb
  obtain ⟨kind, sz, els⟩ := b
  cases kind with
  | box =>
    obtain ⟨ad', cur, e, fr, v', h1, h2, h3, h4, h5, h6, h7, h8, h9, h10, h11⟩ := hB
    rw [h1] at hbase; cases hbase
    simp only at hi
    rw [h6] at hi
    have hi0 : i = 0 := by
      cases i with
      | zero => rfl
      | succ i => simp at hi
    subst hi0
    simp only [List.getElem?_cons_zero, Option.some.injEq] at hi
    subst hi
    have hjl : j < cur.size := by rw [h8]; exact (List.getElem?_eq_some_iff.1 hj).1
    have hc : cur[j]? = some cur[j] := Array.getElem?_eq_getElem hjl
    refine ⟨h2, cur[j], ?_, fun _ => h10 j y _ hj hc⟩
    rw [cell_of_row h4, h3]
    simp [hc]
  | arr =>
    have hO := hB.1
    rw [hbase] at hO
    obtain ⟨_, hsp, _, _, hsz, _, cur, e, fr, Ng, h1, h2, h3, h4, h5, h6, h7⟩ := hO.row
    obtain ⟨c, hc, ho⟩ := h4 i v j y hi hj
    refine ⟨hsp, c, by rw [cell_of_row h1]; exact hc, ?_⟩
    rintro (hk | hf)
    · cases hk
    · exact .rd _ _ (ho.flatC_rd hf w S)

theorem flat_cells {v : V} (hf : v.flat = true) {j : Nat} {y : V} (hy : v.cells[j]? = some y) : y.flatC = true := by
  cases v with
  | agg l => exact (List.all_eq_true.1 hf) y (List.mem_of_getElem? hy)
  | _ =>
    simp only [V.cells] at hy
    cases j with
    | zero => simp at hy; subst hy; exact hf
    | succ j => simp at hy

theorem isScalarT_run {t : TypeId} (hs : isScalarT P t = true) : (isAgg t).run P w = .ok false w := by
  unfold isScalarT at hs
  cases hu : P.underlying t with
  | none => simp [hu] at hs
  | some d =>
    rw [isStruct_isAgg ⟨d, hu⟩]
    unfold isStruct
    rw [hu] at hs ⊢
    cases d <;> simp_all
theorem isStruct_run {t : TypeId} (hs : isStruct P t = true) : (isAgg t).run P w = .ok true w := by
  cases hu : P.underlying t with
  | none => simp [isStruct, hu] at hs
  | some d => rw [isStruct_isAgg ⟨d, hu⟩, hs]

/-- A load of a value whose cells are known. -/
theorem run_load_cells {t : TypeId} {v : V} {b off : Nat} {f : Nat → Value} (hl : loads P t v = true) (hc : ∀ j, j < v.cells.length → w.cell? ⟨b, off + j, none⟩ = some (f j)) :
    ∃ cv, (Instr.loadAt t (.pointer (some ⟨b, off, none⟩))).run P w = .ok cv w ∧
      ((∃ l, v = .agg l ∧ cv = .agg ((List.range l.length).map f).toArray) ∨ ((∀ l, v ≠ .agg l) ∧ cv = f 0)) := by
  by_cases hagg : ∃ l, v = .agg l
  · obtain ⟨l, rfl⟩ := hagg
    simp only [loads, Bool.and_eq_true, beq_iff_eq, bne_iff_ne] at hl
    have hcells := run_loadCells (P := P) w ⟨b, off, none⟩ l.length f (fun j hj => by rw [add_mk]; exact hc j hj)
    refine ⟨_, ?_, .inl ⟨l, rfl, rfl⟩⟩
    simp [Instr.loadAt, Instr.sureAddr, loadVar, isStruct_run hl.1.1, run_sizeOf (P := P) (w := w) (t := t) (by rw [← hl.1.2]; exact hl.2), ← hl.1.2, hcells]
  · have hne : ∀ l, v ≠ .agg l := fun l e => hagg ⟨l, e⟩
    have hs : isScalarT P t = true := by
      cases v <;> first | exact hl | (simp [loads] at hl; done) | (rename_i l; exact absurd rfl (hne l))
    have hcl : 0 < v.cells.length := by
      cases v <;> first | (simp [V.cells]; done) | (rename_i l; exact absurd rfl (hne l))
    have h0 := hc 0 hcl
    refine ⟨f 0, ?_, .inr ⟨hne, rfl⟩⟩
    simp only [Nat.add_zero] at h0
    simp [Instr.loadAt, Instr.sureAddr, loadVar, isScalarT_run hs, h0]

theorem loadAt_ok (H : HOk w0 O w S g h U) {t : TypeId} {p v : V} {pc : Value} (hx : VR w S g h p pc) (hv : loadV P h t p = some v) : ∃ cv, (Instr.loadAt t pc).run P w = .ok cv w ∧ VR w S g h v cv := by
  unfold loadV at hv
  split at hv
  · rename_i id i f
    split at hv
    · rename_i b hb
      obtain ⟨ad, hbase, hi, e⟩ := hx.inv_ptr hb (H.notDead hb)
      split at hv
      · rename_i v' hv'
        split at hv
        · rename_i hl
          cases hv
          simp only [Bool.and_eq_true] at hl
          have hcell : ∀ j, j < v.cells.length → ∃ c, w.cell? ⟨ad.block, ad.off + (i * b.sz + j), none⟩ = some c ∧ (b.kind = .box ∨ v.cells[j]?.any V.flatC = true → ∀ y, v.cells[j]? = some y → VR w S g h y c) := by
            intro j hj
            obtain ⟨_, c, h1, h2⟩ := cellAt H hb hv' hbase (List.getElem?_eq_getElem hj)
            refine ⟨c, h1, fun hk y hy => ?_⟩
            rw [List.getElem?_eq_getElem hj] at hy hk
            cases hy
            exact h2 (by simpa using hk)
          have hsel : ∃ f : Nat → Value, ∀ j, j < v.cells.length → w.cell? ⟨ad.block, ad.off + (i * b.sz + j), none⟩ = some (f j) ∧ (b.kind = .box ∨ v.cells[j]?.any V.flatC = true → ∀ y, v.cells[j]? = some y → VR w S g h y (f j)) := by
            refine ⟨fun j => if hj : j < v.cells.length then (hcell j hj).choose else Go.undef, fun j hj => ?_⟩
            simp only [hj, dif_pos]
            exact (hcell j hj).choose_spec
          obtain ⟨f, hf⟩ := hsel
          obtain ⟨cv, hrun, hcv⟩ := run_load_cells (P := P) (w := w) (b := ad.block) (off := ad.off + i * b.sz) hl.1 (fun j hj => by rw [Nat.add_assoc]; exact (hf j hj).1)
          have hok : ∀ j, j < v.cells.length → b.kind = .box ∨ v.cells[j]?.any V.flatC = true := by
            intro j hj
            have h2 := hl.2
            cases hk : b.kind with
            | box => exact .inl rfl
            | arr =>
              rw [hk] at h2
              refine .inr ?_
              rw [List.getElem?_eq_getElem hj]
              exact flat_cells h2 (List.getElem?_eq_getElem hj)
          refine ⟨cv, ?_, ?_⟩
          · simp [e, hrun]
          · rcases hcv with ⟨l, rfl, rfl⟩ | ⟨hne, rfl⟩
            · refine .agg _ _ (by simp) fun j y c hy hc => ?_
              have hj := (List.getElem?_eq_some_iff.1 hy).1
              simp [hj] at hc
              subst hc
              exact (hf j hj).2 (hok j hj) y hy
            · have hc1 : v.cells = [v] := by cases v <;> first | rfl | (rename_i l; exact absurd rfl (hne l))
              have h0 : 0 < v.cells.length := by rw [hc1]; simp
              exact (hf 0 h0).2 (hok 0 h0) v (by rw [hc1]; rfl)
        · cases hv
      · rename_i l j hv'
        split at hv
        · rename_i v' hvj
          split at hv
          · rename_i hl
            cases hv
            simp only [Bool.and_eq_true] at hl
            obtain ⟨_, c, h1, h2⟩ := cellAt H hb hv' hbase (j := j) (by simpa [V.cells] using hvj)
            have hc1 := okCell_cells hl.1.1
            obtain ⟨cv, hrun, hcv⟩ := run_load_cells (P := P) (w := w) (b := ad.block) (off := ad.off + (i * b.sz + j)) (f := fun _ => c) hl.1.2 (fun q hq => by
              rw [hc1] at hq
              have : q = 0 := by simpa using hq
              subst this
              exact h1)
            have hcv' : cv = c := by
              rcases hcv with ⟨l', rfl, _⟩ | ⟨_, rfl⟩
              · simp [okCell] at hl
              · rfl
            subst hcv'
            refine ⟨cv, ?_, h2 ?_⟩
            · simp only [Option.getD_some] at e
              simp [e, hrun]
            · cases hk : b.kind with
              | box => exact .inl rfl
              | arr =>
                have h3 := hl.2
                rw [hk] at h3
                exact .inr (flat_cells h3 (j := 0) (by rw [hc1]; rfl))
          · cases hv
        · cases hv
      · cases hv
    · cases hv
  · split at hv
    · rename_i v' hl
      cases hv
      have hr := hx.inv_rptr
      generalize hce : pc = cx at hr
      cases hr with
      | rptr _ ad f hsp hS hc hr =>
        obtain ⟨b, off, sp⟩ := ad
        simp only at hsp
        subst hsp
        obtain ⟨cv, hrun, hcv⟩ := run_load_cells (P := P) (w := w) (b := b) (off := off) hl hc
        refine ⟨cv, by simp [hrun], .rd _ _ ?_⟩
        rcases hcv with ⟨l, rfl, rfl⟩ | ⟨hne, rfl⟩
        · refine .agg _ _ (by simp) fun j y c hy hcc => ?_
          have hj := (List.getElem?_eq_some_iff.1 hy).1
          simp [hj] at hcc
          subst hcc
          exact hr j y (by simpa [V.cells] using hy)
        · have hc1 : v.cells = [v] := by cases v <;> first | rfl | (rename_i l; exact absurd rfl (hne l))
          exact hr 0 v (by rw [hc1]; rfl)
    · cases hv
  · cases hv
theorem op_load (H : HOk w0 O w S g h U) {t : TypeId} {x : Operand} {p v : V} (ho : o.op = .load t x) (hx : VR w S g h p (a.eval x)) (hv : loadV P h t p = some v) : Does P w0 O w S g h U a n o v [] := by
  obtain ⟨cv, hrun, hr⟩ := loadAt_ok (P := P) H hx hv
  exact does_pure H (cv := cv) (by simp [execOp, ho, hrun]) hr

end
end Go.VM
