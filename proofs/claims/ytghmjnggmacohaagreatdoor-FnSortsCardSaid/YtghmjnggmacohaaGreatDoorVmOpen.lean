/- One element of an array is opened, its inner arrays become blocks of their own; it is closed again. No condition. -/
import Derived.Test.YtghmjnggmacohaaGreatDoorVmCall2
set_option linter.unusedVariables false
set_option linter.unusedSimpArgs false
namespace Go.VM
open Go

section
variable {w0 w : World} {O S : Nat → Prop} {g : G} {h : Heap} {U : Nat → Prop}

theorem updsH_at {k : Nat} : ∀ (us : List (Nat × Option Blk)) {h h' : Heap}, h k = h' k → updsH h us k = updsH h' us k
  | [], _, _, e => e
  | (i, b) :: us, h, h', e => by
    simp only [updsH]
    refine updsH_at us ?_
    simp only [updH]
    split
    · rfl
    · exact e
theorem adC_off {n k : Nat} {v : V} (hk : k ≠ n) : updsH h (adC n v).2 k = h k := by
  cases v <;> first | rfl | simp [adC, updsH, updH, hk]
theorem adL_off {k : Nat} : ∀ (l : List V) (n : Nat) (h : Heap), (k < n ∨ n + l.length ≤ k) → updsH h (adL n l).2 k = h k
  | [], _, _, _ => rfl
  | x :: l, n, h, hk => by
    simp only [List.length_cons] at hk
    simp only [adL, updsH_append]
    rw [adL_off l (n + 1) _ (by omega), adC_off (by omega)]
theorem adA_off {n k : Nat} {v : V} (hk : k < n ∨ n + 16 ≤ k) : updsH h (adA n v).2 k = h k := by
  cases v with
  | agg l =>
    simp only [adA]
    split
    · exact adL_off l n h (by omega)
    · rfl
  | _ => exact adC_off (by omega)
theorem hlC_ad {n : Nat} {y : V} (hy : okCell (adC n y).1 = true) : hlC (adC n y).1 = hlC y := by
  cases y <;> first | rfl | (simp [adC, okCell] at hy)
theorem hlL_ad : ∀ (l : List V) (n : Nat), ((adL n l).1.all okCell) = true → (adL n l).1.map hlC = l.map hlC
  | [], _, _ => rfl
  | x :: l, n, hl => by
    simp only [adL, List.all_cons, Bool.and_eq_true] at hl
    simp only [adL, List.map_cons, hlC_ad hl.1, hlL_ad l (n + 1) hl.2]
theorem hlA_ad {n : Nat} {x : V} (hx : boxableA (adA n x).1 = true) : hlA (adA n x).1 = hlA x := by
  cases x with
  | agg l =>
    simp only [adA] at hx ⊢
    split at hx
    · rename_i h16
      rw [if_pos h16]
      simp only [hlA]
      rw [hlL_ad l n hx]
    · simp [boxableA, okCell] at hx
  | int | bool | str | raw => rfl
  | lst => rfl
  | _ => simp [adA, adC, boxableA, okCell] at hx
theorem OW.cell {y : V} {c : Value} {N : Nat → Prop} (x : OW w y c N) (hy : okCell y = true) : c.cells = #[c] ∧ c.oneCell' = true := by
  cases x <;> first | exact ⟨rfl, rfl⟩ | (simp [okCell] at hy)
theorem hlC_ow {y : V} {c : Value} {N : Nat → Prop} (x : OW w y c N) (hy : okCell y = true) : OW w (hlC y) c (fun _ => False) := by
  cases x with
  | int k n => exact .int k n
  | bool b => exact .bool b
  | str b _ h => exact .str b _ h
  | lnil => exact .hole _ _ _
  | hole => exact .hole _ _ _
  | raw => exact .hole _ _ _
  | lst => exact .hole _ _ _
  | _ => simp [okCell] at hy
/-- What a hole stands for is a slice's value. -/
theorem OW.hole_any {c : Value} {N : Nat → Prop} (x : OW w .hole c N) : OW w .hole c (fun _ => False) := by
  cases x; exact .hole _ _ _
theorem hlC_okCell (y : V) : okCell (hlC y) = true := by cases y <;> rfl
theorem hlA_len (x : V) : (hlA x).cells.length = x.cells.length := by cases x <;> first | rfl | simp [hlA, V.cells]
theorem hlA_cells {x : V} {j : Nat} {y : V} (hj : (hlA x).cells[j]? = some y) : ∃ z, x.cells[j]? = some z ∧ y = hlC z := by
  have hl := (List.getElem?_eq_some_iff.1 hj).1
  rw [hlA_len] at hl
  refine ⟨x.cells[j], List.getElem?_eq_getElem hl, ?_⟩
  have := hlA_cell (List.getElem?_eq_getElem hl)
  rw [hj] at this
  exact Option.some.inj this
theorem get_modify {els : List V} {i k : Nat} {x y : V} (hx : els[i]? = some x) (hy : (els.modify i hlA)[k]? = some y) : (k = i ∧ y = hlA x) ∨ (k ≠ i ∧ els[k]? = some y) := by
  by_cases hk : k = i
  · subst hk
    rw [List.getElem?_modify] at hy
    simp [hx] at hy
    exact .inl ⟨rfl, hy.symm⟩
  · have hk' : ¬ i = k := fun e => hk e.symm
    rw [List.getElem?_modify] at hy
    simp [hk'] at hy
    exact .inr ⟨hk, hy⟩

theorem open_ok (H : HOk w0 O w S g h U) {n id i : Nat} {h' : Heap} (ho : openB n h id i = some h') (hU : ∀ k, n ≤ k → k < n + stride → ¬ U k) :
    ∃ g', HOk w0 O w S g' h' (fun k => U k ∨ (n ≤ k ∧ k < n + stride)) ∧ Tr w S g h w S g' h' := by
  unfold openB at ho
  split at ho
  case h_2 => cases ho
  rename_i sz els hb
  split at ho
  case h_2 => cases ho
  rename_i x hx
  split at ho
  case isFalse => cases ho
  rename_i hbx
  cases ho
  obtain ⟨ad, hbase⟩ := (H.blk id _ hb).base_arr hx
  have hB := H.blk id _ hb
  have hO := hB.1
  rw [hbase] at hO
  obtain ⟨_, hsp, hlc, hmax, hsz, hok, cur, e, fr, Ng, hcur, hfr, hcap, hcell, hself, hdis, hN⟩ := hO.row
  have hil := (List.getElem?_eq_some_iff.1 hx).1
  have hxm := List.mem_of_getElem? hx
  have hlen1 : (els.modify i hlA).length = els.length := List.length_modify ..
  have hUid : U id := H.used id (.inl (by simp [hb]))
  have hidn : id < n ∨ n + 16 ≤ id := by
    rcases Nat.lt_or_ge id n with h1 | h1
    · exact .inl h1
    · refine .inr (Nat.le_of_not_lt fun h2 => hU id h1 (by simp only [stride]; omega) hUid)
  -- the cells of the element are told as holes
  have hO1 := OW.mk_row (w := w) (sz := sz) (cap := g.cap id) (l := els.modify i hlA) (ad := ad) (cur := cur) (e := e) (fr := fr) (Ng := fun i' j k => i' ≠ i ∧ Ng i' j k) hsp (by rw [hlen1]; exact hlc) hmax
    (fun y hy => by
      obtain ⟨k, hk⟩ := List.mem_iff_getElem?.1 hy
      rcases get_modify hx hk with ⟨_, rfl⟩ | ⟨_, h2⟩
      · rw [hlA_len]; exact hsz x hxm
      · exact hsz y (List.mem_of_getElem? h2))
    (fun y hy z hz => by
      obtain ⟨k, hk⟩ := List.mem_iff_getElem?.1 hy
      rcases get_modify hx hk with ⟨_, rfl⟩ | ⟨_, h2⟩
      · obtain ⟨j, hj⟩ := List.mem_iff_getElem?.1 hz
        obtain ⟨z', _, rfl⟩ := hlA_cells hj
        exact hlC_okCell z'
      · exact hok y (List.mem_of_getElem? h2) z hz)
    hcur hfr hcap
    (fun i' y j z hy hz => by
      rcases get_modify hx hy with ⟨rfl, rfl⟩ | ⟨h1, h2⟩
      · obtain ⟨z', hz', rfl⟩ := hlA_cells hz
        obtain ⟨c, hc, ow⟩ := hcell i' x j z' hx hz'
        exact ⟨c, hc, (hlC_ow ow (hok x hxm z' (List.mem_of_getElem? hz'))).cast fun k => by simp⟩
      · obtain ⟨c, hc, ow⟩ := hcell i' y j z h2 hz
        exact ⟨c, hc, ow.cast fun k => by simp [h1]⟩)
    (fun i' j hi' hj hh => hself i' j (by rw [← hlen1]; exact hi') hj hh.2)
    (fun i1 j1 i2 j2 k h1 h2 h3 h4 h5 h6 => hdis i1 j1 i2 j2 k (by rw [← hlen1]; exact h1) h2 (by rw [← hlen1]; exact h3) h4 h5.2 h6.2)
  let N1 : Nat → Prop := fun k => k = ad.block ∨ ∃ i' j, i' < (els.modify i hlA).length ∧ j < sz ∧ (i' ≠ i ∧ Ng i' j k)
  have hN1 : ∀ k, N1 k → g.N id k := by
    rintro k (rfl | ⟨i', j, h1, h2, h3⟩)
    · exact (hN _).2 (.inl rfl)
    · exact (hN _).2 (.inr ⟨i', j, by rw [← hlen1]; exact h1, h2, h3.2⟩)
  let g1 : G := { base := g.base, cap := g.cap, N := fun k => if k = id then N1 else g.N k, dead := g.dead }
  let h1 : Heap := updH h id (some ⟨.arr, sz, els.modify i hlA⟩)
  have tr1 : Tr w S g h w S g1 h1 := Tr.of (fun _ _ => rfl) (fun _ h => h) (fun _ h => h) fun j b hj => by
    by_cases e1 : j = id
    · subst e1
      rw [hb] at hj; cases hj
      exact .inr ⟨⟨.arr, sz, els.modify i hlA⟩, by simp [h1, updH], rfl, rfl, hlen1, rfl, rfl⟩
    · exact .inr ⟨b, by simp [h1, updH, e1, hj], rfl, rfl, rfl, rfl, rfl⟩
  have H1 : HOk w0 O w S g1 h1 U := by
    refine H.change tr1 H.fr H.slt ?_ ?_ ?_ ?_
    · intro j b hj
      by_cases e1 : j = id
      · subst e1
        simp [h1, updH] at hj
        subst hj
        refine .inr ⟨⟨?_, fun ad' h' => hB.2 ad' h'⟩, fun k hk => H.own j _ k hb (hN1 k (by simpa [g1] using hk))⟩
        show OW w _ (.slice (g.base j) _ (g.cap j)) (if j = j then N1 else g.N j)
        rw [if_pos rfl, hbase]
        exact hO1
      · simp only [h1, updH, e1, if_false] at hj
        exact .inl ⟨hj, by simp [g1, e1], rfl, rfl, fun k hk => ⟨rfl, (H.own j b k hj hk).1⟩⟩
    · intro a b x1 x2 k ha hb' hNa hNb
      have la : g.N a k := by
        by_cases e1 : a = id
        · subst e1; exact hN1 k (by simpa [g1] using hNa)
        · simpa [g1, e1] using hNa
      have lb : g.N b k := by
        by_cases e1 : b = id
        · subst e1; exact hN1 k (by simpa [g1] using hNb)
        · simpa [g1, e1] using hNb
      have ha' : ∃ y, h a = some y := by
        by_cases e1 : a = id
        · exact ⟨_, e1 ▸ hb⟩
        · exact ⟨x1, by simpa [h1, updH, e1] using ha⟩
      have hb'' : ∃ y, h b = some y := by
        by_cases e1 : b = id
        · exact ⟨_, e1 ▸ hb⟩
        · exact ⟨x2, by simpa [h1, updH, e1] using hb'⟩
      obtain ⟨y1, hy1⟩ := ha'
      obtain ⟨y2, hy2⟩ := hb''
      exact H.disj a b y1 y2 k hy1 hy2 la lb
    · rintro j (hj | hj)
      · by_cases e1 : j = id
        · rw [e1]; exact hUid
        · simp only [h1, updH, e1, if_false] at hj
          exact H.used j (.inl hj)
      · exact H.used j (.inr hj)
    · intro j hj
      have e1 : j ≠ id := fun e => H.notDead hb (e ▸ hj)
      simp only [h1, updH, e1, if_false]
      exact H.dead j hj
  -- the inner arrays are taken in
  obtain ⟨cx, Nx, hox, hNx, hcx⟩ : ∃ cx Nx, OW w x cx Nx ∧ (∀ k, Nx k → ∃ j, j < sz ∧ Ng i j k) ∧
      ∀ (g' : G) (h' : Heap), VR w S g' h' (adA n x).1 cx → ∀ (j : Nat) y c, (adA n x).1.cells[j]? = some y → cur[ad.off + (i * sz + j)]? = some c → VR w S g' h' y c := by
    by_cases hagg : ∃ l, x = .agg l
    · obtain ⟨l, rfl⟩ := hagg
      have hl : l.length = sz := hsz _ hxm
      have hcv : ∀ j y, l[j]? = some y → ∃ c, cur[ad.off + (i * sz + j)]? = some c ∧ OW w y c (Ng i j) := fun j y hy => hcell i _ j y hx hy
      refine ⟨.agg ((List.range l.length).map fun j => (cur[ad.off + (i * sz + j)]?).getD Go.undef).toArray, _, .agg l _ (fun j => Ng i j) (by simp) ?_ ?_, ?_, ?_⟩
      · intro j y c hy hc
        obtain ⟨c', hc', ow⟩ := hcv j y hy
        have hj := (List.getElem?_eq_some_iff.1 hy).1
        simp [hj, hc'] at hc
        subst hc; exact ow
      · intro a b k ha hb' h1 h2
        exact (hdis i a i b k hil (by omega) hil (by omega) h1 h2).2
      · rintro k ⟨j, hj, hk⟩; exact ⟨j, by omega, hk⟩
      · intro g' h' hv j y c hy hc
        simp only [adA] at hv hy hbx
        split at hbx
        · rename_i h16
          rw [if_pos h16] at hv hy
          obtain ⟨cs, hcs, hml, hr⟩ := hv.inv_agg
          simp only [Value.agg.injEq] at hcs
          subst hcs
          have hj := (List.getElem?_eq_some_iff.1 hy).1
          have hjl : j < l.length := by
            simp at hml
            simp only [V.cells] at hj
            omega
          exact hr j y c hy (by simp [hjl, hc])
        · simp [boxableA, okCell] at hbx
    · obtain ⟨e1, e2, e3⟩ := notAgg (h := h) (v := x) fun l e => hagg ⟨l, e⟩
      have hs1 : sz = 1 := by rw [← hsz x hxm, e3]; rfl
      have ead : adA n x = adC n x := by cases x <;> first | rfl | exact absurd ⟨_, rfl⟩ hagg
      obtain ⟨c, hc, ow⟩ := hcell i x 0 x hx (by rw [e3]; rfl)
      refine ⟨c, _, ow, fun k hk => ⟨0, by omega, hk⟩, fun g' h' hv j y c' hy hc' => ?_⟩
      rw [ead] at hv hy
      have ecell : (adC n x).1.cells = [(adC n x).1] := by cases x <;> first | rfl | exact absurd ⟨_, rfl⟩ hagg
      rw [ecell] at hy
      cases j with
      | zero =>
        simp at hy; subst hy
        rw [hc] at hc'; cases hc'
        exact hv
      | succ j => simp at hy
  have hNid : ∀ k, Nx k → g.N id k := fun k hk => by
    obtain ⟨j, hj, hk⟩ := hNx k hk
    exact (hN k).2 (.inr ⟨i, j, hil, hj, hk⟩)
  obtain ⟨g2, t2, hvr⟩ := adA_ok H1 (n := n) hox (fun k h1 h2 => hU k h1 (by simp only [stride]; omega))
    (fun j b k hj hNj hk => by
      by_cases e1 : j = id
      · subst e1
        have hN' : N1 k := by simpa [g1] using hNj
        obtain ⟨j', hj', hk'⟩ := hNx k hk
        rcases hN' with rfl | ⟨i2, j2, q1, q2, q3, q4⟩
        · exact hself i j' hil hj' hk'
        · exact q3 (hdis i2 j2 i j' k (by rw [← hlen1]; exact q1) q2 hil hj' q4 hk').1
      · simp only [h1, updH, e1, if_false] at hj
        have hN' : g.N j k := by simpa [g1, e1] using hNj
        exact e1 (H.disj j id b _ k hj hb hN' (hNid k hk)))
    (fun k hk => H.own id _ k hb (hNid k hk))
  -- the array is told as opened
  let h2 : Heap := updsH h1 (adA n x).2
  have hat : h2 id = some ⟨.arr, sz, els.modify i hlA⟩ := by
    show updsH h1 (adA n x).2 id = _
    rw [adA_off hidn]; simp [h1, updH]
  have H2 := t2.ok
  let b3 : Blk := ⟨.opn i, sz, els.set i (adA n x).1⟩
  have eheap : updH (updsH h (adA n x).2) id (some b3) = updH h2 id (some b3) := by
    funext k
    by_cases e1 : k = id
    · simp [updH, e1]
    · simp only [updH, e1, if_false]
      exact updsH_at _ (by simp [h1, updH, e1])
  rw [eheap]
  have emod : (els.set i (adA n x).1).modify i hlA = els.modify i hlA := by
    refine List.ext_getElem? fun k => ?_
    by_cases e1 : k = i
    · subst e1
      rw [List.getElem?_modify, List.getElem?_modify, List.getElem?_set_self hil, hx]
      simp [hlA_ad hbx]
    · have e2 : ¬ i = k := fun e => e1 e.symm
      simp [List.getElem?_modify, e2]
  have hB2 := H2.blk id _ hat
  have tr3 : Tr w S g2 h2 w S g2 (updH h2 id (some b3)) := Tr.of (fun _ _ => rfl) (fun _ h => h) (fun _ h => h) fun j b hj => by
    by_cases e1 : j = id
    · subst e1
      rw [hat] at hj; cases hj
      exact .inr ⟨b3, by simp [updH], rfl, rfl, by simp [b3], rfl, rfl⟩
    · exact .inr ⟨b, by simp [updH, e1, hj], rfl, rfl, rfl, rfl, rfl⟩
  have hbase2 : g2.base id = some ad := by
    have := tr1.trans t2.tr (.own id) (.slice (some ad) els.length (g.cap id)) (by rw [← hbase]; exact .own id sz .arr els hb rfl)
    obtain ⟨_, e⟩ := this.inv_own hat (H2.notDead hat)
    simp only [Value.slice.injEq] at e
    exact e.1.symm
  refine ⟨g2, HOk.weak (U := fun k => U k ∨ (n ≤ k ∧ k < n + 16)) (H2.change tr3 H2.fr H2.slt ?_ ?_ ?_ ?_) ?_, (tr1.trans t2.tr).trans tr3⟩
  · intro j b hj
    by_cases e1 : j = id
    · subst e1
      simp [updH] at hj
      subst hj
      refine .inr ⟨⟨?_, hB2.2, (adA n x).1, by simp [hil], hbx, ?_⟩, fun k hk => H2.own j _ k hat hk⟩
      · show OW w (.lst sz ((els.set i (adA n x).1).modify i hlA)) (.slice (g2.base j) (els.set i (adA n x).1).length (g2.cap j)) (g2.N j)
        rw [emod, List.length_set, ← hlen1]
        exact hB2.1
      · intro ad' j' y c hb' hy hc
        rw [hbase2] at hb'; cases hb'
        refine tr3 _ _ (hcx g2 h2 hvr j' y c hy ?_)
        rw [cell_of_row hcur] at hc; exact hc
    · simp only [updH, e1, if_false] at hj
      exact .inl ⟨hj, rfl, rfl, rfl, fun k hk => ⟨rfl, (H2.own j b k hj hk).1⟩⟩
  · intro a b x1 x2 k ha hb' hNa hNb
    have ha' : ∃ y, h2 a = some y := by
      by_cases e1 : a = id
      · exact ⟨_, e1 ▸ hat⟩
      · exact ⟨x1, by simpa [updH, e1] using ha⟩
    have hb'' : ∃ y, h2 b = some y := by
      by_cases e1 : b = id
      · exact ⟨_, e1 ▸ hat⟩
      · exact ⟨x2, by simpa [updH, e1] using hb'⟩
    obtain ⟨y1, hy1⟩ := ha'
    obtain ⟨y2, hy2⟩ := hb''
    exact H2.disj a b y1 y2 k hy1 hy2 hNa hNb
  · rintro j (hj | hj)
    · by_cases e1 : j = id
      · rw [e1]; exact .inl hUid
      · simp only [updH, e1, if_false] at hj
        exact H2.used j (.inl hj)
    · exact H2.used j (.inr hj)
  · intro j hj
    have e1 : j ≠ id := fun e => H2.notDead hat (e ▸ hj)
    simp only [updH, e1, if_false]
    exact H2.dead j hj
  · rintro k (hk | hk)
    · exact .inl hk
    · exact .inr ⟨hk.1, by simp only [stride]; omega⟩

theorem bkC_cells {x : V} {j : Nat} {y : V} (hj : (bkA h x).1.cells[j]? = some y) : ∃ z, x.cells[j]? = some z ∧ y = (bkC h z).1 := by
  have hL : ∀ (l : List V) (j : Nat), (bkL h l).1[j]? = (l[j]?).map fun z => (bkC h z).1 := by
    intro l
    induction l with
    | nil => intro j; simp [bkL]
    | cons x l ih =>
      intro j
      cases j with
      | zero => simp [bkL]
      | succ j => simpa [bkL] using ih j
  cases x with
  | agg l =>
    simp only [bkA, V.cells] at hj ⊢
    rw [hL] at hj
    simp only [Option.map_eq_some_iff] at hj
    obtain ⟨z, h1, h2⟩ := hj
    exact ⟨z, h1, h2.symm⟩
  | _ =>
    have e : ∀ v : V, (bkC h v).1.cells = [(bkC h v).1] := by
      intro v
      cases v <;> first | rfl | (simp only [bkC]; split <;> rfl)
    simp only [bkA] at hj
    rw [e] at hj
    cases j with
    | zero => simp at hj; exact ⟨_, rfl, hj.symm⟩
    | succ j => simp at hj
theorem bkA_len (x : V) : (bkA h x).1.cells.length = x.cells.length := by
  have hL : ∀ l : List V, (bkL h l).1.length = l.length := by
    intro l
    induction l with
    | nil => rfl
    | cons x l ih => simp [bkL, ih]
  cases x with
  | agg l => simpa [bkA, V.cells] using hL l
  | own id => simp only [bkA, bkC]; split <;> rfl
  | _ => rfl
theorem bkC_okCell (z : V) : okCell (bkC h z).1 = true := by cases z <;> first | rfl | (simp only [bkC]; split <;> rfl)
/-- The block that a cell stands for. -/
def BkN (g : G) (h : Heap) (x : V) (j k : Nat) : Prop := ∃ n s l, x.cells[j]? = some (.own n) ∧ h n = some ⟨.arr, s, l⟩ ∧ g.N n k
theorem bkL_mem {n s : Nat} {m : List V} (hn : h n = some ⟨.arr, s, m⟩) : ∀ {l : List V} {j : Nat}, l[j]? = some (.own n) → n ∈ (bkL h l).2
  | x :: l, 0, e => by simp at e; subst e; simp [bkL, bkC, hn]
  | x :: l, j + 1, e => by simp only [bkL, List.mem_append]; exact .inr (bkL_mem hn (by simpa using e))
theorem bkA_mem {n s : Nat} {m : List V} (hn : h n = some ⟨.arr, s, m⟩) {x : V} {j : Nat} (e : x.cells[j]? = some (.own n)) : n ∈ (bkA h x).2 := by
  cases x with
  | agg l => exact bkL_mem hn e
  | _ =>
    cases j with
    | zero => simp [V.cells] at e <;> (subst e; simp [bkA, bkC, hn])
    | succ j => simp [V.cells] at e
theorem bkL_one {n s : Nat} {m : List V} (hn : h n = some ⟨.arr, s, m⟩) : ∀ {l : List V} {i j : Nat}, (bkL h l).2.Nodup → l[i]? = some (.own n) → l[j]? = some (.own n) → i = j
  | x :: l, 0, 0, _, _, _ => rfl
  | x :: l, 0, j + 1, hd, e1, e2 => by
    simp only [bkL, List.nodup_append] at hd
    simp at e1; subst e1
    exact absurd rfl (hd.2.2 n (by simp [bkC, hn]) n (bkL_mem hn (by simpa using e2)))
  | x :: l, i + 1, 0, hd, e1, e2 => by
    simp only [bkL, List.nodup_append] at hd
    simp at e2; subst e2
    exact absurd rfl (hd.2.2 n (by simp [bkC, hn]) n (bkL_mem hn (by simpa using e1)))
  | x :: l, i + 1, j + 1, hd, e1, e2 => by
    simp only [bkL, List.nodup_append] at hd
    exact congrArg Nat.succ (bkL_one hn hd.2.1 (by simpa using e1) (by simpa using e2))
theorem bkA_one {n s : Nat} {m : List V} (hn : h n = some ⟨.arr, s, m⟩) {x : V} {i j : Nat} (hd : (bkA h x).2.Nodup) (e1 : x.cells[i]? = some (.own n)) (e2 : x.cells[j]? = some (.own n)) : i = j := by
  cases x with
  | agg l => exact bkL_one hn hd e1 e2
  | _ =>
    cases i with
    | zero =>
      cases j with
      | zero => rfl
      | succ j => simp [V.cells] at e2
    | succ i => simp [V.cells] at e1
theorem bkC_in {n : Nat} {z : V} (hn : n ∈ (bkC h z).2) : z = .own n ∧ ∃ s l, h n = some ⟨.arr, s, l⟩ := by
  cases z with
  | own m =>
    simp only [bkC] at hn
    split at hn
    · rename_i s l hm
      simp at hn; subst hn; exact ⟨rfl, s, l, hm⟩
    · simp at hn
  | _ => simp [bkC] at hn
theorem bkA_in {n : Nat} {x : V} (hn : n ∈ (bkA h x).2) : ∃ (j : Nat) (s : Nat) (l : List V), x.cells[j]? = some (V.own n) ∧ h n = some ⟨.arr, s, l⟩ := by
  have hL : ∀ l : List V, n ∈ (bkL h l).2 → ∃ (j : Nat) (s : Nat) (m : List V), l[j]? = some (V.own n) ∧ h n = some ⟨.arr, s, m⟩ := by
    intro l
    induction l with
    | nil => intro hn; simp [bkL] at hn
    | cons x l ih =>
      intro hn
      simp only [bkL, List.mem_append] at hn
      rcases hn with hn | hn
      · obtain ⟨rfl, s, m, hm⟩ := bkC_in hn; exact ⟨0, s, m, rfl, hm⟩
      · obtain ⟨j, s, m, h1, h2⟩ := ih hn; exact ⟨j + 1, s, m, by simpa using h1, h2⟩
  cases x with
  | agg l => exact hL l hn
  | _ => obtain ⟨e, s, m, hm⟩ := bkC_in hn; exact ⟨0, s, m, by rw [e]; rfl, hm⟩

theorem close_ok (H : HOk w0 O w S g h U) (id : Nat) : ∃ g', HOk w0 O w S g' (closeB h id) U ∧ Tr w S g h w S g' (closeB h id) := by
  unfold closeB
  split
  case h_2 => exact ⟨g, H, Tr.refl _ _ _ _⟩
  rename_i i sz els hb
  split
  case h_2 => exact ⟨g, H, Tr.refl _ _ _ _⟩
  rename_i x hx
  split
  case isFalse => exact ⟨g, H, Tr.refl _ _ _ _⟩
  rename_i hnd0
  have hnd : (bkA h x).2.Nodup := nodupB_iff.1 hnd0
  obtain ⟨hO, hspt, x', hx', hbx, href⟩ := H.blk id _ hb
  rw [hx] at hx'; cases hx'
  have hlen1 : (els.modify i hlA).length = els.length := List.length_modify ..
  have hil := (List.getElem?_eq_some_iff.1 hx).1
  have hbase : ∃ ad, g.base id = some ad := by
    cases hba : g.base id with
    | some ad => exact ⟨ad, rfl⟩
    | none =>
      rw [hba] at hO
      have := hO.none_nil.1
      have : (els.modify i hlA).length = 0 := by rw [this]; rfl
      omega
  obtain ⟨ad, hbase⟩ := hbase
  rw [hbase, ← hlen1] at hO
  obtain ⟨_, hsp, hlc, hmax, hsz, hok, cur, e, fr, Ng, hcur, hfr, hcap, hcell, hself, hdis, hN⟩ := hO.row
  rw [hlen1] at hlc
  have hmi : (els.modify i hlA)[i]? = some (hlA x) := by rw [List.getElem?_modify, hx]; simp
  have hxsz : x.cells.length = sz := by rw [← hlA_len]; exact hsz _ (List.mem_of_getElem? hmi)
  have hmo : ∀ k y, k ≠ i → els[k]? = some y → (els.modify i hlA)[k]? = some y := fun k y hk hy => by
    have hk' : ¬ i = k := fun e => hk e.symm
    rw [List.getElem?_modify]; simp [hk', hy]
  have hBk : ∀ j k, BkN g h x j k → ∃ n s l, n ≠ id ∧ n ∈ (bkA h x).2 ∧ h n = some ⟨.arr, s, l⟩ ∧ g.N n k := by
    rintro j k ⟨n, s, l, h1, h2, h3⟩
    exact ⟨n, s, l, fun e => (by subst e; rw [hb] at h2; cases h2), bkA_mem h2 h1, h2, h3⟩
  let Ng' : Nat → Nat → Nat → Prop := fun i' j k => (i' = i ∧ BkN g h x j k) ∨ (i' ≠ i ∧ Ng i' j k)
  have hO1 := OW.mk_row (w := w) (sz := sz) (cap := g.cap id) (l := els.set i (bkA h x).1) (ad := ad) (cur := cur) (e := e) (fr := fr) (Ng := Ng') hsp (by rw [List.length_set]; exact hlc) hmax
    (fun y hy => by
      rcases List.mem_or_eq_of_mem_set hy with hy | rfl
      · obtain ⟨k, hk⟩ := List.mem_iff_getElem?.1 hy
        by_cases hki : k = i
        · subst hki; rw [hx] at hk; cases hk; exact hxsz
        · exact hsz y (List.mem_of_getElem? (hmo k y hki hk))
      · rw [bkA_len]; exact hxsz)
    (fun y hy z hz => by
      obtain ⟨k, hk⟩ := List.mem_iff_getElem?.1 hy
      by_cases hki : k = i
      · subst hki
        rw [List.getElem?_set_self hil] at hk; cases hk
        obtain ⟨j, hj⟩ := List.mem_iff_getElem?.1 hz
        obtain ⟨z', _, rfl⟩ := bkC_cells hj
        exact bkC_okCell z'
      · rw [List.getElem?_set_ne (fun e => hki e.symm)] at hk
        exact hok y (List.mem_of_getElem? (hmo k y hki hk)) z hz)
    hcur hfr hcap
    (fun i' y j z hy hz => by
      by_cases hki : i' = i
      · subst hki
        rw [List.getElem?_set_self hil] at hy; cases hy
        obtain ⟨z', hz', rfl⟩ := bkC_cells hz
        obtain ⟨c, hc, ow⟩ := hcell i' _ j _ hmi (hlA_cell hz')
        refine ⟨c, hc, ?_⟩
        have hvr := href ad j z' c hbase hz' (by rw [cell_of_row hcur]; exact hc)
        have hno : (∀ n, z' = .own n → ∀ s l, h n ≠ some ⟨.arr, s, l⟩) → ∀ k, ¬ Ng' i' j k := by
          rintro hn k (⟨_, n, s, l, h1, h2, h3⟩ | ⟨h1, _⟩)
          · rw [hz'] at h1; cases h1; exact hn n rfl s l h2
          · exact h1 rfl
        cases z' with
        | own n =>
          simp only [bkC]
          split
          · rename_i s l hn
            obtain ⟨_, rfl⟩ := hvr.inv_own hn (H.notDead hn)
            refine (H.blk n _ hn).1.cast fun k => ?_
            constructor
            · intro hk; exact .inl ⟨rfl, n, s, l, hz', hn, hk⟩
            · rintro (⟨_, n', s', l', h1, h2, h3⟩ | ⟨h1, _⟩)
              · rw [hz'] at h1; cases h1; exact h3
              · exact absurd rfl h1
          · rename_i hn
            exact (OW.hole_any ow).cast fun k => ⟨fun h => h.elim, fun hk => hno (fun n' e s l hs => by cases e; exact hn s l hs) k hk⟩
        | int k n => exact (OW.of_flatC (S := fun _ => True) (w := w) rfl (ow.rd fun _ _ => trivial)).cast fun k => ⟨fun h => h.elim, fun hk => hno (fun n' e => by cases e) k hk⟩
        | bool b => exact (OW.of_flatC (S := fun _ => True) (w := w) rfl (ow.rd fun _ _ => trivial)).cast fun k => ⟨fun h => h.elim, fun hk => hno (fun n' e => by cases e) k hk⟩
        | str s => exact (OW.of_flatC (S := fun _ => True) (w := w) rfl (ow.rd fun _ _ => trivial)).cast fun k => ⟨fun h => h.elim, fun hk => hno (fun n' e => by cases e) k hk⟩
        | _ => exact (OW.hole_any ow).cast fun k => ⟨fun h => h.elim, fun hk => hno (fun n' e => by cases e) k hk⟩
      · rw [List.getElem?_set_ne (fun e => hki e.symm)] at hy
        obtain ⟨c, hc, ow⟩ := hcell i' y j z (hmo i' y hki hy) hz
        refine ⟨c, hc, ow.cast fun k => ⟨fun hk => .inr ⟨hki, hk⟩, ?_⟩⟩
        rintro (⟨h1, _⟩ | ⟨_, h1⟩)
        · exact absurd h1 hki
        · exact h1)
    (fun i' j hi' hj => by
      rw [List.length_set] at hi'
      rintro (⟨_, hk⟩ | ⟨_, hk⟩)
      · obtain ⟨n, s, l, h1, _, h2, h3⟩ := hBk j _ hk
        exact h1 (H.disj n id _ _ _ h2 hb h3 ((hN _).2 (.inl rfl)))
      · exact hself i' j (by omega) hj hk)
    (fun i1 j1 i2 j2 k h1 h2 h3 h4 h5 h6 => by
      rw [List.length_set] at h1 h3
      rcases h5 with ⟨rfl, h5⟩ | ⟨n5, h5⟩ <;> rcases h6 with ⟨rfl, h6⟩ | ⟨n6, h6⟩
      · refine ⟨rfl, ?_⟩
        obtain ⟨n, s, l, a1, a2, a3⟩ := h5
        obtain ⟨n', s', l', b1, b2, b3⟩ := h6
        have := H.disj n n' _ _ k a2 b2 a3 b3
        subst this
        exact bkA_one a2 hnd a1 b1
      · obtain ⟨n, s, l, a1, _, a2, a3⟩ := hBk j1 k h5
        exact absurd (H.disj n id _ _ k a2 hb a3 ((hN k).2 (.inr ⟨i2, j2, by omega, h4, h6⟩))) a1
      · obtain ⟨n, s, l, a1, _, a2, a3⟩ := hBk j2 k h6
        exact absurd (H.disj n id _ _ k a2 hb a3 ((hN k).2 (.inr ⟨i1, j1, by omega, h2, h5⟩))) a1
      · exact hdis i1 j1 i2 j2 k (by omega) h2 (by omega) h4 h5 h6)
  let N1 : Nat → Prop := fun k => k = ad.block ∨ ∃ i' j, i' < (els.set i (bkA h x).1).length ∧ j < sz ∧ Ng' i' j k
  have hN1 : ∀ k, N1 k → g.N id k ∨ ∃ n s l, n ≠ id ∧ n ∈ (bkA h x).2 ∧ h n = some ⟨.arr, s, l⟩ ∧ g.N n k := by
    rintro k (rfl | ⟨i', j, h1, h2, ⟨_, h3⟩ | ⟨_, h3⟩⟩)
    · exact .inl ((hN _).2 (.inl rfl))
    · exact .inr (hBk j k h3)
    · rw [List.length_set] at h1
      exact .inl ((hN _).2 (.inr ⟨i', j, by omega, h2, h3⟩))
  have hids : ∀ n ∈ (bkA h x).2, ∃ s l, h n = some ⟨.arr, s, l⟩ := fun n hn => by
    obtain ⟨j, s, l, _, h2⟩ := bkA_in hn; exact ⟨s, l, h2⟩
  let g1 : G := { base := g.base, cap := g.cap, N := fun k => if k = id then N1 else g.N k, dead := fun k => g.dead k ∨ k ∈ (bkA h x).2 }
  let h1 : Heap := updH (updsH h ((bkA h x).2.map fun k => (k, (none : Option Blk)))) id (some ⟨.arr, sz, els.set i (bkA h x).1⟩)
  have hat : ∀ k, h1 k = if k = id then some ⟨.arr, sz, els.set i (bkA h x).1⟩ else if k ∈ (bkA h x).2 then none else h k := by
    intro k
    simp only [h1, updH]
    split
    · rfl
    · have := congrFun (updsH_gone (h := h) (bkA h x).2 []) k
      simpa [gone, updsH] using this
  have hold : ∀ j b, j ≠ id → h1 j = some b → h j = some b ∧ j ∉ (bkA h x).2 := by
    intro j b hj hb1
    rw [hat, if_neg hj] at hb1
    split at hb1
    · cases hb1
    · rename_i hn; exact ⟨hb1, hn⟩
  show ∃ g', HOk w0 O w S g' h1 U ∧ Tr w S g h w S g' h1
  have tr : Tr w S g h w S g1 h1 := Tr.of (fun _ _ => rfl) (fun _ h => h) (fun _ h => .inl h) fun j b hj => by
    by_cases e1 : j = id
    · subst e1
      rw [hb] at hj; cases hj
      exact .inr ⟨⟨.arr, sz, els.set i (bkA h x).1⟩, by rw [hat, if_pos rfl], rfl, rfl, by simp, rfl, rfl⟩
    · by_cases e2 : j ∈ (bkA h x).2
      · exact .inl (.inr e2)
      · exact .inr ⟨b, by rw [hat, if_neg e1, if_neg e2]; exact hj, rfl, rfl, rfl, rfl, rfl⟩
  refine ⟨g1, H.change tr H.fr H.slt ?_ ?_ ?_ ?_, tr⟩
  · intro j b hj
    by_cases e1 : j = id
    · subst e1
      rw [hat, if_pos rfl] at hj; cases hj
      refine .inr ⟨⟨?_, hspt⟩, fun k hk => ?_⟩
      · show OW w _ (.slice (g.base j) _ (g.cap j)) (if j = j then N1 else g.N j)
        rw [if_pos rfl, hbase]
        exact hO1
      · have hk' : N1 k := by simpa [g1] using hk
        rcases hN1 k hk' with h3 | ⟨n, s, l, _, _, h2, h3⟩
        · exact H.own j _ k hb h3
        · exact H.own n _ k h2 h3
    · obtain ⟨hj', _⟩ := hold j b e1 hj
      exact .inl ⟨hj', by simp [g1, e1], rfl, rfl, fun k hk => ⟨rfl, (H.own j b k hj' hk).1⟩⟩
  · intro a b x1 x2 k ha hb' hNa hNb
    have key : ∀ c y, c ≠ id → h1 c = some y → g.N c k → ¬ N1 k := by
      intro c y hc hy hck hk
      obtain ⟨hc', hcn⟩ := hold c y hc hy
      rcases hN1 k hk with h3 | ⟨n, s, l, _, h1', h2, h3⟩
      · exact hc (H.disj c id _ _ k hc' hb hck h3)
      · have := H.disj c n _ _ k hc' h2 hck h3
        subst this
        exact hcn h1'
    by_cases ea : a = id <;> by_cases eb : b = id
    · rw [ea, eb]
    · exfalso
      refine key b x2 eb hb' (by simpa [g1, eb] using hNb) (by simpa [g1, ea] using hNa)
    · exfalso
      exact key a x1 ea ha (by simpa [g1, ea] using hNa) (by simpa [g1, eb] using hNb)
    · exact H.disj a b x1 x2 k (hold a x1 ea ha).1 (hold b x2 eb hb').1 (by simpa [g1, ea] using hNa) (by simpa [g1, eb] using hNb)
  · rintro j (hj | hj | hj)
    · by_cases e1 : j = id
      · rw [e1]; exact H.used id (.inl (by simp [hb]))
      · obtain ⟨b, hb1⟩ := Option.ne_none_iff_exists'.1 hj
        exact H.used j (.inl (by rw [(hold j b e1 hb1).1]; simp))
    · exact H.used j (.inr hj)
    · obtain ⟨s, l, h2⟩ := hids j hj
      exact H.used j (.inl (by rw [h2]; simp))
  · rintro j (hj | hj)
    · have e1 : j ≠ id := fun e => H.notDead hb (e ▸ hj)
      rw [hat, if_neg e1]
      split
      · rfl
      · exact H.dead j hj
    · have e1 : j ≠ id := fun e => by
        obtain ⟨s, l, h2⟩ := hids j hj
        rw [e, hb] at h2; cases h2
      rw [hat, if_neg e1, if_pos hj]
end
end Go.VM
