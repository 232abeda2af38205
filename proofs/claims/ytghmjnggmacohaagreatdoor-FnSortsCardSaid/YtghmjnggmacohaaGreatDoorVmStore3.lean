import Derived.Test.YtghmjnggmacohaaGreatDoorVmAppend
/- Elements that are put into arrays; stores; struct values; slice literals; make; bytes of texts. -/
set_option linter.unusedVariables false
set_option linter.unusedSimpArgs false
namespace Go.VM
open Go

section
variable {P : Program} {w0 w : World} {O S : Nat → Prop} {g : G} {h : Heap} {U : Nat → Prop} {a : Act} {e : Env} {n : Nat} {o : Oper}

theorem nodupB_iff : ∀ {l : List Nat}, nodupB l = true ↔ l.Nodup
  | [] => by simp [nodupB]
  | x :: l => by simp [nodupB, nodupB_iff (l := l)]

/-- The words lie in live blocks of these ids. -/
def InIds (g : G) (h : Heap) (ids : List Nat) (N : Nat → Prop) : Prop := ∀ k, N k → ∃ id ∈ ids, h id ≠ none ∧ g.N id k

theorem InIds.disj (H : HOk w0 O w S g h U) {A B : List Nat} {N M : Nat → Prop} (hN : InIds g h A N) (hM : InIds g h B M) (hd : ∀ id ∈ A, id ∉ B) : ∀ k, N k → ¬ M k := by
  intro k h1 h2
  obtain ⟨i, hi, hh, hg⟩ := hN k h1
  obtain ⟨j, hj, hh', hg'⟩ := hM k h2
  obtain ⟨b1, hb1⟩ := Option.ne_none_iff_exists'.1 hh
  obtain ⟨b2, hb2⟩ := Option.ne_none_iff_exists'.1 hh'
  have := H.disj i j b1 b2 k hb1 hb2 hg hg'
  subst this
  exact hd i hi hj

theorem clC_ok (H : HOk w0 O w S g h U) {x y : V} {c : Value} {ids : List Nat} (hv : clC h x = some (y, ids)) (hx : VR w S g h x c) :
    okCell y = true ∧ c.oneCell' = true ∧ c.cells = #[c] ∧ (∀ id ∈ ids, h id ≠ none) ∧ ∃ N, OW w y c N ∧ InIds g h ids N := by
  cases x with
  | int k m => simp only [clC, Option.some.injEq, Prod.mk.injEq] at hv; obtain ⟨rfl, rfl⟩ := hv; rw [hx.inv_int]; exact ⟨rfl, rfl, rfl, by simp, _, .int _ _, fun _ h => h.elim⟩
  | bool b => simp only [clC, Option.some.injEq, Prod.mk.injEq] at hv; obtain ⟨rfl, rfl⟩ := hv; rw [hx.inv_bool]; exact ⟨rfl, rfl, rfl, by simp, _, .bool _, fun _ h => h.elim⟩
  | str s => simp only [clC, Option.some.injEq, Prod.mk.injEq] at hv; obtain ⟨rfl, rfl⟩ := hv; obtain ⟨b, rfl, hb⟩ := hx.inv_str; exact ⟨rfl, rfl, rfl, by simp, _, .str _ _ hb, fun _ h => h.elim⟩
  | raw a n k => simp only [clC, Option.some.injEq, Prod.mk.injEq] at hv; obtain ⟨rfl, rfl⟩ := hv; rw [hx.inv_raw]; exact ⟨rfl, rfl, rfl, by simp, _, .raw _ _ _, fun _ h => h.elim⟩
  | nils sz => simp only [clC, Option.some.injEq, Prod.mk.injEq] at hv; obtain ⟨rfl, rfl⟩ := hv; rw [hx.inv_nils]; exact ⟨rfl, rfl, rfl, by simp, _, .lnil _, fun _ h => h.elim⟩
  | own id =>
    simp only [clC] at hv
    split at hv
    · rename_i sz els hb
      simp only [Option.some.injEq, Prod.mk.injEq] at hv; obtain ⟨rfl, rfl⟩ := hv
      obtain ⟨_, rfl⟩ := hx.inv_own hb (H.notDead hb)
      exact ⟨rfl, rfl, rfl, by simp [hb], _, (H.blk id _ hb).1, fun k hk => ⟨id, by simp, by simp [hb], hk⟩⟩
    · cases hv
  | win id lo len =>
    simp only [clC] at hv
    split at hv
    · rename_i sz els hb
      split at hv
      · rename_i hle
        simp only [Option.some.injEq, Prod.mk.injEq] at hv; obtain ⟨rfl, rfl⟩ := hv
        have hcle := (H.blk id _ hb).1.len_le.1
        by_cases hlt : lo < els.length
        case neg =>
          have h0 : lo = 0 := by rcases hle.2 with h | h; exact absurd h hlt; exact h
          subst h0
          have he : els = [] := List.eq_nil_of_length_eq_zero (by omega)
          subst he
          have hl0 : len = 0 := by simpa using hle.1
          subst hl0
          have hB := H.blk id _ hb
          have e2 : c = .slice (g.base id) 0 (g.cap id) := by
            rcases hx.inv_win0 hb (H.notDead hb) with ⟨_, e1, e2⟩ | ⟨ad, hbase, _, e2⟩
            · rw [e2, e1]
            · rw [e2, hbase]
              have := hB.2 ad hbase
              obtain ⟨_, _, _⟩ := ad
              simp only at this
              subst this
              rfl
          subst e2
          exact ⟨rfl, rfl, rfl, by simp [hb], _, hB.1, fun k hk => ⟨id, by simp, by simp [hb], hk⟩⟩
        have hl : ((els.drop lo).take len).length = len := by simp; omega
        have hev : elsOf h (.win id lo len) = some (sz, (els.drop lo).take len) := by simp only [elsOf, hb, if_pos hle.1]
        rcases dst_row H rfl hev hx with ⟨_, ba, hc, _⟩ | ⟨id', ad, cp, cur, e, fr, Ng, hid, _, hsp, hc, hlc, hmax, hrow, hfr, hcap, hsz, hok, hr, hself, hdis, hN, hNg⟩
        · obtain ⟨_, e⟩ := hx.inv_win hb (H.notDead hb)
          rcases e with ⟨_, hcz, _⟩ | ⟨ad, cp, _, hcp, _, e⟩
          · omega
          · rw [hc] at e
            simp only [Value.slice.injEq] at e
            omega
        · have : id' = id := by simpa [idsC] using hid
          subst this
          subst hc
          refine ⟨rfl, rfl, rfl, by simp [hb], _, OW.mk_row hsp hlc hmax hsz hok hrow hfr hcap hr hself hdis, fun k hk => ⟨id', by simp, by simp [hb], ?_⟩⟩
          rcases hk with rfl | ⟨i, j, hi, hj, hg⟩
          · exact hN
          · exact hNg i j k hi hj hg
      · cases hv
    · cases hv
  | _ => simp [clC] at hv

theorem clL_ok (H : HOk w0 O w S g h U) : ∀ {l ys : List V} {cs : List Value} {ids : List Nat}, clL h l = some (ys, ids) → l.length = cs.length → (∀ (i : Nat) x c, l[i]? = some x → cs[i]? = some c → VR w S g h x c) →
    ys.length = l.length ∧ (∀ y ∈ ys, okCell y = true) ∧ (∀ id ∈ ids, h id ≠ none) ∧ ∃ Ns : Nat → Nat → Prop, (∀ (i : Nat) y c, ys[i]? = some y → cs[i]? = some c → OW w y c (Ns i) ∧ c.oneCell' = true) ∧ (∀ i, i < l.length → InIds g h ids (Ns i)) ∧
      (ids.Nodup → ∀ i j k, i < l.length → j < l.length → Ns i k → Ns j k → i = j)
  | [], ys, cs, ids, hv, _, _ => by
    simp only [clL, Option.some.injEq, Prod.mk.injEq] at hv
    obtain ⟨rfl, rfl⟩ := hv
    exact ⟨rfl, by simp, by simp, fun _ _ => False, fun i y c hy => by simp at hy, fun i hi => by simp at hi, fun _ i j k hi => by simp at hi⟩
  | x :: l, ys, [], ids, _, hl, _ => by simp at hl
  | x :: l, ys, c :: cs, ids, hv, hl, hr => by
    simp only [clL, Option.bind_eq_some_iff, Option.map_eq_some_iff] at hv
    obtain ⟨⟨y, i1⟩, hy, ⟨ys', i2⟩, hys, hv⟩ := hv
    simp only [Prod.mk.injEq] at hv
    obtain ⟨rfl, rfl⟩ := hv
    obtain ⟨h1, h2, _, h3, N, h4, h5⟩ := clC_ok H hy (hr 0 x c rfl rfl)
    obtain ⟨h6, h7, h8, Ns, h9, h10, h11⟩ := clL_ok H hys (by simpa using hl) (fun i x c hx hc => hr (i + 1) x c (by simpa using hx) (by simpa using hc))
    refine ⟨by simp [h6], ?_, ?_, fun i => match i with | 0 => N | i + 1 => Ns i, ?_, ?_, ?_⟩
    · rintro z hz
      rcases List.mem_cons.1 hz with rfl | hz
      · exact h1
      · exact h7 z hz
    · intro id hid
      rcases List.mem_append.1 hid with hid | hid
      · exact h3 id hid
      · exact h8 id hid
    · intro i z d hz hd
      cases i with
      | zero => simp at hz hd; subst hz hd; exact ⟨h4, h2⟩
      | succ i => exact h9 i z d (by simpa using hz) (by simpa using hd)
    · intro i hi k hk
      cases i with
      | zero => obtain ⟨id, q1, q2⟩ := h5 k hk; exact ⟨id, List.mem_append_left _ q1, q2⟩
      | succ i => obtain ⟨id, q1, q2⟩ := h10 i (by simpa using hi) k hk; exact ⟨id, List.mem_append_right _ q1, q2⟩
    · intro hnd i j k hi hj hk hk'
      rw [List.nodup_append] at hnd
      have hx : ∀ id ∈ i1, id ∉ i2 := fun id q1 q2 => hnd.2.2 id q1 id q2 rfl
      cases i with
      | zero =>
        cases j with
        | zero => rfl
        | succ j => exact absurd hk' (InIds.disj H h5 (h10 j (by simpa using hj)) hx k hk)
      | succ i =>
        cases j with
        | zero => exact absurd hk (InIds.disj H h5 (h10 i (by simpa using hi)) hx k hk')
        | succ j => rw [h11 hnd.2.1 i j k (by simpa using hi) (by simpa using hj) hk hk']

/-- An element, closed: its cells and their words. -/
def ElemOk (w : World) (g : G) (h : Heap) (y : V) (cs : Array Value) (ids : List Nat) : Prop :=
  cs.size = y.cells.length ∧ (∀ z ∈ y.cells, okCell z = true) ∧ (∀ id ∈ ids, h id ≠ none) ∧ ∃ Ns : Nat → Nat → Prop, (∀ (j : Nat) z c, y.cells[j]? = some z → cs[j]? = some c → OW w z c (Ns j) ∧ c.oneCell' = true) ∧
    (∀ j, j < y.cells.length → InIds g h ids (Ns j)) ∧ (ids.Nodup → ∀ i j k, i < y.cells.length → j < y.cells.length → Ns i k → Ns j k → i = j)

theorem clA_ok (H : HOk w0 O w S g h U) {x y : V} {c : Value} {ids : List Nat} (hv : clA h x = some (y, ids)) (hx : VR w S g h x c) : ElemOk w g h y c.cells ids := by
  by_cases hagg : ∃ l, x = .agg l
  · obtain ⟨l, rfl⟩ := hagg
    simp only [clA, Option.map_eq_some_iff] at hv
    obtain ⟨⟨ys, ids'⟩, hys, hv⟩ := hv
    simp only [Prod.mk.injEq] at hv
    obtain ⟨rfl, rfl⟩ := hv
    obtain ⟨cs, rfl, hl, hr⟩ := hx.inv_agg
    obtain ⟨h1, h2, h3, Ns, h4, h5, h6⟩ := clL_ok H hys (cs := cs.toList) (by simpa using hl) (fun i x c hx hc => hr i x c hx (by simpa using hc))
    exact ⟨by simp [Value.cells, V.cells, h1, hl], h2, h3, Ns, fun j z c hz hc => h4 j z c hz (by simpa [Value.cells] using hc), fun j hj => h5 j (by simpa [V.cells, h1] using hj), fun hn i j k hi hj => h6 hn i j k (by simpa [V.cells, h1] using hi) (by simpa [V.cells, h1] using hj)⟩
  · have hv' : clC h x = some (y, ids) := by
      cases x <;> first | exact hv | (rename_i l; exact absurd ⟨l, rfl⟩ hagg)
    obtain ⟨h1, h2, hcc, h3, N, h4, h5⟩ := clC_ok H hv' hx
    have hyc := okCell_cells h1
    refine ⟨by rw [hyc, hcc]; rfl, by rw [hyc]; simpa using h1, h3, fun _ => N, ?_, fun j hj => h5, ?_⟩
    · intro j z d hz hd
      rw [hyc] at hz; rw [hcc] at hd
      cases j with
      | zero => simp at hz hd; subst hz hd; exact ⟨h4, h2⟩
      | succ j => simp at hz
    · intro _ i j k hi hj _ _
      rw [hyc] at hi hj
      simp at hi hj
      omega

/-- Cells are laid into a row; the element that they make stands in the array. -/
theorem HOk.setRow (H : HOk w0 O w S g h U) {id sz : Nat} {els : List V} {ad : Addr} {i j0 : Nat} {old new : V} {vs : Array Value} {ids : List Nat} (hb : h id = some ⟨.arr, sz, els⟩) (hbase : g.base id = some ad)
    (hi : els[i]? = some old) (hnd : ids.Nodup) (hid : id ∉ ids) (hlive : ∀ q ∈ ids, h q ≠ none) (hnew : new.cells.length = sz) (hnok : ∀ z ∈ new.cells, okCell z = true) (hfit : j0 + vs.size ≤ sz) (hone : ∀ u ∈ vs.toList, u.oneCell' = true)
    {M : Nat → Nat → Prop} (hM : ∀ (j : Nat) z c, j0 ≤ j → j < j0 + vs.size → new.cells[j]? = some z → vs[j - j0]? = some c → OW w z c (M j)) (hMin : ∀ j, j0 ≤ j → j < j0 + vs.size → InIds g h ids (M j))
    (hMd : ∀ j j' k, j0 ≤ j → j < j0 + vs.size → j0 ≤ j' → j' < j0 + vs.size → M j k → M j' k → j = j') (hkeep : ∀ j, ¬ (j0 ≤ j ∧ j < j0 + vs.size) → new.cells[j]? = old.cells[j]?) :
    ∃ w' g', (storeCells ⟨ad.block, ad.off + (i * sz + j0), none⟩ vs.toList).run P w = .ok () w' ∧ HOk w0 O w' S g' (updsH h (gone ids ++ [(id, some ⟨.arr, sz, els.set i new⟩)])) U ∧ Tr w S g h w' S g' (updsH h (gone ids ++ [(id, some ⟨.arr, sz, els.set i new⟩)])) := by
  have hO := (H.blk id _ hb).1
  have hspx := (H.blk id _ hb).2
  rw [hbase] at hO
  obtain ⟨_, hsp, hle, hmax, hsz, hok, cur, e', fr, Ng, h1, h2, h3, h4, h5, h6, h7⟩ := hO.row
  have hil := (List.getElem?_eq_some_iff.1 hi).1
  have hosz := hsz old (List.mem_of_getElem? hi)
  have hmul : i * sz + sz ≤ g.cap id * sz := by rw [← Nat.succ_mul]; exact Nat.mul_le_mul_right _ (by omega)
  obtain ⟨w', cur', hst, hrow', hcsz, hcc, ho⟩ := run_storeCells_row P (off := ad.off + (i * sz + j0)) vs.toList 0 w cur h1 h2 hone (by simp only [Array.length_toList]; omega)
  have hNid : g.N id ad.block := (h7 _).2 (.inl rfl)
  have hMb : ∀ j k, j0 ≤ j → j < j0 + vs.size → M j k → ¬ g.N id k := by
    intro j k q1 q2 hk hN
    exact InIds.disj H (hMin j q1 q2) (B := [id]) (M := g.N id) (fun k hk => ⟨id, by simp, by simp [hb], hk⟩) (fun q hq e => hid (by simp at e; exact e ▸ hq)) k hk hN
  let F : Nat → Nat → Nat → Prop := fun p q => if p = i ∧ j0 ≤ q ∧ q < j0 + vs.size then M q else Ng p q
  have hFN : ∀ p q k, p < els.length → q < sz → F p q k → (∃ r ∈ ids, h r ≠ none ∧ g.N r k) ∨ Ng p q k := by
    intro p q k hp hq hk
    by_cases hc : p = i ∧ j0 ≤ q ∧ q < j0 + vs.size
    · simp only [F, hc, true_and, and_self, if_true] at hk
      exact .inl (hMin q hc.2.1 hc.2.2 k hk)
    · simp only [F, hc, if_false] at hk
      exact .inr hk
  have hsep : ∀ p q p' q' k, p < els.length → q < sz → p' < els.length → q' < sz → F p q k → F p' q' k → p = p' ∧ q = q' := by
    intro p q p' q' k hp hq hp' hq' hk hk'
    by_cases hc : p = i ∧ j0 ≤ q ∧ q < j0 + vs.size <;> by_cases hc' : p' = i ∧ j0 ≤ q' ∧ q' < j0 + vs.size
    · simp only [F, hc, hc', true_and, and_self, if_true] at hk hk'
      exact ⟨hc.1.trans hc'.1.symm, hMd q q' k hc.2.1 hc.2.2 hc'.2.1 hc'.2.2 hk hk'⟩
    · simp only [F, hc, true_and, and_self, if_true] at hk
      simp only [F, hc', if_false] at hk'
      exact absurd ((h7 k).2 (.inr ⟨p', q', hp', hq', hk'⟩)) (hMb q k hc.2.1 hc.2.2 hk)
    · simp only [F, hc, if_false] at hk
      simp only [F, hc', true_and, and_self, if_true] at hk'
      exact absurd ((h7 k).2 (.inr ⟨p, q, hp, hq, hk⟩)) (hMb q' k hc'.2.1 hc'.2.2 hk')
    · simp only [F, hc, if_false] at hk
      simp only [F, hc', if_false] at hk'
      exact h6 p q p' q' k hp hq hp' hq' hk hk'
  have hself : ∀ p q, p < els.length → q < sz → ¬ F p q ad.block := by
    intro p q hp hq hk
    by_cases hc : p = i ∧ j0 ≤ q ∧ q < j0 + vs.size
    · simp only [F, hc, true_and, and_self, if_true] at hk
      exact hMb q _ hc.2.1 hc.2.2 hk hNid
    · simp only [F, hc, if_false] at hk
      exact h5 p q hp hq hk
  have hlen : (els.set i new).length = els.length := by simp
  have how : OW w' (.lst sz (els.set i new)) (.slice (some ad) (els.set i new).length (g.cap id)) (fun k => k = ad.block ∨ ∃ p q, p < (els.set i new).length ∧ q < sz ∧ F p q k) := by
    refine OW.mk_row (cur := cur') (e := e') (fr := fr) hsp (by rw [hlen]; exact hle) hmax ?_ ?_ hrow' (by rw [hcsz]; exact h2) (by rw [hcsz]; exact h3) ?_ (by rw [hlen]; exact hself) (by rw [hlen]; exact hsep)
    · intro x hx
      rcases List.mem_or_eq_of_mem_set hx with hx | rfl
      · exact hsz x hx
      · exact hnew
    · intro x hx
      rcases List.mem_or_eq_of_mem_set hx with hx | rfl
      · exact hok x hx
      · exact hnok
    · intro p x q y hx hy
      have hp : p < els.length := by have := (List.getElem?_eq_some_iff.1 hx).1; simpa using this
      have hq : q < sz := by
        have h8 := (List.getElem?_eq_some_iff.1 hy).1
        rcases List.mem_or_eq_of_mem_set (List.mem_of_getElem? hx) with hm | rfl
        · rw [hsz x hm] at h8; exact h8
        · rw [hnew] at h8; exact h8
      have hFb : ∀ k, F p q k → k ≠ ad.block := fun k hk ek => hself p q hp hq (ek ▸ hk)
      by_cases hpi : p = i
      · subst hpi
        rw [List.getElem?_set_self hil] at hx
        cases hx
        by_cases hc : j0 ≤ q ∧ q < j0 + vs.size
        · have hvq : q - j0 < vs.size := by omega
          have ho1 := hM q y vs[q - j0] hc.1 hc.2 hy (Array.getElem?_eq_getElem hvq)
          refine ⟨vs[q - j0], ?_, ?_⟩
          · rw [hcc, if_pos (by simp only [Array.length_toList]; omega)]
            have : ad.off + (p * sz + q) - (ad.off + (p * sz + j0) + 0) = q - j0 := by omega
            rw [this]
            simp [hvq]
          · have : F p q = M q := by simp [F, hc]
            rw [this]
            exact ho1.mono fun k hk => ho.block k (hFb k (by rw [this]; exact hk))
        · rw [hkeep q hc] at hy
          obtain ⟨c, hc1, hoo⟩ := h4 p old q y hi hy
          refine ⟨c, ?_, ?_⟩
          · rw [hcc, if_neg (by simp only [Array.length_toList]; omega)]
            exact hc1
          · have : F p q = Ng p q := by simp [F, hc]
            rw [this]
            exact hoo.mono fun k hk => ho.block k (hFb k (by rw [this]; exact hk))
      · rw [List.getElem?_set_ne (Ne.symm hpi)] at hx
        obtain ⟨c, hc1, hoo⟩ := h4 p x q y hx hy
        refine ⟨c, ?_, ?_⟩
        · rw [hcc, if_neg ?_]
          · exact hc1
          · simp only [Array.length_toList]
            intro hcon
            rcases Nat.lt_or_ge p i with hlt | hge
            · have : p * sz + sz ≤ i * sz := by rw [← Nat.succ_mul]; exact Nat.mul_le_mul_right _ hlt
              omega
            · have : i * sz + sz ≤ p * sz := by rw [← Nat.succ_mul]; exact Nat.mul_le_mul_right _ (by omega)
              omega
        · have : F p q = Ng p q := by simp [F, hpi]
          rw [this]
          exact hoo.mono fun k hk => ho.block k (hFb k (by rw [this]; exact hk))
  have hNN : ∀ k, (k = ad.block ∨ ∃ p q, p < (els.set i new).length ∧ q < sz ∧ F p q k) → w.heap.size ≤ k ∨ ∃ r, (r ∈ ids ∨ r = id) ∧ h r ≠ none ∧ g.N r k := by
    rintro k (rfl | ⟨p, q, hp, hq, hk⟩)
    · exact .inr ⟨id, .inr rfl, by simp [hb], hNid⟩
    · rw [hlen] at hp
      rcases hFN p q k hp hq hk with ⟨r, q1, q2, q3⟩ | hk
      · exact .inr ⟨r, .inl q1, q2, q3⟩
      · exact .inr ⟨id, .inr rfl, by simp [hb], (h7 k).2 (.inr ⟨p, q, hp, hq, hk⟩)⟩
  obtain ⟨g', H', tr, hv⟩ := H.replace (w' := w') (R := ids) (m := id) hid (.inr ⟨els, hb, hlen.symm, hbase.symm, rfl⟩) how (fun ad' h => by cases h; exact hsp) hNN
    (fun k hk hno => ho.block k fun ek => hno id (.inr rfl) (by simp [hb]) (ek ▸ hNid)) ho.os ho.tape ho.output (by rw [ho.size]; exact Nat.le_refl _)
  refine ⟨w', g', hst, H'.weak ?_, tr⟩
  rintro k (hk | rfl)
  · exact hk
  · exact H.used k (.inl (by simp [hb]))

end
end Go.VM

/- Stores; struct values; slice literals; make; bytes of texts: the operations. -/
set_option linter.unusedVariables false
set_option linter.unusedSimpArgs false
namespace Go.VM
open Go

section
variable {P : Program} {w0 w : World} {O S : Nat → Prop} {g : G} {h : Heap} {U : Nat → Prop} {a : Act} {e : Env} {n : Nat} {o : Oper}

theorem run_storeAt {t : TypeId} {b off : Nat} {v : Value} {w' : World} (hne : P.cellsOf t ≠ 0) (hs : v.cells.size = P.cellsOf t) (hr : (storeCells ⟨b, off, none⟩ v.cells.toList).run P w = .ok () w') :
    (Instr.storeAt t (.pointer (some ⟨b, off, none⟩)) v).run P w = .ok () w' := by
  simp [Instr.storeAt, Instr.sureAddr, storeVar, run_sizeOf hne, hs, hr]

theorem does_skip {us : List (Nat × Option Blk)} {w' : World} {g' : G} (hrun : (execOp a.eval o).run P w = .ok .skip w') (H' : HOk w0 O w' S g' (updsH h us) U) (tr : Tr w S g h w' S g' (updsH h us)) :
    Does P w0 O w S g h U a n o .undef us := ⟨Go.undef, w', g', .inr ⟨hrun, rfl⟩, H'.weak fun _ hk => .inl hk, tr, .undef _⟩

theorem hlC_free {y : V} {c : Value} {N : Nat → Prop} (x : OW w (hlC y) c N) : ∀ k, ¬ N k := by
  intro k hk
  generalize hv : hlC y = v at x
  cases x with
  | lst => cases y <;> simp [hlC] at hv
  | agg => cases y <;> simp [hlC] at hv
  | tup => cases y <;> simp [hlC] at hv
  | _ => exact hk
theorem set_modify (els : List V) (j k : Nat) : (els.set j (.own k)).modify j hlA = (els.modify j hlA).set j .hole := by
  apply List.ext_getElem?
  intro i
  rw [List.getElem?_modify, List.getElem?_set, List.getElem?_set, List.getElem?_modify, List.length_modify]
  by_cases e : j = i
  · subst e
    simp only [if_true]
    split
    · rfl
    · rfl
  · simp [e]
/-- The opened element of an array is written. -/
theorem HOk.setOpn (H : HOk w0 O w S g h U) {id j k : Nat} {els : List V} {old : V} {ad : Addr} {c : Value} (hb : h id = some ⟨.opn j, 1, els⟩) (hbase : g.base id = some ad) (hj : els[j]? = some old)
    (hk : isArrB (h k) = true) (hkid : k ≠ id) (hx : VR w S g h (.own k) c) :
    ∃ w', (storeCells ⟨ad.block, ad.off + j, none⟩ [c]).run P w = .ok () w' ∧ HOk w0 O w' S g (updH h id (some ⟨.opn j, 1, els.set j (.own k)⟩)) U ∧ Tr w S g h w' S g (updH h id (some ⟨.opn j, 1, els.set j (.own k)⟩)) := by
  obtain ⟨szk, lk, hkb⟩ : ∃ s l, h k = some ⟨.arr, s, l⟩ := by
    unfold isArrB at hk
    split at hk
    · rename_i s l q; exact ⟨s, l, q⟩
    · cases hk
  obtain ⟨_, hce⟩ := hx.inv_own hkb (H.notDead hkb)
  obtain ⟨hO, hspt, x0, hx0, hbx, href⟩ := H.blk id _ hb
  have hlen : (els.modify j hlA).length = els.length := List.length_modify ..
  rw [hbase, ← hlen] at hO
  obtain ⟨_, hsp, hle, hmax, hsz, hok, cur, e', fr, Ng, h1, h2, h3, h4, h5, h6, h7⟩ := hO.row
  have hjl := (List.getElem?_eq_some_iff.1 hj).1
  rw [hj] at hx0; cases hx0
  have hm : (els.modify j hlA)[j]? = some (hlA old) := by simp [List.getElem?_modify, hj]
  have hosz : (hlA old).cells.length = 1 := hsz _ (List.mem_of_getElem? hm)
  have hone : ∀ u ∈ [c], u.oneCell' = true := by
    intro u hu
    rw [List.mem_singleton] at hu
    subst hu; rw [hce]; rfl
  obtain ⟨w', cur', hst, hrow', hcsz, hcc, ho⟩ := run_storeCells_row P (sz := 1) (off := ad.off + j) [c] 0 w cur h1 h2 hone (by simp only [List.length_singleton]; rw [hlen] at hle; omega)
  have hNid : g.N id ad.block := (h7 _).2 (.inl rfl)
  have hown := H.own id _ ad.block hb hNid
  -- the element that was there holds no block of its own
  have hfree : ∀ q, q < 1 → ∀ n, ¬ Ng j q n := by
    intro q hq n hn
    obtain ⟨y, hy⟩ : ∃ y, (hlA old).cells[q]? = some y := ⟨_, List.getElem?_eq_getElem (by omega)⟩
    obtain ⟨c0, _, hoo⟩ := h4 j _ q y hm hy
    obtain ⟨z, _, rfl⟩ : ∃ z, old.cells[q]? = some z ∧ y = hlC z := by
      cases old with
      | agg l => simp only [hlA, V.cells, List.getElem?_map, Option.map_eq_some_iff] at hy; obtain ⟨z, hz, rfl⟩ := hy; exact ⟨z, hz, rfl⟩
      | _ =>
        have hq0 : q = 0 := by omega
        subst hq0
        first | (simp only [hlA, hlC, V.cells, List.getElem?_cons_zero, Option.some.injEq] at hy; subst hy; exact ⟨_, rfl, rfl⟩) | (simp only [hlA, V.cells] at hy; exact ⟨_, rfl, by simpa [hlC] using hy.symm⟩)
    exact hlC_free hoo n hn
  have how : OW w' (.lst 1 ((els.set j (.own k)).modify j hlA)) (.slice (some ad) (els.set j (.own k)).length (g.cap id)) (g.N id) := by
    rw [set_modify]
    have hl2 : ((els.modify j hlA).set j .hole).length = els.length := by rw [List.length_set, hlen]
    have hl3 : (els.set j (.own k)).length = ((els.modify j hlA).set j .hole).length := by rw [List.length_set, hl2]
    rw [hl3]
    refine (OW.mk_row (sz := 1) (cur := cur') (e := e') (fr := fr) (Ng := Ng) hsp (by rw [hl2, ← hlen]; exact hle) hmax ?_ ?_ hrow' (by rw [hcsz]; exact h2) (by rw [hcsz]; exact h3) ?_ ?_ ?_).cast ?_
    · intro x hx
      rcases List.mem_or_eq_of_mem_set hx with hx | rfl
      · exact hsz x hx
      · rfl
    · intro x hx
      rcases List.mem_or_eq_of_mem_set hx with hx | rfl
      · exact hok x hx
      · intro y hy
        simp only [V.cells, List.mem_singleton] at hy
        subst hy; rfl
    · intro p x q y hx hy
      have hp : p < els.length := by have := (List.getElem?_eq_some_iff.1 hx).1; omega
      by_cases hpj : p = j
      · subst hpj
        rw [List.getElem?_set_self (by omega)] at hx
        cases hx
        have hq0 : q = 0 := by
          have := (List.getElem?_eq_some_iff.1 hy).1
          simp only [V.cells, List.length_singleton] at this; omega
        subst hq0
        simp only [V.cells, List.getElem?_cons_zero, Option.some.injEq] at hy
        subst hy
        refine ⟨c, ?_, ?_⟩
        · rw [hcc, if_pos (by simp only [List.length_singleton]; omega)]
          have : ad.off + (p * 1 + 0) - (ad.off + p + 0) = 0 := by omega
          rw [this]; rfl
        · rw [hce]
          exact (OW.hole _ _ _).cast fun n => ⟨fun h => h.elim, fun h => hfree 0 (by omega) n h⟩
      · rw [List.getElem?_set_ne (Ne.symm hpj)] at hx
        obtain ⟨c0, hc1, hoo⟩ := h4 p x q y hx hy
        have hq : q < 1 := by
          have h8 := (List.getElem?_eq_some_iff.1 hy).1
          rw [hsz x (List.mem_of_getElem? hx)] at h8; exact h8
        refine ⟨c0, ?_, hoo.mono fun n hn => ho.block n fun en => h5 p q (by omega) hq (en ▸ hn)⟩
        rw [hcc, if_neg (by simp only [List.length_singleton]; omega)]
        exact hc1
    · intro p q hp hq
      exact h5 p q (by omega) hq
    · intro p q p' q' n hp hq hp' hq'
      exact h6 p q p' q' n (by omega) hq (by omega) hq'
    · intro n
      rw [h7 n, hl2, hlen]
  have tr : Tr w S g h w' S g (updH h id (some ⟨.opn j, 1, els.set j (.own k)⟩)) := by
    refine Tr.of (fun n hn => ho.block n fun en => hown.1 (en ▸ hn)) (fun _ h => h) (fun _ h => h) fun i b hi => .inr ?_
    by_cases ei : i = id
    · subst ei
      rw [hb] at hi; cases hi
      exact ⟨⟨.opn j, 1, els.set j (.own k)⟩, by simp [updH], rfl, rfl, by simp, rfl, rfl⟩
    · exact ⟨b, by simp [updH, ei, hi], rfl, rfl, rfl, rfl, rfl⟩
  refine ⟨w', hst, ?_, tr⟩
  refine H.change tr (H.fr.only ho hown.2) (fun n hn => by rw [ho.size]; exact H.slt n hn) ?_ ?_ ?_ ?_
  · intro i b hi
    by_cases ei : i = id
    · subst ei
      simp [updH] at hi; subst hi
      refine .inr ⟨⟨by rw [hbase]; exact how, hspt, .own k, List.getElem?_set_self hjl, rfl, ?_⟩, fun n hn => H.own i _ n hb hn⟩
      intro ad' q y c' had hy hc'
      rw [hbase] at had; cases had
      have hq0 : q = 0 := by
        have := (List.getElem?_eq_some_iff.1 hy).1
        simp only [V.cells, List.length_singleton] at this; omega
      subst hq0
      simp only [V.cells, List.getElem?_cons_zero, Option.some.injEq] at hy
      subst hy
      rw [cell_of_row hrow', hcc, if_pos (by simp only [List.length_singleton]; omega)] at hc'
      have e0 : ad.off + (j * 1 + 0) - (ad.off + j + 0) = 0 := by omega
      rw [e0] at hc'
      simp only [List.getElem?_cons_zero, Option.some.injEq] at hc'
      subst hc'
      exact tr _ _ hx
    · simp only [updH, ei, if_false] at hi
      refine .inl ⟨hi, rfl, rfl, rfl, fun n hn => ⟨ho.block n fun en => ?_, (H.own i b n hi hn).1⟩⟩
      subst en
      exact ei (H.disj i id b _ _ hi hb hn hNid)
  · intro i i' b b' n hi hi' hNi hNj
    have f : ∀ i b, updH h id (some ⟨.opn j, 1, els.set j (.own k)⟩) i = some b → ∃ b0, h i = some b0 := by
      intro i b hi
      by_cases ei : i = id
      · subst ei; exact ⟨_, hb⟩
      · simp only [updH, ei, if_false] at hi; exact ⟨_, hi⟩
    obtain ⟨b0, hb0⟩ := f i b hi
    obtain ⟨b1, hb1⟩ := f i' b' hi'
    exact H.disj i i' b0 b1 n hb0 hb1 hNi hNj
  · rintro i (hi | hi)
    · by_cases ei : i = id
      · subst ei; exact H.used i (.inl (by simp [hb]))
      · simp only [updH, ei, if_false] at hi; exact H.used i (.inl hi)
    · exact H.used i (.inr hi)
  · intro i hi
    have ei : i ≠ id := fun e => H.notDead hb (e ▸ hi)
    simp only [updH, ei, if_false]
    exact H.dead i hi
theorem op_store (H : HOk w0 O w S g h U) {t : TypeId} {pa xa : Operand} {p x : V} {us : List (Nat × Option Blk)} (ho : o.op = .store t pa xa) (hp : VR w S g h p (a.eval pa)) (hx : VR w S g h x (a.eval xa))
    (hv : storeV P h t p x = some us) : Does P w0 O w S g h U a n o .undef us := by
  have hexec : ∀ {w'}, (Instr.storeAt t (a.eval pa) (a.eval xa)).run P w = .ok () w' → (execOp a.eval o).run P w = .ok .skip w' := fun hr => by simp [execOp, ho, hr]
  unfold storeV at hv
  split at hv
  · rename_i id i f
    split at hv
    · rename_i sz old hb
      obtain ⟨ad, hbase, hi, ep⟩ := hp.inv_ptr hb (H.notDead hb)
      obtain ⟨ad', cur, e', fr, v, h1, h2, h3, h4, h5, h6, h7, h8, h9, h10, h11⟩ := H.blk id _ hb
      rw [hbase] at h1; cases h1
      simp only [List.cons.injEq, and_true] at h6
      subst h6
      split at hv
      · split at hv
        · rename_i hc
          obtain ⟨rfl, hs0, hxs, hts, hst⟩ := hc
          cases hv
          simp only [storable, Bool.and_eq_true] at hst
          obtain ⟨c1, c2⟩ := hx.cells_ok hst.1 (liveB_notDead H hst.2)
          have hone : ∀ u ∈ (a.eval xa).cells.toList, u.oneCell' = true := by
            intro u hu
            obtain ⟨j, hj, rfl⟩ := List.mem_iff_getElem.1 hu
            have hj' : j < x.cells.length := by rw [← c1]; simpa using hj
            exact (c2 j _ ((a.eval xa).cells.toList[j]) (List.getElem?_eq_getElem hj') (by simp)).2.2
          obtain ⟨w', cur', hrun, hrow', hcsz, hcc, ho'⟩ := run_storeCells_row P (off := ad.off) (a.eval xa).cells.toList 0 w cur h4 h5 hone (by simp only [Array.length_toList]; omega)
          have hall : ∀ (j : Nat) (c : Value), cur'[j]? = some c → (a.eval xa).cells[j]? = some c := by
            intro j c hc
            have hjl := (Array.getElem?_eq_some_iff.1 hc).1
            rw [hcc, if_pos (by simp only [Array.length_toList]; omega)] at hc
            have : j - (ad.off + 0) = j := by omega
            rw [this] at hc
            simpa using hc
          obtain ⟨H', tr⟩ := H.setBox hb hbase hst.1 hxs.symm ho' hrow' (by rw [hcsz]; exact h5) (by rw [hcsz, h8]; omega) (fun j y c hy hc => (c2 j y c hy (hall j c hc)).1)
          refine does_skip (hexec ?_) H' tr
          rw [ep]
          simp only [Nat.zero_mul, Option.getD_none, Nat.add_zero]
          exact run_storeAt (by omega) (by omega) hrun
        · cases hv
      · rename_i j l
        split at hv
        · rename_i hc
          obtain ⟨rfl, hjl, hts, hxo, hxl⟩ := hc
          cases hv
          obtain ⟨e1, e2⟩ := hx.cell_ok hxo (liveB_notDead H hxl)
          obtain ⟨w', cur', hrun, hrow', hcsz, hcc, ho'⟩ := run_storeCells_row P (off := ad.off + j) [a.eval xa] 0 w cur h4 h5 (by simpa using e2) (by simp only [V.cells] at h8; simp; omega)
          simp only [V.cells] at h8 h10
          have hset : ∀ (q : Nat) y, (l.set j x)[q]? = some y → okCell y = true := by
            intro q y hy
            rcases List.mem_or_eq_of_mem_set (List.mem_of_getElem? hy) with hm | rfl
            · exact (List.all_eq_true.1 h9) y hm
            · exact hxo
          obtain ⟨H', tr⟩ := H.setBox (x := .agg (l.set j x)) hb hbase (by
              simp only [boxableA, List.all_eq_true]
              intro y hy
              obtain ⟨q, hq, rfl⟩ := List.mem_iff_getElem.1 hy
              exact hset q _ (List.getElem?_eq_getElem hq)) (by rw [h7]; simp [V.cells]) ho' hrow' (by rw [hcsz]; exact h5) (by rw [hcsz, h8]; simp [V.cells]) (by
              intro q y c hy hc
              simp only [V.cells] at hy
              have hq := (Array.getElem?_eq_some_iff.1 hc).1
              rw [hcc] at hc
              by_cases hqj : q = j
              · subst hqj
                rw [if_pos (by simp; omega)] at hc
                have : q - (ad.off + q + 0) = 0 := by omega
                rw [this] at hc
                simp at hc
                rw [List.getElem?_set_self hjl] at hy
                cases hy
                rw [← hc]; exact hx
              · rw [if_neg (by simp; omega)] at hc
                rw [List.getElem?_set_ne (Ne.symm hqj)] at hy
                exact h10 q y c hy hc)
          refine does_skip (hexec ?_) H' tr
          rw [ep]
          simp only [Nat.zero_mul, Option.getD_some, Nat.zero_add]
          exact run_storeAt (by omega) (by rw [e1, hts]; rfl) (by rw [e1]; exact hrun)
        · cases hv
      · cases hv
    · rename_i sz els hb
      obtain ⟨ad, hbase, hi, ep⟩ := hp.inv_ptr hb (H.notDead hb)
      have hsp := (H.blk id _ hb).2 ad hbase
      split at hv
      · rename_i old y ids hold hcl
        split at hv
        · rename_i hc
          obtain ⟨hs0, hys, hts, hnd⟩ := hc
          cases hv
          simp only [Bool.and_eq_true, Bool.not_eq_true', List.contains_eq_mem, decide_eq_false_iff_not, nodupB_iff] at hnd
          obtain ⟨c1, c2, c3, Ns, c4, c5, c6⟩ := clA_ok H hcl hx
          have hone : ∀ u ∈ (a.eval xa).cells.toList, u.oneCell' = true := by
            intro u hu
            obtain ⟨j, hj, rfl⟩ := List.mem_iff_getElem.1 hu
            have hj' : j < y.cells.length := by rw [← c1]; simpa using hj
            exact (c4 j _ ((a.eval xa).cells.toList[j]) (List.getElem?_eq_getElem hj') (by simp)).2
          obtain ⟨w', g', hrun, H', tr⟩ := H.setRow (P := P) (j0 := 0) (vs := (a.eval xa).cells) (M := Ns) hb hbase hold hnd.2 hnd.1 c3 hys c2 (by omega) hone (fun j z c _ _ hz hc => (c4 j z c hz (by simpa using hc)).1)
            (fun j _ hj => c5 j (by omega)) (fun j j' k _ hj _ hj' h1 h2 => c6 hnd.2 j j' k (by omega) (by omega) h1 h2)
            (fun j hj => by
              have h1 : y.cells.length ≤ j := by omega
              have h2 : old.cells.length ≤ j := by rw [elsOf_flat H hb old (List.mem_of_getElem? hold)]; omega
              rw [List.getElem?_eq_none h1, List.getElem?_eq_none h2])
          refine does_skip (hexec ?_) H' tr
          rw [ep]
          simp only [Option.getD_none]
          exact run_storeAt (by omega) (by omega) hrun
        · cases hv
      · rename_i l j y ids hold hcl
        split at hv
        · rename_i hc
          obtain ⟨hjl, hts, hyo, hnd⟩ := hc
          cases hv
          simp only [Bool.and_eq_true, Bool.not_eq_true', List.contains_eq_mem, decide_eq_false_iff_not, nodupB_iff] at hnd
          obtain ⟨c1, c2, c3, Ns, c4, c5, c6⟩ := clA_ok H hcl hx
          have hyc := okCell_cells hyo
          rw [hyc] at c1 c4 c5
          have hlsz := elsOf_flat H hb _ (List.mem_of_getElem? hold)
          simp only [V.cells] at hlsz
          have hone : ∀ u ∈ (a.eval xa).cells.toList, u.oneCell' = true := by
            intro u hu
            obtain ⟨q, hq, rfl⟩ := List.mem_iff_getElem.1 hu
            have hq' : q < [y].length := by rw [← c1]; simpa using hq
            exact (c4 q _ ((a.eval xa).cells.toList[q]) (List.getElem?_eq_getElem hq') (by simp)).2
          simp only [List.length_cons, List.length_nil] at c1
          obtain ⟨w', g', hrun, H', tr⟩ := H.setRow (P := P) (j0 := j) (vs := (a.eval xa).cells) (new := .agg (l.set j y)) (M := fun q => Ns (q - j)) hb hbase hold hnd.2 hnd.1 c3 (by simp [V.cells, hlsz])
            (by
              intro z hz
              simp only [V.cells] at hz
              rcases List.mem_or_eq_of_mem_set hz with hm | rfl
              · have hO := (H.blk id _ hb).1
                rw [hbase] at hO
                exact hO.row.2.2.2.2.2.1 _ (List.mem_of_getElem? hold) z (by simpa [V.cells] using hm)
              · exact hyo) (by omega) hone
            (fun q z c h1 h2 hz hc => by
              have hq : q = j := by omega
              subst hq
              simp only [V.cells] at hz
              rw [List.getElem?_set_self hjl] at hz
              cases hz
              rw [Nat.sub_self] at hc ⊢
              exact (c4 0 y c rfl hc).1)
            (fun q h1 h2 => c5 (q - j) (by simp; omega)) (fun q q' k h1 h2 h3 h4 _ _ => by omega)
            (fun q hq => by simp only [V.cells]; rw [List.getElem?_set_ne (by omega)])
          refine does_skip (hexec ?_) H' tr
          rw [ep]
          simp only [Option.getD_some]
          exact run_storeAt (by omega) (by omega) hrun
        · cases hv
      · cases hv
    · rename_i j sz els hb
      split at hv
      · rename_i old k hold
        split at hv
        · rename_i hc
          obtain ⟨rfl, rfl, hts, hk, hkid⟩ := hc
          cases hv
          obtain ⟨ad, hbase, hi, ep⟩ := hp.inv_ptr hb (H.notDead hb)
          obtain ⟨w', hrun, H', tr⟩ := H.setOpn (P := P) hb hbase hold hk hkid hx
          refine does_skip (hexec ?_) H' tr
          obtain ⟨szk, lk, hkb⟩ : ∃ s l, h k = some ⟨.arr, s, l⟩ := by
            unfold isArrB at hk
            split at hk
            · rename_i s l q; exact ⟨s, l, q⟩
            · cases hk
          obtain ⟨_, hce⟩ := hx.inv_own hkb (H.notDead hkb)
          have hcells : (a.eval xa).cells = #[a.eval xa] := by rw [hce]; rfl
          rw [ep]
          simp only [Option.getD_none, Nat.mul_one, Nat.add_zero]
          refine run_storeAt (by omega) (by rw [hcells, hts]; rfl) ?_
          rw [hcells]
          exact hrun
        · cases hv
      · cases hv
    · cases hv
  · cases hv

end
end Go.VM

/- Struct values; slice literals; make; bytes of texts. -/
set_option linter.unusedVariables false
set_option linter.unusedSimpArgs false
namespace Go.VM
open Go

section
variable {P : Program} {w0 w : World} {O S : Nat → Prop} {g : G} {h : Heap} {U : Nat → Prop} {a : Act} {e : Env} {n : Nat} {o : Oper}

theorem splice_list (off : Nat) : ∀ (vs : List Value) (k : Nat) (cs : Array Value), ((vs.zipIdx k).foldl (fun cs (p : Value × Nat) => cs.setIfInBounds (off + p.2) p.1) cs).size = cs.size ∧
    ∀ q, off + k + vs.length ≤ cs.size → ((vs.zipIdx k).foldl (fun cs (p : Value × Nat) => cs.setIfInBounds (off + p.2) p.1) cs)[q]? = if off + k ≤ q ∧ q < off + k + vs.length then vs[q - (off + k)]? else cs[q]?
  | [], k, cs => by
    refine ⟨rfl, fun q _ => ?_⟩
    rw [if_neg (by simp)]
    rfl
  | v :: vs, k, cs => by
    obtain ⟨h1, h2⟩ := splice_list off vs (k + 1) (cs.setIfInBounds (off + k) v)
    refine ⟨by simpa [List.zipIdx_cons] using h1, fun q hq => ?_⟩
    simp only [List.length_cons] at hq
    have := h2 q (by simp; omega)
    simp only [List.zipIdx_cons, List.foldl_cons]
    rw [this, Array.getElem?_setIfInBounds]
    by_cases e1 : q = off + k
    · subst e1
      rw [if_neg (by omega), if_pos rfl, if_pos (by omega), if_pos (by simp only [List.length_cons]; omega), Nat.sub_self]
      rfl
    · by_cases e2 : off + (k + 1) ≤ q ∧ q < off + (k + 1) + vs.length
      · rw [if_pos e2, if_pos (by simp only [List.length_cons]; omega)]
        have : q - (off + k) = (q - (off + (k + 1))) + 1 := by omega
        rw [this]; rfl
      · rw [if_neg e2, if_neg (fun e => e1 e.symm), if_neg (by simp only [List.length_cons]; omega)]

/-- Cells laid over others. -/
def splice (off : Nat) (v cs : Array Value) : Array Value := v.zipIdx.foldl (fun cs (p : Value × Nat) => cs.setIfInBounds (off + p.2) p.1) cs
theorem splice_size (off : Nat) (v cs : Array Value) : (splice off v cs).size = cs.size := by
  unfold splice
  rw [← Array.foldl_toList, Array.toList_zipIdx]
  exact (splice_list off v.toList 0 cs).1
theorem splice_get (off : Nat) (v cs : Array Value) (hf : off + v.size ≤ cs.size) (q : Nat) : (splice off v cs)[q]? = if off ≤ q ∧ q < off + v.size then v[q - off]? else cs[q]? := by
  unfold splice
  rw [← Array.foldl_toList, Array.toList_zipIdx]
  have := (splice_list off v.toList 0 cs).2 q (by simpa using hf)
  simpa using this
theorem fill_cons (place : Nat → Option (Nat × Nat)) (cells : Array Value) (i : Nat) (v : Value) (rest : List (Nat × Value)) {off size : Nat} (hp : place i = some (off, size)) (hs : v.cells.size = size) (hf : off + size ≤ cells.size) :
    Instr.fill place cells ((i, v) :: rest) = Instr.fill place (splice off v.cells cells) rest := by
  simp only [Instr.fill, hp]
  rw [if_neg (by simp; omega)]
  rfl

/-- Two lists, row by row. -/
inductive Two {α β : Type} (R : α → β → Prop) : List α → List β → Prop
  | nil : Two R [] []
  | cons {x : α} {y : β} {l : List α} {m : List β} (h : R x y) (t : Two R l m) : Two R (x :: l) (y :: m)

/-! ### struct values -/
theorem buildL_ok (H : HOk w0 O w S g h U) (place : Nat → Option (Nat × Nat)) : ∀ {ps : List (Nat × V)} {cps : List (Nat × Value)} {l l' : List V} {cells : Array Value}, buildL h ps l = some l' →
    Two (fun (p : Nat × V) (c : Nat × Value) => p.1 = c.1 ∧ VR w S g h p.2 c.2) ps cps → (∀ i, i < l.length → place i = some (i, 1)) → l.length = cells.size →
    (∀ (i : Nat) x c, l[i]? = some x → cells[i]? = some c → VR w S g h x c) →
    ∃ cells', Instr.fill place cells cps = some cells' ∧ l'.length = cells'.size ∧ ∀ (i : Nat) x c, l'[i]? = some x → cells'[i]? = some c → VR w S g h x c
  | [], _, l, l', cells, hv, hf, _, hl, hr => by
    cases hf
    simp only [buildL, Option.some.injEq] at hv
    subst hv
    exact ⟨cells, rfl, hl, hr⟩
  | (i, v) :: ps, _, l, l', cells, hv, hf, hp, hl, hr => by
    cases hf with
    | cons h1 h2 =>
      rename_i c cps
      obtain ⟨i', c⟩ := c
      simp only at h1
      obtain ⟨rfl, hvr⟩ := h1
      simp only [buildL] at hv
      split at hv
      · rename_i hc
        obtain ⟨e1, e2⟩ := hvr.cell_ok hc.2.1 (liveB_notDead H hc.2.2)
        have hpi := hp i hc.1
        rw [fill_cons place cells i c cps hpi (by rw [e1]; rfl) (by omega)]
        refine buildL_ok H place hv h2 (by simpa using hp) (by rw [splice_size]; simpa using hl) ?_
        intro q x d hx hd
        rw [splice_get _ _ _ (by rw [e1]; simp; omega), e1] at hd
        by_cases hq : q = i
        · subst hq
          rw [if_pos (by simp), Nat.sub_self] at hd
          rw [List.getElem?_set_self hc.1] at hx
          simp at hx hd
          subst hx hd
          exact hvr
        · rw [if_neg (by simp; omega)] at hd
          rw [List.getElem?_set_ne (Ne.symm hq)] at hx
          exact hr q x d hx hd
      · cases hv

theorem fieldsFlat_eq {t : TypeId} (hf : fieldsFlat P t = true) : ∃ fs : Array Field, P.underlying t = some (.struct fs) ∧ ∀ (i : Nat) (f : Field), fs[i]? = some f → f.offset = i ∧ P.cellsOf f.type = 1 := by
  unfold fieldsFlat at hf
  split at hf
  · rename_i fs hu
    refine ⟨fs, hu, fun i f hif => ?_⟩
    have hi := (Array.getElem?_eq_some_iff.1 hif).1
    have := (List.all_eq_true.1 hf) i (by simpa using hi)
    simp only [hif, Bool.and_eq_true, beq_iff_eq] at this
    exact this
  · cases hf

theorem places_flat : ∀ (fs : List Field) (k : Nat), (∀ (i : Nat) (f : Field), fs[i]? = some f → f.offset = k + i ∧ P.cellsOf f.type = 1) →
    fs.mapM (fun f => (P.info? f.type).map fun i => (f.offset, i.size)) = some ((List.range' k fs.length).map fun i => (i, 1))
  | [], k, _ => by simp
  | f :: fs, k, h => by
    have h0 := h 0 f rfl
    obtain ⟨i, hi, hs⟩ := info_of_cellsOf (P := P) (t := f.type) (by omega)
    have ih := places_flat fs (k + 1) (fun i f hf => by have := h (i + 1) f (by simpa using hf); omega)
    simp only [List.mapM_cons, hi, Option.map_some, ih]
    simp [List.range'_succ, h0.1, hs, h0.2]

theorem forall2_map {α β γ : Type} {R : α → β → Prop} (f : γ → α) (k : γ → β) : ∀ (l : List γ), (∀ x ∈ l, R (f x) (k x)) → Two R (l.map f) (l.map k)
  | [], _ => .nil
  | x :: l, h => .cons (h x (by simp)) (forall2_map f k l fun y hy => h y (by simp [hy]))

theorem op_build (H : HOk w0 O w S g h U) (E : ∀ t, VR w S g h (e t) (a.tmps.getD t Go.undef)) {t : TypeId} {ps : Array (Nat × Operand)} {z l : List V} (ho : o.op = .build t ps) (hz : zeroV P t = some (.agg z)) (hff : fieldsFlat P t = true)
    (hv : buildL h (ps.toList.map fun p => (p.1, evO P e t p.2)) z = some l) : Does P w0 O w S g h U a n o (.agg l) [] := by
  obtain ⟨i, zv, hi, hzv, hzs, hzb, hzc, hzr, hzz⟩ := zeroV_ok (w := w) (S := S) (g := g) (h := h) hz
  obtain ⟨fs, hu, hfs⟩ := fieldsFlat_eq hff
  rcases hzz with ⟨fs', hu', z', cs, ez, ezv, hzl⟩ | ⟨hns, _⟩
  · cases ez
    subst ezv
    rw [hu] at hu'; cases hu'
    have hpl := places_flat (P := P) fs.toList 0 (fun i f hf => by have := hfs i f (by simpa using hf); omega)
    obtain ⟨cells', hfill, hl', hr'⟩ := buildL_ok H (((List.range' 0 fs.toList.length).map fun i => (i, 1)).toArray[·]?) (cps := ps.toList.map fun p => (p.1, a.eval p.2)) (cells := cs) hv
      (forall2_map _ _ _ fun p _ => ⟨rfl, evO_ok E t p.2⟩)
      (fun i hi => by
        have : i < fs.size := by rw [← hzl]; exact hi
        simp [this])
      (by simpa [Value.cells, V.cells] using hzs.symm) (fun i x c hx hc => hzc i x c (by simpa [V.cells] using hx) (by simpa [Value.cells] using hc))
    refine does_pure H (cv := .agg cells') ?_ (.agg _ _ hl' hr')
    have hb : P.built t (ps.map fun (i, x) => (i, a.eval x)).toList = some cells' := by
      simp only [Program.built, hi, hu, hzv, hpl]
      simpa [Value.cells] using hfill
    simp [execOp, ho, run_build w t _ _ hb]
  · exact absurd hu (hns fs)

/-! ### rows laid anew -/
/-- Cells that make elements, closed. -/
def RowInv (w : World) (g : G) (h : Heap) (sz : Nat) (els : List V) (cells : Array Value) (ids : List Nat) : Prop :=
  cells.size = els.length * sz ∧ (∀ x ∈ els, x.cells.length = sz) ∧ (∀ x ∈ els, ∀ y ∈ x.cells, okCell y = true) ∧ (∀ id ∈ ids, h id ≠ none) ∧ ∃ F : Nat → Nat → Nat → Prop,
    (∀ (i : Nat) x (j : Nat) y, els[i]? = some x → x.cells[j]? = some y → ∃ c, cells[i * sz + j]? = some c ∧ OW w y c (F i j)) ∧ (∀ i j, i < els.length → j < sz → InIds g h ids (F i j)) ∧
    (ids.Nodup → ∀ i j i' j' k, i < els.length → j < sz → i' < els.length → j' < sz → F i j k → F i' j' k → i = i' ∧ j = j')

theorem RowInv.set (H : HOk w0 O w S g h U) {sz i : Nat} {els : List V} {cells vs : Array Value} {ids ids' : List Nat} {y : V} (R : RowInv w g h sz els cells ids) (E : ElemOk w g h y vs ids') (hi : i < els.length) (hy : y.cells.length = sz) :
    RowInv w g h sz (els.set i y) (splice (i * sz) vs cells) (ids ++ ids') := by
  obtain ⟨r1, r2, r3, r4, F, r5, r6, r7⟩ := R
  obtain ⟨c1, c2, c3, Ns, c4, c5, c6⟩ := E
  have hmul : i * sz + sz ≤ els.length * sz := by rw [← Nat.succ_mul]; exact Nat.mul_le_mul_right _ hi
  have hlen : (els.set i y).length = els.length := by simp
  refine ⟨by rw [splice_size, r1, hlen], ?_, ?_, ?_, fun p q => if p = i then Ns q else F p q, ?_, ?_, ?_⟩
  · intro x hx
    rcases List.mem_or_eq_of_mem_set hx with hm | rfl
    · exact r2 x hm
    · exact hy
  · intro x hx
    rcases List.mem_or_eq_of_mem_set hx with hm | rfl
    · exact r3 x hm
    · exact c2
  · intro id hid
    rcases List.mem_append.1 hid with hm | hm
    · exact r4 id hm
    · exact c3 id hm
  · intro p x q z hx hz
    have hp : p < els.length := by have := (List.getElem?_eq_some_iff.1 hx).1; simpa using this
    by_cases hpi : p = i
    · subst hpi
      rw [List.getElem?_set_self hi] at hx
      cases hx
      have hq := (List.getElem?_eq_some_iff.1 hz).1
      have hqv : q < vs.size := by omega
      obtain ⟨h1, _⟩ := c4 q z vs[q] hz (Array.getElem?_eq_getElem hqv)
      refine ⟨vs[q], ?_, by simpa using h1⟩
      rw [splice_get _ _ _ (by omega), if_pos (by omega)]
      have : p * sz + q - p * sz = q := by omega
      rw [this]; exact Array.getElem?_eq_getElem hqv
    · rw [List.getElem?_set_ne (Ne.symm hpi)] at hx
      have hq := (List.getElem?_eq_some_iff.1 hz).1
      rw [r2 x (List.mem_of_getElem? hx)] at hq
      obtain ⟨c, h1, h2⟩ := r5 p x q z hx hz
      refine ⟨c, ?_, by simpa [hpi] using h2⟩
      rw [splice_get _ _ _ (by omega), if_neg ?_]
      · exact h1
      · intro hcon
        rcases Nat.lt_or_ge p i with hlt | hge
        · have : p * sz + sz ≤ i * sz := by rw [← Nat.succ_mul]; exact Nat.mul_le_mul_right _ hlt
          omega
        · have : i * sz + sz ≤ p * sz := by rw [← Nat.succ_mul]; exact Nat.mul_le_mul_right _ (by omega)
          omega
  · intro p q hp hq k hk
    by_cases hpi : p = i
    · simp only [hpi, if_true] at hk
      obtain ⟨id, h1, h2⟩ := c5 q (by omega) k hk
      exact ⟨id, List.mem_append_right _ h1, h2⟩
    · simp only [hpi, if_false] at hk
      obtain ⟨id, h1, h2⟩ := r6 p q (by rw [hlen] at hp; exact hp) hq k hk
      exact ⟨id, List.mem_append_left _ h1, h2⟩
  · intro hnd p q p' q' k hp hq hp' hq' hk hk'
    rw [List.nodup_append] at hnd
    rw [hlen] at hp hp'
    have hx : ∀ id ∈ ids, id ∉ ids' := fun id q1 q2 => hnd.2.2 id q1 id q2 rfl
    by_cases e1 : p = i <;> by_cases e2 : p' = i <;> simp only [e1, e2, if_true, if_false] at hk hk'
    · exact ⟨e1.trans e2.symm, c6 hnd.2.1 q q' k (by omega) (by omega) hk hk'⟩
    · exact absurd hk (InIds.disj H (r6 p' q' hp' hq') (c5 q (by omega)) hx k hk')
    · exact absurd hk' (InIds.disj H (r6 p q hp hq) (c5 q' (by omega)) hx k hk)
    · exact r7 hnd.1 p q p' q' k hp hq hp' hq' hk hk'

theorem clParts_ok (H : HOk w0 O w S g h U) {sz : Nat} : ∀ {ps : List (Nat × V)} {cps : List (Nat × Value)} {els els' : List V} {cells : Array Value} {acc ids : List Nat}, clParts h sz ps els = some (els', ids) →
    Two (fun (p : Nat × V) (c : Nat × Value) => p.1 = c.1 ∧ VR w S g h p.2 c.2) ps cps → RowInv w g h sz els cells acc →
    ∃ cells', Instr.fill (fun i => some (i * sz, sz)) cells cps = some cells' ∧ RowInv w g h sz els' cells' (acc ++ ids)
  | [], _, els, els', cells, acc, ids, hv, hf, hR => by
    cases hf
    simp only [clParts, Option.some.injEq, Prod.mk.injEq] at hv
    obtain ⟨rfl, rfl⟩ := hv
    exact ⟨cells, rfl, by simpa using hR⟩
  | (i, v) :: ps, _, els, els', cells, acc, ids, hv, hf, hR => by
    cases hf with
    | cons h1 h2 =>
      rename_i c cps
      obtain ⟨i', c⟩ := c
      simp only at h1
      obtain ⟨rfl, hvr⟩ := h1
      simp only [clParts, Option.bind_eq_some_iff] at hv
      obtain ⟨⟨y, i1⟩, hy, hv⟩ := hv
      simp only at hv
      split at hv
      · rename_i hc
        simp only [Bool.and_eq_true, decide_eq_true_eq, beq_iff_eq] at hc
        simp only [Option.map_eq_some_iff] at hv
        obtain ⟨⟨els'', i2⟩, hrec, hv⟩ := hv
        simp only [Prod.mk.injEq] at hv
        obtain ⟨rfl, rfl⟩ := hv
        have E := clA_ok H hy hvr
        have hmul : i * sz + sz ≤ els.length * sz := by rw [← Nat.succ_mul]; exact Nat.mul_le_mul_right _ hc.1
        obtain ⟨cells', hfill, hR'⟩ := clParts_ok H hrec h2 (hR.set H E hc.1 hc.2)
        refine ⟨cells', ?_, by simpa using hR'⟩
        rw [fill_cons _ cells i c cps rfl (by have := E.1; omega) (by rw [hR.1]; exact hmul)]
        exact hfill
      · cases hv

/-- A row that is laid anew. -/
theorem HOk.newRow (H : HOk w0 O w S g h U) {sz : Nat} {els : List V} {cells : Array Value} {ids : List Nat} (t : TypeId) {cap : Nat} {rest : Array Value} (hR : RowInv w g h sz els cells ids) (hnd : ids.Nodup) (hU : ¬ U n)
    (hcap : els.length ≤ cap) (hmax : cap ≤ maxLen) (hrest : cap * sz ≤ cells.size + rest.size) {fr : Nat × Nat} (hfr : NoFr sz (cells ++ rest).size fr) :
    ∃ g', HOk w0 O (w.alloc (.cells (cells ++ rest) t fr)) S g' (updsH h (gone ids ++ [(n, some ⟨.arr, sz, els⟩)])) (fun k => U k ∨ k = n) ∧ Tr w S g h (w.alloc (.cells (cells ++ rest) t fr)) S g' (updsH h (gone ids ++ [(n, some ⟨.arr, sz, els⟩)])) ∧
      VR (w.alloc (.cells (cells ++ rest) t fr)) S g' (updsH h (gone ids ++ [(n, some ⟨.arr, sz, els⟩)])) (.own n) (.slice (some ⟨w.heap.size, 0, none⟩) els.length cap) := by
  obtain ⟨r1, r2, r3, r4, F, r5, r6, r7⟩ := hR
  have hlt : ∀ id k, h id ≠ none → g.N id k → k < w.heap.size := fun id k hh hk => by
    obtain ⟨b, hb'⟩ := Option.ne_none_iff_exists'.1 hh
    exact H.lt id b k hb' hk
  have hwk : ∀ k, k < w.heap.size → (w.alloc (.cells (cells ++ rest) t fr)).heap[k]? = w.heap[k]? := fun k hk => heap_alloc_old' w _ k hk
  have hFlt : ∀ i j k, i < els.length → j < sz → F i j k → k < w.heap.size := fun i j k hi hj hk => by
    obtain ⟨id, _, h1, h2⟩ := r6 i j hi hj k hk
    exact hlt id k h1 h2
  have how : OW (w.alloc (.cells (cells ++ rest) t fr)) (.lst sz els) (.slice (some ⟨w.heap.size, 0, none⟩) els.length cap) (fun k => k = w.heap.size ∨ ∃ i j, i < els.length ∧ j < sz ∧ F i j k) := by
    refine OW.mk_row (cur := cells ++ rest) (e := t) (fr := fr) rfl hcap hmax r2 r3 (heap_alloc_new' w _) hfr (by simp only [Array.size_append, Nat.zero_add]; exact hrest) ?_ ?_ (r7 hnd)
    · intro i x j y hx hy
      obtain ⟨c, h1, h2⟩ := r5 i x j y hx hy
      have hi := (List.getElem?_eq_some_iff.1 hx).1
      have hj := (List.getElem?_eq_some_iff.1 hy).1
      rw [r2 x (List.mem_of_getElem? hx)] at hj
      refine ⟨c, ?_, h2.mono fun k hk => hwk k (hFlt i j k hi hj hk)⟩
      simp only [Nat.zero_add]
      rw [Array.getElem?_append_left (Array.getElem?_eq_some_iff.1 h1).1]
      exact h1
    · intro i j hi hj hk
      exact Nat.lt_irrefl _ (hFlt i j _ hi hj hk)
  have hNN : ∀ k, (k = w.heap.size ∨ ∃ i j, i < els.length ∧ j < sz ∧ F i j k) → w.heap.size ≤ k ∨ ∃ r, (r ∈ ids ∨ r = n) ∧ h r ≠ none ∧ g.N r k := by
    rintro k (rfl | ⟨i, j, hi, hj, hk⟩)
    · exact .inl (Nat.le_refl _)
    · obtain ⟨id, h1, h2, h3⟩ := r6 i j hi hj k hk
      exact .inr ⟨id, .inl h1, h2, h3⟩
  obtain ⟨g', H', tr, hv⟩ := H.replace (w' := w.alloc (.cells (cells ++ rest) t fr)) (R := ids) (m := n) (fun hn => hU (H.used n (.inl (r4 n hn)))) (.inl hU) how (fun ad h => by cases h; rfl) hNN (fun k hk _ => hwk k hk) rfl rfl rfl (by simp)
  exact ⟨g', H', tr, hv⟩

/-- A zero value as an element; many of it. -/
theorem rowInv_zero (H : HOk w0 O w S g h U) {z0 z : V} {zv : Value} {sz len : Nat} (hcl : clA h z0 = some (z, [])) (hz : VR w S g h z0 zv) (hzl : z.cells.length = sz) (h0 : 0 < sz) :
    RowInv w g h sz (List.replicate len z) ((Array.range (len * sz)).map (zv.cells[· % zv.cells.size]!)) [] := by
  obtain ⟨c1, c2, c3, Ns, c4, c5, c6⟩ := clA_ok H hcl hz
  refine ⟨by simp, ?_, ?_, by simp, fun _ j => Ns j, ?_, ?_, ?_⟩
  · intro x hx; rw [(List.mem_replicate.1 hx).2]; exact hzl
  · intro x hx; rw [(List.mem_replicate.1 hx).2]; exact c2
  · intro i x j y hx hy
    have hi : i < len := by have := (List.getElem?_eq_some_iff.1 hx).1; simpa using this
    have hxz : x = z := by rw [List.getElem?_replicate] at hx; simp [hi] at hx; exact hx.symm
    subst hxz
    have hj := (List.getElem?_eq_some_iff.1 hy).1
    have hjs : j < zv.cells.size := by omega
    have hmul : i * sz + sz ≤ len * sz := by rw [← Nat.succ_mul]; exact Nat.mul_le_mul_right _ hi
    have hq : i * sz + j < len * sz := by omega
    have e2 : (i * sz + j) % zv.cells.size = j := by
      rw [c1, hzl, Nat.mul_comm, Nat.mul_add_mod, Nat.mod_eq_of_lt (by omega)]
    refine ⟨zv.cells[j], ?_, (c4 j y _ hy (Array.getElem?_eq_getElem hjs)).1⟩
    simp only [Array.getElem?_map, Array.getElem?_range, hq, if_true, Option.map_some, e2]
    simp [hjs]
  · intro i j hi hj k hk
    exact c5 j (by omega) k hk
  · intro _ i j i' j' k hi hj hi' hj' hk _
    obtain ⟨id, h1, _⟩ := c5 j (by omega) k hk
    simp at h1

theorem op_buildSlice (H : HOk w0 O w S g h U) (E : ∀ t, VR w S g h (e t) (a.tmps.getD t Go.undef)) {t el : TypeId} {len : Nat} {ps : Array (Nat × Operand)} {z0 z : V} {r : List V × List Nat} (ho : o.op = .buildSlice t len ps) (hu : P.underlying t = some (.slice el))
    (hz0 : zeroV P el = some z0) (hcl : clA h z0 = some (z, [])) (hzl : z.cells.length = P.cellsOf el) (h0 : 0 < P.cellsOf el) (hb : len * P.cellsOf el ≤ 16777216)
    (hv : clParts h (P.cellsOf el) (ps.toList.map fun p => (p.1, evO P e el p.2)) (List.replicate len z) = some r) (hnd : nodupB r.2 = true) (hU : ∀ i, n ≤ i → i < n + stride → ¬ U i) :
    Does P w0 O w S g h U a n o (.own n) (gone r.2 ++ [(n, some ⟨.arr, P.cellsOf el, r.1⟩)]) := by
  obtain ⟨i, zv, hi, hzv, hzs, hzb, hzc, hzr, _⟩ := zeroV_ok (w := w) (S := S) (g := g) (h := h) hz0
  obtain ⟨els, ids⟩ := r
  have R0 := rowInv_zero H (len := len) hcl hzr hzl h0
  obtain ⟨cells', hfill, R1⟩ := clParts_ok H hv (cps := ps.toList.map fun p => (p.1, a.eval p.2)) (forall2_map _ _ _ fun p _ => ⟨rfl, evO_ok E el p.2⟩) R0
  have hlen : ∀ (ps : List (Nat × V)) (els els' : List V) (ids : List Nat), clParts h (P.cellsOf el) ps els = some (els', ids) → els'.length = els.length := by
    intro ps
    induction ps with
    | nil => intro els els' ids hv; simp only [clParts, Option.some.injEq, Prod.mk.injEq] at hv; rw [hv.1]
    | cons p ps ih =>
      intro els els' ids hv
      obtain ⟨i, v⟩ := p
      simp only [clParts, Option.bind_eq_some_iff] at hv
      obtain ⟨y, _, hv⟩ := hv
      split at hv
      · simp only [Option.map_eq_some_iff] at hv
        obtain ⟨z, hz, hv⟩ := hv
        simp only [Prod.mk.injEq] at hv
        rw [← hv.1, ih _ _ _ hz]; simp
      · cases hv
  have hl := hlen _ _ _ _ hv
  simp only [List.length_replicate] at hl
  have hle : len ≤ 16777216 := Nat.le_trans (Nat.le_mul_of_pos_right _ h0) hb
  obtain ⟨g', H', tr, hvr⟩ := H.newRow (n := n) el (cap := len) (rest := #[]) (fr := (0, 0)) R1 (by simpa using nodupB_iff.1 hnd) (hU n (Nat.le_refl _) (by simp [stride])) (by rw [hl]; exact Nat.le_refl _) (by unfold maxLen; omega)
    (by rw [R1.1, hl]; simp) .new
  simp only [List.nil_append, Array.append_empty] at H' tr hvr
  refine ⟨_, _, g', .inl ?_, H'.weak ?_, tr, hvr⟩
  · have hnl : ¬ len * P.cellsOf el > 2 ^ 24 := by omega
    have hz' : (zeroValue el).run P w = .ok zv w := run_zeroValue hi hzv
    have hparts : (ps.map fun (i, x) => (i, a.eval x)).toList = ps.toList.map fun p => (p.1, a.eval p.2) := by simp
    simp only [execOp, ho, Instr.buildSlice, Sem.run_bind, run_underlying' hu, Result.andThen_ok, run_sizeOf (P := P) (w := w) (t := el) (by omega), hnl, if_false, Sem.run_ite, hz', Sem.run_pure, hparts]
    by_cases hzero : len * P.cellsOf el = 0
    · have hl0 : len = 0 := by
        rcases Nat.mul_eq_zero.1 hzero with h1 | h1
        · exact h1
        · omega
      subst hl0
      have e0 : ((Array.range (0 * P.cellsOf el)).map fun x => zv.cells[x % zv.cells.size]!) = #[] := by simp
      rw [e0] at hfill
      have r0 : Array.range 0 = #[] := rfl
      simp [r0, hfill, newRow, hl]
    · simp only [hzero, if_false]
      rw [hfill]
      simp [newRow, hl]
  · rintro k (hk | rfl)
    · exact .inl hk
    · exact .inr ⟨Nat.le_refl _, by simp [stride]⟩

theorem op_makeSlice (H : HOk w0 O w S g h U) {t el : TypeId} {lo co : Operand} {m : Int} {z0 z : V} (ho : o.op = .makeSlice t lo co) (hu : P.underlying t = some (.slice el))
    (hl : VR w S g h (.int .i64 m) (a.eval lo)) (hc : VR w S g h (.int .i64 m) (a.eval co)) (hz0 : zeroV P el = some z0) (hcl : clA h z0 = some (z, [])) (hzl : z.cells.length = P.cellsOf el) (h0 : 0 < P.cellsOf el) (hm0 : 0 ≤ m) (hm : m ≤ 9223372036854775807)
    (hb : m * P.bytesOf el ≤ 140737488355328) (hU : ∀ i, n ≤ i → i < n + stride → ¬ U i) : Does P w0 O w S g h U a n o (.own n) [(n, some ⟨.arr, P.cellsOf el, List.replicate m.toNat z⟩)] := by
  obtain ⟨i, zv, hi, hzv, hzs, hzb, hzc, hzr, _⟩ := zeroV_ok (w := w) (S := S) (g := g) (h := h) hz0
  have R0 := rowInv_zero H (len := m.toNat) hcl hzr hzl h0
  have el' := hl.inv_int
  have ec' := hc.inv_int
  obtain ⟨g', H', tr, hvr⟩ := H.newRow (n := n) el (cap := m.toNat) (rest := #[]) (fr := (0, 0)) R0 (by simp) (hU n (Nat.le_refl _) (by simp [stride])) (by simp) (by unfold maxLen; omega) (by simp) .new
  simp only [gone, List.map_nil, List.nil_append, Array.append_empty, List.length_replicate] at H' tr hvr
  refine ⟨_, _, g', .inl ?_, H'.weak ?_, tr, hvr⟩
  · have hz' : ∀ w : World, (zeroValue el).run P w = .ok zv w := fun w => run_zeroValue hi hzv
    have hti : (typeInfo el).run P w = .ok i w := by simp [typeInfo, hi]
    have hby : (i.bytes : Int) = P.bytesOf el := by simp [Program.bytesOf, hi]
    have hwrap : IntKind.i64.wrap m = m := by
      have e1 : IntKind.i64.bits = 64 := rfl
      simp only [IntKind.wrap, IntKind.signed, e1]
      have : m % 2 ^ 64 = m := Int.emod_eq_of_lt hm0 (by omega)
      rw [this]
      simp
      omega
    have hcomm : (i.bytes : Int) * m ≤ 140737488355328 := by rw [hby, Int.mul_comm]; exact hb
    have htl : ¬ ((decide (m < 0) || decide ((i.bytes : Int) * m > 2 ^ 48)) = true ∨ decide (m < 0) = true ∨ decide (m > m) = true) := by
      simp
      omega
    have hso := run_sizeOf (P := P) (w := w) (t := el) (by omega)
    have hmn : ¬ m < 0 := by omega
    have hmb : ¬ (i.bytes : Int) * m > 2 ^ 48 := by omega
    have hmb' : ¬ (281474976710656 < (i.bytes : Int) * m) := by omega
    have r0 : Array.range 0 = #[] := rfl
    by_cases hzero : m.toNat * P.cellsOf el = 0
    · simp [r0, execOp, ho, Instr.makeSlice, run_underlying' hu, el', ec', asInt, asIntOf, hti, hwrap, hmn, hmb', hso, hzero, newRow]
    · simp [execOp, ho, Instr.makeSlice, run_underlying' hu, el', ec', asInt, asIntOf, hti, hwrap, hmn, hmb', hso, hzero, hz', newRow]
  · rintro k (hk | rfl)
    · exact .inl hk
    · exact .inr ⟨Nat.le_refl _, by simp [stride]⟩

end
end Go.VM

