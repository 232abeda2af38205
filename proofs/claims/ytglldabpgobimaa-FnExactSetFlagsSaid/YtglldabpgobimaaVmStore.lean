/- Elements that are put into arrays; stores; struct values; slice literals; make; bytes of texts. -/
import Derived.Test.YtglldabpgobimaaVmAppend
set_option linter.unusedVariables false
set_option linter.unusedSimpArgs false
namespace Go.VM
open Go

section
variable {P : Program} {w0 w : World} {O S : Nat → Prop} {g : G} {h : Heap} {U : Nat → Prop} {a : Act} {e : Env} {n : Nat} {o : Oper}

theorem nodupB_iff : ∀ {l : List Nat}, nodupB l = true ↔ l.Nodup
  | [] => by simp [nodupB]
  | x :: l => by simp [nodupB, nodupB_iff (l := l)]

/-- The words lie in live blocks of these ids. -/
def InIds (g : G) (h : Heap) (ids : List Nat) (N : Nat → Prop) : Prop := ∀ k, N k → ∃ id ∈ ids, h id ≠ none ∧ g.N id k

theorem InIds.disj (H : HOk w0 O w S g h U) {A B : List Nat} {N M : Nat → Prop} (hN : InIds g h A N) (hM : InIds g h B M) (hd : ∀ id ∈ A, id ∉ B) : ∀ k, N k → ¬ M k := by
  intro k h1 h2
  obtain ⟨i, hi, hh, hg⟩ := hN k h1
  obtain ⟨j, hj, hh', hg'⟩ := hM k h2
  obtain ⟨b1, hb1⟩ := Option.ne_none_iff_exists'.1 hh
  obtain ⟨b2, hb2⟩ := Option.ne_none_iff_exists'.1 hh'
  have := H.disj i j b1 b2 k hb1 hb2 hg hg'
  subst this
  exact hd i hi hj

theorem clC_ok (H : HOk w0 O w S g h U) {x y : V} {c : Value} {ids : List Nat} (hv : clC h x = some (y, ids)) (hx : VR w S g h x c) :
    okCell y = true ∧ c.oneCell' = true ∧ c.cells = #[c] ∧ (∀ id ∈ ids, h id ≠ none) ∧ ∃ N, OW w y c N ∧ InIds g h ids N := by
  cases x with
  | int k m => simp only [clC, Option.some.injEq, Prod.mk.injEq] at hv; obtain ⟨rfl, rfl⟩ := hv; rw [hx.inv_int]; exact ⟨rfl, rfl, rfl, by simp, _, .int _ _, fun _ h => h.elim⟩
  | bool b => simp only [clC, Option.some.injEq, Prod.mk.injEq] at hv; obtain ⟨rfl, rfl⟩ := hv; rw [hx.inv_bool]; exact ⟨rfl, rfl, rfl, by simp, _, .bool _, fun _ h => h.elim⟩
  | str s => simp only [clC, Option.some.injEq, Prod.mk.injEq] at hv; obtain ⟨rfl, rfl⟩ := hv; obtain ⟨b, rfl, hb⟩ := hx.inv_str; exact ⟨rfl, rfl, rfl, by simp, _, .str _ _ hb, fun _ h => h.elim⟩
  | nils sz => simp only [clC, Option.some.injEq, Prod.mk.injEq] at hv; obtain ⟨rfl, rfl⟩ := hv; rw [hx.inv_nils]; exact ⟨rfl, rfl, rfl, by simp, _, .lnil _, fun _ h => h.elim⟩
  | own id =>
    simp only [clC] at hv
    split at hv
    · rename_i sz els hb
      simp only [Option.some.injEq, Prod.mk.injEq] at hv; obtain ⟨rfl, rfl⟩ := hv
      obtain ⟨_, rfl⟩ := hx.inv_own hb (H.notDead hb)
      exact ⟨rfl, rfl, rfl, by simp [hb], _, (H.blk id _ hb).1, fun k hk => ⟨id, by simp, by simp [hb], hk⟩⟩
    · cases hv
  | win id lo len =>
    simp only [clC] at hv
    split at hv
    · rename_i sz els hb
      split at hv
      · rename_i hle
        simp only [Option.some.injEq, Prod.mk.injEq] at hv; obtain ⟨rfl, rfl⟩ := hv
        have hcle := (H.blk id _ hb).1.len_le.1
        by_cases hlt : lo < els.length
        case neg =>
          have h0 : lo = 0 := by rcases hle.2 with h | h; exact absurd h hlt; exact h
          subst h0
          have he : els = [] := List.eq_nil_of_length_eq_zero (by omega)
          subst he
          have hl0 : len = 0 := by simpa using hle.1
          subst hl0
          have hB := H.blk id _ hb
          have e2 : c = .slice (g.base id) 0 (g.cap id) := by
            rcases hx.inv_win0 hb (H.notDead hb) with ⟨_, e1, e2⟩ | ⟨ad, hbase, _, e2⟩
            · rw [e2, e1]
            · rw [e2, hbase]
              have := hB.2 ad hbase
              obtain ⟨_, _, _⟩ := ad
              simp only at this
              subst this
              rfl
          subst e2
          exact ⟨rfl, rfl, rfl, by simp [hb], _, hB.1, fun k hk => ⟨id, by simp, by simp [hb], hk⟩⟩
        have hl : ((els.drop lo).take len).length = len := by simp; omega
        have hev : elsOf h (.win id lo len) = some (sz, (els.drop lo).take len) := by simp only [elsOf, hb, if_pos hle.1]
        rcases dst_row H rfl hev hx with ⟨_, ba, hc, _⟩ | ⟨id', ad, cp, cur, e, fr, Ng, hid, _, hsp, hc, hlc, hmax, hrow, hfr, hcap, hsz, hok, hr, hself, hdis, hN, hNg⟩
        · obtain ⟨_, e⟩ := hx.inv_win hb (H.notDead hb)
          rcases e with ⟨_, hcz, _⟩ | ⟨ad, cp, _, hcp, _, e⟩
          · omega
          · rw [hc] at e
            simp only [Value.slice.injEq] at e
            omega
        · have : id' = id := by simpa [idsC] using hid
          subst this
          subst hc
          refine ⟨rfl, rfl, rfl, by simp [hb], _, OW.mk_row hsp hlc hmax hsz hok hrow hfr hcap hr hself hdis, fun k hk => ⟨id', by simp, by simp [hb], ?_⟩⟩
          rcases hk with rfl | ⟨i, j, hi, hj, hg⟩
          · exact hN
          · exact hNg i j k hi hj hg
      · cases hv
    · cases hv
  | _ => simp [clC] at hv

theorem clL_ok (H : HOk w0 O w S g h U) : ∀ {l ys : List V} {cs : List Value} {ids : List Nat}, clL h l = some (ys, ids) → l.length = cs.length → (∀ (i : Nat) x c, l[i]? = some x → cs[i]? = some c → VR w S g h x c) →
    ys.length = l.length ∧ (∀ y ∈ ys, okCell y = true) ∧ (∀ id ∈ ids, h id ≠ none) ∧ ∃ Ns : Nat → Nat → Prop, (∀ (i : Nat) y c, ys[i]? = some y → cs[i]? = some c → OW w y c (Ns i) ∧ c.oneCell' = true) ∧ (∀ i, i < l.length → InIds g h ids (Ns i)) ∧
      (ids.Nodup → ∀ i j k, i < l.length → j < l.length → Ns i k → Ns j k → i = j)
  | [], ys, cs, ids, hv, _, _ => by
    simp only [clL, Option.some.injEq, Prod.mk.injEq] at hv
    obtain ⟨rfl, rfl⟩ := hv
    exact ⟨rfl, by simp, by simp, fun _ _ => False, fun i y c hy => by simp at hy, fun i hi => by simp at hi, fun _ i j k hi => by simp at hi⟩
  | x :: l, ys, [], ids, _, hl, _ => by simp at hl
  | x :: l, ys, c :: cs, ids, hv, hl, hr => by
    simp only [clL, Option.bind_eq_some_iff, Option.map_eq_some_iff] at hv
    obtain ⟨⟨y, i1⟩, hy, ⟨ys', i2⟩, hys, hv⟩ := hv
    simp only [Prod.mk.injEq] at hv
    obtain ⟨rfl, rfl⟩ := hv
    obtain ⟨h1, h2, _, h3, N, h4, h5⟩ := clC_ok H hy (hr 0 x c rfl rfl)
    obtain ⟨h6, h7, h8, Ns, h9, h10, h11⟩ := clL_ok H hys (by simpa using hl) (fun i x c hx hc => hr (i + 1) x c (by simpa using hx) (by simpa using hc))
    refine ⟨by simp [h6], ?_, ?_, fun i => match i with | 0 => N | i + 1 => Ns i, ?_, ?_, ?_⟩
    · rintro z hz
      rcases List.mem_cons.1 hz with rfl | hz
      · exact h1
      · exact h7 z hz
    · intro id hid
      rcases List.mem_append.1 hid with hid | hid
      · exact h3 id hid
      · exact h8 id hid
    · intro i z d hz hd
      cases i with
      | zero => simp at hz hd; subst hz hd; exact ⟨h4, h2⟩
      | succ i => exact h9 i z d (by simpa using hz) (by simpa using hd)
    · intro i hi k hk
      cases i with
      | zero => obtain ⟨id, q1, q2⟩ := h5 k hk; exact ⟨id, List.mem_append_left _ q1, q2⟩
      | succ i => obtain ⟨id, q1, q2⟩ := h10 i (by simpa using hi) k hk; exact ⟨id, List.mem_append_right _ q1, q2⟩
    · intro hnd i j k hi hj hk hk'
      rw [List.nodup_append] at hnd
      have hx : ∀ id ∈ i1, id ∉ i2 := fun id q1 q2 => hnd.2.2 id q1 id q2 rfl
      cases i with
      | zero =>
        cases j with
        | zero => rfl
        | succ j => exact absurd hk' (InIds.disj H h5 (h10 j (by simpa using hj)) hx k hk)
      | succ i =>
        cases j with
        | zero => exact absurd hk (InIds.disj H h5 (h10 i (by simpa using hi)) hx k hk')
        | succ j => rw [h11 hnd.2.1 i j k (by simpa using hi) (by simpa using hj) hk hk']

/-- An element, closed: its cells and their words. -/
def ElemOk (w : World) (g : G) (h : Heap) (y : V) (cs : Array Value) (ids : List Nat) : Prop :=
  cs.size = y.cells.length ∧ (∀ z ∈ y.cells, okCell z = true) ∧ (∀ id ∈ ids, h id ≠ none) ∧ ∃ Ns : Nat → Nat → Prop, (∀ (j : Nat) z c, y.cells[j]? = some z → cs[j]? = some c → OW w z c (Ns j) ∧ c.oneCell' = true) ∧
    (∀ j, j < y.cells.length → InIds g h ids (Ns j)) ∧ (ids.Nodup → ∀ i j k, i < y.cells.length → j < y.cells.length → Ns i k → Ns j k → i = j)

theorem clA_ok (H : HOk w0 O w S g h U) {x y : V} {c : Value} {ids : List Nat} (hv : clA h x = some (y, ids)) (hx : VR w S g h x c) : ElemOk w g h y c.cells ids := by
  by_cases hagg : ∃ l, x = .agg l
  · obtain ⟨l, rfl⟩ := hagg
    simp only [clA, Option.map_eq_some_iff] at hv
    obtain ⟨⟨ys, ids'⟩, hys, hv⟩ := hv
    simp only [Prod.mk.injEq] at hv
    obtain ⟨rfl, rfl⟩ := hv
    obtain ⟨cs, rfl, hl, hr⟩ := hx.inv_agg
    obtain ⟨h1, h2, h3, Ns, h4, h5, h6⟩ := clL_ok H hys (cs := cs.toList) (by simpa using hl) (fun i x c hx hc => hr i x c hx (by simpa using hc))
    exact ⟨by simp [Value.cells, V.cells, h1, hl], h2, h3, Ns, fun j z c hz hc => h4 j z c hz (by simpa [Value.cells] using hc), fun j hj => h5 j (by simpa [V.cells, h1] using hj), fun hn i j k hi hj => h6 hn i j k (by simpa [V.cells, h1] using hi) (by simpa [V.cells, h1] using hj)⟩
  · have hv' : clC h x = some (y, ids) := by
      cases x <;> first | exact hv | (rename_i l; exact absurd ⟨l, rfl⟩ hagg)
    obtain ⟨h1, h2, hcc, h3, N, h4, h5⟩ := clC_ok H hv' hx
    have hyc := okCell_cells h1
    refine ⟨by rw [hyc, hcc]; rfl, by rw [hyc]; simpa using h1, h3, fun _ => N, ?_, fun j hj => h5, ?_⟩
    · intro j z d hz hd
      rw [hyc] at hz; rw [hcc] at hd
      cases j with
      | zero => simp at hz hd; subst hz hd; exact ⟨h4, h2⟩
      | succ j => simp at hz
    · intro _ i j k hi hj _ _
      rw [hyc] at hi hj
      simp at hi hj
      omega

/-- Cells are laid into a row; the element that they make stands in the array. -/
theorem HOk.setRow (H : HOk w0 O w S g h U) {id sz : Nat} {els : List V} {ad : Addr} {i j0 : Nat} {old new : V} {vs : Array Value} {ids : List Nat} (hb : h id = some ⟨.arr, sz, els⟩) (hbase : g.base id = some ad)
    (hi : els[i]? = some old) (hnd : ids.Nodup) (hid : id ∉ ids) (hlive : ∀ q ∈ ids, h q ≠ none) (hnew : new.cells.length = sz) (hnok : ∀ z ∈ new.cells, okCell z = true) (hfit : j0 + vs.size ≤ sz) (hone : ∀ u ∈ vs.toList, u.oneCell' = true)
    {M : Nat → Nat → Prop} (hM : ∀ (j : Nat) z c, j0 ≤ j → j < j0 + vs.size → new.cells[j]? = some z → vs[j - j0]? = some c → OW w z c (M j)) (hMin : ∀ j, j0 ≤ j → j < j0 + vs.size → InIds g h ids (M j))
    (hMd : ∀ j j' k, j0 ≤ j → j < j0 + vs.size → j0 ≤ j' → j' < j0 + vs.size → M j k → M j' k → j = j') (hkeep : ∀ j, ¬ (j0 ≤ j ∧ j < j0 + vs.size) → new.cells[j]? = old.cells[j]?) :
    ∃ w' g', (storeCells ⟨ad.block, ad.off + (i * sz + j0), none⟩ vs.toList).run P w = .ok () w' ∧ HOk w0 O w' S g' (updsH h (gone ids ++ [(id, some ⟨.arr, sz, els.set i new⟩)])) U ∧ Tr w S g h w' S g' (updsH h (gone ids ++ [(id, some ⟨.arr, sz, els.set i new⟩)])) := by
  have hO := (H.blk id _ hb).1
  have hspx := (H.blk id _ hb).2
  rw [hbase] at hO
  obtain ⟨_, hsp, hle, hmax, hsz, hok, cur, e', fr, Ng, h1, h2, h3, h4, h5, h6, h7⟩ := hO.row
  have hil := (List.getElem?_eq_some_iff.1 hi).1
  have hosz := hsz old (List.mem_of_getElem? hi)
  have hmul : i * sz + sz ≤ g.cap id * sz := by rw [← Nat.succ_mul]; exact Nat.mul_le_mul_right _ (by omega)
  obtain ⟨w', cur', hst, hrow', hcsz, hcc, ho⟩ := run_storeCells_row P (off := ad.off + (i * sz + j0)) vs.toList 0 w cur h1 h2 hone (by simp only [Array.length_toList]; omega)
  have hNid : g.N id ad.block := (h7 _).2 (.inl rfl)
  have hMb : ∀ j k, j0 ≤ j → j < j0 + vs.size → M j k → ¬ g.N id k := by
    intro j k q1 q2 hk hN
    exact InIds.disj H (hMin j q1 q2) (B := [id]) (M := g.N id) (fun k hk => ⟨id, by simp, by simp [hb], hk⟩) (fun q hq e => hid (by simp at e; exact e ▸ hq)) k hk hN
  let F : Nat → Nat → Nat → Prop := fun p q => if p = i ∧ j0 ≤ q ∧ q < j0 + vs.size then M q else Ng p q
  have hFN : ∀ p q k, p < els.length → q < sz → F p q k → (∃ r ∈ ids, h r ≠ none ∧ g.N r k) ∨ Ng p q k := by
    intro p q k hp hq hk
    by_cases hc : p = i ∧ j0 ≤ q ∧ q < j0 + vs.size
    · simp only [F, hc, true_and, and_self, if_true] at hk
      exact .inl (hMin q hc.2.1 hc.2.2 k hk)
    · simp only [F, hc, if_false] at hk
      exact .inr hk
  have hsep : ∀ p q p' q' k, p < els.length → q < sz → p' < els.length → q' < sz → F p q k → F p' q' k → p = p' ∧ q = q' := by
    intro p q p' q' k hp hq hp' hq' hk hk'
    by_cases hc : p = i ∧ j0 ≤ q ∧ q < j0 + vs.size <;> by_cases hc' : p' = i ∧ j0 ≤ q' ∧ q' < j0 + vs.size
    · simp only [F, hc, hc', true_and, and_self, if_true] at hk hk'
      exact ⟨hc.1.trans hc'.1.symm, hMd q q' k hc.2.1 hc.2.2 hc'.2.1 hc'.2.2 hk hk'⟩
    · simp only [F, hc, true_and, and_self, if_true] at hk
      simp only [F, hc', if_false] at hk'
      exact absurd ((h7 k).2 (.inr ⟨p', q', hp', hq', hk'⟩)) (hMb q k hc.2.1 hc.2.2 hk)
    · simp only [F, hc, if_false] at hk
      simp only [F, hc', true_and, and_self, if_true] at hk'
      exact absurd ((h7 k).2 (.inr ⟨p, q, hp, hq, hk⟩)) (hMb q' k hc'.2.1 hc'.2.2 hk')
    · simp only [F, hc, if_false] at hk
      simp only [F, hc', if_false] at hk'
      exact h6 p q p' q' k hp hq hp' hq' hk hk'
  have hself : ∀ p q, p < els.length → q < sz → ¬ F p q ad.block := by
    intro p q hp hq hk
    by_cases hc : p = i ∧ j0 ≤ q ∧ q < j0 + vs.size
    · simp only [F, hc, true_and, and_self, if_true] at hk
      exact hMb q _ hc.2.1 hc.2.2 hk hNid
    · simp only [F, hc, if_false] at hk
      exact h5 p q hp hq hk
  have hlen : (els.set i new).length = els.length := by simp
  have how : OW w' (.lst sz (els.set i new)) (.slice (some ad) (els.set i new).length (g.cap id)) (fun k => k = ad.block ∨ ∃ p q, p < (els.set i new).length ∧ q < sz ∧ F p q k) := by
    refine OW.mk_row (cur := cur') (e := e') (fr := fr) hsp (by rw [hlen]; exact hle) hmax ?_ ?_ hrow' (by rw [hcsz]; exact h2) (by rw [hcsz]; exact h3) ?_ (by rw [hlen]; exact hself) (by rw [hlen]; exact hsep)
    · intro x hx
      rcases List.mem_or_eq_of_mem_set hx with hx | rfl
      · exact hsz x hx
      · exact hnew
    · intro x hx
      rcases List.mem_or_eq_of_mem_set hx with hx | rfl
      · exact hok x hx
      · exact hnok
    · intro p x q y hx hy
      have hp : p < els.length := by have := (List.getElem?_eq_some_iff.1 hx).1; simpa using this
      have hq : q < sz := by
        have h8 := (List.getElem?_eq_some_iff.1 hy).1
        rcases List.mem_or_eq_of_mem_set (List.mem_of_getElem? hx) with hm | rfl
        · rw [hsz x hm] at h8; exact h8
        · rw [hnew] at h8; exact h8
      have hFb : ∀ k, F p q k → k ≠ ad.block := fun k hk ek => hself p q hp hq (ek ▸ hk)
      by_cases hpi : p = i
      · subst hpi
        rw [List.getElem?_set_self hil] at hx
        cases hx
        by_cases hc : j0 ≤ q ∧ q < j0 + vs.size
        · have hvq : q - j0 < vs.size := by omega
          have ho1 := hM q y vs[q - j0] hc.1 hc.2 hy (Array.getElem?_eq_getElem hvq)
          refine ⟨vs[q - j0], ?_, ?_⟩
          · rw [hcc, if_pos (by simp only [Array.length_toList]; omega)]
            have : ad.off + (p * sz + q) - (ad.off + (p * sz + j0) + 0) = q - j0 := by omega
            rw [this]
            simp [hvq]
          · have : F p q = M q := by simp [F, hc]
            rw [this]
            exact ho1.mono fun k hk => ho.block k (hFb k (by rw [this]; exact hk))
        · rw [hkeep q hc] at hy
          obtain ⟨c, hc1, hoo⟩ := h4 p old q y hi hy
          refine ⟨c, ?_, ?_⟩
          · rw [hcc, if_neg (by simp only [Array.length_toList]; omega)]
            exact hc1
          · have : F p q = Ng p q := by simp [F, hc]
            rw [this]
            exact hoo.mono fun k hk => ho.block k (hFb k (by rw [this]; exact hk))
      · rw [List.getElem?_set_ne (Ne.symm hpi)] at hx
        obtain ⟨c, hc1, hoo⟩ := h4 p x q y hx hy
        refine ⟨c, ?_, ?_⟩
        · rw [hcc, if_neg ?_]
          · exact hc1
          · simp only [Array.length_toList]
            intro hcon
            rcases Nat.lt_or_ge p i with hlt | hge
            · have : p * sz + sz ≤ i * sz := by rw [← Nat.succ_mul]; exact Nat.mul_le_mul_right _ hlt
              omega
            · have : i * sz + sz ≤ p * sz := by rw [← Nat.succ_mul]; exact Nat.mul_le_mul_right _ (by omega)
              omega
        · have : F p q = Ng p q := by simp [F, hpi]
          rw [this]
          exact hoo.mono fun k hk => ho.block k (hFb k (by rw [this]; exact hk))
  have hNN : ∀ k, (k = ad.block ∨ ∃ p q, p < (els.set i new).length ∧ q < sz ∧ F p q k) → w.heap.size ≤ k ∨ ∃ r, (r ∈ ids ∨ r = id) ∧ h r ≠ none ∧ g.N r k := by
    rintro k (rfl | ⟨p, q, hp, hq, hk⟩)
    · exact .inr ⟨id, .inr rfl, by simp [hb], hNid⟩
    · rw [hlen] at hp
      rcases hFN p q k hp hq hk with ⟨r, q1, q2, q3⟩ | hk
      · exact .inr ⟨r, .inl q1, q2, q3⟩
      · exact .inr ⟨id, .inr rfl, by simp [hb], (h7 k).2 (.inr ⟨p, q, hp, hq, hk⟩)⟩
  obtain ⟨g', H', tr, hv⟩ := H.replace (w' := w') (R := ids) (m := id) hid (.inr ⟨els, hb, hlen.symm, hbase.symm, rfl⟩) how (fun ad' h => by cases h; exact hsp) hNN
    (fun k hk hno => ho.block k fun ek => hno id (.inr rfl) (by simp [hb]) (ek ▸ hNid)) ho.os ho.tape ho.output (by rw [ho.size]; exact Nat.le_refl _)
  refine ⟨w', g', hst, H'.weak ?_, tr⟩
  rintro k (hk | rfl)
  · exact hk
  · exact H.used k (.inl (by simp [hb]))

end
end Go.VM
