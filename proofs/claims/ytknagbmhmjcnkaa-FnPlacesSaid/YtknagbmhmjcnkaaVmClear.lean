/- A part of a local array is laid over with zero values. No condition. -/
import Derived.Test.YtknagbmhmjcnkaaVmStore3
import Derived.Test.YtknagbmhmjcnkaaVmCongr
set_option linter.unusedVariables false
set_option linter.unusedSimpArgs false
namespace Go.VM
open Go
section
variable {P : Program} {w0 w : World} {O S : Nat → Prop} {g : G} {h : Heap} {U : Nat → Prop}

theorem storeCells_shift (b off k : Nat) : ∀ (vs : List Value) (i : Nat), storeCells ⟨b, off, none⟩ vs (k + i) = storeCells ⟨b, off + k, none⟩ vs i
  | [], i => rfl
  | v :: vs, i => by
    simp only [storeCells, add_mk]
    rw [show off + (k + i) = off + k + i by omega, show k + i + 1 = k + (i + 1) by omega]
    congr 1
    funext u
    exact storeCells_shift b off k vs (i + 1)
theorem run_storeCells_append (a : Addr) : ∀ (l m : List Value) (i : Nat) (w w' : World), (storeCells a l i).run P w = .ok () w' → (storeCells a (l ++ m) i).run P w = (storeCells a m (i + l.length)).run P w'
  | [], m, i, w, w', hr => by
    simp [storeCells] at hr
    subst hr; rfl
  | v :: l, m, i, w, w', hr => by
    simp only [storeCells, List.cons_append, Sem.run_bind] at hr ⊢
    cases hs : (store (a.add i) v).run P w with
    | ok u w1 =>
      rw [hs] at hr
      simp only [Result.andThen_ok] at hr ⊢
      rw [run_storeCells_append a l m (i + 1) w1 w' hr, List.length_cons]
      congr 2; omega
    | _ => rw [hs] at hr; simp [Result.andThen] at hr
theorem zeroCells_succ (z : Array Value) (m : Nat) : (Builtin.zeroCells z (m + 1)).toList = (Builtin.zeroCells z m).toList ++ z.toList := by
  unfold Builtin.zeroCells
  apply List.ext_getElem?
  intro i
  simp only [Array.toList_map, List.getElem?_map, Array.getElem?_toList, List.getElem?_append, List.length_map, Array.length_toList, Array.size_range, Nat.succ_mul]
  by_cases h0 : i < m * z.size
  · rw [if_pos h0]
    simp [h0, show i < m * z.size + z.size by omega]
  · rw [if_neg h0]
    by_cases h1 : i < m * z.size + z.size
    · have e : i % z.size = i - m * z.size := by
        have : i = z.size * m + (i - m * z.size) := by rw [Nat.mul_comm]; omega
        rw [this, Nat.mul_add_mod, Nat.mod_eq_of_lt (by rw [Nat.mul_comm]; omega)]
        rw [Nat.mul_comm]; omega
      have hlt : i - m * z.size < z.size := by omega
      simp [h1, e, hlt]
    · simp [h1, show ¬ i - m * z.size < z.size by omega]
theorem base_of_tr {w' : World} {g' : G} {h' : Heap} (H : HOk w0 O w S g h U) (H' : HOk w0 O w' S g' h' U) (tr : Tr w S g h w' S g' h') {id sz : Nat} {els els' : List V} {ad : Addr} (hb : h id = some ⟨.arr, sz, els⟩) (hbase : g.base id = some ad) (hl : 0 < els.length)
    (hb' : h' id = some ⟨.arr, sz, els'⟩) : g'.base id = some ad := by
  have hsp := (H.blk id _ hb).2 ad hbase
  have := tr _ _ (VR.ptr (w := w) (S := S) (g := g) (h := h) id 0 none _ ad hb hbase hl)
  obtain ⟨ad', h1, _, h3⟩ := this.inv_ptr hb' (H'.notDead hb')
  have hsp' := (H'.blk id _ hb').2 ad' h1
  simp only [Nat.zero_mul, Option.getD_none, Nat.add_zero, Value.pointer.injEq, Option.some.injEq] at h3
  obtain ⟨bl, off, sp⟩ := ad
  obtain ⟨bl', off', sp'⟩ := ad'
  simp only [Addr.mk.injEq] at h3
  simp only at hsp hsp'
  subst hsp hsp'
  rw [h1, ← h3.1, ← h3.2.1]

theorem layV_zero (els : List V) (lo : Nat) (z : V) : layV els lo 0 z = els := by simp [layV]
theorem layV_len {els : List V} {lo len : Nat} {z : V} (h : lo + len ≤ els.length) : (layV els lo len z).length = els.length := by simp [layV]; omega
theorem layV_succ {els : List V} {lo len : Nat} {z : V} (h : lo + len < els.length) : (layV els lo len z).set (lo + len) z = layV els lo (len + 1) z := by
  apply List.ext_getElem?
  intro i
  have hl : (layV els lo len z).length = els.length := layV_len (by omega)
  rw [List.getElem?_set]
  simp only [layV, List.getElem?_append, List.length_append, List.length_take, List.length_replicate, List.getElem?_take, List.getElem?_replicate, List.getElem?_drop]
  have hmin : min lo els.length = lo := by omega
  simp only [layV, List.length_append, List.length_take, List.length_replicate, List.length_drop, hmin] at hl ⊢
  repeat' split
  all_goals first | rfl | omega | (congr 1; omega)
theorem setMany (H : HOk w0 O w S g h U) {id sz lo : Nat} {els : List V} {ad : Addr} {z0 z : V} {zv : Value} (hb : h id = some ⟨.arr, sz, els⟩) (hbase : g.base id = some ad)
    (hcl : clA h z0 = some (z, [])) (hz : VR w S g h z0 zv) (hzid : idsA z0 = []) (hzl : z.cells.length = sz) (h0 : 0 < sz) : ∀ m, lo + m ≤ els.length →
    ∃ w' g', (storeCells ⟨ad.block, ad.off + lo * sz, none⟩ (Builtin.zeroCells zv.cells m).toList).run P w = .ok () w' ∧ HOk w0 O w' S g' (updH h id (some ⟨.arr, sz, layV els lo m z⟩)) U ∧
      Tr w S g h w' S g' (updH h id (some ⟨.arr, sz, layV els lo m z⟩))
  | 0, hm => by
    have e : updH h id (some ⟨.arr, sz, layV els lo 0 z⟩) = h := by
      funext k; simp only [updH, layV_zero]; split
      · rename_i hk; rw [hk, hb]
      · rfl
    rw [e]
    exact ⟨w, g, by simp [Builtin.zeroCells, storeCells], H, Tr.refl _ _ _ _⟩
  | m + 1, hm => by
    obtain ⟨w1, g1, hr, H1, tr1⟩ := setMany (lo := lo) H hb hbase hcl hz hzid hzl h0 m (by omega)
    have hb1 : updH h id (some ⟨.arr, sz, layV els lo m z⟩) id = some ⟨.arr, sz, layV els lo m z⟩ := by simp [updH]
    have hbase1 := base_of_tr H H1 tr1 hb hbase (by omega) hb1
    have hll : (layV els lo m z).length = els.length := layV_len (by omega)
    have hcl1 : clA (updH h id (some ⟨.arr, sz, layV els lo m z⟩)) z0 = some (z, []) := by
      rw [← hcl]
      exact clA_congr fun q hq => by rw [hzid] at hq; cases hq
    obtain ⟨c1, c2, c3, Ns, c4, c5, c6⟩ := clA_ok H1 hcl1 (tr1 _ _ hz)
    obtain ⟨w2, g2, hr2, H2, tr2⟩ := H1.setRow (P := P) (i := lo + m) (j0 := 0) (new := z) (vs := zv.cells) (ids := []) (old := (layV els lo m z)[lo + m]'(by omega)) hb1 hbase1 (List.getElem?_eq_getElem (by omega)) List.nodup_nil (by simp) (by simp) hzl c2 (by omega)
      (by
        intro u hu
        obtain ⟨j, hj, rfl⟩ := List.mem_iff_getElem.1 hu
        have hj' : j < zv.cells.size := by simpa using hj
        have hjz : j < z.cells.length := by omega
        have := (c4 j _ _ (List.getElem?_eq_getElem hjz) (Array.getElem?_eq_getElem hj')).2
        simpa using this) (M := Ns)
      (by
        intro j y c _ hj hy hc
        rw [Nat.sub_zero] at hc
        exact (c4 j y c hy hc).1)
      (by intro j _ hj; exact c5 j (by omega))
      (by intro j j' k _ hj _ hj' hk hk'; exact c6 List.nodup_nil j j' k (by omega) (by omega) hk hk')
      (by
        intro j hj
        have hold : ((layV els lo m z)[lo + m]'(by omega)).cells.length = sz := elsOf_flat H1 hb1 _ (List.getElem_mem _)
        rw [List.getElem?_eq_none (by omega), List.getElem?_eq_none (by omega)])
    have eheap : updsH (updH h id (some ⟨.arr, sz, layV els lo m z⟩)) (gone [] ++ [(id, some ⟨.arr, sz, (layV els lo m z).set (lo + m) z⟩)]) = updH h id (some ⟨.arr, sz, layV els lo (m + 1) z⟩) := by
      rw [layV_succ (by omega)]
      funext k
      simp only [gone, List.map_nil, List.nil_append, updsH, updH]
      split <;> rfl
    rw [eheap] at H2 tr2
    refine ⟨w2, g2, ?_, H2, tr1.trans tr2⟩
    rw [zeroCells_succ, run_storeCells_append _ _ _ 0 w w1 hr, Nat.zero_add]
    have hlen : (Builtin.zeroCells zv.cells m).toList.length = m * sz := by
      simp [Builtin.zeroCells, c1, hzl]
    rw [hlen]
    have hs := storeCells_shift ad.block (ad.off + lo * sz) (m * sz) zv.cells.toList 0
    rw [Nat.add_zero] at hs
    rw [hs]
    have ea : ad.off + lo * sz + m * sz = ad.off + ((lo + m) * sz + 0) := by rw [Nat.add_mul]; omega
    rw [ea]
    exact hr2
theorem clear_ok (H : HOk w0 O w S g h U) {tys : Array TypeId} {ty t : TypeId} (ht : tys[0]? = some t) {x v : V} {cx : Value} {us : List (Nat × Option Blk)} (hx : VR w S g h x cx) (hv : clearV P h t x = some (v, us)) :
    ∃ w' g', (Builtin.clear_ tys ty #[cx]).run P w = .ok (.tuple #[]) w' ∧ HOk w0 O w' S g' (updsH h us) U ∧ Tr w S g h w' S g' (updsH h us) ∧ v = .tup [] := by
  unfold clearV at hv
  split at hv
  · rename_i e id lo len hu
    split at hv
    · rename_i sz els z hb hz
      split at hv
      · rename_i hc
        obtain ⟨h1, h2, h3, h4⟩ := hc
        simp only [Option.some.injEq, Prod.mk.injEq] at hv
        obtain ⟨rfl, rfl⟩ := hv
        simp only [Option.bind_eq_some_iff] at hz
        obtain ⟨z0, hz0, hcl⟩ := hz
        obtain ⟨i, zv, hi, hzv, hzs, hzb, hzc, hzr, _⟩ := zeroV_ok (w := w) (S := S) (g := g) (h := h) hz0
        obtain ⟨_, ev⟩ := hx.inv_win hb (H.notDead hb)
        have hcle := (H.blk id _ hb).1.len_le.1
        rcases ev with ⟨_, hcz, _⟩ | ⟨ad, cp, hbase, hcp, hlc, rfl⟩
        · omega
        · obtain ⟨w', g', hr, H', tr⟩ := setMany (P := P) (lo := lo) H hb hbase hcl hzr (zeroV_ids hz0) h3 h4 len h1
          refine ⟨w', g', ?_, H', tr, rfl⟩
          have hz' : (zeroValue e).run P w = .ok zv w := run_zeroValue hi hzv
          cases len with
          | zero =>
            have : w' = w := by
              have hr' := hr
              simp [Builtin.zeroCells, storeCells] at hr'
              exact hr'.symm
            subst this
            simp [Builtin.clear_, ht, run_underlying' hu]
          | succ m => simp [Builtin.clear_, ht, run_underlying' hu, hz', hr]
      · cases hv
    · cases hv
  · cases hv
end
end Go.VM
