/- An append in place: a part of a local array is laid over with other elements. No condition. -/
import Derived.Test.YtknagbmhmjcnkaaVmAppend
import Derived.Test.YtknagbmhmjcnkaaVmClear
set_option linter.unusedVariables false
set_option linter.unusedSimpArgs false
namespace Go.VM
open Go
section
variable {P : Program} {w0 w : World} {O S : Nat → Prop} {g : G} {h : Heap} {U : Nat → Prop}
theorem layB_nil (els : List V) (lo : Nat) : layB els lo [] = els := by simp [layB]
theorem layB_len {els : List V} {lo : Nat} {b : List V} (h : lo + b.length ≤ els.length) : (layB els lo b).length = els.length := by simp [layB]; omega
theorem layB_succ {els b : List V} {lo m : Nat} (h : lo + b.length ≤ els.length) (hm : m < b.length) : (layB els lo (b.take m)).set (lo + m) b[m] = layB els lo (b.take (m + 1)) := by
  apply List.ext_getElem?
  intro i
  have e1 : (b.take m).length = m := by simp; omega
  have e2 : (b.take (m + 1)).length = m + 1 := by simp; omega
  have hl : (layB els lo (b.take m)).length = els.length := layB_len (by omega)
  rw [List.getElem?_set, hl]
  simp only [layB, e1, e2, List.getElem?_append, List.length_append, List.length_take, List.getElem?_take, List.getElem?_drop]
  have hmin : min lo els.length = lo := by omega
  have hmin1 : min m b.length = m := by omega
  have hmin2 : min (m + 1) b.length = m + 1 := by omega
  simp only [hmin, hmin1, hmin2]
  by_cases hi : lo + m = i
  · subst hi
    have : lo + m - lo = m := by omega
    simp [show ¬ lo + m < lo by omega, show lo + m < els.length by omega, this, hm, List.getElem?_eq_getElem hm]
  · simp only [hi, if_false]
    repeat' split
    all_goals first | rfl | omega | (congr 1; omega)
theorem OW.flat_irrel {y : V} {c : Value} {N : Nat → Prop} (x : OW w y c N) (hf : y.flatC = true) (w' : World) : OW w' y c (fun _ => False) := by
  cases x with
  | int k n => exact .int k n
  | bool b => exact .bool b
  | str s l h => exact .str s l h
  | _ => simp [V.flatC] at hf
theorem setList (H : HOk w0 O w S g h U) {id sz lo : Nat} {els b : List V} {ad : Addr} {news : Array Value} (hb : h id = some ⟨.arr, sz, els⟩) (hbase : g.base id = some ad)
    (hf : flatL b = true) (hbs : ∀ x ∈ b, x.cells.length = sz) (hns : news.size = b.length * sz)
    (hc : ∀ (i : Nat) x (j : Nat) y, b[i]? = some x → x.cells[j]? = some y → ∃ c, news[i * sz + j]? = some c ∧ OW w y c (fun _ => False)) (h0 : 0 < sz) (hfit : lo + b.length ≤ els.length) : ∀ m, m ≤ b.length →
    ∃ w' g', (storeCells ⟨ad.block, ad.off + lo * sz, none⟩ (news.toList.take (m * sz))).run P w = .ok () w' ∧ HOk w0 O w' S g' (updH h id (some ⟨.arr, sz, layB els lo (b.take m)⟩)) U ∧
      Tr w S g h w' S g' (updH h id (some ⟨.arr, sz, layB els lo (b.take m)⟩))
  | 0, hm => by
    have e : updH h id (some ⟨.arr, sz, layB els lo (b.take 0)⟩) = h := by
      funext k; simp only [updH, List.take_zero, layB_nil]; split
      · rename_i hk; rw [hk, hb]
      · rfl
    rw [e]
    exact ⟨w, g, by simp [storeCells], H, Tr.refl _ _ _ _⟩
  | m + 1, hm => by
    obtain ⟨w1, g1, hr, H1, tr1⟩ := setList H hb hbase hf hbs hns hc h0 hfit m (by omega)
    have e1 : (b.take m).length = m := by simp; omega
    have hb1 : updH h id (some ⟨.arr, sz, layB els lo (b.take m)⟩) id = some ⟨.arr, sz, layB els lo (b.take m)⟩ := by simp [updH]
    have hbase1 := base_of_tr H H1 tr1 hb hbase (by omega) hb1
    have hll : (layB els lo (b.take m)).length = els.length := layB_len (by omega)
    have hmb : m < b.length := hm
    have hbx : b[m] ∈ b := List.getElem_mem _
    have hxs := hbs _ hbx
    have hxf : ∀ y ∈ (b[m]).cells, y.flatC = true := by
      intro y hy
      obtain ⟨j, hj, rfl⟩ := List.mem_iff_getElem.1 hy
      exact flat_cells ((List.all_eq_true.1 hf) _ hbx) (List.getElem?_eq_getElem hj)
    have hmul : m * sz + sz ≤ b.length * sz := by rw [← Nat.succ_mul]; exact Nat.mul_le_mul_right _ hm
    have hchunk : ∀ j, j < sz → (news.extract (m * sz) (m * sz + sz))[j]? = news[m * sz + j]? := by
      intro j hj
      rw [Array.getElem?_extract]
      rw [if_pos (by omega)]
    have hcs : (news.extract (m * sz) (m * sz + sz)).size = sz := by simp; omega
    have hcell : ∀ (j : Nat) y c, (b[m]).cells[j]? = some y → (news.extract (m * sz) (m * sz + sz))[j]? = some c → OW w1 y c (fun _ => False) := by
      intro j y c hy hcc
      have hj := (List.getElem?_eq_some_iff.1 hy).1
      obtain ⟨c', hc1, hc2⟩ := hc m _ j y (List.getElem?_eq_getElem hmb) hy
      rw [hchunk j (by omega), hc1] at hcc
      cases hcc
      exact hc2.flat_irrel (hxf y (List.mem_of_getElem? hy)) w1
    obtain ⟨w2, g2, hr2, H2, tr2⟩ := H1.setRow (P := P) (i := lo + m) (j0 := 0) (new := b[m]) (vs := news.extract (m * sz) (m * sz + sz)) (ids := []) (old := (layB els lo (b.take m))[lo + m]'(by omega)) hb1 hbase1 (List.getElem?_eq_getElem (by omega)) List.nodup_nil (by simp) (by simp) hxs
      (fun y hy => flatC_ok (hxf y hy)) (by omega)
      (by
        intro u hu
        obtain ⟨j, hj, rfl⟩ := List.mem_iff_getElem.1 hu
        have hj' : j < (news.extract (m * sz) (m * sz + sz)).size := by rw [← Array.length_toList]; exact hj
        have hjz : j < (b[m]).cells.length := by omega
        have ho := hcell j _ _ (List.getElem?_eq_getElem hjz) (Array.getElem?_eq_getElem hj')
        have := ho.one (flatC_ok (hxf _ (List.getElem_mem _)))
        simpa using this) (M := fun _ _ => False)
      (by
        intro j y c _ hj hy hcc
        rw [Nat.sub_zero] at hcc
        exact hcell j y c hy hcc)
      (by intro j _ hj k hk; exact hk.elim) (by intro j j' k _ hj _ hj' hk; exact hk.elim)
      (by
        intro j hj
        have hold : ((layB els lo (b.take m))[lo + m]'(by omega)).cells.length = sz := elsOf_flat H1 hb1 _ (List.getElem_mem _)
        rw [List.getElem?_eq_none (by omega), List.getElem?_eq_none (by omega)])
    have eheap : updsH (updH h id (some ⟨.arr, sz, layB els lo (b.take m)⟩)) (gone [] ++ [(id, some ⟨.arr, sz, (layB els lo (b.take m)).set (lo + m) b[m]⟩)]) = updH h id (some ⟨.arr, sz, layB els lo (b.take (m + 1))⟩) := by
      rw [layB_succ (by omega) hmb]
      funext k
      simp only [gone, List.map_nil, List.nil_append, updsH, updH]
      split <;> rfl
    rw [eheap] at H2 tr2
    refine ⟨w2, g2, ?_, H2, tr1.trans tr2⟩
    have hsplit : news.toList.take ((m + 1) * sz) = news.toList.take (m * sz) ++ (news.extract (m * sz) (m * sz + sz)).toList := by
      rw [Array.toList_extract, List.extract_eq_take_drop, Nat.succ_mul, List.take_add]
      congr 2
      omega
    rw [hsplit, run_storeCells_append _ _ _ 0 w w1 hr, Nat.zero_add]
    have hlen : (news.toList.take (m * sz)).length = m * sz := by simp; omega
    rw [hlen]
    have hs := storeCells_shift ad.block (ad.off + lo * sz) (m * sz) (news.extract (m * sz) (m * sz + sz)).toList 0
    rw [Nat.add_zero] at hs
    rw [hs]
    have ea : ad.off + lo * sz + m * sz = ad.off + ((lo + m) * sz + 0) := by rw [Nat.add_mul]; omega
    rw [ea]
    exact hr2
theorem appendIn_core (H : HOk w0 O w S g h U) {tys : Array TypeId} {ty t el : TypeId} {cs cx : Value} {id lo len sz : Nat} {els lb : List V} (ht : tys[0]? = some t) (hp : plainSrc P tys = true) (hu : P.underlying t = some (.slice el))
    (hs : VR w S g h (.win id lo len) cs) (hb : h id = some ⟨.arr, sz, els⟩) (hlo : lo < els.length) (hfit : lo + len + lb.length ≤ els.length) (hf : flatL lb = true) (hsz : sz = P.cellsOf el) (h0 : 0 < sz) (hz : zeroFits P el sz = true)
    (hby : (len + lb.length) * P.bytesOf el ≤ 140737488355328) (hm : len + lb.length ≤ 9223372036854775807) (hsrc : SrcOk P w g h [] sz lb cx) :
    ∃ cv w' g', (Builtin.append_ tys ty #[cs, cx]).run P w = .ok cv w' ∧ HOk w0 O w' S g' (updsH h [(id, some ⟨.arr, sz, layB els (lo + len) lb⟩)]) U ∧
      Tr w S g h w' S g' (updsH h [(id, some ⟨.arr, sz, layB els (lo + len) lb⟩)]) ∧ VR w' S g' (updsH h [(id, some ⟨.arr, sz, layB els (lo + len) lb⟩)]) (.win id lo (len + lb.length)) cv := by
  obtain ⟨hlen, news, r1, r2, hn, hbsz, hbok, Nb, hbc, hbN, hbdis⟩ := hsrc
  obtain ⟨z, hzv, hzl⟩ : ∃ z, zeroV P el = some z ∧ z.cells.length = sz := by
    unfold zeroFits at hz
    split at hz
    · rename_i z hz'; exact ⟨z, hz', by simpa using hz⟩
    · cases hz
  obtain ⟨_, ev⟩ := hs.inv_win hb (H.notDead hb)
  have hcle := (H.blk id _ hb).1.len_le.1
  rcases ev with ⟨_, hcz, _⟩ | ⟨ad, cp, hbase, hcp, hlc, rfl⟩
  · omega
  have hfl : ∀ (i : Nat) x (j : Nat) y, lb[i]? = some x → x.cells[j]? = some y → ∃ c, news[i * sz + j]? = some c ∧ OW w y c (fun _ => False) := by
    intro i x j y hx hy
    obtain ⟨c, hc, ho⟩ := hbc i x j y hx hy
    exact ⟨c, hc, ho.flat_irrel (flat_cells ((List.all_eq_true.1 hf) _ (List.mem_of_getElem? hx)) hy) w⟩
  obtain ⟨w', g', hr, H', tr⟩ := setList (P := P) (lo := lo + len) H hb hbase hf hbsz hn hfl h0 hfit lb.length (Nat.le_refl _)
  rw [List.take_length] at H' tr
  have eh : updsH h [(id, some ⟨.arr, sz, layB els (lo + len) lb⟩)] = updH h id (some ⟨.arr, sz, layB els (lo + len) lb⟩) := rfl
  rw [eh]
  have hcle' : els.length ≤ g.cap id := hcle
  have hw : VR w S g h (.win id lo (len + lb.length)) (.slice (some ⟨ad.block, ad.off + lo * sz, none⟩) (len + lb.length) cp) := .win id lo _ _ cp _ els ad hb rfl hbase hcp (by omega)
  refine ⟨_, w', g', ?_, H', tr, tr _ _ hw⟩
  have := (run_append (P := P) (w := w) (ty := ty) (ba := some ⟨ad.block, ad.off + lo * sz, none⟩) (sLen := len) (sCap := cp) ht hp hu hsz h0 hzv hzl hlen r1 r2 hby hm).1 (by omega)
  rw [this]
  have hn' : news.toList.take (lb.length * sz) = news.toList := List.take_of_length_le (by simp [hn])
  rw [hn'] at hr
  have ea : (⟨ad.block, ad.off + lo * sz, none⟩ : Addr).add (len * sz) = ⟨ad.block, ad.off + (lo + len) * sz, none⟩ := by rw [add_mk, Nat.add_mul, Nat.add_assoc]
  simp only [ea, hr, Result.andThen_ok]
theorem append_ok {n : Nat} (H : HOk w0 O w S g h U) {tys : Array TypeId} {ty t : TypeId} {s x v : V} {us : List (Nat × Option Blk)} {cs cx : Value} (ht : tys[0]? = some t) (hp : plainSrc P tys = true)
    (hs : VR w S g h s cs) (hx : VR w S g h x cx) (hv : appendV P h n t s x = some (v, us)) (hU : ∀ i, n ≤ i → i < n + stride → ¬ U i) :
    ∃ cv w' g', (Builtin.append_ tys ty #[cs, cx]).run P w = .ok cv w' ∧ HOk w0 O w' S g' (updsH h us) (fun k => U k ∨ (n ≤ k ∧ k < n + stride)) ∧
      Tr w S g h w' S g' (updsH h us) ∧ VR w' S g' (updsH h us) v cv := by
  have hUn : ¬ U n := hU n (Nat.le_refl _) (by simp [stride])
  have hweak : ∀ k, (U k ∨ k = n) → U k ∨ (n ≤ k ∧ k < n + stride) := by
    rintro k (hk | rfl)
    · exact .inl hk
    · exact .inr ⟨Nat.le_refl _, by simp [stride]⟩
  unfold appendV at hv
  split at hv
  · rename_i el hu
    split at hv
    · rename_i sz la sz' lb hls hea hsrc
      split at hv
      · rename_i hc
        obtain ⟨hsz, hszz, h0, hz, hb, hm⟩ := hc
        subst hszz
        have hnS : n ∉ idsC s := by
          intro hn
          cases s <;> simp [idsC] at hn
          · rename_i id
            subst hn
            simp only [elsOf] at hea
            split at hea
            · rename_i hb'; exact hUn (H.used n (.inl (by simp [hb'])))
            · cases hea
          · rename_i id lo len
            subst hn
            simp only [elsOf] at hea
            split at hea
            · rename_i hb'; exact hUn (H.used n (.inl (by simp [hb'])))
            · cases hea
          · simp [elsOf] at hea
        have hsoF : flatL lb = true → SrcOk P w g h [] sz' lb cx := by
          intro hf
          cases x with
          | str l =>
            simp only [srcOf] at hsrc
            split at hsrc
            · cases hsrc
              obtain ⟨b, rfl, hb'⟩ := hx.inv_str
              exact src_str hb'
            · cases hsrc
          | _ => simp only [srcOf] at hsrc; exact src_flat H h0 hsrc hf hx
        split at hv
        · rename_i r hin
          cases hv
          unfold appendIn at hin
          split at hin
          · rename_i id lo len
            split at hin
            · rename_i sz2 els hbb
              split at hin
              · rename_i hcc
                obtain ⟨k1, k2, k3⟩ := hcc
                simp only [Option.some.injEq, Prod.mk.injEq] at hin
                obtain ⟨rfl, rfl⟩ := hin
                simp only [elsOf, hbb] at hea
                split at hea
                · rename_i hle
                  simp only [Option.some.injEq, Prod.mk.injEq] at hea
                  obtain ⟨rfl, rfl⟩ := hea
                  have hll : ((els.drop lo).take len).length = len := by simp; omega
                  rw [hll] at hb hm
                  obtain ⟨cv, w', g', hr, H', tr, hvr⟩ := appendIn_core H (ty := ty) ht hp hu hs hbb k1 k2 k3 hsz h0 hz hb hm (hsoF k3)
                  exact ⟨cv, w', g', hr, H'.weak (fun k hk => .inl hk), tr, hvr⟩
                · cases hea
              · cases hin
            · cases hin
          · cases hin
        split at hv
        rotate_left
        · cases hv
        rename_i hwin
        split at hv
        · rename_i hf
          cases hv
          have hso : SrcOk P w g h [] sz' lb cx := by
            cases x with
            | str l =>
              simp only [srcOf] at hsrc
              split at hsrc
              · cases hsrc
                obtain ⟨b, rfl, hb'⟩ := hx.inv_str
                exact src_str hb'
              · cases hsrc
            | _ => simp only [srcOf] at hsrc; exact src_flat H h0 hsrc hf hx
          obtain ⟨cv, w', g', hr, H', tr, hvr⟩ := append_core H (n := n) (ty := ty) ht hp hu hs hls hea hsz h0 hz hwin hb hm hso (by simp) hUn (by simpa using hnS)
          exact ⟨cv, w', g', hr, H'.weak hweak, tr, hvr⟩
        · unfold appendOwn at hv
          split at hv
          · rename_i id
            split at hv
            · cases hv
            · rename_i hni
              cases hv
              simp only [srcOf, elsOf] at hsrc
              split at hsrc
              · rename_i sz' els hb'
                cases hsrc
                have hso := src_own (P := P) H h0 hb' hx
                obtain ⟨cv, w', g', hr, H', tr, hvr⟩ := append_core H (n := n) (ty := ty) ht hp hu hs hls hea hsz h0 hz hwin hb hm hso (by intro i hi; simp at hi; subst hi; simpa using hni) hUn
                  (by
                    simp only [List.mem_append, List.mem_singleton, not_or]
                    exact ⟨fun e => hUn (H.used n (.inl (by rw [e, hb']; simp))), hnS⟩)
                exact ⟨cv, w', g', hr, H'.weak hweak, tr, hvr⟩
              · cases hsrc
          · cases hv
      · cases hv
    · cases hv
  · cases hv

end
end Go.VM
