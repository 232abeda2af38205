import Derived.Test.YtghmjnggmacohaaGreatDoorVmBase
import Derived.Test.YtghmjnggmacohaaGreatDoorVmStore3

import Derived.MapKept
import Derived.Test.YtghmjnggmacohaaGreatDoorVmAppend

import Derived.Laws.IdiomStrings
/- What of the heap a value's reading depends on. No condition. -/
set_option linter.unusedVariables false
set_option linter.unusedSimpArgs false
namespace Go.VM
open Go
section
variable {P : Program}
theorem idsC_sub {v : V} {id : Nat} (h : id ∈ idsC v) : id ∈ idsA v := by
  cases v <;> first | exact h | (simp [idsC] at h)
theorem ids_evA {e : Env} {t : TypeId} {x : Operand} : ∀ id ∈ idsA (evO P e t x), id ∈ idsOA e x := by
  intro id hid
  cases x with
  | tmp u => exact hid
  | const v =>
    simp only [evO, constV] at hid
    split at hid <;> try (simp [idsA, idsC] at hid; done)
    split at hid <;> simp [idsA, idsC] at hid
  | func f => simp [evO, idsA, idsC] at hid
  | global u => simp [evO, idsA, idsC] at hid
theorem clC_congr {h h' : Heap} {x : V} (hx : ∀ id ∈ idsC x, h id = h' id) : clC h x = clC h' x := by
  cases x <;> first | rfl | (simp only [clC]; rw [hx _ (by simp [idsC])])
theorem clL_congr {h h' : Heap} : ∀ {l : List V}, (∀ id ∈ idsL l, h id = h' id) → clL h l = clL h' l
  | [], _ => rfl
  | x :: l, hx => by
    simp only [clL]
    rw [clC_congr fun id hid => hx id (by simp [idsL, hid]), clL_congr (l := l) fun id hid => hx id (by simp [idsL, hid])]
theorem clA_congr {h h' : Heap} {x : V} (hx : ∀ id ∈ idsA x, h id = h' id) : clA h x = clA h' x := by
  cases x with
  | agg l => simp only [clA]; rw [clL_congr hx]
  | _ => exact clC_congr fun id hid => hx id (idsC_sub hid)
theorem clParts_congr {h h' : Heap} {sz : Nat} : ∀ {ps : List (Nat × V)} {els : List V}, (∀ p ∈ ps, ∀ id ∈ idsA p.2, h id = h' id) → clParts h sz ps els = clParts h' sz ps els
  | [], els, _ => rfl
  | (i, v) :: ps, els, hx => by
    simp only [clParts]
    rw [clA_congr fun id hid => hx (i, v) (by simp) id hid]
    congr 1
    funext y
    split
    · rw [clParts_congr (ps := ps) fun p hp => hx p (by simp [hp])]
    · rfl
theorem zeroCell_ids {t : TypeId} {c : Value} {z : V} (hz : zeroCell P t c = some z) : idsC z = [] := by
  unfold zeroCell at hz
  split at hz <;> first | (cases hz; done) | (cases hz; rfl) | skip
  · simp only [Option.map_eq_some_iff] at hz
    obtain ⟨_, _, rfl⟩ := hz; rfl
theorem zeroL_ids : ∀ {fs : List Field} {vs : List Value} {l : List V}, zeroL P fs vs = some l → idsL l = []
  | [], [], l, hz => by simp [zeroL] at hz; subst hz; rfl
  | [], _ :: _, l, hz => by simp [zeroL] at hz
  | _ :: _, [], l, hz => by simp [zeroL] at hz
  | f :: fs, v :: vs, l, hz => by
    simp only [zeroL, Option.bind_eq_some_iff, Option.map_eq_some_iff] at hz
    obtain ⟨x, hx, xs, hxs, rfl⟩ := hz
    simp [idsL, zeroCell_ids hx, zeroL_ids hxs]
theorem zeroV_ids {t : TypeId} {z : V} (hz : zeroV P t = some z) : idsA z = [] := by
  unfold zeroV at hz
  split at hz
  · split at hz
    · split at hz
      · simp only [Option.map_eq_some_iff] at hz
        obtain ⟨l, hl, rfl⟩ := hz
        exact zeroL_ids hl
      · cases hz
    · split at hz
      · have := zeroCell_ids hz
        cases z <;> first | exact this | skip
        rename_i l
        unfold zeroCell at hz
        split at hz <;> first | (cases hz; done) | skip
        · simp only [Option.map_eq_some_iff] at hz
          obtain ⟨_, _, hh⟩ := hz; cases hh
      · cases hz
  · cases hz
end
end Go.VM

/- A part of a local array is laid over with zero values. No condition. -/
set_option linter.unusedVariables false
set_option linter.unusedSimpArgs false
namespace Go.VM
open Go
section
variable {P : Program} {w0 w : World} {O S : Nat → Prop} {g : G} {h : Heap} {U : Nat → Prop}

theorem storeCells_shift (b off k : Nat) : ∀ (vs : List Value) (i : Nat), storeCells ⟨b, off, none⟩ vs (k + i) = storeCells ⟨b, off + k, none⟩ vs i
  | [], i => rfl
  | v :: vs, i => by
    simp only [storeCells, add_mk]
    rw [show off + (k + i) = off + k + i by omega, show k + i + 1 = k + (i + 1) by omega]
    congr 1
    funext u
    exact storeCells_shift b off k vs (i + 1)
theorem run_storeCells_append (a : Addr) : ∀ (l m : List Value) (i : Nat) (w w' : World), (storeCells a l i).run P w = .ok () w' → (storeCells a (l ++ m) i).run P w = (storeCells a m (i + l.length)).run P w'
  | [], m, i, w, w', hr => by
    simp [storeCells] at hr
    subst hr; rfl
  | v :: l, m, i, w, w', hr => by
    simp only [storeCells, List.cons_append, Sem.run_bind] at hr ⊢
    cases hs : (store (a.add i) v).run P w with
    | ok u w1 =>
      rw [hs] at hr
      simp only [Result.andThen_ok] at hr ⊢
      rw [run_storeCells_append a l m (i + 1) w1 w' hr, List.length_cons]
      congr 2; omega
    | _ => rw [hs] at hr; simp [Result.andThen] at hr
theorem zeroCells_succ (z : Array Value) (m : Nat) : (Builtin.zeroCells z (m + 1)).toList = (Builtin.zeroCells z m).toList ++ z.toList := by
  unfold Builtin.zeroCells
  apply List.ext_getElem?
  intro i
  simp only [Array.toList_map, List.getElem?_map, Array.getElem?_toList, List.getElem?_append, List.length_map, Array.length_toList, Array.size_range, Nat.succ_mul]
  by_cases h0 : i < m * z.size
  · rw [if_pos h0]
    simp [h0, show i < m * z.size + z.size by omega]
  · rw [if_neg h0]
    by_cases h1 : i < m * z.size + z.size
    · have e : i % z.size = i - m * z.size := by
        have : i = z.size * m + (i - m * z.size) := by rw [Nat.mul_comm]; omega
        rw [this, Nat.mul_add_mod, Nat.mod_eq_of_lt (by rw [Nat.mul_comm]; omega)]
        rw [Nat.mul_comm]; omega
      have hlt : i - m * z.size < z.size := by omega
      simp [h1, e, hlt]
    · simp [h1, show ¬ i - m * z.size < z.size by omega]
theorem base_of_tr {w' : World} {g' : G} {h' : Heap} (H : HOk w0 O w S g h U) (H' : HOk w0 O w' S g' h' U) (tr : Tr w S g h w' S g' h') {id sz : Nat} {els els' : List V} {ad : Addr} (hb : h id = some ⟨.arr, sz, els⟩) (hbase : g.base id = some ad) (hl : 0 < els.length)
    (hb' : h' id = some ⟨.arr, sz, els'⟩) : g'.base id = some ad := by
  have hsp := (H.blk id _ hb).2 ad hbase
  have := tr _ _ (VR.ptr (w := w) (S := S) (g := g) (h := h) id 0 none _ ad hb hbase hl)
  obtain ⟨ad', h1, _, h3⟩ := this.inv_ptr hb' (H'.notDead hb')
  have hsp' := (H'.blk id _ hb').2 ad' h1
  simp only [Nat.zero_mul, Option.getD_none, Nat.add_zero, Value.pointer.injEq, Option.some.injEq] at h3
  obtain ⟨bl, off, sp⟩ := ad
  obtain ⟨bl', off', sp'⟩ := ad'
  simp only [Addr.mk.injEq] at h3
  simp only at hsp hsp'
  subst hsp hsp'
  rw [h1, ← h3.1, ← h3.2.1]

theorem layV_zero (els : List V) (lo : Nat) (z : V) : layV els lo 0 z = els := by simp [layV]
theorem layV_len {els : List V} {lo len : Nat} {z : V} (h : lo + len ≤ els.length) : (layV els lo len z).length = els.length := by simp [layV]; omega
theorem layV_succ {els : List V} {lo len : Nat} {z : V} (h : lo + len < els.length) : (layV els lo len z).set (lo + len) z = layV els lo (len + 1) z := by
  apply List.ext_getElem?
  intro i
  have hl : (layV els lo len z).length = els.length := layV_len (by omega)
  rw [List.getElem?_set]
  simp only [layV, List.getElem?_append, List.length_append, List.length_take, List.length_replicate, List.getElem?_take, List.getElem?_replicate, List.getElem?_drop]
  have hmin : min lo els.length = lo := by omega
  simp only [layV, List.length_append, List.length_take, List.length_replicate, List.length_drop, hmin] at hl ⊢
  repeat' split
  all_goals first | rfl | omega | (congr 1; omega)
theorem setMany (H : HOk w0 O w S g h U) {id sz lo : Nat} {els : List V} {ad : Addr} {z0 z : V} {zv : Value} (hb : h id = some ⟨.arr, sz, els⟩) (hbase : g.base id = some ad)
    (hcl : clA h z0 = some (z, [])) (hz : VR w S g h z0 zv) (hzid : idsA z0 = []) (hzl : z.cells.length = sz) (h0 : 0 < sz) : ∀ m, lo + m ≤ els.length →
    ∃ w' g', (storeCells ⟨ad.block, ad.off + lo * sz, none⟩ (Builtin.zeroCells zv.cells m).toList).run P w = .ok () w' ∧ HOk w0 O w' S g' (updH h id (some ⟨.arr, sz, layV els lo m z⟩)) U ∧
      Tr w S g h w' S g' (updH h id (some ⟨.arr, sz, layV els lo m z⟩))
  | 0, hm => by
    have e : updH h id (some ⟨.arr, sz, layV els lo 0 z⟩) = h := by
      funext k; simp only [updH, layV_zero]; split
      · rename_i hk; rw [hk, hb]
      · rfl
    rw [e]
    exact ⟨w, g, by simp [Builtin.zeroCells, storeCells], H, Tr.refl _ _ _ _⟩
  | m + 1, hm => by
    obtain ⟨w1, g1, hr, H1, tr1⟩ := setMany (lo := lo) H hb hbase hcl hz hzid hzl h0 m (by omega)
    have hb1 : updH h id (some ⟨.arr, sz, layV els lo m z⟩) id = some ⟨.arr, sz, layV els lo m z⟩ := by simp [updH]
    have hbase1 := base_of_tr H H1 tr1 hb hbase (by omega) hb1
    have hll : (layV els lo m z).length = els.length := layV_len (by omega)
    have hcl1 : clA (updH h id (some ⟨.arr, sz, layV els lo m z⟩)) z0 = some (z, []) := by
      rw [← hcl]
      exact clA_congr fun q hq => by rw [hzid] at hq; cases hq
    obtain ⟨c1, c2, c3, Ns, c4, c5, c6⟩ := clA_ok H1 hcl1 (tr1 _ _ hz)
    obtain ⟨w2, g2, hr2, H2, tr2⟩ := H1.setRow (P := P) (i := lo + m) (j0 := 0) (new := z) (vs := zv.cells) (ids := []) (old := (layV els lo m z)[lo + m]'(by omega)) hb1 hbase1 (List.getElem?_eq_getElem (by omega)) List.nodup_nil (by simp) (by simp) hzl c2 (by omega)
      (by
        intro u hu
        obtain ⟨j, hj, rfl⟩ := List.mem_iff_getElem.1 hu
        have hj' : j < zv.cells.size := by simpa using hj
        have hjz : j < z.cells.length := by omega
        have := (c4 j _ _ (List.getElem?_eq_getElem hjz) (Array.getElem?_eq_getElem hj')).2
        simpa using this) (M := Ns)
      (by
        intro j y c _ hj hy hc
        rw [Nat.sub_zero] at hc
        exact (c4 j y c hy hc).1)
      (by intro j _ hj; exact c5 j (by omega))
      (by intro j j' k _ hj _ hj' hk hk'; exact c6 List.nodup_nil j j' k (by omega) (by omega) hk hk')
      (by
        intro j hj
        have hold : ((layV els lo m z)[lo + m]'(by omega)).cells.length = sz := elsOf_flat H1 hb1 _ (List.getElem_mem _)
        rw [List.getElem?_eq_none (by omega), List.getElem?_eq_none (by omega)])
    have eheap : updsH (updH h id (some ⟨.arr, sz, layV els lo m z⟩)) (gone [] ++ [(id, some ⟨.arr, sz, (layV els lo m z).set (lo + m) z⟩)]) = updH h id (some ⟨.arr, sz, layV els lo (m + 1) z⟩) := by
      rw [layV_succ (by omega)]
      funext k
      simp only [gone, List.map_nil, List.nil_append, updsH, updH]
      split <;> rfl
    rw [eheap] at H2 tr2
    refine ⟨w2, g2, ?_, H2, tr1.trans tr2⟩
    rw [zeroCells_succ, run_storeCells_append _ _ _ 0 w w1 hr, Nat.zero_add]
    have hlen : (Builtin.zeroCells zv.cells m).toList.length = m * sz := by
      simp [Builtin.zeroCells, c1, hzl]
    rw [hlen]
    have hs := storeCells_shift ad.block (ad.off + lo * sz) (m * sz) zv.cells.toList 0
    rw [Nat.add_zero] at hs
    rw [hs]
    have ea : ad.off + lo * sz + m * sz = ad.off + ((lo + m) * sz + 0) := by rw [Nat.add_mul]; omega
    rw [ea]
    exact hr2
theorem clear_ok (H : HOk w0 O w S g h U) {tys : Array TypeId} {ty t : TypeId} (ht : tys[0]? = some t) {x v : V} {cx : Value} {us : List (Nat × Option Blk)} (hx : VR w S g h x cx) (hv : clearV P h t x = some (v, us)) :
    ∃ w' g', (Builtin.clear_ tys ty #[cx]).run P w = .ok (.tuple #[]) w' ∧ HOk w0 O w' S g' (updsH h us) U ∧ Tr w S g h w' S g' (updsH h us) ∧ v = .tup [] := by
  unfold clearV at hv
  split at hv
  · rename_i e id lo len hu
    split at hv
    · rename_i sz els z hb hz
      split at hv
      · rename_i hc
        obtain ⟨h1, h2, h3, h4⟩ := hc
        simp only [Option.some.injEq, Prod.mk.injEq] at hv
        obtain ⟨rfl, rfl⟩ := hv
        simp only [Option.bind_eq_some_iff] at hz
        obtain ⟨z0, hz0, hcl⟩ := hz
        obtain ⟨i, zv, hi, hzv, hzs, hzb, hzc, hzr, _⟩ := zeroV_ok (w := w) (S := S) (g := g) (h := h) hz0
        obtain ⟨_, ev⟩ := hx.inv_win hb (H.notDead hb)
        have hcle := (H.blk id _ hb).1.len_le.1
        rcases ev with ⟨_, hcz, _⟩ | ⟨ad, cp, hbase, hcp, hlc, rfl⟩
        · omega
        · obtain ⟨w', g', hr, H', tr⟩ := setMany (P := P) (lo := lo) H hb hbase hcl hzr (zeroV_ids hz0) h3 h4 len h1
          refine ⟨w', g', ?_, H', tr, rfl⟩
          have hz' : (zeroValue e).run P w = .ok zv w := run_zeroValue hi hzv
          cases len with
          | zero =>
            have : w' = w := by
              have hr' := hr
              simp [Builtin.zeroCells, storeCells] at hr'
              exact hr'.symm
            subst this
            simp [Builtin.clear_, ht, run_underlying' hu]
          | succ m => simp [Builtin.clear_, ht, run_underlying' hu, hz', hr]
      · cases hv
    · cases hv
  · cases hv
end
end Go.VM

/- Maps of texts to numbers: made, looked up, written. No condition. -/
set_option linter.unusedVariables false
set_option linter.unusedSimpArgs false
namespace Go.VM
open Go
section
variable {P : Program} {w0 w w' : World} {O S : Nat → Prop} {g : G} {h : Heap} {U : Nat → Prop} {a : Act} {e : Env} {n : Nat} {o : Oper}
theorem bytes_beq (x y : ByteArray) : (x == y) = (x.data.toList == y.data.toList) := by
  rw [Bool.eq_iff_iff, MapKept.bytes_beq, beq_iff_eq]
  constructor
  · rintro rfl; rfl
  · intro h
    obtain ⟨⟨x⟩⟩ := x
    obtain ⟨⟨y⟩⟩ := y
    simp only at h
    rw [h]
/-- One entry. -/
def EntR (x : V) (e : MapEntry) : Prop := ∃ (s : ByteArray) (n : Int) (k : IntKind), x = .agg [.str s.data.toList, .int k n] ∧ e.key = .string s ∧ e.val = .int k n
inductive EntsR : List V → List MapEntry → Prop
  | nil : EntsR [] []
  | cons {x : V} {e : MapEntry} {l : List V} {es : List MapEntry} (h : EntR x e) (t : EntsR l es) : EntsR (x :: l) (e :: es)
theorem mapR_iff {l : List V} {es : Array MapEntry} : MapR l es ↔ EntsR l es.toList := by
  obtain ⟨es⟩ := es
  constructor
  · rintro ⟨h1, h2⟩
    simp only [List.size_toArray] at h1
    induction l generalizing es with
    | nil => cases es with
      | nil => exact .nil
      | cons => cases h1
    | cons x l ih => cases es with
      | nil => cases h1
      | cons e es =>
        refine .cons ?_ (ih es (fun i y e' hy he => h2 (i + 1) y e' (by simpa using hy) (by simpa using he)) (by simpa using h1))
        obtain ⟨s, n, k, q⟩ := h2 0 x e rfl rfl
        exact ⟨s, n, k, q⟩
  · intro h
    simp only at h
    induction h with
    | nil => exact ⟨rfl, fun i x e hx => by cases hx⟩
    | cons he t ih =>
      refine ⟨by simpa using ih.1, fun i x e hx hx' => ?_⟩
      cases i with
      | zero =>
        simp at hx hx'
        subst hx hx'
        exact he
      | succ i => exact ih.2 i x e (by simpa using hx) (by simpa using hx')
theorem find_ok (s : ByteArray) : ∀ {l : List V} {es : List MapEntry}, EntsR l es → ∀ n : Nat,
    (Instr.findNow .string (.string s) es n = some none ∧ lookS l s.data.toList = none ∧ ∀ v, putS l s.data.toList v = l ++ [.agg [.str s.data.toList, v]]) ∨
    ∃ i e k m, es[i]? = some e ∧ e.key = .string s ∧ e.val = .int k m ∧ Instr.findNow .string (.string s) es n = some (some (n + i, e.val)) ∧ lookS l s.data.toList = some (.int k m) ∧
      ∀ v, putS l s.data.toList v = l.set i (.agg [.str s.data.toList, v])
  | _, _, .nil, n => .inl ⟨rfl, rfl, fun v => rfl⟩
  | _, _, .cons (x := x) (e := e) (l := l) (es := es) he t, n => by
    obtain ⟨s', m, k, rfl, ek, ev⟩ := he
    have hs : Instr.sameNow .string (.string s) e.key = some (s == s') := by rw [ek]; rfl
    by_cases hc : (s == s') = true
    · have hc2 : (s.data.toList == s'.data.toList) = true := by rw [← bytes_beq]; exact hc
      have e1 : s = s' := (MapKept.bytes_beq _ _).1 hc
      refine .inr ⟨0, e, k, m, rfl, by rw [ek, e1], ev, ?_, ?_, fun v => ?_⟩
      · simp only [Instr.findNow, hs, hc]; rfl
      · simp only [lookS, hc2, if_true]
      · simp only [putS, hc2, if_true]; rfl
    · have hc1 : (s == s') = false := by simpa using hc
      have hc2 : (s.data.toList == s'.data.toList) = false := by rw [← bytes_beq]; exact hc1
      have q1 : Instr.findNow .string (.string s) (e :: es) n = Instr.findNow .string (.string s) es (n + 1) := by simp only [Instr.findNow, hs, hc1]
      have q2 : lookS (.agg [.str s'.data.toList, .int k m] :: l) s.data.toList = lookS l s.data.toList := by simp only [lookS, hc2, Bool.false_eq_true, if_false]
      have q3 : ∀ v, putS (.agg [.str s'.data.toList, .int k m] :: l) s.data.toList v = .agg [.str s'.data.toList, .int k m] :: putS l s.data.toList v := fun v => by simp only [putS, hc2, Bool.false_eq_true, if_false]
      rcases find_ok s t (n + 1) with ⟨h1, h2, h3⟩ | ⟨i, e', k', m', h1, h2, h3, h4, h5, h6⟩
      · exact .inl ⟨q1.trans h1, q2.trans h2, fun v => (q3 v).trans (by rw [h3]; rfl)⟩
      · exact .inr ⟨i + 1, e', k', m', by simpa using h1, h2, h3, q1.trans (by rw [h4]; congr 3; omega), q2.trans h5, fun v => (q3 v).trans (by rw [h6]; rfl)⟩
/-- A new map. -/
theorem HOk.newMap (H : HOk w0 O w S g h U) {id : Nat} (hU : ¬ U id) :
    ∃ g', HOk w0 O (w.alloc (.map #[] 0)) S g' (updH h id (some ⟨.map, 0, [.lst 2 []]⟩)) (fun k => U k ∨ k = id) ∧ Tr w S g h (w.alloc (.map #[] 0)) S g' (updH h id (some ⟨.map, 0, [.lst 2 []]⟩)) ∧
      VR (w.alloc (.map #[] 0)) S g' (updH h id (some ⟨.map, 0, [.lst 2 []]⟩)) (.ptr id 1 none) (.map (some w.heap.size)) := by
  have hnone : h id = none := by
    cases hh : h id with
    | none => rfl
    | some b => exact absurd (H.used id (.inl (by simp [hh]))) hU
  have hndead : ¬ g.dead id := fun hd => hU (H.used id (.inr hd))
  obtain ⟨Ha, tra⟩ := H.alloc (.map #[] 0)
  let g' := g.set id (some ⟨w.heap.size, 0, none⟩) 0 (fun k => k = w.heap.size)
  have tr : Tr (w.alloc (.map #[] 0)) S g h (w.alloc (.map #[] 0)) S g' (updH h id (some ⟨.map, 0, [.lst 2 []]⟩)) := by
    refine Tr.of (fun _ _ => rfl) (fun _ h => h) (fun _ h => h) fun j b hb => .inr ⟨b, ?_, rfl, rfl, rfl, ?_, ?_⟩
    all_goals
      have hne : j ≠ id := fun e => by rw [e, hnone] at hb; cases hb
      simp [updH, g', G.set, hne, hb]
  refine ⟨g', Ha.change tr Ha.fr Ha.slt ?_ ?_ ?_ ?_, tra.trans tr, ?_⟩
  · intro j b hb
    by_cases hj : j = id
    · subst hj
      simp [updH] at hb
      subst hb
      refine .inr ⟨⟨⟨w.heap.size, 0, none⟩, #[], 0, [], by simp [g', G.set], heap_alloc_new' w _, rfl, mapR_iff.2 .nil, fun k => by simp [g', G.set]⟩, fun k hk => ?_⟩
      have hk' : k = w.heap.size := by simpa [g', G.set] using hk
      subst hk'
      exact ⟨fun hS => by have := H.slt _ hS; omega, .inl H.fr.size⟩
    · simp only [updH, hj, if_false] at hb
      refine .inl ⟨hb, by simp [g', G.set, hj], by simp [g', G.set, hj], by simp [g', G.set, hj], fun k hk => ⟨rfl, (Ha.own j b k hb hk).1⟩⟩
  · intro i j b b' k hi hj hNi hNj
    by_cases ei : i = id <;> by_cases ej : j = id
    · rw [ei, ej]
    · simp only [updH, ej, if_false] at hj
      simp only [g', G.set, ei, ej, if_true, if_false] at hNi hNj
      have := H.lt j b' k hj hNj
      omega
    · simp only [updH, ei, if_false] at hi
      simp only [g', G.set, ei, ej, if_true, if_false] at hNi hNj
      have := H.lt i b k hi hNi
      omega
    · simp only [updH, ei, ej, if_false] at hi hj
      simp only [g', G.set, ei, ej, if_false] at hNi hNj
      exact H.disj i j b b' k hi hj hNi hNj
  · rintro j (hj | hj)
    · by_cases e : j = id
      · exact .inr e
      · simp only [updH, e, if_false] at hj
        exact .inl (H.used j (.inl hj))
    · exact .inl (H.used j (.inr hj))
  · intro j hj
    have e : j ≠ id := fun e => hndead (e ▸ hj)
    simp only [updH, e, if_false]
    exact H.dead j hj
  · exact .mref id 0 (.lst 2 []) ⟨w.heap.size, 0, none⟩ (by simp [updH]) (by simp [g', G.set])
/-- A map is written. -/
theorem HOk.setMap {w' : World} (H : HOk w0 O w S g h U) {id : Nat} {l l' : List V} {ad : Addr} {es' : Array MapEntry} {c' : Nat} (hb : h id = some ⟨.map, 0, [.lst 2 l]⟩) (hbase : g.base id = some ad)
    (ho : Only w w' ad.block) (hw : w'.heap[ad.block]? = some (.map es' c')) (hm : MapR l' es') :
    HOk w0 O w' S g (updH h id (some ⟨.map, 0, [.lst 2 l']⟩)) U ∧ Tr w S g h w' S g (updH h id (some ⟨.map, 0, [.lst 2 l']⟩)) := by
  have hB := H.blk id _ hb
  obtain ⟨ad', es, clk, l0, h1, h2, h3, h4, h11⟩ := hB
  rw [hbase] at h1; cases h1
  have hown := H.own id _ ad.block hb ((h11 _).2 rfl)
  have tr : Tr w S g h w' S g (updH h id (some ⟨.map, 0, [.lst 2 l']⟩)) := by
    refine Tr.of (fun k hk => ho.block k fun e => ?_) (fun _ h => h) (fun _ h => h) fun j b hj => .inr ?_
    · subst e; exact hown.1 hk
    · by_cases ej : j = id
      · subst ej
        rw [hb] at hj; cases hj
        exact ⟨⟨.map, 0, [.lst 2 l']⟩, by simp [updH], rfl, rfl, rfl, rfl, rfl⟩
      · exact ⟨b, by simp [updH, ej, hj], rfl, rfl, rfl, rfl, rfl⟩
  refine ⟨H.change tr (H.fr.only ho hown.2) (fun k hk => by rw [ho.size]; exact H.slt k hk) ?_ ?_ ?_ ?_, tr⟩
  · intro j b hj
    by_cases ej : j = id
    · subst ej
      simp [updH] at hj; subst hj
      exact .inr ⟨⟨ad, es', c', l', hbase, hw, rfl, hm, h11⟩, fun k hk => H.own j _ k hb hk⟩
    · simp only [updH, ej, if_false] at hj
      refine .inl ⟨hj, rfl, rfl, rfl, fun k hk => ⟨ho.block k fun e => ?_, (H.own j b k hj hk).1⟩⟩
      subst e
      exact ej (H.disj j id b _ _ hj hb hk ((h11 _).2 rfl))
  · intro i j b b' k hi hj hNi hNj
    have f : ∀ i b, updH h id (some ⟨.map, 0, [.lst 2 l']⟩) i = some b → ∃ b0, h i = some b0 := by
      intro i b hi
      by_cases ei : i = id
      · subst ei; exact ⟨_, hb⟩
      · simp only [updH, ei, if_false] at hi; exact ⟨_, hi⟩
    obtain ⟨b0, hb0⟩ := f i b hi
    obtain ⟨b1, hb1⟩ := f j b' hj
    exact H.disj i j b0 b1 k hb0 hb1 hNi hNj
  · rintro j (hj | hj)
    · by_cases ej : j = id
      · subst ej; exact H.used j (.inl (by simp [hb]))
      · simp only [updH, ej, if_false] at hj; exact H.used j (.inl hj)
    · exact H.used j (.inr hj)
  · intro j hj
    have ej : j ≠ id := fun e => H.notDead hb (e ▸ hj)
    simp only [updH, ej, if_false]
    exact H.dead j hj
theorem mapAt_some {m : V} {id : Nat} {l : List V} (hm : mapAt h m = some (id, l)) : m = .ptr id 1 none ∧ h id = some ⟨.map, 0, [.lst 2 l]⟩ := by
  unfold mapAt at hm
  split at hm
  · split at hm
    · rename_i hb; cases hm; exact ⟨rfl, hb⟩
    · cases hm
  · cases hm
theorem mapT_some {t : TypeId} {z : V} (hz : mapT P t = some z) : ∃ k e i n, P.underlying t = some (.map k e) ∧ P.underlying k = some .string ∧ zeroV P e = some (.int i n) ∧ z = .int i n := by
  unfold mapT at hz
  split at hz
  · rename_i k e hu
    split at hz
    · rename_i i n hk hzv
      cases hz
      exact ⟨k, e, i, n, hu, hk, hzv, rfl⟩
    · cases hz
  · cases hz
theorem op_makeMap (H : HOk w0 O w S g h U) {t : TypeId} (ho : o.op = .makeMap t none) (hU : ∀ i, n ≤ i → i < n + stride → ¬ U i) :
    Does P w0 O w S g h U a n o (.ptr n 1 none) [(n, some ⟨.map, 0, [.lst 2 []]⟩)] := by
  obtain ⟨g', H', tr, hv⟩ := H.newMap (id := n) (hU n (Nat.le_refl _) (by simp [stride]))
  refine ⟨_, _, g', .inl ?_, H'.weak ?_, tr, hv⟩
  · simp [execOp, ho, Instr.makeMap]
  · rintro k (hk | rfl)
    · exact .inl hk
    · exact .inr ⟨Nat.le_refl _, by simp [stride]⟩
theorem inv_str {s : List UInt8} {c : Value} (x : VR w S g h (.str s) c) : ∃ b : ByteArray, c = .string b ∧ b.data.toList = s := by
  cases x with
  | rd _ _ hr => cases hr with | str b _ hb => exact ⟨b, rfl, hb⟩
  | dead _ i hi _ _ => simp [idsC] at hi
theorem op_lookup (H : HOk w0 O w S g h U) {t : TypeId} {x k : Operand} {m kv v : V} (ho : o.op = .lookup t x k true) (hm : VR w S g h m (a.eval x)) (hk : VR w S g h kv (a.eval k)) (hv : lookupV P h t m kv = some v) :
    Does P w0 O w S g h U a n o v [] := by
  unfold lookupV at hv
  split at hv
  · rename_i z id l s hz hma
    cases hv
    obtain ⟨rfl, hb⟩ := mapAt_some hma
    obtain ⟨kt, et, i, n0, hu, hku, hzv, rfl⟩ := mapT_some hz
    obtain ⟨ad, hbase, em⟩ := hm.inv_map hb (H.notDead hb)
    obtain ⟨b, ek, rfl⟩ := inv_str hk
    obtain ⟨ad', es, clk, l0, h1, h2, h3, h4, h5⟩ := H.blk id _ hb
    rw [hbase] at h1; cases h1
    simp only [List.cons.injEq, V.lst.injEq, true_and, and_true] at h3
    subst h3
    obtain ⟨zi, zv, hi, hzv', _, _, _, hzc, _⟩ := zeroV_ok (w := w) (S := S) (g := g) (h := h) hzv
    have hik : MapKept.IsKey .string (.string b) := trivial
    have hck := fun em => MapKept.run_checkKey (w := w) hku hik em 9999
    have hg := MapKept.run_getObj_map (P := P) h2
    have hzr := run_zeroValue (P := P) (w := w) hi hzv'
    rcases find_ok b (mapR_iff.1 h4) 0 with ⟨f1, f2, _⟩ | ⟨j, e, k', m', f0, f1, f2, f3, f4, _⟩
    · have hf := MapKept.run_findKey (w := w) hku f1
      have hzv2 : zv = .int i n0 := hzc.inv_int
      refine does_pure H (cv := .tuple #[.int i n0, .bool false]) ?_ ?_
      · simp only [execOp, ho, em, ek]
        simp [Instr.lookup, run_underlying' hu, hg, hck, hf, hzr, Result.andThen, hzv2]
      · rw [f2]
        refine .rd _ _ (.tup _ _ rfl fun i x c hx hc => ?_)
        match i with
        | 0 => simp at hx hc; subst hx hc; exact .int _ _
        | 1 => simp at hx hc; subst hx hc; exact .bool _
        | i + 2 => simp at hx
    · have hf := MapKept.run_findKey (w := w) hku f3
      refine does_pure H (cv := .tuple #[.int k' m', .bool true]) ?_ ?_
      · simp only [execOp, ho, em, ek]
        simp [Instr.lookup, run_underlying' hu, hg, hck, hf, Result.andThen, f2]
      · rw [f4]
        refine .rd _ _ (.tup _ _ rfl fun i x c hx hc => ?_)
        match i with
        | 0 => simp at hx hc; subst hx hc; exact .int _ _
        | 1 => simp at hx hc; subst hx hc; exact .bool _
        | i + 2 => simp at hx
  · cases hv
theorem MapR.push {l : List V} {es : Array MapEntry} (h : MapR l es) {s : ByteArray} {k : IntKind} {m : Int} {b : Nat} : MapR (l ++ [.agg [.str s.data.toList, .int k m]]) (es.push { key := .string s, val := .int k m, born := b }) := by
  obtain ⟨h1, h2⟩ := h
  refine ⟨by simp [h1], fun i x e hx he => ?_⟩
  rw [Array.getElem?_push] at he
  rw [List.getElem?_append] at hx
  split at he
  · rename_i hi
    rw [if_neg (by omega), hi, ← h1] at hx
    simp at hx
    cases he
    subst hx
    exact ⟨s, m, k, rfl, rfl, rfl⟩
  · rename_i hi
    have hlt : i < es.size := (Array.getElem?_eq_some_iff.1 he).1
    rw [if_pos (by omega)] at hx
    exact h2 i x e hx he
theorem MapR.set {l : List V} {es : Array MapEntry} (h : MapR l es) {i : Nat} {s : ByteArray} {k : IntKind} {m : Int} (f : MapEntry → MapEntry) (hf : ∀ e, es[i]? = some e → (f e).key = .string s ∧ (f e).val = .int k m) :
    MapR (l.set i (.agg [.str s.data.toList, .int k m])) (es.modify i f) := by
  obtain ⟨h1, h2⟩ := h
  refine ⟨by simp [h1], fun j x e hx he => ?_⟩
  rw [Array.getElem?_modify] at he
  rw [List.getElem?_set] at hx
  by_cases hij : i = j
  · subst hij
    simp only [if_true] at he hx
    cases he0 : es[i]? with
    | none => rw [he0] at he; cases he
    | some e0 =>
      rw [he0] at he
      cases he
      split at hx
      · cases hx
        exact ⟨s, m, k, rfl, (hf e0 he0).1, (hf e0 he0).2⟩
      · cases hx
  · rw [if_neg hij] at he hx
    exact h2 j x e hx he
theorem op_mapUpdate (H : HOk w0 O w S g h U) {t : TypeId} {x k y : Operand} {m kv v : V} {us : List (Nat × Option Blk)} (ho : o.op = .mapUpdate t x k y) (hm : VR w S g h m (a.eval x)) (hk : VR w S g h kv (a.eval k)) (hy : VR w S g h v (a.eval y))
    (hv : mapPutV P h t m kv v = some us) : Does P w0 O w S g h U a n o .undef us := by
  unfold mapPutV at hv
  split at hv
  · rename_i z id l s i q hz hma
    cases hv
    obtain ⟨rfl, hb⟩ := mapAt_some hma
    obtain ⟨kt, et, i0, n0, hu, hku, hzv, rfl⟩ := mapT_some hz
    obtain ⟨ad, hbase, em⟩ := hm.inv_map hb (H.notDead hb)
    obtain ⟨b, ek, rfl⟩ := inv_str hk
    have ey := hy.inv_int
    obtain ⟨ad', es, clk, l0, h1, h2, h3, h4, h5⟩ := H.blk id _ hb
    rw [hbase] at h1; cases h1
    simp only [List.cons.injEq, V.lst.injEq, true_and, and_true] at h3
    subst h3
    have hik : MapKept.IsKey .string (.string b) := trivial
    have hck := fun em => MapKept.run_checkKey (w := w) hku hik em 9999
    have hg := MapKept.run_getObj_map (P := P) h2
    have only : ∀ o', Only w { w with heap := w.heap.setIfInBounds ad.block o' } ad.block := fun o' => ⟨rfl, rfl, rfl, by simp, fun k hk => (MapKept.heap_set (o' := o') h2).2 k hk⟩
    rcases find_ok b (mapR_iff.1 h4) 0 with ⟨f1, _, f2⟩ | ⟨j, e, k', m', f0, fk, f2, f3, _, f4⟩
    · have hf := MapKept.run_findKey (w := w) hku f1
      obtain ⟨H', tr⟩ := H.setMap (c' := clk + 1) (l' := l ++ [.agg [.str b.data.toList, .int i q]]) hb hbase (only _) (MapKept.heap_set h2).1 (h4.push (b := clk))
      rw [f2]
      refine ⟨Go.undef, _, g, .inr ⟨?_, rfl⟩, H'.weak fun _ hk => .inl hk, tr, .undef _⟩
      simp only [execOp, ho, em, ek, ey]
      simp [Instr.mapUpdate, run_underlying' hu, hg, hck, hf, MapKept.run_setObj_map _ h2, Result.andThen]
    · have hf := MapKept.run_findKey (w := w) hku f3
      have hj : es[j]? = some e := by simpa using f0
      obtain ⟨H', tr⟩ := H.setMap (c' := clk) (l' := l.set j (.agg [.str b.data.toList, .int i q])) hb hbase (only _) (MapKept.heap_set h2).1 (h4.set (i := j) (fun e => { e with key := .string b, val := .int i q }) (fun e _ => ⟨rfl, rfl⟩))
      rw [f4]
      refine ⟨Go.undef, _, g, .inr ⟨?_, rfl⟩, H'.weak fun _ hk => .inl hk, tr, .undef _⟩
      simp only [execOp, ho, em, ek, ey]
      simp [Instr.mapUpdate, run_underlying' hu, hg, hck, hf, hj, fk, MapKept.run_keyThatStays hik, MapKept.run_setObj_map _ h2, Result.andThen]
  · cases hv
end
end Go.VM

/- An append in place: a part of a local array is laid over with other elements. No condition. -/
set_option linter.unusedVariables false
set_option linter.unusedSimpArgs false
namespace Go.VM
open Go
section
variable {P : Program} {w0 w : World} {O S : Nat → Prop} {g : G} {h : Heap} {U : Nat → Prop}
theorem layB_nil (els : List V) (lo : Nat) : layB els lo [] = els := by simp [layB]
theorem layB_len {els : List V} {lo : Nat} {b : List V} (h : lo + b.length ≤ els.length) : (layB els lo b).length = els.length := by simp [layB]; omega
theorem layB_succ {els b : List V} {lo m : Nat} (h : lo + b.length ≤ els.length) (hm : m < b.length) : (layB els lo (b.take m)).set (lo + m) b[m] = layB els lo (b.take (m + 1)) := by
  apply List.ext_getElem?
  intro i
  have e1 : (b.take m).length = m := by simp; omega
  have e2 : (b.take (m + 1)).length = m + 1 := by simp; omega
  have hl : (layB els lo (b.take m)).length = els.length := layB_len (by omega)
  rw [List.getElem?_set, hl]
  simp only [layB, e1, e2, List.getElem?_append, List.length_append, List.length_take, List.getElem?_take, List.getElem?_drop]
  have hmin : min lo els.length = lo := by omega
  have hmin1 : min m b.length = m := by omega
  have hmin2 : min (m + 1) b.length = m + 1 := by omega
  simp only [hmin, hmin1, hmin2]
  by_cases hi : lo + m = i
  · subst hi
    have : lo + m - lo = m := by omega
    simp [show ¬ lo + m < lo by omega, show lo + m < els.length by omega, this, hm, List.getElem?_eq_getElem hm]
  · simp only [hi, if_false]
    repeat' split
    all_goals first | rfl | omega | (congr 1; omega)
theorem OW.flat_irrel {y : V} {c : Value} {N : Nat → Prop} (x : OW w y c N) (hf : y.flatC = true) (w' : World) : OW w' y c (fun _ => False) := by
  cases x with
  | int k n => exact .int k n
  | bool b => exact .bool b
  | str s l h => exact .str s l h
  | raw a n c => exact .raw a n c
  | _ => simp [V.flatC] at hf
theorem setList (H : HOk w0 O w S g h U) {id sz lo : Nat} {els b : List V} {ad : Addr} {news : Array Value} (hb : h id = some ⟨.arr, sz, els⟩) (hbase : g.base id = some ad)
    (hf : flatL b = true) (hbs : ∀ x ∈ b, x.cells.length = sz) (hns : news.size = b.length * sz)
    (hc : ∀ (i : Nat) x (j : Nat) y, b[i]? = some x → x.cells[j]? = some y → ∃ c, news[i * sz + j]? = some c ∧ OW w y c (fun _ => False)) (h0 : 0 < sz) (hfit : lo + b.length ≤ els.length) : ∀ m, m ≤ b.length →
    ∃ w' g', (storeCells ⟨ad.block, ad.off + lo * sz, none⟩ (news.toList.take (m * sz))).run P w = .ok () w' ∧ HOk w0 O w' S g' (updH h id (some ⟨.arr, sz, layB els lo (b.take m)⟩)) U ∧
      Tr w S g h w' S g' (updH h id (some ⟨.arr, sz, layB els lo (b.take m)⟩))
  | 0, hm => by
    have e : updH h id (some ⟨.arr, sz, layB els lo (b.take 0)⟩) = h := by
      funext k; simp only [updH, List.take_zero, layB_nil]; split
      · rename_i hk; rw [hk, hb]
      · rfl
    rw [e]
    exact ⟨w, g, by simp [storeCells], H, Tr.refl _ _ _ _⟩
  | m + 1, hm => by
    obtain ⟨w1, g1, hr, H1, tr1⟩ := setList H hb hbase hf hbs hns hc h0 hfit m (by omega)
    have e1 : (b.take m).length = m := by simp; omega
    have hb1 : updH h id (some ⟨.arr, sz, layB els lo (b.take m)⟩) id = some ⟨.arr, sz, layB els lo (b.take m)⟩ := by simp [updH]
    have hbase1 := base_of_tr H H1 tr1 hb hbase (by omega) hb1
    have hll : (layB els lo (b.take m)).length = els.length := layB_len (by omega)
    have hmb : m < b.length := hm
    have hbx : b[m] ∈ b := List.getElem_mem _
    have hxs := hbs _ hbx
    have hxf : ∀ y ∈ (b[m]).cells, y.flatC = true := by
      intro y hy
      obtain ⟨j, hj, rfl⟩ := List.mem_iff_getElem.1 hy
      exact flat_cells ((List.all_eq_true.1 hf) _ hbx) (List.getElem?_eq_getElem hj)
    have hmul : m * sz + sz ≤ b.length * sz := by rw [← Nat.succ_mul]; exact Nat.mul_le_mul_right _ hm
    have hchunk : ∀ j, j < sz → (news.extract (m * sz) (m * sz + sz))[j]? = news[m * sz + j]? := by
      intro j hj
      rw [Array.getElem?_extract]
      rw [if_pos (by omega)]
    have hcs : (news.extract (m * sz) (m * sz + sz)).size = sz := by simp; omega
    have hcell : ∀ (j : Nat) y c, (b[m]).cells[j]? = some y → (news.extract (m * sz) (m * sz + sz))[j]? = some c → OW w1 y c (fun _ => False) := by
      intro j y c hy hcc
      have hj := (List.getElem?_eq_some_iff.1 hy).1
      obtain ⟨c', hc1, hc2⟩ := hc m _ j y (List.getElem?_eq_getElem hmb) hy
      rw [hchunk j (by omega), hc1] at hcc
      cases hcc
      exact hc2.flat_irrel (hxf y (List.mem_of_getElem? hy)) w1
    obtain ⟨w2, g2, hr2, H2, tr2⟩ := H1.setRow (P := P) (i := lo + m) (j0 := 0) (new := b[m]) (vs := news.extract (m * sz) (m * sz + sz)) (ids := []) (old := (layB els lo (b.take m))[lo + m]'(by omega)) hb1 hbase1 (List.getElem?_eq_getElem (by omega)) List.nodup_nil (by simp) (by simp) hxs
      (fun y hy => flatC_ok (hxf y hy)) (by omega)
      (by
        intro u hu
        obtain ⟨j, hj, rfl⟩ := List.mem_iff_getElem.1 hu
        have hj' : j < (news.extract (m * sz) (m * sz + sz)).size := by rw [← Array.length_toList]; exact hj
        have hjz : j < (b[m]).cells.length := by omega
        have ho := hcell j _ _ (List.getElem?_eq_getElem hjz) (Array.getElem?_eq_getElem hj')
        have := ho.one (flatC_ok (hxf _ (List.getElem_mem _)))
        simpa using this) (M := fun _ _ => False)
      (by
        intro j y c _ hj hy hcc
        rw [Nat.sub_zero] at hcc
        exact hcell j y c hy hcc)
      (by intro j _ hj k hk; exact hk.elim) (by intro j j' k _ hj _ hj' hk; exact hk.elim)
      (by
        intro j hj
        have hold : ((layB els lo (b.take m))[lo + m]'(by omega)).cells.length = sz := elsOf_flat H1 hb1 _ (List.getElem_mem _)
        rw [List.getElem?_eq_none (by omega), List.getElem?_eq_none (by omega)])
    have eheap : updsH (updH h id (some ⟨.arr, sz, layB els lo (b.take m)⟩)) (gone [] ++ [(id, some ⟨.arr, sz, (layB els lo (b.take m)).set (lo + m) b[m]⟩)]) = updH h id (some ⟨.arr, sz, layB els lo (b.take (m + 1))⟩) := by
      rw [layB_succ (by omega) hmb]
      funext k
      simp only [gone, List.map_nil, List.nil_append, updsH, updH]
      split <;> rfl
    rw [eheap] at H2 tr2
    refine ⟨w2, g2, ?_, H2, tr1.trans tr2⟩
    have hsplit : news.toList.take ((m + 1) * sz) = news.toList.take (m * sz) ++ (news.extract (m * sz) (m * sz + sz)).toList := by
      rw [Array.toList_extract, List.extract_eq_take_drop, Nat.succ_mul, List.take_add]
      congr 2
      omega
    rw [hsplit, run_storeCells_append _ _ _ 0 w w1 hr, Nat.zero_add]
    have hlen : (news.toList.take (m * sz)).length = m * sz := by simp; omega
    rw [hlen]
    have hs := storeCells_shift ad.block (ad.off + lo * sz) (m * sz) (news.extract (m * sz) (m * sz + sz)).toList 0
    rw [Nat.add_zero] at hs
    rw [hs]
    have ea : ad.off + lo * sz + m * sz = ad.off + ((lo + m) * sz + 0) := by rw [Nat.add_mul]; omega
    rw [ea]
    exact hr2
theorem appendIn_core (H : HOk w0 O w S g h U) {tys : Array TypeId} {ty t el : TypeId} {cs cx : Value} {id lo len sz : Nat} {els lb : List V} (ht : tys[0]? = some t) (hp : plainSrc P tys = true) (hu : P.underlying t = some (.slice el))
    (hs : VR w S g h (.win id lo len) cs) (hb : h id = some ⟨.arr, sz, els⟩) (hlo : lo < els.length) (hfit : lo + len + lb.length ≤ els.length) (hf : flatL lb = true) (hsz : sz = P.cellsOf el) (h0 : 0 < sz) (hz : zeroFits P el sz = true)
    (hby : (len + lb.length) * P.bytesOf el ≤ 140737488355328) (hm : len + lb.length ≤ 9223372036854775807) (hsrc : SrcOk P w g h [] sz lb cx) :
    ∃ cv w' g', (Builtin.append_ tys ty #[cs, cx]).run P w = .ok cv w' ∧ HOk w0 O w' S g' (updsH h [(id, some ⟨.arr, sz, layB els (lo + len) lb⟩)]) U ∧
      Tr w S g h w' S g' (updsH h [(id, some ⟨.arr, sz, layB els (lo + len) lb⟩)]) ∧ VR w' S g' (updsH h [(id, some ⟨.arr, sz, layB els (lo + len) lb⟩)]) (.win id lo (len + lb.length)) cv := by
  obtain ⟨hlen, news, r1, r2, hn, hbsz, hbok, Nb, hbc, hbN, hbdis⟩ := hsrc
  obtain ⟨z, hzv, hzl⟩ : ∃ z, zeroV P el = some z ∧ z.cells.length = sz := by
    unfold zeroFits at hz
    split at hz
    · rename_i z hz'; exact ⟨z, hz', by simpa using hz⟩
    · cases hz
  obtain ⟨_, ev⟩ := hs.inv_win hb (H.notDead hb)
  have hcle := (H.blk id _ hb).1.len_le.1
  rcases ev with ⟨_, hcz, _⟩ | ⟨ad, cp, hbase, hcp, hlc, rfl⟩
  · omega
  have hfl : ∀ (i : Nat) x (j : Nat) y, lb[i]? = some x → x.cells[j]? = some y → ∃ c, news[i * sz + j]? = some c ∧ OW w y c (fun _ => False) := by
    intro i x j y hx hy
    obtain ⟨c, hc, ho⟩ := hbc i x j y hx hy
    exact ⟨c, hc, ho.flat_irrel (flat_cells ((List.all_eq_true.1 hf) _ (List.mem_of_getElem? hx)) hy) w⟩
  obtain ⟨w', g', hr, H', tr⟩ := setList (P := P) (lo := lo + len) H hb hbase hf hbsz hn hfl h0 hfit lb.length (Nat.le_refl _)
  rw [List.take_length] at H' tr
  have eh : updsH h [(id, some ⟨.arr, sz, layB els (lo + len) lb⟩)] = updH h id (some ⟨.arr, sz, layB els (lo + len) lb⟩) := rfl
  rw [eh]
  have hcle' : els.length ≤ g.cap id := hcle
  have hw : VR w S g h (.win id lo (len + lb.length)) (.slice (some ⟨ad.block, ad.off + lo * sz, none⟩) (len + lb.length) cp) := .win id lo _ _ cp _ els ad hb rfl hbase hcp (by omega)
  refine ⟨_, w', g', ?_, H', tr, tr _ _ hw⟩
  have := (run_append (P := P) (w := w) (ty := ty) (ba := some ⟨ad.block, ad.off + lo * sz, none⟩) (sLen := len) (sCap := cp) ht hp hu hsz h0 hzv hzl hlen r1 r2 hby hm).1 (by omega)
  rw [this]
  have hn' : news.toList.take (lb.length * sz) = news.toList := List.take_of_length_le (by simp [hn])
  rw [hn'] at hr
  have ea : (⟨ad.block, ad.off + lo * sz, none⟩ : Addr).add (len * sz) = ⟨ad.block, ad.off + (lo + len) * sz, none⟩ := by rw [add_mk, Nat.add_mul, Nat.add_assoc]
  simp only [ea, hr, Result.andThen_ok]
theorem append_ok {n : Nat} (H : HOk w0 O w S g h U) {tys : Array TypeId} {ty t : TypeId} {s x v : V} {us : List (Nat × Option Blk)} {cs cx : Value} (ht : tys[0]? = some t) (hp : plainSrc P tys = true)
    (hs : VR w S g h s cs) (hx : VR w S g h x cx) (hv : appendV P h n t s x = some (v, us)) (hU : ∀ i, n ≤ i → i < n + stride → ¬ U i) :
    ∃ cv w' g', (Builtin.append_ tys ty #[cs, cx]).run P w = .ok cv w' ∧ HOk w0 O w' S g' (updsH h us) (fun k => U k ∨ (n ≤ k ∧ k < n + stride)) ∧
      Tr w S g h w' S g' (updsH h us) ∧ VR w' S g' (updsH h us) v cv := by
  have hUn : ¬ U n := hU n (Nat.le_refl _) (by simp [stride])
  have hweak : ∀ k, (U k ∨ k = n) → U k ∨ (n ≤ k ∧ k < n + stride) := by
    rintro k (hk | rfl)
    · exact .inl hk
    · exact .inr ⟨Nat.le_refl _, by simp [stride]⟩
  unfold appendV at hv
  split at hv
  · rename_i el hu
    split at hv
    · rename_i sz la sz' lb hls hea hsrc
      split at hv
      · rename_i hc
        obtain ⟨hsz, hszz, h0, hz, hb, hm⟩ := hc
        subst hszz
        have hnS : n ∉ idsC s := by
          intro hn
          cases s <;> simp [idsC] at hn
          · rename_i id
            subst hn
            simp only [elsOf] at hea
            split at hea
            · rename_i hb'; exact hUn (H.used n (.inl (by simp [hb'])))
            · cases hea
          · rename_i id lo len
            subst hn
            simp only [elsOf] at hea
            split at hea
            · rename_i hb'; exact hUn (H.used n (.inl (by simp [hb'])))
            · cases hea
          · simp [elsOf] at hea
        have hsoF : flatL lb = true → SrcOk P w g h [] sz' lb cx := by
          intro hf
          cases x with
          | str l =>
            simp only [srcOf] at hsrc
            split at hsrc
            · cases hsrc
              obtain ⟨b, rfl, hb'⟩ := hx.inv_str
              exact src_str hb'
            · cases hsrc
          | _ => simp only [srcOf] at hsrc; exact src_flat H h0 hsrc hf hx
        split at hv
        · rename_i r hin
          cases hv
          unfold appendIn at hin
          split at hin
          · rename_i id lo len
            split at hin
            · rename_i sz2 els hbb
              split at hin
              · rename_i hcc
                obtain ⟨k1, k2, k3⟩ := hcc
                simp only [Option.some.injEq, Prod.mk.injEq] at hin
                obtain ⟨rfl, rfl⟩ := hin
                simp only [elsOf, hbb] at hea
                split at hea
                · rename_i hle
                  simp only [Option.some.injEq, Prod.mk.injEq] at hea
                  obtain ⟨rfl, rfl⟩ := hea
                  have hll : ((els.drop lo).take len).length = len := by simp; omega
                  rw [hll] at hb hm
                  obtain ⟨cv, w', g', hr, H', tr, hvr⟩ := appendIn_core H (ty := ty) ht hp hu hs hbb k1 k2 k3 hsz h0 hz hb hm (hsoF k3)
                  exact ⟨cv, w', g', hr, H'.weak (fun k hk => .inl hk), tr, hvr⟩
                · cases hea
              · cases hin
            · cases hin
          · cases hin
        split at hv
        rotate_left
        · cases hv
        rename_i hwin
        split at hv
        · rename_i hf
          cases hv
          have hso : SrcOk P w g h [] sz' lb cx := by
            cases x with
            | str l =>
              simp only [srcOf] at hsrc
              split at hsrc
              · cases hsrc
                obtain ⟨b, rfl, hb'⟩ := hx.inv_str
                exact src_str hb'
              · cases hsrc
            | _ => simp only [srcOf] at hsrc; exact src_flat H h0 hsrc hf hx
          obtain ⟨cv, w', g', hr, H', tr, hvr⟩ := append_core H (n := n) (ty := ty) ht hp hu hs hls hea hsz h0 hz hwin hb hm hso (by simp) hUn (by simpa using hnS)
          exact ⟨cv, w', g', hr, H'.weak hweak, tr, hvr⟩
        · unfold appendOwn at hv
          split at hv
          · rename_i id
            split at hv
            · cases hv
            · rename_i hni
              cases hv
              simp only [srcOf, elsOf] at hsrc
              split at hsrc
              · rename_i sz' els hb'
                cases hsrc
                have hso := src_own (P := P) H h0 hb' hx
                obtain ⟨cv, w', g', hr, H', tr, hvr⟩ := append_core H (n := n) (ty := ty) ht hp hu hs hls hea hsz h0 hz hwin hb hm hso (by intro i hi; simp at hi; subst hi; simpa using hni) hUn
                  (by
                    simp only [List.mem_append, List.mem_singleton, not_or]
                    exact ⟨fun e => hUn (H.used n (.inl (by rw [e, hb']; simp))), hnS⟩)
                exact ⟨cv, w', g', hr, H'.weak hweak, tr, hvr⟩
              · cases hsrc
          · cases hv
      · cases hv
    · cases hv
  · cases hv

end
end Go.VM

/- Bytes of a text, a text of bytes. -/
set_option linter.unusedVariables false
set_option linter.unusedSimpArgs false
namespace Go.VM
open Go

section
variable {P : Program} {w0 w : World} {O S : Nat → Prop} {g : G} {h : Heap} {U : Nat → Prop} {a : Act} {e : Env} {n : Nat} {o : Oper}

theorem isU8_eq {t : TypeId} (hb : isU8 P t = true) : P.underlying t = some (.int .u8) := by
  unfold isU8 at hb
  split at hb
  · assumption
  · cases hb

theorem op_bytes (H : HOk w0 O w S g h U) {s d el : TypeId} {x : Operand} {l : List UInt8} (ho : o.op = .convert s d x) (hs : P.underlying s = some .string) (hd : P.underlying d = some (.slice el)) (he : isU8 P el = true)
    (hx : VR w S g h (.str l) (a.eval x)) (hm : l.length ≤ 9223372036854775807) (hU : ∀ i, n ≤ i → i < n + stride → ¬ U i) : Does P w0 O w S g h U a n o (.own n) [(n, some ⟨.arr, 1, bytesV l⟩)] := by
  obtain ⟨b, e, hl⟩ := hx.inv_str
  have hrun := run_bytes_of_string (P := P) w s d el b hs hd (isU8_eq he)
  have hsz : b.size = l.length := by rw [← hl, Array.length_toList]; rfl
  have hge := grownCap_ge w b.size 0 el
  have hle := grownCap_le_maxLen w b.size 0 el (by unfold maxLen; omega)
  obtain ⟨H1, t1⟩ := H.drew (w.drawn + 1)
  have R0 : RowInv w.drew g h 1 (bytesV l) ((l.map fun c => Value.int .u8 (c.toNat : Int)).toArray) [] := by
    refine ⟨by simp [bytesV], by simp [bytesV, V.cells], by simp [bytesV, V.cells, okCell], by simp, fun _ _ _ => False, ?_, fun _ _ _ _ _ h => h.elim, fun _ _ _ _ _ _ _ _ _ _ h => h.elim⟩
    intro i x j y hx hy
    simp only [bytesV, List.getElem?_map, Option.map_eq_some_iff] at hx
    obtain ⟨c, hc, rfl⟩ := hx
    cases j with
    | zero =>
      simp [V.cells] at hy
      subst hy
      exact ⟨.int .u8 c.toNat, by simp [hc], .int _ _⟩
    | succ j => simp [V.cells] at hy
  have hrow : bytesRow b (grownCap w b.size 0 el) = ((l.map fun c => Value.int .u8 (c.toNat : Int)).toArray) ++ Array.replicate (grownCap w b.size 0 el - b.size) (.int .u8 0) := by
    unfold bytesRow
    rw [← hl]
    apply Array.ext'
    simp
  obtain ⟨C, hC⟩ : ∃ C, C = (l.map fun c => Value.int .u8 (c.toNat : Int)).toArray ++ Array.replicate (grownCap w b.size 0 el - b.size) (Value.int .u8 0) := ⟨_, rfl⟩
  rw [hrow, ← hC] at hrun
  obtain ⟨g', H', tr, hvr⟩ := HOk.newRow (n := n) (w := w.drew) H1 el (cap := grownCap w b.size 0 el) (rest := Array.replicate (grownCap w b.size 0 el - b.size) (.int .u8 0)) R0 (by simp) (hU n (Nat.le_refl _) (by simp [stride])) (by simp [bytesV]; omega) hle
    (by simp; omega) (fr := (C.size, C.size + 1)) ⟨fun o ho => by
      rw [← hC] at ho
      show ¬ (C.size ≤ o ∧ o < C.size + 1)
      omega, fun h => (h rfl).elim⟩
  rw [← hC] at H' tr hvr
  simp only [gone, List.map_nil, List.nil_append] at H' tr hvr
  refine ⟨_, _, g', .inl ?_, H'.weak ?_, t1.trans tr, hvr⟩
  · have : (bytesV l).length = b.size := by simp [bytesV, hsz]
    simp only [execOp, ho, e, Sem.run_bind, hrun, this]
    rfl
  · rintro k (hk | rfl)
    · exact .inl hk
    · exact .inr ⟨Nat.le_refl _, by simp [stride]⟩

theorem unBytes_ok : ∀ {l : List V} {b : List UInt8}, unBytes l = some b → l = bytesV b
  | [], b, h => by simp only [unBytes, Option.some.injEq] at h; subst h; rfl
  | x :: l, b, h => by
    simp only [unBytes, Option.bind_eq_some_iff, Option.map_eq_some_iff] at h
    obtain ⟨c, hc, b', hb', rfl⟩ := h
    rw [unBytes_ok hb']
    unfold unByte at hc
    split at hc
    · rename_i m
      split at hc
      · rename_i hm
        cases hc
        have : ((UInt8.ofNat m.toNat).toNat : Int) = m := by
          rw [UInt8.toNat_ofNat']
          omega
        simp only [bytesV, List.map_cons]
        rw [this]
      · cases hc
    · cases hc

theorem op_text (H : HOk w0 O w S g h U) {s d el : TypeId} {x : Operand} {vx : V} {l : List V} {b : List UInt8} (ho : o.op = .convert s d x) (hs : P.underlying s = some (.slice el)) (hd : P.underlying d = some .string) (he : isU8 P el = true)
    (hx : VR w S g h vx (a.eval x)) (hel : elsOf h vx = some (1, l)) (hb : unBytes l = some b) : Does P w0 O w S g h U a n o (.str b) [] := by
  have hlb := unBytes_ok hb
  subst hlb
  obtain ⟨ba, cp, f, e, hsz, hc, hr⟩ := src_cells H hel hx
  have hlen : (bytesV b).length = b.length := by simp [bytesV]
  rw [hlen] at e hc
  have hcell : ∀ i (hi : i < b.length), ∃ ad, ba = some ad ∧ ad.spot = none ∧ w.cell? ⟨ad.block, ad.off + i, none⟩ = some (.int .u8 (b[i].toNat : Int)) := by
    intro i hi
    obtain ⟨ad, h1, h2, h3⟩ := hc i 0 hi (by omega)
    have hg : (bytesV b)[i]? = some (.int .u8 (b[i].toNat : Int)) := by simp [bytesV, hi]
    have := hr i _ 0 _ hg rfl rfl
    refine ⟨ad, h1, h2, ?_⟩
    have h4 : f i 0 = .int .u8 (b[i].toNat : Int) := by
      generalize f i 0 = c at this
      cases this; rfl
    rw [← h4, ← h3]
    simp
  refine does_pure H (cv := .string ⟨b.toArray⟩) ?_ (.rd _ _ (.str _ _ (by simp)))
  simp only [execOp, ho, e]
  cases ba with
  | none =>
    have : b = [] := by
      cases b with
      | nil => rfl
      | cons c b => obtain ⟨ad, h1, _⟩ := hcell 0 (by simp); cases h1
    subst this
    rw [Sem.run_bind, run_convert_bytes_string (P := P) w s d el none _ cp hs (isU8_eq he) hd]
    simp [Conv.bytesToString]
    rfl
  | some ad =>
    rw [Sem.run_bind, run_convert_bytes_back (P := P) w s d el ad cp b hs (isU8_eq he) hd (fun j hj => by
      obtain ⟨ad', h1, h2, h3⟩ := hcell j hj
      cases h1
      rw [add_none h2]; exact h3)]
    rfl

theorem convV_ok (H : HOk w0 O w S g h U) {s d : TypeId} {x : Operand} {vx v : V} {us : List (Nat × Option Blk)} (ho : o.op = .convert s d x) (hx : VR w S g h vx (a.eval x)) (hv : convV P h n s d vx = some (v, us)) (hU : ∀ i, n ≤ i → i < n + stride → ¬ U i) :
    Does P w0 O w S g h U a n o v us := by
  unfold convV at hv
  split at hv
  · rename_i hs hd
    cases hv
    exact op_convert_int H ho hs hd hx
  · rename_i hs hd
    cases hv
    exact op_convert_str H ho hs hd hx
  · rename_i el l hs hd
    split at hv
    · rename_i hc
      cases hv
      exact op_bytes H ho hs hd hc.1 hx hc.2 hU
    · cases hv
  · skip
    rename_i el hs hd
    split at hv
    · rename_i he
      split at hv
      · rename_i l hel
        simp only [Option.map_eq_some_iff] at hv
        obtain ⟨b, hb, hv⟩ := hv
        simp only [Prod.mk.injEq] at hv
        obtain ⟨rfl, rfl⟩ := hv
        exact op_text H ho hs hd he hx hel hb
      · cases hv
    · cases hv
  · cases hv

end
end Go.VM

