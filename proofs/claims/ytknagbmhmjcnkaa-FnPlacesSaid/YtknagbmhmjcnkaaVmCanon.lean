/- The fixed form of a state: what a loop's round begins with. -/
import Derived.Test.YtknagbmhmjcnkaaVmDraw
set_option linter.unusedVariables false
set_option linter.unusedSimpArgs false
namespace Go.VM
open Go

theorem findIx_ok {x : Nat} : ∀ {l : List Nat} {n j : Nat}, findIx x l n = some j → n ≤ j ∧ l[j - n]? = some x
  | [], n, j, h => by simp [findIx] at h
  | y :: l, n, j, h => by
    simp only [findIx] at h
    split at h
    · rename_i e
      cases h
      subst e
      simp
    · obtain ⟨h1, h2⟩ := findIx_ok h
      refine ⟨by omega, ?_⟩
      have : j - n = (j - (n + 1)) + 1 := by omega
      rw [this]
      simpa using h2

theorem addNew_nodup : ∀ (l acc : List Nat), acc.Nodup → (addNew acc l).Nodup
  | [], acc, h => h
  | x :: l, acc, h => by
    simp only [addNew]
    refine addNew_nodup l _ ?_
    split
    · exact h
    · rename_i hc
      rw [List.nodup_append]
      refine ⟨h, by simp, ?_⟩
      rintro a ha b hb rfl
      simp only [List.mem_singleton] at hb
      subst hb
      simp only [List.contains_iff_mem] at hc
      exact hc ha

theorem roots_nodup (keep : List Nat) (s : St) : (roots keep s).Nodup := addNew_nodup _ _ (addNew_nodup _ _ .nil)

theorem hOf_append {l l' : List (Nat × Blk)} {t : Nat} (h : ∀ p ∈ l, p.1 ≠ t) : hOf (l ++ l') t = hOf l' t := by
  induction l with
  | nil => rfl
  | cons p l ih =>
    obtain ⟨k, b⟩ := p
    simp only [List.cons_append, hOf]
    rw [if_neg (fun e => h (k, b) (by simp) e.symm)]
    exact ih fun p hp => h p (List.mem_cons_of_mem _ hp)

theorem keepH_ge (m : List Nat) (h : Heap) : ∀ (l : List Nat) (n : Nat), ∀ p ∈ keepH m h l n, n ≤ p.1
  | [], n, p, hp => by simp [keepH] at hp
  | i :: l, n, p, hp => by
    simp only [keepH, List.mem_append] at hp
    rcases hp with hp | hp
    · split at hp
      · split at hp
        · simp only [List.mem_singleton] at hp; subst hp; exact Nat.le_refl _
        · simp at hp
      · simp at hp
    · have := keepH_ge m h l (n + 1) p hp; omega
theorem hOf_none {l : List (Nat × Blk)} {t : Nat} (h : ∀ p ∈ l, p.1 ≠ t) : hOf l t = none := by
  have := hOf_append (l' := []) h
  rw [List.append_nil] at this
  exact this

theorem keepH_at (m : List Nat) (h : Heap) : ∀ (l : List Nat) (n t : Nat), hOf (keepH m h l n) (n + t) = (l[t]?).bind fun i => (h i).bind (renB m)
  | [], n, t => by simp [keepH, hOf]
  | i :: l, n, t => by
    simp only [keepH]
    cases t with
    | zero =>
      have htl : hOf (keepH m h l (n + 1)) n = none := hOf_none fun p hp => by have := keepH_ge m h l (n + 1) p hp; omega
      simp only [Nat.add_zero, List.getElem?_cons_zero, Option.bind_some]
      cases hi : h i with
      | none => simpa using htl
      | some b =>
        cases hb : renB m b with
        | none => simpa [hb] using htl
        | some b' => simp [hb, hOf]
    | succ t =>
      rw [hOf_append]
      · have := keepH_at m h l (n + 1) t
        rw [show n + (t + 1) = n + 1 + t by omega, this]
        rfl
      · intro p hp
        split at hp
        · split at hp
          · simp only [List.mem_singleton] at hp; subst hp; simp only; omega
          · simp at hp
        · simp at hp

theorem eOf_keep {m : List Nat} {e : Env} {R : V → Prop} (hu : R .undef) {t : Nat} (hR : R (renV m (e t))) : ∀ (l : List Nat), R (eOf (keepE m e l) t)
  | [] => hu
  | u :: l => by
    simp only [keepE, eOf]
    split
    · rename_i h; subst h; exact hR
    · exact eOf_keep hu hR l

section
variable {w0 w : World} {O S : Nat → Prop} {g : G} {h : Heap} {U : Nat → Prop} {m : List Nat}

def hR (m : List Nat) (h : Heap) : Heap := hOf (keepH m h m 0)
def gR (m : List Nat) (g : G) (h : Heap) : G where
  base j := (m[j]?).bind g.base
  cap j := match m[j]? with | some i => g.cap i | none => 0
  N j := match m[j]? with | some i => g.N i | none => fun _ => False
  dead j := j < m.length ∧ hR m h j = none

theorem hR_eq (j : Nat) : hR m h j = (m[j]?).bind fun i => (h i).bind (renB m) := by
  have := keepH_at m h m 0 j
  simpa [hR] using this

theorem renB_ok {b b' : Blk} (h : renB m b = some b') : b'.kind = b.kind ∧ b'.sz = b.sz ∧ b'.els.length = b.els.length := by
  unfold renB at h
  split at h
  · split at h <;> cases h; exact ⟨rfl, rfl, rfl⟩
  · cases h; exact ⟨rfl, rfl, rfl⟩
  · cases h

theorem renC_ok {y : V} {c : Value} (x : VR w S g h y c) (hdead : ∀ id, g.dead id → h id = none) : VR w S (gR m g h) (hR m h) (renC m y) c := by
  have key : ∀ id j, findIx id m 0 = some j → (gR m g h).dead j ∨ ∃ b b', h id = some b ∧ hR m h j = some b' ∧ b'.kind = b.kind ∧ b'.sz = b.sz ∧ b'.els.length = b.els.length ∧ m[j]? = some id := by
    intro id j hj
    have h1 := (findIx_ok hj).2
    simp only [Nat.sub_zero] at h1
    cases h2 : hR m h j with
    | none => exact .inl ⟨(List.getElem?_eq_some_iff.1 h1).1, h2⟩
    | some b' =>
      right
      have h3 := h2
      rw [hR_eq, h1] at h3
      simp only [Option.bind_some, Option.bind_eq_some_iff] at h3
      obtain ⟨b, hb, hb'⟩ := h3
      obtain ⟨q1, q2, q3⟩ := renB_ok hb'
      exact ⟨b, b', hb, rfl, q1, q2, q3, h1⟩
  cases y with
  | undef => exact .undef _
  | void => rw [VR.inv_void x]; exact .void
  | int k n => rw [x.inv_int]; exact .rd _ _ (.int _ _)
  | bool b => rw [x.inv_bool]; exact .rd _ _ (.bool _)
  | str s => obtain ⟨b, rfl, hb⟩ := x.inv_str; exact .rd _ _ (.str _ _ hb)
  | lst sz l => exact .rd _ _ x.inv_lst
  | nils sz => rw [x.inv_nils]; exact .nils _
  | rptr v => exact .rd _ _ x.inv_rptr
  | agg l => exact .undef _
  | tup l => exact .undef _
  | fn f l => exact .undef _
  | hole =>
    cases x with
    | rd _ _ hr => cases hr with | hole a n c => exact .rd _ _ (.hole a n c)
    | dead _ id hi _ _ => simp [idsC] at hi
  | own id =>
    simp only [renC]
    split
    · rename_i j hj
      rcases key id j hj with hd | ⟨b, b', hb, hb', q1, q2, q3, hm⟩
      · exact .dead _ j (by simp [idsC]) hd _
      · obtain ⟨k, sz, els⟩ := b
        obtain ⟨k', sz', els'⟩ := b'
        obtain ⟨hkb, rfl⟩ := x.inv_own hb (fun hd => by rw [hdead id hd] at hb; cases hb)
        simp only at q1 q2 q3
        subst q1
        have := VR.own (w := w) (S := S) (g := gR m g h) (h := hR m h) j sz' k' els' hb' hkb
        rw [q3] at this
        simpa [gR, hm] using this
    · exact .undef _
  | win id lo len =>
    simp only [renC]
    split
    · rename_i j hj
      rcases key id j hj with hd | ⟨b, b', hb, hb', q1, q2, q3, hm⟩
      · exact .dead _ j (by simp [idsC]) hd _
      · obtain ⟨k, sz, els⟩ := b
        obtain ⟨k', sz', els'⟩ := b'
        obtain ⟨hkb, e⟩ := x.inv_winA hb (fun hd => by rw [hdead id hd] at hb; cases hb)
        simp only at q1 q2 q3
        subst q1 q2
        rcases e with ⟨rfl, hcz, a', rfl, ha⟩ | ⟨ad, cp, hbase, hcp, hlc, rfl⟩
        · exact .win0 _ _ _ k' els' hb' hkb _ (by simpa [gR, hm] using hcz) (fun h0 => by simpa [gR, hm] using ha h0)
        · exact .win j lo len sz' cp k' els' ad hb' hkb (by simpa [gR, hm] using hbase) (by simpa [gR, hm] using hcp) hlc
    · exact .undef _
  | ptr id i f =>
    simp only [renC]
    split
    · rename_i j hj
      rcases key id j hj with hd | ⟨b, b', hb, hb', q1, q2, q3, hm⟩
      · exact .dead _ j (by simp [idsC]) hd _
      · obtain ⟨ad, hbase, hi, rfl⟩ := x.inv_ptr hb (fun hd => by rw [hdead id hd] at hb; cases hb)
        rw [← q2]
        exact .ptr j i f b' ad hb' (by simpa [gR, hm] using hbase) (by rw [q3]; exact hi)
    · exact .undef _

theorem renL_eq (m : List Nat) : ∀ l : List V, renL m l = l.map (renC m)
  | [] => rfl
  | x :: l => by simp [renL, renL_eq m l]
theorem renVL_eq (m : List Nat) : ∀ l : List V, renVL m l = l.map (renV m)
  | [] => rfl
  | x :: l => by simp [renVL, renVL_eq m l]

theorem renV_ok {y : V} {c : Value} (x : VR w S g h y c) (hdead : ∀ id, g.dead id → h id = none) : VR w S (gR m g h) (hR m h) (renV m y) c := by
  have hl : ∀ {l : List V} {cs : Array Value}, l.length = cs.size → (∀ (i : Nat) x c, l[i]? = some x → cs[i]? = some c → VR w S g h x c) →
      (renL m l).length = cs.size ∧ ∀ (i : Nat) x c, (renL m l)[i]? = some x → cs[i]? = some c → VR w S (gR m g h) (hR m h) x c := by
    intro l cs hl hr
    rw [renL_eq]
    refine ⟨by simpa using hl, fun i x c hx hc => ?_⟩
    simp only [List.getElem?_map, Option.map_eq_some_iff] at hx
    obtain ⟨y, hy, rfl⟩ := hx
    exact renC_ok (hr i y c hy hc) hdead
  cases y with
  | agg l => obtain ⟨cs, rfl, h1, h2⟩ := x.inv_agg; obtain ⟨q1, q2⟩ := hl h1 h2; exact .agg _ _ q1 q2
  | tup l => obtain ⟨cs, rfl, h1, h2⟩ := x.inv_tup; obtain ⟨q1, q2⟩ := hl h1 h2; exact .tup _ _ q1 q2
  | fn f l => obtain ⟨cs, rfl, h1, h2⟩ := x.inv_fn; obtain ⟨q1, q2⟩ := hl h1 h2; exact .fn f _ _ q1 q2
  | _ => exact renC_ok x hdead

theorem renV_cells {v : V} (hb : boxableA v = true) (hb' : boxableA (renV m v) = true) : (renV m v).cells.length = v.cells.length ∧ ∀ (j : Nat) y, (renV m v).cells[j]? = some y → ∃ x, v.cells[j]? = some x ∧ (y = renC m x ∨ y = renV m x) := by
  cases v with
  | agg l =>
    simp only [renV, V.cells, renL_eq, List.length_map, List.getElem?_map, Option.map_eq_some_iff, true_and]
    rintro j y ⟨x, hx, rfl⟩
    exact ⟨x, hx, .inl rfl⟩
  | fn f l => exact ⟨rfl, fun j y hy => by cases j with
    | zero => simp [renV, V.cells] at hy; subst hy; exact ⟨_, rfl, .inr rfl⟩
    | succ j => simp [renV, V.cells] at hy⟩
  | tup l => simp [boxableA, okCell] at hb
  | undef => simp [boxableA, okCell] at hb
  | void => simp [boxableA, okCell] at hb
  | own id | win id lo len | ptr id i f =>
    cases hj : findIx id m 0 with
    | some j =>
      refine ⟨by simp [renV, renC, hj, V.cells], fun k y hy => ?_⟩
      cases k with
      | zero => simp [renV, renC, hj, V.cells] at hy; subst hy; exact ⟨_, rfl, .inl (by simp [renC, hj])⟩
      | succ k => simp [renV, renC, hj, V.cells] at hy
    | none => simp [renV, renC, hj, boxableA, okCell] at hb'
  | _ => exact ⟨rfl, fun k y hy => by cases k with
    | zero => simp [renV, renC, V.cells] at hy; subst hy; exact ⟨_, rfl, .inl rfl⟩
    | succ k => simp [renV, renC, V.cells] at hy⟩

theorem hR_ok (H : HOk w0 O w S g h U) (hn : m.Nodup) : HOk w0 O w S (gR m g h) (hR m h) (fun id => id < m.length) := by
  have get : ∀ j b', hR m h j = some b' → ∃ id b, m[j]? = some id ∧ h id = some b ∧ renB m b = some b' := by
    intro j b' hb'
    rw [hR_eq] at hb'
    simp only [Option.bind_eq_some_iff] at hb'
    obtain ⟨id, h1, b, h2, h3⟩ := hb'
    exact ⟨id, b, h1, h2, h3⟩
  refine ⟨?_, ?_, ?_, H.slt, ?_, fun id hd => hd.2, H.fr⟩
  · intro j b' hb'
    obtain ⟨id, b, hm, hb, hren⟩ := get j b' hb'
    have hB := H.blk id b hb
    unfold renB at hren
    split at hren
    · rename_i sz v
      split at hren
      · rename_i hbx
        cases hren
        obtain ⟨ad, cur, e', fr, v'', h1, h2, h3, h4, h5, h6, h7, h8, h9, h10, h11⟩ := hB
        simp only [List.cons.injEq, and_true] at h6
        subst h6
        obtain ⟨q1, q2⟩ := renV_cells (m := m) h9 hbx
        refine ⟨ad, cur, e', fr, renV m v, by simp [gR, hm, h1], h2, h3, h4, h5, rfl, by rw [q1]; exact h7, by rw [q1]; exact h8, hbx, ?_, ?_⟩
        · intro k y c hy hc
          obtain ⟨x, hx, hy'⟩ := q2 k y hy
          have := h10 k x c hx hc
          rcases hy' with rfl | rfl
          · exact renC_ok this H.dead
          · exact renV_ok this H.dead
        · intro k
          simp only [gR, hm]
          exact h11 k
      · cases hren
    · cases hren
      simpa only [BlkOk, gR, hm, Option.bind_some] using hB
    · cases hren
  · intro i j b b' k hi hj hk hk'
    obtain ⟨id, b1, hm, hb, _⟩ := get i b hi
    obtain ⟨id', b2, hm', hb2, _⟩ := get j b' hj
    simp only [gR, hm] at hk
    simp only [gR, hm'] at hk'
    have := H.disj id id' b1 b2 k hb hb2 hk hk'
    subst this
    have h1 := List.getElem?_eq_some_iff.1 hm
    have h2 := List.getElem?_eq_some_iff.1 hm'
    obtain ⟨l1, e1⟩ := h1
    obtain ⟨l2, e2⟩ := h2
    have hp := List.pairwise_iff_getElem.1 hn
    rcases Nat.lt_trichotomy i j with h3 | h3 | h3
    · exact absurd (e1.trans e2.symm) (hp i j l1 l2 h3)
    · exact h3
    · exact absurd (e2.trans e1.symm) (hp j i l2 l1 h3)
  · intro i b k hi hk
    obtain ⟨id, b1, hm, hb, _⟩ := get i b hi
    simp only [gR, hm] at hk
    exact H.own id b1 k hb hk
  · rintro id (hid | hid)
    · obtain ⟨b, hb⟩ := Option.ne_none_iff_exists'.1 hid
      obtain ⟨_, _, hm, _⟩ := get id b hb
      exact (List.getElem?_eq_some_iff.1 hm).1
    · exact hid.1

theorem canon_ok {s : St} {keep : List Nat} {cio : List Value} {a : Act} (hs : Sim w0 O S cio s.env s.heap s.nt s.io (fun id => id < s.next) a w) :
    Sim w0 O S cio (canon keep s).env (canon keep s).heap (canon keep s).nt (canon keep s).io (fun id => id < (canon keep s).next) a w := by
  obtain ⟨⟨g, H, E, I⟩, h2, h3⟩ := hs
  refine ⟨⟨gR (roots keep s) g s.heap, hR_ok H (roots_nodup keep s), fun t => ?_, ?_⟩, h2, h3⟩
  · exact eOf_keep (R := fun v => VR w S (gR (roots keep s) g s.heap) (hR (roots keep s) s.heap) v (a.tmps.getD t Go.undef)) (.undef _) (renV_ok (E t) H.dead) keep
  · simp only [canon, renVL_eq]
    have : ∀ {l : List V} {cs : List Value}, Two (VR w S g s.heap) l cs → Two (VR w S (gR (roots keep s) g s.heap) (hR (roots keep s) s.heap)) (l.map (renV (roots keep s))) cs := by
      intro l cs t
      induction t with
      | nil => exact .nil
      | cons h _ ih => exact .cons (renV_ok h H.dead) ih
    exact this I
end
end Go.VM
