/- Bytes of a text, a text of bytes. -/
import Derived.Test.YtknagbmhmjcnkaaVmStore3
import Derived.Laws.IdiomStrings
set_option linter.unusedVariables false
set_option linter.unusedSimpArgs false
namespace Go.VM
open Go

section
variable {P : Program} {w0 w : World} {O S : Nat → Prop} {g : G} {h : Heap} {U : Nat → Prop} {a : Act} {e : Env} {n : Nat} {o : Oper}

theorem isU8_eq {t : TypeId} (hb : isU8 P t = true) : P.underlying t = some (.int .u8) := by
  unfold isU8 at hb
  split at hb
  · assumption
  · cases hb

theorem op_bytes (H : HOk w0 O w S g h U) {s d el : TypeId} {x : Operand} {l : List UInt8} (ho : o.op = .convert s d x) (hs : P.underlying s = some .string) (hd : P.underlying d = some (.slice el)) (he : isU8 P el = true)
    (hx : VR w S g h (.str l) (a.eval x)) (hm : l.length ≤ 9223372036854775807) (hU : ∀ i, n ≤ i → i < n + stride → ¬ U i) : Does P w0 O w S g h U a n o (.own n) [(n, some ⟨.arr, 1, bytesV l⟩)] := by
  obtain ⟨b, e, hl⟩ := hx.inv_str
  have hrun := run_bytes_of_string (P := P) w s d el b hs hd (isU8_eq he)
  have hsz : b.size = l.length := by rw [← hl, Array.length_toList]; rfl
  have hge := grownCap_ge w b.size 0 el
  have hle := grownCap_le_maxLen w b.size 0 el (by unfold maxLen; omega)
  obtain ⟨H1, t1⟩ := H.drew (w.drawn + 1)
  have R0 : RowInv w.drew g h 1 (bytesV l) ((l.map fun c => Value.int .u8 (c.toNat : Int)).toArray) [] := by
    refine ⟨by simp [bytesV], by simp [bytesV, V.cells], by simp [bytesV, V.cells, okCell], by simp, fun _ _ _ => False, ?_, fun _ _ _ _ _ h => h.elim, fun _ _ _ _ _ _ _ _ _ _ h => h.elim⟩
    intro i x j y hx hy
    simp only [bytesV, List.getElem?_map, Option.map_eq_some_iff] at hx
    obtain ⟨c, hc, rfl⟩ := hx
    cases j with
    | zero =>
      simp [V.cells] at hy
      subst hy
      exact ⟨.int .u8 c.toNat, by simp [hc], .int _ _⟩
    | succ j => simp [V.cells] at hy
  have hrow : bytesRow b (grownCap w b.size 0 el) = ((l.map fun c => Value.int .u8 (c.toNat : Int)).toArray) ++ Array.replicate (grownCap w b.size 0 el - b.size) (.int .u8 0) := by
    unfold bytesRow
    rw [← hl]
    apply Array.ext'
    simp
  obtain ⟨C, hC⟩ : ∃ C, C = (l.map fun c => Value.int .u8 (c.toNat : Int)).toArray ++ Array.replicate (grownCap w b.size 0 el - b.size) (Value.int .u8 0) := ⟨_, rfl⟩
  rw [hrow, ← hC] at hrun
  obtain ⟨g', H', tr, hvr⟩ := HOk.newRow (n := n) (w := w.drew) H1 el (cap := grownCap w b.size 0 el) (rest := Array.replicate (grownCap w b.size 0 el - b.size) (.int .u8 0)) R0 (by simp) (hU n (Nat.le_refl _) (by simp [stride])) (by simp [bytesV]; omega) hle
    (by simp; omega) (fr := (C.size, C.size + 1)) (fun o ho => by
      rw [← hC] at ho
      show ¬ (C.size ≤ o ∧ o < C.size + 1)
      omega)
  rw [← hC] at H' tr hvr
  simp only [gone, List.map_nil, List.nil_append] at H' tr hvr
  refine ⟨_, _, g', .inl ?_, H'.weak ?_, t1.trans tr, hvr⟩
  · have : (bytesV l).length = b.size := by simp [bytesV, hsz]
    simp only [execOp, ho, e, Sem.run_bind, hrun, this]
    rfl
  · rintro k (hk | rfl)
    · exact .inl hk
    · exact .inr ⟨Nat.le_refl _, by simp [stride]⟩

theorem unBytes_ok : ∀ {l : List V} {b : List UInt8}, unBytes l = some b → l = bytesV b
  | [], b, h => by simp only [unBytes, Option.some.injEq] at h; subst h; rfl
  | x :: l, b, h => by
    simp only [unBytes, Option.bind_eq_some_iff, Option.map_eq_some_iff] at h
    obtain ⟨c, hc, b', hb', rfl⟩ := h
    rw [unBytes_ok hb']
    unfold unByte at hc
    split at hc
    · rename_i m
      split at hc
      · rename_i hm
        cases hc
        have : ((UInt8.ofNat m.toNat).toNat : Int) = m := by
          rw [UInt8.toNat_ofNat']
          omega
        simp only [bytesV, List.map_cons]
        rw [this]
      · cases hc
    · cases hc

theorem op_text (H : HOk w0 O w S g h U) {s d el : TypeId} {x : Operand} {vx : V} {l : List V} {b : List UInt8} (ho : o.op = .convert s d x) (hs : P.underlying s = some (.slice el)) (hd : P.underlying d = some .string) (he : isU8 P el = true)
    (hx : VR w S g h vx (a.eval x)) (hel : elsOf h vx = some (1, l)) (hb : unBytes l = some b) : Does P w0 O w S g h U a n o (.str b) [] := by
  have hlb := unBytes_ok hb
  subst hlb
  obtain ⟨ba, cp, f, e, hsz, hc, hr⟩ := src_cells H hel hx
  have hlen : (bytesV b).length = b.length := by simp [bytesV]
  rw [hlen] at e hc
  have hcell : ∀ i (hi : i < b.length), ∃ ad, ba = some ad ∧ ad.spot = none ∧ w.cell? ⟨ad.block, ad.off + i, none⟩ = some (.int .u8 (b[i].toNat : Int)) := by
    intro i hi
    obtain ⟨ad, h1, h2, h3⟩ := hc i 0 hi (by omega)
    have hg : (bytesV b)[i]? = some (.int .u8 (b[i].toNat : Int)) := by simp [bytesV, hi]
    have := hr i _ 0 _ hg rfl rfl
    refine ⟨ad, h1, h2, ?_⟩
    have h4 : f i 0 = .int .u8 (b[i].toNat : Int) := by
      generalize f i 0 = c at this
      cases this; rfl
    rw [← h4, ← h3]
    simp
  refine does_pure H (cv := .string ⟨b.toArray⟩) ?_ (.rd _ _ (.str _ _ (by simp)))
  simp only [execOp, ho, e]
  cases ba with
  | none =>
    have : b = [] := by
      cases b with
      | nil => rfl
      | cons c b => obtain ⟨ad, h1, _⟩ := hcell 0 (by simp); cases h1
    subst this
    rw [Sem.run_bind, run_convert_bytes_string (P := P) w s d el none _ cp hs (isU8_eq he) hd]
    simp [Conv.bytesToString]
    rfl
  | some ad =>
    rw [Sem.run_bind, run_convert_bytes_back (P := P) w s d el ad cp b hs (isU8_eq he) hd (fun j hj => by
      obtain ⟨ad', h1, h2, h3⟩ := hcell j hj
      cases h1
      rw [add_none h2]; exact h3)]
    rfl

theorem convV_ok (H : HOk w0 O w S g h U) {s d : TypeId} {x : Operand} {vx v : V} {us : List (Nat × Option Blk)} (ho : o.op = .convert s d x) (hx : VR w S g h vx (a.eval x)) (hv : convV P h n s d vx = some (v, us)) (hU : ∀ i, n ≤ i → i < n + stride → ¬ U i) :
    Does P w0 O w S g h U a n o v us := by
  unfold convV at hv
  split at hv
  · rename_i hs hd
    cases hv
    exact op_convert_int H ho hs hd hx
  · rename_i hs hd
    cases hv
    exact op_convert_str H ho hs hd hx
  · rename_i el l hs hd
    split at hv
    · rename_i hc
      cases hv
      exact op_bytes H ho hs hd hc.1 hx hc.2 hU
    · cases hv
  · skip
    rename_i el hs hd
    split at hv
    · rename_i he
      split at hv
      · rename_i l hel
        simp only [Option.map_eq_some_iff] at hv
        obtain ⟨b, hb, hv⟩ := hv
        simp only [Prod.mk.injEq] at hv
        obtain ⟨rfl, rfl⟩ := hv
        exact op_text H ho hs hd he hx hel hb
      · cases hv
    · cases hv
  · cases hv

end
end Go.VM
