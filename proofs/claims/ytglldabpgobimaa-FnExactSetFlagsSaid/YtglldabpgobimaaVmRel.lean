/- How data stands in the model's memory: readable data (RD), data that one alone holds (OW), values with references (VR), the whole heap (HOk). -/
import Derived.Test.YtglldabpgobimaaVmBase
import Derived.Below
import Derived.Laws.Cells
set_option linter.unusedVariables false
set_option linter.unusedSimpArgs false
namespace Go.VM
open Go

/-- Readable data: all that it is read from lies in blocks of S. -/
inductive RD (w : World) (S : Nat → Prop) : V → Value → Prop
  | int (k : IntKind) (n : Int) : RD w S (.int k n) (.int k n)
  | bool (b : Bool) : RD w S (.bool b) (.bool b)
  | str (s : ByteArray) (l : List UInt8) (h : s.data.toList = l) : RD w S (.str l) (.string s)
  | lnil (sz : Nat) (a : Option Addr) (c : Nat) : RD w S (.lst sz []) (.slice a 0 c)
  | lst (sz : Nat) (l : List V) (ad : Addr) (cap : Nat) (f : Nat → Nat → Value) (hsp : ad.spot = none) (hS : S ad.block) (hlen : l.length ≤ cap) (hsz : ∀ x ∈ l, x.cells.length = sz)
      (hc : ∀ i j, i < l.length → j < sz → w.cell? ⟨ad.block, ad.off + (i * sz + j), none⟩ = some (f i j))
      (hr : ∀ i x j y, l[i]? = some x → x.cells[j]? = some y → RD w S y (f i j)) : RD w S (.lst sz l) (.slice (some ad) l.length cap)
  | agg (l : List V) (cs : Array Value) (hl : l.length = cs.size) (hr : ∀ (i : Nat) x c, l[i]? = some x → cs[i]? = some c → RD w S x c) : RD w S (.agg l) (.agg cs)
  | tup (l : List V) (cs : Array Value) (hl : l.length = cs.size) (hr : ∀ (i : Nat) x c, l[i]? = some x → cs[i]? = some c → RD w S x c) : RD w S (.tup l) (.tuple cs)
  | rptr (v : V) (ad : Addr) (f : Nat → Value) (hsp : ad.spot = none) (hS : S ad.block)
      (hc : ∀ j, j < v.cells.length → w.cell? ⟨ad.block, ad.off + j, none⟩ = some (f j))
      (hr : ∀ j y, v.cells[j]? = some y → RD w S y (f j)) : RD w S (.rptr v) (.pointer (some ad))
  | fn (f : Nat) (l : List V) (cs : Array Value) (hl : l.length = cs.size) (hr : ∀ (i : Nat) x c, l[i]? = some x → cs[i]? = some c → RD w S x c) : RD w S (.fn f l) (.func (.func f) #[] cs)

/-- No cell that there is is frozen. -/
def NoFr (n : Nat) (fr : Nat × Nat) : Prop := ∀ o, o < n → ¬ (fr.1 ≤ o ∧ o < fr.2)

/-- Data that stands in blocks of its own: N. -/
inductive OW (w : World) : V → Value → (Nat → Prop) → Prop
  | int (k : IntKind) (n : Int) : OW w (.int k n) (.int k n) (fun _ => False)
  | bool (b : Bool) : OW w (.bool b) (.bool b) (fun _ => False)
  | str (s : ByteArray) (l : List UInt8) (h : s.data.toList = l) : OW w (.str l) (.string s) (fun _ => False)
  | lnil (sz : Nat) : OW w (.lst sz []) (.slice none 0 0) (fun _ => False)
  | lst (sz : Nat) (l : List V) (ad : Addr) (cap : Nat) (cur : Array Value) (e : TypeId) (fr : Nat × Nat) (f : Nat → Nat → Value) (g : Nat → Nat → Nat → Prop)
      (hsp : ad.spot = none) (hb : w.heap[ad.block]? = some (.cells cur e fr)) (hfr : NoFr cur.size fr) (hlen : l.length ≤ cap) (hcap : ad.off + cap * sz ≤ cur.size) (hmax : cap ≤ maxLen)
      (hsz : ∀ x ∈ l, x.cells.length = sz) (hok : ∀ x ∈ l, ∀ y ∈ x.cells, okCell y = true)
      (hc : ∀ i j, i < l.length → j < sz → cur[ad.off + (i * sz + j)]? = some (f i j))
      (hr : ∀ i x j y, l[i]? = some x → x.cells[j]? = some y → OW w y (f i j) (g i j))
      (hself : ∀ i j, i < l.length → j < sz → ¬ g i j ad.block)
      (hdis : ∀ i j i' j' k, i < l.length → j < sz → i' < l.length → j' < sz → g i j k → g i' j' k → i = i' ∧ j = j') :
      OW w (.lst sz l) (.slice (some ad) l.length cap) (fun k => k = ad.block ∨ ∃ i j, i < l.length ∧ j < sz ∧ g i j k)
  | agg (l : List V) (cs : Array Value) (g : Nat → Nat → Prop) (hl : l.length = cs.size) (hr : ∀ (i : Nat) x c, l[i]? = some x → cs[i]? = some c → OW w x c (g i))
      (hdis : ∀ i i' k, i < l.length → i' < l.length → g i k → g i' k → i = i') : OW w (.agg l) (.agg cs) (fun k => ∃ i, i < l.length ∧ g i k)
  | tup (l : List V) (cs : Array Value) (g : Nat → Nat → Prop) (hl : l.length = cs.size) (hr : ∀ (i : Nat) x c, l[i]? = some x → cs[i]? = some c → OW w x c (g i))
      (hdis : ∀ i i' k, i < l.length → i' < l.length → g i k → g i' k → i = i') : OW w (.tup l) (.tuple cs) (fun k => ∃ i, i < l.length ∧ g i k)

theorem cell_of_heap {w w' : World} {a : Addr} (h : w'.heap[a.block]? = w.heap[a.block]?) : w'.cell? a = w.cell? a := by simp [World.cell?, h]
theorem cell_of_row {w : World} {b o : Nat} {cur : Array Value} {e : TypeId} {fr : Nat × Nat} (h : w.heap[b]? = some (.cells cur e fr)) : w.cell? ⟨b, o, none⟩ = cur[o]? := by
  simp [World.cell?, h]
theorem frozen_of_row {w : World} {b o : Nat} {cur : Array Value} {e : TypeId} {fr : Nat × Nat} (h : w.heap[b]? = some (.cells cur e fr)) (hf : NoFr cur.size fr) (ho : o < cur.size) :
    w.frozen? ⟨b, o, none⟩ = false := by
  have := hf o ho
  simp only [World.frozen?, h]
  simp only [Bool.and_eq_false_iff, decide_eq_false_iff_not]
  omega
theorem lt_of_heap {w : World} {b : Nat} {o : Obj} (h : w.heap[b]? = some o) : b < w.heap.size := (Array.getElem?_eq_some_iff.1 h).1

theorem RD.mono {w w' : World} {S S' : Nat → Prop} {v : V} {c : Value} (h : RD w S v c) (hw : ∀ b, S b → w'.heap[b]? = w.heap[b]?) (hS : ∀ b, S b → S' b) : RD w' S' v c := by
  induction h with
  | int k n => exact .int k n
  | bool b => exact .bool b
  | str s l h => exact .str s l h
  | lnil sz a c => exact .lnil sz a c
  | lst sz l ad cap f hsp h1 hlen hsz hc hr ih => exact .lst sz l ad cap f hsp (hS _ h1) hlen hsz (fun i j hi hj => (cell_of_heap (a := ⟨ad.block, _, none⟩) (hw _ h1)).trans (hc i j hi hj)) ih
  | agg l cs hl hr ih => exact .agg l cs hl ih
  | tup l cs hl hr ih => exact .tup l cs hl ih
  | rptr v ad f hsp h1 hc hr ih => exact .rptr v ad f hsp (hS _ h1) (fun j hj => (cell_of_heap (a := ⟨ad.block, _, none⟩) (hw _ h1)).trans (hc j hj)) ih
  | fn f l cs hl hr ih => exact .fn f l cs hl ih

theorem OW.mono {w w' : World} {v : V} {c : Value} {N : Nat → Prop} (h : OW w v c N) : (∀ b, N b → w'.heap[b]? = w.heap[b]?) → OW w' v c N := by
  induction h with
  | int k n => exact fun _ => .int k n
  | bool b => exact fun _ => .bool b
  | str s l h => exact fun _ => .str s l h
  | lnil sz => exact fun _ => .lnil sz
  | lst sz l ad cap cur e fr f g hsp hb hfr hlen hcap hmax hsz hok hc hr hself hdis ih =>
    intro hw
    refine .lst sz l ad cap cur e fr f g hsp ((hw _ (.inl rfl)).trans hb) hfr hlen hcap hmax hsz hok hc (fun i x j y hx hy => ih i x j y hx hy fun b hg => hw b (.inr ⟨i, j, ?_, ?_, hg⟩)) hself hdis
    · exact (List.getElem?_eq_some_iff.1 hx).1
    · have h1 := (List.getElem?_eq_some_iff.1 hy).1
      rw [hsz x (List.mem_of_getElem? hx)] at h1
      exact h1
  | agg l cs g hl hr hdis ih =>
    intro hw
    exact .agg l cs g hl (fun i x c hx hcx => ih i x c hx hcx fun b hg => hw b ⟨i, (List.getElem?_eq_some_iff.1 hx).1, hg⟩) hdis
  | tup l cs g hl hr hdis ih =>
    intro hw
    exact .tup l cs g hl (fun i x c hx hcx => ih i x c hx hcx fun b hg => hw b ⟨i, (List.getElem?_eq_some_iff.1 hx).1, hg⟩) hdis

theorem OW.rd {w : World} {S : Nat → Prop} {v : V} {c : Value} {N : Nat → Prop} (h : OW w v c N) : (∀ b, N b → S b) → RD w S v c := by
  induction h with
  | int k n => exact fun _ => .int k n
  | bool b => exact fun _ => .bool b
  | str s l h => exact fun _ => .str s l h
  | lnil sz => exact fun _ => .lnil sz _ _
  | lst sz l ad cap cur e fr f g hsp hb hfr hlen hcap hmax hsz hok hc hr hself hdis ih =>
    intro hS
    refine .lst sz l ad cap f hsp (hS _ (.inl rfl)) hlen hsz (fun i j hi hj => (cell_of_row hb).trans (hc i j hi hj)) (fun i x j y hx hy => ih i x j y hx hy fun b hg => hS b (.inr ⟨i, j, ?_, ?_, hg⟩))
    · exact (List.getElem?_eq_some_iff.1 hx).1
    · have h1 := (List.getElem?_eq_some_iff.1 hy).1
      rw [hsz x (List.mem_of_getElem? hx)] at h1
      exact h1
  | agg l cs g hl hr hdis ih => exact fun hS => .agg l cs hl fun i x c hx hcx => ih i x c hx hcx fun b hg => hS b ⟨i, (List.getElem?_eq_some_iff.1 hx).1, hg⟩
  | tup l cs g hl hr hdis ih => exact fun hS => .tup l cs hl fun i x c hx hcx => ih i x c hx hcx fun b hg => hS b ⟨i, (List.getElem?_eq_some_iff.1 hx).1, hg⟩

/-- A set told otherwise. -/
theorem OW.cast {w : World} {v : V} {c : Value} {N N' : Nat → Prop} (h : OW w v c N) (e : ∀ k, N k ↔ N' k) : OW w v c N' := by
  have : N = N' := funext fun k => propext (e k)
  exact this ▸ h

theorem OW.lt {w : World} {v : V} {c : Value} {N : Nat → Prop} (h : OW w v c N) : ∀ k, N k → k < w.heap.size := by
  induction h with
  | int | bool | str | lnil => exact fun _ h => h.elim
  | lst sz l ad cap cur e fr f g hsp hb hfr hlen hcap hmax hsz hok hc hr hself hdis ih =>
    rintro k (rfl | ⟨i, j, hi, hj, hg⟩)
    · exact lt_of_heap hb
    · have hx : l[i]? = some l[i] := List.getElem?_eq_getElem hi
      have hj' : j < l[i].cells.length := by rw [hsz _ (List.getElem_mem hi)]; exact hj
      exact ih i _ j _ hx (List.getElem?_eq_getElem hj') k hg
  | agg l cs g hl hr hdis ih =>
    rintro k ⟨i, hi, hg⟩
    exact ih i _ _ (List.getElem?_eq_getElem hi) (Array.getElem?_eq_getElem (hl ▸ hi)) k hg
  | tup l cs g hl hr hdis ih =>
    rintro k ⟨i, hi, hg⟩
    exact ih i _ _ (List.getElem?_eq_getElem hi) (Array.getElem?_eq_getElem (hl ▸ hi)) k hg

/-- A cell without references, or a struct of such. -/
theorem OW.of_flatC {w : World} {S : Nat → Prop} {v : V} {c : Value} (hf : v.flatC = true) (h : RD w S v c) : OW w v c (fun _ => False) := by
  cases h <;> first | (simp [V.flatC] at hf; done) | constructor
  assumption
theorem OW.flatC_rd {w : World} {v : V} {c : Value} {N : Nat → Prop} (h : OW w v c N) (hf : v.flatC = true) : ∀ w' S', RD w' S' v c := by
  intro w' S'
  cases h <;> first | (simp [V.flatC] at hf; done) | constructor
  assumption

/-- Where the local blocks lie. -/
structure G where
  base : Nat → Option Addr
  cap : Nat → Nat
  N : Nat → Nat → Prop
  dead : Nat → Prop

/-- A value with references to local blocks. -/
inductive VR (w : World) (S : Nat → Prop) (g : G) (h : Heap) : V → Value → Prop
  | undef (c : Value) : VR w S g h .undef c
  | void : VR w S g h .void Go.undef
  | rd (v : V) (c : Value) (hr : RD w S v c) : VR w S g h v c
  | nils (sz : Nat) : VR w S g h (.nils sz) (.slice none 0 0)
  | dead (v : V) (id : Nat) (hi : id ∈ idsC v) (hd : g.dead id) (c : Value) : VR w S g h v c
  | own (id sz : Nat) (els : List V) (hb : h id = some ⟨.arr, sz, els⟩) : VR w S g h (.own id) (.slice (g.base id) els.length (g.cap id))
  | win0 (id lo sz : Nat) (els : List V) (hb : h id = some ⟨.arr, sz, els⟩) (a : Option Addr) (hz : g.cap id = lo) (ha : lo = 0 → a = g.base id) : VR w S g h (.win id lo 0) (.slice a 0 0)
  | win (id lo len sz c : Nat) (els : List V) (ad : Addr) (hb : h id = some ⟨.arr, sz, els⟩) (hbase : g.base id = some ad) (hc : lo + c = g.cap id) (hl : len ≤ c) :
      VR w S g h (.win id lo len) (.slice (some ⟨ad.block, ad.off + lo * sz, none⟩) len c)
  | ptr (id idx : Nat) (fld : Option Nat) (b : Blk) (ad : Addr) (hb : h id = some b) (hbase : g.base id = some ad) (hi : idx < b.els.length) :
      VR w S g h (.ptr id idx fld) (.pointer (some ⟨ad.block, ad.off + (idx * b.sz + fld.getD 0), none⟩))
  | agg (l : List V) (cs : Array Value) (hl : l.length = cs.size) (hr : ∀ (i : Nat) x c, l[i]? = some x → cs[i]? = some c → VR w S g h x c) : VR w S g h (.agg l) (.agg cs)
  | tup (l : List V) (cs : Array Value) (hl : l.length = cs.size) (hr : ∀ (i : Nat) x c, l[i]? = some x → cs[i]? = some c → VR w S g h x c) : VR w S g h (.tup l) (.tuple cs)
  | fn (f : Nat) (l : List V) (cs : Array Value) (hl : l.length = cs.size) (hr : ∀ (i : Nat) x c, l[i]? = some x → cs[i]? = some c → VR w S g h x c) : VR w S g h (.fn f l) (.func (.func f) #[] cs)

/-- One local block and where it lies. -/
def BlkOk (w : World) (S : Nat → Prop) (g : G) (h : Heap) (id : Nat) (b : Blk) : Prop :=
  match b with
  | ⟨.box, sz, els⟩ => ∃ ad cur e fr v, g.base id = some ad ∧ ad.spot = none ∧ ad.off = 0 ∧ w.heap[ad.block]? = some (.cells cur e fr) ∧ NoFr cur.size fr ∧ els = [v] ∧ sz = v.cells.length ∧
      cur.size = v.cells.length ∧ boxableA v = true ∧ (∀ (j : Nat) y c, v.cells[j]? = some y → cur[j]? = some c → VR w S g h y c) ∧ ∀ k, g.N id k ↔ k = ad.block
  | ⟨.arr, sz, els⟩ => OW w (.lst sz els) (.slice (g.base id) els.length (g.cap id)) (g.N id) ∧ ∀ ad, g.base id = some ad → ad.spot = none

/-- What stays when code has run that began in w0 and may write in blocks of O. -/
structure Fr (w0 w : World) (O : Nat → Prop) : Prop where
  os : w.os = w0.os
  tape : w.tape = w0.tape
  output : w.output = w0.output
  size : w0.heap.size ≤ w.heap.size
  block : ∀ k, k < w0.heap.size → ¬ O k → w.heap[k]? = w0.heap[k]?

theorem Fr.refl (w : World) (O : Nat → Prop) : Fr w w O := ⟨rfl, rfl, rfl, Nat.le_refl _, fun _ _ _ => rfl⟩
theorem Fr.trans {w0 w w' : World} {O O' : Nat → Prop} (h : Fr w0 w O) (h' : Fr w w' O') (hO : ∀ k, O' k → O k ∨ w0.heap.size ≤ k) : Fr w0 w' O :=
  ⟨h'.os.trans h.os, h'.tape.trans h.tape, h'.output.trans h.output, Nat.le_trans h.size h'.size, fun k hk hn =>
    (h'.block k (Nat.lt_of_lt_of_le hk h.size) (fun ho => by rcases hO k ho with h1 | h1; exact hn h1; omega)).trans (h.block k hk hn)⟩

structure HOk (w0 : World) (O : Nat → Prop) (w : World) (S : Nat → Prop) (g : G) (h : Heap) (U : Nat → Prop) : Prop where
  blk : ∀ id b, h id = some b → BlkOk w S g h id b
  disj : ∀ i j b b' k, h i = some b → h j = some b' → g.N i k → g.N j k → i = j
  own : ∀ i b k, h i = some b → g.N i k → ¬ S k ∧ (w0.heap.size ≤ k ∨ O k)
  slt : ∀ k, S k → k < w.heap.size
  used : ∀ id, (h id ≠ none ∨ g.dead id) → U id
  dead : ∀ id, g.dead id → h id = none
  fr : Fr w0 w O

/-- What was a value before is one behind. -/
def Tr (w : World) (S : Nat → Prop) (g : G) (h : Heap) (w' : World) (S' : Nat → Prop) (g' : G) (h' : Heap) : Prop :=
  ∀ x c, VR w S g h x c → VR w' S' g' h' x c

theorem Tr.refl (w : World) (S : Nat → Prop) (g : G) (h : Heap) : Tr w S g h w S g h := fun _ _ h => h
theorem Tr.trans {w w' w'' : World} {S S' S'' : Nat → Prop} {g g' g'' : G} {h h' h'' : Heap} (a : Tr w S g h w' S' g' h') (b : Tr w' S' g' h' w'' S'' g'' h'') : Tr w S g h w'' S'' g'' h'' :=
  fun x c hx => b x c (a x c hx)

theorem Tr.of {w w' : World} {S S' : Nat → Prop} {g g' : G} {h h' : Heap} (hw : ∀ k, S k → w'.heap[k]? = w.heap[k]?) (hS : ∀ k, S k → S' k) (hd : ∀ id, g.dead id → g'.dead id)
    (hid : ∀ id b, h id = some b → g'.dead id ∨ ∃ b', h' id = some b' ∧ b'.kind = b.kind ∧ b'.sz = b.sz ∧ b'.els.length = b.els.length ∧ g'.base id = g.base id ∧ g'.cap id = g.cap id) :
    Tr w S g h w' S' g' h' := by
  intro x c hx
  induction hx with
  | undef c => exact .undef c
  | void => exact .void
  | rd v c hr => exact .rd v c (hr.mono hw hS)
  | nils sz => exact .nils sz
  | dead v id hi hdd c => exact .dead v id hi (hd id hdd) c
  | own id sz els hb =>
    rcases hid id _ hb with hdd | ⟨⟨k, sz', els'⟩, hb', hk, hz, hl, e1, e2⟩
    · exact .dead _ id (by simp [idsC]) hdd _
    · simp only at hk hz hl
      subst hk
      rw [← e1, ← e2, ← hl]
      exact .own id _ els' hb'
  | win0 id lo sz els hb a hcz ha =>
    rcases hid id _ hb with hdd | ⟨⟨k, sz', els'⟩, hb', hk, hz, hl, e1, e2⟩
    · exact .dead _ id (by simp [idsC]) hdd _
    · simp only at hk
      subst hk
      exact .win0 id lo _ els' hb' a (e2 ▸ hcz) (fun h0 => (ha h0).trans e1.symm)
  | win id lo len sz c els ad hb hbase hc hl =>
    rcases hid id _ hb with hdd | ⟨⟨k, sz', els'⟩, hb', hk, hz, hl', e1, e2⟩
    · exact .dead _ id (by simp [idsC]) hdd _
    · simp only at hk hz
      subst hk hz
      exact .win id lo len _ c els' ad hb' (e1.trans hbase) (e2 ▸ hc) hl
  | ptr id idx fld b ad hb hbase hi =>
    rcases hid id _ hb with hdd | ⟨b', hb', hk, hz, hl', e1, e2⟩
    · exact .dead _ id (by simp [idsC]) hdd _
    · rw [← hz]
      exact .ptr id idx fld b' ad hb' (e1.trans hbase) (hl' ▸ hi)
  | agg l cs hl hr ih => exact .agg l cs hl ih
  | tup l cs hl hr ih => exact .tup l cs hl ih
  | fn f l cs hl hr ih => exact .fn f l cs hl ih

/-- A heap that has changed in some blocks: the others stand as they stood. -/
theorem HOk.change {w0 w w' : World} {O S S' : Nat → Prop} {g g' : G} {h h' : Heap} {U U' : Nat → Prop} (H : HOk w0 O w S g h U)
    (tr : Tr w S g h w' S' g' h') (hfr : Fr w0 w' O) (hslt : ∀ k, S' k → k < w'.heap.size)
    (hid : ∀ id b, h' id = some b → (h id = some b ∧ g'.N id = g.N id ∧ g'.base id = g.base id ∧ g'.cap id = g.cap id ∧ ∀ k, g.N id k → w'.heap[k]? = w.heap[k]? ∧ ¬ S' k) ∨
      (BlkOk w' S' g' h' id b ∧ ∀ k, g'.N id k → ¬ S' k ∧ (w0.heap.size ≤ k ∨ O k)))
    (hdisj : ∀ i j b b' k, h' i = some b → h' j = some b' → g'.N i k → g'.N j k → i = j)
    (hused : ∀ id, (h' id ≠ none ∨ g'.dead id) → U' id) (hdead : ∀ id, g'.dead id → h' id = none) : HOk w0 O w' S' g' h' U' := by
  refine ⟨?_, hdisj, ?_, hslt, hused, hdead, hfr⟩
  · intro id b hb
    rcases hid id b hb with ⟨hold, eN, eB, eC, hk⟩ | ⟨hnew, _⟩
    · have ho := H.blk id b hold
      obtain ⟨kind, sz, els⟩ := b
      cases kind with
      | box =>
        obtain ⟨ad, cur, e, fr, v, h1, h2, h3, h4, h5, h6, h7, h8, h9, h10, h11⟩ := ho
        refine ⟨ad, cur, e, fr, v, eB.trans h1, h2, h3, (hk _ ((h11 _).2 rfl)).1.trans h4, h5, h6, h7, h8, h9, fun j y c hy hc => tr _ _ (h10 j y c hy hc), fun k => ?_⟩
        rw [eN]; exact h11 k
      | arr =>
        show OW w' _ (.slice (g'.base id) _ (g'.cap id)) (g'.N id) ∧ _
        rw [eN, eB, eC]
        exact ⟨ho.1.mono fun k hN => (hk k hN).1, ho.2⟩
    · exact hnew
  · intro i b k hb hN
    rcases hid i b hb with ⟨hold, eN, eB, eC, hk⟩ | ⟨_, hnew⟩
    · rw [eN] at hN
      exact ⟨(hk k hN).2, (H.own i b k hold hN).2⟩
    · exact hnew k hN

end Go.VM
