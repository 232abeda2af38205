import Derived.Test.YtghmjnggmacohaaGreatDoorVmBase
import Derived.Below
import Derived.Laws.Cells
/- How data stands in the model's memory: readable data (RD), data that one alone holds (OW), values with references (VR), the whole heap (HOk). -/
set_option linter.unusedVariables false
set_option linter.unusedSimpArgs false
namespace Go.VM
open Go

/-- Readable data: all that it is read from lies in blocks of S. -/
inductive RD (w : World) (S : Nat → Prop) : V → Value → Prop
  | int (k : IntKind) (n : Int) : RD w S (.int k n) (.int k n)
  | bool (b : Bool) : RD w S (.bool b) (.bool b)
  | str (s : ByteArray) (l : List UInt8) (h : s.data.toList = l) : RD w S (.str l) (.string s)
  | lnil (sz : Nat) (a : Option Addr) (c : Nat) : RD w S (.lst sz []) (.slice a 0 c)
  | lst (sz : Nat) (l : List V) (ad : Addr) (cap : Nat) (f : Nat → Nat → Value) (hsp : ad.spot = none) (hS : S ad.block) (hlen : l.length ≤ cap) (hsz : ∀ x ∈ l, x.cells.length = sz)
      (hc : ∀ i j, i < l.length → j < sz → w.cell? ⟨ad.block, ad.off + (i * sz + j), none⟩ = some (f i j))
      (hr : ∀ i x j y, l[i]? = some x → x.cells[j]? = some y → RD w S y (f i j)) : RD w S (.lst sz l) (.slice (some ad) l.length cap)
  | agg (l : List V) (cs : Array Value) (hl : l.length = cs.size) (hr : ∀ (i : Nat) x c, l[i]? = some x → cs[i]? = some c → RD w S x c) : RD w S (.agg l) (.agg cs)
  | tup (l : List V) (cs : Array Value) (hl : l.length = cs.size) (hr : ∀ (i : Nat) x c, l[i]? = some x → cs[i]? = some c → RD w S x c) : RD w S (.tup l) (.tuple cs)
  | rptr (v : V) (ad : Addr) (f : Nat → Value) (hsp : ad.spot = none) (hS : S ad.block)
      (hc : ∀ j, j < v.cells.length → w.cell? ⟨ad.block, ad.off + j, none⟩ = some (f j))
      (hr : ∀ j y, v.cells[j]? = some y → RD w S y (f j)) : RD w S (.rptr v) (.pointer (some ad))
  | fn (f : Nat) (l : List V) (cs : Array Value) (hl : l.length = cs.size) (hr : ∀ (i : Nat) x c, l[i]? = some x → cs[i]? = some c → RD w S x c) : RD w S (.fn f l) (.func (.func f) #[] cs)
  | hole (a : Option Addr) (n c : Nat) : RD w S .hole (.slice a n c)
  | errN : RD w S (.err false) .nilIface
  | errS (t : TypeId) (v : Value) : RD w S (.err true) (.iface t v)
  | raw (a : Option Addr) (n c : Nat) : RD w S (.raw a n c) (.slice a n c)

/-- No cell that there is is frozen. -/
def NoFr (sz n : Nat) (fr : Nat × Nat) : Prop := (∀ o, o < n → ¬ (fr.1 ≤ o ∧ o < fr.2)) ∧ (sz ≠ 1 → ¬ (fr.1 ≤ n ∧ n < fr.2))
theorem NoFr.new {sz n : Nat} : NoFr sz n (0, 0) := ⟨fun o _ => by simp, fun _ => by simp⟩

/-- The cells of a value that stand for local blocks, told as holes. -/
def hlC : V → V
  | .int k n => .int k n
  | .bool b => .bool b
  | .str s => .str s
  | _ => .hole
def hlA : V → V
  | .agg l => .agg (l.map hlC)
  | v => hlC v
/-- Data that stands in blocks of its own: N. -/
inductive OW (w : World) : V → Value → (Nat → Prop) → Prop
  | int (k : IntKind) (n : Int) : OW w (.int k n) (.int k n) (fun _ => False)
  | bool (b : Bool) : OW w (.bool b) (.bool b) (fun _ => False)
  | str (s : ByteArray) (l : List UInt8) (h : s.data.toList = l) : OW w (.str l) (.string s) (fun _ => False)
  | lnil (sz : Nat) : OW w (.lst sz []) (.slice none 0 0) (fun _ => False)
  | hole (a : Option Addr) (n c : Nat) : OW w .hole (.slice a n c) (fun _ => False)
  | errN : OW w (.err false) .nilIface (fun _ => False)
  | errS (t : TypeId) (v : Value) : OW w (.err true) (.iface t v) (fun _ => False)
  | raw (a : Option Addr) (n c : Nat) : OW w (.raw a n c) (.slice a n c) (fun _ => False)
  | lst (sz : Nat) (l : List V) (ad : Addr) (cap : Nat) (cur : Array Value) (e : TypeId) (fr : Nat × Nat) (f : Nat → Nat → Value) (g : Nat → Nat → Nat → Prop)
      (hsp : ad.spot = none) (hb : w.heap[ad.block]? = some (.cells cur e fr)) (hfr : NoFr sz cur.size fr) (hlen : l.length ≤ cap) (hcap : ad.off + cap * sz ≤ cur.size) (hmax : cap ≤ maxLen)
      (hsz : ∀ x ∈ l, x.cells.length = sz) (hok : ∀ x ∈ l, ∀ y ∈ x.cells, okCell y = true)
      (hc : ∀ i j, i < l.length → j < sz → cur[ad.off + (i * sz + j)]? = some (f i j))
      (hr : ∀ i x j y, l[i]? = some x → x.cells[j]? = some y → OW w y (f i j) (g i j))
      (hself : ∀ i j, i < l.length → j < sz → ¬ g i j ad.block)
      (hdis : ∀ i j i' j' k, i < l.length → j < sz → i' < l.length → j' < sz → g i j k → g i' j' k → i = i' ∧ j = j') :
      OW w (.lst sz l) (.slice (some ad) l.length cap) (fun k => k = ad.block ∨ ∃ i j, i < l.length ∧ j < sz ∧ g i j k)
  | agg (l : List V) (cs : Array Value) (g : Nat → Nat → Prop) (hl : l.length = cs.size) (hr : ∀ (i : Nat) x c, l[i]? = some x → cs[i]? = some c → OW w x c (g i))
      (hdis : ∀ i i' k, i < l.length → i' < l.length → g i k → g i' k → i = i') : OW w (.agg l) (.agg cs) (fun k => ∃ i, i < l.length ∧ g i k)
  | tup (l : List V) (cs : Array Value) (g : Nat → Nat → Prop) (hl : l.length = cs.size) (hr : ∀ (i : Nat) x c, l[i]? = some x → cs[i]? = some c → OW w x c (g i))
      (hdis : ∀ i i' k, i < l.length → i' < l.length → g i k → g i' k → i = i') : OW w (.tup l) (.tuple cs) (fun k => ∃ i, i < l.length ∧ g i k)

theorem OW.block_mem {w : World} {sz i n c : Nat} {els : List V} {x : V} {ba : Option Addr} {ad : Addr} {N : Nat → Prop} (h : OW w (.lst sz (els.modify i hlA)) (.slice ba n c) N) (hb : ba = some ad) (hx : els[i]? = some x) : N ad.block := by
  subst hb
  generalize hv : V.lst sz (els.modify i hlA) = v at h
  generalize hcv : Value.slice (some ad) n c = cv at h
  cases h <;> simp_all
theorem cell_of_heap {w w' : World} {a : Addr} (h : w'.heap[a.block]? = w.heap[a.block]?) : w'.cell? a = w.cell? a := by simp [World.cell?, h]
theorem cell_of_row {w : World} {b o : Nat} {cur : Array Value} {e : TypeId} {fr : Nat × Nat} (h : w.heap[b]? = some (.cells cur e fr)) : w.cell? ⟨b, o, none⟩ = cur[o]? := by
  simp [World.cell?, h]
theorem frozen_of_row {w : World} {b o : Nat} {cur : Array Value} {e : TypeId} {fr : Nat × Nat} {sz : Nat} (h : w.heap[b]? = some (.cells cur e fr)) (hf : NoFr sz cur.size fr) (ho : o < cur.size) :
    w.frozen? ⟨b, o, none⟩ = false := by
  have := hf.1 o ho
  simp only [World.frozen?, h]
  simp only [Bool.and_eq_false_iff, decide_eq_false_iff_not]
  omega
theorem lt_of_heap {w : World} {b : Nat} {o : Obj} (h : w.heap[b]? = some o) : b < w.heap.size := (Array.getElem?_eq_some_iff.1 h).1

theorem RD.mono {w w' : World} {S S' : Nat → Prop} {v : V} {c : Value} (h : RD w S v c) (hw : ∀ b, S b → w'.heap[b]? = w.heap[b]?) (hS : ∀ b, S b → S' b) : RD w' S' v c := by
  induction h with
  | int k n => exact .int k n
  | bool b => exact .bool b
  | str s l h => exact .str s l h
  | lnil sz a c => exact .lnil sz a c
  | lst sz l ad cap f hsp h1 hlen hsz hc hr ih => exact .lst sz l ad cap f hsp (hS _ h1) hlen hsz (fun i j hi hj => (cell_of_heap (a := ⟨ad.block, _, none⟩) (hw _ h1)).trans (hc i j hi hj)) ih
  | agg l cs hl hr ih => exact .agg l cs hl ih
  | tup l cs hl hr ih => exact .tup l cs hl ih
  | rptr v ad f hsp h1 hc hr ih => exact .rptr v ad f hsp (hS _ h1) (fun j hj => (cell_of_heap (a := ⟨ad.block, _, none⟩) (hw _ h1)).trans (hc j hj)) ih
  | fn f l cs hl hr ih => exact .fn f l cs hl ih
  | hole a n c => exact .hole a n c
  | errN => exact .errN
  | errS t v => exact .errS t v
  | raw a n c => exact .raw a n c

theorem OW.mono {w w' : World} {v : V} {c : Value} {N : Nat → Prop} (h : OW w v c N) : (∀ b, N b → w'.heap[b]? = w.heap[b]?) → OW w' v c N := by
  induction h with
  | int k n => exact fun _ => .int k n
  | bool b => exact fun _ => .bool b
  | str s l h => exact fun _ => .str s l h
  | lnil sz => exact fun _ => .lnil sz
  | hole a n c => exact fun _ => .hole a n c
  | errN => exact fun _ => .errN
  | errS t v => exact fun _ => .errS t v
  | raw a n c => exact fun _ => .raw a n c
  | lst sz l ad cap cur e fr f g hsp hb hfr hlen hcap hmax hsz hok hc hr hself hdis ih =>
    intro hw
    refine .lst sz l ad cap cur e fr f g hsp ((hw _ (.inl rfl)).trans hb) hfr hlen hcap hmax hsz hok hc (fun i x j y hx hy => ih i x j y hx hy fun b hg => hw b (.inr ⟨i, j, ?_, ?_, hg⟩)) hself hdis
    · exact (List.getElem?_eq_some_iff.1 hx).1
    · have h1 := (List.getElem?_eq_some_iff.1 hy).1
      rw [hsz x (List.mem_of_getElem? hx)] at h1
      exact h1
  | agg l cs g hl hr hdis ih =>
    intro hw
    exact .agg l cs g hl (fun i x c hx hcx => ih i x c hx hcx fun b hg => hw b ⟨i, (List.getElem?_eq_some_iff.1 hx).1, hg⟩) hdis
  | tup l cs g hl hr hdis ih =>
    intro hw
    exact .tup l cs g hl (fun i x c hx hcx => ih i x c hx hcx fun b hg => hw b ⟨i, (List.getElem?_eq_some_iff.1 hx).1, hg⟩) hdis

theorem OW.rd {w : World} {S : Nat → Prop} {v : V} {c : Value} {N : Nat → Prop} (h : OW w v c N) : (∀ b, N b → S b) → RD w S v c := by
  induction h with
  | int k n => exact fun _ => .int k n
  | bool b => exact fun _ => .bool b
  | str s l h => exact fun _ => .str s l h
  | lnil sz => exact fun _ => .lnil sz _ _
  | hole a n c => exact fun _ => .hole a n c
  | errN => exact fun _ => .errN
  | errS t v => exact fun _ => .errS t v
  | raw a n c => exact fun _ => .raw a n c
  | lst sz l ad cap cur e fr f g hsp hb hfr hlen hcap hmax hsz hok hc hr hself hdis ih =>
    intro hS
    refine .lst sz l ad cap f hsp (hS _ (.inl rfl)) hlen hsz (fun i j hi hj => (cell_of_row hb).trans (hc i j hi hj)) (fun i x j y hx hy => ih i x j y hx hy fun b hg => hS b (.inr ⟨i, j, ?_, ?_, hg⟩))
    · exact (List.getElem?_eq_some_iff.1 hx).1
    · have h1 := (List.getElem?_eq_some_iff.1 hy).1
      rw [hsz x (List.mem_of_getElem? hx)] at h1
      exact h1
  | agg l cs g hl hr hdis ih => exact fun hS => .agg l cs hl fun i x c hx hcx => ih i x c hx hcx fun b hg => hS b ⟨i, (List.getElem?_eq_some_iff.1 hx).1, hg⟩
  | tup l cs g hl hr hdis ih => exact fun hS => .tup l cs hl fun i x c hx hcx => ih i x c hx hcx fun b hg => hS b ⟨i, (List.getElem?_eq_some_iff.1 hx).1, hg⟩

/-- A set told otherwise. -/
theorem OW.cast {w : World} {v : V} {c : Value} {N N' : Nat → Prop} (h : OW w v c N) (e : ∀ k, N k ↔ N' k) : OW w v c N' := by
  have : N = N' := funext fun k => propext (e k)
  exact this ▸ h

theorem OW.lt {w : World} {v : V} {c : Value} {N : Nat → Prop} (h : OW w v c N) : ∀ k, N k → k < w.heap.size := by
  induction h with
  | int | bool | str | lnil | hole | errN | errS | raw => exact fun _ h => h.elim
  | lst sz l ad cap cur e fr f g hsp hb hfr hlen hcap hmax hsz hok hc hr hself hdis ih =>
    rintro k (rfl | ⟨i, j, hi, hj, hg⟩)
    · exact lt_of_heap hb
    · have hx : l[i]? = some l[i] := List.getElem?_eq_getElem hi
      have hj' : j < l[i].cells.length := by rw [hsz _ (List.getElem_mem hi)]; exact hj
      exact ih i _ j _ hx (List.getElem?_eq_getElem hj') k hg
  | agg l cs g hl hr hdis ih =>
    rintro k ⟨i, hi, hg⟩
    exact ih i _ _ (List.getElem?_eq_getElem hi) (Array.getElem?_eq_getElem (hl ▸ hi)) k hg
  | tup l cs g hl hr hdis ih =>
    rintro k ⟨i, hi, hg⟩
    exact ih i _ _ (List.getElem?_eq_getElem hi) (Array.getElem?_eq_getElem (hl ▸ hi)) k hg

/-- A cell without references, or a struct of such. -/
theorem OW.of_flatC {w : World} {S : Nat → Prop} {v : V} {c : Value} (hf : v.flatC = true) (h : RD w S v c) : OW w v c (fun _ => False) := by
  cases h <;> first | (simp [V.flatC] at hf; done) | constructor
  assumption
theorem OW.flatC_rd {w : World} {v : V} {c : Value} {N : Nat → Prop} (h : OW w v c N) (hf : v.flatC = true) : ∀ w' S', RD w' S' v c := by
  intro w' S'
  cases h <;> first | (simp [V.flatC] at hf; done) | constructor
  assumption

/-- Where the local blocks lie. -/
structure G where
  base : Nat → Option Addr
  cap : Nat → Nat
  N : Nat → Nat → Prop
  dead : Nat → Prop

/-- A value with references to local blocks. -/
inductive VR (w : World) (S : Nat → Prop) (g : G) (h : Heap) : V → Value → Prop
  | undef (c : Value) : VR w S g h .undef c
  | void : VR w S g h .void Go.undef
  | rd (v : V) (c : Value) (hr : RD w S v c) : VR w S g h v c
  | nils (sz : Nat) : VR w S g h (.nils sz) (.slice none 0 0)
  | dead (v : V) (id : Nat) (hi : id ∈ idsC v) (hd : g.dead id) (c : Value) : VR w S g h v c
  | own (id sz : Nat) (k : BK) (els : List V) (hb : h id = some ⟨k, sz, els⟩) (hk : k.isBox = false) : VR w S g h (.own id) (.slice (g.base id) els.length (g.cap id))
  | win0 (id lo sz : Nat) (k : BK) (els : List V) (hb : h id = some ⟨k, sz, els⟩) (hk : k.isBox = false) (a : Option Addr) (hz : g.cap id = lo) (ha : lo = 0 → a = g.base id) : VR w S g h (.win id lo 0) (.slice a 0 0)
  | win (id lo len sz c : Nat) (k : BK) (els : List V) (ad : Addr) (hb : h id = some ⟨k, sz, els⟩) (hk : k.isBox = false) (hbase : g.base id = some ad) (hc : lo + c = g.cap id) (hl : len ≤ c) :
      VR w S g h (.win id lo len) (.slice (some ⟨ad.block, ad.off + lo * sz, none⟩) len c)
  | ptr (id idx : Nat) (fld : Option Nat) (b : Blk) (ad : Addr) (hb : h id = some b) (hbase : g.base id = some ad) (hi : idx < b.els.length) :
      VR w S g h (.ptr id idx fld) (.pointer (some ⟨ad.block, ad.off + (idx * b.sz + fld.getD 0), none⟩))
  | mref (id sz : Nat) (v : V) (ad : Addr) (hb : h id = some ⟨.map, sz, [v]⟩) (hbase : g.base id = some ad) : VR w S g h (.ptr id 1 none) (.map (some ad.block))
  | agg (l : List V) (cs : Array Value) (hl : l.length = cs.size) (hr : ∀ (i : Nat) x c, l[i]? = some x → cs[i]? = some c → VR w S g h x c) : VR w S g h (.agg l) (.agg cs)
  | tup (l : List V) (cs : Array Value) (hl : l.length = cs.size) (hr : ∀ (i : Nat) x c, l[i]? = some x → cs[i]? = some c → VR w S g h x c) : VR w S g h (.tup l) (.tuple cs)
  | fn (f : Nat) (l : List V) (cs : Array Value) (hl : l.length = cs.size) (hr : ∀ (i : Nat) x c, l[i]? = some x → cs[i]? = some c → VR w S g h x c) : VR w S g h (.fn f l) (.func (.func f) #[] cs)

/-- The entries of a map of texts to numbers. -/
def MapR (l : List V) (es : Array MapEntry) : Prop :=
  l.length = es.size ∧ ∀ (i : Nat) x e, l[i]? = some x → es[i]? = some e → ∃ s n k, x = .agg [.str s.data.toList, .int k n] ∧ e.key = .string s ∧ e.val = .int k n
/-- One local block and where it lies. -/
def BlkOk (w : World) (S : Nat → Prop) (g : G) (h : Heap) (id : Nat) (b : Blk) : Prop :=
  match b with
  | ⟨.box, sz, els⟩ => ∃ ad cur e fr v, g.base id = some ad ∧ ad.spot = none ∧ ad.off = 0 ∧ w.heap[ad.block]? = some (.cells cur e fr) ∧ NoFr 1 cur.size fr ∧ els = [v] ∧ sz = v.cells.length ∧
      cur.size = v.cells.length ∧ boxableA v = true ∧ (∀ (j : Nat) y c, v.cells[j]? = some y → cur[j]? = some c → VR w S g h y c) ∧ ∀ k, g.N id k ↔ k = ad.block
  | ⟨.arr, sz, els⟩ => OW w (.lst sz els) (.slice (g.base id) els.length (g.cap id)) (g.N id) ∧ ∀ ad, g.base id = some ad → ad.spot = none
  | ⟨.opn i, sz, els⟩ => OW w (.lst sz (els.modify i hlA)) (.slice (g.base id) els.length (g.cap id)) (g.N id) ∧ (∀ ad, g.base id = some ad → ad.spot = none) ∧
      ∃ x, els[i]? = some x ∧ boxableA x = true ∧ ∀ (ad : Addr) (j : Nat) y c, g.base id = some ad → x.cells[j]? = some y → w.cell? ⟨ad.block, ad.off + (i * sz + j), none⟩ = some c → VR w S g h y c
  | ⟨.map, sz, els⟩ => ∃ ad es clk l, g.base id = some ad ∧ w.heap[ad.block]? = some (.map es clk) ∧ els = [.lst 2 l] ∧ MapR l es ∧ ∀ k, g.N id k ↔ k = ad.block

/-- What stays when code has run that began in w0 and may write in blocks of O. -/
structure Fr (w0 w : World) (O : Nat → Prop) : Prop where
  os : w.os = w0.os
  tape : w.tape = w0.tape
  output : w.output = w0.output
  size : w0.heap.size ≤ w.heap.size
  block : ∀ k, k < w0.heap.size → ¬ O k → w.heap[k]? = w0.heap[k]?

theorem Fr.refl (w : World) (O : Nat → Prop) : Fr w w O := ⟨rfl, rfl, rfl, Nat.le_refl _, fun _ _ _ => rfl⟩
theorem Fr.trans {w0 w w' : World} {O O' : Nat → Prop} (h : Fr w0 w O) (h' : Fr w w' O') (hO : ∀ k, O' k → O k ∨ w0.heap.size ≤ k) : Fr w0 w' O :=
  ⟨h'.os.trans h.os, h'.tape.trans h.tape, h'.output.trans h.output, Nat.le_trans h.size h'.size, fun k hk hn =>
    (h'.block k (Nat.lt_of_lt_of_le hk h.size) (fun ho => by rcases hO k ho with h1 | h1; exact hn h1; omega)).trans (h.block k hk hn)⟩

structure HOk (w0 : World) (O : Nat → Prop) (w : World) (S : Nat → Prop) (g : G) (h : Heap) (U : Nat → Prop) : Prop where
  blk : ∀ id b, h id = some b → BlkOk w S g h id b
  disj : ∀ i j b b' k, h i = some b → h j = some b' → g.N i k → g.N j k → i = j
  own : ∀ i b k, h i = some b → g.N i k → ¬ S k ∧ (w0.heap.size ≤ k ∨ O k)
  slt : ∀ k, S k → k < w.heap.size
  used : ∀ id, (h id ≠ none ∨ g.dead id) → U id
  dead : ∀ id, g.dead id → h id = none
  fr : Fr w0 w O

/-- What was a value before is one behind. -/
def Tr (w : World) (S : Nat → Prop) (g : G) (h : Heap) (w' : World) (S' : Nat → Prop) (g' : G) (h' : Heap) : Prop :=
  ∀ x c, VR w S g h x c → VR w' S' g' h' x c

theorem Tr.refl (w : World) (S : Nat → Prop) (g : G) (h : Heap) : Tr w S g h w S g h := fun _ _ h => h
theorem Tr.trans {w w' w'' : World} {S S' S'' : Nat → Prop} {g g' g'' : G} {h h' h'' : Heap} (a : Tr w S g h w' S' g' h') (b : Tr w' S' g' h' w'' S'' g'' h'') : Tr w S g h w'' S'' g'' h'' :=
  fun x c hx => b x c (a x c hx)

theorem Tr.of {w w' : World} {S S' : Nat → Prop} {g g' : G} {h h' : Heap} (hw : ∀ k, S k → w'.heap[k]? = w.heap[k]?) (hS : ∀ k, S k → S' k) (hd : ∀ id, g.dead id → g'.dead id)
    (hid : ∀ id b, h id = some b → g'.dead id ∨ ∃ b', h' id = some b' ∧ b'.kind.isBox = b.kind.isBox ∧ b'.sz = b.sz ∧ b'.els.length = b.els.length ∧ g'.base id = g.base id ∧ g'.cap id = g.cap id) :
    Tr w S g h w' S' g' h' := by
  intro x c hx
  induction hx with
  | undef c => exact .undef c
  | void => exact .void
  | rd v c hr => exact .rd v c (hr.mono hw hS)
  | nils sz => exact .nils sz
  | dead v id hi hdd c => exact .dead v id hi (hd id hdd) c
  | own id sz k0 els hb hk0 =>
    rcases hid id _ hb with hdd | ⟨⟨k, sz', els'⟩, hb', hk, hz, hl, e1, e2⟩
    · exact .dead _ id (by simp [idsC]) hdd _
    · simp only at hk hz hl
      rw [← e1, ← e2, ← hl]
      exact .own id _ k els' hb' (hk.trans hk0)
  | win0 id lo sz k0 els hb hk0 a hcz ha =>
    rcases hid id _ hb with hdd | ⟨⟨k, sz', els'⟩, hb', hk, hz, hl, e1, e2⟩
    · exact .dead _ id (by simp [idsC]) hdd _
    · simp only at hk
      exact .win0 id lo _ k els' hb' (hk.trans hk0) a (e2 ▸ hcz) (fun h0 => (ha h0).trans e1.symm)
  | win id lo len sz c k0 els ad hb hk0 hbase hc hl =>
    rcases hid id _ hb with hdd | ⟨⟨k, sz', els'⟩, hb', hk, hz, hl', e1, e2⟩
    · exact .dead _ id (by simp [idsC]) hdd _
    · simp only at hk hz
      subst hz
      exact .win id lo len _ c k els' ad hb' (hk.trans hk0) (e1.trans hbase) (e2 ▸ hc) hl
  | ptr id idx fld b ad hb hbase hi =>
    rcases hid id _ hb with hdd | ⟨b', hb', hk, hz, hl', e1, e2⟩
    · exact .dead _ id (by simp [idsC]) hdd _
    · rw [← hz]
      exact .ptr id idx fld b' ad hb' (e1.trans hbase) (hl' ▸ hi)
  | mref id sz v ad hb hbase =>
    rcases hid id _ hb with hdd | ⟨⟨k, sz', els'⟩, hb', hk, hz, hl', e1, e2⟩
    · exact .dead _ id (by simp [idsC]) hdd _
    · simp only [BK.isBox] at hk hl'
      have hkm : k = .map := by cases k <;> simp_all
      subst hkm
      match els', hl' with
      | [v'], _ => exact .mref id sz' v' ad hb' (e1.trans hbase)
  | agg l cs hl hr ih => exact .agg l cs hl ih
  | tup l cs hl hr ih => exact .tup l cs hl ih
  | fn f l cs hl hr ih => exact .fn f l cs hl ih

/-- A heap that has changed in some blocks: the others stand as they stood. -/
theorem HOk.change {w0 w w' : World} {O S S' : Nat → Prop} {g g' : G} {h h' : Heap} {U U' : Nat → Prop} (H : HOk w0 O w S g h U)
    (tr : Tr w S g h w' S' g' h') (hfr : Fr w0 w' O) (hslt : ∀ k, S' k → k < w'.heap.size)
    (hid : ∀ id b, h' id = some b → (h id = some b ∧ g'.N id = g.N id ∧ g'.base id = g.base id ∧ g'.cap id = g.cap id ∧ ∀ k, g.N id k → w'.heap[k]? = w.heap[k]? ∧ ¬ S' k) ∨
      (BlkOk w' S' g' h' id b ∧ ∀ k, g'.N id k → ¬ S' k ∧ (w0.heap.size ≤ k ∨ O k)))
    (hdisj : ∀ i j b b' k, h' i = some b → h' j = some b' → g'.N i k → g'.N j k → i = j)
    (hused : ∀ id, (h' id ≠ none ∨ g'.dead id) → U' id) (hdead : ∀ id, g'.dead id → h' id = none) : HOk w0 O w' S' g' h' U' := by
  refine ⟨?_, hdisj, ?_, hslt, hused, hdead, hfr⟩
  · intro id b hb
    rcases hid id b hb with ⟨hold, eN, eB, eC, hk⟩ | ⟨hnew, _⟩
    · have ho := H.blk id b hold
      obtain ⟨kind, sz, els⟩ := b
      cases kind with
      | box =>
        obtain ⟨ad, cur, e, fr, v, h1, h2, h3, h4, h5, h6, h7, h8, h9, h10, h11⟩ := ho
        refine ⟨ad, cur, e, fr, v, eB.trans h1, h2, h3, (hk _ ((h11 _).2 rfl)).1.trans h4, h5, h6, h7, h8, h9, fun j y c hy hc => tr _ _ (h10 j y c hy hc), fun k => ?_⟩
        rw [eN]; exact h11 k
      | arr =>
        show OW w' _ (.slice (g'.base id) _ (g'.cap id)) (g'.N id) ∧ _
        rw [eN, eB, eC]
        exact ⟨ho.1.mono fun k hN => (hk k hN).1, ho.2⟩
      | opn i =>
        show OW w' _ (.slice (g'.base id) _ (g'.cap id)) (g'.N id) ∧ _
        rw [eN, eB, eC]
        obtain ⟨h1, h2, x, h3, h4, h5⟩ := ho
        refine ⟨h1.mono fun k hN => (hk k hN).1, h2, x, h3, h4, fun ad j y c hb hy hc => tr _ _ (h5 ad j y c hb hy ?_)⟩
        rw [← cell_of_heap (a := ⟨ad.block, _, none⟩) (hk _ (h1.block_mem hb h3)).1]
        exact hc
      | map =>
        obtain ⟨ad, es, clk, l, h1, h2, h3, h4, h5⟩ := ho
        exact ⟨ad, es, clk, l, eB.trans h1, (hk _ ((h5 _).2 rfl)).1.trans h2, h3, h4, fun k => by rw [eN]; exact h5 k⟩
    · exact hnew
  · intro i b k hb hN
    rcases hid i b hb with ⟨hold, eN, eB, eC, hk⟩ | ⟨_, hnew⟩
    · rw [eN] at hN
      exact ⟨(hk k hN).2, (H.own i b k hold hN).2⟩
    · exact hnew k hN

end Go.VM

/- The heap's laws: values inverted, blocks added, taken in, written. -/
set_option linter.unusedVariables false
set_option linter.unusedSimpArgs false
namespace Go.VM
open Go

section inv
variable {w : World} {S : Nat → Prop} {g : G} {h : Heap} {c : Value}
theorem VR.inv_int {k : IntKind} {n : Int} (x : VR w S g h (.int k n) c) : c = .int k n := by
  cases x with
  | rd _ _ hr => cases hr; rfl
  | dead _ id hi _ _ => simp [idsC] at hi
theorem VR.inv_bool {b : Bool} (x : VR w S g h (.bool b) c) : c = .bool b := by
  cases x with
  | rd _ _ hr => cases hr; rfl
  | dead _ id hi _ _ => simp [idsC] at hi
theorem VR.inv_err {b : Bool} (x : VR w S g h (.err b) c) : (b = false ∧ c = .nilIface) ∨ (b = true ∧ ∃ t v, c = .iface t v) := by
  cases x with
  | rd _ _ hr => cases hr with
    | errN => exact .inl ⟨rfl, rfl⟩
    | errS t v => exact .inr ⟨rfl, t, v, rfl⟩
  | dead _ _ hi => simp [idsC] at hi
theorem VR.inv_raw {a : Option Addr} {n k : Nat} (x : VR w S g h (.raw a n k) c) : c = .slice a n k := by
  cases x with
  | rd _ _ hr => cases hr; rfl
  | dead _ _ hi => simp [idsC] at hi
theorem VR.inv_str {l : List UInt8} (x : VR w S g h (.str l) c) : ∃ s : ByteArray, c = .string s ∧ s.data.toList = l := by
  cases x with
  | rd _ _ hr => cases hr with | str s _ h => exact ⟨s, rfl, h⟩
  | dead _ id hi _ _ => simp [idsC] at hi
theorem VR.inv_nils {sz : Nat} (x : VR w S g h (.nils sz) c) : c = .slice none 0 0 := by
  cases x with
  | rd _ _ hr => cases hr
  | nils => rfl
  | dead _ id hi _ _ => simp [idsC] at hi
theorem VR.inv_lst {sz : Nat} {l : List V} (x : VR w S g h (.lst sz l) c) : RD w S (.lst sz l) c := by
  cases x with
  | rd _ _ hr => exact hr
  | dead _ id hi _ _ => simp [idsC] at hi
theorem VR.inv_rptr {v : V} (x : VR w S g h (.rptr v) c) : RD w S (.rptr v) c := by
  cases x with
  | rd _ _ hr => exact hr
  | dead _ id hi _ _ => simp [idsC] at hi
theorem VR.inv_agg {l : List V} (x : VR w S g h (.agg l) c) : ∃ cs : Array Value, c = .agg cs ∧ l.length = cs.size ∧ ∀ (i : Nat) x c, l[i]? = some x → cs[i]? = some c → VR w S g h x c := by
  cases x with
  | rd _ _ hr => cases hr with | agg l cs hl hr => exact ⟨cs, rfl, hl, fun i x c hx hc => .rd _ _ (hr i x c hx hc)⟩
  | dead _ id hi _ _ => simp [idsC] at hi
  | agg l cs hl hr => exact ⟨cs, rfl, hl, hr⟩
theorem VR.inv_tup {l : List V} (x : VR w S g h (.tup l) c) : ∃ cs : Array Value, c = .tuple cs ∧ l.length = cs.size ∧ ∀ (i : Nat) x c, l[i]? = some x → cs[i]? = some c → VR w S g h x c := by
  cases x with
  | rd _ _ hr => cases hr with | tup l cs hl hr => exact ⟨cs, rfl, hl, fun i x c hx hc => .rd _ _ (hr i x c hx hc)⟩
  | dead _ id hi _ _ => simp [idsC] at hi
  | tup l cs hl hr => exact ⟨cs, rfl, hl, hr⟩
theorem VR.inv_fn {f : Nat} {l : List V} (x : VR w S g h (.fn f l) c) : ∃ cs : Array Value, c = .func (.func f) #[] cs ∧ l.length = cs.size ∧ ∀ (i : Nat) x c, l[i]? = some x → cs[i]? = some c → VR w S g h x c := by
  cases x with
  | rd _ _ hr => cases hr with | fn f l cs hl hr => exact ⟨cs, rfl, hl, fun i x c hx hc => .rd _ _ (hr i x c hx hc)⟩
  | dead _ id hi _ _ => simp [idsC] at hi
  | fn f l cs hl hr => exact ⟨cs, rfl, hl, hr⟩
/-- A value that names a live block. -/
theorem VR.inv_own {id sz : Nat} {els : List V} {b0 : BK} (hb : h id = some ⟨b0, sz, els⟩) (hd : ¬ g.dead id) (x : VR w S g h (.own id) c) : b0.isBox = false ∧ c = .slice (g.base id) els.length (g.cap id) := by
  cases x with
  | rd _ _ hr => cases hr
  | dead _ i hi hdd _ => simp [idsC] at hi; exact absurd (hi ▸ hdd) hd
  | own _ sz' k' els' hb' hk' => rw [hb] at hb'; cases hb'; exact ⟨hk', rfl⟩
theorem VR.inv_ptr2 {id idx : Nat} {fld : Option Nat} {b : Blk} (hb : h id = some b) (hd : ¬ g.dead id) (x : VR w S g h (.ptr id idx fld) c) :
    (∃ ad, g.base id = some ad ∧ idx < b.els.length ∧ c = .pointer (some ⟨ad.block, ad.off + (idx * b.sz + fld.getD 0), none⟩)) ∨
    ∃ sz v ad, b = ⟨.map, sz, [v]⟩ ∧ idx = 1 ∧ fld = none ∧ g.base id = some ad ∧ c = .map (some ad.block) := by
  cases x with
  | rd _ _ hr => cases hr
  | dead _ i hi hdd _ => simp [idsC] at hi; exact absurd (hi ▸ hdd) hd
  | ptr _ _ _ b' ad hb' hbase hi => rw [hb] at hb'; cases hb'; exact .inl ⟨ad, hbase, hi, rfl⟩
  | mref _ sz v ad hb' hbase => rw [hb] at hb'; cases hb'; exact .inr ⟨sz, v, ad, rfl, rfl, rfl, hbase, rfl⟩
theorem VR.inv_ptr {id idx : Nat} {fld : Option Nat} {b : Blk} (hb : h id = some b) (hd : ¬ g.dead id) (x : VR w S g h (.ptr id idx fld) c) (hk : b.kind ≠ .map := by simp) :
    ∃ ad, g.base id = some ad ∧ idx < b.els.length ∧ c = .pointer (some ⟨ad.block, ad.off + (idx * b.sz + fld.getD 0), none⟩) := by
  rcases x.inv_ptr2 hb hd with h1 | ⟨sz, v, ad, rfl, _⟩
  · exact h1
  · exact absurd rfl hk
theorem VR.inv_ptrI {id idx : Nat} {fld : Option Nat} {b : Blk} (hb : h id = some b) (hd : ¬ g.dead id) (x : VR w S g h (.ptr id idx fld) c) (hi : idx < b.els.length) :
    ∃ ad, g.base id = some ad ∧ idx < b.els.length ∧ c = .pointer (some ⟨ad.block, ad.off + (idx * b.sz + fld.getD 0), none⟩) := by
  rcases x.inv_ptr2 hb hd with h1 | ⟨sz, v, ad, rfl, rfl, _⟩
  · exact h1
  · simp at hi
theorem VR.inv_map {id sz : Nat} {v : V} (hb : h id = some ⟨.map, sz, [v]⟩) (hd : ¬ g.dead id) (x : VR w S g h (.ptr id 1 none) c) : ∃ ad, g.base id = some ad ∧ c = .map (some ad.block) := by
  rcases x.inv_ptr2 hb hd with ⟨ad, _, h1, _⟩ | ⟨_, _, ad, _, _, _, h1, h2⟩
  · simp at h1
  · exact ⟨ad, h1, h2⟩
theorem VR.inv_win {id lo len sz : Nat} {els : List V} {b0 : BK} (hb : h id = some ⟨b0, sz, els⟩) (hd : ¬ g.dead id) (x : VR w S g h (.win id lo len) c) :
    b0.isBox = false ∧ ((len = 0 ∧ g.cap id = lo ∧ ∃ a, c = .slice a 0 0) ∨ ∃ ad cp, g.base id = some ad ∧ lo + cp = g.cap id ∧ len ≤ cp ∧ c = .slice (some ⟨ad.block, ad.off + lo * sz, none⟩) len cp) := by
  cases x with
  | rd _ _ hr => cases hr
  | dead _ i hi hdd _ => simp [idsC] at hi; exact absurd (hi ▸ hdd) hd
  | win0 _ _ sz' k' els' hb' hk' a hz ha => rw [hb] at hb'; cases hb'; exact ⟨hk', .inl ⟨rfl, hz, a, rfl⟩⟩
  | win _ _ _ sz' cp k' els' ad hb' hk' hbase hc hl => rw [hb] at hb'; cases hb'; exact ⟨hk', .inr ⟨ad, cp, hbase, hc, hl, rfl⟩⟩
theorem VR.inv_winA {id lo len sz : Nat} {els : List V} {b0 : BK} (hb : h id = some ⟨b0, sz, els⟩) (hd : ¬ g.dead id) (x : VR w S g h (.win id lo len) c) :
    b0.isBox = false ∧ ((len = 0 ∧ g.cap id = lo ∧ ∃ a, c = .slice a 0 0 ∧ (lo = 0 → a = g.base id)) ∨ ∃ ad cp, g.base id = some ad ∧ lo + cp = g.cap id ∧ len ≤ cp ∧ c = .slice (some ⟨ad.block, ad.off + lo * sz, none⟩) len cp) := by
  cases x with
  | rd _ _ hr => cases hr
  | dead _ i hi hdd _ => simp [idsC] at hi; exact absurd (hi ▸ hdd) hd
  | win0 _ _ sz' k' els' hb' hk' a hz ha => rw [hb] at hb'; cases hb'; exact ⟨hk', .inl ⟨rfl, hz, a, rfl, ha⟩⟩
  | win _ _ _ sz' cp k' els' ad hb' hk' hbase hc hl => rw [hb] at hb'; cases hb'; exact ⟨hk', .inr ⟨ad, cp, hbase, hc, hl, rfl⟩⟩
/-- The same from the block's beginning on. -/
theorem VR.inv_win0 {id len sz : Nat} {els : List V} {b0 : BK} (hb : h id = some ⟨b0, sz, els⟩) (hd : ¬ g.dead id) (x : VR w S g h (.win id 0 len) c) :
    (len = 0 ∧ g.cap id = 0 ∧ c = .slice (g.base id) 0 0) ∨ ∃ ad, g.base id = some ad ∧ len ≤ g.cap id ∧ c = .slice (some ⟨ad.block, ad.off, none⟩) len (g.cap id) := by
  cases x with
  | rd _ _ hr => cases hr
  | dead _ i hi hdd _ => simp [idsC] at hi; exact absurd (hi ▸ hdd) hd
  | win0 _ _ sz' k' els' hb' hk' a hz ha => exact .inl ⟨rfl, hz, by rw [ha rfl]⟩
  | win _ _ _ sz' cp k' els' ad hb' hk' hbase hc hl =>
    refine .inr ⟨ad, hbase, by omega, ?_⟩
    have : cp = g.cap id := by omega
    subst this
    simp
end inv

theorem HOk.notDead {w0 w : World} {O S : Nat → Prop} {g : G} {h : Heap} {U : Nat → Prop} (H : HOk w0 O w S g h U) {id : Nat} {b : Blk} (hb : h id = some b) : ¬ g.dead id :=
  fun hd => by have := H.dead id hd; rw [hb] at this; cases this

theorem HOk.weak {w0 w : World} {O S : Nat → Prop} {g : G} {h : Heap} {U U' : Nat → Prop} (H : HOk w0 O w S g h U) (hU : ∀ k, U k → U' k) : HOk w0 O w S g h U' :=
  ⟨H.blk, H.disj, H.own, H.slt, fun id hi => hU id (H.used id hi), H.dead, H.fr⟩

/-- The words of the places, with one block told anew. -/
def G.set (g : G) (id : Nat) (base : Option Addr) (cap : Nat) (N : Nat → Prop) : G :=
  { base := fun k => if k = id then base else g.base k, cap := fun k => if k = id then cap else g.cap k, N := fun k => if k = id then N else g.N k, dead := g.dead }

/-- Data of its own is taken in as a local array. -/
theorem HOk.add {w0 w : World} {O S : Nat → Prop} {g : G} {h : Heap} {U : Nat → Prop} (H : HOk w0 O w S g h U) {id sz : Nat} {l : List V} {c : Value} {N : Nat → Prop}
    (how : OW w (.lst sz l) c N) (hU : ¬ U id) (hdis : ∀ j b k, h j = some b → g.N j k → ¬ N k) (hN : ∀ k, N k → ¬ S k ∧ (w0.heap.size ≤ k ∨ O k)) :
    ∃ g', HOk w0 O w S g' (updH h id (some ⟨.arr, sz, l⟩)) (fun k => U k ∨ k = id) ∧ Tr w S g h w S g' (updH h id (some ⟨.arr, sz, l⟩)) ∧
      VR w S g' (updH h id (some ⟨.arr, sz, l⟩)) (.own id) c ∧ g'.N id = N ∧ (∀ j, j ≠ id → g'.N j = g.N j) := by
  obtain ⟨base, cap, rfl, hsp⟩ : ∃ base cap, c = .slice base l.length cap ∧ ∀ ad, base = some ad → ad.spot = none := by
    cases how with
    | lnil => exact ⟨none, 0, rfl, fun ad h => by cases h⟩
    | lst sz l ad cap cur e fr f g hsp hb hfr hlen hcap hmax hsz hok hc hr hself hdis => exact ⟨some ad, cap, rfl, fun ad' h => by cases h; exact hsp⟩
  have hnone : h id = none := by
    cases hh : h id with
    | none => rfl
    | some b => exact absurd (H.used id (.inl (by simp [hh]))) hU
  have hndead : ¬ g.dead id := fun hd => hU (H.used id (.inr hd))
  have tr : Tr w S g h w S (g.set id base cap N) (updH h id (some ⟨.arr, sz, l⟩)) := by
    refine Tr.of (fun _ _ => rfl) (fun _ h => h) (fun _ h => h) fun j b hb => .inr ⟨b, ?_, rfl, rfl, rfl, ?_, ?_⟩
    all_goals
      have hne : j ≠ id := fun e => by rw [e, hnone] at hb; cases hb
      simp [updH, G.set, hne, hb]
  refine ⟨g.set id base cap N, H.change tr H.fr H.slt ?_ ?_ ?_ ?_, tr, ?_, by simp [G.set], fun j hj => by simp [G.set, hj]⟩
  · intro j b hb
    by_cases hj : j = id
    · subst hj
      simp [updH] at hb
      subst hb
      refine .inr ⟨⟨by simpa [G.set] using how, by simpa [G.set] using hsp⟩, fun k hk => hN k (by simpa [G.set] using hk)⟩
    · simp only [updH, hj, if_false] at hb
      refine .inl ⟨hb, by simp [G.set, hj], by simp [G.set, hj], by simp [G.set, hj], fun k hk => ⟨rfl, (H.own j b k hb hk).1⟩⟩
  · intro i j b b' k hi hj hNi hNj
    by_cases ei : i = id <;> by_cases ej : j = id
    · rw [ei, ej]
    · simp only [updH, ej, if_false] at hj
      simp only [G.set, ei, ej, if_true, if_false] at hNi hNj
      exact absurd hNi (hdis j b' k hj hNj)
    · simp only [updH, ei, if_false] at hi
      simp only [G.set, ei, ej, if_true, if_false] at hNi hNj
      exact absurd hNj (hdis i b k hi hNi)
    · simp only [updH, ei, ej, if_false] at hi hj
      simp only [G.set, ei, ej, if_false] at hNi hNj
      exact H.disj i j b b' k hi hj hNi hNj
  · rintro j (hj | hj)
    · by_cases e : j = id
      · exact .inr e
      · simp only [updH, e, if_false] at hj
        exact .inl (H.used j (.inl hj))
    · exact .inl (H.used j (.inr hj))
  · intro j hj
    have e : j ≠ id := fun e => hndead (e ▸ hj)
    simp only [updH, e, if_false]
    exact H.dead j hj
  · have := VR.own (w := w) (S := S) (g := g.set id base cap N) (h := updH h id (some ⟨.arr, sz, l⟩)) id sz .arr l (by simp [updH]) rfl
    simpa [G.set] using this

/-- A block is laid anew in memory: nothing else turns. -/
theorem Fr.alloc {w0 w : World} {O : Nat → Prop} (h : Fr w0 w O) (o : Obj) : Fr w0 (w.alloc o) O :=
  ⟨h.os, h.tape, h.output, by have := h.size; rw [World.size_alloc]; omega, fun k hk hn => by
    have := h.size
    rw [← h.block k hk hn]
    show (w.heap.push o)[k]? = _
    rw [Array.getElem?_push, if_neg (by omega)]⟩
theorem Fr.drew {w0 w : World} {O : Nat → Prop} (h : Fr w0 w O) (n : Nat) : Fr w0 { w with drawn := n } O := ⟨h.os, h.tape, h.output, h.size, h.block⟩

theorem heap_alloc_old' (w : World) (o : Obj) (k : Nat) (hk : k < w.heap.size) : (w.alloc o).heap[k]? = w.heap[k]? := by
  show (w.heap.push o)[k]? = _
  rw [Array.getElem?_push, if_neg (by omega)]
theorem heap_alloc_new' (w : World) (o : Obj) : (w.alloc o).heap[w.heap.size]? = some o := by
  show (w.heap.push o)[w.heap.size]? = _
  simp

/-- The world has grown by one block that no one names. -/
theorem HOk.alloc {w0 w : World} {O S : Nat → Prop} {g : G} {h : Heap} {U : Nat → Prop} (H : HOk w0 O w S g h U) (o : Obj) :
    HOk w0 O (w.alloc o) S g h U ∧ Tr w S g h (w.alloc o) S g h := by
  have hl : ∀ i b k, h i = some b → g.N i k → k < w.heap.size := by
    intro i b k hb hN
    have hB := H.blk i b hb
    obtain ⟨kind, sz, els⟩ := b
    cases kind with
    | box =>
      obtain ⟨ad, cur, e, fr, v, h1, h2, h3, h4, h5, h6, h7, h8, h9, h10, h11⟩ := hB
      rw [(h11 k).1 hN]; exact lt_of_heap h4
    | arr => exact hB.1.lt k hN
    | opn i => exact hB.1.lt k hN
    | map =>
      obtain ⟨ad, es, clk, l, h1, h2, h3, h4, h5⟩ := hB
      rw [(h5 k).1 hN]; exact lt_of_heap h2
  have tr : Tr w S g h (w.alloc o) S g h := Tr.of (fun k hk => heap_alloc_old' w o k (H.slt k hk)) (fun _ h => h) (fun _ h => h) fun j b hb => .inr ⟨b, hb, rfl, rfl, rfl, rfl, rfl⟩
  refine ⟨H.change tr (H.fr.alloc o) (fun k hk => by have := H.slt k hk; rw [World.size_alloc]; omega) ?_ H.disj H.used H.dead, tr⟩
  intro id b hb
  exact .inl ⟨hb, rfl, rfl, rfl, fun k hk => ⟨heap_alloc_old' w o k (hl id b k hb hk), (H.own id b k hb hk).1⟩⟩
theorem HOk.drew {w0 w : World} {O S : Nat → Prop} {g : G} {h : Heap} {U : Nat → Prop} (H : HOk w0 O w S g h U) (n : Nat) :
    HOk w0 O { w with drawn := n } S g h U ∧ Tr w S g h { w with drawn := n } S g h := by
  have tr : Tr w S g h { w with drawn := n } S g h := Tr.of (fun _ _ => rfl) (fun _ h => h) (fun _ h => h) fun j b hb => .inr ⟨b, hb, rfl, rfl, rfl, rfl, rfl⟩
  exact ⟨H.change tr (H.fr.drew n) H.slt (fun id b hb => .inl ⟨hb, rfl, rfl, rfl, fun k hk => ⟨rfl, (H.own id b k hb hk).1⟩⟩) H.disj H.used H.dead, tr⟩

theorem HOk.lt {w0 w : World} {O S : Nat → Prop} {g : G} {h : Heap} {U : Nat → Prop} (H : HOk w0 O w S g h U) : ∀ i b k, h i = some b → g.N i k → k < w.heap.size := by
  intro i b k hb hN
  have hB := H.blk i b hb
  obtain ⟨kind, sz, els⟩ := b
  cases kind with
  | box =>
    obtain ⟨ad, cur, e, fr, v, h1, h2, h3, h4, h5, h6, h7, h8, h9, h10, h11⟩ := hB
    rw [(h11 k).1 hN]; exact lt_of_heap h4
  | arr => exact hB.1.lt k hN
  | opn i => exact hB.1.lt k hN
  | map =>
    obtain ⟨ad, es, clk, l, h1, h2, h3, h4, h5⟩ := hB
    rw [(h5 k).1 hN]; exact lt_of_heap h2

/-- A new box for a value. -/
theorem HOk.newBox {w0 w : World} {O S : Nat → Prop} {g : G} {h : Heap} {U : Nat → Prop} (H : HOk w0 O w S g h U) {id : Nat} {v : V} {cs : Array Value} (t : TypeId)
    (hU : ¬ U id) (hv : boxableA v = true) (hsz : cs.size = v.cells.length) (hr : ∀ (j : Nat) y c, v.cells[j]? = some y → cs[j]? = some c → VR w S g h y c) :
    ∃ g', HOk w0 O (w.alloc (.cells cs t)) S g' (updH h id (some ⟨.box, v.cells.length, [v]⟩)) (fun k => U k ∨ k = id) ∧
      Tr w S g h (w.alloc (.cells cs t)) S g' (updH h id (some ⟨.box, v.cells.length, [v]⟩)) ∧
      VR (w.alloc (.cells cs t)) S g' (updH h id (some ⟨.box, v.cells.length, [v]⟩)) (.ptr id 0 none) (.pointer (some ⟨w.heap.size, 0, none⟩)) := by
  have hnone : h id = none := by
    cases hh : h id with
    | none => rfl
    | some b => exact absurd (H.used id (.inl (by simp [hh]))) hU
  have hndead : ¬ g.dead id := fun hd => hU (H.used id (.inr hd))
  obtain ⟨Ha, tra⟩ := H.alloc (.cells cs t)
  let g' := g.set id (some ⟨w.heap.size, 0, none⟩) 0 (fun k => k = w.heap.size)
  have tr : Tr (w.alloc (.cells cs t)) S g h (w.alloc (.cells cs t)) S g' (updH h id (some ⟨.box, v.cells.length, [v]⟩)) := by
    refine Tr.of (fun _ _ => rfl) (fun _ h => h) (fun _ h => h) fun j b hb => .inr ⟨b, ?_, rfl, rfl, rfl, ?_, ?_⟩
    all_goals
      have hne : j ≠ id := fun e => by rw [e, hnone] at hb; cases hb
      simp [updH, g', G.set, hne, hb]
  refine ⟨g', Ha.change tr Ha.fr Ha.slt ?_ ?_ ?_ ?_, tra.trans tr, ?_⟩
  · intro j b hb
    by_cases hj : j = id
    · subst hj
      simp [updH] at hb
      subst hb
      refine .inr ⟨⟨⟨w.heap.size, 0, none⟩, cs, t, (0, 0), v, by simp [g', G.set], rfl, rfl, heap_alloc_new' w _, .new, rfl, rfl, hsz, hv, fun j y c hy hc => tr _ _ (tra _ _ (hr j y c hy hc)), fun k => by simp [g', G.set]⟩, fun k hk => ?_⟩
      have hk' : k = w.heap.size := by simpa [g', G.set] using hk
      subst hk'
      exact ⟨fun hS => by have := H.slt _ hS; omega, .inl H.fr.size⟩
    · simp only [updH, hj, if_false] at hb
      refine .inl ⟨hb, by simp [g', G.set, hj], by simp [g', G.set, hj], by simp [g', G.set, hj], fun k hk => ⟨rfl, (Ha.own j b k hb hk).1⟩⟩
  · intro i j b b' k hi hj hNi hNj
    by_cases ei : i = id <;> by_cases ej : j = id
    · rw [ei, ej]
    · simp only [updH, ej, if_false] at hj
      simp only [g', G.set, ei, ej, if_true, if_false] at hNi hNj
      have := H.lt j b' k hj hNj
      omega
    · simp only [updH, ei, if_false] at hi
      simp only [g', G.set, ei, ej, if_true, if_false] at hNi hNj
      have := H.lt i b k hi hNi
      omega
    · simp only [updH, ei, ej, if_false] at hi hj
      simp only [g', G.set, ei, ej, if_false] at hNi hNj
      exact H.disj i j b b' k hi hj hNi hNj
  · rintro j (hj | hj)
    · by_cases e : j = id
      · exact .inr e
      · simp only [updH, e, if_false] at hj
        exact .inl (H.used j (.inl hj))
    · exact .inl (H.used j (.inr hj))
  · intro j hj
    have e : j ≠ id := fun e => hndead (e ▸ hj)
    simp only [updH, e, if_false]
    exact H.dead j hj
  · have := VR.ptr (w := w.alloc (.cells cs t)) (S := S) (g := g') (h := updH h id (some ⟨.box, v.cells.length, [v]⟩)) id 0 none ⟨.box, v.cells.length, [v]⟩ ⟨w.heap.size, 0, none⟩ (by simp [updH]) (by simp [g', G.set]) (by simp)
    simpa using this

end Go.VM

/- A fresh result is taken in: its lists become local arrays. -/
set_option linter.unusedVariables false
set_option linter.unusedSimpArgs false
namespace Go.VM
open Go

theorem updsH_append (h : Heap) : ∀ (a b : List (Nat × Option Blk)), updsH h (a ++ b) = updsH (updsH h a) b
  | [], _ => rfl
  | (i, x) :: a, b => by simp only [List.cons_append, updsH]; exact updsH_append _ a b

/-- What is known behind a step that takes in: the ids from n on, m of them, may be used. -/
structure Took (w0 : World) (O : Nat → Prop) (w : World) (S : Nat → Prop) (g : G) (h : Heap) (U : Nat → Prop) (n m : Nat) (N : Nat → Prop) (h' : Heap) (g' : G) : Prop where
  ok : HOk w0 O w S g' h' (fun k => U k ∨ (n ≤ k ∧ k < n + m))
  tr : Tr w S g h w S g' h'
  live : ∀ j b k, h' j = some b → g'.N j k → (∃ b0, h j = some b0 ∧ g.N j k) ∨ N k

theorem took_refl {w0 w : World} {O S : Nat → Prop} {g : G} {h : Heap} {U : Nat → Prop} (H : HOk w0 O w S g h U) (n m : Nat) (N : Nat → Prop) : Took w0 O w S g h U n m N h g :=
  ⟨H.weak fun _ hk => .inl hk, Tr.refl _ _ _ _, fun j b _ hb hN => .inl ⟨b, hb, hN⟩⟩

theorem adC_ok {w0 w : World} {O S : Nat → Prop} {g : G} {h : Heap} {U : Nat → Prop} (H : HOk w0 O w S g h U) {n m : Nat} (hm : 0 < m) {v : V} {c : Value} {N : Nat → Prop}
    (how : OW w v c N) (hU : ∀ k, n ≤ k → k < n + m → ¬ U k) (hdis : ∀ j b k, h j = some b → g.N j k → ¬ N k) (hN : ∀ k, N k → ¬ S k ∧ (w0.heap.size ≤ k ∨ O k)) :
    ∃ g', Took w0 O w S g h U n m N (updsH h (adC n v).2) g' ∧ VR w S g' (updsH h (adC n v).2) (adC n v).1 c := by
  cases v with
  | lst sz l =>
    obtain ⟨g', H', tr, hv, e1, e2⟩ := H.add how (hU n (Nat.le_refl _) (by omega)) hdis hN
    refine ⟨g', ⟨H'.weak ?_, tr, ?_⟩, hv⟩
    · rintro k (hk | rfl)
      · exact .inl hk
      · exact .inr ⟨Nat.le_refl _, by omega⟩
    · intro j b k hb hNk
      by_cases hj : j = n
      · subst hj; rw [e1] at hNk; exact .inr hNk
      · rw [e2 j hj] at hNk
        simp only [adC, updsH, updH, hj, if_false] at hb
        exact .inl ⟨b, hb, hNk⟩
  | int k x => exact ⟨g, took_refl H n m N, .rd _ _ (by cases how; exact .int _ _)⟩
  | bool b => exact ⟨g, took_refl H n m N, .rd _ _ (by cases how; exact .bool _)⟩
  | str s => exact ⟨g, took_refl H n m N, .rd _ _ (by cases how with | str s _ h => exact .str _ _ h)⟩
  | raw a k c => exact ⟨g, took_refl H n m N, .rd _ _ (by cases how; exact .raw _ _ _)⟩
  | err b => exact ⟨g, took_refl H n m N, .rd _ _ (by cases how with | errN => exact .errN | errS t v => exact .errS t v)⟩
  | _ => exact ⟨g, took_refl H n m N, .undef _⟩

theorem Took.trans {w0 w : World} {O S : Nat → Prop} {g g1 g2 : G} {h h1 h2 : Heap} {U : Nat → Prop} {n a b : Nat} {N N1 N2 : Nat → Prop}
    (t1 : Took w0 O w S g h U n a N1 h1 g1) (t2 : Took w0 O w S g1 h1 (fun k => U k ∨ (n ≤ k ∧ k < n + a)) (n + a) b N2 h2 g2) (h1N : ∀ k, N1 k → N k) (h2N : ∀ k, N2 k → N k) : Took w0 O w S g h U n (a + b) N h2 g2 := by
  refine ⟨t2.ok.weak ?_, t1.tr.trans t2.tr, ?_⟩
  · rintro k ((hk | hk) | hk)
    · exact .inl hk
    · exact .inr ⟨hk.1, by omega⟩
    · exact .inr ⟨by omega, by omega⟩
  · intro j x k hx hN
    rcases t2.live j x k hx hN with ⟨b0, hb0, hN0⟩ | hN0
    · rcases t1.live j b0 k hb0 hN0 with h3 | h3
      · exact .inl h3
      · exact .inr (h1N k h3)
    · exact .inr (h2N k hN0)

theorem adL_ok {w0 w : World} {O S : Nat → Prop} (w1 : Nat) (adX : Nat → V → V × List (Nat × Option Blk)) (adXL : Nat → List V → List V × List (Nat × Option Blk))
    (h0 : ∀ n, adXL n [] = ([], [])) (hc : ∀ n x l, adXL n (x :: l) = ((adX n x).1 :: (adXL (n + w1) l).1, (adX n x).2 ++ (adXL (n + w1) l).2))
    (hX : ∀ {g : G} {h : Heap} {U : Nat → Prop} (_ : HOk w0 O w S g h U) {n : Nat} {v : V} {c : Value} {N : Nat → Prop}
      (_ : OW w v c N) (_ : ∀ k, n ≤ k → k < n + w1 → ¬ U k) (_ : ∀ j b k, h j = some b → g.N j k → ¬ N k) (_ : ∀ k, N k → ¬ S k ∧ (w0.heap.size ≤ k ∨ O k)),
      ∃ g', Took w0 O w S g h U n w1 N (updsH h (adX n v).2) g' ∧ VR w S g' (updsH h (adX n v).2) (adX n v).1 c) :
    ∀ (l : List V) {g : G} {h : Heap} {U : Nat → Prop} (_ : HOk w0 O w S g h U) {n : Nat} {cs : List Value} {Ns : Nat → Nat → Prop}
      (_ : l.length = cs.length) (_ : ∀ (i : Nat) x c, l[i]? = some x → cs[i]? = some c → OW w x c (Ns i)) (_ : ∀ i j k, i < l.length → j < l.length → Ns i k → Ns j k → i = j)
      (_ : ∀ k, n ≤ k → k < n + w1 * l.length → ¬ U k) (_ : ∀ i j b k, i < l.length → h j = some b → g.N j k → ¬ Ns i k) (_ : ∀ i k, i < l.length → Ns i k → ¬ S k ∧ (w0.heap.size ≤ k ∨ O k)),
      ∃ g', Took w0 O w S g h U n (w1 * l.length) (fun k => ∃ i, i < l.length ∧ Ns i k) (updsH h (adXL n l).2) g' ∧ (adXL n l).1.length = l.length ∧
        ∀ (i : Nat) x c, (adXL n l).1[i]? = some x → cs[i]? = some c → VR w S g' (updsH h (adXL n l).2) x c := by
  intro l
  induction l with
  | nil =>
    intro g h U H n cs Ns hl hr hd hU hdis hN
    rw [h0]
    exact ⟨g, took_refl H n _ _, rfl, fun i x c hx => by simp at hx⟩
  | cons x l ih =>
    intro g h U H n cs Ns hl hr hd hU hdis hN
    cases cs with
    | nil => simp at hl
    | cons c cs =>
      simp only [List.length_cons] at hU hd hN hdis ⊢
      obtain ⟨g1, t1, v1⟩ := hX H (n := n) (hr 0 x c rfl rfl) (fun k h1 h2 => hU k h1 (by rw [Nat.mul_add]; omega)) (fun j b k => hdis 0 j b k (by omega)) (fun k => hN 0 k (by omega))
      obtain ⟨g2, t2, hlen, v2⟩ := ih t1.ok (n := n + w1) (cs := cs) (Ns := fun i => Ns (i + 1)) (by simpa using hl) (fun i x c hx hc => hr (i + 1) x c (by simpa using hx) (by simpa using hc))
        (fun i j k hi hj h1 h2 => by have := hd (i + 1) (j + 1) k (by omega) (by omega) h1 h2; omega)
        (fun k h1 h2 => by
          rintro (hk | hk)
          · exact hU k (by omega) (by rw [Nat.mul_add]; omega) hk
          · omega)
        (fun i j b k hi hb hNk hNi => by
          rcases t1.live j b k hb hNk with ⟨b0, hb0, hN0⟩ | hN0
          · exact hdis (i + 1) j b0 k (by omega) hb0 hN0 hNi
          · have := hd 0 (i + 1) k (by omega) (by omega) hN0 hNi
            omega)
        (fun i k hi => hN (i + 1) k (by omega))
      refine ⟨g2, ?_, by rw [hc]; simp [hlen], ?_⟩
      · rw [hc, updsH_append, Nat.mul_add, Nat.mul_one, Nat.add_comm (w1 * l.length)]
        refine t1.trans t2 (fun k hk => ⟨0, by omega, hk⟩) ?_
        rintro k ⟨i, hi, hk⟩
        exact ⟨i + 1, by omega, hk⟩
      · intro i y d hy hd'
        rw [hc, updsH_append]
        rw [hc] at hy
        cases i with
        | zero =>
          simp only [List.getElem?_cons_zero, Option.some.injEq] at hy hd'
          subst hy hd'
          exact t2.tr _ _ v1
        | succ i =>
          simp only [List.getElem?_cons_succ] at hy hd'
          exact v2 i y d hy hd'

theorem adA_ok {w0 w : World} {O S : Nat → Prop} {g : G} {h : Heap} {U : Nat → Prop} (H : HOk w0 O w S g h U) {n : Nat} {v : V} {c : Value} {N : Nat → Prop}
    (how : OW w v c N) (hU : ∀ k, n ≤ k → k < n + 16 → ¬ U k) (hdis : ∀ j b k, h j = some b → g.N j k → ¬ N k) (hN : ∀ k, N k → ¬ S k ∧ (w0.heap.size ≤ k ∨ O k)) :
    ∃ g', Took w0 O w S g h U n 16 N (updsH h (adA n v).2) g' ∧ VR w S g' (updsH h (adA n v).2) (adA n v).1 c := by
  cases v with
  | agg l =>
    simp only [adA]
    split
    · rename_i h16
      cases how with
      | agg _ cs Ns hl hr hd =>
        obtain ⟨g', t, hlen, hv⟩ := adL_ok 1 adC adL (fun _ => rfl) (fun _ _ _ => rfl) (@fun g h U H' n v c N a b d e => adC_ok (m := 1) H' (by omega) a b d e) l H (n := n) (cs := cs.toList) (Ns := Ns) (by simpa using hl)
          (fun i x c hx hc => hr i x c hx (by simpa using hc)) (fun i j k hi hj => hd i j k hi hj) (fun k h1 h2 => hU k h1 (by omega))
          (fun i j b k hi hb hNk hNi => hdis j b k hb hNk ⟨i, hi, hNi⟩) (fun i k hi hk => hN k ⟨i, hi, hk⟩)
        refine ⟨g', ⟨t.ok.weak ?_, t.tr, t.live⟩, .agg _ _ (by rw [hlen]; exact hl) fun i x c hx hc => hv i x c hx (by simpa using hc)⟩
        rintro k (hk | hk)
        · exact .inl hk
        · exact .inr ⟨hk.1, by omega⟩
    · exact ⟨g, took_refl H n 16 N, .undef _⟩
  | _ => exact adC_ok H (by omega) how hU hdis hN

theorem adT_ok {w0 w : World} {O S : Nat → Prop} {g : G} {h : Heap} {U : Nat → Prop} (H : HOk w0 O w S g h U) {n : Nat} {v : V} {c : Value} {N : Nat → Prop}
    (how : OW w v c N) (hU : ∀ k, n ≤ k → k < n + stride → ¬ U k) (hdis : ∀ j b k, h j = some b → g.N j k → ¬ N k) (hN : ∀ k, N k → ¬ S k ∧ (w0.heap.size ≤ k ∨ O k)) :
    ∃ g', Took w0 O w S g h U n stride N (updsH h (adT n v).2) g' ∧ VR w S g' (updsH h (adT n v).2) (adT n v).1 c := by
  have lift : ∀ {h' g'} {m : Nat}, m ≤ stride → Took w0 O w S g h U n m N h' g' → Took w0 O w S g h U n stride N h' g' := fun hm t =>
    ⟨t.ok.weak (by rintro k (hk | hk); exact .inl hk; exact .inr ⟨hk.1, by omega⟩), t.tr, t.live⟩
  cases v with
  | tup l =>
    simp only [adT]
    split
    · rename_i h16
      cases how with
      | tup _ cs Ns hl hr hd =>
        obtain ⟨g', t, hlen, hv⟩ := adL_ok 16 adA adTL (fun _ => rfl) (fun _ _ _ => rfl) (@fun g h U H' n v c N a b d e => adA_ok H' a b d e) l H (n := n) (cs := cs.toList) (Ns := Ns) (by simpa using hl)
          (fun i x c hx hc => hr i x c hx (by simpa using hc)) (fun i j k hi hj => hd i j k hi hj) (fun k h1 h2 => hU k h1 (by simp only [stride]; omega))
          (fun i j b k hi hb hNk hNi => hdis j b k hb hNk ⟨i, hi, hNi⟩) (fun i k hi hk => hN k ⟨i, hi, hk⟩)
        exact ⟨g', lift (by simp only [stride]; omega) t, .tup _ _ (by rw [hlen]; exact hl) fun i x c hx hc => hv i x c hx (by simpa using hc)⟩
    · exact ⟨g, took_refl H n stride N, .undef _⟩
  | _ =>
    obtain ⟨g', t, hv⟩ := adA_ok H how (fun k h1 h2 => hU k h1 (by simp only [stride]; omega)) hdis hN
    exact ⟨g', lift (by simp only [stride]; omega) t, hv⟩

end Go.VM

