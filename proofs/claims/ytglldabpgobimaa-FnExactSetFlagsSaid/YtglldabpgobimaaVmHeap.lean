/- The heap's laws: values inverted, blocks added, taken in, written. -/
import Derived.Test.YtglldabpgobimaaVmRel
set_option linter.unusedVariables false
set_option linter.unusedSimpArgs false
namespace Go.VM
open Go

section inv
variable {w : World} {S : Nat → Prop} {g : G} {h : Heap} {c : Value}
theorem VR.inv_int {k : IntKind} {n : Int} (x : VR w S g h (.int k n) c) : c = .int k n := by
  cases x with
  | rd _ _ hr => cases hr; rfl
  | dead _ id hi _ _ => simp [idsC] at hi
theorem VR.inv_bool {b : Bool} (x : VR w S g h (.bool b) c) : c = .bool b := by
  cases x with
  | rd _ _ hr => cases hr; rfl
  | dead _ id hi _ _ => simp [idsC] at hi
theorem VR.inv_str {l : List UInt8} (x : VR w S g h (.str l) c) : ∃ s : ByteArray, c = .string s ∧ s.data.toList = l := by
  cases x with
  | rd _ _ hr => cases hr with | str s _ h => exact ⟨s, rfl, h⟩
  | dead _ id hi _ _ => simp [idsC] at hi
theorem VR.inv_nils {sz : Nat} (x : VR w S g h (.nils sz) c) : c = .slice none 0 0 := by
  cases x with
  | rd _ _ hr => cases hr
  | nils => rfl
  | dead _ id hi _ _ => simp [idsC] at hi
theorem VR.inv_lst {sz : Nat} {l : List V} (x : VR w S g h (.lst sz l) c) : RD w S (.lst sz l) c := by
  cases x with
  | rd _ _ hr => exact hr
  | dead _ id hi _ _ => simp [idsC] at hi
theorem VR.inv_rptr {v : V} (x : VR w S g h (.rptr v) c) : RD w S (.rptr v) c := by
  cases x with
  | rd _ _ hr => exact hr
  | dead _ id hi _ _ => simp [idsC] at hi
theorem VR.inv_agg {l : List V} (x : VR w S g h (.agg l) c) : ∃ cs : Array Value, c = .agg cs ∧ l.length = cs.size ∧ ∀ (i : Nat) x c, l[i]? = some x → cs[i]? = some c → VR w S g h x c := by
  cases x with
  | rd _ _ hr => cases hr with | agg l cs hl hr => exact ⟨cs, rfl, hl, fun i x c hx hc => .rd _ _ (hr i x c hx hc)⟩
  | dead _ id hi _ _ => simp [idsC] at hi
  | agg l cs hl hr => exact ⟨cs, rfl, hl, hr⟩
theorem VR.inv_tup {l : List V} (x : VR w S g h (.tup l) c) : ∃ cs : Array Value, c = .tuple cs ∧ l.length = cs.size ∧ ∀ (i : Nat) x c, l[i]? = some x → cs[i]? = some c → VR w S g h x c := by
  cases x with
  | rd _ _ hr => cases hr with | tup l cs hl hr => exact ⟨cs, rfl, hl, fun i x c hx hc => .rd _ _ (hr i x c hx hc)⟩
  | dead _ id hi _ _ => simp [idsC] at hi
  | tup l cs hl hr => exact ⟨cs, rfl, hl, hr⟩
theorem VR.inv_fn {f : Nat} {l : List V} (x : VR w S g h (.fn f l) c) : ∃ cs : Array Value, c = .func (.func f) #[] cs ∧ l.length = cs.size ∧ ∀ (i : Nat) x c, l[i]? = some x → cs[i]? = some c → VR w S g h x c := by
  cases x with
  | rd _ _ hr => cases hr with | fn f l cs hl hr => exact ⟨cs, rfl, hl, fun i x c hx hc => .rd _ _ (hr i x c hx hc)⟩
  | dead _ id hi _ _ => simp [idsC] at hi
  | fn f l cs hl hr => exact ⟨cs, rfl, hl, hr⟩
/-- A value that names a live block. -/
theorem VR.inv_own {id sz : Nat} {els : List V} {b0 : BK} (hb : h id = some ⟨b0, sz, els⟩) (hd : ¬ g.dead id) (x : VR w S g h (.own id) c) : b0 = .arr ∧ c = .slice (g.base id) els.length (g.cap id) := by
  cases x with
  | rd _ _ hr => cases hr
  | dead _ i hi hdd _ => simp [idsC] at hi; exact absurd (hi ▸ hdd) hd
  | own _ sz' els' hb' => rw [hb] at hb'; cases hb'; exact ⟨rfl, rfl⟩
theorem VR.inv_ptr {id idx : Nat} {fld : Option Nat} {b : Blk} (hb : h id = some b) (hd : ¬ g.dead id) (x : VR w S g h (.ptr id idx fld) c) :
    ∃ ad, g.base id = some ad ∧ idx < b.els.length ∧ c = .pointer (some ⟨ad.block, ad.off + (idx * b.sz + fld.getD 0), none⟩) := by
  cases x with
  | rd _ _ hr => cases hr
  | dead _ i hi hdd _ => simp [idsC] at hi; exact absurd (hi ▸ hdd) hd
  | ptr _ _ _ b' ad hb' hbase hi => rw [hb] at hb'; cases hb'; exact ⟨ad, hbase, hi, rfl⟩
theorem VR.inv_win {id lo len sz : Nat} {els : List V} {b0 : BK} (hb : h id = some ⟨b0, sz, els⟩) (hd : ¬ g.dead id) (x : VR w S g h (.win id lo len) c) :
    b0 = .arr ∧ ((len = 0 ∧ g.cap id = lo ∧ ∃ a, c = .slice a 0 0) ∨ ∃ ad cp, g.base id = some ad ∧ lo + cp = g.cap id ∧ len ≤ cp ∧ c = .slice (some ⟨ad.block, ad.off + lo * sz, none⟩) len cp) := by
  cases x with
  | rd _ _ hr => cases hr
  | dead _ i hi hdd _ => simp [idsC] at hi; exact absurd (hi ▸ hdd) hd
  | win0 _ _ sz' els' hb' a hz ha => rw [hb] at hb'; cases hb'; exact ⟨rfl, .inl ⟨rfl, hz, a, rfl⟩⟩
  | win _ _ _ sz' cp els' ad hb' hbase hc hl => rw [hb] at hb'; cases hb'; exact ⟨rfl, .inr ⟨ad, cp, hbase, hc, hl, rfl⟩⟩
theorem VR.inv_winA {id lo len sz : Nat} {els : List V} {b0 : BK} (hb : h id = some ⟨b0, sz, els⟩) (hd : ¬ g.dead id) (x : VR w S g h (.win id lo len) c) :
    b0 = .arr ∧ ((len = 0 ∧ g.cap id = lo ∧ ∃ a, c = .slice a 0 0 ∧ (lo = 0 → a = g.base id)) ∨ ∃ ad cp, g.base id = some ad ∧ lo + cp = g.cap id ∧ len ≤ cp ∧ c = .slice (some ⟨ad.block, ad.off + lo * sz, none⟩) len cp) := by
  cases x with
  | rd _ _ hr => cases hr
  | dead _ i hi hdd _ => simp [idsC] at hi; exact absurd (hi ▸ hdd) hd
  | win0 _ _ sz' els' hb' a hz ha => rw [hb] at hb'; cases hb'; exact ⟨rfl, .inl ⟨rfl, hz, a, rfl, ha⟩⟩
  | win _ _ _ sz' cp els' ad hb' hbase hc hl => rw [hb] at hb'; cases hb'; exact ⟨rfl, .inr ⟨ad, cp, hbase, hc, hl, rfl⟩⟩
/-- The same from the block's beginning on. -/
theorem VR.inv_win0 {id len sz : Nat} {els : List V} {b0 : BK} (hb : h id = some ⟨b0, sz, els⟩) (hd : ¬ g.dead id) (x : VR w S g h (.win id 0 len) c) :
    (len = 0 ∧ g.cap id = 0 ∧ c = .slice (g.base id) 0 0) ∨ ∃ ad, g.base id = some ad ∧ len ≤ g.cap id ∧ c = .slice (some ⟨ad.block, ad.off, none⟩) len (g.cap id) := by
  cases x with
  | rd _ _ hr => cases hr
  | dead _ i hi hdd _ => simp [idsC] at hi; exact absurd (hi ▸ hdd) hd
  | win0 _ _ sz' els' hb' a hz ha => exact .inl ⟨rfl, hz, by rw [ha rfl]⟩
  | win _ _ _ sz' cp els' ad hb' hbase hc hl =>
    refine .inr ⟨ad, hbase, by omega, ?_⟩
    have : cp = g.cap id := by omega
    subst this
    simp
end inv

theorem HOk.notDead {w0 w : World} {O S : Nat → Prop} {g : G} {h : Heap} {U : Nat → Prop} (H : HOk w0 O w S g h U) {id : Nat} {b : Blk} (hb : h id = some b) : ¬ g.dead id :=
  fun hd => by have := H.dead id hd; rw [hb] at this; cases this

theorem HOk.weak {w0 w : World} {O S : Nat → Prop} {g : G} {h : Heap} {U U' : Nat → Prop} (H : HOk w0 O w S g h U) (hU : ∀ k, U k → U' k) : HOk w0 O w S g h U' :=
  ⟨H.blk, H.disj, H.own, H.slt, fun id hi => hU id (H.used id hi), H.dead, H.fr⟩

/-- The words of the places, with one block told anew. -/
def G.set (g : G) (id : Nat) (base : Option Addr) (cap : Nat) (N : Nat → Prop) : G :=
  { base := fun k => if k = id then base else g.base k, cap := fun k => if k = id then cap else g.cap k, N := fun k => if k = id then N else g.N k, dead := g.dead }

/-- Data of its own is taken in as a local array. -/
theorem HOk.add {w0 w : World} {O S : Nat → Prop} {g : G} {h : Heap} {U : Nat → Prop} (H : HOk w0 O w S g h U) {id sz : Nat} {l : List V} {c : Value} {N : Nat → Prop}
    (how : OW w (.lst sz l) c N) (hU : ¬ U id) (hdis : ∀ j b k, h j = some b → g.N j k → ¬ N k) (hN : ∀ k, N k → ¬ S k ∧ (w0.heap.size ≤ k ∨ O k)) :
    ∃ g', HOk w0 O w S g' (updH h id (some ⟨.arr, sz, l⟩)) (fun k => U k ∨ k = id) ∧ Tr w S g h w S g' (updH h id (some ⟨.arr, sz, l⟩)) ∧
      VR w S g' (updH h id (some ⟨.arr, sz, l⟩)) (.own id) c ∧ g'.N id = N ∧ (∀ j, j ≠ id → g'.N j = g.N j) := by
  obtain ⟨base, cap, rfl, hsp⟩ : ∃ base cap, c = .slice base l.length cap ∧ ∀ ad, base = some ad → ad.spot = none := by
    cases how with
    | lnil => exact ⟨none, 0, rfl, fun ad h => by cases h⟩
    | lst sz l ad cap cur e fr f g hsp hb hfr hlen hcap hmax hsz hok hc hr hself hdis => exact ⟨some ad, cap, rfl, fun ad' h => by cases h; exact hsp⟩
  have hnone : h id = none := by
    cases hh : h id with
    | none => rfl
    | some b => exact absurd (H.used id (.inl (by simp [hh]))) hU
  have hndead : ¬ g.dead id := fun hd => hU (H.used id (.inr hd))
  have tr : Tr w S g h w S (g.set id base cap N) (updH h id (some ⟨.arr, sz, l⟩)) := by
    refine Tr.of (fun _ _ => rfl) (fun _ h => h) (fun _ h => h) fun j b hb => .inr ⟨b, ?_, rfl, rfl, rfl, ?_, ?_⟩
    all_goals
      have hne : j ≠ id := fun e => by rw [e, hnone] at hb; cases hb
      simp [updH, G.set, hne, hb]
  refine ⟨g.set id base cap N, H.change tr H.fr H.slt ?_ ?_ ?_ ?_, tr, ?_, by simp [G.set], fun j hj => by simp [G.set, hj]⟩
  · intro j b hb
    by_cases hj : j = id
    · subst hj
      simp [updH] at hb
      subst hb
      refine .inr ⟨⟨by simpa [G.set] using how, by simpa [G.set] using hsp⟩, fun k hk => hN k (by simpa [G.set] using hk)⟩
    · simp only [updH, hj, if_false] at hb
      refine .inl ⟨hb, by simp [G.set, hj], by simp [G.set, hj], by simp [G.set, hj], fun k hk => ⟨rfl, (H.own j b k hb hk).1⟩⟩
  · intro i j b b' k hi hj hNi hNj
    by_cases ei : i = id <;> by_cases ej : j = id
    · rw [ei, ej]
    · simp only [updH, ej, if_false] at hj
      simp only [G.set, ei, ej, if_true, if_false] at hNi hNj
      exact absurd hNi (hdis j b' k hj hNj)
    · simp only [updH, ei, if_false] at hi
      simp only [G.set, ei, ej, if_true, if_false] at hNi hNj
      exact absurd hNj (hdis i b k hi hNi)
    · simp only [updH, ei, ej, if_false] at hi hj
      simp only [G.set, ei, ej, if_false] at hNi hNj
      exact H.disj i j b b' k hi hj hNi hNj
  · rintro j (hj | hj)
    · by_cases e : j = id
      · exact .inr e
      · simp only [updH, e, if_false] at hj
        exact .inl (H.used j (.inl hj))
    · exact .inl (H.used j (.inr hj))
  · intro j hj
    have e : j ≠ id := fun e => hndead (e ▸ hj)
    simp only [updH, e, if_false]
    exact H.dead j hj
  · have := VR.own (w := w) (S := S) (g := g.set id base cap N) (h := updH h id (some ⟨.arr, sz, l⟩)) id sz l (by simp [updH])
    simpa [G.set] using this

/-- A block is laid anew in memory: nothing else turns. -/
theorem Fr.alloc {w0 w : World} {O : Nat → Prop} (h : Fr w0 w O) (o : Obj) : Fr w0 (w.alloc o) O :=
  ⟨h.os, h.tape, h.output, by have := h.size; rw [World.size_alloc]; omega, fun k hk hn => by
    have := h.size
    rw [← h.block k hk hn]
    show (w.heap.push o)[k]? = _
    rw [Array.getElem?_push, if_neg (by omega)]⟩
theorem Fr.drew {w0 w : World} {O : Nat → Prop} (h : Fr w0 w O) (n : Nat) : Fr w0 { w with drawn := n } O := ⟨h.os, h.tape, h.output, h.size, h.block⟩

theorem heap_alloc_old' (w : World) (o : Obj) (k : Nat) (hk : k < w.heap.size) : (w.alloc o).heap[k]? = w.heap[k]? := by
  show (w.heap.push o)[k]? = _
  rw [Array.getElem?_push, if_neg (by omega)]
theorem heap_alloc_new' (w : World) (o : Obj) : (w.alloc o).heap[w.heap.size]? = some o := by
  show (w.heap.push o)[w.heap.size]? = _
  simp

/-- The world has grown by one block that no one names. -/
theorem HOk.alloc {w0 w : World} {O S : Nat → Prop} {g : G} {h : Heap} {U : Nat → Prop} (H : HOk w0 O w S g h U) (o : Obj) :
    HOk w0 O (w.alloc o) S g h U ∧ Tr w S g h (w.alloc o) S g h := by
  have hl : ∀ i b k, h i = some b → g.N i k → k < w.heap.size := by
    intro i b k hb hN
    have hB := H.blk i b hb
    obtain ⟨kind, sz, els⟩ := b
    cases kind with
    | box =>
      obtain ⟨ad, cur, e, fr, v, h1, h2, h3, h4, h5, h6, h7, h8, h9, h10, h11⟩ := hB
      rw [(h11 k).1 hN]; exact lt_of_heap h4
    | arr => exact hB.1.lt k hN
  have tr : Tr w S g h (w.alloc o) S g h := Tr.of (fun k hk => heap_alloc_old' w o k (H.slt k hk)) (fun _ h => h) (fun _ h => h) fun j b hb => .inr ⟨b, hb, rfl, rfl, rfl, rfl, rfl⟩
  refine ⟨H.change tr (H.fr.alloc o) (fun k hk => by have := H.slt k hk; rw [World.size_alloc]; omega) ?_ H.disj H.used H.dead, tr⟩
  intro id b hb
  exact .inl ⟨hb, rfl, rfl, rfl, fun k hk => ⟨heap_alloc_old' w o k (hl id b k hb hk), (H.own id b k hb hk).1⟩⟩
theorem HOk.drew {w0 w : World} {O S : Nat → Prop} {g : G} {h : Heap} {U : Nat → Prop} (H : HOk w0 O w S g h U) (n : Nat) :
    HOk w0 O { w with drawn := n } S g h U ∧ Tr w S g h { w with drawn := n } S g h := by
  have tr : Tr w S g h { w with drawn := n } S g h := Tr.of (fun _ _ => rfl) (fun _ h => h) (fun _ h => h) fun j b hb => .inr ⟨b, hb, rfl, rfl, rfl, rfl, rfl⟩
  exact ⟨H.change tr (H.fr.drew n) H.slt (fun id b hb => .inl ⟨hb, rfl, rfl, rfl, fun k hk => ⟨rfl, (H.own id b k hb hk).1⟩⟩) H.disj H.used H.dead, tr⟩

theorem HOk.lt {w0 w : World} {O S : Nat → Prop} {g : G} {h : Heap} {U : Nat → Prop} (H : HOk w0 O w S g h U) : ∀ i b k, h i = some b → g.N i k → k < w.heap.size := by
  intro i b k hb hN
  have hB := H.blk i b hb
  obtain ⟨kind, sz, els⟩ := b
  cases kind with
  | box =>
    obtain ⟨ad, cur, e, fr, v, h1, h2, h3, h4, h5, h6, h7, h8, h9, h10, h11⟩ := hB
    rw [(h11 k).1 hN]; exact lt_of_heap h4
  | arr => exact hB.1.lt k hN

/-- A new box for a value. -/
theorem HOk.newBox {w0 w : World} {O S : Nat → Prop} {g : G} {h : Heap} {U : Nat → Prop} (H : HOk w0 O w S g h U) {id : Nat} {v : V} {cs : Array Value} (t : TypeId)
    (hU : ¬ U id) (hv : boxableA v = true) (hsz : cs.size = v.cells.length) (hr : ∀ (j : Nat) y c, v.cells[j]? = some y → cs[j]? = some c → VR w S g h y c) :
    ∃ g', HOk w0 O (w.alloc (.cells cs t)) S g' (updH h id (some ⟨.box, v.cells.length, [v]⟩)) (fun k => U k ∨ k = id) ∧
      Tr w S g h (w.alloc (.cells cs t)) S g' (updH h id (some ⟨.box, v.cells.length, [v]⟩)) ∧
      VR (w.alloc (.cells cs t)) S g' (updH h id (some ⟨.box, v.cells.length, [v]⟩)) (.ptr id 0 none) (.pointer (some ⟨w.heap.size, 0, none⟩)) := by
  have hnone : h id = none := by
    cases hh : h id with
    | none => rfl
    | some b => exact absurd (H.used id (.inl (by simp [hh]))) hU
  have hndead : ¬ g.dead id := fun hd => hU (H.used id (.inr hd))
  obtain ⟨Ha, tra⟩ := H.alloc (.cells cs t)
  let g' := g.set id (some ⟨w.heap.size, 0, none⟩) 0 (fun k => k = w.heap.size)
  have tr : Tr (w.alloc (.cells cs t)) S g h (w.alloc (.cells cs t)) S g' (updH h id (some ⟨.box, v.cells.length, [v]⟩)) := by
    refine Tr.of (fun _ _ => rfl) (fun _ h => h) (fun _ h => h) fun j b hb => .inr ⟨b, ?_, rfl, rfl, rfl, ?_, ?_⟩
    all_goals
      have hne : j ≠ id := fun e => by rw [e, hnone] at hb; cases hb
      simp [updH, g', G.set, hne, hb]
  refine ⟨g', Ha.change tr Ha.fr Ha.slt ?_ ?_ ?_ ?_, tra.trans tr, ?_⟩
  · intro j b hb
    by_cases hj : j = id
    · subst hj
      simp [updH] at hb
      subst hb
      refine .inr ⟨⟨⟨w.heap.size, 0, none⟩, cs, t, (0, 0), v, by simp [g', G.set], rfl, rfl, heap_alloc_new' w _, fun o _ => by simp, rfl, rfl, hsz, hv, fun j y c hy hc => tr _ _ (tra _ _ (hr j y c hy hc)), fun k => by simp [g', G.set]⟩, fun k hk => ?_⟩
      have hk' : k = w.heap.size := by simpa [g', G.set] using hk
      subst hk'
      exact ⟨fun hS => by have := H.slt _ hS; omega, .inl H.fr.size⟩
    · simp only [updH, hj, if_false] at hb
      refine .inl ⟨hb, by simp [g', G.set, hj], by simp [g', G.set, hj], by simp [g', G.set, hj], fun k hk => ⟨rfl, (Ha.own j b k hb hk).1⟩⟩
  · intro i j b b' k hi hj hNi hNj
    by_cases ei : i = id <;> by_cases ej : j = id
    · rw [ei, ej]
    · simp only [updH, ej, if_false] at hj
      simp only [g', G.set, ei, ej, if_true, if_false] at hNi hNj
      have := H.lt j b' k hj hNj
      omega
    · simp only [updH, ei, if_false] at hi
      simp only [g', G.set, ei, ej, if_true, if_false] at hNi hNj
      have := H.lt i b k hi hNi
      omega
    · simp only [updH, ei, ej, if_false] at hi hj
      simp only [g', G.set, ei, ej, if_false] at hNi hNj
      exact H.disj i j b b' k hi hj hNi hNj
  · rintro j (hj | hj)
    · by_cases e : j = id
      · exact .inr e
      · simp only [updH, e, if_false] at hj
        exact .inl (H.used j (.inl hj))
    · exact .inl (H.used j (.inr hj))
  · intro j hj
    have e : j ≠ id := fun e => hndead (e ▸ hj)
    simp only [updH, e, if_false]
    exact H.dead j hj
  · have := VR.ptr (w := w.alloc (.cells cs t)) (S := S) (g := g') (h := updH h id (some ⟨.box, v.cells.length, [v]⟩)) id 0 none ⟨.box, v.cells.length, [v]⟩ ⟨w.heap.size, 0, none⟩ (by simp [updH]) (by simp [g', G.set]) (by simp)
    simpa using this

end Go.VM
