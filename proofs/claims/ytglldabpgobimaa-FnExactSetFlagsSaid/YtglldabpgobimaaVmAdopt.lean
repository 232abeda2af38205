/- A fresh result is taken in: its lists become local arrays. -/
import Derived.Test.YtglldabpgobimaaVmHeap
set_option linter.unusedVariables false
set_option linter.unusedSimpArgs false
namespace Go.VM
open Go

theorem updsH_append (h : Heap) : ∀ (a b : List (Nat × Option Blk)), updsH h (a ++ b) = updsH (updsH h a) b
  | [], _ => rfl
  | (i, x) :: a, b => by simp only [List.cons_append, updsH]; exact updsH_append _ a b

/-- What is known behind a step that takes in: the ids from n on, m of them, may be used. -/
structure Took (w0 : World) (O : Nat → Prop) (w : World) (S : Nat → Prop) (g : G) (h : Heap) (U : Nat → Prop) (n m : Nat) (N : Nat → Prop) (h' : Heap) (g' : G) : Prop where
  ok : HOk w0 O w S g' h' (fun k => U k ∨ (n ≤ k ∧ k < n + m))
  tr : Tr w S g h w S g' h'
  live : ∀ j b k, h' j = some b → g'.N j k → (∃ b0, h j = some b0 ∧ g.N j k) ∨ N k

theorem took_refl {w0 w : World} {O S : Nat → Prop} {g : G} {h : Heap} {U : Nat → Prop} (H : HOk w0 O w S g h U) (n m : Nat) (N : Nat → Prop) : Took w0 O w S g h U n m N h g :=
  ⟨H.weak fun _ hk => .inl hk, Tr.refl _ _ _ _, fun j b _ hb hN => .inl ⟨b, hb, hN⟩⟩

theorem adC_ok {w0 w : World} {O S : Nat → Prop} {g : G} {h : Heap} {U : Nat → Prop} (H : HOk w0 O w S g h U) {n m : Nat} (hm : 0 < m) {v : V} {c : Value} {N : Nat → Prop}
    (how : OW w v c N) (hU : ∀ k, n ≤ k → k < n + m → ¬ U k) (hdis : ∀ j b k, h j = some b → g.N j k → ¬ N k) (hN : ∀ k, N k → ¬ S k ∧ (w0.heap.size ≤ k ∨ O k)) :
    ∃ g', Took w0 O w S g h U n m N (updsH h (adC n v).2) g' ∧ VR w S g' (updsH h (adC n v).2) (adC n v).1 c := by
  cases v with
  | lst sz l =>
    obtain ⟨g', H', tr, hv, e1, e2⟩ := H.add how (hU n (Nat.le_refl _) (by omega)) hdis hN
    refine ⟨g', ⟨H'.weak ?_, tr, ?_⟩, hv⟩
    · rintro k (hk | rfl)
      · exact .inl hk
      · exact .inr ⟨Nat.le_refl _, by omega⟩
    · intro j b k hb hNk
      by_cases hj : j = n
      · subst hj; rw [e1] at hNk; exact .inr hNk
      · rw [e2 j hj] at hNk
        simp only [adC, updsH, updH, hj, if_false] at hb
        exact .inl ⟨b, hb, hNk⟩
  | int k x => exact ⟨g, took_refl H n m N, .rd _ _ (by cases how; exact .int _ _)⟩
  | bool b => exact ⟨g, took_refl H n m N, .rd _ _ (by cases how; exact .bool _)⟩
  | str s => exact ⟨g, took_refl H n m N, .rd _ _ (by cases how with | str s _ h => exact .str _ _ h)⟩
  | _ => exact ⟨g, took_refl H n m N, .undef _⟩

theorem Took.trans {w0 w : World} {O S : Nat → Prop} {g g1 g2 : G} {h h1 h2 : Heap} {U : Nat → Prop} {n a b : Nat} {N N1 N2 : Nat → Prop}
    (t1 : Took w0 O w S g h U n a N1 h1 g1) (t2 : Took w0 O w S g1 h1 (fun k => U k ∨ (n ≤ k ∧ k < n + a)) (n + a) b N2 h2 g2) (h1N : ∀ k, N1 k → N k) (h2N : ∀ k, N2 k → N k) : Took w0 O w S g h U n (a + b) N h2 g2 := by
  refine ⟨t2.ok.weak ?_, t1.tr.trans t2.tr, ?_⟩
  · rintro k ((hk | hk) | hk)
    · exact .inl hk
    · exact .inr ⟨hk.1, by omega⟩
    · exact .inr ⟨by omega, by omega⟩
  · intro j x k hx hN
    rcases t2.live j x k hx hN with ⟨b0, hb0, hN0⟩ | hN0
    · rcases t1.live j b0 k hb0 hN0 with h3 | h3
      · exact .inl h3
      · exact .inr (h1N k h3)
    · exact .inr (h2N k hN0)

theorem adL_ok {w0 w : World} {O S : Nat → Prop} (w1 : Nat) (adX : Nat → V → V × List (Nat × Option Blk)) (adXL : Nat → List V → List V × List (Nat × Option Blk))
    (h0 : ∀ n, adXL n [] = ([], [])) (hc : ∀ n x l, adXL n (x :: l) = ((adX n x).1 :: (adXL (n + w1) l).1, (adX n x).2 ++ (adXL (n + w1) l).2))
    (hX : ∀ {g : G} {h : Heap} {U : Nat → Prop} (_ : HOk w0 O w S g h U) {n : Nat} {v : V} {c : Value} {N : Nat → Prop}
      (_ : OW w v c N) (_ : ∀ k, n ≤ k → k < n + w1 → ¬ U k) (_ : ∀ j b k, h j = some b → g.N j k → ¬ N k) (_ : ∀ k, N k → ¬ S k ∧ (w0.heap.size ≤ k ∨ O k)),
      ∃ g', Took w0 O w S g h U n w1 N (updsH h (adX n v).2) g' ∧ VR w S g' (updsH h (adX n v).2) (adX n v).1 c) :
    ∀ (l : List V) {g : G} {h : Heap} {U : Nat → Prop} (_ : HOk w0 O w S g h U) {n : Nat} {cs : List Value} {Ns : Nat → Nat → Prop}
      (_ : l.length = cs.length) (_ : ∀ (i : Nat) x c, l[i]? = some x → cs[i]? = some c → OW w x c (Ns i)) (_ : ∀ i j k, i < l.length → j < l.length → Ns i k → Ns j k → i = j)
      (_ : ∀ k, n ≤ k → k < n + w1 * l.length → ¬ U k) (_ : ∀ i j b k, i < l.length → h j = some b → g.N j k → ¬ Ns i k) (_ : ∀ i k, i < l.length → Ns i k → ¬ S k ∧ (w0.heap.size ≤ k ∨ O k)),
      ∃ g', Took w0 O w S g h U n (w1 * l.length) (fun k => ∃ i, i < l.length ∧ Ns i k) (updsH h (adXL n l).2) g' ∧ (adXL n l).1.length = l.length ∧
        ∀ (i : Nat) x c, (adXL n l).1[i]? = some x → cs[i]? = some c → VR w S g' (updsH h (adXL n l).2) x c := by
  intro l
  induction l with
  | nil =>
    intro g h U H n cs Ns hl hr hd hU hdis hN
    rw [h0]
    exact ⟨g, took_refl H n _ _, rfl, fun i x c hx => by simp at hx⟩
  | cons x l ih =>
    intro g h U H n cs Ns hl hr hd hU hdis hN
    cases cs with
    | nil => simp at hl
    | cons c cs =>
      simp only [List.length_cons] at hU hd hN hdis ⊢
      obtain ⟨g1, t1, v1⟩ := hX H (n := n) (hr 0 x c rfl rfl) (fun k h1 h2 => hU k h1 (by rw [Nat.mul_add]; omega)) (fun j b k => hdis 0 j b k (by omega)) (fun k => hN 0 k (by omega))
      obtain ⟨g2, t2, hlen, v2⟩ := ih t1.ok (n := n + w1) (cs := cs) (Ns := fun i => Ns (i + 1)) (by simpa using hl) (fun i x c hx hc => hr (i + 1) x c (by simpa using hx) (by simpa using hc))
        (fun i j k hi hj h1 h2 => by have := hd (i + 1) (j + 1) k (by omega) (by omega) h1 h2; omega)
        (fun k h1 h2 => by
          rintro (hk | hk)
          · exact hU k (by omega) (by rw [Nat.mul_add]; omega) hk
          · omega)
        (fun i j b k hi hb hNk hNi => by
          rcases t1.live j b k hb hNk with ⟨b0, hb0, hN0⟩ | hN0
          · exact hdis (i + 1) j b0 k (by omega) hb0 hN0 hNi
          · have := hd 0 (i + 1) k (by omega) (by omega) hN0 hNi
            omega)
        (fun i k hi => hN (i + 1) k (by omega))
      refine ⟨g2, ?_, by rw [hc]; simp [hlen], ?_⟩
      · rw [hc, updsH_append, Nat.mul_add, Nat.mul_one, Nat.add_comm (w1 * l.length)]
        refine t1.trans t2 (fun k hk => ⟨0, by omega, hk⟩) ?_
        rintro k ⟨i, hi, hk⟩
        exact ⟨i + 1, by omega, hk⟩
      · intro i y d hy hd'
        rw [hc, updsH_append]
        rw [hc] at hy
        cases i with
        | zero =>
          simp only [List.getElem?_cons_zero, Option.some.injEq] at hy hd'
          subst hy hd'
          exact t2.tr _ _ v1
        | succ i =>
          simp only [List.getElem?_cons_succ] at hy hd'
          exact v2 i y d hy hd'

theorem adA_ok {w0 w : World} {O S : Nat → Prop} {g : G} {h : Heap} {U : Nat → Prop} (H : HOk w0 O w S g h U) {n : Nat} {v : V} {c : Value} {N : Nat → Prop}
    (how : OW w v c N) (hU : ∀ k, n ≤ k → k < n + 16 → ¬ U k) (hdis : ∀ j b k, h j = some b → g.N j k → ¬ N k) (hN : ∀ k, N k → ¬ S k ∧ (w0.heap.size ≤ k ∨ O k)) :
    ∃ g', Took w0 O w S g h U n 16 N (updsH h (adA n v).2) g' ∧ VR w S g' (updsH h (adA n v).2) (adA n v).1 c := by
  cases v with
  | agg l =>
    simp only [adA]
    split
    · rename_i h16
      cases how with
      | agg _ cs Ns hl hr hd =>
        obtain ⟨g', t, hlen, hv⟩ := adL_ok 1 adC adL (fun _ => rfl) (fun _ _ _ => rfl) (@fun g h U H' n v c N a b d e => adC_ok (m := 1) H' (by omega) a b d e) l H (n := n) (cs := cs.toList) (Ns := Ns) (by simpa using hl)
          (fun i x c hx hc => hr i x c hx (by simpa using hc)) (fun i j k hi hj => hd i j k hi hj) (fun k h1 h2 => hU k h1 (by omega))
          (fun i j b k hi hb hNk hNi => hdis j b k hb hNk ⟨i, hi, hNi⟩) (fun i k hi hk => hN k ⟨i, hi, hk⟩)
        refine ⟨g', ⟨t.ok.weak ?_, t.tr, t.live⟩, .agg _ _ (by rw [hlen]; exact hl) fun i x c hx hc => hv i x c hx (by simpa using hc)⟩
        rintro k (hk | hk)
        · exact .inl hk
        · exact .inr ⟨hk.1, by omega⟩
    · exact ⟨g, took_refl H n 16 N, .undef _⟩
  | _ => exact adC_ok H (by omega) how hU hdis hN

theorem adT_ok {w0 w : World} {O S : Nat → Prop} {g : G} {h : Heap} {U : Nat → Prop} (H : HOk w0 O w S g h U) {n : Nat} {v : V} {c : Value} {N : Nat → Prop}
    (how : OW w v c N) (hU : ∀ k, n ≤ k → k < n + stride → ¬ U k) (hdis : ∀ j b k, h j = some b → g.N j k → ¬ N k) (hN : ∀ k, N k → ¬ S k ∧ (w0.heap.size ≤ k ∨ O k)) :
    ∃ g', Took w0 O w S g h U n stride N (updsH h (adT n v).2) g' ∧ VR w S g' (updsH h (adT n v).2) (adT n v).1 c := by
  have lift : ∀ {h' g'} {m : Nat}, m ≤ stride → Took w0 O w S g h U n m N h' g' → Took w0 O w S g h U n stride N h' g' := fun hm t =>
    ⟨t.ok.weak (by rintro k (hk | hk); exact .inl hk; exact .inr ⟨hk.1, by omega⟩), t.tr, t.live⟩
  cases v with
  | tup l =>
    simp only [adT]
    split
    · rename_i h16
      cases how with
      | tup _ cs Ns hl hr hd =>
        obtain ⟨g', t, hlen, hv⟩ := adL_ok 16 adA adTL (fun _ => rfl) (fun _ _ _ => rfl) (@fun g h U H' n v c N a b d e => adA_ok H' a b d e) l H (n := n) (cs := cs.toList) (Ns := Ns) (by simpa using hl)
          (fun i x c hx hc => hr i x c hx (by simpa using hc)) (fun i j k hi hj => hd i j k hi hj) (fun k h1 h2 => hU k h1 (by simp only [stride]; omega))
          (fun i j b k hi hb hNk hNi => hdis j b k hb hNk ⟨i, hi, hNi⟩) (fun i k hi hk => hN k ⟨i, hi, hk⟩)
        exact ⟨g', lift (by simp only [stride]; omega) t, .tup _ _ (by rw [hlen]; exact hl) fun i x c hx hc => hv i x c hx (by simpa using hc)⟩
    · exact ⟨g, took_refl H n stride N, .undef _⟩
  | _ =>
    obtain ⟨g', t, hv⟩ := adA_ok H how (fun k h1 h2 => hU k h1 (by simp only [stride]; omega)) hdis hN
    exact ⟨g', lift (by simp only [stride]; omega) t, hv⟩

end Go.VM
