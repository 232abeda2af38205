/- The code as a whole: what the abstract machine computes, the model does. -/
import Derived.Test.YtghmjnggmacohaaGreatDoorVmCanon
import Derived.Test.YtghmjnggmacohaaGreatDoorVmOpen
import Derived.Scope
set_option linter.unusedVariables false
set_option linter.unusedSimpArgs false
namespace Go.VM
open Go

section
variable {P : Program} {Φ : Tab} {T : Hints} {w0 : World} {O S : Nat → Prop} {cio : List Value}

def SimS (w0 : World) (O S : Nat → Prop) (cio : List Value) (s : St) (a : Act) (w : World) : Prop := Sim w0 O S cio s.env s.heap s.nt s.io (fun id => id < s.next) a w

theorem Sim.drew {e : Env} {h : Heap} {nt : Nat} {io : List V} {U : Nat → Prop} {a : Act} {w : World} (s : Sim w0 O S cio e h nt io U a w) (n : Nat) : Sim w0 O S cio e h nt io U a { w with drawn := n } := by
  obtain ⟨⟨g, H, E, I⟩, h2, h3⟩ := s
  obtain ⟨H', tr⟩ := H.drew n
  exact ⟨⟨g, H', fun t => tr _ _ (E t), two_mono tr I⟩, h2, h3⟩

theorem eOf_keepR (e : Env) : ∀ (l : List Nat) (t : Nat), eOf (keepR e l) t = e t ∨ eOf (keepR e l) t = .undef
  | [], t => .inr rfl
  | k :: l, t => by
    simp only [keepR, eOf]
    split
    · rename_i h; subst h; exact .inl rfl
    · exact eOf_keepR e l t
theorem cut_ok {s : St} {a : Act} {w : World} (o : Option (List Nat)) (hs : SimS w0 O S cio s a w) : SimS w0 O S cio (cutS o s) a w := by
  obtain ⟨⟨g, H, E, I⟩, h2, h3⟩ := hs
  refine ⟨⟨g, H, fun t => ?_, I⟩, h2, h3⟩
  simp only [cutS, cutV]
  split
  · exact E t
  · rename_i l
    rcases eOf_keepR s.env l t with h | h
    · rw [h]; exact E t
    · rw [h]; exact .undef _

theorem openS_ok {s : St} {a : Act} {w : World} (o : Option ((Nat × List (Option Nat)) × (Nat × List (Option Nat)))) (hs : SimS w0 O S cio s a w) : SimS w0 O S cio (openS o s).1 a w := by
  unfold openS
  split
  · exact hs
  · split
    · split
      · rename_i h' ho
        obtain ⟨⟨g, H, E, I⟩, h2, h3⟩ := hs
        obtain ⟨g', H', tr⟩ := open_ok H ho (fun k h1 _ h2 => by omega)
        refine ⟨⟨g', H'.weak ?_, fun t => tr _ _ (E t), two_mono tr I⟩, h2, h3⟩
        intro k hk
        show k < s.next + stride
        rcases hk with hk | hk <;> omega
      · exact hs
    · exact hs
theorem closeS_ok {s : St} {a : Act} {w : World} (o : Option Nat) (hs : SimS w0 O S cio s a w) : SimS w0 O S cio (closeS o s) a w := by
  cases o with
  | none => exact hs
  | some id =>
    obtain ⟨⟨g, H, E, I⟩, h2, h3⟩ := hs
    obtain ⟨g', H', tr⟩ := close_ok H id
    exact ⟨⟨g', H', fun t => tr _ _ (E t), two_mono tr I⟩, h2, h3⟩

theorem frz1_ok {s : St} {a : Act} {w : World} (t : Nat) (hs : SimS w0 O S cio s a w) : ∃ S' : Nat → Prop, (∀ k, S k → S' k) ∧ SimS w0 O S' cio (frz1 t s) a w := by
  unfold frz1
  split
  · rename_i id ht
    split
    · rename_i sz els hb
      obtain ⟨⟨g, H, E, I⟩, h2, h3⟩ := hs
      have hB := H.blk id _ hb
      refine ⟨fun k => S k ∨ g.N id k, fun k => .inl, ?_⟩
      let g' : G := { base := g.base, cap := g.cap, N := g.N, dead := fun j => g.dead j ∨ j = id }
      have tr : Tr w S g s.heap w (fun k => S k ∨ g.N id k) g' (updH s.heap id none) := by
        refine Tr.of (fun _ _ => rfl) (fun _ h => .inl h) (fun _ h => .inl h) fun j b hj => ?_
        by_cases e : j = id
        · exact .inl (.inr e)
        · exact .inr ⟨b, by simp [updH, e, hj], rfl, rfl, rfl, rfl, rfl⟩
      have hne : ∀ j b, updH s.heap id none j = some b → j ≠ id ∧ s.heap j = some b := by
        intro j b hj
        by_cases e : j = id
        · simp [updH, e] at hj
        · simp only [updH, e, if_false] at hj; exact ⟨e, hj⟩
      have H' : HOk w0 O w (fun k => S k ∨ g.N id k) g' (updH s.heap id none) (fun id => id < s.next) := by
        refine H.change tr H.fr ?_ ?_ ?_ ?_ ?_
        · rintro k (hk | hk)
          · exact H.slt k hk
          · exact H.lt id _ k hb hk
        · intro j b hj
          obtain ⟨e, hj'⟩ := hne j b hj
          refine .inl ⟨hj', rfl, rfl, rfl, fun k hk => ⟨rfl, ?_⟩⟩
          rintro (h | h)
          · exact (H.own j b k hj' hk).1 h
          · exact e (H.disj j id b _ k hj' hb hk h)
        · intro i j b b' k hi hj hNi hNj
          exact H.disj i j b b' k (hne i b hi).2 (hne j b' hj).2 hNi hNj
        · rintro j (hj | hj | hj)
          · by_cases e : j = id
            · subst e; exact H.used j (.inl (by simp [hb]))
            · simp only [updH, e, if_false] at hj; exact H.used j (.inl hj)
          · exact H.used j (.inr hj)
          · subst hj; exact H.used j (.inl (by simp [hb]))
        · rintro j (hj | hj)
          · by_cases e : j = id
            · simp [updH, e]
            · simp only [updH, e, if_false]; exact H.dead j hj
          · simp [updH, hj]
      refine ⟨⟨g', H', fun u => ?_, two_mono tr I⟩, h2, h3⟩
      show VR w _ g' _ (updE s.env t (.lst sz els) u) _
      by_cases e : u = t
      · subst e
        have h1 := E u
        rw [ht] at h1
        obtain ⟨_, hc⟩ := h1.inv_own hb (H.notDead hb)
        simp only [updE, if_true]
        rw [hc]
        exact .rd _ _ (hB.1.rd fun k hk => .inr hk)
      · simp only [updE, e, if_false]
        exact tr _ _ (E u)
    · exact ⟨S, fun _ h => h, hs⟩
  · exact ⟨S, fun _ h => h, hs⟩
theorem frzS_ok {a : Act} {w : World} : ∀ (l : List Nat) {S : Nat → Prop} {s : St}, SimS w0 O S cio s a w → ∃ S' : Nat → Prop, (∀ k, S k → S' k) ∧ (l = [] → S' = S) ∧ SimS w0 O S' cio (frzS l s) a w
  | [], S, s, hs => ⟨S, fun _ h => h, fun _ => rfl, hs⟩
  | t :: l, S, s, hs => by
    obtain ⟨S1, h1, h2⟩ := frz1_ok t hs
    obtain ⟨S2, h3, _, h4⟩ := frzS_ok l h2
    exact ⟨S2, fun k hk => h3 k (h1 k hk), fun e => (by cases e), h4⟩

theorem go_ok (hΦ : ∀ f sp, Φ f = some sp → FnAt P w0 O f sp) (hm : P.follows .mixedOrders = true) : ∀ (n : Nat) (S : Nat → Prop) (k : List Item) (s s' : St) (a : Act) (w : World) (b : Frame) (cs : List Frame), go P Φ T n k s = some s' → SimS w0 O S cio s a w →
    ∃ S' a' w' todo, (∀ k, S k → S' k) ∧ ((∀ i, T.frz i = []) → S' = S) ∧ Steps P (lone (b.at a k) cs w) (lone { b.at a' todo with mode := .returning } cs w') ∧ SimS w0 O S' cio s' a' w'
  | 0, S, k, s, s', a, w, b, cs, h, _ => by simp [go] at h
  | n + 1, S, k, s, s', a, w, b, cs, h, hs => by
    have nextS : ∀ {S1 : Nat → Prop} {k' : List Item} {s1 : St} {a1 : Act} {w1 : World}, Steps P (lone (b.at a k) cs w) (lone (b.at a1 k') cs w1) → go P Φ T n k' s1 = some s' → (∀ k, S k → S1 k) → ((∀ i, T.frz i = []) → S1 = S) → SimS w0 O S1 cio s1 a1 w1 →
        ∃ S' a' w' todo, (∀ k, S k → S' k) ∧ ((∀ i, T.frz i = []) → S' = S) ∧ Steps P (lone (b.at a k) cs w) (lone { b.at a' todo with mode := .returning } cs w') ∧ SimS w0 O S' cio s' a' w' := by
      intro S1 k' s1 a1 w1 hst hg hS hz hs1
      obtain ⟨S', a', w', todo, h1, h2, h3, h4⟩ := go_ok hΦ hm n S1 k' s1 s' a1 w1 b cs hg hs1
      exact ⟨S', a', w', todo, fun k hk => h1 k (hS k hk), fun z => (h2 z).trans (hz z), hst.trans h3, h4⟩
    have next : ∀ {k' : List Item} {s1 : St} {a1 : Act} {w1 : World}, Steps P (lone (b.at a k) cs w) (lone (b.at a1 k') cs w1) → go P Φ T n k' s1 = some s' → SimS w0 O S cio s1 a1 w1 →
        ∃ S' a' w' todo, (∀ k, S k → S' k) ∧ ((∀ i, T.frz i = []) → S' = S) ∧ Steps P (lone (b.at a k) cs w) (lone { b.at a' todo with mode := .returning } cs w') ∧ SimS w0 O S' cio s' a' w' :=
      fun hst hg hs1 => nextS hst hg (fun _ h => h) (fun _ => rfl) hs1
    unfold go at h
    split at h
    · cases h
      exact ⟨S, a, w, [], fun _ h => h, fun _ => rfl, .one step_end, hs⟩
    · cases h
      exact ⟨S, a, w, _, fun _ h => h, fun _ => rfl, .one step_ret, hs⟩
    · exact next (.one step_skip) h hs
    · exact next (.one step_inBlock) h hs
    · exact next (.one step_inScope) h hs
    · exact next (.one step_seq) h hs
    · split at h
      · rename_i t hc
        have hs' := hs
        obtain ⟨⟨g, H, E, I⟩, h2, h3⟩ := hs'
        have hE := evO_ok (P := P) E 0 ‹Operand›
        rw [hc] at hE
        exact next (.one (step_cond hE.inv_bool)) h hs
      · cases h
    · exact next (.one step_block) h hs
    · split at h
      · obtain ⟨S1, z1, z2, z3⟩ := frzS_ok (T.frz (firstRegion ‹Code›)) hs
        exact nextS (.one step_loop) h z1 (fun z => z2 (z _)) (canon_ok z3)
      · exact next (.one step_loop) h hs
    · split at h
      · obtain ⟨S1, z1, z2, z3⟩ := frzS_ok (T.frz (firstRegion ‹Code›)) hs
        exact nextS (.one step_inLoop) h z1 (fun z => z2 (z _)) (canon_ok z3)
      · exact next (.one step_inLoop) h hs
    · exact next (.one step_scope) h hs
    · split at h
      · rename_i he
        exact next (.one (step_exit he)) h hs
      · cases h
    · rename_i id ops draw k
      split at h
      · rename_i hd
        subst hd
        split at h
        · rename_i need hneed
          split at h
          · rename_i hchk
            simp only [Option.bind_eq_some_iff] at h
            obtain ⟨s2, hv, h⟩ := h
            obtain ⟨e, a1, w1, ⟨rfl, hs1⟩, harr⟩ := wp_region_any (P := P) (id := id) (ops := ops) (Q := fun e a w => e = .normal ∧ SimS w0 O S cio s2 a w) (a := a) (w := w) hm
              (draw_ok hΦ hchk hv ((openS_ok (T.opn id) hs).drew _) fun a' w' hs' => ⟨rfl, hs'⟩) b k cs
            exact next harr h (cut_ok _ (closeS_ok _ hs1))
          · cases h
        · cases h
      · rename_i hd
        have : draw = false := by simpa using hd
        subst this
        simp only [Option.bind_eq_some_iff] at h
        obtain ⟨s2, hv, h⟩ := h
        unfold regionV at hv
        simp only [Option.map_eq_some_iff] at hv
        obtain ⟨r, hr, rfl⟩ := hv
        obtain ⟨e, a1, w1, ⟨rfl, hs1⟩, harr⟩ := wp_region (P := P) (id := id) (ops := ops) (Q := fun e a w => e = .normal ∧ SimS w0 O S cio { env := r.1, heap := r.2, next := (openS (T.opn id) s).1.next + stride * ops.size, nt := (openS (T.opn id) s).1.nt, io := (openS (T.opn id) s).1.io } a w) (a := a) (w := w)
          (runL_ok hΦ (List.range ops.size) (fun _ => False) _ _ r a w List.nodup_range (fun _ _ h => h) (fun _ h => h.elim) hr ((openS_ok (T.opn id) hs).weak fun k hk => .inl hk) fun a' w' hs' => ⟨rfl, hs'⟩) b k cs
        exact next harr h (cut_ok _ (closeS_ok _ hs1))
    · cases h
end
end Go.VM
