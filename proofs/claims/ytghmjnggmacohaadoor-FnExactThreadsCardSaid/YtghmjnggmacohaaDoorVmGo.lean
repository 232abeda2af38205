/- The code as a whole: what the abstract machine computes, the model does. -/
import Derived.Test.YtghmjnggmacohaaDoorVmCanon
import Derived.Test.YtghmjnggmacohaaDoorVmOpen
import Derived.Scope
set_option linter.unusedVariables false
set_option linter.unusedSimpArgs false
namespace Go.VM
open Go

section
variable {P : Program} {Φ : Tab} {T : Hints} {w0 : World} {O S : Nat → Prop} {cio : List Value}

def SimS (w0 : World) (O S : Nat → Prop) (cio : List Value) (s : St) (a : Act) (w : World) : Prop := Sim w0 O S cio s.env s.heap s.nt s.io (fun id => id < s.next) a w

theorem Sim.drew {e : Env} {h : Heap} {nt : Nat} {io : List V} {U : Nat → Prop} {a : Act} {w : World} (s : Sim w0 O S cio e h nt io U a w) (n : Nat) : Sim w0 O S cio e h nt io U a { w with drawn := n } := by
  obtain ⟨⟨g, H, E, I⟩, h2, h3⟩ := s
  obtain ⟨H', tr⟩ := H.drew n
  exact ⟨⟨g, H', fun t => tr _ _ (E t), two_mono tr I⟩, h2, h3⟩

theorem eOf_keepR (e : Env) : ∀ (l : List Nat) (t : Nat), eOf (keepR e l) t = e t ∨ eOf (keepR e l) t = .undef
  | [], t => .inr rfl
  | k :: l, t => by
    simp only [keepR, eOf]
    split
    · rename_i h; subst h; exact .inl rfl
    · exact eOf_keepR e l t
theorem cut_ok {s : St} {a : Act} {w : World} (o : Option (List Nat)) (hs : SimS w0 O S cio s a w) : SimS w0 O S cio (cutS o s) a w := by
  obtain ⟨⟨g, H, E, I⟩, h2, h3⟩ := hs
  refine ⟨⟨g, H, fun t => ?_, I⟩, h2, h3⟩
  simp only [cutS, cutV]
  split
  · exact E t
  · rename_i l
    rcases eOf_keepR s.env l t with h | h
    · rw [h]; exact E t
    · rw [h]; exact .undef _

theorem openS_ok {s : St} {a : Act} {w : World} (o : Option ((Nat × List (Option Nat)) × (Nat × List (Option Nat)))) (hs : SimS w0 O S cio s a w) : SimS w0 O S cio (openS o s).1 a w := by
  unfold openS
  split
  · exact hs
  · split
    · split
      · rename_i h' ho
        obtain ⟨⟨g, H, E, I⟩, h2, h3⟩ := hs
        obtain ⟨g', H', tr⟩ := open_ok H ho (fun k h1 _ h2 => by omega)
        refine ⟨⟨g', H'.weak ?_, fun t => tr _ _ (E t), two_mono tr I⟩, h2, h3⟩
        intro k hk
        show k < s.next + stride
        rcases hk with hk | hk <;> omega
      · exact hs
    · exact hs
theorem closeS_ok {s : St} {a : Act} {w : World} (o : Option Nat) (hs : SimS w0 O S cio s a w) : SimS w0 O S cio (closeS o s) a w := by
  cases o with
  | none => exact hs
  | some id =>
    obtain ⟨⟨g, H, E, I⟩, h2, h3⟩ := hs
    obtain ⟨g', H', tr⟩ := close_ok H id
    exact ⟨⟨g', H', fun t => tr _ _ (E t), two_mono tr I⟩, h2, h3⟩

theorem go_ok (hΦ : ∀ f sp, Φ f = some sp → FnAt P w0 O f sp) (hm : P.follows .mixedOrders = true) : ∀ (n : Nat) (k : List Item) (s s' : St) (a : Act) (w : World) (b : Frame) (cs : List Frame), go P Φ T n k s = some s' → SimS w0 O S cio s a w →
    ∃ a' w' todo, Steps P (lone (b.at a k) cs w) (lone { b.at a' todo with mode := .returning } cs w') ∧ SimS w0 O S cio s' a' w'
  | 0, k, s, s', a, w, b, cs, h, _ => by simp [go] at h
  | n + 1, k, s, s', a, w, b, cs, h, hs => by
    have next : ∀ {k' : List Item} {s1 : St} {a1 : Act} {w1 : World}, Steps P (lone (b.at a k) cs w) (lone (b.at a1 k') cs w1) → go P Φ T n k' s1 = some s' → SimS w0 O S cio s1 a1 w1 →
        ∃ a' w' todo, Steps P (lone (b.at a k) cs w) (lone { b.at a' todo with mode := .returning } cs w') ∧ SimS w0 O S cio s' a' w' := by
      intro k' s1 a1 w1 hst hg hs1
      obtain ⟨a', w', todo, h1, h2⟩ := go_ok hΦ hm n k' s1 s' a1 w1 b cs hg hs1
      exact ⟨a', w', todo, hst.trans h1, h2⟩
    unfold go at h
    split at h
    · cases h
      exact ⟨a, w, [], .one step_end, hs⟩
    · cases h
      exact ⟨a, w, _, .one step_ret, hs⟩
    · exact next (.one step_skip) h hs
    · exact next (.one step_inBlock) h hs
    · exact next (.one step_inScope) h hs
    · exact next (.one step_seq) h hs
    · split at h
      · rename_i t hc
        have hs' := hs
        obtain ⟨⟨g, H, E, I⟩, h2, h3⟩ := hs'
        have hE := evO_ok (P := P) E 0 ‹Operand›
        rw [hc] at hE
        exact next (.one (step_cond hE.inv_bool)) h hs
      · cases h
    · exact next (.one step_block) h hs
    · split at h
      · exact next (.one step_loop) h (canon_ok hs)
      · exact next (.one step_loop) h hs
    · split at h
      · exact next (.one step_inLoop) h (canon_ok hs)
      · exact next (.one step_inLoop) h hs
    · exact next (.one step_scope) h hs
    · split at h
      · rename_i he
        exact next (.one (step_exit he)) h hs
      · cases h
    · rename_i id ops draw k
      split at h
      · rename_i hd
        subst hd
        split at h
        · rename_i need hneed
          split at h
          · rename_i hchk
            simp only [Option.bind_eq_some_iff] at h
            obtain ⟨s2, hv, h⟩ := h
            obtain ⟨e, a1, w1, ⟨rfl, hs1⟩, harr⟩ := wp_region_any (P := P) (id := id) (ops := ops) (Q := fun e a w => e = .normal ∧ SimS w0 O S cio s2 a w) (a := a) (w := w) hm
              (draw_ok hΦ hchk hv ((openS_ok (T.opn id) hs).drew _) fun a' w' hs' => ⟨rfl, hs'⟩) b k cs
            exact next harr h (cut_ok _ (closeS_ok _ hs1))
          · cases h
        · cases h
      · rename_i hd
        have : draw = false := by simpa using hd
        subst this
        simp only [Option.bind_eq_some_iff] at h
        obtain ⟨s2, hv, h⟩ := h
        unfold regionV at hv
        simp only [Option.map_eq_some_iff] at hv
        obtain ⟨r, hr, rfl⟩ := hv
        obtain ⟨e, a1, w1, ⟨rfl, hs1⟩, harr⟩ := wp_region (P := P) (id := id) (ops := ops) (Q := fun e a w => e = .normal ∧ SimS w0 O S cio { env := r.1, heap := r.2, next := (openS (T.opn id) s).1.next + stride * ops.size, nt := (openS (T.opn id) s).1.nt, io := (openS (T.opn id) s).1.io } a w) (a := a) (w := w)
          (runL_ok hΦ (List.range ops.size) (fun _ => False) _ _ r a w List.nodup_range (fun _ _ h => h) (fun _ h => h.elim) hr ((openS_ok (T.opn id) hs).weak fun k hk => .inl hk) fun a' w' hs' => ⟨rfl, hs'⟩) b k cs
        exact next harr h (cut_ok _ (closeS_ok _ hs1))
    · cases h
end
end Go.VM
