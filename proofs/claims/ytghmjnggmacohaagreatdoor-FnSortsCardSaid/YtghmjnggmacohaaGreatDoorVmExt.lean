/- Functions without a body, for which the model stands in. No condition. -/
import Derived.Test.YtghmjnggmacohaaGreatDoorVmLaw
import Derived.Lib.Bytealg
set_option linter.unusedVariables false
set_option linter.unusedSimpArgs false
namespace Go.VM
open Go

theorem rd_all {w : World} {S : Nat → Prop} : ∀ {n : Nat} {ins : List V} {cs : List Value} {Ns : List (Nat → Prop)}, ArgsOk w S (allRd n) ins cs Ns →
    Two (RD w S) ins cs ∧ (∀ k, ¬ AnyS Ns k) ∧ ∀ w' S', ∃ NOs, OutsOk w' S' (allRd n) [] cs NOs ∧ ∀ k, ¬ AnyS NOs k
  | 0, _, _, _, h => by
    cases h
    exact ⟨.nil, fun k ⟨N, hN, _⟩ => (by cases hN), fun w' _ => ⟨[], .nil, fun k ⟨N, hN, _⟩ => (by cases hN)⟩⟩
  | n + 1, _, _, _, h => by
    cases h with
    | rd h t =>
      obtain ⟨h1, h2, h3⟩ := rd_all t
      refine ⟨.cons h h1, fun k hk => ?_, fun w' S' => ?_⟩
      · obtain ⟨N, hN, hk⟩ := hk
        rcases List.mem_cons.1 hN with rfl | hN
        · exact hk
        · exact h2 k ⟨N, hN, hk⟩
      · obtain ⟨NOs, h4, h5⟩ := h3 w' S'
        refine ⟨_, .no (.inl rfl) h4, fun k hk => ?_⟩
        obtain ⟨N, hN, hk⟩ := hk
        rcases List.mem_cons.1 hN with rfl | hN
        · exact hk
        · exact h5 k ⟨N, hN, hk⟩
    | wr hm _ _ => simp at hm

/-- A function that the model stands in for, which leaves the world as it was. -/
theorem ext_ok {P : Program} {f : FuncId} {fn : Func} {e : Array Value → Sem Value} {n : Nat} {sp : Spec} (hf : P.funcs[f]? = some fn) (hname : (fn.name == "runtime.NumGoroutine") = false)
    (hb : fn.body.isNone = true) (hn : Extern.findNext fn = none) (he : Extern.find fn = some e) (hm : sp.modes = allRd n)
    (h : ∀ ins r outs cs w S, sp.run ins = some (r, outs) → Two (RD w S) ins cs → outs = [] ∧ ∃ cv, (e cs.toArray).run P w = .ok cv w ∧ OW w r cv (fun _ => False)) : FnOk P f sp := by
  intro w S ins r outs cs Ns _ hr ha hd hNs hS
  rw [hm] at ha ⊢
  obtain ⟨h1, h2, h3⟩ := rd_all ha
  obtain ⟨rfl, cv, hv, how⟩ := h ins r outs cs w S hr h1
  obtain ⟨NOs, h4, h5⟩ := h3 w S
  left
  refine ⟨cv, w, ?_, cv, _, NOs, rfl, Fr.refl _ _, .inl how, h4, DisjS.cons (fun k hk => hk.elim) (fun i j N M k hN _ hk _ => absurd ⟨N, List.mem_of_getElem? hN, hk⟩ (h5 k)), fun k hk => ?_⟩
  · rw [run_callFunc_extern hf hname hb hn he, hv]; rfl
  · obtain ⟨N, hN, hk⟩ := hk
    rcases List.mem_cons.1 hN with rfl | hN
    · exact hk.elim
    · exact absurd ⟨N, hN, hk⟩ (h5 k)

def spIndexByte : Spec := { modes := [.rd, .rd], run := fun | [.str s, .int .u8 c] => some (.int .i64 (Lib.indexByte s c.toNat.toUInt8), []) | _ => none }
theorem spIndexByte_in {ins : List V} {r : V} {outs : List V} (h : spIndexByte.run ins = some (r, outs)) : ∃ (s : List UInt8) (c : Int), ins = [.str s, .int .u8 c] ∧ V.int .i64 (Lib.indexByte s c.toNat.toUInt8) = r ∧ outs = [] := by
  unfold spIndexByte at h
  simp only at h
  split at h
  · rename_i s c
    simp only [Option.some.injEq, Prod.mk.injEq] at h
    exact ⟨s, c, rfl, h.1, h.2.symm⟩
  · cases h
theorem indexByte_ext {P : Program} {f : FuncId} {fn : Func} (hf : P.funcs[f]? = some fn) (hname : (fn.name == "runtime.NumGoroutine") = false)
    (hb : fn.body.isNone = true) (hn : Extern.findNext fn = none) (he : Extern.find fn = some Extern.BytealgIndexByte.indexByte) : FnOk P f spIndexByte := by
  refine ext_ok (n := 2) hf hname hb hn he rfl fun ins r outs cs w S hr ht => ?_
  obtain ⟨s, c, rfl, rfl, rfl⟩ := spIndexByte_in hr
  cases ht with
  | cons h1 t =>
    cases t with
    | cons h2 t =>
      cases t
      cases h1 with
      | str b _ hs =>
        cases h2
        refine ⟨rfl, _, Lib.run_indexByteString _ _ _, ?_⟩
        rw [← hs]
        exact .int _ _
/-- The place of a byte, as a search. -/
theorem indexByte_neg (s : List UInt8) (c : UInt8) : Lib.indexByte s c < 0 ↔ c ∉ s := by
  induction s with
  | nil => simp [Lib.indexByte]
  | cons b l ih =>
    unfold Lib.indexByte
    by_cases hb : b = c
    · subst hb; simp
    · have h1 : (b == c) = false := by simpa using hb
      simp only [h1, Bool.false_eq_true, if_false, List.mem_cons]
      have := Lib.indexByte_ge l c
      by_cases h2 : Lib.indexByte l c = -1
      · have : c ∉ l := ih.1 (by omega)
        simp [h2, this, Ne.symm hb]
      · have h3 : (Lib.indexByte l c == -1) = false := by simpa using h2
        simp only [h3, Bool.false_eq_true, if_false]
        have : c ∈ l := by
          by_cases hc : c ∈ l
          · exact hc
          · have := ih.2 hc; omega
        simp [this]; omega
end Go.VM
