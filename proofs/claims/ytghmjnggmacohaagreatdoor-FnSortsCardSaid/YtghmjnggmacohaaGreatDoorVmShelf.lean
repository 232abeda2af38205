/- Library functions whose contracts the kit's shelf holds, as functions of the abstract machine. No condition. -/
import Derived.Test.YtghmjnggmacohaaGreatDoorVmExt
import Derived.Lib.Join
import Derived.Lib.ItoaNum
import Derived.Lib.Index
import Derived.Lib.Split
import Derived.Lib.SplitLaws
import Derived.Sort.Grow
import Derived.Deep.Draws
set_option linter.unusedVariables false
set_option linter.unusedSimpArgs false
namespace Go.VM
open Go

/-- A function whose call is known, and which writes nothing that was there. -/
theorem fnOk_of_calls {P : Program} {f : FuncId} {fn : Func} {sp : Spec} {n : Nat} (hf : P.funcs[f]? = some fn) (hb : fn.body.isSome = true) (hname : (fn.name == "runtime.NumGoroutine") = false) (hm : sp.modes = allRd n)
    (h : ∀ (w : World) (S : Nat → Prop) ins r outs cs, GBase P sp.need w → sp.run ins = some (r, outs) → Two (RD w S) ins cs → (∀ k, S k → k < w.heap.size) →
      outs = [] ∧ Calls P f cs.toArray w fun e w' => ∃ cv NR, e = .returned cv ∧ Fr w w' (fun _ => False) ∧ OW w' r cv NR ∧ ∀ k, NR k → w.heap.size ≤ k) : FnOk P f sp := by
  intro w S ins r outs cs Ns hG hr ha hd hNs hS
  rw [hm] at ha ⊢
  obtain ⟨h1, h2, h3⟩ := rd_all ha
  obtain ⟨rfl, hc⟩ := h w S ins r outs cs hG.base hr h1 hS
  refine .inr ⟨enters_of hf hb hname _ _, hc.mono ?_⟩
  rintro e w' ⟨cv, NR, rfl, hfr, how, hN⟩
  obtain ⟨NOs, h4, h5⟩ := h3 w' S
  refine ⟨cv, NR, NOs, rfl, ⟨hfr.os, hfr.tape, hfr.output, hfr.size, fun k hk hn => hfr.block k hk (fun h => h)⟩, .inl how, h4, DisjS.cons (fun k _ ha => h5 k ha) (fun i j N M k hN' _ hk _ => absurd ⟨N, List.mem_of_getElem? hN', hk⟩ (h5 k)), fun k hk => ?_⟩
  rcases AnyS.cons.1 hk with hk | hk
  · exact ⟨how.lt k hk, .inl (hN k hk)⟩
  · exact absurd hk (h5 k)

/-- strings.Split. -/
theorem split_ok {P : Program} {f : FuncId} {fn : Func} {sp : Spec} (hf : P.funcs[f]? = some fn) (hb : fn.body.isSome = true) (hname : (fn.name == "runtime.NumGoroutine") = false) {g : Nat} {e : TypeId}
    (hg : P.globalNamed "internal/bytealg.MaxLen" = some g) (hD : "internal/bytealg.MaxLen" ∈ sp.need) (hm : sp.modes = [.rd, .rd])
    (hr : ∀ ins r outs, sp.run ins = some (r, outs) → ∃ (s sep : List UInt8), ins = [.str s, .str sep] ∧ (1 ≤ sep.length ∧ s.length < 4294967281) ∧ V.lst 1 ((Lib.splitK sep 0 (Lib.count s sep) s).map fun s => V.str s) = r ∧ outs = [])
    (hs : ∀ (s sep : ByteArray) (m : Int) (w : World), s.size < 4294967281 → w.cell? ⟨g, 0, none⟩ = some (.int .i64 m) → 1 ≤ sep.size →
      Calls P f #[.string s, .string sep] w fun ev w' => ev = .returned (.slice (some ⟨w.heap.size, 0, none⟩) (Lib.countB s sep + 1) (Lib.countB s sep + 1)) ∧ w' = w.alloc (.cells ((Lib.splitB sep 0 (Lib.countB s sep) s).map Value.string).toArray e)) : FnOk P f sp := by
  refine fnOk_of_calls (n := 2) hf hb hname hm fun w S ins r outs cs hG hrun ht hS => ?_
  obtain ⟨s, sep, rfl, ⟨hn, hl⟩, rfl, rfl⟩ := hr _ _ _ hrun
  refine ⟨rfl, ?_⟩
  obtain ⟨g', m, hg', hm⟩ := hG.maxLen hD
  rw [hg] at hg'; cases hg'
  cases ht with
  | cons h1 t =>
    cases t with
    | cons h2 t =>
      cases t
      cases h1 with
      | str a _ ha =>
        cases h2 with
        | str b _ hb' =>
          subst ha hb'
          have hb1 : 1 ≤ b.size := hn
          have hal : a.size < 4294967281 := hl
          refine (hs a b m w hl hm hn).mono ?_
          rintro ev w' ⟨rfl, rfl⟩
          have hlen := Lib.splitB_all b hn 0 _ a rfl
          have hle := Lib.countB_le b hn a.size a (Nat.le_refl _)
          have hdata := Lib.splitB_data b 0 (Lib.countB a b) a
          have hL : (Lib.splitK b.data.toList 0 (Lib.count a.data.toList b.data.toList) a.data.toList) = (Lib.splitB b 0 (Lib.countB a b) a).map (·.data.toList) := hdata.symm
          rw [hL]
          generalize hB : Lib.splitB b 0 (Lib.countB a b) a = B at *
          have hlen' : (B.map (fun x : ByteArray => x.data.toList)).length = Lib.countB a b + 1 := by rw [List.length_map, hlen]
          have this := OW.lst (w := w.alloc (.cells (B.map Value.string).toArray e)) 1 ((B.map (fun x : ByteArray => x.data.toList)).map fun s => V.str s) ⟨w.heap.size, 0, none⟩ (Lib.countB a b + 1) ((B.map Value.string).toArray) e (0, 0)
              (fun i _ => ((B.map Value.string).toArray)[i]?.getD Go.undef) (fun _ _ _ => False) rfl (heap_alloc_new' w _) .new (by simp [hlen]) (by simp [hlen]) (by unfold maxLen; omega) (by simp [V.cells]) (by
                intro x hx y hy
                obtain ⟨z, _, rfl⟩ := List.mem_map.1 hx
                simp only [V.cells, List.mem_singleton] at hy
                subst hy; rfl)
              (fun i j hi hj => by
                have : j = 0 := by omega
                subst this
                simp only [List.length_map] at hi
                simp only [Nat.mul_one, Nat.zero_add, Nat.add_zero]
                rw [Array.getElem?_eq_getElem (by simpa using hi)]; rfl)
              (fun i x j y hx hy => by
                rw [List.getElem?_map, List.getElem?_map] at hx
                simp only [Option.map_map, Option.map_eq_some_iff] at hx
                obtain ⟨z, hz, rfl⟩ := hx
                cases j with
                | succ j => simp [V.cells] at hy
                | zero =>
                  simp only [Function.comp, V.cells, List.getElem?_cons_zero, Option.some.injEq] at hy
                  subst hy
                  have : ((B.map Value.string).toArray)[i]? = some (.string z) := by simp [hz]
                  simp only [this, Option.getD_some]
                  exact .str _ _ rfl)
              (fun _ _ _ _ h => h) (fun _ _ _ _ _ _ _ _ _ h => h.elim)
          simp only [List.length_map, hlen] at this
          refine ⟨_, _, rfl, (Fr.refl w _).alloc _, this, ?_⟩
          rintro k (rfl | ⟨_, _, _, _, h⟩)
          · exact Nat.le_refl _
          · exact h.elim
end Go.VM
