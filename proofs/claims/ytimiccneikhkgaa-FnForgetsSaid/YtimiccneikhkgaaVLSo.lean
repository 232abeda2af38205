/- The library's sorting of whole numbers as a function of the machine. No condition. -/
import Derived.Test.YtimiccneikhkgaaVmShelf
import Derived.Test.YtimiccneikhkgaaVmSet
import Derived.Sort.Grow
set_option linter.unusedVariables false
set_option linter.unusedSimpArgs false
namespace Go.VM
open Go

def sortI (l : List Int) : List Int := l.mergeSort fun x y => decide (x ≤ y)
theorem sortI_len (l : List Int) : (sortI l).length = l.length := List.length_mergeSort _
def spSort : Spec := { modes := [.io], run := fun | [.lst 1 l'] => (decL dInt l').bind fun l => if l.length ≤ 4194304 then some (.tup [], [.lst 1 ((sortI l).map eInt)]) else none | _ => none, need := [] }
attribute [go_sem] spSort
theorem spSort_in {ins : List V} {r : V} {outs : List V} (h : spSort.run ins = some (r, outs)) : ∃ l : List Int, ins = [.lst 1 (l.map eInt)] ∧ l.length ≤ 4194304 ∧ r = .tup [] ∧ outs = [.lst 1 ((sortI l).map eInt)] := by
  unfold spSort at h
  simp only at h
  split at h
  · rename_i l'
    simp only [Option.bind_eq_some_iff] at h
    obtain ⟨l, hl, h⟩ := h
    split at h
    · rename_i hc
      simp only [Option.some.injEq, Prod.mk.injEq] at h
      obtain ⟨rfl, rfl⟩ := h
      have := decL_some (fun _ _ h => dInt_some h) hl
      subst this
      exact ⟨l, rfl, hc, rfl, rfl⟩
    · cases h
  · cases h
theorem sort_ok {P : Program} {f : FuncId} {fn : Func} (hf : P.funcs[f]? = some fn) (hb : fn.body.isSome = true) (hname : (fn.name == "runtime.NumGoroutine") = false)
    (h1 : ∀ (blk off cap : Nat) (zs : List Int) (w : World), Sort.Holds (Value.int .i64) w blk off zs.toArray → blk < w.heap.size → zs.length < 4611686018427387904 →
      Calls P f #[.slice (some ⟨blk, off, none⟩) zs.length cap] w fun e w' => e = .returned (.tuple #[]) ∧ ∃ n os, w' = Sort.grow (Sort.putRow (Value.int .i64) (Sort.ahead w n) blk off (zs.mergeSort fun x y => decide (x ≤ y)).toArray) os)
    (h2 : ∀ (p : Option Addr) (cap : Nat) (w : World), Calls P f #[.slice p 0 cap] w fun e w' => e = .returned (.tuple #[]) ∧ w' = w) : FnOk P f spSort := by
  intro w S ins r outs cargs Ns hG hrun hargs hdis hNs hS
  obtain ⟨l, rfl, hlen, rfl, rfl⟩ := spSort_in hrun
  cases hargs with
  | wr hm h t =>
    cases t with
    | nil =>
      rename_i c N
      refine .inr ⟨enters_of hf hb hname _ _, ?_⟩
      have hempty : l = [] → (∃ p cap, c = .slice p 0 cap) → Calls P f [c].toArray w fun e w' => ∃ cv NR NOs, e = .returned cv ∧ Fr w w' (AnyS [N]) ∧ ResOk w' S (.tup []) cv NR ∧ OutsOk w' S [.io] [.lst 1 ((sortI l).map eInt)] [c] NOs ∧ DisjS (NR :: NOs) ∧
          ∀ k, AnyS (NR :: NOs) k → k < w'.heap.size ∧ (w.heap.size ≤ k ∨ AnyS [N] k) := by
        rintro rfl ⟨p, cap, rfl⟩
        refine (h2 p cap w).mono ?_
        rintro e w' ⟨rfl, rfl⟩
        refine ⟨_, fun _ => False, [N], rfl, Fr.refl _ _, .inl ((OW.tup [] #[] (fun _ _ => False) rfl (fun i x c hx => by simp at hx) (fun i i' k _ _ h => h.elim)).cast fun k => by simp), .io (by rw [show sortI [] = [] by simp [sortI]]; exact h) .nil, DisjS.cons (fun _ h => h.elim) hdis, fun k hk => ?_⟩
        rcases AnyS.cons.1 hk with hk | hk
        · exact hk.elim
        · exact ⟨(hNs k hk).2, .inr hk⟩
      generalize hv : V.lst 1 (l.map eInt) = v at h
      cases h <;> first | (cases hv; done) | skip
      · simp only [V.lst.injEq] at hv
        have hl0 : l = [] := List.map_eq_nil_iff.1 hv.2
        exact hempty hl0 ⟨none, 0, rfl⟩
      · rename_i sz l' ad cap cur e fr f' g hsp hbk hfr hlc hcap hmax hsz hok hc hr hself hdis'
        simp only [V.lst.injEq] at hv
        obtain ⟨rfl, rfl⟩ := hv
        by_cases hl0 : l = []
        · exact hempty hl0 ⟨some ad, cap, by subst hl0; rfl⟩
        obtain ⟨bk, of, sp⟩ := ad
        simp only at hsp hbk hcap hc hself
        subst hsp
        rw [List.length_map] at hlc hc hself hdis'
        have hcell : ∀ j (hj : j < l.length), cur[of + j]? = some (.int .i64 l[j]) := by
          intro j hj
          have h3 := hc j 0 hj (by omega)
          have h4 := hr j (eInt l[j]) 0 (eInt l[j]) (by simp [hj]) rfl
          simp only [eInt] at h4
          have h5 := h4.rd (S := fun _ => True) fun _ _ => trivial
          generalize f' j 0 = z at h3 h5
          cases h5
          simpa using h3
        have hH : Sort.Holds (Value.int .i64) w bk of l.toArray := by
          intro j hj
          have hj' : j < l.length := by simpa using hj
          have h3 := hcell j hj'
          refine ⟨by rw [cell_of_row hbk, h3]; simp [hj'], frozen_of_row hbk hfr ?_⟩
          omega
        have hlt := lt_of_heap hbk
        have := h1 bk of cap l w hH hlt (by omega)
        have e0 : (List.map eInt l).length = l.length := List.length_map _
        rw [e0]
        refine this.mono ?_
        rintro ev w' ⟨rfl, n, os, rfl⟩
        have hsl := sortI_len l
        let cur' := Sort.putCells (Value.int .i64) of (sortI l).toArray cur
        have hsz' : cur'.size = cur.size := by simp [cur', Sort.putCells]
        have hheap : ∀ k, (Sort.grow (Sort.putRow (Value.int .i64) (Sort.ahead w n) bk of (l.mergeSort fun x y => decide (x ≤ y)).toArray) os).heap[k]? = if k < w.heap.size then (if k = bk then some (.cells cur' e fr) else w.heap[k]?) else os[k - w.heap.size]? := by
          intro k
          show ((w.heap.modify bk _) ++ os)[k]? = _
          rw [Array.getElem?_append]
          simp only [Array.size_modify]
          split
          · rw [Array.getElem?_modify]
            by_cases hk : bk = k
            · subst hk
              rw [if_pos rfl, if_pos rfl, hbk]
              rfl
            · rw [if_neg hk, if_neg (fun e => hk e.symm)]
          · rfl
        have hb' : (Sort.grow (Sort.putRow (Value.int .i64) (Sort.ahead w n) bk of (l.mergeSort fun x y => decide (x ≤ y)).toArray) os).heap[bk]? = some (.cells cur' e fr) := by rw [hheap, if_pos hlt, if_pos rfl]
        have hwsz : w.heap.size ≤ (Sort.grow (Sort.putRow (Value.int .i64) (Sort.ahead w n) bk of (l.mergeSort fun x y => decide (x ≤ y)).toArray) os).heap.size := by
          show w.heap.size ≤ ((w.heap.modify bk _) ++ os).size
          simp
        generalize hw : Sort.grow (Sort.putRow (Value.int .i64) (Sort.ahead w n) bk of (l.mergeSort fun x y => decide (x ≤ y)).toArray) os = w' at hheap hb' hwsz
        have hos : w'.os = w.os ∧ w'.tape = w.tape ∧ w'.output = w.output := by subst hw; exact ⟨rfl, rfl, rfl⟩
        have hnew : OW w' (.lst 1 ((sortI l).map eInt)) (.slice (some ⟨bk, of, none⟩) ((sortI l).map eInt).length cap) (fun k => k = bk ∨ ∃ i j, i < ((sortI l).map eInt).length ∧ j < 1 ∧ False) := by
          refine OW.mk_row (cur := cur') (e := e) (fr := fr) (Ng := fun _ _ _ => False) rfl (by rw [List.length_map, hsl]; exact hlc) hmax ?_ ?_ hb' (by rw [hsz']; exact hfr) (by rw [hsz']; exact hcap) ?_ (fun _ _ _ _ h => h) (fun _ _ _ _ _ _ _ _ _ h => h.elim)
          · intro x hx
            obtain ⟨z, _, rfl⟩ := List.mem_map.1 hx
            rfl
          · intro x hx y hy
            obtain ⟨z, _, rfl⟩ := List.mem_map.1 hx
            simp [eInt, V.cells] at hy
            subst hy; rfl
          · intro i x j y hx hy
            simp only [List.getElem?_map, Option.map_eq_some_iff] at hx
            obtain ⟨z, hz, rfl⟩ := hx
            have hj : j = 0 := by
              cases j with
              | zero => rfl
              | succ j => simp [eInt, V.cells] at hy
            subst hj
            simp [eInt, V.cells] at hy
            subst hy
            have hi := (List.getElem?_eq_some_iff.1 hz).1
            have hil : i < l.length := by omega
            refine ⟨.int .i64 z, ?_, .int _ _⟩
            simp only [cur', Sort.putCells, Array.getElem?_mapIdx, Nat.mul_one, Nat.add_zero, hcell i hil, Option.map_some, List.size_toArray]
            rw [if_pos ⟨by omega, by omega⟩]
            simp only [Nat.add_sub_cancel_left]
            have : (sortI l)[i] = z := (List.getElem?_eq_some_iff.1 hz).2
            simp [hi, this]
        have hN : ∀ k, (k = bk ∨ ∃ i j, i < ((sortI l).map eInt).length ∧ j < 1 ∧ False) → k = bk := by
          rintro k (hk | ⟨_, _, _, _, hk⟩)
          · exact hk
          · exact hk.elim
        have hcv : (Value.slice (some ⟨bk, of, none⟩) ((sortI l).map eInt).length cap) = .slice (some ⟨bk, of, none⟩) l.length cap := by rw [List.length_map, hsl]
        rw [hcv] at hnew
        refine ⟨_, fun _ => False, [_], rfl, ⟨hos.1, hos.2.1, hos.2.2, hwsz, fun k hk hno => ?_⟩, .inl ((OW.tup [] #[] (fun _ _ => False) rfl (fun i x c hx => by simp at hx) (fun i i' k _ _ h => h.elim)).cast fun k => by simp), .io hnew .nil, DisjS.cons (fun _ h => h.elim) (DisjS.cons (fun k _ ⟨_, h, _⟩ => by cases h) fun i j A B k ha => by simp at ha), fun k hk => ?_⟩
        · rw [hheap, if_pos hk, if_neg]
          intro e1
          exact hno ⟨_, List.mem_singleton.2 rfl, Or.inl e1⟩
        · rcases AnyS.cons.1 hk with hk | hk
          · exact hk.elim
          · rcases AnyS.cons.1 hk with hk | ⟨_, hk, _⟩
            · have := hN k hk
              subst this
              exact ⟨Nat.lt_of_lt_of_le hlt hwsz, .inr ⟨_, List.mem_singleton.2 rfl, Or.inl rfl⟩⟩
            · cases hk
end Go.VM
