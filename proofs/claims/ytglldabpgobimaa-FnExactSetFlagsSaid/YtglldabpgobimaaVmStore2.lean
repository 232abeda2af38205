/- Stores; struct values; slice literals; make; bytes of texts: the operations. -/
import Derived.Test.YtglldabpgobimaaVmStore
set_option linter.unusedVariables false
set_option linter.unusedSimpArgs false
namespace Go.VM
open Go

section
variable {P : Program} {w0 w : World} {O S : Nat → Prop} {g : G} {h : Heap} {U : Nat → Prop} {a : Act} {e : Env} {n : Nat} {o : Oper}

theorem run_storeAt {t : TypeId} {b off : Nat} {v : Value} {w' : World} (hne : P.cellsOf t ≠ 0) (hs : v.cells.size = P.cellsOf t) (hr : (storeCells ⟨b, off, none⟩ v.cells.toList).run P w = .ok () w') :
    (Instr.storeAt t (.pointer (some ⟨b, off, none⟩)) v).run P w = .ok () w' := by
  simp [Instr.storeAt, Instr.sureAddr, storeVar, run_sizeOf hne, hs, hr]

theorem does_skip {us : List (Nat × Option Blk)} {w' : World} {g' : G} (hrun : (execOp a.eval o).run P w = .ok .skip w') (H' : HOk w0 O w' S g' (updsH h us) U) (tr : Tr w S g h w' S g' (updsH h us)) :
    Does P w0 O w S g h U a n o .undef us := ⟨Go.undef, w', g', .inr ⟨hrun, rfl⟩, H'.weak fun _ hk => .inl hk, tr, .undef _⟩

theorem op_store (H : HOk w0 O w S g h U) {t : TypeId} {pa xa : Operand} {p x : V} {us : List (Nat × Option Blk)} (ho : o.op = .store t pa xa) (hp : VR w S g h p (a.eval pa)) (hx : VR w S g h x (a.eval xa))
    (hv : storeV P h t p x = some us) : Does P w0 O w S g h U a n o .undef us := by
  have hexec : ∀ {w'}, (Instr.storeAt t (a.eval pa) (a.eval xa)).run P w = .ok () w' → (execOp a.eval o).run P w = .ok .skip w' := fun hr => by simp [execOp, ho, hr]
  unfold storeV at hv
  split at hv
  · rename_i id i f
    split at hv
    · rename_i sz old hb
      obtain ⟨ad, hbase, hi, ep⟩ := hp.inv_ptr hb (H.notDead hb)
      obtain ⟨ad', cur, e', fr, v, h1, h2, h3, h4, h5, h6, h7, h8, h9, h10, h11⟩ := H.blk id _ hb
      rw [hbase] at h1; cases h1
      simp only [List.cons.injEq, and_true] at h6
      subst h6
      split at hv
      · split at hv
        · rename_i hc
          obtain ⟨rfl, hs0, hxs, hts, hst⟩ := hc
          cases hv
          simp only [storable, Bool.and_eq_true] at hst
          obtain ⟨c1, c2⟩ := hx.cells_ok hst.1 (liveB_notDead H hst.2)
          have hone : ∀ u ∈ (a.eval xa).cells.toList, u.oneCell' = true := by
            intro u hu
            obtain ⟨j, hj, rfl⟩ := List.mem_iff_getElem.1 hu
            have hj' : j < x.cells.length := by rw [← c1]; simpa using hj
            exact (c2 j _ ((a.eval xa).cells.toList[j]) (List.getElem?_eq_getElem hj') (by simp)).2.2
          obtain ⟨w', cur', hrun, hrow', hcsz, hcc, ho'⟩ := run_storeCells_row P (off := ad.off) (a.eval xa).cells.toList 0 w cur h4 h5 hone (by simp only [Array.length_toList]; omega)
          have hall : ∀ (j : Nat) (c : Value), cur'[j]? = some c → (a.eval xa).cells[j]? = some c := by
            intro j c hc
            have hjl := (Array.getElem?_eq_some_iff.1 hc).1
            rw [hcc, if_pos (by simp only [Array.length_toList]; omega)] at hc
            have : j - (ad.off + 0) = j := by omega
            rw [this] at hc
            simpa using hc
          obtain ⟨H', tr⟩ := H.setBox hb hbase hst.1 hxs.symm ho' hrow' (by rw [hcsz]; exact h5) (by rw [hcsz, h8]; omega) (fun j y c hy hc => (c2 j y c hy (hall j c hc)).1)
          refine does_skip (hexec ?_) H' tr
          rw [ep]
          simp only [Nat.zero_mul, Option.getD_none, Nat.add_zero]
          exact run_storeAt (by omega) (by omega) hrun
        · cases hv
      · rename_i j l
        split at hv
        · rename_i hc
          obtain ⟨rfl, hjl, hts, hxo, hxl⟩ := hc
          cases hv
          obtain ⟨e1, e2⟩ := hx.cell_ok hxo (liveB_notDead H hxl)
          obtain ⟨w', cur', hrun, hrow', hcsz, hcc, ho'⟩ := run_storeCells_row P (off := ad.off + j) [a.eval xa] 0 w cur h4 h5 (by simpa using e2) (by simp only [V.cells] at h8; simp; omega)
          simp only [V.cells] at h8 h10
          have hset : ∀ (q : Nat) y, (l.set j x)[q]? = some y → okCell y = true := by
            intro q y hy
            rcases List.mem_or_eq_of_mem_set (List.mem_of_getElem? hy) with hm | rfl
            · exact (List.all_eq_true.1 h9) y hm
            · exact hxo
          obtain ⟨H', tr⟩ := H.setBox (x := .agg (l.set j x)) hb hbase (by
              simp only [boxableA, List.all_eq_true]
              intro y hy
              obtain ⟨q, hq, rfl⟩ := List.mem_iff_getElem.1 hy
              exact hset q _ (List.getElem?_eq_getElem hq)) (by rw [h7]; simp [V.cells]) ho' hrow' (by rw [hcsz]; exact h5) (by rw [hcsz, h8]; simp [V.cells]) (by
              intro q y c hy hc
              simp only [V.cells] at hy
              have hq := (Array.getElem?_eq_some_iff.1 hc).1
              rw [hcc] at hc
              by_cases hqj : q = j
              · subst hqj
                rw [if_pos (by simp; omega)] at hc
                have : q - (ad.off + q + 0) = 0 := by omega
                rw [this] at hc
                simp at hc
                rw [List.getElem?_set_self hjl] at hy
                cases hy
                rw [← hc]; exact hx
              · rw [if_neg (by simp; omega)] at hc
                rw [List.getElem?_set_ne (Ne.symm hqj)] at hy
                exact h10 q y c hy hc)
          refine does_skip (hexec ?_) H' tr
          rw [ep]
          simp only [Nat.zero_mul, Option.getD_some, Nat.zero_add]
          exact run_storeAt (by omega) (by rw [e1, hts]; rfl) (by rw [e1]; exact hrun)
        · cases hv
      · cases hv
    · rename_i sz els hb
      obtain ⟨ad, hbase, hi, ep⟩ := hp.inv_ptr hb (H.notDead hb)
      have hsp := (H.blk id _ hb).2 ad hbase
      split at hv
      · rename_i old y ids hold hcl
        split at hv
        · rename_i hc
          obtain ⟨hs0, hys, hts, hnd⟩ := hc
          cases hv
          simp only [Bool.and_eq_true, Bool.not_eq_true', List.contains_eq_mem, decide_eq_false_iff_not, nodupB_iff] at hnd
          obtain ⟨c1, c2, c3, Ns, c4, c5, c6⟩ := clA_ok H hcl hx
          have hone : ∀ u ∈ (a.eval xa).cells.toList, u.oneCell' = true := by
            intro u hu
            obtain ⟨j, hj, rfl⟩ := List.mem_iff_getElem.1 hu
            have hj' : j < y.cells.length := by rw [← c1]; simpa using hj
            exact (c4 j _ ((a.eval xa).cells.toList[j]) (List.getElem?_eq_getElem hj') (by simp)).2
          obtain ⟨w', g', hrun, H', tr⟩ := H.setRow (P := P) (j0 := 0) (vs := (a.eval xa).cells) (M := Ns) hb hbase hold hnd.2 hnd.1 c3 hys c2 (by omega) hone (fun j z c _ _ hz hc => (c4 j z c hz (by simpa using hc)).1)
            (fun j _ hj => c5 j (by omega)) (fun j j' k _ hj _ hj' h1 h2 => c6 hnd.2 j j' k (by omega) (by omega) h1 h2)
            (fun j hj => by
              have h1 : y.cells.length ≤ j := by omega
              have h2 : old.cells.length ≤ j := by rw [elsOf_flat H hb old (List.mem_of_getElem? hold)]; omega
              rw [List.getElem?_eq_none h1, List.getElem?_eq_none h2])
          refine does_skip (hexec ?_) H' tr
          rw [ep]
          simp only [Option.getD_none]
          exact run_storeAt (by omega) (by omega) hrun
        · cases hv
      · rename_i l j y ids hold hcl
        split at hv
        · rename_i hc
          obtain ⟨hjl, hts, hyo, hnd⟩ := hc
          cases hv
          simp only [Bool.and_eq_true, Bool.not_eq_true', List.contains_eq_mem, decide_eq_false_iff_not, nodupB_iff] at hnd
          obtain ⟨c1, c2, c3, Ns, c4, c5, c6⟩ := clA_ok H hcl hx
          have hyc := okCell_cells hyo
          rw [hyc] at c1 c4 c5
          have hlsz := elsOf_flat H hb _ (List.mem_of_getElem? hold)
          simp only [V.cells] at hlsz
          have hone : ∀ u ∈ (a.eval xa).cells.toList, u.oneCell' = true := by
            intro u hu
            obtain ⟨q, hq, rfl⟩ := List.mem_iff_getElem.1 hu
            have hq' : q < [y].length := by rw [← c1]; simpa using hq
            exact (c4 q _ ((a.eval xa).cells.toList[q]) (List.getElem?_eq_getElem hq') (by simp)).2
          simp only [List.length_cons, List.length_nil] at c1
          obtain ⟨w', g', hrun, H', tr⟩ := H.setRow (P := P) (j0 := j) (vs := (a.eval xa).cells) (new := .agg (l.set j y)) (M := fun q => Ns (q - j)) hb hbase hold hnd.2 hnd.1 c3 (by simp [V.cells, hlsz])
            (by
              intro z hz
              simp only [V.cells] at hz
              rcases List.mem_or_eq_of_mem_set hz with hm | rfl
              · have hO := (H.blk id _ hb).1
                rw [hbase] at hO
                exact hO.row.2.2.2.2.2.1 _ (List.mem_of_getElem? hold) z (by simpa [V.cells] using hm)
              · exact hyo) (by omega) hone
            (fun q z c h1 h2 hz hc => by
              have hq : q = j := by omega
              subst hq
              simp only [V.cells] at hz
              rw [List.getElem?_set_self hjl] at hz
              cases hz
              rw [Nat.sub_self] at hc ⊢
              exact (c4 0 y c rfl hc).1)
            (fun q h1 h2 => c5 (q - j) (by simp; omega)) (fun q q' k h1 h2 h3 h4 _ _ => by omega)
            (fun q hq => by simp only [V.cells]; rw [List.getElem?_set_ne (by omega)])
          refine does_skip (hexec ?_) H' tr
          rw [ep]
          simp only [Option.getD_some]
          exact run_storeAt (by omega) (by omega) hrun
        · cases hv
      · cases hv
    · cases hv
  · cases hv

end
end Go.VM
