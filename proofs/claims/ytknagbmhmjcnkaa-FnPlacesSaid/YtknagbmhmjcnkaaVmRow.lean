/- A statement's arguments, as the model's reading gives them, are readable data. -/
import Derived.Test.YtknagbmhmjcnkaaVmFn
import Derived.OpenShut
import Derived.SizedLaws
import Derived.ChangeOld
import Derived.Carry
set_option linter.unusedVariables false
set_option linter.unusedSimpArgs false
namespace Go.VM
open Go

/-- A type whose data this machine reads: numbers, truth values, texts, slices of such, structs of such that lie flat. -/
def okT (P : Program) : Nat → TypeId → Bool
  | 0, _ => false
  | n + 1, t =>
    match P.underlying t with
    | some .bool | some (.int _) | some .string => true
    | some (.slice e) => decide (0 < P.cellsOf e) && okT P n e
    | some (.struct fs) => P.cellsOf t == fs.size && (List.range fs.size).all fun i => match fs[i]? with
      | some f => f.offset == i && P.cellsOf f.type == 1 && isScalarT P f.type && okT P n f.type
      | none => false
    | _ => false

/-- What such data is like. -/
def WfV (P : Program) : Nat → TypeId → V → Prop
  | 0, _, _ => False
  | n + 1, t, v =>
    match P.underlying t, v with
    | some .bool, .bool _ => True
    | some (.int k), .int k' m => k' = k ∧ k.min ≤ m ∧ m ≤ k.max
    | some .string, .str l => l.length ≤ reachBytes
    | some (.slice e), .lst sz l => sz = P.cellsOf e ∧ l.length * P.bytesOf e ≤ reachBytes ∧ l.length ≤ maxLen ∧ ∀ x ∈ l, WfV P n e x
    | some (.struct fs), .agg l => l.length = fs.size ∧ ∀ (i : Nat) f x, fs[i]? = some f → l[i]? = some x → WfV P n f.type x
    | _, _ => False

section
variable {H : Type} {enc : TypeId × Value → H} {P : Program} {w : World} {spare : Nat → Bool} {held : Bool}

theorem weights_all {e : TypeId} {d : DataW H} : ∀ {l : List (DataW H)}, d ∈ l → ∀ m ∈ d.weights P e, m ∈ DataW.weightsAll P e l
  | [], h, _, _ => by simp at h
  | d' :: l, h, m, hm => by
    simp only [DataW.weightsAll, List.mem_append]
    rcases List.mem_cons.1 h with rfl | h
    · exact .inl hm
    · exact .inr (weights_all h m hm)

theorem list_choice {α : Type} {R : Nat → α → Prop} [Inhabited α] (n : Nat) (h : ∀ i, i < n → ∃ x, R i x) : ∃ l : List α, l.length = n ∧ ∀ i x, l[i]? = some x → R i x := by
  classical
  refine ⟨(List.range n).map fun i => if hi : i < n then (h i hi).choose else default, by simp, fun i x hx => ?_⟩
  simp only [List.getElem?_map, Option.map_eq_some_iff] at hx
  obtain ⟨j, hj, rfl⟩ := hx
  have hlt := (List.getElem?_eq_some_iff.1 hj).1
  simp only [List.length_range] at hlt
  rw [List.getElem?_range hlt] at hj
  cases hj
  rw [dif_pos hlt]
  exact (h i hlt).choose_spec

theorem one_cell {S : Nat → Prop} {v : V} {c : Value} (hv : v.cells = [v]) (h : RD w S v c) : v.cells.length = [c].length ∧ ∀ (j : Nat) y c', v.cells[j]? = some y → [c][j]? = some c' → RD w S y c' := by
  rw [hv]
  refine ⟨rfl, fun j y c' hy hc => ?_⟩
  cases j with
  | zero => simp at hy hc; subst hy hc; exact h
  | succ j => simp at hy

theorem trod_bool' {fuel : Nat} {t : TypeId} {cs : List Value} {x : DataW H × List MemPlace} (hu : P.underlying t = some .bool) (h : DataW.trod enc P w 0 spare held fuel t cs = some x) : ∃ b, cs = [.bool b] := by
  cases fuel with
  | zero => simp [DataW.trod] at h
  | succ n =>
    unfold DataW.trod at h
    rw [hu] at h
    split at h <;> simp_all
theorem trod_int' {fuel : Nat} {t : TypeId} {cs : List Value} {k : IntKind} {x : DataW H × List MemPlace} (hu : P.underlying t = some (.int k)) (h : DataW.trod enc P w 0 spare held fuel t cs = some x) : ∃ m, cs = [.int k m] ∧ (Lit.int k m).wf = true := by
  cases fuel with
  | zero => simp [DataW.trod] at h
  | succ n =>
    unfold DataW.trod at h
    rw [hu] at h
    split at h <;> simp_all
theorem trod_string' {fuel : Nat} {t : TypeId} {cs : List Value} {x : DataW H × List MemPlace} (hu : P.underlying t = some .string) (h : DataW.trod enc P w 0 spare held fuel t cs = some x) : ∃ s, cs = [.string s] ∧ x.1 = .lit (.string s.data.toList) := by
  cases fuel with
  | zero => simp [DataW.trod] at h
  | succ n =>
    unfold DataW.trod at h
    rw [hu] at h
    split at h <;> simp_all
    rw [← h.2]

def Reads (P : Program) (w : World) (n : Nat) (t : TypeId) (v : V) (cs : List Value) : Prop :=
  WfV P n t v ∧ v.cells.length = cs.length ∧ ∀ (j : Nat) y c, v.cells[j]? = some y → cs[j]? = some c → RD w (fun k => k < w.heap.size) y c

theorem wf_scalar {n : Nat} {t : TypeId} {v : V} (h : WfV P n t v) (hs : isScalarT P t = true) : v.cells = [v] := by
  cases n with
  | zero => exact h.elim
  | succ n =>
    cases v <;> first | rfl | skip
    rename_i l
    unfold WfV at h
    unfold isScalarT at hs
    split at h <;> simp_all

theorem add_add (a : Addr) (x j : Nat) (hs : a.spot = none) : (a.add x).add j = ⟨a.block, a.off + (x + j), none⟩ := by
  obtain ⟨b, o, sp⟩ := a
  simp only at hs
  subst hs
  unfold Addr.add
  by_cases h1 : x = 0 <;> by_cases h2 : j = 0 <;> simp [h1, h2] <;> omega

theorem cell_spot {a : Addr} {c : Value} (h : w.cell? a = some c) : a.spot = none := by
  unfold World.cell? at h
  split at h
  · split at h
    · cases h
    · rename_i hs; simpa using hs
  · cases h

theorem trod_rd : ∀ (n fuel : Nat) (t : TypeId) (cs : List Value) (x : DataW H × List MemPlace), okT P n t = true → DataW.trod enc P w 0 spare held fuel t cs = some x → (∀ m ∈ x.1.weights P t, m ≤ reachBytes) → ∃ v, Reads P w n t v cs
  | 0, _, _, _, _, h, _, _ => by simp [okT] at h
  | n + 1, fuel, t, cs, x, hok, htr, hw => by
    unfold okT at hok
    split at hok
    · rename_i hu
      obtain ⟨b, rfl⟩ := trod_bool' hu htr
      exact ⟨.bool b, by simp [WfV, hu], one_cell rfl (.bool b)⟩
    · rename_i k hu
      obtain ⟨m, rfl, hwf⟩ := trod_int' hu htr
      simp only [Lit.wf, Bool.and_eq_true, decide_eq_true_eq] at hwf
      exact ⟨.int k m, by simp [WfV, hu, hwf], one_cell rfl (.int k m)⟩
    · rename_i hu
      obtain ⟨s, rfl, hx⟩ := trod_string' hu htr
      rw [hx] at hw
      have := hw s.data.toList.length (by simp only [DataW.weights, List.mem_singleton])
      exact ⟨.str s.data.toList, by simpa only [WfV, hu] using this, one_cell rfl (.str s _ rfl)⟩
    · rename_i e hu
      simp only [Bool.and_eq_true, decide_eq_true_eq] at hok
      rcases DataW.trod_slice hu htr with ⟨rfl, rfl⟩ | ⟨a, len, cap, elems, rest, m, rfl, rfl, rfl, hb, hlc, hcm, hel, helem, _, _⟩
      · refine ⟨.lst (P.cellsOf e) [], ?_, one_cell rfl (.lnil _ _ _)⟩
        simp only [WfV, hu]
        exact ⟨trivial, by simp, by simp, by simp⟩
      · have hsz : len * P.bytesOf e ≤ reachBytes := by
          have := hw ((elems.map (·.1)).length + (rest.map (·.1)).length |> (· * P.bytesOf e)) (by simp [DataW.weights, hu])
          refine Nat.le_trans (Nat.mul_le_mul_right _ ?_) this
          simp; omega
        have hone : ∀ i, i < len → ∃ (q : V × List Value), Reads P w n e q.1 q.2 ∧ w.cells? 0 (a.add (i * P.cellsOf e)) (P.cellsOf e) = some q.2 := by
          intro i hi
          have h1 := helem i hi
          have hie : i < elems.length := by omega
          rw [List.getElem?_eq_getElem hie] at h1
          simp only [Option.bind_eq_some_iff] at h1
          obtain ⟨cs', hcs', htr'⟩ := h1
          obtain ⟨v, hv⟩ := trod_rd n m e cs' _ hok.2 htr' (fun q hq => hw q (by
            simp only [DataW.weights, hu, List.mem_cons, List.mem_append]
            right; left
            exact weights_all (List.mem_map_of_mem (List.getElem_mem hie)) q hq))
          exact ⟨(v, cs'), hv, hcs'⟩
        obtain ⟨L, hL, hR⟩ := list_choice len hone
        have hget : ∀ i, i < len → ∃ v cs', L[i]? = some (v, cs') ∧ Reads P w n e v cs' ∧ w.cells? 0 (a.add (i * P.cellsOf e)) (P.cellsOf e) = some cs' := fun i hi =>
          ⟨_, _, List.getElem?_eq_getElem (by omega), hR i _ (List.getElem?_eq_getElem (by omega))⟩
        have hLl : (L.map (·.1)).length = len := by simp [hL]
        refine ⟨.lst (P.cellsOf e) (L.map (·.1)), ?_, one_cell rfl ?_⟩
        · simp only [WfV, hu]
          refine ⟨trivial, by rw [hLl]; exact hsz, by rw [hLl]; omega, fun x hx => ?_⟩
          obtain ⟨q, hq, rfl⟩ := List.mem_map.1 hx
          obtain ⟨i, hi, rfl⟩ := List.mem_iff_getElem.1 hq
          exact (hR i _ (List.getElem?_eq_getElem hi)).1.1
        · rcases Nat.eq_zero_or_pos len with h0 | h0
          · subst h0
            have : L = [] := List.eq_nil_of_length_eq_zero hL
            subst this
            exact .lnil _ _ _
          · have hfirst : a.spot = none ∧ a.block < w.heap.size := by
              obtain ⟨v, cs', _, _, hc⟩ := hget 0 h0
              have hb := World.cells?_block hc hok.1
              obtain ⟨_, hl, hcc⟩ := World.cells?_some hc
              have := hcc 0 hok.1
              rw [List.getElem?_eq_getElem (by omega)] at this
              have hsp := cell_spot this
              simp [Addr.add] at hsp hb
              exact ⟨hsp, hb⟩
            have hcell : ∀ i j, i < len → j < P.cellsOf e → ∃ c, w.cell? ⟨a.block, a.off + (i * P.cellsOf e + j), none⟩ = some c ∧ ∀ v y, L[i]?.map (·.1) = some v → v.cells[j]? = some y → RD w (fun k => k < w.heap.size) y c := by
              intro i j hi hj
              obtain ⟨v, cs', hLi, hrd, hc⟩ := hget i hi
              obtain ⟨_, hl, hcc⟩ := World.cells?_some hc
              have h1 := hcc j hj
              rw [add_add a _ j hfirst.1, List.getElem?_eq_getElem (by omega)] at h1
              refine ⟨_, h1, fun v' y hv' hy => ?_⟩
              rw [hLi] at hv'
              simp only [Option.map_some, Option.some.injEq] at hv'
              subst hv'
              exact hrd.2.2 j y _ hy (List.getElem?_eq_getElem (by omega))
            classical
            let f : Nat → Nat → Value := fun i j => if h : i < len ∧ j < P.cellsOf e then (hcell i j h.1 h.2).choose else Go.undef
            have hf : ∀ i j (hi : i < len) (hj : j < P.cellsOf e), f i j = (hcell i j hi hj).choose := fun i j hi hj => by simp only [f]; rw [dif_pos ⟨hi, hj⟩]
            have hcl : ∀ x ∈ L.map (·.1), x.cells.length = P.cellsOf e := by
              intro x hx
              obtain ⟨q, hq, rfl⟩ := List.mem_map.1 hx
              obtain ⟨i, hi, rfl⟩ := List.mem_iff_getElem.1 hq
              obtain ⟨h1, h2⟩ := hR i _ (List.getElem?_eq_getElem hi)
              obtain ⟨_, hl, _⟩ := World.cells?_some h2
              rw [h1.2.1, hl]
            have := RD.lst (w := w) (S := fun k => k < w.heap.size) (P.cellsOf e) (L.map (·.1)) a cap f hfirst.1 hfirst.2 (by rw [hLl]; exact hlc) hcl
              (fun i j hi hj => by rw [hLl] at hi; rw [hf i j hi hj]; exact (hcell i j hi hj).choose_spec.1)
              (fun i x j y hx hy => by
                have hi : i < len := by have := (List.getElem?_eq_some_iff.1 hx).1; omega
                have hj : j < P.cellsOf e := by have := (List.getElem?_eq_some_iff.1 hy).1; rw [hcl x (List.mem_of_getElem? hx)] at this; exact this
                rw [hf i j hi hj]
                exact (hcell i j hi hj).choose_spec.2 x y (by simpa using hx) hy)
            rw [hLl] at this
            exact this
    · rename_i fs hu
      simp only [Bool.and_eq_true, beq_iff_eq, List.all_eq_true, List.mem_range] at hok
      obtain ⟨xs, m, rfl, rfl, hcl, hxl, hxs⟩ := DataW.trod_struct hu htr
      have hone : ∀ i, i < fs.size → ∃ v, (∀ f, fs[i]? = some f → ∃ c, cs[i]? = some c ∧ Reads P w n f.type v [c]) := by
        intro i hi
        have h1 := hok.2 i hi
        rw [Array.getElem?_eq_getElem hi] at h1
        simp only [Bool.and_eq_true, beq_iff_eq] at h1
        obtain ⟨⟨⟨ho, hc1⟩, _⟩, hokf⟩ := h1
        have h2 := hxs i _ (Array.getElem?_eq_getElem hi)
        have hic : i < cs.length := by omega
        have e1 : (cs.drop fs[i].offset).take (P.cellsOf fs[i].type) = [cs[i]] := by
          rw [ho, hc1, List.drop_eq_getElem_cons hic]; rfl
        rw [e1, List.getElem?_eq_getElem (by omega)] at h2
        obtain ⟨v, hv⟩ := trod_rd n m _ _ _ hokf h2 (fun q hq => hw q (by
          simp only [DataW.weights, hu]
          exact DataW.weights_mem_each (j := i) (by simp [hi]) (by simp [List.getElem?_eq_getElem (show i < xs.length by omega)]) q hq))
        refine ⟨v, fun f hf => ?_⟩
        rw [Array.getElem?_eq_getElem hi] at hf
        cases hf
        exact ⟨_, List.getElem?_eq_getElem hic, hv⟩
      obtain ⟨L, hL, hR⟩ := list_choice fs.size hone
      refine ⟨.agg L, ?_, by simp only [V.cells]; omega, fun j y c hy hc => ?_⟩
      · simp only [WfV, hu]
        refine ⟨hL, fun i f x hf hx => ?_⟩
        obtain ⟨c, _, hr⟩ := hR i x hx f hf
        exact hr.1
      · simp only [V.cells] at hy
        have hj : j < fs.size := by have := (List.getElem?_eq_some_iff.1 hy).1; omega
        obtain ⟨c', hc', hr⟩ := hR j y hy _ (Array.getElem?_eq_getElem hj)
        rw [hc] at hc'; cases hc'
        have h1 := hok.2 j hj
        rw [Array.getElem?_eq_getElem hj] at h1
        simp only [Bool.and_eq_true, beq_iff_eq] at h1
        exact hr.2.2 0 y c (by rw [wf_scalar hr.1 h1.1.2]; rfl) rfl
    · cases hok
end
end Go.VM
