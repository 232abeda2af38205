/- Elements that own arrays, moved as they lie: what is known of a function over raw cells is known over what the cells hold. No condition. -/
import Derived.Test.YtjkhhplhjbmhjaaGreatVmSet
import Derived.Test.YtjkhhplhjbmhjaaGreatVmStep
set_option linter.unusedVariables false
set_option linter.unusedSimpArgs false
namespace Go.VM
open Go
/-- A cell as it lies: an array's value told raw. -/
def rawC : V → Value → V
  | .lst _ _, .slice a n c => .raw a n c
  | v, _ => v
def rawA : V → (Nat → Value) → V
  | .agg l, F => .agg (l.mapIdx fun j y => rawC y (F j))
  | v, F => rawC v (F 0)
theorem rawC_ow {w : World} {y : V} {F : Value} {N : Nat → Prop} (h : OW w y F N) (hy : okCell y = true) : OW w (rawC y F) F (fun _ => False) ∧ okCell (rawC y F) = true := by
  cases h with
  | int k n => exact ⟨.int _ _, rfl⟩
  | bool b => exact ⟨.bool _, rfl⟩
  | str s l h => exact ⟨.str _ _ h, rfl⟩
  | lnil sz => exact ⟨.raw _ _ _, rfl⟩
  | hole a n c => exact ⟨.hole _ _ _, rfl⟩
  | raw a n c => exact ⟨.raw _ _ _, rfl⟩
  | lst sz l ad cap => exact ⟨.raw _ _ _, rfl⟩
  | errN => simp [okCell] at hy
  | errS => simp [okCell] at hy
  | agg => simp [okCell] at hy
  | tup => simp [okCell] at hy
theorem cell_back {w : World} {y : V} {F F' : Value} {N N' : Nat → Prop} (h : OW w y F N) (hy : okCell y = true) (h' : OW w (rawC y F) F' N') : OW w y F' N := by
  cases h with
  | int k n => cases h'; exact .int _ _
  | bool b => cases h'; exact .bool _
  | str s l hs => cases h' with | str s' _ hs' => exact .str _ _ hs'
  | lnil sz => cases h'; exact .lnil _
  | hole a n c => cases h'; exact .hole _ _ _
  | raw a n c => cases h'; exact .raw _ _ _
  | lst sz l ad cap cur e fr f g hsp hb hfr hlen hcap hmax hsz hok hc hr hself hdis =>
    cases h'
    exact .lst sz l ad cap cur e fr f g hsp hb hfr hlen hcap hmax hsz hok hc hr hself hdis
  | errN => simp [okCell] at hy
  | errS => simp [okCell] at hy
  | agg => simp [okCell] at hy
  | tup => simp [okCell] at hy
theorem rawC_noAgg {y : V} {F : Value} (h : y.cells = [y]) : (rawC y F).cells = [rawC y F] := by
  cases y <;> first | rfl | (cases F <;> rfl) | exact h
theorem rawA_cells (x : V) (F : Nat → Value) : (rawA x F).cells.length = x.cells.length ∧ ∀ (j : Nat) y, x.cells[j]? = some y → (rawA x F).cells[j]? = some (rawC y (F j)) := by
  by_cases hagg : ∃ l, x = .agg l
  · obtain ⟨l, rfl⟩ := hagg
    refine ⟨by simp [rawA, V.cells], fun j y hy => ?_⟩
    simp only [rawA, V.cells, List.getElem?_mapIdx] at hy ⊢
    rw [hy]; rfl
  · have e1 : x.cells = [x] := by cases x <;> first | rfl | (rename_i l; exact absurd ⟨l, rfl⟩ hagg)
    have e2 : rawA x F = rawC x (F 0) := by cases x <;> first | rfl | (rename_i l; exact absurd ⟨l, rfl⟩ hagg)
    rw [e2, rawC_noAgg e1, e1]
    refine ⟨rfl, fun j y hy => ?_⟩
    cases j with
    | zero => simp at hy; subst hy; rfl
    | succ j => simp at hy
/-- A list of elements, and the same as it lies. -/
structure RawOf (E R : List V) (f : Nat → Nat → Value) : Prop where
  len : R.length = E.length
  at_ : ∀ (i : Nat) x, E[i]? = some x → R[i]? = some (rawA x (f i))
  lst : ∀ (i : Nat) x (j : Nat) sz l, E[i]? = some x → x.cells[j]? = some (.lst sz l) → ∃ a n c, f i j = .slice a n c
theorem raw_list {w : World} {sz : Nat} {E : List V} {c : Value} {N : Nat → Prop} (h : OW w (.lst sz E) c N) :
    ∃ (R : List V) (f : Nat → Nat → Value) (g : Nat → Nat → Nat → Prop) (B : Nat → Prop), RawOf E R f ∧ OW w (.lst sz R) c B ∧ (∀ k, B k → N k) ∧ (∀ x ∈ E, x.cells.length = sz) ∧ (∀ x ∈ E, ∀ y ∈ x.cells, okCell y = true) ∧
      (∀ (i : Nat) x (j : Nat) y, E[i]? = some x → x.cells[j]? = some y → OW w y (f i j) (g i j)) ∧ (∀ i j k, i < E.length → j < sz → g i j k → N k ∧ ¬ B k) ∧
      (∀ i j i' j' k, i < E.length → j < sz → i' < E.length → j' < sz → g i j k → g i' j' k → i = i' ∧ j = j') := by
  generalize hv : V.lst sz E = v at h
  cases h <;> simp only [V.lst.injEq, reduceCtorEq] at hv
  case lnil sz' =>
    obtain ⟨rfl, rfl⟩ := hv
    exact ⟨[], fun _ _ => .nilIface, fun _ _ _ => False, fun _ => False, ⟨rfl, fun i x hx => by simp at hx, fun i x j sz l hx => by simp at hx⟩, .lnil _, fun k hk => hk, by simp, by simp, fun i x j y hx => by simp at hx, fun i j k hi => by simp at hi, fun i j i' j' k hi => by simp at hi⟩
  case lst sz' l ad cap cur e fr f g hsp hb hfr hlen hcap hmax hsz hok hc hr hself hdis =>
    obtain ⟨rfl, rfl⟩ := hv
    have hR : ∀ (i : Nat) x, E[i]? = some x → (E.mapIdx fun i x => rawA x (f i))[i]? = some (rawA x (f i)) := fun i x hx => by rw [List.getElem?_mapIdx, hx]; rfl
    have hRi : ∀ (i : Nat) x, (E.mapIdx fun i x => rawA x (f i))[i]? = some x → ∃ y, E[i]? = some y ∧ x = rawA y (f i) := fun i x hx => by
      rw [List.getElem?_mapIdx, Option.map_eq_some_iff] at hx
      obtain ⟨y, hy, rfl⟩ := hx
      exact ⟨y, hy, rfl⟩
    have hcell : ∀ (i : Nat) x (j : Nat) y, (E.mapIdx fun i x => rawA x (f i))[i]? = some x → x.cells[j]? = some y → ∃ x0 y0, E[i]? = some x0 ∧ x0.cells[j]? = some y0 ∧ y = rawC y0 (f i j) := fun i x j y hx hy => by
      obtain ⟨x0, h0, rfl⟩ := hRi i x hx
      have hj := (List.getElem?_eq_some_iff.1 hy).1
      rw [(rawA_cells x0 (f i)).1] at hj
      have := (rawA_cells x0 (f i)).2 j _ (List.getElem?_eq_getElem hj)
      rw [this] at hy
      cases hy
      exact ⟨x0, _, h0, List.getElem?_eq_getElem hj, rfl⟩
    refine ⟨E.mapIdx fun i x => rawA x (f i), f, g, fun k => k = ad.block, ⟨by simp, hR, ?_⟩, ?_, fun k hk => .inl hk, hsz, hok, hr, ?_, hdis⟩
    · intro i x j sz l hx hy
      have := hr i x j _ hx hy
      generalize f i j = v at this
      generalize g i j = M at this
      cases this with
      | lnil => exact ⟨_, _, _, rfl⟩
      | lst => exact ⟨_, _, _, rfl⟩
    · have hlR : (E.mapIdx fun i x => rawA x (f i)).length = E.length := by simp
      have key := OW.lst (w := w) sz (E.mapIdx fun i x => rawA x (f i)) ad cap cur e fr f (fun _ _ _ => False) hsp hb hfr (by rw [hlR]; exact hlen) hcap hmax ?_ ?_ (fun i j hi hj => hc i j (by rw [hlR] at hi; exact hi) hj) ?_ (fun _ _ _ _ h => h) (fun _ _ _ _ _ _ _ _ _ h => h.elim)
      · rw [hlR] at key
        refine key.cast fun k => ⟨fun h => ?_, fun h => .inl h⟩
        rcases h with h | ⟨_, _, _, _, h⟩
        · exact h
        · exact h.elim
      · intro x hx
        obtain ⟨i, hi, rfl⟩ := List.mem_iff_getElem.1 hx
        obtain ⟨y, hy, e⟩ := hRi i _ (List.getElem?_eq_getElem hi)
        rw [e, (rawA_cells y (f i)).1]
        exact hsz _ (List.mem_of_getElem? hy)
      · intro x hx y hy
        obtain ⟨i, hi, rfl⟩ := List.mem_iff_getElem.1 hx
        obtain ⟨j, hj, rfl⟩ := List.mem_iff_getElem.1 hy
        obtain ⟨x0, y0, h0, h1, e⟩ := hcell i _ j _ (List.getElem?_eq_getElem hi) (List.getElem?_eq_getElem hj)
        rw [e]
        exact (rawC_ow (hr i x0 j y0 h0 h1) (hok _ (List.mem_of_getElem? h0) _ (List.mem_of_getElem? h1))).2
      · intro i x j y hx hy
        obtain ⟨x0, y0, h0, h1, rfl⟩ := hcell i x j y hx hy
        exact (rawC_ow (hr i x0 j y0 h0 h1) (hok _ (List.mem_of_getElem? h0) _ (List.mem_of_getElem? h1))).1
    · intro i j k hi hj hk
      exact ⟨.inr ⟨i, j, hi, hj, hk⟩, fun e => hself i j hi hj (e ▸ hk)⟩
/-- What lies raw, told by what its cells hold. -/
theorem list_raw {w : World} {sz : Nat} {E R : List V} {c : Value} {B : Nat → Prop} {F : Nat → Nat → Value} {G : Nat → Nat → Nat → Prop} (h : OW w (.lst sz R) c B) (hR : RawOf E R F)
    (hsz : ∀ x ∈ E, x.cells.length = sz) (hok : ∀ x ∈ E, ∀ y ∈ x.cells, okCell y = true)
    (hG : ∀ (i : Nat) x (j : Nat) y, E[i]? = some x → x.cells[j]? = some y → OW w y (F i j) (G i j)) (hB : ∀ i j k, i < E.length → j < sz → G i j k → ¬ B k)
    (hdis : ∀ i j i' j' k, i < E.length → j < sz → i' < E.length → j' < sz → G i j k → G i' j' k → i = i' ∧ j = j') :
    ∃ N, OW w (.lst sz E) c N ∧ ∀ k, N k → B k ∨ ∃ i j, i < E.length ∧ j < sz ∧ G i j k := by
  generalize hv : V.lst sz R = v at h
  cases h <;> simp only [V.lst.injEq, reduceCtorEq] at hv
  case lnil sz' =>
    obtain ⟨rfl, rfl⟩ := hv
    have : E = [] := List.eq_nil_of_length_eq_zero (by rw [← hR.len]; rfl)
    subst this
    exact ⟨_, .lnil _, fun k hk => hk.elim⟩
  case lst sz' l ad cap cur e fr f g hsp hb hfr hlen hcap hmax hsz' hok' hc hr hself hdis' =>
    obtain ⟨rfl, rfl⟩ := hv
    have hl := hR.len
    have key := OW.lst (w := w) sz E ad cap cur e fr f G hsp hb hfr (by rw [← hl]; exact hlen) hcap hmax hsz hok (fun i j hi hj => hc i j (by rw [hl]; exact hi) hj) ?_ ?_ hdis
    · rw [← hl] at key
      refine ⟨_, key, fun k hk => ?_⟩
      rcases hk with hk | ⟨i, j, hi, hj, hk⟩
      · exact .inl (.inl hk)
      · exact .inr ⟨i, j, by rw [← hl]; exact hi, hj, hk⟩
    · intro i x j y hx hy
      have h1 := hR.at_ i x hx
      have h2 := (rawA_cells x (F i)).2 j y hy
      exact cell_back (hG i x j y hx hy) (hok _ (List.mem_of_getElem? hx) _ (List.mem_of_getElem? hy)) (hr i _ j _ h1 h2)
    · intro i j hi hj hk
      exact hB i j _ hi hj hk (.inl rfl)
/-- Elements picked by their places. -/
def pickL {α : Type} (is : List Nat) (E : List α) : List α := is.filterMap fun i => E[i]?
theorem pickL_at {α : Type} {E : List α} : ∀ {is : List Nat}, (∀ i ∈ is, i < E.length) → (pickL is E).length = is.length ∧ ∀ (m i : Nat), is[m]? = some i → (pickL is E)[m]? = E[i]?
  | [], _ => ⟨rfl, fun m i h => by simp at h⟩
  | i :: is, h => by
    obtain ⟨h1, h2⟩ := pickL_at (is := is) fun k hk => h k (by simp [hk])
    have hi : i < E.length := h i (by simp)
    have e : pickL (i :: is) E = E[i] :: pickL is E := by simp [pickL, List.filterMap_cons, List.getElem?_eq_getElem hi]
    rw [e]
    refine ⟨by simp [h1], fun m k hk => ?_⟩
    cases m with
    | zero => simp at hk; subst hk; simp [List.getElem?_eq_getElem hi]
    | succ m => simpa using h2 m k (by simpa using hk)
/-- What was found out of raw cells, told by what the cells hold. -/
theorem lift_core {w w' : World} {S A A' : Nat → Prop} {sz : Nat} {E R : List V} {is : List Nat} {fc : Nat → Nat → Value} {g : Nat → Nat → Nat → Prop} {modes : List Mode} {cargs : List Value} {e : Ending}
    (hsub : ∀ k, A k → A' k) (hraw : RawOf E R fc) (hsz : ∀ x ∈ E, x.cells.length = sz) (hok : ∀ x ∈ E, ∀ y ∈ x.cells, okCell y = true)
    (hcell : ∀ (i : Nat) x (j : Nat) y, E[i]? = some x → x.cells[j]? = some y → OW w y (fc i j) (g i j))
    (hgN : ∀ (a b k : Nat), a < E.length → b < sz → g a b k → ¬ A k ∧ k < w.heap.size ∧ A' k)
    (hdis : ∀ i j i' j' k, i < E.length → j < sz → i' < E.length → j' < sz → g i j k → g i' j' k → i = i' ∧ j = j') (hnd : is.Nodup) (hlt : ∀ k ∈ is, k < E.length)
    (h : ∃ cv NR NOs, e = .returned cv ∧ Fr w w' A ∧ ResOk w' S (.lst sz (pickL is R)) cv NR ∧ OutsOk w' S modes [] cargs NOs ∧ DisjS (NR :: NOs) ∧ ∀ k, AnyS (NR :: NOs) k → k < w'.heap.size ∧ (w.heap.size ≤ k ∨ A k)) :
    ∃ cv NR NOs, e = .returned cv ∧ Fr w w' A' ∧ ResOk w' S (.lst sz (pickL is E)) cv NR ∧ OutsOk w' S modes [] cargs NOs ∧ DisjS (NR :: NOs) ∧ ∀ k, AnyS (NR :: NOs) k → k < w'.heap.size ∧ (w.heap.size ≤ k ∨ A' k) := by
  obtain ⟨cv, NR, NOs, rfl, hfr, hres, hout, hdd, hall⟩ := h
  have how' : OW w' (.lst sz (pickL is R)) cv NR := by
    rcases hres with h | ⟨v, _, _, _, _, h, _⟩
    · exact h
    · cases h
  obtain ⟨pl, pa⟩ := pickL_at (E := E) hlt
  have hltR : ∀ k ∈ is, k < R.length := fun k hk => by rw [hraw.len]; exact hlt k hk
  obtain ⟨ql, qa⟩ := pickL_at (E := R) hltR
  have hat : ∀ (m : Nat) x, (pickL is E)[m]? = some x → ∃ k, is[m]? = some k ∧ E[k]? = some x ∧ k < E.length := fun m x hx => by
    have hm : m < is.length := by rw [← pl]; exact (List.getElem?_eq_some_iff.1 hx).1
    refine ⟨is[m], List.getElem?_eq_getElem hm, ?_, hlt _ (List.getElem_mem hm)⟩
    rw [← pa m _ (List.getElem?_eq_getElem hm)]; exact hx
  have hraw' : RawOf (pickL is E) (pickL is R) (fun m => fc (is.getD m 0)) := by
    refine ⟨by rw [pl, ql], fun m x hx => ?_, fun m x b sz' l hx hy => ?_⟩
    · obtain ⟨k, h1, h2, _⟩ := hat m x hx
      have e0 : is.getD m 0 = k := by rw [List.getD_eq_getElem?_getD, h1]; rfl
      rw [qa m k h1]
      simp only [e0]
      exact hraw.at_ k x h2
    · obtain ⟨k, h1, h2, _⟩ := hat m x hx
      have e0 : is.getD m 0 = k := by rw [List.getD_eq_getElem?_getD, h1]; rfl
      simp only [e0]
      exact hraw.lst k x b sz' l h2 hy
  have hmem : ∀ x ∈ pickL is E, x ∈ E := fun x hx => by
    obtain ⟨m, hm, rfl⟩ := List.mem_iff_getElem.1 hx
    obtain ⟨k, _, h2, _⟩ := hat m _ (List.getElem?_eq_getElem hm)
    exact List.mem_of_getElem? h2
  have hidx : ∀ m, m < (pickL is E).length → is.getD m 0 < E.length ∧ is[m]? = some (is.getD m 0) := fun m hm => by
    rw [pl] at hm
    have : is.getD m 0 = is[m] := by rw [List.getD_eq_getElem?_getD, List.getElem?_eq_getElem hm]; rfl
    rw [this]
    exact ⟨hlt _ (List.getElem_mem hm), List.getElem?_eq_getElem hm⟩
  obtain ⟨N', hN', hNk⟩ := list_raw (G := fun m => g (is.getD m 0)) how' hraw' (fun x hx => hsz x (hmem x hx)) (fun x hx => hok x (hmem x hx)) (fun m x b y hx hy => by
      obtain ⟨k, h1, h2, h3⟩ := hat m x hx
      have e0 : is.getD m 0 = k := by rw [List.getD_eq_getElem?_getD, h1]; rfl
      simp only [e0]
      have hb : b < sz := by rw [← hsz x (hmem x (List.mem_of_getElem? hx))]; exact (List.getElem?_eq_some_iff.1 hy).1
      exact (hcell k x b y h2 hy).mono fun q hq => hfr.block q (hgN k b q h3 hb hq).2.1 (hgN k b q h3 hb hq).1)
    (fun m b q hm hb hq hN => by
      obtain ⟨h1, h2, _⟩ := hgN _ b q (hidx m hm).1 hb hq
      rcases (hall q (AnyS.cons.2 (.inl hN))).2 with h3 | h3
      · omega
      · exact h1 h3)
    (fun m b m' b' q hm hb hm' hb' hq hq' => by
      obtain ⟨e1, e2⟩ := hdis _ b _ b' q (hidx m hm).1 hb (hidx m' hm').1 hb' hq hq'
      refine ⟨?_, e2⟩
      have h1 := (hidx m hm).2
      have h2 := (hidx m' hm').2
      rw [e1] at h1
      exact (List.getElem?_inj (by rw [pl] at hm; exact hm) hnd).1 (h1.trans h2.symm))
  refine ⟨cv, N', NOs, rfl, ⟨hfr.os, hfr.tape, hfr.output, hfr.size, fun k hk hn => hfr.block k hk fun h => hn (hsub k h)⟩, .inl hN', hout, ?_, ?_⟩
  · refine DisjS.cons (fun k hk hO => ?_) hdd.tail
    rcases hNk k hk with h | ⟨m, b, hm, hb, hq⟩
    · exact hdd.head k h hO
    · obtain ⟨h1, h2, _⟩ := hgN _ b k (hidx m hm).1 hb hq
      rcases (hall k (AnyS.cons.2 (.inr hO))).2 with h3 | h3
      · omega
      · exact h1 h3
  · intro k hk
    rcases AnyS.cons.1 hk with hk | hk
    · rcases hNk k hk with h | ⟨m, b, hm, hb, hq⟩
      · obtain ⟨h1, h2⟩ := hall k (AnyS.cons.2 (.inl h))
        exact ⟨h1, h2.imp id (hsub k)⟩
      · exact ⟨hN'.lt k hk, .inr (hgN _ b k (hidx m hm).1 hb hq).2.2⟩
    · obtain ⟨h1, h2⟩ := hall k (AnyS.cons.2 (.inr hk))
      exact ⟨h1, h2.imp id (hsub k)⟩
/-- A function that picks elements of one list, known over raw cells. -/
theorem lift_pick {P : Program} {f : FuncId} {spR spN : Spec} {sz : Nat} (hf : FnOk P f spR) (hmR : spR.modes = [.use, .rd, .rd]) (hmN : spN.modes = [.use, .rd, .rd]) (hneed : spR.need = spN.need)
    (hrun : ∀ ins r outs, spN.run ins = some (r, outs) → ∃ (E : List V) (i j : V) (is : List Nat), ins = [.lst sz E, i, j] ∧ r = .lst sz (pickL is E) ∧ outs = [] ∧ is.Nodup ∧ (∀ k ∈ is, k < E.length) ∧
      ∀ R F, RawOf E R F → spR.run [.lst sz R, i, j] = some (.lst sz (pickL is R), [])) : FnOk P f spN := by
  intro w S ins r outs cargs Ns hG hr ha hd hNs hS
  obtain ⟨E, i, j, is, rfl, rfl, rfl, hnd, hlt, hR⟩ := hrun _ _ _ hr
  rw [hmN] at ha
  cases ha with
  | wr hm how t =>
    rename_i c0 N0 cs0 Ns0
    obtain ⟨R, fc, g, B, hraw, hB, hBN, hsz, hok, hcell, hg, hdis⟩ := raw_list how
    have ha' : ArgsOk w S spR.modes [.lst sz R, i, j] (c0 :: cs0) (B :: Ns0) := by rw [hmR]; exact .wr hm hB t
    have hd' : DisjS (B :: Ns0) := DisjS.cons (fun k hk ha => hd.head k (hBN k hk) ha) hd.tail
    have hsub : ∀ k, AnyS (B :: Ns0) k → AnyS (N0 :: Ns0) k := by
      intro k hk
      rcases AnyS.cons.1 hk with hk | hk
      · exact AnyS.cons.2 (.inl (hBN k hk))
      · exact AnyS.cons.2 (.inr hk)
    have hG' : GlobOk P spR.need w (AnyS (B :: Ns0)) := by
      rw [hneed]; exact ⟨hG.base, fun k hk ho => hG.out k hk (hsub k ho)⟩
    have key := hf w S _ _ _ _ _ hG' (hR R fc hraw) ha' hd' (fun k hk => hNs k (hsub k hk)) hS
    refine key.mono fun e w' h => ?_
    rw [hmR, ← hmN] at h
    exact lift_core hsub hraw hsz hok hcell (fun a b k h1 h2 h3 => by
      obtain ⟨q1, q2⟩ := hg a b k h1 h2 h3
      refine ⟨fun hk => ?_, (hNs k (AnyS.cons.2 (.inl q1))).2, AnyS.cons.2 (.inl q1)⟩
      rcases AnyS.cons.1 hk with hk | hk
      · exact q2 hk
      · exact hd.head k q1 hk) hdis hnd hlt h
/-- A function that picks elements of two lists, known over raw cells. -/
theorem lift_pick2 {P : Program} {f : FuncId} {spR spN : Spec} {sz : Nat} (hf : FnOk P f spR) (hmR : spR.modes = [.use, .rd, .use]) (hmN : spN.modes = [.use, .rd, .use]) (hneed : spR.need = spN.need)
    (hrun : ∀ ins r outs, spN.run ins = some (r, outs) → ∃ (E : List V) (i : V) (E1 : List V) (is : List Nat), ins = [.lst sz E, i, .lst sz E1] ∧ r = .lst sz (pickL is (E ++ E1)) ∧ outs = [] ∧ is.Nodup ∧ (∀ k ∈ is, k < (E ++ E1).length) ∧
      ∀ R F R1 F1, RawOf E R F → RawOf E1 R1 F1 → spR.run [.lst sz R, i, .lst sz R1] = some (.lst sz (pickL is (R ++ R1)), [])) : FnOk P f spN := by
  intro w S ins r outs cargs Ns hG hr ha hd hNs hS
  obtain ⟨E, i, E1, is, rfl, rfl, rfl, hnd, hlt, hR⟩ := hrun _ _ _ hr
  rw [hmN] at ha
  cases ha with
  | wr hm how t =>
  rename_i c0 N0 cs0 Ns0
  cases t with
  | wr hm' _ _ => rcases hm' with h | h <;> cases h
  | rd h2 t =>
  rename_i c2 cs2 Ns2
  cases t with
  | wr hm1 how1 t1 =>
  rename_i c1 N1 cs1 Ns1
  cases t1
  obtain ⟨R, f0, g0, B0, hraw, hB, hBN, hsz, hok, hcell, hg, hdis⟩ := raw_list how
  obtain ⟨R1, f1, g1, B1, hraw1, hB1, hBN1, hsz1, hok1, hcell1, hg1, hdis1⟩ := raw_list how1
  have h01 : ∀ k, N0 k → ¬ N1 k := fun k h0 h1 => hd.head k h0 (AnyS.cons.2 (.inr (AnyS.cons.2 (.inl h1))))
  have hA : ∀ {X Y : Nat → Prop} {k : Nat}, AnyS [X, (fun _ => False), Y] k ↔ X k ∨ Y k := by
    intro X Y k
    rw [AnyS.cons, AnyS.cons, AnyS.cons]
    constructor
    · rintro (h | h | h | ⟨_, h, _⟩)
      · exact .inl h
      · exact h.elim
      · exact .inr h
      · cases h
    · rintro (h | h)
      · exact .inl h
      · exact .inr (.inr (.inl h))
  have ha' : ArgsOk w S spR.modes [.lst sz R, i, .lst sz R1] [c0, c2, c1] [B0, (fun _ => False), B1] := by rw [hmR]; exact .wr hm hB (.rd h2 (.wr hm1 hB1 .nil))
  have hd' : DisjS [B0, (fun _ => False), B1] := by
    refine DisjS.cons (fun k hk ha => ?_) (DisjS.cons (fun k hk _ => hk) (DisjS.cons (fun k _ h => ?_) fun i j A B k h => by simp at h))
    · rcases AnyS.cons.1 ha with h | h
      · exact h
      · rcases AnyS.cons.1 h with h | ⟨_, h, _⟩
        · exact h01 k (hBN k hk) (hBN1 k h)
        · cases h
    · obtain ⟨_, h, _⟩ := h; cases h
  have hsub : ∀ k, AnyS [B0, (fun _ => False), B1] k → AnyS [N0, (fun _ => False), N1] k := fun k hk => hA.2 ((hA.1 hk).imp (hBN k) (hBN1 k))
  have hG' : GlobOk P spR.need w (AnyS [B0, (fun _ => False), B1]) := by
    rw [hneed]; exact ⟨hG.base, fun k hk ho => hG.out k hk (hsub k ho)⟩
  have key := hf w S _ _ _ _ _ hG' (hR R f0 R1 f1 hraw hraw1) ha' hd' (fun k hk => hNs k (hsub k hk)) hS
  refine key.mono fun e w' h => ?_
  rw [hmR, ← hmN] at h
  have hsplit : ∀ (m : Nat) x, (E ++ E1)[m]? = some x → (m < E.length ∧ E[m]? = some x) ∨ (E.length ≤ m ∧ E1[m - E.length]? = some x ∧ m - E.length < E1.length) := fun m x hx => by
    rcases Nat.lt_or_ge m E.length with hm | hm
    · rw [List.getElem?_append_left hm] at hx; exact .inl ⟨hm, hx⟩
    · rw [List.getElem?_append_right hm] at hx; exact .inr ⟨hm, hx, (List.getElem?_eq_some_iff.1 hx).1⟩
  refine lift_core (R := R ++ R1) (fc := fun m => if m < E.length then f0 m else f1 (m - E.length)) (g := fun m => if m < E.length then g0 m else g1 (m - E.length)) hsub ⟨?_, ?_, ?_⟩ ?_ ?_ ?_ ?_ ?_ hnd hlt h
  · rw [List.length_append, List.length_append, hraw.len, hraw1.len]
  · intro m x hx
    rcases hsplit m x hx with ⟨hm, h⟩ | ⟨hm, h, _⟩
    · simp only [if_pos hm]
      rw [List.getElem?_append_left (by rw [hraw.len]; exact hm)]
      exact hraw.at_ m x h
    · simp only [if_neg (Nat.not_lt.2 hm)]
      rw [List.getElem?_append_right (by rw [hraw.len]; exact hm), hraw.len]
      exact hraw1.at_ _ x h
  · intro m x j sz' l hx hy
    rcases hsplit m x hx with ⟨hm, h⟩ | ⟨hm, h, _⟩
    · simp only [if_pos hm]
      exact hraw.lst m x j sz' l h hy
    · simp only [if_neg (Nat.not_lt.2 hm)]
      exact hraw1.lst _ x j sz' l h hy
  · intro x hx
    rcases List.mem_append.1 hx with h | h
    · exact hsz x h
    · exact hsz1 x h
  · intro x hx
    rcases List.mem_append.1 hx with h | h
    · exact hok x h
    · exact hok1 x h
  · intro m x j y hx hy
    rcases hsplit m x hx with ⟨hm, h⟩ | ⟨hm, h, _⟩
    · simp only [if_pos hm]
      exact hcell m x j y h hy
    · simp only [if_neg (Nat.not_lt.2 hm)]
      exact hcell1 _ x j y h hy
  · intro a b k ha hb hk
    rw [List.length_append] at ha
    by_cases hm : a < E.length
    · simp only [if_pos hm] at hk
      obtain ⟨q1, q2⟩ := hg a b k hm hb hk
      refine ⟨fun h => ?_, (hNs k (hA.2 (.inl q1))).2, hA.2 (.inl q1)⟩
      rcases hA.1 h with h | h
      · exact q2 h
      · exact h01 k q1 (hBN1 k h)
    · simp only [if_neg hm] at hk
      obtain ⟨q1, q2⟩ := hg1 _ b k (by omega) hb hk
      refine ⟨fun h => ?_, (hNs k (hA.2 (.inr q1))).2, hA.2 (.inr q1)⟩
      rcases hA.1 h with h | h
      · exact h01 k (hBN k h) q1
      · exact q2 h
  · intro a b a' b' k ha hb ha' hb' hk hk'
    rw [List.length_append] at ha ha'
    by_cases hm : a < E.length
    · simp only [if_pos hm] at hk
      by_cases hm' : a' < E.length
      · simp only [if_pos hm'] at hk'
        exact hdis a b a' b' k hm hb hm' hb' hk hk'
      · simp only [if_neg hm'] at hk'
        exact (h01 k (hg a b k hm hb hk).1 (hg1 _ b' k (by omega) hb' hk').1).elim
    · simp only [if_neg hm] at hk
      by_cases hm' : a' < E.length
      · simp only [if_pos hm'] at hk'
        exact (h01 k (hg a' b' k hm' hb' hk').1 (hg1 _ b k (by omega) hb hk).1).elim
      · simp only [if_neg hm'] at hk'
        obtain ⟨e1, e2⟩ := hdis1 _ b _ b' k (by omega) hb (by omega) hb' hk hk'
        exact ⟨by omega, e2⟩
/-! ### a region that draws its order, with named pairs, ahead of which an element is opened -/
def ContDC (P : Program) (Φ : Tab) (T : Hints) (c : Option (List Nat)) (need : List (Nat × Nat)) (b : Nat) (k : List Item) (next nt : Nat) (io : List V) (Q : St → Prop) (q : (Env × Heap) × List Fp) : Prop :=
  dynOk need q.2 = true ∧ Goes P Φ T k { env := cutV c q.1.1, heap := closeB q.1.2 b, next := next, nt := nt, io := io } Q
theorem contDC_pair {P : Program} {Φ : Tab} {T : Hints} {k : List Item} {Q : St → Prop} {c : Option (List Nat)} {need : List (Nat × Nat)} {b next nt : Nat} {io : List V} {e : Env} {h : Heap} {tr : List Fp} :
    ContDC P Φ T c need b k next nt io Q ((e, h), tr) ↔ dynOk need tr = true ∧ Goes P Φ T k { env := cutV c e, heap := closeB h b, next := next, nt := nt, io := io } Q := Iff.rfl
theorem goes_opnN {P : Program} {Φ : Tab} {T : Hints} {k : List Item} {s : St} {Q : St → Prop} {id : Nat} {ops : Array Oper} {q : (Nat × List (Option Nat)) × (Nat × List (Option Nat))} (need : List (Nat × Nat)) (hl : T.ord id = some need) (ho : T.opn id = some q) (hok : orderChkM ops need = true)
    (hg : OpenG s.heap s.next (openAt s.env s.heap q) fun b h => NextT P Φ ops s.nt (s.next + stride) 0 ops.toList [] (ContDC P Φ T (T.cut id) need b k (s.next + stride + stride * ops.size) s.nt s.io Q) (s.env, h)) :
    Goes P Φ T (.code (.region id ops true) :: k) s Q := by
  have hok' := orderChk_of hok
  cases h1 : openAt s.env s.heap q with
  | none => rw [h1] at hg; exact hg.elim
  | some p =>
    obtain ⟨b, i⟩ := p
    rw [h1, openG_some] at hg
    cases h2 : openB s.next s.heap b i with
    | none => rw [h2] at hg; exact hg.elim
    | some h =>
      rw [h2, openH_some] at hg
      unfold NextT at hg
      cases h3 : runOT P Φ ops s.nt (s.next + stride) 0 ops.toList (s.env, h) with
      | none => rw [h3] at hg; exact hg.elim
      | some r =>
        rw [h3, after_some] at hg
        obtain ⟨hd, hg⟩ := hg
        rw [List.nil_append] at hd
        exact (goes_step fun n => by simp [go, hl, hok', drawV_eq, h1, h2, h3, hd, cutS, ho, openS, closeS]).2 hg
attribute [go_sem] contDC_pair
end Go.VM
