/- Operations: what the abstract machine says of one is what the model does (numbers, texts, new variables). -/
import Derived.Test.YtglldabpgobimaaVmAdopt
import Derived.Laws.Tables
import Derived.Laws.Strings
set_option linter.unusedVariables false
set_option linter.unusedSimpArgs false
namespace Go.VM
open Go

section
variable {P : Program} {w0 w : World} {O S : Nat → Prop} {g : G} {h : Heap} {U : Nat → Prop} {a : Act} {e : Env} {n : Nat} {o : Oper}

/-- The operation gives a value (or none), the heap is as told, what was known is known. -/
def Does (P : Program) (w0 : World) (O : Nat → Prop) (w : World) (S : Nat → Prop) (g : G) (h : Heap) (U : Nat → Prop) (a : Act) (n : Nat) (o : Oper) (v : V) (us : List (Nat × Option Blk)) : Prop :=
  ∃ cv w' g', ((execOp a.eval o).run P w = .ok (.value cv) w' ∨ ((execOp a.eval o).run P w = .ok .skip w' ∧ cv = Go.undef)) ∧
    HOk w0 O w' S g' (updsH h us) (fun k => U k ∨ (n ≤ k ∧ k < n + stride)) ∧ Tr w S g h w' S g' (updsH h us) ∧ VR w' S g' (updsH h us) v cv

theorem does_pure (H : HOk w0 O w S g h U) {v : V} {cv : Value} (hrun : (execOp a.eval o).run P w = .ok (.value cv) w) (hv : VR w S g h v cv) :
    Does P w0 O w S g h U a n o v [] := ⟨cv, w, g, .inl hrun, H.weak fun _ hk => .inl hk, Tr.refl _ _ _ _, hv⟩

theorem constV_ok (t : TypeId) (v : Value) : VR w S g h (constV P t v) v := by
  unfold constV
  split
  · exact .rd _ _ (.int _ _)
  · exact .rd _ _ (.bool _)
  · exact .rd _ _ (.str _ _ rfl)
  · split
    · exact .nils _
    · exact .undef _
  · exact .undef _

theorem evO_ok (E : ∀ t, VR w S g h (e t) (a.tmps.getD t Go.undef)) (t : TypeId) (x : Operand) : VR w S g h (evO P e t x) (a.eval x) := by
  cases x with
  | tmp u => exact E u
  | const v => exact constV_ok t v
  | global u => exact .undef _
  | func f => exact .fn f [] #[] rfl (fun i x c hx => by simp at hx)

theorem okCell_cells {v : V} (hv : okCell v = true) : v.cells = [v] := by
  cases v <;> first | rfl | (simp [okCell] at hv)
theorem okCell_idsA {v : V} (hv : okCell v = true) : idsA v = idsC v := by
  cases v <;> first | rfl | (simp [okCell] at hv)
theorem liveB_notDead (H : HOk w0 O w S g h U) {l : List Nat} (hl : liveB h l = true) : ∀ id ∈ l, ¬ g.dead id := by
  intro id hid
  have := (List.all_eq_true.1 hl) id hid
  obtain ⟨b, hb⟩ := Option.isSome_iff_exists.1 this
  exact H.notDead hb
theorem idsL_mem {id : Nat} : ∀ {l : List V} {j : Nat} {x : V}, l[j]? = some x → id ∈ idsC x → id ∈ idsL l
  | [], j, x, hx, _ => by simp at hx
  | y :: l, 0, x, hx, hm => by simp at hx; subst hx; simp [idsL, hm]
  | y :: l, j + 1, x, hx, hm => by simp only [idsL, List.mem_append]; exact .inr (idsL_mem (by simpa using hx) hm)

theorem VR.cell_ok {v : V} {c : Value} (hv : okCell v = true) (hd : ∀ id ∈ idsC v, ¬ g.dead id) (x : VR w S g h v c) : c.cells = #[c] ∧ c.oneCell' = true := by
  cases x with
  | undef => simp [okCell] at hv
  | void => simp [okCell] at hv
  | rd _ _ hr => cases hr <;> first | exact ⟨rfl, rfl⟩ | (simp [okCell] at hv)
  | dead _ id hi hdd => exact absurd hdd (hd id hi)
  | agg => simp [okCell] at hv
  | tup => simp [okCell] at hv
  | _ => exact ⟨rfl, rfl⟩

/-- The cells of a value that may be stored. -/
theorem VR.cells_ok {v : V} {c : Value} (hb : boxableA v = true) (hd : ∀ id ∈ idsA v, ¬ g.dead id) (x : VR w S g h v c) :
    c.cells.size = v.cells.length ∧ (∀ (j : Nat) y d, v.cells[j]? = some y → c.cells[j]? = some d → VR w S g h y d ∧ okCell y = true ∧ d.oneCell' = true) := by
  by_cases hagg : ∃ l, v = .agg l
  · obtain ⟨l, rfl⟩ := hagg
    obtain ⟨cs, rfl, hl, hr⟩ := x.inv_agg
    refine ⟨by simp [Value.cells, V.cells, hl], fun j y d hy hd' => ?_⟩
    have hok : okCell y = true := (List.all_eq_true.1 hb) y (List.mem_of_getElem? hy)
    have hv := hr j y d hy hd'
    exact ⟨hv, hok, (hv.cell_ok hok fun id hid => hd id (idsL_mem hy hid)).2⟩
  · have hok : okCell v = true := by
      cases v <;> first | exact hb | (rename_i l; exact absurd ⟨l, rfl⟩ hagg)
    rw [okCell_idsA hok] at hd
    have hc := x.cell_ok hok hd
    rw [okCell_cells hok, hc.1]
    refine ⟨rfl, fun j y d hy hd' => ?_⟩
    cases j with
    | zero => simp at hy hd'; subst hy hd'; exact ⟨x, hok, hc.2⟩
    | succ j => simp at hy

theorem zeroCell_ok {t : TypeId} {v : Value} {x : V} (hz : zeroCell P t v = some x) : VR w S g h x v ∧ okCell x = true ∧ idsC x = [] ∧ v.cells = #[v] := by
  unfold zeroCell at hz
  split at hz
  · cases hz; exact ⟨.rd _ _ (.int _ _), rfl, rfl, rfl⟩
  · cases hz; exact ⟨.rd _ _ (.bool _), rfl, rfl, rfl⟩
  · cases hz; exact ⟨.rd _ _ (.str _ _ rfl), rfl, rfl, rfl⟩
  · simp only [Option.map_eq_some_iff] at hz
    obtain ⟨sz, _, rfl⟩ := hz
    exact ⟨.nils _, rfl, rfl, rfl⟩
  · cases hz

theorem zeroL_ok : ∀ {fs : List Field} {vs : List Value} {l : List V}, zeroL P fs vs = some l → l.length = vs.length ∧ l.length = fs.length ∧
    (∀ (i : Nat) x c, l[i]? = some x → vs[i]? = some c → VR w S g h x c ∧ okCell x = true ∧ idsC x = [])
  | [], [], l, hz => by simp only [zeroL, Option.some.injEq] at hz; subst hz; exact ⟨rfl, rfl, fun i x c hx => by simp at hx⟩
  | [], _ :: _, _, hz => by simp [zeroL] at hz
  | _ :: _, [], _, hz => by simp [zeroL] at hz
  | f :: fs, v :: vs, l, hz => by
    simp only [zeroL, Option.bind_eq_some_iff, Option.map_eq_some_iff] at hz
    obtain ⟨x, hx, l', hl', rfl⟩ := hz
    have ih := zeroL_ok hl'
    have h0 := zeroCell_ok (w := w) (S := S) (g := g) (h := h) hx
    refine ⟨by simp [ih.1], by simp [ih.2.1], ?_⟩
    intro i y c hy hc
    cases i with
    | zero => simp at hy hc; subst hy hc; exact ⟨h0.1, h0.2.1, h0.2.2.1⟩
    | succ i => exact ih.2.2 i y c (by simpa using hy) (by simpa using hc)

/-- A type's zero value, as data. -/
theorem zeroV_ok {t : TypeId} {z : V} (hz : zeroV P t = some z) : ∃ i zv, P.info? t = some i ∧ i.zero = some zv ∧ zv.cells.size = z.cells.length ∧ boxableA z = true ∧
    (∀ (j : Nat) y d, z.cells[j]? = some y → zv.cells[j]? = some d → VR w S g h y d) ∧ VR w S g h z zv ∧
    ((∃ fs, P.underlying t = some (.struct fs) ∧ ∃ l cs, z = .agg l ∧ zv = .agg cs ∧ l.length = fs.size) ∨ ((∀ fs, P.underlying t ≠ some (.struct fs)) ∧ ∀ l, z ≠ .agg l)) := by
  unfold zeroV at hz
  cases hi : P.info? t with
  | none => simp [hi] at hz
  | some i =>
    simp only [hi] at hz
    split at hz
    · rename_i fs hu
      cases hzv : i.zero with
      | none => simp [hzv] at hz
      | some zv =>
        cases zv with
        | agg cs =>
          simp only [hzv, Option.map_eq_some_iff] at hz
          obtain ⟨l, hl, rfl⟩ := hz
          obtain ⟨h1, h2, h3⟩ := zeroL_ok (w := w) (S := S) (g := g) (h := h) hl
          refine ⟨i, _, rfl, hzv, by simp [Value.cells, V.cells, h1], ?_, ?_, .agg _ _ (by simpa using h1) fun j x c hx hc => (h3 j x c hx (by simpa using hc)).1, .inl ⟨fs, hu, l, cs, rfl, rfl, by simpa using h2⟩⟩
          · simp only [boxableA, List.all_eq_true]
            intro x hx
            obtain ⟨j, hj, rfl⟩ := List.mem_iff_getElem.1 hx
            have := h3 j l[j] (cs.toList[j]'(by rw [← h1]; exact hj)) (List.getElem?_eq_getElem hj) (List.getElem?_eq_getElem _)
            exact this.2.1
          · intro j y d hy hd
            exact (h3 j y d hy (by simpa [Value.cells] using hd)).1
        | _ => simp [hzv] at hz
    · rename_i hns
      cases hzv : i.zero with
      | none => simp [hzv] at hz
      | some v =>
        simp only [hzv] at hz
        obtain ⟨h1, h2, h4, h5⟩ := zeroCell_ok (w := w) (S := S) (g := g) (h := h) hz
        have hc := okCell_cells h2
        refine ⟨i, v, rfl, hzv, by rw [h5, hc]; rfl, ?_, ?_, h1, .inr ⟨fun fs => hns fs, fun l e => by subst e; simp [okCell] at h2⟩⟩
        · cases z <;> first | exact h2 | (simp [okCell] at h2)
        · intro j y d hy hd
          rw [hc] at hy; rw [h5] at hd
          cases j with
          | zero => simp at hy hd; subst hy hd; exact h1
          | succ j => simp at hy

theorem run_zeroValue {t : TypeId} {i : TypeInfo} {zv : Value} (hi : P.info? t = some i) (hz : i.zero = some zv) : (zeroValue t).run P w = .ok zv w := by
  simp [zeroValue, typeInfo, hi, hz]

theorem op_alloc (H : HOk w0 O w S g h U) {t : TypeId} {z : V} (ho : o.op = .alloc t) (hz : zeroV P t = some z) (hU : ∀ i, n ≤ i → i < n + stride → ¬ U i) :
    Does P w0 O w S g h U a n o (.ptr n 0 none) [(n, some ⟨.box, z.cells.length, [z]⟩)] := by
  obtain ⟨i, zv, hi, hzv, hsz, hb, hc, _, _⟩ := zeroV_ok (w := w) (S := S) (g := g) (h := h) hz
  obtain ⟨g', H', tr, hv⟩ := H.newBox (id := n) (v := z) (cs := zv.cells) t (hU n (Nat.le_refl _) (by simp [stride])) hb hsz hc
  refine ⟨_, _, g', .inl ?_, H'.weak ?_, tr, hv⟩
  · simp only [execOp, ho]
    simp [Instr.alloc, run_zeroValue hi hzv, newVar, newRow]
  · rintro k (hk | rfl)
    · exact .inl hk
    · exact .inr ⟨Nat.le_refl _, by simp [stride]⟩

end
end Go.VM
