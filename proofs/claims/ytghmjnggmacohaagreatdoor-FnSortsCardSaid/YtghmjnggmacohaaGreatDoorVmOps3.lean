import Derived.Test.YtghmjnggmacohaaGreatDoorVmAdopt
import Derived.Laws.Tables
import Derived.Laws.Strings
import Derived.Laws.Small
import Derived.Laws.StructEq
/- Operations: what the abstract machine says of one is what the model does (numbers, texts, new variables). -/
set_option linter.unusedVariables false
set_option linter.unusedSimpArgs false
namespace Go.VM
open Go

section
variable {P : Program} {w0 w : World} {O S : Nat → Prop} {g : G} {h : Heap} {U : Nat → Prop} {a : Act} {e : Env} {n : Nat} {o : Oper}

/-- The operation gives a value (or none), the heap is as told, what was known is known. -/
def Does (P : Program) (w0 : World) (O : Nat → Prop) (w : World) (S : Nat → Prop) (g : G) (h : Heap) (U : Nat → Prop) (a : Act) (n : Nat) (o : Oper) (v : V) (us : List (Nat × Option Blk)) : Prop :=
  ∃ cv w' g', ((execOp a.eval o).run P w = .ok (.value cv) w' ∨ ((execOp a.eval o).run P w = .ok .skip w' ∧ cv = Go.undef)) ∧
    HOk w0 O w' S g' (updsH h us) (fun k => U k ∨ (n ≤ k ∧ k < n + stride)) ∧ Tr w S g h w' S g' (updsH h us) ∧ VR w' S g' (updsH h us) v cv

theorem does_pure (H : HOk w0 O w S g h U) {v : V} {cv : Value} (hrun : (execOp a.eval o).run P w = .ok (.value cv) w) (hv : VR w S g h v cv) :
    Does P w0 O w S g h U a n o v [] := ⟨cv, w, g, .inl hrun, H.weak fun _ hk => .inl hk, Tr.refl _ _ _ _, hv⟩

theorem constV_ok (t : TypeId) (v : Value) : VR w S g h (constV P t v) v := by
  unfold constV
  split
  · exact .rd _ _ (.int _ _)
  · exact .rd _ _ (.bool _)
  · exact .rd _ _ (.str _ _ rfl)
  · split
    · exact .nils _
    · exact .undef _
  · exact .rd _ _ .errN
  · exact .undef _

theorem evO_ok (E : ∀ t, VR w S g h (e t) (a.tmps.getD t Go.undef)) (t : TypeId) (x : Operand) : VR w S g h (evO P e t x) (a.eval x) := by
  cases x with
  | tmp u => exact E u
  | const v => exact constV_ok t v
  | global u => exact .undef _
  | func f => exact .fn f [] #[] rfl (fun i x c hx => by simp at hx)

theorem okCell_cells {v : V} (hv : okCell v = true) : v.cells = [v] := by
  cases v <;> first | rfl | (simp [okCell] at hv)
theorem okCell_idsA {v : V} (hv : okCell v = true) : idsA v = idsC v := by
  cases v <;> first | rfl | (simp [okCell] at hv)
theorem liveB_notDead (H : HOk w0 O w S g h U) {l : List Nat} (hl : liveB h l = true) : ∀ id ∈ l, ¬ g.dead id := by
  intro id hid
  have := (List.all_eq_true.1 hl) id hid
  obtain ⟨b, hb⟩ := Option.isSome_iff_exists.1 this
  exact H.notDead hb
theorem idsL_mem {id : Nat} : ∀ {l : List V} {j : Nat} {x : V}, l[j]? = some x → id ∈ idsC x → id ∈ idsL l
  | [], j, x, hx, _ => by simp at hx
  | y :: l, 0, x, hx, hm => by simp at hx; subst hx; simp [idsL, hm]
  | y :: l, j + 1, x, hx, hm => by simp only [idsL, List.mem_append]; exact .inr (idsL_mem (by simpa using hx) hm)

theorem VR.cell_ok {v : V} {c : Value} (hv : okCell v = true) (hd : ∀ id ∈ idsC v, ¬ g.dead id) (x : VR w S g h v c) : c.cells = #[c] ∧ c.oneCell' = true := by
  cases x with
  | undef => simp [okCell] at hv
  | void => simp [okCell] at hv
  | rd _ _ hr => cases hr <;> first | exact ⟨rfl, rfl⟩ | (simp [okCell] at hv)
  | dead _ id hi hdd => exact absurd hdd (hd id hi)
  | agg => simp [okCell] at hv
  | tup => simp [okCell] at hv
  | _ => exact ⟨rfl, rfl⟩

/-- The cells of a value that may be stored. -/
theorem VR.cells_ok {v : V} {c : Value} (hb : boxableA v = true) (hd : ∀ id ∈ idsA v, ¬ g.dead id) (x : VR w S g h v c) :
    c.cells.size = v.cells.length ∧ (∀ (j : Nat) y d, v.cells[j]? = some y → c.cells[j]? = some d → VR w S g h y d ∧ okCell y = true ∧ d.oneCell' = true) := by
  by_cases hagg : ∃ l, v = .agg l
  · obtain ⟨l, rfl⟩ := hagg
    obtain ⟨cs, rfl, hl, hr⟩ := x.inv_agg
    refine ⟨by simp [Value.cells, V.cells, hl], fun j y d hy hd' => ?_⟩
    have hok : okCell y = true := (List.all_eq_true.1 hb) y (List.mem_of_getElem? hy)
    have hv := hr j y d hy hd'
    exact ⟨hv, hok, (hv.cell_ok hok fun id hid => hd id (idsL_mem hy hid)).2⟩
  · have hok : okCell v = true := by
      cases v <;> first | exact hb | (rename_i l; exact absurd ⟨l, rfl⟩ hagg)
    rw [okCell_idsA hok] at hd
    have hc := x.cell_ok hok hd
    rw [okCell_cells hok, hc.1]
    refine ⟨rfl, fun j y d hy hd' => ?_⟩
    cases j with
    | zero => simp at hy hd'; subst hy hd'; exact ⟨x, hok, hc.2⟩
    | succ j => simp at hy

theorem zeroCell_ok {t : TypeId} {v : Value} {x : V} (hz : zeroCell P t v = some x) : VR w S g h x v ∧ okCell x = true ∧ idsC x = [] ∧ v.cells = #[v] := by
  unfold zeroCell at hz
  split at hz
  · cases hz; exact ⟨.rd _ _ (.int _ _), rfl, rfl, rfl⟩
  · cases hz; exact ⟨.rd _ _ (.bool _), rfl, rfl, rfl⟩
  · cases hz; exact ⟨.rd _ _ (.str _ _ rfl), rfl, rfl, rfl⟩
  · simp only [Option.map_eq_some_iff] at hz
    obtain ⟨sz, _, rfl⟩ := hz
    exact ⟨.nils _, rfl, rfl, rfl⟩
  · cases hz

theorem zeroL_ok : ∀ {fs : List Field} {vs : List Value} {l : List V}, zeroL P fs vs = some l → l.length = vs.length ∧ l.length = fs.length ∧
    (∀ (i : Nat) x c, l[i]? = some x → vs[i]? = some c → VR w S g h x c ∧ okCell x = true ∧ idsC x = [])
  | [], [], l, hz => by simp only [zeroL, Option.some.injEq] at hz; subst hz; exact ⟨rfl, rfl, fun i x c hx => by simp at hx⟩
  | [], _ :: _, _, hz => by simp [zeroL] at hz
  | _ :: _, [], _, hz => by simp [zeroL] at hz
  | f :: fs, v :: vs, l, hz => by
    simp only [zeroL, Option.bind_eq_some_iff, Option.map_eq_some_iff] at hz
    obtain ⟨x, hx, l', hl', rfl⟩ := hz
    have ih := zeroL_ok hl'
    have h0 := zeroCell_ok (w := w) (S := S) (g := g) (h := h) hx
    refine ⟨by simp [ih.1], by simp [ih.2.1], ?_⟩
    intro i y c hy hc
    cases i with
    | zero => simp at hy hc; subst hy hc; exact ⟨h0.1, h0.2.1, h0.2.2.1⟩
    | succ i => exact ih.2.2 i y c (by simpa using hy) (by simpa using hc)

/-- A type's zero value, as data. -/
theorem zeroV_ok {t : TypeId} {z : V} (hz : zeroV P t = some z) : ∃ i zv, P.info? t = some i ∧ i.zero = some zv ∧ zv.cells.size = z.cells.length ∧ boxableA z = true ∧
    (∀ (j : Nat) y d, z.cells[j]? = some y → zv.cells[j]? = some d → VR w S g h y d) ∧ VR w S g h z zv ∧
    ((∃ fs, P.underlying t = some (.struct fs) ∧ ∃ l cs, z = .agg l ∧ zv = .agg cs ∧ l.length = fs.size) ∨ ((∀ fs, P.underlying t ≠ some (.struct fs)) ∧ ∀ l, z ≠ .agg l)) := by
  unfold zeroV at hz
  cases hi : P.info? t with
  | none => simp [hi] at hz
  | some i =>
    simp only [hi] at hz
    split at hz
    · rename_i fs hu
      cases hzv : i.zero with
      | none => simp [hzv] at hz
      | some zv =>
        cases zv with
        | agg cs =>
          simp only [hzv, Option.map_eq_some_iff] at hz
          obtain ⟨l, hl, rfl⟩ := hz
          obtain ⟨h1, h2, h3⟩ := zeroL_ok (w := w) (S := S) (g := g) (h := h) hl
          refine ⟨i, _, rfl, hzv, by simp [Value.cells, V.cells, h1], ?_, ?_, .agg _ _ (by simpa using h1) fun j x c hx hc => (h3 j x c hx (by simpa using hc)).1, .inl ⟨fs, hu, l, cs, rfl, rfl, by simpa using h2⟩⟩
          · simp only [boxableA, List.all_eq_true]
            intro x hx
            obtain ⟨j, hj, rfl⟩ := List.mem_iff_getElem.1 hx
            have := h3 j l[j] (cs.toList[j]'(by rw [← h1]; exact hj)) (List.getElem?_eq_getElem hj) (List.getElem?_eq_getElem _)
            exact this.2.1
          · intro j y d hy hd
            exact (h3 j y d hy (by simpa [Value.cells] using hd)).1
        | _ => simp [hzv] at hz
    · rename_i hns
      cases hzv : i.zero with
      | none => simp [hzv] at hz
      | some v =>
        simp only [hzv] at hz
        obtain ⟨h1, h2, h4, h5⟩ := zeroCell_ok (w := w) (S := S) (g := g) (h := h) hz
        have hc := okCell_cells h2
        refine ⟨i, v, rfl, hzv, by rw [h5, hc]; rfl, ?_, ?_, h1, .inr ⟨fun fs => hns fs, fun l e => by subst e; simp [okCell] at h2⟩⟩
        · cases z <;> first | exact h2 | (simp [okCell] at h2)
        · intro j y d hy hd
          rw [hc] at hy; rw [h5] at hd
          cases j with
          | zero => simp at hy hd; subst hy hd; exact h1
          | succ j => simp at hy

theorem run_zeroValue {t : TypeId} {i : TypeInfo} {zv : Value} (hi : P.info? t = some i) (hz : i.zero = some zv) : (zeroValue t).run P w = .ok zv w := by
  simp [zeroValue, typeInfo, hi, hz]

theorem op_alloc (H : HOk w0 O w S g h U) {t : TypeId} {z : V} (ho : o.op = .alloc t) (hz : zeroV P t = some z) (hU : ∀ i, n ≤ i → i < n + stride → ¬ U i) :
    Does P w0 O w S g h U a n o (.ptr n 0 none) [(n, some ⟨.box, z.cells.length, [z]⟩)] := by
  obtain ⟨i, zv, hi, hzv, hsz, hb, hc, _, _⟩ := zeroV_ok (w := w) (S := S) (g := g) (h := h) hz
  obtain ⟨g', H', tr, hv⟩ := H.newBox (id := n) (v := z) (cs := zv.cells) t (hU n (Nat.le_refl _) (by simp [stride])) hb hsz hc
  refine ⟨_, _, g', .inl ?_, H'.weak ?_, tr, hv⟩
  · simp only [execOp, ho]
    simp [Instr.alloc, run_zeroValue hi hzv, newVar, newRow]
  · rintro k (hk | rfl)
    · exact .inl hk
    · exact .inr ⟨Nat.le_refl _, by simp [stride]⟩

end
end Go.VM

/- Operations that touch no memory: numbers, texts, parts of structs, addresses, slices. -/
set_option linter.unusedVariables false
set_option linter.unusedSimpArgs false
namespace Go.VM
open Go

section
variable {P : Program} {w0 w : World} {O S : Nat → Prop} {g : G} {h : Heap} {U : Nat → Prop} {a : Act} {e : Env} {n : Nat} {o : Oper}

theorem op_box (H : HOk w0 O w S g h U) {t : TypeId} {x : Operand} {v : V} (ho : o.op = .box t x) (hx : VR w S g h v (a.eval x)) (hs : storable h v = true) (hU : ∀ i, n ≤ i → i < n + stride → ¬ U i) :
    Does P w0 O w S g h U a n o (.ptr n 0 none) [(n, some ⟨.box, v.cells.length, [v]⟩)] := by
  simp only [storable, Bool.and_eq_true] at hs
  obtain ⟨hc1, hc2⟩ := hx.cells_ok hs.1 (liveB_notDead H hs.2)
  obtain ⟨g', H', tr, hv⟩ := H.newBox (id := n) (v := v) (cs := (a.eval x).cells) t (hU n (Nat.le_refl _) (by simp [stride])) hs.1 hc1 (fun j y c hy hc => (hc2 j y c hy hc).1)
  refine ⟨_, _, g', .inl ?_, H'.weak ?_, tr, hv⟩
  · simp only [execOp, ho]
    simp [Instr.box, newVar, newRow]
  · rintro k (hk | rfl)
    · exact .inl hk
    · exact .inr ⟨Nat.le_refl _, by simp [stride]⟩

theorem bytes_data (s : ByteArray) : s.toList = s.data.toList := ByteArray.toList_eq s

theorem intOp_ok {op : BinOp} {k : IntKind} {x y : Int} {t : TypeId} {v : V} (h1 : op ≠ .shl) (h2 : op ≠ .shr) (hv : intOp op k x y = some v) :
    ∃ cv, (binOp op t (.int k x) (.int k y)).run P w = .ok cv w ∧ RD w S v cv := by
  cases op <;> simp only [intOp, Option.some.injEq, reduceCtorEq] at hv
  case quo =>
    split at hv
    · cases hv
    · rename_i hy
      cases hv
      refine ⟨_, ?_, .int _ _⟩
      simp [binOp, Op.intDiv, hy]
  case rem =>
    split at hv
    · cases hv
    · rename_i hy
      cases hv
      refine ⟨_, ?_, .int _ _⟩
      simp [binOp, Op.intDiv, hy]
  all_goals
    subst hv
    refine ⟨_, ?_, by first | exact .int _ _ | exact .bool _⟩
    simp [binOp, Op.intArith, Op.intBits, Op.intCmp]

theorem shiftOp_ok {op : BinOp} {k k' : IntKind} {x y : Int} {t : TypeId} {v : V} (hv : shiftOp op k x y = some v) :
    ∃ cv, (binOp op t (.int k x) (.int k' y)).run P w = .ok cv w ∧ RD w S v cv := by
  unfold shiftOp at hv
  split at hv
  · cases hv
  · rename_i hy
    cases op <;> simp only [Option.some.injEq, reduceCtorEq] at hv
    all_goals
      subst hv
      refine ⟨_, ?_, .int _ _⟩
      simp [binOp, Op.shift, hy]

theorem strOp_ok {op : BinOp} {x y : ByteArray} {t : TypeId} {v : V} (hv : strOp op x.data.toList y.data.toList = some v) :
    ∃ cv, (binOp op t (.string x) (.string y)).run P w = .ok cv w ∧ RD w S v cv := by
  cases op <;> simp only [strOp, Option.some.injEq, reduceCtorEq] at hv
  case add =>
    split at hv
    · rename_i hle
      cases hv
      refine ⟨.string (x ++ y), ?_, .str _ _ (by simp)⟩
      have h1 : ¬ (((x.size + y.size : Nat) : Int) > IntKind.i64.max) := by
        have e1 : x.data.toList.length = x.size := by rw [Array.length_toList]; rfl
        have e2 : y.data.toList.length = y.size := by rw [Array.length_toList]; rfl
        have : x.size + y.size ≤ 9223372036854775807 := by rw [e1, e2] at hle; exact hle
        have e : IntKind.i64.max = 9223372036854775807 := by decide
        rw [e]; omega
      simp only [binOp, Op.stringOp]
      rw [if_neg h1]
      simp
    · cases hv
  all_goals
    subst hv
    refine ⟨_, ?_, .bool _⟩
    simp [binOp, Op.stringOp, bytes_data]

theorem isBool_eq {t : TypeId} (hb : isBool P t = true) : P.underlying t = some .bool := by
  unfold isBool at hb
  split at hb
  · assumption
  · cases hb

theorem part_cell {t : TypeId} {k : Nat} (hk : eqKind P t = some k) {xs : Array Value} {i : Nat} {c : Value} (hx : xs[i]? = some c) : (part t xs i).run P w = .ok c w := by
  unfold eqKind at hk
  split at hk <;> rename_i hu <;> first | (simp [part, isAgg, run_underlying hu, hx]; done) | cases hk
theorem eqCells_ok {d : Nat} {xs ys : Array Value} : ∀ (ks : List Nat) (fs : List Field) (i : Nat) (vx vy : List V) {r : Bool}, eqKinds P i fs = some ks → eqCells ks vx vy = some r →
    (∀ (j : Nat) x, vx[j]? = some x → ∃ c, xs[i + j]? = some c ∧ VR w S g h x c) → (∀ (j : Nat) x, vy[j]? = some x → ∃ c, ys[i + j]? = some c ∧ VR w S g h x c) →
    (Op.eqFields (d + 1) xs ys fs).run P w = .ok r w
  | ks, [], i, vx, vy, r, hk, he, hx, hy => by
    simp only [eqKinds, Option.some.injEq] at hk
    subst hk
    cases vx <;> cases vy <;> simp [eqCells] at he
    subst he
    simp [Op.eqFields]
  | ks, f :: fs, i, vx, vy, r, hk, he, hx, hy => by
    simp only [eqKinds] at hk
    split at hk
    case isFalse => cases hk
    rename_i hf
    obtain ⟨hn, ho⟩ := hf
    simp only [Option.bind_eq_some_iff, Option.map_eq_some_iff] at hk
    obtain ⟨k, hk1, ks', hk2, rfl⟩ := hk
    have step : ∀ {x y : V} {vx' vy' : List V} {b r' : Bool}, vx = x :: vx' → vy = y :: vy' → eqCells ks' vx' vy' = some r' → (∀ cx cy, VR w S g h x cx → VR w S g h y cy → (Op.equalIn (d + 1) f.type cx cy).run P w = .ok b w) →
        (Op.eqFields (d + 1) xs ys (f :: fs)).run P w = .ok (b && r') w := by
      rintro x y vx' vy' b r' rfl rfl hr' hb
      obtain ⟨cx, hcx, rx⟩ := hx 0 x rfl
      obtain ⟨cy, hcy, ry⟩ := hy 0 y rfl
      have ih := eqCells_ok (d := d) ks' fs (i + 1) vx' vy' hk2 hr' (fun j x hj => by
        obtain ⟨c, h1, h2⟩ := hx (j + 1) x (by simpa using hj)
        exact ⟨c, by rw [show i + 1 + j = i + (j + 1) by omega]; exact h1, h2⟩) (fun j x hj => by
        obtain ⟨c, h1, h2⟩ := hy (j + 1) x (by simpa using hj)
        exact ⟨c, by rw [show i + 1 + j = i + (j + 1) by omega]; exact h1, h2⟩)
      rw [Nat.add_zero] at hcx hcy
      rw [← ho] at hcx hcy
      simp only [Op.eqFields, ne_eq, hn, not_false_eq_true, if_true, Sem.run_bind, part_cell hk1 hcx, part_cell hk1 hcy, Result.andThen_ok, hb cx cy rx ry]
      cases b
      · simp
      · simpa using ih
    unfold eqCells at he
    split at he
    · contradiction
    · rename_i ks'' k1 a xs' k2 b ys' e1
      cases e1
      split at he
      case isFalse => cases he
      rename_i hkk
      subst hkk
      simp only [Option.map_eq_some_iff] at he
      obtain ⟨r', hr', rfl⟩ := he
      refine step rfl rfl hr' fun cx cy rx ry => ?_
      obtain rfl := rx.inv_int
      obtain rfl := ry.inv_int
      unfold eqKind at hk1
      split at hk1 <;> first | cases hk1; done | skip
      rename_i hu
      exact run_equalIn_int w d f.type k1 _ a b hu
    · rename_i ks'' a xs' b ys' e1
      cases e1
      simp only [Option.map_eq_some_iff] at he
      obtain ⟨r', hr', rfl⟩ := he
      refine step rfl rfl hr' fun cx cy rx ry => ?_
      obtain ⟨sx, rfl, rfl⟩ := rx.inv_str
      obtain ⟨sy, rfl, rfl⟩ := ry.inv_str
      unfold eqKind at hk1
      split at hk1 <;> first | cases hk1; done | skip
      rename_i hu
      rw [run_equalIn_string w d f.type sx sy hu, bytes_data, bytes_data]
    · rename_i ks'' a xs' b ys' e1
      cases e1
      simp only [Option.map_eq_some_iff] at he
      obtain ⟨r', hr', rfl⟩ := he
      refine step rfl rfl hr' fun cx cy rx ry => ?_
      obtain rfl := rx.inv_bool
      obtain rfl := ry.inv_bool
      unfold eqKind at hk1
      split at hk1 <;> first | cases hk1; done | skip
      rename_i hu
      exact run_equalIn_bool' w d f.type a b hu
    · cases he
theorem structEq_ok {t : TypeId} {ks : List Nat} {lx ly : List V} {cx cy : Array Value} {r : Bool} (ht : structEq P t = some ks) (he : eqCells ks lx ly = some r) (hlx : lx.length = cx.size) (hly : ly.length = cy.size)
    (hx : ∀ (i : Nat) x c, lx[i]? = some x → cx[i]? = some c → VR w S g h x c) (hy : ∀ (i : Nat) x c, ly[i]? = some x → cy[i]? = some c → VR w S g h x c) :
    P.eqGuardType P.depth t = false ∧ (Op.equalIn 10000 t (.agg cx) (.agg cy)).run P w = .ok r w := by
  unfold structEq at ht
  split at ht
  case h_2 => cases ht
  rename_i fs hu
  split at ht
  case isFalse => cases ht
  rename_i hg
  refine ⟨hg.2, ?_⟩
  have hf : P.fieldsOf t = fs := by unfold Program.fieldsOf; rw [hu]
  rw [show (10000 : Nat) = 9999 + 1 from rfl, run_equalIn_struct w 9999 t cx cy (by rw [hf]; exact hu) hg.1, hf]
  exact eqCells_ok (d := 9998) ks fs.toList 0 lx ly ht he (fun j x hj => by
    have hl : j < cx.size := by rw [← hlx]; exact (List.getElem?_eq_some_iff.1 hj).1
    exact ⟨cx[j], by simp [hl], hx j x _ hj (by simp [hl])⟩) (fun j x hj => by
    have hl : j < cy.size := by rw [← hly]; exact (List.getElem?_eq_some_iff.1 hj).1
    exact ⟨cy[j], by simp [hl], hy j x _ hj (by simp [hl])⟩)

theorem binV_ok {op : BinOp} {t : TypeId} {x y : V} {cx cy : Value} {v : V} (hx : VR w S g h x cx) (hy : VR w S g h y cy) (hv : binV P op t x y = some v) (xo yo : Operand) :
    ∃ cv, (do eqGuard op t xo yo cx cy; binOp op t cx cy : Sem Value).run P w = .ok cv w ∧ RD w S v cv := by
  unfold binV at hv
  split at hv
  · rename_i k i k' j
    obtain rfl := hx.inv_int
    obtain rfl := hy.inv_int
    have hg : (eqGuard op t xo yo (.int k i) (.int k' j)).run P w = .ok () w := by unfold eqGuard; simp
    split at hv
    · obtain ⟨cv, hr, hd⟩ := shiftOp_ok (P := P) (w := w) (S := S) (t := t) (k' := k') hv
      exact ⟨cv, by simp [hg, hr], hd⟩
    · obtain ⟨cv, hr, hd⟩ := shiftOp_ok (P := P) (w := w) (S := S) (t := t) (k' := k') hv
      exact ⟨cv, by simp [hg, hr], hd⟩
    · rename_i h1 h2
      split at hv
      · rename_i hk
        subst hk
        obtain ⟨cv, hr, hd⟩ := intOp_ok (P := P) (w := w) (S := S) (t := t) (fun e => h1 e) (fun e => h2 e) hv
        exact ⟨cv, by simp [hg, hr], hd⟩
      · cases hv
  · obtain ⟨sx, rfl, rfl⟩ := hx.inv_str
    obtain ⟨sy, rfl, rfl⟩ := hy.inv_str
    have hg : (eqGuard op t xo yo (.string sx) (.string sy)).run P w = .ok () w := by unfold eqGuard; simp
    obtain ⟨cv, hr, hd⟩ := strOp_ok (P := P) (w := w) (S := S) (t := t) hv
    exact ⟨cv, by simp [hg, hr], hd⟩
  · rename_i b c
    obtain rfl := hx.inv_bool
    obtain rfl := hy.inv_bool
    have hg : (eqGuard op t xo yo (.bool b) (.bool c)).run P w = .ok () w := by unfold eqGuard; simp
    split at hv
    · rename_i hb
      have hu := isBool_eq hb
      split at hv
      · cases hv
        exact ⟨.bool (b == c), by simp [hg, binOp, run_equal_bool w t b c hu], .bool _⟩
      · cases hv
        exact ⟨.bool (!(b == c)), by simp [hg, binOp, run_equal_bool w t b c hu], .bool _⟩
      · cases hv
    · cases hv
  · rename_i lx ly
    obtain ⟨cx, rfl, hlx, hx⟩ := hx.inv_agg
    obtain ⟨cy, rfl, hly, hy⟩ := hy.inv_agg
    split at hv
    · simp only [Option.bind_eq_some_iff, Option.map_eq_some_iff] at hv
      obtain ⟨ks, hks, r, hr, rfl⟩ := hv
      obtain ⟨h1, h2⟩ := structEq_ok hks hr hlx hly hx hy
      exact ⟨.bool r, by simp [run_eqGuard_agg w _ t xo yo cx cy h1, run_eql_struct w t cx cy, h2], .bool _⟩
    · simp only [Option.bind_eq_some_iff, Option.map_eq_some_iff] at hv
      obtain ⟨ks, hks, r, hr, rfl⟩ := hv
      obtain ⟨h1, h2⟩ := structEq_ok hks hr hlx hly hx hy
      exact ⟨.bool (!r), by simp [run_eqGuard_agg w _ t xo yo cx cy h1, run_neq_struct w t cx cy, h2], .bool _⟩
    · cases hv
  · cases hv

theorem isNilC_eval {y : Operand} (h : isNilC y = true) : a.eval y = .nilIface := by
  unfold isNilC at h
  split at h
  · rfl
  · cases h
theorem binO_ok {op : BinOp} {t : TypeId} {x y : V} {cx cy : Value} {v : V} {xo yo : Operand} (hx : VR w S g h x cx) (hy : VR w S g h y cy) (hn : isNilC yo = true → cy = .nilIface) (hv : binO P op t yo x y = some v) :
    ∃ cv, (do eqGuard op t xo yo cx cy; binOp op t cx cy : Sem Value).run P w = .ok cv w ∧ RD w S v cv := by
  unfold binO at hv
  split at hv
  case isFalse => exact binV_ok hx hy hv xo yo
  rename_i hc
  have hcy := hn hc
  subst hcy
  split at hv
  case isFalse => cases hv
  rename_i ht
  have hu : ∃ ms, P.underlying t = some (.interface ms) := by
    unfold ifaceT at ht
    split at ht
    · rename_i ms e; exact ⟨ms, e⟩
    · cases ht
  obtain ⟨ms, hu⟩ := hu
  have hyo : yo = .const .nilIface := by
    unfold isNilC at hc
    split at hc
    · rfl
    · cases hc
  subst hyo
  unfold errCmp at hv
  split at hv
  case h_2 => cases hv
  rename_i b
  have hg : (eqGuard op t xo (.const .nilIface) cx .nilIface).run P w = .ok () w := by
    rcases hx.inv_err with ⟨_, rfl⟩ | ⟨_, t', v', rfl⟩
    · unfold eqGuard
      cases op <;> simp
    · unfold eqGuard
      simp
  have he0 : ∀ d : Nat, (Op.equalIn (d + 1) t cx .nilIface).run P w = .ok (!b) w := by
    intro d
    rcases hx.inv_err with ⟨rfl, rfl⟩ | ⟨rfl, t', v', rfl⟩
    · simp [Op.equalIn, run_underlying hu]
    · simp [Op.equalIn, run_underlying hu]
  have he : (Op.equal t cx .nilIface).run P w = .ok (!b) w := he0 9999
  split at hv
  · cases hv
    refine ⟨.bool (!b), ?_, .bool _⟩
    rcases hx.inv_err with ⟨rfl, rfl⟩ | ⟨rfl, t', v', rfl⟩ <;> simp [hg, binOp, he]
  · cases hv
    refine ⟨.bool b, ?_, .bool _⟩
    rcases hx.inv_err with ⟨rfl, rfl⟩ | ⟨rfl, t', v', rfl⟩ <;> simp [hg, binOp, he]
  · cases hv
theorem op_bin (H : HOk w0 O w S g h U) {op : BinOp} {t t' : TypeId} {x y : Operand} {vx vy v : V} (ho : o.op = .binOp op t x y t') (hx : VR w S g h vx (a.eval x)) (hy : VR w S g h vy (a.eval y))
    (hn : isNilC y = true → a.eval y = .nilIface) (hv : binO P op t y vx vy = some v) : Does P w0 O w S g h U a n o v [] := by
  obtain ⟨cv, hr, hd⟩ := binO_ok (xo := x) hx hy hn hv
  refine does_pure H (cv := cv) ?_ (.rd _ _ hd)
  simp only [execOp, ho]
  simp only [Sem.run_bind] at hr ⊢
  cases hg : (eqGuard op t x y (a.eval x) (a.eval y)).run P w with
  | halt x w' => simp [hg] at hr
  | ok u w' =>
    simp only [hg, Result.andThen_ok] at hr ⊢
    simp [hr]

theorem op_un (H : HOk w0 O w S g h U) {op : UnOp} {t : TypeId} {x : Operand} {vx v : V} (ho : o.op = .unOp op t x) (hx : VR w S g h vx (a.eval x)) (hv : unV op vx = some v) : Does P w0 O w S g h U a n o v [] := by
  unfold unV at hv
  split at hv
  · cases hv
    have e := hx.inv_bool
    refine does_pure H ?_ (.rd _ _ (.bool _))
    simp [execOp, ho, e, Op.unary]
  · cases hv
    have e := hx.inv_int
    refine does_pure H ?_ (.rd _ _ (.int _ _))
    simp [execOp, ho, e, Op.unary, Op.intArith]
  · cases hv

theorem run_underlying' {t : TypeId} {d : TypeDesc} (h : P.underlying t = some d) : (underlying t).run P w = .ok d w := by simp [underlying, h]

theorem struct_of_fieldAt {t : TypeId} {f : Nat} (h : fieldAt P t f = true) : ∃ fs x, P.underlying t = some (.struct fs) ∧ fs[f]? = some x ∧ x.offset = f ∧ P.cellsOf x.type = 1 := by
  unfold fieldAt at h
  split at h
  · rename_i fs hu
    split at h
    · rename_i x hx
      exact ⟨fs, x, hu, hx, by simpa using h⟩
    · cases h
  · cases h

theorem info_of_cellsOf {t : TypeId} (h : P.cellsOf t ≠ 0) : ∃ i, P.info? t = some i ∧ i.size = P.cellsOf t := by
  unfold Program.cellsOf at *
  cases hi : P.info? t with
  | none => simp [hi] at h
  | some i => exact ⟨i, rfl, by simp⟩
theorem run_sizeOf {t : TypeId} (h : P.cellsOf t ≠ 0) : (sizeOf t).run P w = .ok (P.cellsOf t) w := by
  obtain ⟨i, hi, hs⟩ := info_of_cellsOf h
  simp [sizeOf, typeInfo, hi, hs]

theorem isStruct_isAgg {t : TypeId} (hu : ∃ d, P.underlying t = some d) : (isAgg t).run P w = .ok (isStruct P t) w := by
  obtain ⟨d, hu⟩ := hu
  unfold isStruct
  simp only [isAgg, Sem.run_bind, run_underlying' hu, Result.andThen_ok, hu]
  cases d <;> rfl

theorem op_convert_int (H : HOk w0 O w S g h U) {s d : TypeId} {x : Operand} {k k0 k1 : IntKind} {m : Int} (ho : o.op = .convert s d x) (hs : P.underlying s = some (.int k0)) (hd : P.underlying d = some (.int k))
    (hx : VR w S g h (.int k1 m) (a.eval x)) : Does P w0 O w S g h U a n o (.int k (k.wrap m)) [] := by
  have e := hx.inv_int
  refine does_pure H ?_ (.rd _ _ (.int _ _))
  simp [execOp, ho, convert, run_underlying' hs, run_underlying' hd, e, Conv.intToInt]

theorem op_convert_str (H : HOk w0 O w S g h U) {s d : TypeId} {x : Operand} {l : List UInt8} (ho : o.op = .convert s d x) (hs : P.underlying s = some .string) (hd : P.underlying d = some .string)
    (hx : VR w S g h (.str l) (a.eval x)) : Does P w0 O w S g h U a n o (.str l) [] := by
  obtain ⟨b, e, hl⟩ := hx.inv_str
  refine does_pure H (cv := .string b) ?_ (.rd _ _ (.str _ _ hl))
  simp [execOp, ho, convert, run_underlying' hs, run_underlying' hd, e]

theorem op_makeFunc (H : HOk w0 O w S g h U) {f : Nat} {first caps : Array Operand} {l : List V} (ho : o.op = .makeFunc (.func f) first caps) (hf : first.size = 0)
    (hl : l.length = caps.size) (hr : ∀ (i : Nat) x c, l[i]? = some x → caps[i]? = some c → VR w S g h x (a.eval c)) : Does P w0 O w S g h U a n o (.fn f l) [] := by
  have e0 : first.map a.eval = #[] := by
    have : first = #[] := Array.eq_empty_of_size_eq_zero hf
    subst this; simp
  refine does_pure H (cv := .func (.func f) #[] (caps.map a.eval)) ?_ (.fn _ _ _ (by simpa using hl) fun i x c hx hc => ?_)
  · simp [execOp, ho, Instr.makeFunc, e0]
  · simp only [Array.getElem?_map, Option.map_eq_some_iff] at hc
    obtain ⟨c', hc', rfl⟩ := hc
    exact hr i x c' hx hc'

theorem op_extract (H : HOk w0 O w S g h U) {x : Operand} {i : Nat} {l : List V} {v : V} (ho : o.op = .extract x i) (hx : VR w S g h (.tup l) (a.eval x)) (hv : l[i]? = some v) : Does P w0 O w S g h U a n o v [] := by
  obtain ⟨cs, e, hl, hr⟩ := hx.inv_tup
  have hi : i < l.length := (List.getElem?_eq_some_iff.1 hv).1
  have hc : cs[i]? = some (cs[i]'(hl ▸ hi)) := Array.getElem?_eq_getElem _
  refine does_pure H ?_ (hr i v _ hv hc)
  simp [execOp, ho, e, Instr.extract, hc]

theorem op_index (H : HOk w0 O w S g h U) {t : TypeId} {x i : Operand} {l : List UInt8} {k : IntKind} {j : Int} {b : UInt8} (ho : o.op = .index t x i) (ht : P.underlying t = some .string)
    (hx : VR w S g h (.str l) (a.eval x)) (hi : VR w S g h (.int k j) (a.eval i)) (h0 : 0 ≤ j) (hb : l[j.toNat]? = some b) : Does P w0 O w S g h U a n o (.int .u8 b.toNat) [] := by
  obtain ⟨s, e, hl⟩ := hx.inv_str
  have e2 := hi.inv_int
  have hlt : j.toNat < s.size := by
    have := (List.getElem?_eq_some_iff.1 hb).1
    rw [← hl, Array.length_toList] at this
    exact this
  have hg : s[j.toNat]? = some b := by
    rw [ByteArray.getElem?_lt' s _ hlt]
    rw [← hl] at hb
    have : s.data[j.toNat]? = some b := by simpa using hb
    rw [Array.getElem?_eq_getElem hlt] at this
    exact this
  refine does_pure H ?_ (.rd _ _ (.int _ _))
  simp [execOp, ho, e, e2, Instr.index, asIntOf, run_underlying' ht, h0, hg]

theorem scalarField_eq {t : TypeId} {f : Nat} (h : scalarField P t f = true) : ∃ fs x, P.underlying t = some (.struct fs) ∧ fs[f]? = some x ∧ x.offset = f ∧ (isAgg x.type).run P w = .ok false w := by
  unfold scalarField at h
  split at h
  · rename_i fs hu
    split at h
    · rename_i x hx
      simp only [Bool.and_eq_true, beq_iff_eq] at h
      refine ⟨fs, x, hu, hx, h.1, ?_⟩
      cases hux : P.underlying x.type with
      | none => simp [hux] at h
      | some d =>
        rw [isStruct_isAgg ⟨d, hux⟩]
        have h2 := h.2
        unfold isStruct
        rw [hux] at h2 ⊢
        cases d <;> simp_all
    · cases h
  · cases h

theorem op_field (H : HOk w0 O w S g h U) {t : TypeId} {x : Operand} {f : Nat} {l : List V} {v : V} (ho : o.op = .field t x f) (hx : VR w S g h (.agg l) (a.eval x)) (hf : scalarField P t f = true)
    (hv : l[f]? = some v) : Does P w0 O w S g h U a n o v [] := by
  obtain ⟨cs, e, hl, hr⟩ := hx.inv_agg
  obtain ⟨fs, fx, hu, hfx, hoff, hag⟩ := scalarField_eq (w := w) hf
  have hi : f < l.length := (List.getElem?_eq_some_iff.1 hv).1
  have hc : cs[f]? = some (cs[f]'(hl ▸ hi)) := Array.getElem?_eq_getElem _
  refine does_pure H ?_ (hr f v _ hv hc)
  simp [execOp, ho, e, Instr.field, run_underlying' hu, hfx, asAgg, part, hag, hoff, hc]

/-! ### addresses and slices -/
theorem elemSize_eq {t : TypeId} {sz : Nat} (h : elemSize P t = some sz) : ∃ el, P.underlying t = some (.slice el) ∧ P.cellsOf el = sz := by
  unfold elemSize at h
  split at h
  · rename_i el hu; cases h; exact ⟨el, hu, rfl⟩
  · cases h

theorem add_mk (b o k : Nat) : (⟨b, o, none⟩ : Addr).add k = ⟨b, o + k, none⟩ := by
  unfold Addr.add
  split
  · rename_i h; subst h; rfl
  · rfl
theorem add_none {ad : Addr} (h : ad.spot = none) (k : Nat) : ad.add k = ⟨ad.block, ad.off + k, none⟩ := by
  obtain ⟨b, o, s⟩ := ad
  simp only at h
  subst h
  exact add_mk b o k

theorem op_nilCheck (H : HOk w0 O w S g h U) {x : Operand} {p v : V} (ho : o.op = .nilCheck x) (hx : VR w S g h p (a.eval x)) (hv : nilV h p = some v) : Does P w0 O w S g h U a n o v [] := by
  unfold nilV at hv
  split at hv
  · rename_i id i f
    split at hv
    · cases hv
    · rename_i b hk hb
      cases hv
      obtain ⟨ad, hbase, hi, e⟩ := hx.inv_ptr hb (H.notDead hb) (fun e => by obtain ⟨k, sz, els⟩ := b; cases e; exact hk _ _ rfl)
      refine does_pure H (cv := a.eval x) ?_ hx
      simp [execOp, ho, e]
    · cases hv
  · rename_i v'
    cases hv
    have hr := hx.inv_rptr
    refine does_pure H (cv := a.eval x) ?_ hx
    simp only [execOp, ho]
    generalize a.eval x = c at hr
    cases hr
    simp
  · cases hv
theorem op_fieldAddr (H : HOk w0 O w S g h U) {t : TypeId} {x : Operand} {f : Nat} {p v : V} (ho : o.op = .fieldAddr t x f) (hx : VR w S g h p (a.eval x)) (hv : fieldAddrV P h t p f = some v) :
    Does P w0 O w S g h U a n o v [] := by
  unfold fieldAddrV at hv
  split at hv
  · rename_i hf
    obtain ⟨fs, fx, hu, hfx, hoff, hsz⟩ := struct_of_fieldAt hf
    have hso : (sizeOf fx.type).run P w = .ok 1 w := by rw [run_sizeOf (by omega), hsz]
    split at hv
    · rename_i id i
      split at hv
      · rename_i b hb
        split at hv
        · rename_i l hl
          split at hv
          · cases hv
            obtain ⟨ad, hbase, hi, e⟩ := hx.inv_ptrI hb (H.notDead hb) (List.getElem?_eq_some_iff.1 hl).1
            refine does_pure H ?_ (.ptr id i (some f) b ad hb hbase hi)
            simp [execOp, ho, e, Instr.fieldAt, run_underlying' hu, hfx, Instr.sureAddr, Go.fieldPlace, hoff, hso, add_mk, Nat.add_assoc]
          · cases hv
        · cases hv
      · cases hv
    · rename_i l
      split at hv
      · rename_i v' hv'
        split at hv
        case isFalse => cases hv
        rename_i hok
        cases hv
        have hr := hx.inv_rptr
        generalize hce : a.eval x = cx at hr
        cases hr with
        | rptr _ ad q hsp hS hc hr =>
          have hi : f < l.length := (List.getElem?_eq_some_iff.1 hv').1
          refine does_pure H (cv := .pointer (some ⟨ad.block, ad.off + f, none⟩)) ?_ (.rd _ _ (.rptr v' ⟨ad.block, ad.off + f, none⟩ (fun j => q (f + j)) rfl hS ?_ ?_))
          · simp [execOp, ho, hce, Instr.fieldAt, run_underlying' hu, hfx, Instr.sureAddr, Go.fieldPlace, hoff, hso, add_none hsp]
          · intro j hj
            rw [okCell_cells hok] at hj
            have : j = 0 := by simpa using hj
            subst this
            exact hc f hi
          · intro j y hy
            rw [okCell_cells hok] at hy
            cases j with
            | zero => simp at hy; subst hy; exact hr f _ hv'
            | succ j => simp at hy
      · cases hv
    · cases hv
  · cases hv

theorem RD.inv_lst_at {sz : Nat} {l : List V} {c : Value} (x : RD w S (.lst sz l) c) {i : Nat} {v : V} (hi : l[i]? = some v) :
    ∃ ad cap, c = .slice (some ad) l.length cap ∧ ad.spot = none ∧ v.cells.length = sz ∧ RD w S (.rptr v) (.pointer (some ⟨ad.block, ad.off + i * sz, none⟩)) := by
  cases x with
  | lnil => simp at hi
  | lst _ _ ad cap f hsp hS hlen hsz hc hr =>
    have hlt := (List.getElem?_eq_some_iff.1 hi).1
    have hl := hsz v (List.mem_of_getElem? hi)
    refine ⟨ad, cap, rfl, hsp, hl, .rptr v ⟨ad.block, ad.off + i * sz, none⟩ (f i) rfl hS (fun j hj => ?_) (fun j y hy => hr i v j y hi hy)⟩
    rw [hl] at hj
    have := hc i j hlt hj
    simpa [Nat.add_assoc] using this

theorem OW.none_nil {sz m c : Nat} {l : List V} {N : Nat → Prop} (x : OW w (.lst sz l) (.slice none m c) N) : l = [] ∧ c = 0 := by
  generalize hv : V.lst sz l = v at x
  generalize hc : Value.slice none m c = cv at x
  cases x <;> simp_all

theorem OW.len_le {sz m c : Nat} {l : List V} {ba : Option Addr} {N : Nat → Prop} (x : OW w (.lst sz l) (.slice ba m c) N) : m ≤ c ∧ m = l.length := by
  generalize hv : V.lst sz l = v at x
  generalize hc : Value.slice ba m c = cv at x
  cases x <;> simp_all

theorem op_indexAddr (H : HOk w0 O w S g h U) {t : TypeId} {x i : Operand} {vx v : V} {k : IntKind} {j : Int} (ho : o.op = .indexAddr t x i) (hx : VR w S g h vx (a.eval x)) (hi : VR w S g h (.int k j) (a.eval i))
    (hv : indexAddrV P h t vx j = some v) : Does P w0 O w S g h U a n o v [] := by
  have ei := hi.inv_int
  unfold indexAddrV at hv
  split at hv
  · cases hv
  · rename_i sz hsz
    obtain ⟨el, hu, rfl⟩ := elemSize_eq hsz
    have go : ∀ (ad : Addr) (len cap : Nat), a.eval x = .slice (some ad) len cap → 0 ≤ j → j < len → P.cellsOf el ≠ 0 →
        (execOp a.eval o).run P w = .ok (.value (.pointer (some (ad.add (j.toNat * P.cellsOf el))))) w := by
      intro ad len cap e h0 h1 hne
      simp [execOp, ho, e, ei, Instr.indexAt, asIntOf, run_underlying' hu, h0, h1, run_sizeOf hne]
    split at hv
    · rename_i sz' l
      split at hv
      · rename_i hb
        split at hv
        · rename_i v' hv'
          split at hv
          · rename_i hs
            cases hv
            obtain ⟨ad, cap, e, hsp, hl, hr⟩ := hx.inv_lst.inv_lst_at hv'
            refine does_pure H (cv := .pointer (some ⟨ad.block, ad.off + j.toNat * sz', none⟩)) ?_ (.rd _ _ hr)
            rw [go ad _ cap e hb.1 hb.2.1 (by rw [← hs]; exact hb.2.2), add_none hsp, hs]
          · cases hv
        · cases hv
      · cases hv
    · rename_i id
      split at hv
      · rename_i sz' els hb
        split at hv
        · rename_i hc
          cases hv
          obtain ⟨_, e⟩ := hx.inv_own hb (H.notDead hb)
          have hB := H.blk id _ hb
          cases hbase : g.base id with
          | none =>
            have hlen : els.length = 0 := by
              have := hB.1
              rw [hbase] at this
              rw [this.none_nil.1]; rfl
            omega
          | some ad =>
            have hsp := hB.2 ad hbase
            have hp := VR.ptr (w := w) (S := S) (g := g) (h := h) id j.toNat none _ ad hb hbase (by show j.toNat < els.length; omega)
            refine does_pure H ?_ hp
            rw [go ad _ _ (by rw [e, hbase]) hc.1 hc.2.1 (by rw [← hc.2.2.1]; exact hc.2.2.2), add_none hsp, hc.2.2.1]
            simp
        · cases hv
      · rename_i i0 sz' els hb
        split at hv
        · rename_i hc
          cases hv
          obtain ⟨_, e⟩ := hx.inv_own hb (H.notDead hb)
          have hB := H.blk id _ hb
          cases hbase : g.base id with
          | none =>
            have hlen : (els.modify i0 hlA).length = 0 := by
              have := hB.1
              rw [hbase] at this
              rw [this.none_nil.1]; rfl
            rw [List.length_modify] at hlen
            omega
          | some ad =>
            have hsp := hB.2.1 ad hbase
            have hp := VR.ptr (w := w) (S := S) (g := g) (h := h) id j.toNat none _ ad hb hbase (by show j.toNat < els.length; omega)
            refine does_pure H ?_ hp
            rw [go ad _ _ (by rw [e, hbase]) hc.1 hc.2.1 (by rw [← hc.2.2.1]; exact hc.2.2.2), add_none hsp, hc.2.2.1]
            simp
        · cases hv
      · cases hv
    · rename_i id lo len
      split at hv
      · rename_i sz' els hb
        split at hv
        · rename_i hc
          cases hv
          obtain ⟨_, e⟩ := hx.inv_win hb (H.notDead hb)
          rcases e with ⟨h0, _⟩ | ⟨ad, cp, hbase, hcp, hlc, e⟩
          · omega
          · have hp := VR.ptr (w := w) (S := S) (g := g) (h := h) id (lo + j.toNat) none _ ad hb hbase (by show lo + j.toNat < els.length; omega)
            refine does_pure H ?_ hp
            rw [go _ _ _ e hc.1 hc.2.1 (by rw [← hc.2.2.2.1]; exact hc.2.2.2.2), add_none rfl, hc.2.2.2.1]
            simp [Nat.add_mul, Nat.add_assoc]
        · cases hv
      · cases hv
    · cases hv

theorem natOf_ok {v : V} {m : Nat} {c : Value} (hv : natOf v = some m) (x : VR w S g h v c) : ∃ k, c = .int k m := by
  unfold natOf at hv
  split at hv
  · rename_i k j
    split at hv
    · rename_i h0
      cases hv
      refine ⟨k, ?_⟩
      rw [x.inv_int]
      congr 1
      omega
    · cases hv
  · cases hv

/-- The bounds of a slice expression, as the model computes them. -/
theorem run_sliceBounds (b : Bool) {len cap x y : Nat} {lo hi : Option V} {clo chi : Option Value} (hlo : bound 0 lo = some x) (hhi : bound len hi = some y)
    (elo : ∀ v, lo = some v → ∃ c, clo = some c ∧ VR w S g h v c) (nlo : lo = none → clo = none) (ehi : ∀ v, hi = some v → ∃ c, chi = some c ∧ VR w S g h v c) (nhi : hi = none → chi = none)
    (h1 : x ≤ y) (h2 : y ≤ cap) : (Instr.sliceBounds b len cap clo chi none).run P w = .ok (x, y, cap) w := by
  have sb : ∀ (k : IntKind) (m q : Nat) (cd : BoundsCode), m ≤ q → (Instr.sliceBound (.int k m) q cd).run P w = .ok m w := by
    intro k m q cd hm
    simp [Instr.sliceBound, asIntOf, hm]
  have e1 : clo = none ∧ x = 0 ∨ ∃ k, clo = some (.int k x) := by
    cases lo with
    | none => simp only [bound, Option.some.injEq] at hlo; exact .inl ⟨nlo rfl, hlo.symm⟩
    | some v => obtain ⟨c, hc, hv⟩ := elo v rfl; obtain ⟨k, rfl⟩ := natOf_ok hlo hv; exact .inr ⟨k, hc⟩
  have e2 : chi = none ∧ y = len ∨ ∃ k, chi = some (.int k y) := by
    cases hi with
    | none => simp only [bound, Option.some.injEq] at hhi; exact .inl ⟨nhi rfl, hhi.symm⟩
    | some v => obtain ⟨c, hc, hv⟩ := ehi v rfl; obtain ⟨k, rfl⟩ := natOf_ok hhi hv; exact .inr ⟨k, hc⟩
  rcases e1 with ⟨rfl, rfl⟩ | ⟨k, rfl⟩ <;> rcases e2 with ⟨rfl, rfl⟩ | ⟨k', rfl⟩ <;> simp [Instr.sliceBounds, sb, h1, h2]

theorem op_slice (H : HOk w0 O w S g h U) {t : TypeId} {x : Operand} {lo hi : Option Operand} {vx v : V} {vlo vhi : Option V} (ho : o.op = .slice t x lo hi none) (hx : VR w S g h vx (a.eval x))
    (elo : ∀ v, vlo = some v → ∃ c, lo.map a.eval = some c ∧ VR w S g h v c) (nlo : vlo = none → lo.map a.eval = none) (ehi : ∀ v, vhi = some v → ∃ c, hi.map a.eval = some c ∧ VR w S g h v c) (nhi : vhi = none → hi.map a.eval = none)
    (hv : sliceV P h t vx vlo vhi = some v) : Does P w0 O w S g h U a n o v [] := by
  unfold sliceV at hv
  have fin : ∀ {el : TypeId} {a' : Option Addr} {len cap x' y : Nat}, P.underlying t = some (.slice el) → a.eval x = .slice a' len cap → bound 0 vlo = some x' → bound len vhi = some y → x' ≤ y → y ≤ cap → P.cellsOf el ≠ 0 →
      (execOp a.eval o).run P w = .ok (.value (.slice (if cap = x' then a' else a'.map (·.add (x' * P.cellsOf el))) (y - x') (cap - x'))) w := by
    intro el a' len cap x' y hu e hl hh h1 h2 hne
    have hb := run_sliceBounds (P := P) (w := w) (S := S) (g := g) (h := h) true (cap := cap) hl hh elo nlo ehi nhi h1 h2
    simp only [execOp, ho, Option.map_none]
    simp [Instr.sliceAt, Instr.slice, run_underlying' hu, e, hb, run_sizeOf hne]
  split at hv
  · rename_i s
    split at hv
    · rename_i hu
      simp only [Option.bind_eq_some_iff] at hv
      obtain ⟨y, hy, x', hx', hv⟩ := hv
      split at hv
      · rename_i hc
        cases hv
        obtain ⟨b, e, hb⟩ := hx.inv_str
        have hsz : s.length = b.size := by rw [← hb, Array.length_toList]; rfl
        have hb' := run_sliceBounds (P := P) (w := w) (S := S) (g := g) (h := h) false (len := b.size) (cap := b.size) hx' (hsz ▸ hy) elo nlo ehi nhi hc.1 (hsz ▸ hc.2)
        refine does_pure H (cv := .string (b.extract x' y)) ?_ (.rd _ _ (.str _ _ ?_))
        · simp only [execOp, ho, Option.map_none]
          simp [Instr.sliceAt, Instr.slice, run_underlying' hu, e, hb']
        · rw [← hb]
          simp [ByteArray.data_extract, Array.toList_extract, List.extract_eq_take_drop, List.drop_take]
      · cases hv
    · cases hv
  · rename_i sz l
    split at hv
    · rename_i sz' hsz
      obtain ⟨el, hu, rfl⟩ := elemSize_eq hsz
      simp only [Option.bind_eq_some_iff] at hv
      obtain ⟨y, hy, x', hx', hv⟩ := hv
      split at hv
      · rename_i hc
        cases hv
        obtain ⟨hs, h0, h1, h2⟩ := hc
        have hr := hx.inv_lst
        generalize hce : a.eval x = cx at hr
        cases hr with
        | lnil _ a' c =>
          simp at h2
          subst h2
          have : x' = 0 := by omega
          subst this
          refine does_pure H (fin hu hce hx' hy (Nat.le_refl _) (Nat.zero_le _) (by omega)) (.rd _ _ ?_)
          simp only [List.take_nil, List.drop_nil]
          split <;> exact .lnil _ _ _
        | lst _ _ ad cap f hsp hS hlen hsz hcc hr =>
          · refine does_pure H (fin hu hce hx' hy h1 (by omega) (by omega)) (.rd _ _ ?_)
            by_cases he : cap = x'
            · have e0 : (List.take y l).drop x' = [] := by
                apply List.drop_eq_nil_of_le; simp; omega
              rw [e0, if_pos he]
              have : y - x' = 0 := by omega
              rw [this]
              exact .lnil _ _ _
            · rw [if_neg he]
              simp only [Option.map_some, add_none hsp]
              have el : ((l.take y).drop x').length = y - x' := by simp; omega
              rw [← el]
              refine .lst _ _ ⟨ad.block, ad.off + x' * P.cellsOf _, none⟩ _ (fun i j => f (x' + i) j) rfl hS (by rw [el]; omega) (fun z hz => hsz z (List.mem_of_mem_take (List.mem_of_mem_drop hz))) ?_ ?_
              · intro i j hi hj
                rw [el] at hi
                have := hcc (x' + i) j (by omega) hj
                rw [← this]
                simp [hs, Nat.add_mul, Nat.add_assoc]
              · intro i z j y' hz hy'
                rw [List.getElem?_drop, List.getElem?_take] at hz
                split at hz
                · exact hr _ z j y' hz hy'
                · cases hz
      · cases hv
    · cases hv
  · rename_i id
    split at hv
    · rename_i sz els sz' hb hsz
      obtain ⟨el, hu, rfl⟩ := elemSize_eq hsz
      simp only [Option.bind_eq_some_iff] at hv
      obtain ⟨y, hy, x', hx', hv⟩ := hv
      split at hv
      · rename_i hc
        cases hv
        obtain ⟨hs, h0, h1, h2⟩ := hc
        obtain ⟨_, e⟩ := hx.inv_own hb (H.notDead hb)
        have hB := (H.blk id _ hb).1
        have hle := hB.len_le.1
        have hrun := fin hu e hx' hy h1 (by omega) (by omega)
        by_cases hz : g.cap id = x'
        · have e0 : y - x' = 0 := by omega
          rw [if_pos hz, e0, hz, Nat.sub_self] at hrun
          refine does_pure H hrun ?_
          rw [e0]
          exact .win0 id x' _ _ els hb rfl _ hz (fun _ => rfl)
        · rw [if_neg hz] at hrun
          cases hbase : g.base id with
          | none => rw [hbase] at hB; have := hB.none_nil; omega
          | some ad =>
            rw [hbase] at hrun
            simp only [Option.map_some, add_none ((H.blk id _ hb).2 ad hbase)] at hrun
            refine does_pure H hrun ?_
            rw [← hs]
            exact .win id x' _ sz _ _ els ad hb rfl hbase (by omega) (by omega)
      · cases hv
    · cases hv
  · rename_i id lo' len
    split at hv
    · rename_i sz els sz' hb hsz
      obtain ⟨el, hu, rfl⟩ := elemSize_eq hsz
      simp only [Option.bind_eq_some_iff] at hv
      obtain ⟨y, hy, x', hx', hv⟩ := hv
      split at hv
      · rename_i hc
        cases hv
        obtain ⟨hs, h0, h1, h2, h3⟩ := hc
        obtain ⟨_, e⟩ := hx.inv_win hb (H.notDead hb)
        have hcle := (H.blk id _ hb).1.len_le.1
        rcases e with ⟨hl0, hcz, a', e⟩ | ⟨ad, cp, hbase, hcp, hlc, e⟩
        · omega
        · have hrun := fin hu e hx' hy h1 (by omega) (by omega)
          by_cases hz : cp = x'
          · have e0 : y - x' = 0 := by omega
            rw [if_pos hz, e0, hz, Nat.sub_self] at hrun
            refine does_pure H hrun ?_
            rw [e0]
            exact .win0 id _ _ _ els hb rfl _ (by omega) (fun h0 => by omega)
          · rw [if_neg hz] at hrun
            simp only [Option.map_some, add_none] at hrun
            refine does_pure H hrun ?_
            have := VR.win (w := w) (S := S) (g := g) (h := h) id (lo' + x') (y - x') sz (cp - x') _ els ad hb rfl hbase (by omega) (by omega)
            rw [Nat.add_mul, ← Nat.add_assoc] at this
            rw [← hs]
            exact this
      · cases hv
    · cases hv
  · cases hv

theorem op_slice3 (H : HOk w0 O w S g h U) {t : TypeId} {x lo hi mx : Operand} {vx vlo vhi vmx v : V} {us : List (Nat × Option Blk)} (ho : o.op = .slice t x (some lo) (some hi) (some mx)) (hx : VR w S g h vx (a.eval x))
    (hlo : VR w S g h vlo (a.eval lo)) (hhi : VR w S g h vhi (a.eval hi)) (hmx : VR w S g h vmx (a.eval mx)) (hv : slice3V P h t vx vlo vhi vmx = some (v, us)) : us = [] ∧ Does P w0 O w S g h U a n o v [] := by
  unfold slice3V at hv
  split at hv
  · rename_i id
    split at hv
    · rename_i sz els sz' hb hsz
      obtain ⟨el, hu, rfl⟩ := elemSize_eq hsz
      simp only [Option.bind_eq_some_iff] at hv
      obtain ⟨m, hm, y, hy, x', hx', hv⟩ := hv
      split at hv
      · rename_i hc
        simp only [Option.some.injEq, Prod.mk.injEq] at hv
        obtain ⟨rfl, rfl⟩ := hv
        obtain ⟨h0, h1, h2, h3⟩ := hc
        obtain ⟨_, e⟩ := hx.inv_own hb (H.notDead hb)
        have hle := (H.blk id _ hb).1.len_le.1
        obtain ⟨k1, e1⟩ := natOf_ok hx' hlo
        obtain ⟨k2, e2⟩ := natOf_ok hy hhi
        obtain ⟨k3, e3⟩ := natOf_ok hm hmx
        refine ⟨rfl, ?_⟩
        have sb : ∀ (k : IntKind) (m q : Nat) (cd : BoundsCode), m ≤ q → (Instr.sliceBound (.int k m) q cd).run P w = .ok m w := by
          intro k m q cd hm
          simp [Instr.sliceBound, asIntOf, hm]
        have hbd : (Instr.sliceBounds true els.length (g.cap id) (some (a.eval lo)) (some (a.eval hi)) (some (a.eval mx))).run P w = .ok (x', y, m) w := by
          rw [e1, e2, e3]
          simp [Instr.sliceBounds, sb, h1, h2, show m ≤ g.cap id by omega]
        refine does_pure H (cv := .slice (if m = x' then g.base id else (g.base id).map (·.add (x' * P.cellsOf el))) (y - x') (m - x')) ?_ (.undef _)
        simp only [execOp, ho, Option.map_some]
        simp [Instr.sliceAt, Instr.slice, run_underlying' hu, e, hbd, run_sizeOf h0]
      · cases hv
    · cases hv
  · cases hv
end
end Go.VM

/- Operations that read memory: lengths, loads. -/
set_option linter.unusedVariables false
set_option linter.unusedSimpArgs false
namespace Go.VM
open Go

section
variable {P : Program} {w0 w : World} {O S : Nat → Prop} {g : G} {h : Heap} {U : Nat → Prop} {a : Act} {e : Env} {n : Nat} {o : Oper}

theorem elsOf_len {v : V} {c : Value} {sz : Nat} {l : List V} (H : HOk w0 O w S g h U) (hv : elsOf h v = some (sz, l)) (x : VR w S g h v c) : ∃ ba cp, c = .slice ba l.length cp ∧ (l.length ≤ cp ∨ l = []) := by
  cases v with
  | lst sz' l' =>
    simp only [elsOf, Option.some.injEq, Prod.mk.injEq] at hv
    obtain ⟨rfl, rfl⟩ := hv
    have := x.inv_lst
    cases this with
    | lnil _ ba cp => exact ⟨ba, cp, rfl, .inr rfl⟩
    | lst _ _ ad cap f hsp hS hlen hsz hc hr => exact ⟨some ad, cap, rfl, .inl hlen⟩
  | nils sz' =>
    simp only [elsOf, Option.some.injEq, Prod.mk.injEq] at hv
    obtain ⟨rfl, rfl⟩ := hv
    exact ⟨none, 0, x.inv_nils, .inr rfl⟩
  | own id =>
    simp only [elsOf] at hv
    split at hv
    · rename_i sz' els hb
      cases hv
      obtain ⟨_, e⟩ := x.inv_own hb (H.notDead hb)
      exact ⟨_, _, e, .inl (H.blk id _ hb).1.len_le.1⟩
    · cases hv
  | win id lo len =>
    simp only [elsOf] at hv
    split at hv
    · rename_i sz' els hb
      split at hv
      · rename_i hle
        cases hv
        have hl : ((els.drop lo).take len).length = len := by simp; omega
        rw [hl]
        obtain ⟨_, e⟩ := x.inv_win hb (H.notDead hb)
        rcases e with ⟨h0, _, a', e⟩ | ⟨ad, cp, hbase, hcp, hlc, e⟩
        · subst h0; exact ⟨a', 0, e, .inl (Nat.le_refl _)⟩
        · exact ⟨_, cp, e, .inl hlc⟩
      · cases hv
    · cases hv
  | _ => simp [elsOf] at hv

theorem len_ok (H : HOk w0 O w S g h U) {t : TypeId} {v r : V} {c : Value} (hv : lenV P h t v = some r) (x : VR w S g h v c) (ty : TypeId) {tys : Array TypeId} (ht : tys[0]? = some t) :
    ∃ cv, (Builtin.len_ tys ty #[c]).run P w = .ok cv w ∧ RD w S r cv := by
  unfold lenV at hv
  split at hv
  · rename_i s hu
    cases hv
    obtain ⟨b, rfl, hb⟩ := x.inv_str
    refine ⟨.int .i64 b.size, ?_, ?_⟩
    · simp [Builtin.len_, ht, run_underlying' hu, goInt]
    · have : s.length = b.size := by rw [← hb, Array.length_toList]; rfl
      rw [this]; exact .int _ _
  · rename_i e' hu
    simp only [Option.map_eq_some_iff] at hv
    obtain ⟨⟨sz, l⟩, hl, rfl⟩ := hv
    obtain ⟨ba, cp, rfl, _⟩ := elsOf_len H hl x
    refine ⟨.int .i64 l.length, ?_, .int _ _⟩
    simp [Builtin.len_, ht, run_underlying' hu, goInt]
  · cases hv

theorem min_ok {x y r : V} {cx cy : Value} (hx : VR w S g h x cx) (hy : VR w S g h y cy) (hv : minV x y = some r) (tys : Array TypeId) (ty : TypeId) :
    ∃ cv, (Builtin.min_ tys ty #[cx, cy]).run P w = .ok cv w ∧ RD w S r cv := by
  unfold minV at hv
  split at hv
  · cases hv
    obtain rfl := hx.inv_int
    obtain rfl := hy.inv_int
    exact ⟨_, by simp [Builtin.min_, Builtin.min2], .int _ _⟩
  · cases hv
theorem max_ok {x y r : V} {cx cy : Value} (hx : VR w S g h x cx) (hy : VR w S g h y cy) (hv : maxV x y = some r) (tys : Array TypeId) (ty : TypeId) :
    ∃ cv, (Builtin.max_ tys ty #[cx, cy]).run P w = .ok cv w ∧ RD w S r cv := by
  unfold maxV at hv
  split at hv
  · cases hv
    obtain rfl := hx.inv_int
    obtain rfl := hy.inv_int
    exact ⟨_, by simp [Builtin.max_, Builtin.max2], .int _ _⟩
  · cases hv

/-! ### rows -/
/-- An array's cells, out of its own words. -/
theorem OW.row {sz m cap : Nat} {l : List V} {ad : Addr} {N : Nat → Prop} (x : OW w (.lst sz l) (.slice (some ad) m cap) N) :
    m = l.length ∧ ad.spot = none ∧ l.length ≤ cap ∧ cap ≤ maxLen ∧ (∀ x ∈ l, x.cells.length = sz) ∧ (∀ x ∈ l, ∀ y ∈ x.cells, okCell y = true) ∧ ∃ (cur : Array Value) (e : TypeId) (fr : Nat × Nat) (Ng : Nat → Nat → Nat → Prop), w.heap[ad.block]? = some (.cells cur e fr) ∧ NoFr sz cur.size fr ∧ ad.off + cap * sz ≤ cur.size ∧
      (∀ (i : Nat) x (j : Nat) y, l[i]? = some x → x.cells[j]? = some y → ∃ c, cur[ad.off + (i * sz + j)]? = some c ∧ OW w y c (Ng i j)) ∧
      (∀ i j, i < l.length → j < sz → ¬ Ng i j ad.block) ∧ (∀ i j i' j' k, i < l.length → j < sz → i' < l.length → j' < sz → Ng i j k → Ng i' j' k → i = i' ∧ j = j') ∧
      ∀ k, N k ↔ (k = ad.block ∨ ∃ i j, i < l.length ∧ j < sz ∧ Ng i j k) := by
  generalize hv : V.lst sz l = v at x
  generalize hc : Value.slice (some ad) m cap = cv at x
  cases x <;> try (simp_all; done)
  rename_i sz' l' ad' cap' cur e fr f Ng hsp hb hfr hlen hcap hmax hsz hok hcc hr hself hdis
  cases hv
  cases hc
  refine ⟨rfl, hsp, hlen, hmax, hsz, hok, cur, e, fr, Ng, hb, hfr, hcap, ?_, hself, hdis, fun k => Iff.rfl⟩
  intro i x j y hx hy
  have hi := (List.getElem?_eq_some_iff.1 hx).1
  have hj := (List.getElem?_eq_some_iff.1 hy).1
  rw [hsz x (List.mem_of_getElem? hx)] at hj
  exact ⟨f i j, hcc i j hi hj, hr i x j y hx hy⟩

/-- An array's own words, out of its cells. -/
theorem OW.mk_row {sz cap : Nat} {l : List V} {ad : Addr} {cur : Array Value} {e : TypeId} {fr : Nat × Nat} {Ng : Nat → Nat → Nat → Prop} (hsp : ad.spot = none) (hlen : l.length ≤ cap) (hmax : cap ≤ maxLen)
    (hsz : ∀ x ∈ l, x.cells.length = sz) (hok : ∀ x ∈ l, ∀ y ∈ x.cells, okCell y = true) (hb : w.heap[ad.block]? = some (.cells cur e fr)) (hfr : NoFr sz cur.size fr) (hcap : ad.off + cap * sz ≤ cur.size)
    (hr : ∀ (i : Nat) x (j : Nat) y, l[i]? = some x → x.cells[j]? = some y → ∃ c, cur[ad.off + (i * sz + j)]? = some c ∧ OW w y c (Ng i j))
    (hself : ∀ i j, i < l.length → j < sz → ¬ Ng i j ad.block) (hdis : ∀ i j i' j' k, i < l.length → j < sz → i' < l.length → j' < sz → Ng i j k → Ng i' j' k → i = i' ∧ j = j') :
    OW w (.lst sz l) (.slice (some ad) l.length cap) (fun k => k = ad.block ∨ ∃ i j, i < l.length ∧ j < sz ∧ Ng i j k) := by
  refine .lst sz l ad cap cur e fr (fun i j => (cur[ad.off + (i * sz + j)]?).getD Go.undef) Ng hsp hb hfr hlen hcap hmax hsz hok ?_ ?_ hself hdis
  · intro i j hi hj
    have hj' : j < l[i].cells.length := by rw [hsz _ (List.getElem_mem hi)]; exact hj
    obtain ⟨c, hc, _⟩ := hr i l[i] j _ (List.getElem?_eq_getElem hi) (List.getElem?_eq_getElem hj')
    rw [hc]; rfl
  · intro i x j y hx hy
    obtain ⟨c, hc, ho⟩ := hr i x j y hx hy
    rw [hc]; exact ho

theorem BlkOk.base_arr {id sz : Nat} {els : List V} (hB : BlkOk w S g h id ⟨.arr, sz, els⟩) {i : Nat} {v : V} (hi : els[i]? = some v) : ∃ ad, g.base id = some ad := by
  cases hb : g.base id with
  | some ad => exact ⟨ad, rfl⟩
  | none =>
    have := hB.1
    rw [hb] at this
    rw [this.none_nil.1] at hi
    simp at hi

theorem hlA_cell {x : V} {j : Nat} {y : V} (hj : x.cells[j]? = some y) : (hlA x).cells[j]? = some (hlC y) := by
  cases x with
  | agg l => simp only [V.cells, hlA, List.getElem?_map] at *; rw [hj]; rfl
  | _ =>
    cases j with
    | zero => simp [V.cells] at hj; subst hj; rfl
    | succ j => simp [V.cells] at hj
/-- A cell of a local block. -/
theorem cellAt (H : HOk w0 O w S g h U) {id : Nat} {b : Blk} (hb : h id = some b) {i : Nat} {v : V} (hi : b.els[i]? = some v) {ad : Addr} (hbase : g.base id = some ad) {j : Nat} {y : V} (hj : v.cells[j]? = some y) (hkm : b.kind ≠ .map := by simp) :
    ad.spot = none ∧ ∃ c, w.cell? ⟨ad.block, ad.off + (i * b.sz + j), none⟩ = some c ∧ (b.kind = .box ∨ y.flatC = true ∨ b.kind = .opn i → VR w S g h y c) := by
  have hB := H.blk id b hb
  obtain ⟨kind, sz, els⟩ := b
  cases kind with
  | map => exact absurd rfl hkm
  | box =>
    obtain ⟨ad', cur, e, fr, v', h1, h2, h3, h4, h5, h6, h7, h8, h9, h10, h11⟩ := hB
    rw [h1] at hbase; cases hbase
    simp only at hi
    rw [h6] at hi
    have hi0 : i = 0 := by
      cases i with
      | zero => rfl
      | succ i => simp at hi
    subst hi0
    simp only [List.getElem?_cons_zero, Option.some.injEq] at hi
    subst hi
    have hjl : j < cur.size := by rw [h8]; exact (List.getElem?_eq_some_iff.1 hj).1
    have hc : cur[j]? = some cur[j] := Array.getElem?_eq_getElem hjl
    refine ⟨h2, cur[j], ?_, fun _ => h10 j y _ hj hc⟩
    rw [cell_of_row h4, h3]
    simp [hc]
  | arr =>
    have hO := hB.1
    rw [hbase] at hO
    obtain ⟨_, hsp, _, _, hsz, _, cur, e, fr, Ng, h1, h2, h3, h4, h5, h6, h7⟩ := hO.row
    obtain ⟨c, hc, ho⟩ := h4 i v j y hi hj
    refine ⟨hsp, c, by rw [cell_of_row h1]; exact hc, ?_⟩
    rintro (hk | hf | hk)
    · cases hk
    · exact .rd _ _ (ho.flatC_rd hf w S)
    · cases hk
  | opn i0 =>
    obtain ⟨hO, hspt, x, hx, hbx, href⟩ := hB
    rw [hbase] at hO
    have hlen : (els.modify i0 hlA).length = els.length := List.length_modify ..
    rw [← hlen] at hO
    obtain ⟨_, hsp, _, _, hsz, _, cur, e, fr, Ng, h1, h2, h3, h4, h5, h6, h7⟩ := hO.row
    by_cases hi0 : i = i0
    · subst hi0
      simp only at hi
      rw [hx] at hi
      cases hi
      have hm : (els.modify i hlA)[i]? = some (hlA v) := by simp [List.getElem?_modify, hx]
      obtain ⟨c, hc, ho⟩ := h4 i _ j _ hm (hlA_cell hj)
      have hcell : w.cell? ⟨ad.block, ad.off + (i * sz + j), none⟩ = some c := by rw [cell_of_row h1]; exact hc
      exact ⟨hsp, c, hcell, fun _ => href ad j y c hbase hj hcell⟩
    · have hm : (els.modify i0 hlA)[i]? = some v := by
        have hi0' : ¬ i0 = i := fun e => hi0 e.symm
        simp only at hi
        simp [List.getElem?_modify, hi0', hi]
      obtain ⟨c, hc, ho⟩ := h4 i v j y hm hj
      refine ⟨hsp, c, by rw [cell_of_row h1]; exact hc, ?_⟩
      rintro (hk | hf | hk)
      · cases hk
      · exact .rd _ _ (ho.flatC_rd hf w S)
      · simp only [BK.opn.injEq] at hk; exact absurd hk.symm hi0

theorem flat_cells {v : V} (hf : v.flat = true) {j : Nat} {y : V} (hy : v.cells[j]? = some y) : y.flatC = true := by
  cases v with
  | agg l => exact (List.all_eq_true.1 hf) y (List.mem_of_getElem? hy)
  | _ =>
    simp only [V.cells] at hy
    cases j with
    | zero => simp at hy; subst hy; exact hf
    | succ j => simp at hy

theorem isScalarT_run {t : TypeId} (hs : isScalarT P t = true) : (isAgg t).run P w = .ok false w := by
  unfold isScalarT at hs
  cases hu : P.underlying t with
  | none => simp [hu] at hs
  | some d =>
    rw [isStruct_isAgg ⟨d, hu⟩]
    unfold isStruct
    rw [hu] at hs ⊢
    cases d <;> simp_all
theorem isStruct_run {t : TypeId} (hs : isStruct P t = true) : (isAgg t).run P w = .ok true w := by
  cases hu : P.underlying t with
  | none => simp [isStruct, hu] at hs
  | some d => rw [isStruct_isAgg ⟨d, hu⟩, hs]

/-- A load of a value whose cells are known. -/
theorem run_load_cells {t : TypeId} {v : V} {b off : Nat} {f : Nat → Value} (hl : loads P t v = true) (hc : ∀ j, j < v.cells.length → w.cell? ⟨b, off + j, none⟩ = some (f j)) :
    ∃ cv, (Instr.loadAt t (.pointer (some ⟨b, off, none⟩))).run P w = .ok cv w ∧
      ((∃ l, v = .agg l ∧ cv = .agg ((List.range l.length).map f).toArray) ∨ ((∀ l, v ≠ .agg l) ∧ cv = f 0)) := by
  by_cases hagg : ∃ l, v = .agg l
  · obtain ⟨l, rfl⟩ := hagg
    simp only [loads, Bool.and_eq_true, beq_iff_eq, bne_iff_ne] at hl
    have hcells := run_loadCells (P := P) w ⟨b, off, none⟩ l.length f (fun j hj => by rw [add_mk]; exact hc j hj)
    refine ⟨_, ?_, .inl ⟨l, rfl, rfl⟩⟩
    simp [Instr.loadAt, Instr.sureAddr, loadVar, isStruct_run hl.1.1, run_sizeOf (P := P) (w := w) (t := t) (by rw [← hl.1.2]; exact hl.2), ← hl.1.2, hcells]
  · have hne : ∀ l, v ≠ .agg l := fun l e => hagg ⟨l, e⟩
    have hs : isScalarT P t = true := by
      cases v <;> first | exact hl | (simp [loads] at hl; done) | (rename_i l; exact absurd rfl (hne l))
    have hcl : 0 < v.cells.length := by
      cases v <;> first | (simp [V.cells]; done) | (rename_i l; exact absurd rfl (hne l))
    have h0 := hc 0 hcl
    refine ⟨f 0, ?_, .inr ⟨hne, rfl⟩⟩
    simp only [Nat.add_zero] at h0
    simp [Instr.loadAt, Instr.sureAddr, loadVar, isScalarT_run hs, h0]

theorem loadAt_ok (H : HOk w0 O w S g h U) {t : TypeId} {p v : V} {pc : Value} (hx : VR w S g h p pc) (hv : loadV P h t p = some v) : ∃ cv, (Instr.loadAt t pc).run P w = .ok cv w ∧ VR w S g h v cv := by
  unfold loadV at hv
  split at hv
  · rename_i id i f
    split at hv
    · rename_i b hb
      split at hv
      · rename_i v' hv'
        obtain ⟨ad, hbase, hi, e⟩ := hx.inv_ptrI hb (H.notDead hb) (List.getElem?_eq_some_iff.1 hv').1
        split at hv
        · rename_i hl
          cases hv
          simp only [Bool.and_eq_true] at hl
          have hcell : ∀ j, j < v.cells.length → ∃ c, w.cell? ⟨ad.block, ad.off + (i * b.sz + j), none⟩ = some c ∧ (b.kind = .box ∨ v.cells[j]?.any V.flatC = true ∨ b.kind = .opn i → ∀ y, v.cells[j]? = some y → VR w S g h y c) := by
            intro j hj
            obtain ⟨_, c, h1, h2⟩ := cellAt H hb hv' hbase (List.getElem?_eq_getElem hj) (fun e => by rw [e] at hl; exact absurd hl.2 (by simp [okIn]))
            refine ⟨c, h1, fun hk y hy => ?_⟩
            rw [List.getElem?_eq_getElem hj] at hy hk
            cases hy
            exact h2 (by simpa using hk)
          have hsel : ∃ f : Nat → Value, ∀ j, j < v.cells.length → w.cell? ⟨ad.block, ad.off + (i * b.sz + j), none⟩ = some (f j) ∧ (b.kind = .box ∨ v.cells[j]?.any V.flatC = true ∨ b.kind = .opn i → ∀ y, v.cells[j]? = some y → VR w S g h y (f j)) := by
            refine ⟨fun j => if hj : j < v.cells.length then (hcell j hj).choose else Go.undef, fun j hj => ?_⟩
            simp only [hj, dif_pos]
            exact (hcell j hj).choose_spec
          obtain ⟨f, hf⟩ := hsel
          obtain ⟨cv, hrun, hcv⟩ := run_load_cells (P := P) (w := w) (b := ad.block) (off := ad.off + i * b.sz) hl.1 (fun j hj => by rw [Nat.add_assoc]; exact (hf j hj).1)
          have hok : ∀ j, j < v.cells.length → b.kind = .box ∨ v.cells[j]?.any V.flatC = true ∨ b.kind = .opn i := by
            intro j hj
            have h2 := hl.2
            cases hk : b.kind with
            | box => exact .inl rfl
            | arr =>
              rw [hk] at h2
              refine .inr (.inl ?_)
              rw [List.getElem?_eq_getElem hj]
              exact flat_cells h2 (List.getElem?_eq_getElem hj)
            | opn i0 =>
              rw [hk] at h2
              simp only [okIn, Bool.or_eq_true, beq_iff_eq] at h2
              rcases h2 with h2 | rfl
              · refine .inr (.inl ?_)
                rw [List.getElem?_eq_getElem hj]
                exact flat_cells h2 (List.getElem?_eq_getElem hj)
              · exact .inr (.inr rfl)
            | map => rw [hk] at h2; cases h2
          refine ⟨cv, ?_, ?_⟩
          · simp [e, hrun]
          · rcases hcv with ⟨l, rfl, rfl⟩ | ⟨hne, rfl⟩
            · refine .agg _ _ (by simp) fun j y c hy hc => ?_
              have hj := (List.getElem?_eq_some_iff.1 hy).1
              simp [hj] at hc
              subst hc
              exact (hf j hj).2 (hok j hj) y hy
            · have hc1 : v.cells = [v] := by cases v <;> first | rfl | (rename_i l; exact absurd rfl (hne l))
              have h0 : 0 < v.cells.length := by rw [hc1]; simp
              exact (hf 0 h0).2 (hok 0 h0) v (by rw [hc1]; rfl)
        · cases hv
      · rename_i l j hv'
        obtain ⟨ad, hbase, hi, e⟩ := hx.inv_ptrI hb (H.notDead hb) (List.getElem?_eq_some_iff.1 hv').1
        split at hv
        · rename_i v' hvj
          split at hv
          · rename_i hl
            cases hv
            simp only [Bool.and_eq_true] at hl
            obtain ⟨_, c, h1, h2⟩ := cellAt H hb hv' hbase (j := j) (by simpa [V.cells] using hvj) (fun e => by rw [e] at hl; exact absurd hl.2 (by simp [okIn]))
            have hc1 := okCell_cells hl.1.1
            obtain ⟨cv, hrun, hcv⟩ := run_load_cells (P := P) (w := w) (b := ad.block) (off := ad.off + (i * b.sz + j)) (f := fun _ => c) hl.1.2 (fun q hq => by
              rw [hc1] at hq
              have : q = 0 := by simpa using hq
              subst this
              exact h1)
            have hcv' : cv = c := by
              rcases hcv with ⟨l', rfl, _⟩ | ⟨_, rfl⟩
              · simp [okCell] at hl
              · rfl
            subst hcv'
            refine ⟨cv, ?_, h2 ?_⟩
            · simp only [Option.getD_some] at e
              simp [e, hrun]
            · cases hk : b.kind with
              | box => exact .inl rfl
              | arr =>
                have h3 := hl.2
                rw [hk] at h3
                exact .inr (.inl (flat_cells h3 (j := 0) (by rw [hc1]; rfl)))
              | opn i0 =>
                have h3 := hl.2
                rw [hk] at h3
                simp only [okIn, Bool.or_eq_true, beq_iff_eq] at h3
                rcases h3 with h3 | rfl
                · exact .inr (.inl (flat_cells h3 (j := 0) (by rw [hc1]; rfl)))
                · exact .inr (.inr rfl)
              | map =>
                have h3 := hl.2
                rw [hk] at h3; cases h3
          · cases hv
        · cases hv
      · cases hv
    · cases hv
  · split at hv
    · rename_i v' hl
      cases hv
      have hr := hx.inv_rptr
      generalize hce : pc = cx at hr
      cases hr with
      | rptr _ ad f hsp hS hc hr =>
        obtain ⟨b, off, sp⟩ := ad
        simp only at hsp
        subst hsp
        obtain ⟨cv, hrun, hcv⟩ := run_load_cells (P := P) (w := w) (b := b) (off := off) hl hc
        refine ⟨cv, by simp [hrun], .rd _ _ ?_⟩
        rcases hcv with ⟨l, rfl, rfl⟩ | ⟨hne, rfl⟩
        · refine .agg _ _ (by simp) fun j y c hy hcc => ?_
          have hj := (List.getElem?_eq_some_iff.1 hy).1
          simp [hj] at hcc
          subst hcc
          exact hr j y (by simpa [V.cells] using hy)
        · have hc1 : v.cells = [v] := by cases v <;> first | rfl | (rename_i l; exact absurd rfl (hne l))
          exact hr 0 v (by rw [hc1]; rfl)
    · cases hv
  · cases hv
theorem op_load (H : HOk w0 O w S g h U) {t : TypeId} {x : Operand} {p v : V} (ho : o.op = .load t x) (hx : VR w S g h p (a.eval x)) (hv : loadV P h t p = some v) : Does P w0 O w S g h U a n o v [] := by
  obtain ⟨cv, hrun, hr⟩ := loadAt_ok (P := P) H hx hv
  exact does_pure H (cv := cv) (by simp [execOp, ho, hrun]) hr

end
end Go.VM

