import Derived.Test.YtghmjnggmacohaaGreatDoorVmConv
import Derived.Lib.LaidTab
import Derived.Lib.ItoaNum
/- Calls: what a function is known to do, used at a call. -/
set_option linter.unusedVariables false
set_option linter.unusedSimpArgs false
namespace Go.VM
open Go

/-- A call of this function goes into its body. -/
def Enters (P : Program) (f : FuncId) : Prop := ∀ args w, (callFunc f args).run P w = .ok (.enter f args) w

/-- A pointer to a block that holds cells that can be read. -/
def BoxR (w : World) (S : Nat → Prop) (d : V) (c : Value) (N : Nat → Prop) : Prop :=
  ∃ v ad cur e fr, d = .rptr v ∧ c = .pointer (some ad) ∧ ad.spot = none ∧ ad.off = 0 ∧ w.heap[ad.block]? = some (.cells cur e fr) ∧ NoFr 1 cur.size fr ∧ cur.size = v.cells.length ∧ boxableA v = true ∧
    (∀ (j : Nat) y c, v.cells[j]? = some y → cur[j]? = some c → RD w S y c) ∧ ∀ k, N k ↔ k = ad.block
inductive ArgsOk (w : World) (S : Nat → Prop) : List Mode → List V → List Value → List (Nat → Prop) → Prop
  | nil : ArgsOk w S [] [] [] []
  | rd {d : V} {c : Value} {ms : List Mode} {ds : List V} {cs : List Value} {Ns : List (Nat → Prop)} (h : RD w S d c) (t : ArgsOk w S ms ds cs Ns) : ArgsOk w S (.rd :: ms) (d :: ds) (c :: cs) ((fun _ => False) :: Ns)
  | wr {m : Mode} {d : V} {c : Value} {N : Nat → Prop} {ms : List Mode} {ds : List V} {cs : List Value} {Ns : List (Nat → Prop)} (hm : m = .io ∨ m = .use) (h : OW w d c N) (t : ArgsOk w S ms ds cs Ns) : ArgsOk w S (m :: ms) (d :: ds) (c :: cs) (N :: Ns)
  | pt {d : V} {c : Value} {N : Nat → Prop} {ms : List Mode} {ds : List V} {cs : List Value} {Ns : List (Nat → Prop)} (h : BoxR w S d c N) (t : ArgsOk w S ms ds cs Ns) : ArgsOk w S (.ptr :: ms) (d :: ds) (c :: cs) (N :: Ns)

inductive OutsOk (w : World) (S : Nat → Prop) : List Mode → List V → List Value → List (Nat → Prop) → Prop
  | nil : OutsOk w S [] [] [] []
  | io {d : V} {c : Value} {N : Nat → Prop} {ms : List Mode} {ds : List V} {cs : List Value} {Ns : List (Nat → Prop)} (h : OW w d c N) (t : OutsOk w S ms ds cs Ns) : OutsOk w S (.io :: ms) (d :: ds) (c :: cs) (N :: Ns)
  | no {m : Mode} {c : Value} {ms : List Mode} {ds : List V} {cs : List Value} {Ns : List (Nat → Prop)} (hm : m = .rd ∨ m = .use) (t : OutsOk w S ms ds cs Ns) : OutsOk w S (m :: ms) ds (c :: cs) ((fun _ => False) :: Ns)
  | pt {d : V} {c : Value} {N : Nat → Prop} {ms : List Mode} {ds : List V} {cs : List Value} {Ns : List (Nat → Prop)} (h : BoxR w S d c N) (t : OutsOk w S ms ds cs Ns) : OutsOk w S (.ptr :: ms) (d :: ds) (c :: cs) (N :: Ns)
/-- A result: data of its own, or a pointer to a block of its own. -/
def ResOk (w : World) (S : Nat → Prop) (r : V) (c : Value) (N : Nat → Prop) : Prop := OW w r c N ∨ BoxR w S r c N

/-- No two of them share a place. -/
def DisjS (Ns : List (Nat → Prop)) : Prop := ∀ (i j : Nat) N M k, Ns[i]? = some N → Ns[j]? = some M → N k → M k → i = j
def AnyS (Ns : List (Nat → Prop)) (k : Nat) : Prop := ∃ N ∈ Ns, N k

/-- What a call of this function comes to: at once, where the model stands in for a body; else by its body. -/
def Gives (P : Program) (f : FuncId) (args : Array Value) (w : World) (Q : Ending → World → Prop) : Prop :=
  (∃ cv w', (callFunc f args).run P w = .ok (.value cv) w' ∧ Q (.returned cv) w') ∨ ((callFunc f args).run P w = .ok (.enter f args) w ∧ Calls P f args w Q)
theorem Gives.mono {P : Program} {f : FuncId} {args : Array Value} {w : World} {Q R : Ending → World → Prop} (h : Gives P f args w Q) (hq : ∀ e w', Q e w' → R e w') : Gives P f args w R := by
  rcases h with ⟨cv, w', h1, h2⟩ | ⟨h1, h2⟩
  · exact .inl ⟨cv, w', h1, hq _ _ h2⟩
  · exact .inr ⟨h1, h2.mono hq⟩
theorem Gives.calls {P : Program} {f : FuncId} {args : Array Value} {w : World} {Q : Ending → World → Prop} (h : Gives P f args w Q) (he : Enters P f) : Calls P f args w Q := by
  rcases h with ⟨cv, w', h1, _⟩ | ⟨_, h2⟩
  · rw [he args w] at h1; cases h1
  · exact h2

/-- What stands in the variables of packages that the library's functions read: those on the list D. -/
structure GBase (P : Program) (D : List String) (w : World) : Prop where
  tab : "internal/strconv.uint64pow10" ∈ D → Lib.TabIs P w "internal/strconv.uint64pow10" .u64 Lib.pow10Tab
  maxLen : "internal/bytealg.MaxLen" ∈ D → ∃ g m, P.globalNamed "internal/bytealg.MaxLen" = some g ∧ w.cell? ⟨g, 0, none⟩ = some (.int .i64 m)
  errS : "strconv.ErrSyntax" ∈ D → ∃ tp p, w.var? P "strconv.ErrSyntax" = some #[.iface tp p]
  errR : "strconv.ErrRange" ∈ D → ∃ tp p, w.var? P "strconv.ErrRange" = some #[.iface tp p]
def libVars : List String := ["internal/strconv.uint64pow10", "internal/bytealg.MaxLen", "strconv.ErrSyntax", "strconv.ErrRange"]
/-- The block is that of one of these variables. -/
def libVar (P : Program) (D : List String) (k : Nat) : Prop := ∃ n, n ∈ libVars ∧ n ∈ D ∧ P.globalNamed n = some k
theorem var_lt {P : Program} {w : World} {n : String} {cs : Array Value} {g : Nat} (h : w.var? P n = some cs) (hg : P.globalNamed n = some g) : g < w.heap.size := by
  unfold World.var? at h
  rw [hg] at h
  simp only [Option.bind_some] at h
  split at h
  · rename_i he; exact lt_of_heap he
  · cases h
theorem cell_lt {w : World} {g : Nat} {c : Value} (h : w.cell? ⟨g, 0, none⟩ = some c) : g < w.heap.size := by
  unfold World.cell? at h
  simp only at h
  split at h
  · rename_i he; exact lt_of_heap he
  · cases h
theorem GBase.lt {P : Program} {D : List String} {w : World} (b : GBase P D w) {k : Nat} (h : libVar P D k) : k < w.heap.size := by
  obtain ⟨n, hn, hD, hg⟩ := h
  simp only [libVars, List.mem_cons, List.not_mem_nil, or_false] at hn
  rcases hn with rfl | rfl | rfl | rfl
  · exact var_lt (b.tab hD) hg
  · obtain ⟨g, m, hg', hm⟩ := b.maxLen hD
    rw [hg] at hg'; cases hg'
    exact cell_lt hm
  · obtain ⟨_, _, hm⟩ := b.errS hD; exact var_lt hm hg
  · obtain ⟨_, _, hm⟩ := b.errR hD; exact var_lt hm hg
theorem var_same {P : Program} {D : List String} {w w' : World} {n : String} (hn : n ∈ libVars) (hD : n ∈ D) (h : ∀ k, libVar P D k → w'.heap[k]? = w.heap[k]?) : w'.var? P n = w.var? P n := by
  unfold World.var?
  cases hg : P.globalNamed n with
  | none => rfl
  | some g => simp only [Option.bind_some]; rw [h g ⟨n, hn, hD, hg⟩]
theorem GBase.same {P : Program} {D : List String} {w w' : World} (b : GBase P D w) (h : ∀ k, libVar P D k → w'.heap[k]? = w.heap[k]?) : GBase P D w' := by
  refine ⟨fun hD => ?_, fun hD => ?_, fun hD => ?_, fun hD => ?_⟩
  · unfold Lib.TabIs; rw [var_same (by simp [libVars]) hD h]; exact b.tab hD
  · obtain ⟨g, m, hg, hm⟩ := b.maxLen hD
    exact ⟨g, m, hg, (cell_of_heap (a := ⟨g, 0, none⟩) (h g ⟨_, by simp [libVars], hD, hg⟩)).trans hm⟩
  · rw [var_same (by simp [libVars]) hD h]; exact b.errS hD
  · rw [var_same (by simp [libVars]) hD h]; exact b.errR hD
theorem GBase.sub {P : Program} {D D' : List String} {w : World} (b : GBase P D w) (h : ∀ n ∈ D', n ∈ D) : GBase P D' w := ⟨fun hD => b.tab (h _ hD), fun hD => b.maxLen (h _ hD), fun hD => b.errS (h _ hD), fun hD => b.errR (h _ hD)⟩
/-- The variables of packages stand, and are not among the blocks of O. -/
structure GlobOk (P : Program) (D : List String) (w : World) (O : Nat → Prop) : Prop where
  base : GBase P D w
  out : ∀ k, libVar P D k → ¬ O k
theorem GlobOk.fr {P : Program} {D : List String} {w0 w : World} {O O' : Nat → Prop} (g : GlobOk P D w0 O) (f : Fr w0 w O) (hO : ∀ k, O' k → w0.heap.size ≤ k ∨ O k) : GlobOk P D w O' :=
  ⟨g.base.same fun k hk => f.block k (g.base.lt hk) (g.out k hk), fun k hk ho => by
    rcases hO k ho with h | h
    · have := g.base.lt hk; omega
    · exact g.out k hk h⟩
theorem GlobOk.sub {P : Program} {D D' : List String} {w : World} {O : Nat → Prop} (g : GlobOk P D w O) (h : ∀ n ∈ D', n ∈ D) : GlobOk P D' w O :=
  ⟨g.base.sub h, fun k ⟨n, h1, h2, h3⟩ => g.out k ⟨n, h1, h n h2, h3⟩⟩
/-- What a function is known to do. -/
def FnOk (P : Program) (f : FuncId) (sp : Spec) : Prop :=
  ∀ (w : World) (S : Nat → Prop) (ins : List V) (r : V) (outs : List V) (cargs : List Value) (Ns : List (Nat → Prop)), GlobOk P sp.need w (AnyS Ns) → sp.run ins = some (r, outs) → ArgsOk w S sp.modes ins cargs Ns → DisjS Ns →
    (∀ k, AnyS Ns k → ¬ S k ∧ k < w.heap.size) → (∀ k, S k → k < w.heap.size) →
    Gives P f cargs.toArray w fun e w' => ∃ cv NR NOs, e = .returned cv ∧ Fr w w' (AnyS Ns) ∧ ResOk w' S r cv NR ∧ OutsOk w' S sp.modes outs cargs NOs ∧ DisjS (NR :: NOs) ∧
      ∀ k, AnyS (NR :: NOs) k → k < w'.heap.size ∧ (w.heap.size ≤ k ∨ AnyS Ns k)
/-- The same within a run that began in w0 and may write in blocks of O. -/
def FnAt (P : Program) (w0 : World) (O : Nat → Prop) (f : FuncId) (sp : Spec) : Prop :=
  ∀ (w : World) (S : Nat → Prop) (ins : List V) (r : V) (outs : List V) (cargs : List Value) (Ns : List (Nat → Prop)), Fr w0 w O → (∀ k, AnyS Ns k → w0.heap.size ≤ k ∨ O k) → sp.run ins = some (r, outs) → ArgsOk w S sp.modes ins cargs Ns → DisjS Ns →
    (∀ k, AnyS Ns k → ¬ S k ∧ k < w.heap.size) → (∀ k, S k → k < w.heap.size) →
    Gives P f cargs.toArray w fun e w' => ∃ cv NR NOs, e = .returned cv ∧ Fr w w' (AnyS Ns) ∧ ResOk w' S r cv NR ∧ OutsOk w' S sp.modes outs cargs NOs ∧ DisjS (NR :: NOs) ∧
      ∀ k, AnyS (NR :: NOs) k → k < w'.heap.size ∧ (w.heap.size ≤ k ∨ AnyS Ns k)
theorem FnOk.at {P : Program} {w0 : World} {O : Nat → Prop} {f : FuncId} {sp : Spec} (h : FnOk P f sp) (g : GlobOk P sp.need w0 O) : FnAt P w0 O f sp :=
  fun w S ins r outs cargs Ns hfr hO => h w S ins r outs cargs Ns (g.fr hfr hO)

section
variable {P : Program} {w0 w : World} {O S : Nat → Prop} {g : G} {h : Heap} {U : Nat → Prop} {a : Act} {e : Env} {n : Nat} {o : Oper}

theorem DisjS.tail {N : Nat → Prop} {Ns : List (Nat → Prop)} (d : DisjS (N :: Ns)) : DisjS Ns := fun i j A B k ha hb h1 h2 => by
  have := d (i + 1) (j + 1) A B k (by simpa using ha) (by simpa using hb) h1 h2
  omega
theorem DisjS.head {N : Nat → Prop} {Ns : List (Nat → Prop)} (d : DisjS (N :: Ns)) : ∀ k, N k → ¬ AnyS Ns k := by
  rintro k h1 ⟨M, hM, h2⟩
  obtain ⟨j, hj, rfl⟩ := List.mem_iff_getElem.1 hM
  have := d 0 (j + 1) N _ k rfl (by simp [hj]) h1 h2
  omega
theorem DisjS.cons {N : Nat → Prop} {Ns : List (Nat → Prop)} (hd : ∀ k, N k → ¬ AnyS Ns k) (t : DisjS Ns) : DisjS (N :: Ns) := by
  intro i j A B k ha hb h1 h2
  cases i with
  | zero =>
    cases j with
    | zero => rfl
    | succ j =>
      simp at ha hb
      subst ha
      exact absurd ⟨B, List.mem_of_getElem? hb, h2⟩ (hd k h1)
  | succ i =>
    cases j with
    | zero =>
      simp at ha hb
      subst hb
      exact absurd ⟨A, List.mem_of_getElem? ha, h1⟩ (hd k h2)
    | succ j =>
      have := t i j A B k (by simpa using ha) (by simpa using hb) h1 h2
      omega
theorem AnyS.cons {N : Nat → Prop} {Ns : List (Nat → Prop)} {k : Nat} : AnyS (N :: Ns) k ↔ N k ∨ AnyS Ns k := by
  constructor
  · rintro ⟨M, hM, hk⟩
    rcases List.mem_cons.1 hM with rfl | hM
    · exact .inl hk
    · exact .inr ⟨M, hM, hk⟩
  · rintro (hk | ⟨M, hM, hk⟩)
    · exact ⟨N, by simp, hk⟩
    · exact ⟨M, by simp [hM], hk⟩

/-- What a call may read: all that it may not write. -/
def Rest (w : World) (g : G) (h : Heap) (W : List Nat) (k : Nat) : Prop := k < w.heap.size ∧ ∀ id ∈ W, h id ≠ none → ¬ g.N id k

theorem RD.sub {sz n cap : Nat} {l : List V} {ad : Addr} (x : RD w S (.lst sz l) (.slice (some ad) n cap)) (hsp : ad.spot = none) {lo len c : Nat} (h1 : lo + len ≤ l.length) (h2 : len ≤ c) :
    RD w S (.lst sz ((l.drop lo).take len)) (.slice (some ⟨ad.block, ad.off + lo * sz, none⟩) len c) := by
  have el : ((l.drop lo).take len).length = len := by simp; omega
  generalize hv : V.lst sz l = v at x
  generalize hcv : Value.slice (some ad) n cap = cv at x
  cases x <;> try (simp_all; done)
  case lnil sz' a' c' =>
    cases hv
    simp at h1
    obtain ⟨rfl, rfl⟩ : lo = 0 ∧ len = 0 := by omega
    exact .lnil _ _ _
  case lst sz' l' ad' cap' f hsp' hS hlen hsz hc hr =>
    cases hv
    cases hcv
    have := RD.lst (w := w) (S := S) sz ((l.drop lo).take len) ⟨ad.block, ad.off + lo * sz, none⟩ c (fun i j => f (lo + i) j) rfl hS (by rw [el]; exact h2) (fun z hz => hsz z (List.mem_of_mem_drop (List.mem_of_mem_take hz)))
      (fun i j hi hj => by
        rw [el] at hi
        have := hc (lo + i) j (by omega) hj
        rw [← this]
        simp [Nat.add_mul, Nat.add_assoc])
      (fun i z j y hz hy => by
        have hi : i < len := by
          have := (List.getElem?_eq_some_iff.1 hz).1
          rw [el] at this; exact this
        rw [List.getElem?_take, if_pos hi, List.getElem?_drop] at hz
        exact hr (lo + i) z j y hz hy)
    rw [el] at this
    exact this

/-- What may be read covers the old and the blocks of these ids. -/
def Cov (w : World) (S : Nat → Prop) (g : G) (h : Heap) (ids : List Nat) (Z : Nat → Prop) : Prop := (∀ k, S k → Z k) ∧ ∀ id ∈ ids, ∀ b, h id = some b → ∀ k, g.N id k → Z k
theorem Cov.sub {ids ids' : List Nat} {Z : Nat → Prop} (c : Cov w S g h ids Z) (hs : ∀ id ∈ ids', id ∈ ids) : Cov w S g h ids' Z := ⟨c.1, fun id hid => c.2 id (hs id hid)⟩
theorem Cov.nil : Cov w S g h [] S := ⟨fun _ h => h, fun id hid => by cases hid⟩
theorem rest_S (H : HOk w0 O w S g h U) (W : List Nat) : ∀ k, S k → Rest w g h W k := fun k hk => ⟨H.slt k hk, fun id _ hl hN => by
  obtain ⟨b, hb⟩ := Option.ne_none_iff_exists'.1 hl
  exact (H.own id b k hb hN).1 hk⟩
theorem rest_N (H : HOk w0 O w S g h U) {W : List Nat} {id : Nat} {b : Blk} (hb : h id = some b) (hW : id ∉ W) : ∀ k, g.N id k → Rest w g h W k := fun k hk => ⟨H.lt id b k hb hk, fun id' hid hl hN => by
  obtain ⟨b', hb'⟩ := Option.ne_none_iff_exists'.1 hl
  have := H.disj id id' b b' k hb hb' hk hN
  subst this
  exact hW hid⟩

theorem dC_ok (H : HOk w0 O w S g h U) {Z : Nat → Prop} {v d : V} {c : Value} (hv : dC h v = some d) (x : VR w S g h v c) (hW : Cov w S g h (idsC v) Z) : RD w Z d c := by
  cases v with
  | int k m => simp only [dC, Option.some.injEq] at hv; subst hv; rw [x.inv_int]; exact .int _ _
  | bool b => simp only [dC, Option.some.injEq] at hv; subst hv; rw [x.inv_bool]; exact .bool _
  | raw a n k => simp only [dC, Option.some.injEq] at hv; subst hv; rw [x.inv_raw]; exact .raw _ _ _
  | str s => simp only [dC, Option.some.injEq] at hv; subst hv; obtain ⟨b, rfl, hb⟩ := x.inv_str; exact .str _ _ hb
  | lst sz l => simp only [dC, Option.some.injEq] at hv; subst hv; exact x.inv_lst.mono (fun _ _ => rfl) hW.1
  | nils sz => simp only [dC, Option.some.injEq] at hv; subst hv; rw [x.inv_nils]; exact .lnil _ _ _
  | own id =>
    simp only [dC] at hv
    split at hv
    · rename_i sz els hb
      cases hv
      obtain ⟨_, rfl⟩ := x.inv_own hb (H.notDead hb)
      exact (H.blk id _ hb).1.rd (hW.2 id (by simp [idsC]) _ hb)
    · cases hv
  | win id lo len =>
    simp only [dC] at hv
    split at hv
    · rename_i sz els hb
      split at hv
      · rename_i hle
        cases hv
        obtain ⟨_, e⟩ := x.inv_win hb (H.notDead hb)
        rcases e with ⟨h0, _, a', rfl⟩ | ⟨ad, cp, hbase, hcp, hlc, rfl⟩
        · subst h0
          simp only [List.take_zero]
          exact .lnil _ _ _
        · have hB := H.blk id _ hb
          have hr := hB.1.rd (hW.2 id (by simp [idsC]) _ hb)
          rw [hbase] at hr
          exact hr.sub (hB.2 ad hbase) hle hlc
      · cases hv
    · cases hv
  | rptr v => simp only [dC, Option.some.injEq] at hv; subst hv; exact x.inv_rptr.mono (fun _ _ => rfl) hW.1
  | _ => simp [dC] at hv

theorem mapO_ok {f : V → Option V} : ∀ {l m : List V}, mapO f l = some m → m.length = l.length ∧ ∀ (i : Nat) y, m[i]? = some y → ∃ x, l[i]? = some x ∧ f x = some y
  | [], m, h => by simp only [mapO, Option.some.injEq] at h; subst h; exact ⟨rfl, fun i y hy => by simp at hy⟩
  | x :: l, m, h => by
    simp only [mapO, Option.bind_eq_some_iff, Option.map_eq_some_iff] at h
    obtain ⟨y, hy, m', hm', rfl⟩ := h
    obtain ⟨h1, h2⟩ := mapO_ok hm'
    refine ⟨by simp [h1], fun i z hz => ?_⟩
    cases i with
    | zero => simp at hz; subst hz; exact ⟨x, rfl, hy⟩
    | succ i => exact h2 i z (by simpa using hz)

theorem dC_noAgg {v d : V} (hv : dC h v = some d) : d.cells = [d] := by
  cases v with
  | own id => simp only [dC] at hv; split at hv <;> cases hv; rfl
  | win id lo len =>
    simp only [dC] at hv
    split at hv
    · split at hv <;> cases hv; rfl
    · cases hv
  | _ => simp only [dC, Option.some.injEq, reduceCtorEq] at hv <;> (subst hv; rfl)

theorem notAgg {v : V} (hn : ∀ l, v ≠ .agg l) : dA h v = dC h v ∧ idsA v = idsC v ∧ v.cells = [v] := by
  cases v <;> first | exact ⟨rfl, rfl, rfl⟩ | (rename_i l; exact absurd rfl (hn l))
theorem notFn {v : V} (hn : ∀ f l, v ≠ .fn f l) : dF h v = dP h v ∧ idsF h v = idsP h v := by
  cases v <;> first | exact ⟨rfl, rfl⟩ | (rename_i f l; exact absurd rfl (hn f l))

theorem dA_ok (H : HOk w0 O w S g h U) {Z : Nat → Prop} {v d : V} {c : Value} (hv : dA h v = some d) (x : VR w S g h v c) (hW : Cov w S g h (idsA v) Z) : RD w Z d c := by
  by_cases hagg : ∃ l, v = .agg l
  · obtain ⟨l, rfl⟩ := hagg
    simp only [dA, Option.map_eq_some_iff] at hv
    obtain ⟨m, hm, rfl⟩ := hv
    obtain ⟨cs, rfl, hl, hr⟩ := x.inv_agg
    obtain ⟨h1, h2⟩ := mapO_ok hm
    refine .agg _ _ (by omega) fun i y c hy hc => ?_
    obtain ⟨z, hz, hd⟩ := h2 i y hy
    exact dC_ok H hd (hr i z c hz hc) (hW.sub fun id hid => idsL_mem hz hid)
  · have e1 : dA h v = dC h v := by cases v <;> first | rfl | (rename_i l; exact absurd ⟨l, rfl⟩ hagg)
    have e2 : idsA v = idsC v := by cases v <;> first | rfl | (rename_i l; exact absurd ⟨l, rfl⟩ hagg)
    rw [e1] at hv; rw [e2] at hW
    exact dC_ok H hv x hW

theorem dP_ok (H : HOk w0 O w S g h U) {Z : Nat → Prop} {v d : V} {c : Value} (hv : dP h v = some d) (x : VR w S g h v c) (hW : Cov w S g h (idsP h v) Z) : RD w Z d c := by
  unfold dP at hv
  split at hv
  · rename_i id
    split at hv
    · rename_i sz v' hb
      simp only [Option.map_eq_some_iff] at hv
      obtain ⟨d', hd', rfl⟩ := hv
      obtain ⟨ad, hbase, _, rfl⟩ := x.inv_ptr hb (H.notDead hb)
      obtain ⟨ad', cur, e', fr, v'', h1, h2, h3, h4, h5, h6, h7, h8, h9, h10, h11⟩ := H.blk id _ hb
      rw [hbase] at h1; cases h1
      simp only [List.cons.injEq, and_true] at h6
      subst h6
      have hcont : Cov w S g h (idsA v') Z := hW.sub fun i hi => by simp [idsP, hb, hi]
      have hblk : Z ad.block := hW.2 id (by simp [idsP]) _ hb _ ((h11 _).2 rfl)
      have hcells : d'.cells.length = v'.cells.length ∧ ∀ (j : Nat) y c, d'.cells[j]? = some y → cur[j]? = some c → RD w Z y c := by
        by_cases hagg : ∃ l, v' = .agg l
        · obtain ⟨l, rfl⟩ := hagg
          simp only [dA, Option.map_eq_some_iff] at hd'
          obtain ⟨m, hm, rfl⟩ := hd'
          obtain ⟨q1, q2⟩ := mapO_ok hm
          refine ⟨by simpa [V.cells] using q1, fun j y c hy hc => ?_⟩
          obtain ⟨z, hz, hdz⟩ := q2 j y (by simpa [V.cells] using hy)
          exact dC_ok H hdz (h10 j z c (by simpa [V.cells] using hz) hc) (hcont.sub fun i hi => idsL_mem hz hi)
        · obtain ⟨e1, e2, e3⟩ := notAgg (h := h) (v := v') fun l e => hagg ⟨l, e⟩
          rw [e1] at hd'; rw [e2] at hcont
          have e4 := dC_noAgg hd'
          refine ⟨by rw [e3, e4]; rfl, fun j y c hy hc => ?_⟩
          rw [e4] at hy
          cases j with
          | zero => simp at hy; subst hy; exact dC_ok H hd' (h10 0 v' c (by rw [e3]; rfl) hc) hcont
          | succ j => simp at hy
      have hpt : (⟨ad.block, ad.off + (0 * sz + (none : Option Nat).getD 0), none⟩ : Addr) = ⟨ad.block, 0, none⟩ := by simp [h3]
      rw [hpt]
      refine .rptr d' ⟨ad.block, 0, none⟩ (fun j => (cur[j]?).getD Go.undef) rfl hblk ?_ ?_
      · intro j hj
        have hjc : j < cur.size := by rw [h8, ← hcells.1]; exact hj
        show w.cell? ⟨ad.block, 0 + j, none⟩ = _
        rw [cell_of_row h4]
        simp [hjc]
      · intro j y hy
        have hj := (List.getElem?_eq_some_iff.1 hy).1
        have hjc : j < cur.size := by rw [h8, ← hcells.1]; exact hj
        have := hcells.2 j y cur[j] hy (Array.getElem?_eq_getElem hjc)
        simpa [hjc] using this
    · cases hv
  · rename_i hne
    refine dA_ok H hv x (hW.sub fun id hid => ?_)
    cases v <;> first | exact hid | (simp only [idsA, idsC, List.mem_singleton] at hid; simp [idsP, hid])

theorem dF_ok (H : HOk w0 O w S g h U) {Z : Nat → Prop} {v d : V} {c : Value} (hv : dF h v = some d) (x : VR w S g h v c) (hW : Cov w S g h (idsF h v) Z) : RD w Z d c := by
  by_cases hfn : ∃ f caps, v = .fn f caps
  · obtain ⟨f, caps, rfl⟩ := hfn
    simp only [dF, Option.map_eq_some_iff] at hv
    obtain ⟨m, hm, rfl⟩ := hv
    obtain ⟨cs, rfl, hl, hr⟩ := x.inv_fn
    obtain ⟨h1, h2⟩ := mapO_ok hm
    refine .fn f _ _ (by omega) fun i y c hy hc => ?_
    obtain ⟨z, hz, hd⟩ := h2 i y hy
    refine dP_ok H hd (hr i z c hz hc) (hW.sub fun id hid => ?_)
    have : ∀ (l : List V) (i : Nat), l[i]? = some z → id ∈ idsPL h l := by
      intro l
      induction l with
      | nil => intro i hi; simp at hi
      | cons y l ih =>
        intro i hi
        simp only [idsPL, List.mem_append]
        cases i with
        | zero => simp at hi; subst hi; exact .inl hid
        | succ i => exact .inr (ih i (by simpa using hi))
    exact this caps i hz
  · obtain ⟨e1, e2⟩ := notFn (h := h) (v := v) fun f l e => hfn ⟨f, l, e⟩
    rw [e1] at hv; rw [e2] at hW
    exact dP_ok H hv x hW

/-- A closed value stands in blocks of its own. -/
theorem clA_ow (H : HOk w0 O w S g h U) {x y : V} {c : Value} {ids : List Nat} (hv : clA h x = some (y, ids)) (hn : ids.Nodup) (hx : VR w S g h x c) : idsA x = ids ∧ (∀ id ∈ ids, h id ≠ none) ∧ ∃ N, OW w y c N ∧ InIds g h ids N := by
  have hC : ∀ {x y : V} {ids : List Nat}, clC h x = some (y, ids) → idsC x = ids := by
    intro x y ids hv
    cases x with
    | own id => simp only [clC] at hv; split at hv <;> cases hv; rfl
    | win id lo len =>
      simp only [clC] at hv
      split at hv
      · split at hv
        · simp only [Option.some.injEq, Prod.mk.injEq] at hv; exact hv.2
        · cases hv
      · cases hv
    | _ => simp only [clC, Option.some.injEq, Prod.mk.injEq, reduceCtorEq] at hv <;> (obtain ⟨_, rfl⟩ := hv; rfl)
  by_cases hagg : ∃ l, x = .agg l
  · obtain ⟨l, rfl⟩ := hagg
    simp only [clA, Option.map_eq_some_iff] at hv
    obtain ⟨⟨ys, ids'⟩, hys, hv⟩ := hv
    simp only [Prod.mk.injEq] at hv
    obtain ⟨rfl, rfl⟩ := hv
    obtain ⟨cs, rfl, hl, hr⟩ := hx.inv_agg
    obtain ⟨h1, h2, h3, Ns, h4, h5, h6⟩ := clL_ok H hys (cs := cs.toList) (by simpa using hl) (fun i x c hx hc => hr i x c hx (by simpa using hc))
    have hids : ∀ (l ys : List V) (ids : List Nat), clL h l = some (ys, ids) → idsL l = ids := by
      intro l
      induction l with
      | nil => intro ys ids hv; simp only [clL, Option.some.injEq, Prod.mk.injEq] at hv; exact hv.2
      | cons x l ih =>
        intro ys ids hv
        simp only [clL, Option.bind_eq_some_iff, Option.map_eq_some_iff] at hv
        obtain ⟨⟨y, i1⟩, hy, ⟨ys', i2⟩, hys, hv⟩ := hv
        simp only [Prod.mk.injEq] at hv
        rw [← hv.2, idsL, hC hy, ih _ _ hys]
    refine ⟨hids _ _ _ hys, h3, _, .agg _ _ Ns (by rw [h1]; exact hl) (fun i y c hy hc => (h4 i y c hy (by simpa using hc)).1) (fun i j k hi hj => h6 hn i j k (by omega) (by omega)), ?_⟩
    rintro k ⟨i, hi, hk⟩
    exact h5 i (by omega) k hk
  · have e1 : clA h x = clC h x := by cases x <;> first | rfl | (rename_i l; exact absurd ⟨l, rfl⟩ hagg)
    have e2 : idsA x = idsC x := by cases x <;> first | rfl | (rename_i l; exact absurd ⟨l, rfl⟩ hagg)
    rw [e1] at hv
    obtain ⟨_, _, _, h3, N, h4, h5⟩ := clC_ok H hv hx
    exact ⟨by rw [e2]; exact hC hv, h3, N, h4, h5⟩

theorem rdC_of {v : V} {c : Value} (hv : rdC v = true) (x : VR w S g h v c) : RD w S v c := by
  cases v with
  | int k m => rw [x.inv_int]; exact .int _ _
  | bool b => rw [x.inv_bool]; exact .bool _
  | str s => obtain ⟨b, rfl, hb⟩ := x.inv_str; exact .str _ _ hb
  | lst sz l => exact x.inv_lst
  | _ => simp [rdC] at hv
theorem rdA_cells {v : V} (hv : rdA v = true) : ∀ (j : Nat) y, v.cells[j]? = some y → rdC y = true := by
  intro j y hy
  cases v with
  | agg l => exact (List.all_eq_true.1 hv) y (List.mem_of_getElem? hy)
  | _ =>
    cases j with
    | zero => simp [V.cells] at hy; subst hy; exact hv
    | succ j => simp [V.cells] at hy
theorem ptrIn_ok (H : HOk w0 O w S g h U) {Z : Nat → Prop} {v d : V} {c : Value} {id : Nat} (hv : ptrIn h v = some (d, id)) (x : VR w S g h v c) (hZ : ∀ k, S k → Z k) :
    h id ≠ none ∧ BoxR w Z d c (g.N id) := by
  unfold ptrIn at hv
  split at hv
  · rename_i id'
    split at hv
    · rename_i sz x' hb
      split at hv
      · rename_i hrd
        simp only [Option.some.injEq, Prod.mk.injEq] at hv
        obtain ⟨rfl, rfl⟩ := hv
        obtain ⟨ad, hbase, _, rfl⟩ := x.inv_ptr hb (H.notDead hb)
        obtain ⟨ad', cur, e', fr, v'', h1, h2, h3, h4, h5, h6, h7, h8, h9, h10, h11⟩ := H.blk _ _ hb
        rw [hbase] at h1; cases h1
        simp only [List.cons.injEq, and_true] at h6
        subst h6
        refine ⟨by simp [hb], x', ad, cur, e', fr, rfl, ?_, h2, h3, h4, h5, h8, h9, fun j y c hy hc => (rdC_of (rdA_cells hrd j y hy) (h10 j y c hy hc)).mono (fun _ _ => rfl) hZ, h11⟩
        obtain ⟨b', o', sp'⟩ := ad
        simp only at h2 h3
        subst h2 h3
        simp
      · cases hv
    · cases hv
  · cases hv

theorem argsIn_ok (H : HOk w0 O w S g h U) {Z : Nat → Prop} (hZ : ∀ k, S k → Z k) : ∀ {ms : List Mode} {vs : List V} {cs : List Value} {r : List V × List Nat × List Nat}, argsIn h ms vs = some r → Two (VR w S g h) vs cs → r.2.1.Nodup → Cov w S g h r.2.2 Z →
    (∀ id ∈ r.2.1, h id ≠ none) ∧ ∃ Ns, ArgsOk w Z ms r.1 cs Ns ∧ DisjS Ns ∧ InIds g h r.2.1 (AnyS Ns)
  | [], [], _, r, hv, hc, _, _ => by
    cases hc
    simp only [argsIn, Option.some.injEq] at hv
    subst hv
    exact ⟨by simp, [], .nil, fun i j A B k ha => by simp at ha, fun k ⟨N, hN, _⟩ => by simp at hN⟩
  | [], _ :: _, _, r, hv, _, _, _ => by simp [argsIn] at hv
  | m :: ms, [], _, r, hv, _, _, _ => by cases m <;> simp [argsIn] at hv
  | m :: ms, v :: vs, _, r, hv, hc, hn, hR => by
    cases hc with
    | cons hx ht =>
      rename_i c cs
      by_cases hm : m = .rd
      · subst hm
        simp only [argsIn, Option.bind_eq_some_iff, Option.map_eq_some_iff] at hv
        obtain ⟨d, hd, r', hr', rfl⟩ := hv
        simp only at hn hR ⊢
        obtain ⟨h1, Ns, h2, h3, h4⟩ := argsIn_ok H hZ hr' ht hn (hR.sub fun id hid => List.mem_append_right _ hid)
        refine ⟨h1, _, .rd (dF_ok H hd hx (hR.sub fun id hid => List.mem_append_left _ hid)) h2, DisjS.cons (fun k hk => hk.elim) h3, fun k hk => ?_⟩
        rcases AnyS.cons.1 hk with hk | hk
        · exact hk.elim
        · exact h4 k hk
      by_cases hp : m = .ptr
      · subst hp
        simp only [argsIn, Option.bind_eq_some_iff, Option.map_eq_some_iff] at hv
        obtain ⟨⟨d, id⟩, hd, r', hr', rfl⟩ := hv
        simp only at hn hR ⊢
        rw [List.nodup_cons] at hn
        obtain ⟨h1, Ns, h2, h3, h4⟩ := argsIn_ok H hZ hr' ht hn.2 hR
        obtain ⟨q1, q2⟩ := ptrIn_ok H hd hx hZ
        refine ⟨?_, _, .pt q2 h2, DisjS.cons (fun k hk ha => ?_) h3, fun k hk => ?_⟩
        · intro i hi
          rcases List.mem_cons.1 hi with rfl | hi
          · exact q1
          · exact h1 i hi
        · obtain ⟨i, i1, i2, i3⟩ := h4 k ha
          obtain ⟨b, hb⟩ := Option.ne_none_iff_exists'.1 q1
          obtain ⟨b', hb'⟩ := Option.ne_none_iff_exists'.1 i2
          have := H.disj id i b b' k hb hb' hk i3
          subst this
          exact hn.1 i1
        · rcases AnyS.cons.1 hk with hk | hk
          · exact ⟨id, by simp, q1, hk⟩
          · obtain ⟨i, i1, i2⟩ := h4 k hk; exact ⟨i, List.mem_cons_of_mem _ i1, i2⟩
      · have hw : m = .io ∨ m = .use := by cases m <;> simp_all
        have hv' : (clA h v).bind (fun d => (argsIn h ms vs).map fun r => (d.1 :: r.1, d.2 ++ r.2.1, r.2.2)) = some r := by
          cases m <;> first | exact absurd rfl hm | exact absurd rfl hp | exact hv
        simp only [Option.bind_eq_some_iff, Option.map_eq_some_iff] at hv'
        obtain ⟨⟨y, ids⟩, hy, r', hr', rfl⟩ := hv'
        simp only at hn hR ⊢
        rw [List.nodup_append] at hn
        obtain ⟨h1, Ns, h2, h3, h4⟩ := argsIn_ok H hZ hr' ht hn.2.1 hR
        obtain ⟨q1, q2, N, q3, q4⟩ := clA_ow H hy hn.1 hx
        refine ⟨?_, _, .wr hw q3 h2, DisjS.cons (InIds.disj H q4 h4 fun id i1 i2 => hn.2.2 id i1 id i2 rfl) h3, fun k hk => ?_⟩
        · intro id hid
          rcases List.mem_append.1 hid with hid | hid
          · exact q2 id hid
          · exact h1 id hid
        · rcases AnyS.cons.1 hk with hk | hk
          · obtain ⟨id, i1, i2⟩ := q4 k hk; exact ⟨id, List.mem_append_left _ i1, i2⟩
          · obtain ⟨id, i1, i2⟩ := h4 k hk; exact ⟨id, List.mem_append_right _ i1, i2⟩

end
end Go.VM

/- What stands in the handed blocks behind a call; the call itself. -/
set_option linter.unusedVariables false
set_option linter.unusedSimpArgs false
namespace Go.VM
open Go

section
variable {P : Program} {w0 w w' : World} {O S : Nat → Prop} {g : G} {h : Heap} {U : Nat → Prop} {a : Act} {e : Env} {n : Nat} {o : Oper}

/-- What a block is told to be anew. -/
def NewB (w' : World) (S : Nat → Prop) (b : Blk) (base : Option Addr) (cap : Nat) (N : Nat → Prop) : Prop :=
  match b with
  | ⟨.arr, sz, els⟩ => OW w' (.lst sz els) (.slice base els.length cap) N
  | ⟨.opn _, _, _⟩ => False
  | ⟨.map, _, _⟩ => False
  | ⟨.box, sz, els⟩ => ∃ ad cur e fr v, base = some ad ∧ ad.spot = none ∧ ad.off = 0 ∧ w'.heap[ad.block]? = some (.cells cur e fr) ∧ NoFr 1 cur.size fr ∧ els = [v] ∧ sz = v.cells.length ∧
      cur.size = v.cells.length ∧ boxableA v = true ∧ (∀ (j : Nat) y c, v.cells[j]? = some y → cur[j]? = some c → RD w' S y c) ∧ ∀ k, N k ↔ k = ad.block
/-- Blocks told anew: these ids, by this list; new words in NS. -/
def Piece (w' : World) (S : Nat → Prop) (g : G) (h : Heap) (ids : List Nat) (us : List (Nat × Option Blk)) (NS : Nat → Prop) : Prop :=
  (∀ h0 j, j ∉ ids → updsH h0 us j = h0 j) ∧ ∃ N' : Nat → Nat → Prop,
    (∀ id ∈ ids, (∀ h0, updsH h0 us id = none) ∨ ∃ b b', h id = some b ∧ (∀ h0, updsH h0 us id = some b') ∧ (b'.kind = b.kind ∧ b'.sz = b.sz ∧ b'.els.length = b.els.length) ∧
      NewB w' S b' (g.base id) (g.cap id) (N' id) ∧ ∀ k, N' id k → NS k) ∧
    ∀ i j k, i ∈ ids → j ∈ ids → updsH (fun _ => none) us i ≠ none → updsH (fun _ => none) us j ≠ none → N' i k → N' j k → i = j

theorem Piece.nil : Piece w' S g h [] [] (fun _ => False) := ⟨fun _ _ _ => rfl, fun _ _ => False, by simp, by simp⟩
theorem Piece.weak {ids : List Nat} {us : List (Nat × Option Blk)} {A B : Nat → Prop} (p : Piece w' S g h ids us A) (hs : ∀ k, A k → B k) : Piece w' S g h ids us B := by
  obtain ⟨p1, N', p2, p3⟩ := p
  refine ⟨p1, N', fun id hid => ?_, p3⟩
  rcases p2 id hid with q | ⟨b0, b1, q1, q2, q3, q4, q5⟩
  · exact .inl q
  · exact .inr ⟨b0, b1, q1, q2, q3, q4, fun k hk => hs k (q5 k hk)⟩
theorem Piece.append {i1 i2 : List Nat} {u1 u2 : List (Nat × Option Blk)} {A B : Nat → Prop} (p : Piece w' S g h i1 u1 A) (q : Piece w' S g h i2 u2 B) (hd : ∀ id ∈ i1, id ∉ i2) (hAB : ∀ k, A k → ¬ B k) :
    Piece w' S g h (i1 ++ i2) (u1 ++ u2) (fun k => A k ∨ B k) := by
  obtain ⟨p1, N1, p2, p3⟩ := p
  obtain ⟨q1, N2, q2, q3⟩ := q
  have l1 : ∀ h0 id, id ∈ i1 → updsH h0 (u1 ++ u2) id = updsH h0 u1 id := fun h0 id hid => by rw [updsH_append, q1 _ id (hd id hid)]
  have l2 : ∀ h0 id, id ∈ i2 → updsH h0 (u1 ++ u2) id = updsH (updsH h0 u1) u2 id := fun h0 id hid => by rw [updsH_append]
  have at2 : ∀ id ∈ i2, ∀ h0 h0', updsH h0 u2 id = updsH h0' u2 id := by
    intro id hid h0 h0'
    rcases q2 id hid with r | ⟨b0, b1, r1, r2, _⟩
    · rw [r, r]
    · rw [r2, r2]
  refine ⟨fun h0 j hj => ?_, fun id => if id ∈ i1 then N1 id else N2 id, fun id hid => ?_, fun i j k hi hj li lj hNi hNj => ?_⟩
  · simp only [List.mem_append, not_or] at hj
    rw [updsH_append, q1 _ j hj.2, p1 _ j hj.1]
  · by_cases h1 : id ∈ i1
    · simp only [h1, if_true]
      rcases p2 id h1 with r | ⟨b0, b1, r1, r2, r3, r4, r5⟩
      · exact .inl fun h0 => by rw [l1 h0 id h1]; exact r h0
      · exact .inr ⟨b0, b1, r1, fun h0 => by rw [l1 h0 id h1]; exact r2 h0, r3, r4, fun k hk => .inl (r5 k hk)⟩
    · have h2 : id ∈ i2 := by rcases List.mem_append.1 hid with q | q; exact absurd q h1; exact q
      simp only [h1, if_false]
      rcases q2 id h2 with r | ⟨b0, b1, r1, r2, r3, r4, r5⟩
      · exact .inl fun h0 => by rw [l2 h0 id h2]; exact r _
      · exact .inr ⟨b0, b1, r1, fun h0 => by rw [l2 h0 id h2]; exact r2 _, r3, r4, fun k hk => .inr (r5 k hk)⟩
  · have key : ∀ id, id ∈ i1 ++ i2 → updsH (fun _ => none) (u1 ++ u2) id ≠ none → ∀ k, (if id ∈ i1 then N1 id else N2 id) k → (id ∈ i1 ∧ A k) ∨ (id ∈ i2 ∧ id ∉ i1 ∧ B k) := by
      intro id hid hl k hk
      by_cases h1 : id ∈ i1
      · simp only [h1, if_true] at hk
        rcases p2 id h1 with r | ⟨b0, b1, r1, r2, r3, r4, r5⟩
        · exact absurd (by rw [l1 _ id h1]; exact r _) hl
        · exact .inl ⟨h1, r5 k hk⟩
      · have h2 : id ∈ i2 := by rcases List.mem_append.1 hid with q | q; exact absurd q h1; exact q
        simp only [h1, if_false] at hk
        rcases q2 id h2 with r | ⟨b0, b1, r1, r2, r3, r4, r5⟩
        · exact absurd (by rw [l2 _ id h2]; exact r _) hl
        · exact .inr ⟨h2, h1, r5 k hk⟩
    rcases key i hi li k hNi with ⟨a1, a2⟩ | ⟨a1, a2, a3⟩ <;> rcases key j hj lj k hNj with ⟨b1, b2⟩ | ⟨b1, b2, b3⟩
    · simp only [a1, b1, if_true] at hNi hNj
      exact p3 i j k a1 b1 (by rw [l1 _ i a1] at li; exact li) (by rw [l1 _ j b1] at lj; exact lj) hNi hNj
    · exact absurd b3 (hAB k a2)
    · exact absurd a3 (hAB k b2)
    · simp only [a2, b2, if_false] at hNi hNj
      exact q3 i j k a1 b1 (by rw [l2 _ i a1, at2 i a1 _ (fun _ => none)] at li; exact li) (by rw [l2 _ j b1, at2 j b1 _ (fun _ => none)] at lj; exact lj) hNi hNj

theorem backC_ok (H : HOk w0 O w S g h U) {x y d : V} {c : Value} {ids : List Nat} {us : List (Nat × Option Blk)} {N : Nat → Prop} (hcl : clC h x = some (y, ids)) (hx : VR w S g h x c) (hb : backC h x d = some us) (ho : OW w' d c N) : Piece w' S g h ids us N := by
  cases x with
  | own id =>
    simp only [clC] at hcl
    split at hcl
    · rename_i sz els hbk
      simp only [Option.some.injEq, Prod.mk.injEq] at hcl
      obtain ⟨_, rfl⟩ := hcl
      cases d with
      | lst sz' l =>
        simp only [backC, hbk] at hb
        split at hb
        · rename_i hs
          subst hs
          cases hb
          obtain ⟨_, rfl⟩ := hx.inv_own hbk (H.notDead hbk)
          have hlen := ho.len_le.2
          refine ⟨fun h0 j hj => ?_, fun _ => N, ?_, ?_⟩
          · simp only [List.mem_singleton] at hj
            simp [updsH, updH, hj]
          · intro id' hid'
            simp only [List.mem_singleton] at hid'
            subst hid'
            refine .inr ⟨⟨.arr, sz, els⟩, ⟨.arr, sz, l⟩, hbk, fun h0 => by simp [updsH, updH], ⟨rfl, rfl, hlen.symm⟩, by show OW w' (.lst sz l) (.slice (g.base id') l.length (g.cap id')) N; rw [← hlen]; exact ho, fun k hk => hk⟩
          · intro i j k hi hj _ _ _ _
            simp only [List.mem_singleton] at hi hj
            rw [hi, hj]
        · cases hb
      | _ => simp [backC] at hb
    · cases hcl
  | int k m => simp only [clC, Option.some.injEq, Prod.mk.injEq] at hcl; simp only [backC, Option.some.injEq] at hb; obtain ⟨_, rfl⟩ := hcl; subst hb; exact Piece.nil.weak fun _ h => h.elim
  | bool b => simp only [clC, Option.some.injEq, Prod.mk.injEq] at hcl; simp only [backC, Option.some.injEq] at hb; obtain ⟨_, rfl⟩ := hcl; subst hb; exact Piece.nil.weak fun _ h => h.elim
  | str s => simp only [clC, Option.some.injEq, Prod.mk.injEq] at hcl; simp only [backC, Option.some.injEq] at hb; obtain ⟨_, rfl⟩ := hcl; subst hb; exact Piece.nil.weak fun _ h => h.elim
  | nils sz => simp only [clC, Option.some.injEq, Prod.mk.injEq] at hcl; simp only [backC, Option.some.injEq] at hb; obtain ⟨_, rfl⟩ := hcl; subst hb; exact Piece.nil.weak fun _ h => h.elim
  | win id lo len => simp [backC] at hb
  | raw a n k => simp [backC] at hb
  | _ => simp [clC] at hcl

theorem backL_ok (H : HOk w0 O w S g h U) : ∀ {l ys m : List V} {cs : List Value} {ids : List Nat} {us : List (Nat × Option Blk)} {Ns : Nat → Nat → Prop}, clL h l = some (ys, ids) → ids.Nodup → l.length = cs.length →
    (∀ (i : Nat) x c, l[i]? = some x → cs[i]? = some c → VR w S g h x c) → backL h l m = some us → (∀ (i : Nat) d c, m[i]? = some d → cs[i]? = some c → OW w' d c (Ns i)) →
    (∀ i j k, i < m.length → j < m.length → Ns i k → Ns j k → i = j) → m.length = l.length ∧ Piece w' S g h ids us (fun k => ∃ i, i < m.length ∧ Ns i k)
  | [], ys, m, cs, ids, us, Ns, hcl, _, _, _, hb, _, _ => by
    cases m with
    | nil =>
      simp only [clL, Option.some.injEq, Prod.mk.injEq] at hcl
      simp only [backL, Option.some.injEq] at hb
      obtain ⟨_, rfl⟩ := hcl
      subst hb
      exact ⟨rfl, Piece.nil.weak fun _ h => h.elim⟩
    | cons => simp [backL] at hb
  | x :: l, ys, m, [], ids, us, Ns, _, _, hl, _, _, _, _ => by simp at hl
  | x :: l, ys, m, c :: cs, ids, us, Ns, hcl, hn, hl, hr, hb, ho, hd => by
    cases m with
    | nil => simp [backL] at hb
    | cons d m =>
      simp only [clL, Option.bind_eq_some_iff, Option.map_eq_some_iff] at hcl
      obtain ⟨⟨y, i1⟩, hy, ⟨ys', i2⟩, hys, hcl⟩ := hcl
      simp only [Prod.mk.injEq] at hcl
      obtain ⟨rfl, rfl⟩ := hcl
      simp only [backL, Option.bind_eq_some_iff, Option.map_eq_some_iff] at hb
      obtain ⟨u1, hu1, u2, hu2, rfl⟩ := hb
      rw [List.nodup_append] at hn
      have p1 := backC_ok H hy (hr 0 x c rfl rfl) hu1 (ho 0 d c rfl rfl)
      obtain ⟨e2, p2⟩ := backL_ok H (Ns := fun i => Ns (i + 1)) hys hn.2.1 (by simpa using hl) (fun i x c hx hc => hr (i + 1) x c (by simpa using hx) (by simpa using hc)) hu2 (fun i d c hd hc => ho (i + 1) d c (by simpa using hd) (by simpa using hc))
        (fun i j k hi hj h1 h2 => by have := hd (i + 1) (j + 1) k (by simpa using hi) (by simpa using hj) h1 h2; omega)
      refine ⟨by simp [e2], (p1.append p2 (fun id i1 i2 => hn.2.2 id i1 id i2 rfl) ?_).weak ?_⟩
      · rintro k h1 ⟨i, hi, h2⟩
        have := hd 0 (i + 1) k (by simp) (by simpa using hi) h1 h2
        omega
      · rintro k (h1 | ⟨i, hi, h2⟩)
        · exact ⟨0, by simp, h1⟩
        · exact ⟨i + 1, by simpa using hi, h2⟩

theorem backA_ok (H : HOk w0 O w S g h U) {x y d : V} {c : Value} {ids : List Nat} {us : List (Nat × Option Blk)} {N : Nat → Prop} (hcl : clA h x = some (y, ids)) (hn : ids.Nodup) (hx : VR w S g h x c) (hb : backA h x d = some us) (ho : OW w' d c N) : Piece w' S g h ids us N := by
  by_cases hagg : ∃ l, x = .agg l
  · obtain ⟨l, rfl⟩ := hagg
    simp only [clA, Option.map_eq_some_iff] at hcl
    obtain ⟨⟨ys, ids'⟩, hys, hcl⟩ := hcl
    simp only [Prod.mk.injEq] at hcl
    obtain ⟨rfl, rfl⟩ := hcl
    obtain ⟨cs, rfl, hl, hr⟩ := hx.inv_agg
    cases d with
    | agg m =>
      simp only [backA] at hb
      cases ho with
      | agg _ _ Ns hl' hr' hd' =>
        exact (backL_ok H (Ns := Ns) hys hn (cs := cs.toList) (by simpa using hl) (fun i x c hx hc => hr i x c hx (by simpa using hc)) hb (fun i d c hd hc => hr' i d c hd (by simpa using hc)) hd').2
    | _ => simp [backA, backC] at hb
  · have e1 : clA h x = clC h x := by cases x <;> first | rfl | (rename_i l; exact absurd ⟨l, rfl⟩ hagg)
    have e2 : backA h x d = backC h x d := by cases x <;> first | rfl | (rename_i l; exact absurd ⟨l, rfl⟩ hagg)
    rw [e1] at hcl; rw [e2] at hb
    exact backC_ok H hcl hx hb ho

theorem piece_gone : ∀ (ids : List Nat), Piece w' S g h ids (ids.map fun i => (i, (none : Option Blk))) (fun _ => False)
  | [] => Piece.nil
  | i :: ids => by
    have hm : ∀ (l : List Nat) (h0 : Heap) j, updsH h0 (l.map fun i => (i, (none : Option Blk))) j = if j ∈ l then none else h0 j := by
      intro l h0 j
      have := congrFun (updsH_gone (h := h0) l []) j
      simpa [gone, updsH] using this
    refine ⟨fun h0 j hj => by rw [hm, if_neg hj], fun _ _ => False, fun id hid => .inl fun h0 => by rw [hm, if_pos hid], fun i j k _ _ _ _ h => h.elim⟩

theorem ptrBack_ok (H : HOk w0 O w S g h U) {x y d : V} {c : Value} {id : Nat} {us : List (Nat × Option Blk)} {N : Nat → Prop} (hcl : ptrIn h x = some (y, id)) (hx : VR w S g h x c) (hb : ptrBack h x d = some us) (ho : BoxR w' S d c N) : Piece w' S g h [id] us N := by
  unfold ptrIn at hcl
  split at hcl
  · rename_i id'
    split at hcl
    · rename_i sz x' hbk
      split at hcl
      · simp only [Option.some.injEq, Prod.mk.injEq] at hcl
        obtain ⟨_, rfl⟩ := hcl
        obtain ⟨v, ad, cur, e, fr, rfl, rfl, h2, h3, h4, h5, h8, h9, h10, h11⟩ := ho
        simp only [ptrBack, hbk] at hb
        split at hb
        · rename_i hs
          cases hb
          obtain ⟨ad', hbase, _, hc⟩ := hx.inv_ptr hbk (H.notDead hbk)
          obtain ⟨ad2, cur2, e2, fr2, v2, k1, k2, k3, _⟩ := H.blk _ _ hbk
          rw [hbase] at k1; cases k1
          have had : ad = ad' := by
            obtain ⟨b', o', sp'⟩ := ad'
            obtain ⟨b'', o'', sp''⟩ := ad
            simp only at k2 k3 h2 h3
            subst k2 k3 h2 h3
            simpa using hc
          subst had
          refine ⟨fun h0 j hj => ?_, fun _ => N, ?_, ?_⟩
          · simp only [List.mem_singleton] at hj
            simp [updsH, updH, hj]
          · intro id' hid'
            simp only [List.mem_singleton] at hid'
            subst hid'
            exact .inr ⟨⟨.box, sz, [x']⟩, ⟨.box, sz, [v]⟩, hbk, fun h0 => by simp [updsH, updH], ⟨rfl, rfl, rfl⟩, ⟨ad, cur, e, fr, v, hbase, h2, h3, h4, h5, rfl, hs.symm, h8, h9, h10, h11⟩, fun k hk => hk⟩
          · intro i j k hi hj _ _ _ _
            simp only [List.mem_singleton] at hi hj
            rw [hi, hj]
        · cases hb
      · cases hcl
    · cases hcl
  · cases hcl

theorem backs_ok (H : HOk w0 O w S g h U) : ∀ {ms : List Mode} {vs outs : List V} {cs : List Value} {r : List V × List Nat × List Nat} {us : List (Nat × Option Blk)} {Ns : List (Nat → Prop)}, argsIn h ms vs = some r → Two (VR w S g h) vs cs → r.2.1.Nodup →
    backs h ms vs outs = some us → OutsOk w' S ms outs cs Ns → DisjS Ns → Piece w' S g h r.2.1 us (AnyS Ns)
  | [], [], outs, _, r, us, Ns, hv, hc, _, hb, ho, _ => by
    cases hc
    cases ho
    simp only [argsIn, Option.some.injEq] at hv
    subst hv
    simp only [backs, Option.some.injEq] at hb
    subst hb
    exact Piece.nil.weak fun _ h => h.elim
  | [], _ :: _, _, _, r, us, Ns, hv, _, _, _, _, _ => by simp [argsIn] at hv
  | m :: ms, [], _, _, r, us, Ns, hv, _, _, _, _, _ => by cases m <;> simp [argsIn] at hv
  | m :: ms, v :: vs, outs, _, r, us, Ns, hv, hc, hn, hb, ho, hd => by
    cases hc with
    | cons hx ht =>
      rename_i c cs
      cases m with
      | rd =>
        simp only [argsIn, Option.bind_eq_some_iff, Option.map_eq_some_iff] at hv
        obtain ⟨d, hd', r', hr', rfl⟩ := hv
        simp only [backs] at hb
        cases ho with
        | no hm t => exact (backs_ok H hr' ht hn hb t hd.tail).weak fun k hk => AnyS.cons.2 (.inr hk)
      | ptr =>
        simp only [argsIn, Option.bind_eq_some_iff, Option.map_eq_some_iff] at hv
        obtain ⟨⟨y, id⟩, hy, r', hr', rfl⟩ := hv
        simp only at hn ⊢
        rw [List.nodup_cons] at hn
        cases ho with
        | no hm t => simp at hm
        | pt h1 t =>
          simp only [backs, Option.bind_eq_some_iff, Option.map_eq_some_iff] at hb
          obtain ⟨u1, hu1, u2, hu2, rfl⟩ := hb
          have p1 := ptrBack_ok H hy hx hu1 h1
          have p2 := backs_ok H hr' ht hn.2 hu2 t hd.tail
          exact (p1.append p2 (fun i i1 i2 => by simp only [List.mem_singleton] at i1; subst i1; exact hn.1 i2) hd.head).weak fun k hk => AnyS.cons.2 hk
      | io =>
        simp only [argsIn, Option.bind_eq_some_iff, Option.map_eq_some_iff] at hv
        obtain ⟨⟨y, ids⟩, hy, r', hr', rfl⟩ := hv
        simp only at hn ⊢
        rw [List.nodup_append] at hn
        cases ho with
        | no hm t => simp at hm
        | io h1 t =>
          simp only [backs, Option.bind_eq_some_iff, Option.map_eq_some_iff] at hb
          obtain ⟨u1, hu1, u2, hu2, rfl⟩ := hb
          have p1 := backA_ok H hy hn.1 hx hu1 h1
          have p2 := backs_ok H hr' ht hn.2.1 hu2 t hd.tail
          exact (p1.append p2 (fun id i1 i2 => hn.2.2 id i1 id i2 rfl) hd.head).weak fun k hk => AnyS.cons.2 hk
      | use =>
        simp only [argsIn, Option.bind_eq_some_iff, Option.map_eq_some_iff] at hv
        obtain ⟨⟨y, ids⟩, hy, r', hr', rfl⟩ := hv
        simp only at hn ⊢
        rw [List.nodup_append] at hn
        have hids := (clA_ow H hy hn.1 hx).1
        cases ho with
        | no hm t =>
          simp only [backs, Option.map_eq_some_iff] at hb
          obtain ⟨u2, hu2, rfl⟩ := hb
          have p2 := backs_ok H hr' ht hn.2.1 hu2 t hd.tail
          rw [hids]
          exact ((piece_gone ids).append p2 (fun id i1 i2 => hn.2.2 id i1 id i2 rfl) (fun _ h => h.elim)).weak fun k hk => AnyS.cons.2 (.inr (hk.resolve_left id))

theorem two_length {α β : Type} {R : α → β → Prop} {l : List α} {m : List β} (t : Two R l m) : l.length = m.length := by
  induction t with
  | nil => rfl
  | cons _ _ ih => simp [ih]

theorem OutsOk.noPtr {S S' : Nat → Prop} {ms : List Mode} {outs : List V} {cs : List Value} {Ns : List (Nat → Prop)} (h : OutsOk w S ms outs cs Ns) : hasPtr ms = false → OutsOk w S' ms outs cs Ns := by
  induction h with
  | nil => exact fun _ => .nil
  | io h t ih => exact fun hp => .io h (ih (by simpa [hasPtr] using hp))
  | no hm t ih => exact fun hp => .no hm (ih (by rcases hm with rfl | rfl <;> simpa [hasPtr] using hp))
  | pt h t ih => exact fun hp => by simp [hasPtr] at hp
theorem newB_ok {g' : G} {h' : Heap} {id : Nat} {b b' : Blk} {N : Nat → Prop} (hk : b'.kind = b.kind ∧ b'.sz = b.sz ∧ b'.els.length = b.els.length) (hn : NewB w' S b' (g.base id) (g.cap id) N) (ho : BlkOk w S g h id b)
    (e1 : g'.base id = g.base id) (e2 : g'.cap id = g.cap id) (e3 : ∀ k, g'.N id k ↔ N k) : BlkOk w' S g' h' id b' := by
  have e3' : g'.N id = N := funext fun k => propext (e3 k)
  obtain ⟨k0, s0, l0⟩ := b
  obtain ⟨k1, s1, l1⟩ := b'
  simp only at hk
  obtain ⟨rfl, rfl, hl⟩ := hk
  cases k1 with
  | opn i => exact hn.elim
  | map => exact hn.elim
  | arr =>
    refine ⟨by rw [e1, e2, e3']; exact hn, fun ad had => ho.2 ad (by rw [← e1]; exact had)⟩
  | box =>
    obtain ⟨ad, cur, e, fr, v, h1, h2, h3, h4, h5, h6, h7, h8, h9, h10, h11⟩ := hn
    exact ⟨ad, cur, e, fr, v, e1.trans h1, h2, h3, h4, h5, h6, h7, h8, h9, fun j y c hy hc => .rd _ _ (h10 j y c hy hc), fun k => by rw [e3']; exact h11 k⟩
/-- A pointer of its own is taken in. -/
theorem HOk.addBox (H : HOk w0 O w S g h U) {id : Nat} {v : V} {c : Value} {N : Nat → Prop} (hb : BoxR w S (.rptr v) c N) (hU : ¬ U id) (hdis : ∀ j b k, h j = some b → g.N j k → ¬ N k) (hN : ∀ k, N k → ¬ S k ∧ (w0.heap.size ≤ k ∨ O k)) :
    ∃ g', HOk w0 O w S g' (updH h id (some ⟨.box, v.cells.length, [v]⟩)) (fun k => U k ∨ k = id) ∧ Tr w S g h w S g' (updH h id (some ⟨.box, v.cells.length, [v]⟩)) ∧
      VR w S g' (updH h id (some ⟨.box, v.cells.length, [v]⟩)) (.ptr id 0 none) c ∧ g'.N id = N ∧ (∀ j, j ≠ id → g'.N j = g.N j) := by
  obtain ⟨v', ad, cur, e, fr, hv', rfl, h2, h3, h4, h5, h8, h9, h10, h11⟩ := hb
  cases hv'
  have hnone : h id = none := by
    cases hh : h id with
    | none => rfl
    | some b => exact absurd (H.used id (.inl (by simp [hh]))) hU
  have hndead : ¬ g.dead id := fun hd => hU (H.used id (.inr hd))
  let g' := g.set id (some ad) 0 N
  have tr : Tr w S g h w S g' (updH h id (some ⟨.box, v.cells.length, [v]⟩)) := by
    refine Tr.of (fun _ _ => rfl) (fun _ h => h) (fun _ h => h) fun j b hb => .inr ⟨b, ?_, rfl, rfl, rfl, ?_, ?_⟩
    all_goals
      have hne : j ≠ id := fun e => by rw [e, hnone] at hb; cases hb
      simp [updH, g', G.set, hne, hb]
  refine ⟨g', H.change tr H.fr H.slt ?_ ?_ ?_ ?_, tr, ?_, by simp [g', G.set], fun j hj => by simp [g', G.set, hj]⟩
  · intro j b hb
    by_cases hj : j = id
    · subst hj
      simp [updH] at hb
      subst hb
      refine .inr ⟨⟨ad, cur, e, fr, v, by simp [g', G.set], h2, h3, h4, h5, rfl, rfl, h8, h9, fun j y c hy hc => .rd _ _ (h10 j y c hy hc), fun k => by simpa [g', G.set] using h11 k⟩, fun k hk => hN k (by simpa [g', G.set] using hk)⟩
    · simp only [updH, hj, if_false] at hb
      refine .inl ⟨hb, by simp [g', G.set, hj], by simp [g', G.set, hj], by simp [g', G.set, hj], fun k hk => ⟨rfl, (H.own j b k hb hk).1⟩⟩
  · intro i j b b' k hi hj hNi hNj
    by_cases ei : i = id <;> by_cases ej : j = id
    · rw [ei, ej]
    · simp only [updH, ej, if_false] at hj
      simp only [g', G.set, ei, ej, if_true, if_false] at hNi hNj
      exact absurd hNi (hdis j b' k hj hNj)
    · simp only [updH, ei, if_false] at hi
      simp only [g', G.set, ei, ej, if_true, if_false] at hNi hNj
      exact absurd hNj (hdis i b k hi hNi)
    · simp only [updH, ei, ej, if_false] at hi hj
      simp only [g', G.set, ei, ej, if_false] at hNi hNj
      exact H.disj i j b b' k hi hj hNi hNj
  · rintro j (hj | hj)
    · by_cases e : j = id
      · exact .inr e
      · simp only [updH, e, if_false] at hj
        exact .inl (H.used j (.inl hj))
    · exact .inl (H.used j (.inr hj))
  · intro j hj
    have e : j ≠ id := fun e => hndead (e ▸ hj)
    simp only [updH, e, if_false]
    exact H.dead j hj
  · have := VR.ptr (w := w) (S := S) (g := g') (h := updH h id (some ⟨.box, v.cells.length, [v]⟩)) id 0 none ⟨.box, v.cells.length, [v]⟩ ad (by simp [updH]) (by simp [g', G.set]) (by simp)
    obtain ⟨b', o', sp'⟩ := ad
    simp only at h2 h3
    subst h2 h3
    simpa using this
theorem adR_ok (H : HOk w0 O w S g h U) {v : V} {c : Value} {N : Nat → Prop}
    (how : ResOk w S v c N) (hU : ∀ k, n ≤ k → k < n + stride → ¬ U k) (hdis : ∀ j b k, h j = some b → g.N j k → ¬ N k) (hN : ∀ k, N k → ¬ S k ∧ (w0.heap.size ≤ k ∨ O k)) :
    ∃ g', HOk w0 O w S g' (updsH h (adR n v).2) (fun k => U k ∨ (n ≤ k ∧ k < n + stride)) ∧ Tr w S g h w S g' (updsH h (adR n v).2) ∧ VR w S g' (updsH h (adR n v).2) (adR n v).1 c := by
  by_cases hr : ∃ x, v = .rptr x
  · obtain ⟨x, rfl⟩ := hr
    rcases how with how | how
    · cases how
    · obtain ⟨g', H', tr, hv, _, _⟩ := H.addBox how (hU n (Nat.le_refl _) (by simp only [stride]; omega)) hdis hN
      exact ⟨g', H'.weak (by rintro k (hk | rfl); exact .inl hk; exact .inr ⟨Nat.le_refl _, by simp only [stride]; omega⟩), tr, hv⟩
  · have e : adR n v = adT n v := by cases v <;> first | rfl | exact absurd ⟨_, rfl⟩ hr
    rcases how with how | ⟨x, _, _, _, _, rfl, _⟩
    · rw [e]
      obtain ⟨g', t, hv⟩ := adT_ok H how hU hdis hN
      exact ⟨g', t.ok, t.tr, hv⟩
    · exact absurd ⟨_, rfl⟩ hr

/-- A call of a function that is known. -/
theorem call_ok {Φ : Tab} (hΦ : ∀ f sp, Φ f = some sp → FnAt P w0 O f sp) (H : HOk w0 O w S g h U) {f : Nat} {vs : List V} {cs : List Value} {v : V} {us : List (Nat × Option Blk)} (hv : callV Φ h n f vs = some (v, us)) (hc : Two (VR w S g h) vs cs)
    (hU : ∀ i, n ≤ i → i < n + stride → ¬ U i) :
    Gives P f cs.toArray w fun e w' => ∃ cv g', e = .returned cv ∧ HOk w0 O w' S g' (updsH h us) (fun k => U k ∨ (n ≤ k ∧ k < n + stride)) ∧ Tr w S g h w' S g' (updsH h us) ∧ VR w' S g' (updsH h us) v cv := by
  unfold callV at hv
  split at hv
  · cases hv
  · rename_i sp hsp
    split at hv
    · cases hv
    · rename_i ins hins
      split at hv
      · rename_i hchk
        simp only [Bool.and_eq_true, nodupB_iff, disjB, List.all_eq_true, Bool.not_eq_true', List.contains_eq_mem, decide_eq_false_iff_not] at hchk
        split at hv
        · cases hv
        · rename_i r hrun
          split at hv
          · cases hv
          · rename_i ub hub
            split at hv
            · cases hv
            rename_i hstr
            simp only [Option.some.injEq, Prod.mk.injEq] at hv
            obtain ⟨rfl, rfl⟩ := hv
            obtain ⟨ins, W, R⟩ := ins
            obtain ⟨res, outs⟩ := r
            simp only at hchk hrun hub hstr ⊢
            have hfn := hΦ f sp hsp
            obtain ⟨Z, hZS, hZR, hZW, hZk⟩ : ∃ Z : Nat → Prop, (∀ k, S k → Z k) ∧ Cov w S g h R Z ∧ (∀ k, Z k → k < w.heap.size ∧ ∀ id ∈ W, h id ≠ none → ¬ g.N id k) ∧ ((hasPtr sp.modes = true ∨ isRp res = true) → Z = S) := by
              by_cases hR : R = []
              · subst hR
                exact ⟨S, fun _ h => h, Cov.nil, fun k hk => ⟨H.slt k hk, fun id _ hl hN => by
                  obtain ⟨b, hb⟩ := Option.ne_none_iff_exists'.1 hl
                  exact (H.own id b k hb hN).1 hk⟩, fun _ => rfl⟩
              · refine ⟨Rest w g h W, rest_S H W, ⟨rest_S H W, fun id hid b hb k hk => rest_N H hb (fun hW => hchk.2 id hW hid) k hk⟩, fun k hk => hk, fun hh => ?_⟩
                exfalso
                apply hstr
                have : R.isEmpty = false := by cases R <;> simp_all
                rcases hh with hh | hh <;> simp [hh, this]
            obtain ⟨hWl, Ns, hargs, hNd, hNin⟩ := argsIn_ok H hZS hins hc hchk.1 hZR
            have hNW : ∀ k, AnyS Ns k → ∃ id ∈ W, h id ≠ none ∧ g.N id k := hNin
            refine (hfn w Z ins res outs cs Ns H.fr (fun k hk => by
              obtain ⟨id, i1, i2, i3⟩ := hNW k hk
              obtain ⟨b', hb'⟩ := Option.ne_none_iff_exists'.1 i2
              exact (H.own id b' k hb' i3).2) hrun hargs hNd ?_ (fun k hk => (hZW k hk).1)).mono ?_
            · intro k hk
              obtain ⟨id, h1, h2, h3⟩ := hNW k hk
              obtain ⟨b, hb⟩ := Option.ne_none_iff_exists'.1 h2
              exact ⟨fun hr => (hZW k hr).2 id h1 h2 h3, H.lt id b k hb h3⟩
            · rintro ev w' ⟨cv, NR, NOs, rfl, hfr, how, houts, hdis, hlt⟩
              have houts : OutsOk w' S sp.modes outs cs NOs := by
                by_cases hp : hasPtr sp.modes = true
                · rw [← hZk (.inl hp)]; exact houts
                · exact houts.noPtr (by simpa using hp)
              obtain ⟨p1, N', p2, p3⟩ := backs_ok H hins hc hchk.1 hub houts hdis.tail
              simp only at p1 p2 p3
              have hat : ∀ id ∈ W, ∀ h0, updsH h0 ub id = updsH (fun _ => none) ub id := by
                intro id hid h0
                rcases p2 id hid with q | ⟨b0, b1, q1, q2, _⟩
                · rw [q, q]
                · rw [q2, q2]
              let g1 : G := { base := g.base, cap := g.cap, N := fun j => if j ∈ W then N' j else g.N j, dead := fun j => g.dead j ∨ (j ∈ W ∧ updsH h ub j = none) }
              have hkeep : ∀ j b k, j ∉ W → h j = some b → g.N j k → w'.heap[k]? = w.heap[k]? := by
                intro j b k hj hb hk
                refine hfr.block k (H.lt j b k hb hk) fun hN => ?_
                obtain ⟨id, h1, h2, h3⟩ := hNW k hN
                obtain ⟨b', hb'⟩ := Option.ne_none_iff_exists'.1 h2
                have := H.disj j id b b' k hb hb' hk h3
                subst this
                exact hj h1
              have hSk : ∀ k, S k → w'.heap[k]? = w.heap[k]? := fun k hk => hfr.block k (H.slt k hk) fun hN => by
                obtain ⟨id, h1, h2, h3⟩ := hNW k hN
                obtain ⟨b', hb'⟩ := Option.ne_none_iff_exists'.1 h2
                exact (H.own id b' k hb' h3).1 hk
              have hplace : ∀ k, AnyS (NR :: NOs) k → ¬ S k ∧ (w0.heap.size ≤ k ∨ O k) := by
                intro k hk
                rcases (hlt k hk).2 with h1 | h1
                · exact ⟨fun hS => by have := H.slt k hS; omega, .inl (Nat.le_trans H.fr.size h1)⟩
                · obtain ⟨id, i1, i2, i3⟩ := hNW k h1
                  obtain ⟨b', hb'⟩ := Option.ne_none_iff_exists'.1 i2
                  exact H.own id b' k hb' i3
              have hfar : ∀ k j b, AnyS (NR :: NOs) k → j ∉ W → h j = some b → ¬ g.N j k := by
                intro k j b hk hj hb hN
                rcases (hlt k hk).2 with h1 | h1
                · have := H.lt j b k hb hN; omega
                · obtain ⟨id, i1, i2, i3⟩ := hNW k h1
                  obtain ⟨b', hb'⟩ := Option.ne_none_iff_exists'.1 i2
                  have := H.disj j id b b' k hb hb' hN i3
                  subst this
                  exact hj i1
              have tr1 : Tr w S g h w' S g1 (updsH h ub) := by
                refine Tr.of hSk (fun _ h => h) (fun _ h => .inl h) fun id b hb => ?_
                by_cases hW : id ∈ W
                · rcases p2 id hW with q | ⟨b0, b1, q1, q2, q3, q4, q5⟩
                  · exact .inl (.inr ⟨hW, q h⟩)
                  · rw [q1] at hb; cases hb
                    exact .inr ⟨_, q2 h, by rw [q3.1], q3.2.1, q3.2.2, rfl, rfl⟩
                · exact .inr ⟨b, by rw [p1 h id hW]; exact hb, rfl, rfl, rfl, rfl, rfl⟩
              have hN1 : ∀ j b k, updsH h ub j = some b → g1.N j k → (j ∈ W ∧ N' j k ∧ AnyS NOs k) ∨ (j ∉ W ∧ g.N j k ∧ h j = some b) := by
                intro j b k hb hk
                by_cases hW : j ∈ W
                · have hk' : N' j k := by simpa [g1, hW] using hk
                  rcases p2 j hW with q | ⟨b0, b1, q1, q2, q3, q4, q5⟩
                  · rw [q h] at hb; cases hb
                  · exact .inl ⟨hW, hk', q5 k hk'⟩
                · exact .inr ⟨hW, by simpa [g1, hW] using hk, by rw [← p1 h j hW]; exact hb⟩
              have hfr' : Fr w0 w' O := ⟨hfr.os.trans H.fr.os, hfr.tape.trans H.fr.tape, hfr.output.trans H.fr.output, Nat.le_trans H.fr.size hfr.size, fun k hk hno => by
                have hk' := Nat.lt_of_lt_of_le hk H.fr.size
                refine (hfr.block k hk' fun hN => ?_).trans (H.fr.block k hk hno)
                obtain ⟨id, i1, i2, i3⟩ := hNW k hN
                obtain ⟨b', hb'⟩ := Option.ne_none_iff_exists'.1 i2
                rcases (H.own id b' k hb' i3).2 with q | q
                · omega
                · exact hno q⟩
              have H1 : HOk w0 O w' S g1 (updsH h ub) U := by
                refine H.change tr1 hfr' (fun k hk => Nat.lt_of_lt_of_le (H.slt k hk) hfr.size) ?_ ?_ ?_ ?_
                · intro j b hb
                  by_cases hW : j ∈ W
                  · rcases p2 j hW with q | ⟨b0, b1, q1, q2, q3, q4, q5⟩
                    · rw [q h] at hb; cases hb
                    · rw [q2 h] at hb; cases hb
                      refine .inr ⟨newB_ok (g' := g1) q3 q4 (H.blk j _ q1) rfl rfl (fun k => by simp [g1, hW]), fun k hk => ?_⟩
                      exact hplace k (AnyS.cons.2 (.inr (q5 k (by simpa [g1, hW] using hk))))
                  · rw [p1 h j hW] at hb
                    exact .inl ⟨hb, by simp [g1, hW], rfl, rfl, fun k hk => ⟨hkeep j b k hW hb hk, (H.own j b k hb hk).1⟩⟩
                · intro i j b b' k hi hj hNi hNj
                  rcases hN1 i b k hi hNi with ⟨a1, a2, a3⟩ | ⟨a1, a2, a3⟩ <;> rcases hN1 j b' k hj hNj with ⟨c1, c2, c3⟩ | ⟨c1, c2, c3⟩
                  · exact p3 i j k a1 c1 (by rw [← hat i a1 h, hi]; simp) (by rw [← hat j c1 h, hj]; simp) a2 c2
                  · exact absurd c2 (hfar k j b' (AnyS.cons.2 (.inr a3)) c1 c3)
                  · exact absurd a2 (hfar k i b (AnyS.cons.2 (.inr c3)) a1 a3)
                  · exact H.disj i j b b' k a3 c3 a2 c2
                · rintro id (hid | hid | hid)
                  · by_cases hW : id ∈ W
                    · exact H.used id (.inl (hWl id hW))
                    · rw [p1 h id hW] at hid; exact H.used id (.inl hid)
                  · exact H.used id (.inr hid)
                  · exact H.used id (.inl (hWl id hid.1))
                · rintro id (hid | hid)
                  · have h0 := H.dead id hid
                    have hW : id ∉ W := fun hW => hWl id hW h0
                    rw [p1 h id hW]; exact h0
                  · exact hid.2
              have hfarR : ∀ j b k, updsH h ub j = some b → g1.N j k → ¬ NR k := fun j b k hb hN hNR => by
                rcases hN1 j b k hb hN with ⟨a1, a2, a3⟩ | ⟨a1, a2, a3⟩
                · exact hdis.head k hNR a3
                · exact hfar k j b (AnyS.cons.2 (.inl hNR)) a1 a3 a2
              obtain ⟨g2, H2, tr2, hvr⟩ := adR_ok (n := n) H1 (how.imp (fun h => h) (fun hb => by
                have : isRp res = true := by obtain ⟨v, _, _, _, _, rfl, _⟩ := hb; rfl
                rw [hZk (.inr this)] at hb; exact hb)) hU hfarR (fun k hk => hplace k (AnyS.cons.2 (.inl hk)))
              rw [updsH_append]
              exact ⟨cv, g2, rfl, H2, tr1.trans tr2, hvr⟩
      · cases hv

end
end Go.VM

