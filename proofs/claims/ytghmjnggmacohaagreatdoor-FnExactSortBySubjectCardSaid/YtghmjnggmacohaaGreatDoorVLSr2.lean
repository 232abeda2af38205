/- Contracts of functions, and the facts that they need. No condition. -/
import Derived.Test.YtghmjnggmacohaaGreatDoorVLSm3

namespace Go.Proofs.YtghmjnggmacohaaGreatDoor.L
open Go Go.VM
set_option maxRecDepth 100000
set_option maxHeartbeats 4000000
set_option linter.unusedSimpArgs false
set_option linter.unusedVariables false
def cmpT (a b : List UInt8) : Int := if Op.bytesLess a b = true then -1 else if (!(Op.bytesLess a b || a == b)) = true then 1 else 0
theorem cmpT_neg (a b : List UInt8) : cmpT a b < 0 ↔ Op.bytesLess a b = true := by
  unfold cmpT
  split
  · rename_i h; exact ⟨fun _ => h, fun _ => by decide⟩
  · rename_i h
    split
    · exact ⟨fun k => absurd k (by decide), fun k => absurd k h⟩
    · exact ⟨fun k => absurd k (by decide), fun k => absurd k h⟩
def ltS (x y : Mail) : Bool := Op.bytesLess (subjectOf x) (subjectOf y)
theorem ltS_t {x y : Mail} (h : ltS x y = true) : cmpT (subjectOf x) (subjectOf y) < 0 := (cmpT_neg _ _).2 h
theorem ltS_f {x y : Mail} (h : ltS x y = false) : ¬ cmpT (subjectOf x) (subjectOf y) < 0 := fun k => by have := (cmpT_neg _ _).1 k; rw [ltS] at h; rw [h] at this; cases this
def mailsLe (l : List Mail) : Prop := ∀ m ∈ l, Mail.le 4194304 m
theorem sw_le {l : List Mail} {i j : Nat} (h : mailsLe l) : mailsLe (SM.sw l i j) := by
  unfold SM.sw
  split
  · rename_i x y hx hy
    intro m hm
    rcases List.mem_or_eq_of_mem_set hm with hm | rfl
    · rcases List.mem_or_eq_of_mem_set hm with hm | rfl
      · exact h m hm
      · exact h _ (List.mem_of_getElem? hy)
    · exact h _ (List.mem_of_getElem? hx)
  · exact h
theorem sw_map {l : List Mail} {i j : Nat} {x y : Mail} (hi : l[i]? = some x) (hj : l[j]? = some y) : (SM.sw l i j).map Mail.enc = ((l.map Mail.enc).set i y.enc).set j x.enc := by
  unfold SM.sw
  rw [hi, hj]
  simp only [List.map_set]
theorem set_get {M : List Mail} {u v : Nat} (hv : v < M.length) (X : V) : ((M.map Mail.enc).set u X)[v]? = some (if u = v then X else Mail.enc M[v]) := by
  rw [List.getElem?_set, List.length_map, List.getElem?_map, List.getElem?_eq_getElem hv, Option.map_some]
  split
  · rename_i h; subst h; rw [if_pos hv]
  · rfl
open Classical in
noncomputable def spNaN : VM.Spec := { modes := [.rd], run := fun | [.str x] => some (.bool false, []) | _ => none, need := [] }
attribute [go_sem] spNaN
theorem spNaN_in {ins : List V} {r : V} {outs : List V} (h : spNaN.run ins = some (r, outs)) : ∃ (x : (List UInt8)), ins = [.str x] ∧ .bool false = r ∧ outs = [] := by
  unfold spNaN at h
  simp only at h
  split at h
  · rename_i x
    simp only [Option.some.injEq, Prod.mk.injEq] at h
    obtain ⟨h1, h2⟩ := h
    exact ⟨x, rfl, h1, h2.symm⟩
  · cases h
def T_cmp_isNaN_string : Hints := ⟨lk [], lk [], lk [(0, [0]), (1, [2])], lk []⟩
noncomputable def Phi_cmp_isNaN_string : Tab := lk []
attribute [go_sem] T_cmp_isNaN_string Phi_cmp_isNaN_string
theorem phi_cmp_isNaN_string : ∀ f sp, Phi_cmp_isNaN_string f = some sp → FnOk Tryz.prog f sp ∧ ∀ n ∈ sp.need, n ∈ ([] : List String) := phi_nil
theorem ok_cmp_isNaN_string : FnOk Tryz.prog 62 spNaN := by
  refine fn_ok (Φ := Phi_cmp_isNaN_string) (T := T_cmp_isNaN_string) phi_cmp_isNaN_string mixed Tryz.func62 rfl rfl rfl (by decide) ?_
  intro ins r outs hr hl
  clear hl
  have hs := spNaN_in hr
  clear hr
  obtain ⟨x, rfl, hr, rfl⟩ := hs
  simp only [spNaN, Tryz.f62, Go.VM.initS]
  simp only [bne_self_eq_false, go_sem]
  repeat' ((first | apply qa | apply qb | apply qc | apply qd | apply qe | apply qf | apply qg | apply qh | apply qi | apply qj | apply qk) <;> intro hp <;> simp only [hp, bne_self_eq_false, go_sem])
  simp only [fin_mk, finV, resL, resV1, resIn, endA, listIn, Option.some_or, Option.none_or, oneOrTup, go_sem]
  rw [← hr]
open Classical in
noncomputable def spCmpT : VM.Spec := { modes := [.rd, .rd], run := fun | [.str x, .str y] => some (.int .i64 (cmpT x y), []) | _ => none, need := [] }
attribute [go_sem] spCmpT
theorem spCmpT_in {ins : List V} {r : V} {outs : List V} (h : spCmpT.run ins = some (r, outs)) : ∃ (x : (List UInt8)) (y : (List UInt8)), ins = [.str x, .str y] ∧ .int .i64 (cmpT x y) = r ∧ outs = [] := by
  unfold spCmpT at h
  simp only at h
  split at h
  · rename_i x y
    simp only [Option.some.injEq, Prod.mk.injEq] at h
    obtain ⟨h1, h2⟩ := h
    exact ⟨x, y, rfl, h1, h2.symm⟩
  · cases h
def T_cmp_Compare_string : Hints := ⟨lk [], lk [], lk [(0, [0, 1]), (1, [0, 1, 5]), (2, [0, 1, 5, 6]), (3, [0, 1, 6, 11]), (4, [12]), (5, [4]), (6, [4]), (7, [0, 1, 13]), (8, [4]), (9, [0, 1, 16]), (10, [4]), (11, [19]), (12, [4]), (13, [4])], lk []⟩
noncomputable def Phi_cmp_Compare_string : Tab := lk [(62, spNaN)]
attribute [go_sem] T_cmp_Compare_string Phi_cmp_Compare_string
theorem phi_cmp_Compare_string : ∀ f sp, Phi_cmp_Compare_string f = some sp → FnOk Tryz.prog f sp ∧ ∀ n ∈ sp.need, n ∈ ([] : List String) := phi_cons ok_cmp_isNaN_string (n0 rfl) (phi_nil)
theorem ok_cmp_Compare_string : FnOk Tryz.prog 37 spCmpT := by
  refine fn_ok (Φ := Phi_cmp_Compare_string) (T := T_cmp_Compare_string) phi_cmp_Compare_string mixed Tryz.func37 rfl rfl rfl (by decide) ?_
  intro ins r outs hr hl
  clear hl
  have hs := spCmpT_in hr
  clear hr
  obtain ⟨x, y, rfl, hr, rfl⟩ := hs
  simp only [spCmpT, Tryz.f37, Go.VM.initS]
  cases h1 : Op.bytesLess x y with
  | true =>
    simp only [h1, go_sem]
    repeat' ((first | apply qa | apply qb | apply qc | apply qd | apply qe | apply qf | apply qg | apply qh | apply qi | apply qj | apply qk) <;> intro hp <;> simp only [hp, h1, go_sem])
    simp only [fin_mk, finV, resL, resV1, resIn, endA, listIn, Option.some_or, Option.none_or, oneOrTup, go_sem]
    rw [← hr]
    simp only [cmpT, h1, if_true]
  | false =>
    cases h2 : (x == y) with
    | true =>
      simp only [h1, h2, Bool.or_true, Bool.or_false, Bool.false_or, Bool.not_true, Bool.not_false, go_sem]
      repeat' ((first | apply qa | apply qb | apply qc | apply qd | apply qe | apply qf | apply qg | apply qh | apply qi | apply qj | apply qk) <;> intro hp <;> simp only [hp, h1, h2, Bool.or_true, Bool.or_false, Bool.false_or, Bool.not_true, Bool.not_false, go_sem])
      simp only [fin_mk, finV, resL, resV1, resIn, endA, listIn, Option.some_or, Option.none_or, oneOrTup, go_sem]
      rw [← hr]
      simp only [cmpT, h1, h2, Bool.or_true, Bool.not_true, Bool.false_eq_true, if_false]
    | false =>
      simp only [h1, h2, Bool.or_true, Bool.or_false, Bool.false_or, Bool.not_true, Bool.not_false, go_sem]
      repeat' ((first | apply qa | apply qb | apply qc | apply qd | apply qe | apply qf | apply qg | apply qh | apply qi | apply qj | apply qk) <;> intro hp <;> simp only [hp, h1, h2, Bool.or_true, Bool.or_false, Bool.false_or, Bool.not_true, Bool.not_false, go_sem])
      simp only [fin_mk, finV, resL, resV1, resIn, endA, listIn, Option.some_or, Option.none_or, oneOrTup, go_sem]
      rw [← hr]
      simp only [cmpT, h1, h2, Bool.or_false, Bool.not_false, Bool.false_eq_true, if_false, if_true]
open Classical in
noncomputable def spCmpM : VM.Spec := { modes := [.rd, .rd], run := fun | [x', y'] => (Mail.dec x').bind fun x => (Mail.dec y').bind fun y => if x.le 4194304 ∧ y.le 4194304 then some (.int .i64 (cmpT (subjectOf x) (subjectOf y)), []) else none | _ => none, need := ["internal/bytealg.MaxLen"] }
attribute [go_sem] spCmpM
theorem spCmpM_in {ins : List V} {r : V} {outs : List V} (h : spCmpM.run ins = some (r, outs)) : ∃ (x : Mail) (y : Mail), ins = [Mail.enc x, Mail.enc y] ∧ (x.le 4194304 ∧ y.le 4194304) ∧ .int .i64 (cmpT (subjectOf x) (subjectOf y)) = r ∧ outs = [] := by
  unfold spCmpM at h
  simp only at h
  split at h
  · rename_i x' y'
    simp only [Option.bind_eq_some_iff] at h
    obtain ⟨x, h_x, y, h_y, h⟩ := h
    split at h
    case isFalse => cases h
    rename_i hc
    simp only [Option.some.injEq, Prod.mk.injEq] at h
    obtain ⟨h1, h2⟩ := h
    have h_x := Mail.dec_some h_x
    subst h_x
    have h_y := Mail.dec_some h_y
    subst h_y
    exact ⟨x, y, rfl, hc, h1, h2.symm⟩
  · cases h
def T_impl_SortBySubject_1 : Hints := ⟨lk [(1, [(1, 2)])], lk [], lk [(0, [2, 3]), (1, [4])], lk []⟩
noncomputable def Phi_impl_SortBySubject_1 : Tab := lk [(38, spSubjectOf), (37, spCmpT)]
attribute [go_sem] T_impl_SortBySubject_1 Phi_impl_SortBySubject_1
theorem phi_impl_SortBySubject_1 : ∀ f sp, Phi_impl_SortBySubject_1 f = some sp → FnOk Tryz.prog f sp ∧ ∀ n ∈ sp.need, n ∈ (["internal/bytealg.MaxLen"] : List String) := phi_cons ok_impl_subjectOf (fun n (h : n ∈ (["internal/bytealg.MaxLen"] : List String)) => by simp only [List.mem_cons, List.not_mem_nil, or_false] at h; rcases h with rfl <;> simp) (phi_cons ok_cmp_Compare_string (n0 rfl) (phi_nil))
theorem ok_impl_SortBySubject_1 : FnOk Tryz.prog 36 spCmpM := by
  refine fn_ok (Φ := Phi_impl_SortBySubject_1) (T := T_impl_SortBySubject_1) phi_impl_SortBySubject_1 mixed Tryz.func36 rfl rfl rfl (by decide) ?_
  intro ins r outs hr hl
  clear hl
  have hs := spCmpM_in hr
  clear hr
  obtain ⟨x, y, rfl, hc, hr, rfl⟩ := hs
  simp only [spCmpM, Tryz.f36, Go.VM.initS]
  obtain ⟨hx, hy⟩ := hc
  simp only [hx, hy, go_sem]
  repeat' ((first | ((first | apply qa | apply qb | apply qc | apply qd | apply qe | apply qf | apply qg | apply qh | apply qi | apply qj | apply qk) <;> intro hp) | ((first | refine ql rfl rfl (by decide +kernel) ?_ | refine qm _ rfl rfl (by decide +kernel) ?_) <;> have hp := True.intro)) <;> simp only [hp, hx, hy, go_sem])
  simp only [fin_mk, finV, resL, resV1, resIn, endA, listIn, Option.some_or, Option.none_or, oneOrTup, go_sem]
  rw [← hr]
open Classical in
noncomputable def spSwR : VM.Spec := { modes := [.io, .rd, .rd, .rd, .rd], run := fun | [.lst 4 l', .int .i64 a, .int .i64 b, .int .i64 n, .fn 36 []] => (decL Mail.dec l').bind fun l => if (0 ≤ a ∧ 0 ≤ b ∧ 0 ≤ n) ∧ a + n ≤ l.length ∧ b + n ≤ l.length ∧ l.length ≤ 30 ∧ mailsLe l then some (.tup [], [.lst 4 ((SM.swR l a.toNat b.toNat n.toNat).map Mail.enc)]) else none | _ => none, need := [] }
attribute [go_sem] spSwR
theorem spSwR_in {ins : List V} {r : V} {outs : List V} (h : spSwR.run ins = some (r, outs)) : ∃ (l : (List Mail)) (a : Int) (b : Int) (n : Int), ins = [.lst 4 ((l).map Mail.enc), .int .i64 a, .int .i64 b, .int .i64 n, .fn 36 []] ∧ ((0 ≤ a ∧ 0 ≤ b ∧ 0 ≤ n) ∧ a + n ≤ l.length ∧ b + n ≤ l.length ∧ l.length ≤ 30 ∧ mailsLe l) ∧ .tup [] = r ∧ outs = [.lst 4 ((SM.swR l a.toNat b.toNat n.toNat).map Mail.enc)] := by
  unfold spSwR at h
  simp only at h
  split at h
  · rename_i l' a b n
    simp only [Option.bind_eq_some_iff] at h
    obtain ⟨l, h_l, h⟩ := h
    split at h
    case isFalse => cases h
    rename_i hc
    simp only [Option.some.injEq, Prod.mk.injEq] at h
    obtain ⟨h1, h2⟩ := h
    have h_l := decL_some (fun _ _ h => Mail.dec_some h) h_l
    subst h_l
    exact ⟨l, a, b, n, rfl, hc, h1, h2.symm⟩
  · cases h
def T_slices_swapRangeCmpFunc_loop_example_g00247_impl_Mail : Hints := ⟨lk [(3, [])], lk [(1, [0, 1, 2, 3, 10])], lk [(0, [0, 1, 2, 3, 10]), (1, [0, 1, 2, 3, 10, 13]), (3, [0, 1, 2, 3, 10]), (2, [0, 1, 2, 3, 10])], lk []⟩
noncomputable def Phi_slices_swapRangeCmpFunc_loop_example_g00247_impl_Mail : Tab := lk []
attribute [go_sem] T_slices_swapRangeCmpFunc_loop_example_g00247_impl_Mail Phi_slices_swapRangeCmpFunc_loop_example_g00247_impl_Mail
theorem phi_slices_swapRangeCmpFunc_loop_example_g00247_impl_Mail : ∀ f sp, Phi_slices_swapRangeCmpFunc_loop_example_g00247_impl_Mail f = some sp → FnOk Tryz.prog f sp ∧ ∀ n ∈ sp.need, n ∈ ([] : List String) := phi_nil
theorem ok_slices_swapRangeCmpFunc_loop_example_g00247_impl_Mail : FnOk Tryz.prog 118 spSwR := by
  refine fn_ok (Φ := Phi_slices_swapRangeCmpFunc_loop_example_g00247_impl_Mail) (T := T_slices_swapRangeCmpFunc_loop_example_g00247_impl_Mail) phi_slices_swapRangeCmpFunc_loop_example_g00247_impl_Mail mixed Tryz.func118 rfl rfl rfl (by decide) ?_
  intro ins r outs hr hl
  clear hl
  have hs := spSwR_in hr
  clear hr
  obtain ⟨l, a, b, n, rfl, hc, hr, rfl⟩ := hs
  simp only [spSwR, Tryz.f118, Go.VM.initS]
  obtain ⟨⟨ha, hb, hn⟩, h1, h2, h3, hm⟩ := hc
  obtain ⟨a, rfl⟩ : ∃ k : Nat, a = k := ⟨a.toNat, by omega⟩
  obtain ⟨b, rfl⟩ : ∃ k : Nat, b = k := ⟨b.toNat, by omega⟩
  obtain ⟨n, rfl⟩ : ∃ k : Nat, n = k := ⟨n.toNat, by omega⟩
  simp only [Int.toNat_natCast]
  simp only [go_sem]
  refine loop_go (fun p : Nat × List Mail => [(10, .int .i64 (p.1 : Int))]) (fun p => [(0, ⟨.arr, 4, p.2.map Mail.enc⟩)]) (fun p => n - p.1) (fun p => p.1 ≤ n ∧ p.2 = SM.swR l a b p.1) (0, l) ⟨Nat.zero_le _, rfl⟩ rfl rfl ?_
  rintro ⟨i, M⟩ ⟨hi, hM⟩ ih
  simp only at hi hM ih
  have hl : M.length = l.length := by rw [hM, SM.swR_len]
  rcases Nat.lt_or_ge i n with h | h
  · have g1 : (i : Int) < n := by omega
    have w1 : IntKind.i64.wrap ((a : Int) + i) = ((a + i : Nat) : Int) := (wrap64 (by omega) (by omega)).trans (by omega)
    have w2 : IntKind.i64.wrap ((b : Int) + i) = ((b + i : Nat) : Int) := (wrap64 (by omega) (by omega)).trans (by omega)
    have g5 : IntKind.i64.wrap ((i : Int) + 1) = ((i + 1 : Nat) : Int) := wrap_succ h (by omega)
    have ih' := ih (i + 1, SM.sw M (a + i) (b + i)) ⟨h, by rw [SM.swR, hM]⟩ (by simp only; omega)
    clear ih
    obtain ⟨u, hu⟩ : ∃ u : Nat, u = a + i := ⟨_, rfl⟩
    obtain ⟨v, hv⟩ : ∃ v : Nat, v = b + i := ⟨_, rfl⟩
    rw [← hu] at w1 ih'
    rw [← hv] at w2 ih'
    have g2 : (0 : Int) ≤ u := by omega
    have g3 : (0 : Int) ≤ v := by omega
    have g6 : (u : Int) < M.length := by omega
    have g7 : (v : Int) < M.length := by omega
    have g8 : M[u]? = some M[u] := List.getElem?_eq_getElem (by omega)
    have g9 : M[v]? = some M[v] := List.getElem?_eq_getElem (by omega)
    simp only [sw_map g8 g9, Mail.enc] at ih'
    have g10 := set_get (u := u) (show v < M.length by omega)
    simp only [g1, w1, w2, g5, g2, g3, g6, g7, g8, g9, g10, List.length_set, List.length_map, go_sem]
    repeat' ((first | ((first | apply qa | apply qb | apply qc | apply qd | apply qe | apply qf | apply qg | apply qh | apply qi | apply qj | apply qk) <;> intro hp) | ((first | refine ql rfl rfl (by decide +kernel) ?_ | refine qm _ rfl rfl (by decide +kernel) ?_) <;> have hp := True.intro)) <;> simp only [hp, g1, w1, w2, g5, g2, g3, g6, g7, g8, g9, g10, List.length_set, List.length_map, go_sem])
    exact ih'
  · have g1 : ¬ (i : Int) < n := by omega
    have e : i = n := by omega
    subst e
    simp only [g1, go_sem]
    simp only [fin_mk, finV, resL, resV1, resIn, endA, listIn, Option.some_or, Option.none_or, oneOrTup, go_sem]
    rw [← hr]
    rw [hM]
end Go.Proofs.YtghmjnggmacohaaGreatDoor.L

namespace Go.Proofs.YtghmjnggmacohaaGreatDoor.L
open Go Go.VM
set_option maxRecDepth 100000
set_option maxHeartbeats 4000000
set_option linter.unusedSimpArgs false
set_option linter.unusedVariables false
theorem swR_le {l : List Mail} {a b : Nat} (h : mailsLe l) : ∀ n, mailsLe (SM.swR l a b n)
  | 0 => h
  | n + 1 => sw_le (swR_le h n)
theorem rot_le {m : Nat} : ∀ (f : Nat) {l : List Mail} {i j : Nat}, mailsLe l → mailsLe (SM.rot m f l i j)
  | 0, l, i, j, h => h
  | f + 1, l, i, j, h => by
    rw [SM.rot]
    repeat' split
    · exact swR_le h _
    · exact rot_le f (swR_le h _)
    · exact rot_le f (swR_le h _)
theorem rot_len {m : Nat} : ∀ (f : Nat) {l : List Mail} {i j : Nat}, (SM.rot m f l i j).length = l.length
  | 0, l, i, j => rfl
  | f + 1, l, i, j => by
    rw [SM.rot]
    repeat' split
    · exact SM.swR_len _ _ _ _
    · rw [rot_len f, SM.swR_len]
    · rw [rot_len f, SM.swR_len]
theorem sink_le {a : Nat} : ∀ (j : Nat) {l : List Mail}, mailsLe l → mailsLe (SM.sink ltS a l j)
  | 0, l, h => h
  | j + 1, l, h => by
    rw [SM.sink]
    split
    · exact sink_le j (sw_le h)
    · exact h
theorem insS_le {a : Nat} {l : List Mail} (h : mailsLe l) : ∀ n, mailsLe (SM.insS ltS a l n)
  | 0 => h
  | n + 1 => sink_le _ (insS_le h n)
open Classical in
noncomputable def spRot : VM.Spec := { modes := [.io, .rd, .rd, .rd, .rd], run := fun | [.lst 4 l', .int .i64 a, .int .i64 m, .int .i64 b, .fn 36 []] => (decL Mail.dec l').bind fun l => if (0 ≤ a ∧ a < m ∧ m < b) ∧ b ≤ l.length ∧ l.length ≤ 30 ∧ mailsLe l then some (.tup [], [.lst 4 ((SM.rot m.toNat (b.toNat - a.toNat) l (m.toNat - a.toNat) (b.toNat - m.toNat)).map Mail.enc)]) else none | _ => none, need := [] }
attribute [go_sem] spRot
theorem spRot_in {ins : List V} {r : V} {outs : List V} (h : spRot.run ins = some (r, outs)) : ∃ (l : (List Mail)) (a : Int) (m : Int) (b : Int), ins = [.lst 4 ((l).map Mail.enc), .int .i64 a, .int .i64 m, .int .i64 b, .fn 36 []] ∧ ((0 ≤ a ∧ a < m ∧ m < b) ∧ b ≤ l.length ∧ l.length ≤ 30 ∧ mailsLe l) ∧ .tup [] = r ∧ outs = [.lst 4 ((SM.rot m.toNat (b.toNat - a.toNat) l (m.toNat - a.toNat) (b.toNat - m.toNat)).map Mail.enc)] := by
  unfold spRot at h
  simp only at h
  split at h
  · rename_i l' a m b
    simp only [Option.bind_eq_some_iff] at h
    obtain ⟨l, h_l, h⟩ := h
    split at h
    case isFalse => cases h
    rename_i hc
    simp only [Option.some.injEq, Prod.mk.injEq] at h
    obtain ⟨h1, h2⟩ := h
    have h_l := decL_some (fun _ _ h => Mail.dec_some h) h_l
    subst h_l
    exact ⟨l, a, m, b, rfl, hc, h1, h2.symm⟩
  · cases h
def T_slices_rotateCmpFunc_loop_example_g00247_impl_Mail : Hints := ⟨lk [], lk [(2, [0, 2, 4, 10, 11])], lk [(0, [0, 2, 3, 4, 10]), (1, [0, 2, 4, 10, 11]), (2, [0, 2, 4, 10, 11, 20]), (3, [0, 2, 4, 10, 11, 23]), (4, [0, 2, 4, 10, 11]), (5, [0, 2, 4, 10, 11]), (6, [0, 2, 4, 10, 11]), (7, [0, 2, 4, 10, 11]), (8, [])], lk []⟩
noncomputable def Phi_slices_rotateCmpFunc_loop_example_g00247_impl_Mail : Tab := lk [(118, spSwR)]
attribute [go_sem] T_slices_rotateCmpFunc_loop_example_g00247_impl_Mail Phi_slices_rotateCmpFunc_loop_example_g00247_impl_Mail
theorem phi_slices_rotateCmpFunc_loop_example_g00247_impl_Mail : ∀ f sp, Phi_slices_rotateCmpFunc_loop_example_g00247_impl_Mail f = some sp → FnOk Tryz.prog f sp ∧ ∀ n ∈ sp.need, n ∈ ([] : List String) := phi_cons ok_slices_swapRangeCmpFunc_loop_example_g00247_impl_Mail (n0 rfl) (phi_nil)
theorem ok_slices_rotateCmpFunc_loop_example_g00247_impl_Mail : FnOk Tryz.prog 103 spRot := by
  refine fn_ok (Φ := Phi_slices_rotateCmpFunc_loop_example_g00247_impl_Mail) (T := T_slices_rotateCmpFunc_loop_example_g00247_impl_Mail) phi_slices_rotateCmpFunc_loop_example_g00247_impl_Mail mixed Tryz.func103 rfl rfl rfl (by decide) ?_
  intro ins r outs hr hl
  clear hl
  have hs := spRot_in hr
  clear hr
  obtain ⟨l, a, m, b, rfl, hc, hr, rfl⟩ := hs
  simp only [spRot, Tryz.f103, Go.VM.initS]
  obtain ⟨⟨ha, hb, hn⟩, h2, h3, hm⟩ := hc
  obtain ⟨a, rfl⟩ : ∃ k : Nat, a = k := ⟨a.toNat, by omega⟩
  obtain ⟨m, rfl⟩ : ∃ k : Nat, m = k := ⟨m.toNat, by omega⟩
  obtain ⟨b, rfl⟩ : ∃ k : Nat, b = k := ⟨b.toNat, by omega⟩
  simp only [Int.toNat_natCast]
  have w1 : IntKind.i64.wrap ((m : Int) - a) = ((m - a : Nat) : Int) := (wrap64 (by omega) (by omega)).trans (by omega)
  have w2 : IntKind.i64.wrap ((b : Int) - m) = ((b - m : Nat) : Int) := (wrap64 (by omega) (by omega)).trans (by omega)
  generalize hX : SM.rot m (b - a) l (m - a) (b - m) = X
  obtain ⟨i0, hi0⟩ : ∃ i : Nat, i = m - a := ⟨_, rfl⟩
  obtain ⟨j0, hj0⟩ : ∃ j : Nat, j = b - m := ⟨_, rfl⟩
  rw [← hi0] at w1 hX
  rw [← hj0] at w2 hX
  simp only [w1, w2, go_sem]
  refine loop_go (fun p : Nat × Nat × Nat × List Mail => [(10, .int .i64 (p.2.1 : Int)), (11, .int .i64 (p.2.2.1 : Int))]) (fun p => [(0, ⟨.arr, 4, p.2.2.2.map Mail.enc⟩)]) (fun p => p.2.1 + p.2.2.1)
    (fun p => 1 ≤ p.2.1 ∧ 1 ≤ p.2.2.1 ∧ p.2.1 ≤ m ∧ m + p.2.2.1 ≤ l.length ∧ p.2.1 + p.2.2.1 ≤ p.1 ∧ p.2.2.2.length = l.length ∧ mailsLe p.2.2.2 ∧ SM.rot m p.1 p.2.2.2 p.2.1 p.2.2.1 = X) (b - a, i0, j0, l) ⟨by simp only; omega, by simp only; omega, by simp only; omega, by simp only; omega, by simp only; omega, rfl, hm, hX⟩ rfl rfl ?_
  rintro ⟨fu, i, j, M⟩ ⟨q1, q2, q3, q4, q5, q6, q7, q8⟩ ih
  simp only at q1 q2 q3 q4 q5 q6 q7 q8 ih
  obtain ⟨fu, rfl⟩ : ∃ k, fu = k + 1 := ⟨fu - 1, by omega⟩
  rw [SM.rot] at q8
  obtain ⟨d, hd⟩ : ∃ d : Nat, d = m - i := ⟨_, rfl⟩
  rw [← hd] at q8
  have w3 : IntKind.i64.wrap ((m : Int) - i) = (d : Int) := (wrap64 (by omega) (by omega)).trans (by omega)
  have z0 : (0 : Int) ≤ d := by omega
  have z1 : (0 : Int) ≤ m := by omega
  have z2 : (0 : Int) ≤ i := by omega
  have z3 : (0 : Int) ≤ j := by omega
  have z9 : M.length ≤ 30 := by omega
  by_cases e : i = j
  · subst e
    rw [if_pos rfl] at q8
    have z4 : (d : Int) + i ≤ M.length := by omega
    have z5 : (m : Int) + i ≤ M.length := by omega
    clear ih
    simp only [w3, z0, z1, z2, z4, z5, z9, q7, bne_self_eq_false, Int.toNat_natCast, go_sem]
    repeat' ((first | apply qa | apply qb | apply qc | apply qd | apply qe | apply qf | apply qg | apply qh | apply qi | apply qj | apply qk) <;> intro hp <;> simp only [hp, w3, z0, z1, z2, z4, z5, z9, q7, bne_self_eq_false, Int.toNat_natCast, go_sem])
    simp only [fin_mk, finV, resL, resV1, resIn, endA, listIn, Option.some_or, Option.none_or, oneOrTup, go_sem]
    rw [← hr]
    rw [q8]
  · rw [if_neg e] at q8
    have hne : ((i : Int) != j) = true := by rw [bne_iff_ne]; omega
    by_cases g : j < i
    · rw [if_pos g] at q8
      have g1 : (j : Int) < i := by omega
      have z4 : (d : Int) + j ≤ M.length := by omega
      have z5 : (m : Int) + j ≤ M.length := by omega
      have w4 : IntKind.i64.wrap ((i : Int) - j) = ((i - j : Nat) : Int) := (wrap64 (by omega) (by omega)).trans (by omega)
      have ih' := ih (fu, i - j, j, SM.swR M d m j) ⟨by simp only; omega, q2, by simp only; omega, q4, by simp only; omega, by rw [SM.swR_len]; exact q6, swR_le q7 _, q8⟩ (by simp only; omega)
      clear ih
      simp only [w3, w4, hne, g1, z0, z1, z2, z3, z4, z5, z9, q7, Int.toNat_natCast, go_sem]
      repeat' ((first | apply qa | apply qb | apply qc | apply qd | apply qe | apply qf | apply qg | apply qh | apply qi | apply qj | apply qk) <;> intro hp <;> simp only [hp, w3, w4, hne, g1, z0, z1, z2, z3, z4, z5, z9, q7, Int.toNat_natCast, go_sem])
      exact ih'
    · rw [if_neg g] at q8
      have g1 : ¬ (j : Int) < i := by omega
      obtain ⟨c, hcc⟩ : ∃ c : Nat, c = m + j - i := ⟨_, rfl⟩
      rw [← hcc] at q8
      have w4 : IntKind.i64.wrap ((m : Int) + j) = (m + j : Int) := wrap64 (by omega) (by omega)
      have w5 : IntKind.i64.wrap ((m : Int) + j - i) = (c : Int) := (wrap64 (by omega) (by omega)).trans (by omega)
      have w6 : IntKind.i64.wrap ((j : Int) - i) = ((j - i : Nat) : Int) := (wrap64 (by omega) (by omega)).trans (by omega)
      have z4 : (d : Int) + i ≤ M.length := by omega
      have z5 : (c : Int) + i ≤ M.length := by omega
      have z6 : (0 : Int) ≤ c := by omega
      have ih' := ih (fu, i, j - i, SM.swR M d c i) ⟨q1, by simp only; omega, q3, by simp only; omega, by simp only; omega, by rw [SM.swR_len]; exact q6, swR_le q7 _, q8⟩ (by simp only; omega)
      clear ih
      simp only [w3, w4, w5, w6, hne, g1, z0, z2, z4, z5, z6, z9, q7, Int.toNat_natCast, go_sem]
      repeat' ((first | apply qa | apply qb | apply qc | apply qd | apply qe | apply qf | apply qg | apply qh | apply qi | apply qj | apply qk) <;> intro hp <;> simp only [hp, w3, w4, w5, w6, hne, g1, z0, z2, z4, z5, z6, z9, q7, Int.toNat_natCast, go_sem])
      exact ih'
open Classical in
noncomputable def spInsS : VM.Spec := { modes := [.io, .rd, .rd, .rd], run := fun | [.lst 4 l', .int .i64 a, .int .i64 b, .fn 36 []] => (decL Mail.dec l').bind fun l => if (0 ≤ a ∧ a ≤ b ∧ b ≤ l.length) ∧ l.length ≤ 30 ∧ mailsLe l then some (.tup [], [.lst 4 ((SM.insS ltS a.toNat l (b.toNat - a.toNat - 1)).map Mail.enc)]) else none | _ => none, need := ["internal/bytealg.MaxLen"] }
attribute [go_sem] spInsS
theorem spInsS_in {ins : List V} {r : V} {outs : List V} (h : spInsS.run ins = some (r, outs)) : ∃ (l : (List Mail)) (a : Int) (b : Int), ins = [.lst 4 ((l).map Mail.enc), .int .i64 a, .int .i64 b, .fn 36 []] ∧ ((0 ≤ a ∧ a ≤ b ∧ b ≤ l.length) ∧ l.length ≤ 30 ∧ mailsLe l) ∧ .tup [] = r ∧ outs = [.lst 4 ((SM.insS ltS a.toNat l (b.toNat - a.toNat - 1)).map Mail.enc)] := by
  unfold spInsS at h
  simp only at h
  split at h
  · rename_i l' a b
    simp only [Option.bind_eq_some_iff] at h
    obtain ⟨l, h_l, h⟩ := h
    split at h
    case isFalse => cases h
    rename_i hc
    simp only [Option.some.injEq, Prod.mk.injEq] at h
    obtain ⟨h1, h2⟩ := h
    have h_l := decL_some (fun _ _ h => Mail.dec_some h) h_l
    subst h_l
    exact ⟨l, a, b, rfl, hc, h1, h2.symm⟩
  · cases h
def T_slices_insertionSortCmpFunc_loop_example_g00247_impl_Mail : Hints := ⟨lk [(4, []), (6, [])], lk [(1, [0, 1, 2, 3, 8]), (4, [0, 1, 2, 3, 8, 9])], lk [(0, [0, 1, 2, 3, 8]), (1, [0, 1, 2, 3, 8, 14]), (3, [0, 1, 2, 3, 8, 9]), (4, [0, 1, 2, 3, 8, 9, 34]), (6, [0, 1, 2, 3, 8, 9]), (5, [0, 1, 2, 3, 8, 9]), (2, [0, 1, 2, 3, 8])], lk []⟩
noncomputable def Phi_slices_insertionSortCmpFunc_loop_example_g00247_impl_Mail : Tab := lk [(36, spCmpM)]
attribute [go_sem] T_slices_insertionSortCmpFunc_loop_example_g00247_impl_Mail Phi_slices_insertionSortCmpFunc_loop_example_g00247_impl_Mail
theorem phi_slices_insertionSortCmpFunc_loop_example_g00247_impl_Mail : ∀ f sp, Phi_slices_insertionSortCmpFunc_loop_example_g00247_impl_Mail f = some sp → FnOk Tryz.prog f sp ∧ ∀ n ∈ sp.need, n ∈ (["internal/bytealg.MaxLen"] : List String) := phi_cons ok_impl_SortBySubject_1 (fun n (h : n ∈ (["internal/bytealg.MaxLen"] : List String)) => by simp only [List.mem_cons, List.not_mem_nil, or_false] at h; rcases h with rfl <;> simp) (phi_nil)
theorem ok_slices_insertionSortCmpFunc_loop_example_g00247_impl_Mail : FnOk Tryz.prog 87 spInsS := by
  refine fn_ok (Φ := Phi_slices_insertionSortCmpFunc_loop_example_g00247_impl_Mail) (T := T_slices_insertionSortCmpFunc_loop_example_g00247_impl_Mail) phi_slices_insertionSortCmpFunc_loop_example_g00247_impl_Mail mixed Tryz.func87 rfl rfl rfl (by decide) ?_
  intro ins r outs hr hl
  clear hl
  have hs := spInsS_in hr
  clear hr
  obtain ⟨l, a, b, rfl, hc, hr, rfl⟩ := hs
  simp only [spInsS, Tryz.f87, Go.VM.initS]
  obtain ⟨⟨ha, hb, hn⟩, h3, hm⟩ := hc
  obtain ⟨a, rfl⟩ : ∃ k : Nat, a = k := ⟨a.toNat, by omega⟩
  obtain ⟨b, rfl⟩ : ∃ k : Nat, b = k := ⟨b.toNat, by omega⟩
  simp only [Int.toNat_natCast]
  have w1 : IntKind.i64.wrap ((a : Int) + 1) = ((a + 1 + 0 : Nat) : Int) := (wrap64 (by omega) (by omega)).trans (by omega)
  simp only [w1, go_sem]
  refine loop_go (fun p : Nat × List Mail => [(8, .int .i64 ((a + 1 + p.1 : Nat) : Int))]) (fun p => [(0, ⟨.arr, 4, p.2.map Mail.enc⟩)]) (fun p => b - (a + 1 + p.1)) (fun p => p.1 ≤ b - a - 1 ∧ p.2 = SM.insS ltS a l p.1) (0, l) ⟨Nat.zero_le _, rfl⟩ rfl rfl ?_
  rintro ⟨n, M⟩ ⟨hn1, hM⟩ ih
  simp only at hn1 hM ih
  have hl : M.length = l.length := by rw [hM, SM.insS_len]
  have hMle : mailsLe M := by rw [hM]; exact insS_le hm _
  obtain ⟨i, hi⟩ : ∃ i : Nat, i = a + 1 + n := ⟨_, rfl⟩
  rw [← hi]
  rcases Nat.lt_or_ge i b with h | h
  · have g1 : (i : Int) < b := by omega
    have w5 : IntKind.i64.wrap ((i : Int) + 1) = ((a + 1 + (n + 1) : Nat) : Int) := (wrap64 (by omega) (by omega)).trans (by omega)
    have ih' := ih (n + 1, SM.sink ltS a M i) ⟨by omega, by rw [SM.insS, ← hM, ← hi]⟩ (by simp only; omega)
    clear ih
    generalize hX : SM.sink ltS a M i = X at ih'
    simp only [g1, go_sem]
    refine loop_go (fun p : Nat × List Mail => [(9, .int .i64 (p.1 : Int))]) (fun p => [(0, ⟨.arr, 4, p.2.map Mail.enc⟩)]) (fun p => p.1) (fun p => a ≤ p.1 ∧ p.1 ≤ i ∧ p.2.length = l.length ∧ mailsLe p.2 ∧ SM.sink ltS a p.2 p.1 = X) (i, M) ⟨by simp only; omega, Nat.le_refl _, hl, hMle, hX⟩ rfl rfl ?_
    rintro ⟨j, N⟩ ⟨q1, q2, q3, q4, q5⟩ ih2
    simp only at q1 q2 q3 q4 q5 ih2
    rcases Nat.lt_or_ge a j with k | k
    · obtain ⟨j', hj'⟩ : ∃ j', j = j' + 1 := ⟨j - 1, by omega⟩
      have g2 : (a : Int) < j := by omega
      have w6 : IntKind.i64.wrap ((j : Int) - 1) = (j' : Int) := (wrap64 (by omega) (by omega)).trans (by omega)
      have y1 : (0 : Int) ≤ j := by omega
      have y2 : (0 : Int) ≤ j' := by omega
      have y3 : (j : Int) < N.length := by omega
      have y4 : (j' : Int) < N.length := by omega
      have y5 : N[j]? = some N[j] := List.getElem?_eq_getElem (by omega)
      have y6 : N[j']? = some N[j'] := List.getElem?_eq_getElem (by omega)
      have y7 : Mail.le 4194304 N[j] := q4 _ (List.getElem_mem _)
      have y8 : Mail.le 4194304 N[j'] := q4 _ (List.getElem_mem _)
      have hA : SM.ltA ltS N j j' = ltS N[j] N[j'] := SM.ltA_eq _ _
      cases hc : ltS N[j] N[j'] with
      | true =>
        have hX2 : SM.sink ltS a (SM.sw N j j') j' = X := by
          rw [hj', SM.sink, ← hj', hA, hc, if_pos ⟨k, rfl⟩] at q5
          exact q5
        have y9 := ltS_t hc
        have y10 := set_get (u := j) (show j' < N.length by omega)
        have ih3 := ih2 (j', SM.sw N j j') ⟨by omega, by omega, by rw [SM.sw_len]; exact q3, sw_le q4, hX2⟩ (by simp only; omega)
        simp only [sw_map y5 y6, Mail.enc] at ih3
        clear ih2 ih'
        simp only [g2, w6, y1, y2, y3, y4, y5, y6, y7, y8, y9, y10, and_self, List.length_set, List.length_map, go_sem]
        repeat' ((first | ((first | apply qa | apply qb | apply qc | apply qd | apply qe | apply qf | apply qg | apply qh | apply qi | apply qj | apply qk) <;> intro hp) | ((first | refine ql rfl rfl (by decide +kernel) ?_ | refine qm _ rfl rfl (by decide +kernel) ?_) <;> have hp := True.intro)) <;> simp only [hp, g2, w6, y1, y2, y3, y4, y5, y6, y7, y8, y9, y10, and_self, List.length_set, List.length_map, go_sem])
        exact ih3
      | false =>
        have hX2 : N = X := by
          rw [hj', SM.sink, ← hj', hA, hc, if_neg (by simp)] at q5
          exact q5
        have y9 := ltS_f hc
        subst hX2
        clear ih2
        simp only [g2, w6, y1, y2, y3, y4, y5, y6, y7, y8, y9, and_self, List.length_set, List.length_map, w5, go_sem]
        repeat' ((first | ((first | apply qa | apply qb | apply qc | apply qd | apply qe | apply qf | apply qg | apply qh | apply qi | apply qj | apply qk) <;> intro hp) | ((first | refine ql rfl rfl (by decide +kernel) ?_ | refine qm _ rfl rfl (by decide +kernel) ?_) <;> have hp := True.intro)) <;> simp only [hp, g2, w6, y1, y2, y3, y4, y5, y6, y7, y8, y9, and_self, List.length_set, List.length_map, w5, go_sem])
        exact ih'
    · have e : j = a := by omega
      subst e
      have g2 : ¬ (j : Int) < j := by omega
      have hX2 : N = X := by
        rw [← q5]
        cases j with
        | zero => rfl
        | succ j => rw [SM.sink, if_neg (by omega)]
      subst hX2
      clear ih2
      simp only [g2, w5, go_sem]
      repeat' ((first | ((first | apply qa | apply qb | apply qc | apply qd | apply qe | apply qf | apply qg | apply qh | apply qi | apply qj | apply qk) <;> intro hp) | ((first | refine ql rfl rfl (by decide +kernel) ?_ | refine qm _ rfl rfl (by decide +kernel) ?_) <;> have hp := True.intro)) <;> simp only [hp, g2, w5, go_sem])
      exact ih'
  · have g1 : ¬ (i : Int) < b := by omega
    have e : n = b - a - 1 := by omega
    clear ih
    simp only [g1, go_sem]
    simp only [fin_mk, finV, resL, resV1, resIn, endA, listIn, Option.some_or, Option.none_or, oneOrTup, go_sem]
    rw [← hr]
    rw [hM, e]
end Go.Proofs.YtghmjnggmacohaaGreatDoor.L

