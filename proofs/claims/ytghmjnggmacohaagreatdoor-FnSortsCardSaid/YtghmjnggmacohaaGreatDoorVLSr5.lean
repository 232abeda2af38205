/- Contracts of functions, and the facts that they need. No condition. -/
import Derived.Test.YtghmjnggmacohaaGreatDoorVLSr2
import Derived.Test.YtghmjnggmacohaaGreatDoorVLTh
import Derived.Test.YtghmjnggmacohaaGreatDoorVLFl


import Derived.Sort.Walk0
namespace Go.Proofs.YtghmjnggmacohaaGreatDoor.L
open Go Go.VM
set_option maxRecDepth 100000
set_option maxHeartbeats 8000000
set_option linter.unusedSimpArgs false
set_option linter.unusedVariables false
theorem half64 {k : Nat} : Int.fdiv (k : Int) (2 ^ min 1 64) = ((k / 2 : Nat) : Int) := by
  show Int.fdiv (k : Int) 2 = _
  rw [Int.fdiv_eq_ediv_of_nonneg _ (by decide)]; omega
theorem wrapU {k : Nat} (h : k ≤ 1000) : IntKind.u64.wrap (k : Int) = (k : Int) := by
  simp only [IntKind.wrap, IntKind.signed, IntKind.bits, Bool.false_and]
  simp; omega
theorem up1_le {l : List Mail} {a : Nat} (h : mailsLe l) : ∀ n, mailsLe (SM.up1 l a n)
  | 0 => h
  | n + 1 => sw_le (up1_le h n)
theorem up1_len {l : List Mail} {a : Nat} : ∀ n, (SM.up1 l a n).length = l.length
  | 0 => rfl
  | n + 1 => by rw [SM.up1, SM.sw_len, up1_len n]
theorem dn1_le {l : List Mail} {m : Nat} (h : mailsLe l) : ∀ n, mailsLe (SM.dn1 l m n)
  | 0 => h
  | n + 1 => sw_le (dn1_le h n)
theorem dn1_len {l : List Mail} {m : Nat} : ∀ n, (SM.dn1 l m n).length = l.length
  | 0 => rfl
  | n + 1 => by rw [SM.dn1, SM.sw_len, dn1_len n]
theorem symT_le {l : List Mail} {m s e : Nat} (h : mailsLe l) : mailsLe (SM.symT l m s e) := by
  unfold SM.symT; split
  · exact rot_le _ h
  · exact h
theorem symT_len {l : List Mail} {m s e : Nat} : (SM.symT l m s e).length = l.length := by
  unfold SM.symT; split
  · exact rot_len _
  · rfl
theorem symM_le : ∀ (f : Nat) {l : List Mail} {a m b : Nat}, mailsLe l → mailsLe (SM.symM ltS f l a m b)
  | 0, l, a, m, b, h => h
  | f + 1, l, a, m, b, h => by
    rw [SM.symM]
    split
    · exact up1_le h _
    split
    · exact dn1_le h _
    simp only
    split
    · refine symM_le f ?_
      split
      · exact symM_le f (symT_le h)
      · exact symT_le h
    · split
      · exact symM_le f (symT_le h)
      · exact symT_le h
theorem symM_len : ∀ (f : Nat) {l : List Mail} {a m b : Nat}, (SM.symM ltS f l a m b).length = l.length
  | 0, l, a, m, b => rfl
  | f + 1, l, a, m, b => by
    rw [SM.symM]
    split
    · exact up1_len _
    split
    · exact dn1_len _
    simp only
    split
    · rw [symM_len f]
      split
      · rw [symM_len f, symT_len]
      · exact symT_len
    · split
      · rw [symM_len f, symT_len]
      · exact symT_len
theorem bs_in {p : Nat → Bool} : ∀ (f i j : Nat), i ≤ j → i ≤ SM.bs p f i j ∧ SM.bs p f i j ≤ j
  | 0, i, j, h => by rw [SM.bs]; omega
  | f + 1, i, j, h => by
    rw [SM.bs]
    split
    · split
      · have := bs_in (p := p) f ((i + j) / 2 + 1) j (by omega); omega
      · have := bs_in (p := p) f i ((i + j) / 2) (by omega); omega
    · omega
theorem bs_end {p : Nat → Bool} {f i j : Nat} (h : ¬ i < j) : SM.bs p f i j = i := by
  cases f with
  | zero => rfl
  | succ f => rw [SM.bs, if_neg h]
open Classical in
noncomputable def spSym (fuel : Nat) : VM.Spec := { modes := [.io, .rd, .rd, .rd, .rd], run := fun | [.lst 4 l', .int .i64 a, .int .i64 m, .int .i64 b, .fn 36 []] => (decL Mail.dec l').bind fun l => if (0 ≤ a ∧ a < m ∧ m < b) ∧ b ≤ l.length ∧ l.length ≤ 30 ∧ b - a ≤ fuel ∧ mailsLe l then some (.tup [], [.lst 4 ((SM.symM ltS fuel l a.toNat m.toNat b.toNat).map Mail.enc)]) else none | _ => none, need := ["internal/bytealg.MaxLen"] }
attribute [go_sem] spSym
theorem spSym_in {fuel : Nat} {ins : List V} {r : V} {outs : List V} (h : (spSym fuel).run ins = some (r, outs)) : ∃ (l : (List Mail)) (a : Int) (m : Int) (b : Int), ins = [.lst 4 ((l).map Mail.enc), .int .i64 a, .int .i64 m, .int .i64 b, .fn 36 []] ∧ ((0 ≤ a ∧ a < m ∧ m < b) ∧ b ≤ l.length ∧ l.length ≤ 30 ∧ b - a ≤ fuel ∧ mailsLe l) ∧ .tup [] = r ∧ outs = [.lst 4 ((SM.symM ltS fuel l a.toNat m.toNat b.toNat).map Mail.enc)] := by
  unfold spSym at h
  simp only at h
  split at h
  · rename_i l' a m b
    simp only [Option.bind_eq_some_iff] at h
    obtain ⟨l, h_l, h⟩ := h
    split at h
    case isFalse => cases h
    rename_i hc
    simp only [Option.some.injEq, Prod.mk.injEq] at h
    obtain ⟨h1, h2⟩ := h
    have h_l := decL_some (fun _ _ h => Mail.dec_some h) h_l
    subst h_l
    exact ⟨l, a, m, b, rfl, hc, h1, h2.symm⟩
  · cases h
def T_slices_symMergeCmpFunc_loop_example_g00247_impl_Mail : Hints := ⟨lk [(5, []), (11, []), (17, []), (23, []), (35, [])], lk [(3, [0, 1, 4, 10, 11]), (9, [0, 10, 13]), (15, [0, 2, 4, 14, 15]), (21, [0, 14, 17]), (33, [0, 1, 2, 3, 4, 18, 19, 20, 21, 22])], lk [(0, [0, 1, 2, 3, 4, 28]), (1, [0, 1, 3, 4, 10]), (2, [0, 1, 4, 10, 11]), (3, [0, 1, 4, 10, 11, 33]), (4, [0, 1, 4, 10, 11, 12]), (5, [0, 1, 4, 10, 11, 12, 50]), (6, [0, 1, 4, 10, 11]), (7, [0, 1, 4, 10, 11]), (8, [0, 10, 13]), (9, [0, 10, 13, 58]), (11, [0, 10, 13]), (10, [0, 10, 13]), (12, [0, 1, 2, 3, 4, 80]), (13, [0, 2, 4, 14]), (14, [0, 2, 4, 14, 15]), (15, [0, 2, 4, 14, 15, 85]), (16, [0, 2, 4, 14, 15, 16]), (17, [0, 2, 4, 14, 15, 16, 103]), (18, [0, 2, 4, 14, 15]), (19, [0, 2, 4, 14, 15]), (20, [0, 14, 17]), (21, [0, 14, 17, 110]), (23, [0, 14, 17]), (22, [0, 14, 17]), (24, [0, 1, 2, 3, 4, 18]), (25, [0, 1, 2, 3, 4, 18, 19]), (26, [0, 1, 2, 3, 4, 18, 19]), (27, [0, 1, 2, 3, 4, 18, 19, 140]), (28, [0, 1, 2, 3, 4, 18, 19, 20]), (29, [0, 1, 2, 3, 4, 18, 19, 20, 21]), (30, [0, 1, 2, 3, 4, 18, 19, 20]), (31, [0, 1, 2, 3, 4, 18, 19, 20, 21]), (32, [0, 1, 2, 3, 4, 18, 19, 20, 21, 22]), (33, [0, 1, 2, 3, 4, 18, 19, 20, 21, 22, 151]), (34, [0, 1, 2, 3, 4, 18, 19, 20, 21, 22, 23]), (35, [0, 1, 2, 3, 4, 18, 19, 20, 21, 22, 23, 171]), (36, [0, 1, 2, 3, 4, 18, 19, 20, 21, 22]), (37, [0, 1, 2, 3, 4, 18, 19, 20, 21, 22]), (38, [0, 1, 2, 3, 4, 18, 20, 24]), (39, [0, 1, 2, 3, 4, 18, 20, 24, 185]), (40, [0, 1, 3, 4, 18, 20, 24]), (41, [0, 1, 3, 4, 18, 20, 24, 199]), (42, [0, 3, 4, 18, 24]), (43, [0, 3, 4, 18, 24, 213]), (44, [])], lk [], lf []⟩
noncomputable def Phi_slices_symMergeCmpFunc_loop_example_g00247_impl_Mail (fuel : Nat) : Tab := lk [(36, spCmpM), (103, spRot), (88, spSym fuel)]
attribute [go_sem] T_slices_symMergeCmpFunc_loop_example_g00247_impl_Mail Phi_slices_symMergeCmpFunc_loop_example_g00247_impl_Mail
theorem phi_slices_symMergeCmpFunc_loop_example_g00247_impl_Mail (fuel : Nat) (ih : FnOk Tryz.prog 88 (spSym fuel)) : ∀ f sp, Phi_slices_symMergeCmpFunc_loop_example_g00247_impl_Mail fuel f = some sp → FnOk Tryz.prog f sp ∧ ∀ n ∈ sp.need, n ∈ (["internal/bytealg.MaxLen"] : List String) := phi_cons ok_impl_SortBySubject_1 (fun n (h : n ∈ (["internal/bytealg.MaxLen"] : List String)) => by simp only [List.mem_cons, List.not_mem_nil, or_false] at h; rcases h with rfl <;> simp) (phi_cons ok_slices_rotateCmpFunc_loop_example_g00247_impl_Mail (n0 rfl) (phi_cons ih (fun n (h : n ∈ (["internal/bytealg.MaxLen"] : List String)) => by simp only [List.mem_cons, List.not_mem_nil, or_false] at h; rcases h with rfl <;> simp) (phi_nil)))
theorem ok_slices_symMergeCmpFunc_loop_example_g00247_impl_Mail (fuel : Nat) (ih : FnOk Tryz.prog 88 (spSym fuel)) : FnOk Tryz.prog 88 (spSym (fuel + 1)) := by
  refine fn_ok (Φ := Phi_slices_symMergeCmpFunc_loop_example_g00247_impl_Mail fuel) (T := T_slices_symMergeCmpFunc_loop_example_g00247_impl_Mail) (phi_slices_symMergeCmpFunc_loop_example_g00247_impl_Mail fuel ih) mixed Tryz.func88 rfl rfl rfl (Nat.le_of_ble_eq_true rfl) ?_
  intro ins r outs hr hl
  clear hl
  have hs := spSym_in hr
  clear hr
  obtain ⟨l, a, m, b, rfl, hc, hr, rfl⟩ := hs
  simp only [spSym, Tryz.f88, Go.VM.initS]
  obtain ⟨⟨ha, hb, hn⟩, h2, h3, h4, hm⟩ := hc
  obtain ⟨a, rfl⟩ : ∃ k : Nat, a = k := ⟨a.toNat, by omega⟩
  obtain ⟨m, rfl⟩ : ∃ k : Nat, m = k := ⟨m.toNat, by omega⟩
  obtain ⟨b, rfl⟩ : ∃ k : Nat, b = k := ⟨b.toNat, by omega⟩
  simp only [Int.toNat_natCast]
  have w1 : IntKind.i64.wrap ((m : Int) - a) = (m : Int) - a := wrap64 (by omega) (by omega)
  have w2 : IntKind.i64.wrap ((b : Int) - m) = (b : Int) - m := wrap64 (by omega) (by omega)
  generalize hX : SM.symM ltS (fuel + 1) l a m b = X
  rw [SM.symM] at hX
  by_cases c1 : m = a + 1
  · rw [if_pos c1] at hX
    have c1' : ((m : Int) - a == 1) = true := by rw [beq_iff_eq]; omega
    have hin := bs_in (p := fun h => SM.ltA ltS l h a) (b - m) m b (by omega)
    generalize hR : SM.bs (fun h => SM.ltA ltS l h a) (b - m) m b = R at hX hin
    clear ih
    simp only [w1, c1', go_sem]
    repeat' ((first | ((first | apply qa | apply qb | apply qc | apply qd | apply qe | apply qf | apply qg | apply qh | apply qi | apply qj | apply qk) <;> intro hp) | ((first | refine ql rfl rfl (by decide +kernel) ?_ | refine qm _ rfl rfl (by decide +kernel) ?_) <;> have hp := True.intro)) <;> simp only [hp, w1, c1', go_sem])
    refine loop_go (fun p : Nat × Nat × Nat => [(10, .int .i64 (p.2.1 : Int)), (11, .int .i64 (p.2.2 : Int))]) (fun p => []) (fun p => p.2.2 - p.2.1) (fun p => m ≤ p.2.1 ∧ p.2.1 ≤ p.2.2 ∧ p.2.2 ≤ b ∧ p.2.2 - p.2.1 ≤ p.1 ∧ SM.bs (fun h => SM.ltA ltS l h a) p.1 p.2.1 p.2.2 = R) (b - m, m, b) ⟨Nat.le_refl _, by simp only; omega, Nat.le_refl _, Nat.le_refl _, hR⟩ rfl rfl ?_
    rintro ⟨fu, i, j⟩ ⟨q1, q2, q3, q4, q5⟩ ih2
    simp only at q1 q2 q3 q4 q5 ih2
    rcases Nat.lt_or_ge i j with k | k
    · obtain ⟨fu, rfl⟩ : ∃ k, fu = k + 1 := ⟨fu - 1, by omega⟩
      rw [SM.bs, if_pos k] at q5
      have g1 : (i : Int) < j := by omega
      have w3 : IntKind.i64.wrap ((i : Int) + j) = ((i + j : Nat) : Int) := (wrap64 (by omega) (by omega)).trans (by omega)
      have w4 := wrapU (k := i + j) (by omega)
      have w5 := half64 (k := i + j)
      obtain ⟨h, hh⟩ : ∃ h : Nat, h = (i + j) / 2 := ⟨_, rfl⟩
      rw [← hh] at w5 q5
      have w6 : IntKind.i64.wrap (h : Int) = (h : Int) := wrap64 (by omega) (by omega)
      have w7 : IntKind.i64.wrap ((h : Int) + 1) = ((h + 1 : Nat) : Int) := (wrap64 (by omega) (by omega)).trans (by omega)
      have y1 : (0 : Int) ≤ h := by omega
      have y2 : (0 : Int) ≤ a := by omega
      have y3 : (h : Int) < l.length := by omega
      have y4 : (a : Int) < l.length := by omega
      have y5 : l[h]? = some l[h] := List.getElem?_eq_getElem (by omega)
      have y6 : l[a]? = some l[a] := List.getElem?_eq_getElem (by omega)
      have y7 : Mail.le 4194304 l[h] := hm _ (List.getElem_mem _)
      have y8 : Mail.le 4194304 l[a] := hm _ (List.getElem_mem _)
      have hA : SM.ltA ltS l h a = ltS l[h] l[a] := SM.ltA_eq _ _
      simp only [hA] at q5
      cases hc : ltS l[h] l[a] with
      | true =>
        have y9 := ltS_t hc
        rw [hc, if_pos rfl] at q5
        have ih3 := ih2 (fu, h + 1, j) ⟨by simp only; omega, by simp only; omega, q3, by simp only; omega, q5⟩ (by simp only; omega)
        clear ih2
        simp only [g1, w3, w4, w5, w6, w7, y1, y2, y3, y4, y5, y6, y7, y8, y9, and_self, go_sem]
        repeat' ((first | ((first | apply qa | apply qb | apply qc | apply qd | apply qe | apply qf | apply qg | apply qh | apply qi | apply qj | apply qk) <;> intro hp) | ((first | refine ql rfl rfl (by decide +kernel) ?_ | refine qm _ rfl rfl (by decide +kernel) ?_) <;> have hp := True.intro)) <;> simp only [hp, g1, w3, w4, w5, w6, w7, y1, y2, y3, y4, y5, y6, y7, y8, y9, and_self, go_sem])
        exact ih3
      | false =>
        have y9 := ltS_f hc
        rw [hc, if_neg (by simp)] at q5
        have ih3 := ih2 (fu, i, h) ⟨q1, by simp only; omega, by simp only; omega, by simp only; omega, q5⟩ (by simp only; omega)
        clear ih2
        simp only [g1, w3, w4, w5, w6, w7, y1, y2, y3, y4, y5, y6, y7, y8, y9, and_self, go_sem]
        repeat' ((first | ((first | apply qa | apply qb | apply qc | apply qd | apply qe | apply qf | apply qg | apply qh | apply qi | apply qj | apply qk) <;> intro hp) | ((first | refine ql rfl rfl (by decide +kernel) ?_ | refine qm _ rfl rfl (by decide +kernel) ?_) <;> have hp := True.intro)) <;> simp only [hp, g1, w3, w4, w5, w6, w7, y1, y2, y3, y4, y5, y6, y7, y8, y9, and_self, go_sem])
        exact ih3
    · have g1 : ¬ (i : Int) < j := by omega
      rw [bs_end (by omega)] at q5
      subst q5
      clear ih2
      have w3 : IntKind.i64.wrap ((i : Int) - 1) = (i : Int) - 1 := wrap64 (by omega) (by omega)
      simp only [g1, go_sem]
      repeat' ((first | ((first | apply qa | apply qb | apply qc | apply qd | apply qe | apply qf | apply qg | apply qh | apply qi | apply qj | apply qk) <;> intro hp) | ((first | refine ql rfl rfl (by decide +kernel) ?_ | refine qm _ rfl rfl (by decide +kernel) ?_) <;> have hp := True.intro)) <;> simp only [hp, g1, go_sem])
      refine loop_go (fun p : Nat × List Mail => [(13, .int .i64 ((a + p.1 : Nat) : Int))]) (fun p => [(0, ⟨.arr, 4, p.2.map Mail.enc⟩)]) (fun p => i - 1 - a - p.1) (fun p => p.1 ≤ i - 1 - a ∧ p.2 = SM.up1 l a p.1) (0, l) ⟨Nat.zero_le _, rfl⟩ rfl rfl ?_
      rintro ⟨n, N⟩ ⟨r1, r2⟩ ih2
      simp only at r1 r2 ih2
      have hl : N.length = l.length := by rw [r2, up1_len]
      obtain ⟨u, hu⟩ : ∃ u : Nat, u = a + n := ⟨_, rfl⟩
      obtain ⟨v, hv⟩ : ∃ v : Nat, v = a + n + 1 := ⟨_, rfl⟩
      rw [← hu]
      rcases Nat.lt_or_ge n (i - 1 - a) with k2 | k2
      · have g2 : (u : Int) < (i : Int) - 1 := by omega
        have w4 : IntKind.i64.wrap ((u : Int) + 1) = (v : Int) := (wrap64 (by omega) (by omega)).trans (by omega)
        have y1 : (0 : Int) ≤ u := by omega
        have y2 : (0 : Int) ≤ v := by omega
        have y3 : (u : Int) < N.length := by omega
        have y4 : (v : Int) < N.length := by omega
        have y5 : N[u]? = some N[u] := List.getElem?_eq_getElem (by omega)
        have y6 : N[v]? = some N[v] := List.getElem?_eq_getElem (by omega)
        have y10 := set_get (u := u) (show v < N.length by omega)
        have ih3 := ih2 (n + 1, SM.sw N u v) ⟨by omega, by rw [SM.up1, ← r2, hu, hv]⟩ (by simp only; omega)
        rw [show a + (n + 1) = v by omega] at ih3
        simp only [sw_map y5 y6, Mail.enc] at ih3
        clear ih2
        simp only [g2, w3, w4, y1, y2, y3, y4, y5, y6, y10, List.length_set, List.length_map, go_sem]
        repeat' ((first | ((first | apply qa | apply qb | apply qc | apply qd | apply qe | apply qf | apply qg | apply qh | apply qi | apply qj | apply qk) <;> intro hp) | ((first | refine ql rfl rfl (by decide +kernel) ?_ | refine qm _ rfl rfl (by decide +kernel) ?_) <;> have hp := True.intro)) <;> simp only [hp, g2, w3, w4, y1, y2, y3, y4, y5, y6, y10, List.length_set, List.length_map, go_sem])
        exact ih3
      · have g2 : ¬ (u : Int) < (i : Int) - 1 := by omega
        have e : n = i - 1 - a := by omega
        clear ih2
        simp only [g2, w3, go_sem]
        repeat' ((first | ((first | apply qa | apply qb | apply qc | apply qd | apply qe | apply qf | apply qg | apply qh | apply qi | apply qj | apply qk) <;> intro hp) | ((first | refine ql rfl rfl (by decide +kernel) ?_ | refine qm _ rfl rfl (by decide +kernel) ?_) <;> have hp := True.intro)) <;> simp only [hp, g2, w3, go_sem])
        simp only [fin_mk, finV, resL, resV1, resIn, endA, listIn, Option.some_or, Option.none_or, oneOrTup, go_sem]
        rw [← hr]
        rw [r2, e, hX]
  rw [if_neg c1] at hX
  have c1' : ((m : Int) - a == 1) = false := by rw [beq_eq_false_iff_ne]; omega
  by_cases c2 : b = m + 1
  · rw [if_pos c2] at hX
    have c2' : ((b : Int) - m == 1) = true := by rw [beq_iff_eq]; omega
    have hin := bs_in (p := fun h => !SM.ltA ltS l m h) (m - a) a m (by omega)
    generalize hR : SM.bs (fun h => !SM.ltA ltS l m h) (m - a) a m = R at hX hin
    clear ih
    simp only [w1, w2, c1', c2', go_sem]
    repeat' ((first | ((first | apply qa | apply qb | apply qc | apply qd | apply qe | apply qf | apply qg | apply qh | apply qi | apply qj | apply qk) <;> intro hp) | ((first | refine ql rfl rfl (by decide +kernel) ?_ | refine qm _ rfl rfl (by decide +kernel) ?_) <;> have hp := True.intro)) <;> simp only [hp, w1, w2, c1', c2', go_sem])
    refine loop_go (fun p : Nat × Nat × Nat => [(14, .int .i64 (p.2.1 : Int)), (15, .int .i64 (p.2.2 : Int))]) (fun p => []) (fun p => p.2.2 - p.2.1) (fun p => a ≤ p.2.1 ∧ p.2.1 ≤ p.2.2 ∧ p.2.2 ≤ m ∧ p.2.2 - p.2.1 ≤ p.1 ∧ SM.bs (fun h => !SM.ltA ltS l m h) p.1 p.2.1 p.2.2 = R) (m - a, a, m) ⟨Nat.le_refl _, by simp only; omega, Nat.le_refl _, Nat.le_refl _, hR⟩ rfl rfl ?_
    rintro ⟨fu, i, j⟩ ⟨q1, q2, q3, q4, q5⟩ ih2
    simp only at q1 q2 q3 q4 q5 ih2
    rcases Nat.lt_or_ge i j with k | k
    · obtain ⟨fu, rfl⟩ : ∃ k, fu = k + 1 := ⟨fu - 1, by omega⟩
      rw [SM.bs, if_pos k] at q5
      have g1 : (i : Int) < j := by omega
      have w3 : IntKind.i64.wrap ((i : Int) + j) = ((i + j : Nat) : Int) := (wrap64 (by omega) (by omega)).trans (by omega)
      have w4 := wrapU (k := i + j) (by omega)
      have w5 := half64 (k := i + j)
      obtain ⟨h, hh⟩ : ∃ h : Nat, h = (i + j) / 2 := ⟨_, rfl⟩
      rw [← hh] at w5 q5
      have w6 : IntKind.i64.wrap (h : Int) = (h : Int) := wrap64 (by omega) (by omega)
      have w7 : IntKind.i64.wrap ((h : Int) + 1) = ((h + 1 : Nat) : Int) := (wrap64 (by omega) (by omega)).trans (by omega)
      have y1 : (0 : Int) ≤ h := by omega
      have y2 : (0 : Int) ≤ m := by omega
      have y3 : (h : Int) < l.length := by omega
      have y4 : (m : Int) < l.length := by omega
      have y5 : l[h]? = some l[h] := List.getElem?_eq_getElem (by omega)
      have y6 : l[m]? = some l[m] := List.getElem?_eq_getElem (by omega)
      have y7 : Mail.le 4194304 l[h] := hm _ (List.getElem_mem _)
      have y8 : Mail.le 4194304 l[m] := hm _ (List.getElem_mem _)
      have hA : SM.ltA ltS l m h = ltS l[m] l[h] := SM.ltA_eq _ _
      simp only [hA] at q5
      cases hc : ltS l[m] l[h] with
      | false =>
        have y9 := ltS_f hc
        rw [hc, if_pos (by rfl)] at q5
        have ih3 := ih2 (fu, h + 1, j) ⟨by simp only; omega, by simp only; omega, q3, by simp only; omega, q5⟩ (by simp only; omega)
        clear ih2
        simp only [g1, w3, w4, w5, w6, w7, y1, y2, y3, y4, y5, y6, y7, y8, y9, and_self, go_sem]
        repeat' ((first | ((first | apply qa | apply qb | apply qc | apply qd | apply qe | apply qf | apply qg | apply qh | apply qi | apply qj | apply qk) <;> intro hp) | ((first | refine ql rfl rfl (by decide +kernel) ?_ | refine qm _ rfl rfl (by decide +kernel) ?_) <;> have hp := True.intro)) <;> simp only [hp, g1, w3, w4, w5, w6, w7, y1, y2, y3, y4, y5, y6, y7, y8, y9, and_self, go_sem])
        exact ih3
      | true =>
        have y9 := ltS_t hc
        rw [hc, if_neg (by simp)] at q5
        have ih3 := ih2 (fu, i, h) ⟨q1, by simp only; omega, by simp only; omega, by simp only; omega, q5⟩ (by simp only; omega)
        clear ih2
        simp only [g1, w3, w4, w5, w6, w7, y1, y2, y3, y4, y5, y6, y7, y8, y9, and_self, go_sem]
        repeat' ((first | ((first | apply qa | apply qb | apply qc | apply qd | apply qe | apply qf | apply qg | apply qh | apply qi | apply qj | apply qk) <;> intro hp) | ((first | refine ql rfl rfl (by decide +kernel) ?_ | refine qm _ rfl rfl (by decide +kernel) ?_) <;> have hp := True.intro)) <;> simp only [hp, g1, w3, w4, w5, w6, w7, y1, y2, y3, y4, y5, y6, y7, y8, y9, and_self, go_sem])
        exact ih3
    · have g1 : ¬ (i : Int) < j := by omega
      rw [bs_end (by omega)] at q5
      subst q5
      clear ih2
      simp only [g1, go_sem]
      repeat' ((first | ((first | apply qa | apply qb | apply qc | apply qd | apply qe | apply qf | apply qg | apply qh | apply qi | apply qj | apply qk) <;> intro hp) | ((first | refine ql rfl rfl (by decide +kernel) ?_ | refine qm _ rfl rfl (by decide +kernel) ?_) <;> have hp := True.intro)) <;> simp only [hp, g1, go_sem])
      refine loop_go (fun p : Nat × Nat × List Mail => [(17, .int .i64 (p.2.1 : Int))]) (fun p => [(0, ⟨.arr, 4, p.2.2.map Mail.enc⟩)]) (fun p => p.2.1) (fun p => p.1 ≤ m - i ∧ p.2.1 = m - p.1 ∧ p.2.2 = SM.dn1 l m p.1) (0, m, l) ⟨Nat.zero_le _, rfl, rfl⟩ rfl rfl ?_
      rintro ⟨n, u, N⟩ ⟨r1, r0, r2⟩ ih2
      simp only at r1 r0 r2 ih2
      have hl : N.length = l.length := by rw [r2, dn1_len]
      obtain ⟨v, hv⟩ : ∃ v : Nat, v = m - n - 1 := ⟨_, rfl⟩
      rcases Nat.lt_or_ge n (m - i) with k2 | k2
      · have g2 : (i : Int) < u := by omega
        have w4 : IntKind.i64.wrap ((u : Int) - 1) = (v : Int) := (wrap64 (by omega) (by omega)).trans (by omega)
        have y1 : (0 : Int) ≤ u := by omega
        have y2 : (0 : Int) ≤ v := by omega
        have y3 : (u : Int) < N.length := by omega
        have y4 : (v : Int) < N.length := by omega
        have y5 : N[u]? = some N[u] := List.getElem?_eq_getElem (by omega)
        have y6 : N[v]? = some N[v] := List.getElem?_eq_getElem (by omega)
        have y10 := set_get (u := u) (show v < N.length by omega)
        have ih3 := ih2 (n + 1, v, SM.sw N u v) ⟨by simp only; omega, by simp only; omega, by simp only; rw [SM.dn1, ← r2, ← r0, ← hv.symm, r0]⟩ (by simp only; omega)
        simp only [sw_map y5 y6, Mail.enc] at ih3
        clear ih2
        simp only [g2, w4, y1, y2, y3, y4, y5, y6, y10, List.length_set, List.length_map, go_sem]
        repeat' ((first | ((first | apply qa | apply qb | apply qc | apply qd | apply qe | apply qf | apply qg | apply qh | apply qi | apply qj | apply qk) <;> intro hp) | ((first | refine ql rfl rfl (by decide +kernel) ?_ | refine qm _ rfl rfl (by decide +kernel) ?_) <;> have hp := True.intro)) <;> simp only [hp, g2, w4, y1, y2, y3, y4, y5, y6, y10, List.length_set, List.length_map, go_sem])
        exact ih3
      · have g2 : ¬ (i : Int) < u := by omega
        have e : n = m - i := by omega
        clear ih2
        simp only [g2, go_sem]
        repeat' ((first | ((first | apply qa | apply qb | apply qc | apply qd | apply qe | apply qf | apply qg | apply qh | apply qi | apply qj | apply qk) <;> intro hp) | ((first | refine ql rfl rfl (by decide +kernel) ?_ | refine qm _ rfl rfl (by decide +kernel) ?_) <;> have hp := True.intro)) <;> simp only [hp, g2, go_sem])
        simp only [fin_mk, finV, resL, resV1, resIn, endA, listIn, Option.some_or, Option.none_or, oneOrTup, go_sem]
        rw [← hr]
        rw [r2, e, hX]
  rw [if_neg c2] at hX
  have c2' : ((b : Int) - m == 1) = false := by rw [beq_eq_false_iff_ne]; omega
  have w3 : IntKind.i64.wrap ((a : Int) + b) = ((a + b : Nat) : Int) := (wrap64 (by omega) (by omega)).trans (by omega)
  have w4 := wrapU (k := a + b) (by omega)
  have w5 := half64 (k := a + b)
  obtain ⟨d, hd⟩ : ∃ d : Nat, d = (a + b) / 2 := ⟨_, rfl⟩
  rw [← hd] at w5
  have w6 : IntKind.i64.wrap (d : Int) = (d : Int) := wrap64 (by omega) (by omega)
  obtain ⟨q, hq⟩ : ∃ q : Nat, q = d + m := ⟨_, rfl⟩
  have w7 : IntKind.i64.wrap ((d : Int) + m) = (q : Int) := (wrap64 (by omega) (by omega)).trans (by omega)
  obtain ⟨p, hp⟩ : ∃ p : Nat, p = q - 1 := ⟨_, rfl⟩
  have w8 : IntKind.i64.wrap ((q : Int) - 1) = (p : Int) := (wrap64 (by omega) (by omega)).trans (by omega)
  simp only at hX
  rw [← hd, ← hq] at hX
  obtain ⟨S, hS⟩ : ∃ S : Nat, SM.symAt ltS l a m b = S := ⟨_, rfl⟩
  have hS0 := hS
  rw [hS] at hX
  rw [SM.symAt, ← hd, ← hq, ← hp] at hS
  by_cases gd : d < m
  · have gd' : (d : Int) < m := by omega
    obtain ⟨s0, hs0⟩ : ∃ s0 : Nat, s0 = q - b := ⟨_, rfl⟩
    have w9 : IntKind.i64.wrap ((q : Int) - b) = (s0 : Int) := (wrap64 (by omega) (by omega)).trans (by omega)
    have eS : SM.symS m a b = s0 := by rw [SM.symS, ← hd, if_pos gd, ← hq, hs0]
    have eR : SM.symR m a b = d := by rw [SM.symR, ← hd, if_pos gd]
    rw [eS, eR] at hS
    have hin := bs_in (p := fun c => !SM.ltA ltS l (p - c) c) (d - s0) s0 d (by omega)
    rw [hS] at hin
    simp only [w1, w2, c1', c2', w3, w4, w5, w6, w7, w8, w9, gd', go_sem]
    repeat' ((first | ((first | apply qa | apply qb | apply qc | apply qd | apply qe | apply qf | apply qg | apply qh | apply qi | apply qj | apply qk) <;> intro hp) | ((first | refine ql rfl rfl (by decide +kernel) ?_ | refine qm _ rfl rfl (by decide +kernel) ?_) <;> have hp := True.intro)) <;> simp only [hp, w1, w2, c1', c2', w3, w4, w5, w6, w7, w8, w9, gd', go_sem])
    refine loop_go (fun p : Nat × Nat × Nat => [(20, .int .i64 (p.2.1 : Int)), (21, .int .i64 (p.2.2 : Int))]) (fun p => []) (fun p => p.2.2 - p.2.1) (fun x => s0 ≤ x.2.1 ∧ x.2.1 ≤ x.2.2 ∧ x.2.2 ≤ d ∧ x.2.2 - x.2.1 ≤ x.1 ∧ SM.bs (fun c => !SM.ltA ltS l (p - c) c) x.1 x.2.1 x.2.2 = S) (d - s0, s0, d) ⟨Nat.le_refl _, by simp only; omega, Nat.le_refl _, Nat.le_refl _, hS⟩ rfl rfl ?_
    rintro ⟨fu, i, j⟩ ⟨q1, q2, q3, q4, q5⟩ ih2
    simp only at q1 q2 q3 q4 q5 ih2
    rcases Nat.lt_or_ge i j with k | k
    · obtain ⟨fu, rfl⟩ : ∃ k, fu = k + 1 := ⟨fu - 1, by omega⟩
      rw [SM.bs, if_pos k] at q5
      have g1 : (i : Int) < j := by omega
      have w3 : IntKind.i64.wrap ((i : Int) + j) = ((i + j : Nat) : Int) := (wrap64 (by omega) (by omega)).trans (by omega)
      have w4 := wrapU (k := i + j) (by omega)
      have w5 := half64 (k := i + j)
      obtain ⟨c, hc⟩ : ∃ c : Nat, c = (i + j) / 2 := ⟨_, rfl⟩
      rw [← hc] at w5 q5
      have w6 : IntKind.i64.wrap (c : Int) = (c : Int) := wrap64 (by omega) (by omega)
      have w7 : IntKind.i64.wrap ((c : Int) + 1) = ((c + 1 : Nat) : Int) := (wrap64 (by omega) (by omega)).trans (by omega)
      obtain ⟨e, he⟩ : ∃ e : Nat, e = p - c := ⟨_, rfl⟩
      have w8 : IntKind.i64.wrap ((p : Int) - c) = (e : Int) := (wrap64 (by omega) (by omega)).trans (by omega)
      have y1 : (0 : Int) ≤ e := by omega
      have y2 : (0 : Int) ≤ c := by omega
      have y3 : (e : Int) < l.length := by omega
      have y4 : (c : Int) < l.length := by omega
      have y5 : l[e]? = some l[e] := List.getElem?_eq_getElem (by omega)
      have y6 : l[c]? = some l[c] := List.getElem?_eq_getElem (by omega)
      have y7 : Mail.le 4194304 l[e] := hm _ (List.getElem_mem _)
      have y8 : Mail.le 4194304 l[c] := hm _ (List.getElem_mem _)
      have hA : SM.ltA ltS l (p - c) c = ltS l[e] l[c] := by rw [← he]; exact SM.ltA_eq _ _
      simp only [hA] at q5
      cases hc : ltS l[e] l[c] with
      | false =>
        have y9 := ltS_f hc
        rw [hc, if_pos (by rfl)] at q5
        have ih3 := ih2 (fu, c + 1, j) ⟨by simp only; omega, by simp only; omega, q3, by simp only; omega, q5⟩ (by simp only; omega)
        clear ih2
        simp only [g1, w3, w4, w5, w6, w7, w8, y1, y2, y3, y4, y5, y6, y7, y8, y9, and_self, go_sem]
        repeat' ((first | ((first | apply qa | apply qb | apply qc | apply qd | apply qe | apply qf | apply qg | apply qh | apply qi | apply qj | apply qk) <;> intro hp) | ((first | refine ql rfl rfl (by decide +kernel) ?_ | refine qm _ rfl rfl (by decide +kernel) ?_) <;> have hp := True.intro)) <;> simp only [hp, g1, w3, w4, w5, w6, w7, w8, y1, y2, y3, y4, y5, y6, y7, y8, y9, and_self, go_sem])
        exact ih3
      | true =>
        have y9 := ltS_t hc
        rw [hc, if_neg (by simp)] at q5
        have ih3 := ih2 (fu, i, c) ⟨q1, by simp only; omega, by simp only; omega, by simp only; omega, q5⟩ (by simp only; omega)
        clear ih2
        simp only [g1, w3, w4, w5, w6, w7, w8, y1, y2, y3, y4, y5, y6, y7, y8, y9, and_self, go_sem]
        repeat' ((first | ((first | apply qa | apply qb | apply qc | apply qd | apply qe | apply qf | apply qg | apply qh | apply qi | apply qj | apply qk) <;> intro hp) | ((first | refine ql rfl rfl (by decide +kernel) ?_ | refine qm _ rfl rfl (by decide +kernel) ?_) <;> have hp := True.intro)) <;> simp only [hp, g1, w3, w4, w5, w6, w7, w8, y1, y2, y3, y4, y5, y6, y7, y8, y9, and_self, go_sem])
        exact ih3
    · have g1 : ¬ (i : Int) < j := by omega
      rw [bs_end (by omega)] at q5
      subst q5
      clear ih2 hS0 hS
      obtain ⟨e, he⟩ : ∃ e : Nat, e = q - i := ⟨_, rfl⟩
      rw [← he] at hX
      have v1 : IntKind.i64.wrap ((q : Int) - i) = (e : Int) := (wrap64 (by omega) (by omega)).trans (by omega)
      have z0 : (0 : Int) ≤ a := by omega
      have z1 : (0 : Int) ≤ i := by omega
      have z2 : (0 : Int) ≤ d := by omega
      have z3 : (b : Int) ≤ l.length := by omega
      have z4 : (e : Int) ≤ l.length := by omega
      have z5 : (d : Int) ≤ l.length := by omega
      have z6 : (d : Int) - a ≤ fuel := by omega
      have z7 : (b : Int) - d ≤ fuel := by omega
      have t1 : (SM.symT l m i e).length = l.length := symT_len
      have t2 : mailsLe (SM.symT l m i e) := symT_le hm
      have t3 : (SM.symM ltS fuel (SM.symT l m i e) a i d).length = l.length := by rw [symM_len, symT_len]
      have t4 : mailsLe (SM.symM ltS fuel (SM.symT l m i e) a i d) := symM_le _ t2
      have hT1 : i < m ∧ m < e → SM.rot m (e - i) l (m - i) (e - m) = SM.symT l m i e := fun k => by rw [SM.symT, if_pos k]
      have hT2 : ¬ (i < m ∧ m < e) → l = SM.symT l m i e := fun k => by rw [SM.symT, if_neg k]
      generalize hN : SM.symT l m i e = N at hX t1 t2 t3 t4 hT1 hT2
      by_cases k1 : i < m ∧ m < e
      · have hN1 := hT1 k1
        have f1 : (i : Int) < m := by omega
        have f2 : (m : Int) < e := by omega
        by_cases k3 : a < i ∧ i < d
        · have f3 : (a : Int) < i := by omega
          have f4 : (i : Int) < d := by omega
          rw [if_pos k3] at hX
          by_cases k5 : d < e ∧ e < b
          · have f5 : (d : Int) < e := by omega
            have f6 : (e : Int) < b := by omega
            rw [if_pos k5] at hX
            simp only [g1, v1, f1, f2, hN1, f3, f4, f5, f6, z0, z1, z2, z3, z4, z5, z6, z7, t1, t2, t3, t4, h3, hm, and_self, Int.toNat_natCast, go_sem]
            repeat' ((first | ((first | apply qa | apply qb | apply qc | apply qd | apply qe | apply qf | apply qg | apply qh | apply qi | apply qj | apply qk) <;> intro hp) | ((first | refine ql rfl rfl (by decide +kernel) ?_ | refine qm _ rfl rfl (by decide +kernel) ?_) <;> have hp := True.intro)) <;> simp only [hp, g1, v1, f1, f2, hN1, f3, f4, f5, f6, z0, z1, z2, z3, z4, z5, z6, z7, t1, t2, t3, t4, h3, hm, and_self, Int.toNat_natCast, go_sem])
            all_goals (simp only [fin_mk, finV, resL, resV1, resIn, endA, listIn, Option.some_or, Option.none_or, oneOrTup, go_sem]; rw [← hr])
            all_goals rw [hX]
          · rw [if_neg k5] at hX
            by_cases k6 : d < e
            · have f5 : (d : Int) < e := by omega
              have f6 : ¬ (e : Int) < b := by omega
              simp only [g1, v1, f1, f2, hN1, f3, f4, f5, f6, z0, z1, z2, z3, z4, z5, z6, z7, t1, t2, t3, t4, h3, hm, and_self, Int.toNat_natCast, go_sem]
              repeat' ((first | ((first | apply qa | apply qb | apply qc | apply qd | apply qe | apply qf | apply qg | apply qh | apply qi | apply qj | apply qk) <;> intro hp) | ((first | refine ql rfl rfl (by decide +kernel) ?_ | refine qm _ rfl rfl (by decide +kernel) ?_) <;> have hp := True.intro)) <;> simp only [hp, g1, v1, f1, f2, hN1, f3, f4, f5, f6, z0, z1, z2, z3, z4, z5, z6, z7, t1, t2, t3, t4, h3, hm, and_self, Int.toNat_natCast, go_sem])
              all_goals (simp only [fin_mk, finV, resL, resV1, resIn, endA, listIn, Option.some_or, Option.none_or, oneOrTup, go_sem]; rw [← hr])
              all_goals rw [hX]
            · have f5 : ¬ (d : Int) < e := by omega
              simp only [g1, v1, f1, f2, hN1, f3, f4, f5, z0, z1, z2, z3, z4, z5, z6, z7, t1, t2, t3, t4, h3, hm, and_self, Int.toNat_natCast, go_sem]
              repeat' ((first | ((first | apply qa | apply qb | apply qc | apply qd | apply qe | apply qf | apply qg | apply qh | apply qi | apply qj | apply qk) <;> intro hp) | ((first | refine ql rfl rfl (by decide +kernel) ?_ | refine qm _ rfl rfl (by decide +kernel) ?_) <;> have hp := True.intro)) <;> simp only [hp, g1, v1, f1, f2, hN1, f3, f4, f5, z0, z1, z2, z3, z4, z5, z6, z7, t1, t2, t3, t4, h3, hm, and_self, Int.toNat_natCast, go_sem])
              all_goals (simp only [fin_mk, finV, resL, resV1, resIn, endA, listIn, Option.some_or, Option.none_or, oneOrTup, go_sem]; rw [← hr])
              all_goals rw [hX]
        · rw [if_neg k3] at hX
          by_cases k4 : a < i
          · have f3 : (a : Int) < i := by omega
            have f4 : ¬ (i : Int) < d := by omega
            by_cases k5 : d < e ∧ e < b
            · have f5 : (d : Int) < e := by omega
              have f6 : (e : Int) < b := by omega
              rw [if_pos k5] at hX
              simp only [g1, v1, f1, f2, hN1, f3, f4, f5, f6, z0, z1, z2, z3, z4, z5, z6, z7, t1, t2, t3, t4, h3, hm, and_self, Int.toNat_natCast, go_sem]
              repeat' ((first | ((first | apply qa | apply qb | apply qc | apply qd | apply qe | apply qf | apply qg | apply qh | apply qi | apply qj | apply qk) <;> intro hp) | ((first | refine ql rfl rfl (by decide +kernel) ?_ | refine qm _ rfl rfl (by decide +kernel) ?_) <;> have hp := True.intro)) <;> simp only [hp, g1, v1, f1, f2, hN1, f3, f4, f5, f6, z0, z1, z2, z3, z4, z5, z6, z7, t1, t2, t3, t4, h3, hm, and_self, Int.toNat_natCast, go_sem])
              all_goals (simp only [fin_mk, finV, resL, resV1, resIn, endA, listIn, Option.some_or, Option.none_or, oneOrTup, go_sem]; rw [← hr])
              all_goals rw [hX]
            · rw [if_neg k5] at hX
              by_cases k6 : d < e
              · have f5 : (d : Int) < e := by omega
                have f6 : ¬ (e : Int) < b := by omega
                simp only [g1, v1, f1, f2, hN1, f3, f4, f5, f6, z0, z1, z2, z3, z4, z5, z6, z7, t1, t2, t3, t4, h3, hm, and_self, Int.toNat_natCast, go_sem]
                repeat' ((first | ((first | apply qa | apply qb | apply qc | apply qd | apply qe | apply qf | apply qg | apply qh | apply qi | apply qj | apply qk) <;> intro hp) | ((first | refine ql rfl rfl (by decide +kernel) ?_ | refine qm _ rfl rfl (by decide +kernel) ?_) <;> have hp := True.intro)) <;> simp only [hp, g1, v1, f1, f2, hN1, f3, f4, f5, f6, z0, z1, z2, z3, z4, z5, z6, z7, t1, t2, t3, t4, h3, hm, and_self, Int.toNat_natCast, go_sem])
                all_goals (simp only [fin_mk, finV, resL, resV1, resIn, endA, listIn, Option.some_or, Option.none_or, oneOrTup, go_sem]; rw [← hr])
                all_goals rw [hX]
              · have f5 : ¬ (d : Int) < e := by omega
                simp only [g1, v1, f1, f2, hN1, f3, f4, f5, z0, z1, z2, z3, z4, z5, z6, z7, t1, t2, t3, t4, h3, hm, and_self, Int.toNat_natCast, go_sem]
                repeat' ((first | ((first | apply qa | apply qb | apply qc | apply qd | apply qe | apply qf | apply qg | apply qh | apply qi | apply qj | apply qk) <;> intro hp) | ((first | refine ql rfl rfl (by decide +kernel) ?_ | refine qm _ rfl rfl (by decide +kernel) ?_) <;> have hp := True.intro)) <;> simp only [hp, g1, v1, f1, f2, hN1, f3, f4, f5, z0, z1, z2, z3, z4, z5, z6, z7, t1, t2, t3, t4, h3, hm, and_self, Int.toNat_natCast, go_sem])
                all_goals (simp only [fin_mk, finV, resL, resV1, resIn, endA, listIn, Option.some_or, Option.none_or, oneOrTup, go_sem]; rw [← hr])
                all_goals rw [hX]
          · have f3 : ¬ (a : Int) < i := by omega
            by_cases k5 : d < e ∧ e < b
            · have f5 : (d : Int) < e := by omega
              have f6 : (e : Int) < b := by omega
              rw [if_pos k5] at hX
              simp only [g1, v1, f1, f2, hN1, f3, f5, f6, z0, z1, z2, z3, z4, z5, z6, z7, t1, t2, t3, t4, h3, hm, and_self, Int.toNat_natCast, go_sem]
              repeat' ((first | ((first | apply qa | apply qb | apply qc | apply qd | apply qe | apply qf | apply qg | apply qh | apply qi | apply qj | apply qk) <;> intro hp) | ((first | refine ql rfl rfl (by decide +kernel) ?_ | refine qm _ rfl rfl (by decide +kernel) ?_) <;> have hp := True.intro)) <;> simp only [hp, g1, v1, f1, f2, hN1, f3, f5, f6, z0, z1, z2, z3, z4, z5, z6, z7, t1, t2, t3, t4, h3, hm, and_self, Int.toNat_natCast, go_sem])
              all_goals (simp only [fin_mk, finV, resL, resV1, resIn, endA, listIn, Option.some_or, Option.none_or, oneOrTup, go_sem]; rw [← hr])
              all_goals rw [hX]
            · rw [if_neg k5] at hX
              by_cases k6 : d < e
              · have f5 : (d : Int) < e := by omega
                have f6 : ¬ (e : Int) < b := by omega
                simp only [g1, v1, f1, f2, hN1, f3, f5, f6, z0, z1, z2, z3, z4, z5, z6, z7, t1, t2, t3, t4, h3, hm, and_self, Int.toNat_natCast, go_sem]
                repeat' ((first | ((first | apply qa | apply qb | apply qc | apply qd | apply qe | apply qf | apply qg | apply qh | apply qi | apply qj | apply qk) <;> intro hp) | ((first | refine ql rfl rfl (by decide +kernel) ?_ | refine qm _ rfl rfl (by decide +kernel) ?_) <;> have hp := True.intro)) <;> simp only [hp, g1, v1, f1, f2, hN1, f3, f5, f6, z0, z1, z2, z3, z4, z5, z6, z7, t1, t2, t3, t4, h3, hm, and_self, Int.toNat_natCast, go_sem])
                all_goals (simp only [fin_mk, finV, resL, resV1, resIn, endA, listIn, Option.some_or, Option.none_or, oneOrTup, go_sem]; rw [← hr])
                all_goals rw [hX]
              · have f5 : ¬ (d : Int) < e := by omega
                simp only [g1, v1, f1, f2, hN1, f3, f5, z0, z1, z2, z3, z4, z5, z6, z7, t1, t2, t3, t4, h3, hm, and_self, Int.toNat_natCast, go_sem]
                repeat' ((first | ((first | apply qa | apply qb | apply qc | apply qd | apply qe | apply qf | apply qg | apply qh | apply qi | apply qj | apply qk) <;> intro hp) | ((first | refine ql rfl rfl (by decide +kernel) ?_ | refine qm _ rfl rfl (by decide +kernel) ?_) <;> have hp := True.intro)) <;> simp only [hp, g1, v1, f1, f2, hN1, f3, f5, z0, z1, z2, z3, z4, z5, z6, z7, t1, t2, t3, t4, h3, hm, and_self, Int.toNat_natCast, go_sem])
                all_goals (simp only [fin_mk, finV, resL, resV1, resIn, endA, listIn, Option.some_or, Option.none_or, oneOrTup, go_sem]; rw [← hr])
                all_goals rw [hX]
      · have hN1 := hT2 k1
        subst hN1
        by_cases k2 : i < m
        · have f1 : (i : Int) < m := by omega
          have f2 : ¬ (m : Int) < e := by omega
          by_cases k3 : a < i ∧ i < d
          · have f3 : (a : Int) < i := by omega
            have f4 : (i : Int) < d := by omega
            rw [if_pos k3] at hX
            by_cases k5 : d < e ∧ e < b
            · have f5 : (d : Int) < e := by omega
              have f6 : (e : Int) < b := by omega
              rw [if_pos k5] at hX
              simp only [g1, v1, f1, f2, f3, f4, f5, f6, z0, z1, z2, z3, z4, z5, z6, z7, t1, t2, t3, t4, h3, hm, and_self, Int.toNat_natCast, go_sem]
              repeat' ((first | ((first | apply qa | apply qb | apply qc | apply qd | apply qe | apply qf | apply qg | apply qh | apply qi | apply qj | apply qk) <;> intro hp) | ((first | refine ql rfl rfl (by decide +kernel) ?_ | refine qm _ rfl rfl (by decide +kernel) ?_) <;> have hp := True.intro)) <;> simp only [hp, g1, v1, f1, f2, f3, f4, f5, f6, z0, z1, z2, z3, z4, z5, z6, z7, t1, t2, t3, t4, h3, hm, and_self, Int.toNat_natCast, go_sem])
              all_goals (simp only [fin_mk, finV, resL, resV1, resIn, endA, listIn, Option.some_or, Option.none_or, oneOrTup, go_sem]; rw [← hr])
              all_goals rw [hX]
            · rw [if_neg k5] at hX
              by_cases k6 : d < e
              · have f5 : (d : Int) < e := by omega
                have f6 : ¬ (e : Int) < b := by omega
                simp only [g1, v1, f1, f2, f3, f4, f5, f6, z0, z1, z2, z3, z4, z5, z6, z7, t1, t2, t3, t4, h3, hm, and_self, Int.toNat_natCast, go_sem]
                repeat' ((first | ((first | apply qa | apply qb | apply qc | apply qd | apply qe | apply qf | apply qg | apply qh | apply qi | apply qj | apply qk) <;> intro hp) | ((first | refine ql rfl rfl (by decide +kernel) ?_ | refine qm _ rfl rfl (by decide +kernel) ?_) <;> have hp := True.intro)) <;> simp only [hp, g1, v1, f1, f2, f3, f4, f5, f6, z0, z1, z2, z3, z4, z5, z6, z7, t1, t2, t3, t4, h3, hm, and_self, Int.toNat_natCast, go_sem])
                all_goals (simp only [fin_mk, finV, resL, resV1, resIn, endA, listIn, Option.some_or, Option.none_or, oneOrTup, go_sem]; rw [← hr])
                all_goals rw [hX]
              · have f5 : ¬ (d : Int) < e := by omega
                simp only [g1, v1, f1, f2, f3, f4, f5, z0, z1, z2, z3, z4, z5, z6, z7, t1, t2, t3, t4, h3, hm, and_self, Int.toNat_natCast, go_sem]
                repeat' ((first | ((first | apply qa | apply qb | apply qc | apply qd | apply qe | apply qf | apply qg | apply qh | apply qi | apply qj | apply qk) <;> intro hp) | ((first | refine ql rfl rfl (by decide +kernel) ?_ | refine qm _ rfl rfl (by decide +kernel) ?_) <;> have hp := True.intro)) <;> simp only [hp, g1, v1, f1, f2, f3, f4, f5, z0, z1, z2, z3, z4, z5, z6, z7, t1, t2, t3, t4, h3, hm, and_self, Int.toNat_natCast, go_sem])
                all_goals (simp only [fin_mk, finV, resL, resV1, resIn, endA, listIn, Option.some_or, Option.none_or, oneOrTup, go_sem]; rw [← hr])
                all_goals rw [hX]
          · rw [if_neg k3] at hX
            by_cases k4 : a < i
            · have f3 : (a : Int) < i := by omega
              have f4 : ¬ (i : Int) < d := by omega
              by_cases k5 : d < e ∧ e < b
              · have f5 : (d : Int) < e := by omega
                have f6 : (e : Int) < b := by omega
                rw [if_pos k5] at hX
                simp only [g1, v1, f1, f2, f3, f4, f5, f6, z0, z1, z2, z3, z4, z5, z6, z7, t1, t2, t3, t4, h3, hm, and_self, Int.toNat_natCast, go_sem]
                repeat' ((first | ((first | apply qa | apply qb | apply qc | apply qd | apply qe | apply qf | apply qg | apply qh | apply qi | apply qj | apply qk) <;> intro hp) | ((first | refine ql rfl rfl (by decide +kernel) ?_ | refine qm _ rfl rfl (by decide +kernel) ?_) <;> have hp := True.intro)) <;> simp only [hp, g1, v1, f1, f2, f3, f4, f5, f6, z0, z1, z2, z3, z4, z5, z6, z7, t1, t2, t3, t4, h3, hm, and_self, Int.toNat_natCast, go_sem])
                all_goals (simp only [fin_mk, finV, resL, resV1, resIn, endA, listIn, Option.some_or, Option.none_or, oneOrTup, go_sem]; rw [← hr])
                all_goals rw [hX]
              · rw [if_neg k5] at hX
                by_cases k6 : d < e
                · have f5 : (d : Int) < e := by omega
                  have f6 : ¬ (e : Int) < b := by omega
                  simp only [g1, v1, f1, f2, f3, f4, f5, f6, z0, z1, z2, z3, z4, z5, z6, z7, t1, t2, t3, t4, h3, hm, and_self, Int.toNat_natCast, go_sem]
                  repeat' ((first | ((first | apply qa | apply qb | apply qc | apply qd | apply qe | apply qf | apply qg | apply qh | apply qi | apply qj | apply qk) <;> intro hp) | ((first | refine ql rfl rfl (by decide +kernel) ?_ | refine qm _ rfl rfl (by decide +kernel) ?_) <;> have hp := True.intro)) <;> simp only [hp, g1, v1, f1, f2, f3, f4, f5, f6, z0, z1, z2, z3, z4, z5, z6, z7, t1, t2, t3, t4, h3, hm, and_self, Int.toNat_natCast, go_sem])
                  all_goals (simp only [fin_mk, finV, resL, resV1, resIn, endA, listIn, Option.some_or, Option.none_or, oneOrTup, go_sem]; rw [← hr])
                  all_goals rw [hX]
                · have f5 : ¬ (d : Int) < e := by omega
                  simp only [g1, v1, f1, f2, f3, f4, f5, z0, z1, z2, z3, z4, z5, z6, z7, t1, t2, t3, t4, h3, hm, and_self, Int.toNat_natCast, go_sem]
                  repeat' ((first | ((first | apply qa | apply qb | apply qc | apply qd | apply qe | apply qf | apply qg | apply qh | apply qi | apply qj | apply qk) <;> intro hp) | ((first | refine ql rfl rfl (by decide +kernel) ?_ | refine qm _ rfl rfl (by decide +kernel) ?_) <;> have hp := True.intro)) <;> simp only [hp, g1, v1, f1, f2, f3, f4, f5, z0, z1, z2, z3, z4, z5, z6, z7, t1, t2, t3, t4, h3, hm, and_self, Int.toNat_natCast, go_sem])
                  all_goals (simp only [fin_mk, finV, resL, resV1, resIn, endA, listIn, Option.some_or, Option.none_or, oneOrTup, go_sem]; rw [← hr])
                  all_goals rw [hX]
            · have f3 : ¬ (a : Int) < i := by omega
              by_cases k5 : d < e ∧ e < b
              · have f5 : (d : Int) < e := by omega
                have f6 : (e : Int) < b := by omega
                rw [if_pos k5] at hX
                simp only [g1, v1, f1, f2, f3, f5, f6, z0, z1, z2, z3, z4, z5, z6, z7, t1, t2, t3, t4, h3, hm, and_self, Int.toNat_natCast, go_sem]
                repeat' ((first | ((first | apply qa | apply qb | apply qc | apply qd | apply qe | apply qf | apply qg | apply qh | apply qi | apply qj | apply qk) <;> intro hp) | ((first | refine ql rfl rfl (by decide +kernel) ?_ | refine qm _ rfl rfl (by decide +kernel) ?_) <;> have hp := True.intro)) <;> simp only [hp, g1, v1, f1, f2, f3, f5, f6, z0, z1, z2, z3, z4, z5, z6, z7, t1, t2, t3, t4, h3, hm, and_self, Int.toNat_natCast, go_sem])
                all_goals (simp only [fin_mk, finV, resL, resV1, resIn, endA, listIn, Option.some_or, Option.none_or, oneOrTup, go_sem]; rw [← hr])
                all_goals rw [hX]
              · rw [if_neg k5] at hX
                by_cases k6 : d < e
                · have f5 : (d : Int) < e := by omega
                  have f6 : ¬ (e : Int) < b := by omega
                  simp only [g1, v1, f1, f2, f3, f5, f6, z0, z1, z2, z3, z4, z5, z6, z7, t1, t2, t3, t4, h3, hm, and_self, Int.toNat_natCast, go_sem]
                  repeat' ((first | ((first | apply qa | apply qb | apply qc | apply qd | apply qe | apply qf | apply qg | apply qh | apply qi | apply qj | apply qk) <;> intro hp) | ((first | refine ql rfl rfl (by decide +kernel) ?_ | refine qm _ rfl rfl (by decide +kernel) ?_) <;> have hp := True.intro)) <;> simp only [hp, g1, v1, f1, f2, f3, f5, f6, z0, z1, z2, z3, z4, z5, z6, z7, t1, t2, t3, t4, h3, hm, and_self, Int.toNat_natCast, go_sem])
                  all_goals (simp only [fin_mk, finV, resL, resV1, resIn, endA, listIn, Option.some_or, Option.none_or, oneOrTup, go_sem]; rw [← hr])
                  all_goals rw [hX]
                · have f5 : ¬ (d : Int) < e := by omega
                  simp only [g1, v1, f1, f2, f3, f5, z0, z1, z2, z3, z4, z5, z6, z7, t1, t2, t3, t4, h3, hm, and_self, Int.toNat_natCast, go_sem]
                  repeat' ((first | ((first | apply qa | apply qb | apply qc | apply qd | apply qe | apply qf | apply qg | apply qh | apply qi | apply qj | apply qk) <;> intro hp) | ((first | refine ql rfl rfl (by decide +kernel) ?_ | refine qm _ rfl rfl (by decide +kernel) ?_) <;> have hp := True.intro)) <;> simp only [hp, g1, v1, f1, f2, f3, f5, z0, z1, z2, z3, z4, z5, z6, z7, t1, t2, t3, t4, h3, hm, and_self, Int.toNat_natCast, go_sem])
                  all_goals (simp only [fin_mk, finV, resL, resV1, resIn, endA, listIn, Option.some_or, Option.none_or, oneOrTup, go_sem]; rw [← hr])
                  all_goals rw [hX]
        · have f1 : ¬ (i : Int) < m := by omega
          by_cases k3 : a < i ∧ i < d
          · have f3 : (a : Int) < i := by omega
            have f4 : (i : Int) < d := by omega
            rw [if_pos k3] at hX
            by_cases k5 : d < e ∧ e < b
            · have f5 : (d : Int) < e := by omega
              have f6 : (e : Int) < b := by omega
              rw [if_pos k5] at hX
              simp only [g1, v1, f1, f3, f4, f5, f6, z0, z1, z2, z3, z4, z5, z6, z7, t1, t2, t3, t4, h3, hm, and_self, Int.toNat_natCast, go_sem]
              repeat' ((first | ((first | apply qa | apply qb | apply qc | apply qd | apply qe | apply qf | apply qg | apply qh | apply qi | apply qj | apply qk) <;> intro hp) | ((first | refine ql rfl rfl (by decide +kernel) ?_ | refine qm _ rfl rfl (by decide +kernel) ?_) <;> have hp := True.intro)) <;> simp only [hp, g1, v1, f1, f3, f4, f5, f6, z0, z1, z2, z3, z4, z5, z6, z7, t1, t2, t3, t4, h3, hm, and_self, Int.toNat_natCast, go_sem])
              all_goals (simp only [fin_mk, finV, resL, resV1, resIn, endA, listIn, Option.some_or, Option.none_or, oneOrTup, go_sem]; rw [← hr])
              all_goals rw [hX]
            · rw [if_neg k5] at hX
              by_cases k6 : d < e
              · have f5 : (d : Int) < e := by omega
                have f6 : ¬ (e : Int) < b := by omega
                simp only [g1, v1, f1, f3, f4, f5, f6, z0, z1, z2, z3, z4, z5, z6, z7, t1, t2, t3, t4, h3, hm, and_self, Int.toNat_natCast, go_sem]
                repeat' ((first | ((first | apply qa | apply qb | apply qc | apply qd | apply qe | apply qf | apply qg | apply qh | apply qi | apply qj | apply qk) <;> intro hp) | ((first | refine ql rfl rfl (by decide +kernel) ?_ | refine qm _ rfl rfl (by decide +kernel) ?_) <;> have hp := True.intro)) <;> simp only [hp, g1, v1, f1, f3, f4, f5, f6, z0, z1, z2, z3, z4, z5, z6, z7, t1, t2, t3, t4, h3, hm, and_self, Int.toNat_natCast, go_sem])
                all_goals (simp only [fin_mk, finV, resL, resV1, resIn, endA, listIn, Option.some_or, Option.none_or, oneOrTup, go_sem]; rw [← hr])
                all_goals rw [hX]
              · have f5 : ¬ (d : Int) < e := by omega
                simp only [g1, v1, f1, f3, f4, f5, z0, z1, z2, z3, z4, z5, z6, z7, t1, t2, t3, t4, h3, hm, and_self, Int.toNat_natCast, go_sem]
                repeat' ((first | ((first | apply qa | apply qb | apply qc | apply qd | apply qe | apply qf | apply qg | apply qh | apply qi | apply qj | apply qk) <;> intro hp) | ((first | refine ql rfl rfl (by decide +kernel) ?_ | refine qm _ rfl rfl (by decide +kernel) ?_) <;> have hp := True.intro)) <;> simp only [hp, g1, v1, f1, f3, f4, f5, z0, z1, z2, z3, z4, z5, z6, z7, t1, t2, t3, t4, h3, hm, and_self, Int.toNat_natCast, go_sem])
                all_goals (simp only [fin_mk, finV, resL, resV1, resIn, endA, listIn, Option.some_or, Option.none_or, oneOrTup, go_sem]; rw [← hr])
                all_goals rw [hX]
          · rw [if_neg k3] at hX
            by_cases k4 : a < i
            · have f3 : (a : Int) < i := by omega
              have f4 : ¬ (i : Int) < d := by omega
              by_cases k5 : d < e ∧ e < b
              · have f5 : (d : Int) < e := by omega
                have f6 : (e : Int) < b := by omega
                rw [if_pos k5] at hX
                simp only [g1, v1, f1, f3, f4, f5, f6, z0, z1, z2, z3, z4, z5, z6, z7, t1, t2, t3, t4, h3, hm, and_self, Int.toNat_natCast, go_sem]
                repeat' ((first | ((first | apply qa | apply qb | apply qc | apply qd | apply qe | apply qf | apply qg | apply qh | apply qi | apply qj | apply qk) <;> intro hp) | ((first | refine ql rfl rfl (by decide +kernel) ?_ | refine qm _ rfl rfl (by decide +kernel) ?_) <;> have hp := True.intro)) <;> simp only [hp, g1, v1, f1, f3, f4, f5, f6, z0, z1, z2, z3, z4, z5, z6, z7, t1, t2, t3, t4, h3, hm, and_self, Int.toNat_natCast, go_sem])
                all_goals (simp only [fin_mk, finV, resL, resV1, resIn, endA, listIn, Option.some_or, Option.none_or, oneOrTup, go_sem]; rw [← hr])
                all_goals rw [hX]
              · rw [if_neg k5] at hX
                by_cases k6 : d < e
                · have f5 : (d : Int) < e := by omega
                  have f6 : ¬ (e : Int) < b := by omega
                  simp only [g1, v1, f1, f3, f4, f5, f6, z0, z1, z2, z3, z4, z5, z6, z7, t1, t2, t3, t4, h3, hm, and_self, Int.toNat_natCast, go_sem]
                  repeat' ((first | ((first | apply qa | apply qb | apply qc | apply qd | apply qe | apply qf | apply qg | apply qh | apply qi | apply qj | apply qk) <;> intro hp) | ((first | refine ql rfl rfl (by decide +kernel) ?_ | refine qm _ rfl rfl (by decide +kernel) ?_) <;> have hp := True.intro)) <;> simp only [hp, g1, v1, f1, f3, f4, f5, f6, z0, z1, z2, z3, z4, z5, z6, z7, t1, t2, t3, t4, h3, hm, and_self, Int.toNat_natCast, go_sem])
                  all_goals (simp only [fin_mk, finV, resL, resV1, resIn, endA, listIn, Option.some_or, Option.none_or, oneOrTup, go_sem]; rw [← hr])
                  all_goals rw [hX]
                · have f5 : ¬ (d : Int) < e := by omega
                  simp only [g1, v1, f1, f3, f4, f5, z0, z1, z2, z3, z4, z5, z6, z7, t1, t2, t3, t4, h3, hm, and_self, Int.toNat_natCast, go_sem]
                  repeat' ((first | ((first | apply qa | apply qb | apply qc | apply qd | apply qe | apply qf | apply qg | apply qh | apply qi | apply qj | apply qk) <;> intro hp) | ((first | refine ql rfl rfl (by decide +kernel) ?_ | refine qm _ rfl rfl (by decide +kernel) ?_) <;> have hp := True.intro)) <;> simp only [hp, g1, v1, f1, f3, f4, f5, z0, z1, z2, z3, z4, z5, z6, z7, t1, t2, t3, t4, h3, hm, and_self, Int.toNat_natCast, go_sem])
                  all_goals (simp only [fin_mk, finV, resL, resV1, resIn, endA, listIn, Option.some_or, Option.none_or, oneOrTup, go_sem]; rw [← hr])
                  all_goals rw [hX]
            · have f3 : ¬ (a : Int) < i := by omega
              by_cases k5 : d < e ∧ e < b
              · have f5 : (d : Int) < e := by omega
                have f6 : (e : Int) < b := by omega
                rw [if_pos k5] at hX
                simp only [g1, v1, f1, f3, f5, f6, z0, z1, z2, z3, z4, z5, z6, z7, t1, t2, t3, t4, h3, hm, and_self, Int.toNat_natCast, go_sem]
                repeat' ((first | ((first | apply qa | apply qb | apply qc | apply qd | apply qe | apply qf | apply qg | apply qh | apply qi | apply qj | apply qk) <;> intro hp) | ((first | refine ql rfl rfl (by decide +kernel) ?_ | refine qm _ rfl rfl (by decide +kernel) ?_) <;> have hp := True.intro)) <;> simp only [hp, g1, v1, f1, f3, f5, f6, z0, z1, z2, z3, z4, z5, z6, z7, t1, t2, t3, t4, h3, hm, and_self, Int.toNat_natCast, go_sem])
                all_goals (simp only [fin_mk, finV, resL, resV1, resIn, endA, listIn, Option.some_or, Option.none_or, oneOrTup, go_sem]; rw [← hr])
                all_goals rw [hX]
              · rw [if_neg k5] at hX
                by_cases k6 : d < e
                · have f5 : (d : Int) < e := by omega
                  have f6 : ¬ (e : Int) < b := by omega
                  simp only [g1, v1, f1, f3, f5, f6, z0, z1, z2, z3, z4, z5, z6, z7, t1, t2, t3, t4, h3, hm, and_self, Int.toNat_natCast, go_sem]
                  repeat' ((first | ((first | apply qa | apply qb | apply qc | apply qd | apply qe | apply qf | apply qg | apply qh | apply qi | apply qj | apply qk) <;> intro hp) | ((first | refine ql rfl rfl (by decide +kernel) ?_ | refine qm _ rfl rfl (by decide +kernel) ?_) <;> have hp := True.intro)) <;> simp only [hp, g1, v1, f1, f3, f5, f6, z0, z1, z2, z3, z4, z5, z6, z7, t1, t2, t3, t4, h3, hm, and_self, Int.toNat_natCast, go_sem])
                  all_goals (simp only [fin_mk, finV, resL, resV1, resIn, endA, listIn, Option.some_or, Option.none_or, oneOrTup, go_sem]; rw [← hr])
                  all_goals rw [hX]
                · have f5 : ¬ (d : Int) < e := by omega
                  simp only [g1, v1, f1, f3, f5, z0, z1, z2, z3, z4, z5, z6, z7, t1, t2, t3, t4, h3, hm, and_self, Int.toNat_natCast, go_sem]
                  repeat' ((first | ((first | apply qa | apply qb | apply qc | apply qd | apply qe | apply qf | apply qg | apply qh | apply qi | apply qj | apply qk) <;> intro hp) | ((first | refine ql rfl rfl (by decide +kernel) ?_ | refine qm _ rfl rfl (by decide +kernel) ?_) <;> have hp := True.intro)) <;> simp only [hp, g1, v1, f1, f3, f5, z0, z1, z2, z3, z4, z5, z6, z7, t1, t2, t3, t4, h3, hm, and_self, Int.toNat_natCast, go_sem])
                  all_goals (simp only [fin_mk, finV, resL, resV1, resIn, endA, listIn, Option.some_or, Option.none_or, oneOrTup, go_sem]; rw [← hr])
                  all_goals rw [hX]
  · have gd' : ¬ (d : Int) < m := by omega
    have eS : SM.symS m a b = a := by rw [SM.symS, ← hd, if_neg gd]
    have eR : SM.symR m a b = m := by rw [SM.symR, ← hd, if_neg gd]
    rw [eS, eR] at hS
    have hin := bs_in (p := fun c => !SM.ltA ltS l (p - c) c) (m - a) a m (by omega)
    rw [hS] at hin
    simp only [w1, w2, c1', c2', w3, w4, w5, w6, w7, w8, gd', go_sem]
    repeat' ((first | ((first | apply qa | apply qb | apply qc | apply qd | apply qe | apply qf | apply qg | apply qh | apply qi | apply qj | apply qk) <;> intro hp) | ((first | refine ql rfl rfl (by decide +kernel) ?_ | refine qm _ rfl rfl (by decide +kernel) ?_) <;> have hp := True.intro)) <;> simp only [hp, w1, w2, c1', c2', w3, w4, w5, w6, w7, w8, gd', go_sem])
    refine loop_go (fun p : Nat × Nat × Nat => [(20, .int .i64 (p.2.1 : Int)), (21, .int .i64 (p.2.2 : Int))]) (fun p => []) (fun p => p.2.2 - p.2.1) (fun x => a ≤ x.2.1 ∧ x.2.1 ≤ x.2.2 ∧ x.2.2 ≤ m ∧ x.2.2 - x.2.1 ≤ x.1 ∧ SM.bs (fun c => !SM.ltA ltS l (p - c) c) x.1 x.2.1 x.2.2 = S) (m - a, a, m) ⟨Nat.le_refl _, by simp only; omega, Nat.le_refl _, Nat.le_refl _, hS⟩ rfl rfl ?_
    rintro ⟨fu, i, j⟩ ⟨q1, q2, q3, q4, q5⟩ ih2
    simp only at q1 q2 q3 q4 q5 ih2
    rcases Nat.lt_or_ge i j with k | k
    · obtain ⟨fu, rfl⟩ : ∃ k, fu = k + 1 := ⟨fu - 1, by omega⟩
      rw [SM.bs, if_pos k] at q5
      have g1 : (i : Int) < j := by omega
      have w3 : IntKind.i64.wrap ((i : Int) + j) = ((i + j : Nat) : Int) := (wrap64 (by omega) (by omega)).trans (by omega)
      have w4 := wrapU (k := i + j) (by omega)
      have w5 := half64 (k := i + j)
      obtain ⟨c, hc⟩ : ∃ c : Nat, c = (i + j) / 2 := ⟨_, rfl⟩
      rw [← hc] at w5 q5
      have w6 : IntKind.i64.wrap (c : Int) = (c : Int) := wrap64 (by omega) (by omega)
      have w7 : IntKind.i64.wrap ((c : Int) + 1) = ((c + 1 : Nat) : Int) := (wrap64 (by omega) (by omega)).trans (by omega)
      obtain ⟨e, he⟩ : ∃ e : Nat, e = p - c := ⟨_, rfl⟩
      have w8 : IntKind.i64.wrap ((p : Int) - c) = (e : Int) := (wrap64 (by omega) (by omega)).trans (by omega)
      have y1 : (0 : Int) ≤ e := by omega
      have y2 : (0 : Int) ≤ c := by omega
      have y3 : (e : Int) < l.length := by omega
      have y4 : (c : Int) < l.length := by omega
      have y5 : l[e]? = some l[e] := List.getElem?_eq_getElem (by omega)
      have y6 : l[c]? = some l[c] := List.getElem?_eq_getElem (by omega)
      have y7 : Mail.le 4194304 l[e] := hm _ (List.getElem_mem _)
      have y8 : Mail.le 4194304 l[c] := hm _ (List.getElem_mem _)
      have hA : SM.ltA ltS l (p - c) c = ltS l[e] l[c] := by rw [← he]; exact SM.ltA_eq _ _
      simp only [hA] at q5
      cases hc : ltS l[e] l[c] with
      | false =>
        have y9 := ltS_f hc
        rw [hc, if_pos (by rfl)] at q5
        have ih3 := ih2 (fu, c + 1, j) ⟨by simp only; omega, by simp only; omega, q3, by simp only; omega, q5⟩ (by simp only; omega)
        clear ih2
        simp only [g1, w3, w4, w5, w6, w7, w8, y1, y2, y3, y4, y5, y6, y7, y8, y9, and_self, go_sem]
        repeat' ((first | ((first | apply qa | apply qb | apply qc | apply qd | apply qe | apply qf | apply qg | apply qh | apply qi | apply qj | apply qk) <;> intro hp) | ((first | refine ql rfl rfl (by decide +kernel) ?_ | refine qm _ rfl rfl (by decide +kernel) ?_) <;> have hp := True.intro)) <;> simp only [hp, g1, w3, w4, w5, w6, w7, w8, y1, y2, y3, y4, y5, y6, y7, y8, y9, and_self, go_sem])
        exact ih3
      | true =>
        have y9 := ltS_t hc
        rw [hc, if_neg (by simp)] at q5
        have ih3 := ih2 (fu, i, c) ⟨q1, by simp only; omega, by simp only; omega, by simp only; omega, q5⟩ (by simp only; omega)
        clear ih2
        simp only [g1, w3, w4, w5, w6, w7, w8, y1, y2, y3, y4, y5, y6, y7, y8, y9, and_self, go_sem]
        repeat' ((first | ((first | apply qa | apply qb | apply qc | apply qd | apply qe | apply qf | apply qg | apply qh | apply qi | apply qj | apply qk) <;> intro hp) | ((first | refine ql rfl rfl (by decide +kernel) ?_ | refine qm _ rfl rfl (by decide +kernel) ?_) <;> have hp := True.intro)) <;> simp only [hp, g1, w3, w4, w5, w6, w7, w8, y1, y2, y3, y4, y5, y6, y7, y8, y9, and_self, go_sem])
        exact ih3
    · have g1 : ¬ (i : Int) < j := by omega
      rw [bs_end (by omega)] at q5
      subst q5
      clear ih2 hS0 hS
      obtain ⟨e, he⟩ : ∃ e : Nat, e = q - i := ⟨_, rfl⟩
      rw [← he] at hX
      have v1 : IntKind.i64.wrap ((q : Int) - i) = (e : Int) := (wrap64 (by omega) (by omega)).trans (by omega)
      have z0 : (0 : Int) ≤ a := by omega
      have z1 : (0 : Int) ≤ i := by omega
      have z2 : (0 : Int) ≤ d := by omega
      have z3 : (b : Int) ≤ l.length := by omega
      have z4 : (e : Int) ≤ l.length := by omega
      have z5 : (d : Int) ≤ l.length := by omega
      have z6 : (d : Int) - a ≤ fuel := by omega
      have z7 : (b : Int) - d ≤ fuel := by omega
      have t1 : (SM.symT l m i e).length = l.length := symT_len
      have t2 : mailsLe (SM.symT l m i e) := symT_le hm
      have t3 : (SM.symM ltS fuel (SM.symT l m i e) a i d).length = l.length := by rw [symM_len, symT_len]
      have t4 : mailsLe (SM.symM ltS fuel (SM.symT l m i e) a i d) := symM_le _ t2
      have hT1 : i < m ∧ m < e → SM.rot m (e - i) l (m - i) (e - m) = SM.symT l m i e := fun k => by rw [SM.symT, if_pos k]
      have hT2 : ¬ (i < m ∧ m < e) → l = SM.symT l m i e := fun k => by rw [SM.symT, if_neg k]
      generalize hN : SM.symT l m i e = N at hX t1 t2 t3 t4 hT1 hT2
      by_cases k1 : i < m ∧ m < e
      · have hN1 := hT1 k1
        have f1 : (i : Int) < m := by omega
        have f2 : (m : Int) < e := by omega
        by_cases k3 : a < i ∧ i < d
        · have f3 : (a : Int) < i := by omega
          have f4 : (i : Int) < d := by omega
          rw [if_pos k3] at hX
          by_cases k5 : d < e ∧ e < b
          · have f5 : (d : Int) < e := by omega
            have f6 : (e : Int) < b := by omega
            rw [if_pos k5] at hX
            simp only [g1, v1, f1, f2, hN1, f3, f4, f5, f6, z0, z1, z2, z3, z4, z5, z6, z7, t1, t2, t3, t4, h3, hm, and_self, Int.toNat_natCast, go_sem]
            repeat' ((first | ((first | apply qa | apply qb | apply qc | apply qd | apply qe | apply qf | apply qg | apply qh | apply qi | apply qj | apply qk) <;> intro hp) | ((first | refine ql rfl rfl (by decide +kernel) ?_ | refine qm _ rfl rfl (by decide +kernel) ?_) <;> have hp := True.intro)) <;> simp only [hp, g1, v1, f1, f2, hN1, f3, f4, f5, f6, z0, z1, z2, z3, z4, z5, z6, z7, t1, t2, t3, t4, h3, hm, and_self, Int.toNat_natCast, go_sem])
            all_goals (simp only [fin_mk, finV, resL, resV1, resIn, endA, listIn, Option.some_or, Option.none_or, oneOrTup, go_sem]; rw [← hr])
            all_goals rw [hX]
          · rw [if_neg k5] at hX
            by_cases k6 : d < e
            · have f5 : (d : Int) < e := by omega
              have f6 : ¬ (e : Int) < b := by omega
              simp only [g1, v1, f1, f2, hN1, f3, f4, f5, f6, z0, z1, z2, z3, z4, z5, z6, z7, t1, t2, t3, t4, h3, hm, and_self, Int.toNat_natCast, go_sem]
              repeat' ((first | ((first | apply qa | apply qb | apply qc | apply qd | apply qe | apply qf | apply qg | apply qh | apply qi | apply qj | apply qk) <;> intro hp) | ((first | refine ql rfl rfl (by decide +kernel) ?_ | refine qm _ rfl rfl (by decide +kernel) ?_) <;> have hp := True.intro)) <;> simp only [hp, g1, v1, f1, f2, hN1, f3, f4, f5, f6, z0, z1, z2, z3, z4, z5, z6, z7, t1, t2, t3, t4, h3, hm, and_self, Int.toNat_natCast, go_sem])
              all_goals (simp only [fin_mk, finV, resL, resV1, resIn, endA, listIn, Option.some_or, Option.none_or, oneOrTup, go_sem]; rw [← hr])
              all_goals rw [hX]
            · have f5 : ¬ (d : Int) < e := by omega
              simp only [g1, v1, f1, f2, hN1, f3, f4, f5, z0, z1, z2, z3, z4, z5, z6, z7, t1, t2, t3, t4, h3, hm, and_self, Int.toNat_natCast, go_sem]
              repeat' ((first | ((first | apply qa | apply qb | apply qc | apply qd | apply qe | apply qf | apply qg | apply qh | apply qi | apply qj | apply qk) <;> intro hp) | ((first | refine ql rfl rfl (by decide +kernel) ?_ | refine qm _ rfl rfl (by decide +kernel) ?_) <;> have hp := True.intro)) <;> simp only [hp, g1, v1, f1, f2, hN1, f3, f4, f5, z0, z1, z2, z3, z4, z5, z6, z7, t1, t2, t3, t4, h3, hm, and_self, Int.toNat_natCast, go_sem])
              all_goals (simp only [fin_mk, finV, resL, resV1, resIn, endA, listIn, Option.some_or, Option.none_or, oneOrTup, go_sem]; rw [← hr])
              all_goals rw [hX]
        · rw [if_neg k3] at hX
          by_cases k4 : a < i
          · have f3 : (a : Int) < i := by omega
            have f4 : ¬ (i : Int) < d := by omega
            by_cases k5 : d < e ∧ e < b
            · have f5 : (d : Int) < e := by omega
              have f6 : (e : Int) < b := by omega
              rw [if_pos k5] at hX
              simp only [g1, v1, f1, f2, hN1, f3, f4, f5, f6, z0, z1, z2, z3, z4, z5, z6, z7, t1, t2, t3, t4, h3, hm, and_self, Int.toNat_natCast, go_sem]
              repeat' ((first | ((first | apply qa | apply qb | apply qc | apply qd | apply qe | apply qf | apply qg | apply qh | apply qi | apply qj | apply qk) <;> intro hp) | ((first | refine ql rfl rfl (by decide +kernel) ?_ | refine qm _ rfl rfl (by decide +kernel) ?_) <;> have hp := True.intro)) <;> simp only [hp, g1, v1, f1, f2, hN1, f3, f4, f5, f6, z0, z1, z2, z3, z4, z5, z6, z7, t1, t2, t3, t4, h3, hm, and_self, Int.toNat_natCast, go_sem])
              all_goals (simp only [fin_mk, finV, resL, resV1, resIn, endA, listIn, Option.some_or, Option.none_or, oneOrTup, go_sem]; rw [← hr])
              all_goals rw [hX]
            · rw [if_neg k5] at hX
              by_cases k6 : d < e
              · have f5 : (d : Int) < e := by omega
                have f6 : ¬ (e : Int) < b := by omega
                simp only [g1, v1, f1, f2, hN1, f3, f4, f5, f6, z0, z1, z2, z3, z4, z5, z6, z7, t1, t2, t3, t4, h3, hm, and_self, Int.toNat_natCast, go_sem]
                repeat' ((first | ((first | apply qa | apply qb | apply qc | apply qd | apply qe | apply qf | apply qg | apply qh | apply qi | apply qj | apply qk) <;> intro hp) | ((first | refine ql rfl rfl (by decide +kernel) ?_ | refine qm _ rfl rfl (by decide +kernel) ?_) <;> have hp := True.intro)) <;> simp only [hp, g1, v1, f1, f2, hN1, f3, f4, f5, f6, z0, z1, z2, z3, z4, z5, z6, z7, t1, t2, t3, t4, h3, hm, and_self, Int.toNat_natCast, go_sem])
                all_goals (simp only [fin_mk, finV, resL, resV1, resIn, endA, listIn, Option.some_or, Option.none_or, oneOrTup, go_sem]; rw [← hr])
                all_goals rw [hX]
              · have f5 : ¬ (d : Int) < e := by omega
                simp only [g1, v1, f1, f2, hN1, f3, f4, f5, z0, z1, z2, z3, z4, z5, z6, z7, t1, t2, t3, t4, h3, hm, and_self, Int.toNat_natCast, go_sem]
                repeat' ((first | ((first | apply qa | apply qb | apply qc | apply qd | apply qe | apply qf | apply qg | apply qh | apply qi | apply qj | apply qk) <;> intro hp) | ((first | refine ql rfl rfl (by decide +kernel) ?_ | refine qm _ rfl rfl (by decide +kernel) ?_) <;> have hp := True.intro)) <;> simp only [hp, g1, v1, f1, f2, hN1, f3, f4, f5, z0, z1, z2, z3, z4, z5, z6, z7, t1, t2, t3, t4, h3, hm, and_self, Int.toNat_natCast, go_sem])
                all_goals (simp only [fin_mk, finV, resL, resV1, resIn, endA, listIn, Option.some_or, Option.none_or, oneOrTup, go_sem]; rw [← hr])
                all_goals rw [hX]
          · have f3 : ¬ (a : Int) < i := by omega
            by_cases k5 : d < e ∧ e < b
            · have f5 : (d : Int) < e := by omega
              have f6 : (e : Int) < b := by omega
              rw [if_pos k5] at hX
              simp only [g1, v1, f1, f2, hN1, f3, f5, f6, z0, z1, z2, z3, z4, z5, z6, z7, t1, t2, t3, t4, h3, hm, and_self, Int.toNat_natCast, go_sem]
              repeat' ((first | ((first | apply qa | apply qb | apply qc | apply qd | apply qe | apply qf | apply qg | apply qh | apply qi | apply qj | apply qk) <;> intro hp) | ((first | refine ql rfl rfl (by decide +kernel) ?_ | refine qm _ rfl rfl (by decide +kernel) ?_) <;> have hp := True.intro)) <;> simp only [hp, g1, v1, f1, f2, hN1, f3, f5, f6, z0, z1, z2, z3, z4, z5, z6, z7, t1, t2, t3, t4, h3, hm, and_self, Int.toNat_natCast, go_sem])
              all_goals (simp only [fin_mk, finV, resL, resV1, resIn, endA, listIn, Option.some_or, Option.none_or, oneOrTup, go_sem]; rw [← hr])
              all_goals rw [hX]
            · rw [if_neg k5] at hX
              by_cases k6 : d < e
              · have f5 : (d : Int) < e := by omega
                have f6 : ¬ (e : Int) < b := by omega
                simp only [g1, v1, f1, f2, hN1, f3, f5, f6, z0, z1, z2, z3, z4, z5, z6, z7, t1, t2, t3, t4, h3, hm, and_self, Int.toNat_natCast, go_sem]
                repeat' ((first | ((first | apply qa | apply qb | apply qc | apply qd | apply qe | apply qf | apply qg | apply qh | apply qi | apply qj | apply qk) <;> intro hp) | ((first | refine ql rfl rfl (by decide +kernel) ?_ | refine qm _ rfl rfl (by decide +kernel) ?_) <;> have hp := True.intro)) <;> simp only [hp, g1, v1, f1, f2, hN1, f3, f5, f6, z0, z1, z2, z3, z4, z5, z6, z7, t1, t2, t3, t4, h3, hm, and_self, Int.toNat_natCast, go_sem])
                all_goals (simp only [fin_mk, finV, resL, resV1, resIn, endA, listIn, Option.some_or, Option.none_or, oneOrTup, go_sem]; rw [← hr])
                all_goals rw [hX]
              · have f5 : ¬ (d : Int) < e := by omega
                simp only [g1, v1, f1, f2, hN1, f3, f5, z0, z1, z2, z3, z4, z5, z6, z7, t1, t2, t3, t4, h3, hm, and_self, Int.toNat_natCast, go_sem]
                repeat' ((first | ((first | apply qa | apply qb | apply qc | apply qd | apply qe | apply qf | apply qg | apply qh | apply qi | apply qj | apply qk) <;> intro hp) | ((first | refine ql rfl rfl (by decide +kernel) ?_ | refine qm _ rfl rfl (by decide +kernel) ?_) <;> have hp := True.intro)) <;> simp only [hp, g1, v1, f1, f2, hN1, f3, f5, z0, z1, z2, z3, z4, z5, z6, z7, t1, t2, t3, t4, h3, hm, and_self, Int.toNat_natCast, go_sem])
                all_goals (simp only [fin_mk, finV, resL, resV1, resIn, endA, listIn, Option.some_or, Option.none_or, oneOrTup, go_sem]; rw [← hr])
                all_goals rw [hX]
      · have hN1 := hT2 k1
        subst hN1
        by_cases k2 : i < m
        · have f1 : (i : Int) < m := by omega
          have f2 : ¬ (m : Int) < e := by omega
          by_cases k3 : a < i ∧ i < d
          · have f3 : (a : Int) < i := by omega
            have f4 : (i : Int) < d := by omega
            rw [if_pos k3] at hX
            by_cases k5 : d < e ∧ e < b
            · have f5 : (d : Int) < e := by omega
              have f6 : (e : Int) < b := by omega
              rw [if_pos k5] at hX
              simp only [g1, v1, f1, f2, f3, f4, f5, f6, z0, z1, z2, z3, z4, z5, z6, z7, t1, t2, t3, t4, h3, hm, and_self, Int.toNat_natCast, go_sem]
              repeat' ((first | ((first | apply qa | apply qb | apply qc | apply qd | apply qe | apply qf | apply qg | apply qh | apply qi | apply qj | apply qk) <;> intro hp) | ((first | refine ql rfl rfl (by decide +kernel) ?_ | refine qm _ rfl rfl (by decide +kernel) ?_) <;> have hp := True.intro)) <;> simp only [hp, g1, v1, f1, f2, f3, f4, f5, f6, z0, z1, z2, z3, z4, z5, z6, z7, t1, t2, t3, t4, h3, hm, and_self, Int.toNat_natCast, go_sem])
              all_goals (simp only [fin_mk, finV, resL, resV1, resIn, endA, listIn, Option.some_or, Option.none_or, oneOrTup, go_sem]; rw [← hr])
              all_goals rw [hX]
            · rw [if_neg k5] at hX
              by_cases k6 : d < e
              · have f5 : (d : Int) < e := by omega
                have f6 : ¬ (e : Int) < b := by omega
                simp only [g1, v1, f1, f2, f3, f4, f5, f6, z0, z1, z2, z3, z4, z5, z6, z7, t1, t2, t3, t4, h3, hm, and_self, Int.toNat_natCast, go_sem]
                repeat' ((first | ((first | apply qa | apply qb | apply qc | apply qd | apply qe | apply qf | apply qg | apply qh | apply qi | apply qj | apply qk) <;> intro hp) | ((first | refine ql rfl rfl (by decide +kernel) ?_ | refine qm _ rfl rfl (by decide +kernel) ?_) <;> have hp := True.intro)) <;> simp only [hp, g1, v1, f1, f2, f3, f4, f5, f6, z0, z1, z2, z3, z4, z5, z6, z7, t1, t2, t3, t4, h3, hm, and_self, Int.toNat_natCast, go_sem])
                all_goals (simp only [fin_mk, finV, resL, resV1, resIn, endA, listIn, Option.some_or, Option.none_or, oneOrTup, go_sem]; rw [← hr])
                all_goals rw [hX]
              · have f5 : ¬ (d : Int) < e := by omega
                simp only [g1, v1, f1, f2, f3, f4, f5, z0, z1, z2, z3, z4, z5, z6, z7, t1, t2, t3, t4, h3, hm, and_self, Int.toNat_natCast, go_sem]
                repeat' ((first | ((first | apply qa | apply qb | apply qc | apply qd | apply qe | apply qf | apply qg | apply qh | apply qi | apply qj | apply qk) <;> intro hp) | ((first | refine ql rfl rfl (by decide +kernel) ?_ | refine qm _ rfl rfl (by decide +kernel) ?_) <;> have hp := True.intro)) <;> simp only [hp, g1, v1, f1, f2, f3, f4, f5, z0, z1, z2, z3, z4, z5, z6, z7, t1, t2, t3, t4, h3, hm, and_self, Int.toNat_natCast, go_sem])
                all_goals (simp only [fin_mk, finV, resL, resV1, resIn, endA, listIn, Option.some_or, Option.none_or, oneOrTup, go_sem]; rw [← hr])
                all_goals rw [hX]
          · rw [if_neg k3] at hX
            by_cases k4 : a < i
            · have f3 : (a : Int) < i := by omega
              have f4 : ¬ (i : Int) < d := by omega
              by_cases k5 : d < e ∧ e < b
              · have f5 : (d : Int) < e := by omega
                have f6 : (e : Int) < b := by omega
                rw [if_pos k5] at hX
                simp only [g1, v1, f1, f2, f3, f4, f5, f6, z0, z1, z2, z3, z4, z5, z6, z7, t1, t2, t3, t4, h3, hm, and_self, Int.toNat_natCast, go_sem]
                repeat' ((first | ((first | apply qa | apply qb | apply qc | apply qd | apply qe | apply qf | apply qg | apply qh | apply qi | apply qj | apply qk) <;> intro hp) | ((first | refine ql rfl rfl (by decide +kernel) ?_ | refine qm _ rfl rfl (by decide +kernel) ?_) <;> have hp := True.intro)) <;> simp only [hp, g1, v1, f1, f2, f3, f4, f5, f6, z0, z1, z2, z3, z4, z5, z6, z7, t1, t2, t3, t4, h3, hm, and_self, Int.toNat_natCast, go_sem])
                all_goals (simp only [fin_mk, finV, resL, resV1, resIn, endA, listIn, Option.some_or, Option.none_or, oneOrTup, go_sem]; rw [← hr])
                all_goals rw [hX]
              · rw [if_neg k5] at hX
                by_cases k6 : d < e
                · have f5 : (d : Int) < e := by omega
                  have f6 : ¬ (e : Int) < b := by omega
                  simp only [g1, v1, f1, f2, f3, f4, f5, f6, z0, z1, z2, z3, z4, z5, z6, z7, t1, t2, t3, t4, h3, hm, and_self, Int.toNat_natCast, go_sem]
                  repeat' ((first | ((first | apply qa | apply qb | apply qc | apply qd | apply qe | apply qf | apply qg | apply qh | apply qi | apply qj | apply qk) <;> intro hp) | ((first | refine ql rfl rfl (by decide +kernel) ?_ | refine qm _ rfl rfl (by decide +kernel) ?_) <;> have hp := True.intro)) <;> simp only [hp, g1, v1, f1, f2, f3, f4, f5, f6, z0, z1, z2, z3, z4, z5, z6, z7, t1, t2, t3, t4, h3, hm, and_self, Int.toNat_natCast, go_sem])
                  all_goals (simp only [fin_mk, finV, resL, resV1, resIn, endA, listIn, Option.some_or, Option.none_or, oneOrTup, go_sem]; rw [← hr])
                  all_goals rw [hX]
                · have f5 : ¬ (d : Int) < e := by omega
                  simp only [g1, v1, f1, f2, f3, f4, f5, z0, z1, z2, z3, z4, z5, z6, z7, t1, t2, t3, t4, h3, hm, and_self, Int.toNat_natCast, go_sem]
                  repeat' ((first | ((first | apply qa | apply qb | apply qc | apply qd | apply qe | apply qf | apply qg | apply qh | apply qi | apply qj | apply qk) <;> intro hp) | ((first | refine ql rfl rfl (by decide +kernel) ?_ | refine qm _ rfl rfl (by decide +kernel) ?_) <;> have hp := True.intro)) <;> simp only [hp, g1, v1, f1, f2, f3, f4, f5, z0, z1, z2, z3, z4, z5, z6, z7, t1, t2, t3, t4, h3, hm, and_self, Int.toNat_natCast, go_sem])
                  all_goals (simp only [fin_mk, finV, resL, resV1, resIn, endA, listIn, Option.some_or, Option.none_or, oneOrTup, go_sem]; rw [← hr])
                  all_goals rw [hX]
            · have f3 : ¬ (a : Int) < i := by omega
              by_cases k5 : d < e ∧ e < b
              · have f5 : (d : Int) < e := by omega
                have f6 : (e : Int) < b := by omega
                rw [if_pos k5] at hX
                simp only [g1, v1, f1, f2, f3, f5, f6, z0, z1, z2, z3, z4, z5, z6, z7, t1, t2, t3, t4, h3, hm, and_self, Int.toNat_natCast, go_sem]
                repeat' ((first | ((first | apply qa | apply qb | apply qc | apply qd | apply qe | apply qf | apply qg | apply qh | apply qi | apply qj | apply qk) <;> intro hp) | ((first | refine ql rfl rfl (by decide +kernel) ?_ | refine qm _ rfl rfl (by decide +kernel) ?_) <;> have hp := True.intro)) <;> simp only [hp, g1, v1, f1, f2, f3, f5, f6, z0, z1, z2, z3, z4, z5, z6, z7, t1, t2, t3, t4, h3, hm, and_self, Int.toNat_natCast, go_sem])
                all_goals (simp only [fin_mk, finV, resL, resV1, resIn, endA, listIn, Option.some_or, Option.none_or, oneOrTup, go_sem]; rw [← hr])
                all_goals rw [hX]
              · rw [if_neg k5] at hX
                by_cases k6 : d < e
                · have f5 : (d : Int) < e := by omega
                  have f6 : ¬ (e : Int) < b := by omega
                  simp only [g1, v1, f1, f2, f3, f5, f6, z0, z1, z2, z3, z4, z5, z6, z7, t1, t2, t3, t4, h3, hm, and_self, Int.toNat_natCast, go_sem]
                  repeat' ((first | ((first | apply qa | apply qb | apply qc | apply qd | apply qe | apply qf | apply qg | apply qh | apply qi | apply qj | apply qk) <;> intro hp) | ((first | refine ql rfl rfl (by decide +kernel) ?_ | refine qm _ rfl rfl (by decide +kernel) ?_) <;> have hp := True.intro)) <;> simp only [hp, g1, v1, f1, f2, f3, f5, f6, z0, z1, z2, z3, z4, z5, z6, z7, t1, t2, t3, t4, h3, hm, and_self, Int.toNat_natCast, go_sem])
                  all_goals (simp only [fin_mk, finV, resL, resV1, resIn, endA, listIn, Option.some_or, Option.none_or, oneOrTup, go_sem]; rw [← hr])
                  all_goals rw [hX]
                · have f5 : ¬ (d : Int) < e := by omega
                  simp only [g1, v1, f1, f2, f3, f5, z0, z1, z2, z3, z4, z5, z6, z7, t1, t2, t3, t4, h3, hm, and_self, Int.toNat_natCast, go_sem]
                  repeat' ((first | ((first | apply qa | apply qb | apply qc | apply qd | apply qe | apply qf | apply qg | apply qh | apply qi | apply qj | apply qk) <;> intro hp) | ((first | refine ql rfl rfl (by decide +kernel) ?_ | refine qm _ rfl rfl (by decide +kernel) ?_) <;> have hp := True.intro)) <;> simp only [hp, g1, v1, f1, f2, f3, f5, z0, z1, z2, z3, z4, z5, z6, z7, t1, t2, t3, t4, h3, hm, and_self, Int.toNat_natCast, go_sem])
                  all_goals (simp only [fin_mk, finV, resL, resV1, resIn, endA, listIn, Option.some_or, Option.none_or, oneOrTup, go_sem]; rw [← hr])
                  all_goals rw [hX]
        · have f1 : ¬ (i : Int) < m := by omega
          by_cases k3 : a < i ∧ i < d
          · have f3 : (a : Int) < i := by omega
            have f4 : (i : Int) < d := by omega
            rw [if_pos k3] at hX
            by_cases k5 : d < e ∧ e < b
            · have f5 : (d : Int) < e := by omega
              have f6 : (e : Int) < b := by omega
              rw [if_pos k5] at hX
              simp only [g1, v1, f1, f3, f4, f5, f6, z0, z1, z2, z3, z4, z5, z6, z7, t1, t2, t3, t4, h3, hm, and_self, Int.toNat_natCast, go_sem]
              repeat' ((first | ((first | apply qa | apply qb | apply qc | apply qd | apply qe | apply qf | apply qg | apply qh | apply qi | apply qj | apply qk) <;> intro hp) | ((first | refine ql rfl rfl (by decide +kernel) ?_ | refine qm _ rfl rfl (by decide +kernel) ?_) <;> have hp := True.intro)) <;> simp only [hp, g1, v1, f1, f3, f4, f5, f6, z0, z1, z2, z3, z4, z5, z6, z7, t1, t2, t3, t4, h3, hm, and_self, Int.toNat_natCast, go_sem])
              all_goals (simp only [fin_mk, finV, resL, resV1, resIn, endA, listIn, Option.some_or, Option.none_or, oneOrTup, go_sem]; rw [← hr])
              all_goals rw [hX]
            · rw [if_neg k5] at hX
              by_cases k6 : d < e
              · have f5 : (d : Int) < e := by omega
                have f6 : ¬ (e : Int) < b := by omega
                simp only [g1, v1, f1, f3, f4, f5, f6, z0, z1, z2, z3, z4, z5, z6, z7, t1, t2, t3, t4, h3, hm, and_self, Int.toNat_natCast, go_sem]
                repeat' ((first | ((first | apply qa | apply qb | apply qc | apply qd | apply qe | apply qf | apply qg | apply qh | apply qi | apply qj | apply qk) <;> intro hp) | ((first | refine ql rfl rfl (by decide +kernel) ?_ | refine qm _ rfl rfl (by decide +kernel) ?_) <;> have hp := True.intro)) <;> simp only [hp, g1, v1, f1, f3, f4, f5, f6, z0, z1, z2, z3, z4, z5, z6, z7, t1, t2, t3, t4, h3, hm, and_self, Int.toNat_natCast, go_sem])
                all_goals (simp only [fin_mk, finV, resL, resV1, resIn, endA, listIn, Option.some_or, Option.none_or, oneOrTup, go_sem]; rw [← hr])
                all_goals rw [hX]
              · have f5 : ¬ (d : Int) < e := by omega
                simp only [g1, v1, f1, f3, f4, f5, z0, z1, z2, z3, z4, z5, z6, z7, t1, t2, t3, t4, h3, hm, and_self, Int.toNat_natCast, go_sem]
                repeat' ((first | ((first | apply qa | apply qb | apply qc | apply qd | apply qe | apply qf | apply qg | apply qh | apply qi | apply qj | apply qk) <;> intro hp) | ((first | refine ql rfl rfl (by decide +kernel) ?_ | refine qm _ rfl rfl (by decide +kernel) ?_) <;> have hp := True.intro)) <;> simp only [hp, g1, v1, f1, f3, f4, f5, z0, z1, z2, z3, z4, z5, z6, z7, t1, t2, t3, t4, h3, hm, and_self, Int.toNat_natCast, go_sem])
                all_goals (simp only [fin_mk, finV, resL, resV1, resIn, endA, listIn, Option.some_or, Option.none_or, oneOrTup, go_sem]; rw [← hr])
                all_goals rw [hX]
          · rw [if_neg k3] at hX
            by_cases k4 : a < i
            · have f3 : (a : Int) < i := by omega
              have f4 : ¬ (i : Int) < d := by omega
              by_cases k5 : d < e ∧ e < b
              · have f5 : (d : Int) < e := by omega
                have f6 : (e : Int) < b := by omega
                rw [if_pos k5] at hX
                simp only [g1, v1, f1, f3, f4, f5, f6, z0, z1, z2, z3, z4, z5, z6, z7, t1, t2, t3, t4, h3, hm, and_self, Int.toNat_natCast, go_sem]
                repeat' ((first | ((first | apply qa | apply qb | apply qc | apply qd | apply qe | apply qf | apply qg | apply qh | apply qi | apply qj | apply qk) <;> intro hp) | ((first | refine ql rfl rfl (by decide +kernel) ?_ | refine qm _ rfl rfl (by decide +kernel) ?_) <;> have hp := True.intro)) <;> simp only [hp, g1, v1, f1, f3, f4, f5, f6, z0, z1, z2, z3, z4, z5, z6, z7, t1, t2, t3, t4, h3, hm, and_self, Int.toNat_natCast, go_sem])
                all_goals (simp only [fin_mk, finV, resL, resV1, resIn, endA, listIn, Option.some_or, Option.none_or, oneOrTup, go_sem]; rw [← hr])
                all_goals rw [hX]
              · rw [if_neg k5] at hX
                by_cases k6 : d < e
                · have f5 : (d : Int) < e := by omega
                  have f6 : ¬ (e : Int) < b := by omega
                  simp only [g1, v1, f1, f3, f4, f5, f6, z0, z1, z2, z3, z4, z5, z6, z7, t1, t2, t3, t4, h3, hm, and_self, Int.toNat_natCast, go_sem]
                  repeat' ((first | ((first | apply qa | apply qb | apply qc | apply qd | apply qe | apply qf | apply qg | apply qh | apply qi | apply qj | apply qk) <;> intro hp) | ((first | refine ql rfl rfl (by decide +kernel) ?_ | refine qm _ rfl rfl (by decide +kernel) ?_) <;> have hp := True.intro)) <;> simp only [hp, g1, v1, f1, f3, f4, f5, f6, z0, z1, z2, z3, z4, z5, z6, z7, t1, t2, t3, t4, h3, hm, and_self, Int.toNat_natCast, go_sem])
                  all_goals (simp only [fin_mk, finV, resL, resV1, resIn, endA, listIn, Option.some_or, Option.none_or, oneOrTup, go_sem]; rw [← hr])
                  all_goals rw [hX]
                · have f5 : ¬ (d : Int) < e := by omega
                  simp only [g1, v1, f1, f3, f4, f5, z0, z1, z2, z3, z4, z5, z6, z7, t1, t2, t3, t4, h3, hm, and_self, Int.toNat_natCast, go_sem]
                  repeat' ((first | ((first | apply qa | apply qb | apply qc | apply qd | apply qe | apply qf | apply qg | apply qh | apply qi | apply qj | apply qk) <;> intro hp) | ((first | refine ql rfl rfl (by decide +kernel) ?_ | refine qm _ rfl rfl (by decide +kernel) ?_) <;> have hp := True.intro)) <;> simp only [hp, g1, v1, f1, f3, f4, f5, z0, z1, z2, z3, z4, z5, z6, z7, t1, t2, t3, t4, h3, hm, and_self, Int.toNat_natCast, go_sem])
                  all_goals (simp only [fin_mk, finV, resL, resV1, resIn, endA, listIn, Option.some_or, Option.none_or, oneOrTup, go_sem]; rw [← hr])
                  all_goals rw [hX]
            · have f3 : ¬ (a : Int) < i := by omega
              by_cases k5 : d < e ∧ e < b
              · have f5 : (d : Int) < e := by omega
                have f6 : (e : Int) < b := by omega
                rw [if_pos k5] at hX
                simp only [g1, v1, f1, f3, f5, f6, z0, z1, z2, z3, z4, z5, z6, z7, t1, t2, t3, t4, h3, hm, and_self, Int.toNat_natCast, go_sem]
                repeat' ((first | ((first | apply qa | apply qb | apply qc | apply qd | apply qe | apply qf | apply qg | apply qh | apply qi | apply qj | apply qk) <;> intro hp) | ((first | refine ql rfl rfl (by decide +kernel) ?_ | refine qm _ rfl rfl (by decide +kernel) ?_) <;> have hp := True.intro)) <;> simp only [hp, g1, v1, f1, f3, f5, f6, z0, z1, z2, z3, z4, z5, z6, z7, t1, t2, t3, t4, h3, hm, and_self, Int.toNat_natCast, go_sem])
                all_goals (simp only [fin_mk, finV, resL, resV1, resIn, endA, listIn, Option.some_or, Option.none_or, oneOrTup, go_sem]; rw [← hr])
                all_goals rw [hX]
              · rw [if_neg k5] at hX
                by_cases k6 : d < e
                · have f5 : (d : Int) < e := by omega
                  have f6 : ¬ (e : Int) < b := by omega
                  simp only [g1, v1, f1, f3, f5, f6, z0, z1, z2, z3, z4, z5, z6, z7, t1, t2, t3, t4, h3, hm, and_self, Int.toNat_natCast, go_sem]
                  repeat' ((first | ((first | apply qa | apply qb | apply qc | apply qd | apply qe | apply qf | apply qg | apply qh | apply qi | apply qj | apply qk) <;> intro hp) | ((first | refine ql rfl rfl (by decide +kernel) ?_ | refine qm _ rfl rfl (by decide +kernel) ?_) <;> have hp := True.intro)) <;> simp only [hp, g1, v1, f1, f3, f5, f6, z0, z1, z2, z3, z4, z5, z6, z7, t1, t2, t3, t4, h3, hm, and_self, Int.toNat_natCast, go_sem])
                  all_goals (simp only [fin_mk, finV, resL, resV1, resIn, endA, listIn, Option.some_or, Option.none_or, oneOrTup, go_sem]; rw [← hr])
                  all_goals rw [hX]
                · have f5 : ¬ (d : Int) < e := by omega
                  simp only [g1, v1, f1, f3, f5, z0, z1, z2, z3, z4, z5, z6, z7, t1, t2, t3, t4, h3, hm, and_self, Int.toNat_natCast, go_sem]
                  repeat' ((first | ((first | apply qa | apply qb | apply qc | apply qd | apply qe | apply qf | apply qg | apply qh | apply qi | apply qj | apply qk) <;> intro hp) | ((first | refine ql rfl rfl (by decide +kernel) ?_ | refine qm _ rfl rfl (by decide +kernel) ?_) <;> have hp := True.intro)) <;> simp only [hp, g1, v1, f1, f3, f5, z0, z1, z2, z3, z4, z5, z6, z7, t1, t2, t3, t4, h3, hm, and_self, Int.toNat_natCast, go_sem])
                  all_goals (simp only [fin_mk, finV, resL, resV1, resIn, endA, listIn, Option.some_or, Option.none_or, oneOrTup, go_sem]; rw [← hr])
                  all_goals rw [hX]
end Go.Proofs.YtghmjnggmacohaaGreatDoor.L

namespace Go.Proofs.YtghmjnggmacohaaGreatDoor.L
open Go Go.VM
set_option maxRecDepth 100000
set_option maxHeartbeats 8000000
set_option linter.unusedSimpArgs false
set_option linter.unusedVariables false
theorem ok_sym : ∀ n, FnOk Tryz.prog 88 (spSym n)
  | 0 => fun w S ins r outs cargs Ns hG hrun => by
    obtain ⟨l, a, m, b, _, ⟨⟨h1, h2, h3⟩, h4, h5, h6, h7⟩, _, _⟩ := spSym_in hrun
    omega
  | n + 1 => ok_slices_symMergeCmpFunc_loop_example_g00247_impl_Mail n (ok_sym n)
noncomputable def spSymB : VM.Spec := spSym 100
attribute [go_sem] spSymB
theorem ok_slices_symMergeCmpFunc_loop_example_g00247_impl_Mail_B : FnOk Tryz.prog 88 spSymB := ok_sym 100
open Classical in
noncomputable def spStab : VM.Spec := { modes := [.io, .rd, .rd], run := fun | [.lst 4 l', .int .i64 n, .fn 36 []] => (decL Mail.dec l').bind fun l => if n = l.length ∧ l.length ≤ 30 ∧ mailsLe l then some (.tup [], [.lst 4 ((SM.stab ltS l).map Mail.enc)]) else none | _ => none, need := ["internal/bytealg.MaxLen"] }
attribute [go_sem] spStab
theorem spStab_in {ins : List V} {r : V} {outs : List V} (h : spStab.run ins = some (r, outs)) : ∃ (l : (List Mail)) (n : Int), ins = [.lst 4 ((l).map Mail.enc), .int .i64 n, .fn 36 []] ∧ (n = l.length ∧ l.length ≤ 30 ∧ mailsLe l) ∧ .tup [] = r ∧ outs = [.lst 4 ((SM.stab ltS l).map Mail.enc)] := by
  unfold spStab at h
  simp only at h
  split at h
  · rename_i l' n
    simp only [Option.bind_eq_some_iff] at h
    obtain ⟨l, h_l, h⟩ := h
    split at h
    case isFalse => cases h
    rename_i hc
    simp only [Option.some.injEq, Prod.mk.injEq] at h
    obtain ⟨h1, h2⟩ := h
    have h_l := decL_some (fun _ _ h => Mail.dec_some h) h_l
    subst h_l
    exact ⟨l, n, rfl, hc, h1, h2.symm⟩
  · cases h
def T_slices_stableCmpFunc_loop_example_g00247_impl_Mail : Hints := ⟨lk [], lk [(2, [0, 1, 2, 6, 7, 8]), (7, [0, 1, 2, 6]), (9, [0, 1, 2, 6, 7, 8])], lk [(0, [0, 1, 2, 6]), (1, [0, 1, 2, 6, 7, 8]), (2, [0, 1, 2, 6, 7, 8, 13]), (3, [0, 1, 2, 6, 8]), (4, [0, 1, 2, 6, 7, 8]), (5, [0, 1, 2, 6, 7, 8]), (6, [0, 1, 2, 6]), (7, [0, 1, 2, 6, 30]), (8, [0, 1, 2, 6, 7, 8]), (9, [0, 1, 2, 6, 7, 8, 35]), (10, [0, 1, 2, 6, 8]), (11, [0, 1, 2, 6, 7, 8]), (12, [0, 1, 2, 6, 7, 8]), (13, [0, 1, 2, 6, 7, 9]), (14, [0, 1, 2, 6, 7, 9, 54]), (15, [0, 1, 2, 6]), (16, [0, 1, 2, 6])], lk [], lf []⟩
noncomputable def Phi_slices_stableCmpFunc_loop_example_g00247_impl_Mail : Tab := lk [(88, spSymB), (87, spInsS)]
attribute [go_sem] T_slices_stableCmpFunc_loop_example_g00247_impl_Mail Phi_slices_stableCmpFunc_loop_example_g00247_impl_Mail
theorem phi_slices_stableCmpFunc_loop_example_g00247_impl_Mail : ∀ f sp, Phi_slices_stableCmpFunc_loop_example_g00247_impl_Mail f = some sp → FnOk Tryz.prog f sp ∧ ∀ n ∈ sp.need, n ∈ (["internal/bytealg.MaxLen"] : List String) := phi_cons ok_slices_symMergeCmpFunc_loop_example_g00247_impl_Mail_B (fun n (h : n ∈ (["internal/bytealg.MaxLen"] : List String)) => by simp only [List.mem_cons, List.not_mem_nil, or_false] at h; rcases h with rfl <;> simp) (phi_cons ok_slices_insertionSortCmpFunc_loop_example_g00247_impl_Mail (fun n (h : n ∈ (["internal/bytealg.MaxLen"] : List String)) => by simp only [List.mem_cons, List.not_mem_nil, or_false] at h; rcases h with rfl <;> simp) (phi_nil))
theorem ok_slices_stableCmpFunc_loop_example_g00247_impl_Mail : FnOk Tryz.prog 61 spStab := by
  refine fn_ok (Φ := Phi_slices_stableCmpFunc_loop_example_g00247_impl_Mail) (T := T_slices_stableCmpFunc_loop_example_g00247_impl_Mail) phi_slices_stableCmpFunc_loop_example_g00247_impl_Mail mixed Tryz.func61 rfl rfl rfl (by decide) ?_
  intro ins r outs hr hl
  clear hl
  have hs := spStab_in hr
  clear hr
  obtain ⟨l, n, rfl, hc, hr, rfl⟩ := hs
  simp only [spStab, Tryz.f61, Go.VM.initS]
  obtain ⟨rfl, h3, hm⟩ := hc
  have z0 : (0 : Int) ≤ l.length := by omega
  have z1 : (20 : Int) ≤ 40 := by decide
  simp only [go_sem]
  by_cases h20 : 20 ≤ l.length
  · have t1 : (SM.insS ltS 0 l 19).length = l.length := SM.insS_len _
    have t2 : mailsLe (SM.insS ltS 0 l 19) := insS_le hm _
    refine loop_go (fun k : Nat => [(7, .int .i64 (if k = 0 then 0 else 20)), (8, .int .i64 (if k = 0 then 20 else 40))]) (fun k => [(0, ⟨.arr, 4, (if k = 0 then l else SM.insS ltS 0 l 19).map Mail.enc⟩)]) (fun k => 1 - k) (fun k => k ≤ 1) 0 (by decide) rfl rfl ?_
    intro k hk ih
    have hk' : k = 0 ∨ k = 1 := by omega
    rcases hk' with rfl | rfl
    · have ih' := ih 1 (by decide) (by decide)
      simp only [Nat.reduceEqDiff, if_true, if_false, Nat.one_ne_zero] at ih' ⊢
      have g1 : (20 : Int) ≤ l.length := by omega
      have w1 : IntKind.i64.wrap (20 + 20) = 40 := by decide
      clear ih
      simp only [g1, w1, h3, hm, Int.toNat_zero, Int.reduceToNat, Nat.reduceSub, and_self, go_sem]
      repeat' ((first | apply qa | apply qb | apply qc | apply qd | apply qe | apply qf | apply qg | apply qh | apply qi | apply qj | apply qk) <;> intro hp <;> simp only [hp, g1, w1, h3, hm, Int.toNat_zero, Int.reduceToNat, Nat.reduceSub, and_self, go_sem])
      all_goals first | exact ih' | skip
    · clear ih
      simp only [Nat.reduceEqDiff, if_true, if_false, Nat.one_ne_zero]
      have g1 : ¬ (40 : Int) ≤ l.length := by omega
      have t3 : (SM.insS ltS 20 (SM.insS ltS 0 l 19) (l.length - 21)).length = l.length := by rw [SM.insS_len, t1]
      have t4 : mailsLe (SM.insS ltS 20 (SM.insS ltS 0 l 19) (l.length - 21)) := insS_le t2 _
      have g2 : (20 : Int) ≤ l.length := by omega
      have e1 : l.length - 20 - 1 = l.length - 21 := by omega
      simp only [g1, g2, h3, hm, t1, t2, Int.toNat_natCast, Int.reduceToNat, Nat.reduceSub, and_self, e1, Int.le_refl, go_sem]
      repeat' ((first | apply qa | apply qb | apply qc | apply qd | apply qe | apply qf | apply qg | apply qh | apply qi | apply qj | apply qk) <;> intro hp <;> simp only [hp, g1, g2, h3, hm, t1, t2, Int.toNat_natCast, Int.reduceToNat, Nat.reduceSub, and_self, e1, Int.le_refl, go_sem])
      refine loop_go (fun k : Nat => [(6, .int .i64 (if k = 0 then 20 else 40))]) (fun k => [(0, ⟨.arr, 4, (if k = 0 then SM.insS ltS 20 (SM.insS ltS 0 l 19) (l.length - 21) else SM.symM ltS 100 (SM.insS ltS 20 (SM.insS ltS 0 l 19) (l.length - 21)) 0 20 l.length).map Mail.enc⟩)]) (fun k => 1 - k) (fun k => k ≤ 1 ∧ (k = 1 → 20 < l.length)) 0 ⟨by decide, fun h => by cases h⟩ rfl rfl ?_
      intro k hk ih
      have hk' : k = 0 ∨ k = 1 := by omega
      rcases hk' with rfl | rfl
      · simp only [if_true]
        by_cases h21 : 20 < l.length
        · have ih' := ih 1 ⟨by decide, fun _ => h21⟩ (by decide)
          simp only [Nat.reduceEqDiff, if_true, if_false, Nat.one_ne_zero] at ih'
          have f1 : (20 : Int) < l.length := by omega
          have f2 : (l.length : Int) ≤ ((100 : Nat) : Int) := by omega
          have w1 : IntKind.i64.wrap (2 * 20) = 40 := by decide
          have w2 : IntKind.i64.wrap (20 * 2) = 40 := by decide
          have w3 : IntKind.i64.wrap 20 = 20 := by decide
          have w4 : IntKind.i64.wrap 40 = 40 := by decide
          clear ih
          simp only [f1, w1, go_sem]
          repeat' ((first | apply qa | apply qb | apply qc | apply qd | apply qe | apply qf | apply qg | apply qh | apply qi | apply qj | apply qk) <;> intro hp <;> simp only [hp, f1, w1, go_sem])
          refine loop_go (fun _ : Unit => []) (fun _ => []) (fun _ => 0) (fun _ => True) () trivial rfl rfl ?_
          intro _ _ _
          simp only [g1, g2, f1, f2, w2, w3, w4, h3, t3, t4, Int.toNat_natCast, Int.reduceToNat, Nat.reduceSub, and_self, Int.sub_zero, Int.le_refl, go_sem]
          repeat' ((first | apply qa | apply qb | apply qc | apply qd | apply qe | apply qf | apply qg | apply qh | apply qi | apply qj | apply qk) <;> intro hp <;> simp only [hp, g1, g2, f1, f2, w2, w3, w4, h3, t3, t4, Int.toNat_natCast, Int.reduceToNat, Nat.reduceSub, and_self, Int.sub_zero, Int.le_refl, go_sem])
          all_goals first | exact ih' | skip
        · have f1 : ¬ (20 : Int) < l.length := by omega
          have e2 : l.length = 20 := by omega
          clear ih
          simp only [f1, go_sem]
          repeat' ((first | apply qa | apply qb | apply qc | apply qd | apply qe | apply qf | apply qg | apply qh | apply qi | apply qj | apply qk) <;> intro hp <;> simp only [hp, f1, go_sem])
          simp only [fin_mk, finV, resL, resV1, resIn, endA, listIn, Option.some_or, Option.none_or, oneOrTup, go_sem]
          rw [← hr]
          rw [SM.stab, if_neg h21, e2]
          rfl
      · simp only [Nat.reduceEqDiff, if_true, if_false, Nat.one_ne_zero]
        have h21 := hk.2 rfl
        have f1 : ¬ (40 : Int) < l.length := by omega
        clear ih
        simp only [f1, go_sem]
        repeat' ((first | apply qa | apply qb | apply qc | apply qd | apply qe | apply qf | apply qg | apply qh | apply qi | apply qj | apply qk) <;> intro hp <;> simp only [hp, f1, go_sem])
        simp only [fin_mk, finV, resL, resV1, resIn, endA, listIn, Option.some_or, Option.none_or, oneOrTup, go_sem]
        rw [← hr]
        rw [SM.stab, if_pos h21]
  · have g1 : ¬ (20 : Int) ≤ l.length := by omega
    have f1 : ¬ (20 : Int) < l.length := by omega
    refine loop_go (fun _ : Unit => []) (fun _ => []) (fun _ => 0) (fun _ => True) () trivial rfl rfl ?_
    intro _ _ _
    simp only [g1, z0, h3, hm, Int.toNat_natCast, Int.reduceToNat, Nat.sub_zero, and_self, Int.le_refl, go_sem]
    repeat' ((first | apply qa | apply qb | apply qc | apply qd | apply qe | apply qf | apply qg | apply qh | apply qi | apply qj | apply qk) <;> intro hp <;> simp only [hp, g1, z0, h3, hm, Int.toNat_natCast, Int.reduceToNat, Nat.sub_zero, and_self, Int.le_refl, go_sem])
    refine loop_go (fun _ : Unit => []) (fun _ => []) (fun _ => 0) (fun _ => True) () trivial rfl rfl ?_
    intro _ _ _
    simp only [f1, go_sem]
    repeat' ((first | apply qa | apply qb | apply qc | apply qd | apply qe | apply qf | apply qg | apply qh | apply qi | apply qj | apply qk) <;> intro hp <;> simp only [hp, f1, go_sem])
    simp only [fin_mk, finV, resL, resV1, resIn, endA, listIn, Option.some_or, Option.none_or, oneOrTup, go_sem]
    rw [← hr]
    rw [SM.stab, if_neg (by omega)]
open Classical in
noncomputable def spSortM : VM.Spec := { modes := [.io, .rd], run := fun | [.lst 4 l', .fn 36 []] => (decL Mail.dec l').bind fun l => if l.length ≤ 30 ∧ mailsLe l then some (.tup [], [.lst 4 ((SM.stab ltS l).map Mail.enc)]) else none | _ => none, need := ["internal/bytealg.MaxLen"] }
attribute [go_sem] spSortM
theorem spSortM_in {ins : List V} {r : V} {outs : List V} (h : spSortM.run ins = some (r, outs)) : ∃ (l : (List Mail)), ins = [.lst 4 ((l).map Mail.enc), .fn 36 []] ∧ (l.length ≤ 30 ∧ mailsLe l) ∧ .tup [] = r ∧ outs = [.lst 4 ((SM.stab ltS l).map Mail.enc)] := by
  unfold spSortM at h
  simp only at h
  split at h
  · rename_i l'
    simp only [Option.bind_eq_some_iff] at h
    obtain ⟨l, h_l, h⟩ := h
    split at h
    case isFalse => cases h
    rename_i hc
    simp only [Option.some.injEq, Prod.mk.injEq] at h
    obtain ⟨h1, h2⟩ := h
    have h_l := decL_some (fun _ _ h => Mail.dec_some h) h_l
    subst h_l
    exact ⟨l, rfl, hc, h1, h2.symm⟩
  · cases h
def T_slices_SortStableFunc_loop_example_g00247_impl_Mail_loop_example_g00247_impl_Mail : Hints := ⟨lk [], lk [], lk [(0, [])], lk [], lf []⟩
noncomputable def Phi_slices_SortStableFunc_loop_example_g00247_impl_Mail_loop_example_g00247_impl_Mail : Tab := lk [(61, spStab)]
attribute [go_sem] T_slices_SortStableFunc_loop_example_g00247_impl_Mail_loop_example_g00247_impl_Mail Phi_slices_SortStableFunc_loop_example_g00247_impl_Mail_loop_example_g00247_impl_Mail
theorem phi_slices_SortStableFunc_loop_example_g00247_impl_Mail_loop_example_g00247_impl_Mail : ∀ f sp, Phi_slices_SortStableFunc_loop_example_g00247_impl_Mail_loop_example_g00247_impl_Mail f = some sp → FnOk Tryz.prog f sp ∧ ∀ n ∈ sp.need, n ∈ (["internal/bytealg.MaxLen"] : List String) := phi_cons ok_slices_stableCmpFunc_loop_example_g00247_impl_Mail (fun n (h : n ∈ (["internal/bytealg.MaxLen"] : List String)) => by simp only [List.mem_cons, List.not_mem_nil, or_false] at h; rcases h with rfl <;> simp) (phi_nil)
theorem ok_slices_SortStableFunc_loop_example_g00247_impl_Mail_loop_example_g00247_impl_Mail : FnOk Tryz.prog 35 spSortM := by
  refine fn_ok (Φ := Phi_slices_SortStableFunc_loop_example_g00247_impl_Mail_loop_example_g00247_impl_Mail) (T := T_slices_SortStableFunc_loop_example_g00247_impl_Mail_loop_example_g00247_impl_Mail) phi_slices_SortStableFunc_loop_example_g00247_impl_Mail_loop_example_g00247_impl_Mail mixed Tryz.func35 rfl rfl rfl (by decide) ?_
  intro ins r outs hr hl
  clear hl
  have hs := spSortM_in hr
  clear hr
  obtain ⟨l, rfl, hc, hr, rfl⟩ := hs
  simp only [spSortM, Tryz.f35, Go.VM.initS]
  obtain ⟨h3, hm⟩ := hc
  simp only [h3, hm, and_self, go_sem]
  repeat' ((first | apply qa | apply qb | apply qc | apply qd | apply qe | apply qf | apply qg | apply qh | apply qi | apply qj | apply qk) <;> intro hp <;> simp only [hp, h3, hm, and_self, go_sem])
  simp only [fin_mk, finV, resL, resV1, resIn, endA, listIn, Option.some_or, Option.none_or, oneOrTup, go_sem]
  rw [← hr]
  first | rfl | skip
end Go.Proofs.YtghmjnggmacohaaGreatDoor.L

namespace Go.Proofs.YtghmjnggmacohaaGreatDoor.L
open Go Go.VM
set_option maxRecDepth 100000
set_option maxHeartbeats 8000000
set_option linter.unusedSimpArgs false
set_option linter.unusedVariables false
def ltR (x y : Mail) : Prop := Op.bytesLess (subjectOf x) (subjectOf y) = true ∨ (subjectOf x = subjectOf y ∧ x.Uid < y.Uid)
theorem less_iff (a b : List UInt8) : Op.bytesLess a b = true ↔ a < b := by rw [Go.Proofs.bytesLess_eq, decide_eq_true_eq]
theorem less_no {a b : List UInt8} (h : Op.bytesLess a b = true) : Op.bytesLess b a = false := by
  cases k : Op.bytesLess b a with
  | false => rfl
  | true => exact absurd ((less_iff _ _).1 k) (List.lt_asymm ((less_iff _ _).1 h))
theorem less_self (a : List UInt8) : Op.bytesLess a a = false := by
  cases k : Op.bytesLess a a with
  | false => rfl
  | true => exact absurd ((less_iff _ _).1 k) (List.lt_irrefl _)
theorem less_eq {a b : List UInt8} (h1 : Op.bytesLess a b = false) (h2 : Op.bytesLess b a = false) : a = b := by
  have k1 : ¬ a < b := fun k => by rw [(less_iff _ _).2 k] at h1; cases h1
  have k2 : ¬ b < a := fun k => by rw [(less_iff _ _).2 k] at h2; cases h2
  exact List.le_antisymm (List.not_lt.1 k2) (List.not_lt.1 k1)
theorem ordS : SM.Ord ltS (fun x y => x.Uid < y.Uid) ltR where
  trans := by
    intro x y z h1 h2
    rcases h1 with h1 | ⟨h1, h1'⟩ <;> rcases h2 with h2 | ⟨h2, h2'⟩
    · exact .inl ((less_iff _ _).2 (List.lt_trans ((less_iff _ _).1 h1) ((less_iff _ _).1 h2)))
    · exact .inl (h2 ▸ h1)
    · exact .inl (h1 ▸ h2)
    · exact .inr ⟨h1.trans h2, by omega⟩
  asym := by
    intro x y h1 h2
    rcases h1 with h1 | ⟨h1, h1'⟩ <;> rcases h2 with h2 | ⟨h2, h2'⟩
    · rw [less_no h1] at h2; cases h2
    · rw [h2, less_self] at h1; cases h1
    · rw [h1, less_self] at h2; cases h2
    · omega
  up := by
    intro x y hu
    constructor
    · exact fun h => .inl h
    · rintro (h | ⟨_, h⟩)
      · exact h
      · have hu' : x.Uid < y.Uid := hu
        omega
  down := by
    intro x y hu h
    cases k : Op.bytesLess (subjectOf x) (subjectOf y) with
    | true => exact .inl k
    | false => exact .inr ⟨less_eq k h, hu⟩
def sortBy (b : Box) (s : List Range) : List Int := (SM.sortI ltS (mailsIn b s)).map (·.Uid)
theorem mailsIn_le {b : Box} {s : List Range} (h : b.le 4194304) : mailsLe (mailsIn b s) ∧ (mailsIn b s).length ≤ 30 := by
  unfold mailsIn
  split
  · rename_i hk
    exact ⟨fun m hm => h.2.1.2 m (List.mem_filter.1 hm).1, Nat.le_trans (List.length_filter_le _ _) (boxOk_parts hk).2.1⟩
  · exact ⟨fun m hm => (by cases hm), by simp⟩
theorem stab_mails {b : Box} {s : List Range} (h : b.le 4194304) : SM.stab ltS (mailsIn b s) = SM.sortI ltS (mailsIn b s) := SM.stab_eq ordS (mailsIn_asc b s) (mailsIn_le h).2
theorem sortI_len (b : Box) (s : List Range) : (SM.sortI ltS (mailsIn b s)).length = (mailsIn b s).length := (SM.sortI_ok ordS (mailsIn_asc b s)).1.length_eq
theorem sortBy_len {b : Box} {s : List Range} (h : b.le 4194304) : (sortBy b s).length ≤ 4194304 := by
  rw [sortBy, List.length_map, sortI_len]
  have := (mailsIn_le (s := s) h).2
  omega
open Classical in
noncomputable def spSortBy : VM.Spec := { modes := [.rd, .rd], run := fun | [b', .lst 2 s'] => (Box.dec b').bind fun b => (decL Range.dec s').bind fun s => if b.le 4194304 ∧ s.length ≤ 4194304 then some (.lst 1 ((sortBy b s).map eInt), []) else none | _ => none, need := ["internal/bytealg.MaxLen"] }
attribute [go_sem] spSortBy
theorem spSortBy_in {ins : List V} {r : V} {outs : List V} (h : spSortBy.run ins = some (r, outs)) : ∃ (b : Box) (s : (List Range)), ins = [Box.enc b, .lst 2 ((s).map Range.enc)] ∧ (b.le 4194304 ∧ s.length ≤ 4194304) ∧ .lst 1 ((sortBy b s).map eInt) = r ∧ outs = [] := by
  unfold spSortBy at h
  simp only at h
  split at h
  · rename_i b' s'
    simp only [Option.bind_eq_some_iff] at h
    obtain ⟨b, h_b, s, h_s, h⟩ := h
    split at h
    case isFalse => cases h
    rename_i hc
    simp only [Option.some.injEq, Prod.mk.injEq] at h
    obtain ⟨h1, h2⟩ := h
    have h_b := Box.dec_some h_b
    subst h_b
    have h_s := decL_some (fun _ _ h => Range.dec_some h) h_s
    subst h_s
    exact ⟨b, s, rfl, hc, h1, h2.symm⟩
  · cases h
def T_impl_SortBySubject : Hints := ⟨lk [], lk [(5, [6, 15, 16, 17])], lk [(0, [1, 2]), (1, [5]), (2, [5]), (3, [5, 6]), (4, [6, 15, 16, 17]), (5, [6, 15, 16, 17, 18]), (6, [6, 8, 15, 16, 17]), (7, [6, 15, 16, 17]), (8, [6, 15, 16, 17]), (9, [4])], lk [], lf []⟩
noncomputable def Phi_impl_SortBySubject : Tab := lk [(34, spMailsIn), (35, spSortM)]
attribute [go_sem] T_impl_SortBySubject Phi_impl_SortBySubject
theorem phi_impl_SortBySubject : ∀ f sp, Phi_impl_SortBySubject f = some sp → FnOk Tryz.prog f sp ∧ ∀ n ∈ sp.need, n ∈ (["internal/bytealg.MaxLen"] : List String) := phi_cons ok_impl_mailsIn (n0 rfl) (phi_cons ok_slices_SortStableFunc_loop_example_g00247_impl_Mail_loop_example_g00247_impl_Mail (fun n (h : n ∈ (["internal/bytealg.MaxLen"] : List String)) => by simp only [List.mem_cons, List.not_mem_nil, or_false] at h; rcases h with rfl <;> simp) (phi_nil))
theorem ok_impl_SortBySubject : FnOk Tryz.prog 10 spSortBy := by
  refine fn_ok (Φ := Phi_impl_SortBySubject) (T := T_impl_SortBySubject) phi_impl_SortBySubject mixed Tryz.func10 rfl rfl rfl (by decide) ?_
  intro ins r outs hr hl
  clear hl
  have hs := spSortBy_in hr
  clear hr
  obtain ⟨b, s, rfl, hc, hr, rfl⟩ := hs
  simp only [spSortBy, Tryz.f10, Go.VM.initS]
  obtain ⟨hc, hs⟩ := hc
  obtain ⟨m1, m2⟩ := mailsIn_le (s := s) hc
  have m3 := stab_mails (s := s) hc
  have m4 := sortI_len b s
  rw [sortBy] at hr
  generalize hL : mailsIn b s = L at *
  generalize hQ : SM.sortI ltS L = Q at *
  simp only [hc, hs, hL, m1, m2, m3, and_self, go_sem]
  repeat' ((first | apply qa | apply qb | apply qc | apply qd | apply qe | apply qf | apply qg | apply qh | apply qi | apply qj | apply qk) <;> intro hp <;> simp only [hp, hc, hs, hL, m1, m2, m3, and_self, go_sem])
  refine loop_go (fun i : Nat => [(17, .int .i64 (i : Int))]) (fun i => [(0, ⟨.arr, 1, ((Q.take i).map (·.Uid)).map eInt⟩)]) (fun i => Q.length - i) (fun i => i ≤ Q.length) 0 (Nat.zero_le _) rfl rfl ?_
  intro i hi ih
  rcases Nat.lt_or_ge i Q.length with h | h
  · have g1 : (i : Int) < Q.length := by omega
    have g2 : (0 : Int) ≤ i := by omega
    have g3 : Q[i]? = some Q[i] := List.getElem?_eq_getElem h
    have g5 := wrap_succ h (by omega)
    have ih' := ih (i + 1) h (by omega)
    clear ih
    rw [take_succ' h, List.map_append, List.map_append] at ih'
    simp only [List.map_cons, List.map_nil, eInt] at ih'
    have hD : ((Q.take i).map (·.Uid)).length ≤ 30 := by rw [List.length_map, List.length_take]; omega
    generalize hDD : (Q.take i).map (·.Uid) = D at *
    have b1 : (D.length + 1) * 8 ≤ 140737488355328 := by omega
    have b3 : D.length ≤ 9223372036854775806 := by omega
    simp only [g1, g2, g3, g5, b1, b3, go_sem]
    repeat' ((first | apply qa | apply qb | apply qc | apply qd | apply qe | apply qf | apply qg | apply qh | apply qi | apply qj | apply qk) <;> intro hp <;> simp only [hp, g1, g2, g3, g5, b1, b3, go_sem])
    all_goals first | exact ih' | (clear ih'; omega)
  · have g1 : ¬ (i : Int) < Q.length := by omega
    rw [List.take_of_length_le h]
    simp only [g1, go_sem]
    repeat' ((first | apply qa | apply qb | apply qc | apply qd | apply qe | apply qf | apply qg | apply qh | apply qi | apply qj | apply qk) <;> intro hp <;> simp only [hp, g1, go_sem])
    all_goals (simp only [fin_mk, finV, resL, resV1, resIn, endA, listIn, Option.some_or, Option.none_or, oneOrTup, go_sem]; rw [← hr])
end Go.Proofs.YtghmjnggmacohaaGreatDoor.L

