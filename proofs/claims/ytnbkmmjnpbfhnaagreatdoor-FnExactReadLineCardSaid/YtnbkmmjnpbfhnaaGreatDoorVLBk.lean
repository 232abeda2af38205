/- Contracts of functions, and the facts that they need. No condition. -/
import Derived.Test.YtnbkmmjnpbfhnaaGreatDoorVLT4

import Derived.Test.YtnbkmmjnpbfhnaaGreatDoorVLRdI
namespace Go.Proofs.YtnbkmmjnpbfhnaaGreatDoor.L
open Go Go.VM
set_option maxRecDepth 100000
set_option maxHeartbeats 4000000
set_option linter.unusedSimpArgs false
set_option linter.unusedVariables false
theorem readSet_len (t : List UInt8) (last : Int) : (readSet t last).length ≤ 4194304 := by
  unfold readSet
  split
  · rename_i h
    unfold readOk at h
    split
    · rename_i l hl
      rw [hl] at h
      simp only [Bool.and_eq_true, decide_eq_true_eq] at h
      omega
    · simp
  · simp
theorem cut1_len (s t : List UInt8) : (cut1 s t).length ≤ s.length := by
  unfold cut1; split
  · rw [List.length_take]; omega
  · exact Nat.le_refl _
theorem cut2_len (s t : List UInt8) : (cut2 s t).length ≤ s.length := by
  unfold cut2; split
  · rw [List.length_drop]; omega
  · simp
theorem cutP_len (s t : List UInt8) : (cutPrefix s t).length ≤ s.length := by
  unfold cutPrefix; split
  · rw [List.length_drop]; omega
  · exact Nat.le_refl _
def validV (r : List UInt8) : Line := ⟨5, decN (cut1 (cutSuf r [32, 97, 108, 108]) [32, 109, 111, 100, 115, 101, 113, 32]), 0, 0, decN (cut2 (cutSuf r [32, 97, 108, 108]) [32, 109, 111, 100, 115, 101, 113, 32]), [], sufB r [32, 97, 108, 108]⟩
def numbV (s : List UInt8) : Line :=
  if (cut2 s [32] == [101, 120, 105, 115, 116, 115]) = true then ⟨1, decN (cut1 s [32]), 0, 0, 0, [], false⟩
  else if (cut2 s [32] == [101, 120, 112, 117, 110, 103, 101]) = true then ⟨2, decN (cut1 s [32]), 0, 0, 0, [], false⟩
  else if ([102, 101, 116, 99, 104, 32, 40, 117, 105, 100, 32] : List UInt8).isPrefixOf (cut2 s [32]) = true then
    ⟨3, decN (cut1 s [32]), decN (cut1 (cutPrefix (cut2 s [32]) [102, 101, 116, 99, 104, 32, 40, 117, 105, 100, 32]) [32, 102, 108, 97, 103, 115, 32]), (readFl (cut1 (cut2 (cutPrefix (cut2 s [32]) [102, 101, 116, 99, 104, 32, 40, 117, 105, 100, 32]) [32, 102, 108, 97, 103, 115, 32]) [32, 109, 111, 100, 115, 101, 113, 32])).getD 0, decN (cutSuf (cut2 (cut2 (cutPrefix (cut2 s [32]) [102, 101, 116, 99, 104, 32, 40, 117, 105, 100, 32]) [32, 102, 108, 97, 103, 115, 32]) [32, 109, 111, 100, 115, 101, 113, 32]) [41]), [], false⟩
  else ⟨0, decN (cut1 s [32]), 0, 0, 0, [], false⟩
def lineOfV (t : List UInt8) : Line :=
  if (t == [111, 107]) = true then ⟨7, 0, 0, 0, 0, [], false⟩
  else if (t == [98, 121, 101]) = true then ⟨9, 0, 0, 0, 0, [], false⟩
  else if ([110, 111, 32] : List UInt8).isPrefixOf t = true then ⟨8, decN (cutPrefix t [110, 111, 32]), 0, 0, 0, [], false⟩
  else if ([42, 32] : List UInt8).isPrefixOf t = false then ⟨0, 0, 0, 0, 0, [], false⟩
  else if (cutPrefix t [42, 32] == [115, 101, 97, 114, 99, 104]) = true then ⟨6, 0, 0, 0, 0, [], false⟩
  else if (cut1 (cutPrefix t [42, 32]) [32] == [115, 101, 97, 114, 99, 104]) = true then ⟨6, 0, 0, 0, 0, readSet (cut2 (cutPrefix t [42, 32]) [32]) 9999, false⟩
  else if (cut1 (cutPrefix t [42, 32]) [32] == [118, 97, 110, 105, 115, 104, 101, 100]) = true then ⟨4, 0, 0, 0, 0, readSet (cut2 (cutPrefix t [42, 32]) [32]) 9999, false⟩
  else if (cut1 (cutPrefix t [42, 32]) [32] == [118, 97, 108, 105, 100]) = true then validV (cut2 (cutPrefix t [42, 32]) [32])
  else numbV (cutPrefix t [42, 32])
theorem line_le (k n u f m : Int) (s : List Range) (a : Bool) (h : s.length ≤ 4194304) : (⟨k, n, u, f, m, s, a⟩ : Line).le 4194304 := ⟨h, fun _ _ => trivial⟩
theorem numbV_le (s : List UInt8) : (numbV s).le 4194304 := by
  unfold numbV
  repeat' split
  all_goals exact line_le _ _ _ _ _ _ _ (by simp)
theorem validV_le (s : List UInt8) : (validV s).le 4194304 := line_le _ _ _ _ _ _ _ (by simp)
theorem lineOfV_le (t : List UInt8) : (lineOfV t).le 4194304 := by
  unfold lineOfV
  repeat' (first | exact numbV_le _ | exact validV_le _ | exact line_le _ _ _ _ _ _ _ (readSet_len _ _) | exact line_le _ _ _ _ _ _ _ (Nat.zero_le _) | split)
def lineNil : Line := ⟨0, 0, 0, 0, 0, [], false⟩
def tellV (x : Line) (t : List UInt8) : Line × Bool := if lineOk x = true ∧ (lineText x == t) = true then (x, true) else (lineNil, false)
open Classical in
noncomputable def spValidV : VM.Spec := { modes := [.rd], run := fun | [.str s] => if s.length ≤ 4194304 then some (Line.enc (validV s), []) else none | _ => none, need := ["internal/bytealg.MaxLen", "internal/strconv.uint64pow10", "strconv.ErrSyntax", "strconv.ErrRange"] }
attribute [go_sem] spValidV
theorem spValidV_in {ins : List V} {r : V} {outs : List V} (h : spValidV.run ins = some (r, outs)) : ∃ (s : (List UInt8)), ins = [.str s] ∧ (s.length ≤ 4194304) ∧ Line.enc (validV s) = r ∧ outs = [] := by
  unfold spValidV at h
  simp only at h
  split at h
  · rename_i s
    split at h
    case isFalse => cases h
    rename_i hc
    simp only [Option.some.injEq, Prod.mk.injEq] at h
    obtain ⟨h1, h2⟩ := h
    exact ⟨s, rfl, hc, h1, h2.symm⟩
  · cases h
def T_impl_readValid : Hints := ⟨lk [], lk [], lk [(0, [0, 2]), (1, [0, 2, 3]), (2, [0, 2, 3]), (3, [2, 3, 4, 5]), (4, [2, 3, 5]), (5, [2, 3]), (6, [2])], lk []⟩
noncomputable def Phi_impl_readValid : Tab := lk [(54, spCutSuffix), (26, spCut), (25, spReadDecI)]
attribute [go_sem] T_impl_readValid Phi_impl_readValid
theorem phi_impl_readValid : ∀ f sp, Phi_impl_readValid f = some sp → FnOk Tryz.prog f sp ∧ ∀ n ∈ sp.need, n ∈ (["internal/bytealg.MaxLen", "internal/strconv.uint64pow10", "strconv.ErrSyntax", "strconv.ErrRange"] : List String) := phi_cons ok_strings_CutSuffix (n0 rfl) (phi_cons ok_strings_Cut (fun n (h : n ∈ (["internal/bytealg.MaxLen"] : List String)) => by simp only [List.mem_cons, List.not_mem_nil, or_false] at h; rcases h with rfl <;> simp) (phi_cons ok_impl_ReadDecimal (fun n (h : n ∈ (["internal/strconv.uint64pow10", "strconv.ErrSyntax", "strconv.ErrRange"] : List String)) => by simp only [List.mem_cons, List.not_mem_nil, or_false] at h; rcases h with rfl | rfl | rfl <;> simp) (phi_nil)))
theorem ok_impl_readValid : FnOk Tryz.prog 28 spValidV := by
  refine fn_ok (Φ := Phi_impl_readValid) (T := T_impl_readValid) phi_impl_readValid mixed Tryz.func28 rfl rfl rfl (by decide) ?_
  intro ins r outs hr hl
  clear hl
  have hs := spValidV_in hr
  clear hr
  obtain ⟨s, rfl, hc, hr, rfl⟩ := hs
  simp only [spValidV, Tryz.f28, Go.VM.initS]
  have l1 : s.length ≤ 1099511627776 := by omega
  have l2 : ([32, 97, 108, 108] : List UInt8).length ≤ 1099511627776 := by decide
  have l3 : (cutSuf s [32, 97, 108, 108]).length ≤ 4194304 := Nat.le_trans (cutSuf_len _ _) hc
  have l4 : ([32, 109, 111, 100, 115, 101, 113, 32] : List UInt8).length ≤ 4194304 := by decide
  have l5 : (cut1 (cutSuf s [32, 97, 108, 108]) [32, 109, 111, 100, 115, 101, 113, 32]).length ≤ 4194304 := Nat.le_trans (cut1_len _ _) l3
  have l6 : (cut2 (cutSuf s [32, 97, 108, 108]) [32, 109, 111, 100, 115, 101, 113, 32]).length ≤ 4194304 := Nat.le_trans (cut2_len _ _) l3
  simp only [hc, l1, l2, l3, l4, l5, l6, go_sem]
  repeat' ((first | apply qa | apply qb | apply qc | apply qd | apply qe | apply qf | apply qg | apply qh | apply qi | apply qj | apply qk) <;> intro hp <;> simp only [hp, hc, l1, l2, l3, l4, l5, l6, go_sem])
  simp only [fin_mk, finV, resL, resV1, resIn, endA, listIn, Option.some_or, Option.none_or, oneOrTup, go_sem]
  rw [← hr]
  rfl
open Classical in
noncomputable def spNumbV : VM.Spec := { modes := [.rd], run := fun | [.str s] => if s.length ≤ 4194304 then some (Line.enc (numbV s), []) else none | _ => none, need := ["internal/bytealg.MaxLen", "internal/strconv.uint64pow10", "strconv.ErrSyntax", "strconv.ErrRange"] }
attribute [go_sem] spNumbV
theorem spNumbV_in {ins : List V} {r : V} {outs : List V} (h : spNumbV.run ins = some (r, outs)) : ∃ (s : (List UInt8)), ins = [.str s] ∧ (s.length ≤ 4194304) ∧ Line.enc (numbV s) = r ∧ outs = [] := by
  unfold spNumbV at h
  simp only at h
  split at h
  · rename_i s
    split at h
    case isFalse => cases h
    rename_i hc
    simp only [Option.some.injEq, Prod.mk.injEq] at h
    obtain ⟨h1, h2⟩ := h
    exact ⟨s, rfl, hc, h1, h2.symm⟩
  · cases h
def T_impl_readNumbered : Hints := ⟨lk [], lk [], lk [(0, [0, 2]), (1, [2, 3, 4]), (2, [2, 3, 4, 6]), (3, [2, 4, 6]), (4, [2, 4, 6, 7, 8]), (5, [2, 4, 6, 7, 8, 33]), (6, [2, 6]), (7, [2, 6, 7, 8, 37]), (8, [2, 6]), (9, [2, 6, 7, 41]), (10, [2, 6, 7]), (11, [2, 6, 9, 10]), (12, [2, 6, 9, 12, 13]), (13, [2, 6, 12, 13]), (14, [2, 6, 13]), (15, [2, 6]), (16, [2])], lk []⟩
noncomputable def Phi_impl_readNumbered : Tab := lk [(24, spCutPrefix), (56, spTrimSuffix), (26, spCut), (25, spReadDecI), (55, spReadFlags)]
attribute [go_sem] T_impl_readNumbered Phi_impl_readNumbered
theorem phi_impl_readNumbered : ∀ f sp, Phi_impl_readNumbered f = some sp → FnOk Tryz.prog f sp ∧ ∀ n ∈ sp.need, n ∈ (["internal/bytealg.MaxLen", "internal/strconv.uint64pow10", "strconv.ErrSyntax", "strconv.ErrRange"] : List String) := phi_cons ok_strings_CutPrefix (n0 rfl) (phi_cons ok_strings_TrimSuffix (n0 rfl) (phi_cons ok_strings_Cut (fun n (h : n ∈ (["internal/bytealg.MaxLen"] : List String)) => by simp only [List.mem_cons, List.not_mem_nil, or_false] at h; rcases h with rfl <;> simp) (phi_cons ok_impl_ReadDecimal (fun n (h : n ∈ (["internal/strconv.uint64pow10", "strconv.ErrSyntax", "strconv.ErrRange"] : List String)) => by simp only [List.mem_cons, List.not_mem_nil, or_false] at h; rcases h with rfl | rfl | rfl <;> simp) (phi_cons ok_impl_ReadFlags (fun n (h : n ∈ (["internal/bytealg.MaxLen"] : List String)) => by simp only [List.mem_cons, List.not_mem_nil, or_false] at h; rcases h with rfl <;> simp) (phi_nil)))))
theorem ok_impl_readNumbered : FnOk Tryz.prog 29 spNumbV := by
  refine fn_ok (Φ := Phi_impl_readNumbered) (T := T_impl_readNumbered) phi_impl_readNumbered mixed Tryz.func29 rfl rfl rfl (by decide) ?_
  intro ins r outs hr hl
  clear hl
  have hs := spNumbV_in hr
  clear hr
  obtain ⟨s, rfl, hc, hr, rfl⟩ := hs
  simp only [spNumbV, Tryz.f29, Go.VM.initS]
  have l4 : ([32] : List UInt8).length ≤ 4194304 := by decide
  have l5 : (cut1 s [32]).length ≤ 4194304 := Nat.le_trans (cut1_len _ _) hc
  have l6 : (cut2 s [32]).length ≤ 4194304 := Nat.le_trans (cut2_len _ _) hc
  have l7 : (cut2 s [32]).length ≤ 1099511627776 := by omega
  have l8 : ([102, 101, 116, 99, 104, 32, 40, 117, 105, 100, 32] : List UInt8).length ≤ 1099511627776 := by decide
  have l9 : (cutPrefix (cut2 s [32]) [102, 101, 116, 99, 104, 32, 40, 117, 105, 100, 32]).length ≤ 4194304 := Nat.le_trans (cutP_len _ _) l6
  have l10 : ([32, 102, 108, 97, 103, 115, 32] : List UInt8).length ≤ 4194304 := by decide
  have l11 : (cut1 (cutPrefix (cut2 s [32]) [102, 101, 116, 99, 104, 32, 40, 117, 105, 100, 32]) [32, 102, 108, 97, 103, 115, 32]).length ≤ 4194304 := Nat.le_trans (cut1_len _ _) l9
  have l12 : (cut2 (cutPrefix (cut2 s [32]) [102, 101, 116, 99, 104, 32, 40, 117, 105, 100, 32]) [32, 102, 108, 97, 103, 115, 32]).length ≤ 4194304 := Nat.le_trans (cut2_len _ _) l9
  have l13 : ([32, 109, 111, 100, 115, 101, 113, 32] : List UInt8).length ≤ 4194304 := by decide
  have l14 : (cut1 (cut2 (cutPrefix (cut2 s [32]) [102, 101, 116, 99, 104, 32, 40, 117, 105, 100, 32]) [32, 102, 108, 97, 103, 115, 32]) [32, 109, 111, 100, 115, 101, 113, 32]).length ≤ 4194304 := Nat.le_trans (cut1_len _ _) l12
  have l15 : (cut2 (cut2 (cutPrefix (cut2 s [32]) [102, 101, 116, 99, 104, 32, 40, 117, 105, 100, 32]) [32, 102, 108, 97, 103, 115, 32]) [32, 109, 111, 100, 115, 101, 113, 32]).length ≤ 4194304 := Nat.le_trans (cut2_len _ _) l12
  have l16 : (cut2 (cut2 (cutPrefix (cut2 s [32]) [102, 101, 116, 99, 104, 32, 40, 117, 105, 100, 32]) [32, 102, 108, 97, 103, 115, 32]) [32, 109, 111, 100, 115, 101, 113, 32]).length ≤ 1099511627776 := by omega
  have l17 : ([41] : List UInt8).length ≤ 1099511627776 := by decide
  have l18 : (cutSuf (cut2 (cut2 (cutPrefix (cut2 s [32]) [102, 101, 116, 99, 104, 32, 40, 117, 105, 100, 32]) [32, 102, 108, 97, 103, 115, 32]) [32, 109, 111, 100, 115, 101, 113, 32]) [41]).length ≤ 4194304 := Nat.le_trans (cutSuf_len _ _) l15
  cases c1 : (cut2 s [32] == [101, 120, 105, 115, 116, 115]) with
  | true =>
    simp only [hc, l4, l5, l6, l7, l8, c1, go_sem]
    repeat' ((first | apply qa | apply qb | apply qc | apply qd | apply qe | apply qf | apply qg | apply qh | apply qi | apply qj | apply qk) <;> intro hp <;> simp only [hp, hc, l4, l5, l6, l7, l8, c1, go_sem])
    simp only [fin_mk, finV, resL, resV1, resIn, endA, listIn, Option.some_or, Option.none_or, oneOrTup, go_sem]
    rw [← hr]
    rw [numbV, if_pos c1]; rfl
  | false =>
  cases c2 : (cut2 s [32] == [101, 120, 112, 117, 110, 103, 101]) with
  | true =>
    simp only [hc, l4, l5, l6, l7, l8, c1, c2, go_sem]
    repeat' ((first | apply qa | apply qb | apply qc | apply qd | apply qe | apply qf | apply qg | apply qh | apply qi | apply qj | apply qk) <;> intro hp <;> simp only [hp, hc, l4, l5, l6, l7, l8, c1, c2, go_sem])
    simp only [fin_mk, finV, resL, resV1, resIn, endA, listIn, Option.some_or, Option.none_or, oneOrTup, go_sem]
    rw [← hr]
    rw [numbV, if_neg (by rw [c1]; simp), if_pos c2]; rfl
  | false =>
  cases c3 : ([102, 101, 116, 99, 104, 32, 40, 117, 105, 100, 32] : List UInt8).isPrefixOf (cut2 s [32]) with
  | true =>
    simp only [hc, l4, l5, l6, l7, l8, l9, l10, l11, l12, l13, l14, l15, l16, l17, l18, c1, c2, c3, go_sem]
    repeat' ((first | apply qa | apply qb | apply qc | apply qd | apply qe | apply qf | apply qg | apply qh | apply qi | apply qj | apply qk) <;> intro hp <;> simp only [hp, hc, l4, l5, l6, l7, l8, l9, l10, l11, l12, l13, l14, l15, l16, l17, l18, c1, c2, c3, go_sem])
    simp only [fin_mk, finV, resL, resV1, resIn, endA, listIn, Option.some_or, Option.none_or, oneOrTup, go_sem]
    rw [← hr]
    rw [numbV, if_neg (by rw [c1]; simp), if_neg (by rw [c2]; simp), if_pos c3]; rfl
  | false =>
    simp only [hc, l4, l5, l6, l7, l8, c1, c2, c3, go_sem]
    repeat' ((first | apply qa | apply qb | apply qc | apply qd | apply qe | apply qf | apply qg | apply qh | apply qi | apply qj | apply qk) <;> intro hp <;> simp only [hp, hc, l4, l5, l6, l7, l8, c1, c2, c3, go_sem])
    simp only [fin_mk, finV, resL, resV1, resIn, endA, listIn, Option.some_or, Option.none_or, oneOrTup, go_sem]
    rw [← hr]
    rw [numbV, if_neg (by rw [c1]; simp), if_neg (by rw [c2]; simp), if_neg (by rw [c3]; simp)]; rfl
open Classical in
noncomputable def spLineOfV : VM.Spec := { modes := [.rd], run := fun | [.str t] => if t.length ≤ 4194304 then some (Line.enc (lineOfV t), []) else none | _ => none, need := ["internal/bytealg.MaxLen", "internal/strconv.uint64pow10", "strconv.ErrSyntax", "strconv.ErrRange"] }
attribute [go_sem] spLineOfV
theorem spLineOfV_in {ins : List V} {r : V} {outs : List V} (h : spLineOfV.run ins = some (r, outs)) : ∃ (t : (List UInt8)), ins = [.str t] ∧ (t.length ≤ 4194304) ∧ Line.enc (lineOfV t) = r ∧ outs = [] := by
  unfold spLineOfV at h
  simp only at h
  split at h
  · rename_i t
    split at h
    case isFalse => cases h
    rename_i hc
    simp only [Option.some.injEq, Prod.mk.injEq] at h
    obtain ⟨h1, h2⟩ := h
    exact ⟨t, rfl, hc, h1, h2.symm⟩
  · cases h
def T_impl_lineOf : Hints := ⟨lk [], lk [], lk [(0, [0, 2]), (1, [0, 2, 3, 4]), (2, [0, 2, 3, 4, 5, 6]), (3, [0, 2, 3, 4, 5, 6, 26]), (4, [2]), (5, [2, 3, 4, 5, 6, 30]), (6, [2]), (7, [2, 3, 5, 6, 34]), (8, [2, 7]), (9, [2]), (10, [2, 5, 43]), (11, [2]), (12, [2, 5, 47]), (13, [2]), (14, [2, 5, 9, 10]), (15, [2, 5, 10, 57]), (16, [2, 5, 10, 57, 58]), (17, [2, 12]), (18, [2]), (19, [2, 5, 10, 57, 67]), (20, [2, 14]), (21, [2]), (22, [2, 5, 10, 76]), (23, [2]), (24, [2])], lk []⟩
noncomputable def Phi_impl_lineOf : Tab := lk [(24, spCutPrefix), (26, spCut), (25, spReadDecI), (27, spReadSet), (28, spValidV), (29, spNumbV)]
attribute [go_sem] T_impl_lineOf Phi_impl_lineOf
theorem phi_impl_lineOf : ∀ f sp, Phi_impl_lineOf f = some sp → FnOk Tryz.prog f sp ∧ ∀ n ∈ sp.need, n ∈ (["internal/bytealg.MaxLen", "internal/strconv.uint64pow10", "strconv.ErrSyntax", "strconv.ErrRange"] : List String) := phi_cons ok_strings_CutPrefix (n0 rfl) (phi_cons ok_strings_Cut (fun n (h : n ∈ (["internal/bytealg.MaxLen"] : List String)) => by simp only [List.mem_cons, List.not_mem_nil, or_false] at h; rcases h with rfl <;> simp) (phi_cons ok_impl_ReadDecimal (fun n (h : n ∈ (["internal/strconv.uint64pow10", "strconv.ErrSyntax", "strconv.ErrRange"] : List String)) => by simp only [List.mem_cons, List.not_mem_nil, or_false] at h; rcases h with rfl | rfl | rfl <;> simp) (phi_cons ok_impl_ReadSet (fun n (h : n ∈ (["internal/bytealg.MaxLen"] : List String)) => by simp only [List.mem_cons, List.not_mem_nil, or_false] at h; rcases h with rfl <;> simp) (phi_cons ok_impl_readValid (fun n (h : n ∈ (["internal/bytealg.MaxLen", "internal/strconv.uint64pow10", "strconv.ErrSyntax", "strconv.ErrRange"] : List String)) => by simp only [List.mem_cons, List.not_mem_nil, or_false] at h; rcases h with rfl | rfl | rfl | rfl <;> simp) (phi_cons ok_impl_readNumbered (fun n (h : n ∈ (["internal/bytealg.MaxLen", "internal/strconv.uint64pow10", "strconv.ErrSyntax", "strconv.ErrRange"] : List String)) => by simp only [List.mem_cons, List.not_mem_nil, or_false] at h; rcases h with rfl | rfl | rfl | rfl <;> simp) (phi_nil))))))
theorem ok_impl_lineOf : FnOk Tryz.prog 11 spLineOfV := by
  refine fn_ok (Φ := Phi_impl_lineOf) (T := T_impl_lineOf) phi_impl_lineOf mixed Tryz.func11 rfl rfl rfl (by decide) ?_
  intro ins r outs hr hl
  clear hl
  have hs := spLineOfV_in hr
  clear hr
  obtain ⟨t, rfl, hc, hr, rfl⟩ := hs
  simp only [spLineOfV, Tryz.f11, Go.VM.initS]
  have l1 : t.length ≤ 1099511627776 := by omega
  have l2 : ([110, 111, 32] : List UInt8).length ≤ 1099511627776 := by decide
  have l3 : ([42, 32] : List UInt8).length ≤ 1099511627776 := by decide
  have l4 : (cutPrefix t [110, 111, 32]).length ≤ 4194304 := Nat.le_trans (cutP_len _ _) hc
  have l5 : (cutPrefix t [42, 32]).length ≤ 4194304 := Nat.le_trans (cutP_len _ _) hc
  have l6 : ([32] : List UInt8).length ≤ 4194304 := by decide
  have l7 : (cut2 (cutPrefix t [42, 32]) [32]).length ≤ 4194304 := Nat.le_trans (cut2_len _ _) l5
  cases c1 : (t == [111, 107]) with
  | true =>
    simp only [hc, l1, l2, l3, c1, go_sem]
    repeat' ((first | apply qa | apply qb | apply qc | apply qd | apply qe | apply qf | apply qg | apply qh | apply qi | apply qj | apply qk) <;> intro hp <;> simp only [hp, hc, l1, l2, l3, c1, go_sem])
    simp only [fin_mk, finV, resL, resV1, resIn, endA, listIn, Option.some_or, Option.none_or, oneOrTup, go_sem]
    rw [← hr]
    rw [lineOfV, if_pos c1]; rfl
  | false =>
  have n1 : ¬ (t == [111, 107]) = true := by rw [c1]; simp
  cases c2 : (t == [98, 121, 101]) with
  | true =>
    simp only [hc, l1, l2, l3, c1, c2, go_sem]
    repeat' ((first | apply qa | apply qb | apply qc | apply qd | apply qe | apply qf | apply qg | apply qh | apply qi | apply qj | apply qk) <;> intro hp <;> simp only [hp, hc, l1, l2, l3, c1, c2, go_sem])
    simp only [fin_mk, finV, resL, resV1, resIn, endA, listIn, Option.some_or, Option.none_or, oneOrTup, go_sem]
    rw [← hr]
    rw [lineOfV, if_neg n1, if_pos c2]; rfl
  | false =>
  have n2 : ¬ (t == [98, 121, 101]) = true := by rw [c2]; simp
  cases c3 : ([110, 111, 32] : List UInt8).isPrefixOf t with
  | true =>
    simp only [hc, l1, l2, l3, l4, c1, c2, c3, go_sem]
    repeat' ((first | apply qa | apply qb | apply qc | apply qd | apply qe | apply qf | apply qg | apply qh | apply qi | apply qj | apply qk) <;> intro hp <;> simp only [hp, hc, l1, l2, l3, l4, c1, c2, c3, go_sem])
    simp only [fin_mk, finV, resL, resV1, resIn, endA, listIn, Option.some_or, Option.none_or, oneOrTup, go_sem]
    rw [← hr]
    rw [lineOfV, if_neg n1, if_neg n2, if_pos c3]; rfl
  | false =>
  have n3 : ¬ ([110, 111, 32] : List UInt8).isPrefixOf t = true := by rw [c3]; simp
  cases c4 : ([42, 32] : List UInt8).isPrefixOf t with
  | false =>
    simp only [hc, l1, l2, l3, c1, c2, c3, c4, go_sem]
    repeat' ((first | apply qa | apply qb | apply qc | apply qd | apply qe | apply qf | apply qg | apply qh | apply qi | apply qj | apply qk) <;> intro hp <;> simp only [hp, hc, l1, l2, l3, c1, c2, c3, c4, go_sem])
    simp only [fin_mk, finV, resL, resV1, resIn, endA, listIn, Option.some_or, Option.none_or, oneOrTup, go_sem]
    rw [← hr]
    rw [lineOfV, if_neg n1, if_neg n2, if_neg n3, if_pos c4]; rfl
  | true =>
  have n4 : ¬ ([42, 32] : List UInt8).isPrefixOf t = false := by rw [c4]; simp
  cases c5 : (cutPrefix t [42, 32] == [115, 101, 97, 114, 99, 104]) with
  | true =>
    simp only [hc, l1, l2, l3, c1, c2, c3, c4, c5, go_sem]
    repeat' ((first | apply qa | apply qb | apply qc | apply qd | apply qe | apply qf | apply qg | apply qh | apply qi | apply qj | apply qk) <;> intro hp <;> simp only [hp, hc, l1, l2, l3, c1, c2, c3, c4, c5, go_sem])
    simp only [fin_mk, finV, resL, resV1, resIn, endA, listIn, Option.some_or, Option.none_or, oneOrTup, go_sem]
    rw [← hr]
    rw [lineOfV, if_neg n1, if_neg n2, if_neg n3, if_neg n4, if_pos c5]; rfl
  | false =>
  have n5 : ¬ (cutPrefix t [42, 32] == [115, 101, 97, 114, 99, 104]) = true := by rw [c5]; simp
  cases c6 : (cut1 (cutPrefix t [42, 32]) [32] == [115, 101, 97, 114, 99, 104]) with
  | true =>
    simp only [hc, l1, l2, l3, l5, l6, l7, c1, c2, c3, c4, c5, c6, go_sem]
    repeat' ((first | apply qa | apply qb | apply qc | apply qd | apply qe | apply qf | apply qg | apply qh | apply qi | apply qj | apply qk) <;> intro hp <;> simp only [hp, hc, l1, l2, l3, l5, l6, l7, c1, c2, c3, c4, c5, c6, go_sem])
    simp only [fin_mk, finV, resL, resV1, resIn, endA, listIn, Option.some_or, Option.none_or, oneOrTup, go_sem]
    rw [← hr]
    rw [lineOfV, if_neg n1, if_neg n2, if_neg n3, if_neg n4, if_neg n5, if_pos c6]; rfl
  | false =>
  have n6 : ¬ (cut1 (cutPrefix t [42, 32]) [32] == [115, 101, 97, 114, 99, 104]) = true := by rw [c6]; simp
  cases c7 : (cut1 (cutPrefix t [42, 32]) [32] == [118, 97, 110, 105, 115, 104, 101, 100]) with
  | true =>
    simp only [hc, l1, l2, l3, l5, l6, l7, c1, c2, c3, c4, c5, c6, c7, go_sem]
    repeat' ((first | apply qa | apply qb | apply qc | apply qd | apply qe | apply qf | apply qg | apply qh | apply qi | apply qj | apply qk) <;> intro hp <;> simp only [hp, hc, l1, l2, l3, l5, l6, l7, c1, c2, c3, c4, c5, c6, c7, go_sem])
    simp only [fin_mk, finV, resL, resV1, resIn, endA, listIn, Option.some_or, Option.none_or, oneOrTup, go_sem]
    rw [← hr]
    rw [lineOfV, if_neg n1, if_neg n2, if_neg n3, if_neg n4, if_neg n5, if_neg n6, if_pos c7]; rfl
  | false =>
  have n7 : ¬ (cut1 (cutPrefix t [42, 32]) [32] == [118, 97, 110, 105, 115, 104, 101, 100]) = true := by rw [c7]; simp
  cases c8 : (cut1 (cutPrefix t [42, 32]) [32] == [118, 97, 108, 105, 100]) with
  | true =>
    simp only [hc, l1, l2, l3, l5, l6, l7, c1, c2, c3, c4, c5, c6, c7, c8, go_sem]
    repeat' ((first | apply qa | apply qb | apply qc | apply qd | apply qe | apply qf | apply qg | apply qh | apply qi | apply qj | apply qk) <;> intro hp <;> simp only [hp, hc, l1, l2, l3, l5, l6, l7, c1, c2, c3, c4, c5, c6, c7, c8, go_sem])
    simp only [fin_mk, finV, resL, resV1, resIn, endA, listIn, Option.some_or, Option.none_or, oneOrTup, go_sem]
    rw [← hr]
    rw [lineOfV, if_neg n1, if_neg n2, if_neg n3, if_neg n4, if_neg n5, if_neg n6, if_neg n7, if_pos c8]; rfl
  | false =>
  have n8 : ¬ (cut1 (cutPrefix t [42, 32]) [32] == [118, 97, 108, 105, 100]) = true := by rw [c8]; simp
  simp only [hc, l1, l2, l3, l5, l6, l7, c1, c2, c3, c4, c5, c6, c7, c8, go_sem]
  repeat' ((first | apply qa | apply qb | apply qc | apply qd | apply qe | apply qf | apply qg | apply qh | apply qi | apply qj | apply qk) <;> intro hp <;> simp only [hp, hc, l1, l2, l3, l5, l6, l7, c1, c2, c3, c4, c5, c6, c7, c8, go_sem])
  simp only [fin_mk, finV, resL, resV1, resIn, endA, listIn, Option.some_or, Option.none_or, oneOrTup, go_sem]
  rw [← hr]
  rw [lineOfV, if_neg n1, if_neg n2, if_neg n3, if_neg n4, if_neg n5, if_neg n6, if_neg n7, if_neg n8]; rfl
open Classical in
noncomputable def spReadLineI : VM.Spec := { modes := [.rd], run := fun | [.str t] => if t.length ≤ 4194304 then some (.tup [Line.enc ((tellV (lineOfV t) t).1), .bool ((tellV (lineOfV t) t).2)], []) else none | _ => none, need := ["internal/bytealg.MaxLen", "internal/strconv.uint64pow10", "strconv.ErrSyntax", "strconv.ErrRange"] }
attribute [go_sem] spReadLineI
theorem spReadLineI_in {ins : List V} {r : V} {outs : List V} (h : spReadLineI.run ins = some (r, outs)) : ∃ (t : (List UInt8)), ins = [.str t] ∧ (t.length ≤ 4194304) ∧ .tup [Line.enc ((tellV (lineOfV t) t).1), .bool ((tellV (lineOfV t) t).2)] = r ∧ outs = [] := by
  unfold spReadLineI at h
  simp only at h
  split at h
  · rename_i t
    split at h
    case isFalse => cases h
    rename_i hc
    simp only [Option.some.injEq, Prod.mk.injEq] at h
    obtain ⟨h1, h2⟩ := h
    exact ⟨t, rfl, hc, h1, h2.symm⟩
  · cases h
def T_impl_ReadLine : Hints := ⟨lk [], lk [], lk [(0, [0, 2]), (1, [0, 2, 4]), (2, [0, 2, 4, 5, 6]), (3, [2, 4, 20]), (4, [2, 3]), (5, [2, 3])], lk []⟩
noncomputable def Phi_impl_ReadLine : Tab := lk [(11, spLineOfV), (12, spLineText)]
attribute [go_sem] T_impl_ReadLine Phi_impl_ReadLine
theorem phi_impl_ReadLine : ∀ f sp, Phi_impl_ReadLine f = some sp → FnOk Tryz.prog f sp ∧ ∀ n ∈ sp.need, n ∈ (["internal/bytealg.MaxLen", "internal/strconv.uint64pow10", "strconv.ErrSyntax", "strconv.ErrRange"] : List String) := phi_cons ok_impl_lineOf (fun n (h : n ∈ (["internal/bytealg.MaxLen", "internal/strconv.uint64pow10", "strconv.ErrSyntax", "strconv.ErrRange"] : List String)) => by simp only [List.mem_cons, List.not_mem_nil, or_false] at h; rcases h with rfl | rfl | rfl | rfl <;> simp) (phi_cons ok_impl_LineText (fun n (h : n ∈ (["internal/strconv.uint64pow10"] : List String)) => by simp only [List.mem_cons, List.not_mem_nil, or_false] at h; rcases h with rfl <;> simp) (phi_nil))
theorem ok_impl_ReadLine : FnOk Tryz.prog 5 spReadLineI := by
  refine fn_ok (Φ := Phi_impl_ReadLine) (T := T_impl_ReadLine) phi_impl_ReadLine mixed Tryz.func5 rfl rfl rfl (by decide) ?_
  intro ins r outs hr hl
  clear hl
  have hs := spReadLineI_in hr
  clear hr
  obtain ⟨t, rfl, hc, hr, rfl⟩ := hs
  simp only [spReadLineI, Tryz.f5, Go.VM.initS]
  have hx := lineOfV_le t
  cases c1 : lineOk (lineOfV t) with
  | false =>
    have e : tellV (lineOfV t) t = (lineNil, false) := by rw [tellV, if_neg (by rw [c1]; simp)]
    rw [e] at hr
    simp only [hc, hx, c1, go_sem]
    repeat' ((first | apply qa | apply qb | apply qc | apply qd | apply qe | apply qf | apply qg | apply qh | apply qi | apply qj | apply qk) <;> intro hp <;> simp only [hp, hc, hx, c1, go_sem])
    simp only [fin_mk, finV, resL, resV1, resIn, endA, listIn, Option.some_or, Option.none_or, oneOrTup, go_sem]
    rw [← hr]
    rfl
  | true =>
  cases c2 : (lineText (lineOfV t) == t) with
  | false =>
    have c2' : (lineText (lineOfV t) != t) = true := by rw [bne, c2]; rfl
    have e : tellV (lineOfV t) t = (lineNil, false) := by rw [tellV, if_neg (by rw [c2]; simp)]
    rw [e] at hr
    simp only [hc, hx, c1, c2', go_sem]
    repeat' ((first | apply qa | apply qb | apply qc | apply qd | apply qe | apply qf | apply qg | apply qh | apply qi | apply qj | apply qk) <;> intro hp <;> simp only [hp, hc, hx, c1, c2', go_sem])
    simp only [fin_mk, finV, resL, resV1, resIn, endA, listIn, Option.some_or, Option.none_or, oneOrTup, go_sem]
    rw [← hr]
    rfl
  | true =>
    have c2' : (lineText (lineOfV t) != t) = false := by rw [bne, c2]; rfl
    have e : tellV (lineOfV t) t = (lineOfV t, true) := by rw [tellV, if_pos ⟨c1, c2⟩]
    rw [e] at hr
    simp only [hc, hx, c1, c2', go_sem]
    repeat' ((first | apply qa | apply qb | apply qc | apply qd | apply qe | apply qf | apply qg | apply qh | apply qi | apply qj | apply qk) <;> intro hp <;> simp only [hp, hc, hx, c1, c2', go_sem])
    simp only [fin_mk, finV, resL, resV1, resIn, endA, listIn, Option.some_or, Option.none_or, oneOrTup, go_sem]
    rw [← hr]
    try rfl
end Go.Proofs.YtnbkmmjnpbfhnaaGreatDoor.L

namespace Go.Proofs.YtnbkmmjnpbfhnaaGreatDoor.L
open Go Go.VM
set_option maxRecDepth 100000
set_option maxHeartbeats 4000000
set_option linter.unusedSimpArgs false
set_option linter.unusedVariables false
def flF (a x : List UInt8) : List UInt8 := a ++ [32] ++ x
def flagsW (w : List (List UInt8)) : List UInt8 := ((w.drop 7).take (w.length - 9)).foldl flF (w.getD 6 [])
def lastW (w : List (List UInt8)) : List UInt8 := w.getD (w.length - 1) []
def guessW (t : List UInt8) (w : List (List UInt8)) : Line :=
  if (t == [111, 107]) = true then ⟨7, 0, 0, 0, 0, [], false⟩
  else if (t == [98, 121, 101]) = true then ⟨9, 0, 0, 0, 0, [], false⟩
  else if w.length = 2 ∧ (w.getD 0 [] == [110, 111]) = true then ⟨8, decN (w.getD 1 []), 0, 0, 0, [], false⟩
  else if w.length = 3 ∧ (w.getD 2 [] == [101, 120, 105, 115, 116, 115]) = true then ⟨1, decN (w.getD 1 []), 0, 0, 0, [], false⟩
  else if w.length = 3 ∧ (w.getD 2 [] == [101, 120, 112, 117, 110, 103, 101]) = true then ⟨2, decN (w.getD 1 []), 0, 0, 0, [], false⟩
  else if 2 ≤ w.length ∧ (w.getD 1 [] == [118, 97, 110, 105, 115, 104, 101, 100]) = true then ⟨4, 0, 0, 0, 0, readSet (lastW w) 1, false⟩
  else if 2 ≤ w.length ∧ (w.getD 1 [] == [115, 101, 97, 114, 99, 104]) = true then ⟨6, 0, 0, 0, 0, (if 2 < w.length then readSet (lastW w) 1 else []), false⟩
  else if 5 ≤ w.length ∧ (w.getD 1 [] == [118, 97, 108, 105, 100]) = true then ⟨5, decN (w.getD 2 []), 0, 0, decN (w.getD 4 []), [], decide (5 < w.length)⟩
  else if 8 ≤ w.length ∧ (w.getD 2 [] == [102, 101, 116, 99, 104]) = true then ⟨3, decN (w.getD 1 []), decN (w.getD 4 []), (readFl (flagsW w)).getD 0, (if 1 < (lastW w).length then decN ((lastW w).take ((lastW w).length - 1)) else 0), [], false⟩
  else ⟨0, 0, 0, 0, 0, [], false⟩
theorem guessW_le (t : List UInt8) (w : List (List UInt8)) : (guessW t w).le 4194304 := by
  unfold guessW
  repeat' (first | exact line_le _ _ _ _ _ _ _ (readSet_len _ _) | exact line_le _ _ _ _ _ _ _ (Nat.zero_le _) | (refine line_le _ _ _ _ _ _ _ ?_; split; exact readSet_len _ _; exact Nat.zero_le _) | split)
def sumW : List (List UInt8) → Nat
  | [] => 0
  | x :: l => x.length + 1 + sumW l
theorem sumW_app : ∀ (a b : List (List UInt8)), sumW (a ++ b) = sumW a + sumW b
  | [], b => by simp [sumW]
  | x :: a, b => by rw [List.cons_append, sumW, sumW, sumW_app a b]; omega
theorem splitOn_sum (c : UInt8) (s : List UInt8) : sumW (splitOn c s) = s.length + 1 := by
  induction s with
  | nil => rfl
  | cons b s ih =>
    rw [splitOn]
    split
    · rw [sumW, ih, List.length_cons]; simp; omega
    · have := splitOn_ne c s
      cases hq : splitOn c s with
      | nil => exact absurd hq this
      | cons h r =>
        rw [hq] at ih
        simp only [consHead, sumW, List.length_cons] at ih ⊢; omega
theorem flF_len : ∀ (l : List (List UInt8)) (a : List UInt8), (l.foldl flF a).length = a.length + sumW l
  | [], a => by simp [sumW]
  | x :: l, a => by rw [List.foldl_cons, flF_len l, sumW, flF]; simp only [List.length_append, List.length_cons, List.length_nil]; omega
theorem sumW_take (l : List (List UInt8)) (n : Nat) : sumW (l.take n) ≤ sumW l := by
  have := sumW_app (l.take n) (l.drop n)
  rw [List.take_append_drop] at this; omega
theorem flagsW_len {t : List UInt8} {w : List (List UInt8)} (h : splitOn 32 t = w) (h8 : 8 ≤ w.length) : (flagsW w).length ≤ t.length := by
  have h1 := splitOn_sum 32 t
  rw [h] at h1
  have h2 := sumW_app (w.take 6) (w.drop 6)
  rw [List.take_append_drop, List.drop_eq_getElem_cons (show 6 < w.length by omega), sumW] at h2
  have h3 := sumW_take (w.drop 7) (w.length - 9)
  have h4 : w.getD 6 [] = w[6] := by rw [List.getD_eq_getElem?_getD, List.getElem?_eq_getElem (by omega)]; rfl
  have h5 : sumW (w.drop (6 + 1)) = sumW (w.drop 7) := rfl
  have h6 : ∀ l : List (List UInt8), l.length ≤ sumW l := by
    intro l
    induction l with
    | nil => simp [sumW]
    | cons x l ih => rw [sumW, List.length_cons]; omega
  have h7 := h6 (w.take 6)
  rw [List.length_take] at h7
  rw [flagsW, flF_len, h4]; omega
theorem at_word {t : List UInt8} {w : List (List UInt8)} (h : splitOn 32 t = w) (ht : t.length ≤ 4194304) {k : Nat} (hk : k < w.length) : ∃ x, w[k]? = some x ∧ w.getD k [] = x ∧ x.length ≤ 4194304 := by
  refine ⟨w[k], List.getElem?_eq_getElem hk, by rw [List.getD_eq_getElem?_getD, List.getElem?_eq_getElem hk]; rfl, ?_⟩
  subst h
  exact Nat.le_trans (splitOn_mem 32 t _ (List.getElem_mem hk)) ht
open Classical in
noncomputable def spGuess : VM.Spec := { modes := [.rd], run := fun | [.str t] => if t.length ≤ 4194304 then some (Line.enc (guessW t (splitOn 32 t)), []) else none | _ => none, need := ["internal/bytealg.MaxLen"] }
attribute [go_sem] spGuess
theorem spGuess_in {ins : List V} {r : V} {outs : List V} (h : spGuess.run ins = some (r, outs)) : ∃ (t : (List UInt8)), ins = [.str t] ∧ (t.length ≤ 4194304) ∧ Line.enc (guessW t (splitOn 32 t)) = r ∧ outs = [] := by
  unfold spGuess at h
  simp only at h
  split at h
  · rename_i t
    split at h
    case isFalse => cases h
    rename_i hc
    simp only [Option.some.injEq, Prod.mk.injEq] at h
    obtain ⟨h1, h2⟩ := h
    exact ⟨t, rfl, hc, h1, h2.symm⟩
  · cases h
def T_spec_l13Guess : Hints := ⟨lk [], lk [(35, [2, 3, 4, 5, 6, 7])], lk [(0, [0, 2]), (1, [0, 2, 3]), (2, [0, 2, 3, 4]), (3, [0, 2, 3, 4, 5]), (4, [0, 2, 3, 4, 5, 14]), (5, [2, 4]), (6, [2, 3, 4, 5, 18]), (7, [2, 4]), (8, [2, 3, 4, 5, 22]), (9, [2, 3, 4]), (10, [2, 4]), (11, [2, 3, 4, 5, 40]), (12, [2, 3, 4]), (13, [2, 4]), (14, [2, 3, 4, 5, 58]), (15, [2, 3, 4]), (16, [2, 4]), (17, [2, 3, 4, 5, 76]), (18, [2, 3, 4, 5]), (19, [2, 4]), (20, [2, 3, 4, 5, 96]), (21, [2, 3, 4, 5]), (22, [2, 3, 4, 5, 107]), (23, [2, 4]), (24, [2, 3, 4, 5, 118]), (25, [2, 3, 4, 5]), (26, [2, 3, 4, 5]), (27, [2, 4, 5]), (28, [2, 4]), (29, [2, 3, 4, 5, 147]), (30, [2, 3, 4, 5]), (31, [2, 3, 4, 5]), (32, [2, 3, 4, 5]), (33, [2, 3, 4, 5, 6]), (34, [2, 3, 4, 5, 6, 7]), (35, [2, 3, 4, 5, 6, 7, 179]), (37, [2, 3, 4, 5, 6, 7]), (36, [2, 3, 4, 5, 6, 7]), (38, [2, 3, 4, 5]), (39, [2, 4, 8]), (40, [2, 4, 8, 202]), (41, [2, 4]), (42, [2])], lk []⟩
noncomputable def Phi_spec_l13Guess : Tab := lk [(16, spWords13), (17, spReadDec), (18, spReadSet), (19, spReadFlags)]
attribute [go_sem] T_spec_l13Guess Phi_spec_l13Guess
theorem phi_spec_l13Guess : ∀ f sp, Phi_spec_l13Guess f = some sp → FnOk Tryz.prog f sp ∧ ∀ n ∈ sp.need, n ∈ (["internal/bytealg.MaxLen"] : List String) := phi_cons ok_spec_l13Words (n0 rfl) (phi_cons ok_spec_ReadDecimal (n0 rfl) (phi_cons ok_spec_ReadSet (fun n (h : n ∈ (["internal/bytealg.MaxLen"] : List String)) => by simp only [List.mem_cons, List.not_mem_nil, or_false] at h; rcases h with rfl <;> simp) (phi_cons ok_spec_ReadFlags (fun n (h : n ∈ (["internal/bytealg.MaxLen"] : List String)) => by simp only [List.mem_cons, List.not_mem_nil, or_false] at h; rcases h with rfl <;> simp) (phi_nil))))
theorem ok_spec_l13Guess : FnOk Tryz.prog 9 spGuess := by
  refine fn_ok (Φ := Phi_spec_l13Guess) (T := T_spec_l13Guess) phi_spec_l13Guess mixed Tryz.func9 rfl rfl rfl (by decide) ?_
  intro ins r outs hr hl
  clear hl
  have hs := spGuess_in hr
  clear hr
  obtain ⟨t, rfl, hc, hr, rfl⟩ := hs
  simp only [spGuess, Tryz.f9, Go.VM.initS]
  obtain ⟨w, hW⟩ : ∃ w, splitOn 32 t = w := ⟨_, rfl⟩
  rw [hW] at hr
  have hlen := splitOn_len 32 t
  rw [hW] at hlen
  have h1n : 1 ≤ w.length := by
    have := splitOn_ne 32 t
    rw [hW] at this
    cases w with
    | nil => exact absurd rfl this
    | cons a b => simp
  have wn : IntKind.i64.wrap ((w.length : Int) - 1) = ((w.length - 1 : Nat) : Int) := (wrap64 (by omega) (by omega)).trans (by omega)
  have v1 : (0 : Int) ≤ ((w.length - 1 : Nat) : Int) := by omega
  have v2 : ((w.length - 1 : Nat) : Int) < w.length := by omega
  have q1 : (1 : Int) ≤ 9999 := by decide
  cases c1 : (t == [111, 107]) with
  | true =>
    simp only [hc, hW, c1, go_sem]
    repeat' ((first | apply qa | apply qb | apply qc | apply qd | apply qe | apply qf | apply qg | apply qh | apply qi | apply qj | apply qk) <;> intro hp <;> simp only [hp, hc, hW, c1, go_sem])
    simp only [fin_mk, finV, resL, resV1, resIn, endA, listIn, Option.some_or, Option.none_or, oneOrTup, go_sem]
    rw [← hr]
    rw [guessW, if_pos c1]; rfl
  | false =>
  have n1 : ¬ (t == [111, 107]) = true := by rw [c1]; simp
  cases c2 : (t == [98, 121, 101]) with
  | true =>
    simp only [hc, hW, c1, c2, go_sem]
    repeat' ((first | apply qa | apply qb | apply qc | apply qd | apply qe | apply qf | apply qg | apply qh | apply qi | apply qj | apply qk) <;> intro hp <;> simp only [hp, hc, hW, c1, c2, go_sem])
    simp only [fin_mk, finV, resL, resV1, resIn, endA, listIn, Option.some_or, Option.none_or, oneOrTup, go_sem]
    rw [← hr]
    rw [guessW, if_neg n1, if_pos c2]; rfl
  | false =>
  have n2 : ¬ (t == [98, 121, 101]) = true := by rw [c2]; simp

  have hcases : w.length = 1 ∨ w.length = 2 ∨ w.length = 3 ∨ w.length = 4 ∨ (5 ≤ w.length ∧ w.length < 8) ∨ 8 ≤ w.length := by omega
  rcases hcases with hn | hn | hn | hn | hn | hn
  · -- one
    obtain ⟨xl, gl, yl, ll⟩ := at_word hW hc (show w.length - 1 < w.length by omega)
    have e2 : ((w.length : Int) == 2) = false := by simp; omega
    have e3 : ((w.length : Int) == 3) = false := by simp; omega
    have e4 : ¬ (2 : Int) ≤ (w.length : Int) := by omega
    have e5 : ¬ (2 : Int) < (w.length : Int) := by omega
    have e6 : ¬ (5 : Int) ≤ (w.length : Int) := by omega
    have e7 : ¬ (8 : Int) ≤ (w.length : Int) := by omega
    have n3 : ¬ (w.length = 2 ∧ (w.getD 0 [] == [110, 111]) = true) := fun h => by have := h.1; omega
    have n4 : ¬ (w.length = 3 ∧ (w.getD 2 [] == [101, 120, 105, 115, 116, 115]) = true) := fun h => by have := h.1; omega
    have n5 : ¬ (w.length = 3 ∧ (w.getD 2 [] == [101, 120, 112, 117, 110, 103, 101]) = true) := fun h => by have := h.1; omega
    have n6 : ¬ (2 ≤ w.length ∧ (w.getD 1 [] == [118, 97, 110, 105, 115, 104, 101, 100]) = true) := fun h => by have := h.1; omega
    have n7 : ¬ (2 ≤ w.length ∧ (w.getD 1 [] == [115, 101, 97, 114, 99, 104]) = true) := fun h => by have := h.1; omega
    have n8 : ¬ (5 ≤ w.length ∧ (w.getD 1 [] == [118, 97, 108, 105, 100]) = true) := fun h => by have := h.1; omega
    have n9 : ¬ (8 ≤ w.length ∧ (w.getD 2 [] == [102, 101, 116, 99, 104]) = true) := fun h => by have := h.1; omega
    simp only [hc, hW, c1, c2, wn, v1, v2, gl, ll, e2, e3, e4, e5, e6, e7, go_sem]
    repeat' ((first | apply qa | apply qb | apply qc | apply qd | apply qe | apply qf | apply qg | apply qh | apply qi | apply qj | apply qk) <;> intro hp <;> simp only [hp, hc, hW, c1, c2, wn, v1, v2, gl, ll, e2, e3, e4, e5, e6, e7, go_sem])
    simp only [fin_mk, finV, resL, resV1, resIn, endA, listIn, Option.some_or, Option.none_or, oneOrTup, go_sem]
    rw [← hr]
    rw [guessW, if_neg n1, if_neg n2, if_neg n3, if_neg n4, if_neg n5, if_neg n6, if_neg n7, if_neg n8, if_neg n9]; rfl
  · -- two
    obtain ⟨x0, g0, y0, l0⟩ := at_word hW hc (show 0 < w.length by omega)
    have u0 : (0 : Int) < (w.length : Int) := by omega
    obtain ⟨x1, g1, y1, l1⟩ := at_word hW hc (show 1 < w.length by omega)
    have u1 : (1 : Int) < (w.length : Int) := by omega
    obtain ⟨xl, gl, yl, ll⟩ := at_word hW hc (show w.length - 1 < w.length by omega)
    have e2 : ((w.length : Int) == 2) = true := by simp; omega
    have e3 : ((w.length : Int) == 3) = false := by simp; omega
    have e4 : (2 : Int) ≤ (w.length : Int) := by omega
    have e5 : ¬ (2 : Int) < (w.length : Int) := by omega
    have e6 : ¬ (5 : Int) ≤ (w.length : Int) := by omega
    have e7 : ¬ (8 : Int) ≤ (w.length : Int) := by omega
    cases t3 : (x0 == [110, 111]) with
    | true =>
      simp only [hc, hW, c1, c2, wn, v1, v2, gl, ll, e2, e3, e4, e5, e6, e7, g0, g1, u0, u1, l0, l1, t3, q1, go_sem]
      repeat' ((first | apply qa | apply qb | apply qc | apply qd | apply qe | apply qf | apply qg | apply qh | apply qi | apply qj | apply qk) <;> intro hp <;> simp only [hp, hc, hW, c1, c2, wn, v1, v2, gl, ll, e2, e3, e4, e5, e6, e7, g0, g1, u0, u1, l0, l1, t3, q1, go_sem])
      simp only [fin_mk, finV, resL, resV1, resIn, endA, listIn, Option.some_or, Option.none_or, oneOrTup, go_sem]
      rw [← hr]
      rw [guessW, if_neg n1, if_neg n2, if_pos ⟨by omega, by rw [y0]; exact t3⟩, y1]; rfl
    | false =>
    have n3 : ¬ (w.length = 2 ∧ (w.getD 0 [] == [110, 111]) = true) := by rw [y0, t3]; simp
    have n4 : ¬ (w.length = 3 ∧ (w.getD 2 [] == [101, 120, 105, 115, 116, 115]) = true) := fun h => by have := h.1; omega
    have n5 : ¬ (w.length = 3 ∧ (w.getD 2 [] == [101, 120, 112, 117, 110, 103, 101]) = true) := fun h => by have := h.1; omega
    cases t6 : (x1 == [118, 97, 110, 105, 115, 104, 101, 100]) with
    | true =>
      simp only [hc, hW, c1, c2, wn, v1, v2, gl, ll, e2, e3, e4, e5, e6, e7, g0, g1, u0, u1, l0, l1, t3, t6, q1, go_sem]
      repeat' ((first | apply qa | apply qb | apply qc | apply qd | apply qe | apply qf | apply qg | apply qh | apply qi | apply qj | apply qk) <;> intro hp <;> simp only [hp, hc, hW, c1, c2, wn, v1, v2, gl, ll, e2, e3, e4, e5, e6, e7, g0, g1, u0, u1, l0, l1, t3, t6, q1, go_sem])
      simp only [fin_mk, finV, resL, resV1, resIn, endA, listIn, Option.some_or, Option.none_or, oneOrTup, go_sem]
      rw [← hr]
      rw [guessW, if_neg n1, if_neg n2, if_neg n3, if_neg n4, if_neg n5, if_pos ⟨by omega, by rw [y1]; exact t6⟩, lastW, yl]; rfl
    | false =>
    have n6 : ¬ (2 ≤ w.length ∧ (w.getD 1 [] == [118, 97, 110, 105, 115, 104, 101, 100]) = true) := by rw [y1, t6]; simp
    cases t7 : (x1 == [115, 101, 97, 114, 99, 104]) with
    | true =>
      simp only [hc, hW, c1, c2, wn, v1, v2, gl, ll, e2, e3, e4, e5, e6, e7, g0, g1, u0, u1, l0, l1, t3, t6, t7, q1, go_sem]
      repeat' ((first | apply qa | apply qb | apply qc | apply qd | apply qe | apply qf | apply qg | apply qh | apply qi | apply qj | apply qk) <;> intro hp <;> simp only [hp, hc, hW, c1, c2, wn, v1, v2, gl, ll, e2, e3, e4, e5, e6, e7, g0, g1, u0, u1, l0, l1, t3, t6, t7, q1, go_sem])
      simp only [fin_mk, finV, resL, resV1, resIn, endA, listIn, Option.some_or, Option.none_or, oneOrTup, go_sem]
      rw [← hr]
      rw [guessW, if_neg n1, if_neg n2, if_neg n3, if_neg n4, if_neg n5, if_neg n6, if_pos ⟨by omega, by rw [y1]; exact t7⟩, if_neg (by omega)]; rfl
    | false =>
    have n7 : ¬ (2 ≤ w.length ∧ (w.getD 1 [] == [115, 101, 97, 114, 99, 104]) = true) := by rw [y1, t7]; simp
    have n8 : ¬ (5 ≤ w.length ∧ (w.getD 1 [] == [118, 97, 108, 105, 100]) = true) := fun h => by have := h.1; omega
    have n9 : ¬ (8 ≤ w.length ∧ (w.getD 2 [] == [102, 101, 116, 99, 104]) = true) := fun h => by have := h.1; omega
    simp only [hc, hW, c1, c2, wn, v1, v2, gl, ll, e2, e3, e4, e5, e6, e7, g0, g1, u0, u1, l0, l1, t3, t6, t7, go_sem]
    repeat' ((first | apply qa | apply qb | apply qc | apply qd | apply qe | apply qf | apply qg | apply qh | apply qi | apply qj | apply qk) <;> intro hp <;> simp only [hp, hc, hW, c1, c2, wn, v1, v2, gl, ll, e2, e3, e4, e5, e6, e7, g0, g1, u0, u1, l0, l1, t3, t6, t7, go_sem])
    simp only [fin_mk, finV, resL, resV1, resIn, endA, listIn, Option.some_or, Option.none_or, oneOrTup, go_sem]
    rw [← hr]
    rw [guessW, if_neg n1, if_neg n2, if_neg n3, if_neg n4, if_neg n5, if_neg n6, if_neg n7, if_neg n8, if_neg n9]; rfl
  · -- three
    obtain ⟨x0, g0, y0, l0⟩ := at_word hW hc (show 0 < w.length by omega)
    have u0 : (0 : Int) < (w.length : Int) := by omega
    obtain ⟨x1, g1, y1, l1⟩ := at_word hW hc (show 1 < w.length by omega)
    have u1 : (1 : Int) < (w.length : Int) := by omega
    obtain ⟨x2, g2, y2, l2⟩ := at_word hW hc (show 2 < w.length by omega)
    have u2 : (2 : Int) < (w.length : Int) := by omega
    obtain ⟨xl, gl, yl, ll⟩ := at_word hW hc (show w.length - 1 < w.length by omega)
    have e2 : ((w.length : Int) == 2) = false := by simp; omega
    have e3 : ((w.length : Int) == 3) = true := by simp; omega
    have e4 : (2 : Int) ≤ (w.length : Int) := by omega
    have e5 : (2 : Int) < (w.length : Int) := by omega
    have e6 : ¬ (5 : Int) ≤ (w.length : Int) := by omega
    have e7 : ¬ (8 : Int) ≤ (w.length : Int) := by omega
    have n3 : ¬ (w.length = 2 ∧ (w.getD 0 [] == [110, 111]) = true) := fun h => by have := h.1; omega
    cases t4 : (x2 == [101, 120, 105, 115, 116, 115]) with
    | true =>
      simp only [hc, hW, c1, c2, wn, v1, v2, gl, ll, e2, e3, e4, e5, e6, e7, g0, g1, g2, u0, u1, u2, l0, l1, l2, t4, q1, go_sem]
      repeat' ((first | apply qa | apply qb | apply qc | apply qd | apply qe | apply qf | apply qg | apply qh | apply qi | apply qj | apply qk) <;> intro hp <;> simp only [hp, hc, hW, c1, c2, wn, v1, v2, gl, ll, e2, e3, e4, e5, e6, e7, g0, g1, g2, u0, u1, u2, l0, l1, l2, t4, q1, go_sem])
      simp only [fin_mk, finV, resL, resV1, resIn, endA, listIn, Option.some_or, Option.none_or, oneOrTup, go_sem]
      rw [← hr]
      rw [guessW, if_neg n1, if_neg n2, if_neg n3, if_pos ⟨by omega, by rw [y2]; exact t4⟩, y1]; rfl
    | false =>
    have n4 : ¬ (w.length = 3 ∧ (w.getD 2 [] == [101, 120, 105, 115, 116, 115]) = true) := by rw [y2, t4]; simp
    cases t5 : (x2 == [101, 120, 112, 117, 110, 103, 101]) with
    | true =>
      simp only [hc, hW, c1, c2, wn, v1, v2, gl, ll, e2, e3, e4, e5, e6, e7, g0, g1, g2, u0, u1, u2, l0, l1, l2, t4, t5, q1, go_sem]
      repeat' ((first | apply qa | apply qb | apply qc | apply qd | apply qe | apply qf | apply qg | apply qh | apply qi | apply qj | apply qk) <;> intro hp <;> simp only [hp, hc, hW, c1, c2, wn, v1, v2, gl, ll, e2, e3, e4, e5, e6, e7, g0, g1, g2, u0, u1, u2, l0, l1, l2, t4, t5, q1, go_sem])
      simp only [fin_mk, finV, resL, resV1, resIn, endA, listIn, Option.some_or, Option.none_or, oneOrTup, go_sem]
      rw [← hr]
      rw [guessW, if_neg n1, if_neg n2, if_neg n3, if_neg n4, if_pos ⟨by omega, by rw [y2]; exact t5⟩, y1]; rfl
    | false =>
    have n5 : ¬ (w.length = 3 ∧ (w.getD 2 [] == [101, 120, 112, 117, 110, 103, 101]) = true) := by rw [y2, t5]; simp
    cases t6 : (x1 == [118, 97, 110, 105, 115, 104, 101, 100]) with
    | true =>
      simp only [hc, hW, c1, c2, wn, v1, v2, gl, ll, e2, e3, e4, e5, e6, e7, g0, g1, g2, u0, u1, u2, l0, l1, l2, t4, t5, t6, q1, go_sem]
      repeat' ((first | apply qa | apply qb | apply qc | apply qd | apply qe | apply qf | apply qg | apply qh | apply qi | apply qj | apply qk) <;> intro hp <;> simp only [hp, hc, hW, c1, c2, wn, v1, v2, gl, ll, e2, e3, e4, e5, e6, e7, g0, g1, g2, u0, u1, u2, l0, l1, l2, t4, t5, t6, q1, go_sem])
      simp only [fin_mk, finV, resL, resV1, resIn, endA, listIn, Option.some_or, Option.none_or, oneOrTup, go_sem]
      rw [← hr]
      rw [guessW, if_neg n1, if_neg n2, if_neg n3, if_neg n4, if_neg n5, if_pos ⟨by omega, by rw [y1]; exact t6⟩, lastW, yl]; rfl
    | false =>
    have n6 : ¬ (2 ≤ w.length ∧ (w.getD 1 [] == [118, 97, 110, 105, 115, 104, 101, 100]) = true) := by rw [y1, t6]; simp
    cases t7 : (x1 == [115, 101, 97, 114, 99, 104]) with
    | true =>
      simp only [hc, hW, c1, c2, wn, v1, v2, gl, ll, e2, e3, e4, e5, e6, e7, g0, g1, g2, u0, u1, u2, l0, l1, l2, t4, t5, t6, t7, q1, go_sem]
      repeat' ((first | apply qa | apply qb | apply qc | apply qd | apply qe | apply qf | apply qg | apply qh | apply qi | apply qj | apply qk) <;> intro hp <;> simp only [hp, hc, hW, c1, c2, wn, v1, v2, gl, ll, e2, e3, e4, e5, e6, e7, g0, g1, g2, u0, u1, u2, l0, l1, l2, t4, t5, t6, t7, q1, go_sem])
      simp only [fin_mk, finV, resL, resV1, resIn, endA, listIn, Option.some_or, Option.none_or, oneOrTup, go_sem]
      rw [← hr]
      rw [guessW, if_neg n1, if_neg n2, if_neg n3, if_neg n4, if_neg n5, if_neg n6, if_pos ⟨by omega, by rw [y1]; exact t7⟩, if_pos (by omega), lastW, yl]; rfl
    | false =>
    have n7 : ¬ (2 ≤ w.length ∧ (w.getD 1 [] == [115, 101, 97, 114, 99, 104]) = true) := by rw [y1, t7]; simp
    have n8 : ¬ (5 ≤ w.length ∧ (w.getD 1 [] == [118, 97, 108, 105, 100]) = true) := fun h => by have := h.1; omega
    have n9 : ¬ (8 ≤ w.length ∧ (w.getD 2 [] == [102, 101, 116, 99, 104]) = true) := fun h => by have := h.1; omega
    simp only [hc, hW, c1, c2, wn, v1, v2, gl, ll, e2, e3, e4, e5, e6, e7, g0, g1, g2, u0, u1, u2, l0, l1, l2, t4, t5, t6, t7, go_sem]
    repeat' ((first | apply qa | apply qb | apply qc | apply qd | apply qe | apply qf | apply qg | apply qh | apply qi | apply qj | apply qk) <;> intro hp <;> simp only [hp, hc, hW, c1, c2, wn, v1, v2, gl, ll, e2, e3, e4, e5, e6, e7, g0, g1, g2, u0, u1, u2, l0, l1, l2, t4, t5, t6, t7, go_sem])
    simp only [fin_mk, finV, resL, resV1, resIn, endA, listIn, Option.some_or, Option.none_or, oneOrTup, go_sem]
    rw [← hr]
    rw [guessW, if_neg n1, if_neg n2, if_neg n3, if_neg n4, if_neg n5, if_neg n6, if_neg n7, if_neg n8, if_neg n9]; rfl
  · -- four
    obtain ⟨x0, g0, y0, l0⟩ := at_word hW hc (show 0 < w.length by omega)
    have u0 : (0 : Int) < (w.length : Int) := by omega
    obtain ⟨x1, g1, y1, l1⟩ := at_word hW hc (show 1 < w.length by omega)
    have u1 : (1 : Int) < (w.length : Int) := by omega
    obtain ⟨x2, g2, y2, l2⟩ := at_word hW hc (show 2 < w.length by omega)
    have u2 : (2 : Int) < (w.length : Int) := by omega
    obtain ⟨xl, gl, yl, ll⟩ := at_word hW hc (show w.length - 1 < w.length by omega)
    have e2 : ((w.length : Int) == 2) = false := by simp; omega
    have e3 : ((w.length : Int) == 3) = false := by simp; omega
    have e4 : (2 : Int) ≤ (w.length : Int) := by omega
    have e5 : (2 : Int) < (w.length : Int) := by omega
    have e6 : ¬ (5 : Int) ≤ (w.length : Int) := by omega
    have e7 : ¬ (8 : Int) ≤ (w.length : Int) := by omega
    have n3 : ¬ (w.length = 2 ∧ (w.getD 0 [] == [110, 111]) = true) := fun h => by have := h.1; omega
    have n4 : ¬ (w.length = 3 ∧ (w.getD 2 [] == [101, 120, 105, 115, 116, 115]) = true) := fun h => by have := h.1; omega
    have n5 : ¬ (w.length = 3 ∧ (w.getD 2 [] == [101, 120, 112, 117, 110, 103, 101]) = true) := fun h => by have := h.1; omega
    cases t6 : (x1 == [118, 97, 110, 105, 115, 104, 101, 100]) with
    | true =>
      simp only [hc, hW, c1, c2, wn, v1, v2, gl, ll, e2, e3, e4, e5, e6, e7, g0, g1, g2, u0, u1, u2, l0, l1, l2, t6, q1, go_sem]
      repeat' ((first | apply qa | apply qb | apply qc | apply qd | apply qe | apply qf | apply qg | apply qh | apply qi | apply qj | apply qk) <;> intro hp <;> simp only [hp, hc, hW, c1, c2, wn, v1, v2, gl, ll, e2, e3, e4, e5, e6, e7, g0, g1, g2, u0, u1, u2, l0, l1, l2, t6, q1, go_sem])
      simp only [fin_mk, finV, resL, resV1, resIn, endA, listIn, Option.some_or, Option.none_or, oneOrTup, go_sem]
      rw [← hr]
      rw [guessW, if_neg n1, if_neg n2, if_neg n3, if_neg n4, if_neg n5, if_pos ⟨by omega, by rw [y1]; exact t6⟩, lastW, yl]; rfl
    | false =>
    have n6 : ¬ (2 ≤ w.length ∧ (w.getD 1 [] == [118, 97, 110, 105, 115, 104, 101, 100]) = true) := by rw [y1, t6]; simp
    cases t7 : (x1 == [115, 101, 97, 114, 99, 104]) with
    | true =>
      simp only [hc, hW, c1, c2, wn, v1, v2, gl, ll, e2, e3, e4, e5, e6, e7, g0, g1, g2, u0, u1, u2, l0, l1, l2, t6, t7, q1, go_sem]
      repeat' ((first | apply qa | apply qb | apply qc | apply qd | apply qe | apply qf | apply qg | apply qh | apply qi | apply qj | apply qk) <;> intro hp <;> simp only [hp, hc, hW, c1, c2, wn, v1, v2, gl, ll, e2, e3, e4, e5, e6, e7, g0, g1, g2, u0, u1, u2, l0, l1, l2, t6, t7, q1, go_sem])
      simp only [fin_mk, finV, resL, resV1, resIn, endA, listIn, Option.some_or, Option.none_or, oneOrTup, go_sem]
      rw [← hr]
      rw [guessW, if_neg n1, if_neg n2, if_neg n3, if_neg n4, if_neg n5, if_neg n6, if_pos ⟨by omega, by rw [y1]; exact t7⟩, if_pos (by omega), lastW, yl]; rfl
    | false =>
    have n7 : ¬ (2 ≤ w.length ∧ (w.getD 1 [] == [115, 101, 97, 114, 99, 104]) = true) := by rw [y1, t7]; simp
    have n8 : ¬ (5 ≤ w.length ∧ (w.getD 1 [] == [118, 97, 108, 105, 100]) = true) := fun h => by have := h.1; omega
    have n9 : ¬ (8 ≤ w.length ∧ (w.getD 2 [] == [102, 101, 116, 99, 104]) = true) := fun h => by have := h.1; omega
    simp only [hc, hW, c1, c2, wn, v1, v2, gl, ll, e2, e3, e4, e5, e6, e7, g0, g1, g2, u0, u1, u2, l0, l1, l2, t6, t7, go_sem]
    repeat' ((first | apply qa | apply qb | apply qc | apply qd | apply qe | apply qf | apply qg | apply qh | apply qi | apply qj | apply qk) <;> intro hp <;> simp only [hp, hc, hW, c1, c2, wn, v1, v2, gl, ll, e2, e3, e4, e5, e6, e7, g0, g1, g2, u0, u1, u2, l0, l1, l2, t6, t7, go_sem])
    simp only [fin_mk, finV, resL, resV1, resIn, endA, listIn, Option.some_or, Option.none_or, oneOrTup, go_sem]
    rw [← hr]
    rw [guessW, if_neg n1, if_neg n2, if_neg n3, if_neg n4, if_neg n5, if_neg n6, if_neg n7, if_neg n8, if_neg n9]; rfl
  · -- five
    obtain ⟨x0, g0, y0, l0⟩ := at_word hW hc (show 0 < w.length by omega)
    have u0 : (0 : Int) < (w.length : Int) := by omega
    obtain ⟨x1, g1, y1, l1⟩ := at_word hW hc (show 1 < w.length by omega)
    have u1 : (1 : Int) < (w.length : Int) := by omega
    obtain ⟨x2, g2, y2, l2⟩ := at_word hW hc (show 2 < w.length by omega)
    have u2 : (2 : Int) < (w.length : Int) := by omega
    obtain ⟨x4, g4, y4, l4⟩ := at_word hW hc (show 4 < w.length by omega)
    have u4 : (4 : Int) < (w.length : Int) := by omega
    obtain ⟨xl, gl, yl, ll⟩ := at_word hW hc (show w.length - 1 < w.length by omega)
    have e2 : ((w.length : Int) == 2) = false := by simp; omega
    have e3 : ((w.length : Int) == 3) = false := by simp; omega
    have e4 : (2 : Int) ≤ (w.length : Int) := by omega
    have e5 : (2 : Int) < (w.length : Int) := by omega
    have e6 : (5 : Int) ≤ (w.length : Int) := by omega
    have e7 : ¬ (8 : Int) ≤ (w.length : Int) := by omega
    have n3 : ¬ (w.length = 2 ∧ (w.getD 0 [] == [110, 111]) = true) := fun h => by have := h.1; omega
    have n4 : ¬ (w.length = 3 ∧ (w.getD 2 [] == [101, 120, 105, 115, 116, 115]) = true) := fun h => by have := h.1; omega
    have n5 : ¬ (w.length = 3 ∧ (w.getD 2 [] == [101, 120, 112, 117, 110, 103, 101]) = true) := fun h => by have := h.1; omega
    cases t6 : (x1 == [118, 97, 110, 105, 115, 104, 101, 100]) with
    | true =>
      simp only [hc, hW, c1, c2, wn, v1, v2, gl, ll, e2, e3, e4, e5, e6, e7, g0, g1, g2, g4, u0, u1, u2, u4, l0, l1, l2, l4, t6, q1, go_sem]
      repeat' ((first | apply qa | apply qb | apply qc | apply qd | apply qe | apply qf | apply qg | apply qh | apply qi | apply qj | apply qk) <;> intro hp <;> simp only [hp, hc, hW, c1, c2, wn, v1, v2, gl, ll, e2, e3, e4, e5, e6, e7, g0, g1, g2, g4, u0, u1, u2, u4, l0, l1, l2, l4, t6, q1, go_sem])
      simp only [fin_mk, finV, resL, resV1, resIn, endA, listIn, Option.some_or, Option.none_or, oneOrTup, go_sem]
      rw [← hr]
      rw [guessW, if_neg n1, if_neg n2, if_neg n3, if_neg n4, if_neg n5, if_pos ⟨by omega, by rw [y1]; exact t6⟩, lastW, yl]; rfl
    | false =>
    have n6 : ¬ (2 ≤ w.length ∧ (w.getD 1 [] == [118, 97, 110, 105, 115, 104, 101, 100]) = true) := by rw [y1, t6]; simp
    cases t7 : (x1 == [115, 101, 97, 114, 99, 104]) with
    | true =>
      simp only [hc, hW, c1, c2, wn, v1, v2, gl, ll, e2, e3, e4, e5, e6, e7, g0, g1, g2, g4, u0, u1, u2, u4, l0, l1, l2, l4, t6, t7, q1, go_sem]
      repeat' ((first | apply qa | apply qb | apply qc | apply qd | apply qe | apply qf | apply qg | apply qh | apply qi | apply qj | apply qk) <;> intro hp <;> simp only [hp, hc, hW, c1, c2, wn, v1, v2, gl, ll, e2, e3, e4, e5, e6, e7, g0, g1, g2, g4, u0, u1, u2, u4, l0, l1, l2, l4, t6, t7, q1, go_sem])
      simp only [fin_mk, finV, resL, resV1, resIn, endA, listIn, Option.some_or, Option.none_or, oneOrTup, go_sem]
      rw [← hr]
      rw [guessW, if_neg n1, if_neg n2, if_neg n3, if_neg n4, if_neg n5, if_neg n6, if_pos ⟨by omega, by rw [y1]; exact t7⟩, if_pos (by omega), lastW, yl]; rfl
    | false =>
    have n7 : ¬ (2 ≤ w.length ∧ (w.getD 1 [] == [115, 101, 97, 114, 99, 104]) = true) := by rw [y1, t7]; simp
    cases t8 : (x1 == [118, 97, 108, 105, 100]) with
    | true =>
      by_cases h5 : 5 < w.length
      · have h5' : (5 : Int) < (w.length : Int) := by omega
        simp only [hc, hW, c1, c2, wn, v1, v2, gl, ll, e2, e3, e4, e5, e6, e7, g0, g1, g2, g4, u0, u1, u2, u4, l0, l1, l2, l4, t6, t7, t8, h5', go_sem]
        repeat' ((first | apply qa | apply qb | apply qc | apply qd | apply qe | apply qf | apply qg | apply qh | apply qi | apply qj | apply qk) <;> intro hp <;> simp only [hp, hc, hW, c1, c2, wn, v1, v2, gl, ll, e2, e3, e4, e5, e6, e7, g0, g1, g2, g4, u0, u1, u2, u4, l0, l1, l2, l4, t6, t7, t8, h5', go_sem])
        simp only [fin_mk, finV, resL, resV1, resIn, endA, listIn, Option.some_or, Option.none_or, oneOrTup, go_sem]
        rw [← hr]
        rw [guessW, if_neg n1, if_neg n2, if_neg n3, if_neg n4, if_neg n5, if_neg n6, if_neg n7, if_pos ⟨by omega, by rw [y1]; exact t8⟩, y2, y4, decide_eq_true h5]; rfl
      · have h5' : ¬ (5 : Int) < (w.length : Int) := by omega
        simp only [hc, hW, c1, c2, wn, v1, v2, gl, ll, e2, e3, e4, e5, e6, e7, g0, g1, g2, g4, u0, u1, u2, u4, l0, l1, l2, l4, t6, t7, t8, h5', go_sem]
        repeat' ((first | apply qa | apply qb | apply qc | apply qd | apply qe | apply qf | apply qg | apply qh | apply qi | apply qj | apply qk) <;> intro hp <;> simp only [hp, hc, hW, c1, c2, wn, v1, v2, gl, ll, e2, e3, e4, e5, e6, e7, g0, g1, g2, g4, u0, u1, u2, u4, l0, l1, l2, l4, t6, t7, t8, h5', go_sem])
        simp only [fin_mk, finV, resL, resV1, resIn, endA, listIn, Option.some_or, Option.none_or, oneOrTup, go_sem]
        rw [← hr]
        rw [guessW, if_neg n1, if_neg n2, if_neg n3, if_neg n4, if_neg n5, if_neg n6, if_neg n7, if_pos ⟨by omega, by rw [y1]; exact t8⟩, y2, y4, decide_eq_false h5]; rfl
    | false =>
    have n8 : ¬ (5 ≤ w.length ∧ (w.getD 1 [] == [118, 97, 108, 105, 100]) = true) := by rw [y1, t8]; simp
    have n9 : ¬ (8 ≤ w.length ∧ (w.getD 2 [] == [102, 101, 116, 99, 104]) = true) := fun h => by have := h.1; omega
    simp only [hc, hW, c1, c2, wn, v1, v2, gl, ll, e2, e3, e4, e5, e6, e7, g0, g1, g2, g4, u0, u1, u2, u4, l0, l1, l2, l4, t6, t7, t8, go_sem]
    repeat' ((first | apply qa | apply qb | apply qc | apply qd | apply qe | apply qf | apply qg | apply qh | apply qi | apply qj | apply qk) <;> intro hp <;> simp only [hp, hc, hW, c1, c2, wn, v1, v2, gl, ll, e2, e3, e4, e5, e6, e7, g0, g1, g2, g4, u0, u1, u2, u4, l0, l1, l2, l4, t6, t7, t8, go_sem])
    simp only [fin_mk, finV, resL, resV1, resIn, endA, listIn, Option.some_or, Option.none_or, oneOrTup, go_sem]
    rw [← hr]
    rw [guessW, if_neg n1, if_neg n2, if_neg n3, if_neg n4, if_neg n5, if_neg n6, if_neg n7, if_neg n8, if_neg n9]; rfl
  · -- eight
    obtain ⟨x0, g0, y0, l0⟩ := at_word hW hc (show 0 < w.length by omega)
    have u0 : (0 : Int) < (w.length : Int) := by omega
    obtain ⟨x1, g1, y1, l1⟩ := at_word hW hc (show 1 < w.length by omega)
    have u1 : (1 : Int) < (w.length : Int) := by omega
    obtain ⟨x2, g2, y2, l2⟩ := at_word hW hc (show 2 < w.length by omega)
    have u2 : (2 : Int) < (w.length : Int) := by omega
    obtain ⟨x4, g4, y4, l4⟩ := at_word hW hc (show 4 < w.length by omega)
    have u4 : (4 : Int) < (w.length : Int) := by omega
    obtain ⟨x6, g6, y6, l6⟩ := at_word hW hc (show 6 < w.length by omega)
    have u6 : (6 : Int) < (w.length : Int) := by omega
    obtain ⟨xl, gl, yl, ll⟩ := at_word hW hc (show w.length - 1 < w.length by omega)
    have e2 : ((w.length : Int) == 2) = false := by simp; omega
    have e3 : ((w.length : Int) == 3) = false := by simp; omega
    have e4 : (2 : Int) ≤ (w.length : Int) := by omega
    have e5 : (2 : Int) < (w.length : Int) := by omega
    have e6 : (5 : Int) ≤ (w.length : Int) := by omega
    have e7 : (8 : Int) ≤ (w.length : Int) := by omega
    have n3 : ¬ (w.length = 2 ∧ (w.getD 0 [] == [110, 111]) = true) := fun h => by have := h.1; omega
    have n4 : ¬ (w.length = 3 ∧ (w.getD 2 [] == [101, 120, 105, 115, 116, 115]) = true) := fun h => by have := h.1; omega
    have n5 : ¬ (w.length = 3 ∧ (w.getD 2 [] == [101, 120, 112, 117, 110, 103, 101]) = true) := fun h => by have := h.1; omega
    cases t6 : (x1 == [118, 97, 110, 105, 115, 104, 101, 100]) with
    | true =>
      simp only [hc, hW, c1, c2, wn, v1, v2, gl, ll, e2, e3, e4, e5, e6, e7, g0, g1, g2, g4, g6, u0, u1, u2, u4, u6, l0, l1, l2, l4, l6, t6, q1, go_sem]
      repeat' ((first | apply qa | apply qb | apply qc | apply qd | apply qe | apply qf | apply qg | apply qh | apply qi | apply qj | apply qk) <;> intro hp <;> simp only [hp, hc, hW, c1, c2, wn, v1, v2, gl, ll, e2, e3, e4, e5, e6, e7, g0, g1, g2, g4, g6, u0, u1, u2, u4, u6, l0, l1, l2, l4, l6, t6, q1, go_sem])
      simp only [fin_mk, finV, resL, resV1, resIn, endA, listIn, Option.some_or, Option.none_or, oneOrTup, go_sem]
      rw [← hr]
      rw [guessW, if_neg n1, if_neg n2, if_neg n3, if_neg n4, if_neg n5, if_pos ⟨by omega, by rw [y1]; exact t6⟩, lastW, yl]; rfl
    | false =>
    have n6 : ¬ (2 ≤ w.length ∧ (w.getD 1 [] == [118, 97, 110, 105, 115, 104, 101, 100]) = true) := by rw [y1, t6]; simp
    cases t7 : (x1 == [115, 101, 97, 114, 99, 104]) with
    | true =>
      simp only [hc, hW, c1, c2, wn, v1, v2, gl, ll, e2, e3, e4, e5, e6, e7, g0, g1, g2, g4, g6, u0, u1, u2, u4, u6, l0, l1, l2, l4, l6, t6, t7, q1, go_sem]
      repeat' ((first | apply qa | apply qb | apply qc | apply qd | apply qe | apply qf | apply qg | apply qh | apply qi | apply qj | apply qk) <;> intro hp <;> simp only [hp, hc, hW, c1, c2, wn, v1, v2, gl, ll, e2, e3, e4, e5, e6, e7, g0, g1, g2, g4, g6, u0, u1, u2, u4, u6, l0, l1, l2, l4, l6, t6, t7, q1, go_sem])
      simp only [fin_mk, finV, resL, resV1, resIn, endA, listIn, Option.some_or, Option.none_or, oneOrTup, go_sem]
      rw [← hr]
      rw [guessW, if_neg n1, if_neg n2, if_neg n3, if_neg n4, if_neg n5, if_neg n6, if_pos ⟨by omega, by rw [y1]; exact t7⟩, if_pos (by omega), lastW, yl]; rfl
    | false =>
    have n7 : ¬ (2 ≤ w.length ∧ (w.getD 1 [] == [115, 101, 97, 114, 99, 104]) = true) := by rw [y1, t7]; simp
    cases t8 : (x1 == [118, 97, 108, 105, 100]) with
    | true =>
      by_cases h5 : 5 < w.length
      · have h5' : (5 : Int) < (w.length : Int) := by omega
        simp only [hc, hW, c1, c2, wn, v1, v2, gl, ll, e2, e3, e4, e5, e6, e7, g0, g1, g2, g4, g6, u0, u1, u2, u4, u6, l0, l1, l2, l4, l6, t6, t7, t8, h5', go_sem]
        repeat' ((first | apply qa | apply qb | apply qc | apply qd | apply qe | apply qf | apply qg | apply qh | apply qi | apply qj | apply qk) <;> intro hp <;> simp only [hp, hc, hW, c1, c2, wn, v1, v2, gl, ll, e2, e3, e4, e5, e6, e7, g0, g1, g2, g4, g6, u0, u1, u2, u4, u6, l0, l1, l2, l4, l6, t6, t7, t8, h5', go_sem])
        simp only [fin_mk, finV, resL, resV1, resIn, endA, listIn, Option.some_or, Option.none_or, oneOrTup, go_sem]
        rw [← hr]
        rw [guessW, if_neg n1, if_neg n2, if_neg n3, if_neg n4, if_neg n5, if_neg n6, if_neg n7, if_pos ⟨by omega, by rw [y1]; exact t8⟩, y2, y4, decide_eq_true h5]; rfl
      · have h5' : ¬ (5 : Int) < (w.length : Int) := by omega
        simp only [hc, hW, c1, c2, wn, v1, v2, gl, ll, e2, e3, e4, e5, e6, e7, g0, g1, g2, g4, g6, u0, u1, u2, u4, u6, l0, l1, l2, l4, l6, t6, t7, t8, h5', go_sem]
        repeat' ((first | apply qa | apply qb | apply qc | apply qd | apply qe | apply qf | apply qg | apply qh | apply qi | apply qj | apply qk) <;> intro hp <;> simp only [hp, hc, hW, c1, c2, wn, v1, v2, gl, ll, e2, e3, e4, e5, e6, e7, g0, g1, g2, g4, g6, u0, u1, u2, u4, u6, l0, l1, l2, l4, l6, t6, t7, t8, h5', go_sem])
        simp only [fin_mk, finV, resL, resV1, resIn, endA, listIn, Option.some_or, Option.none_or, oneOrTup, go_sem]
        rw [← hr]
        rw [guessW, if_neg n1, if_neg n2, if_neg n3, if_neg n4, if_neg n5, if_neg n6, if_neg n7, if_pos ⟨by omega, by rw [y1]; exact t8⟩, y2, y4, decide_eq_false h5]; rfl
    | false =>
    have n8 : ¬ (5 ≤ w.length ∧ (w.getD 1 [] == [118, 97, 108, 105, 100]) = true) := by rw [y1, t8]; simp
    cases t9 : (x2 == [102, 101, 116, 99, 104]) with
    | true =>
      have hfl := flagsW_len hW (by omega)
      have hfl2 : (flagsW w).length ≤ 4194304 := by omega
      have e9 : guessW t w = ⟨3, decN x1, decN x4, (readFl (flagsW w)).getD 0, (if 1 < xl.length then decN (xl.take (xl.length - 1)) else 0), [], false⟩ := by rw [guessW, if_neg n1, if_neg n2, if_neg n3, if_neg n4, if_neg n5, if_neg n6, if_neg n7, if_neg n8, if_pos ⟨by omega, by rw [y2]; exact t9⟩, y4, lastW, yl, y1]
      rw [e9] at hr
      simp only [hc, hW, c1, c2, wn, v1, v2, gl, ll, e2, e3, e4, e5, e6, e7, g0, g1, g2, g4, g6, u0, u1, u2, u4, u6, l0, l1, l2, l4, l6, t6, t7, t8, t9, go_sem]
      repeat' ((first | apply qa | apply qb | apply qc | apply qd | apply qe | apply qf | apply qg | apply qh | apply qi | apply qj | apply qk) <;> intro hp <;> simp only [hp, hc, hW, c1, c2, wn, v1, v2, gl, ll, e2, e3, e4, e5, e6, e7, g0, g1, g2, g4, g6, u0, u1, u2, u4, u6, l0, l1, l2, l4, l6, t6, t7, t8, t9, go_sem])
      refine loop_go (fun p : Nat × List UInt8 => [(6, .str p.2), (7, .int .i64 (p.1 : Int))]) (fun _ => []) (fun p => w.length - p.1) (fun p => 7 ≤ p.1 ∧ p.1 + 1 ≤ w.length ∧ ((w.drop p.1).take (w.length - 2 - p.1)).foldl flF p.2 = flagsW w) (7, x6) ⟨Nat.le_refl _, by simp only; omega, by simp only; rw [flagsW, y6, show w.length - 2 - 7 = w.length - 9 by omega]⟩ rfl rfl ?_
      rintro ⟨i, a⟩ ⟨hi7, hi1, he⟩ ih
      simp only at hi7 hi1 he ih
      have gi : (0 : Int) ≤ i := by omega
      have wi2 : IntKind.i64.wrap ((i : Int) + 2) = ((i + 2 : Nat) : Int) := (wrap64 (by omega) (by omega)).trans (by omega)
      have wi1 : IntKind.i64.wrap ((i : Int) + 1) = ((i + 1 : Nat) : Int) := (wrap64 (by omega) (by omega)).trans (by omega)
      by_cases hlt : i + 2 < w.length
      · have m1 : ((i + 2 : Nat) : Int) < w.length := by omega
        have m2 : (i : Int) < w.length := by omega
        obtain ⟨z, gz, yz, lz⟩ := at_word hW hc (show i < w.length by omega)
        have hz : w[i] = z := by rw [List.getElem?_eq_getElem (by omega)] at gz; exact Option.some.inj gz
        have hd : (w.drop i).take (w.length - 2 - i) = z :: (w.drop (i + 1)).take (w.length - 2 - (i + 1)) := by
          rw [List.drop_eq_getElem_cons (show i < w.length by omega), hz, show w.length - 2 - i = (w.length - 2 - (i + 1)) + 1 by omega, List.take_succ_cons]
        rw [hd, List.foldl_cons] at he
        have al : a.length ≤ 4194304 := by
          have := congrArg List.length he
          rw [flF_len, flF] at this
          simp only [List.length_append] at this; omega
        have o1 : a.length ≤ 9223372036854775806 := by omega
        have o2 : (a ++ [32]).length + z.length ≤ 9223372036854775807 := by simp only [List.length_append, List.length_cons, List.length_nil]; omega
        have ih' := ih (i + 1, flF a z) ⟨by simp only; omega, by simp only; omega, he⟩ (by simp only; omega)
        simp only [flF] at ih'
        clear ih
        simp only [gi, wi1, wi2, m1, m2, gz, o1, o2, go_sem]
        repeat' ((first | apply qa | apply qb | apply qc | apply qd | apply qe | apply qf | apply qg | apply qh | apply qi | apply qj | apply qk) <;> intro hp <;> simp only [hp, gi, wi1, wi2, m1, m2, gz, o1, o2, go_sem])
        exact ih'
      have m1 : ¬ ((i + 2 : Nat) : Int) < w.length := by omega
      have e0 : w.length - 2 - i = 0 := by omega
      rw [e0, List.take_zero, List.foldl_nil] at he
      clear ih
      rw [← he] at hfl2 hr
      by_cases hl1 : 1 < xl.length
      · have p1 : (1 : Int) < (xl.length : Int) := by omega
        have p2 : IntKind.i64.wrap ((xl.length : Int) - 1) = ((xl.length - 1 : Nat) : Int) := (wrap64 (by omega) (by omega)).trans (by omega)
        have p3 : (0 : Int) ≤ ((xl.length - 1 : Nat) : Int) := by omega
        have p4 : ((xl.length - 1 : Nat) : Int) ≤ xl.length := by omega
        have p5 : xl.length - 1 ≤ xl.length := by omega
        have p6 : (xl.take (xl.length - 1)).length ≤ 4194304 := by rw [List.length_take]; omega
        rw [if_pos hl1] at hr
        simp only [gi, wi2, m1, hfl2, wn, v1, v2, gl, ll, p1, p2, p3, p4, p5, p6, Int.toNat_natCast, List.drop_zero, Nat.zero_le, go_sem]
        repeat' ((first | apply qa | apply qb | apply qc | apply qd | apply qe | apply qf | apply qg | apply qh | apply qi | apply qj | apply qk) <;> intro hp <;> simp only [hp, gi, wi2, m1, hfl2, wn, v1, v2, gl, ll, p1, p2, p3, p4, p5, p6, Int.toNat_natCast, List.drop_zero, Nat.zero_le, go_sem])
        simp only [fin_mk, finV, resL, resV1, resIn, endA, listIn, Option.some_or, Option.none_or, oneOrTup, go_sem]
        rw [← hr]
        try rfl
      · have p1 : ¬ (1 : Int) < (xl.length : Int) := by omega
        rw [if_neg hl1] at hr
        simp only [gi, wi2, m1, hfl2, wn, v1, v2, gl, ll, p1, go_sem]
        repeat' ((first | apply qa | apply qb | apply qc | apply qd | apply qe | apply qf | apply qg | apply qh | apply qi | apply qj | apply qk) <;> intro hp <;> simp only [hp, gi, wi2, m1, hfl2, wn, v1, v2, gl, ll, p1, go_sem])
        simp only [fin_mk, finV, resL, resV1, resIn, endA, listIn, Option.some_or, Option.none_or, oneOrTup, go_sem]
        rw [← hr]
        try rfl
    | false =>
    have n9 : ¬ (8 ≤ w.length ∧ (w.getD 2 [] == [102, 101, 116, 99, 104]) = true) := by rw [y2, t9]; simp
    simp only [hc, hW, c1, c2, wn, v1, v2, gl, ll, e2, e3, e4, e5, e6, e7, g0, g1, g2, g4, g6, u0, u1, u2, u4, u6, l0, l1, l2, l4, l6, t6, t7, t8, t9, go_sem]
    repeat' ((first | apply qa | apply qb | apply qc | apply qd | apply qe | apply qf | apply qg | apply qh | apply qi | apply qj | apply qk) <;> intro hp <;> simp only [hp, hc, hW, c1, c2, wn, v1, v2, gl, ll, e2, e3, e4, e5, e6, e7, g0, g1, g2, g4, g6, u0, u1, u2, u4, u6, l0, l1, l2, l4, l6, t6, t7, t8, t9, go_sem])
    simp only [fin_mk, finV, resL, resV1, resIn, endA, listIn, Option.some_or, Option.none_or, oneOrTup, go_sem]
    rw [← hr]
    rw [guessW, if_neg n1, if_neg n2, if_neg n3, if_neg n4, if_neg n5, if_neg n6, if_neg n7, if_neg n8, if_neg n9]; rfl
end Go.Proofs.YtnbkmmjnpbfhnaaGreatDoor.L

namespace Go.Proofs.YtnbkmmjnpbfhnaaGreatDoor.L
open Go Go.VM
set_option maxRecDepth 100000
set_option maxHeartbeats 4000000
set_option linter.unusedSimpArgs false
set_option linter.unusedVariables false
theorem cut_gen {d sep r : List UInt8} (h : ∀ j, j < d.length → sep.isPrefixOf ((d ++ (sep ++ r)).drop j) = false) : cut1 (d ++ (sep ++ r)) sep = d ∧ cut2 (d ++ (sep ++ r)) sep = r := by
  have hp : sep.isPrefixOf (sep ++ r) = true := List.isPrefixOf_iff_prefix.2 (List.prefix_append _ _)
  have hi : Lib.index (d ++ (sep ++ r)) sep = d.length := Lib.index_first (by simp) (by rw [Lib.occAt, List.drop_left]; exact hp) h
  have hb : cutB (d ++ (sep ++ r)) sep = true := by rw [cutB, hi]; simp
  refine ⟨?_, ?_⟩
  · rw [cut1, if_pos hb, hi, Int.toNat_natCast, List.take_left]
  · rw [cut2, if_pos hb, hi, Int.toNat_natCast, ← List.append_assoc, show d.length + sep.length = (d ++ sep).length by simp, List.drop_left]
theorem cut_sp {d s r : List UInt8} (h : ∀ x ∈ d, notB 32 x = true) : cut1 (d ++ ((32 :: s) ++ r)) (32 :: s) = d ∧ cut2 (d ++ ((32 :: s) ++ r)) (32 :: s) = r := by
  refine cut_gen fun j hj => ?_
  rw [List.drop_append_of_le_length (by omega), List.drop_eq_getElem_cons hj, List.cons_append]
  have := h _ (List.getElem_mem hj)
  simp only [notB, bne_iff_ne, ne_eq] at this
  simp only [List.isPrefixOf, Bool.and_eq_false_iff, beq_eq_false_iff_ne]
  exact .inl fun e => this e.symm
theorem pre_long {p a r : List UInt8} (h : p.length ≤ a.length) : p.isPrefixOf (a ++ r) = p.isPrefixOf a := by
  rw [isPrefixOf_take, isPrefixOf_take, List.take_append_of_le_length h]
theorem flags_free : ∀ f : Fin 32, ((List.range (flagsText (f.val : Int)).length).all fun j => !(([32, 109, 111, 100, 115, 101, 113, 32] : List UInt8).isPrefixOf ((flagsText (f.val : Int) ++ [32, 109, 111, 100, 115, 101, 113, 32]).drop j))) = true := by decide +kernel
theorem cut_flags {f : Int} (h0 : 0 ≤ f) (h1 : f ≤ 31) (r : List UInt8) : cut1 (flagsText f ++ ([32, 109, 111, 100, 115, 101, 113, 32] ++ r)) [32, 109, 111, 100, 115, 101, 113, 32] = flagsText f ∧ cut2 (flagsText f ++ ([32, 109, 111, 100, 115, 101, 113, 32] ++ r)) [32, 109, 111, 100, 115, 101, 113, 32] = r := by
  obtain ⟨n, rfl⟩ : ∃ n : Nat, f = n := ⟨f.toNat, by omega⟩
  refine cut_gen fun j hj => ?_
  have := flags_free ⟨n, by omega⟩
  rw [List.all_eq_true] at this
  have h2 := this j (List.mem_range.2 hj)
  rw [← List.append_assoc, List.drop_append_of_le_length (by rw [List.length_append]; omega), pre_long (by rw [List.length_drop, List.length_append]; omega)]
  simpa using h2
theorem flags_back : ∀ f : Fin 32, readFl (flagsText (f.val : Int)) = some (f.val : Int) := by decide +kernel
theorem flags_read {f : Int} (h0 : 0 ≤ f) (h1 : f ≤ 31) : (readFl (flagsText f)).getD 0 = f := by
  obtain ⟨n, rfl⟩ : ∃ n : Nat, f = n := ⟨f.toNat, by omega⟩
  rw [flags_back ⟨n, by omega⟩]; rfl
theorem fig {n : Int} (h : 0 ≤ n) : ∃ c m, Lib.itoa n = c :: m ∧ 48 ≤ c.toNat ∧ c.toNat ≤ 57 := by
  have h1 := itoa_ne h
  obtain ⟨h2, _⟩ := itoa_read h
  cases hq : Lib.itoa n with
  | nil => exact absurd hq h1
  | cons c m =>
    rw [hq, List.all_cons, Bool.and_eq_true] at h2
    have := digB_iff h2.1
    exact ⟨c, m, rfl, by omega, by omega⟩
theorem fig_no {n : Int} (h : 0 ≤ n) : ∀ x ∈ Lib.itoa n, notB 32 x = true := dig_no (itoa_read h).1 32 (by decide)
theorem fig_ne {n : Int} (h : 0 ≤ n) (r : List UInt8) {c : UInt8} {l : List UInt8} (hc : 57 < c.toNat) : (Lib.itoa n ++ r == c :: l) = false := by
  obtain ⟨d, m, e, h1, h2⟩ := fig h
  rw [e, beq_eq_false_iff_ne, List.cons_append]
  intro h3
  have := (List.cons.inj h3).1
  rw [this] at h2; omega
theorem fig_ne' {n : Int} (h : 0 ≤ n) {c : UInt8} {l : List UInt8} (hc : 57 < c.toNat) : (Lib.itoa n == c :: l) = false := by
  have := fig_ne h [] (l := l) hc
  rwa [List.append_nil] at this
theorem cutP_pre (p r : List UInt8) : p.isPrefixOf (p ++ r) = true ∧ cutPrefix (p ++ r) p = r := by
  have hp : p.isPrefixOf (p ++ r) = true := List.isPrefixOf_iff_prefix.2 (List.prefix_append _ _)
  exact ⟨hp, by rw [cutPrefix, if_pos hp, List.drop_left]⟩
theorem cutSuf_app (a t : List UInt8) : sufB (a ++ t) t = true ∧ cutSuf (a ++ t) t = a := by
  have h : sufB (a ++ t) t = true := by
    rw [sufB, decide_eq_true (by simp), Bool.true_and, List.length_append, Nat.add_sub_cancel, List.drop_left, beq_self_eq_true]
  exact ⟨h, by rw [cutSuf, if_pos h, List.length_append, Nat.add_sub_cancel, List.take_left]⟩
theorem suf_fig {n : Int} (h : 0 ≤ n) (a : List UInt8) : sufB (a ++ Lib.itoa n) [32, 97, 108, 108] = false := by
  cases hs : sufB (a ++ Lib.itoa n) [32, 97, 108, 108] with
  | false => rfl
  | true =>
    simp only [sufB, Bool.and_eq_true, decide_eq_true_eq, beq_iff_eq] at hs
    obtain ⟨h1, h2⟩ := hs
    have h3 : (a ++ Lib.itoa n).getLast? = some 108 := by
      rw [← List.take_append_drop ((a ++ Lib.itoa n).length - ([32, 97, 108, 108] : List UInt8).length) (a ++ Lib.itoa n), h2, List.getLast?_append]; rfl
    have h4 := itoa_ne h
    have h5 : (a ++ Lib.itoa n).getLast? = (Lib.itoa n).getLast? := by
      rw [List.getLast?_append]
      cases hq : (Lib.itoa n).getLast? with
      | none => rw [List.getLast?_eq_none_iff] at hq; exact absurd hq h4
      | some x => rfl
    rw [h5] at h3
    have h6 := List.all_eq_true.1 (itoa_read h).1 108 (List.mem_of_getLast? h3)
    revert h6; decide
theorem setText_chars {S : List Range} : ∀ x ∈ setText S, digB x = true ∨ x = 58 ∨ x = 44 := by
  unfold setText
  split
  · rename_i hs
    intro x h
    have jm : ∀ {l : List (List UInt8)}, x ∈ Lib.join l [44] → x ∈ ([44] : List UInt8) ∨ ∃ y ∈ l, x ∈ y := by
      intro l
      cases l with
      | nil => intro h; simp [Lib.join_nil] at h
      | cons y l =>
        intro h
        rw [Lib.join_cons, List.mem_append] at h
        rcases h with h | h
        · exact .inr ⟨y, by simp, h⟩
        · simp only [Lib.joinTail, List.mem_flatten, List.mem_map] at h
          obtain ⟨z, ⟨w, hw, rfl⟩, hx⟩ := h
          rcases List.mem_append.1 hx with hx | hx
          · exact .inl hx
          · exact .inr ⟨w, by simp [hw], hx⟩
    rcases jm h with h | ⟨y, hy, h⟩
    · simp only [List.mem_singleton] at h; exact .inr (.inr h)
    · obtain ⟨r, hr, rfl⟩ := List.mem_map.1 hy
      obtain ⟨i, hi, rfl⟩ := List.mem_iff_getElem.1 hr
      have hb := setOk_at hs hi
      have h1 := (itoa_read (n := S[i].Lo) (by omega)).1
      have h2 := (itoa_read (n := S[i].Hi) (by omega)).1
      unfold partOf at h
      split at h
      · rw [List.mem_append, List.mem_cons] at h
        rcases h with h | h | h
        · exact .inl (List.all_eq_true.1 h1 x h)
        · exact .inr (.inl h)
        · exact .inl (List.all_eq_true.1 h2 x h)
      · exact .inl (List.all_eq_true.1 h1 x h)
  · intro x h; simp at h
theorem set_no (S : List Range) : ∀ x ∈ setText S, notB 32 x = true := by
  intro x hx
  rw [notB, bne_iff_ne]
  rintro rfl
  rcases setText_chars 32 hx with h | h | h <;> revert h <;> decide
theorem set_ne (S : List Range) {c : UInt8} {l : List UInt8} (hc : 58 < c.toNat) : (setText S == c :: l) = false := by
  rw [beq_eq_false_iff_ne]
  intro e
  rcases setText_chars (S := S) c (by rw [e]; simp) with h | h | h
  · have := digB_iff h; omega
  · subst h; revert hc; decide
  · subst h; revert hc; decide
theorem split_sp : ∀ (a r : List UInt8), splitOn 32 (a ++ 32 :: r) = splitOn 32 a ++ splitOn 32 r
  | [], r => rfl
  | b :: a, r => by
    rw [List.cons_append, splitOn, splitOn, split_sp a r]
    split
    · rfl
    · have := splitOn_ne 32 a
      cases hq : splitOn 32 a with
      | nil => exact absurd hq this
      | cons h t => rfl
theorem split_no {a : List UInt8} (h : ∀ x ∈ a, notB 32 x = true) (r : List UInt8) : splitOn 32 (a ++ 32 :: r) = a :: splitOn 32 r := by
  rw [split_sp, splitOn_none h]; rfl
theorem join_words : ∀ (s : List UInt8), ∃ h l, splitOn 32 s = h :: l ∧ l.foldl flF h = s
  | [] => ⟨[], [], rfl, rfl⟩
  | b :: s => by
    have shift : ∀ (l : List (List UInt8)) (a c : List UInt8), l.foldl flF (a ++ c) = a ++ l.foldl flF c := by
      intro l
      induction l with
      | nil => intro a c; rfl
      | cons x l ih => intro a c; rw [List.foldl_cons, List.foldl_cons, flF, List.append_assoc, List.append_assoc, ih, flF, List.append_assoc]
    obtain ⟨h, l, h1, h2⟩ := join_words s
    rw [splitOn, h1]
    by_cases hb : b = 32
    · rw [if_pos hb]
      refine ⟨[], h :: l, rfl, ?_⟩
      rw [List.foldl_cons, flF, List.nil_append, shift, h2, hb]; rfl
    · rw [if_neg hb]
      refine ⟨b :: h, l, rfl, ?_⟩
      have := shift l [b] h
      rw [List.singleton_append] at this
      rw [this, h2]; rfl
theorem ne_head {a c : UInt8} {l m : List UInt8} (h : a ≠ c) : (a :: l == c :: m) = false := by
  rw [beq_eq_false_iff_ne]; intro e; exact h (List.cons.inj e).1
theorem lineOf_star (r : List UInt8) : lineOfV ([42, 32] ++ r) =
    if (r == [115, 101, 97, 114, 99, 104]) = true then ⟨6, 0, 0, 0, 0, [], false⟩
    else if (cut1 r [32] == [115, 101, 97, 114, 99, 104]) = true then ⟨6, 0, 0, 0, 0, readSet (cut2 r [32]) 9999, false⟩
    else if (cut1 r [32] == [118, 97, 110, 105, 115, 104, 101, 100]) = true then ⟨4, 0, 0, 0, 0, readSet (cut2 r [32]) 9999, false⟩
    else if (cut1 r [32] == [118, 97, 108, 105, 100]) = true then validV (cut2 r [32])
    else numbV r := by
  obtain ⟨h1, h2⟩ := cutP_pre [42, 32] r
  have c1 : ([42, 32] ++ r == [111, 107]) = false := ne_head (by decide)
  have c2 : ([42, 32] ++ r == [98, 121, 101]) = false := ne_head (by decide)
  have c3 : ([110, 111, 32] : List UInt8).isPrefixOf ([42, 32] ++ r) = false := rfl
  rw [lineOfV, c1, c2, c3, h1, h2]
  rfl
theorem numb_cut {n : Int} (h : 0 ≤ n) (r : List UInt8) : cut1 (Lib.itoa n ++ (32 :: r)) [32] = Lib.itoa n ∧ cut2 (Lib.itoa n ++ (32 :: r)) [32] = r := cut_sp (s := []) (fig_no h)
theorem lineOf_numb {n : Int} (h : 0 ≤ n) (r : List UInt8) : lineOfV ([42, 32] ++ (Lib.itoa n ++ (32 :: r))) = numbV (Lib.itoa n ++ (32 :: r)) := by
  obtain ⟨k1, _⟩ := numb_cut h r
  rw [lineOf_star, k1, fig_ne h _ (by decide), fig_ne' h (by decide), fig_ne' h (by decide), fig_ne' h (by decide)]
  rfl
theorem back1 {n : Int} (h0 : 0 ≤ n) (h : n ≤ 1000000000) : lineOfV (tStar ++ (Lib.itoa n ++ tExists)) = ⟨1, n, 0, 0, 0, [], false⟩ := by
  have := lineOf_numb h0 [101, 120, 105, 115, 116, 115]
  obtain ⟨k1, k2⟩ := numb_cut h0 [101, 120, 105, 115, 116, 115]
  rw [show tStar = [42, 32] from rfl, show tExists = 32 :: [101, 120, 105, 115, 116, 115] from rfl, this, numbV, k1, k2, (dec_back h0 h).2]
  rfl
theorem back2 {n : Int} (h0 : 0 ≤ n) (h : n ≤ 1000000000) : lineOfV (tStar ++ (Lib.itoa n ++ tExpunge)) = ⟨2, n, 0, 0, 0, [], false⟩ := by
  have := lineOf_numb h0 [101, 120, 112, 117, 110, 103, 101]
  obtain ⟨k1, k2⟩ := numb_cut h0 [101, 120, 112, 117, 110, 103, 101]
  rw [show tStar = [42, 32] from rfl, show tExpunge = 32 :: [101, 120, 112, 117, 110, 103, 101] from rfl, this, numbV, k1, k2, (dec_back h0 h).2]
  rfl
theorem back3 {n u f m : Int} (hn : 0 ≤ n ∧ n ≤ 1000000000) (hu : 0 ≤ u ∧ u ≤ 1000000000) (hf : 0 ≤ f ∧ f ≤ 31) (hm : 0 ≤ m ∧ m ≤ 1000000000) :
    lineOfV (tStar ++ (Lib.itoa n ++ (tFetch ++ (Lib.itoa u ++ (tFlags ++ (flagsText f ++ (tMod ++ (Lib.itoa m ++ [41])))))))) = ⟨3, n, u, f, m, [], false⟩ := by
  have e : tFetch ++ (Lib.itoa u ++ (tFlags ++ (flagsText f ++ (tMod ++ (Lib.itoa m ++ [41]))))) = 32 :: ([102, 101, 116, 99, 104, 32, 40, 117, 105, 100, 32] ++ (Lib.itoa u ++ ([32, 102, 108, 97, 103, 115, 32] ++ (flagsText f ++ ([32, 109, 111, 100, 115, 101, 113, 32] ++ (Lib.itoa m ++ [41])))))) := rfl
  rw [e, show tStar = [42, 32] from rfl, lineOf_numb hn.1, numbV]
  obtain ⟨k1, k2⟩ := numb_cut hn.1 ([102, 101, 116, 99, 104, 32, 40, 117, 105, 100, 32] ++ (Lib.itoa u ++ ([32, 102, 108, 97, 103, 115, 32] ++ (flagsText f ++ ([32, 109, 111, 100, 115, 101, 113, 32] ++ (Lib.itoa m ++ [41]))))))
  obtain ⟨p1, p2⟩ := cutP_pre [102, 101, 116, 99, 104, 32, 40, 117, 105, 100, 32] (Lib.itoa u ++ ([32, 102, 108, 97, 103, 115, 32] ++ (flagsText f ++ ([32, 109, 111, 100, 115, 101, 113, 32] ++ (Lib.itoa m ++ [41])))))
  obtain ⟨u1, u2⟩ := cut_sp (d := Lib.itoa u) (s := [102, 108, 97, 103, 115, 32]) (r := flagsText f ++ ([32, 109, 111, 100, 115, 101, 113, 32] ++ (Lib.itoa m ++ [41]))) (fig_no hu.1)
  obtain ⟨f1, f2⟩ := cut_flags hf.1 hf.2 (Lib.itoa m ++ [41])
  have c1 : ([102, 101, 116, 99, 104, 32, 40, 117, 105, 100, 32] ++ (Lib.itoa u ++ ([32, 102, 108, 97, 103, 115, 32] ++ (flagsText f ++ ([32, 109, 111, 100, 115, 101, 113, 32] ++ (Lib.itoa m ++ [41]))))) == [101, 120, 105, 115, 116, 115]) = false := ne_head (by decide)
  have c2 : ([102, 101, 116, 99, 104, 32, 40, 117, 105, 100, 32] ++ (Lib.itoa u ++ ([32, 102, 108, 97, 103, 115, 32] ++ (flagsText f ++ ([32, 109, 111, 100, 115, 101, 113, 32] ++ (Lib.itoa m ++ [41]))))) == [101, 120, 112, 117, 110, 103, 101]) = false := rfl
  rw [k1, k2, c1, c2, p1, p2, u1, u2, f1, f2, (cutSuf_app (Lib.itoa m) [41]).2, (dec_back hn.1 hn.2).2, (dec_back hu.1 hu.2).2, (dec_back hm.1 hm.2).2, flags_read hf.1 hf.2]
  rfl
theorem back4 {S : List Range} (h : setOk S = true) (hne : S ≠ []) : lineOfV (tVanished ++ setText S) = ⟨4, 0, 0, 0, 0, S, false⟩ := by
  obtain ⟨k1, k2⟩ := cut_sp (d := [118, 97, 110, 105, 115, 104, 101, 100]) (s := []) (r := setText S) (by decide)
  rw [show tVanished ++ setText S = [42, 32] ++ ([118, 97, 110, 105, 115, 104, 101, 100] ++ ((32 :: []) ++ setText S)) from rfl, lineOf_star, k1, k2, (set_back h hne (by decide) (by decide)).2]
  have c1 : ([118, 97, 110, 105, 115, 104, 101, 100] ++ ((32 :: []) ++ setText S) == [115, 101, 97, 114, 99, 104]) = false := ne_head (by decide)
  rw [c1]
  rfl
theorem back5 {n m : Int} (hn : 0 ≤ n ∧ n ≤ 1000000000) (hm : 0 ≤ m ∧ m ≤ 1000000000) (a : Bool) : lineOfV (tValid ++ (Lib.itoa n ++ (tMod ++ (Lib.itoa m ++ (if a = true then tAll else []))))) = ⟨5, n, 0, 0, m, [], a⟩ := by
  have key : ∀ R : List UInt8, lineOfV (tValid ++ R) = validV R := by
    intro R
    obtain ⟨k1, k2⟩ := cut_sp (d := [118, 97, 108, 105, 100]) (s := []) (r := R) (by decide)
    have c1 : ([118, 97, 108, 105, 100] ++ ((32 :: []) ++ R) == [115, 101, 97, 114, 99, 104]) = false := ne_head (by decide)
    rw [show tValid ++ R = [42, 32] ++ ([118, 97, 108, 105, 100] ++ ((32 :: []) ++ R)) from rfl, lineOf_star, k1, k2, c1]
    rfl
  obtain ⟨u1, u2⟩ := cut_sp (d := Lib.itoa n) (s := [109, 111, 100, 115, 101, 113, 32]) (r := Lib.itoa m) (fig_no hn.1)
  rw [key]
  cases a with
  | true =>
    have e : Lib.itoa n ++ (tMod ++ (Lib.itoa m ++ (if true = true then tAll else []))) = (Lib.itoa n ++ ([32, 109, 111, 100, 115, 101, 113, 32] ++ Lib.itoa m)) ++ [32, 97, 108, 108] := by
      rw [if_pos rfl, List.append_assoc, List.append_assoc]; rfl
    obtain ⟨s1, s2⟩ := cutSuf_app (Lib.itoa n ++ ([32, 109, 111, 100, 115, 101, 113, 32] ++ Lib.itoa m)) [32, 97, 108, 108]
    rw [e, validV, s1, s2, u1, u2, (dec_back hn.1 hn.2).2, (dec_back hm.1 hm.2).2]
  | false =>
    have e : Lib.itoa n ++ (tMod ++ (Lib.itoa m ++ (if false = true then tAll else []))) = Lib.itoa n ++ ([32, 109, 111, 100, 115, 101, 113, 32] ++ Lib.itoa m) := by
      rw [if_neg (by decide), List.append_nil]; rfl
    have s1 : sufB (Lib.itoa n ++ ([32, 109, 111, 100, 115, 101, 113, 32] ++ Lib.itoa m)) [32, 97, 108, 108] = false := by
      rw [← List.append_assoc]; exact suf_fig hm.1 _
    have s2 : cutSuf (Lib.itoa n ++ ([32, 109, 111, 100, 115, 101, 113, 32] ++ Lib.itoa m)) [32, 97, 108, 108] = Lib.itoa n ++ ([32, 109, 111, 100, 115, 101, 113, 32] ++ Lib.itoa m) := by rw [cutSuf, if_neg (by rw [s1]; simp)]
    rw [e, validV, s1, s2, u1, u2, (dec_back hn.1 hn.2).2, (dec_back hm.1 hm.2).2]
theorem back6 {S : List Range} (h : setOk S = true) : lineOfV (if S = [] then tSearch else tSearch ++ (32 :: setText S)) = ⟨6, 0, 0, 0, 0, S, false⟩ := by
  by_cases hne : S = []
  · rw [if_pos hne, show tSearch = [42, 32] ++ [115, 101, 97, 114, 99, 104] from rfl, lineOf_star, hne]; rfl
  · obtain ⟨k1, k2⟩ := cut_sp (d := [115, 101, 97, 114, 99, 104]) (s := []) (r := setText S) (by decide)
    have c1 : ([115, 101, 97, 114, 99, 104] ++ ((32 :: []) ++ setText S) == [115, 101, 97, 114, 99, 104]) = false := rfl
    rw [if_neg hne, show tSearch ++ (32 :: setText S) = [42, 32] ++ ([115, 101, 97, 114, 99, 104] ++ ((32 :: []) ++ setText S)) from rfl, lineOf_star, k1, k2, c1, (set_back h hne (by decide) (by decide)).2]
    rfl
theorem back8 {n : Int} (h0 : 0 ≤ n) (h : n ≤ 1000000000) : lineOfV (tNo ++ Lib.itoa n) = ⟨8, n, 0, 0, 0, [], false⟩ := by
  obtain ⟨h1, h2⟩ := cutP_pre [110, 111, 32] (Lib.itoa n)
  have c1 : ([110, 111, 32] ++ Lib.itoa n == [111, 107]) = false := ne_head (by decide)
  have c2 : ([110, 111, 32] ++ Lib.itoa n == [98, 121, 101]) = false := ne_head (by decide)
  rw [show tNo = [110, 111, 32] from rfl, lineOfV, c1, c2, h1, h2, (dec_back h0 h).2]
  rfl
theorem line_kinds {x : Line} (h : lineOk x = true) :
    (∃ n, (0 ≤ n ∧ n ≤ 9999) ∧ x = ⟨1, n, 0, 0, 0, [], false⟩) ∨ (∃ n, (0 ≤ n ∧ n ≤ 9999) ∧ x = ⟨2, n, 0, 0, 0, [], false⟩) ∨
    (∃ n u f m, (0 ≤ n ∧ n ≤ 9999) ∧ (0 ≤ u ∧ u ≤ 9999) ∧ (0 ≤ f ∧ f ≤ 31) ∧ (0 ≤ m ∧ m ≤ 100000) ∧ x = ⟨3, n, u, f, m, [], false⟩) ∨
    (∃ S, setOk S = true ∧ S ≠ [] ∧ x = ⟨4, 0, 0, 0, 0, S, false⟩) ∨ (∃ n m a, (0 ≤ n ∧ n ≤ 9999) ∧ (0 ≤ m ∧ m ≤ 100000) ∧ x = ⟨5, n, 0, 0, m, [], a⟩) ∨
    (∃ S, setOk S = true ∧ x = ⟨6, 0, 0, 0, 0, S, false⟩) ∨ x = ⟨7, 0, 0, 0, 0, [], false⟩ ∨ (∃ n, (0 ≤ n ∧ n ≤ 9999) ∧ x = ⟨8, n, 0, 0, 0, [], false⟩) ∨ x = ⟨9, 0, 0, 0, 0, [], false⟩ := by
  obtain ⟨K, N, U, F, M, S, A⟩ := x
  unfold lineOk at h
  simp only at h
  split at h
  · rename_i hk; subst hk
    simp only [within, Bool.and_eq_true, decide_eq_true_eq, beq_iff_eq, List.isEmpty_iff, Bool.not_eq_true'] at h
    obtain ⟨⟨a1, a2⟩, ⟨⟨⟨a3, a4⟩, a5⟩, a6⟩, a7⟩ := h
    subst a3 a4 a5 a6 a7
    exact .inl ⟨N, ⟨a1, by omega⟩, rfl⟩
  split at h
  · rename_i hk; subst hk
    simp only [within, Bool.and_eq_true, decide_eq_true_eq, beq_iff_eq, List.isEmpty_iff, Bool.not_eq_true'] at h
    obtain ⟨⟨a1, a2⟩, ⟨⟨⟨a3, a4⟩, a5⟩, a6⟩, a7⟩ := h
    subst a3 a4 a5 a6 a7
    exact .inr (.inl ⟨N, ⟨by omega, by omega⟩, rfl⟩)
  split at h
  · rename_i hk; subst hk
    simp only [within, flagsOk, Bool.and_eq_true, decide_eq_true_eq, beq_iff_eq, List.isEmpty_iff, Bool.not_eq_true'] at h
    obtain ⟨⟨⟨⟨⟨a1, a2⟩, a3, a4⟩, a5, a6⟩, a7, a8⟩, a9, b1⟩ := h
    subst a9 b1
    exact .inr (.inr (.inl ⟨N, U, F, M, ⟨by omega, by omega⟩, ⟨by omega, by omega⟩, ⟨by omega, by omega⟩, ⟨by omega, by omega⟩, rfl⟩))
  split at h
  · rename_i hk; subst hk
    simp only [Bool.and_eq_true, beq_iff_eq, Bool.not_eq_true'] at h
    obtain ⟨⟨a1, a2⟩, ⟨⟨⟨a3, a4⟩, a5⟩, a6⟩, a7⟩ := h
    subst a3 a4 a5 a6 a7
    exact .inr (.inr (.inr (.inl ⟨S, a1, (fun e => by subst e; cases a2), rfl⟩)))
  split at h
  · rename_i hk; subst hk
    simp only [within, Bool.and_eq_true, decide_eq_true_eq, beq_iff_eq, List.isEmpty_iff] at h
    obtain ⟨⟨⟨a1, a2⟩, a3, a4⟩, ⟨a5, a6⟩, a7⟩ := h
    subst a5 a6 a7
    exact .inr (.inr (.inr (.inr (.inl ⟨N, M, A, ⟨by omega, by omega⟩, ⟨by omega, by omega⟩, rfl⟩))))
  split at h
  · rename_i hk; subst hk
    simp only [Bool.and_eq_true, beq_iff_eq, Bool.not_eq_true'] at h
    obtain ⟨a1, ⟨⟨⟨a3, a4⟩, a5⟩, a6⟩, a7⟩ := h
    subst a3 a4 a5 a6 a7
    exact .inr (.inr (.inr (.inr (.inr (.inl ⟨S, a1, rfl⟩)))))
  split at h
  · rename_i hk; subst hk
    simp only [within, Bool.and_eq_true, decide_eq_true_eq, beq_iff_eq, List.isEmpty_iff, Bool.not_eq_true'] at h
    obtain ⟨⟨a1, a2⟩, ⟨⟨⟨a3, a4⟩, a5⟩, a6⟩, a7⟩ := h
    subst a3 a4 a5 a6 a7
    exact .inr (.inr (.inr (.inr (.inr (.inr (.inr (.inl ⟨N, ⟨by omega, by omega⟩, rfl⟩)))))))
  split at h
  · rename_i hk
    simp only [Bool.and_eq_true, beq_iff_eq, List.isEmpty_iff, Bool.not_eq_true'] at h
    obtain ⟨⟨⟨⟨⟨a2, a3⟩, a4⟩, a5⟩, a6⟩, a7⟩ := h
    subst a2 a3 a4 a5 a6 a7
    rcases hk with rfl | rfl
    · exact .inr (.inr (.inr (.inr (.inr (.inr (.inl rfl))))))
    · exact .inr (.inr (.inr (.inr (.inr (.inr (.inr (.inr rfl)))))))
  · cases h
theorem line_back {x : Line} (h : lineOk x = true) : lineOfV (lineText x) = x := by
  have hx := line_kinds h
  rw [lineText, if_pos h]
  rcases hx with ⟨n, hn, rfl⟩ | ⟨n, hn, rfl⟩ | ⟨n, u, f, m, hn, hu, hf, hm, rfl⟩ | ⟨S, hS, hne, rfl⟩ | ⟨n, m, a, hn, hm, rfl⟩ | ⟨S, hS, rfl⟩ | rfl | ⟨n, hn, rfl⟩ | rfl
  · exact back1 hn.1 (Int.le_trans hn.2 (by decide))
  · exact back2 hn.1 (Int.le_trans hn.2 (by decide))
  · exact back3 ⟨hn.1, Int.le_trans hn.2 (by decide)⟩ ⟨hu.1, Int.le_trans hu.2 (by decide)⟩ hf ⟨hm.1, Int.le_trans hm.2 (by decide)⟩
  · exact back4 hS hne
  · exact back5 ⟨hn.1, Int.le_trans hn.2 (by decide)⟩ ⟨hm.1, Int.le_trans hm.2 (by decide)⟩ a
  · exact back6 hS
  · rfl
  · exact back8 hn.1 (Int.le_trans hn.2 (by decide))
  · rfl
end Go.Proofs.YtnbkmmjnpbfhnaaGreatDoor.L

