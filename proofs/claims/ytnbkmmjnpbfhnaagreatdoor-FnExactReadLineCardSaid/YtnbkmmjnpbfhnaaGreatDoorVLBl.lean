/- A line's text is read: the program and the reference read the same. -/
import Derived.Test.YtnbkmmjnpbfhnaaGreatDoorVLBk
namespace Go.Proofs.YtnbkmmjnpbfhnaaGreatDoor.L
open Go Go.VM
set_option maxRecDepth 100000
set_option maxHeartbeats 4000000
set_option linter.unusedSimpArgs false
set_option linter.unusedVariables false
theorem star_ne (r : List UInt8) : (42 :: r == [111, 107]) = false ∧ (42 :: r == [98, 121, 101]) = false := ⟨ne_head (by decide), ne_head (by decide)⟩
theorem gback1 {n : Int} (h0 : 0 ≤ n) (h : n ≤ 1000000000) : guessW (tStar ++ (Lib.itoa n ++ tExists)) (splitOn 32 (tStar ++ (Lib.itoa n ++ tExists))) = ⟨1, n, 0, 0, 0, [], false⟩ := by
  have w : splitOn 32 (tStar ++ (Lib.itoa n ++ tExists)) = [[42], Lib.itoa n, [101, 120, 105, 115, 116, 115]] := by
    rw [show tStar ++ (Lib.itoa n ++ tExists) = [42] ++ 32 :: (Lib.itoa n ++ 32 :: [101, 120, 105, 115, 116, 115]) from rfl, split_no (by decide), split_no (fig_no h0), splitOn_none (by decide)]
  obtain ⟨c1, c2⟩ := star_ne (32 :: (Lib.itoa n ++ tExists))
  rw [w, guessW, show tStar ++ (Lib.itoa n ++ tExists) = 42 :: (32 :: (Lib.itoa n ++ tExists)) from rfl, c1, c2]
  show (⟨1, decN (Lib.itoa n), 0, 0, 0, [], false⟩ : Line) = _
  rw [(dec_back h0 h).2]
theorem gback2 {n : Int} (h0 : 0 ≤ n) (h : n ≤ 1000000000) : guessW (tStar ++ (Lib.itoa n ++ tExpunge)) (splitOn 32 (tStar ++ (Lib.itoa n ++ tExpunge))) = ⟨2, n, 0, 0, 0, [], false⟩ := by
  have w : splitOn 32 (tStar ++ (Lib.itoa n ++ tExpunge)) = [[42], Lib.itoa n, [101, 120, 112, 117, 110, 103, 101]] := by
    rw [show tStar ++ (Lib.itoa n ++ tExpunge) = [42] ++ 32 :: (Lib.itoa n ++ 32 :: [101, 120, 112, 117, 110, 103, 101]) from rfl, split_no (by decide), split_no (fig_no h0), splitOn_none (by decide)]
  obtain ⟨c1, c2⟩ := star_ne (32 :: (Lib.itoa n ++ tExpunge))
  rw [w, guessW, show tStar ++ (Lib.itoa n ++ tExpunge) = 42 :: (32 :: (Lib.itoa n ++ tExpunge)) from rfl, c1, c2]
  show (⟨2, decN (Lib.itoa n), 0, 0, 0, [], false⟩ : Line) = _
  rw [(dec_back h0 h).2]
theorem gback8 {n : Int} (h0 : 0 ≤ n) (h : n ≤ 1000000000) : guessW (tNo ++ Lib.itoa n) (splitOn 32 (tNo ++ Lib.itoa n)) = ⟨8, n, 0, 0, 0, [], false⟩ := by
  have w : splitOn 32 (tNo ++ Lib.itoa n) = [[110, 111], Lib.itoa n] := by
    rw [show tNo ++ Lib.itoa n = [110, 111] ++ 32 :: Lib.itoa n from rfl, split_no (by decide), splitOn_none (fig_no h0)]
  have c1 : (tNo ++ Lib.itoa n == [111, 107]) = false := ne_head (by decide)
  have c2 : (tNo ++ Lib.itoa n == [98, 121, 101]) = false := ne_head (by decide)
  rw [w, guessW, c1, c2]
  show (⟨8, decN (Lib.itoa n), 0, 0, 0, [], false⟩ : Line) = _
  rw [(dec_back h0 h).2]
theorem gback4 {S : List Range} (h : setOk S = true) (hne : S ≠ []) : guessW (tVanished ++ setText S) (splitOn 32 (tVanished ++ setText S)) = ⟨4, 0, 0, 0, 0, S, false⟩ := by
  have w : splitOn 32 (tVanished ++ setText S) = [[42], [118, 97, 110, 105, 115, 104, 101, 100], setText S] := by
    rw [show tVanished ++ setText S = [42] ++ 32 :: ([118, 97, 110, 105, 115, 104, 101, 100] ++ 32 :: setText S) from rfl, split_no (by decide), split_no (by decide), splitOn_none (set_no S)]
  obtain ⟨c1, c2⟩ := star_ne (32 :: ([118, 97, 110, 105, 115, 104, 101, 100] ++ 32 :: setText S))
  have e1 : (([[42], [118, 97, 110, 105, 115, 104, 101, 100], setText S] : List (List UInt8)).getD 2 [] == [101, 120, 105, 115, 116, 115]) = false := set_ne S (by decide)
  have e2 : (([[42], [118, 97, 110, 105, 115, 104, 101, 100], setText S] : List (List UInt8)).getD 2 [] == [101, 120, 112, 117, 110, 103, 101]) = false := set_ne S (by decide)
  rw [w, guessW, show tVanished ++ setText S = 42 :: (32 :: ([118, 97, 110, 105, 115, 104, 101, 100] ++ 32 :: setText S)) from rfl, c1, c2, e1, e2]
  show (⟨4, 0, 0, 0, 0, readSet (setText S) 1, false⟩ : Line) = _
  rw [(set_back h hne (by decide) (by decide)).2]
theorem gback6 {S : List Range} (h : setOk S = true) (hne : S ≠ []) : guessW (tSearch ++ (32 :: setText S)) (splitOn 32 (tSearch ++ (32 :: setText S))) = ⟨6, 0, 0, 0, 0, S, false⟩ := by
  have w : splitOn 32 (tSearch ++ (32 :: setText S)) = [[42], [115, 101, 97, 114, 99, 104], setText S] := by
    rw [show tSearch ++ (32 :: setText S) = [42] ++ 32 :: ([115, 101, 97, 114, 99, 104] ++ 32 :: setText S) from rfl, split_no (by decide), split_no (by decide), splitOn_none (set_no S)]
  obtain ⟨c1, c2⟩ := star_ne (32 :: ([115, 101, 97, 114, 99, 104] ++ 32 :: setText S))
  have e1 : (([[42], [115, 101, 97, 114, 99, 104], setText S] : List (List UInt8)).getD 2 [] == [101, 120, 105, 115, 116, 115]) = false := set_ne S (by decide)
  have e2 : (([[42], [115, 101, 97, 114, 99, 104], setText S] : List (List UInt8)).getD 2 [] == [101, 120, 112, 117, 110, 103, 101]) = false := set_ne S (by decide)
  rw [w, guessW, show tSearch ++ (32 :: setText S) = 42 :: (32 :: ([115, 101, 97, 114, 99, 104] ++ 32 :: setText S)) from rfl, c1, c2, e1, e2]
  show (⟨6, 0, 0, 0, 0, readSet (setText S) 1, false⟩ : Line) = _
  rw [(set_back h hne (by decide) (by decide)).2]
theorem gback5 {n m : Int} (hn : 0 ≤ n ∧ n ≤ 1000000000) (hm : 0 ≤ m ∧ m ≤ 1000000000) (a : Bool) : guessW (tValid ++ (Lib.itoa n ++ (tMod ++ (Lib.itoa m ++ (if a = true then tAll else []))))) (splitOn 32 (tValid ++ (Lib.itoa n ++ (tMod ++ (Lib.itoa m ++ (if a = true then tAll else [])))))) = ⟨5, n, 0, 0, m, [], a⟩ := by
  cases a with
  | true =>
    have e0 : tValid ++ (Lib.itoa n ++ (tMod ++ (Lib.itoa m ++ (if true = true then tAll else [])))) = [42] ++ 32 :: ([118, 97, 108, 105, 100] ++ 32 :: (Lib.itoa n ++ 32 :: ([109, 111, 100, 115, 101, 113] ++ 32 :: (Lib.itoa m ++ 32 :: [97, 108, 108])))) := rfl
    have w : splitOn 32 ([42] ++ 32 :: ([118, 97, 108, 105, 100] ++ 32 :: (Lib.itoa n ++ 32 :: ([109, 111, 100, 115, 101, 113] ++ 32 :: (Lib.itoa m ++ 32 :: [97, 108, 108]))))) = [[42], [118, 97, 108, 105, 100], Lib.itoa n, [109, 111, 100, 115, 101, 113], Lib.itoa m, [97, 108, 108]] := by
      rw [split_no (by decide), split_no (by decide), split_no (fig_no hn.1), split_no (by decide), split_no (fig_no hm.1), splitOn_none (by decide)]
    obtain ⟨c1, c2⟩ := star_ne (32 :: ([118, 97, 108, 105, 100] ++ 32 :: (Lib.itoa n ++ 32 :: ([109, 111, 100, 115, 101, 113] ++ 32 :: (Lib.itoa m ++ 32 :: [97, 108, 108])))))
    rw [e0, w, guessW, show [42] ++ 32 :: ([118, 97, 108, 105, 100] ++ 32 :: (Lib.itoa n ++ 32 :: ([109, 111, 100, 115, 101, 113] ++ 32 :: (Lib.itoa m ++ 32 :: [97, 108, 108])))) = 42 :: (32 :: ([118, 97, 108, 105, 100] ++ 32 :: (Lib.itoa n ++ 32 :: ([109, 111, 100, 115, 101, 113] ++ 32 :: (Lib.itoa m ++ 32 :: [97, 108, 108]))))) from rfl, c1, c2]
    show (⟨5, decN (Lib.itoa n), 0, 0, decN (Lib.itoa m), [], true⟩ : Line) = _
    rw [(dec_back hn.1 hn.2).2, (dec_back hm.1 hm.2).2]
  | false =>
    have e0 : tValid ++ (Lib.itoa n ++ (tMod ++ (Lib.itoa m ++ (if false = true then tAll else [])))) = [42] ++ 32 :: ([118, 97, 108, 105, 100] ++ 32 :: (Lib.itoa n ++ 32 :: ([109, 111, 100, 115, 101, 113] ++ 32 :: Lib.itoa m))) := by
      rw [if_neg (by decide), List.append_nil]; rfl
    have w : splitOn 32 ([42] ++ 32 :: ([118, 97, 108, 105, 100] ++ 32 :: (Lib.itoa n ++ 32 :: ([109, 111, 100, 115, 101, 113] ++ 32 :: Lib.itoa m)))) = [[42], [118, 97, 108, 105, 100], Lib.itoa n, [109, 111, 100, 115, 101, 113], Lib.itoa m] := by
      rw [split_no (by decide), split_no (by decide), split_no (fig_no hn.1), split_no (by decide), splitOn_none (fig_no hm.1)]
    obtain ⟨c1, c2⟩ := star_ne (32 :: ([118, 97, 108, 105, 100] ++ 32 :: (Lib.itoa n ++ 32 :: ([109, 111, 100, 115, 101, 113] ++ 32 :: Lib.itoa m))))
    rw [e0, w, guessW, show [42] ++ 32 :: ([118, 97, 108, 105, 100] ++ 32 :: (Lib.itoa n ++ 32 :: ([109, 111, 100, 115, 101, 113] ++ 32 :: Lib.itoa m))) = 42 :: (32 :: ([118, 97, 108, 105, 100] ++ 32 :: (Lib.itoa n ++ 32 :: ([109, 111, 100, 115, 101, 113] ++ 32 :: Lib.itoa m)))) from rfl, c1, c2]
    show (⟨5, decN (Lib.itoa n), 0, 0, decN (Lib.itoa m), [], false⟩ : Line) = _
    rw [(dec_back hn.1 hn.2).2, (dec_back hm.1 hm.2).2]
theorem gback3 {n u f m : Int} (hn : 0 ≤ n ∧ n ≤ 1000000000) (hu : 0 ≤ u ∧ u ≤ 1000000000) (hf : 0 ≤ f ∧ f ≤ 31) (hm : 0 ≤ m ∧ m ≤ 1000000000) :
    guessW (tStar ++ (Lib.itoa n ++ (tFetch ++ (Lib.itoa u ++ (tFlags ++ (flagsText f ++ (tMod ++ (Lib.itoa m ++ [41])))))))) (splitOn 32 (tStar ++ (Lib.itoa n ++ (tFetch ++ (Lib.itoa u ++ (tFlags ++ (flagsText f ++ (tMod ++ (Lib.itoa m ++ [41]))))))))) = ⟨3, n, u, f, m, [], false⟩ := by
  have e0 : tStar ++ (Lib.itoa n ++ (tFetch ++ (Lib.itoa u ++ (tFlags ++ (flagsText f ++ (tMod ++ (Lib.itoa m ++ [41]))))))) = [42] ++ 32 :: (Lib.itoa n ++ 32 :: ([102, 101, 116, 99, 104] ++ 32 :: ([40, 117, 105, 100] ++ 32 :: (Lib.itoa u ++ 32 :: ([102, 108, 97, 103, 115] ++ 32 :: (flagsText f ++ 32 :: ([109, 111, 100, 115, 101, 113] ++ 32 :: (Lib.itoa m ++ [41])))))))) := rfl
  obtain ⟨p, P, hP, hj⟩ := join_words (flagsText f)
  have hm41 : ∀ x ∈ Lib.itoa m ++ [41], notB 32 x = true := fun x hx => by
    rcases List.mem_append.1 hx with h | h
    · exact fig_no hm.1 x h
    · simp only [List.mem_singleton] at h; subst h; decide
  obtain ⟨W, hW⟩ : ∃ W, W = ([42] : List UInt8) :: Lib.itoa n :: [102, 101, 116, 99, 104] :: [40, 117, 105, 100] :: Lib.itoa u :: [102, 108, 97, 103, 115] :: p :: (P ++ [[109, 111, 100, 115, 101, 113], Lib.itoa m ++ [41]]) := ⟨_, rfl⟩
  have w : splitOn 32 ([42] ++ 32 :: (Lib.itoa n ++ 32 :: ([102, 101, 116, 99, 104] ++ 32 :: ([40, 117, 105, 100] ++ 32 :: (Lib.itoa u ++ 32 :: ([102, 108, 97, 103, 115] ++ 32 :: (flagsText f ++ 32 :: ([109, 111, 100, 115, 101, 113] ++ 32 :: (Lib.itoa m ++ [41]))))))))) = W := by
    rw [split_no (by decide), split_no (fig_no hn.1), split_no (by decide), split_no (by decide), split_no (fig_no hu.1), split_no (by decide), split_sp (flagsText f), hP, split_no (by decide), splitOn_none hm41, hW]; rfl
  obtain ⟨c1, c2⟩ := star_ne (32 :: (Lib.itoa n ++ 32 :: ([102, 101, 116, 99, 104] ++ 32 :: ([40, 117, 105, 100] ++ 32 :: (Lib.itoa u ++ 32 :: ([102, 108, 97, 103, 115] ++ 32 :: (flagsText f ++ 32 :: ([109, 111, 100, 115, 101, 113] ++ 32 :: (Lib.itoa m ++ [41])))))))))
  have hl : W.length = P.length + 9 := by rw [hW]; simp
  have w1 : W.getD 1 [] = Lib.itoa n := by rw [hW]; rfl
  have w2 : W.getD 2 [] = [102, 101, 116, 99, 104] := by rw [hW]; rfl
  have w4 : W.getD 4 [] = Lib.itoa u := by rw [hW]; rfl
  have w6 : W.getD 6 [] = p := by rw [hW]; rfl
  have wd : W.drop 7 = P ++ [[109, 111, 100, 115, 101, 113], Lib.itoa m ++ [41]] := by rw [hW]; rfl
  have wl : lastW W = Lib.itoa m ++ [41] := by
    rw [lastW, hl, List.getD_eq_getElem?_getD, show P.length + 9 - 1 = 7 + (P.length + 1) by omega, ← List.getElem?_drop, wd, List.getElem?_append_right (by omega), show P.length + 1 - P.length = 1 by omega]; rfl
  have wf : flagsW W = flagsText f := by
    rw [flagsW, w6, wd, hl, show P.length + 9 - 9 = P.length by omega, List.take_left, hj]
  have ml := List.length_pos_iff.2 (itoa_ne hm.1)
  have wlen : 1 < (lastW W).length := by rw [wl, List.length_append, List.length_singleton]; omega
  have wt : (lastW W).take ((lastW W).length - 1) = Lib.itoa m := by rw [wl, List.length_append, List.length_singleton, Nat.add_sub_cancel, List.take_left]
  rw [e0, w, guessW, show [42] ++ 32 :: (Lib.itoa n ++ 32 :: ([102, 101, 116, 99, 104] ++ 32 :: ([40, 117, 105, 100] ++ 32 :: (Lib.itoa u ++ 32 :: ([102, 108, 97, 103, 115] ++ 32 :: (flagsText f ++ 32 :: ([109, 111, 100, 115, 101, 113] ++ 32 :: (Lib.itoa m ++ [41])))))))) = 42 :: (32 :: (Lib.itoa n ++ 32 :: ([102, 101, 116, 99, 104] ++ 32 :: ([40, 117, 105, 100] ++ 32 :: (Lib.itoa u ++ 32 :: ([102, 108, 97, 103, 115] ++ 32 :: (flagsText f ++ 32 :: ([109, 111, 100, 115, 101, 113] ++ 32 :: (Lib.itoa m ++ [41]))))))))) from rfl, c1, c2,
    w1, w2, w4, wf, wt, if_pos wlen, fig_ne' hn.1 (by decide), fig_ne' hn.1 (by decide), fig_ne' hn.1 (by decide),
    if_neg (by simp), if_neg (by simp), if_neg (fun h => by have := h.1; omega), if_neg (fun h => by have := h.1; omega), if_neg (fun h => by have := h.1; omega), if_neg (by simp), if_neg (by simp), if_neg (by simp), if_pos ⟨by omega, rfl⟩,
    (dec_back hn.1 hn.2).2, (dec_back hu.1 hu.2).2, (dec_back hm.1 hm.2).2, flags_read hf.1 hf.2]
theorem guess_back {x : Line} (h : lineOk x = true) : guessW (lineText x) (splitOn 32 (lineText x)) = x := by
  have hx := line_kinds h
  rw [lineText, if_pos h]
  rcases hx with ⟨n, hn, rfl⟩ | ⟨n, hn, rfl⟩ | ⟨n, u, f, m, hn, hu, hf, hm, rfl⟩ | ⟨S, hS, hne, rfl⟩ | ⟨n, m, a, hn, hm, rfl⟩ | ⟨S, hS, rfl⟩ | rfl | ⟨n, hn, rfl⟩ | rfl
  · exact gback1 hn.1 (Int.le_trans hn.2 (by decide))
  · exact gback2 hn.1 (Int.le_trans hn.2 (by decide))
  · exact gback3 ⟨hn.1, Int.le_trans hn.2 (by decide)⟩ ⟨hu.1, Int.le_trans hu.2 (by decide)⟩ hf ⟨hm.1, Int.le_trans hm.2 (by decide)⟩
  · exact gback4 hS hne
  · exact gback5 ⟨hn.1, Int.le_trans hn.2 (by decide)⟩ ⟨hm.1, Int.le_trans hm.2 (by decide)⟩ a
  · by_cases hne : S = []
    · subst hne; rfl
    · show guessW (if S = [] then tSearch else tSearch ++ (32 :: setText S)) (splitOn 32 (if S = [] then tSearch else tSearch ++ (32 :: setText S))) = _
      rw [if_neg hne]
      exact gback6 hS hne
  · rfl
  · exact gback8 hn.1 (Int.le_trans hn.2 (by decide))
  · rfl
theorem tell_same (t : List UInt8) : tellV (guessW t (splitOn 32 t)) t = tellV (lineOfV t) t := by
  by_cases h1 : lineOk (lineOfV t) = true ∧ (lineText (lineOfV t) == t) = true
  · have e := guess_back h1.1
    rw [eq_of_beq h1.2] at e
    rw [e]
  · by_cases h2 : lineOk (guessW t (splitOn 32 t)) = true ∧ (lineText (guessW t (splitOn 32 t)) == t) = true
    · have e := line_back h2.1
      rw [eq_of_beq h2.2] at e
      rw [e]
    · rw [tellV, if_neg h2, tellV, if_neg h1]
open Classical in
noncomputable def spReadLineS : VM.Spec := { modes := [.rd], run := fun | [.str t] => if t.length ≤ 4194304 then some (.tup [Line.enc ((tellV (lineOfV t) t).1), .bool ((tellV (lineOfV t) t).2)], []) else none | _ => none, need := ["internal/bytealg.MaxLen", "internal/strconv.uint64pow10"] }
attribute [go_sem] spReadLineS
theorem spReadLineS_in {ins : List V} {r : V} {outs : List V} (h : spReadLineS.run ins = some (r, outs)) : ∃ (t : (List UInt8)), ins = [.str t] ∧ (t.length ≤ 4194304) ∧ .tup [Line.enc ((tellV (lineOfV t) t).1), .bool ((tellV (lineOfV t) t).2)] = r ∧ outs = [] := by
  unfold spReadLineS at h
  simp only at h
  split at h
  · rename_i t
    split at h
    case isFalse => cases h
    rename_i hc
    simp only [Option.some.injEq, Prod.mk.injEq] at h
    obtain ⟨h1, h2⟩ := h
    exact ⟨t, rfl, hc, h1, h2.symm⟩
  · cases h
def T_spec_ReadLine : Hints := ⟨lk [], lk [], lk [(0, [0, 2]), (1, [0, 2, 4]), (2, [0, 2, 4, 5, 6]), (3, [2, 4, 20]), (4, [2, 3]), (5, [2, 3])], lk []⟩
noncomputable def Phi_spec_ReadLine : Tab := lk [(9, spGuess), (10, spLineText)]
attribute [go_sem] T_spec_ReadLine Phi_spec_ReadLine
theorem phi_spec_ReadLine : ∀ f sp, Phi_spec_ReadLine f = some sp → FnOk Tryz.prog f sp ∧ ∀ n ∈ sp.need, n ∈ (["internal/bytealg.MaxLen", "internal/strconv.uint64pow10"] : List String) := phi_cons ok_spec_l13Guess (fun n (h : n ∈ (["internal/bytealg.MaxLen"] : List String)) => by simp only [List.mem_cons, List.not_mem_nil, or_false] at h; rcases h with rfl <;> simp) (phi_cons ok_spec_LineText (fun n (h : n ∈ (["internal/strconv.uint64pow10"] : List String)) => by simp only [List.mem_cons, List.not_mem_nil, or_false] at h; rcases h with rfl <;> simp) (phi_nil))
theorem ok_spec_ReadLine : FnOk Tryz.prog 4 spReadLineS := by
  refine fn_ok (Φ := Phi_spec_ReadLine) (T := T_spec_ReadLine) phi_spec_ReadLine mixed Tryz.func4 rfl rfl rfl (by decide) ?_
  intro ins r outs hr hl
  clear hl
  have hs := spReadLineS_in hr
  clear hr
  obtain ⟨t, rfl, hc, hr, rfl⟩ := hs
  simp only [spReadLineS, Tryz.f4, Go.VM.initS]
  have hx := guessW_le t (splitOn 32 t)
  rw [← tell_same t] at hr
  cases c1 : lineOk (guessW t (splitOn 32 t)) with
  | false =>
    have e : tellV (guessW t (splitOn 32 t)) t = (lineNil, false) := by rw [tellV, if_neg (by rw [c1]; simp)]
    rw [e] at hr
    simp only [hc, hx, c1, go_sem]
    repeat' ((first | apply qa | apply qb | apply qc | apply qd | apply qe | apply qf | apply qg | apply qh | apply qi | apply qj | apply qk) <;> intro hp <;> simp only [hp, hc, hx, c1, go_sem])
    simp only [fin_mk, finV, resL, resV1, resIn, endA, listIn, Option.some_or, Option.none_or, oneOrTup, go_sem]
    rw [← hr]
    rfl
  | true =>
  cases c2 : (lineText (guessW t (splitOn 32 t)) == t) with
  | false =>
    have c2' : (lineText (guessW t (splitOn 32 t)) != t) = true := by rw [bne, c2]; rfl
    have e : tellV (guessW t (splitOn 32 t)) t = (lineNil, false) := by rw [tellV, if_neg (by rw [c2]; simp)]
    rw [e] at hr
    simp only [hc, hx, c1, c2', go_sem]
    repeat' ((first | apply qa | apply qb | apply qc | apply qd | apply qe | apply qf | apply qg | apply qh | apply qi | apply qj | apply qk) <;> intro hp <;> simp only [hp, hc, hx, c1, c2', go_sem])
    simp only [fin_mk, finV, resL, resV1, resIn, endA, listIn, Option.some_or, Option.none_or, oneOrTup, go_sem]
    rw [← hr]
    rfl
  | true =>
    have c2' : (lineText (guessW t (splitOn 32 t)) != t) = false := by rw [bne, c2]; rfl
    have e : tellV (guessW t (splitOn 32 t)) t = (guessW t (splitOn 32 t), true) := by rw [tellV, if_pos ⟨c1, c2⟩]
    rw [e] at hr
    simp only [hc, hx, c1, c2', go_sem]
    repeat' ((first | apply qa | apply qb | apply qc | apply qd | apply qe | apply qf | apply qg | apply qh | apply qi | apply qj | apply qk) <;> intro hp <;> simp only [hp, hc, hx, c1, c2', go_sem])
    simp only [fin_mk, finV, resL, resV1, resIn, endA, listIn, Option.some_or, Option.none_or, oneOrTup, go_sem]
    rw [← hr]
    try rfl
theorem tellV_le (t : List UInt8) : (tellV (lineOfV t) t).1.le 4194304 := by
  unfold tellV
  split
  · exact lineOfV_le t
  · exact line_le _ _ _ _ _ _ _ (Nat.zero_le _)
end Go.Proofs.YtnbkmmjnpbfhnaaGreatDoor.L
