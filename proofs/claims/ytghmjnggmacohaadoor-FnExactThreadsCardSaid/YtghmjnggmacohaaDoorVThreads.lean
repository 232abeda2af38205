/- The law FnExactThreads: the two functions that it calls answer alike, so it answers true. No condition. -/
import Derived.Test.YtghmjnggmacohaaDoorVLB
import Derived.Test.YtghmjnggmacohaaDoorVLTh2
import Derived.Test.YtghmjnggmacohaaDoorVLTh3
import Derived.Test.YtghmjnggmacohaaDoorVmDoor
import Derived.Test.YtghmjnggmacohaaDoorTie
import Derived.Test.YtghmjnggmacohaaDoorCards
import Derived.Test.YtghmjnggmacohaaDoorRows
import Derived.KernelRfl
namespace Go.Proofs.YtghmjnggmacohaaDoor.VThreads
open Go Go.VM Go.Proofs.YtghmjnggmacohaaDoor.L
set_option maxRecDepth 100000
set_option maxHeartbeats 4000000
set_option linter.unusedSimpArgs false
set_option linter.unusedVariables false
theorem wf_Mail {n : Nat} {v : V} (h : WfV Tryd.prog (n + 2) 71 v) : ∃ x : Mail, v = x.enc ∧ x.le 4611686018427387904 := by
  obtain ⟨l, rfl, hl, hf⟩ := wf_fields Tryd.underlying71 h
  match l, hl with
  | [f0, f1, f2, f3], _ =>
    obtain ⟨f0, rfl, _⟩ := wf_int Tryd.underlying3 (hf 0 _ f0 rfl rfl)
    obtain ⟨f1, rfl, _⟩ := wf_int Tryd.underlying3 (hf 1 _ f1 rfl rfl)
    obtain ⟨f2, rfl, _⟩ := wf_int Tryd.underlying3 (hf 2 _ f2 rfl rfl)
    obtain ⟨f3, rfl, c3⟩ := wf_string Tryd.underlying9 (hf 3 _ f3 rfl rfl)
    have c3 : f3.length ≤ 4611686018427387904 := by unfold reachBytes at c3; omega
    exact ⟨⟨f0, f1, f2, f3⟩, by simp [Mail.enc], c3⟩
theorem wf_Tomb {n : Nat} {v : V} (h : WfV Tryd.prog (n + 2) 83 v) : ∃ x : Tomb, v = x.enc ∧ x.le 4611686018427387904 := by
  obtain ⟨l, rfl, hl, hf⟩ := wf_fields Tryd.underlying83 h
  match l, hl with
  | [f0, f1], _ =>
    obtain ⟨f0, rfl, _⟩ := wf_int Tryd.underlying3 (hf 0 _ f0 rfl rfl)
    obtain ⟨f1, rfl, _⟩ := wf_int Tryd.underlying3 (hf 1 _ f1 rfl rfl)
    exact ⟨⟨f0, f1⟩, by simp [Tomb.enc], trivial⟩
theorem wf_Box {n : Nat} {v : V} (h : WfV Tryd.prog (n + 4) 25 v) : ∃ x : Box, v = x.enc ∧ x.le 4611686018427387904 := by
  obtain ⟨l, rfl, hl, hf⟩ := wf_fields Tryd.underlying25 h
  match l, hl with
  | [f0, f1, f2, f3, f4, f5, f6], _ =>
    obtain ⟨f0, rfl, c0⟩ := wf_string Tryd.underlying9 (hf 0 _ f0 rfl rfl)
    have c0 : f0.length ≤ 4611686018427387904 := by unfold reachBytes at c0; omega
    obtain ⟨f1, rfl, _⟩ := wf_int Tryd.underlying3 (hf 1 _ f1 rfl rfl)
    obtain ⟨f2, rfl, _⟩ := wf_int Tryd.underlying3 (hf 2 _ f2 rfl rfl)
    obtain ⟨f3, rfl, _⟩ := wf_int Tryd.underlying3 (hf 3 _ f3 rfl rfl)
    obtain ⟨f4, rfl, c4, _, e4⟩ := wf_slice Tryd.underlying22 (hf 4 _ f4 rfl rfl)
    rw [Ty.bytes_71] at c4
    have c4 : f4.length ≤ 4611686018427387904 := by unfold reachBytes at c4; omega
    obtain ⟨f4, rfl, d4⟩ := list_enc (e := Mail.enc) (R := Mail.le 4611686018427387904) fun v hv => wf_Mail (e4 v hv)
    rw [List.length_map] at c4
    obtain ⟨f5, rfl, c5, _, e5⟩ := wf_slice Tryd.underlying23 (hf 5 _ f5 rfl rfl)
    rw [Ty.bytes_83] at c5
    have c5 : f5.length ≤ 4611686018427387904 := by unfold reachBytes at c5; omega
    obtain ⟨f5, rfl, d5⟩ := list_enc (e := Tomb.enc) (R := Tomb.le 4611686018427387904) fun v hv => wf_Tomb (e5 v hv)
    rw [List.length_map] at c5
    obtain ⟨f6, rfl, _⟩ := wf_int Tryd.underlying3 (hf 6 _ f6 rfl rfl)
    exact ⟨⟨f0, f1, f2, f3, f4, f5, f6⟩, by simp [Box.enc, Ty.cells_71, Ty.cells_83], ⟨c0, ⟨c4, d4⟩, ⟨c5, d5⟩⟩⟩
theorem wf_Range {n : Nat} {v : V} (h : WfV Tryd.prog (n + 2) 59 v) : ∃ x : Range, v = x.enc ∧ x.le 4611686018427387904 := by
  obtain ⟨l, rfl, hl, hf⟩ := wf_fields Tryd.underlying59 h
  match l, hl with
  | [f0, f1], _ =>
    obtain ⟨f0, rfl, _⟩ := wf_int Tryd.underlying3 (hf 0 _ f0 rfl rfl)
    obtain ⟨f1, rfl, _⟩ := wf_int Tryd.underlying3 (hf 1 _ f1 rfl rfl)
    exact ⟨⟨f0, f1⟩, by simp [Range.enc], trivial⟩
theorem threads_few (b : Box) (s : List Range) : few (threadsV b s) := by
  obtain ⟨c1, c2⟩ := thr_cnt (mailsIn b s)
  have c3 := mailsIn_few b s
  refine ⟨by rw [threadsV, List.length_map]; omega, fun x hx => ?_⟩
  rw [threadsV] at hx
  obtain ⟨p, hp, rfl⟩ := List.mem_map.1 hx
  obtain ⟨i, hi, rfl⟩ := List.mem_iff_getElem.1 hp
  have := mem_cnt hi
  omega
open Classical in
noncomputable def spLaw : VM.Spec := { modes := [.rd, .rd], run := fun | [aB', .lst 2 aS'] => (Box.dec aB').bind fun aB => (decL Range.dec aS').bind fun aS => if aB.le 4611686018427387904 ∧ leL Range.le 4611686018427387904 aS then some (.bool true, []) else none | _ => none, need := ["internal/bytealg.MaxLen"] }
attribute [go_sem] spLaw
theorem spLaw_in {ins : List V} {r : V} {outs : List V} (h : spLaw.run ins = some (r, outs)) : ∃ (aB : Box) (aS : (List Range)), ins = [Box.enc aB, .lst 2 ((aS).map Range.enc)] ∧ (aB.le 4611686018427387904 ∧ leL Range.le 4611686018427387904 aS) ∧ .bool true = r ∧ outs = [] := by
  unfold spLaw at h
  simp only at h
  split at h
  · rename_i aB' aS'
    simp only [Option.bind_eq_some_iff] at h
    obtain ⟨aB, h_aB, aS, h_aS, h⟩ := h
    split at h
    case isFalse => cases h
    rename_i hc
    simp only [Option.some.injEq, Prod.mk.injEq] at h
    obtain ⟨h1, h2⟩ := h
    have h_aB := Box.dec_some h_aB
    subst h_aB
    have h_aS := decL_some (fun _ _ h => Range.dec_some h) h_aS
    subst h_aS
    exact ⟨aB, aS, rfl, hc, h1, h2.symm⟩
  · cases h
def T_laws_FnExactThreads : Hints := ⟨lk [(14, [(0, 2)])], lk [], lk [(0, [1, 2]), (1, [1, 2, 5]), (2, [1, 2, 5]), (3, [1, 2, 5, 18]), (4, [4]), (5, [1, 2, 5]), (6, [1, 2, 23]), (7, [4]), (8, [1, 2, 6]), (9, [1, 2, 6, 7]), (10, [1, 2, 6, 7, 8]), (11, [1, 2, 6, 7, 8, 9]), (12, [1, 2, 6, 7, 8, 9, 39]), (13, [4]), (14, [1, 2, 6, 7, 8, 9, 44]), (15, [4]), (16, [1, 2, 6, 7, 8, 9, 49]), (17, [4]), (18, [1, 2, 6, 7, 8, 9, 10]), (19, [1, 2, 6, 8, 9, 10]), (20, [1, 2, 6, 9, 10]), (21, [1, 2, 6, 9, 63]), (22, [4]), (23, [1, 2, 6, 9, 11]), (24, [1, 2, 6, 9, 11]), (25, [1, 2, 6, 9, 11, 12]), (26, [1, 2, 6, 9, 11, 12]), (27, [1, 2, 6, 9, 11, 12, 71]), (28, [4]), (29, [1, 2, 6, 9, 11, 74]), (30, [4]), (31, [6, 9, 11, 13]), (32, [9, 11, 83]), (33, [4]), (34, [9, 11, 12]), (35, [11, 12]), (36, [11, 12, 88]), (37, [4]), (38, [91]), (39, [4]), (40, [4])], lk []⟩
noncomputable def Phi_laws_FnExactThreads : Tab := lk [(4, spSzBox), (7, spToBox), (11, spEqBox), (13, spMarkBox), (5, spSzRangeS), (8, spToRangeS), (12, spEqRangeS), (14, spMarkRangeS), (10, spEqIntSS), (15, spMarkIntSS), (16, spHeldIntSS), (6, spThreads), (9, spThreads)]
attribute [go_sem] T_laws_FnExactThreads Phi_laws_FnExactThreads
theorem phi_laws_FnExactThreads : ∀ f sp, Phi_laws_FnExactThreads f = some sp → FnOk Tryd.prog f sp ∧ ∀ n ∈ sp.need, n ∈ (["internal/bytealg.MaxLen"] : List String) := phi_cons ok_laws_szBox (n0 rfl) (phi_cons ok_laws_toBox (n0 rfl) (phi_cons ok_laws_eqBox (n0 rfl) (phi_cons ok_laws_markBox (n0 rfl) (phi_cons ok_laws_szRangeS (n0 rfl) (phi_cons ok_laws_toRangeS (n0 rfl) (phi_cons ok_laws_eqRangeS (n0 rfl) (phi_cons ok_laws_markRangeS (n0 rfl) (phi_cons ok_laws_eqIntSS (n0 rfl) (phi_cons ok_laws_markIntSS (n0 rfl) (phi_cons ok_laws_heldIntSS (n0 rfl) (phi_cons ok_spec_Threads (fun n (h : n ∈ (["internal/bytealg.MaxLen"] : List String)) => by simp only [List.mem_cons, List.not_mem_nil, or_false] at h; rcases h with rfl <;> simp) (phi_cons ok_impl_Threads (fun n (h : n ∈ (["internal/bytealg.MaxLen"] : List String)) => by simp only [List.mem_cons, List.not_mem_nil, or_false] at h; rcases h with rfl <;> simp) (phi_nil)))))))))))))
theorem ok_laws_FnExactThreads : FnOk Tryd.prog 3 spLaw := by
  refine fn_ok (Φ := Phi_laws_FnExactThreads) (T := T_laws_FnExactThreads) phi_laws_FnExactThreads mixed Tryd.func3 rfl rfl rfl (by decide) ?_
  intro ins r outs hr hl
  clear hl
  have hs := spLaw_in hr
  clear hr
  obtain ⟨aB, aS, rfl, hc, hr, rfl⟩ := hs
  simp only [spLaw, Tryd.f3, Go.VM.initS]
  obtain ⟨w0, w1⟩ := hc
  have z0 : Box.sz aB (1048576) = -1 ∨ (0 ≤ Box.sz aB (1048576) ∧ Box.sz aB (1048576) ≤ 1048576 ∧ _) := Box.sz_ok aB (1048576) 1048576 (by decide) (by decide)
  rcases z0 with z0 | ⟨z0, y0, x0⟩
  · simp only [w0, z0, go_sem]
    repeat' ((first | ((first | apply qa | apply qb | apply qc | apply qd | apply qe | apply qf | apply qg | apply qh | apply qi | apply qj | apply qk) <;> intro hp) | ((first | refine ql rfl rfl (by decide +kernel) ?_ | refine qm _ rfl rfl (by decide +kernel) ?_) <;> have hp := True.intro)) <;> simp only [hp, w0, z0, go_sem])
    simp only [fin_mk, finV, resL, resV1, resIn, endA, listIn, Option.some_or, Option.none_or, oneOrTup, go_sem]
    rw [← hr]
  have n0 : ¬ (Box.sz aB (1048576)) < 0 := Int.not_lt.2 z0
  have u0 : (Box.sz aB (1048576)) ≤ 4611686018427387904 := by omega
  have v0 : (Box.sz aB (1048576)) ≤ ((1048576 : Nat) : Int) := by omega
  have l0 : aB.le 4194304 := Box.le_mono _ _ _ (by decide) x0
  have w1' : aS.length ≤ 4611686018427387904 := w1.1
  have z1 : szF aS (Box.sz aB (1048576)) = -1 ∨ (0 ≤ szF aS (Box.sz aB (1048576)) ∧ szF aS (Box.sz aB (1048576)) ≤ Box.sz aB (1048576) ∧ _) := szF_ok (p := Range.le) (fun b x => trivial) aS (Box.sz aB (1048576)) 1048576 z0 v0
  rcases z1 with z1 | ⟨z1, y1, x1⟩
  · simp only [w0, z0, n0, u0, l0, w1', z1, go_sem]
    repeat' ((first | ((first | apply qa | apply qb | apply qc | apply qd | apply qe | apply qf | apply qg | apply qh | apply qi | apply qj | apply qk) <;> intro hp) | ((first | refine ql rfl rfl (by decide +kernel) ?_ | refine qm _ rfl rfl (by decide +kernel) ?_) <;> have hp := True.intro)) <;> simp only [hp, w0, z0, n0, u0, l0, w1', z1, go_sem])
    simp only [fin_mk, finV, resL, resV1, resIn, endA, listIn, Option.some_or, Option.none_or, oneOrTup, go_sem]
    rw [← hr]
  have n1 : ¬ (szF aS (Box.sz aB (1048576))) < 0 := Int.not_lt.2 z1
  have u1 : (szF aS (Box.sz aB (1048576))) ≤ 4611686018427387904 := by omega
  have v1 : (szF aS (Box.sz aB (1048576))) ≤ ((1048576 : Nat) : Int) := by omega
  have l1' : leL Range.le 4194304 aS := leL.mono Range.le_mono (by decide) x1
  have l1 : aS.length ≤ 4194304 := l1'.1
  have q0 : (0 : Int) ≤ 1 := by decide
  have r0 : few (threadsV aB aS) := threads_few aB aS
  have r1 : few (markL meInts (threadsV aB aS) 1).1 := few_marked r0
  have q1 : (1 : Int) ≤ 1000 := by decide
  obtain ⟨me0, me1⟩ := markInts_up 1 r0.2
  have mp2 : 0 ≤ (markL meInts (threadsV aB aS) 1).2 := by omega
  have mn2 : ¬ (markL meInts (threadsV aB aS) 1).2 < 0 := by omega
  have l0_Mails : aB.Mails.length ≤ 4194304 := l0.2.1.1
  have l0_Tombs : aB.Tombs.length ≤ 4194304 := l0.2.2.1
  have xe0 : (msBox (aB) (1)).2 = 1 + (4 : Nat) * (aB).Mails.length + (2 : Nat) * (aB).Tombs.length := msBox_k _ _
  have xp0 : 0 ≤ (msBox (aB) (1)).2 := by omega
  have xn0 : ¬ (msBox (aB) (1)).2 < 0 := by omega
  have xb0 : (msBox (aB) (1)).2 ≤ 288230376151711744 := by omega
  have xc0 : (msBox (aB) (1)).2 ≤ 1152921504606846976 := by omega
  have xd0 : (msBox (aB) (1)).2 ≤ 144115188075855872 := by omega
  have xe1 : (markL meRange (aS) ((msBox (aB) (1)).2)).2 = (msBox (aB) (1)).2 + (2 : Nat) * (aS).length := markL_k meRange_k _ _
  have xp1 : 0 ≤ (markL meRange (aS) ((msBox (aB) (1)).2)).2 := by omega
  have xn1 : ¬ (markL meRange (aS) ((msBox (aB) (1)).2)).2 < 0 := by omega
  have xb1 : (markL meRange (aS) ((msBox (aB) (1)).2)).2 ≤ 288230376151711744 := by omega
  have xc1 : (markL meRange (aS) ((msBox (aB) (1)).2)).2 ≤ 1152921504606846976 := by omega
  have xd1 : (markL meRange (aS) ((msBox (aB) (1)).2)).2 ≤ 144115188075855872 := by omega
  simp only [w0, z0, n0, u0, l0, l1', w1', z1, n1, u1, l1, r0, l0_Mails, l0_Tombs, xp0, xn0, xb0, xc0, xd0, xp1, xn1, xb1, xc1, xd1, mp2, mn2, r1, q1, markL_again meInts_again, q0, Option.getD_some, bne_self_eq_false, go_sem]
  repeat' ((first | ((first | apply qa | apply qb | apply qc | apply qd | apply qe | apply qf | apply qg | apply qh | apply qi | apply qj | apply qk) <;> intro hp) | ((first | refine ql rfl rfl (by decide +kernel) ?_ | refine qm _ rfl rfl (by decide +kernel) ?_) <;> have hp := True.intro)) <;> simp only [hp, w0, z0, n0, u0, l0, l1', w1', z1, n1, u1, l1, r0, l0_Mails, l0_Tombs, xp0, xn0, xb0, xc0, xd0, xp1, xn1, xb1, xc1, xd1, mp2, mn2, r1, q1, markL_again meInts_again, q0, Option.getD_some, bne_self_eq_false, go_sem])
  all_goals (simp only [fin_mk, finV, resL, resV1, resIn, endA, listIn, Option.some_or, Option.none_or, oneOrTup, go_sem]; rw [← hr])
set_option maxRecDepth 100000 in
theorem gbase (W : World) (hL : laidMetH Tryd.prog Rows.fnExactThreadsRow.laid W) (hsh : W.ShapedOpen Tryd.prog) : GBase Tryd.prog spLaw.need W :=
  ⟨fun h => absurd (show "internal/strconv.uint64pow10" ∈ (["internal/bytealg.MaxLen"] : List String) from h) (by simp),
   fun _ => (let ⟨m, hm⟩ := Go.Proofs.cell_of_shapedOpen_int hsh (g := 0) (t := 3) (zero := #[.int .i64 0]) (of_decide_eq_true (by kernel_rfl)) (by kernel_rfl) rfl (by kernel_rfl) (by kernel_rfl) Tryd.underlying3; ⟨0, m, by kernel_rfl, hm⟩),
   fun h => absurd (show "strconv.ErrSyntax" ∈ (["internal/bytealg.MaxLen"] : List String) from h) (by simp),
   fun h => absurd (show "strconv.ErrRange" ∈ (["internal/bytealg.MaxLen"] : List String) from h) (by simp)⟩
set_option maxRecDepth 100000 in
theorem own : ownKnob Tryd.prog.godebug = none := by kernel_rfl
theorem lifted (os : Os) (started : os.Started) (H : Type) (enc : TypeId × Value → H) :
    ReturnsInHanded {} Tryd.checked os 3 .any (fun w args => (Rows.fnExactThreadsSpec.pre enc Tryd.prog Tryd.f3 [] false w args ∧ laidMetH Tryd.prog Rows.fnExactThreadsRow.laid w) ∧ sizedMet enc Tryd.prog Tryd.f3 (OpenSpec.ofChange Rows.fnExactThreadsSpec) false w args) (Rows.fnExactThreadsSpec.post enc Tryd.prog Tryd.f3 false true false false) :=
  laid_of_fn Rows.fnExactThreadsRow.laid (C := Tryd.checked) (n := 4) own started (by kernel_rfl) Tryd.func3 rfl rfl
    (ChangeSpec.witness_shaped (enc := enc) (C := Tryd.checked) (os := os) (X := fun w _ => laidMetH Tryd.prog Rows.fnExactThreadsRow.laid w) false (World.laidAll Tryd.prog os Rows.fnExactThreadsRow.laid) #[.agg #[.string ByteArray.empty, .int .i64 0, .int .i64 0, .int .i64 0, .slice none 0 0, .slice none 0 0, .int .i64 0], .slice none 0 0] 8 (World.laidAll_os _ _ _)
      (World.shaped_of_ZipB (by kernel_rfl) (by kernel_rfl)) (by kernel_rfl) (by kernel_rfl) (by kernel_rfl)
      (by rw [MakeChecks.laidMetH_plain _ _ _ (by kernel_rfl)]; exact laidMet_laidAll _ (by kernel_rfl) (by kernel_rfl)))
    rfl rfl Tryd.underlying4 (by kernel_rfl) (by
      intro t ht
      simp only [Tryd.f3, List.mem_cons, List.not_mem_nil, or_false] at ht
      rcases ht with rfl | rfl <;> exact ⟨by kernel_rfl, by kernel_rfl, of_decide_eq_true (by kernel_rfl)⟩)
    (by
      intro ds hd
      match ds, hd with
      | [d0, d1], _ => rfl)
    gbase ok_laws_FnExactThreads rfl (by
      intro xs hl hw
      match xs, hl with
      | [x0, x1], _ =>
        obtain ⟨x0, rfl, c0⟩ := wf_Box (hw 0 25 x0 rfl rfl)
        obtain ⟨x1, rfl, c1, _, e1⟩ := wf_slice Tryd.underlying26 (hw 1 26 x1 rfl rfl)
        rw [Ty.bytes_59] at c1
        have c1 : x1.length ≤ 4611686018427387904 := by unfold reachBytes at c1; omega
        obtain ⟨x1, rfl, d1⟩ := list_enc (e := Range.enc) (R := Range.le 4611686018427387904) fun v hv => wf_Range (e1 v hv)
        rw [List.length_map] at c1
        simp only [spLaw, Box.dec_enc, Ty.cells_59, decL_Range, Option.bind_some]
        exact if_pos ⟨c0, ⟨c1, d1⟩⟩)
theorem over : Rows.fnExactThreadsRow.holds Tryd.pinned (OpenSpec.ofChange Rows.fnExactThreadsSpec) :=
  OpenClaim.holds_of_wide 3 Tryd.f3 rfl rfl rfl rfl rfl rfl rfl ⟨rfl, rfl, rfl, rfl, rfl⟩ rfl rfl rfl rfl rfl (by kernel_rfl) Tryd.func3 (by kernel_rfl)
    (of_decide_eq_true (by kernel_rfl)) (by unfold Func.isWrapper; first | (rw [if_pos (by decide +kernel)]; kernel_rfl) | (rw [if_neg (by decide +kernel)]; exact ⟨rfl, rfl⟩))
    (fun os started H enc _ => lifted os started H enc)
theorem card : Rows.FnExactThreadsCardSaid :=
  Claim7.holds_tied_plain_at .later [] [.data, .pinned] true (true, "9ada0b53b16c7af297edaecff2b136cef1b6170a9a2bb66ebc332e370805203e") false over (fun _ h => by cases h) (by kernel_rfl) (fun _ h => by cases h) fnExactThreads_row_tie rfl ⟨rfl, rfl⟩ (by kernel_rfl) rfl
    (fun f fn hf hfn => by
      obtain rfl : f = 3 := Option.some.inj ((show Tryd.prog.funcNamed "loop.example/g00247/laws.FnExactThreads" = some 3 by kernel_rfl).symm.trans hf) |>.symm
      obtain rfl : fn = Tryd.f3 := (Option.some.inj (Tryd.func3.symm.trans hfn)).symm
      exact ⟨by kernel_rfl, fun j t ht => by
        have hm : t ∈ Tryd.f3.params.toList := Array.mem_toList_iff.2 (Array.mem_of_getElem? ht)
        have hall : (Tryd.f3.params.toList.all fun u => !Tryd.prog.wantsStandIn u) = true := by kernel_rfl
        exact (show Tryd.prog.wantsStandIn t = false by simpa using List.all_eq_true.1 hall t hm)⟩)
    (by kernel_rfl)
end Go.Proofs.YtghmjnggmacohaaDoor.VThreads
namespace Go.Proofs.YtghmjnggmacohaaDoor
theorem fnExactThreads_holds : Rows.FnExactThreadsCardSaid := VThreads.card
#print axioms fnExactThreads_holds
end Go.Proofs.YtghmjnggmacohaaDoor
