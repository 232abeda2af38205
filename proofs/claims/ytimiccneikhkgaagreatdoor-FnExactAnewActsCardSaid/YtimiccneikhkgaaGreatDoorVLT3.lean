/- Edits and lines as texts. -/
import Derived.Test.YtimiccneikhkgaaGreatDoorVLT2
import Derived.Test.YtimiccneikhkgaaGreatDoorVLE
import Derived.Test.YtimiccneikhkgaaGreatDoorVLD
namespace Go.Proofs.YtimiccneikhkgaaGreatDoor.L
open Go Go.VM
set_option maxRecDepth 100000
set_option maxHeartbeats 4000000
set_option linter.unusedSimpArgs false
set_option linter.unusedVariables false
def short (s : List UInt8) : List UInt8 := varN s.length ++ s
theorem boxName_len {s : List UInt8} (h : boxName s = true) : s.length ≤ 8 := by
  simp only [boxName, within, Bool.and_eq_true, decide_eq_true_eq] at h; omega
theorem mailOk_len {s : List UInt8} (h : mailOk s = true) : s.length ≤ 200 := by
  simp only [mailOk, within, Bool.and_eq_true, decide_eq_true_eq] at h; omega
theorem editOk_parts {x : Edit} (h : editOk x = true) : (1 ≤ x.Kind ∧ x.Kind ≤ 8) ∧ x.Box.length ≤ 8 ∧ x.To.length ≤ 8 ∧ setOk x.Set = true ∧ (0 ≤ x.How ∧ x.How ≤ 3) ∧ (0 ≤ x.Bits ∧ x.Bits ≤ 31) ∧ (-1 ≤ x.Since ∧ x.Since ≤ 100000) ∧ x.Text.length ≤ 200 := by
  simp only [editOk, Bool.and_eq_true] at h
  obtain ⟨⟨⟨h1, h2⟩, h3⟩, ⟨⟨⟨h4, h5⟩, h6⟩, h7⟩, h8⟩ := h
  refine ⟨by simpa only [within, Bool.and_eq_true, decide_eq_true_eq] using h1, boxName_len h2, ?_, ?_, ?_, ?_, ?_, ?_⟩
  · simp only [eTo, Bool.or_eq_true, Bool.and_eq_true] at h4
    rcases h4 with ⟨h, _⟩ | ⟨_, h⟩
    · simp only [beq_iff_eq] at h; rw [h]; simp
    · exact boxName_len h
  · simp only [eSet, Bool.or_eq_true, Bool.and_eq_true] at h5
    rcases h5 with h | ⟨_, h⟩
    · rw [List.isEmpty_iff.1 h]; rfl
    · exact h
  · simp only [eHow, Bool.or_eq_true, Bool.and_eq_true, beq_iff_eq, within, decide_eq_true_eq] at h6
    omega
  · simp only [eBits, flagsOk, Bool.or_eq_true, Bool.and_eq_true, beq_iff_eq, within, decide_eq_true_eq] at h7
    omega
  · simp only [sinceOk] at h3
    split at h3
    · simp only [Bool.and_eq_true, within, decide_eq_true_eq] at h3; omega
    · split at h3
      · simp only [Bool.and_eq_true, within, decide_eq_true_eq] at h3; omega
      · simp only [beq_iff_eq] at h3; omega
  · simp only [eText, Bool.or_eq_true, Bool.and_eq_true] at h8
    rcases h8 with ⟨h, _⟩ | ⟨_, h⟩
    · simp only [beq_iff_eq] at h; rw [h]; simp
    · exact mailOk_len h
def editText (x : Edit) : List UInt8 :=
  if editOk x = true then [UInt8.ofNat x.Kind.toNat] ++ short x.Box ++ short x.To ++ short (setText x.Set) ++ [UInt8.ofNat x.How.toNat, UInt8.ofNat x.Bits.toNat] ++ varN (x.Since + 1).toNat ++ short x.Text else []
open Classical in
noncomputable def spEditText : VM.Spec := { modes := [.rd], run := fun | [x'] => (Edit.dec x').bind fun x => if x.le 4194304 then some (.tup [.str (editText x), .bool (editOk x)], []) else none | _ => none, need := ["internal/strconv.uint64pow10"] }
attribute [go_sem] spEditText
theorem spEditText_in {ins : List V} {r : V} {outs : List V} (h : spEditText.run ins = some (r, outs)) : ∃ (x : Edit), ins = [Edit.enc x] ∧ (x.le 4194304) ∧ .tup [.str (editText x), .bool (editOk x)] = r ∧ outs = [] := by
  unfold spEditText at h
  simp only at h
  split at h
  · rename_i x'
    simp only [Option.bind_eq_some_iff] at h
    obtain ⟨x, h_x, h⟩ := h
    split at h
    case isFalse => cases h
    rename_i hc
    simp only [Option.some.injEq, Prod.mk.injEq] at h
    obtain ⟨h1, h2⟩ := h
    have h_x := Edit.dec_some h_x
    subst h_x
    exact ⟨x, rfl, hc, h1, h2.symm⟩
  · cases h
def T_impl_EditText : Hints := ⟨fun i => if i = 4 then some [(2, 5), (3, 5), (4, 5), (2, 6), (3, 6), (4, 6), (0, 7), (1, 7), (2, 7), (3, 7), (4, 7), (2, 9), (3, 9), (4, 9), (7, 9), (2, 10), (3, 10), (4, 10), (7, 10), (0, 11), (1, 11), (2, 11), (3, 11), (4, 11), (2, 13), (3, 13), (4, 13), (7, 13), (11, 13), (2, 14), (3, 14), (4, 14), (7, 14), (11, 14), (0, 15), (1, 15), (2, 15), (3, 15), (4, 15), (0, 16), (1, 16), (2, 16), (3, 16), (4, 16), (2, 18), (3, 18), (4, 18), (7, 18), (11, 18), (15, 18), (16, 18), (2, 19), (3, 19), (4, 19), (7, 19), (11, 19), (15, 19), (16, 19), (0, 20), (1, 20), (2, 20), (3, 20), (4, 20), (5, 20), (6, 20), (7, 20), (9, 20), (10, 20), (11, 20), (13, 20), (14, 20), (15, 20), (16, 20), (2, 21), (3, 21), (4, 21), (7, 21), (11, 21), (15, 21), (16, 21), (20, 21), (2, 22), (3, 22), (4, 22), (7, 22), (11, 22), (15, 22), (16, 22), (20, 22), (0, 23), (1, 23), (2, 23), (3, 23), (4, 23), (5, 23), (6, 23), (7, 23), (9, 23), (10, 23), (11, 23), (13, 23), (14, 23), (15, 23), (16, 23), (18, 23), (19, 23), (20, 23), (0, 24), (1, 24), (2, 24), (3, 24), (4, 24), (5, 24), (6, 24), (7, 24), (9, 24), (10, 24), (11, 24), (13, 24), (14, 24), (15, 24), (16, 24), (0, 25), (1, 25), (2, 25), (3, 25), (4, 25), (5, 25), (6, 25), (7, 25), (9, 25), (10, 25), (11, 25), (13, 25), (14, 25), (15, 25), (16, 25), (2, 29), (3, 29), (4, 29), (7, 29), (11, 29), (15, 29), (16, 29), (20, 29), (23, 29), (24, 29), (25, 29), (2, 30), (3, 30), (4, 30), (7, 30), (11, 30), (15, 30), (16, 30), (20, 30), (23, 30), (24, 30), (25, 30), (0, 31), (1, 31), (2, 31), (3, 31), (4, 31), (18, 31), (19, 31), (20, 31), (21, 31), (22, 31), (23, 31), (24, 31), (25, 31)] else none, fun _ => none, fun i => if i = 0 then some [1] else if i = 1 then some [1, 8] else if i = 2 then some [2, 3] else if i = 3 then some [1, 4] else if i = 4 then some [2, 3] else none, fun _ => none⟩
noncomputable def Phi_impl_EditText : Tab := fun f => if f = 13 then some spEditOk else if f = 39 then some spVarText else if f = 40 then some spShort else if f = 41 then some spSetText else none
attribute [go_sem] T_impl_EditText Phi_impl_EditText
theorem phi_impl_EditText : ∀ f sp, Phi_impl_EditText f = some sp → FnOk Tryz.prog f sp ∧ ∀ n ∈ sp.need, n ∈ (["internal/strconv.uint64pow10"] : List String) := by
  intro f sp h
  unfold Phi_impl_EditText at h
  by_cases e : f = 13
  · rw [if_pos e] at h; cases h; rw [e]; exact ⟨ok_impl_EditOk, (fun n (h : n ∈ ([] : List String)) => (nomatch h))⟩
  rw [if_neg e] at h
  by_cases e : f = 39
  · rw [if_pos e] at h; cases h; rw [e]; exact ⟨ok_impl_VarText, (fun n (h : n ∈ ([] : List String)) => (nomatch h))⟩
  rw [if_neg e] at h
  by_cases e : f = 40
  · rw [if_pos e] at h; cases h; rw [e]; exact ⟨ok_impl_shortOf, (fun n (h : n ∈ ([] : List String)) => (nomatch h))⟩
  rw [if_neg e] at h
  by_cases e : f = 41
  · rw [if_pos e] at h; cases h; rw [e]; exact ⟨ok_impl_SetText, (fun n (h : n ∈ (["internal/strconv.uint64pow10"] : List String)) => by simp only [List.mem_cons, List.not_mem_nil, or_false] at h; rcases h with rfl <;> simp)⟩
  rw [if_neg e] at h
  cases h
theorem ok_impl_EditText : FnOk Tryz.prog 8 spEditText := by
  refine fn_ok (Φ := Phi_impl_EditText) (T := T_impl_EditText) phi_impl_EditText mixed Tryz.func8 rfl rfl rfl (by decide) ?_
  intro ins r outs hr hl
  clear hl
  have hs := spEditText_in hr
  clear hr
  obtain ⟨x, rfl, hc, hr, rfl⟩ := hs
  simp only [spEditText, Tryz.f8, Go.VM.initS]
  cases hk : editOk x with
  | false =>
    simp only [hc, hk, go_sem]
    repeat' ((first | ((first | apply qa | apply qb | apply qc | apply qd | apply qe | apply qf | apply qg | apply qh | apply qi | apply qj | apply qk) <;> intro hp) | ((first | refine ql rfl rfl (by decide +kernel) ?_ | refine qm _ rfl rfl (by decide +kernel) ?_ | refine goes_opn rfl ?_ | refine goes_opnD rfl rfl (by decide +kernel) ?_) <;> have hp := True.intro)) <;> simp only [hp, hc, hk, go_sem])
    simp only [fin_mk, finV, resL, resV1, resIn, endA, listIn, Option.some_or, Option.none_or, oneOrTup, go_sem]
    rw [← hr]
    simp only [editText, hk, Bool.false_eq_true, if_false]
  | true =>
    obtain ⟨⟨k1, k2⟩, hB, hT, hS, ⟨w1, w2⟩, ⟨b1, b2⟩, ⟨s1, s2⟩, hX⟩ := editOk_parts hk
    have hE : editText x = [UInt8.ofNat x.Kind.toNat] ++ short x.Box ++ short x.To ++ short (setText x.Set) ++ [UInt8.ofNat x.How.toNat, UInt8.ofNat x.Bits.toNat] ++ varN (x.Since + 1).toNat ++ short x.Text := by rw [editText, if_pos hk]
    rw [hE] at hr
    clear hE
    have hxs : x.Set.length ≤ 4194304 := hc.2.2.1.1
    obtain ⟨K, B, T, S, W, F, N, X⟩ := x
    simp only at k1 k2 hB hT hS w1 w2 b1 b2 s1 s2 hX hr hxs
    have e1 : IntKind.i64.wrap (N + 1) = N + 1 := wrap64 (by omega) (by omega)
    have hv : varText (N + 1) = varN (N + 1).toNat := by
      rw [varText, if_pos]; simp only [within, Bool.and_eq_true, decide_eq_true_eq]; omega
    have q1 : [V.int .u8 (IntKind.u8.wrap K)] = bytesV [UInt8.ofNat K.toNat] := by
      have := u8_of (n := K.toNat) (by omega)
      rw [show ((K.toNat : Nat) : Int) = K by omega] at this
      rw [this]; rfl
    have q2 : [V.int .u8 (IntKind.u8.wrap W), V.int .u8 (IntKind.u8.wrap F)] = bytesV [UInt8.ofNat W.toNat, UInt8.ofNat F.toNat] := by
      have h1 := u8_of (n := W.toNat) (by omega)
      rw [show ((W.toNat : Nat) : Int) = W by omega] at h1
      have h2 := u8_of (n := F.toNat) (by omega)
      rw [show ((F.toNat : Nat) : Int) = F by omega] at h2
      rw [h1, h2]; rfl
    have z1 : B.length ≤ 20000 := by omega
    have z2 : T.length ≤ 20000 := by omega
    have hst := setText_len S
    have z3 : (setText S).length ≤ 20000 := by omega
    have z4 : X.length ≤ 20000 := by omega
    have v1 := varN_len B.length
    have v2 := varN_len T.length
    have v3 := varN_len (setText S).length
    have v4 := varN_len X.length
    have v5 := varN_len (N + 1).toNat
    simp only [hk, short, List.append_assoc, List.cons_append, List.nil_append] at hr
    simp only [hc, hk, e1, hv, q1, q2, z1, z2, z3, z4, hxs, List.length_append, List.append_assoc, List.cons_append, List.nil_append, go_sem]
    repeat' ((first | ((first | apply qa | apply qb | apply qc | apply qd | apply qe | apply qf | apply qg | apply qh | apply qi | apply qj | apply qk) <;> intro hp) | ((first | refine ql rfl rfl (by decide +kernel) ?_ | refine qm _ rfl rfl (by decide +kernel) ?_ | refine goes_opn rfl ?_ | refine goes_opnD rfl rfl (by decide +kernel) ?_) <;> have hp := True.intro)) <;> simp only [hp, hc, hk, e1, hv, q1, q2, z1, z2, z3, z4, hxs, List.length_append, List.append_assoc, List.cons_append, List.nil_append, go_sem])
    all_goals first
      | (clear hr; omega)
      | (simp only [fin_mk, finV, resL, resV1, resIn, endA, listIn, Option.some_or, Option.none_or, oneOrTup, go_sem]; rw [← hr])
def T_spec_EditText : Hints := ⟨fun i => if i = 3 then some [(2, 5), (3, 5), (4, 5), (2, 6), (3, 6), (4, 6), (0, 7), (1, 7), (2, 7), (3, 7), (4, 7), (2, 9), (3, 9), (4, 9), (7, 9), (2, 10), (3, 10), (4, 10), (7, 10), (0, 11), (1, 11), (2, 11), (3, 11), (4, 11), (2, 13), (3, 13), (4, 13), (7, 13), (11, 13), (2, 14), (3, 14), (4, 14), (7, 14), (11, 14), (0, 15), (1, 15), (2, 15), (3, 15), (4, 15), (0, 16), (1, 16), (2, 16), (3, 16), (4, 16), (2, 18), (3, 18), (4, 18), (7, 18), (11, 18), (15, 18), (16, 18), (2, 19), (3, 19), (4, 19), (7, 19), (11, 19), (15, 19), (16, 19), (0, 20), (1, 20), (2, 20), (3, 20), (4, 20), (5, 20), (6, 20), (7, 20), (9, 20), (10, 20), (11, 20), (13, 20), (14, 20), (15, 20), (16, 20), (2, 21), (3, 21), (4, 21), (7, 21), (11, 21), (15, 21), (16, 21), (20, 21), (2, 22), (3, 22), (4, 22), (7, 22), (11, 22), (15, 22), (16, 22), (20, 22), (0, 23), (1, 23), (2, 23), (3, 23), (4, 23), (5, 23), (6, 23), (7, 23), (9, 23), (10, 23), (11, 23), (13, 23), (14, 23), (15, 23), (16, 23), (18, 23), (19, 23), (20, 23), (0, 24), (1, 24), (2, 24), (3, 24), (4, 24), (5, 24), (6, 24), (7, 24), (9, 24), (10, 24), (11, 24), (13, 24), (14, 24), (15, 24), (16, 24), (0, 25), (1, 25), (2, 25), (3, 25), (4, 25), (5, 25), (6, 25), (7, 25), (9, 25), (10, 25), (11, 25), (13, 25), (14, 25), (15, 25), (16, 25), (2, 27), (3, 27), (4, 27), (7, 27), (11, 27), (15, 27), (16, 27), (20, 27), (23, 27), (24, 27), (25, 27), (2, 28), (3, 28), (4, 28), (7, 28), (11, 28), (15, 28), (16, 28), (20, 28), (23, 28), (24, 28), (25, 28), (0, 30), (1, 30), (2, 30), (3, 30), (4, 30), (18, 30), (19, 30), (20, 30), (21, 30), (22, 30), (23, 30), (24, 30), (25, 30), (2, 32), (3, 32), (4, 32), (7, 32), (11, 32), (15, 32), (16, 32), (20, 32), (23, 32), (24, 32), (25, 32), (30, 32), (2, 33), (3, 33), (4, 33), (7, 33), (11, 33), (15, 33), (16, 33), (20, 33), (23, 33), (24, 33), (25, 33), (30, 33), (0, 34), (1, 34), (2, 34), (3, 34), (4, 34), (18, 34), (19, 34), (20, 34), (21, 34), (22, 34), (23, 34), (24, 34), (25, 34)] else none, fun _ => none, fun i => if i = 0 then some [1] else if i = 1 then some [1, 6] else if i = 2 then some [2, 3] else if i = 3 then some [2, 3] else none, fun _ => none⟩
noncomputable def Phi_spec_EditText : Tab := fun f => if f = 12 then some spEditOk else if f = 111 then some spVarBytes else if f = 109 then some spShort else if f = 110 then some spSetText else none
attribute [go_sem] T_spec_EditText Phi_spec_EditText
theorem phi_spec_EditText : ∀ f sp, Phi_spec_EditText f = some sp → FnOk Tryz.prog f sp ∧ ∀ n ∈ sp.need, n ∈ (["internal/strconv.uint64pow10"] : List String) := by
  intro f sp h
  unfold Phi_spec_EditText at h
  by_cases e : f = 12
  · rw [if_pos e] at h; cases h; rw [e]; exact ⟨ok_spec_EditOk, (fun n (h : n ∈ ([] : List String)) => (nomatch h))⟩
  rw [if_neg e] at h
  by_cases e : f = 111
  · rw [if_pos e] at h; cases h; rw [e]; exact ⟨ok_spec_l01Var, (fun n (h : n ∈ ([] : List String)) => (nomatch h))⟩
  rw [if_neg e] at h
  by_cases e : f = 109
  · rw [if_pos e] at h; cases h; rw [e]; exact ⟨ok_spec_l10Short, (fun n (h : n ∈ ([] : List String)) => (nomatch h))⟩
  rw [if_neg e] at h
  by_cases e : f = 110
  · rw [if_pos e] at h; cases h; rw [e]; exact ⟨ok_spec_SetText, (fun n (h : n ∈ (["internal/strconv.uint64pow10"] : List String)) => by simp only [List.mem_cons, List.not_mem_nil, or_false] at h; rcases h with rfl <;> simp)⟩
  rw [if_neg e] at h
  cases h
theorem ok_spec_EditText : FnOk Tryz.prog 47 spEditText := by
  refine fn_ok (Φ := Phi_spec_EditText) (T := T_spec_EditText) phi_spec_EditText mixed Tryz.func47 rfl rfl rfl (by decide) ?_
  intro ins r outs hr hl
  clear hl
  have hs := spEditText_in hr
  clear hr
  obtain ⟨x, rfl, hc, hr, rfl⟩ := hs
  simp only [spEditText, Tryz.f47, Go.VM.initS]
  cases hk : editOk x with
  | false =>
    simp only [hc, hk, go_sem]
    repeat' ((first | ((first | apply qa | apply qb | apply qc | apply qd | apply qe | apply qf | apply qg | apply qh | apply qi | apply qj | apply qk) <;> intro hp) | ((first | refine ql rfl rfl (by decide +kernel) ?_ | refine qm _ rfl rfl (by decide +kernel) ?_ | refine goes_opn rfl ?_ | refine goes_opnD rfl rfl (by decide +kernel) ?_) <;> have hp := True.intro)) <;> simp only [hp, hc, hk, go_sem])
    simp only [fin_mk, finV, resL, resV1, resIn, endA, listIn, Option.some_or, Option.none_or, oneOrTup, go_sem]
    rw [← hr]
    simp only [editText, hk, Bool.false_eq_true, if_false]
  | true =>
    obtain ⟨⟨k1, k2⟩, hB, hT, hS, ⟨w1, w2⟩, ⟨b1, b2⟩, ⟨s1, s2⟩, hX⟩ := editOk_parts hk
    have hE : editText x = [UInt8.ofNat x.Kind.toNat] ++ short x.Box ++ short x.To ++ short (setText x.Set) ++ [UInt8.ofNat x.How.toNat, UInt8.ofNat x.Bits.toNat] ++ varN (x.Since + 1).toNat ++ short x.Text := by rw [editText, if_pos hk]
    rw [hE] at hr
    clear hE
    have hxs : x.Set.length ≤ 4194304 := hc.2.2.1.1
    obtain ⟨K, B, T, S, W, F, N, X⟩ := x
    simp only at k1 k2 hB hT hS w1 w2 b1 b2 s1 s2 hX hr hxs
    have e1 : IntKind.i64.wrap (N + 1) = N + 1 := wrap64 (by omega) (by omega)
    have hv : varText (N + 1) = varN (N + 1).toNat := by
      rw [varText, if_pos]; simp only [within, Bool.and_eq_true, decide_eq_true_eq]; omega
    have q1 : [V.int .u8 (IntKind.u8.wrap K)] = bytesV [UInt8.ofNat K.toNat] := by
      have := u8_of (n := K.toNat) (by omega)
      rw [show ((K.toNat : Nat) : Int) = K by omega] at this
      rw [this]; rfl
    have q2 : [V.int .u8 (IntKind.u8.wrap W), V.int .u8 (IntKind.u8.wrap F)] = bytesV [UInt8.ofNat W.toNat, UInt8.ofNat F.toNat] := by
      have h1 := u8_of (n := W.toNat) (by omega)
      rw [show ((W.toNat : Nat) : Int) = W by omega] at h1
      have h2 := u8_of (n := F.toNat) (by omega)
      rw [show ((F.toNat : Nat) : Int) = F by omega] at h2
      rw [h1, h2]; rfl
    have z1 : B.length ≤ 20000 := by omega
    have z2 : T.length ≤ 20000 := by omega
    have hst := setText_len S
    have z3 : (setText S).length ≤ 20000 := by omega
    have z4 : X.length ≤ 20000 := by omega
    have y1 : (0 : Int) ≤ N + 1 := by omega
    have y2 : N + 1 ≤ 70368744177664 := by omega
    have v1 := varN_len B.length
    have v2 := varN_len T.length
    have v3 := varN_len (setText S).length
    have v4 := varN_len X.length
    have v5 := varN_len (N + 1).toNat
    simp only [hk, short, List.append_assoc, List.cons_append, List.nil_append] at hr
    simp only [hc, hk, e1, y1, y2, q1, q2, z1, z2, z3, z4, hxs, List.length_append, List.append_assoc, List.cons_append, List.nil_append, go_sem]
    repeat' ((first | ((first | apply qa | apply qb | apply qc | apply qd | apply qe | apply qf | apply qg | apply qh | apply qi | apply qj | apply qk) <;> intro hp) | ((first | refine ql rfl rfl (by decide +kernel) ?_ | refine qm _ rfl rfl (by decide +kernel) ?_ | refine goes_opn rfl ?_ | refine goes_opnD rfl rfl (by decide +kernel) ?_) <;> have hp := True.intro)) <;> simp only [hp, hc, hk, e1, y1, y2, q1, q2, z1, z2, z3, z4, hxs, List.length_append, List.append_assoc, List.cons_append, List.nil_append, go_sem])
    all_goals first
      | (clear hr; omega)
      | (simp only [fin_mk, finV, resL, resV1, resIn, endA, listIn, Option.some_or, Option.none_or, oneOrTup, go_sem]; rw [← hr])
end Go.Proofs.YtimiccneikhkgaaGreatDoor.L
