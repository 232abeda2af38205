/- Contracts of functions, and the facts that they need. No condition. -/
import Derived.Test.YtonjbbfgdloljaaGreatDoorVLDr6
import Derived.Test.YtonjbbfgdloljaaGreatDoorVLDr5




namespace Go.Proofs.YtonjbbfgdloljaaGreatDoor.L
open Go Go.VM
set_option maxRecDepth 100000
set_option maxHeartbeats 4000000
set_option linter.unusedSimpArgs false
set_option linter.unusedVariables false
def lineD (c : Cur) : Line × Cur :=
  let k := belO c 9
  if k.1 = 0 ∨ k.1 = 1 ∨ k.1 = 7 then (⟨1 + k.1, 1 + (belO k.2 9).1, 0, 0, 0, [], false⟩, (belO k.2 9).2) else
  if k.1 = 2 then (⟨3, 1 + (belO k.2 5).1, 1 + (belO (belO k.2 5).2 20).1, (belO (belO (belO k.2 5).2 20).2 32).1, 1 + (belO (belO (belO (belO k.2 5).2 20).2 32).2 30).1, [], false⟩, (belO (belO (belO (belO k.2 5).2 20).2 32).2 30).2) else
  if k.1 = 4 then (⟨5, 1 + (belO k.2 5).1, 0, 0, 1 + (belO (belO k.2 5).2 30).1, [], (belO (belO (belO k.2 5).2 30).2 2).1 == 0⟩, (belO (belO (belO k.2 5).2 30).2 2).2) else
  if k.1 = 5 then (⟨6, 0, 0, 0, 0, (drawO k.2).1, false⟩, (drawO k.2).2) else
  if k.1 = 3 then (⟨4, 0, 0, 0, 0, setAdd (drawO k.2).1 3 4, false⟩, (drawO k.2).2) else
  (⟨1 + k.1, 0, 0, 0, 0, [], false⟩, k.2)
open Classical in
noncomputable def spLineD : VM.Spec := { modes := [.ptr], run := fun | [.rptr (c')] => (Cur.dec c').bind fun c => if curI c then some (Line.enc ((lineD c).1), [.rptr (Cur.enc ((lineD c).2))]) else none | _ => none, need := [] }
attribute [go_sem] spLineD
theorem spLineD_in {ins : List V} {r : V} {outs : List V} (h : spLineD.run ins = some (r, outs)) : ∃ (c : Cur), ins = [.rptr (Cur.enc c)] ∧ (curI c) ∧ Line.enc ((lineD c).1) = r ∧ outs = [.rptr (Cur.enc ((lineD c).2))] := by
  unfold spLineD at h
  simp only at h
  split at h
  · rename_i c'
    simp only [Option.bind_eq_some_iff] at h
    obtain ⟨c, h_c, h⟩ := h
    split at h
    case isFalse => cases h
    rename_i hc
    simp only [Option.some.injEq, Prod.mk.injEq] at h
    obtain ⟨h1, h2⟩ := h
    have h_c := Cur.dec_some h_c
    subst h_c
    exact ⟨c, rfl, hc, h1, h2.symm⟩
  · cases h
def T_spec_l13Line : Hints := ⟨lk [], lk [], lk [(0, [0, 2]), (1, [0, 2, 3]), (2, [0, 2, 3, 9]), (3, [0, 2, 3, 9, 10]), (4, [0, 2, 3, 9, 10]), (5, [0, 2, 3, 9, 10]), (6, [2, 3]), (7, [0, 2, 3, 9, 18]), (8, [0, 2, 3]), (9, [0, 2, 3]), (10, [0, 2, 3]), (11, [2, 3]), (12, [0, 2, 3, 9, 35]), (13, [0, 2, 3]), (14, [0, 2, 3]), (15, [2, 3]), (16, [0, 2, 3, 9, 48]), (17, [2, 3]), (18, [0, 2, 3, 53]), (19, [2, 3]), (20, [2])], lk []⟩
noncomputable def Phi_spec_l13Line : Tab := lk [(31, spBelow), (95, spOnce), (93, spDraw), (110, spSetAdd)]
attribute [go_sem] T_spec_l13Line Phi_spec_l13Line
theorem phi_spec_l13Line : ∀ f sp, Phi_spec_l13Line f = some sp → FnOk Tryz.prog f sp ∧ ∀ n ∈ sp.need, n ∈ ([] : List String) := phi_cons ok_spec_l01Below (n0 rfl) (phi_cons ok_spec_l01Once (n0 rfl) (phi_cons ok_spec_l05Draw (n0 rfl) (phi_cons ok_spec_SetAdd (n0 rfl) (phi_nil))))
theorem ok_spec_l13Line : FnOk Tryz.prog 71 spLineD := by
  refine fn_ok (Φ := Phi_spec_l13Line) (T := T_spec_l13Line) phi_spec_l13Line mixed Tryz.func71 rfl rfl rfl (by decide) ?_
  intro ins r outs hr hl
  clear hl
  have hs := spLineD_in hr
  clear hr
  obtain ⟨c, rfl, hc, hr, rfl⟩ := hs
  simp only [spLineD, Tryz.f71, Go.VM.initS]
  have h1 := belO_in (n := 9) hc
  have hv := h1.2.2 (by decide)
  have hDl := drawO_in h1.1
  have hDl2 : (drawO (belO c 9).2).1.length ≤ 4194304 := by omega
  have a1 := belO_in (n := 9) h1.1
  have b1 := belO_in (n := 5) h1.1
  have b2 := belO_in (n := 20) b1.1
  have b3 := belO_in (n := 32) b2.1
  have b4 := belO_in (n := 30) b3.1
  have d2 := belO_in (n := 30) b1.1
  have d3 := belO_in (n := 2) d2.1
  have a9 := a1.2.2 (by decide)
  have b5 := b1.2.2 (by decide)
  have b20 := b2.2.2 (by decide)
  have b30 := b4.2.2 (by decide)
  have d30 := d2.2.2 (by decide)
  have w0 : IntKind.i64.wrap (1 + (belO c 9).1) = 1 + (belO c 9).1 := wrap64 (by omega) (by omega)
  have w1 : IntKind.i64.wrap (1 + (belO (belO c 9).2 9).1) = 1 + (belO (belO c 9).2 9).1 := wrap64 (by omega) (by omega)
  have w2 : IntKind.i64.wrap (1 + (belO (belO c 9).2 5).1) = 1 + (belO (belO c 9).2 5).1 := wrap64 (by omega) (by omega)
  have w3 : IntKind.i64.wrap (1 + (belO (belO (belO c 9).2 5).2 20).1) = 1 + (belO (belO (belO c 9).2 5).2 20).1 := wrap64 (by omega) (by omega)
  have w4 : IntKind.i64.wrap (1 + (belO (belO (belO (belO (belO c 9).2 5).2 20).2 32).2 30).1) = 1 + (belO (belO (belO (belO (belO c 9).2 5).2 20).2 32).2 30).1 := wrap64 (by omega) (by omega)
  have w5 : IntKind.i64.wrap (1 + (belO (belO (belO c 9).2 5).2 30).1) = 1 + (belO (belO (belO c 9).2 5).2 30).1 := wrap64 (by omega) (by omega)
  have hk : (belO c 9).1 = 0 ∨ (belO c 9).1 = 1 ∨ (belO c 9).1 = 7 ∨ (belO c 9).1 = 2 ∨ (belO c 9).1 = 4 ∨ (belO c 9).1 = 5 ∨ (belO c 9).1 = 3 ∨ (belO c 9).1 = 6 ∨ (belO c 9).1 = 8 := by omega
  rcases hk with hk | hk | hk | hk | hk | hk | hk | hk | hk
  · have e : lineD c = (⟨1, 1 + (belO (belO c 9).2 9).1, 0, 0, 0, [], false⟩, (belO (belO c 9).2 9).2) := by
      unfold lineD
      simp [hk]
    rw [e] at hr
    have w00 : IntKind.i64.wrap (1 + (belO c 9).1) = 1 := by rw [w0, hk]; rfl
    simp only [hc, h1.1, a1.1, b1.1, b2.1, b3.1, b4.1, d2.1, d3.1, hDl.2, hDl2, w00, w1, w2, w3, w4, w5, go_sem]
    repeat' ((first | apply qa | apply qb | apply qc | apply qd | apply qe | apply qf | apply qg | apply qh | apply qi | apply qj | apply qk) <;> intro hp <;> simp only [hp, hc, h1.1, a1.1, b1.1, b2.1, b3.1, b4.1, d2.1, d3.1, hDl.2, hDl2, w00, w1, w2, w3, w4, w5, go_sem])
    simp only [fin_mk, finV, resL, resV1, resIn, endA, listIn, Option.some_or, Option.none_or, oneOrTup, go_sem]
    rw [← hr]
    simp only [e]; rfl
  · have e : lineD c = (⟨2, 1 + (belO (belO c 9).2 9).1, 0, 0, 0, [], false⟩, (belO (belO c 9).2 9).2) := by
      unfold lineD
      simp [hk]
    rw [e] at hr
    have w00 : IntKind.i64.wrap (1 + (belO c 9).1) = 2 := by rw [w0, hk]; rfl
    simp only [hc, h1.1, a1.1, b1.1, b2.1, b3.1, b4.1, d2.1, d3.1, hDl.2, hDl2, w00, w1, w2, w3, w4, w5, go_sem]
    repeat' ((first | apply qa | apply qb | apply qc | apply qd | apply qe | apply qf | apply qg | apply qh | apply qi | apply qj | apply qk) <;> intro hp <;> simp only [hp, hc, h1.1, a1.1, b1.1, b2.1, b3.1, b4.1, d2.1, d3.1, hDl.2, hDl2, w00, w1, w2, w3, w4, w5, go_sem])
    simp only [fin_mk, finV, resL, resV1, resIn, endA, listIn, Option.some_or, Option.none_or, oneOrTup, go_sem]
    rw [← hr]
    simp only [e]; rfl
  · have e : lineD c = (⟨8, 1 + (belO (belO c 9).2 9).1, 0, 0, 0, [], false⟩, (belO (belO c 9).2 9).2) := by
      unfold lineD
      simp [hk]
    rw [e] at hr
    have w00 : IntKind.i64.wrap (1 + (belO c 9).1) = 8 := by rw [w0, hk]; rfl
    simp only [hc, h1.1, a1.1, b1.1, b2.1, b3.1, b4.1, d2.1, d3.1, hDl.2, hDl2, w00, w1, w2, w3, w4, w5, go_sem]
    repeat' ((first | apply qa | apply qb | apply qc | apply qd | apply qe | apply qf | apply qg | apply qh | apply qi | apply qj | apply qk) <;> intro hp <;> simp only [hp, hc, h1.1, a1.1, b1.1, b2.1, b3.1, b4.1, d2.1, d3.1, hDl.2, hDl2, w00, w1, w2, w3, w4, w5, go_sem])
    simp only [fin_mk, finV, resL, resV1, resIn, endA, listIn, Option.some_or, Option.none_or, oneOrTup, go_sem]
    rw [← hr]
    simp only [e]; rfl
  · have e : lineD c = (⟨3, 1 + (belO (belO c 9).2 5).1, 1 + (belO (belO (belO c 9).2 5).2 20).1, (belO (belO (belO (belO c 9).2 5).2 20).2 32).1, 1 + (belO (belO (belO (belO (belO c 9).2 5).2 20).2 32).2 30).1, [], false⟩, (belO (belO (belO (belO (belO c 9).2 5).2 20).2 32).2 30).2) := by
      unfold lineD
      simp [hk]
    rw [e] at hr
    have w00 : IntKind.i64.wrap (1 + (belO c 9).1) = 3 := by rw [w0, hk]; rfl
    simp only [hc, h1.1, a1.1, b1.1, b2.1, b3.1, b4.1, d2.1, d3.1, hDl.2, hDl2, w00, w1, w2, w3, w4, w5, go_sem]
    repeat' ((first | apply qa | apply qb | apply qc | apply qd | apply qe | apply qf | apply qg | apply qh | apply qi | apply qj | apply qk) <;> intro hp <;> simp only [hp, hc, h1.1, a1.1, b1.1, b2.1, b3.1, b4.1, d2.1, d3.1, hDl.2, hDl2, w00, w1, w2, w3, w4, w5, go_sem])
    simp only [fin_mk, finV, resL, resV1, resIn, endA, listIn, Option.some_or, Option.none_or, oneOrTup, go_sem]
    rw [← hr]
    simp only [e]; rfl
  · have e : lineD c = (⟨5, 1 + (belO (belO c 9).2 5).1, 0, 0, 1 + (belO (belO (belO c 9).2 5).2 30).1, [], (belO (belO (belO (belO c 9).2 5).2 30).2 2).1 == 0⟩, (belO (belO (belO (belO c 9).2 5).2 30).2 2).2) := by
      unfold lineD
      simp [hk]
    rw [e] at hr
    have w00 : IntKind.i64.wrap (1 + (belO c 9).1) = 5 := by rw [w0, hk]; rfl
    simp only [hc, h1.1, a1.1, b1.1, b2.1, b3.1, b4.1, d2.1, d3.1, hDl.2, hDl2, w00, w1, w2, w3, w4, w5, go_sem]
    repeat' ((first | apply qa | apply qb | apply qc | apply qd | apply qe | apply qf | apply qg | apply qh | apply qi | apply qj | apply qk) <;> intro hp <;> simp only [hp, hc, h1.1, a1.1, b1.1, b2.1, b3.1, b4.1, d2.1, d3.1, hDl.2, hDl2, w00, w1, w2, w3, w4, w5, go_sem])
    simp only [fin_mk, finV, resL, resV1, resIn, endA, listIn, Option.some_or, Option.none_or, oneOrTup, go_sem]
    rw [← hr]
    simp only [e]; rfl
  · have e : lineD c = (⟨6, 0, 0, 0, 0, (drawO (belO c 9).2).1, false⟩, (drawO (belO c 9).2).2) := by
      unfold lineD
      simp [hk]
    rw [e] at hr
    have w00 : IntKind.i64.wrap (1 + (belO c 9).1) = 6 := by rw [w0, hk]; rfl
    simp only [hc, h1.1, a1.1, b1.1, b2.1, b3.1, b4.1, d2.1, d3.1, hDl.2, hDl2, w00, w1, w2, w3, w4, w5, go_sem]
    repeat' ((first | apply qa | apply qb | apply qc | apply qd | apply qe | apply qf | apply qg | apply qh | apply qi | apply qj | apply qk) <;> intro hp <;> simp only [hp, hc, h1.1, a1.1, b1.1, b2.1, b3.1, b4.1, d2.1, d3.1, hDl.2, hDl2, w00, w1, w2, w3, w4, w5, go_sem])
    simp only [fin_mk, finV, resL, resV1, resIn, endA, listIn, Option.some_or, Option.none_or, oneOrTup, go_sem]
    rw [← hr]
    simp only [e]; rfl
  · have e : lineD c = (⟨4, 0, 0, 0, 0, setAdd (drawO (belO c 9).2).1 3 4, false⟩, (drawO (belO c 9).2).2) := by
      unfold lineD
      simp [hk]
    rw [e] at hr
    have w00 : IntKind.i64.wrap (1 + (belO c 9).1) = 4 := by rw [w0, hk]; rfl
    simp only [hc, h1.1, a1.1, b1.1, b2.1, b3.1, b4.1, d2.1, d3.1, hDl.2, hDl2, w00, w1, w2, w3, w4, w5, go_sem]
    repeat' ((first | apply qa | apply qb | apply qc | apply qd | apply qe | apply qf | apply qg | apply qh | apply qi | apply qj | apply qk) <;> intro hp <;> simp only [hp, hc, h1.1, a1.1, b1.1, b2.1, b3.1, b4.1, d2.1, d3.1, hDl.2, hDl2, w00, w1, w2, w3, w4, w5, go_sem])
    simp only [fin_mk, finV, resL, resV1, resIn, endA, listIn, Option.some_or, Option.none_or, oneOrTup, go_sem]
    rw [← hr]
    simp only [e]; rfl
  · have e : lineD c = (⟨7, 0, 0, 0, 0, [], false⟩, (belO c 9).2) := by
      unfold lineD
      simp [hk]
    rw [e] at hr
    have w00 : IntKind.i64.wrap (1 + (belO c 9).1) = 7 := by rw [w0, hk]; rfl
    simp only [hc, h1.1, a1.1, b1.1, b2.1, b3.1, b4.1, d2.1, d3.1, hDl.2, hDl2, w00, w1, w2, w3, w4, w5, go_sem]
    repeat' ((first | apply qa | apply qb | apply qc | apply qd | apply qe | apply qf | apply qg | apply qh | apply qi | apply qj | apply qk) <;> intro hp <;> simp only [hp, hc, h1.1, a1.1, b1.1, b2.1, b3.1, b4.1, d2.1, d3.1, hDl.2, hDl2, w00, w1, w2, w3, w4, w5, go_sem])
    simp only [fin_mk, finV, resL, resV1, resIn, endA, listIn, Option.some_or, Option.none_or, oneOrTup, go_sem]
    rw [← hr]
    simp only [e]; rfl
  · have e : lineD c = (⟨9, 0, 0, 0, 0, [], false⟩, (belO c 9).2) := by
      unfold lineD
      simp [hk]
    rw [e] at hr
    have w00 : IntKind.i64.wrap (1 + (belO c 9).1) = 9 := by rw [w0, hk]; rfl
    simp only [hc, h1.1, a1.1, b1.1, b2.1, b3.1, b4.1, d2.1, d3.1, hDl.2, hDl2, w00, w1, w2, w3, w4, w5, go_sem]
    repeat' ((first | apply qa | apply qb | apply qc | apply qd | apply qe | apply qf | apply qg | apply qh | apply qi | apply qj | apply qk) <;> intro hp <;> simp only [hp, hc, h1.1, a1.1, b1.1, b2.1, b3.1, b4.1, d2.1, d3.1, hDl.2, hDl2, w00, w1, w2, w3, w4, w5, go_sem])
    simp only [fin_mk, finV, resL, resV1, resIn, endA, listIn, Option.some_or, Option.none_or, oneOrTup, go_sem]
    rw [← hr]
    simp only [e]; rfl
end Go.Proofs.YtonjbbfgdloljaaGreatDoor.L

namespace Go.Proofs.YtonjbbfgdloljaaGreatDoor.L
open Go Go.VM
set_option maxRecDepth 100000
set_option maxHeartbeats 4000000
set_option linter.unusedSimpArgs false
set_option linter.unusedVariables false
def fillL : Nat → Nat → Cur → List Range → List Range × Cur
  | 0, _, c, s => (s, c)
  | f + 1, i, c, s => if (s.length : Int) < 40 + (belO c 2).1 then fillL f (i + 1) (belO c 2).2 (s ++ [⟨100 + 3 * (i : Int), 101 + 3 * (i : Int)⟩]) else (s, (belO c 2).2)
theorem fillL_in : ∀ (f i : Nat) {c : Cur} {s : List Range}, curI c → s.length ≤ 41 → (fillL f i c s).1.length ≤ 41 ∧ curI (fillL f i c s).2
  | 0, i, c, s, hc, hs => ⟨hs, hc⟩
  | f + 1, i, c, s, hc, hs => by
    have h1 := belO_in (n := 2) hc
    have h2 := h1.2.2 (by decide)
    rw [fillL]
    split
    · exact fillL_in f (i + 1) h1.1 (by simp; omega)
    · exact ⟨hs, h1.1⟩
def anyS (c : Cur) : List Range × Cur :=
  let d := drawO c
  let k := belO d.2 10
  if k.1 = 0 then (d.1 ++ [⟨(pickI k.2 [0, 5, 9998]).1, (pickI (pickI k.2 [0, 5, 9998]).2 [4, 9999, 10000]).1⟩], (pickI (pickI k.2 [0, 5, 9998]).2 [4, 9999, 10000]).2) else
  if k.1 = 1 then (⟨1, 1⟩ :: d.1, k.2) else
  if k.1 = 2 then fillL 42 0 k.2 d.1 else (d.1, k.2)
theorem anyS_in {c : Cur} (h : curI c) : (anyS c).1.length ≤ 41 ∧ curI (anyS c).2 := by
  have h1 := drawO_in h
  have h2 := belO_in (n := 10) h1.2
  have h3 := pickI_in (l := [0, 5, 9998]) h2.1 (by decide)
  have h4 := pickI_in (l := [4, 9999, 10000]) h3.1 (by decide)
  unfold anyS
  simp only
  split
  · exact ⟨by simp; omega, h4.1⟩
  · split
    · exact ⟨by simp; omega, h2.1⟩
    · split
      · exact fillL_in _ _ h2.1 (by omega)
      · exact ⟨by simp only; omega, h2.1⟩
open Classical in
noncomputable def spAnyS : VM.Spec := { modes := [.ptr], run := fun | [.rptr (c')] => (Cur.dec c').bind fun c => if curI c then some (.lst 2 (((anyS c).1).map Range.enc), [.rptr (Cur.enc ((anyS c).2))]) else none | _ => none, need := [] }
attribute [go_sem] spAnyS
theorem spAnyS_in {ins : List V} {r : V} {outs : List V} (h : spAnyS.run ins = some (r, outs)) : ∃ (c : Cur), ins = [.rptr (Cur.enc c)] ∧ (curI c) ∧ .lst 2 (((anyS c).1).map Range.enc) = r ∧ outs = [.rptr (Cur.enc ((anyS c).2))] := by
  unfold spAnyS at h
  simp only at h
  split at h
  · rename_i c'
    simp only [Option.bind_eq_some_iff] at h
    obtain ⟨c, h_c, h⟩ := h
    split at h
    case isFalse => cases h
    rename_i hc
    simp only [Option.some.injEq, Prod.mk.injEq] at h
    obtain ⟨h1, h2⟩ := h
    have h_c := Cur.dec_some h_c
    subst h_c
    exact ⟨c, rfl, hc, h1, h2.symm⟩
  · cases h
def T_spec_l05Any : Hints := ⟨lk [], lk [(9, [0, 3, 4])], lk [(0, [0]), (1, [0, 3]), (2, [0, 3, 10]), (3, [0, 3, 10, 11]), (4, [3]), (5, [0, 3, 10, 23]), (6, [3]), (7, [0, 3, 29]), (8, [0, 3, 4]), (9, [0, 3, 4, 36]), (11, [0, 3, 4]), (10, [0, 3, 4]), (12, [2])], lk []⟩
noncomputable def Phi_spec_l05Any : Tab := lk [(93, spDraw), (31, spBelow), (111, spPickI)]
attribute [go_sem] T_spec_l05Any Phi_spec_l05Any
theorem phi_spec_l05Any : ∀ f sp, Phi_spec_l05Any f = some sp → FnOk Tryz.prog f sp ∧ ∀ n ∈ sp.need, n ∈ ([] : List String) := phi_cons ok_spec_l05Draw (n0 rfl) (phi_cons ok_spec_l01Below (n0 rfl) (phi_cons ok_spec_l01PickInt (n0 rfl) (phi_nil)))
theorem ok_spec_l05Any : FnOk Tryz.prog 72 spAnyS := by
  refine fn_ok (Φ := Phi_spec_l05Any) (T := T_spec_l05Any) phi_spec_l05Any mixed Tryz.func72 rfl rfl rfl (by decide) ?_
  intro ins r outs hr hl
  clear hl
  have hs := spAnyS_in hr
  clear hr
  obtain ⟨c, rfl, hc, hr, rfl⟩ := hs
  simp only [spAnyS, Tryz.f72, Go.VM.initS]
  have h1 := drawO_in hc
  obtain ⟨⟨S, d⟩, eS⟩ : ∃ x, drawO c = x := ⟨_, rfl⟩
  rw [eS] at h1
  have h2 := belO_in (n := 10) h1.2
  obtain ⟨⟨v, k⟩, ev⟩ : ∃ x, belO d 10 = x := ⟨_, rfl⟩
  simp only at h1 h2
  rw [ev] at h2
  have h3 := pickI_in (l := [0, 5, 9998]) h2.1 (by decide)
  obtain ⟨⟨x, k2⟩, ex⟩ : ∃ x, pickI k [0, 5, 9998] = x := ⟨_, rfl⟩
  simp only at h2 h3
  rw [ex] at h3
  have h4 := pickI_in (l := [4, 9999, 10000]) h3.1 (by decide)
  obtain ⟨⟨y, k3⟩, ey⟩ : ∃ x, pickI k2 [4, 9999, 10000] = x := ⟨_, rfl⟩
  simp only at h3 h4
  rw [ey] at h4
  simp only at h4
  have q1 : S.length + 1 ≤ 9223372036854775807 := by omega
  have q2 : (S.length + 1) * 16 ≤ 140737488355328 := by omega
  have q3 : S.length * 16 ≤ 140737488355328 := by omega
  have q4 : S.length ≤ 9223372036854775806 := by omega
  have q6 : (1 + S.length) * 16 ≤ 140737488355328 := by omega
  have q7 : 1 + S.length ≤ 9223372036854775807 := by omega
  have q5 : S.length ≤ 9223372036854775807 := by omega
  by_cases k0 : v = 0
  · subst k0
    have e : anyS c = (S ++ [⟨x, y⟩], k3) := by simp [anyS, eS, ev, ex, ey]
    rw [e] at hr
    simp only [hc, eS, ev, ex, ey, h1.2, h2.1, h3.1, h4.1, q1, q2, q3, q4, q5, q6, q7, go_sem]
    repeat' ((first | apply qa | apply qb | apply qc | apply qd | apply qe | apply qf | apply qg | apply qh | apply qi | apply qj | apply qk) <;> intro hp <;> simp only [hp, hc, eS, ev, ex, ey, h1.2, h2.1, h3.1, h4.1, q1, q2, q3, q4, q5, q6, q7, go_sem])
    simp only [fin_mk, finV, resL, resV1, resIn, endA, listIn, Option.some_or, Option.none_or, oneOrTup, go_sem]
    rw [← hr]
    first | rfl | (simp only [e, List.map_append]; rfl) | simp only [e, List.map_append]
  · by_cases k1 : v = 1
    · subst k1
      have e : anyS c = (⟨1, 1⟩ :: S, k) := by simp [anyS, eS, ev]
      rw [e] at hr
      simp only [hc, eS, ev, h1.2, h2.1, q1, q2, q3, q4, q5, q6, q7, go_sem]
      repeat' ((first | apply qa | apply qb | apply qc | apply qd | apply qe | apply qf | apply qg | apply qh | apply qi | apply qj | apply qk) <;> intro hp <;> simp only [hp, hc, eS, ev, h1.2, h2.1, q1, q2, q3, q4, q5, q6, q7, go_sem])
      simp only [fin_mk, finV, resL, resV1, resIn, endA, listIn, Option.some_or, Option.none_or, oneOrTup, go_sem]
      rw [← hr]
      first | rfl | (simp only [e]; rfl) | simp only [e]
    · have n0 : (v == 0) = false := beq_eq_false_iff_ne.2 k0
      have n1 : (v == 1) = false := beq_eq_false_iff_ne.2 k1
      by_cases k2' : v = 2
      · subst k2'
        obtain ⟨⟨RS, RC⟩, hR⟩ : ∃ R, fillL 42 0 k S = R := ⟨_, rfl⟩
        have e : anyS c = (RS, RC) := by simp [anyS, eS, ev, hR]
        rw [e] at hr
        have n2 : ((2 : Int) == 0) = false := by decide
        have n3 : ((2 : Int) == 1) = false := by decide
        simp only [hc, e, eS, ev, h1.2, h2.1, n2, n3, q1, q2, q3, q4, q5, q6, q7, go_sem]
        repeat' ((first | apply qa | apply qb | apply qc | apply qd | apply qe | apply qf | apply qg | apply qh | apply qi | apply qj | apply qk) <;> intro hp <;> simp only [hp, hc, e, eS, ev, h1.2, h2.1, n2, n3, q1, q2, q3, q4, q5, q6, q7, go_sem])
        refine loop_go (fun p : Nat × Cur × List Range => [(4, .int .i64 (p.1 : Int))]) (fun p => [(0, ⟨.box, 3, [p.2.1.enc]⟩), (1, ⟨.arr, 2, p.2.2.map Range.enc⟩)]) (fun p => 42 - p.1) (fun p => p.1 ≤ 41 ∧ curI p.2.1 ∧ p.2.2.length = S.length + p.1 ∧ p.2.2.length ≤ 41 ∧ fillL (42 - p.1) p.1 p.2.1 p.2.2 = (RS, RC)) (0, k, S) ⟨by omega, h2.1, rfl, by simp only; omega, hR⟩ rfl rfl ?_
        rintro ⟨i, d', a⟩ ⟨hi, hd, hl, hl2, he⟩ ih
        simp only at hi hd hl hl2 he ih
        have g1 := belO_in (n := 2) hd
        have gv := g1.2.2 (by decide)
        rw [show 42 - i = (42 - (i + 1)) + 1 by omega, fillL] at he
        obtain ⟨⟨v1, c1⟩, e1⟩ : ∃ x, belO d' 2 = x := ⟨_, rfl⟩
        rw [e1] at g1 gv he
        simp only at g1 gv he
        have w0 : IntKind.i64.wrap (40 + v1) = 40 + v1 := wrap64 (by omega) (by omega)
        by_cases g : (a.length : Int) < 40 + v1
        · rw [if_pos g] at he
          have ih' := ih (i + 1, c1, _) ⟨by omega, g1.1, by simp; omega, by simp; omega, he⟩ (by simp only; omega)
          simp only [List.map_append, List.map_cons, List.map_nil] at ih'
          have g5 : IntKind.i64.wrap ((i : Int) + 1) = ((i + 1 : Nat) : Int) := wrap_succ (n := 100) (by omega) (by omega)
          have w1 : IntKind.i64.wrap (3 * (i : Int)) = 3 * (i : Int) := wrap64 (by omega) (by omega)
          have w2 : IntKind.i64.wrap (100 + 3 * (i : Int)) = 100 + 3 * (i : Int) := wrap64 (by omega) (by omega)
          have w3 : IntKind.i64.wrap (101 + 3 * (i : Int)) = 101 + 3 * (i : Int) := wrap64 (by omega) (by omega)
          have r1 : (a.length + 1) * 16 ≤ 140737488355328 := by omega
          have r2 : a.length ≤ 9223372036854775806 := by omega
          simp only [hd, g1.1, e1, g, g5, w0, w1, w2, w3, r1, r2, go_sem]
          repeat' ((first | apply qa | apply qb | apply qc | apply qd | apply qe | apply qf | apply qg | apply qh | apply qi | apply qj | apply qk) <;> intro hp <;> simp only [hp, hd, g1.1, e1, g, g5, w0, w1, w2, w3, r1, r2, go_sem])
          all_goals first | exact ih' | (clear ih'; omega)
        · rw [if_neg g] at he
          simp only [Prod.mk.injEq] at he
          obtain ⟨rfl, rfl⟩ := he
          simp only [hd, e1, g, w0, go_sem]
          repeat' ((first | apply qa | apply qb | apply qc | apply qd | apply qe | apply qf | apply qg | apply qh | apply qi | apply qj | apply qk) <;> intro hp <;> simp only [hp, hd, e1, g, w0, go_sem])
          simp only [fin_mk, finV, resL, resV1, resIn, endA, listIn, Option.some_or, Option.none_or, oneOrTup, go_sem]
          rw [← hr]
      · have n2 : (v == 2) = false := beq_eq_false_iff_ne.2 k2'
        have e : anyS c = (S, k) := by simp [anyS, eS, ev, k0, k1, k2']
        rw [e] at hr
        simp only [hc, eS, ev, h1.2, h2.1, n0, n1, n2, q1, q2, q3, q4, q5, q6, q7, go_sem]
        repeat' ((first | apply qa | apply qb | apply qc | apply qd | apply qe | apply qf | apply qg | apply qh | apply qi | apply qj | apply qk) <;> intro hp <;> simp only [hp, hc, eS, ev, h1.2, h2.1, n0, n1, n2, q1, q2, q3, q4, q5, q6, q7, go_sem])
        simp only [fin_mk, finV, resL, resV1, resIn, endA, listIn, Option.some_or, Option.none_or, oneOrTup, go_sem]
        rw [← hr]
        first | rfl | (simp only [e]; rfl) | simp only [e]
end Go.Proofs.YtonjbbfgdloljaaGreatDoor.L

namespace Go.Proofs.YtonjbbfgdloljaaGreatDoor.L
open Go Go.VM
set_option maxRecDepth 100000
set_option maxHeartbeats 4000000
set_option linter.unusedSimpArgs false
set_option linter.unusedVariables false
theorem lineD_in {c : Cur} (h : curI c) : (lineD c).1.Set.length ≤ 41 ∧ curI (lineD c).2 := by
  have h1 := belO_in (n := 9) h
  have hD := drawO_in h1.1
  have a1 := belO_in (n := 9) h1.1
  have b1 := belO_in (n := 5) h1.1
  have b2 := belO_in (n := 20) b1.1
  have b3 := belO_in (n := 32) b2.1
  have b4 := belO_in (n := 30) b3.1
  have d2 := belO_in (n := 30) b1.1
  have d3 := belO_in (n := 2) d2.1
  have s := setAdd_len (drawO (belO c 9).2).1 3 4 hD.1
  unfold lineD
  simp only
  repeat' split
  all_goals first
    | exact ⟨by simp, a1.1⟩ | exact ⟨by simp, b4.1⟩ | exact ⟨by simp, d3.1⟩ | exact ⟨by simp, h1.1⟩
    | exact ⟨by simp only; omega, hD.2⟩
def lineA (c : Cur) : Line × Cur :=
  let k := belO c 12
  let y := belO k.2 60
  let x := lineD y.2
  if k.1 = 0 then ({ x.1 with Kind := y.1.tmod 11 }, x.2) else
  if k.1 = 1 then ({ x.1 with Num := ([-1, 0, 30, 31, 10000] : List Int).getD (y.1.tmod 5).toNat 0 }, x.2) else
  if k.1 = 2 then ({ x.1 with Uid := y.1 }, x.2) else
  if k.1 = 3 then ({ x.1 with All := true }, x.2) else
  if k.1 = 4 then ({ x.1 with Set := (anyS x.2).1 }, (anyS x.2).2) else x
theorem lineA_in {c : Cur} (h : curI c) : (lineA c).1.Set.length ≤ 41 ∧ curI (lineA c).2 := by
  have h1 := belO_in (n := 12) h
  have h2 := belO_in (n := 60) h1.1
  have h3 := lineD_in h2.1
  have h4 := anyS_in h3.2
  unfold lineA
  simp only
  repeat' split
  all_goals first | exact h3 | exact h4
open Classical in
noncomputable def spLineA : VM.Spec := { modes := [.ptr], run := fun | [.rptr (c')] => (Cur.dec c').bind fun c => if curI c then some (Line.enc ((lineA c).1), [.rptr (Cur.enc ((lineA c).2))]) else none | _ => none, need := [] }
attribute [go_sem] spLineA
theorem spLineA_in {ins : List V} {r : V} {outs : List V} (h : spLineA.run ins = some (r, outs)) : ∃ (c : Cur), ins = [.rptr (Cur.enc c)] ∧ (curI c) ∧ Line.enc ((lineA c).1) = r ∧ outs = [.rptr (Cur.enc ((lineA c).2))] := by
  unfold spLineA at h
  simp only at h
  split at h
  · rename_i c'
    simp only [Option.bind_eq_some_iff] at h
    obtain ⟨c, h_c, h⟩ := h
    split at h
    case isFalse => cases h
    rename_i hc
    simp only [Option.some.injEq, Prod.mk.injEq] at h
    obtain ⟨h1, h2⟩ := h
    have h_c := Cur.dec_some h_c
    subst h_c
    exact ⟨c, rfl, hc, h1, h2.symm⟩
  · cases h
def T_spec_l13Any : Hints := ⟨lk [], lk [], lk [(0, [0, 2]), (1, [0, 2, 3]), (2, [0, 2, 3, 4]), (3, [0, 2, 3, 4, 5]), (4, [0, 2, 4, 5, 12]), (5, [0, 2, 4, 5, 12, 13]), (6, [2, 5]), (7, [0, 2, 4, 5, 12, 18]), (8, [2, 5]), (9, [0, 2, 4, 5, 12, 26]), (10, [2, 5]), (11, [0, 2, 5, 12, 30]), (12, [2, 5]), (13, [0, 2, 5, 33]), (14, [2, 5]), (15, [2])], lk []⟩
noncomputable def Phi_spec_l13Any : Tab := lk [(31, spBelow), (71, spLineD), (72, spAnyS)]
attribute [go_sem] T_spec_l13Any Phi_spec_l13Any
theorem phi_spec_l13Any : ∀ f sp, Phi_spec_l13Any f = some sp → FnOk Tryz.prog f sp ∧ ∀ n ∈ sp.need, n ∈ ([] : List String) := phi_cons ok_spec_l01Below (n0 rfl) (phi_cons ok_spec_l13Line (n0 rfl) (phi_cons ok_spec_l05Any (n0 rfl) (phi_nil)))
theorem ok_spec_l13Any : FnOk Tryz.prog 25 spLineA := by
  refine fn_ok (Φ := Phi_spec_l13Any) (T := T_spec_l13Any) phi_spec_l13Any mixed Tryz.func25 rfl rfl rfl (by decide) ?_
  intro ins r outs hr hl
  clear hl
  have hs := spLineA_in hr
  clear hr
  obtain ⟨c, rfl, hc, hr, rfl⟩ := hs
  simp only [spLineA, Tryz.f25, Go.VM.initS]
  have h1 := belO_in (n := 12) hc
  obtain ⟨⟨k, c1⟩, e1⟩ : ∃ x, belO c 12 = x := ⟨_, rfl⟩
  rw [e1] at h1
  have h2 := belO_in (n := 60) h1.1
  obtain ⟨⟨y, c2⟩, e2⟩ : ∃ x, belO c1 60 = x := ⟨_, rfl⟩
  simp only at h1 h2
  rw [e2] at h2
  have h3 := lineD_in h2.1
  obtain ⟨⟨X, c3⟩, e3⟩ : ∃ x, lineD c2 = x := ⟨_, rfl⟩
  simp only at h2 h3
  rw [e3] at h3
  simp only at h3
  have h4 := anyS_in h3.2
  obtain ⟨K, N, U, F, M, S, A⟩ := X
  by_cases k0 : k = 0
  · subst k0
    have e : lineA c = (⟨y.tmod 11, N, U, F, M, S, A⟩, c3) := by simp [lineA, e1, e2, e3]
    rw [e] at hr
    simp only [hc, e1, e2, e3, h1.1, h2.1, h3.2, go_sem]
    repeat' ((first | apply qa | apply qb | apply qc | apply qd | apply qe | apply qf | apply qg | apply qh | apply qi | apply qj | apply qk) <;> intro hp <;> simp only [hp, hc, e1, e2, e3, h1.1, h2.1, h3.2, go_sem])
    simp only [fin_mk, finV, resL, resV1, resIn, endA, listIn, Option.some_or, Option.none_or, oneOrTup, go_sem]
    rw [← hr]
    first | rfl | (simp only [e]; rfl) | simp only [e]
  by_cases k1 : k = 1
  · subst k1
    have e : lineA c = (⟨K, ([-1, 0, 30, 31, 10000] : List Int).getD (y.tmod 5).toNat 0, U, F, M, S, A⟩, c3) := by simp [lineA, e1, e2, e3]
    have m1 := Int.tmod_nonneg 5 h2.2.1
    have m2 := Int.tmod_lt_of_pos y (show (0 : Int) < 5 by decide)
    have m3 : (y.tmod 5).toNat < ([-1, 0, 30, 31, 10000] : List Int).length := by simp only [List.length_cons, List.length_nil]; omega
    obtain ⟨j, hj⟩ : ∃ j : Nat, y.tmod 5 = j := ⟨(y.tmod 5).toNat, by omega⟩
    rw [e] at hr
    rw [hj] at m1 m2 m3 hr e
    simp only [Int.toNat_natCast] at m3 hr e
    have m4 : ([-1, 0, 30, 31, 10000] : List Int)[j]? = some (([-1, 0, 30, 31, 10000] : List Int).getD j 0) := by rw [getD_lt m3]; exact List.getElem?_eq_getElem m3
    obtain ⟨N', hN⟩ : ∃ N', ([-1, 0, 30, 31, 10000] : List Int).getD j 0 = N' := ⟨_, rfl⟩
    rw [hN] at m4 hr e
    have m5 : ([V.int .i64 (-1), V.int .i64 0, V.int .i64 30, V.int .i64 31, V.int .i64 10000] : List V)[j]? = some (V.int .i64 N') := by
      have : ([V.int .i64 (-1), V.int .i64 0, V.int .i64 30, V.int .i64 31, V.int .i64 10000] : List V) = ([-1, 0, 30, 31, 10000] : List Int).map eInt := rfl
      rw [this, List.getElem?_map, m4]; rfl
    have m6 : (j : Int) < ((5 : Nat) : Int) := m2
    simp only [hc, e1, e2, e3, h1.1, h2.1, h3.2, hj, m1, m2, m5, m6, go_sem]
    repeat' ((first | apply qa | apply qb | apply qc | apply qd | apply qe | apply qf | apply qg | apply qh | apply qi | apply qj | apply qk) <;> intro hp <;> simp only [hp, hc, e1, e2, e3, h1.1, h2.1, h3.2, hj, m1, m2, m5, m6, go_sem])
    simp only [fin_mk, finV, resL, resV1, resIn, endA, listIn, Option.some_or, Option.none_or, oneOrTup, go_sem]
    rw [← hr]
    first | rfl | (simp only [e]; rfl) | simp only [e]
  by_cases k2 : k = 2
  · subst k2
    have e : lineA c = (⟨K, N, y, F, M, S, A⟩, c3) := by simp [lineA, e1, e2, e3]
    rw [e] at hr
    simp only [hc, e1, e2, e3, h1.1, h2.1, h3.2, go_sem]
    repeat' ((first | apply qa | apply qb | apply qc | apply qd | apply qe | apply qf | apply qg | apply qh | apply qi | apply qj | apply qk) <;> intro hp <;> simp only [hp, hc, e1, e2, e3, h1.1, h2.1, h3.2, go_sem])
    simp only [fin_mk, finV, resL, resV1, resIn, endA, listIn, Option.some_or, Option.none_or, oneOrTup, go_sem]
    rw [← hr]
    first | rfl | (simp only [e]; rfl) | simp only [e]
  by_cases k3 : k = 3
  · subst k3
    have e : lineA c = (⟨K, N, U, F, M, S, true⟩, c3) := by simp [lineA, e1, e2, e3]
    rw [e] at hr
    simp only [hc, e1, e2, e3, h1.1, h2.1, h3.2, go_sem]
    repeat' ((first | apply qa | apply qb | apply qc | apply qd | apply qe | apply qf | apply qg | apply qh | apply qi | apply qj | apply qk) <;> intro hp <;> simp only [hp, hc, e1, e2, e3, h1.1, h2.1, h3.2, go_sem])
    simp only [fin_mk, finV, resL, resV1, resIn, endA, listIn, Option.some_or, Option.none_or, oneOrTup, go_sem]
    rw [← hr]
    first | rfl | (simp only [e]; rfl) | simp only [e]
  by_cases k4 : k = 4
  · subst k4
    have e : lineA c = (⟨K, N, U, F, M, (anyS c3).1, A⟩, (anyS c3).2) := by simp [lineA, e1, e2, e3]
    rw [e] at hr
    simp only [hc, e1, e2, e3, h1.1, h2.1, h3.2, h4.2, go_sem]
    repeat' ((first | apply qa | apply qb | apply qc | apply qd | apply qe | apply qf | apply qg | apply qh | apply qi | apply qj | apply qk) <;> intro hp <;> simp only [hp, hc, e1, e2, e3, h1.1, h2.1, h3.2, h4.2, go_sem])
    simp only [fin_mk, finV, resL, resV1, resIn, endA, listIn, Option.some_or, Option.none_or, oneOrTup, go_sem]
    rw [← hr]
    first | rfl | (simp only [e]; rfl) | simp only [e]
  have n0 : (k == 0) = false := beq_eq_false_iff_ne.2 k0
  have n1 : (k == 1) = false := beq_eq_false_iff_ne.2 k1
  have n2 : (k == 2) = false := beq_eq_false_iff_ne.2 k2
  have n3 : (k == 3) = false := beq_eq_false_iff_ne.2 k3
  have n4 : (k == 4) = false := beq_eq_false_iff_ne.2 k4
  have e : lineA c = (⟨K, N, U, F, M, S, A⟩, c3) := by simp [lineA, e1, e2, e3, k0, k1, k2, k3, k4]
  rw [e] at hr
  simp only [hc, e1, e2, e3, h1.1, h2.1, h3.2, n0, n1, n2, n3, n4, go_sem]
  repeat' ((first | apply qa | apply qb | apply qc | apply qd | apply qe | apply qf | apply qg | apply qh | apply qi | apply qj | apply qk) <;> intro hp <;> simp only [hp, hc, e1, e2, e3, h1.1, h2.1, h3.2, n0, n1, n2, n3, n4, go_sem])
  simp only [fin_mk, finV, resL, resV1, resIn, endA, listIn, Option.some_or, Option.none_or, oneOrTup, go_sem]
  rw [← hr]
  first | rfl | (simp only [e]; rfl) | simp only [e]
open Classical in
noncomputable def spDrawTakeLine : VM.Spec := { modes := [.rd], run := fun | [.lst 1 code'] => (decL dU8 code').bind fun code => if code.length ≤ 4194304 then some (.tup [.lst 3 (((seensL 8 0 (lineA (cur0 code)).2 []).1).map Seen.enc), Line.enc ((lineA (cur0 code)).1)], []) else none | _ => none, need := [] }
attribute [go_sem] spDrawTakeLine
theorem spDrawTakeLine_in {ins : List V} {r : V} {outs : List V} (h : spDrawTakeLine.run ins = some (r, outs)) : ∃ (code : (List Int)), ins = [.lst 1 ((code).map eU8)] ∧ (code.length ≤ 4194304) ∧ .tup [.lst 3 (((seensL 8 0 (lineA (cur0 code)).2 []).1).map Seen.enc), Line.enc ((lineA (cur0 code)).1)] = r ∧ outs = [] := by
  unfold spDrawTakeLine at h
  simp only at h
  split at h
  · rename_i code'
    simp only [Option.bind_eq_some_iff] at h
    obtain ⟨code, h_code, h⟩ := h
    split at h
    case isFalse => cases h
    rename_i hc
    simp only [Option.some.injEq, Prod.mk.injEq] at h
    obtain ⟨h1, h2⟩ := h
    have h_code := decL_some (fun _ _ h => dU8_some h) h_code
    subst h_code
    exact ⟨code, rfl, hc, h1, h2.symm⟩
  · cases h
theorem seen_beq (a b : Seen) : (a.Uid == b.Uid && (a.Flags == b.Flags && a.Mod == b.Mod)) = decide (a = b) := by
  cases a; cases b; rw [Bool.eq_iff_iff]; simp
open Classical in
noncomputable def spSameSeens : VM.Spec := { modes := [.rd, .rd], run := fun | [.lst 3 x', .lst 3 y'] => (decL Seen.dec x').bind fun x => (decL Seen.dec y').bind fun y => if x.length ≤ 4194304 ∧ y.length ≤ 4194304 then some (.bool (decide (x = y)), []) else none | _ => none, need := [] }
attribute [go_sem] spSameSeens
theorem spSameSeens_in {ins : List V} {r : V} {outs : List V} (h : spSameSeens.run ins = some (r, outs)) : ∃ (x : (List Seen)) (y : (List Seen)), ins = [.lst 3 ((x).map Seen.enc), .lst 3 ((y).map Seen.enc)] ∧ (x.length ≤ 4194304 ∧ y.length ≤ 4194304) ∧ .bool (decide (x = y)) = r ∧ outs = [] := by
  unfold spSameSeens at h
  simp only at h
  split at h
  · rename_i x' y'
    simp only [Option.bind_eq_some_iff] at h
    obtain ⟨x, h_x, y, h_y, h⟩ := h
    split at h
    case isFalse => cases h
    rename_i hc
    simp only [Option.some.injEq, Prod.mk.injEq] at h
    obtain ⟨h1, h2⟩ := h
    have h_x := decL_some (fun _ _ h => Seen.dec_some h) h_x
    subst h_x
    have h_y := decL_some (fun _ _ h => Seen.dec_some h) h_y
    subst h_y
    exact ⟨x, y, rfl, hc, h1, h2.symm⟩
  · cases h
end Go.Proofs.YtonjbbfgdloljaaGreatDoor.L

namespace Go.Proofs.YtonjbbfgdloljaaGreatDoor.L
open Go Go.VM
set_option maxRecDepth 100000
set_option maxHeartbeats 4000000
set_option linter.unusedSimpArgs false
set_option linter.unusedVariables false
def tStar : List UInt8 := [42, 32]
def tExists : List UInt8 := [32, 101, 120, 105, 115, 116, 115]
def tExpunge : List UInt8 := [32, 101, 120, 112, 117, 110, 103, 101]
def tFetch : List UInt8 := [32, 102, 101, 116, 99, 104, 32, 40, 117, 105, 100, 32]
def tFlags : List UInt8 := [32, 102, 108, 97, 103, 115, 32]
def tMod : List UInt8 := [32, 109, 111, 100, 115, 101, 113, 32]
def tVanished : List UInt8 := [42, 32, 118, 97, 110, 105, 115, 104, 101, 100, 32]
def tValid : List UInt8 := [42, 32, 118, 97, 108, 105, 100, 32]
def tAll : List UInt8 := [32, 97, 108, 108]
def tSearch : List UInt8 := [42, 32, 115, 101, 97, 114, 99, 104]
def tNo : List UInt8 := [110, 111, 32]
def lineText (x : Line) : List UInt8 :=
  if lineOk x = true then
    (if x.Kind = 1 then tStar ++ (Lib.itoa x.Num ++ tExists)
    else if x.Kind = 2 then tStar ++ (Lib.itoa x.Num ++ tExpunge)
    else if x.Kind = 3 then tStar ++ (Lib.itoa x.Num ++ (tFetch ++ (Lib.itoa x.Uid ++ (tFlags ++ (flagsText x.Flags ++ (tMod ++ (Lib.itoa x.Mod ++ [41])))))))
    else if x.Kind = 4 then tVanished ++ setText x.Set
    else if x.Kind = 5 then tValid ++ (Lib.itoa x.Num ++ (tMod ++ (Lib.itoa x.Mod ++ (if x.All = true then tAll else []))))
    else if x.Kind = 6 then (if x.Set = [] then tSearch else tSearch ++ (32 :: setText x.Set))
    else if x.Kind = 8 then tNo ++ Lib.itoa x.Num
    else if x.Kind = 9 then [98, 121, 101]
    else [111, 107])
  else []
theorem lineOk_parts {x : Line} (h : lineOk x = true) : (1 ≤ x.Kind ∧ x.Kind ≤ 9) ∧ (0 ≤ x.Num ∧ x.Num ≤ 9999) ∧ (0 ≤ x.Uid ∧ x.Uid ≤ 9999) ∧ (0 ≤ x.Mod ∧ x.Mod ≤ 100000) := by
  have key : ∀ a lo hi : Int, within a lo hi = true → lo ≤ a ∧ a ≤ hi := fun a lo hi h => by simpa only [within, Bool.and_eq_true, decide_eq_true_eq] using h
  unfold lineOk at h
  repeat' split at h
  all_goals first | (cases h; done) | skip
  all_goals
    simp only [Bool.and_eq_true, beq_iff_eq] at h
    (try simp only [within, Bool.and_eq_true, decide_eq_true_eq] at h)
    omega
open Classical in
noncomputable def spLineText : VM.Spec := { modes := [.rd], run := fun | [x'] => (Line.dec x').bind fun x => if x.le 4194304 then some (.tup [.str (lineText x), .bool (lineOk x)], []) else none | _ => none, need := ["internal/strconv.uint64pow10"] }
attribute [go_sem] spLineText
theorem spLineText_in {ins : List V} {r : V} {outs : List V} (h : spLineText.run ins = some (r, outs)) : ∃ (x : Line), ins = [Line.enc x] ∧ (x.le 4194304) ∧ .tup [.str (lineText x), .bool (lineOk x)] = r ∧ outs = [] := by
  unfold spLineText at h
  simp only at h
  split at h
  · rename_i x'
    simp only [Option.bind_eq_some_iff] at h
    obtain ⟨x, h_x, h⟩ := h
    split at h
    case isFalse => cases h
    rename_i hc
    simp only [Option.some.injEq, Prod.mk.injEq] at h
    obtain ⟨h1, h2⟩ := h
    have h_x := Line.dec_some h_x
    subst h_x
    exact ⟨x, rfl, hc, h1, h2.symm⟩
  · cases h
def T_impl_LineText : Hints := ⟨lk [(3, [(2, 3), (2, 4)]), (10, [(5, 8), (5, 9)])], lk [], lk [(0, [1]), (1, [1, 8]), (2, [2, 3]), (3, [1, 4, 5]), (4, [1, 4, 5, 16]), (5, [1, 4, 5, 16, 17]), (6, [2, 3]), (7, [1, 4, 5, 16, 22]), (8, [2, 3]), (9, [1, 4, 5, 16, 27]), (10, [2, 3]), (11, [1, 4, 5, 16, 45]), (12, [2, 3]), (13, [1, 4, 5, 16, 51]), (14, [4, 5, 54]), (15, [4, 5]), (16, [2, 3]), (17, [1, 4, 16, 62]), (18, [1, 67]), (19, [2, 3]), (20, [2, 3]), (21, [4, 16, 72]), (22, [2, 3]), (23, [76]), (24, [2, 3]), (25, [2, 3])], lk []⟩
noncomputable def Phi_impl_LineText : Tab := lk [(13, spLineOk), (27, spDecimal), (28, spFlagsText), (29, spSetText)]
attribute [go_sem] T_impl_LineText Phi_impl_LineText
theorem phi_impl_LineText : ∀ f sp, Phi_impl_LineText f = some sp → FnOk Tryz.prog f sp ∧ ∀ n ∈ sp.need, n ∈ (["internal/strconv.uint64pow10"] : List String) := phi_cons ok_impl_LineOk (n0 rfl) (phi_cons ok_impl_Decimal (fun n (h : n ∈ (["internal/strconv.uint64pow10"] : List String)) => by simp only [List.mem_cons, List.not_mem_nil, or_false] at h; rcases h with rfl <;> simp) (phi_cons ok_impl_FlagsText (n0 rfl) (phi_cons ok_impl_SetText (fun n (h : n ∈ (["internal/strconv.uint64pow10"] : List String)) => by simp only [List.mem_cons, List.not_mem_nil, or_false] at h; rcases h with rfl <;> simp) (phi_nil))))
theorem ok_impl_LineText : FnOk Tryz.prog 7 spLineText := by
  refine fn_ok (Φ := Phi_impl_LineText) (T := T_impl_LineText) phi_impl_LineText mixed Tryz.func7 rfl rfl rfl (by decide) ?_
  intro ins r outs hr hl
  clear hl
  have hs := spLineText_in hr
  clear hr
  obtain ⟨x, rfl, hc, hr, rfl⟩ := hs
  simp only [spLineText, Tryz.f7, Go.VM.initS]
  cases hk : lineOk x with
  | false =>
    simp only [hc, hk, go_sem]
    repeat' ((first | ((first | apply qa | apply qb | apply qc | apply qd | apply qe | apply qf | apply qg | apply qh | apply qi | apply qj | apply qk) <;> intro hp) | ((first | refine ql rfl rfl (by decide +kernel) ?_ | refine qm _ rfl rfl (by decide +kernel) ?_) <;> have hp := True.intro)) <;> simp only [hp, hc, hk, go_sem])
    simp only [fin_mk, finV, resL, resV1, resIn, endA, listIn, Option.some_or, Option.none_or, oneOrTup, go_sem]
    rw [← hr]
    simp only [lineText, hk, Bool.false_eq_true, if_false]
  | true =>
    obtain ⟨⟨k1, k2⟩, ⟨n1, n2⟩, ⟨u1, u2⟩, ⟨m1, m2⟩⟩ := lineOk_parts hk
    have hxs : x.Set.length ≤ 4194304 := hc.1
    obtain ⟨K, N, U, F, M, S, A⟩ := x
    simp only at k1 k2 n1 n2 u1 u2 m1 m2 hxs
    have hst := setText_len S
    have hft := flagsText_len F
    have a2 : N ≤ 1000000000 := by omega
    have a4 : U ≤ 1000000000 := by omega
    have a6 : M ≤ 1000000000 := by omega
    have l1 := itoa10 n1 a2
    have l2 := itoa10 u1 a4
    have l3 := itoa10 m1 a6
    have hcases : K = 1 ∨ K = 2 ∨ K = 3 ∨ K = 4 ∨ K = 5 ∨ K = 6 ∨ K = 7 ∨ K = 8 ∨ K = 9 := by omega
    simp only [lineText, hk, if_true, tStar, tExists, tExpunge, tFetch, tFlags, tMod, tVanished, tValid, tAll, tSearch, tNo] at hr
    rcases hcases with rfl | rfl | rfl | rfl | rfl | rfl | rfl | rfl | rfl <;> simp only [Int.reduceEq, if_true, if_false, List.cons_append, List.nil_append] at hr
    · simp only [hc, hk, n1, a2, u1, a4, m1, a6, hxs, List.length_append, List.append_assoc, List.cons_append, List.nil_append, go_sem]
      repeat' ((first | ((first | apply qa | apply qb | apply qc | apply qd | apply qe | apply qf | apply qg | apply qh | apply qi | apply qj | apply qk) <;> intro hp) | ((first | refine ql rfl rfl (by decide +kernel) ?_ | refine qm _ rfl rfl (by decide +kernel) ?_) <;> have hp := True.intro)) <;> simp only [hp, hc, hk, n1, a2, u1, a4, m1, a6, hxs, List.length_append, List.append_assoc, List.cons_append, List.nil_append, go_sem])
      all_goals first
        | (clear hr; omega)
        | (simp only [fin_mk, finV, resL, resV1, resIn, endA, listIn, Option.some_or, Option.none_or, oneOrTup, go_sem]; rw [← hr])
    · simp only [hc, hk, n1, a2, u1, a4, m1, a6, hxs, List.length_append, List.append_assoc, List.cons_append, List.nil_append, go_sem]
      repeat' ((first | ((first | apply qa | apply qb | apply qc | apply qd | apply qe | apply qf | apply qg | apply qh | apply qi | apply qj | apply qk) <;> intro hp) | ((first | refine ql rfl rfl (by decide +kernel) ?_ | refine qm _ rfl rfl (by decide +kernel) ?_) <;> have hp := True.intro)) <;> simp only [hp, hc, hk, n1, a2, u1, a4, m1, a6, hxs, List.length_append, List.append_assoc, List.cons_append, List.nil_append, go_sem])
      all_goals first
        | (clear hr; omega)
        | (simp only [fin_mk, finV, resL, resV1, resIn, endA, listIn, Option.some_or, Option.none_or, oneOrTup, go_sem]; rw [← hr])
    · simp only [hc, hk, n1, a2, u1, a4, m1, a6, hxs, List.length_append, List.append_assoc, List.cons_append, List.nil_append, go_sem]
      repeat' ((first | ((first | apply qa | apply qb | apply qc | apply qd | apply qe | apply qf | apply qg | apply qh | apply qi | apply qj | apply qk) <;> intro hp) | ((first | refine ql rfl rfl (by decide +kernel) ?_ | refine qm _ rfl rfl (by decide +kernel) ?_) <;> have hp := True.intro)) <;> simp only [hp, hc, hk, n1, a2, u1, a4, m1, a6, hxs, List.length_append, List.append_assoc, List.cons_append, List.nil_append, go_sem])
      all_goals first
        | (clear hr; omega)
        | (simp only [fin_mk, finV, resL, resV1, resIn, endA, listIn, Option.some_or, Option.none_or, oneOrTup, go_sem]; rw [← hr])
    · simp only [hc, hk, n1, a2, u1, a4, m1, a6, hxs, List.length_append, List.append_assoc, List.cons_append, List.nil_append, go_sem]
      repeat' ((first | ((first | apply qa | apply qb | apply qc | apply qd | apply qe | apply qf | apply qg | apply qh | apply qi | apply qj | apply qk) <;> intro hp) | ((first | refine ql rfl rfl (by decide +kernel) ?_ | refine qm _ rfl rfl (by decide +kernel) ?_) <;> have hp := True.intro)) <;> simp only [hp, hc, hk, n1, a2, u1, a4, m1, a6, hxs, List.length_append, List.append_assoc, List.cons_append, List.nil_append, go_sem])
      all_goals first
        | (clear hr; omega)
        | (simp only [fin_mk, finV, resL, resV1, resIn, endA, listIn, Option.some_or, Option.none_or, oneOrTup, go_sem]; rw [← hr])
    · cases A with
      | true =>
        simp only [if_true] at hr
        simp only [hc, hk, n1, a2, u1, a4, m1, a6, hxs, List.length_append, List.append_assoc, List.cons_append, List.nil_append, go_sem]
        repeat' ((first | ((first | apply qa | apply qb | apply qc | apply qd | apply qe | apply qf | apply qg | apply qh | apply qi | apply qj | apply qk) <;> intro hp) | ((first | refine ql rfl rfl (by decide +kernel) ?_ | refine qm _ rfl rfl (by decide +kernel) ?_) <;> have hp := True.intro)) <;> simp only [hp, hc, hk, n1, a2, u1, a4, m1, a6, hxs, List.length_append, List.append_assoc, List.cons_append, List.nil_append, go_sem])
        all_goals first
          | (clear hr; omega)
          | (simp only [fin_mk, finV, resL, resV1, resIn, endA, listIn, Option.some_or, Option.none_or, oneOrTup, go_sem]; rw [← hr])
      | false =>
        simp only [Bool.false_eq_true, if_false, List.append_nil] at hr
        simp only [hc, hk, n1, a2, u1, a4, m1, a6, hxs, List.length_append, List.append_assoc, List.cons_append, List.nil_append, go_sem]
        repeat' ((first | ((first | apply qa | apply qb | apply qc | apply qd | apply qe | apply qf | apply qg | apply qh | apply qi | apply qj | apply qk) <;> intro hp) | ((first | refine ql rfl rfl (by decide +kernel) ?_ | refine qm _ rfl rfl (by decide +kernel) ?_) <;> have hp := True.intro)) <;> simp only [hp, hc, hk, n1, a2, u1, a4, m1, a6, hxs, List.length_append, List.append_assoc, List.cons_append, List.nil_append, go_sem])
        all_goals first
          | (clear hr; omega)
          | (simp only [fin_mk, finV, resL, resV1, resIn, endA, listIn, Option.some_or, Option.none_or, oneOrTup, go_sem]; rw [← hr])
    · by_cases hS0 : S = []
      · subst hS0
        have z0 : ¬ (0 : Int) < ((0 : Nat) : Int) := by decide
        simp only [if_true] at hr
        simp only [hc, hk, n1, a2, u1, a4, m1, a6, hxs, z0, List.length_append, List.append_assoc, List.cons_append, List.nil_append, go_sem]
        repeat' ((first | ((first | apply qa | apply qb | apply qc | apply qd | apply qe | apply qf | apply qg | apply qh | apply qi | apply qj | apply qk) <;> intro hp) | ((first | refine ql rfl rfl (by decide +kernel) ?_ | refine qm _ rfl rfl (by decide +kernel) ?_) <;> have hp := True.intro)) <;> simp only [hp, hc, hk, n1, a2, u1, a4, m1, a6, hxs, z0, List.length_append, List.append_assoc, List.cons_append, List.nil_append, go_sem])
        all_goals first
          | (clear hr; omega)
          | (simp only [fin_mk, finV, resL, resV1, resIn, endA, listIn, Option.some_or, Option.none_or, oneOrTup, go_sem]; rw [← hr])
      · have z0 : (0 : Int) < S.length := by
          have := List.length_pos_iff.2 hS0
          omega
        simp only [hS0, if_false] at hr
        simp only [hc, hk, n1, a2, u1, a4, m1, a6, hxs, z0, List.length_append, List.append_assoc, List.cons_append, List.nil_append, go_sem]
        repeat' ((first | ((first | apply qa | apply qb | apply qc | apply qd | apply qe | apply qf | apply qg | apply qh | apply qi | apply qj | apply qk) <;> intro hp) | ((first | refine ql rfl rfl (by decide +kernel) ?_ | refine qm _ rfl rfl (by decide +kernel) ?_) <;> have hp := True.intro)) <;> simp only [hp, hc, hk, n1, a2, u1, a4, m1, a6, hxs, z0, List.length_append, List.append_assoc, List.cons_append, List.nil_append, go_sem])
        all_goals first
          | (clear hr; omega)
          | (simp only [fin_mk, finV, resL, resV1, resIn, endA, listIn, Option.some_or, Option.none_or, oneOrTup, go_sem]; rw [← hr])
    · simp only [hc, hk, n1, a2, u1, a4, m1, a6, hxs, List.length_append, List.append_assoc, List.cons_append, List.nil_append, go_sem]
      repeat' ((first | ((first | apply qa | apply qb | apply qc | apply qd | apply qe | apply qf | apply qg | apply qh | apply qi | apply qj | apply qk) <;> intro hp) | ((first | refine ql rfl rfl (by decide +kernel) ?_ | refine qm _ rfl rfl (by decide +kernel) ?_) <;> have hp := True.intro)) <;> simp only [hp, hc, hk, n1, a2, u1, a4, m1, a6, hxs, List.length_append, List.append_assoc, List.cons_append, List.nil_append, go_sem])
      all_goals first
        | (clear hr; omega)
        | (simp only [fin_mk, finV, resL, resV1, resIn, endA, listIn, Option.some_or, Option.none_or, oneOrTup, go_sem]; rw [← hr])
    · simp only [hc, hk, n1, a2, u1, a4, m1, a6, hxs, List.length_append, List.append_assoc, List.cons_append, List.nil_append, go_sem]
      repeat' ((first | ((first | apply qa | apply qb | apply qc | apply qd | apply qe | apply qf | apply qg | apply qh | apply qi | apply qj | apply qk) <;> intro hp) | ((first | refine ql rfl rfl (by decide +kernel) ?_ | refine qm _ rfl rfl (by decide +kernel) ?_) <;> have hp := True.intro)) <;> simp only [hp, hc, hk, n1, a2, u1, a4, m1, a6, hxs, List.length_append, List.append_assoc, List.cons_append, List.nil_append, go_sem])
      all_goals first
        | (clear hr; omega)
        | (simp only [fin_mk, finV, resL, resV1, resIn, endA, listIn, Option.some_or, Option.none_or, oneOrTup, go_sem]; rw [← hr])
    · simp only [hc, hk, n1, a2, u1, a4, m1, a6, hxs, List.length_append, List.append_assoc, List.cons_append, List.nil_append, go_sem]
      repeat' ((first | ((first | apply qa | apply qb | apply qc | apply qd | apply qe | apply qf | apply qg | apply qh | apply qi | apply qj | apply qk) <;> intro hp) | ((first | refine ql rfl rfl (by decide +kernel) ?_ | refine qm _ rfl rfl (by decide +kernel) ?_) <;> have hp := True.intro)) <;> simp only [hp, hc, hk, n1, a2, u1, a4, m1, a6, hxs, List.length_append, List.append_assoc, List.cons_append, List.nil_append, go_sem])
      all_goals first
        | (clear hr; omega)
        | (simp only [fin_mk, finV, resL, resV1, resIn, endA, listIn, Option.some_or, Option.none_or, oneOrTup, go_sem]; rw [← hr])
def T_spec_LineText : Hints := ⟨lk [(10, [(5, 8), (5, 9), (5, 13), (10, 13), (5, 14), (10, 14)])], lk [], lk [(0, [1]), (1, [1, 8]), (2, [2, 3]), (3, [1, 4]), (4, [1, 4, 13]), (5, [1, 4, 13, 14]), (6, [2, 3]), (7, [1, 4, 13, 19]), (8, [2, 3]), (9, [1, 4, 13, 24]), (10, [2, 3]), (11, [1, 4, 13, 44]), (12, [2, 3]), (13, [1, 4, 13, 50]), (14, [1, 5]), (15, [5, 60]), (16, [5]), (17, [2, 3]), (18, [1, 4, 13, 64]), (19, [1, 69]), (20, [2, 3]), (21, [2, 3]), (22, [4, 13, 74]), (23, [2, 3]), (24, [78]), (25, [2, 3]), (26, [2, 3])], lk []⟩
noncomputable def Phi_spec_LineText : Tab := lk [(12, spLineOk), (35, spDecimal), (36, spFlagsText), (37, spSetText)]
attribute [go_sem] T_spec_LineText Phi_spec_LineText
theorem phi_spec_LineText : ∀ f sp, Phi_spec_LineText f = some sp → FnOk Tryz.prog f sp ∧ ∀ n ∈ sp.need, n ∈ (["internal/strconv.uint64pow10"] : List String) := phi_cons ok_spec_LineOk (n0 rfl) (phi_cons ok_spec_Decimal (fun n (h : n ∈ (["internal/strconv.uint64pow10"] : List String)) => by simp only [List.mem_cons, List.not_mem_nil, or_false] at h; rcases h with rfl <;> simp) (phi_cons ok_spec_FlagsText (n0 rfl) (phi_cons ok_spec_SetText (fun n (h : n ∈ (["internal/strconv.uint64pow10"] : List String)) => by simp only [List.mem_cons, List.not_mem_nil, or_false] at h; rcases h with rfl <;> simp) (phi_nil))))
theorem ok_spec_LineText : FnOk Tryz.prog 11 spLineText := by
  refine fn_ok (Φ := Phi_spec_LineText) (T := T_spec_LineText) phi_spec_LineText mixed Tryz.func11 rfl rfl rfl (by decide) ?_
  intro ins r outs hr hl
  clear hl
  have hs := spLineText_in hr
  clear hr
  obtain ⟨x, rfl, hc, hr, rfl⟩ := hs
  simp only [spLineText, Tryz.f11, Go.VM.initS]
  cases hk : lineOk x with
  | false =>
    simp only [hc, hk, go_sem]
    repeat' ((first | ((first | apply qa | apply qb | apply qc | apply qd | apply qe | apply qf | apply qg | apply qh | apply qi | apply qj | apply qk) <;> intro hp) | ((first | refine ql rfl rfl (by decide +kernel) ?_ | refine qm _ rfl rfl (by decide +kernel) ?_) <;> have hp := True.intro)) <;> simp only [hp, hc, hk, go_sem])
    simp only [fin_mk, finV, resL, resV1, resIn, endA, listIn, Option.some_or, Option.none_or, oneOrTup, go_sem]
    rw [← hr]
    simp only [lineText, hk, Bool.false_eq_true, if_false]
  | true =>
    obtain ⟨⟨k1, k2⟩, ⟨n1, n2⟩, ⟨u1, u2⟩, ⟨m1, m2⟩⟩ := lineOk_parts hk
    have hxs : x.Set.length ≤ 4194304 := hc.1
    obtain ⟨K, N, U, F, M, S, A⟩ := x
    simp only at k1 k2 n1 n2 u1 u2 m1 m2 hxs
    have hst := setText_len S
    have hft := flagsText_len F
    have a2 : N ≤ 1000000000 := by omega
    have a4 : U ≤ 1000000000 := by omega
    have a6 : M ≤ 1000000000 := by omega
    have l1 := itoa10 n1 a2
    have l2 := itoa10 u1 a4
    have l3 := itoa10 m1 a6
    have hcases : K = 1 ∨ K = 2 ∨ K = 3 ∨ K = 4 ∨ K = 5 ∨ K = 6 ∨ K = 7 ∨ K = 8 ∨ K = 9 := by omega
    simp only [lineText, hk, if_true, tStar, tExists, tExpunge, tFetch, tFlags, tMod, tVanished, tValid, tAll, tSearch, tNo] at hr
    rcases hcases with rfl | rfl | rfl | rfl | rfl | rfl | rfl | rfl | rfl <;> simp only [Int.reduceEq, if_true, if_false, List.cons_append, List.nil_append] at hr
    · simp only [hc, hk, n1, a2, u1, a4, m1, a6, hxs, List.length_append, List.append_assoc, List.cons_append, List.nil_append, go_sem]
      repeat' ((first | ((first | apply qa | apply qb | apply qc | apply qd | apply qe | apply qf | apply qg | apply qh | apply qi | apply qj | apply qk) <;> intro hp) | ((first | refine ql rfl rfl (by decide +kernel) ?_ | refine qm _ rfl rfl (by decide +kernel) ?_) <;> have hp := True.intro)) <;> simp only [hp, hc, hk, n1, a2, u1, a4, m1, a6, hxs, List.length_append, List.append_assoc, List.cons_append, List.nil_append, go_sem])
      all_goals first
        | (clear hr; omega)
        | (simp only [fin_mk, finV, resL, resV1, resIn, endA, listIn, Option.some_or, Option.none_or, oneOrTup, go_sem]; rw [← hr])
    · simp only [hc, hk, n1, a2, u1, a4, m1, a6, hxs, List.length_append, List.append_assoc, List.cons_append, List.nil_append, go_sem]
      repeat' ((first | ((first | apply qa | apply qb | apply qc | apply qd | apply qe | apply qf | apply qg | apply qh | apply qi | apply qj | apply qk) <;> intro hp) | ((first | refine ql rfl rfl (by decide +kernel) ?_ | refine qm _ rfl rfl (by decide +kernel) ?_) <;> have hp := True.intro)) <;> simp only [hp, hc, hk, n1, a2, u1, a4, m1, a6, hxs, List.length_append, List.append_assoc, List.cons_append, List.nil_append, go_sem])
      all_goals first
        | (clear hr; omega)
        | (simp only [fin_mk, finV, resL, resV1, resIn, endA, listIn, Option.some_or, Option.none_or, oneOrTup, go_sem]; rw [← hr])
    · simp only [hc, hk, n1, a2, u1, a4, m1, a6, hxs, List.length_append, List.append_assoc, List.cons_append, List.nil_append, go_sem]
      repeat' ((first | ((first | apply qa | apply qb | apply qc | apply qd | apply qe | apply qf | apply qg | apply qh | apply qi | apply qj | apply qk) <;> intro hp) | ((first | refine ql rfl rfl (by decide +kernel) ?_ | refine qm _ rfl rfl (by decide +kernel) ?_) <;> have hp := True.intro)) <;> simp only [hp, hc, hk, n1, a2, u1, a4, m1, a6, hxs, List.length_append, List.append_assoc, List.cons_append, List.nil_append, go_sem])
      all_goals first
        | (clear hr; omega)
        | (simp only [fin_mk, finV, resL, resV1, resIn, endA, listIn, Option.some_or, Option.none_or, oneOrTup, go_sem]; rw [← hr])
    · simp only [hc, hk, n1, a2, u1, a4, m1, a6, hxs, List.length_append, List.append_assoc, List.cons_append, List.nil_append, go_sem]
      repeat' ((first | ((first | apply qa | apply qb | apply qc | apply qd | apply qe | apply qf | apply qg | apply qh | apply qi | apply qj | apply qk) <;> intro hp) | ((first | refine ql rfl rfl (by decide +kernel) ?_ | refine qm _ rfl rfl (by decide +kernel) ?_) <;> have hp := True.intro)) <;> simp only [hp, hc, hk, n1, a2, u1, a4, m1, a6, hxs, List.length_append, List.append_assoc, List.cons_append, List.nil_append, go_sem])
      all_goals first
        | (clear hr; omega)
        | (simp only [fin_mk, finV, resL, resV1, resIn, endA, listIn, Option.some_or, Option.none_or, oneOrTup, go_sem]; rw [← hr])
    · cases A with
      | true =>
        simp only [if_true] at hr
        simp only [hc, hk, n1, a2, u1, a4, m1, a6, hxs, List.length_append, List.append_assoc, List.cons_append, List.nil_append, go_sem]
        repeat' ((first | ((first | apply qa | apply qb | apply qc | apply qd | apply qe | apply qf | apply qg | apply qh | apply qi | apply qj | apply qk) <;> intro hp) | ((first | refine ql rfl rfl (by decide +kernel) ?_ | refine qm _ rfl rfl (by decide +kernel) ?_) <;> have hp := True.intro)) <;> simp only [hp, hc, hk, n1, a2, u1, a4, m1, a6, hxs, List.length_append, List.append_assoc, List.cons_append, List.nil_append, go_sem])
        all_goals first
          | (clear hr; omega)
          | (simp only [fin_mk, finV, resL, resV1, resIn, endA, listIn, Option.some_or, Option.none_or, oneOrTup, go_sem]; rw [← hr])
      | false =>
        simp only [Bool.false_eq_true, if_false, List.append_nil] at hr
        simp only [hc, hk, n1, a2, u1, a4, m1, a6, hxs, List.length_append, List.append_assoc, List.cons_append, List.nil_append, go_sem]
        repeat' ((first | ((first | apply qa | apply qb | apply qc | apply qd | apply qe | apply qf | apply qg | apply qh | apply qi | apply qj | apply qk) <;> intro hp) | ((first | refine ql rfl rfl (by decide +kernel) ?_ | refine qm _ rfl rfl (by decide +kernel) ?_) <;> have hp := True.intro)) <;> simp only [hp, hc, hk, n1, a2, u1, a4, m1, a6, hxs, List.length_append, List.append_assoc, List.cons_append, List.nil_append, go_sem])
        all_goals first
          | (clear hr; omega)
          | (simp only [fin_mk, finV, resL, resV1, resIn, endA, listIn, Option.some_or, Option.none_or, oneOrTup, go_sem]; rw [← hr])
    · by_cases hS0 : S = []
      · subst hS0
        have z0 : (((0 : Nat) : Int) == 0) = true := rfl
        simp only [if_true] at hr
        simp only [hc, hk, n1, a2, u1, a4, m1, a6, hxs, z0, List.length_append, List.append_assoc, List.cons_append, List.nil_append, go_sem]
        repeat' ((first | ((first | apply qa | apply qb | apply qc | apply qd | apply qe | apply qf | apply qg | apply qh | apply qi | apply qj | apply qk) <;> intro hp) | ((first | refine ql rfl rfl (by decide +kernel) ?_ | refine qm _ rfl rfl (by decide +kernel) ?_) <;> have hp := True.intro)) <;> simp only [hp, hc, hk, n1, a2, u1, a4, m1, a6, hxs, z0, List.length_append, List.append_assoc, List.cons_append, List.nil_append, go_sem])
        all_goals first
          | (clear hr; omega)
          | (simp only [fin_mk, finV, resL, resV1, resIn, endA, listIn, Option.some_or, Option.none_or, oneOrTup, go_sem]; rw [← hr])
      · have z0 : ((S.length : Int) == 0) = false := by
          have := List.length_pos_iff.2 hS0
          rw [beq_eq_false_iff_ne]; omega
        simp only [hS0, if_false] at hr
        simp only [hc, hk, n1, a2, u1, a4, m1, a6, hxs, z0, List.length_append, List.append_assoc, List.cons_append, List.nil_append, go_sem]
        repeat' ((first | ((first | apply qa | apply qb | apply qc | apply qd | apply qe | apply qf | apply qg | apply qh | apply qi | apply qj | apply qk) <;> intro hp) | ((first | refine ql rfl rfl (by decide +kernel) ?_ | refine qm _ rfl rfl (by decide +kernel) ?_) <;> have hp := True.intro)) <;> simp only [hp, hc, hk, n1, a2, u1, a4, m1, a6, hxs, z0, List.length_append, List.append_assoc, List.cons_append, List.nil_append, go_sem])
        all_goals first
          | (clear hr; omega)
          | (simp only [fin_mk, finV, resL, resV1, resIn, endA, listIn, Option.some_or, Option.none_or, oneOrTup, go_sem]; rw [← hr])
    · simp only [hc, hk, n1, a2, u1, a4, m1, a6, hxs, List.length_append, List.append_assoc, List.cons_append, List.nil_append, go_sem]
      repeat' ((first | ((first | apply qa | apply qb | apply qc | apply qd | apply qe | apply qf | apply qg | apply qh | apply qi | apply qj | apply qk) <;> intro hp) | ((first | refine ql rfl rfl (by decide +kernel) ?_ | refine qm _ rfl rfl (by decide +kernel) ?_) <;> have hp := True.intro)) <;> simp only [hp, hc, hk, n1, a2, u1, a4, m1, a6, hxs, List.length_append, List.append_assoc, List.cons_append, List.nil_append, go_sem])
      all_goals first
        | (clear hr; omega)
        | (simp only [fin_mk, finV, resL, resV1, resIn, endA, listIn, Option.some_or, Option.none_or, oneOrTup, go_sem]; rw [← hr])
    · simp only [hc, hk, n1, a2, u1, a4, m1, a6, hxs, List.length_append, List.append_assoc, List.cons_append, List.nil_append, go_sem]
      repeat' ((first | ((first | apply qa | apply qb | apply qc | apply qd | apply qe | apply qf | apply qg | apply qh | apply qi | apply qj | apply qk) <;> intro hp) | ((first | refine ql rfl rfl (by decide +kernel) ?_ | refine qm _ rfl rfl (by decide +kernel) ?_) <;> have hp := True.intro)) <;> simp only [hp, hc, hk, n1, a2, u1, a4, m1, a6, hxs, List.length_append, List.append_assoc, List.cons_append, List.nil_append, go_sem])
      all_goals first
        | (clear hr; omega)
        | (simp only [fin_mk, finV, resL, resV1, resIn, endA, listIn, Option.some_or, Option.none_or, oneOrTup, go_sem]; rw [← hr])
    · simp only [hc, hk, n1, a2, u1, a4, m1, a6, hxs, List.length_append, List.append_assoc, List.cons_append, List.nil_append, go_sem]
      repeat' ((first | ((first | apply qa | apply qb | apply qc | apply qd | apply qe | apply qf | apply qg | apply qh | apply qi | apply qj | apply qk) <;> intro hp) | ((first | refine ql rfl rfl (by decide +kernel) ?_ | refine qm _ rfl rfl (by decide +kernel) ?_) <;> have hp := True.intro)) <;> simp only [hp, hc, hk, n1, a2, u1, a4, m1, a6, hxs, List.length_append, List.append_assoc, List.cons_append, List.nil_append, go_sem])
      all_goals first
        | (clear hr; omega)
        | (simp only [fin_mk, finV, resL, resV1, resIn, endA, listIn, Option.some_or, Option.none_or, oneOrTup, go_sem]; rw [← hr])
end Go.Proofs.YtonjbbfgdloljaaGreatDoor.L

namespace Go.Proofs.YtonjbbfgdloljaaGreatDoor.L
open Go Go.VM
set_option maxRecDepth 100000
set_option maxHeartbeats 4000000
set_option linter.unusedSimpArgs false
set_option linter.unusedVariables false
theorem lineText_len (x : Line) : (lineText x).length ≤ 2000 := by
  by_cases hk : lineOk x = true
  · obtain ⟨_, ⟨n1, n2⟩, ⟨u1, u2⟩, ⟨m1, m2⟩⟩ := lineOk_parts hk
    have a1 := itoa10 n1 (Int.le_trans n2 (by decide))
    have a2 := itoa10 u1 (Int.le_trans u2 (by decide))
    have a3 := itoa10 m1 (Int.le_trans m2 (by decide))
    have a4 := flagsText_len x.Flags
    have a5 := setText_len x.Set
    rw [lineText, if_pos hk]
    have t1 : tStar.length = 2 := rfl
    have t2 : tExists.length = 7 := rfl
    have t3 : tExpunge.length = 8 := rfl
    have t4 : tFetch.length = 12 := rfl
    have t5 : tFlags.length = 7 := rfl
    have t6 : tMod.length = 8 := rfl
    have t7 : tVanished.length = 11 := rfl
    have t8 : tValid.length = 8 := rfl
    have t9 : tAll.length = 4 := rfl
    have u1 : tSearch.length = 8 := rfl
    have u2 : tNo.length = 3 := rfl
    repeat' split
    all_goals simp only [List.length_append, List.length_cons, List.length_nil, t1, t2, t3, t4, t5, t6, t7, t8, t9, u1, u2]
    all_goals omega
  · rw [lineText, if_neg hk]; simp
def moreL : List (List UInt8) := [[], [42, 32, 115, 101, 97, 114, 99, 104], [42, 32, 118, 97, 110, 105, 115, 104, 101, 100], [42, 32, 49, 32, 101, 120, 105, 115, 116, 115, 32], [42, 32, 32, 49, 32, 101, 120, 105, 115, 116, 115], [110, 111], [111, 107, 32], [42, 32, 48, 49, 32, 101, 120, 105, 115, 116, 115], [42, 32, 118, 97, 108, 105, 100, 32, 51, 32, 109, 111, 100, 115, 101, 113, 32, 52, 32, 97, 108, 108, 32, 97, 108, 108]]
def rlC (code : List Int) : Int × Cur := belO (cur0 code) 6
def rlP (code : List Int) : List UInt8 × Cur := pickO (rlC code).2 moreL
def rlX (code : List Int) : Line × Cur := lineA (rlP code).2
def drawRL (code : List Int) : List UInt8 :=
  if ((rlC code).1 == 0) = true then (rlP code).1
  else if ((rlC code).1 == 1) = true then (spoil (rlX code).2 (lineText (rlX code).1)).1 else lineText (rlX code).1
theorem more_len : ∀ x ∈ moreL, x.length ≤ 40 := by decide
theorem drawRL_len {code : List Int} (h : code.length ≤ 4194304) : (drawRL code).length ≤ 4194304 := by
  have i0 := cur0_in h
  have i1 := belO_in (n := 6) i0
  have i2 := pickO_in (c := (rlC code).2) (l := moreL) i1.1 (by decide)
  have i3 := lineA_in (c := (rlP code).2) i2.1
  have i4 := spoil_in (c := (rlX code).2) (s := lineText (rlX code).1) i3.2
  have h1 := lineText_len (rlX code).1
  have h2 := more_len _ i2.2
  have h3 : (rlP code).1.length ≤ 40 := h2
  unfold drawRL
  repeat' split
  all_goals omega
open Classical in
noncomputable def spDrawLineT : VM.Spec := { modes := [.rd], run := fun | [.lst 1 code'] => (decL dU8 code').bind fun code => if code.length ≤ 4194304 then some (Line.enc ((lineA (cur0 code)).1), []) else none | _ => none, need := [] }
attribute [go_sem] spDrawLineT
theorem spDrawLineT_in {ins : List V} {r : V} {outs : List V} (h : spDrawLineT.run ins = some (r, outs)) : ∃ (code : (List Int)), ins = [.lst 1 ((code).map eU8)] ∧ (code.length ≤ 4194304) ∧ Line.enc ((lineA (cur0 code)).1) = r ∧ outs = [] := by
  unfold spDrawLineT at h
  simp only at h
  split at h
  · rename_i code'
    simp only [Option.bind_eq_some_iff] at h
    obtain ⟨code, h_code, h⟩ := h
    split at h
    case isFalse => cases h
    rename_i hc
    simp only [Option.some.injEq, Prod.mk.injEq] at h
    obtain ⟨h1, h2⟩ := h
    have h_code := decL_some (fun _ _ h => dU8_some h) h_code
    subst h_code
    exact ⟨code, rfl, hc, h1, h2.symm⟩
  · cases h
def T_spec_DrawLineText : Hints := ⟨lk [], lk [], lk [(0, [0, 2]), (1, [2])], lk []⟩
noncomputable def Phi_spec_DrawLineText : Tab := lk [(26, spNew), (25, spLineA)]
attribute [go_sem] T_spec_DrawLineText Phi_spec_DrawLineText
theorem phi_spec_DrawLineText : ∀ f sp, Phi_spec_DrawLineText f = some sp → FnOk Tryz.prog f sp ∧ ∀ n ∈ sp.need, n ∈ ([] : List String) := phi_cons ok_spec_l01New (n0 rfl) (phi_cons ok_spec_l13Any (n0 rfl) (phi_nil))
theorem ok_spec_DrawLineText : FnOk Tryz.prog 6 spDrawLineT := by
  refine fn_ok (Φ := Phi_spec_DrawLineText) (T := T_spec_DrawLineText) phi_spec_DrawLineText mixed Tryz.func6 rfl rfl rfl (by decide) ?_
  intro ins r outs hr hl
  clear hl
  have hs := spDrawLineT_in hr
  clear hr
  obtain ⟨code, rfl, hc, hr, rfl⟩ := hs
  simp only [spDrawLineT, Tryz.f6, Go.VM.initS]
  have i0 := cur0_in hc
  simp only [hc, i0, go_sem]
  repeat' ((first | apply qa | apply qb | apply qc | apply qd | apply qe | apply qf | apply qg | apply qh | apply qi | apply qj | apply qk) <;> intro hp <;> simp only [hp, hc, i0, go_sem])
  simp only [fin_mk, finV, resL, resV1, resIn, endA, listIn, Option.some_or, Option.none_or, oneOrTup, go_sem]
  rw [← hr]
  rfl
open Classical in
noncomputable def spDrawReadLine : VM.Spec := { modes := [.rd], run := fun | [.lst 1 code'] => (decL dU8 code').bind fun code => if code.length ≤ 4194304 then some (.str (drawRL code), []) else none | _ => none, need := ["internal/strconv.uint64pow10"] }
attribute [go_sem] spDrawReadLine
theorem spDrawReadLine_in {ins : List V} {r : V} {outs : List V} (h : spDrawReadLine.run ins = some (r, outs)) : ∃ (code : (List Int)), ins = [.lst 1 ((code).map eU8)] ∧ (code.length ≤ 4194304) ∧ .str (drawRL code) = r ∧ outs = [] := by
  unfold spDrawReadLine at h
  simp only at h
  split at h
  · rename_i code'
    simp only [Option.bind_eq_some_iff] at h
    obtain ⟨code, h_code, h⟩ := h
    split at h
    case isFalse => cases h
    rename_i hc
    simp only [Option.some.injEq, Prod.mk.injEq] at h
    obtain ⟨h1, h2⟩ := h
    have h_code := decL_some (fun _ _ h => dU8_some h) h_code
    subst h_code
    exact ⟨code, rfl, hc, h1, h2.symm⟩
  · cases h
def T_spec_DrawReadLine : Hints := ⟨lk [], lk [], lk [(0, [0]), (1, [3]), (2, [3, 4]), (3, [3, 4, 5]), (4, [3, 4, 5, 6]), (5, [3, 5, 6, 21]), (6, [3, 5, 6, 21, 22]), (7, [2]), (8, [3, 6, 25]), (9, [2]), (10, [2])], lk []⟩
noncomputable def Phi_spec_DrawReadLine : Tab := lk [(26, spNew), (31, spBelow), (32, spPick), (11, spLineText), (25, spLineA), (33, spSpoil)]
attribute [go_sem] T_spec_DrawReadLine Phi_spec_DrawReadLine
theorem phi_spec_DrawReadLine : ∀ f sp, Phi_spec_DrawReadLine f = some sp → FnOk Tryz.prog f sp ∧ ∀ n ∈ sp.need, n ∈ (["internal/strconv.uint64pow10"] : List String) := phi_cons ok_spec_l01New (n0 rfl) (phi_cons ok_spec_l01Below (n0 rfl) (phi_cons ok_spec_l01Pick (n0 rfl) (phi_cons ok_spec_LineText (fun n (h : n ∈ (["internal/strconv.uint64pow10"] : List String)) => by simp only [List.mem_cons, List.not_mem_nil, or_false] at h; rcases h with rfl <;> simp) (phi_cons ok_spec_l13Any (n0 rfl) (phi_cons ok_spec_l02Spoilt (n0 rfl) (phi_nil))))))
theorem ok_spec_DrawReadLine : FnOk Tryz.prog 9 spDrawReadLine := by
  refine fn_ok (Φ := Phi_spec_DrawReadLine) (T := T_spec_DrawReadLine) phi_spec_DrawReadLine mixed Tryz.func9 rfl rfl rfl (by decide) ?_
  intro ins r outs hr hl
  clear hl
  have hs := spDrawReadLine_in hr
  clear hr
  obtain ⟨code, rfl, hc, hr, rfl⟩ := hs
  simp only [spDrawReadLine, Tryz.f9, Go.VM.initS]
  have i0 := cur0_in hc
  have i1 := belO_in (n := 6) i0
  obtain ⟨⟨k, c1⟩, e1⟩ : ∃ x, belO (cur0 code) 6 = x := ⟨_, rfl⟩
  rw [e1] at i1
  simp only at i1
  have i2 := pickO_in (c := c1) (l := moreL) i1.1 (by decide)
  obtain ⟨⟨m, c2⟩, e2⟩ : ∃ x, pickO c1 moreL = x := ⟨_, rfl⟩
  rw [e2] at i2
  simp only at i2
  have i3 := lineA_in (c := c2) i2.1
  obtain ⟨⟨X, c3⟩, e3⟩ : ∃ x, lineA c2 = x := ⟨_, rfl⟩
  rw [e3] at i3
  simp only at i3
  have f1 : rlC code = (k, c1) := e1
  have f2 : rlP code = (m, c2) := by rw [rlP, f1]; exact e2
  have f3 : rlX code = (X, c3) := by rw [rlX, f2]; exact e3
  have hX : X.le 4194304 := ⟨Nat.le_trans i3.1 (by decide), fun _ _ => trivial⟩
  have hl : (lineText X).length ≤ 4194304 := by have := lineText_len X; omega
  have e2' := e2
  rw [moreL] at e2'
  cases k0 : (k == 0) with
  | true =>
    have e : drawRL code = m := by simp only [drawRL, f1, f2, k0, if_true]
    rw [e] at hr
    simp only [hc, i0, e1, i1.1, e2', i2.1, e3, i3.2, hX, hl, k0, go_sem]
    repeat' ((first | apply qa | apply qb | apply qc | apply qd | apply qe | apply qf | apply qg | apply qh | apply qi | apply qj | apply qk) <;> intro hp <;> simp only [hp, hc, i0, e1, i1.1, e2', i2.1, e3, i3.2, hX, hl, k0, go_sem])
    simp only [fin_mk, finV, resL, resV1, resIn, endA, listIn, Option.some_or, Option.none_or, oneOrTup, go_sem]
    rw [← hr]
  | false =>
  cases k1 : (k == 1) with
  | true =>
    have e : drawRL code = (spoil c3 (lineText X)).1 := by simp only [drawRL, f1, f2, f3, k0, k1, Bool.false_eq_true, if_false, if_true]
    rw [e] at hr
    simp only [hc, i0, e1, i1.1, e2', i2.1, e3, i3.2, hX, hl, k0, k1, go_sem]
    repeat' ((first | apply qa | apply qb | apply qc | apply qd | apply qe | apply qf | apply qg | apply qh | apply qi | apply qj | apply qk) <;> intro hp <;> simp only [hp, hc, i0, e1, i1.1, e2', i2.1, e3, i3.2, hX, hl, k0, k1, go_sem])
    simp only [fin_mk, finV, resL, resV1, resIn, endA, listIn, Option.some_or, Option.none_or, oneOrTup, go_sem]
    rw [← hr]
  | false =>
    have e : drawRL code = lineText X := by simp only [drawRL, f1, f2, f3, k0, k1, Bool.false_eq_true, if_false]
    rw [e] at hr
    simp only [hc, i0, e1, i1.1, e2', i2.1, e3, i3.2, hX, hl, k0, k1, go_sem]
    repeat' ((first | apply qa | apply qb | apply qc | apply qd | apply qe | apply qf | apply qg | apply qh | apply qi | apply qj | apply qk) <;> intro hp <;> simp only [hp, hc, i0, e1, i1.1, e2', i2.1, e3, i3.2, hX, hl, k0, k1, go_sem])
    simp only [fin_mk, finV, resL, resV1, resIn, endA, listIn, Option.some_or, Option.none_or, oneOrTup, go_sem]
    rw [← hr]
end Go.Proofs.YtonjbbfgdloljaaGreatDoor.L

namespace Go.Proofs.YtonjbbfgdloljaaGreatDoor.L
open Go Go.VM
set_option maxRecDepth 100000
set_option maxHeartbeats 4000000
set_option linter.unusedSimpArgs false
set_option linter.unusedVariables false
def andN (a b : Int) : Int := ((a.toNat &&& b.toNat : Nat) : Int)
theorem and_step : ∀ a b : Fin 32, ∀ j : Fin 5,
    (((IntKind.i64.wrap ((a.val : Int).tdiv ((2 ^ j.val : Nat) : Int))).tmod 2 == 1) = a.val.testBit j.val) ∧
    ((a.val &&& b.val) % 2 ^ (j.val + 1) = (a.val &&& b.val) % 2 ^ j.val + (if (a.val.testBit j.val && b.val.testBit j.val) = true then 2 ^ j.val else 0)) := by decide +kernel
open Classical in
noncomputable def spAnd : VM.Spec := { modes := [.rd, .rd], run := fun | [.int .i64 a, .int .i64 b] => if flagsOk a = true ∧ flagsOk b = true then some (.int .i64 (andN a b), []) else none | _ => none, need := [] }
attribute [go_sem] spAnd
theorem spAnd_in {ins : List V} {r : V} {outs : List V} (h : spAnd.run ins = some (r, outs)) : ∃ (a : Int) (b : Int), ins = [.int .i64 a, .int .i64 b] ∧ (flagsOk a = true ∧ flagsOk b = true) ∧ .int .i64 (andN a b) = r ∧ outs = [] := by
  unfold spAnd at h
  simp only at h
  split at h
  · rename_i a b
    split at h
    case isFalse => cases h
    rename_i hc
    simp only [Option.some.injEq, Prod.mk.injEq] at h
    obtain ⟨h1, h2⟩ := h
    exact ⟨a, b, rfl, hc, h1, h2.symm⟩
  · cases h
open Classical in
noncomputable def spSetHas : VM.Spec := { modes := [.rd, .rd], run := fun | [.lst 2 s', .int .i64 n] => (decL Range.dec s').bind fun s => if s.length ≤ 8388608 then some (.bool (hasR s n), []) else none | _ => none, need := [] }
attribute [go_sem] spSetHas
theorem spSetHas_in {ins : List V} {r : V} {outs : List V} (h : spSetHas.run ins = some (r, outs)) : ∃ (s : (List Range)) (n : Int), ins = [.lst 2 ((s).map Range.enc), .int .i64 n] ∧ (s.length ≤ 8388608) ∧ .bool (hasR s n) = r ∧ outs = [] := by
  unfold spSetHas at h
  simp only at h
  split at h
  · rename_i s' n
    simp only [Option.bind_eq_some_iff] at h
    obtain ⟨s, h_s, h⟩ := h
    split at h
    case isFalse => cases h
    rename_i hc
    simp only [Option.some.injEq, Prod.mk.injEq] at h
    obtain ⟨h1, h2⟩ := h
    have h_s := decL_some (fun _ _ h => Range.dec_some h) h_s
    subst h_s
    exact ⟨s, n, rfl, hc, h1, h2.symm⟩
  · cases h
def T_impl_SetHas : Hints := ⟨lk [], lk [(2, [1, 7, 8, 9])], lk [(0, [0, 1]), (1, [1, 7, 8, 9]), (2, [1, 7, 8, 9, 10]), (3, [1, 6, 7, 8, 9]), (4, [1, 7, 8, 9, 18]), (5, [4]), (6, [1, 7, 8, 9]), (7, [4])], lk []⟩
noncomputable def Phi_impl_SetHas : Tab := lk [(41, spWithin)]
attribute [go_sem] T_impl_SetHas Phi_impl_SetHas
theorem phi_impl_SetHas : ∀ f sp, Phi_impl_SetHas f = some sp → FnOk Tryz.prog f sp ∧ ∀ n ∈ sp.need, n ∈ ([] : List String) := phi_cons ok_impl_within (n0 rfl) (phi_nil)
theorem ok_impl_SetHas : FnOk Tryz.prog 64 spSetHas := by
  refine fn_ok (Φ := Phi_impl_SetHas) (T := T_impl_SetHas) phi_impl_SetHas mixed Tryz.func64 rfl rfl rfl (by decide) ?_
  intro ins r outs hr hl
  clear hl
  have hs := spSetHas_in hr
  clear hr
  obtain ⟨s, n, rfl, hc, hr, rfl⟩ := hs
  simp only [spSetHas, Tryz.f64, Go.VM.initS]
  simp only [go_sem]
  repeat' ((first | apply qa | apply qb | apply qc | apply qd | apply qe | apply qf | apply qg | apply qh | apply qi | apply qj | apply qk) <;> intro hp <;> simp only [hp, go_sem])
  refine loop_go (fun i : Nat => [(9, .int .i64 (i : Int))]) (fun _ => []) (fun i => s.length - i) (fun i => i ≤ s.length ∧ (s.take i).any (fun r => decide (r.Lo ≤ n) && decide (n ≤ r.Hi)) = false) 0 ⟨Nat.zero_le _, by simp⟩ rfl rfl ?_
  intro i ⟨hi, ha⟩ ih
  rcases Nat.lt_or_ge i s.length with h | h
  · have g1 : (i : Int) < s.length := by omega
    have g2 : (0 : Int) ≤ i := by omega
    have g3 : s[i]? = some s[i] := List.getElem?_eq_getElem h
    have g5 := wrap_succ h (by omega)
    cases hb : within n s[i].Lo s[i].Hi with
    | true =>
      simp only [g1, g2, g3, g5, hb, go_sem]
      repeat' ((first | apply qa | apply qb | apply qc | apply qd | apply qe | apply qf | apply qg | apply qh | apply qi | apply qj | apply qk) <;> intro hp <;> simp only [hp, g1, g2, g3, g5, hb, go_sem])
      simp only [fin_mk, finV, resL, resV1, resIn, endA, listIn, Option.some_or, Option.none_or, oneOrTup, go_sem]
      rw [← hr]
      rw [hasR, any_bad h hb]
    | false =>
      have ih' := ih (i + 1) ⟨h, any_take_succ h ha hb⟩ (by omega)
      simp only [g1, g2, g3, g5, hb, go_sem]
      repeat' ((first | apply qa | apply qb | apply qc | apply qd | apply qe | apply qf | apply qg | apply qh | apply qi | apply qj | apply qk) <;> intro hp <;> simp only [hp, g1, g2, g3, g5, hb, go_sem])
      exact ih'
  · have g1 : ¬ (i : Int) < s.length := by omega
    simp only [g1, go_sem]
    repeat' ((first | apply qa | apply qb | apply qc | apply qd | apply qe | apply qf | apply qg | apply qh | apply qi | apply qj | apply qk) <;> intro hp <;> simp only [hp, g1, go_sem])
    simp only [fin_mk, finV, resL, resV1, resIn, endA, listIn, Option.some_or, Option.none_or, oneOrTup, go_sem]
    rw [← hr]
    rw [hasR, any_take_end h ha]
end Go.Proofs.YtonjbbfgdloljaaGreatDoor.L

namespace Go.Proofs.YtonjbbfgdloljaaGreatDoor.L
open Go Go.VM
set_option maxRecDepth 100000
set_option maxHeartbeats 4000000
set_option linter.unusedSimpArgs false
set_option linter.unusedVariables false
open Classical in
noncomputable def spHasRead : VM.Spec := { modes := [.rd, .rd], run := fun | [.int .i64 n, .rptr (.lst 2 l')] => (decL Range.dec l').bind fun l => if l.length ≤ 8388608 then some (.bool (hasR l n), []) else none | _ => none, need := [] }
attribute [go_sem] spHasRead
theorem spHasRead_in {ins : List V} {r : V} {outs : List V} (h : spHasRead.run ins = some (r, outs)) : ∃ (n : Int) (l : (List Range)), ins = [.int .i64 n, .rptr (.lst 2 ((l).map Range.enc))] ∧ (l.length ≤ 8388608) ∧ .bool (hasR l n) = r ∧ outs = [] := by
  unfold spHasRead at h
  simp only at h
  split at h
  · rename_i n l'
    simp only [Option.bind_eq_some_iff] at h
    obtain ⟨l, h_l, h⟩ := h
    split at h
    case isFalse => cases h
    rename_i hc
    simp only [Option.some.injEq, Prod.mk.injEq] at h
    obtain ⟨h1, h2⟩ := h
    have h_l := decL_some (fun _ _ h => Range.dec_some h) h_l
    subst h_l
    exact ⟨n, l, rfl, hc, h1, h2.symm⟩
  · cases h
def T_impl_ReadSet_1 : Hints := ⟨lk [], lk [], lk [(0, [0, 1]), (1, [3])], lk []⟩
noncomputable def Phi_impl_ReadSet_1 : Tab := lk [(64, spSetHas)]
attribute [go_sem] T_impl_ReadSet_1 Phi_impl_ReadSet_1
theorem phi_impl_ReadSet_1 : ∀ f sp, Phi_impl_ReadSet_1 f = some sp → FnOk Tryz.prog f sp ∧ ∀ n ∈ sp.need, n ∈ ([] : List String) := phi_cons ok_impl_SetHas (n0 rfl) (phi_nil)
theorem ok_impl_ReadSet_1 : FnOk Tryz.prog 107 spHasRead := by
  refine fn_ok (Φ := Phi_impl_ReadSet_1) (T := T_impl_ReadSet_1) phi_impl_ReadSet_1 mixed Tryz.func107 rfl rfl rfl (by decide) ?_
  intro ins r outs hr hl
  clear hl
  have hs := spHasRead_in hr
  clear hr
  obtain ⟨n, l, rfl, hc, hr, rfl⟩ := hs
  simp only [spHasRead, Tryz.f107, Go.VM.initS]
  simp only [hc, go_sem]
  repeat' ((first | apply qa | apply qb | apply qc | apply qd | apply qe | apply qf | apply qg | apply qh | apply qi | apply qj | apply qk) <;> intro hp <;> simp only [hp, hc, go_sem])
  simp only [fin_mk, finV, resL, resV1, resIn, endA, listIn, Option.some_or, Option.none_or, oneOrTup, go_sem]
  rw [← hr]
def setR (l : List Range) : List Range := scan ((nums 9999).filter fun n => hasR l n)
open Classical in
noncomputable def spSetOfRead : VM.Spec := { modes := [.rd], run := fun | [.fn 107 [.rptr (.lst 2 l')]] => (decL Range.dec l').bind fun l => if l.length ≤ 8388608 then some (.tup [.lst 2 ((setR l).map Range.enc), .bool (decide ((setR l).length ≤ 40))], []) else none | _ => none, need := [] }
attribute [go_sem] spSetOfRead
theorem spSetOfRead_in {ins : List V} {r : V} {outs : List V} (h : spSetOfRead.run ins = some (r, outs)) : ∃ (l : (List Range)), ins = [.fn 107 [.rptr (.lst 2 ((l).map Range.enc))]] ∧ (l.length ≤ 8388608) ∧ .tup [.lst 2 ((setR l).map Range.enc), .bool (decide ((setR l).length ≤ 40))] = r ∧ outs = [] := by
  unfold spSetOfRead at h
  simp only at h
  split at h
  · rename_i l'
    simp only [Option.bind_eq_some_iff] at h
    obtain ⟨l, h_l, h⟩ := h
    split at h
    case isFalse => cases h
    rename_i hc
    simp only [Option.some.injEq, Prod.mk.injEq] at h
    obtain ⟨h1, h2⟩ := h
    have h_l := decL_some (fun _ _ h => Range.dec_some h) h_l
    subst h_l
    exact ⟨l, rfl, hc, h1, h2.symm⟩
  · cases h
def T_impl_setOf : Hints := ⟨lk [], lk [(3, [0, 4, 5])], lk [(0, [0]), (1, [0, 4]), (2, [0, 4, 5]), (3, [0, 4, 5, 9]), (5, [0, 4, 5, 15]), (6, [0, 4, 5, 6]), (7, [0, 4, 5, 6, 30]), (8, [0, 4, 5]), (9, [0, 4, 5]), (4, [0, 4, 5]), (10, [2, 3])], lk []⟩
noncomputable def Phi_impl_setOf : Tab := lk [(107, spHasRead)]
attribute [go_sem] T_impl_setOf Phi_impl_setOf
theorem phi_impl_setOf : ∀ f sp, Phi_impl_setOf f = some sp → FnOk Tryz.prog f sp ∧ ∀ n ∈ sp.need, n ∈ ([] : List String) := phi_cons ok_impl_ReadSet_1 (n0 rfl) (phi_nil)
theorem ok_impl_setOf : FnOk Tryz.prog 106 spSetOfRead := by
  refine fn_ok (Φ := Phi_impl_setOf) (T := T_impl_setOf) phi_impl_setOf mixed Tryz.func106 rfl rfl rfl (by decide) ?_
  intro ins r outs hr hl
  clear hl
  have hs := spSetOfRead_in hr
  clear hr
  obtain ⟨l, rfl, hc, hr, rfl⟩ := hs
  simp only [spSetOfRead, Tryz.f106, Go.VM.initS]
  simp only [go_sem]
  repeat' ((first | apply qa | apply qb | apply qc | apply qd | apply qe | apply qf | apply qg | apply qh | apply qi | apply qj | apply qk) <;> intro hp <;> simp only [hp, go_sem])
  refine loop_go (fun i : Nat => [(5, .int .i64 ((i + 1 : Nat) : Int))]) (fun i => [(0, ⟨.arr, 2, (scan ((nums i).filter fun n => hasR l n)).map Range.enc⟩)]) (fun i => 9999 - i) (fun i => i ≤ 9999) 0 (Nat.zero_le _) rfl rfl ?_
  intro i hi ih
  have hsl : (scan ((nums i).filter fun n => hasR l n)).length ≤ i := by
    refine Nat.le_trans (scan_len _) (Nat.le_trans (List.length_filter_le _ _) ?_)
    simp [nums]
  rcases Nat.lt_or_ge i 9999 with h | h
  · have g1 : ((i + 1 : Nat) : Int) ≤ 9999 := by omega
    have g5 : IntKind.i64.wrap (((i + 1 : Nat) : Int) + 1) = ((i + 1 + 1 : Nat) : Int) := wrap_succ (n := 10002) (by omega) (by omega)
    have g6 : IntKind.i64.wrap (((i + 1 : Nat) : Int) - 1) = (i : Int) := (wrap64 (by omega) (by omega)).trans (by omega)
    have ih' := ih (i + 1) h (by omega)
    rw [filter_nums_succ] at ih'
    clear ih
    cases hm : hasR l ((i + 1 : Nat) : Int) with
    | false =>
      rw [hm, if_neg (by simp), List.append_nil] at ih'
      simp only [hc, g1, g5, hm, go_sem]
      repeat' ((first | apply qa | apply qb | apply qc | apply qd | apply qe | apply qf | apply qg | apply qh | apply qi | apply qj | apply qk) <;> intro hp <;> simp only [hp, hc, g1, g5, hm, go_sem])
      exact ih'
    | true =>
      rw [hm, if_pos rfl, scan_snoc] at ih'
      generalize hO : scan ((nums i).filter fun n => hasR l n) = O at *
      rcases snoc_cases O with rfl | ⟨a, r', rfl⟩
      · rw [push_nil] at ih'
        have b3 : IntKind.i64.wrap (((0 : Nat) : Int) - 1) = -1 := rfl
        simp only [hc, g1, g5, hm, b3, go_sem]
        repeat' ((first | apply qa | apply qb | apply qc | apply qd | apply qe | apply qf | apply qg | apply qh | apply qi | apply qj | apply qk) <;> intro hp <;> simp only [hp, hc, g1, g5, hm, b3, go_sem])
        exact ih'
      · have hla : a.length + 1 ≤ i := by simpa using hsl
        have b3 : IntKind.i64.wrap (((a.length + 1 : Nat) : Int) - 1) = (a.length : Int) := (wrap64 (by omega) (by omega)).trans (by omega)
        have b4 : (0 : Int) ≤ (a.length : Int) := by omega
        have b5 : (a.length : Int) < ((a.length + 1 : Nat) : Int) := by omega
        have b6 : (List.map Range.enc (a ++ [r']))[a.length]? = some r'.enc := by simp
        have b7 : (List.map Range.enc (a ++ [r'])).set a.length (V.agg [.int .i64 r'.Lo, .int .i64 ((i + 1 : Nat) : Int)]) = List.map Range.enc (a ++ [⟨r'.Lo, ((i + 1 : Nat) : Int)⟩]) := by
          simp [Range.enc]
        have b8 : (List.map Range.enc (a ++ [r'])).length = a.length + 1 := by simp
        have b9 : (a ++ [r']).length = a.length + 1 := by simp
        have b10 : (a.length + 1 + 1) * 16 ≤ 140737488355328 := by omega
        have b11 : a.length + 1 ≤ 9223372036854775806 := by omega
        have b12 : a.length ≤ 9223372036854775805 := by omega
        rw [push_snoc] at ih'
        cases hH : (r'.Hi == (i : Int)) with
        | true =>
          have hH' : r'.Hi = ((i + 1 : Nat) : Int) - 1 := by simp only [beq_iff_eq] at hH; omega
          rw [if_pos hH', ← b7] at ih'
          clear b7
          generalize hX : List.map Range.enc (a ++ [r']) = X at *
          simp only [hc, g1, g5, g6, hm, b3, b4, b5, b6, b8, b9, hH, go_sem]
          repeat' ((first | apply qa | apply qb | apply qc | apply qd | apply qe | apply qf | apply qg | apply qh | apply qi | apply qj | apply qk) <;> intro hp <;> simp only [hp, hc, g1, g5, g6, hm, b3, b4, b5, b6, b8, b9, hH, go_sem])
          exact ih'
        | false =>
          have hH' : ¬ r'.Hi = ((i + 1 : Nat) : Int) - 1 := by rw [beq_eq_false_iff_ne] at hH; omega
          rw [if_neg hH', List.map_append, List.map_cons, List.map_nil] at ih'
          clear b7
          generalize hX : List.map Range.enc (a ++ [r']) = X at *
          simp only [hc, g1, g5, g6, hm, b3, b4, b5, b6, b8, b9, b10, b11, b12, hH, go_sem]
          repeat' ((first | apply qa | apply qb | apply qc | apply qd | apply qe | apply qf | apply qg | apply qh | apply qi | apply qj | apply qk) <;> intro hp <;> simp only [hp, hc, g1, g5, g6, hm, b3, b4, b5, b6, b8, b9, b10, b11, b12, hH, go_sem])
          all_goals first | exact ih' | (clear ih'; omega)
  · have hi9 : i = 9999 := by omega
    subst hi9
    have g1 : ¬ (((9999 + 1 : Nat) : Int)) ≤ 9999 := by decide
    have hB : scan ((nums 9999).filter fun n => hasR l n) = setR l := rfl
    rw [hB]
    have e : decide (((setR l).length : Int) ≤ 40) = decide ((setR l).length ≤ 40) := by rw [Bool.eq_iff_iff]; simp; omega
    simp only [g1, e, go_sem]
    repeat' ((first | apply qa | apply qb | apply qc | apply qd | apply qe | apply qf | apply qg | apply qh | apply qi | apply qj | apply qk) <;> intro hp <;> simp only [hp, g1, e, go_sem])
    all_goals (simp only [fin_mk, finV, resL, resV1, resIn, endA, listIn, Option.some_or, Option.none_or, oneOrTup, go_sem]; rw [← hr])
/-! ### numbers in texts -/
def digB (b : UInt8) : Bool := within (b.toNat : Int) 48 57
def stepM (n : Int) (b : UInt8) : Int := (10 * n + ((b.toNat : Int) - 48)).tmod 1000000000
def stepV (n : Int) (b : UInt8) : Int := 10 * n + ((b.toNat : Int) - 48)
def numM (s : List UInt8) : Int := s.foldl stepM 0
def numV (s : List UInt8) : Int := s.foldl stepV 0
theorem numM_snoc (s : List UInt8) (b : UInt8) : numM (s ++ [b]) = stepM (numM s) b := by simp [numM]
theorem numV_snoc (s : List UInt8) (b : UInt8) : numV (s ++ [b]) = stepV (numV s) b := by simp [numV]
theorem digB_iff {b : UInt8} (h : digB b = true) : 48 ≤ (b.toNat : Int) ∧ (b.toNat : Int) ≤ 57 := by simpa only [digB, within, Bool.and_eq_true, decide_eq_true_eq] using h
theorem numM_bound (s : List UInt8) : s.all digB = true → 0 ≤ numM s ∧ numM s < 1000000000 := by
  refine snoc_ind (P := fun s => s.all digB = true → 0 ≤ numM s ∧ numM s < 1000000000) (by simp [numM]) ?_ s
  intro l x ih h
  rw [List.all_append, Bool.and_eq_true] at h
  have h1 := ih h.1
  have h2 := digB_iff (b := x) (by simpa using h.2)
  rw [numM_snoc, stepM, Int.tmod_eq_emod_of_nonneg (by omega)]
  omega
theorem numV_bound (s : List UInt8) : s.all digB = true → 0 ≤ numV s ∧ numV s < 10 ^ s.length := by
  refine snoc_ind (P := fun s => s.all digB = true → 0 ≤ numV s ∧ numV s < 10 ^ s.length) (by simp [numV]) ?_ s
  intro l x ih h
  rw [List.all_append, Bool.and_eq_true] at h
  have h1 := ih h.1
  have h2 := digB_iff (b := x) (by simpa using h.2)
  rw [numV_snoc, stepV, List.length_append, List.length_singleton, Int.pow_succ]
  omega
theorem pow_le9 {n : Nat} (h : n ≤ 9) : (10 : Int) ^ n ≤ 1000000000 := by
  have : ∀ n : Fin 10, (10 : Int) ^ n.val ≤ 1000000000 := by decide
  exact this ⟨n, by omega⟩
theorem pow_le4 {n : Nat} (h : n ≤ 4) : (10 : Int) ^ n ≤ 10000 := by
  have : ∀ n : Fin 5, (10 : Int) ^ n.val ≤ 10000 := by decide
  exact this ⟨n, by omega⟩
theorem numM_eq (s : List UInt8) : s.all digB = true → s.length ≤ 9 → numM s = numV s := by
  refine snoc_ind (P := fun s => s.all digB = true → s.length ≤ 9 → numM s = numV s) (fun _ _ => rfl) ?_ s
  intro l x ih h hl
  have hb := numV_bound _ h
  rw [List.all_append, Bool.and_eq_true] at h
  rw [List.length_append, List.length_singleton] at hl
  rw [numM_snoc, ih h.1 (by omega), numV_snoc, stepM]
  rw [numV_snoc, stepV, List.length_append, List.length_singleton] at hb
  have := pow_le9 hl
  rw [Int.tmod_eq_emod_of_nonneg hb.1, Int.emod_eq_of_lt hb.1 (by omega)]
  rfl
def numOk (s : List UInt8) : Bool := within s.length 1 4 && s.all digB && decide (1 ≤ numV s)
def uidN (s : List UInt8) (last : Int) : Int := if s = [42] then last else if s.all digB = true then numM s else 0
def uidB (s : List UInt8) : Bool := if s = [42] then true else s.all digB && (within s.length 1 4 && decide (0 < numM s))
def numN (s : List UInt8) (last : Int) : Int := if s = [42] then last else if (within s.length 1 4 && s.all digB) = true then numV s else 0
def numB (s : List UInt8) : Bool := if s = [42] then true else within s.length 1 4 && s.all digB && decide (1 ≤ numV s)
theorem within_len {s : List UInt8} (h : within s.length 1 4 = true) : 1 ≤ s.length ∧ s.length ≤ 4 := by
  simp only [within, Bool.and_eq_true, decide_eq_true_eq] at h; omega
theorem uidB_eq (s : List UInt8) : uidB s = numB s := by
  unfold uidB numB
  split
  · rfl
  · cases hd : s.all digB with
    | false => simp
    | true =>
      cases hw : within s.length 1 4 with
      | false => simp
      | true =>
        rw [numM_eq s hd (by have := within_len hw; omega), Bool.eq_iff_iff]
        simp; omega
theorem uidN_eq {s : List UInt8} {last : Int} (h : numB s = true) : uidN s last = numN s last := by
  unfold uidN numN
  unfold numB at h
  split
  · rfl
  · rename_i h0
    rw [if_neg h0, Bool.and_eq_true, Bool.and_eq_true] at h
    rw [if_pos h.1.2, if_pos (by rw [h.1.1, h.1.2]; rfl), numM_eq s h.1.2 (by have := within_len h.1.1; omega)]
theorem numN_in {s : List UInt8} {last : Int} (hl : 1 ≤ last ∧ last ≤ 9999) (h : numB s = true) : 1 ≤ numN s last ∧ numN s last ≤ 9999 := by
  unfold numN
  unfold numB at h
  split
  · exact hl
  · rename_i h0
    rw [if_neg h0, Bool.and_eq_true, Bool.and_eq_true, decide_eq_true_eq] at h
    rw [if_pos (by rw [h.1.1, h.1.2]; rfl)]
    have h1 := (numV_bound s h.1.2).2
    have h2 := pow_le4 (within_len h.1.1).2
    omega
open Classical in
noncomputable def spReadUid : VM.Spec := { modes := [.rd, .rd], run := fun | [.str s, .int .i64 last] => if s.length ≤ 4194304 then some (.tup [.int .i64 (uidN s last), .bool (uidB s)], []) else none | _ => none, need := [] }
attribute [go_sem] spReadUid
theorem spReadUid_in {ins : List V} {r : V} {outs : List V} (h : spReadUid.run ins = some (r, outs)) : ∃ (s : (List UInt8)) (last : Int), ins = [.str s, .int .i64 last] ∧ (s.length ≤ 4194304) ∧ .tup [.int .i64 (uidN s last), .bool (uidB s)] = r ∧ outs = [] := by
  unfold spReadUid at h
  simp only at h
  split at h
  · rename_i s last
    split at h
    case isFalse => cases h
    rename_i hc
    simp only [Option.some.injEq, Prod.mk.injEq] at h
    obtain ⟨h1, h2⟩ := h
    exact ⟨s, last, rfl, hc, h1, h2.symm⟩
  · cases h
def T_impl_readUid : Hints := ⟨lk [], lk [(5, [0, 6, 12, 13])], lk [(0, [0, 1]), (1, [0, 1, 9]), (2, [4, 5]), (3, [0, 6]), (4, [0, 6, 12, 13]), (5, [0, 6, 12, 13, 14]), (6, [0, 6, 7, 12, 13]), (7, [0, 6, 7, 12, 13, 21]), (8, [4, 5]), (9, [0, 6, 12, 13]), (10, [0, 6, 12, 13]), (11, [4, 5])], lk []⟩
noncomputable def Phi_impl_readUid : Tab := lk [(41, spWithin)]
attribute [go_sem] T_impl_readUid Phi_impl_readUid
theorem phi_impl_readUid : ∀ f sp, Phi_impl_readUid f = some sp → FnOk Tryz.prog f sp ∧ ∀ n ∈ sp.need, n ∈ ([] : List String) := phi_cons ok_impl_within (n0 rfl) (phi_nil)
theorem ok_impl_readUid : FnOk Tryz.prog 105 spReadUid := by
  refine fn_ok (Φ := Phi_impl_readUid) (T := T_impl_readUid) phi_impl_readUid mixed Tryz.func105 rfl rfl rfl (by decide) ?_
  intro ins r outs hr hl
  clear hl
  have hs := spReadUid_in hr
  clear hr
  obtain ⟨s, last, rfl, hc, hr, rfl⟩ := hs
  simp only [spReadUid, Tryz.f105, Go.VM.initS]
  cases hst : (s == [42]) with
  | true =>
    have h0 : s = [42] := by simpa using hst
    subst h0
    simp only [go_sem]
    repeat' ((first | apply qa | apply qb | apply qc | apply qd | apply qe | apply qf | apply qg | apply qh | apply qi | apply qj | apply qk) <;> intro hp <;> simp only [hp, go_sem])
    simp only [fin_mk, finV, resL, resV1, resIn, endA, listIn, Option.some_or, Option.none_or, oneOrTup, go_sem]
    rw [← hr]
    rfl
  | false =>
    have h0 : ¬ s = [42] := by simpa using hst
    have hN : uidN s last = if s.all digB = true then numM s else 0 := by rw [uidN, if_neg h0]
    have hB : uidB s = (s.all digB && (within s.length 1 4 && decide (0 < numM s))) := by rw [uidB, if_neg h0]
    rw [hN, hB] at hr
    clear hN hB
    simp only [hst, go_sem]
    repeat' ((first | apply qa | apply qb | apply qc | apply qd | apply qe | apply qf | apply qg | apply qh | apply qi | apply qj | apply qk) <;> intro hp <;> simp only [hp, hst, go_sem])
    refine loop_go (fun i : Nat => [(6, .int .i64 (numM (s.take i))), (13, .int .i64 (i : Int))]) (fun _ => []) (fun i => s.length - i) (fun i => i ≤ s.length ∧ (s.take i).all digB = true) 0 ⟨Nat.zero_le _, rfl⟩ rfl rfl ?_
    intro i ⟨hi, ha⟩ ih
    rcases Nat.lt_or_ge i s.length with h | h
    · have g1 : (i : Int) < s.length := by omega
      have g2 : (0 : Int) ≤ i := by omega
      have g3 : s[i]? = some s[i] := List.getElem?_eq_getElem h
      have g5 := wrap_succ h (by omega)
      have hm := numM_bound _ ha
      cases hb : digB s[i] with
      | false =>
        have hb' : within (s[i].toNat : Int) 48 57 = false := hb
        have hall : s.all digB = false := List.all_eq_false.2 ⟨s[i], List.getElem_mem h, by simp [hb]⟩
        simp only [g1, g2, g3, byte_wrap, hb', go_sem]
        repeat' ((first | apply qa | apply qb | apply qc | apply qd | apply qe | apply qf | apply qg | apply qh | apply qi | apply qj | apply qk) <;> intro hp <;> simp only [hp, g1, g2, g3, byte_wrap, hb', go_sem])
        simp only [fin_mk, finV, resL, resV1, resIn, endA, listIn, Option.some_or, Option.none_or, oneOrTup, go_sem]
        rw [← hr]
        rw [hall]; rfl
      | true =>
        have hb' : within (s[i].toNat : Int) 48 57 = true := hb
        have hd := digB_iff hb
        have w1 : IntKind.i64.wrap (10 * numM (s.take i)) = 10 * numM (s.take i) := wrap64 (by omega) (by omega)
        have w2 : IntKind.u8.wrap ((s[i].toNat : Int) - 48) = (s[i].toNat : Int) - 48 := by
          simp only [IntKind.wrap, IntKind.signed, IntKind.bits]
          simp; omega
        have w3 : IntKind.i64.wrap ((s[i].toNat : Int) - 48) = (s[i].toNat : Int) - 48 := wrap64 (by omega) (by omega)
        have w4 : IntKind.i64.wrap (10 * numM (s.take i) + ((s[i].toNat : Int) - 48)) = 10 * numM (s.take i) + ((s[i].toNat : Int) - 48) := wrap64 (by omega) (by omega)
        have ih' := ih (i + 1) ⟨h, all_take_succ h ha hb⟩ (by omega)
        rw [take_succ' h, numM_snoc] at ih'
        clear ih
        simp only [g1, g2, g3, g5, byte_wrap, hb', w1, w2, w3, w4, go_sem]
        repeat' ((first | apply qa | apply qb | apply qc | apply qd | apply qe | apply qf | apply qg | apply qh | apply qi | apply qj | apply qk) <;> intro hp <;> simp only [hp, g1, g2, g3, g5, byte_wrap, hb', w1, w2, w3, w4, go_sem])
        exact ih'
    · have g1 : ¬ (i : Int) < s.length := by omega
      have ht : s.take i = s := List.take_of_length_le h
      rw [ht] at ha ⊢
      rw [ha] at hr
      cases hw : within s.length 1 4 with
      | false =>
        rw [hw] at hr
        simp only [g1, hw, go_sem]
        repeat' ((first | apply qa | apply qb | apply qc | apply qd | apply qe | apply qf | apply qg | apply qh | apply qi | apply qj | apply qk) <;> intro hp <;> simp only [hp, g1, hw, go_sem])
        simp only [fin_mk, finV, resL, resV1, resIn, endA, listIn, Option.some_or, Option.none_or, oneOrTup, go_sem]
        rw [← hr]
        rfl
      | true =>
        rw [hw] at hr
        simp only [g1, hw, go_sem]
        repeat' ((first | apply qa | apply qb | apply qc | apply qd | apply qe | apply qf | apply qg | apply qh | apply qi | apply qj | apply qk) <;> intro hp <;> simp only [hp, g1, hw, go_sem])
        simp only [fin_mk, finV, resL, resV1, resIn, endA, listIn, Option.some_or, Option.none_or, oneOrTup, go_sem]
        rw [← hr]
        rfl
open Classical in
noncomputable def spNum : VM.Spec := { modes := [.rd, .rd], run := fun | [.str s, .int .i64 last] => if s.length ≤ 4194304 then some (.tup [.int .i64 (numN s last), .bool (numB s)], []) else none | _ => none, need := [] }
attribute [go_sem] spNum
theorem spNum_in {ins : List V} {r : V} {outs : List V} (h : spNum.run ins = some (r, outs)) : ∃ (s : (List UInt8)) (last : Int), ins = [.str s, .int .i64 last] ∧ (s.length ≤ 4194304) ∧ .tup [.int .i64 (numN s last), .bool (numB s)] = r ∧ outs = [] := by
  unfold spNum at h
  simp only at h
  split at h
  · rename_i s last
    split at h
    case isFalse => cases h
    rename_i hc
    simp only [Option.some.injEq, Prod.mk.injEq] at h
    obtain ⟨h1, h2⟩ := h
    exact ⟨s, last, rfl, hc, h1, h2.symm⟩
  · cases h
def T_spec_l05Num : Hints := ⟨lk [], lk [(7, [0, 6, 7])], lk [(0, [0, 1]), (1, [0, 1, 9]), (2, [4, 5]), (3, [0, 14]), (4, [4, 5]), (5, [0, 6]), (6, [0, 6, 7]), (7, [0, 6, 7, 18]), (9, [0, 6, 7, 30]), (10, [4, 5]), (11, [0, 6, 7]), (8, [0, 6, 7]), (12, [4, 5])], lk []⟩
noncomputable def Phi_spec_l05Num : Tab := lk [(38, spWithin)]
attribute [go_sem] T_spec_l05Num Phi_spec_l05Num
theorem phi_spec_l05Num : ∀ f sp, Phi_spec_l05Num f = some sp → FnOk Tryz.prog f sp ∧ ∀ n ∈ sp.need, n ∈ ([] : List String) := phi_cons ok_spec_l01In (n0 rfl) (phi_nil)
theorem ok_spec_l05Num : FnOk Tryz.prog 122 spNum := by
  refine fn_ok (Φ := Phi_spec_l05Num) (T := T_spec_l05Num) phi_spec_l05Num mixed Tryz.func122 rfl rfl rfl (by decide) ?_
  intro ins r outs hr hl
  clear hl
  have hs := spNum_in hr
  clear hr
  obtain ⟨s, last, rfl, hc, hr, rfl⟩ := hs
  simp only [spNum, Tryz.f122, Go.VM.initS]
  cases hst : (s == [42]) with
  | true =>
    have h0 : s = [42] := by simpa using hst
    subst h0
    simp only [go_sem]
    repeat' ((first | apply qa | apply qb | apply qc | apply qd | apply qe | apply qf | apply qg | apply qh | apply qi | apply qj | apply qk) <;> intro hp <;> simp only [hp, go_sem])
    simp only [fin_mk, finV, resL, resV1, resIn, endA, listIn, Option.some_or, Option.none_or, oneOrTup, go_sem]
    rw [← hr]
    rfl
  | false =>
    have h0 : ¬ s = [42] := by simpa using hst
    have hN : numN s last = if (within s.length 1 4 && s.all digB) = true then numV s else 0 := by rw [numN, if_neg h0]
    have hB : numB s = (within s.length 1 4 && s.all digB && decide (1 ≤ numV s)) := by rw [numB, if_neg h0]
    rw [hN, hB] at hr
    clear hN hB
    cases hw : within s.length 1 4 with
    | false =>
      rw [hw] at hr
      simp only [hst, hw, go_sem]
      repeat' ((first | apply qa | apply qb | apply qc | apply qd | apply qe | apply qf | apply qg | apply qh | apply qi | apply qj | apply qk) <;> intro hp <;> simp only [hp, hst, hw, go_sem])
      simp only [fin_mk, finV, resL, resV1, resIn, endA, listIn, Option.some_or, Option.none_or, oneOrTup, go_sem]
      rw [← hr]
      rfl
    | true =>
      rw [hw] at hr
      have hl4 := within_len hw
      simp only [hst, hw, go_sem]
      repeat' ((first | apply qa | apply qb | apply qc | apply qd | apply qe | apply qf | apply qg | apply qh | apply qi | apply qj | apply qk) <;> intro hp <;> simp only [hp, hst, hw, go_sem])
      refine loop_go (fun i : Nat => [(6, .int .i64 (numV (s.take i))), (7, .int .i64 (i : Int))]) (fun _ => []) (fun i => s.length - i) (fun i => i ≤ s.length ∧ (s.take i).all digB = true) 0 ⟨Nat.zero_le _, rfl⟩ rfl rfl ?_
      intro i ⟨hi, ha⟩ ih
      rcases Nat.lt_or_ge i s.length with h | h
      · have g1 : (i : Int) < s.length := by omega
        have g2 : (0 : Int) ≤ i := by omega
        have g3 : s[i]? = some s[i] := List.getElem?_eq_getElem h
        have g5 := wrap_succ h (by omega)
        have hm := numV_bound _ ha
        have hp := pow_le9 (n := (s.take i).length) (by rw [List.length_take]; omega)
        cases hb : digB s[i] with
        | false =>
          have hall : s.all digB = false := List.all_eq_false.2 ⟨s[i], List.getElem_mem h, by simp [hb]⟩
          rw [hall] at hr
          by_cases c1 : (s[i].toNat : Int) < 48
          · simp only [g1, g2, g3, c1, go_sem]
            repeat' ((first | apply qa | apply qb | apply qc | apply qd | apply qe | apply qf | apply qg | apply qh | apply qi | apply qj | apply qk) <;> intro hp <;> simp only [hp, g1, g2, g3, c1, go_sem])
            simp only [fin_mk, finV, resL, resV1, resIn, endA, listIn, Option.some_or, Option.none_or, oneOrTup, go_sem]
            rw [← hr]
            rfl
          · have c2 : (57 : Int) < s[i].toNat := by
              simp only [digB, within, Bool.and_eq_false_iff, decide_eq_false_iff_not] at hb; omega
            simp only [g1, g2, g3, c1, c2, go_sem]
            repeat' ((first | apply qa | apply qb | apply qc | apply qd | apply qe | apply qf | apply qg | apply qh | apply qi | apply qj | apply qk) <;> intro hp <;> simp only [hp, g1, g2, g3, c1, c2, go_sem])
            simp only [fin_mk, finV, resL, resV1, resIn, endA, listIn, Option.some_or, Option.none_or, oneOrTup, go_sem]
            rw [← hr]
            rfl
        | true =>
          have hd := digB_iff hb
          have c1 : ¬ (s[i].toNat : Int) < 48 := by omega
          have c2 : ¬ (57 : Int) < s[i].toNat := by omega
          have w1 : IntKind.i64.wrap (10 * numV (s.take i)) = 10 * numV (s.take i) := wrap64 (by omega) (by omega)
          have w4 : IntKind.i64.wrap (10 * numV (s.take i) + (s[i].toNat : Int)) = 10 * numV (s.take i) + (s[i].toNat : Int) := wrap64 (by omega) (by omega)
          have w5 : IntKind.i64.wrap (10 * numV (s.take i) + (s[i].toNat : Int) - 48) = stepV (numV (s.take i)) s[i] := (wrap64 (by omega) (by omega)).trans (by unfold stepV; omega)
          have ih' := ih (i + 1) ⟨h, all_take_succ h ha hb⟩ (by omega)
          rw [take_succ' h, numV_snoc] at ih'
          clear ih
          simp only [g1, g2, g3, g5, byte_wrap, c1, c2, w1, w4, w5, go_sem]
          repeat' ((first | apply qa | apply qb | apply qc | apply qd | apply qe | apply qf | apply qg | apply qh | apply qi | apply qj | apply qk) <;> intro hp <;> simp only [hp, g1, g2, g3, g5, byte_wrap, c1, c2, w1, w4, w5, go_sem])
          exact ih'
      · have g1 : ¬ (i : Int) < s.length := by omega
        have ht : s.take i = s := List.take_of_length_le h
        rw [ht] at ha ⊢
        rw [ha] at hr
        simp only [g1, go_sem]
        repeat' ((first | apply qa | apply qb | apply qc | apply qd | apply qe | apply qf | apply qg | apply qh | apply qi | apply qj | apply qk) <;> intro hp <;> simp only [hp, g1, go_sem])
        simp only [fin_mk, finV, resL, resV1, resIn, endA, listIn, Option.some_or, Option.none_or, oneOrTup, go_sem]
        rw [← hr]
        rfl
end Go.Proofs.YtonjbbfgdloljaaGreatDoor.L

