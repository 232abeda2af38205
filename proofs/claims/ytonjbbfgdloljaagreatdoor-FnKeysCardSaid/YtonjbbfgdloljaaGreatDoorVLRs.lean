/- Contracts of functions, and the facts that they need. No condition. -/
import Derived.Test.YtonjbbfgdloljaaGreatDoorVLT

namespace Go.Proofs.YtonjbbfgdloljaaGreatDoor.L
open Go Go.VM
set_option maxRecDepth 100000
set_option maxHeartbeats 4000000
set_option linter.unusedSimpArgs false
set_option linter.unusedVariables false
def hasR (s : List Range) (n : Int) : Bool := s.any fun r => decide (r.Lo ≤ n) && decide (n ≤ r.Hi)
def push (out : List Range) (n : Int) : List Range :=
  match out.getLast? with
  | some r => if r.Hi = n - 1 then out.dropLast ++ [⟨r.Lo, n⟩] else out ++ [⟨n, n⟩]
  | none => [⟨n, n⟩]
def scan (l : List Int) : List Range := l.foldl push []
theorem scan_snoc (l : List Int) (n : Int) : scan (l ++ [n]) = push (scan l) n := by simp [scan, List.foldl_append]
theorem push_nil (n : Int) : push [] n = [⟨n, n⟩] := rfl
theorem push_snoc (a : List Range) (r : Range) (n : Int) : push (a ++ [r]) n = if r.Hi = n - 1 then a ++ [⟨r.Lo, n⟩] else a ++ [r] ++ [⟨n, n⟩] := by
  simp [push]
theorem snoc_cases {α : Type} (l : List α) : l = [] ∨ ∃ a x, l = a ++ [x] := by
  rcases List.eq_nil_or_concat l with h | ⟨a, x, h⟩
  · exact .inl h
  · exact .inr ⟨a, x, by simpa using h⟩
theorem push_len (out : List Range) (n : Int) : (push out n).length ≤ out.length + 1 := by
  rcases snoc_cases out with rfl | ⟨a, r, rfl⟩
  · simp [push_nil]
  · rw [push_snoc]; split <;> simp
theorem push_ne (out : List Range) (n : Int) : ∃ a r, push out n = a ++ [r] ∧ r.Hi = n := by
  rcases snoc_cases out with rfl | ⟨a, r, rfl⟩
  · exact ⟨[], _, rfl, rfl⟩
  · rw [push_snoc]
    split
    · exact ⟨a, _, rfl, rfl⟩
    · exact ⟨_, _, rfl, rfl⟩
theorem snoc_ind {α : Type} {P : List α → Prop} (h0 : P []) (h1 : ∀ l x, P l → P (l ++ [x])) (l : List α) : P l := by
  have : ∀ n (l : List α), l.length = n → P l := by
    intro n
    induction n with
    | zero => intro l h; rw [List.eq_nil_of_length_eq_zero h]; exact h0
    | succ n ih =>
      intro l h
      rcases snoc_cases l with rfl | ⟨a, x, rfl⟩
      · simp at h
      · exact h1 a x (ih a (by simpa using h))
  exact this _ l rfl
theorem scan_len (l : List Int) : (scan l).length ≤ l.length := by
  refine snoc_ind (P := fun l => (scan l).length ≤ l.length) (by simp [scan]) ?_ l
  intro l x ih
  rw [scan_snoc]
  have := push_len (scan l) x
  simp; omega
theorem scan_last (l : List Int) (n : Int) : ∃ a r, scan (l ++ [n]) = a ++ [r] ∧ r.Hi = n := by rw [scan_snoc]; exact push_ne _ _
def Canon (out : List Range) (m : Int) : Prop := (∀ r ∈ out, 1 ≤ r.Lo ∧ r.Lo ≤ r.Hi ∧ r.Hi ≤ m) ∧ out.Pairwise fun r t => r.Hi + 1 < t.Lo
theorem Canon.mono {out : List Range} {m k : Int} (h : Canon out m) (hk : m ≤ k) : Canon out k := ⟨fun r hr => by have := h.1 r hr; omega, h.2⟩
theorem Canon.push {out : List Range} {m n : Int} (h : Canon out m) (hm : m < n) (h1 : 1 ≤ n) : Canon (push out n) n := by
  rcases snoc_cases out with rfl | ⟨a, r, rfl⟩
  · rw [push_nil]
    exact ⟨fun r hr => by simp at hr; subst hr; exact ⟨h1, Int.le_refl _, Int.le_refl _⟩, by simp⟩
  · obtain ⟨ha, hp⟩ := h
    rw [List.pairwise_append] at hp
    have hr := ha r (by simp)
    rw [push_snoc]
    split
    · refine ⟨fun t ht => ?_, ?_⟩
      · rcases List.mem_append.1 ht with ht | ht
        · have := ha t (by simp [ht]); omega
        · simp only [List.mem_singleton] at ht; subst ht
          exact ⟨hr.1, by simp only; omega, Int.le_refl _⟩
      · rw [List.pairwise_append]
        refine ⟨hp.1, by simp, fun t ht u hu => ?_⟩
        simp only [List.mem_singleton] at hu; subst hu
        exact hp.2.2 t ht r (by simp)
    · rename_i hne
      refine ⟨fun t ht => ?_, ?_⟩
      · rcases List.mem_append.1 ht with ht | ht
        · have := ha t ht; omega
        · simp only [List.mem_singleton] at ht; subst ht
          exact ⟨h1, Int.le_refl _, Int.le_refl _⟩
      · rw [List.pairwise_append]
        refine ⟨List.pairwise_append.2 hp, by simp, fun t ht u hu => ?_⟩
        simp only [List.mem_singleton] at hu; subst hu
        simp only
        rcases List.mem_append.1 ht with ht | ht
        · have h2 := hp.2.2 t ht r (by simp)
          omega
        · simp only [List.mem_singleton] at ht; subst ht; omega
def Asc (l : List Int) (m : Int) : Prop := l.Pairwise (· < ·) ∧ ∀ x ∈ l, 1 ≤ x ∧ x ≤ m
theorem Asc.snoc {l : List Int} {x m : Int} (h : Asc (l ++ [x]) m) : Asc l (x - 1) ∧ 1 ≤ x ∧ x ≤ m := by
  obtain ⟨h1, h2⟩ := h
  rw [List.pairwise_append] at h1
  refine ⟨⟨h1.1, fun y hy => ?_⟩, h2 x (by simp)⟩
  have := h1.2.2 y hy x (by simp)
  have := h2 y (by simp [hy])
  omega
theorem scan_canon (l : List Int) : ∀ m, Asc l m → Canon (scan l) m := by
  refine snoc_ind (P := fun l => ∀ m, Asc l m → Canon (scan l) m) (fun m _ => ⟨by simp [scan], by simp [scan]⟩) ?_ l
  intro l x ih m h
  obtain ⟨h1, h2, h3⟩ := h.snoc
  rw [scan_snoc]
  exact ((ih _ h1).push (by omega) h2).mono h3
theorem hasR_append (a b : List Range) (n : Int) : hasR (a ++ b) n = (hasR a n || hasR b n) := by simp [hasR]
theorem hasR_push {out : List Range} {m n : Int} (h : Canon out m) (k : Int) : hasR (push out n) k = (hasR out k || k == n) := by
  rcases snoc_cases out with rfl | ⟨a, r, rfl⟩
  · rw [push_nil, Bool.eq_iff_iff]; simp [hasR]; omega
  · have hr := h.1 r (by simp)
    rw [push_snoc]
    split
    · rename_i he
      rw [hasR_append, hasR_append, Bool.or_assoc]
      congr 1
      rw [Bool.eq_iff_iff]; simp [hasR]; omega
    · rw [hasR_append]
      congr 1
      rw [Bool.eq_iff_iff]; simp [hasR]; omega
theorem hasR_scan (l : List Int) (k : Int) : ∀ m, Asc l m → hasR (scan l) k = decide (k ∈ l) := by
  refine snoc_ind (P := fun l => ∀ m, Asc l m → hasR (scan l) k = decide (k ∈ l)) (fun m _ => by simp [scan, hasR]) ?_ l
  intro l x ih m h
  obtain ⟨h1, h2, h3⟩ := h.snoc
  rw [scan_snoc, hasR_push (scan_canon l _ h1), ih _ h1, Bool.eq_iff_iff]
  simp
theorem setOk_canon {out : List Range} (h : Canon out 9999) : setOk out = decide (out.length ≤ 40) := by
  have : allN out.length (rangeAt out) = true := by
    rw [allN, List.all_eq_true]
    intro i hi
    have hi := List.mem_range.1 hi
    have h1 := h.1 _ (List.getElem_mem hi)
    simp only [rangeAt, getD_lt hi, within, Bool.and_eq_true, decide_eq_true_eq, Bool.or_eq_true, beq_iff_eq]
    refine ⟨⟨by omega, by omega⟩, ?_⟩
    rcases Nat.eq_zero_or_pos i with h0 | h0
    · exact .inl h0
    · refine .inr ?_
      have hi' : i - 1 < out.length := by omega
      rw [getD_lt hi']
      exact List.pairwise_iff_getElem.1 h.2 (i - 1) i hi' hi (by omega)
  rw [setOk, this, Bool.true_and]
def nums (n : Nat) : List Int := (List.range n).map fun i => ((i + 1 : Nat) : Int)
theorem nums_succ (n : Nat) : nums (n + 1) = nums n ++ [((n + 1 : Nat) : Int)] := by simp [nums, List.range_succ]
theorem nums_mem {n : Nat} {x : Int} : x ∈ nums n ↔ 1 ≤ x ∧ x ≤ n := by
  simp only [nums, List.mem_map, List.mem_range]
  constructor
  · rintro ⟨i, hi, rfl⟩; omega
  · intro h; exact ⟨(x - 1).toNat, by omega, by omega⟩
theorem nums_asc (n : Nat) : Asc (nums n) n := by
  refine ⟨?_, fun x hx => nums_mem.1 hx⟩
  rw [nums, List.pairwise_map]
  exact List.Pairwise.imp (by intro a b h; omega) List.pairwise_lt_range
theorem Asc.filter {l : List Int} {m : Int} (h : Asc l m) (p : Int → Bool) : Asc (l.filter p) m := ⟨h.1.filter p, fun x hx => h.2 x (List.mem_filter.1 hx).1⟩
theorem asc_eq : ∀ {a b : List Int}, a.Pairwise (· < ·) → b.Pairwise (· < ·) → (∀ x, x ∈ a ↔ x ∈ b) → a = b
  | [], [], _, _, _ => rfl
  | [], y :: b, _, _, h => absurd ((h y).2 (by simp)) (by simp)
  | x :: a, [], _, _, h => absurd ((h x).1 (by simp)) (by simp)
  | x :: a, y :: b, ha, hb, h => by
    rw [List.pairwise_cons] at ha hb
    have hxy : x = y := by
      rcases List.mem_cons.1 ((h x).1 (by simp)) with e | e
      · exact e
      · rcases List.mem_cons.1 ((h y).2 (by simp)) with e' | e'
        · exact e'.symm
        · have h1 := hb.1 x e
          have h2 := ha.1 y e'
          omega
    subst hxy
    congr 1
    refine asc_eq ha.2 hb.2 fun z => ?_
    constructor
    · intro hz
      rcases List.mem_cons.1 ((h z).1 (by simp [hz])) with e | e
      · subst e; have := ha.1 z hz; omega
      · exact e
    · intro hz
      rcases List.mem_cons.1 ((h z).2 (by simp [hz])) with e | e
      · subst e; have := hb.1 z hz; omega
      · exact e
def setOf (S : List Int) : List Range := scan ((nums 9999).filter fun n => decide (n ∈ S))
theorem setOf_asc {l : List Int} (h : Asc l 9999) : setOf l = scan l := by
  unfold setOf
  congr 1
  refine asc_eq ((nums_asc 9999).filter _).1 h.1 fun x => ?_
  simp only [List.mem_filter, decide_eq_true_eq, nums_mem]
  constructor
  · exact fun h => h.2
  · exact fun hx => ⟨h.2 x hx, hx⟩
theorem setOf_has (S : List Int) (k : Int) (h : 1 ≤ k ∧ k ≤ 9999) : hasR (setOf S) k = decide (k ∈ S) := by
  rw [setOf, hasR_scan _ k 9999 ((nums_asc 9999).filter _), Bool.eq_iff_iff]
  simp only [decide_eq_true_eq, List.mem_filter, nums_mem]
  constructor
  · exact fun h => h.2
  · exact fun hx => ⟨h, hx⟩
theorem filter_or_len (l : List Int) (p q : Int → Bool) : (l.filter fun x => p x || q x).length ≤ (l.filter p).length + (l.filter q).length := by
  induction l with
  | nil => simp
  | cons x l ih =>
    simp only [List.filter_cons]
    cases p x <;> cases q x <;> simp <;> omega
theorem filter_eq_len (n : Nat) (u : Int) : ((nums n).filter fun x => x == u).length ≤ 1 := by
  induction n with
  | zero => simp [nums]
  | succ n ih =>
    rw [nums_succ, List.filter_append, List.length_append]
    by_cases h : ((n + 1 : Nat) : Int) = u
    · have : (nums n).filter (fun x => x == u) = [] := by
        rw [List.filter_eq_nil_iff]
        intro x hx
        have := nums_mem.1 hx
        simp; omega
      rw [this]; simp [List.filter_cons]; split <;> simp
    · have : [((n + 1 : Nat) : Int)].filter (fun x => x == u) = [] := by simp [List.filter_cons]; omega
      rw [this]; simpa using ih
theorem setOf_len (S : List Int) : (setOf S).length ≤ S.length := by
  refine Nat.le_trans (scan_len _) ?_
  induction S with
  | nil => simp
  | cons u S ih =>
    have h1 := filter_or_len (nums 9999) (fun x => x == u) (fun x => decide (x ∈ S))
    have h2 := filter_eq_len 9999 u
    have e : (fun n : Int => decide (n ∈ u :: S)) = fun x => (x == u) || decide (x ∈ S) := by funext n; rw [Bool.eq_iff_iff]; simp
    rw [e]
    simp only [List.length_cons]; omega
theorem setOf_ok {S : List Int} (h : S.length ≤ 40) : setOk (setOf S) = true := by
  have := setOf_len S
  unfold setOf at this ⊢
  rw [setOk_canon (scan_canon _ _ ((nums_asc 9999).filter _))]
  simp; omega
/-! ### marks -/
def bitsOf (p : Nat → Bool) : List Bool := (List.range 10001).map p
theorem bitsOf_len (p : Nat → Bool) : (bitsOf p).length = 10001 := by simp [bitsOf]
theorem bitsOf_get (p : Nat → Bool) {n : Nat} (h : n < 10001) : (bitsOf p)[n]? = some (p n) := by
  simp [bitsOf, List.getElem?_range h]
theorem bitsOf_set (p : Nat → Bool) (n : Nat) (b : Bool) : (bitsOf p).set n b = bitsOf fun m => if m = n then b else p m := by
  apply List.ext_getElem?
  intro i
  rw [List.getElem?_set, bitsOf_len]
  by_cases hi : i < 10001
  · rw [bitsOf_get _ hi, bitsOf_get _ hi]
    by_cases h : n = i
    · subst h; simp [hi]
    · simp [h, Ne.symm h]
  · rw [List.getElem?_eq_none (by rw [bitsOf_len]; omega), List.getElem?_eq_none (by rw [bitsOf_len]; omega)]
    split
    · split <;> simp; omega
    · rfl
theorem replicate_gen (n : Nat) : List.replicate n (V.bool false) = ((List.range n).map fun _ => false).map eBool := by
  apply List.ext_getElem?
  intro i
  rw [List.getElem?_replicate, List.getElem?_map, List.getElem?_map]
  by_cases hi : i < n
  · rw [if_pos hi, List.getElem?_range hi]; rfl
  · rw [if_neg hi, List.getElem?_eq_none (by simp; omega)]; rfl
theorem replicate_bits : List.replicate 10001 (V.bool false) = (bitsOf fun _ => false).map eBool := replicate_gen 10001
def memN (s : List Range) (n : Nat) : Bool := hasR s n
open Classical in
noncomputable def spBits : VM.Spec := { modes := [.rd], run := fun | [.lst 2 s'] => (decL Range.dec s').bind fun s => if setOk s = true ∧ s.length ≤ 4194304 then some (.lst 1 ((bitsOf (memN s)).map eBool), []) else none | _ => none, need := [] }
attribute [go_sem] spBits
theorem spBits_in {ins : List V} {r : V} {outs : List V} (h : spBits.run ins = some (r, outs)) : ∃ (s : (List Range)), ins = [.lst 2 ((s).map Range.enc)] ∧ (setOk s = true ∧ s.length ≤ 4194304) ∧ .lst 1 ((bitsOf (memN s)).map eBool) = r ∧ outs = [] := by
  unfold spBits at h
  simp only at h
  split at h
  · rename_i s'
    simp only [Option.bind_eq_some_iff] at h
    obtain ⟨s, h_s, h⟩ := h
    split at h
    case isFalse => cases h
    rename_i hc
    simp only [Option.some.injEq, Prod.mk.injEq] at h
    obtain ⟨h1, h2⟩ := h
    have h_s := decL_some (fun _ _ h => Range.dec_some h) h_s
    subst h_s
    exact ⟨s, rfl, hc, h1, h2.symm⟩
  · cases h
def T_spec_l05Bits : Hints := ⟨lk [], lk [(3, [0, 3, 4]), (6, [0, 3, 4, 5])], lk [(0, [0]), (1, [0, 3]), (2, [0, 3, 4]), (3, [0, 3, 4, 10]), (5, [0, 3, 4, 5]), (6, [0, 3, 4, 5, 24]), (8, [0, 3, 4, 5]), (7, [0, 3, 4, 5]), (4, [0, 3, 4]), (9, [2])], lk []⟩
noncomputable def Phi_spec_l05Bits : Tab := lk []
attribute [go_sem] T_spec_l05Bits Phi_spec_l05Bits
theorem phi_spec_l05Bits : ∀ f sp, Phi_spec_l05Bits f = some sp → FnOk Tryz.prog f sp ∧ ∀ n ∈ sp.need, n ∈ ([] : List String) := phi_nil
theorem ok_spec_l05Bits : FnOk Tryz.prog 161 spBits := by
  refine fn_ok (Φ := Phi_spec_l05Bits) (T := T_spec_l05Bits) phi_spec_l05Bits mixed Tryz.func161 rfl rfl rfl (by decide) ?_
  intro ins r outs hr hl
  clear hl
  have hs := spBits_in hr
  clear hr
  obtain ⟨s, rfl, hc, hr, rfl⟩ := hs
  simp only [spBits, Tryz.f161, Go.VM.initS]
  obtain ⟨hk, hl⟩ := hc
  have hb : (10001 : Int) * ((1 : Nat) : Int) ≤ 140737488355328 := by decide
  simp only [replicate_bits, hb, go_sem]
  repeat' ((first | apply qa | apply qb | apply qc | apply qd | apply qe | apply qf | apply qg | apply qh | apply qi | apply qj | apply qk) <;> intro hp <;> simp only [hp, replicate_bits, hb, go_sem])
  refine loop_go (fun i : Nat => [(4, .int .i64 (i : Int))]) (fun i => [(0, ⟨.arr, 1, (bitsOf (memN (s.take i))).map eBool⟩)]) (fun i => s.length - i) (fun i => i ≤ s.length) 0 (Nat.zero_le _) rfl rfl ?_
  intro i hi ih
  rcases Nat.lt_or_ge i s.length with h | h
  · have g1 : (i : Int) < s.length := by omega
    have g2 : (0 : Int) ≤ i := by omega
    have g3 : s[i]? = some s[i] := List.getElem?_eq_getElem h
    have g5 := wrap_succ h (by omega)
    have hr1 : 1 ≤ s[i].Lo ∧ s[i].Lo ≤ s[i].Hi ∧ s[i].Hi ≤ 9999 := by
      simp only [setOk, Bool.and_eq_true] at hk
      exact rangeAt_hi h (allN_get hk.1 h)
    obtain ⟨lo, hlo⟩ : ∃ a : Nat, s[i].Lo = a := ⟨s[i].Lo.toNat, by omega⟩
    obtain ⟨hh, hhi⟩ : ∃ a : Nat, s[i].Hi = a := ⟨s[i].Hi.toNat, by omega⟩
    have e0 : (fun n => memN (s.take i) n || (decide (lo ≤ n) && decide (n < lo))) = memN (s.take i) := by
      funext n
      have : (decide (lo ≤ n) && decide (n < lo)) = false := by rw [Bool.and_eq_false_iff]; simp; omega
      rw [this, Bool.or_false]
    have e1 : (fun n => memN (s.take i) n || (decide (lo ≤ n) && decide (n < hh + 1))) = memN (s.take (i + 1)) := by
      funext n
      rw [take_succ' h]
      unfold memN
      rw [hasR_append]
      congr 1
      rw [Bool.eq_iff_iff]
      simp [hasR, hlo, hhi]; omega
    have ih' := ih (i + 1) h (by omega)
    rw [← e1] at ih'
    clear ih
    simp only [g1, g2, g3, go_sem]
    repeat' ((first | apply qa | apply qb | apply qc | apply qd | apply qe | apply qf | apply qg | apply qh | apply qi | apply qj | apply qk) <;> intro hp <;> simp only [hp, g1, g2, g3, go_sem])
    refine loop_go (fun k : Nat => [(5, .int .i64 (k : Int))]) (fun k => [(0, ⟨.arr, 1, (bitsOf fun n => memN (s.take i) n || (decide (lo ≤ n) && decide (n < k))).map eBool⟩)]) (fun k => hh + 1 - k) (fun k => lo ≤ k ∧ k ≤ hh + 1) lo ⟨Nat.le_refl _, by omega⟩ (by rw [hlo]; rfl) (by rw [e0]; rfl) ?_
    intro k ⟨hk1, hk2⟩ ihk
    rcases Nat.lt_or_ge k (hh + 1) with hkl | hkl
    · have k1 : (k : Int) ≤ s[i].Hi := by omega
      have k2 : (0 : Int) ≤ k := by omega
      have k3 : (k : Int) < ((10001 : Nat) : Int) := by omega
      have k5 := wrap_succ hkl (by omega)
      have kl := bitsOf_len (fun n => memN (s.take i) n || (decide (lo ≤ n) && decide (n < k)))
      have kg := bitsOf_get (fun n => memN (s.take i) n || (decide (lo ≤ n) && decide (n < k))) (n := k) (by omega)
      have ks : (List.map eBool (bitsOf fun n => memN (s.take i) n || (decide (lo ≤ n) && decide (n < k)))).set k (V.bool true) = List.map eBool (bitsOf fun n => memN (s.take i) n || (decide (lo ≤ n) && decide (n < k + 1))) := by
        rw [show V.bool true = eBool true from rfl, ← List.map_set, bitsOf_set]
        congr 2
        funext m
        by_cases hm : m = k
        · subst hm; simp [hk1]
        · have : decide (m < k + 1) = decide (m < k) := by rw [Bool.eq_iff_iff]; simp; omega
          simp [hm, this]
      have ihk' := ihk (k + 1) ⟨by omega, by omega⟩ (by omega)
      rw [← ks] at ihk'
      clear ihk ks
      generalize hB : (bitsOf fun n => memN (s.take i) n || (decide (lo ≤ n) && decide (n < k))) = B at *
      simp only [g1, g2, g3, k1, k2, k3, k5, kl, kg, go_sem]
      repeat' ((first | apply qa | apply qb | apply qc | apply qd | apply qe | apply qf | apply qg | apply qh | apply qi | apply qj | apply qk) <;> intro hp <;> simp only [hp, g1, g2, g3, k1, k2, k3, k5, kl, kg, go_sem])
      exact ihk'
    · have hke : k = hh + 1 := by omega
      subst hke
      have k1 : ¬ (((hh + 1 : Nat) : Int)) ≤ s[i].Hi := by omega
      simp only [g1, g2, g3, k1, g5, go_sem]
      repeat' ((first | apply qa | apply qb | apply qc | apply qd | apply qe | apply qf | apply qg | apply qh | apply qi | apply qj | apply qk) <;> intro hp <;> simp only [hp, g1, g2, g3, k1, g5, go_sem])
      exact ih'
  · have g1 : ¬ (i : Int) < s.length := by omega
    have ht : s.take i = s := List.take_of_length_le h
    simp only [g1, ht, go_sem]
    repeat' ((first | apply qa | apply qb | apply qc | apply qd | apply qe | apply qf | apply qg | apply qh | apply qi | apply qj | apply qk) <;> intro hp <;> simp only [hp, g1, ht, go_sem])
    simp only [fin_mk, finV, resL, resV1, resIn, endA, listIn, Option.some_or, Option.none_or, oneOrTup, go_sem]
    rw [← hr]
def markB (l : List Bool) (n : Int) : Bool := l.getD n.toNat false
def scanB (l : List Bool) : List Range := scan ((nums 9999).filter (markB l))
theorem filter_nums_succ (p : Int → Bool) (i : Nat) : (nums (i + 1)).filter p = (nums i).filter p ++ (if p ((i + 1 : Nat) : Int) = true then [((i + 1 : Nat) : Int)] else []) := by
  rw [nums_succ, List.filter_append, List.filter_cons]
  rfl
theorem filter_nums_last {p : Int → Bool} {i : Nat} (h : p ((i + 1 : Nat) : Int) = true) : ∃ a r, scan ((nums (i + 1)).filter p) = a ++ [r] ∧ r.Hi = ((i + 1 : Nat) : Int) := by
  rw [filter_nums_succ, if_pos h]
  exact scan_last _ _
theorem push_gap {p : Int → Bool} {i : Nat} (h : i = 0 ∨ p (i : Int) = false) : push (scan ((nums i).filter p)) ((i + 1 : Nat) : Int) = scan ((nums i).filter p) ++ [⟨((i + 1 : Nat) : Int), ((i + 1 : Nat) : Int)⟩] := by
  rcases snoc_cases ((nums i).filter p) with e | ⟨a, x, e⟩
  · rw [e]; rfl
  · rw [e]
    obtain ⟨b, r, h1, h2⟩ := scan_last a x
    have hx : x ∈ (nums i).filter p := by rw [e]; simp
    rw [List.mem_filter, nums_mem] at hx
    have hne : x ≠ i := by
      rintro rfl
      rcases h with h | h
      · subst h; omega
      · rw [hx.2] at h; cases h
    rw [h1, push_snoc, if_neg (by rw [h2]; omega)]
open Classical in
noncomputable def spScanBits : VM.Spec := { modes := [.rd], run := fun | [.lst 1 l'] => (decL dBool l').bind fun l => if l.length = 10001 ∧ l.getD 0 false = false then some (.tup [.lst 2 (((if setOk (scanB l) = true then scanB l else [])).map Range.enc), .bool (setOk (scanB l))], []) else none | _ => none, need := [] }
attribute [go_sem] spScanBits
theorem spScanBits_in {ins : List V} {r : V} {outs : List V} (h : spScanBits.run ins = some (r, outs)) : ∃ (l : (List Bool)), ins = [.lst 1 ((l).map eBool)] ∧ (l.length = 10001 ∧ l.getD 0 false = false) ∧ .tup [.lst 2 (((if setOk (scanB l) = true then scanB l else [])).map Range.enc), .bool (setOk (scanB l))] = r ∧ outs = [] := by
  unfold spScanBits at h
  simp only at h
  split at h
  · rename_i l'
    simp only [Option.bind_eq_some_iff] at h
    obtain ⟨l, h_l, h⟩ := h
    split at h
    case isFalse => cases h
    rename_i hc
    simp only [Option.some.injEq, Prod.mk.injEq] at h
    obtain ⟨h1, h2⟩ := h
    have h_l := decL_some (fun _ _ h => dBool_some h) h_l
    subst h_l
    exact ⟨l, rfl, hc, h1, h2.symm⟩
  · cases h
def T_spec_l05Set : Hints := ⟨lk [], lk [(3, [0, 4, 5])], lk [(0, [0]), (1, [0, 4]), (2, [0, 4, 5]), (3, [0, 4, 5, 8]), (5, [0, 4, 5, 15]), (6, [0, 4, 5, 21]), (7, [0, 4, 5]), (8, [0, 4, 5]), (4, [0, 4, 5]), (9, [4, 36]), (10, [2, 3]), (11, [2, 3])], lk []⟩
noncomputable def Phi_spec_l05Set : Tab := lk [(39, spSetOk)]
attribute [go_sem] T_spec_l05Set Phi_spec_l05Set
theorem phi_spec_l05Set : ∀ f sp, Phi_spec_l05Set f = some sp → FnOk Tryz.prog f sp ∧ ∀ n ∈ sp.need, n ∈ ([] : List String) := phi_cons ok_spec_SetOk (n0 rfl) (phi_nil)
theorem ok_spec_l05Set : FnOk Tryz.prog 88 spScanBits := by
  refine fn_ok (Φ := Phi_spec_l05Set) (T := T_spec_l05Set) phi_spec_l05Set mixed Tryz.func88 rfl rfl rfl (by decide) ?_
  intro ins r outs hr hl
  clear hl
  have hs := spScanBits_in hr
  clear hr
  obtain ⟨l, rfl, hc, hr, rfl⟩ := hs
  simp only [spScanBits, Tryz.f88, Go.VM.initS]
  obtain ⟨hl, h0⟩ := hc
  simp only [go_sem]
  repeat' ((first | apply qa | apply qb | apply qc | apply qd | apply qe | apply qf | apply qg | apply qh | apply qi | apply qj | apply qk) <;> intro hp <;> simp only [hp, go_sem])
  refine loop_go (fun i : Nat => [(5, .int .i64 ((i + 1 : Nat) : Int))]) (fun i => [(0, ⟨.arr, 2, (scan ((nums i).filter (markB l))).map Range.enc⟩)]) (fun i => 9999 - i) (fun i => i ≤ 9999) 0 (Nat.zero_le _) rfl rfl ?_
  intro i hi ih
  rcases Nat.lt_or_ge i 9999 with h | h
  · have g1 : ((i + 1 : Nat) : Int) ≤ 9999 := by omega
    have g2 : (0 : Int) ≤ ((i + 1 : Nat) : Int) := by omega
    have g3 : ((i + 1 : Nat) : Int) < ((10001 : Nat) : Int) := by omega
    have g4 : l[i + 1]? = some (markB l ((i + 1 : Nat) : Int)) := by
      rw [markB, Int.toNat_natCast, List.getD_eq_getElem?_getD, List.getElem?_eq_getElem (by omega)]; rfl
    have g5 : IntKind.i64.wrap (((i + 1 : Nat) : Int) + 1) = ((i + 1 + 1 : Nat) : Int) := wrap_succ (n := 10002) (by omega) (by omega)
    have g6 : IntKind.i64.wrap (((i + 1 : Nat) : Int) - 1) = (i : Int) := (wrap64 (by omega) (by omega)).trans (by omega)
    have g7 : (0 : Int) ≤ (i : Int) := by omega
    have g8 : (i : Int) < ((10001 : Nat) : Int) := by omega
    have g9 : l[i]? = some (markB l (i : Int)) := by
      rw [markB, Int.toNat_natCast, List.getD_eq_getElem?_getD, List.getElem?_eq_getElem (by omega)]; rfl
    have ih' := ih (i + 1) h (by omega)
    rw [filter_nums_succ] at ih'
    clear ih
    have hsl : (scan ((nums i).filter (markB l))).length ≤ i := by
      refine Nat.le_trans (scan_len _) (Nat.le_trans (List.length_filter_le _ _) ?_)
      simp [nums]
    cases hm : markB l ((i + 1 : Nat) : Int) with
    | false =>
      rw [hm] at ih' g4
      rw [if_neg (by simp), List.append_nil] at ih'
      simp only [hl, g1, g2, g3, g4, g5, go_sem]
      repeat' ((first | apply qa | apply qb | apply qc | apply qd | apply qe | apply qf | apply qg | apply qh | apply qi | apply qj | apply qk) <;> intro hp <;> simp only [hp, hl, g1, g2, g3, g4, g5, go_sem])
      exact ih'
    | true =>
      rw [hm] at ih' g4
      rw [if_pos rfl, scan_snoc] at ih'
      cases hp : markB l (i : Int) with
      | false =>
        rw [hp] at g9
        rw [push_gap (.inr hp)] at ih'
        generalize hO : scan ((nums i).filter (markB l)) = O at *
        have b1 : (O.length + 1) * 16 ≤ 140737488355328 := by omega
        have b2 : O.length ≤ 9223372036854775806 := by omega
        have b3 : IntKind.i64.wrap (((O.length + 1 : Nat) : Int) - 1) = (O.length : Int) := (wrap64 (by omega) (by omega)).trans (by omega)
        have b4 : (0 : Int) ≤ (O.length : Int) := by omega
        have b5 : (O.length : Int) < ((O.length + 1 : Nat) : Int) := by omega
        have b6 : (List.map Range.enc O ++ [V.agg [.int .i64 ((i + 1 : Nat) : Int), .int .i64 0]])[O.length]? = some (V.agg [.int .i64 ((i + 1 : Nat) : Int), .int .i64 0]) := by
          rw [List.getElem?_append_right (by simp)]; simp
        have b7 : (List.map Range.enc O ++ [V.agg [.int .i64 ((i + 1 : Nat) : Int), .int .i64 0]]).set O.length (V.agg [.int .i64 ((i + 1 : Nat) : Int), .int .i64 ((i + 1 : Nat) : Int)]) = List.map Range.enc (O ++ [⟨((i + 1 : Nat) : Int), ((i + 1 : Nat) : Int)⟩]) := by
          rw [List.set_append_right _ _ (by simp)]; simp [Range.enc]
        have b8 : (List.map Range.enc O ++ [V.agg [.int .i64 ((i + 1 : Nat) : Int), .int .i64 0]]).length = O.length + 1 := by simp
        rw [← b7] at ih'
        clear b7
        simp only [hl, g1, g2, g3, g4, g5, g6, g7, g8, g9, b1, b2, b3, b4, b5, b6, b8, List.length_append, go_sem]
        repeat' ((first | apply qa | apply qb | apply qc | apply qd | apply qe | apply qf | apply qg | apply qh | apply qi | apply qj | apply qk) <;> intro hp <;> simp only [hp, hl, g1, g2, g3, g4, g5, g6, g7, g8, g9, b1, b2, b3, b4, b5, b6, b8, List.length_append, go_sem])
        exact ih'
      | true =>
        rw [hp] at g9
        obtain ⟨m, rfl⟩ : ∃ m, i = m + 1 := by
          rcases Nat.eq_zero_or_pos i with e | e
          · subst e
            rw [markB] at hp
            rw [show ((0 : Nat) : Int).toNat = 0 from rfl, h0] at hp
            cases hp
          · exact ⟨i - 1, by omega⟩
        obtain ⟨a, r', ha, hH⟩ := filter_nums_last hp
        rw [ha] at ih' hsl ⊢
        rw [push_snoc, if_pos (by rw [hH]; omega)] at ih'
        have b3 : IntKind.i64.wrap (((a.length + 1 : Nat) : Int) - 1) = (a.length : Int) := (wrap64 (by simp at hsl; omega) (by simp at hsl; omega)).trans (by omega)
        have b4 : (0 : Int) ≤ (a.length : Int) := by omega
        have b5 : (a.length : Int) < ((a.length + 1 : Nat) : Int) := by omega
        have b6 : (List.map Range.enc (a ++ [r']))[a.length]? = some r'.enc := by simp
        have b7 : (List.map Range.enc (a ++ [r'])).set a.length (V.agg [.int .i64 r'.Lo, .int .i64 ((m + 1 + 1 : Nat) : Int)]) = List.map Range.enc (a ++ [⟨r'.Lo, ((m + 1 + 1 : Nat) : Int)⟩]) := by
          simp [Range.enc]
        have b8 : (List.map Range.enc (a ++ [r'])).length = a.length + 1 := by simp
        have b9 : (a ++ [r']).length = a.length + 1 := by simp
        rw [← b7] at ih'
        clear b7
        generalize hX : List.map Range.enc (a ++ [r']) = X at *
        simp only [hl, g1, g2, g3, g4, g5, g6, g7, g8, g9, b3, b4, b5, b6, b8, go_sem]
        repeat' ((first | apply qa | apply qb | apply qc | apply qd | apply qe | apply qf | apply qg | apply qh | apply qi | apply qj | apply qk) <;> intro hp <;> simp only [hp, hl, g1, g2, g3, g4, g5, g6, g7, g8, g9, b3, b4, b5, b6, b8, go_sem])
        exact ih'
  · have hi9 : i = 9999 := by omega
    subst hi9
    have g1 : ¬ (((9999 + 1 : Nat) : Int)) ≤ 9999 := by decide
    have hsl : (scan ((nums 9999).filter (markB l))).length ≤ 9999 := by
      refine Nat.le_trans (scan_len _) (Nat.le_trans (List.length_filter_le _ _) ?_)
      simp [nums]
    have hB : scan ((nums 9999).filter (markB l)) = scanB l := rfl
    rw [hB] at hsl ⊢
    have hsl' : (scanB l).length ≤ 4194304 := by omega
    cases hk : setOk (scanB l) with
    | false =>
      simp only [g1, hsl', hk, go_sem]
      repeat' ((first | apply qa | apply qb | apply qc | apply qd | apply qe | apply qf | apply qg | apply qh | apply qi | apply qj | apply qk) <;> intro hp <;> simp only [hp, g1, hsl', hk, go_sem])
      simp only [fin_mk, finV, resL, resV1, resIn, endA, listIn, Option.some_or, Option.none_or, oneOrTup, go_sem]
      rw [← hr]
      rw [hk]; rfl
    | true =>
      simp only [g1, hsl', hk, go_sem]
      repeat' ((first | apply qa | apply qb | apply qc | apply qd | apply qe | apply qf | apply qg | apply qh | apply qi | apply qj | apply qk) <;> intro hp <;> simp only [hp, g1, hsl', hk, go_sem])
      simp only [fin_mk, finV, resL, resV1, resIn, endA, listIn, Option.some_or, Option.none_or, oneOrTup, go_sem]
      rw [← hr]
      rw [hk]; rfl
def addR (s : List Range) (lo hi : Int) : List Range := scan ((nums 9999).filter fun n => hasR s n || (decide (lo ≤ n) && decide (n ≤ hi)))
def setAddIn (s : List Range) (lo hi : Int) : Bool := setOk s && (within lo 1 hi && decide (hi ≤ 9999))
def setAddOk (s : List Range) (lo hi : Int) : Bool := setAddIn s lo hi && setOk (addR s lo hi)
def setAdd (s : List Range) (lo hi : Int) : List Range := if setAddOk s lo hi = true then addR s lo hi else s
theorem setOk_lo {s : List Range} (h : setOk s = true) : memN s 0 = false := by
  simp only [setOk, Bool.and_eq_true] at h
  unfold memN hasR
  rw [List.any_eq_false]
  intro r hr
  obtain ⟨i, hi, rfl⟩ := List.mem_iff_getElem.1 hr
  have := rangeAt_hi hi (allN_get h.1 hi)
  simp; omega
theorem filter_nums {k : Nat} {p q : Int → Bool} (h : ∀ n : Int, 1 ≤ n → n ≤ k → p n = q n) : (nums k).filter p = (nums k).filter q :=
  List.filter_congr fun n hn => h n (nums_mem.1 hn).1 (nums_mem.1 hn).2
theorem scanB_bits (p : Nat → Bool) : scanB (bitsOf p) = scan ((nums 9999).filter fun n => p n.toNat) := by
  have : (nums 9999).filter (markB (bitsOf p)) = (nums 9999).filter fun n => p n.toNat := filter_nums fun n h1 h2 => by
    rw [markB, List.getD_eq_getElem?_getD, bitsOf_get p (by omega)]; rfl
  rw [scanB, this]
open Classical in
noncomputable def spPut : VM.Spec := { modes := [.rd, .rd, .rd, .rd], run := fun | [.lst 2 s', .int .i64 lo, .int .i64 hi, .bool to] => (decL Range.dec s').bind fun s => if to = true ∧ s.length ≤ 4194304 then some (.tup [.lst 2 ((setAdd s lo hi).map Range.enc), .bool (setAddOk s lo hi)], []) else none | _ => none, need := [] }
attribute [go_sem] spPut
theorem spPut_in {ins : List V} {r : V} {outs : List V} (h : spPut.run ins = some (r, outs)) : ∃ (s : (List Range)) (lo : Int) (hi : Int) (to : Bool), ins = [.lst 2 ((s).map Range.enc), .int .i64 lo, .int .i64 hi, .bool to] ∧ (to = true ∧ s.length ≤ 4194304) ∧ .tup [.lst 2 ((setAdd s lo hi).map Range.enc), .bool (setAddOk s lo hi)] = r ∧ outs = [] := by
  unfold spPut at h
  simp only at h
  split at h
  · rename_i s' lo hi to
    simp only [Option.bind_eq_some_iff] at h
    obtain ⟨s, h_s, h⟩ := h
    split at h
    case isFalse => cases h
    rename_i hc
    simp only [Option.some.injEq, Prod.mk.injEq] at h
    obtain ⟨h1, h2⟩ := h
    have h_s := decL_some (fun _ _ h => Range.dec_some h) h_s
    subst h_s
    exact ⟨s, lo, hi, to, rfl, hc, h1, h2.symm⟩
  · cases h
def T_spec_l05Put : Hints := ⟨lk [], lk [(6, [2, 3, 10, 11, 12])], lk [(0, [0, 1, 2, 3]), (1, [0, 1, 2, 3, 10]), (2, [0, 1, 2, 3, 10, 30]), (3, [8, 9]), (4, [1, 2, 3, 10, 11]), (5, [2, 3, 10, 11, 12]), (6, [2, 3, 10, 11, 12, 37]), (8, [2, 3, 10, 11, 12]), (7, [2, 3, 10, 11, 12]), (9, [10, 13, 14]), (10, [10, 13, 50]), (11, [8, 9]), (12, [8, 9])], lk []⟩
noncomputable def Phi_spec_l05Put : Tab := lk [(39, spSetOk), (38, spWithin), (161, spBits), (88, spScanBits)]
attribute [go_sem] T_spec_l05Put Phi_spec_l05Put
theorem phi_spec_l05Put : ∀ f sp, Phi_spec_l05Put f = some sp → FnOk Tryz.prog f sp ∧ ∀ n ∈ sp.need, n ∈ ([] : List String) := phi_cons ok_spec_SetOk (n0 rfl) (phi_cons ok_spec_l01In (n0 rfl) (phi_cons ok_spec_l05Bits (n0 rfl) (phi_cons ok_spec_l05Set (n0 rfl) (phi_nil))))
theorem ok_spec_l05Put : FnOk Tryz.prog 132 spPut := by
  refine fn_ok (Φ := Phi_spec_l05Put) (T := T_spec_l05Put) phi_spec_l05Put mixed Tryz.func132 rfl rfl rfl (by decide) ?_
  intro ins r outs hr hl
  clear hl
  have hs := spPut_in hr
  clear hr
  obtain ⟨s, lo, hi, to, rfl, hc, hr, rfl⟩ := hs
  simp only [spPut, Tryz.f132, Go.VM.initS]
  obtain ⟨rfl, hl⟩ := hc
  have c1 : s.length * 16 ≤ 140737488355328 := by omega
  have c2 : s.length ≤ 9223372036854775807 := by omega
  cases hk : setOk s with
  | false =>
    simp only [hl, c1, c2, hk, go_sem]
    repeat' ((first | apply qa | apply qb | apply qc | apply qd | apply qe | apply qf | apply qg | apply qh | apply qi | apply qj | apply qk) <;> intro hp <;> simp only [hp, hl, c1, c2, hk, go_sem])
    all_goals (simp only [fin_mk, finV, resL, resV1, resIn, endA, listIn, Option.some_or, Option.none_or, oneOrTup, go_sem]; rw [← hr])
    all_goals simp only [setAdd, setAddOk, setAddIn, hk, Bool.false_and, Bool.false_eq_true, if_false]
  | true =>
    cases hw : within lo 1 hi with
    | false =>
      simp only [hl, c1, c2, hk, hw, go_sem]
      repeat' ((first | apply qa | apply qb | apply qc | apply qd | apply qe | apply qf | apply qg | apply qh | apply qi | apply qj | apply qk) <;> intro hp <;> simp only [hp, hl, c1, c2, hk, hw, go_sem])
      all_goals (simp only [fin_mk, finV, resL, resV1, resIn, endA, listIn, Option.some_or, Option.none_or, oneOrTup, go_sem]; rw [← hr])
      all_goals simp only [setAdd, setAddOk, setAddIn, hk, hw, Bool.false_and, Bool.true_and, Bool.false_eq_true, if_false]
    | true =>
      have hlo : 1 ≤ lo ∧ lo ≤ hi := by simpa only [within, Bool.and_eq_true, decide_eq_true_eq] using hw
      by_cases h9 : (9999 : Int) < hi
      · simp only [hl, c1, c2, hk, hw, h9, go_sem]
        repeat' ((first | apply qa | apply qb | apply qc | apply qd | apply qe | apply qf | apply qg | apply qh | apply qi | apply qj | apply qk) <;> intro hp <;> simp only [hp, hl, c1, c2, hk, hw, h9, go_sem])
        all_goals (simp only [fin_mk, finV, resL, resV1, resIn, endA, listIn, Option.some_or, Option.none_or, oneOrTup, go_sem]; rw [← hr])
        have : decide (hi ≤ 9999) = false := by simp; omega
        all_goals simp only [setAdd, setAddOk, setAddIn, hk, hw, this, Bool.and_false, Bool.false_and, Bool.true_and, Bool.false_eq_true, if_false]
      · obtain ⟨a, rfl⟩ : ∃ a : Nat, lo = a := ⟨lo.toNat, by omega⟩
        obtain ⟨b, rfl⟩ : ∃ b : Nat, hi = b := ⟨hi.toNat, by omega⟩
        have e0 : (fun n => memN s n || (decide (a ≤ n) && decide (n < a))) = memN s := by
          funext n
          have : (decide (a ≤ n) && decide (n < a)) = false := by rw [Bool.and_eq_false_iff]; simp; omega
          rw [this, Bool.or_false]
        have hin : setAddIn s a b = true := by
          have : decide ((b : Int) ≤ 9999) = true := by simp; omega
          simp only [setAddIn, hk, hw, this, Bool.and_true]
        simp only [hl, c1, c2, hk, hw, h9, go_sem]
        repeat' ((first | apply qa | apply qb | apply qc | apply qd | apply qe | apply qf | apply qg | apply qh | apply qi | apply qj | apply qk) <;> intro hp <;> simp only [hp, hl, c1, c2, hk, hw, h9, go_sem])
        refine loop_go (fun k : Nat => [(12, .int .i64 (k : Int))]) (fun k => [(1, ⟨.arr, 1, (bitsOf fun n => memN s n || (decide (a ≤ n) && decide (n < k))).map eBool⟩)]) (fun k => b + 1 - k) (fun k => a ≤ k ∧ k ≤ b + 1) a ⟨Nat.le_refl _, by omega⟩ rfl (by rw [e0]; rfl) ?_
        intro k ⟨hk1, hk2⟩ ihk
        have kl := bitsOf_len (fun n => memN s n || (decide (a ≤ n) && decide (n < k)))
        rcases Nat.lt_or_ge k (b + 1) with hkl | hkl
        · have k1 : (k : Int) ≤ b := by omega
          have k2 : (0 : Int) ≤ k := by omega
          have k3 : (k : Int) < ((10001 : Nat) : Int) := by omega
          have k5 := wrap_succ hkl (by omega)
          have kg := bitsOf_get (fun n => memN s n || (decide (a ≤ n) && decide (n < k))) (n := k) (by omega)
          have ks : (List.map eBool (bitsOf fun n => memN s n || (decide (a ≤ n) && decide (n < k)))).set k (V.bool true) = List.map eBool (bitsOf fun n => memN s n || (decide (a ≤ n) && decide (n < k + 1))) := by
            rw [show V.bool true = eBool true from rfl, ← List.map_set, bitsOf_set]
            congr 2
            funext m
            by_cases hm : m = k
            · subst hm; simp [hk1]
            · have : decide (m < k + 1) = decide (m < k) := by rw [Bool.eq_iff_iff]; simp; omega
              simp [hm, this]
          have ihk' := ihk (k + 1) ⟨by omega, by omega⟩ (by omega)
          rw [← ks] at ihk'
          clear ihk ks
          generalize hB : (bitsOf fun n => memN s n || (decide (a ≤ n) && decide (n < k))) = B at *
          simp only [k1, k2, k3, k5, kl, kg, go_sem]
          repeat' ((first | apply qa | apply qb | apply qc | apply qd | apply qe | apply qf | apply qg | apply qh | apply qi | apply qj | apply qk) <;> intro hp <;> simp only [hp, k1, k2, k3, k5, kl, kg, go_sem])
          exact ihk'
        · have hke : k = b + 1 := by omega
          subst hke
          have k1 : ¬ (((b + 1 : Nat) : Int)) ≤ b := by omega
          have h0 : (bitsOf fun n => memN s n || (decide (a ≤ n) && decide (n < b + 1))).getD 0 false = false := by
            rw [List.getD_eq_getElem?_getD, bitsOf_get _ (by decide), Option.getD_some, setOk_lo hk]
            simp; omega
          have hS : scanB (bitsOf fun n => memN s n || (decide (a ≤ n) && decide (n < b + 1))) = addR s a b := by
            have e2 : ((nums 9999).filter fun n => memN s n.toNat || (decide (a ≤ n.toNat) && decide (n.toNat < b + 1))) = (nums 9999).filter fun n => hasR s n || (decide ((a : Int) ≤ n) && decide (n ≤ b)) := filter_nums fun n h1 h2 => by
              have e1 : ((n.toNat : Nat) : Int) = n := by omega
              unfold memN
              rw [e1]
              congr 1
              rw [Bool.eq_iff_iff]
              simp; omega
            rw [scanB_bits, e2, addR]
          generalize hB : (bitsOf fun n => memN s n || (decide (a ≤ n) && decide (n < b + 1))) = B at *
          cases hf : setOk (addR s a b) with
          | false =>
            simp only [k1, kl, h0, hS, hf, go_sem]
            repeat' ((first | apply qa | apply qb | apply qc | apply qd | apply qe | apply qf | apply qg | apply qh | apply qi | apply qj | apply qk) <;> intro hp <;> simp only [hp, k1, kl, h0, hS, hf, go_sem])
            simp only [fin_mk, finV, resL, resV1, resIn, endA, listIn, Option.some_or, Option.none_or, oneOrTup, go_sem]
            rw [← hr]
            simp only [setAdd, setAddOk, hin, hf, Bool.true_and, Bool.false_eq_true, if_false]
          | true =>
            simp only [k1, kl, h0, hS, hf, go_sem]
            repeat' ((first | apply qa | apply qb | apply qc | apply qd | apply qe | apply qf | apply qg | apply qh | apply qi | apply qj | apply qk) <;> intro hp <;> simp only [hp, k1, kl, h0, hS, hf, go_sem])
            simp only [fin_mk, finV, resL, resV1, resIn, endA, listIn, Option.some_or, Option.none_or, oneOrTup, go_sem]
            rw [← hr]
            simp only [setAdd, setAddOk, hin, hf, Bool.true_and, if_true]
open Classical in
noncomputable def spSetAdd : VM.Spec := { modes := [.rd, .rd, .rd], run := fun | [.lst 2 s', .int .i64 lo, .int .i64 hi] => (decL Range.dec s').bind fun s => if s.length ≤ 4194304 then some (.tup [.lst 2 ((setAdd s lo hi).map Range.enc), .bool (setAddOk s lo hi)], []) else none | _ => none, need := [] }
attribute [go_sem] spSetAdd
theorem spSetAdd_in {ins : List V} {r : V} {outs : List V} (h : spSetAdd.run ins = some (r, outs)) : ∃ (s : (List Range)) (lo : Int) (hi : Int), ins = [.lst 2 ((s).map Range.enc), .int .i64 lo, .int .i64 hi] ∧ (s.length ≤ 4194304) ∧ .tup [.lst 2 ((setAdd s lo hi).map Range.enc), .bool (setAddOk s lo hi)] = r ∧ outs = [] := by
  unfold spSetAdd at h
  simp only at h
  split at h
  · rename_i s' lo hi
    simp only [Option.bind_eq_some_iff] at h
    obtain ⟨s, h_s, h⟩ := h
    split at h
    case isFalse => cases h
    rename_i hc
    simp only [Option.some.injEq, Prod.mk.injEq] at h
    obtain ⟨h1, h2⟩ := h
    have h_s := decL_some (fun _ _ h => Range.dec_some h) h_s
    subst h_s
    exact ⟨s, lo, hi, rfl, hc, h1, h2.symm⟩
  · cases h
def T_spec_SetAdd : Hints := ⟨lk [], lk [], lk [(0, [0, 1, 2]), (1, [6, 7])], lk []⟩
noncomputable def Phi_spec_SetAdd : Tab := lk [(132, spPut)]
attribute [go_sem] T_spec_SetAdd Phi_spec_SetAdd
theorem phi_spec_SetAdd : ∀ f sp, Phi_spec_SetAdd f = some sp → FnOk Tryz.prog f sp ∧ ∀ n ∈ sp.need, n ∈ ([] : List String) := phi_cons ok_spec_l05Put (n0 rfl) (phi_nil)
theorem ok_spec_SetAdd : FnOk Tryz.prog 110 spSetAdd := by
  refine fn_ok (Φ := Phi_spec_SetAdd) (T := T_spec_SetAdd) phi_spec_SetAdd mixed Tryz.func110 rfl rfl rfl (by decide) ?_
  intro ins r outs hr hl
  clear hl
  have hs := spSetAdd_in hr
  clear hr
  obtain ⟨s, lo, hi, rfl, hc, hr, rfl⟩ := hs
  simp only [spSetAdd, Tryz.f110, Go.VM.initS]
  simp only [hc, go_sem]
  repeat' ((first | apply qa | apply qb | apply qc | apply qd | apply qe | apply qf | apply qg | apply qh | apply qi | apply qj | apply qk) <;> intro hp <;> simp only [hp, hc, go_sem])
  simp only [fin_mk, finV, resL, resV1, resIn, endA, listIn, Option.some_or, Option.none_or, oneOrTup, go_sem]
  rw [← hr]
theorem setAdd_one {S : List Int} {u : Int} (hu : 1 ≤ u ∧ u ≤ 9999) (hl : S.length < 40) : setAddOk (setOf S) u u = true ∧ setAdd (setOf S) u u = setOf (S ++ [u]) := by
  have h1 : setOk (setOf S) = true := setOf_ok (by omega)
  have h2 : addR (setOf S) u u = setOf (S ++ [u]) := by
    have e2 : ((nums 9999).filter fun n => hasR (setOf S) n || (decide (u ≤ n) && decide (n ≤ u))) = (nums 9999).filter fun n => decide (n ∈ S ++ [u]) := filter_nums fun n h1 h2 => by
      have e3 : (decide (u ≤ n) && decide (n ≤ u)) = decide (n = u) := by rw [Bool.eq_iff_iff]; simp; omega
      rw [setOf_has S n ⟨h1, h2⟩, e3, Bool.eq_iff_iff]
      simp
    rw [addR, e2]
    rfl
  have h3 : setAddOk (setOf S) u u = true := by
    rw [setAddOk, h2, setOf_ok (by simp; omega), setAddIn, h1]
    simp only [within, Bool.and_true, Bool.true_and, Bool.and_eq_true, decide_eq_true_eq]; omega
  exact ⟨h3, by rw [setAdd, if_pos h3, h2]⟩
end Go.Proofs.YtonjbbfgdloljaaGreatDoor.L

namespace Go.Proofs.YtonjbbfgdloljaaGreatDoor.L
open Go Go.VM
set_option maxRecDepth 100000
set_option maxHeartbeats 4000000
set_option linter.unusedSimpArgs false
set_option linter.unusedVariables false
def andN (a b : Int) : Int := ((a.toNat &&& b.toNat : Nat) : Int)
theorem and_step : ∀ a b : Fin 32, ∀ j : Fin 5,
    (((IntKind.i64.wrap ((a.val : Int).tdiv ((2 ^ j.val : Nat) : Int))).tmod 2 == 1) = a.val.testBit j.val) ∧
    ((a.val &&& b.val) % 2 ^ (j.val + 1) = (a.val &&& b.val) % 2 ^ j.val + (if (a.val.testBit j.val && b.val.testBit j.val) = true then 2 ^ j.val else 0)) := by decide +kernel
open Classical in
noncomputable def spAnd : VM.Spec := { modes := [.rd, .rd], run := fun | [.int .i64 a, .int .i64 b] => if flagsOk a = true ∧ flagsOk b = true then some (.int .i64 (andN a b), []) else none | _ => none, need := [] }
attribute [go_sem] spAnd
theorem spAnd_in {ins : List V} {r : V} {outs : List V} (h : spAnd.run ins = some (r, outs)) : ∃ (a : Int) (b : Int), ins = [.int .i64 a, .int .i64 b] ∧ (flagsOk a = true ∧ flagsOk b = true) ∧ .int .i64 (andN a b) = r ∧ outs = [] := by
  unfold spAnd at h
  simp only at h
  split at h
  · rename_i a b
    split at h
    case isFalse => cases h
    rename_i hc
    simp only [Option.some.injEq, Prod.mk.injEq] at h
    obtain ⟨h1, h2⟩ := h
    exact ⟨a, b, rfl, hc, h1, h2.symm⟩
  · cases h
def T_spec_l06And : Hints := ⟨lk [], lk [(3, [0, 1, 5, 6])], lk [(0, [0, 1]), (1, [0, 1, 5]), (2, [0, 1, 5, 6]), (3, [0, 1, 5, 6, 8]), (5, [0, 1, 5, 6, 22]), (6, [0, 1, 5, 6]), (4, [0, 1, 5, 6]), (7, [4])], lk []⟩
noncomputable def Phi_spec_l06And : Tab := lk []
attribute [go_sem] T_spec_l06And Phi_spec_l06And
theorem phi_spec_l06And : ∀ f sp, Phi_spec_l06And f = some sp → FnOk Tryz.prog f sp ∧ ∀ n ∈ sp.need, n ∈ ([] : List String) := phi_nil
theorem ok_spec_l06And : FnOk Tryz.prog 65 spAnd := by
  refine fn_ok (Φ := Phi_spec_l06And) (T := T_spec_l06And) phi_spec_l06And mixed Tryz.func65 rfl rfl rfl (by decide) ?_
  intro ins r outs hr hl
  clear hl
  have hs := spAnd_in hr
  clear hr
  obtain ⟨a, b, rfl, hc, hr, rfl⟩ := hs
  simp only [spAnd, Tryz.f65, Go.VM.initS]
  obtain ⟨ha, hb⟩ := hc
  have ha : 0 ≤ a ∧ a ≤ 31 := by simpa only [flagsOk, within, Bool.and_eq_true, decide_eq_true_eq] using ha
  have hb : 0 ≤ b ∧ b ≤ 31 := by simpa only [flagsOk, within, Bool.and_eq_true, decide_eq_true_eq] using hb
  obtain ⟨x, rfl⟩ : ∃ x : Nat, a = x := ⟨a.toNat, by omega⟩
  obtain ⟨y, rfl⟩ : ∃ y : Nat, b = y := ⟨b.toNat, by omega⟩
  have hx : x < 32 := by omega
  have hy : y < 32 := by omega
  simp only [go_sem]
  repeat' ((first | apply qa | apply qb | apply qc | apply qd | apply qe | apply qf | apply qg | apply qh | apply qi | apply qj | apply qk) <;> intro hp <;> simp only [hp, go_sem])
  refine loop_go (fun j : Nat => [(5, .int .i64 (((x &&& y) % 2 ^ j : Nat) : Int)), (6, .int .i64 ((2 ^ j : Nat) : Int))]) (fun _ => []) (fun j => 5 - j) (fun j => j ≤ 5) 0 (Nat.zero_le _) (by rw [Nat.pow_zero, Nat.mod_one]; rfl) rfl ?_
  intro j hj ih
  rcases Nat.lt_or_ge j 5 with h | h
  · have hp : 2 ^ j ≤ 16 := by
      have : ∀ j : Fin 5, 2 ^ j.val ≤ 16 := by decide
      exact this ⟨j, h⟩
    have hp0 : 0 < 2 ^ j := Nat.pow_pos (by decide)
    have g1 : ((2 ^ j : Nat) : Int) ≤ 16 := by omega
    have g2 : ¬ ((2 ^ j : Nat) : Int) = 0 := by omega
    have g3 := (and_step ⟨x, hx⟩ ⟨y, hy⟩ ⟨j, h⟩).1
    have g4 := (and_step ⟨y, hy⟩ ⟨x, hx⟩ ⟨j, h⟩).1
    have g5 := (and_step ⟨x, hx⟩ ⟨y, hy⟩ ⟨j, h⟩).2
    simp only at g3 g4 g5
    have g6 : IntKind.i64.wrap (2 * ((2 ^ j : Nat) : Int)) = ((2 ^ (j + 1) : Nat) : Int) := (wrap64 (by omega) (by omega)).trans (by rw [Nat.pow_succ]; omega)
    have hm : (x &&& y) % 2 ^ j < 2 ^ j := Nat.mod_lt _ hp0
    have ih' := ih (j + 1) h (by omega)
    rw [g5] at ih'
    clear ih g5
    cases t1 : x.testBit j with
    | false =>
      rw [t1] at g3 ih'
      simp only [Bool.false_and, Bool.false_eq_true, if_false, Nat.add_zero] at ih'
      simp only [g1, g2, g3, g4, g6, go_sem]
      repeat' ((first | apply qa | apply qb | apply qc | apply qd | apply qe | apply qf | apply qg | apply qh | apply qi | apply qj | apply qk) <;> intro hp <;> simp only [hp, g1, g2, g3, g4, g6, go_sem])
      exact ih'
    | true =>
      cases t2 : y.testBit j with
      | false =>
        rw [t1] at g3 ih'
        rw [t2] at g4 ih'
        simp only [Bool.and_false, Bool.false_eq_true, if_false, Nat.add_zero] at ih'
        simp only [g1, g2, g3, g4, g6, go_sem]
        repeat' ((first | apply qa | apply qb | apply qc | apply qd | apply qe | apply qf | apply qg | apply qh | apply qi | apply qj | apply qk) <;> intro hp <;> simp only [hp, g1, g2, g3, g4, g6, go_sem])
        exact ih'
      | true =>
        rw [t1] at g3 ih'
        rw [t2] at g4 ih'
        simp only [Bool.and_true, if_true] at ih'
        have g7 : IntKind.i64.wrap ((((x &&& y) % 2 ^ j : Nat) : Int) + ((2 ^ j : Nat) : Int)) = (((x &&& y) % 2 ^ j + 2 ^ j : Nat) : Int) := (wrap64 (by omega) (by omega)).trans (by omega)
        simp only [g1, g2, g3, g4, g6, g7, go_sem]
        repeat' ((first | apply qa | apply qb | apply qc | apply qd | apply qe | apply qf | apply qg | apply qh | apply qi | apply qj | apply qk) <;> intro hp <;> simp only [hp, g1, g2, g3, g4, g6, g7, go_sem])
        exact ih'
  · have h5 : j = 5 := by omega
    subst h5
    have g1 : ¬ ((2 ^ 5 : Nat) : Int) ≤ 16 := by decide
    have e : (x &&& y) % 2 ^ 5 = x &&& y := Nat.mod_eq_of_lt (Nat.lt_of_le_of_lt Nat.and_le_left (by omega))
    rw [e]
    simp only [g1, go_sem]
    repeat' ((first | apply qa | apply qb | apply qc | apply qd | apply qe | apply qf | apply qg | apply qh | apply qi | apply qj | apply qk) <;> intro hp <;> simp only [hp, g1, go_sem])
    simp only [fin_mk, finV, resL, resV1, resIn, endA, listIn, Option.some_or, Option.none_or, oneOrTup, go_sem]
    rw [← hr]
    rfl
open Classical in
noncomputable def spSetHas : VM.Spec := { modes := [.rd, .rd], run := fun | [.lst 2 s', .int .i64 n] => (decL Range.dec s').bind fun s => if s.length ≤ 8388608 then some (.bool (hasR s n), []) else none | _ => none, need := [] }
attribute [go_sem] spSetHas
theorem spSetHas_in {ins : List V} {r : V} {outs : List V} (h : spSetHas.run ins = some (r, outs)) : ∃ (s : (List Range)) (n : Int), ins = [.lst 2 ((s).map Range.enc), .int .i64 n] ∧ (s.length ≤ 8388608) ∧ .bool (hasR s n) = r ∧ outs = [] := by
  unfold spSetHas at h
  simp only at h
  split at h
  · rename_i s' n
    simp only [Option.bind_eq_some_iff] at h
    obtain ⟨s, h_s, h⟩ := h
    split at h
    case isFalse => cases h
    rename_i hc
    simp only [Option.some.injEq, Prod.mk.injEq] at h
    obtain ⟨h1, h2⟩ := h
    have h_s := decL_some (fun _ _ h => Range.dec_some h) h_s
    subst h_s
    exact ⟨s, n, rfl, hc, h1, h2.symm⟩
  · cases h
def T_impl_SetHas : Hints := ⟨lk [], lk [(2, [1, 7, 8, 9])], lk [(0, [0, 1]), (1, [1, 7, 8, 9]), (2, [1, 7, 8, 9, 10]), (3, [1, 6, 7, 8, 9]), (4, [1, 7, 8, 9, 18]), (5, [4]), (6, [1, 7, 8, 9]), (7, [4])], lk []⟩
noncomputable def Phi_impl_SetHas : Tab := lk [(41, spWithin)]
attribute [go_sem] T_impl_SetHas Phi_impl_SetHas
theorem phi_impl_SetHas : ∀ f sp, Phi_impl_SetHas f = some sp → FnOk Tryz.prog f sp ∧ ∀ n ∈ sp.need, n ∈ ([] : List String) := phi_cons ok_impl_within (n0 rfl) (phi_nil)
theorem ok_impl_SetHas : FnOk Tryz.prog 64 spSetHas := by
  refine fn_ok (Φ := Phi_impl_SetHas) (T := T_impl_SetHas) phi_impl_SetHas mixed Tryz.func64 rfl rfl rfl (by decide) ?_
  intro ins r outs hr hl
  clear hl
  have hs := spSetHas_in hr
  clear hr
  obtain ⟨s, n, rfl, hc, hr, rfl⟩ := hs
  simp only [spSetHas, Tryz.f64, Go.VM.initS]
  simp only [go_sem]
  repeat' ((first | apply qa | apply qb | apply qc | apply qd | apply qe | apply qf | apply qg | apply qh | apply qi | apply qj | apply qk) <;> intro hp <;> simp only [hp, go_sem])
  refine loop_go (fun i : Nat => [(9, .int .i64 (i : Int))]) (fun _ => []) (fun i => s.length - i) (fun i => i ≤ s.length ∧ (s.take i).any (fun r => decide (r.Lo ≤ n) && decide (n ≤ r.Hi)) = false) 0 ⟨Nat.zero_le _, by simp⟩ rfl rfl ?_
  intro i ⟨hi, ha⟩ ih
  rcases Nat.lt_or_ge i s.length with h | h
  · have g1 : (i : Int) < s.length := by omega
    have g2 : (0 : Int) ≤ i := by omega
    have g3 : s[i]? = some s[i] := List.getElem?_eq_getElem h
    have g5 := wrap_succ h (by omega)
    cases hb : within n s[i].Lo s[i].Hi with
    | true =>
      simp only [g1, g2, g3, g5, hb, go_sem]
      repeat' ((first | apply qa | apply qb | apply qc | apply qd | apply qe | apply qf | apply qg | apply qh | apply qi | apply qj | apply qk) <;> intro hp <;> simp only [hp, g1, g2, g3, g5, hb, go_sem])
      simp only [fin_mk, finV, resL, resV1, resIn, endA, listIn, Option.some_or, Option.none_or, oneOrTup, go_sem]
      rw [← hr]
      rw [hasR, any_bad h hb]
    | false =>
      have ih' := ih (i + 1) ⟨h, any_take_succ h ha hb⟩ (by omega)
      simp only [g1, g2, g3, g5, hb, go_sem]
      repeat' ((first | apply qa | apply qb | apply qc | apply qd | apply qe | apply qf | apply qg | apply qh | apply qi | apply qj | apply qk) <;> intro hp <;> simp only [hp, g1, g2, g3, g5, hb, go_sem])
      exact ih'
  · have g1 : ¬ (i : Int) < s.length := by omega
    simp only [g1, go_sem]
    repeat' ((first | apply qa | apply qb | apply qc | apply qd | apply qe | apply qf | apply qg | apply qh | apply qi | apply qj | apply qk) <;> intro hp <;> simp only [hp, g1, go_sem])
    simp only [fin_mk, finV, resL, resV1, resIn, endA, listIn, Option.some_or, Option.none_or, oneOrTup, go_sem]
    rw [← hr]
    rw [hasR, any_take_end h ha]
def T_spec_SetHas : Hints := ⟨lk [], lk [(2, [0, 1, 5])], lk [(0, [0, 1]), (1, [0, 1, 5]), (2, [0, 1, 5, 9]), (4, [0, 1, 5, 27]), (5, [4]), (3, [0, 1, 5]), (6, [4])], lk []⟩
noncomputable def Phi_spec_SetHas : Tab := lk []
attribute [go_sem] T_spec_SetHas Phi_spec_SetHas
theorem phi_spec_SetHas : ∀ f sp, Phi_spec_SetHas f = some sp → FnOk Tryz.prog f sp ∧ ∀ n ∈ sp.need, n ∈ ([] : List String) := phi_nil
theorem ok_spec_SetHas : FnOk Tryz.prog 70 spSetHas := by
  refine fn_ok (Φ := Phi_spec_SetHas) (T := T_spec_SetHas) phi_spec_SetHas mixed Tryz.func70 rfl rfl rfl (by decide) ?_
  intro ins r outs hr hl
  clear hl
  have hs := spSetHas_in hr
  clear hr
  obtain ⟨s, n, rfl, hc, hr, rfl⟩ := hs
  simp only [spSetHas, Tryz.f70, Go.VM.initS]
  simp only [go_sem]
  repeat' ((first | apply qa | apply qb | apply qc | apply qd | apply qe | apply qf | apply qg | apply qh | apply qi | apply qj | apply qk) <;> intro hp <;> simp only [hp, go_sem])
  refine loop_go (fun i : Nat => [(5, .int .i64 (i : Int))]) (fun _ => []) (fun i => s.length - i) (fun i => i ≤ s.length ∧ (s.take i).any (fun r => decide (r.Lo ≤ n) && decide (n ≤ r.Hi)) = false) 0 ⟨Nat.zero_le _, by simp⟩ rfl rfl ?_
  intro i ⟨hi, ha⟩ ih
  rcases Nat.lt_or_ge i s.length with h | h
  · have g1 : (i : Int) < s.length := by omega
    have g2 : (0 : Int) ≤ i := by omega
    have g3 : s[i]? = some s[i] := List.getElem?_eq_getElem h
    have g5 := wrap_succ h (by omega)
    by_cases c1 : s[i].Lo ≤ n
    · by_cases c2 : n ≤ s[i].Hi
      · simp only [g1, g2, g3, g5, c1, c2, go_sem]
        repeat' ((first | apply qa | apply qb | apply qc | apply qd | apply qe | apply qf | apply qg | apply qh | apply qi | apply qj | apply qk) <;> intro hp <;> simp only [hp, g1, g2, g3, g5, c1, c2, go_sem])
        simp only [fin_mk, finV, resL, resV1, resIn, endA, listIn, Option.some_or, Option.none_or, oneOrTup, go_sem]
        rw [← hr]
        rw [hasR, any_bad h (by simp [c1, c2])]
      · have ih' := ih (i + 1) ⟨h, any_take_succ h ha (by simp [c1]; omega)⟩ (by omega)
        simp only [g1, g2, g3, g5, c1, c2, go_sem]
        repeat' ((first | apply qa | apply qb | apply qc | apply qd | apply qe | apply qf | apply qg | apply qh | apply qi | apply qj | apply qk) <;> intro hp <;> simp only [hp, g1, g2, g3, g5, c1, c2, go_sem])
        exact ih'
    · have ih' := ih (i + 1) ⟨h, any_take_succ h ha (by simp; omega)⟩ (by omega)
      simp only [g1, g2, g3, g5, c1, go_sem]
      repeat' ((first | apply qa | apply qb | apply qc | apply qd | apply qe | apply qf | apply qg | apply qh | apply qi | apply qj | apply qk) <;> intro hp <;> simp only [hp, g1, g2, g3, g5, c1, go_sem])
      exact ih'
  · have g1 : ¬ (i : Int) < s.length := by omega
    simp only [g1, go_sem]
    repeat' ((first | apply qa | apply qb | apply qc | apply qd | apply qe | apply qf | apply qg | apply qh | apply qi | apply qj | apply qk) <;> intro hp <;> simp only [hp, g1, go_sem])
    simp only [fin_mk, finV, resL, resV1, resIn, endA, listIn, Option.some_or, Option.none_or, oneOrTup, go_sem]
    rw [← hr]
    rw [hasR, any_take_end h ha]
end Go.Proofs.YtonjbbfgdloljaaGreatDoor.L

namespace Go.Proofs.YtonjbbfgdloljaaGreatDoor.L
open Go Go.VM
set_option maxRecDepth 100000
set_option maxHeartbeats 4000000
set_option linter.unusedSimpArgs false
set_option linter.unusedVariables false
open Classical in
noncomputable def spHasRead : VM.Spec := { modes := [.rd, .rd], run := fun | [.int .i64 n, .rptr (.lst 2 l')] => (decL Range.dec l').bind fun l => if l.length ≤ 8388608 then some (.bool (hasR l n), []) else none | _ => none, need := [] }
attribute [go_sem] spHasRead
theorem spHasRead_in {ins : List V} {r : V} {outs : List V} (h : spHasRead.run ins = some (r, outs)) : ∃ (n : Int) (l : (List Range)), ins = [.int .i64 n, .rptr (.lst 2 ((l).map Range.enc))] ∧ (l.length ≤ 8388608) ∧ .bool (hasR l n) = r ∧ outs = [] := by
  unfold spHasRead at h
  simp only at h
  split at h
  · rename_i n l'
    simp only [Option.bind_eq_some_iff] at h
    obtain ⟨l, h_l, h⟩ := h
    split at h
    case isFalse => cases h
    rename_i hc
    simp only [Option.some.injEq, Prod.mk.injEq] at h
    obtain ⟨h1, h2⟩ := h
    have h_l := decL_some (fun _ _ h => Range.dec_some h) h_l
    subst h_l
    exact ⟨n, l, rfl, hc, h1, h2.symm⟩
  · cases h
def T_impl_ReadSet_1 : Hints := ⟨lk [], lk [], lk [(0, [0, 1]), (1, [3])], lk []⟩
noncomputable def Phi_impl_ReadSet_1 : Tab := lk [(64, spSetHas)]
attribute [go_sem] T_impl_ReadSet_1 Phi_impl_ReadSet_1
theorem phi_impl_ReadSet_1 : ∀ f sp, Phi_impl_ReadSet_1 f = some sp → FnOk Tryz.prog f sp ∧ ∀ n ∈ sp.need, n ∈ ([] : List String) := phi_cons ok_impl_SetHas (n0 rfl) (phi_nil)
theorem ok_impl_ReadSet_1 : FnOk Tryz.prog 107 spHasRead := by
  refine fn_ok (Φ := Phi_impl_ReadSet_1) (T := T_impl_ReadSet_1) phi_impl_ReadSet_1 mixed Tryz.func107 rfl rfl rfl (by decide) ?_
  intro ins r outs hr hl
  clear hl
  have hs := spHasRead_in hr
  clear hr
  obtain ⟨n, l, rfl, hc, hr, rfl⟩ := hs
  simp only [spHasRead, Tryz.f107, Go.VM.initS]
  simp only [hc, go_sem]
  repeat' ((first | apply qa | apply qb | apply qc | apply qd | apply qe | apply qf | apply qg | apply qh | apply qi | apply qj | apply qk) <;> intro hp <;> simp only [hp, hc, go_sem])
  simp only [fin_mk, finV, resL, resV1, resIn, endA, listIn, Option.some_or, Option.none_or, oneOrTup, go_sem]
  rw [← hr]
def setR (l : List Range) : List Range := scan ((nums 9999).filter fun n => hasR l n)
open Classical in
noncomputable def spSetOfRead : VM.Spec := { modes := [.rd], run := fun | [.fn 107 [.rptr (.lst 2 l')]] => (decL Range.dec l').bind fun l => if l.length ≤ 8388608 then some (.tup [.lst 2 ((setR l).map Range.enc), .bool (decide ((setR l).length ≤ 40))], []) else none | _ => none, need := [] }
attribute [go_sem] spSetOfRead
theorem spSetOfRead_in {ins : List V} {r : V} {outs : List V} (h : spSetOfRead.run ins = some (r, outs)) : ∃ (l : (List Range)), ins = [.fn 107 [.rptr (.lst 2 ((l).map Range.enc))]] ∧ (l.length ≤ 8388608) ∧ .tup [.lst 2 ((setR l).map Range.enc), .bool (decide ((setR l).length ≤ 40))] = r ∧ outs = [] := by
  unfold spSetOfRead at h
  simp only at h
  split at h
  · rename_i l'
    simp only [Option.bind_eq_some_iff] at h
    obtain ⟨l, h_l, h⟩ := h
    split at h
    case isFalse => cases h
    rename_i hc
    simp only [Option.some.injEq, Prod.mk.injEq] at h
    obtain ⟨h1, h2⟩ := h
    have h_l := decL_some (fun _ _ h => Range.dec_some h) h_l
    subst h_l
    exact ⟨l, rfl, hc, h1, h2.symm⟩
  · cases h
def T_impl_setOf : Hints := ⟨lk [], lk [(3, [0, 4, 5])], lk [(0, [0]), (1, [0, 4]), (2, [0, 4, 5]), (3, [0, 4, 5, 9]), (5, [0, 4, 5, 15]), (6, [0, 4, 5, 6]), (7, [0, 4, 5, 6, 30]), (8, [0, 4, 5]), (9, [0, 4, 5]), (4, [0, 4, 5]), (10, [2, 3])], lk []⟩
noncomputable def Phi_impl_setOf : Tab := lk [(107, spHasRead)]
attribute [go_sem] T_impl_setOf Phi_impl_setOf
theorem phi_impl_setOf : ∀ f sp, Phi_impl_setOf f = some sp → FnOk Tryz.prog f sp ∧ ∀ n ∈ sp.need, n ∈ ([] : List String) := phi_cons ok_impl_ReadSet_1 (n0 rfl) (phi_nil)
theorem ok_impl_setOf : FnOk Tryz.prog 106 spSetOfRead := by
  refine fn_ok (Φ := Phi_impl_setOf) (T := T_impl_setOf) phi_impl_setOf mixed Tryz.func106 rfl rfl rfl (by decide) ?_
  intro ins r outs hr hl
  clear hl
  have hs := spSetOfRead_in hr
  clear hr
  obtain ⟨l, rfl, hc, hr, rfl⟩ := hs
  simp only [spSetOfRead, Tryz.f106, Go.VM.initS]
  simp only [go_sem]
  repeat' ((first | apply qa | apply qb | apply qc | apply qd | apply qe | apply qf | apply qg | apply qh | apply qi | apply qj | apply qk) <;> intro hp <;> simp only [hp, go_sem])
  refine loop_go (fun i : Nat => [(5, .int .i64 ((i + 1 : Nat) : Int))]) (fun i => [(0, ⟨.arr, 2, (scan ((nums i).filter fun n => hasR l n)).map Range.enc⟩)]) (fun i => 9999 - i) (fun i => i ≤ 9999) 0 (Nat.zero_le _) rfl rfl ?_
  intro i hi ih
  have hsl : (scan ((nums i).filter fun n => hasR l n)).length ≤ i := by
    refine Nat.le_trans (scan_len _) (Nat.le_trans (List.length_filter_le _ _) ?_)
    simp [nums]
  rcases Nat.lt_or_ge i 9999 with h | h
  · have g1 : ((i + 1 : Nat) : Int) ≤ 9999 := by omega
    have g5 : IntKind.i64.wrap (((i + 1 : Nat) : Int) + 1) = ((i + 1 + 1 : Nat) : Int) := wrap_succ (n := 10002) (by omega) (by omega)
    have g6 : IntKind.i64.wrap (((i + 1 : Nat) : Int) - 1) = (i : Int) := (wrap64 (by omega) (by omega)).trans (by omega)
    have ih' := ih (i + 1) h (by omega)
    rw [filter_nums_succ] at ih'
    clear ih
    cases hm : hasR l ((i + 1 : Nat) : Int) with
    | false =>
      rw [hm, if_neg (by simp), List.append_nil] at ih'
      simp only [hc, g1, g5, hm, go_sem]
      repeat' ((first | apply qa | apply qb | apply qc | apply qd | apply qe | apply qf | apply qg | apply qh | apply qi | apply qj | apply qk) <;> intro hp <;> simp only [hp, hc, g1, g5, hm, go_sem])
      exact ih'
    | true =>
      rw [hm, if_pos rfl, scan_snoc] at ih'
      generalize hO : scan ((nums i).filter fun n => hasR l n) = O at *
      rcases snoc_cases O with rfl | ⟨a, r', rfl⟩
      · rw [push_nil] at ih'
        have b3 : IntKind.i64.wrap (((0 : Nat) : Int) - 1) = -1 := rfl
        simp only [hc, g1, g5, hm, b3, go_sem]
        repeat' ((first | apply qa | apply qb | apply qc | apply qd | apply qe | apply qf | apply qg | apply qh | apply qi | apply qj | apply qk) <;> intro hp <;> simp only [hp, hc, g1, g5, hm, b3, go_sem])
        exact ih'
      · have hla : a.length + 1 ≤ i := by simpa using hsl
        have b3 : IntKind.i64.wrap (((a.length + 1 : Nat) : Int) - 1) = (a.length : Int) := (wrap64 (by omega) (by omega)).trans (by omega)
        have b4 : (0 : Int) ≤ (a.length : Int) := by omega
        have b5 : (a.length : Int) < ((a.length + 1 : Nat) : Int) := by omega
        have b6 : (List.map Range.enc (a ++ [r']))[a.length]? = some r'.enc := by simp
        have b7 : (List.map Range.enc (a ++ [r'])).set a.length (V.agg [.int .i64 r'.Lo, .int .i64 ((i + 1 : Nat) : Int)]) = List.map Range.enc (a ++ [⟨r'.Lo, ((i + 1 : Nat) : Int)⟩]) := by
          simp [Range.enc]
        have b8 : (List.map Range.enc (a ++ [r'])).length = a.length + 1 := by simp
        have b9 : (a ++ [r']).length = a.length + 1 := by simp
        have b10 : (a.length + 1 + 1) * 16 ≤ 140737488355328 := by omega
        have b11 : a.length + 1 ≤ 9223372036854775806 := by omega
        have b12 : a.length ≤ 9223372036854775805 := by omega
        rw [push_snoc] at ih'
        cases hH : (r'.Hi == (i : Int)) with
        | true =>
          have hH' : r'.Hi = ((i + 1 : Nat) : Int) - 1 := by simp only [beq_iff_eq] at hH; omega
          rw [if_pos hH', ← b7] at ih'
          clear b7
          generalize hX : List.map Range.enc (a ++ [r']) = X at *
          simp only [hc, g1, g5, g6, hm, b3, b4, b5, b6, b8, b9, hH, go_sem]
          repeat' ((first | apply qa | apply qb | apply qc | apply qd | apply qe | apply qf | apply qg | apply qh | apply qi | apply qj | apply qk) <;> intro hp <;> simp only [hp, hc, g1, g5, g6, hm, b3, b4, b5, b6, b8, b9, hH, go_sem])
          exact ih'
        | false =>
          have hH' : ¬ r'.Hi = ((i + 1 : Nat) : Int) - 1 := by rw [beq_eq_false_iff_ne] at hH; omega
          rw [if_neg hH', List.map_append, List.map_cons, List.map_nil] at ih'
          clear b7
          generalize hX : List.map Range.enc (a ++ [r']) = X at *
          simp only [hc, g1, g5, g6, hm, b3, b4, b5, b6, b8, b9, b10, b11, b12, hH, go_sem]
          repeat' ((first | apply qa | apply qb | apply qc | apply qd | apply qe | apply qf | apply qg | apply qh | apply qi | apply qj | apply qk) <;> intro hp <;> simp only [hp, hc, g1, g5, g6, hm, b3, b4, b5, b6, b8, b9, b10, b11, b12, hH, go_sem])
          all_goals first | exact ih' | (clear ih'; omega)
  · have hi9 : i = 9999 := by omega
    subst hi9
    have g1 : ¬ (((9999 + 1 : Nat) : Int)) ≤ 9999 := by decide
    have hB : scan ((nums 9999).filter fun n => hasR l n) = setR l := rfl
    rw [hB]
    have e : decide (((setR l).length : Int) ≤ 40) = decide ((setR l).length ≤ 40) := by rw [Bool.eq_iff_iff]; simp; omega
    simp only [g1, e, go_sem]
    repeat' ((first | apply qa | apply qb | apply qc | apply qd | apply qe | apply qf | apply qg | apply qh | apply qi | apply qj | apply qk) <;> intro hp <;> simp only [hp, g1, e, go_sem])
    all_goals (simp only [fin_mk, finV, resL, resV1, resIn, endA, listIn, Option.some_or, Option.none_or, oneOrTup, go_sem]; rw [← hr])
/-! ### numbers in texts -/
def digB (b : UInt8) : Bool := within (b.toNat : Int) 48 57
def stepM (n : Int) (b : UInt8) : Int := (10 * n + ((b.toNat : Int) - 48)).tmod 1000000000
def stepV (n : Int) (b : UInt8) : Int := 10 * n + ((b.toNat : Int) - 48)
def numM (s : List UInt8) : Int := s.foldl stepM 0
def numV (s : List UInt8) : Int := s.foldl stepV 0
theorem numM_snoc (s : List UInt8) (b : UInt8) : numM (s ++ [b]) = stepM (numM s) b := by simp [numM]
theorem numV_snoc (s : List UInt8) (b : UInt8) : numV (s ++ [b]) = stepV (numV s) b := by simp [numV]
theorem digB_iff {b : UInt8} (h : digB b = true) : 48 ≤ (b.toNat : Int) ∧ (b.toNat : Int) ≤ 57 := by simpa only [digB, within, Bool.and_eq_true, decide_eq_true_eq] using h
theorem numM_bound (s : List UInt8) : s.all digB = true → 0 ≤ numM s ∧ numM s < 1000000000 := by
  refine snoc_ind (P := fun s => s.all digB = true → 0 ≤ numM s ∧ numM s < 1000000000) (by simp [numM]) ?_ s
  intro l x ih h
  rw [List.all_append, Bool.and_eq_true] at h
  have h1 := ih h.1
  have h2 := digB_iff (b := x) (by simpa using h.2)
  rw [numM_snoc, stepM, Int.tmod_eq_emod_of_nonneg (by omega)]
  omega
theorem numV_bound (s : List UInt8) : s.all digB = true → 0 ≤ numV s ∧ numV s < 10 ^ s.length := by
  refine snoc_ind (P := fun s => s.all digB = true → 0 ≤ numV s ∧ numV s < 10 ^ s.length) (by simp [numV]) ?_ s
  intro l x ih h
  rw [List.all_append, Bool.and_eq_true] at h
  have h1 := ih h.1
  have h2 := digB_iff (b := x) (by simpa using h.2)
  rw [numV_snoc, stepV, List.length_append, List.length_singleton, Int.pow_succ]
  omega
theorem pow_le9 {n : Nat} (h : n ≤ 9) : (10 : Int) ^ n ≤ 1000000000 := by
  have : ∀ n : Fin 10, (10 : Int) ^ n.val ≤ 1000000000 := by decide
  exact this ⟨n, by omega⟩
theorem pow_le4 {n : Nat} (h : n ≤ 4) : (10 : Int) ^ n ≤ 10000 := by
  have : ∀ n : Fin 5, (10 : Int) ^ n.val ≤ 10000 := by decide
  exact this ⟨n, by omega⟩
theorem numM_eq (s : List UInt8) : s.all digB = true → s.length ≤ 9 → numM s = numV s := by
  refine snoc_ind (P := fun s => s.all digB = true → s.length ≤ 9 → numM s = numV s) (fun _ _ => rfl) ?_ s
  intro l x ih h hl
  have hb := numV_bound _ h
  rw [List.all_append, Bool.and_eq_true] at h
  rw [List.length_append, List.length_singleton] at hl
  rw [numM_snoc, ih h.1 (by omega), numV_snoc, stepM]
  rw [numV_snoc, stepV, List.length_append, List.length_singleton] at hb
  have := pow_le9 hl
  rw [Int.tmod_eq_emod_of_nonneg hb.1, Int.emod_eq_of_lt hb.1 (by omega)]
  rfl
def numOk (s : List UInt8) : Bool := within s.length 1 4 && s.all digB && decide (1 ≤ numV s)
def uidN (s : List UInt8) (last : Int) : Int := if s = [42] then last else if s.all digB = true then numM s else 0
def uidB (s : List UInt8) : Bool := if s = [42] then true else s.all digB && (within s.length 1 4 && decide (0 < numM s))
def numN (s : List UInt8) (last : Int) : Int := if s = [42] then last else if (within s.length 1 4 && s.all digB) = true then numV s else 0
def numB (s : List UInt8) : Bool := if s = [42] then true else within s.length 1 4 && s.all digB && decide (1 ≤ numV s)
theorem within_len {s : List UInt8} (h : within s.length 1 4 = true) : 1 ≤ s.length ∧ s.length ≤ 4 := by
  simp only [within, Bool.and_eq_true, decide_eq_true_eq] at h; omega
theorem uidB_eq (s : List UInt8) : uidB s = numB s := by
  unfold uidB numB
  split
  · rfl
  · cases hd : s.all digB with
    | false => simp
    | true =>
      cases hw : within s.length 1 4 with
      | false => simp
      | true =>
        rw [numM_eq s hd (by have := within_len hw; omega), Bool.eq_iff_iff]
        simp; omega
theorem uidN_eq {s : List UInt8} {last : Int} (h : numB s = true) : uidN s last = numN s last := by
  unfold uidN numN
  unfold numB at h
  split
  · rfl
  · rename_i h0
    rw [if_neg h0, Bool.and_eq_true, Bool.and_eq_true] at h
    rw [if_pos h.1.2, if_pos (by rw [h.1.1, h.1.2]; rfl), numM_eq s h.1.2 (by have := within_len h.1.1; omega)]
theorem numN_in {s : List UInt8} {last : Int} (hl : 1 ≤ last ∧ last ≤ 9999) (h : numB s = true) : 1 ≤ numN s last ∧ numN s last ≤ 9999 := by
  unfold numN
  unfold numB at h
  split
  · exact hl
  · rename_i h0
    rw [if_neg h0, Bool.and_eq_true, Bool.and_eq_true, decide_eq_true_eq] at h
    rw [if_pos (by rw [h.1.1, h.1.2]; rfl)]
    have h1 := (numV_bound s h.1.2).2
    have h2 := pow_le4 (within_len h.1.1).2
    omega
open Classical in
noncomputable def spReadUid : VM.Spec := { modes := [.rd, .rd], run := fun | [.str s, .int .i64 last] => if s.length ≤ 4194304 then some (.tup [.int .i64 (uidN s last), .bool (uidB s)], []) else none | _ => none, need := [] }
attribute [go_sem] spReadUid
theorem spReadUid_in {ins : List V} {r : V} {outs : List V} (h : spReadUid.run ins = some (r, outs)) : ∃ (s : (List UInt8)) (last : Int), ins = [.str s, .int .i64 last] ∧ (s.length ≤ 4194304) ∧ .tup [.int .i64 (uidN s last), .bool (uidB s)] = r ∧ outs = [] := by
  unfold spReadUid at h
  simp only at h
  split at h
  · rename_i s last
    split at h
    case isFalse => cases h
    rename_i hc
    simp only [Option.some.injEq, Prod.mk.injEq] at h
    obtain ⟨h1, h2⟩ := h
    exact ⟨s, last, rfl, hc, h1, h2.symm⟩
  · cases h
def T_impl_readUid : Hints := ⟨lk [], lk [(5, [0, 6, 12, 13])], lk [(0, [0, 1]), (1, [0, 1, 9]), (2, [4, 5]), (3, [0, 6]), (4, [0, 6, 12, 13]), (5, [0, 6, 12, 13, 14]), (6, [0, 6, 7, 12, 13]), (7, [0, 6, 7, 12, 13, 21]), (8, [4, 5]), (9, [0, 6, 12, 13]), (10, [0, 6, 12, 13]), (11, [4, 5])], lk []⟩
noncomputable def Phi_impl_readUid : Tab := lk [(41, spWithin)]
attribute [go_sem] T_impl_readUid Phi_impl_readUid
theorem phi_impl_readUid : ∀ f sp, Phi_impl_readUid f = some sp → FnOk Tryz.prog f sp ∧ ∀ n ∈ sp.need, n ∈ ([] : List String) := phi_cons ok_impl_within (n0 rfl) (phi_nil)
theorem ok_impl_readUid : FnOk Tryz.prog 105 spReadUid := by
  refine fn_ok (Φ := Phi_impl_readUid) (T := T_impl_readUid) phi_impl_readUid mixed Tryz.func105 rfl rfl rfl (by decide) ?_
  intro ins r outs hr hl
  clear hl
  have hs := spReadUid_in hr
  clear hr
  obtain ⟨s, last, rfl, hc, hr, rfl⟩ := hs
  simp only [spReadUid, Tryz.f105, Go.VM.initS]
  cases hst : (s == [42]) with
  | true =>
    have h0 : s = [42] := by simpa using hst
    subst h0
    simp only [go_sem]
    repeat' ((first | apply qa | apply qb | apply qc | apply qd | apply qe | apply qf | apply qg | apply qh | apply qi | apply qj | apply qk) <;> intro hp <;> simp only [hp, go_sem])
    simp only [fin_mk, finV, resL, resV1, resIn, endA, listIn, Option.some_or, Option.none_or, oneOrTup, go_sem]
    rw [← hr]
    rfl
  | false =>
    have h0 : ¬ s = [42] := by simpa using hst
    have hN : uidN s last = if s.all digB = true then numM s else 0 := by rw [uidN, if_neg h0]
    have hB : uidB s = (s.all digB && (within s.length 1 4 && decide (0 < numM s))) := by rw [uidB, if_neg h0]
    rw [hN, hB] at hr
    clear hN hB
    simp only [hst, go_sem]
    repeat' ((first | apply qa | apply qb | apply qc | apply qd | apply qe | apply qf | apply qg | apply qh | apply qi | apply qj | apply qk) <;> intro hp <;> simp only [hp, hst, go_sem])
    refine loop_go (fun i : Nat => [(6, .int .i64 (numM (s.take i))), (13, .int .i64 (i : Int))]) (fun _ => []) (fun i => s.length - i) (fun i => i ≤ s.length ∧ (s.take i).all digB = true) 0 ⟨Nat.zero_le _, rfl⟩ rfl rfl ?_
    intro i ⟨hi, ha⟩ ih
    rcases Nat.lt_or_ge i s.length with h | h
    · have g1 : (i : Int) < s.length := by omega
      have g2 : (0 : Int) ≤ i := by omega
      have g3 : s[i]? = some s[i] := List.getElem?_eq_getElem h
      have g5 := wrap_succ h (by omega)
      have hm := numM_bound _ ha
      cases hb : digB s[i] with
      | false =>
        have hb' : within (s[i].toNat : Int) 48 57 = false := hb
        have hall : s.all digB = false := List.all_eq_false.2 ⟨s[i], List.getElem_mem h, by simp [hb]⟩
        simp only [g1, g2, g3, byte_wrap, hb', go_sem]
        repeat' ((first | apply qa | apply qb | apply qc | apply qd | apply qe | apply qf | apply qg | apply qh | apply qi | apply qj | apply qk) <;> intro hp <;> simp only [hp, g1, g2, g3, byte_wrap, hb', go_sem])
        simp only [fin_mk, finV, resL, resV1, resIn, endA, listIn, Option.some_or, Option.none_or, oneOrTup, go_sem]
        rw [← hr]
        rw [hall]; rfl
      | true =>
        have hb' : within (s[i].toNat : Int) 48 57 = true := hb
        have hd := digB_iff hb
        have w1 : IntKind.i64.wrap (10 * numM (s.take i)) = 10 * numM (s.take i) := wrap64 (by omega) (by omega)
        have w2 : IntKind.u8.wrap ((s[i].toNat : Int) - 48) = (s[i].toNat : Int) - 48 := by
          simp only [IntKind.wrap, IntKind.signed, IntKind.bits]
          simp; omega
        have w3 : IntKind.i64.wrap ((s[i].toNat : Int) - 48) = (s[i].toNat : Int) - 48 := wrap64 (by omega) (by omega)
        have w4 : IntKind.i64.wrap (10 * numM (s.take i) + ((s[i].toNat : Int) - 48)) = 10 * numM (s.take i) + ((s[i].toNat : Int) - 48) := wrap64 (by omega) (by omega)
        have ih' := ih (i + 1) ⟨h, all_take_succ h ha hb⟩ (by omega)
        rw [take_succ' h, numM_snoc] at ih'
        clear ih
        simp only [g1, g2, g3, g5, byte_wrap, hb', w1, w2, w3, w4, go_sem]
        repeat' ((first | apply qa | apply qb | apply qc | apply qd | apply qe | apply qf | apply qg | apply qh | apply qi | apply qj | apply qk) <;> intro hp <;> simp only [hp, g1, g2, g3, g5, byte_wrap, hb', w1, w2, w3, w4, go_sem])
        exact ih'
    · have g1 : ¬ (i : Int) < s.length := by omega
      have ht : s.take i = s := List.take_of_length_le h
      rw [ht] at ha ⊢
      rw [ha] at hr
      cases hw : within s.length 1 4 with
      | false =>
        rw [hw] at hr
        simp only [g1, hw, go_sem]
        repeat' ((first | apply qa | apply qb | apply qc | apply qd | apply qe | apply qf | apply qg | apply qh | apply qi | apply qj | apply qk) <;> intro hp <;> simp only [hp, g1, hw, go_sem])
        simp only [fin_mk, finV, resL, resV1, resIn, endA, listIn, Option.some_or, Option.none_or, oneOrTup, go_sem]
        rw [← hr]
        rfl
      | true =>
        rw [hw] at hr
        simp only [g1, hw, go_sem]
        repeat' ((first | apply qa | apply qb | apply qc | apply qd | apply qe | apply qf | apply qg | apply qh | apply qi | apply qj | apply qk) <;> intro hp <;> simp only [hp, g1, hw, go_sem])
        simp only [fin_mk, finV, resL, resV1, resIn, endA, listIn, Option.some_or, Option.none_or, oneOrTup, go_sem]
        rw [← hr]
        rfl
open Classical in
noncomputable def spNum : VM.Spec := { modes := [.rd, .rd], run := fun | [.str s, .int .i64 last] => if s.length ≤ 4194304 then some (.tup [.int .i64 (numN s last), .bool (numB s)], []) else none | _ => none, need := [] }
attribute [go_sem] spNum
theorem spNum_in {ins : List V} {r : V} {outs : List V} (h : spNum.run ins = some (r, outs)) : ∃ (s : (List UInt8)) (last : Int), ins = [.str s, .int .i64 last] ∧ (s.length ≤ 4194304) ∧ .tup [.int .i64 (numN s last), .bool (numB s)] = r ∧ outs = [] := by
  unfold spNum at h
  simp only at h
  split at h
  · rename_i s last
    split at h
    case isFalse => cases h
    rename_i hc
    simp only [Option.some.injEq, Prod.mk.injEq] at h
    obtain ⟨h1, h2⟩ := h
    exact ⟨s, last, rfl, hc, h1, h2.symm⟩
  · cases h
def T_spec_l05Num : Hints := ⟨lk [], lk [(7, [0, 6, 7])], lk [(0, [0, 1]), (1, [0, 1, 9]), (2, [4, 5]), (3, [0, 14]), (4, [4, 5]), (5, [0, 6]), (6, [0, 6, 7]), (7, [0, 6, 7, 18]), (9, [0, 6, 7, 30]), (10, [4, 5]), (11, [0, 6, 7]), (8, [0, 6, 7]), (12, [4, 5])], lk []⟩
noncomputable def Phi_spec_l05Num : Tab := lk [(38, spWithin)]
attribute [go_sem] T_spec_l05Num Phi_spec_l05Num
theorem phi_spec_l05Num : ∀ f sp, Phi_spec_l05Num f = some sp → FnOk Tryz.prog f sp ∧ ∀ n ∈ sp.need, n ∈ ([] : List String) := phi_cons ok_spec_l01In (n0 rfl) (phi_nil)
theorem ok_spec_l05Num : FnOk Tryz.prog 122 spNum := by
  refine fn_ok (Φ := Phi_spec_l05Num) (T := T_spec_l05Num) phi_spec_l05Num mixed Tryz.func122 rfl rfl rfl (by decide) ?_
  intro ins r outs hr hl
  clear hl
  have hs := spNum_in hr
  clear hr
  obtain ⟨s, last, rfl, hc, hr, rfl⟩ := hs
  simp only [spNum, Tryz.f122, Go.VM.initS]
  cases hst : (s == [42]) with
  | true =>
    have h0 : s = [42] := by simpa using hst
    subst h0
    simp only [go_sem]
    repeat' ((first | apply qa | apply qb | apply qc | apply qd | apply qe | apply qf | apply qg | apply qh | apply qi | apply qj | apply qk) <;> intro hp <;> simp only [hp, go_sem])
    simp only [fin_mk, finV, resL, resV1, resIn, endA, listIn, Option.some_or, Option.none_or, oneOrTup, go_sem]
    rw [← hr]
    rfl
  | false =>
    have h0 : ¬ s = [42] := by simpa using hst
    have hN : numN s last = if (within s.length 1 4 && s.all digB) = true then numV s else 0 := by rw [numN, if_neg h0]
    have hB : numB s = (within s.length 1 4 && s.all digB && decide (1 ≤ numV s)) := by rw [numB, if_neg h0]
    rw [hN, hB] at hr
    clear hN hB
    cases hw : within s.length 1 4 with
    | false =>
      rw [hw] at hr
      simp only [hst, hw, go_sem]
      repeat' ((first | apply qa | apply qb | apply qc | apply qd | apply qe | apply qf | apply qg | apply qh | apply qi | apply qj | apply qk) <;> intro hp <;> simp only [hp, hst, hw, go_sem])
      simp only [fin_mk, finV, resL, resV1, resIn, endA, listIn, Option.some_or, Option.none_or, oneOrTup, go_sem]
      rw [← hr]
      rfl
    | true =>
      rw [hw] at hr
      have hl4 := within_len hw
      simp only [hst, hw, go_sem]
      repeat' ((first | apply qa | apply qb | apply qc | apply qd | apply qe | apply qf | apply qg | apply qh | apply qi | apply qj | apply qk) <;> intro hp <;> simp only [hp, hst, hw, go_sem])
      refine loop_go (fun i : Nat => [(6, .int .i64 (numV (s.take i))), (7, .int .i64 (i : Int))]) (fun _ => []) (fun i => s.length - i) (fun i => i ≤ s.length ∧ (s.take i).all digB = true) 0 ⟨Nat.zero_le _, rfl⟩ rfl rfl ?_
      intro i ⟨hi, ha⟩ ih
      rcases Nat.lt_or_ge i s.length with h | h
      · have g1 : (i : Int) < s.length := by omega
        have g2 : (0 : Int) ≤ i := by omega
        have g3 : s[i]? = some s[i] := List.getElem?_eq_getElem h
        have g5 := wrap_succ h (by omega)
        have hm := numV_bound _ ha
        have hp := pow_le9 (n := (s.take i).length) (by rw [List.length_take]; omega)
        cases hb : digB s[i] with
        | false =>
          have hall : s.all digB = false := List.all_eq_false.2 ⟨s[i], List.getElem_mem h, by simp [hb]⟩
          rw [hall] at hr
          by_cases c1 : (s[i].toNat : Int) < 48
          · simp only [g1, g2, g3, c1, go_sem]
            repeat' ((first | apply qa | apply qb | apply qc | apply qd | apply qe | apply qf | apply qg | apply qh | apply qi | apply qj | apply qk) <;> intro hp <;> simp only [hp, g1, g2, g3, c1, go_sem])
            simp only [fin_mk, finV, resL, resV1, resIn, endA, listIn, Option.some_or, Option.none_or, oneOrTup, go_sem]
            rw [← hr]
            rfl
          · have c2 : (57 : Int) < s[i].toNat := by
              simp only [digB, within, Bool.and_eq_false_iff, decide_eq_false_iff_not] at hb; omega
            simp only [g1, g2, g3, c1, c2, go_sem]
            repeat' ((first | apply qa | apply qb | apply qc | apply qd | apply qe | apply qf | apply qg | apply qh | apply qi | apply qj | apply qk) <;> intro hp <;> simp only [hp, g1, g2, g3, c1, c2, go_sem])
            simp only [fin_mk, finV, resL, resV1, resIn, endA, listIn, Option.some_or, Option.none_or, oneOrTup, go_sem]
            rw [← hr]
            rfl
        | true =>
          have hd := digB_iff hb
          have c1 : ¬ (s[i].toNat : Int) < 48 := by omega
          have c2 : ¬ (57 : Int) < s[i].toNat := by omega
          have w1 : IntKind.i64.wrap (10 * numV (s.take i)) = 10 * numV (s.take i) := wrap64 (by omega) (by omega)
          have w4 : IntKind.i64.wrap (10 * numV (s.take i) + (s[i].toNat : Int)) = 10 * numV (s.take i) + (s[i].toNat : Int) := wrap64 (by omega) (by omega)
          have w5 : IntKind.i64.wrap (10 * numV (s.take i) + (s[i].toNat : Int) - 48) = stepV (numV (s.take i)) s[i] := (wrap64 (by omega) (by omega)).trans (by unfold stepV; omega)
          have ih' := ih (i + 1) ⟨h, all_take_succ h ha hb⟩ (by omega)
          rw [take_succ' h, numV_snoc] at ih'
          clear ih
          simp only [g1, g2, g3, g5, byte_wrap, c1, c2, w1, w4, w5, go_sem]
          repeat' ((first | apply qa | apply qb | apply qc | apply qd | apply qe | apply qf | apply qg | apply qh | apply qi | apply qj | apply qk) <;> intro hp <;> simp only [hp, g1, g2, g3, g5, byte_wrap, c1, c2, w1, w4, w5, go_sem])
          exact ih'
      · have g1 : ¬ (i : Int) < s.length := by omega
        have ht : s.take i = s := List.take_of_length_le h
        rw [ht] at ha ⊢
        rw [ha] at hr
        simp only [g1, go_sem]
        repeat' ((first | apply qa | apply qb | apply qc | apply qd | apply qe | apply qf | apply qg | apply qh | apply qi | apply qj | apply qk) <;> intro hp <;> simp only [hp, g1, go_sem])
        simp only [fin_mk, finV, resL, resV1, resIn, endA, listIn, Option.some_or, Option.none_or, oneOrTup, go_sem]
        rw [← hr]
        rfl
end Go.Proofs.YtonjbbfgdloljaaGreatDoor.L

