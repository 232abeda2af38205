/- Contracts of functions, and the facts that they need. No condition. -/
import Derived.Test.YtjkhhplhjbmhjaaGreatVLIns3
import Derived.Test.YtjkhhplhjbmhjaaGreatVLMB
import Derived.Test.YtjkhhplhjbmhjaaGreatVLH
namespace Go.Proofs.YtjkhhplhjbmhjaaGreat.L
open Go Go.VM
set_option maxRecDepth 100000
set_option maxHeartbeats 4000000
set_option linter.unusedSimpArgs false
set_option linter.unusedVariables false
def hasR (s : List Range) (n : Int) : Bool := s.any fun r => decide (r.Lo ≤ n) && decide (n ≤ r.Hi)
def push (out : List Range) (n : Int) : List Range :=
  match out.getLast? with
  | some r => if r.Hi = n - 1 then out.dropLast ++ [⟨r.Lo, n⟩] else out ++ [⟨n, n⟩]
  | none => [⟨n, n⟩]
def scan (l : List Int) : List Range := l.foldl push []
theorem scan_snoc (l : List Int) (n : Int) : scan (l ++ [n]) = push (scan l) n := by simp [scan, List.foldl_append]
theorem push_nil (n : Int) : push [] n = [⟨n, n⟩] := rfl
theorem push_snoc (a : List Range) (r : Range) (n : Int) : push (a ++ [r]) n = if r.Hi = n - 1 then a ++ [⟨r.Lo, n⟩] else a ++ [r] ++ [⟨n, n⟩] := by
  simp [push]
theorem snoc_cases {α : Type} (l : List α) : l = [] ∨ ∃ a x, l = a ++ [x] := by
  rcases List.eq_nil_or_concat l with h | ⟨a, x, h⟩
  · exact .inl h
  · exact .inr ⟨a, x, by simpa using h⟩
theorem push_len (out : List Range) (n : Int) : (push out n).length ≤ out.length + 1 := by
  rcases snoc_cases out with rfl | ⟨a, r, rfl⟩
  · simp [push_nil]
  · rw [push_snoc]; split <;> simp
theorem push_ne (out : List Range) (n : Int) : ∃ a r, push out n = a ++ [r] ∧ r.Hi = n := by
  rcases snoc_cases out with rfl | ⟨a, r, rfl⟩
  · exact ⟨[], _, rfl, rfl⟩
  · rw [push_snoc]
    split
    · exact ⟨a, _, rfl, rfl⟩
    · exact ⟨_, _, rfl, rfl⟩
theorem snoc_ind {α : Type} {P : List α → Prop} (h0 : P []) (h1 : ∀ l x, P l → P (l ++ [x])) (l : List α) : P l := by
  have : ∀ n (l : List α), l.length = n → P l := by
    intro n
    induction n with
    | zero => intro l h; rw [List.eq_nil_of_length_eq_zero h]; exact h0
    | succ n ih =>
      intro l h
      rcases snoc_cases l with rfl | ⟨a, x, rfl⟩
      · simp at h
      · exact h1 a x (ih a (by simpa using h))
  exact this _ l rfl
theorem scan_len (l : List Int) : (scan l).length ≤ l.length := by
  refine snoc_ind (P := fun l => (scan l).length ≤ l.length) (by simp [scan]) ?_ l
  intro l x ih
  rw [scan_snoc]
  have := push_len (scan l) x
  simp; omega
theorem scan_last (l : List Int) (n : Int) : ∃ a r, scan (l ++ [n]) = a ++ [r] ∧ r.Hi = n := by rw [scan_snoc]; exact push_ne _ _
def Canon (out : List Range) (m : Int) : Prop := (∀ r ∈ out, 1 ≤ r.Lo ∧ r.Lo ≤ r.Hi ∧ r.Hi ≤ m) ∧ out.Pairwise fun r t => r.Hi + 1 < t.Lo
theorem Canon.mono {out : List Range} {m k : Int} (h : Canon out m) (hk : m ≤ k) : Canon out k := ⟨fun r hr => by have := h.1 r hr; omega, h.2⟩
theorem Canon.push {out : List Range} {m n : Int} (h : Canon out m) (hm : m < n) (h1 : 1 ≤ n) : Canon (push out n) n := by
  rcases snoc_cases out with rfl | ⟨a, r, rfl⟩
  · rw [push_nil]
    exact ⟨fun r hr => by simp at hr; subst hr; exact ⟨h1, Int.le_refl _, Int.le_refl _⟩, by simp⟩
  · obtain ⟨ha, hp⟩ := h
    rw [List.pairwise_append] at hp
    have hr := ha r (by simp)
    rw [push_snoc]
    split
    · refine ⟨fun t ht => ?_, ?_⟩
      · rcases List.mem_append.1 ht with ht | ht
        · have := ha t (by simp [ht]); omega
        · simp only [List.mem_singleton] at ht; subst ht
          exact ⟨hr.1, by simp only; omega, Int.le_refl _⟩
      · rw [List.pairwise_append]
        refine ⟨hp.1, by simp, fun t ht u hu => ?_⟩
        simp only [List.mem_singleton] at hu; subst hu
        exact hp.2.2 t ht r (by simp)
    · rename_i hne
      refine ⟨fun t ht => ?_, ?_⟩
      · rcases List.mem_append.1 ht with ht | ht
        · have := ha t ht; omega
        · simp only [List.mem_singleton] at ht; subst ht
          exact ⟨h1, Int.le_refl _, Int.le_refl _⟩
      · rw [List.pairwise_append]
        refine ⟨List.pairwise_append.2 hp, by simp, fun t ht u hu => ?_⟩
        simp only [List.mem_singleton] at hu; subst hu
        simp only
        rcases List.mem_append.1 ht with ht | ht
        · have h2 := hp.2.2 t ht r (by simp)
          omega
        · simp only [List.mem_singleton] at ht; subst ht; omega
def Asc (l : List Int) (m : Int) : Prop := l.Pairwise (· < ·) ∧ ∀ x ∈ l, 1 ≤ x ∧ x ≤ m
theorem Asc.snoc {l : List Int} {x m : Int} (h : Asc (l ++ [x]) m) : Asc l (x - 1) ∧ 1 ≤ x ∧ x ≤ m := by
  obtain ⟨h1, h2⟩ := h
  rw [List.pairwise_append] at h1
  refine ⟨⟨h1.1, fun y hy => ?_⟩, h2 x (by simp)⟩
  have := h1.2.2 y hy x (by simp)
  have := h2 y (by simp [hy])
  omega
theorem scan_canon (l : List Int) : ∀ m, Asc l m → Canon (scan l) m := by
  refine snoc_ind (P := fun l => ∀ m, Asc l m → Canon (scan l) m) (fun m _ => ⟨by simp [scan], by simp [scan]⟩) ?_ l
  intro l x ih m h
  obtain ⟨h1, h2, h3⟩ := h.snoc
  rw [scan_snoc]
  exact ((ih _ h1).push (by omega) h2).mono h3
theorem hasR_append (a b : List Range) (n : Int) : hasR (a ++ b) n = (hasR a n || hasR b n) := by simp [hasR]
theorem hasR_push {out : List Range} {m n : Int} (h : Canon out m) (k : Int) : hasR (push out n) k = (hasR out k || k == n) := by
  rcases snoc_cases out with rfl | ⟨a, r, rfl⟩
  · rw [push_nil, Bool.eq_iff_iff]; simp [hasR]; omega
  · have hr := h.1 r (by simp)
    rw [push_snoc]
    split
    · rename_i he
      rw [hasR_append, hasR_append, Bool.or_assoc]
      congr 1
      rw [Bool.eq_iff_iff]; simp [hasR]; omega
    · rw [hasR_append]
      congr 1
      rw [Bool.eq_iff_iff]; simp [hasR]; omega
theorem hasR_scan (l : List Int) (k : Int) : ∀ m, Asc l m → hasR (scan l) k = decide (k ∈ l) := by
  refine snoc_ind (P := fun l => ∀ m, Asc l m → hasR (scan l) k = decide (k ∈ l)) (fun m _ => by simp [scan, hasR]) ?_ l
  intro l x ih m h
  obtain ⟨h1, h2, h3⟩ := h.snoc
  rw [scan_snoc, hasR_push (scan_canon l _ h1), ih _ h1, Bool.eq_iff_iff]
  simp
theorem setOk_canon {out : List Range} (h : Canon out 9999) : setOk out = decide (out.length ≤ 40) := by
  have : allN out.length (rangeAt out) = true := by
    rw [allN, List.all_eq_true]
    intro i hi
    have hi := List.mem_range.1 hi
    have h1 := h.1 _ (List.getElem_mem hi)
    simp only [rangeAt, getD_lt hi, within, Bool.and_eq_true, decide_eq_true_eq, Bool.or_eq_true, beq_iff_eq]
    refine ⟨⟨by omega, by omega⟩, ?_⟩
    rcases Nat.eq_zero_or_pos i with h0 | h0
    · exact .inl h0
    · refine .inr ?_
      have hi' : i - 1 < out.length := by omega
      rw [getD_lt hi']
      exact List.pairwise_iff_getElem.1 h.2 (i - 1) i hi' hi (by omega)
  rw [setOk, this, Bool.true_and]
def nums (n : Nat) : List Int := (List.range n).map fun i => ((i + 1 : Nat) : Int)
theorem nums_succ (n : Nat) : nums (n + 1) = nums n ++ [((n + 1 : Nat) : Int)] := by simp [nums, List.range_succ]
theorem nums_mem {n : Nat} {x : Int} : x ∈ nums n ↔ 1 ≤ x ∧ x ≤ n := by
  simp only [nums, List.mem_map, List.mem_range]
  constructor
  · rintro ⟨i, hi, rfl⟩; omega
  · intro h; exact ⟨(x - 1).toNat, by omega, by omega⟩
theorem nums_asc (n : Nat) : Asc (nums n) n := by
  refine ⟨?_, fun x hx => nums_mem.1 hx⟩
  rw [nums, List.pairwise_map]
  exact List.Pairwise.imp (by intro a b h; omega) List.pairwise_lt_range
theorem Asc.filter {l : List Int} {m : Int} (h : Asc l m) (p : Int → Bool) : Asc (l.filter p) m := ⟨h.1.filter p, fun x hx => h.2 x (List.mem_filter.1 hx).1⟩
theorem asc_eq : ∀ {a b : List Int}, a.Pairwise (· < ·) → b.Pairwise (· < ·) → (∀ x, x ∈ a ↔ x ∈ b) → a = b
  | [], [], _, _, _ => rfl
  | [], y :: b, _, _, h => absurd ((h y).2 (by simp)) (by simp)
  | x :: a, [], _, _, h => absurd ((h x).1 (by simp)) (by simp)
  | x :: a, y :: b, ha, hb, h => by
    rw [List.pairwise_cons] at ha hb
    have hxy : x = y := by
      rcases List.mem_cons.1 ((h x).1 (by simp)) with e | e
      · exact e
      · rcases List.mem_cons.1 ((h y).2 (by simp)) with e' | e'
        · exact e'.symm
        · have h1 := hb.1 x e
          have h2 := ha.1 y e'
          omega
    subst hxy
    congr 1
    refine asc_eq ha.2 hb.2 fun z => ?_
    constructor
    · intro hz
      rcases List.mem_cons.1 ((h z).1 (by simp [hz])) with e | e
      · subst e; have := ha.1 z hz; omega
      · exact e
    · intro hz
      rcases List.mem_cons.1 ((h z).2 (by simp [hz])) with e | e
      · subst e; have := hb.1 z hz; omega
      · exact e
def setOf (S : List Int) : List Range := scan ((nums 9999).filter fun n => decide (n ∈ S))
theorem setOf_asc {l : List Int} (h : Asc l 9999) : setOf l = scan l := by
  unfold setOf
  congr 1
  refine asc_eq ((nums_asc 9999).filter _).1 h.1 fun x => ?_
  simp only [List.mem_filter, decide_eq_true_eq, nums_mem]
  constructor
  · exact fun h => h.2
  · exact fun hx => ⟨h.2 x hx, hx⟩
theorem setOf_has (S : List Int) (k : Int) (h : 1 ≤ k ∧ k ≤ 9999) : hasR (setOf S) k = decide (k ∈ S) := by
  rw [setOf, hasR_scan _ k 9999 ((nums_asc 9999).filter _), Bool.eq_iff_iff]
  simp only [decide_eq_true_eq, List.mem_filter, nums_mem]
  constructor
  · exact fun h => h.2
  · exact fun hx => ⟨h, hx⟩
theorem filter_or_len (l : List Int) (p q : Int → Bool) : (l.filter fun x => p x || q x).length ≤ (l.filter p).length + (l.filter q).length := by
  induction l with
  | nil => simp
  | cons x l ih =>
    simp only [List.filter_cons]
    cases p x <;> cases q x <;> simp <;> omega
theorem filter_eq_len (n : Nat) (u : Int) : ((nums n).filter fun x => x == u).length ≤ 1 := by
  induction n with
  | zero => simp [nums]
  | succ n ih =>
    rw [nums_succ, List.filter_append, List.length_append]
    by_cases h : ((n + 1 : Nat) : Int) = u
    · have : (nums n).filter (fun x => x == u) = [] := by
        rw [List.filter_eq_nil_iff]
        intro x hx
        have := nums_mem.1 hx
        simp; omega
      rw [this]; simp [List.filter_cons]; split <;> simp
    · have : [((n + 1 : Nat) : Int)].filter (fun x => x == u) = [] := by simp [List.filter_cons]; omega
      rw [this]; simpa using ih
theorem setOf_len (S : List Int) : (setOf S).length ≤ S.length := by
  refine Nat.le_trans (scan_len _) ?_
  induction S with
  | nil => simp
  | cons u S ih =>
    have h1 := filter_or_len (nums 9999) (fun x => x == u) (fun x => decide (x ∈ S))
    have h2 := filter_eq_len 9999 u
    have e : (fun n : Int => decide (n ∈ u :: S)) = fun x => (x == u) || decide (x ∈ S) := by funext n; rw [Bool.eq_iff_iff]; simp
    rw [e]
    simp only [List.length_cons]; omega
theorem setOf_ok {S : List Int} (h : S.length ≤ 40) : setOk (setOf S) = true := by
  have := setOf_len S
  unfold setOf at this ⊢
  rw [setOk_canon (scan_canon _ _ ((nums_asc 9999).filter _))]
  simp; omega
/-! ### marks -/
def bitsOf (p : Nat → Bool) : List Bool := (List.range 10001).map p
theorem bitsOf_len (p : Nat → Bool) : (bitsOf p).length = 10001 := by simp [bitsOf]
theorem bitsOf_get (p : Nat → Bool) {n : Nat} (h : n < 10001) : (bitsOf p)[n]? = some (p n) := by
  simp [bitsOf, List.getElem?_range h]
theorem bitsOf_set (p : Nat → Bool) (n : Nat) (b : Bool) : (bitsOf p).set n b = bitsOf fun m => if m = n then b else p m := by
  apply List.ext_getElem?
  intro i
  rw [List.getElem?_set, bitsOf_len]
  by_cases hi : i < 10001
  · rw [bitsOf_get _ hi, bitsOf_get _ hi]
    by_cases h : n = i
    · subst h; simp [hi]
    · simp [h, Ne.symm h]
  · rw [List.getElem?_eq_none (by rw [bitsOf_len]; omega), List.getElem?_eq_none (by rw [bitsOf_len]; omega)]
    split
    · split <;> simp; omega
    · rfl
theorem replicate_gen (n : Nat) : List.replicate n (V.bool false) = ((List.range n).map fun _ => false).map eBool := by
  apply List.ext_getElem?
  intro i
  rw [List.getElem?_replicate, List.getElem?_map, List.getElem?_map]
  by_cases hi : i < n
  · rw [if_pos hi, List.getElem?_range hi]; rfl
  · rw [if_neg hi, List.getElem?_eq_none (by simp; omega)]; rfl
theorem replicate_bits : List.replicate 10001 (V.bool false) = (bitsOf fun _ => false).map eBool := replicate_gen 10001
def memN (s : List Range) (n : Nat) : Bool := hasR s n
open Classical in
noncomputable def spBits : VM.Spec := { modes := [.rd], run := fun | [.lst 2 s'] => (decL Range.dec s').bind fun s => if setOk s = true ∧ s.length ≤ 4194304 then some (.lst 1 ((bitsOf (memN s)).map eBool), []) else none | _ => none, need := [] }
attribute [go_sem] spBits
theorem spBits_in {ins : List V} {r : V} {outs : List V} (h : spBits.run ins = some (r, outs)) : ∃ (s : (List Range)), ins = [.lst 2 ((s).map Range.enc)] ∧ (setOk s = true ∧ s.length ≤ 4194304) ∧ .lst 1 ((bitsOf (memN s)).map eBool) = r ∧ outs = [] := by
  unfold spBits at h
  simp only at h
  split at h
  · rename_i s'
    simp only [Option.bind_eq_some_iff] at h
    obtain ⟨s, h_s, h⟩ := h
    split at h
    case isFalse => cases h
    rename_i hc
    simp only [Option.some.injEq, Prod.mk.injEq] at h
    obtain ⟨h1, h2⟩ := h
    have h_s := decL_some (fun _ _ h => Range.dec_some h) h_s
    subst h_s
    exact ⟨s, rfl, hc, h1, h2.symm⟩
  · cases h
def T_spec_l05Bits : Hints := ⟨lk [], lk [(3, [0, 3, 4]), (6, [0, 3, 4, 5])], lk [(0, [0]), (1, [0, 3]), (2, [0, 3, 4]), (3, [0, 3, 4, 10]), (5, [0, 3, 4, 5]), (6, [0, 3, 4, 5, 24]), (8, [0, 3, 4, 5]), (7, [0, 3, 4, 5]), (4, [0, 3, 4]), (9, [2])], lk []⟩
noncomputable def Phi_spec_l05Bits : Tab := lk []
attribute [go_sem] T_spec_l05Bits Phi_spec_l05Bits
theorem phi_spec_l05Bits : ∀ f sp, Phi_spec_l05Bits f = some sp → FnOk Tryz.prog f sp ∧ ∀ n ∈ sp.need, n ∈ ([] : List String) := phi_nil
theorem ok_spec_l05Bits : FnOk Tryz.prog 144 spBits := by
  refine fn_ok (Φ := Phi_spec_l05Bits) (T := T_spec_l05Bits) phi_spec_l05Bits mixed Tryz.func144 rfl rfl rfl (by decide) ?_
  intro ins r outs hr hl
  clear hl
  have hs := spBits_in hr
  clear hr
  obtain ⟨s, rfl, hc, hr, rfl⟩ := hs
  simp only [spBits, Tryz.f144, Go.VM.initS]
  obtain ⟨hk, hl⟩ := hc
  have hb : (10001 : Int) * ((1 : Nat) : Int) ≤ 140737488355328 := by decide
  simp only [replicate_bits, hb, go_sem]
  repeat' ((first | apply qa | apply qb | apply qc | apply qd | apply qe | apply qf | apply qg | apply qh | apply qi | apply qj | apply qk) <;> intro hp <;> simp only [hp, replicate_bits, hb, go_sem])
  refine loop_go (fun i : Nat => [(4, .int .i64 (i : Int))]) (fun i => [(0, ⟨.arr, 1, (bitsOf (memN (s.take i))).map eBool⟩)]) (fun i => s.length - i) (fun i => i ≤ s.length) 0 (Nat.zero_le _) rfl rfl ?_
  intro i hi ih
  rcases Nat.lt_or_ge i s.length with h | h
  · have g1 : (i : Int) < s.length := by omega
    have g2 : (0 : Int) ≤ i := by omega
    have g3 : s[i]? = some s[i] := List.getElem?_eq_getElem h
    have g5 := wrap_succ h (by omega)
    have hr1 : 1 ≤ s[i].Lo ∧ s[i].Lo ≤ s[i].Hi ∧ s[i].Hi ≤ 9999 := by
      simp only [setOk, Bool.and_eq_true] at hk
      exact rangeAt_hi h (allN_get hk.1 h)
    obtain ⟨lo, hlo⟩ : ∃ a : Nat, s[i].Lo = a := ⟨s[i].Lo.toNat, by omega⟩
    obtain ⟨hh, hhi⟩ : ∃ a : Nat, s[i].Hi = a := ⟨s[i].Hi.toNat, by omega⟩
    have e0 : (fun n => memN (s.take i) n || (decide (lo ≤ n) && decide (n < lo))) = memN (s.take i) := by
      funext n
      have : (decide (lo ≤ n) && decide (n < lo)) = false := by rw [Bool.and_eq_false_iff]; simp; omega
      rw [this, Bool.or_false]
    have e1 : (fun n => memN (s.take i) n || (decide (lo ≤ n) && decide (n < hh + 1))) = memN (s.take (i + 1)) := by
      funext n
      rw [take_succ' h]
      unfold memN
      rw [hasR_append]
      congr 1
      rw [Bool.eq_iff_iff]
      simp [hasR, hlo, hhi]; omega
    have ih' := ih (i + 1) h (by omega)
    rw [← e1] at ih'
    clear ih
    simp only [g1, g2, g3, go_sem]
    repeat' ((first | apply qa | apply qb | apply qc | apply qd | apply qe | apply qf | apply qg | apply qh | apply qi | apply qj | apply qk) <;> intro hp <;> simp only [hp, g1, g2, g3, go_sem])
    refine loop_go (fun k : Nat => [(5, .int .i64 (k : Int))]) (fun k => [(0, ⟨.arr, 1, (bitsOf fun n => memN (s.take i) n || (decide (lo ≤ n) && decide (n < k))).map eBool⟩)]) (fun k => hh + 1 - k) (fun k => lo ≤ k ∧ k ≤ hh + 1) lo ⟨Nat.le_refl _, by omega⟩ (by rw [hlo]; rfl) (by rw [e0]; rfl) ?_
    intro k ⟨hk1, hk2⟩ ihk
    rcases Nat.lt_or_ge k (hh + 1) with hkl | hkl
    · have k1 : (k : Int) ≤ s[i].Hi := by omega
      have k2 : (0 : Int) ≤ k := by omega
      have k3 : (k : Int) < ((10001 : Nat) : Int) := by omega
      have k5 := wrap_succ hkl (by omega)
      have kl := bitsOf_len (fun n => memN (s.take i) n || (decide (lo ≤ n) && decide (n < k)))
      have kg := bitsOf_get (fun n => memN (s.take i) n || (decide (lo ≤ n) && decide (n < k))) (n := k) (by omega)
      have ks : (List.map eBool (bitsOf fun n => memN (s.take i) n || (decide (lo ≤ n) && decide (n < k)))).set k (V.bool true) = List.map eBool (bitsOf fun n => memN (s.take i) n || (decide (lo ≤ n) && decide (n < k + 1))) := by
        rw [show V.bool true = eBool true from rfl, ← List.map_set, bitsOf_set]
        congr 2
        funext m
        by_cases hm : m = k
        · subst hm; simp [hk1]
        · have : decide (m < k + 1) = decide (m < k) := by rw [Bool.eq_iff_iff]; simp; omega
          simp [hm, this]
      have ihk' := ihk (k + 1) ⟨by omega, by omega⟩ (by omega)
      rw [← ks] at ihk'
      clear ihk ks
      generalize hB : (bitsOf fun n => memN (s.take i) n || (decide (lo ≤ n) && decide (n < k))) = B at *
      simp only [g1, g2, g3, k1, k2, k3, k5, kl, kg, go_sem]
      repeat' ((first | apply qa | apply qb | apply qc | apply qd | apply qe | apply qf | apply qg | apply qh | apply qi | apply qj | apply qk) <;> intro hp <;> simp only [hp, g1, g2, g3, k1, k2, k3, k5, kl, kg, go_sem])
      exact ihk'
    · have hke : k = hh + 1 := by omega
      subst hke
      have k1 : ¬ (((hh + 1 : Nat) : Int)) ≤ s[i].Hi := by omega
      simp only [g1, g2, g3, k1, g5, go_sem]
      repeat' ((first | apply qa | apply qb | apply qc | apply qd | apply qe | apply qf | apply qg | apply qh | apply qi | apply qj | apply qk) <;> intro hp <;> simp only [hp, g1, g2, g3, k1, g5, go_sem])
      exact ih'
  · have g1 : ¬ (i : Int) < s.length := by omega
    have ht : s.take i = s := List.take_of_length_le h
    simp only [g1, ht, go_sem]
    repeat' ((first | apply qa | apply qb | apply qc | apply qd | apply qe | apply qf | apply qg | apply qh | apply qi | apply qj | apply qk) <;> intro hp <;> simp only [hp, g1, ht, go_sem])
    simp only [fin_mk, finV, resL, resV1, resIn, endA, listIn, Option.some_or, Option.none_or, oneOrTup, go_sem]
    rw [← hr]
def markB (l : List Bool) (n : Int) : Bool := l.getD n.toNat false
def scanB (l : List Bool) : List Range := scan ((nums 9999).filter (markB l))
theorem filter_nums_succ (p : Int → Bool) (i : Nat) : (nums (i + 1)).filter p = (nums i).filter p ++ (if p ((i + 1 : Nat) : Int) = true then [((i + 1 : Nat) : Int)] else []) := by
  rw [nums_succ, List.filter_append, List.filter_cons]
  rfl
theorem filter_nums_last {p : Int → Bool} {i : Nat} (h : p ((i + 1 : Nat) : Int) = true) : ∃ a r, scan ((nums (i + 1)).filter p) = a ++ [r] ∧ r.Hi = ((i + 1 : Nat) : Int) := by
  rw [filter_nums_succ, if_pos h]
  exact scan_last _ _
theorem push_gap {p : Int → Bool} {i : Nat} (h : i = 0 ∨ p (i : Int) = false) : push (scan ((nums i).filter p)) ((i + 1 : Nat) : Int) = scan ((nums i).filter p) ++ [⟨((i + 1 : Nat) : Int), ((i + 1 : Nat) : Int)⟩] := by
  rcases snoc_cases ((nums i).filter p) with e | ⟨a, x, e⟩
  · rw [e]; rfl
  · rw [e]
    obtain ⟨b, r, h1, h2⟩ := scan_last a x
    have hx : x ∈ (nums i).filter p := by rw [e]; simp
    rw [List.mem_filter, nums_mem] at hx
    have hne : x ≠ i := by
      rintro rfl
      rcases h with h | h
      · subst h; omega
      · rw [hx.2] at h; cases h
    rw [h1, push_snoc, if_neg (by rw [h2]; omega)]
open Classical in
noncomputable def spScanBits : VM.Spec := { modes := [.rd], run := fun | [.lst 1 l'] => (decL dBool l').bind fun l => if l.length = 10001 ∧ l.getD 0 false = false then some (.tup [.lst 2 (((if setOk (scanB l) = true then scanB l else [])).map Range.enc), .bool (setOk (scanB l))], []) else none | _ => none, need := [] }
attribute [go_sem] spScanBits
theorem spScanBits_in {ins : List V} {r : V} {outs : List V} (h : spScanBits.run ins = some (r, outs)) : ∃ (l : (List Bool)), ins = [.lst 1 ((l).map eBool)] ∧ (l.length = 10001 ∧ l.getD 0 false = false) ∧ .tup [.lst 2 (((if setOk (scanB l) = true then scanB l else [])).map Range.enc), .bool (setOk (scanB l))] = r ∧ outs = [] := by
  unfold spScanBits at h
  simp only at h
  split at h
  · rename_i l'
    simp only [Option.bind_eq_some_iff] at h
    obtain ⟨l, h_l, h⟩ := h
    split at h
    case isFalse => cases h
    rename_i hc
    simp only [Option.some.injEq, Prod.mk.injEq] at h
    obtain ⟨h1, h2⟩ := h
    have h_l := decL_some (fun _ _ h => dBool_some h) h_l
    subst h_l
    exact ⟨l, rfl, hc, h1, h2.symm⟩
  · cases h
def T_spec_l05Set : Hints := ⟨lk [], lk [(3, [0, 4, 5])], lk [(0, [0]), (1, [0, 4]), (2, [0, 4, 5]), (3, [0, 4, 5, 8]), (5, [0, 4, 5, 15]), (6, [0, 4, 5, 21]), (7, [0, 4, 5]), (8, [0, 4, 5]), (4, [0, 4, 5]), (9, [4, 36]), (10, [2, 3]), (11, [2, 3])], lk []⟩
noncomputable def Phi_spec_l05Set : Tab := lk [(87, spSetOk)]
attribute [go_sem] T_spec_l05Set Phi_spec_l05Set
theorem phi_spec_l05Set : ∀ f sp, Phi_spec_l05Set f = some sp → FnOk Tryz.prog f sp ∧ ∀ n ∈ sp.need, n ∈ ([] : List String) := phi_cons ok_spec_SetOk (n0 rfl) (phi_nil)
theorem ok_spec_l05Set : FnOk Tryz.prog 145 spScanBits := by
  refine fn_ok (Φ := Phi_spec_l05Set) (T := T_spec_l05Set) phi_spec_l05Set mixed Tryz.func145 rfl rfl rfl (by decide) ?_
  intro ins r outs hr hl
  clear hl
  have hs := spScanBits_in hr
  clear hr
  obtain ⟨l, rfl, hc, hr, rfl⟩ := hs
  simp only [spScanBits, Tryz.f145, Go.VM.initS]
  obtain ⟨hl, h0⟩ := hc
  simp only [go_sem]
  repeat' ((first | apply qa | apply qb | apply qc | apply qd | apply qe | apply qf | apply qg | apply qh | apply qi | apply qj | apply qk) <;> intro hp <;> simp only [hp, go_sem])
  refine loop_go (fun i : Nat => [(5, .int .i64 ((i + 1 : Nat) : Int))]) (fun i => [(0, ⟨.arr, 2, (scan ((nums i).filter (markB l))).map Range.enc⟩)]) (fun i => 9999 - i) (fun i => i ≤ 9999) 0 (Nat.zero_le _) rfl rfl ?_
  intro i hi ih
  rcases Nat.lt_or_ge i 9999 with h | h
  · have g1 : ((i + 1 : Nat) : Int) ≤ 9999 := by omega
    have g2 : (0 : Int) ≤ ((i + 1 : Nat) : Int) := by omega
    have g3 : ((i + 1 : Nat) : Int) < ((10001 : Nat) : Int) := by omega
    have g4 : l[i + 1]? = some (markB l ((i + 1 : Nat) : Int)) := by
      rw [markB, Int.toNat_natCast, List.getD_eq_getElem?_getD, List.getElem?_eq_getElem (by omega)]; rfl
    have g5 : IntKind.i64.wrap (((i + 1 : Nat) : Int) + 1) = ((i + 1 + 1 : Nat) : Int) := wrap_succ (n := 10002) (by omega) (by omega)
    have g6 : IntKind.i64.wrap (((i + 1 : Nat) : Int) - 1) = (i : Int) := (wrap64 (by omega) (by omega)).trans (by omega)
    have g7 : (0 : Int) ≤ (i : Int) := by omega
    have g8 : (i : Int) < ((10001 : Nat) : Int) := by omega
    have g9 : l[i]? = some (markB l (i : Int)) := by
      rw [markB, Int.toNat_natCast, List.getD_eq_getElem?_getD, List.getElem?_eq_getElem (by omega)]; rfl
    have ih' := ih (i + 1) h (by omega)
    rw [filter_nums_succ] at ih'
    clear ih
    have hsl : (scan ((nums i).filter (markB l))).length ≤ i := by
      refine Nat.le_trans (scan_len _) (Nat.le_trans (List.length_filter_le _ _) ?_)
      simp [nums]
    cases hm : markB l ((i + 1 : Nat) : Int) with
    | false =>
      rw [hm] at ih' g4
      rw [if_neg (by simp), List.append_nil] at ih'
      simp only [hl, g1, g2, g3, g4, g5, go_sem]
      repeat' ((first | apply qa | apply qb | apply qc | apply qd | apply qe | apply qf | apply qg | apply qh | apply qi | apply qj | apply qk) <;> intro hp <;> simp only [hp, hl, g1, g2, g3, g4, g5, go_sem])
      exact ih'
    | true =>
      rw [hm] at ih' g4
      rw [if_pos rfl, scan_snoc] at ih'
      cases hp : markB l (i : Int) with
      | false =>
        rw [hp] at g9
        rw [push_gap (.inr hp)] at ih'
        generalize hO : scan ((nums i).filter (markB l)) = O at *
        have b1 : (O.length + 1) * 16 ≤ 140737488355328 := by omega
        have b2 : O.length ≤ 9223372036854775806 := by omega
        have b3 : IntKind.i64.wrap (((O.length + 1 : Nat) : Int) - 1) = (O.length : Int) := (wrap64 (by omega) (by omega)).trans (by omega)
        have b4 : (0 : Int) ≤ (O.length : Int) := by omega
        have b5 : (O.length : Int) < ((O.length + 1 : Nat) : Int) := by omega
        have b6 : (List.map Range.enc O ++ [V.agg [.int .i64 ((i + 1 : Nat) : Int), .int .i64 0]])[O.length]? = some (V.agg [.int .i64 ((i + 1 : Nat) : Int), .int .i64 0]) := by
          rw [List.getElem?_append_right (by simp)]; simp
        have b7 : (List.map Range.enc O ++ [V.agg [.int .i64 ((i + 1 : Nat) : Int), .int .i64 0]]).set O.length (V.agg [.int .i64 ((i + 1 : Nat) : Int), .int .i64 ((i + 1 : Nat) : Int)]) = List.map Range.enc (O ++ [⟨((i + 1 : Nat) : Int), ((i + 1 : Nat) : Int)⟩]) := by
          rw [List.set_append_right _ _ (by simp)]; simp [Range.enc]
        have b8 : (List.map Range.enc O ++ [V.agg [.int .i64 ((i + 1 : Nat) : Int), .int .i64 0]]).length = O.length + 1 := by simp
        rw [← b7] at ih'
        clear b7
        simp only [hl, g1, g2, g3, g4, g5, g6, g7, g8, g9, b1, b2, b3, b4, b5, b6, b8, List.length_append, go_sem]
        repeat' ((first | apply qa | apply qb | apply qc | apply qd | apply qe | apply qf | apply qg | apply qh | apply qi | apply qj | apply qk) <;> intro hp <;> simp only [hp, hl, g1, g2, g3, g4, g5, g6, g7, g8, g9, b1, b2, b3, b4, b5, b6, b8, List.length_append, go_sem])
        exact ih'
      | true =>
        rw [hp] at g9
        obtain ⟨m, rfl⟩ : ∃ m, i = m + 1 := by
          rcases Nat.eq_zero_or_pos i with e | e
          · subst e
            rw [markB] at hp
            rw [show ((0 : Nat) : Int).toNat = 0 from rfl, h0] at hp
            cases hp
          · exact ⟨i - 1, by omega⟩
        obtain ⟨a, r', ha, hH⟩ := filter_nums_last hp
        rw [ha] at ih' hsl ⊢
        rw [push_snoc, if_pos (by rw [hH]; omega)] at ih'
        have b3 : IntKind.i64.wrap (((a.length + 1 : Nat) : Int) - 1) = (a.length : Int) := (wrap64 (by simp at hsl; omega) (by simp at hsl; omega)).trans (by omega)
        have b4 : (0 : Int) ≤ (a.length : Int) := by omega
        have b5 : (a.length : Int) < ((a.length + 1 : Nat) : Int) := by omega
        have b6 : (List.map Range.enc (a ++ [r']))[a.length]? = some r'.enc := by simp
        have b7 : (List.map Range.enc (a ++ [r'])).set a.length (V.agg [.int .i64 r'.Lo, .int .i64 ((m + 1 + 1 : Nat) : Int)]) = List.map Range.enc (a ++ [⟨r'.Lo, ((m + 1 + 1 : Nat) : Int)⟩]) := by
          simp [Range.enc]
        have b8 : (List.map Range.enc (a ++ [r'])).length = a.length + 1 := by simp
        have b9 : (a ++ [r']).length = a.length + 1 := by simp
        rw [← b7] at ih'
        clear b7
        generalize hX : List.map Range.enc (a ++ [r']) = X at *
        simp only [hl, g1, g2, g3, g4, g5, g6, g7, g8, g9, b3, b4, b5, b6, b8, go_sem]
        repeat' ((first | apply qa | apply qb | apply qc | apply qd | apply qe | apply qf | apply qg | apply qh | apply qi | apply qj | apply qk) <;> intro hp <;> simp only [hp, hl, g1, g2, g3, g4, g5, g6, g7, g8, g9, b3, b4, b5, b6, b8, go_sem])
        exact ih'
  · have hi9 : i = 9999 := by omega
    subst hi9
    have g1 : ¬ (((9999 + 1 : Nat) : Int)) ≤ 9999 := by decide
    have hsl : (scan ((nums 9999).filter (markB l))).length ≤ 9999 := by
      refine Nat.le_trans (scan_len _) (Nat.le_trans (List.length_filter_le _ _) ?_)
      simp [nums]
    have hB : scan ((nums 9999).filter (markB l)) = scanB l := rfl
    rw [hB] at hsl ⊢
    have hsl' : (scanB l).length ≤ 4194304 := by omega
    cases hk : setOk (scanB l) with
    | false =>
      simp only [g1, hsl', hk, go_sem]
      repeat' ((first | apply qa | apply qb | apply qc | apply qd | apply qe | apply qf | apply qg | apply qh | apply qi | apply qj | apply qk) <;> intro hp <;> simp only [hp, g1, hsl', hk, go_sem])
      simp only [fin_mk, finV, resL, resV1, resIn, endA, listIn, Option.some_or, Option.none_or, oneOrTup, go_sem]
      rw [← hr]
      rw [hk]; rfl
    | true =>
      simp only [g1, hsl', hk, go_sem]
      repeat' ((first | apply qa | apply qb | apply qc | apply qd | apply qe | apply qf | apply qg | apply qh | apply qi | apply qj | apply qk) <;> intro hp <;> simp only [hp, g1, hsl', hk, go_sem])
      simp only [fin_mk, finV, resL, resV1, resIn, endA, listIn, Option.some_or, Option.none_or, oneOrTup, go_sem]
      rw [← hr]
      rw [hk]; rfl
def addR (s : List Range) (lo hi : Int) : List Range := scan ((nums 9999).filter fun n => hasR s n || (decide (lo ≤ n) && decide (n ≤ hi)))
def setAddIn (s : List Range) (lo hi : Int) : Bool := setOk s && (within lo 1 hi && decide (hi ≤ 9999))
def setAddOk (s : List Range) (lo hi : Int) : Bool := setAddIn s lo hi && setOk (addR s lo hi)
def setAdd (s : List Range) (lo hi : Int) : List Range := if setAddOk s lo hi = true then addR s lo hi else s
theorem setOk_lo {s : List Range} (h : setOk s = true) : memN s 0 = false := by
  simp only [setOk, Bool.and_eq_true] at h
  unfold memN hasR
  rw [List.any_eq_false]
  intro r hr
  obtain ⟨i, hi, rfl⟩ := List.mem_iff_getElem.1 hr
  have := rangeAt_hi hi (allN_get h.1 hi)
  simp; omega
theorem filter_nums {k : Nat} {p q : Int → Bool} (h : ∀ n : Int, 1 ≤ n → n ≤ k → p n = q n) : (nums k).filter p = (nums k).filter q :=
  List.filter_congr fun n hn => h n (nums_mem.1 hn).1 (nums_mem.1 hn).2
theorem scanB_bits (p : Nat → Bool) : scanB (bitsOf p) = scan ((nums 9999).filter fun n => p n.toNat) := by
  have : (nums 9999).filter (markB (bitsOf p)) = (nums 9999).filter fun n => p n.toNat := filter_nums fun n h1 h2 => by
    rw [markB, List.getD_eq_getElem?_getD, bitsOf_get p (by omega)]; rfl
  rw [scanB, this]
open Classical in
noncomputable def spPut : VM.Spec := { modes := [.rd, .rd, .rd, .rd], run := fun | [.lst 2 s', .int .i64 lo, .int .i64 hi, .bool to] => (decL Range.dec s').bind fun s => if to = true ∧ s.length ≤ 4194304 then some (.tup [.lst 2 ((setAdd s lo hi).map Range.enc), .bool (setAddOk s lo hi)], []) else none | _ => none, need := [] }
attribute [go_sem] spPut
theorem spPut_in {ins : List V} {r : V} {outs : List V} (h : spPut.run ins = some (r, outs)) : ∃ (s : (List Range)) (lo : Int) (hi : Int) (to : Bool), ins = [.lst 2 ((s).map Range.enc), .int .i64 lo, .int .i64 hi, .bool to] ∧ (to = true ∧ s.length ≤ 4194304) ∧ .tup [.lst 2 ((setAdd s lo hi).map Range.enc), .bool (setAddOk s lo hi)] = r ∧ outs = [] := by
  unfold spPut at h
  simp only at h
  split at h
  · rename_i s' lo hi to
    simp only [Option.bind_eq_some_iff] at h
    obtain ⟨s, h_s, h⟩ := h
    split at h
    case isFalse => cases h
    rename_i hc
    simp only [Option.some.injEq, Prod.mk.injEq] at h
    obtain ⟨h1, h2⟩ := h
    have h_s := decL_some (fun _ _ h => Range.dec_some h) h_s
    subst h_s
    exact ⟨s, lo, hi, to, rfl, hc, h1, h2.symm⟩
  · cases h
def T_spec_l05Put : Hints := ⟨lk [], lk [(6, [2, 3, 10, 11, 12])], lk [(0, [0, 1, 2, 3]), (1, [0, 1, 2, 3, 10]), (2, [0, 1, 2, 3, 10, 30]), (3, [8, 9]), (4, [1, 2, 3, 10, 11]), (5, [2, 3, 10, 11, 12]), (6, [2, 3, 10, 11, 12, 37]), (8, [2, 3, 10, 11, 12]), (7, [2, 3, 10, 11, 12]), (9, [10, 13, 14]), (10, [10, 13, 50]), (11, [8, 9]), (12, [8, 9])], lk []⟩
noncomputable def Phi_spec_l05Put : Tab := lk [(87, spSetOk), (84, spWithin), (144, spBits), (145, spScanBits)]
attribute [go_sem] T_spec_l05Put Phi_spec_l05Put
theorem phi_spec_l05Put : ∀ f sp, Phi_spec_l05Put f = some sp → FnOk Tryz.prog f sp ∧ ∀ n ∈ sp.need, n ∈ ([] : List String) := phi_cons ok_spec_SetOk (n0 rfl) (phi_cons ok_spec_l01In (n0 rfl) (phi_cons ok_spec_l05Bits (n0 rfl) (phi_cons ok_spec_l05Set (n0 rfl) (phi_nil))))
theorem ok_spec_l05Put : FnOk Tryz.prog 134 spPut := by
  refine fn_ok (Φ := Phi_spec_l05Put) (T := T_spec_l05Put) phi_spec_l05Put mixed Tryz.func134 rfl rfl rfl (by decide) ?_
  intro ins r outs hr hl
  clear hl
  have hs := spPut_in hr
  clear hr
  obtain ⟨s, lo, hi, to, rfl, hc, hr, rfl⟩ := hs
  simp only [spPut, Tryz.f134, Go.VM.initS]
  obtain ⟨rfl, hl⟩ := hc
  have c1 : s.length * 16 ≤ 140737488355328 := by omega
  have c2 : s.length ≤ 9223372036854775807 := by omega
  cases hk : setOk s with
  | false =>
    simp only [hl, c1, c2, hk, go_sem]
    repeat' ((first | apply qa | apply qb | apply qc | apply qd | apply qe | apply qf | apply qg | apply qh | apply qi | apply qj | apply qk) <;> intro hp <;> simp only [hp, hl, c1, c2, hk, go_sem])
    all_goals (simp only [fin_mk, finV, resL, resV1, resIn, endA, listIn, Option.some_or, Option.none_or, oneOrTup, go_sem]; rw [← hr])
    all_goals simp only [setAdd, setAddOk, setAddIn, hk, Bool.false_and, Bool.false_eq_true, if_false]
  | true =>
    cases hw : within lo 1 hi with
    | false =>
      simp only [hl, c1, c2, hk, hw, go_sem]
      repeat' ((first | apply qa | apply qb | apply qc | apply qd | apply qe | apply qf | apply qg | apply qh | apply qi | apply qj | apply qk) <;> intro hp <;> simp only [hp, hl, c1, c2, hk, hw, go_sem])
      all_goals (simp only [fin_mk, finV, resL, resV1, resIn, endA, listIn, Option.some_or, Option.none_or, oneOrTup, go_sem]; rw [← hr])
      all_goals simp only [setAdd, setAddOk, setAddIn, hk, hw, Bool.false_and, Bool.true_and, Bool.false_eq_true, if_false]
    | true =>
      have hlo : 1 ≤ lo ∧ lo ≤ hi := by simpa only [within, Bool.and_eq_true, decide_eq_true_eq] using hw
      by_cases h9 : (9999 : Int) < hi
      · simp only [hl, c1, c2, hk, hw, h9, go_sem]
        repeat' ((first | apply qa | apply qb | apply qc | apply qd | apply qe | apply qf | apply qg | apply qh | apply qi | apply qj | apply qk) <;> intro hp <;> simp only [hp, hl, c1, c2, hk, hw, h9, go_sem])
        all_goals (simp only [fin_mk, finV, resL, resV1, resIn, endA, listIn, Option.some_or, Option.none_or, oneOrTup, go_sem]; rw [← hr])
        have : decide (hi ≤ 9999) = false := by simp; omega
        all_goals simp only [setAdd, setAddOk, setAddIn, hk, hw, this, Bool.and_false, Bool.false_and, Bool.true_and, Bool.false_eq_true, if_false]
      · obtain ⟨a, rfl⟩ : ∃ a : Nat, lo = a := ⟨lo.toNat, by omega⟩
        obtain ⟨b, rfl⟩ : ∃ b : Nat, hi = b := ⟨hi.toNat, by omega⟩
        have e0 : (fun n => memN s n || (decide (a ≤ n) && decide (n < a))) = memN s := by
          funext n
          have : (decide (a ≤ n) && decide (n < a)) = false := by rw [Bool.and_eq_false_iff]; simp; omega
          rw [this, Bool.or_false]
        have hin : setAddIn s a b = true := by
          have : decide ((b : Int) ≤ 9999) = true := by simp; omega
          simp only [setAddIn, hk, hw, this, Bool.and_true]
        simp only [hl, c1, c2, hk, hw, h9, go_sem]
        repeat' ((first | apply qa | apply qb | apply qc | apply qd | apply qe | apply qf | apply qg | apply qh | apply qi | apply qj | apply qk) <;> intro hp <;> simp only [hp, hl, c1, c2, hk, hw, h9, go_sem])
        refine loop_go (fun k : Nat => [(12, .int .i64 (k : Int))]) (fun k => [(1, ⟨.arr, 1, (bitsOf fun n => memN s n || (decide (a ≤ n) && decide (n < k))).map eBool⟩)]) (fun k => b + 1 - k) (fun k => a ≤ k ∧ k ≤ b + 1) a ⟨Nat.le_refl _, by omega⟩ rfl (by rw [e0]; rfl) ?_
        intro k ⟨hk1, hk2⟩ ihk
        have kl := bitsOf_len (fun n => memN s n || (decide (a ≤ n) && decide (n < k)))
        rcases Nat.lt_or_ge k (b + 1) with hkl | hkl
        · have k1 : (k : Int) ≤ b := by omega
          have k2 : (0 : Int) ≤ k := by omega
          have k3 : (k : Int) < ((10001 : Nat) : Int) := by omega
          have k5 := wrap_succ hkl (by omega)
          have kg := bitsOf_get (fun n => memN s n || (decide (a ≤ n) && decide (n < k))) (n := k) (by omega)
          have ks : (List.map eBool (bitsOf fun n => memN s n || (decide (a ≤ n) && decide (n < k)))).set k (V.bool true) = List.map eBool (bitsOf fun n => memN s n || (decide (a ≤ n) && decide (n < k + 1))) := by
            rw [show V.bool true = eBool true from rfl, ← List.map_set, bitsOf_set]
            congr 2
            funext m
            by_cases hm : m = k
            · subst hm; simp [hk1]
            · have : decide (m < k + 1) = decide (m < k) := by rw [Bool.eq_iff_iff]; simp; omega
              simp [hm, this]
          have ihk' := ihk (k + 1) ⟨by omega, by omega⟩ (by omega)
          rw [← ks] at ihk'
          clear ihk ks
          generalize hB : (bitsOf fun n => memN s n || (decide (a ≤ n) && decide (n < k))) = B at *
          simp only [k1, k2, k3, k5, kl, kg, go_sem]
          repeat' ((first | apply qa | apply qb | apply qc | apply qd | apply qe | apply qf | apply qg | apply qh | apply qi | apply qj | apply qk) <;> intro hp <;> simp only [hp, k1, k2, k3, k5, kl, kg, go_sem])
          exact ihk'
        · have hke : k = b + 1 := by omega
          subst hke
          have k1 : ¬ (((b + 1 : Nat) : Int)) ≤ b := by omega
          have h0 : (bitsOf fun n => memN s n || (decide (a ≤ n) && decide (n < b + 1))).getD 0 false = false := by
            rw [List.getD_eq_getElem?_getD, bitsOf_get _ (by decide), Option.getD_some, setOk_lo hk]
            simp; omega
          have hS : scanB (bitsOf fun n => memN s n || (decide (a ≤ n) && decide (n < b + 1))) = addR s a b := by
            have e2 : ((nums 9999).filter fun n => memN s n.toNat || (decide (a ≤ n.toNat) && decide (n.toNat < b + 1))) = (nums 9999).filter fun n => hasR s n || (decide ((a : Int) ≤ n) && decide (n ≤ b)) := filter_nums fun n h1 h2 => by
              have e1 : ((n.toNat : Nat) : Int) = n := by omega
              unfold memN
              rw [e1]
              congr 1
              rw [Bool.eq_iff_iff]
              simp; omega
            rw [scanB_bits, e2, addR]
          generalize hB : (bitsOf fun n => memN s n || (decide (a ≤ n) && decide (n < b + 1))) = B at *
          cases hf : setOk (addR s a b) with
          | false =>
            simp only [k1, kl, h0, hS, hf, go_sem]
            repeat' ((first | apply qa | apply qb | apply qc | apply qd | apply qe | apply qf | apply qg | apply qh | apply qi | apply qj | apply qk) <;> intro hp <;> simp only [hp, k1, kl, h0, hS, hf, go_sem])
            simp only [fin_mk, finV, resL, resV1, resIn, endA, listIn, Option.some_or, Option.none_or, oneOrTup, go_sem]
            rw [← hr]
            simp only [setAdd, setAddOk, hin, hf, Bool.true_and, Bool.false_eq_true, if_false]
          | true =>
            simp only [k1, kl, h0, hS, hf, go_sem]
            repeat' ((first | apply qa | apply qb | apply qc | apply qd | apply qe | apply qf | apply qg | apply qh | apply qi | apply qj | apply qk) <;> intro hp <;> simp only [hp, k1, kl, h0, hS, hf, go_sem])
            simp only [fin_mk, finV, resL, resV1, resIn, endA, listIn, Option.some_or, Option.none_or, oneOrTup, go_sem]
            rw [← hr]
            simp only [setAdd, setAddOk, hin, hf, Bool.true_and, if_true]
open Classical in
noncomputable def spSetAdd : VM.Spec := { modes := [.rd, .rd, .rd], run := fun | [.lst 2 s', .int .i64 lo, .int .i64 hi] => (decL Range.dec s').bind fun s => if s.length ≤ 4194304 then some (.tup [.lst 2 ((setAdd s lo hi).map Range.enc), .bool (setAddOk s lo hi)], []) else none | _ => none, need := [] }
attribute [go_sem] spSetAdd
theorem spSetAdd_in {ins : List V} {r : V} {outs : List V} (h : spSetAdd.run ins = some (r, outs)) : ∃ (s : (List Range)) (lo : Int) (hi : Int), ins = [.lst 2 ((s).map Range.enc), .int .i64 lo, .int .i64 hi] ∧ (s.length ≤ 4194304) ∧ .tup [.lst 2 ((setAdd s lo hi).map Range.enc), .bool (setAddOk s lo hi)] = r ∧ outs = [] := by
  unfold spSetAdd at h
  simp only at h
  split at h
  · rename_i s' lo hi
    simp only [Option.bind_eq_some_iff] at h
    obtain ⟨s, h_s, h⟩ := h
    split at h
    case isFalse => cases h
    rename_i hc
    simp only [Option.some.injEq, Prod.mk.injEq] at h
    obtain ⟨h1, h2⟩ := h
    have h_s := decL_some (fun _ _ h => Range.dec_some h) h_s
    subst h_s
    exact ⟨s, lo, hi, rfl, hc, h1, h2.symm⟩
  · cases h
def T_spec_SetAdd : Hints := ⟨lk [], lk [], lk [(0, [0, 1, 2]), (1, [6, 7])], lk []⟩
noncomputable def Phi_spec_SetAdd : Tab := lk [(134, spPut)]
attribute [go_sem] T_spec_SetAdd Phi_spec_SetAdd
theorem phi_spec_SetAdd : ∀ f sp, Phi_spec_SetAdd f = some sp → FnOk Tryz.prog f sp ∧ ∀ n ∈ sp.need, n ∈ ([] : List String) := phi_cons ok_spec_l05Put (n0 rfl) (phi_nil)
theorem ok_spec_SetAdd : FnOk Tryz.prog 110 spSetAdd := by
  refine fn_ok (Φ := Phi_spec_SetAdd) (T := T_spec_SetAdd) phi_spec_SetAdd mixed Tryz.func110 rfl rfl rfl (by decide) ?_
  intro ins r outs hr hl
  clear hl
  have hs := spSetAdd_in hr
  clear hr
  obtain ⟨s, lo, hi, rfl, hc, hr, rfl⟩ := hs
  simp only [spSetAdd, Tryz.f110, Go.VM.initS]
  simp only [hc, go_sem]
  repeat' ((first | apply qa | apply qb | apply qc | apply qd | apply qe | apply qf | apply qg | apply qh | apply qi | apply qj | apply qk) <;> intro hp <;> simp only [hp, hc, go_sem])
  simp only [fin_mk, finV, resL, resV1, resIn, endA, listIn, Option.some_or, Option.none_or, oneOrTup, go_sem]
  rw [← hr]
theorem setAdd_one {S : List Int} {u : Int} (hu : 1 ≤ u ∧ u ≤ 9999) (hl : S.length < 40) : setAddOk (setOf S) u u = true ∧ setAdd (setOf S) u u = setOf (S ++ [u]) := by
  have h1 : setOk (setOf S) = true := setOf_ok (by omega)
  have h2 : addR (setOf S) u u = setOf (S ++ [u]) := by
    have e2 : ((nums 9999).filter fun n => hasR (setOf S) n || (decide (u ≤ n) && decide (n ≤ u))) = (nums 9999).filter fun n => decide (n ∈ S ++ [u]) := filter_nums fun n h1 h2 => by
      have e3 : (decide (u ≤ n) && decide (n ≤ u)) = decide (n = u) := by rw [Bool.eq_iff_iff]; simp; omega
      rw [setOf_has S n ⟨h1, h2⟩, e3, Bool.eq_iff_iff]
      simp
    rw [addR, e2]
    rfl
  have h3 : setAddOk (setOf S) u u = true := by
    rw [setAddOk, h2, setOf_ok (by simp; omega), setAddIn, h1]
    simp only [within, Bool.and_true, Bool.true_and, Bool.and_eq_true, decide_eq_true_eq]; omega
  exact ⟨h3, by rw [setAdd, if_pos h3, h2]⟩
theorem setOf_nil : setOf [] = [] := by
  have : ∀ k, (nums k).filter (fun n => decide (n ∈ ([] : List Int))) = [] := fun k => by
    rw [List.filter_eq_nil_iff]; simp
  rw [setOf, this 9999]; rfl
end Go.Proofs.YtjkhhplhjbmhjaaGreat.L

namespace Go.Proofs.YtjkhhplhjbmhjaaGreat.L
open Go Go.VM
set_option maxRecDepth 100000
set_option maxHeartbeats 4000000
set_option linter.unusedSimpArgs false
set_option linter.unusedVariables false
def andN (a b : Int) : Int := ((a.toNat &&& b.toNat : Nat) : Int)
theorem and_step : ∀ a b : Fin 32, ∀ j : Fin 5,
    (((IntKind.i64.wrap ((a.val : Int).tdiv ((2 ^ j.val : Nat) : Int))).tmod 2 == 1) = a.val.testBit j.val) ∧
    ((a.val &&& b.val) % 2 ^ (j.val + 1) = (a.val &&& b.val) % 2 ^ j.val + (if (a.val.testBit j.val && b.val.testBit j.val) = true then 2 ^ j.val else 0)) := by decide +kernel
open Classical in
noncomputable def spAnd : VM.Spec := { modes := [.rd, .rd], run := fun | [.int .i64 a, .int .i64 b] => if flagsOk a = true ∧ flagsOk b = true then some (.int .i64 (andN a b), []) else none | _ => none, need := [] }
attribute [go_sem] spAnd
theorem spAnd_in {ins : List V} {r : V} {outs : List V} (h : spAnd.run ins = some (r, outs)) : ∃ (a : Int) (b : Int), ins = [.int .i64 a, .int .i64 b] ∧ (flagsOk a = true ∧ flagsOk b = true) ∧ .int .i64 (andN a b) = r ∧ outs = [] := by
  unfold spAnd at h
  simp only at h
  split at h
  · rename_i a b
    split at h
    case isFalse => cases h
    rename_i hc
    simp only [Option.some.injEq, Prod.mk.injEq] at h
    obtain ⟨h1, h2⟩ := h
    exact ⟨a, b, rfl, hc, h1, h2.symm⟩
  · cases h
def T_spec_l06And : Hints := ⟨lk [], lk [(3, [0, 1, 5, 6])], lk [(0, [0, 1]), (1, [0, 1, 5]), (2, [0, 1, 5, 6]), (3, [0, 1, 5, 6, 8]), (5, [0, 1, 5, 6, 22]), (6, [0, 1, 5, 6]), (4, [0, 1, 5, 6]), (7, [4])], lk []⟩
noncomputable def Phi_spec_l06And : Tab := lk []
attribute [go_sem] T_spec_l06And Phi_spec_l06And
theorem phi_spec_l06And : ∀ f sp, Phi_spec_l06And f = some sp → FnOk Tryz.prog f sp ∧ ∀ n ∈ sp.need, n ∈ ([] : List String) := phi_nil
theorem ok_spec_l06And : FnOk Tryz.prog 129 spAnd := by
  refine fn_ok (Φ := Phi_spec_l06And) (T := T_spec_l06And) phi_spec_l06And mixed Tryz.func129 rfl rfl rfl (by decide) ?_
  intro ins r outs hr hl
  clear hl
  have hs := spAnd_in hr
  clear hr
  obtain ⟨a, b, rfl, hc, hr, rfl⟩ := hs
  simp only [spAnd, Tryz.f129, Go.VM.initS]
  obtain ⟨ha, hb⟩ := hc
  have ha : 0 ≤ a ∧ a ≤ 31 := by simpa only [flagsOk, within, Bool.and_eq_true, decide_eq_true_eq] using ha
  have hb : 0 ≤ b ∧ b ≤ 31 := by simpa only [flagsOk, within, Bool.and_eq_true, decide_eq_true_eq] using hb
  obtain ⟨x, rfl⟩ : ∃ x : Nat, a = x := ⟨a.toNat, by omega⟩
  obtain ⟨y, rfl⟩ : ∃ y : Nat, b = y := ⟨b.toNat, by omega⟩
  have hx : x < 32 := by omega
  have hy : y < 32 := by omega
  simp only [go_sem]
  repeat' ((first | apply qa | apply qb | apply qc | apply qd | apply qe | apply qf | apply qg | apply qh | apply qi | apply qj | apply qk) <;> intro hp <;> simp only [hp, go_sem])
  refine loop_go (fun j : Nat => [(5, .int .i64 (((x &&& y) % 2 ^ j : Nat) : Int)), (6, .int .i64 ((2 ^ j : Nat) : Int))]) (fun _ => []) (fun j => 5 - j) (fun j => j ≤ 5) 0 (Nat.zero_le _) (by rw [Nat.pow_zero, Nat.mod_one]; rfl) rfl ?_
  intro j hj ih
  rcases Nat.lt_or_ge j 5 with h | h
  · have hp : 2 ^ j ≤ 16 := by
      have : ∀ j : Fin 5, 2 ^ j.val ≤ 16 := by decide
      exact this ⟨j, h⟩
    have hp0 : 0 < 2 ^ j := Nat.pow_pos (by decide)
    have g1 : ((2 ^ j : Nat) : Int) ≤ 16 := by omega
    have g2 : ¬ ((2 ^ j : Nat) : Int) = 0 := by omega
    have g3 := (and_step ⟨x, hx⟩ ⟨y, hy⟩ ⟨j, h⟩).1
    have g4 := (and_step ⟨y, hy⟩ ⟨x, hx⟩ ⟨j, h⟩).1
    have g5 := (and_step ⟨x, hx⟩ ⟨y, hy⟩ ⟨j, h⟩).2
    simp only at g3 g4 g5
    have g6 : IntKind.i64.wrap (2 * ((2 ^ j : Nat) : Int)) = ((2 ^ (j + 1) : Nat) : Int) := (wrap64 (by omega) (by omega)).trans (by rw [Nat.pow_succ]; omega)
    have hm : (x &&& y) % 2 ^ j < 2 ^ j := Nat.mod_lt _ hp0
    have ih' := ih (j + 1) h (by omega)
    rw [g5] at ih'
    clear ih g5
    cases t1 : x.testBit j with
    | false =>
      rw [t1] at g3 ih'
      simp only [Bool.false_and, Bool.false_eq_true, if_false, Nat.add_zero] at ih'
      simp only [g1, g2, g3, g4, g6, go_sem]
      repeat' ((first | apply qa | apply qb | apply qc | apply qd | apply qe | apply qf | apply qg | apply qh | apply qi | apply qj | apply qk) <;> intro hp <;> simp only [hp, g1, g2, g3, g4, g6, go_sem])
      exact ih'
    | true =>
      cases t2 : y.testBit j with
      | false =>
        rw [t1] at g3 ih'
        rw [t2] at g4 ih'
        simp only [Bool.and_false, Bool.false_eq_true, if_false, Nat.add_zero] at ih'
        simp only [g1, g2, g3, g4, g6, go_sem]
        repeat' ((first | apply qa | apply qb | apply qc | apply qd | apply qe | apply qf | apply qg | apply qh | apply qi | apply qj | apply qk) <;> intro hp <;> simp only [hp, g1, g2, g3, g4, g6, go_sem])
        exact ih'
      | true =>
        rw [t1] at g3 ih'
        rw [t2] at g4 ih'
        simp only [Bool.and_true, if_true] at ih'
        have g7 : IntKind.i64.wrap ((((x &&& y) % 2 ^ j : Nat) : Int) + ((2 ^ j : Nat) : Int)) = (((x &&& y) % 2 ^ j + 2 ^ j : Nat) : Int) := (wrap64 (by omega) (by omega)).trans (by omega)
        simp only [g1, g2, g3, g4, g6, g7, go_sem]
        repeat' ((first | apply qa | apply qb | apply qc | apply qd | apply qe | apply qf | apply qg | apply qh | apply qi | apply qj | apply qk) <;> intro hp <;> simp only [hp, g1, g2, g3, g4, g6, g7, go_sem])
        exact ih'
  · have h5 : j = 5 := by omega
    subst h5
    have g1 : ¬ ((2 ^ 5 : Nat) : Int) ≤ 16 := by decide
    have e : (x &&& y) % 2 ^ 5 = x &&& y := Nat.mod_eq_of_lt (Nat.lt_of_le_of_lt Nat.and_le_left (by omega))
    rw [e]
    simp only [g1, go_sem]
    repeat' ((first | apply qa | apply qb | apply qc | apply qd | apply qe | apply qf | apply qg | apply qh | apply qi | apply qj | apply qk) <;> intro hp <;> simp only [hp, g1, go_sem])
    simp only [fin_mk, finV, resL, resV1, resIn, endA, listIn, Option.some_or, Option.none_or, oneOrTup, go_sem]
    rw [← hr]
    rfl
open Classical in
noncomputable def spSetHas : VM.Spec := { modes := [.rd, .rd], run := fun | [.lst 2 s', .int .i64 n] => (decL Range.dec s').bind fun s => if s.length ≤ 8388608 then some (.bool (hasR s n), []) else none | _ => none, need := [] }
attribute [go_sem] spSetHas
theorem spSetHas_in {ins : List V} {r : V} {outs : List V} (h : spSetHas.run ins = some (r, outs)) : ∃ (s : (List Range)) (n : Int), ins = [.lst 2 ((s).map Range.enc), .int .i64 n] ∧ (s.length ≤ 8388608) ∧ .bool (hasR s n) = r ∧ outs = [] := by
  unfold spSetHas at h
  simp only at h
  split at h
  · rename_i s' n
    simp only [Option.bind_eq_some_iff] at h
    obtain ⟨s, h_s, h⟩ := h
    split at h
    case isFalse => cases h
    rename_i hc
    simp only [Option.some.injEq, Prod.mk.injEq] at h
    obtain ⟨h1, h2⟩ := h
    have h_s := decL_some (fun _ _ h => Range.dec_some h) h_s
    subst h_s
    exact ⟨s, n, rfl, hc, h1, h2.symm⟩
  · cases h
def T_impl_SetHas : Hints := ⟨lk [], lk [(2, [1, 7, 8, 9])], lk [(0, [0, 1]), (1, [1, 7, 8, 9]), (2, [1, 7, 8, 9, 10]), (3, [1, 6, 7, 8, 9]), (4, [1, 7, 8, 9, 18]), (5, [4]), (6, [1, 7, 8, 9]), (7, [4])], lk []⟩
noncomputable def Phi_impl_SetHas : Tab := lk [(35, spWithin)]
attribute [go_sem] T_impl_SetHas Phi_impl_SetHas
theorem phi_impl_SetHas : ∀ f sp, Phi_impl_SetHas f = some sp → FnOk Tryz.prog f sp ∧ ∀ n ∈ sp.need, n ∈ ([] : List String) := phi_cons ok_impl_within (n0 rfl) (phi_nil)
theorem ok_impl_SetHas : FnOk Tryz.prog 70 spSetHas := by
  refine fn_ok (Φ := Phi_impl_SetHas) (T := T_impl_SetHas) phi_impl_SetHas mixed Tryz.func70 rfl rfl rfl (by decide) ?_
  intro ins r outs hr hl
  clear hl
  have hs := spSetHas_in hr
  clear hr
  obtain ⟨s, n, rfl, hc, hr, rfl⟩ := hs
  simp only [spSetHas, Tryz.f70, Go.VM.initS]
  simp only [go_sem]
  repeat' ((first | apply qa | apply qb | apply qc | apply qd | apply qe | apply qf | apply qg | apply qh | apply qi | apply qj | apply qk) <;> intro hp <;> simp only [hp, go_sem])
  refine loop_go (fun i : Nat => [(9, .int .i64 (i : Int))]) (fun _ => []) (fun i => s.length - i) (fun i => i ≤ s.length ∧ (s.take i).any (fun r => decide (r.Lo ≤ n) && decide (n ≤ r.Hi)) = false) 0 ⟨Nat.zero_le _, by simp⟩ rfl rfl ?_
  intro i ⟨hi, ha⟩ ih
  rcases Nat.lt_or_ge i s.length with h | h
  · have g1 : (i : Int) < s.length := by omega
    have g2 : (0 : Int) ≤ i := by omega
    have g3 : s[i]? = some s[i] := List.getElem?_eq_getElem h
    have g5 := wrap_succ h (by omega)
    cases hb : within n s[i].Lo s[i].Hi with
    | true =>
      simp only [g1, g2, g3, g5, hb, go_sem]
      repeat' ((first | apply qa | apply qb | apply qc | apply qd | apply qe | apply qf | apply qg | apply qh | apply qi | apply qj | apply qk) <;> intro hp <;> simp only [hp, g1, g2, g3, g5, hb, go_sem])
      simp only [fin_mk, finV, resL, resV1, resIn, endA, listIn, Option.some_or, Option.none_or, oneOrTup, go_sem]
      rw [← hr]
      rw [hasR, any_bad h hb]
    | false =>
      have ih' := ih (i + 1) ⟨h, any_take_succ h ha hb⟩ (by omega)
      simp only [g1, g2, g3, g5, hb, go_sem]
      repeat' ((first | apply qa | apply qb | apply qc | apply qd | apply qe | apply qf | apply qg | apply qh | apply qi | apply qj | apply qk) <;> intro hp <;> simp only [hp, g1, g2, g3, g5, hb, go_sem])
      exact ih'
  · have g1 : ¬ (i : Int) < s.length := by omega
    simp only [g1, go_sem]
    repeat' ((first | apply qa | apply qb | apply qc | apply qd | apply qe | apply qf | apply qg | apply qh | apply qi | apply qj | apply qk) <;> intro hp <;> simp only [hp, g1, go_sem])
    simp only [fin_mk, finV, resL, resV1, resIn, endA, listIn, Option.some_or, Option.none_or, oneOrTup, go_sem]
    rw [← hr]
    rw [hasR, any_take_end h ha]
def T_spec_SetHas : Hints := ⟨lk [], lk [(2, [0, 1, 5])], lk [(0, [0, 1]), (1, [0, 1, 5]), (2, [0, 1, 5, 9]), (4, [0, 1, 5, 27]), (5, [4]), (3, [0, 1, 5]), (6, [4])], lk []⟩
noncomputable def Phi_spec_SetHas : Tab := lk []
attribute [go_sem] T_spec_SetHas Phi_spec_SetHas
theorem phi_spec_SetHas : ∀ f sp, Phi_spec_SetHas f = some sp → FnOk Tryz.prog f sp ∧ ∀ n ∈ sp.need, n ∈ ([] : List String) := phi_nil
theorem ok_spec_SetHas : FnOk Tryz.prog 92 spSetHas := by
  refine fn_ok (Φ := Phi_spec_SetHas) (T := T_spec_SetHas) phi_spec_SetHas mixed Tryz.func92 rfl rfl rfl (by decide) ?_
  intro ins r outs hr hl
  clear hl
  have hs := spSetHas_in hr
  clear hr
  obtain ⟨s, n, rfl, hc, hr, rfl⟩ := hs
  simp only [spSetHas, Tryz.f92, Go.VM.initS]
  simp only [go_sem]
  repeat' ((first | apply qa | apply qb | apply qc | apply qd | apply qe | apply qf | apply qg | apply qh | apply qi | apply qj | apply qk) <;> intro hp <;> simp only [hp, go_sem])
  refine loop_go (fun i : Nat => [(5, .int .i64 (i : Int))]) (fun _ => []) (fun i => s.length - i) (fun i => i ≤ s.length ∧ (s.take i).any (fun r => decide (r.Lo ≤ n) && decide (n ≤ r.Hi)) = false) 0 ⟨Nat.zero_le _, by simp⟩ rfl rfl ?_
  intro i ⟨hi, ha⟩ ih
  rcases Nat.lt_or_ge i s.length with h | h
  · have g1 : (i : Int) < s.length := by omega
    have g2 : (0 : Int) ≤ i := by omega
    have g3 : s[i]? = some s[i] := List.getElem?_eq_getElem h
    have g5 := wrap_succ h (by omega)
    by_cases c1 : s[i].Lo ≤ n
    · by_cases c2 : n ≤ s[i].Hi
      · simp only [g1, g2, g3, g5, c1, c2, go_sem]
        repeat' ((first | apply qa | apply qb | apply qc | apply qd | apply qe | apply qf | apply qg | apply qh | apply qi | apply qj | apply qk) <;> intro hp <;> simp only [hp, g1, g2, g3, g5, c1, c2, go_sem])
        simp only [fin_mk, finV, resL, resV1, resIn, endA, listIn, Option.some_or, Option.none_or, oneOrTup, go_sem]
        rw [← hr]
        rw [hasR, any_bad h (by simp [c1, c2])]
      · have ih' := ih (i + 1) ⟨h, any_take_succ h ha (by simp [c1]; omega)⟩ (by omega)
        simp only [g1, g2, g3, g5, c1, c2, go_sem]
        repeat' ((first | apply qa | apply qb | apply qc | apply qd | apply qe | apply qf | apply qg | apply qh | apply qi | apply qj | apply qk) <;> intro hp <;> simp only [hp, g1, g2, g3, g5, c1, c2, go_sem])
        exact ih'
    · have ih' := ih (i + 1) ⟨h, any_take_succ h ha (by simp; omega)⟩ (by omega)
      simp only [g1, g2, g3, g5, c1, go_sem]
      repeat' ((first | apply qa | apply qb | apply qc | apply qd | apply qe | apply qf | apply qg | apply qh | apply qi | apply qj | apply qk) <;> intro hp <;> simp only [hp, g1, g2, g3, g5, c1, go_sem])
      exact ih'
  · have g1 : ¬ (i : Int) < s.length := by omega
    simp only [g1, go_sem]
    repeat' ((first | apply qa | apply qb | apply qc | apply qd | apply qe | apply qf | apply qg | apply qh | apply qi | apply qj | apply qk) <;> intro hp <;> simp only [hp, g1, go_sem])
    simp only [fin_mk, finV, resL, resV1, resIn, endA, listIn, Option.some_or, Option.none_or, oneOrTup, go_sem]
    rw [← hr]
    rw [hasR, any_take_end h ha]
end Go.Proofs.YtjkhhplhjbmhjaaGreat.L

namespace Go.Proofs.YtjkhhplhjbmhjaaGreat.L
open Go Go.VM
set_option maxRecDepth 100000
set_option maxHeartbeats 4000000
set_option linter.unusedSimpArgs false
set_option linter.unusedVariables false
def copyStep (set : List Range) (m : Mail) (t : Box) : Option Box := if hasR set m.Uid = true then (if addUid t m.Flags m.Text = 0 then none else some (addMail t m.Flags m.Text)) else some t
def copyL (set : List Range) : List Mail → Box → Option Box
  | [], t => some t
  | m :: l, t => (copyStep set m t).bind (copyL set l)
theorem copyL_snoc (set : List Range) : ∀ (l : List Mail) (m : Mail) (t : Box), copyL set (l ++ [m]) t = (copyL set l t).bind (copyStep set m)
  | [], m, t => by simp [copyL]
  | x :: l, m, t => by
    simp only [List.cons_append, copyL]
    cases copyStep set x t with
    | none => rfl
    | some u => simp only [Option.bind_some]; exact copyL_snoc set l m u
theorem copyL_none (set : List Range) : ∀ (l r : List Mail) (t : Box), copyL set l t = none → copyL set (l ++ r) t = none
  | [], r, t, h => by simp [copyL] at h
  | x :: l, r, t, h => by
    simp only [List.cons_append, copyL] at h ⊢
    cases hs : copyStep set x t with
    | none => rfl
    | some u => rw [hs] at h; simp only [Option.bind_some] at h ⊢; exact copyL_none set l r u h
theorem copyStep_le {set : List Range} {m : Mail} {t u : Box} (h : copyStep set m t = some u) (ht : t.le 4194304) (hm : m.Text.length ≤ 4194304) : u.le 4194304 := by
  unfold copyStep at h
  split at h
  · split at h
    · cases h
    · cases h; exact addMail_le ht hm
  · cases h; exact ht
def copyMails (s : Store) (a : List UInt8) (set : List Range) (b : List UInt8) : Store :=
  if (storeOk s && setOk set) = true then (if (boxHas s a && boxHas s b) = true then (match copyL set (boxGet s a).Mails (boxGet s b) with | none => s | some t => putBox s t) else s) else s
def copyCode (s : Store) (a : List UInt8) (set : List Range) (b : List UInt8) : Int :=
  if (storeOk s && setOk set) = true then (if (boxHas s a && boxHas s b) = true then (match copyL set (boxGet s a).Mails (boxGet s b) with | none => 3 | some t => 0) else 1) else 4
theorem copyL_le {set : List Range} : ∀ {l : List Mail} {t u : Box}, copyL set l t = some u → t.le 4194304 → (∀ m ∈ l, m.Text.length ≤ 4194304) → u.le 4194304
  | [], t, u, h, ht, _ => by simp only [copyL, Option.some.injEq] at h; subst h; exact ht
  | x :: l, t, u, h, ht, hm => by
    simp only [copyL, Option.bind_eq_some_iff] at h
    obtain ⟨v, hv, h⟩ := h
    exact copyL_le h (copyStep_le hv ht (hm x (by simp))) fun m hm' => hm m (by simp [hm'])
theorem mails_txt {b : Box} (h : b.le 4194304) : ∀ m ∈ b.Mails, m.Text.length ≤ 4194304 := h.2.1.2
theorem copyMails_le {s : Store} {a b : List UInt8} {set : List Range} (hs : s.le 4194304) : (copyMails s a set b).le 4194304 := by
  unfold copyMails
  split
  · split
    · split
      · exact hs
      · rename_i t ht
        exact putBox_le hs (copyL_le ht (boxGet_le hs) (mails_txt (boxGet_le hs)))
    · exact hs
  · exact hs
open Classical in
noncomputable def spCopyMails : VM.Spec := { modes := [.rd, .rd, .rd, .rd], run := fun | [s', .str a, .lst 2 set', .str b] => (Store.dec s').bind fun s => (decL Range.dec set').bind fun set => if s.le 4194304 ∧ set.length ≤ 4194304 then some (.tup [Store.enc (copyMails s a set b), .int .i64 (copyCode s a set b)], []) else none | _ => none, need := [] }
attribute [go_sem] spCopyMails
theorem spCopyMails_in {ins : List V} {r : V} {outs : List V} (h : spCopyMails.run ins = some (r, outs)) : ∃ (s : Store) (a : (List UInt8)) (set : (List Range)) (b : (List UInt8)), ins = [Store.enc s, .str a, .lst 2 ((set).map Range.enc), .str b] ∧ (s.le 4194304 ∧ set.length ≤ 4194304) ∧ .tup [Store.enc (copyMails s a set b), .int .i64 (copyCode s a set b)] = r ∧ outs = [] := by
  unfold spCopyMails at h
  simp only at h
  split at h
  · rename_i s' a set' b
    simp only [Option.bind_eq_some_iff] at h
    obtain ⟨s, h_s, set, h_set, h⟩ := h
    split at h
    case isFalse => cases h
    rename_i hc
    simp only [Option.some.injEq, Prod.mk.injEq] at h
    obtain ⟨h1, h2⟩ := h
    have h_s := Store.dec_some h_s
    subst h_s
    have h_set := decL_some (fun _ _ h => Range.dec_some h) h_set
    subst h_set
    exact ⟨s, a, set, b, rfl, hc, h1, h2.symm⟩
  · cases h
def T_impl_CopyMails : Hints := ⟨lk [], lk [(8, [2, 4, 8, 12, 49, 50, 51])], lk [(0, [1, 2, 3, 4, 8]), (1, [1, 2, 3, 4, 8, 25]), (2, [8, 9]), (3, [2, 3, 4, 8, 10, 11]), (4, [2, 4, 8, 10, 11, 12, 13]), (5, [2, 4, 8, 10, 12, 45]), (6, [8, 9]), (7, [2, 4, 8, 12, 49, 50, 51]), (8, [2, 4, 8, 12, 49, 50, 51, 52]), (9, [2, 4, 8, 12, 15, 49, 50, 51]), (10, [2, 4, 8, 12, 15, 49, 50, 51, 59]), (11, [2, 4, 8, 12, 16, 17, 49, 50, 51]), (12, [2, 4, 8, 12, 16, 49, 50, 51, 70]), (13, [8, 9]), (14, [2, 4, 8, 12, 49, 50, 51]), (15, [2, 4, 8, 12, 49, 50, 51]), (16, [8, 9])], lk []⟩
noncomputable def Phi_impl_CopyMails : Tab := lk [(10, spStoreOk), (64, spSetOk), (25, spCopyStore), (9, spBoxAt), (70, spSetHas), (71, spAddMail), (31, spPutBox)]
attribute [go_sem] T_impl_CopyMails Phi_impl_CopyMails
theorem phi_impl_CopyMails : ∀ f sp, Phi_impl_CopyMails f = some sp → FnOk Tryz.prog f sp ∧ ∀ n ∈ sp.need, n ∈ ([] : List String) := phi_cons ok_impl_StoreOk (n0 rfl) (phi_cons ok_impl_SetOk (n0 rfl) (phi_cons ok_impl_copyStore (n0 rfl) (phi_cons ok_impl_BoxAt (n0 rfl) (phi_cons ok_impl_SetHas (n0 rfl) (phi_cons ok_impl_AddMail (n0 rfl) (phi_cons ok_impl_PutBox (n0 rfl) (phi_nil)))))))
theorem ok_impl_CopyMails : FnOk Tryz.prog 28 spCopyMails := by
  refine fn_ok (Φ := Phi_impl_CopyMails) (T := T_impl_CopyMails) phi_impl_CopyMails mixed Tryz.func28 rfl rfl rfl (by decide) ?_
  intro ins r outs hr hl
  clear hl
  have hs := spCopyMails_in hr
  clear hr
  obtain ⟨s, a, set, b, rfl, hc, hr, rfl⟩ := hs
  simp only [spCopyMails, Tryz.f28, Go.VM.initS]
  obtain ⟨hc, hset⟩ := hc
  have hset2 : set.length ≤ 8388608 := by omega
  cases k1 : storeOk s with
  | false =>
    simp only [hc, hset, k1, go_sem]
    repeat' ((first | apply qa | apply qb | apply qc | apply qd | apply qe | apply qf | apply qg | apply qh | apply qi | apply qj | apply qk) <;> intro hp <;> simp only [hp, hc, hset, k1, go_sem])
    simp only [fin_mk, finV, resL, resV1, resIn, endA, listIn, Option.some_or, Option.none_or, oneOrTup, go_sem]
    rw [← hr]
    simp only [copyMails, copyCode, k1, Bool.false_and, Bool.false_eq_true, if_false]; rfl
  | true =>
  cases k2 : setOk set with
  | false =>
    simp only [hc, hset, k1, k2, go_sem]
    repeat' ((first | apply qa | apply qb | apply qc | apply qd | apply qe | apply qf | apply qg | apply qh | apply qi | apply qj | apply qk) <;> intro hp <;> simp only [hp, hc, hset, k1, k2, go_sem])
    simp only [fin_mk, finV, resL, resV1, resIn, endA, listIn, Option.some_or, Option.none_or, oneOrTup, go_sem]
    rw [← hr]
    simp only [copyMails, copyCode, k1, k2, Bool.and_false, Bool.false_eq_true, if_false]; rfl
  | true =>
  cases k3 : boxHas s a with
  | false =>
    simp only [hc, hset, k1, k2, k3, go_sem]
    repeat' ((first | apply qa | apply qb | apply qc | apply qd | apply qe | apply qf | apply qg | apply qh | apply qi | apply qj | apply qk) <;> intro hp <;> simp only [hp, hc, hset, k1, k2, k3, go_sem])
    simp only [fin_mk, finV, resL, resV1, resIn, endA, listIn, Option.some_or, Option.none_or, oneOrTup, go_sem]
    rw [← hr]
    simp only [copyMails, copyCode, k1, k2, k3, Bool.and_true, Bool.false_and, if_true, Bool.false_eq_true, if_false]; rfl
  | true =>
  cases k4 : boxHas s b with
  | false =>
    simp only [hc, hset, k1, k2, k3, k4, go_sem]
    repeat' ((first | apply qa | apply qb | apply qc | apply qd | apply qe | apply qf | apply qg | apply qh | apply qi | apply qj | apply qk) <;> intro hp <;> simp only [hp, hc, hset, k1, k2, k3, k4, go_sem])
    simp only [fin_mk, finV, resL, resV1, resIn, endA, listIn, Option.some_or, Option.none_or, oneOrTup, go_sem]
    rw [← hr]
    simp only [copyMails, copyCode, k1, k2, k3, k4, Bool.and_true, Bool.and_false, if_true, Bool.false_eq_true, if_false]; rfl
  | true =>
  have hA : (boxGet s a).le 4194304 := boxGet_le hc
  have hB : (boxGet s b).le 4194304 := boxGet_le hc
  have hml : (boxGet s a).Mails.length ≤ 4194304 := hA.2.1.1
  have hm2 : copyMails s a set b = (match copyL set (boxGet s a).Mails (boxGet s b) with | none => s | some t => putBox s t) := by
    simp only [copyMails, k1, k2, k3, k4, Bool.and_true, if_true]
  have hm3 : copyCode s a set b = (match copyL set (boxGet s a).Mails (boxGet s b) with | none => 3 | some t => 0) := by
    simp only [copyCode, k1, k2, k3, k4, Bool.and_true, if_true]
  rw [hm2, hm3] at hr
  clear hm2 hm3
  simp only [hc, hset, k1, k2, k3, k4, go_sem]
  repeat' ((first | apply qa | apply qb | apply qc | apply qd | apply qe | apply qf | apply qg | apply qh | apply qi | apply qj | apply qk) <;> intro hp <;> simp only [hp, hc, hset, k1, k2, k3, k4, go_sem])
  generalize boxGet s a = A at *
  generalize boxGet s b = B at *
  refine loop_go (fun p : Nat × Box => [(51, .int .i64 (p.1 : Int))]) (fun p => [(2, ⟨.box, 7, [.agg [.str p.2.Name, .int .i64 p.2.Valid, .int .i64 p.2.Next, .int .i64 p.2.Mod, .own 4, .own 5, .int .i64 p.2.Horizon]]⟩), (4, ⟨.arr, 4, p.2.Mails.map Mail.enc⟩), (5, ⟨.arr, 2, p.2.Tombs.map Tomb.enc⟩)])
    (fun p => A.Mails.length - p.1) (fun p => p.1 ≤ A.Mails.length ∧ copyL set (A.Mails.take p.1) B = some p.2 ∧ p.2.le 4194304) (0, B) ⟨Nat.zero_le _, rfl, hB⟩ rfl rfl ?_
  rintro ⟨i, u⟩ ⟨hi, hu, hul⟩ ih
  simp only at hi hu hul ih
  rcases Nat.lt_or_ge i A.Mails.length with h | h
  · have g1 : (i : Int) < A.Mails.length := by omega
    have g2 : (0 : Int) ≤ i := by omega
    have g3 : A.Mails[i]? = some A.Mails[i] := List.getElem?_eq_getElem h
    have g5 := wrap_succ h (by omega)
    have gt := mails_txt hA _ (List.getElem_mem h)
    have hx : copyL set (A.Mails.take (i + 1)) B = copyStep set A.Mails[i] u := by rw [take_succ' h, copyL_snoc, hu]; rfl
    cases hq : hasR set A.Mails[i].Uid with
    | false =>
      have hs : copyStep set A.Mails[i] u = some u := by simp only [copyStep, hq, Bool.false_eq_true, if_false]
      have ih' := ih (i + 1, u) ⟨h, hx.trans hs, hul⟩ (by simp only; omega)
      simp only [g1, g2, g3, g5, gt, hq, hset2, hul, go_sem]
      repeat' ((first | apply qa | apply qb | apply qc | apply qd | apply qe | apply qf | apply qg | apply qh | apply qi | apply qj | apply qk) <;> intro hp <;> simp only [hp, g1, g2, g3, g5, gt, hq, hset2, hul, go_sem])
      exact ih'
    | true =>
      by_cases hz : addUid u A.Mails[i].Flags A.Mails[i].Text = 0
      · have hs : copyStep set A.Mails[i] u = none := by simp only [copyStep, hq, hz, if_true]
        have hn : copyL set A.Mails B = none := by
          rw [← List.take_append_drop (i + 1) A.Mails]
          exact copyL_none _ _ _ _ (hx.trans hs)
        simp only [g1, g2, g3, g5, gt, hq, hset2, hul, hz, and_self, hc, beq_self_eq_true, go_sem]
        repeat' ((first | apply qa | apply qb | apply qc | apply qd | apply qe | apply qf | apply qg | apply qh | apply qi | apply qj | apply qk) <;> intro hp <;> simp only [hp, g1, g2, g3, g5, gt, hq, hset2, hul, hz, and_self, hc, beq_self_eq_true, go_sem])
        simp only [fin_mk, finV, resL, resV1, resIn, endA, listIn, Option.some_or, Option.none_or, oneOrTup, go_sem]
        rw [← hr]
        rw [hn]; rfl
      · have hs : copyStep set A.Mails[i] u = some (addMail u A.Mails[i].Flags A.Mails[i].Text) := by simp only [copyStep, hq, hz, if_true, if_false]
        have hz' : (addUid u A.Mails[i].Flags A.Mails[i].Text == 0) = false := by rw [beq_eq_false_iff_ne]; exact hz
        have ih' := ih (i + 1, addMail u A.Mails[i].Flags A.Mails[i].Text) ⟨h, hx.trans hs, addMail_le hul gt⟩ (by simp only; omega)
        simp only [g1, g2, g3, g5, gt, hq, hset2, hul, hz', and_self, go_sem]
        repeat' ((first | apply qa | apply qb | apply qc | apply qd | apply qe | apply qf | apply qg | apply qh | apply qi | apply qj | apply qk) <;> intro hp <;> simp only [hp, g1, g2, g3, g5, gt, hq, hset2, hul, hz', and_self, go_sem])
        exact ih'
  · have g1 : ¬ (i : Int) < A.Mails.length := by omega
    rw [List.take_of_length_le h] at hu
    rw [hu] at hr
    simp only [g1, hc, hul, and_self, go_sem]
    repeat' ((first | apply qa | apply qb | apply qc | apply qd | apply qe | apply qf | apply qg | apply qh | apply qi | apply qj | apply qk) <;> intro hp <;> simp only [hp, g1, hc, hul, and_self, go_sem])
    simp only [fin_mk, finV, resL, resV1, resIn, endA, listIn, Option.some_or, Option.none_or, oneOrTup, go_sem]
    rw [← hr]
    rfl
def T_spec_CopyMails : Hints := ⟨lk [(12, [(0, 17), (1, 17), (2, 17), (4, 17), (5, 17), (6, 17), (7, 17), (8, 17), (10, 17), (11, 17), (12, 17), (13, 17)])], lk [(9, [2, 4, 8, 10, 11, 13, 15])], lk [(0, [1, 2, 3, 4, 8]), (1, [1, 2, 3, 4, 8, 10]), (2, [1, 2, 3, 4, 8, 10, 27]), (3, [8, 9]), (4, [2, 3, 4, 8, 10, 11, 12]), (5, [2, 4, 8, 10, 11, 12, 13, 14]), (6, [2, 4, 8, 10, 11, 13, 46]), (7, [8, 9]), (8, [2, 4, 8, 10, 11, 13, 15]), (9, [2, 4, 8, 10, 11, 13, 15, 52]), (11, [2, 4, 8, 10, 11, 13, 15, 63]), (12, [2, 4, 8, 10, 11, 13, 15, 16, 17]), (13, [2, 4, 8, 10, 11, 13, 15, 16, 82]), (14, [8, 9]), (15, [2, 4, 8, 10, 11, 13, 15]), (10, [2, 4, 8, 10, 11, 13, 15]), (16, [8, 9])], lk []⟩
noncomputable def Phi_spec_CopyMails : Tab := lk [(38, spStoreOk), (87, spSetOk), (40, spCopyStore), (42, spBoxAt), (92, spSetHas), (93, spAddMail), (94, spPutBox)]
attribute [go_sem] T_spec_CopyMails Phi_spec_CopyMails
theorem phi_spec_CopyMails : ∀ f sp, Phi_spec_CopyMails f = some sp → FnOk Tryz.prog f sp ∧ ∀ n ∈ sp.need, n ∈ ([] : List String) := phi_cons ok_spec_StoreOk (n0 rfl) (phi_cons ok_spec_SetOk (n0 rfl) (phi_cons ok_spec_l09Copy (n0 rfl) (phi_cons ok_spec_BoxAt (n0 rfl) (phi_cons ok_spec_SetHas (n0 rfl) (phi_cons ok_spec_AddMail (n0 rfl) (phi_cons ok_spec_PutBox (n0 rfl) (phi_nil)))))))
theorem ok_spec_CopyMails : FnOk Tryz.prog 44 spCopyMails := by
  refine fn_ok (Φ := Phi_spec_CopyMails) (T := T_spec_CopyMails) phi_spec_CopyMails mixed Tryz.func44 rfl rfl rfl (by decide) ?_
  intro ins r outs hr hl
  clear hl
  have hs := spCopyMails_in hr
  clear hr
  obtain ⟨s, a, set, b, rfl, hc, hr, rfl⟩ := hs
  simp only [spCopyMails, Tryz.f44, Go.VM.initS]
  obtain ⟨hc, hset⟩ := hc
  have hset2 : set.length ≤ 8388608 := by omega
  cases k1 : storeOk s with
  | false =>
    simp only [hc, hset, k1, go_sem]
    repeat' ((first | ((first | apply qa | apply qb | apply qc | apply qd | apply qe | apply qf | apply qg | apply qh | apply qi | apply qj | apply qk) <;> intro hp) | ((first | refine ql rfl rfl (by decide +kernel) ?_ | refine qm _ rfl rfl (by decide +kernel) ?_) <;> have hp := True.intro)) <;> simp only [hp, hc, hset, k1, go_sem])
    simp only [fin_mk, finV, resL, resV1, resIn, endA, listIn, Option.some_or, Option.none_or, oneOrTup, go_sem]
    rw [← hr]
    simp only [copyMails, copyCode, k1, Bool.false_and, Bool.false_eq_true, if_false]; rfl
  | true =>
  cases k2 : setOk set with
  | false =>
    simp only [hc, hset, k1, k2, go_sem]
    repeat' ((first | ((first | apply qa | apply qb | apply qc | apply qd | apply qe | apply qf | apply qg | apply qh | apply qi | apply qj | apply qk) <;> intro hp) | ((first | refine ql rfl rfl (by decide +kernel) ?_ | refine qm _ rfl rfl (by decide +kernel) ?_) <;> have hp := True.intro)) <;> simp only [hp, hc, hset, k1, k2, go_sem])
    simp only [fin_mk, finV, resL, resV1, resIn, endA, listIn, Option.some_or, Option.none_or, oneOrTup, go_sem]
    rw [← hr]
    simp only [copyMails, copyCode, k1, k2, Bool.and_false, Bool.false_eq_true, if_false]; rfl
  | true =>
  cases k3 : boxHas s a with
  | false =>
    simp only [hc, hset, k1, k2, k3, go_sem]
    repeat' ((first | ((first | apply qa | apply qb | apply qc | apply qd | apply qe | apply qf | apply qg | apply qh | apply qi | apply qj | apply qk) <;> intro hp) | ((first | refine ql rfl rfl (by decide +kernel) ?_ | refine qm _ rfl rfl (by decide +kernel) ?_) <;> have hp := True.intro)) <;> simp only [hp, hc, hset, k1, k2, k3, go_sem])
    simp only [fin_mk, finV, resL, resV1, resIn, endA, listIn, Option.some_or, Option.none_or, oneOrTup, go_sem]
    rw [← hr]
    simp only [copyMails, copyCode, k1, k2, k3, Bool.and_true, Bool.false_and, if_true, Bool.false_eq_true, if_false]; rfl
  | true =>
  cases k4 : boxHas s b with
  | false =>
    simp only [hc, hset, k1, k2, k3, k4, go_sem]
    repeat' ((first | ((first | apply qa | apply qb | apply qc | apply qd | apply qe | apply qf | apply qg | apply qh | apply qi | apply qj | apply qk) <;> intro hp) | ((first | refine ql rfl rfl (by decide +kernel) ?_ | refine qm _ rfl rfl (by decide +kernel) ?_) <;> have hp := True.intro)) <;> simp only [hp, hc, hset, k1, k2, k3, k4, go_sem])
    simp only [fin_mk, finV, resL, resV1, resIn, endA, listIn, Option.some_or, Option.none_or, oneOrTup, go_sem]
    rw [← hr]
    simp only [copyMails, copyCode, k1, k2, k3, k4, Bool.and_true, Bool.and_false, if_true, Bool.false_eq_true, if_false]; rfl
  | true =>
  have hA : (boxGet s a).le 4194304 := boxGet_le hc
  have hB : (boxGet s b).le 4194304 := boxGet_le hc
  have hml : (boxGet s a).Mails.length ≤ 4194304 := hA.2.1.1
  have hm2 : copyMails s a set b = (match copyL set (boxGet s a).Mails (boxGet s b) with | none => s | some t => putBox s t) := by
    simp only [copyMails, k1, k2, k3, k4, Bool.and_true, if_true]
  have hm3 : copyCode s a set b = (match copyL set (boxGet s a).Mails (boxGet s b) with | none => 3 | some t => 0) := by
    simp only [copyCode, k1, k2, k3, k4, Bool.and_true, if_true]
  rw [hm2, hm3] at hr
  clear hm2 hm3
  simp only [hc, hset, k1, k2, k3, k4, go_sem]
  repeat' ((first | ((first | apply qa | apply qb | apply qc | apply qd | apply qe | apply qf | apply qg | apply qh | apply qi | apply qj | apply qk) <;> intro hp) | ((first | refine ql rfl rfl (by decide +kernel) ?_ | refine qm _ rfl rfl (by decide +kernel) ?_) <;> have hp := True.intro)) <;> simp only [hp, hc, hset, k1, k2, k3, k4, go_sem])
  generalize boxGet s a = A at *
  generalize boxGet s b = B at *
  refine loop_go (fun p : Nat × Box => [(15, .int .i64 (p.1 : Int))]) (fun p => [(4, ⟨.box, 7, [.agg [.str p.2.Name, .int .i64 p.2.Valid, .int .i64 p.2.Next, .int .i64 p.2.Mod, .own 8, .own 9, .int .i64 p.2.Horizon]]⟩), (8, ⟨.arr, 4, p.2.Mails.map Mail.enc⟩), (9, ⟨.arr, 2, p.2.Tombs.map Tomb.enc⟩)])
    (fun p => A.Mails.length - p.1) (fun p => p.1 ≤ A.Mails.length ∧ copyL set (A.Mails.take p.1) B = some p.2 ∧ p.2.le 4194304) (0, B) ⟨Nat.zero_le _, rfl, hB⟩ rfl rfl ?_
  rintro ⟨i, u⟩ ⟨hi, hu, hul⟩ ih
  simp only at hi hu hul ih
  rcases Nat.lt_or_ge i A.Mails.length with h | h
  · have g1 : (i : Int) < A.Mails.length := by omega
    have g2 : (0 : Int) ≤ i := by omega
    have g3 : A.Mails[i]? = some A.Mails[i] := List.getElem?_eq_getElem h
    have g5 := wrap_succ h (by omega)
    have gt := mails_txt hA _ (List.getElem_mem h)
    have hx : copyL set (A.Mails.take (i + 1)) B = copyStep set A.Mails[i] u := by rw [take_succ' h, copyL_snoc, hu]; rfl
    cases hq : hasR set A.Mails[i].Uid with
    | false =>
      have hs : copyStep set A.Mails[i] u = some u := by simp only [copyStep, hq, Bool.false_eq_true, if_false]
      have ih' := ih (i + 1, u) ⟨h, hx.trans hs, hul⟩ (by simp only; omega)
      simp only [g1, g2, g3, g5, gt, hq, hset2, hul, go_sem]
      repeat' ((first | ((first | apply qa | apply qb | apply qc | apply qd | apply qe | apply qf | apply qg | apply qh | apply qi | apply qj | apply qk) <;> intro hp) | ((first | refine ql rfl rfl (by decide +kernel) ?_ | refine qm _ rfl rfl (by decide +kernel) ?_) <;> have hp := True.intro)) <;> simp only [hp, g1, g2, g3, g5, gt, hq, hset2, hul, go_sem])
      exact ih'
    | true =>
      by_cases hz : addUid u A.Mails[i].Flags A.Mails[i].Text = 0
      · have hs : copyStep set A.Mails[i] u = none := by simp only [copyStep, hq, hz, if_true]
        have hn : copyL set A.Mails B = none := by
          rw [← List.take_append_drop (i + 1) A.Mails]
          exact copyL_none _ _ _ _ (hx.trans hs)
        simp only [g1, g2, g3, g5, gt, hq, hset2, hul, hz, and_self, hc, beq_self_eq_true, go_sem]
        repeat' ((first | ((first | apply qa | apply qb | apply qc | apply qd | apply qe | apply qf | apply qg | apply qh | apply qi | apply qj | apply qk) <;> intro hp) | ((first | refine ql rfl rfl (by decide +kernel) ?_ | refine qm _ rfl rfl (by decide +kernel) ?_) <;> have hp := True.intro)) <;> simp only [hp, g1, g2, g3, g5, gt, hq, hset2, hul, hz, and_self, hc, beq_self_eq_true, go_sem])
        simp only [fin_mk, finV, resL, resV1, resIn, endA, listIn, Option.some_or, Option.none_or, oneOrTup, go_sem]
        rw [← hr]
        rw [hn]; rfl
      · have hs : copyStep set A.Mails[i] u = some (addMail u A.Mails[i].Flags A.Mails[i].Text) := by simp only [copyStep, hq, hz, if_true, if_false]
        have hz' : (addUid u A.Mails[i].Flags A.Mails[i].Text == 0) = false := by rw [beq_eq_false_iff_ne]; exact hz
        have ih' := ih (i + 1, addMail u A.Mails[i].Flags A.Mails[i].Text) ⟨h, hx.trans hs, addMail_le hul gt⟩ (by simp only; omega)
        simp only [g1, g2, g3, g5, gt, hq, hset2, hul, hz', and_self, go_sem]
        repeat' ((first | ((first | apply qa | apply qb | apply qc | apply qd | apply qe | apply qf | apply qg | apply qh | apply qi | apply qj | apply qk) <;> intro hp) | ((first | refine ql rfl rfl (by decide +kernel) ?_ | refine qm _ rfl rfl (by decide +kernel) ?_) <;> have hp := True.intro)) <;> simp only [hp, g1, g2, g3, g5, gt, hq, hset2, hul, hz', and_self, go_sem])
        exact ih'
  · have g1 : ¬ (i : Int) < A.Mails.length := by omega
    rw [List.take_of_length_le h] at hu
    rw [hu] at hr
    simp only [g1, hc, hul, and_self, go_sem]
    repeat' ((first | ((first | apply qa | apply qb | apply qc | apply qd | apply qe | apply qf | apply qg | apply qh | apply qi | apply qj | apply qk) <;> intro hp) | ((first | refine ql rfl rfl (by decide +kernel) ?_ | refine qm _ rfl rfl (by decide +kernel) ?_) <;> have hp := True.intro)) <;> simp only [hp, g1, hc, hul, and_self, go_sem])
    simp only [fin_mk, finV, resL, resV1, resIn, endA, listIn, Option.some_or, Option.none_or, oneOrTup, go_sem]
    rw [← hr]
    rfl
end Go.Proofs.YtjkhhplhjbmhjaaGreat.L

namespace Go.Proofs.YtjkhhplhjbmhjaaGreat.L
open Go Go.VM
set_option maxRecDepth 100000
set_option maxHeartbeats 4000000
set_option linter.unusedSimpArgs false
set_option linter.unusedVariables false
theorem idxL_at {α : Type} {p : α → Bool} : ∀ {l : List α} {i : Nat}, idxL p l = i → (∀ x ∈ l.take i, p x = false) ∧ ∀ {h : i < l.length}, p l[i] = true
  | [], i, h => by simp [idxL] at h
  | x :: l, i, h => by
    simp only [idxL] at h
    split at h
    · rename_i hx
      have : i = 0 := by omega
      subst this
      exact ⟨by simp, fun {h} => by simpa using hx⟩
    · rename_i hx
      split at h
      · omega
      · have hge := idxL_ge p l
        obtain ⟨k, hk⟩ : ∃ k : Nat, idxL p l = k := ⟨(idxL p l).toNat, by omega⟩
        have : i = k + 1 := by omega
        subst this
        obtain ⟨h1, h2⟩ := idxL_at hk
        refine ⟨?_, fun {h} => by simpa using h2 (h := by simpa using h)⟩
        intro y hy
        rw [List.take_succ_cons] at hy
        rcases List.mem_cons.1 hy with rfl | hy
        · simpa using hx
        · exact h1 y hy
open Classical in
noncomputable def spForgotten : VM.Spec := { modes := [.rd, .rd], run := fun | [t', .rptr (.int .i64 u)] => (Tomb.dec t').bind fun t => some (.bool (decide (t.Mod ≤ u)), []) | _ => none, need := [] }
attribute [go_sem] spForgotten
theorem spForgotten_in {ins : List V} {r : V} {outs : List V} (h : spForgotten.run ins = some (r, outs)) : ∃ (t : Tomb) (u : Int), ins = [Tomb.enc t, .rptr (.int .i64 u)] ∧ .bool (decide (t.Mod ≤ u)) = r ∧ outs = [] := by
  unfold spForgotten at h
  simp only at h
  split at h
  · rename_i t' u
    simp only [Option.bind_eq_some_iff] at h
    obtain ⟨t, h_t, h⟩ := h
    simp only [Option.some.injEq, Prod.mk.injEq] at h
    obtain ⟨h1, h2⟩ := h
    have h_t := Tomb.dec_some h_t
    subst h_t
    exact ⟨t, u, rfl, h1, h2.symm⟩
  · cases h
def T_impl_ForgetTombs_1 : Hints := ⟨lk [], lk [], lk [(0, [1, 2]), (1, [3])], lk []⟩
noncomputable def Phi_impl_ForgetTombs_1 : Tab := lk []
attribute [go_sem] T_impl_ForgetTombs_1 Phi_impl_ForgetTombs_1
theorem phi_impl_ForgetTombs_1 : ∀ f sp, Phi_impl_ForgetTombs_1 f = some sp → FnOk Tryz.prog f sp ∧ ∀ n ∈ sp.need, n ∈ ([] : List String) := phi_nil
theorem ok_impl_ForgetTombs_1 : FnOk Tryz.prog 121 spForgotten := by
  refine fn_ok (Φ := Phi_impl_ForgetTombs_1) (T := T_impl_ForgetTombs_1) phi_impl_ForgetTombs_1 mixed Tryz.func121 rfl rfl rfl (by decide) ?_
  intro ins r outs hr hl
  clear hl
  have hs := spForgotten_in hr
  clear hr
  obtain ⟨t, u, rfl, hr, rfl⟩ := hs
  simp only [spForgotten, Tryz.f121, Go.VM.initS]
  simp only [go_sem]
  simp only [fin_mk, finV, resL, resV1, resIn, endA, listIn, Option.some_or, Option.none_or, oneOrTup, go_sem]
  rw [← hr]
open Classical in
noncomputable def spIdxForgotten : VM.Spec := { modes := [.rd, .rd], run := fun | [.lst 2 l', .fn 121 [.rptr (.int .i64 u)]] => (decL Tomb.dec l').bind fun l => if l.length ≤ 4194304 then some (.int .i64 (idxL (fun x => decide (x.Mod ≤ u)) l), []) else none | _ => none, need := [] }
attribute [go_sem] spIdxForgotten
theorem spIdxForgotten_in {ins : List V} {r : V} {outs : List V} (h : spIdxForgotten.run ins = some (r, outs)) : ∃ (l : (List Tomb)) (u : Int), ins = [.lst 2 ((l).map Tomb.enc), .fn 121 [.rptr (.int .i64 u)]] ∧ (l.length ≤ 4194304) ∧ .int .i64 (idxL (fun x => decide (x.Mod ≤ u)) l) = r ∧ outs = [] := by
  unfold spIdxForgotten at h
  simp only at h
  split at h
  · rename_i l' u
    simp only [Option.bind_eq_some_iff] at h
    obtain ⟨l, h_l, h⟩ := h
    split at h
    case isFalse => cases h
    rename_i hc
    simp only [Option.some.injEq, Prod.mk.injEq] at h
    obtain ⟨h1, h2⟩ := h
    have h_l := decL_some (fun _ _ h => Tomb.dec_some h) h_l
    subst h_l
    exact ⟨l, u, rfl, hc, h1, h2.symm⟩
  · cases h
def T_slices_IndexFunc_loop_example_g00247_impl_Tomb_loop_example_g00247_impl_Tomb_forget : Hints := ⟨lk [], lk [(2, [0, 1, 7, 8])], lk [(0, [0, 1]), (1, [0, 1, 7, 8]), (2, [0, 1, 7, 8, 9]), (3, [0, 1, 5, 7, 8]), (4, [0, 1, 5, 7, 8, 16]), (5, [4]), (6, [0, 1, 7, 8]), (7, [4])], lk []⟩
noncomputable def Phi_slices_IndexFunc_loop_example_g00247_impl_Tomb_loop_example_g00247_impl_Tomb_forget : Tab := lk [(121, spForgotten)]
attribute [go_sem] T_slices_IndexFunc_loop_example_g00247_impl_Tomb_loop_example_g00247_impl_Tomb_forget Phi_slices_IndexFunc_loop_example_g00247_impl_Tomb_loop_example_g00247_impl_Tomb_forget
theorem phi_slices_IndexFunc_loop_example_g00247_impl_Tomb_loop_example_g00247_impl_Tomb_forget : ∀ f sp, Phi_slices_IndexFunc_loop_example_g00247_impl_Tomb_loop_example_g00247_impl_Tomb_forget f = some sp → FnOk Tryz.prog f sp ∧ ∀ n ∈ sp.need, n ∈ ([] : List String) := phi_cons ok_impl_ForgetTombs_1 (n0 rfl) (phi_nil)
theorem ok_slices_IndexFunc_loop_example_g00247_impl_Tomb_loop_example_g00247_impl_Tomb_forget : FnOk Tryz.prog 137 spIdxForgotten := by
  refine fn_ok (Φ := Phi_slices_IndexFunc_loop_example_g00247_impl_Tomb_loop_example_g00247_impl_Tomb_forget) (T := T_slices_IndexFunc_loop_example_g00247_impl_Tomb_loop_example_g00247_impl_Tomb_forget) phi_slices_IndexFunc_loop_example_g00247_impl_Tomb_loop_example_g00247_impl_Tomb_forget mixed Tryz.func137 rfl rfl rfl (by decide) ?_
  intro ins r outs hr hl
  clear hl
  have hs := spIdxForgotten_in hr
  clear hr
  obtain ⟨l, u, rfl, hc, hr, rfl⟩ := hs
  simp only [spIdxForgotten, Tryz.f137, Go.VM.initS]
  simp only [go_sem]
  refine loop_go (fun i : Nat => [(8, .int .i64 (i : Int))]) (fun _ => []) (fun i => l.length - i) (fun i => i ≤ l.length ∧ ∀ j (hj : j < i) (hl : j < l.length), (fun x => decide (x.Mod ≤ u)) l[j] = false) 0 ⟨Nat.zero_le _, fun j hj => absurd hj (by omega)⟩ rfl rfl ?_
  intro i ⟨hi, ha⟩ ih
  rcases Nat.lt_or_ge i l.length with h | h
  · have g1 : (i : Int) < l.length := by omega
    have g2 : (0 : Int) ≤ i := by omega
    have g3 : l[i]? = some l[i] := List.getElem?_eq_getElem h
    have g5 := wrap_succ h (by omega)
    cases hb : (fun x => decide (x.Mod ≤ u)) l[i] with
    | true =>
      simp only [g1, g2, g3, g5, hb, go_sem]
      repeat' ((first | apply qa | apply qb | apply qc | apply qd | apply qe | apply qf | apply qg | apply qh | apply qi | apply qj | apply qk) <;> intro hp <;> simp only [hp, g1, g2, g3, g5, hb, go_sem])
      simp only [fin_mk, finV, resL, resV1, resIn, endA, listIn, Option.some_or, Option.none_or, oneOrTup, go_sem]
      rw [← hr]
      rw [idxL_hit h (fun j hj => ha j hj (by omega)) hb]
    | false =>
      simp only [g1, g2, g3, g5, hb, go_sem]
      repeat' ((first | apply qa | apply qb | apply qc | apply qd | apply qe | apply qf | apply qg | apply qh | apply qi | apply qj | apply qk) <;> intro hp <;> simp only [hp, g1, g2, g3, g5, hb, go_sem])
      refine ih (i + 1) ⟨h, fun j hj hl => ?_⟩ (by omega)
      rcases Nat.lt_or_ge j i with h1 | h1
      · exact ha j h1 hl
      · have : j = i := by omega
        subst this; exact hb
  · have g1 : ¬ (i : Int) < l.length := by omega
    simp only [g1, go_sem]
    simp only [fin_mk, finV, resL, resV1, resIn, endA, listIn, Option.some_or, Option.none_or, oneOrTup, go_sem]
    rw [← hr]
    rw [idxL_miss fun j hj => ha j (by omega) hj]
open Classical in
noncomputable def spDelForgotten : VM.Spec := { modes := [.use, .rd], run := fun | [.lst 2 l', .fn 121 [.rptr (.int .i64 u)]] => (decL Tomb.dec l').bind fun l => if l.length ≤ 4194304 then some (.lst 2 ((l.filter (fun x => !decide (x.Mod ≤ u))).map Tomb.enc), []) else none | _ => none, need := [] }
attribute [go_sem] spDelForgotten
theorem spDelForgotten_in {ins : List V} {r : V} {outs : List V} (h : spDelForgotten.run ins = some (r, outs)) : ∃ (l : (List Tomb)) (u : Int), ins = [.lst 2 ((l).map Tomb.enc), .fn 121 [.rptr (.int .i64 u)]] ∧ (l.length ≤ 4194304) ∧ .lst 2 ((l.filter (fun x => !decide (x.Mod ≤ u))).map Tomb.enc) = r ∧ outs = [] := by
  unfold spDelForgotten at h
  simp only at h
  split at h
  · rename_i l' u
    simp only [Option.bind_eq_some_iff] at h
    obtain ⟨l, h_l, h⟩ := h
    split at h
    case isFalse => cases h
    rename_i hc
    simp only [Option.some.injEq, Prod.mk.injEq] at h
    obtain ⟨h1, h2⟩ := h
    have h_l := decL_some (fun _ _ h => Tomb.dec_some h) h_l
    subst h_l
    exact ⟨l, u, rfl, hc, h1, h2.symm⟩
  · cases h
def T_slices_DeleteFunc_loop_example_g00247_impl_Tomb_loop_example_g00247_impl_Tomb_forget : Hints := ⟨lk [], lk [(5, [0, 1, 5, 6])], lk [(0, [0, 1]), (1, [0, 1, 5]), (2, [0, 1, 5, 12]), (3, [4]), (4, [0, 1, 5, 6]), (5, [0, 1, 5, 6, 19]), (7, [0, 1, 5, 6, 7]), (8, [0, 1, 5, 6, 7, 29]), (9, [0, 1, 5, 6]), (10, [0, 1, 5, 6]), (6, [0, 1, 5, 6]), (11, [0, 5]), (12, [4])], lk []⟩
noncomputable def Phi_slices_DeleteFunc_loop_example_g00247_impl_Tomb_loop_example_g00247_impl_Tomb_forget : Tab := lk [(137, spIdxForgotten), (121, spForgotten)]
attribute [go_sem] T_slices_DeleteFunc_loop_example_g00247_impl_Tomb_loop_example_g00247_impl_Tomb_forget Phi_slices_DeleteFunc_loop_example_g00247_impl_Tomb_loop_example_g00247_impl_Tomb_forget
theorem phi_slices_DeleteFunc_loop_example_g00247_impl_Tomb_loop_example_g00247_impl_Tomb_forget : ∀ f sp, Phi_slices_DeleteFunc_loop_example_g00247_impl_Tomb_loop_example_g00247_impl_Tomb_forget f = some sp → FnOk Tryz.prog f sp ∧ ∀ n ∈ sp.need, n ∈ ([] : List String) := phi_cons ok_slices_IndexFunc_loop_example_g00247_impl_Tomb_loop_example_g00247_impl_Tomb_forget (n0 rfl) (phi_cons ok_impl_ForgetTombs_1 (n0 rfl) (phi_nil))
theorem ok_slices_DeleteFunc_loop_example_g00247_impl_Tomb_loop_example_g00247_impl_Tomb_forget : FnOk Tryz.prog 118 spDelForgotten := by
  refine fn_ok (Φ := Phi_slices_DeleteFunc_loop_example_g00247_impl_Tomb_loop_example_g00247_impl_Tomb_forget) (T := T_slices_DeleteFunc_loop_example_g00247_impl_Tomb_loop_example_g00247_impl_Tomb_forget) phi_slices_DeleteFunc_loop_example_g00247_impl_Tomb_loop_example_g00247_impl_Tomb_forget mixed Tryz.func118 rfl rfl rfl (by decide) ?_
  intro ins r outs hr hl
  clear hl
  have hs := spDelForgotten_in hr
  clear hr
  obtain ⟨l, u, rfl, hc, hr, rfl⟩ := hs
  simp only [spDelForgotten, Tryz.f118, Go.VM.initS]
  have hge := idxL_ge (fun x => decide (x.Mod ≤ u)) l
  by_cases h0 : idxL (fun x => decide (x.Mod ≤ u)) l = -1
  · have e0 : (idxL (fun x => decide (x.Mod ≤ u)) l == -1) = true := by rw [h0]; rfl
    simp only [hc, e0, go_sem]
    repeat' ((first | apply qa | apply qb | apply qc | apply qd | apply qe | apply qf | apply qg | apply qh | apply qi | apply qj | apply qk) <;> intro hp <;> simp only [hp, hc, e0, go_sem])
    simp only [fin_mk, finV, resL, resV1, resIn, endA, listIn, Option.some_or, Option.none_or, oneOrTup, go_sem]
    rw [← hr]
    rw [List.filter_eq_self.2 fun x hx => ?_]
    have := idxL_any (fun x => decide (x.Mod ≤ u)) l
    rw [h0] at this
    have h1 : l.any (fun x => decide (x.Mod ≤ u)) = false := by rw [← this]; rfl
    have h2 := (List.any_eq_false.1 h1) x hx
    simpa using h2
  have e0 : (idxL (fun x => decide (x.Mod ≤ u)) l == -1) = false := by rw [beq_eq_false_iff_ne]; exact h0
  obtain ⟨i0, hi0⟩ : ∃ i0 : Nat, idxL (fun x => decide (x.Mod ≤ u)) l = i0 := ⟨(idxL (fun x => decide (x.Mod ≤ u)) l).toNat, by omega⟩
  have hlt : i0 < l.length := by omega
  have w1 : IntKind.i64.wrap ((i0 : Int) + 1) = ((i0 + 1 : Nat) : Int) := wrap_succ hlt (by omega)
  rw [hi0] at e0
  simp only [hc, hi0, e0, w1, go_sem]
  repeat' ((first | apply qa | apply qb | apply qc | apply qd | apply qe | apply qf | apply qg | apply qh | apply qi | apply qj | apply qk) <;> intro hp <;> simp only [hp, hc, hi0, e0, w1, go_sem])
  obtain ⟨hpre, hat⟩ := idxL_at hi0
  have hk0 : (l.take (i0 + 1)).filter (fun x => !decide (x.Mod ≤ u)) = l.take i0 := by
    rw [take_succ' hlt, List.filter_append, List.filter_eq_self.2 fun x hx => ?_]
    · have : (fun x : Tomb => !decide (x.Mod ≤ u)) l[i0] = false := by simpa using hat
      simp only at this
      rw [List.filter_cons, this]; simp
    · have := hpre x hx
      simpa using this
  refine loop_go (fun p : Nat × List Tomb => [(5, .int .i64 (((l.take p.1).filter (fun x => !decide (x.Mod ≤ u))).length : Int)), (6, .int .i64 (p.1 : Int))]) (fun p => [(0, ⟨.arr, 2, p.2.map Tomb.enc⟩)]) (fun p => l.length - p.1)
    (fun p => p.1 ≤ l.length ∧ i0 < p.1 ∧ p.2.length = l.length ∧ p.2.take ((l.take p.1).filter (fun x => !decide (x.Mod ≤ u))).length = (l.take p.1).filter (fun x => !decide (x.Mod ≤ u)) ∧ p.2.drop p.1 = l.drop p.1) (i0 + 1, l) ⟨hlt, by simp, rfl, by simp only [hk0, List.length_take]; rw [Nat.min_eq_left (by omega)], rfl⟩ ?_ rfl ?_
  · simp only [hk0, List.length_take, Nat.min_eq_left (Nat.le_of_lt hlt)]; rfl
  rintro ⟨j, gl⟩ ⟨hj, hij, hgl, htk, hdr⟩ ih
  simp only at hj hij hgl htk hdr ih
  have hkl : ((l.take j).filter (fun x => !decide (x.Mod ≤ u))).length < j := by
    have h1 : (l.take j).filter (fun x => !decide (x.Mod ≤ u)) = (l.take i0).filter (fun x => !decide (x.Mod ≤ u)) ++ ((l.take j).drop i0).filter (fun x => !decide (x.Mod ≤ u)) := by
      rw [← List.filter_append]
      congr 1
      have := List.take_append_drop i0 (l.take j)
      rw [List.take_take, Nat.min_eq_left (by omega)] at this
      exact this.symm
    have h2 : (l.take j).drop i0 = l[i0] :: (l.take j).drop (i0 + 1) := by
      rw [List.drop_eq_getElem_cons (by rw [List.length_take]; omega), List.getElem_take]
    rw [h1, h2]
    have h3 : (fun x : Tomb => !decide (x.Mod ≤ u)) l[i0] = false := by simpa using hat
    simp only at h3
    rw [List.filter_cons, h3]
    simp only [Bool.false_eq_true, if_false, List.length_append]
    have h4 := List.length_filter_le (fun x : Tomb => !decide (x.Mod ≤ u)) (l.take i0)
    have h5 := List.length_filter_le (fun x : Tomb => !decide (x.Mod ≤ u)) ((l.take j).drop (i0 + 1))
    rw [List.length_take] at h4
    rw [List.length_drop, List.length_take] at h5
    omega
  generalize hK : ((l.take j).filter (fun x => !decide (x.Mod ≤ u))) = K at *
  rcases Nat.lt_or_ge j l.length with h | h
  · have g1 : (j : Int) < l.length := by omega
    have g2 : (0 : Int) ≤ j := by omega
    have gj : gl[j]? = some l[j] := by
      have := congrArg (fun x => x[0]?) hdr
      simp only [List.getElem?_drop, Nat.add_zero] at this
      rw [this]; exact List.getElem?_eq_getElem h
    have g5 := wrap_succ h (by omega)
    have g6 : (K.length : Int) < l.length := by omega
    have g7 : (0 : Int) ≤ K.length := by omega
    have g8 := wrap_succ (show K.length < l.length by omega) (by omega)
    have g9 : gl[K.length]? = some (gl[K.length]'(by omega)) := List.getElem?_eq_getElem (by omega)
    cases hp : (fun x : Tomb => decide (x.Mod ≤ u)) l[j] with
    | true =>
      have hf : (l.take (j + 1)).filter (fun x => !decide (x.Mod ≤ u)) = K := by
        rw [filter_succ h, hK, if_neg (by simpa using hp), List.append_nil]
      have ih' := ih (j + 1, gl) ⟨h, by simp only; omega, hgl, by simp only [hf]; exact htk, by simp only; rw [← List.drop_drop, hdr, List.drop_drop]⟩ (by simp only; omega)
      simp only [hf] at ih'
      simp only [g1, g2, gj, g5, hgl, hp, go_sem]
      repeat' ((first | apply qa | apply qb | apply qc | apply qd | apply qe | apply qf | apply qg | apply qh | apply qi | apply qj | apply qk) <;> intro hp <;> simp only [hp, g1, g2, gj, g5, hgl, hp, go_sem])
      exact ih'
    | false =>
      have hf : (l.take (j + 1)).filter (fun x => !decide (x.Mod ≤ u)) = K ++ [l[j]] := by
        rw [filter_succ h, hK, if_pos (by simpa using hp)]
      have ih' := ih (j + 1, gl.set K.length l[j]) ⟨h, by simp only; omega, by simpa using hgl,
        by simp only [hf, List.length_append, List.length_singleton]; rw [List.take_add_one, List.getElem?_set_self (by omega), List.take_set_of_le (Nat.le_refl _), htk]; rfl,
        by simp only; rw [List.drop_set_of_lt (by omega), ← List.drop_drop, hdr, List.drop_drop]⟩ (by simp only; omega)
      simp only [hf, List.length_append, List.length_singleton, List.map_set] at ih'
      simp only [g1, g2, gj, g5, g6, g7, g8, g9, hgl, hp, Nat.zero_lt_succ, go_sem]
      repeat' ((first | apply qa | apply qb | apply qc | apply qd | apply qe | apply qf | apply qg | apply qh | apply qi | apply qj | apply qk) <;> intro hp <;> simp only [hp, g1, g2, gj, g5, g6, g7, g8, g9, hgl, hp, Nat.zero_lt_succ, go_sem])
      exact ih'
  · have g1 : ¬ (j : Int) < l.length := by omega
    have hend : K = l.filter (fun x => !decide (x.Mod ≤ u)) := by rw [← hK, List.take_of_length_le h]
    have g6 : K.length < l.length := by omega
    have g6' : K.length ≤ l.length := by omega
    have g7 : (0 : Int) ≤ K.length := by omega
    have g8 : K.length + (l.length - K.length) ≤ l.length := by omega
    have g9 : (layV (gl.map Tomb.enc) K.length (l.length - K.length) (.agg [.int .i64 0, .int .i64 0])).length = l.length := by rw [layV_len (by rw [List.length_map]; omega), List.length_map, hgl]
    have ge : (layV (gl.map Tomb.enc) K.length (l.length - K.length) (.agg [.int .i64 0, .int .i64 0])).take K.length = K.map Tomb.enc := by
      rw [layV, List.append_assoc, List.take_append_of_le_length (by simp; omega), List.take_take, Nat.min_self, take_map, htk]
    have g10 : 0 < l.length := by omega
    simp only [g1, hgl, g6, g6', g7, g8, g9, g10, Nat.sub_zero, Nat.zero_le, Nat.le_refl, go_sem]
    repeat' ((first | apply qa | apply qb | apply qc | apply qd | apply qe | apply qf | apply qg | apply qh | apply qi | apply qj | apply qk) <;> intro hp <;> simp only [hp, g1, hgl, g6, g6', g7, g8, g9, g10, Nat.sub_zero, Nat.zero_le, Nat.le_refl, go_sem])
    simp only [fin_mk, finV, resL, resV1, resIn, endA, listIn, Option.some_or, Option.none_or, oneOrTup, go_sem]
    rw [← hr, ← hend, ge, if_pos ⟨by rw [g9]; omega, by first | (rw [g9]; exact g10) | exact Or.inr trivial⟩]; rfl
end Go.Proofs.YtjkhhplhjbmhjaaGreat.L

