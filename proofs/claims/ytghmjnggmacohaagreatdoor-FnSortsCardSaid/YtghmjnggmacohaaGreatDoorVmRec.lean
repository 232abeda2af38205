import Derived.Test.YtghmjnggmacohaaGreatDoorVmData2
import Derived.Test.YtghmjnggmacohaaGreatDoorVmLoop
/- Sizes, marks and looks at marks: on lists, of whatever element. No condition. -/
set_option linter.unusedVariables false
set_option linter.unusedSimpArgs false
namespace Go.VM
open Go
/-! ### how great a thing is -/
def leL {α : Type} (p : Nat → α → Prop) (b : Nat) (l : List α) : Prop := l.length ≤ b ∧ ∀ y ∈ l, p b y
def leI (b : Nat) (x : Int) : Prop := True
def leS (b : Nat) (x : List UInt8) : Prop := x.length ≤ b
theorem leL.mono {α : Type} {p : Nat → α → Prop} (hp : ∀ x b c, b ≤ c → p b x → p c x) {b c : Nat} {l : List α} (h : b ≤ c) (hl : leL p b l) : leL p c l :=
  ⟨by have := hl.1; omega, fun y hy => hp y b c h (hl.2 y hy)⟩
theorem leI.mono (x : Int) (b c : Nat) (h : b ≤ c) (hx : leI b x) : leI c x := hx
theorem leS.mono (x : List UInt8) (b c : Nat) (h : b ≤ c) (hx : leS b x) : leS c x := by unfold leS at *; omega
theorem leL_flat {α : Type} {p : Nat → α → Prop} (hp : ∀ b x, p b x) {b : Nat} {l : List α} (h : l.length ≤ b) : leL p b l := ⟨h, fun y _ => hp b y⟩
def subSz (n : Int) (k : Nat) : Int := if n - k < 0 then -1 else n - k
def thenSz (m : Int) (f : Int → Int) : Int := if m < 0 then -1 else f m
def szL {α : Type} (f : α → Int → Int) : List α → Int → Int
  | [], n => n
  | x :: l, n => thenSz (f x n) (szL f l)
def szLL {α : Type} (f : α → Int → Int) (l : List α) (n : Int) : Int := thenSz (subSz n l.length) (szL f l)
def szF {α : Type} (l : List α) (n : Int) : Int := subSz n l.length
/-- What a size that is left says. -/
def SzOk {α : Type} (p : Nat → α → Prop) (f : α → Int → Int) : Prop := ∀ (x : α) (n : Int) (b : Nat), 0 ≤ n → n ≤ b → (f x n = -1 ∨ (0 ≤ f x n ∧ f x n ≤ n ∧ p b x))
theorem szL_ok {α : Type} {p : Nat → α → Prop} {f : α → Int → Int} (h : SzOk p f) : ∀ (l : List α) (n : Int) (b : Nat), 0 ≤ n → n ≤ b → (szL f l n = -1 ∨ (0 ≤ szL f l n ∧ szL f l n ≤ n ∧ ∀ y ∈ l, p b y))
  | [], n, b, h0, h1 => .inr ⟨h0, Int.le_refl _, fun y hy => by simp at hy⟩
  | x :: l, n, b, h0, h1 => by
    rcases h x n b h0 h1 with e | ⟨e1, e2, e3⟩
    · left; simp [szL, thenSz, e]
    · have e4 : ¬ f x n < 0 := by omega
      rcases szL_ok h l (f x n) b e1 (by omega) with k | ⟨k1, k2, k3⟩
      · left; simp [szL, thenSz, e4, k]
      · right
        simp only [szL, thenSz, e4, if_false]
        refine ⟨k1, by omega, fun y hy => ?_⟩
        rcases List.mem_cons.1 hy with rfl | hy
        · exact e3
        · exact k3 y hy
theorem subSz_ok (n : Int) (k b : Nat) (h0 : 0 ≤ n) (h1 : n ≤ b) : subSz n k = -1 ∨ (0 ≤ subSz n k ∧ subSz n k ≤ n ∧ k ≤ b) := by
  unfold subSz
  split
  · exact .inl rfl
  · right; exact ⟨by omega, by omega, by omega⟩
theorem szLL_ok {α : Type} {p : Nat → α → Prop} {f : α → Int → Int} (h : SzOk p f) : SzOk (leL p) (szLL f) := by
  intro l n b h0 h1
  unfold szLL
  rcases subSz_ok n l.length b h0 h1 with e | ⟨e1, e2, e3⟩
  · left; rw [e]; rfl
  · have e4 : ¬ subSz n l.length < 0 := by omega
    rcases szL_ok h l _ b e1 (by omega) with k | ⟨k1, k2, k3⟩
    · left; simp [thenSz, e4, k]
    · right; simp only [thenSz, e4, if_false]
      exact ⟨k1, by omega, e3, k3⟩
theorem szF_ok {α : Type} {p : Nat → α → Prop} (hp : ∀ b x, p b x) : SzOk (leL p) (szF (α := α)) := by
  intro l n b h0 h1
  rcases subSz_ok n l.length b h0 h1 with e | ⟨e1, e2, e3⟩
  · exact .inl e
  · exact .inr ⟨e1, e2, leL_flat hp e3⟩
/-! ### marks -/
def markGo (k : Int) (out : List UInt8) : List UInt8 := if 0 < k then markGo (k.tdiv 10) (UInt8.ofNat (48 + k.tmod 10).toNat :: out) else out
termination_by k.toNat
decreasing_by
  have : k.tdiv 10 = k / 10 := Int.tdiv_eq_ediv_of_nonneg (by omega)
  omega
def markText (k : Int) : List UInt8 := if k ≤ 0 then [109, 48] else 109 :: markGo k []
def markL {α : Type} (f : α → Int → α × Int) : List α → Int → List α × Int
  | [], k => ([], k)
  | x :: l, k => ((f x k).1 :: (markL f l (f x k).2).1, (markL f l (f x k).2).2)
def heldL {α : Type} (f : α → Int → Option Int) : List α → Int → Option Int
  | [], k => some k
  | x :: l, k => (f x k).bind (heldL f l)
open Classical in
noncomputable def heOf {α : Type} (f : α → Int → α × Int) (x : α) (k : Int) : Option Int := if (f x k).1 = x then some (f x k).2 else none
def meInt (x : Int) (k : Int) : Int × Int := (k, k + 1)
def meStr (x : List UInt8) (k : Int) : List UInt8 × Int := (markText k, k + 1)
end Go.VM

/- Sizes and marks of the program's records. No condition. -/
set_option linter.unusedVariables false
set_option linter.unusedSimpArgs false
namespace Go.VM
open Go
theorem flat_ints (l : List Int) : (l.map eInt).all V.flat = true := by
  rw [List.all_eq_true]
  intro v hv
  obtain ⟨x, _, rfl⟩ := List.mem_map.1 hv
  rfl
theorem flat_strs (l : List (List UInt8)) : (l.map eStr).all V.flat = true := by
  rw [List.all_eq_true]
  intro v hv
  obtain ⟨x, _, rfl⟩ := List.mem_map.1 hv
  rfl
theorem Mail.eta (x : Mail) : (⟨x.Uid, x.Flags, x.Mod, x.Text⟩ : Mail) = x := rfl
def Mail.le (b : Nat) (x : Mail) : Prop := leS b x.Text
theorem Mail.le_mono (x : Mail) (b c : Nat) (h : b ≤ c) (hx : Mail.le b x) : Mail.le c x := leS.mono _ b c h hx
def Mail.sz (x : Mail) (n : Int) : Int := thenSz (subSz n x.Text.length) fun n => n
theorem Mail.sz_ok : SzOk Mail.le Mail.sz := by
  intro x n b h0 h1
  unfold Mail.sz
  rcases subSz_ok n x.Text.length b h0 h1 with e | ⟨a0, b0, c0⟩
  · left; simp_all [thenSz]
  have n0 : ¬ subSz n x.Text.length < 0 := Int.not_lt.2 a0
  right
  simp only [thenSz, n0, if_false]
  exact ⟨a0, by omega, c0⟩
theorem Mail.sz_neg (x : Mail) (n : Int) (h : Mail.sz x n < 0) : Mail.sz x n = -1 := by
  unfold Mail.sz thenSz at *
  simp only at *
  repeat' split at h
  all_goals simp_all
  all_goals omega
theorem Mail.flat (l : List Mail) : (l.map Mail.enc).all V.flat = true := by
  rw [List.all_eq_true]
  intro v hv
  obtain ⟨x, _, rfl⟩ := List.mem_map.1 hv
  rfl
def meMail (x : Mail) (k : Int) : Mail × Int := (⟨k, k + 1, k + 1 + 1, markText (k + 1 + 1 + 1)⟩, k + 1 + 1 + 1 + 1)
noncomputable def heMail (x : Mail) (k : Int) : Option Int := heOf meMail x k
theorem Tomb.eta (x : Tomb) : (⟨x.Uid, x.Mod⟩ : Tomb) = x := rfl
def Tomb.le (b : Nat) (x : Tomb) : Prop := True
theorem Tomb.le_mono (x : Tomb) (b c : Nat) (h : b ≤ c) (hx : Tomb.le b x) : Tomb.le c x := hx
theorem Tomb.flat (l : List Tomb) : (l.map Tomb.enc).all V.flat = true := by
  rw [List.all_eq_true]
  intro v hv
  obtain ⟨x, _, rfl⟩ := List.mem_map.1 hv
  rfl
def meTomb (x : Tomb) (k : Int) : Tomb × Int := (⟨k, k + 1⟩, k + 1 + 1)
noncomputable def heTomb (x : Tomb) (k : Int) : Option Int := heOf meTomb x k
theorem Range.eta (x : Range) : (⟨x.Lo, x.Hi⟩ : Range) = x := rfl
def Range.le (b : Nat) (x : Range) : Prop := True
theorem Range.le_mono (x : Range) (b c : Nat) (h : b ≤ c) (hx : Range.le b x) : Range.le c x := hx
theorem Range.flat (l : List Range) : (l.map Range.enc).all V.flat = true := by
  rw [List.all_eq_true]
  intro v hv
  obtain ⟨x, _, rfl⟩ := List.mem_map.1 hv
  rfl
def meRange (x : Range) (k : Int) : Range × Int := (⟨k, k + 1⟩, k + 1 + 1)
noncomputable def heRange (x : Range) (k : Int) : Option Int := heOf meRange x k
theorem Seen.eta (x : Seen) : (⟨x.Uid, x.Flags, x.Mod⟩ : Seen) = x := rfl
def Seen.le (b : Nat) (x : Seen) : Prop := True
theorem Seen.le_mono (x : Seen) (b c : Nat) (h : b ≤ c) (hx : Seen.le b x) : Seen.le c x := hx
theorem Seen.flat (l : List Seen) : (l.map Seen.enc).all V.flat = true := by
  rw [List.all_eq_true]
  intro v hv
  obtain ⟨x, _, rfl⟩ := List.mem_map.1 hv
  rfl
def meSeen (x : Seen) (k : Int) : Seen × Int := (⟨k, k + 1, k + 1 + 1⟩, k + 1 + 1 + 1)
noncomputable def heSeen (x : Seen) (k : Int) : Option Int := heOf meSeen x k
theorem View.eta (x : View) : (⟨x.Box, x.Valid, x.Uids, x.Mod⟩ : View) = x := rfl
def View.le (b : Nat) (x : View) : Prop := leS b x.Box ∧ (leL leI) b x.Uids
theorem View.le_mono (x : View) (b c : Nat) (h : b ≤ c) (hx : View.le b x) : View.le c x := ⟨leS.mono _ b c h hx.1, leL.mono leI.mono h hx.2⟩
def View.sz (x : View) (n : Int) : Int := thenSz (subSz n x.Box.length) fun n => thenSz (szF x.Uids n) fun n => n
theorem View.sz_ok : SzOk View.le View.sz := by
  intro x n b h0 h1
  unfold View.sz
  rcases subSz_ok n x.Box.length b h0 h1 with e | ⟨a0, b0, c0⟩
  · left; simp_all [thenSz]
  have n0 : ¬ subSz n x.Box.length < 0 := Int.not_lt.2 a0
  rcases (szF_ok (p := leI) (fun b x => trivial)) x.Uids _ b a0 (by omega) with e | ⟨a1, b1, c1⟩
  · left; simp_all [thenSz]
  have n1 : ¬ szF x.Uids _ < 0 := Int.not_lt.2 a1
  right
  simp only [thenSz, n0, n1, if_false]
  exact ⟨a1, by omega, c0, c1⟩
theorem View.sz_neg (x : View) (n : Int) (h : View.sz x n < 0) : View.sz x n = -1 := by
  unfold View.sz thenSz at *
  simp only at *
  repeat' split at h
  all_goals simp_all
  all_goals omega
def msView (x : View) (k : Int) : View × Int := ({ x with Uids := (markL meInt x.Uids k).1 }, (markL meInt x.Uids k).2)
noncomputable def hsView (x : View) (k : Int) : Option Int := heldL (heOf meInt) x.Uids k
def meView (x : View) (k : Int) : View × Int := (⟨markText (k), k + 1, (markL meInt x.Uids (k + 1 + 1)).1, (markL meInt x.Uids (k + 1 + 1)).2⟩, (markL meInt x.Uids (k + 1 + 1)).2 + 1)
def View.ln (b : Nat) (x : View) : Prop := x.Uids.length ≤ b
theorem View.ln_of {x : View} {b : Nat} (h : x.le b) : x.ln b := h.2.1
theorem Line.eta (x : Line) : (⟨x.Kind, x.Num, x.Uid, x.Flags, x.Mod, x.Set, x.All⟩ : Line) = x := rfl
def Line.le (b : Nat) (x : Line) : Prop := (leL Range.le) b x.Set
theorem Line.le_mono (x : Line) (b c : Nat) (h : b ≤ c) (hx : Line.le b x) : Line.le c x := leL.mono Range.le_mono h hx
def Line.sz (x : Line) (n : Int) : Int := thenSz (szF x.Set n) fun n => n
theorem Line.sz_ok : SzOk Line.le Line.sz := by
  intro x n b h0 h1
  unfold Line.sz
  rcases (szF_ok (p := Range.le) (fun b x => trivial)) x.Set n b h0 h1 with e | ⟨a0, b0, c0⟩
  · left; simp_all [thenSz]
  have n0 : ¬ szF x.Set n < 0 := Int.not_lt.2 a0
  right
  simp only [thenSz, n0, if_false]
  exact ⟨a0, by omega, c0⟩
theorem Line.sz_neg (x : Line) (n : Int) (h : Line.sz x n < 0) : Line.sz x n = -1 := by
  unfold Line.sz thenSz at *
  simp only at *
  repeat' split at h
  all_goals simp_all
  all_goals omega
def msLine (x : Line) (k : Int) : Line × Int := ({ x with Set := (markL meRange x.Set k).1 }, (markL meRange x.Set k).2)
noncomputable def hsLine (x : Line) (k : Int) : Option Int := heldL heRange x.Set k
theorem Edit.eta (x : Edit) : (⟨x.Kind, x.Box, x.To, x.Set, x.How, x.Bits, x.Since, x.Text⟩ : Edit) = x := rfl
def Edit.le (b : Nat) (x : Edit) : Prop := leS b x.Box ∧ leS b x.To ∧ (leL Range.le) b x.Set ∧ leS b x.Text
theorem Edit.le_mono (x : Edit) (b c : Nat) (h : b ≤ c) (hx : Edit.le b x) : Edit.le c x := ⟨leS.mono _ b c h hx.1, leS.mono _ b c h hx.2.1, leL.mono Range.le_mono h hx.2.2.1, leS.mono _ b c h hx.2.2.2⟩
def Edit.sz (x : Edit) (n : Int) : Int := thenSz (subSz n x.Box.length) fun n => thenSz (subSz n x.To.length) fun n => thenSz (szF x.Set n) fun n => thenSz (subSz n x.Text.length) fun n => n
theorem Edit.sz_ok : SzOk Edit.le Edit.sz := by
  intro x n b h0 h1
  unfold Edit.sz
  rcases subSz_ok n x.Box.length b h0 h1 with e | ⟨a0, b0, c0⟩
  · left; simp_all [thenSz]
  have n0 : ¬ subSz n x.Box.length < 0 := Int.not_lt.2 a0
  rcases subSz_ok _ x.To.length b a0 (by omega) with e | ⟨a1, b1, c1⟩
  · left; simp_all [thenSz]
  have n1 : ¬ subSz _ x.To.length < 0 := Int.not_lt.2 a1
  rcases (szF_ok (p := Range.le) (fun b x => trivial)) x.Set _ b a1 (by omega) with e | ⟨a2, b2, c2⟩
  · left; simp_all [thenSz]
  have n2 : ¬ szF x.Set _ < 0 := Int.not_lt.2 a2
  rcases subSz_ok _ x.Text.length b a2 (by omega) with e | ⟨a3, b3, c3⟩
  · left; simp_all [thenSz]
  have n3 : ¬ subSz _ x.Text.length < 0 := Int.not_lt.2 a3
  right
  simp only [thenSz, n0, n1, n2, n3, if_false]
  exact ⟨a3, by omega, c0, c1, c2, c3⟩
theorem Edit.sz_neg (x : Edit) (n : Int) (h : Edit.sz x n < 0) : Edit.sz x n = -1 := by
  unfold Edit.sz thenSz at *
  simp only at *
  repeat' split at h
  all_goals simp_all
  all_goals omega
def msEdit (x : Edit) (k : Int) : Edit × Int := ({ x with Set := (markL meRange x.Set k).1 }, (markL meRange x.Set k).2)
noncomputable def hsEdit (x : Edit) (k : Int) : Option Int := heldL heRange x.Set k
def meEdit (x : Edit) (k : Int) : Edit × Int := (⟨k, markText (k + 1), markText (k + 1 + 1), (markL meRange x.Set (k + 1 + 1 + 1)).1, (markL meRange x.Set (k + 1 + 1 + 1)).2, (markL meRange x.Set (k + 1 + 1 + 1)).2 + 1, (markL meRange x.Set (k + 1 + 1 + 1)).2 + 1 + 1, markText ((markL meRange x.Set (k + 1 + 1 + 1)).2 + 1 + 1 + 1)⟩, (markL meRange x.Set (k + 1 + 1 + 1)).2 + 1 + 1 + 1 + 1)
def Edit.ln (b : Nat) (x : Edit) : Prop := x.Set.length ≤ b
theorem Edit.ln_of {x : Edit} {b : Nat} (h : x.le b) : x.ln b := h.2.2.1.1
theorem Box.eta (x : Box) : (⟨x.Name, x.Valid, x.Next, x.Mod, x.Mails, x.Tombs, x.Horizon⟩ : Box) = x := rfl
def Box.le (b : Nat) (x : Box) : Prop := leS b x.Name ∧ (leL Mail.le) b x.Mails ∧ (leL Tomb.le) b x.Tombs
theorem Box.le_mono (x : Box) (b c : Nat) (h : b ≤ c) (hx : Box.le b x) : Box.le c x := ⟨leS.mono _ b c h hx.1, leL.mono Mail.le_mono h hx.2.1, leL.mono Tomb.le_mono h hx.2.2⟩
def Box.sz (x : Box) (n : Int) : Int := thenSz (subSz n x.Name.length) fun n => thenSz ((szLL Mail.sz) x.Mails n) fun n => thenSz (szF x.Tombs n) fun n => n
theorem Box.sz_ok : SzOk Box.le Box.sz := by
  intro x n b h0 h1
  unfold Box.sz
  rcases subSz_ok n x.Name.length b h0 h1 with e | ⟨a0, b0, c0⟩
  · left; simp_all [thenSz]
  have n0 : ¬ subSz n x.Name.length < 0 := Int.not_lt.2 a0
  rcases (szLL_ok Mail.sz_ok) x.Mails _ b a0 (by omega) with e | ⟨a1, b1, c1⟩
  · left; simp_all [thenSz]
  have n1 : ¬ (szLL Mail.sz) x.Mails _ < 0 := Int.not_lt.2 a1
  rcases (szF_ok (p := Tomb.le) (fun b x => trivial)) x.Tombs _ b a1 (by omega) with e | ⟨a2, b2, c2⟩
  · left; simp_all [thenSz]
  have n2 : ¬ szF x.Tombs _ < 0 := Int.not_lt.2 a2
  right
  simp only [thenSz, n0, n1, n2, if_false]
  exact ⟨a2, by omega, c0, c1, c2⟩
theorem Box.sz_neg (x : Box) (n : Int) (h : Box.sz x n < 0) : Box.sz x n = -1 := by
  unfold Box.sz thenSz at *
  simp only at *
  repeat' split at h
  all_goals simp_all
  all_goals omega
def msBox (x : Box) (k : Int) : Box × Int := ({ x with Mails := (markL meMail x.Mails k).1, Tombs := (markL meTomb x.Tombs ((markL meMail x.Mails k).2)).1 }, (markL meTomb x.Tombs ((markL meMail x.Mails k).2)).2)
noncomputable def hsBox (x : Box) (k : Int) : Option Int := (heldL heMail x.Mails k).bind fun k => heldL heTomb x.Tombs k
def meBox (x : Box) (k : Int) : Box × Int := (⟨markText (k), k + 1, k + 1 + 1, k + 1 + 1 + 1, (markL meMail x.Mails (k + 1 + 1 + 1 + 1)).1, (markL meTomb x.Tombs ((markL meMail x.Mails (k + 1 + 1 + 1 + 1)).2)).1, (markL meTomb x.Tombs ((markL meMail x.Mails (k + 1 + 1 + 1 + 1)).2)).2⟩, (markL meTomb x.Tombs ((markL meMail x.Mails (k + 1 + 1 + 1 + 1)).2)).2 + 1)
def Box.ln (b : Nat) (x : Box) : Prop := x.Mails.length ≤ b ∧ x.Tombs.length ≤ b
theorem Box.ln_of {x : Box} {b : Nat} (h : x.le b) : x.ln b := ⟨h.2.1.1, h.2.2.1⟩
theorem Store.eta (x : Store) : (⟨x.Boxes, x.Valid⟩ : Store) = x := rfl
def Store.le (b : Nat) (x : Store) : Prop := (leL Box.le) b x.Boxes
theorem Store.le_mono (x : Store) (b c : Nat) (h : b ≤ c) (hx : Store.le b x) : Store.le c x := leL.mono Box.le_mono h hx
def Store.sz (x : Store) (n : Int) : Int := thenSz ((szLL Box.sz) x.Boxes n) fun n => n
theorem Store.sz_ok : SzOk Store.le Store.sz := by
  intro x n b h0 h1
  unfold Store.sz
  rcases (szLL_ok Box.sz_ok) x.Boxes n b h0 h1 with e | ⟨a0, b0, c0⟩
  · left; simp_all [thenSz]
  have n0 : ¬ (szLL Box.sz) x.Boxes n < 0 := Int.not_lt.2 a0
  right
  simp only [thenSz, n0, if_false]
  exact ⟨a0, by omega, c0⟩
theorem Store.sz_neg (x : Store) (n : Int) (h : Store.sz x n < 0) : Store.sz x n = -1 := by
  unfold Store.sz thenSz at *
  simp only at *
  repeat' split at h
  all_goals simp_all
  all_goals omega
theorem Key.eta (x : Key) : (⟨x.Kind, x.Num, x.Text⟩ : Key) = x := rfl
def Key.le (b : Nat) (x : Key) : Prop := leS b x.Text
theorem Key.le_mono (x : Key) (b c : Nat) (h : b ≤ c) (hx : Key.le b x) : Key.le c x := leS.mono _ b c h hx
def Key.sz (x : Key) (n : Int) : Int := thenSz (subSz n x.Text.length) fun n => n
theorem Key.sz_ok : SzOk Key.le Key.sz := by
  intro x n b h0 h1
  unfold Key.sz
  rcases subSz_ok n x.Text.length b h0 h1 with e | ⟨a0, b0, c0⟩
  · left; simp_all [thenSz]
  have n0 : ¬ subSz n x.Text.length < 0 := Int.not_lt.2 a0
  right
  simp only [thenSz, n0, if_false]
  exact ⟨a0, by omega, c0⟩
theorem Key.sz_neg (x : Key) (n : Int) (h : Key.sz x n < 0) : Key.sz x n = -1 := by
  unfold Key.sz thenSz at *
  simp only at *
  repeat' split at h
  all_goals simp_all
  all_goals omega
theorem Key.flat (l : List Key) : (l.map Key.enc).all V.flat = true := by
  rw [List.all_eq_true]
  intro v hv
  obtain ⟨x, _, rfl⟩ := List.mem_map.1 hv
  rfl
def meKey (x : Key) (k : Int) : Key × Int := (⟨k, k + 1, markText (k + 1 + 1)⟩, k + 1 + 1 + 1)
noncomputable def heKey (x : Key) (k : Int) : Option Int := heOf meKey x k
theorem Act.eta (x : Act) : (⟨x.Kind, x.Name, x.Text, x.To⟩ : Act) = x := rfl
def Act.le (b : Nat) (x : Act) : Prop := leS b x.Name ∧ leS b x.Text ∧ leS b x.To
theorem Act.le_mono (x : Act) (b c : Nat) (h : b ≤ c) (hx : Act.le b x) : Act.le c x := ⟨leS.mono _ b c h hx.1, leS.mono _ b c h hx.2.1, leS.mono _ b c h hx.2.2⟩
def Act.sz (x : Act) (n : Int) : Int := thenSz (subSz n x.Name.length) fun n => thenSz (subSz n x.Text.length) fun n => thenSz (subSz n x.To.length) fun n => n
theorem Act.sz_ok : SzOk Act.le Act.sz := by
  intro x n b h0 h1
  unfold Act.sz
  rcases subSz_ok n x.Name.length b h0 h1 with e | ⟨a0, b0, c0⟩
  · left; simp_all [thenSz]
  have n0 : ¬ subSz n x.Name.length < 0 := Int.not_lt.2 a0
  rcases subSz_ok _ x.Text.length b a0 (by omega) with e | ⟨a1, b1, c1⟩
  · left; simp_all [thenSz]
  have n1 : ¬ subSz _ x.Text.length < 0 := Int.not_lt.2 a1
  rcases subSz_ok _ x.To.length b a1 (by omega) with e | ⟨a2, b2, c2⟩
  · left; simp_all [thenSz]
  have n2 : ¬ subSz _ x.To.length < 0 := Int.not_lt.2 a2
  right
  simp only [thenSz, n0, n1, n2, if_false]
  exact ⟨a2, by omega, c0, c1, c2⟩
theorem Act.sz_neg (x : Act) (n : Int) (h : Act.sz x n < 0) : Act.sz x n = -1 := by
  unfold Act.sz thenSz at *
  simp only at *
  repeat' split at h
  all_goals simp_all
  all_goals omega
theorem Act.flat (l : List Act) : (l.map Act.enc).all V.flat = true := by
  rw [List.all_eq_true]
  intro v hv
  obtain ⟨x, _, rfl⟩ := List.mem_map.1 hv
  rfl
def meAct (x : Act) (k : Int) : Act × Int := (⟨k, markText (k + 1), markText (k + 1 + 1), markText (k + 1 + 1 + 1)⟩, k + 1 + 1 + 1 + 1)
noncomputable def heAct (x : Act) (k : Int) : Option Int := heOf meAct x k
theorem File.eta (x : File) : (⟨x.Name, x.Text, x.Kept⟩ : File) = x := rfl
def File.le (b : Nat) (x : File) : Prop := leS b x.Name ∧ leS b x.Text
theorem File.le_mono (x : File) (b c : Nat) (h : b ≤ c) (hx : File.le b x) : File.le c x := ⟨leS.mono _ b c h hx.1, leS.mono _ b c h hx.2⟩
def File.sz (x : File) (n : Int) : Int := thenSz (subSz n x.Name.length) fun n => thenSz (subSz n x.Text.length) fun n => n
theorem File.sz_ok : SzOk File.le File.sz := by
  intro x n b h0 h1
  unfold File.sz
  rcases subSz_ok n x.Name.length b h0 h1 with e | ⟨a0, b0, c0⟩
  · left; simp_all [thenSz]
  have n0 : ¬ subSz n x.Name.length < 0 := Int.not_lt.2 a0
  rcases subSz_ok _ x.Text.length b a0 (by omega) with e | ⟨a1, b1, c1⟩
  · left; simp_all [thenSz]
  have n1 : ¬ subSz _ x.Text.length < 0 := Int.not_lt.2 a1
  right
  simp only [thenSz, n0, n1, if_false]
  exact ⟨a1, by omega, c0, c1⟩
theorem File.sz_neg (x : File) (n : Int) (h : File.sz x n < 0) : File.sz x n = -1 := by
  unfold File.sz thenSz at *
  simp only at *
  repeat' split at h
  all_goals simp_all
  all_goals omega
theorem File.flat (l : List File) : (l.map File.enc).all V.flat = true := by
  rw [List.all_eq_true]
  intro v hv
  obtain ⟨x, _, rfl⟩ := List.mem_map.1 hv
  rfl
def meFile (x : File) (k : Int) : File × Int := (⟨markText (k), markText (k + 1), k + 1 + 1⟩, k + 1 + 1 + 1)
noncomputable def heFile (x : File) (k : Int) : Option Int := heOf meFile x k
theorem Disk.eta (x : Disk) : (⟨x.Files⟩ : Disk) = x := rfl
def Disk.le (b : Nat) (x : Disk) : Prop := (leL File.le) b x.Files
theorem Disk.le_mono (x : Disk) (b c : Nat) (h : b ≤ c) (hx : Disk.le b x) : Disk.le c x := leL.mono File.le_mono h hx
def Disk.sz (x : Disk) (n : Int) : Int := thenSz ((szLL File.sz) x.Files n) fun n => n
theorem Disk.sz_ok : SzOk Disk.le Disk.sz := by
  intro x n b h0 h1
  unfold Disk.sz
  rcases (szLL_ok File.sz_ok) x.Files n b h0 h1 with e | ⟨a0, b0, c0⟩
  · left; simp_all [thenSz]
  have n0 : ¬ (szLL File.sz) x.Files n < 0 := Int.not_lt.2 a0
  right
  simp only [thenSz, n0, if_false]
  exact ⟨a0, by omega, c0⟩
theorem Disk.sz_neg (x : Disk) (n : Int) (h : Disk.sz x n < 0) : Disk.sz x n = -1 := by
  unfold Disk.sz thenSz at *
  simp only at *
  repeat' split at h
  all_goals simp_all
  all_goals omega
def msDisk (x : Disk) (k : Int) : Disk × Int := ({ x with Files := (markL meFile x.Files k).1 }, (markL meFile x.Files k).2)
noncomputable def hsDisk (x : Disk) (k : Int) : Option Int := heldL heFile x.Files k
def meDisk (x : Disk) (k : Int) : Disk × Int := (⟨(markL meFile x.Files (k)).1⟩, (markL meFile x.Files (k)).2)
def Disk.ln (b : Nat) (x : Disk) : Prop := x.Files.length ≤ b
theorem Disk.ln_of {x : Disk} {b : Nat} (h : x.le b) : x.ln b := h.1
end Go.VM

