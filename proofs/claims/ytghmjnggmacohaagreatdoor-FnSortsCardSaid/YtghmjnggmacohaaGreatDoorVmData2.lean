import Derived.Test.YtghmjnggmacohaaGreatDoorVmBase
/- The program's records as structures, and their form as data of the abstract machine. -/
set_option linter.unusedVariables false
set_option linter.unusedSimpArgs false
namespace Go.VM

def eInt (n : Int) : V := .int .i64 n
def dInt : V → Option Int
  | .int .i64 n => some n
  | _ => none
def eStr (l : List UInt8) : V := .str l
def dStr : V → Option (List UInt8)
  | .str l => some l
  | _ => none
theorem dInt_eInt (n : Int) : dInt (eInt n) = some n := rfl
theorem dInt_some {v : V} {n : Int} (h : dInt v = some n) : v = eInt n := by
  unfold dInt at h
  split at h <;> cases h
  rfl
theorem dStr_eStr (n : List UInt8) : dStr (eStr n) = some n := rfl
theorem dStr_some {v : V} {n : List UInt8} (h : dStr v = some n) : v = eStr n := by
  unfold dStr at h
  split at h <;> cases h
  rfl
def decL {α : Type} (f : V → Option α) : List V → Option (List α)
  | [] => some []
  | x :: l => (f x).bind fun a => (decL f l).map (a :: ·)
theorem decL_map {α : Type} {f : V → Option α} {e : α → V} (h : ∀ x, f (e x) = some x) : ∀ l : List α, decL f (l.map e) = some l
  | [] => rfl
  | x :: l => by simp [decL, h, decL_map h l]
theorem decL_some {α : Type} {f : V → Option α} {e : α → V} (h : ∀ v x, f v = some x → v = e x) : ∀ {l : List V} {xs : List α}, decL f l = some xs → l = xs.map e
  | [], xs, hx => by simp only [decL, Option.some.injEq] at hx; subst hx; rfl
  | v :: l, xs, hx => by
    simp only [decL, Option.bind_eq_some_iff, Option.map_eq_some_iff] at hx
    obtain ⟨a, ha, ys, hys, rfl⟩ := hx
    rw [h v a ha, decL_some h hys]; rfl
theorem decL_ints (l : List Int) : decL dInt (l.map eInt) = some l := decL_map dInt_eInt l
theorem decL_strs (l : List (List UInt8)) : decL dStr (l.map eStr) = some l := decL_map dStr_eStr l

structure Mail where
  Uid : Int
  Flags : Int
  Mod : Int
  Text : List UInt8
  deriving DecidableEq, Inhabited
def Mail.enc (x : Mail) : V := .agg [.int .i64 x.Uid, .int .i64 x.Flags, .int .i64 x.Mod, .str x.Text]
def Mail.dec : V → Option Mail
  | .agg [.int .i64 x0, .int .i64 x1, .int .i64 x2, .str x3] => some ⟨x0, x1, x2, x3⟩
  | _ => none
theorem Mail.dec_enc (x : Mail) : Mail.dec x.enc = some x := by
  simp only [Mail.enc, Mail.dec]
theorem Mail.dec_some {v : V} {x : Mail} (h : Mail.dec v = some x) : v = x.enc := by
  unfold Mail.dec at h
  split at h
  · cases h; rfl
  · cases h
theorem decL_Mail (l : List Mail) : decL Mail.dec (l.map Mail.enc) = some l := decL_map Mail.dec_enc l
structure Tomb where
  Uid : Int
  Mod : Int
  deriving DecidableEq, Inhabited
def Tomb.enc (x : Tomb) : V := .agg [.int .i64 x.Uid, .int .i64 x.Mod]
def Tomb.dec : V → Option Tomb
  | .agg [.int .i64 x0, .int .i64 x1] => some ⟨x0, x1⟩
  | _ => none
theorem Tomb.dec_enc (x : Tomb) : Tomb.dec x.enc = some x := by
  simp only [Tomb.enc, Tomb.dec]
theorem Tomb.dec_some {v : V} {x : Tomb} (h : Tomb.dec v = some x) : v = x.enc := by
  unfold Tomb.dec at h
  split at h
  · cases h; rfl
  · cases h
theorem decL_Tomb (l : List Tomb) : decL Tomb.dec (l.map Tomb.enc) = some l := decL_map Tomb.dec_enc l
structure Range where
  Lo : Int
  Hi : Int
  deriving DecidableEq, Inhabited
def Range.enc (x : Range) : V := .agg [.int .i64 x.Lo, .int .i64 x.Hi]
def Range.dec : V → Option Range
  | .agg [.int .i64 x0, .int .i64 x1] => some ⟨x0, x1⟩
  | _ => none
theorem Range.dec_enc (x : Range) : Range.dec x.enc = some x := by
  simp only [Range.enc, Range.dec]
theorem Range.dec_some {v : V} {x : Range} (h : Range.dec v = some x) : v = x.enc := by
  unfold Range.dec at h
  split at h
  · cases h; rfl
  · cases h
theorem decL_Range (l : List Range) : decL Range.dec (l.map Range.enc) = some l := decL_map Range.dec_enc l
structure Seen where
  Uid : Int
  Flags : Int
  Mod : Int
  deriving DecidableEq, Inhabited
def Seen.enc (x : Seen) : V := .agg [.int .i64 x.Uid, .int .i64 x.Flags, .int .i64 x.Mod]
def Seen.dec : V → Option Seen
  | .agg [.int .i64 x0, .int .i64 x1, .int .i64 x2] => some ⟨x0, x1, x2⟩
  | _ => none
theorem Seen.dec_enc (x : Seen) : Seen.dec x.enc = some x := by
  simp only [Seen.enc, Seen.dec]
theorem Seen.dec_some {v : V} {x : Seen} (h : Seen.dec v = some x) : v = x.enc := by
  unfold Seen.dec at h
  split at h
  · cases h; rfl
  · cases h
theorem decL_Seen (l : List Seen) : decL Seen.dec (l.map Seen.enc) = some l := decL_map Seen.dec_enc l
structure View where
  Box : List UInt8
  Valid : Int
  Uids : List Int
  Mod : Int
  deriving DecidableEq, Inhabited
def View.enc (x : View) : V := .agg [.str x.Box, .int .i64 x.Valid, .lst 1 (x.Uids.map eInt), .int .i64 x.Mod]
def View.dec : V → Option View
  | .agg [.str x0, .int .i64 x1, .lst 1 x2, .int .i64 x3] => (decL dInt x2).bind fun y2 => some ⟨x0, x1, y2, x3⟩
  | _ => none
theorem View.dec_enc (x : View) : View.dec x.enc = some x := by
  simp only [View.enc, View.dec, decL_ints, Option.bind_some]
theorem View.dec_some {v : V} {x : View} (h : View.dec v = some x) : v = x.enc := by
  unfold View.dec at h
  split at h
  · simp only [Option.bind_eq_some_iff, Option.some.injEq] at h
    obtain ⟨y2, h2, rfl⟩ := h
    have e2 := decL_some (fun v x h => dInt_some h) h2
    subst e2
    rfl
  · cases h
theorem decL_View (l : List View) : decL View.dec (l.map View.enc) = some l := decL_map View.dec_enc l
structure Line where
  Kind : Int
  Num : Int
  Uid : Int
  Flags : Int
  Mod : Int
  Set : List Range
  All : Bool
  deriving DecidableEq, Inhabited
def Line.enc (x : Line) : V := .agg [.int .i64 x.Kind, .int .i64 x.Num, .int .i64 x.Uid, .int .i64 x.Flags, .int .i64 x.Mod, .lst 2 (x.Set.map Range.enc), .bool x.All]
def Line.dec : V → Option Line
  | .agg [.int .i64 x0, .int .i64 x1, .int .i64 x2, .int .i64 x3, .int .i64 x4, .lst 2 x5, .bool x6] => (decL Range.dec x5).bind fun y5 => some ⟨x0, x1, x2, x3, x4, y5, x6⟩
  | _ => none
theorem Line.dec_enc (x : Line) : Line.dec x.enc = some x := by
  simp only [Line.enc, Line.dec, decL_map Range.dec_enc, Option.bind_some]
theorem Line.dec_some {v : V} {x : Line} (h : Line.dec v = some x) : v = x.enc := by
  unfold Line.dec at h
  split at h
  · simp only [Option.bind_eq_some_iff, Option.some.injEq] at h
    obtain ⟨y5, h5, rfl⟩ := h
    have e5 := decL_some (fun v x h => Range.dec_some h) h5
    subst e5
    rfl
  · cases h
theorem decL_Line (l : List Line) : decL Line.dec (l.map Line.enc) = some l := decL_map Line.dec_enc l
structure Edit where
  Kind : Int
  Box : List UInt8
  To : List UInt8
  Set : List Range
  How : Int
  Bits : Int
  Since : Int
  Text : List UInt8
  deriving DecidableEq, Inhabited
def Edit.enc (x : Edit) : V := .agg [.int .i64 x.Kind, .str x.Box, .str x.To, .lst 2 (x.Set.map Range.enc), .int .i64 x.How, .int .i64 x.Bits, .int .i64 x.Since, .str x.Text]
def Edit.dec : V → Option Edit
  | .agg [.int .i64 x0, .str x1, .str x2, .lst 2 x3, .int .i64 x4, .int .i64 x5, .int .i64 x6, .str x7] => (decL Range.dec x3).bind fun y3 => some ⟨x0, x1, x2, y3, x4, x5, x6, x7⟩
  | _ => none
theorem Edit.dec_enc (x : Edit) : Edit.dec x.enc = some x := by
  simp only [Edit.enc, Edit.dec, decL_map Range.dec_enc, Option.bind_some]
theorem Edit.dec_some {v : V} {x : Edit} (h : Edit.dec v = some x) : v = x.enc := by
  unfold Edit.dec at h
  split at h
  · simp only [Option.bind_eq_some_iff, Option.some.injEq] at h
    obtain ⟨y3, h3, rfl⟩ := h
    have e3 := decL_some (fun v x h => Range.dec_some h) h3
    subst e3
    rfl
  · cases h
theorem decL_Edit (l : List Edit) : decL Edit.dec (l.map Edit.enc) = some l := decL_map Edit.dec_enc l
structure Box where
  Name : List UInt8
  Valid : Int
  Next : Int
  Mod : Int
  Mails : List Mail
  Tombs : List Tomb
  Horizon : Int
  deriving DecidableEq, Inhabited
def Box.enc (x : Box) : V := .agg [.str x.Name, .int .i64 x.Valid, .int .i64 x.Next, .int .i64 x.Mod, .lst 4 (x.Mails.map Mail.enc), .lst 2 (x.Tombs.map Tomb.enc), .int .i64 x.Horizon]
def Box.dec : V → Option Box
  | .agg [.str x0, .int .i64 x1, .int .i64 x2, .int .i64 x3, .lst 4 x4, .lst 2 x5, .int .i64 x6] => (decL Mail.dec x4).bind fun y4 => (decL Tomb.dec x5).bind fun y5 => some ⟨x0, x1, x2, x3, y4, y5, x6⟩
  | _ => none
theorem Box.dec_enc (x : Box) : Box.dec x.enc = some x := by
  simp only [Box.enc, Box.dec, decL_map Mail.dec_enc, decL_map Tomb.dec_enc, Option.bind_some]
theorem Box.dec_some {v : V} {x : Box} (h : Box.dec v = some x) : v = x.enc := by
  unfold Box.dec at h
  split at h
  · simp only [Option.bind_eq_some_iff, Option.some.injEq] at h
    obtain ⟨y4, h4, y5, h5, rfl⟩ := h
    have e4 := decL_some (fun v x h => Mail.dec_some h) h4
    have e5 := decL_some (fun v x h => Tomb.dec_some h) h5
    subst e4 e5
    rfl
  · cases h
theorem decL_Box (l : List Box) : decL Box.dec (l.map Box.enc) = some l := decL_map Box.dec_enc l
structure Store where
  Boxes : List Box
  Valid : Int
  deriving DecidableEq, Inhabited
def Store.enc (x : Store) : V := .agg [.lst 7 (x.Boxes.map Box.enc), .int .i64 x.Valid]
def Store.dec : V → Option Store
  | .agg [.lst 7 x0, .int .i64 x1] => (decL Box.dec x0).bind fun y0 => some ⟨y0, x1⟩
  | _ => none
theorem Store.dec_enc (x : Store) : Store.dec x.enc = some x := by
  simp only [Store.enc, Store.dec, decL_map Box.dec_enc, Option.bind_some]
theorem Store.dec_some {v : V} {x : Store} (h : Store.dec v = some x) : v = x.enc := by
  unfold Store.dec at h
  split at h
  · simp only [Option.bind_eq_some_iff, Option.some.injEq] at h
    obtain ⟨y0, h0, rfl⟩ := h
    have e0 := decL_some (fun v x h => Box.dec_some h) h0
    subst e0
    rfl
  · cases h
theorem decL_Store (l : List Store) : decL Store.dec (l.map Store.enc) = some l := decL_map Store.dec_enc l
structure Key where
  Kind : Int
  Num : Int
  Text : List UInt8
  deriving DecidableEq, Inhabited
def Key.enc (x : Key) : V := .agg [.int .i64 x.Kind, .int .i64 x.Num, .str x.Text]
def Key.dec : V → Option Key
  | .agg [.int .i64 x0, .int .i64 x1, .str x2] => some ⟨x0, x1, x2⟩
  | _ => none
theorem Key.dec_enc (x : Key) : Key.dec x.enc = some x := by
  simp only [Key.enc, Key.dec]
theorem Key.dec_some {v : V} {x : Key} (h : Key.dec v = some x) : v = x.enc := by
  unfold Key.dec at h
  split at h
  · cases h; rfl
  · cases h
theorem decL_Key (l : List Key) : decL Key.dec (l.map Key.enc) = some l := decL_map Key.dec_enc l
structure Act where
  Kind : Int
  Name : List UInt8
  Text : List UInt8
  To : List UInt8
  deriving DecidableEq, Inhabited
def Act.enc (x : Act) : V := .agg [.int .i64 x.Kind, .str x.Name, .str x.Text, .str x.To]
def Act.dec : V → Option Act
  | .agg [.int .i64 x0, .str x1, .str x2, .str x3] => some ⟨x0, x1, x2, x3⟩
  | _ => none
theorem Act.dec_enc (x : Act) : Act.dec x.enc = some x := by
  simp only [Act.enc, Act.dec]
theorem Act.dec_some {v : V} {x : Act} (h : Act.dec v = some x) : v = x.enc := by
  unfold Act.dec at h
  split at h
  · cases h; rfl
  · cases h
theorem decL_Act (l : List Act) : decL Act.dec (l.map Act.enc) = some l := decL_map Act.dec_enc l
structure File where
  Name : List UInt8
  Text : List UInt8
  Kept : Int
  deriving DecidableEq, Inhabited
def File.enc (x : File) : V := .agg [.str x.Name, .str x.Text, .int .i64 x.Kept]
def File.dec : V → Option File
  | .agg [.str x0, .str x1, .int .i64 x2] => some ⟨x0, x1, x2⟩
  | _ => none
theorem File.dec_enc (x : File) : File.dec x.enc = some x := by
  simp only [File.enc, File.dec]
theorem File.dec_some {v : V} {x : File} (h : File.dec v = some x) : v = x.enc := by
  unfold File.dec at h
  split at h
  · cases h; rfl
  · cases h
theorem decL_File (l : List File) : decL File.dec (l.map File.enc) = some l := decL_map File.dec_enc l
structure Disk where
  Files : List File
  deriving DecidableEq, Inhabited
def Disk.enc (x : Disk) : V := .agg [.lst 3 (x.Files.map File.enc)]
def Disk.dec : V → Option Disk
  | .agg [.lst 3 x0] => (decL File.dec x0).bind fun y0 => some ⟨y0⟩
  | _ => none
theorem Disk.dec_enc (x : Disk) : Disk.dec x.enc = some x := by
  simp only [Disk.enc, Disk.dec, decL_map File.dec_enc, Option.bind_some]
theorem Disk.dec_some {v : V} {x : Disk} (h : Disk.dec v = some x) : v = x.enc := by
  unfold Disk.dec at h
  split at h
  · simp only [Option.bind_eq_some_iff, Option.some.injEq] at h
    obtain ⟨y0, h0, rfl⟩ := h
    have e0 := decL_some (fun v x h => File.dec_some h) h0
    subst e0
    rfl
  · cases h
theorem decL_Disk (l : List Disk) : decL Disk.dec (l.map Disk.enc) = some l := decL_map Disk.dec_enc l
end Go.VM

/- More forms of data: booleans, bytes, lists of lists. No condition. -/
set_option linter.unusedVariables false
set_option linter.unusedSimpArgs false
namespace Go.VM
open Go
def eBool (b : Bool) : V := .bool b
def dBool : V → Option Bool
  | .bool b => some b
  | _ => none
theorem dBool_some {v : V} {n : Bool} (h : dBool v = some n) : v = eBool n := by
  unfold dBool at h
  split at h <;> cases h
  rfl
def eU8 (n : Int) : V := .int .u8 n
def dU8 : V → Option Int
  | .int .u8 n => some n
  | _ => none
theorem dU8_some {v : V} {n : Int} (h : dU8 v = some n) : v = eU8 n := by
  unfold dU8 at h
  split at h <;> cases h
  rfl
def eList {α : Type} (sz : Nat) (e : α → V) (l : List α) : V := .lst sz (l.map e)
def dList {α : Type} (sz : Nat) (d : V → Option α) : V → Option (List α)
  | .lst k l => if k = sz then decL d l else none
  | _ => none
theorem dList_eList {α : Type} {sz : Nat} {d : V → Option α} {e : α → V} (hd : ∀ x, d (e x) = some x) (l : List α) : dList sz d (eList sz e l) = some l := by
  simp [dList, eList, decL_map hd]
theorem decL_append {α : Type} (f : V → Option α) : ∀ a b : List V, decL f (a ++ b) = (decL f a).bind fun x => (decL f b).map (x ++ ·)
  | [], b => by cases h : decL f b <;> simp [decL, h]
  | v :: a, b => by
    simp only [List.cons_append, decL, decL_append f a b]
    cases f v <;> simp
    cases decL f a <;> simp
    cases decL f b <;> simp
theorem decL_bools (l : List Bool) : decL dBool (l.map eBool) = some l := decL_map (e := eBool) (fun _ => rfl) l
theorem decL_u8s (l : List Int) : decL dU8 (l.map eU8) = some l := decL_map (e := eU8) (fun _ => rfl) l
theorem decL_intLists (l : List (List Int)) : decL (dList 1 dInt) (l.map (eList 1 eInt)) = some l := decL_map (dList_eList dInt_eInt) l
end Go.VM

