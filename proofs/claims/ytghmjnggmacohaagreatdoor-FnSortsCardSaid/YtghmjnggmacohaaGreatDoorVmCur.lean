import Derived.Test.YtghmjnggmacohaaGreatDoorVmSet
import Derived.Test.YtghmjnggmacohaaGreatDoorVmExt
/- Texts as arrays of bytes and back, as rewrite rules. No condition. -/
set_option linter.unusedVariables false
set_option linter.unusedSimpArgs false
namespace Go.VM
open Go
theorem bytesV_len (l : List UInt8) : (bytesV l).length = l.length := by simp [bytesV]
theorem bytesV_get (l : List UInt8) (i : Nat) : (bytesV l)[i]? = (l[i]?).map fun b => .int .u8 b.toNat := by simp [bytesV]
theorem bytesV_app (a b : List UInt8) : bytesV a ++ bytesV b = bytesV (a ++ b) := by simp [bytesV]
theorem bytesV_flat (l : List UInt8) : flatL (bytesV l) = true := by
  simp only [flatL, bytesV, List.all_map, List.all_eq_true]
  intro x _; rfl
theorem bytesV_take (l : List UInt8) (n : Nat) : (bytesV l).take n = bytesV (l.take n) := by simp [bytesV, List.map_take]
theorem bytesV_drop (l : List UInt8) (n : Nat) : (bytesV l).drop n = bytesV (l.drop n) := by simp [bytesV, List.map_drop]
theorem unBytes_bytesV (l : List UInt8) : unBytes (bytesV l) = some l := by
  induction l with
  | nil => rfl
  | cons b l ih =>
    have h : (0 : Int) ≤ b.toNat ∧ (b.toNat : Int) < 256 := ⟨by omega, by have := b.toNat_lt; omega⟩
    simp only [bytesV, List.map_cons] at ih ⊢
    simp only [unBytes, unByte, if_pos h, Option.bind_some, ih, Option.map_some, Int.toNat_natCast, UInt8.ofNat_toNat]
theorem bytesV_set (l : List UInt8) (i : Nat) (b : UInt8) : (bytesV l).set i (.int .u8 b.toNat) = bytesV (l.set i b) := by simp [bytesV, List.map_set]
attribute [go_sem] spIndexByte Nat.mul_one bytesV_len bytesV_get bytesV_app bytesV_flat bytesV_take bytesV_drop unBytes_bytesV
end Go.VM

/- Readers and draws as structures, and their form as data of the abstract machine. -/
set_option linter.unusedVariables false
set_option linter.unusedSimpArgs false
namespace Go.VM

structure Rd where
  text : List UInt8
  pos : Int
  bad : Bool
  deriving DecidableEq, Inhabited
def Rd.enc (x : Rd) : V := .agg [.str x.text, .int .i64 x.pos, .bool x.bad]
def Rd.dec : V → Option Rd
  | .agg [.str x0, .int .i64 x1, .bool x2] => some ⟨x0, x1, x2⟩
  | _ => none
theorem Rd.dec_enc (x : Rd) : Rd.dec x.enc = some x := by
  simp only [Rd.enc, Rd.dec]
theorem Rd.dec_some {v : V} {x : Rd} (h : Rd.dec v = some x) : v = x.enc := by
  unfold Rd.dec at h
  split at h
  · cases h; rfl
  · cases h
theorem decL_Rd (l : List Rd) : decL Rd.dec (l.map Rd.enc) = some l := decL_map Rd.dec_enc l
theorem Rd.eta (x : Rd) : (⟨x.text, x.pos, x.bad⟩ : Rd) = x := rfl
structure Cur where
  b : List Int
  i : Int
  h : Int
  deriving DecidableEq, Inhabited
def Cur.enc (x : Cur) : V := .agg [.lst 1 (x.b.map eU8), .int .i64 x.i, .int .i64 x.h]
def Cur.dec : V → Option Cur
  | .agg [.lst 1 x0, .int .i64 x1, .int .i64 x2] => (decL dU8 x0).bind fun y0 => some ⟨y0, x1, x2⟩
  | _ => none
theorem Cur.dec_enc (x : Cur) : Cur.dec x.enc = some x := by
  simp only [Cur.enc, Cur.dec, decL_u8s, Option.bind_some]
theorem Cur.dec_some {v : V} {x : Cur} (h : Cur.dec v = some x) : v = x.enc := by
  unfold Cur.dec at h
  split at h
  · simp only [Option.bind_eq_some_iff, Option.some.injEq] at h
    obtain ⟨y0, h0, rfl⟩ := h
    have e0 := decL_some (fun v x h => dU8_some h) h0
    subst e0
    rfl
  · cases h
theorem decL_Cur (l : List Cur) : decL Cur.dec (l.map Cur.enc) = some l := decL_map Cur.dec_enc l
theorem Cur.eta (x : Cur) : (⟨x.b, x.i, x.h⟩ : Cur) = x := rfl
attribute [go_sem] Rd.enc Rd.dec decL_Rd Rd.eta Cur.enc Cur.dec decL_Cur Cur.eta
end Go.VM

