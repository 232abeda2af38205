/- Texts as arrays of bytes and back, as rewrite rules. No condition. -/
import Derived.Test.YtghmjnggmacohaaDoorVmSet
import Derived.Test.YtghmjnggmacohaaDoorVmExt
set_option linter.unusedVariables false
set_option linter.unusedSimpArgs false
namespace Go.VM
open Go
theorem bytesV_len (l : List UInt8) : (bytesV l).length = l.length := by simp [bytesV]
theorem bytesV_get (l : List UInt8) (i : Nat) : (bytesV l)[i]? = (l[i]?).map fun b => .int .u8 b.toNat := by simp [bytesV]
theorem bytesV_app (a b : List UInt8) : bytesV a ++ bytesV b = bytesV (a ++ b) := by simp [bytesV]
theorem bytesV_flat (l : List UInt8) : flatL (bytesV l) = true := by
  simp only [flatL, bytesV, List.all_map, List.all_eq_true]
  intro x _; rfl
theorem bytesV_take (l : List UInt8) (n : Nat) : (bytesV l).take n = bytesV (l.take n) := by simp [bytesV, List.map_take]
theorem bytesV_drop (l : List UInt8) (n : Nat) : (bytesV l).drop n = bytesV (l.drop n) := by simp [bytesV, List.map_drop]
theorem unBytes_bytesV (l : List UInt8) : unBytes (bytesV l) = some l := by
  induction l with
  | nil => rfl
  | cons b l ih =>
    have h : (0 : Int) ≤ b.toNat ∧ (b.toNat : Int) < 256 := ⟨by omega, by have := b.toNat_lt; omega⟩
    simp only [bytesV, List.map_cons] at ih ⊢
    simp only [unBytes, unByte, if_pos h, Option.bind_some, ih, Option.map_some, Int.toNat_natCast, UInt8.ofNat_toNat]
theorem bytesV_set (l : List UInt8) (i : Nat) (b : UInt8) : (bytesV l).set i (.int .u8 b.toNat) = bytesV (l.set i b) := by simp [bytesV, List.map_set]
attribute [go_sem] spIndexByte Nat.mul_one bytesV_len bytesV_get bytesV_app bytesV_flat bytesV_take bytesV_drop unBytes_bytesV
end Go.VM
