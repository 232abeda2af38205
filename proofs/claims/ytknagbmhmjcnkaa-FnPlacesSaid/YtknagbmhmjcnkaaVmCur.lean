/- Readers and draws as structures, and their form as data of the abstract machine. -/
import Derived.Test.YtknagbmhmjcnkaaVmStr
set_option linter.unusedVariables false
set_option linter.unusedSimpArgs false
namespace Go.VM

structure Rd where
  text : List UInt8
  pos : Int
  bad : Bool
  deriving DecidableEq, Inhabited
def Rd.enc (x : Rd) : V := .agg [.str x.text, .int .i64 x.pos, .bool x.bad]
def Rd.dec : V → Option Rd
  | .agg [.str x0, .int .i64 x1, .bool x2] => some ⟨x0, x1, x2⟩
  | _ => none
theorem Rd.dec_enc (x : Rd) : Rd.dec x.enc = some x := by
  simp only [Rd.enc, Rd.dec]
theorem Rd.dec_some {v : V} {x : Rd} (h : Rd.dec v = some x) : v = x.enc := by
  unfold Rd.dec at h
  split at h
  · cases h; rfl
  · cases h
theorem decL_Rd (l : List Rd) : decL Rd.dec (l.map Rd.enc) = some l := decL_map Rd.dec_enc l
theorem Rd.eta (x : Rd) : (⟨x.text, x.pos, x.bad⟩ : Rd) = x := rfl
structure Cur where
  b : List Int
  i : Int
  h : Int
  deriving DecidableEq, Inhabited
def Cur.enc (x : Cur) : V := .agg [.lst 1 (x.b.map eU8), .int .i64 x.i, .int .i64 x.h]
def Cur.dec : V → Option Cur
  | .agg [.lst 1 x0, .int .i64 x1, .int .i64 x2] => (decL dU8 x0).bind fun y0 => some ⟨y0, x1, x2⟩
  | _ => none
theorem Cur.dec_enc (x : Cur) : Cur.dec x.enc = some x := by
  simp only [Cur.enc, Cur.dec, decL_u8s, Option.bind_some]
theorem Cur.dec_some {v : V} {x : Cur} (h : Cur.dec v = some x) : v = x.enc := by
  unfold Cur.dec at h
  split at h
  · simp only [Option.bind_eq_some_iff, Option.some.injEq] at h
    obtain ⟨y0, h0, rfl⟩ := h
    have e0 := decL_some (fun v x h => dU8_some h) h0
    subst e0
    rfl
  · cases h
theorem decL_Cur (l : List Cur) : decL Cur.dec (l.map Cur.enc) = some l := decL_map Cur.dec_enc l
theorem Cur.eta (x : Cur) : (⟨x.b, x.i, x.h⟩ : Cur) = x := rfl
attribute [go_sem] Rd.enc Rd.dec decL_Rd Rd.eta Cur.enc Cur.dec decL_Cur Cur.eta
end Go.VM
