/-
  No cell of these rows narrows 'for every input' (looked for: loops, veiled, ifaces, maps, wideKeys, modest, calm, conditions, laid).
  DERIVED. THE GIVEN ROWS OF THIS SEAT. 2 by the template 'for every input the law returns true; each argument reads behind the call as it read before'; 0 by the template 'total and deterministic' (their statements: YtdnafggminbalaaTotals.lean).
  GIVEN WITH THE SEED: the statements are not yours to turn. If you find one false, say at which input.
  Laid BY PROGRAM, IN A SANDBOX (cutbox-rows.mjs): the forced cells as the released guide's own fill.sh prints them over the translation 7d91a3ab3b3a9bf8… (all of the seat's roots in one cut). By AI agents, Wed Nov 11 2026. No macro, syntax, notation, axiom, sorry.
-/
import Derived.Test.YtdnafggminbalaaChecked
import GoSem.Claim
import GoSem.ClaimJoined
import GoSem.ClaimMapViews
import Derived.JoinedTies
import Derived.KernelRfl
namespace Go.Proofs.Ytdnafggminbalaa
/- THE CELL 'sum', in the pinned program and in every row, IS THE sha256 OF THE DUMP (.gsa) THAT YtdnafggminbalaaProg.lean LOADS. Nothing in Lean hashes anything: it is a label: what it is worth is what the hold of that sum in a sandbox is worth. -/
noncomputable def Try.pinned : Pinned := { name := "ytdnafggminbalaa", sum := "7d91a3ab3b3a9bf884786666db5dba3dba65cf81aede38a87fe2efcde7e9f42c", checked := Try.checked }
namespace Rows
def none {H : Type} : Left H := { results := [], args := [] }

/-- 'laws.FnExactDropBox': WHATEVER THE INPUT: true; the input reads as it did. -/
def fnExactDropBoxSpec : ChangeSpec := { name := "fnExactDropBox", fn := fun _ => fun
  | [d1, d2] => { results := [.lit (.bool true)], args := [d1, d2] }
  | _ => none }
def fnExactDropBoxRow : OpenClaim := { program := "ytdnafggminbalaa", sum := "7d91a3ab3b3a9bf884786666db5dba3dba65cf81aede38a87fe2efcde7e9f42c", func := "loop.example/g00247/laws.FnExactDropBox", spec := "fnExactDropBox", inPlace := ["internal/bytealg.IndexByteString"], unfollowed := true, recurses := true, apart := false }
def FnExactDropBoxSaid : Prop := fnExactDropBoxRow.holds Try.pinned (OpenSpec.ofChange fnExactDropBoxSpec)

/-- ITS FALSE NEIGHBOUR: 'it returns false'. Refute it at one input. -/
def fnExactDropBoxWrong : ChangeSpec := { name := "fnExactDropBox", fn := fun _ => fun
  | [d1, d2] => { results := [.lit (.bool false)], args := [d1, d2] }
  | _ => none }
def FnExactDropBoxWrongFalsely : Prop := fnExactDropBoxRow.holds Try.pinned (OpenSpec.ofChange fnExactDropBoxWrong)

/-- 'laws.FnExactMakeBox': WHATEVER THE INPUT: true; the input reads as it did. -/
def fnExactMakeBoxSpec : ChangeSpec := { name := "fnExactMakeBox", fn := fun _ => fun
  | [d1, d2] => { results := [.lit (.bool true)], args := [d1, d2] }
  | _ => none }
def fnExactMakeBoxRow : OpenClaim := { program := "ytdnafggminbalaa", sum := "7d91a3ab3b3a9bf884786666db5dba3dba65cf81aede38a87fe2efcde7e9f42c", func := "loop.example/g00247/laws.FnExactMakeBox", spec := "fnExactMakeBox", inPlace := ["internal/bytealg.IndexByteString", "slices.overlaps[loop.example/g00247/impl.Box]"], unfollowed := true, recurses := true, apart := false }
def FnExactMakeBoxSaid : Prop := fnExactMakeBoxRow.holds Try.pinned (OpenSpec.ofChange fnExactMakeBoxSpec)

/-- ITS FALSE NEIGHBOUR: 'it returns false'. Refute it at one input. -/
def fnExactMakeBoxWrong : ChangeSpec := { name := "fnExactMakeBox", fn := fun _ => fun
  | [d1, d2] => { results := [.lit (.bool false)], args := [d1, d2] }
  | _ => none }
def FnExactMakeBoxWrongFalsely : Prop := fnExactMakeBoxRow.holds Try.pinned (OpenSpec.ofChange fnExactMakeBoxWrong)

/- THE SECOND FORM. 'bulk': how many values and letters a reading holds, each counted each time it is reached (what is shared counts as often as it is met; a slice's spare places count too). A statement '..UptoSaid' is the law's where the arguments, and the package variables that the reading takes, are together of bulk at most 1048576: NARROWER than '..Said'. Prove '..Said' where nothing that the law and all that it calls make is longer than what came in: it says more and counts as full. Else prove '..UptoSaid'. A law counts once. -/
mutual
def uptoBulk {H : Type} : DataW H → Nat
  | .lit (.string bytes) => bytes.length + 1
  | .lit _ => 1
  | .nil => 1
  | .ptr d => uptoBulk d + 1
  | .slice elems spare => uptoBulkAll elems + uptoBulkAll spare + 1
  | .agg parts => uptoBulkAll parts + 1
  | .iface _ d => uptoBulk d + 1
  | .map entries => uptoBulkEntries entries + 1
  | .held _ => 1
def uptoBulkAll {H : Type} : List (DataW H) → Nat
  | [] => 0
  | d :: r => uptoBulk d + uptoBulkAll r
def uptoBulkEntries {H : Type} : List (Lit × DataW H) → Nat
  | [] => 0
  | x :: r => uptoBulkEntry x + uptoBulkEntries r
def uptoBulkEntry {H : Type} : Lit × DataW H → Nat
  | (.string bytes, d) => bytes.length + uptoBulk d + 1
  | (_, d) => uptoBulk d + 1
 end
def uptoSmall : (H : Type) → List (DataW H) → Bool := fun _ ds => decide (uptoBulkAll ds ≤ 1048576)
def OpenSpec.upto (s : _root_.Go.ChangeSpec) : _root_.Go.OpenSpec := { _root_.Go.OpenSpec.ofChange s with cond := some uptoSmall }

/-- 'laws.FnExactDropBox', WHERE WHAT IT READS IS OF BULK AT MOST 1048576: true; the input reads as it did. -/
def fnExactDropBoxUptoRow : OpenClaim := { program := "ytdnafggminbalaa", sum := "7d91a3ab3b3a9bf884786666db5dba3dba65cf81aede38a87fe2efcde7e9f42c", func := "loop.example/g00247/laws.FnExactDropBox", spec := "fnExactDropBox", inPlace := ["internal/bytealg.IndexByteString"], unfollowed := true, recurses := true, apart := false, narrowed := true }
def FnExactDropBoxUptoSaid : Prop := fnExactDropBoxUptoRow.holds Try.pinned (OpenSpec.upto fnExactDropBoxSpec)

/-- 'laws.FnExactMakeBox', WHERE WHAT IT READS IS OF BULK AT MOST 1048576: true; the input reads as it did. -/
def fnExactMakeBoxUptoRow : OpenClaim := { program := "ytdnafggminbalaa", sum := "7d91a3ab3b3a9bf884786666db5dba3dba65cf81aede38a87fe2efcde7e9f42c", func := "loop.example/g00247/laws.FnExactMakeBox", spec := "fnExactMakeBox", inPlace := ["internal/bytealg.IndexByteString", "slices.overlaps[loop.example/g00247/impl.Box]"], unfollowed := true, recurses := true, apart := false, narrowed := true }
def FnExactMakeBoxUptoSaid : Prop := fnExactMakeBoxUptoRow.holds Try.pinned (OpenSpec.upto fnExactMakeBoxSpec)

end Rows
end Go.Proofs.Ytdnafggminbalaa
