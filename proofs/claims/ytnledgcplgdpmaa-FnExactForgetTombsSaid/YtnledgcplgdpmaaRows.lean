/-
  No cell of these rows narrows 'for every input' (looked for: loops, veiled, ifaces, maps, wideKeys, modest, calm, conditions, laid).
  DERIVED. THE GIVEN ROWS OF THIS SEAT. 12 by the template 'for every input the law returns true; each argument reads behind the call as it read before'; 0 by the template 'total and deterministic' (their statements: YtnledgcplgdpmaaTotals.lean).
  GIVEN WITH THE SEED: the statements are not yours to turn. If you find one false, say at which input.
  Laid BY PROGRAM, IN A SANDBOX (cutbox-rows.mjs): the forced cells as the released guide's own fill.sh prints them over the translation b3ceaf51cfafbcf5… (all of the seat's roots in one cut). By AI agents, Wed Nov 11 2026. No macro, syntax, notation, axiom, sorry.
-/
import Derived.Test.YtnledgcplgdpmaaChecked
import GoSem.Claim
import GoSem.ClaimJoined
import GoSem.ClaimMapViews
import Derived.JoinedTies
import Derived.KernelRfl
namespace Go.Proofs.Ytnledgcplgdpmaa
/- THE CELL 'sum', in the pinned program and in every row, IS THE sha256 OF THE DUMP (.gsa) THAT YtnledgcplgdpmaaProg.lean LOADS. Nothing in Lean hashes anything: it is a label: what it is worth is what the hold of that sum in a sandbox is worth. -/
noncomputable def Try.pinned : Pinned := { name := "ytnledgcplgdpmaa", sum := "b3ceaf51cfafbcf5bb4a27965ccce64f6497c0ecdf2eea49c684f9df2d2d4c44", checked := Try.checked }
namespace Rows
def none {H : Type} : Left H := { results := [], args := [] }

/-- 'laws.FnExactChanged': WHATEVER THE INPUT: true; the input reads as it did. -/
def fnExactChangedSpec : ChangeSpec := { name := "fnExactChanged", fn := fun _ => fun
  | [d1, d2] => { results := [.lit (.bool true)], args := [d1, d2] }
  | _ => none }
def fnExactChangedRow : OpenClaim := { program := "ytnledgcplgdpmaa", sum := "b3ceaf51cfafbcf5bb4a27965ccce64f6497c0ecdf2eea49c684f9df2d2d4c44", func := "loop.example/g00247/laws.FnExactChanged", spec := "fnExactChanged", apart := false }
def FnExactChangedSaid : Prop := fnExactChangedRow.holds Try.pinned (OpenSpec.ofChange fnExactChangedSpec)

/-- ITS FALSE NEIGHBOUR: 'it returns false'. Refute it at one input. -/
def fnExactChangedWrong : ChangeSpec := { name := "fnExactChanged", fn := fun _ => fun
  | [d1, d2] => { results := [.lit (.bool false)], args := [d1, d2] }
  | _ => none }
def FnExactChangedWrongFalsely : Prop := fnExactChangedRow.holds Try.pinned (OpenSpec.ofChange fnExactChangedWrong)

/-- 'laws.FnExactViewOf': WHATEVER THE INPUT: true; the input reads as it did. -/
def fnExactViewOfSpec : ChangeSpec := { name := "fnExactViewOf", fn := fun _ => fun
  | [d] => { results := [.lit (.bool true)], args := [d] }
  | _ => none }
def fnExactViewOfRow : OpenClaim := { program := "ytnledgcplgdpmaa", sum := "b3ceaf51cfafbcf5bb4a27965ccce64f6497c0ecdf2eea49c684f9df2d2d4c44", func := "loop.example/g00247/laws.FnExactViewOf", spec := "fnExactViewOf", apart := false }
def FnExactViewOfSaid : Prop := fnExactViewOfRow.holds Try.pinned (OpenSpec.ofChange fnExactViewOfSpec)

/-- ITS FALSE NEIGHBOUR: 'it returns false'. Refute it at one input. -/
def fnExactViewOfWrong : ChangeSpec := { name := "fnExactViewOf", fn := fun _ => fun
  | [d] => { results := [.lit (.bool false)], args := [d] }
  | _ => none }
def FnExactViewOfWrongFalsely : Prop := fnExactViewOfRow.holds Try.pinned (OpenSpec.ofChange fnExactViewOfWrong)

/-- 'laws.FnExactBoxOk': WHATEVER THE INPUT: true; the input reads as it did. -/
def fnExactBoxOkSpec : ChangeSpec := { name := "fnExactBoxOk", fn := fun _ => fun
  | [d] => { results := [.lit (.bool true)], args := [d] }
  | _ => none }
def fnExactBoxOkRow : OpenClaim := { program := "ytnledgcplgdpmaa", sum := "b3ceaf51cfafbcf5bb4a27965ccce64f6497c0ecdf2eea49c684f9df2d2d4c44", func := "loop.example/g00247/laws.FnExactBoxOk", spec := "fnExactBoxOk", inPlace := ["internal/bytealg.IndexByteString"], unfollowed := true, recurses := true, apart := false }
def FnExactBoxOkSaid : Prop := fnExactBoxOkRow.holds Try.pinned (OpenSpec.ofChange fnExactBoxOkSpec)

/-- ITS FALSE NEIGHBOUR: 'it returns false'. Refute it at one input. -/
def fnExactBoxOkWrong : ChangeSpec := { name := "fnExactBoxOk", fn := fun _ => fun
  | [d] => { results := [.lit (.bool false)], args := [d] }
  | _ => none }
def FnExactBoxOkWrongFalsely : Prop := fnExactBoxOkRow.holds Try.pinned (OpenSpec.ofChange fnExactBoxOkWrong)

/-- 'laws.FnExactBoxNew': WHATEVER THE INPUT: true; the input reads as it did. -/
def fnExactBoxNewSpec : ChangeSpec := { name := "fnExactBoxNew", fn := fun _ => fun
  | [d1, d2] => { results := [.lit (.bool true)], args := [d1, d2] }
  | _ => none }
def fnExactBoxNewRow : OpenClaim := { program := "ytnledgcplgdpmaa", sum := "b3ceaf51cfafbcf5bb4a27965ccce64f6497c0ecdf2eea49c684f9df2d2d4c44", func := "loop.example/g00247/laws.FnExactBoxNew", spec := "fnExactBoxNew", inPlace := ["internal/bytealg.IndexByteString"], unfollowed := true, recurses := true, apart := false }
def FnExactBoxNewSaid : Prop := fnExactBoxNewRow.holds Try.pinned (OpenSpec.ofChange fnExactBoxNewSpec)

/-- ITS FALSE NEIGHBOUR: 'it returns false'. Refute it at one input. -/
def fnExactBoxNewWrong : ChangeSpec := { name := "fnExactBoxNew", fn := fun _ => fun
  | [d1, d2] => { results := [.lit (.bool false)], args := [d1, d2] }
  | _ => none }
def FnExactBoxNewWrongFalsely : Prop := fnExactBoxNewRow.holds Try.pinned (OpenSpec.ofChange fnExactBoxNewWrong)

/-- 'laws.FnExactStoreOk': WHATEVER THE INPUT: true; the input reads as it did. -/
def fnExactStoreOkSpec : ChangeSpec := { name := "fnExactStoreOk", fn := fun _ => fun
  | [d] => { results := [.lit (.bool true)], args := [d] }
  | _ => none }
def fnExactStoreOkRow : OpenClaim := { program := "ytnledgcplgdpmaa", sum := "b3ceaf51cfafbcf5bb4a27965ccce64f6497c0ecdf2eea49c684f9df2d2d4c44", func := "loop.example/g00247/laws.FnExactStoreOk", spec := "fnExactStoreOk", inPlace := ["internal/bytealg.IndexByteString"], unfollowed := true, recurses := true, apart := false }
def FnExactStoreOkSaid : Prop := fnExactStoreOkRow.holds Try.pinned (OpenSpec.ofChange fnExactStoreOkSpec)

/-- ITS FALSE NEIGHBOUR: 'it returns false'. Refute it at one input. -/
def fnExactStoreOkWrong : ChangeSpec := { name := "fnExactStoreOk", fn := fun _ => fun
  | [d] => { results := [.lit (.bool false)], args := [d] }
  | _ => none }
def FnExactStoreOkWrongFalsely : Prop := fnExactStoreOkRow.holds Try.pinned (OpenSpec.ofChange fnExactStoreOkWrong)

/-- 'laws.FnExactBoxAt': WHATEVER THE INPUT: true; the input reads as it did. -/
def fnExactBoxAtSpec : ChangeSpec := { name := "fnExactBoxAt", fn := fun _ => fun
  | [d1, d2] => { results := [.lit (.bool true)], args := [d1, d2] }
  | _ => none }
def fnExactBoxAtRow : OpenClaim := { program := "ytnledgcplgdpmaa", sum := "b3ceaf51cfafbcf5bb4a27965ccce64f6497c0ecdf2eea49c684f9df2d2d4c44", func := "loop.example/g00247/laws.FnExactBoxAt", spec := "fnExactBoxAt", unfollowed := true, recurses := true, apart := false }
def FnExactBoxAtSaid : Prop := fnExactBoxAtRow.holds Try.pinned (OpenSpec.ofChange fnExactBoxAtSpec)

/-- ITS FALSE NEIGHBOUR: 'it returns false'. Refute it at one input. -/
def fnExactBoxAtWrong : ChangeSpec := { name := "fnExactBoxAt", fn := fun _ => fun
  | [d1, d2] => { results := [.lit (.bool false)], args := [d1, d2] }
  | _ => none }
def FnExactBoxAtWrongFalsely : Prop := fnExactBoxAtRow.holds Try.pinned (OpenSpec.ofChange fnExactBoxAtWrong)

/-- 'laws.FnExactStoreNew': WHATEVER THE INPUT: true; the input reads as it did. -/
def fnExactStoreNewSpec : ChangeSpec := { name := "fnExactStoreNew", fn := fun _ => fun
  | [] => { results := [.lit (.bool true)], args := [] }
  | _ => none }
def fnExactStoreNewRow : OpenClaim := { program := "ytnledgcplgdpmaa", sum := "b3ceaf51cfafbcf5bb4a27965ccce64f6497c0ecdf2eea49c684f9df2d2d4c44", func := "loop.example/g00247/laws.FnExactStoreNew", spec := "fnExactStoreNew", inPlace := ["internal/bytealg.IndexByteString"], unfollowed := true, recurses := true, apart := false }
def FnExactStoreNewSaid : Prop := fnExactStoreNewRow.holds Try.pinned (OpenSpec.ofChange fnExactStoreNewSpec)

/-- ITS FALSE NEIGHBOUR: 'it returns false'. Refute it at one input. -/
def fnExactStoreNewWrong : ChangeSpec := { name := "fnExactStoreNew", fn := fun _ => fun
  | [] => { results := [.lit (.bool false)], args := [] }
  | _ => none }
def FnExactStoreNewWrongFalsely : Prop := fnExactStoreNewRow.holds Try.pinned (OpenSpec.ofChange fnExactStoreNewWrong)

/-- 'laws.FnExactAddMail': WHATEVER THE INPUT: true; the input reads as it did. -/
def fnExactAddMailSpec : ChangeSpec := { name := "fnExactAddMail", fn := fun _ => fun
  | [d1, d2, d3] => { results := [.lit (.bool true)], args := [d1, d2, d3] }
  | _ => none }
def fnExactAddMailRow : OpenClaim := { program := "ytnledgcplgdpmaa", sum := "b3ceaf51cfafbcf5bb4a27965ccce64f6497c0ecdf2eea49c684f9df2d2d4c44", func := "loop.example/g00247/laws.FnExactAddMail", spec := "fnExactAddMail", inPlace := ["internal/bytealg.IndexByteString"], unfollowed := true, recurses := true, apart := false }
def FnExactAddMailSaid : Prop := fnExactAddMailRow.holds Try.pinned (OpenSpec.ofChange fnExactAddMailSpec)

/-- ITS FALSE NEIGHBOUR: 'it returns false'. Refute it at one input. -/
def fnExactAddMailWrong : ChangeSpec := { name := "fnExactAddMail", fn := fun _ => fun
  | [d1, d2, d3] => { results := [.lit (.bool false)], args := [d1, d2, d3] }
  | _ => none }
def FnExactAddMailWrongFalsely : Prop := fnExactAddMailRow.holds Try.pinned (OpenSpec.ofChange fnExactAddMailWrong)

/-- 'laws.FnExactPutBox': WHATEVER THE INPUT: true; the input reads as it did. -/
def fnExactPutBoxSpec : ChangeSpec := { name := "fnExactPutBox", fn := fun _ => fun
  | [d1, d2] => { results := [.lit (.bool true)], args := [d1, d2] }
  | _ => none }
def fnExactPutBoxRow : OpenClaim := { program := "ytnledgcplgdpmaa", sum := "b3ceaf51cfafbcf5bb4a27965ccce64f6497c0ecdf2eea49c684f9df2d2d4c44", func := "loop.example/g00247/laws.FnExactPutBox", spec := "fnExactPutBox", unfollowed := true, recurses := true, apart := false }
def FnExactPutBoxSaid : Prop := fnExactPutBoxRow.holds Try.pinned (OpenSpec.ofChange fnExactPutBoxSpec)

/-- ITS FALSE NEIGHBOUR: 'it returns false'. Refute it at one input. -/
def fnExactPutBoxWrong : ChangeSpec := { name := "fnExactPutBox", fn := fun _ => fun
  | [d1, d2] => { results := [.lit (.bool false)], args := [d1, d2] }
  | _ => none }
def FnExactPutBoxWrongFalsely : Prop := fnExactPutBoxRow.holds Try.pinned (OpenSpec.ofChange fnExactPutBoxWrong)

/-- 'laws.FnExactForgetTombs': WHATEVER THE INPUT: true; the input reads as it did. -/
def fnExactForgetTombsSpec : ChangeSpec := { name := "fnExactForgetTombs", fn := fun _ => fun
  | [d1, d2] => { results := [.lit (.bool true)], args := [d1, d2] }
  | _ => none }
def fnExactForgetTombsRow : OpenClaim := { program := "ytnledgcplgdpmaa", sum := "b3ceaf51cfafbcf5bb4a27965ccce64f6497c0ecdf2eea49c684f9df2d2d4c44", func := "loop.example/g00247/laws.FnExactForgetTombs", spec := "fnExactForgetTombs", inPlace := ["internal/bytealg.IndexByteString"], unfollowed := true, recurses := true, apart := false }
def FnExactForgetTombsSaid : Prop := fnExactForgetTombsRow.holds Try.pinned (OpenSpec.ofChange fnExactForgetTombsSpec)

/-- ITS FALSE NEIGHBOUR: 'it returns false'. Refute it at one input. -/
def fnExactForgetTombsWrong : ChangeSpec := { name := "fnExactForgetTombs", fn := fun _ => fun
  | [d1, d2] => { results := [.lit (.bool false)], args := [d1, d2] }
  | _ => none }
def FnExactForgetTombsWrongFalsely : Prop := fnExactForgetTombsRow.holds Try.pinned (OpenSpec.ofChange fnExactForgetTombsWrong)

/-- 'laws.FnExactDropBox': WHATEVER THE INPUT: true; the input reads as it did. -/
def fnExactDropBoxSpec : ChangeSpec := { name := "fnExactDropBox", fn := fun _ => fun
  | [d1, d2] => { results := [.lit (.bool true)], args := [d1, d2] }
  | _ => none }
def fnExactDropBoxRow : OpenClaim := { program := "ytnledgcplgdpmaa", sum := "b3ceaf51cfafbcf5bb4a27965ccce64f6497c0ecdf2eea49c684f9df2d2d4c44", func := "loop.example/g00247/laws.FnExactDropBox", spec := "fnExactDropBox", inPlace := ["internal/bytealg.IndexByteString"], unfollowed := true, recurses := true, apart := false }
def FnExactDropBoxSaid : Prop := fnExactDropBoxRow.holds Try.pinned (OpenSpec.ofChange fnExactDropBoxSpec)

/-- ITS FALSE NEIGHBOUR: 'it returns false'. Refute it at one input. -/
def fnExactDropBoxWrong : ChangeSpec := { name := "fnExactDropBox", fn := fun _ => fun
  | [d1, d2] => { results := [.lit (.bool false)], args := [d1, d2] }
  | _ => none }
def FnExactDropBoxWrongFalsely : Prop := fnExactDropBoxRow.holds Try.pinned (OpenSpec.ofChange fnExactDropBoxWrong)

/-- 'laws.FnExactMakeBox': WHATEVER THE INPUT: true; the input reads as it did. -/
def fnExactMakeBoxSpec : ChangeSpec := { name := "fnExactMakeBox", fn := fun _ => fun
  | [d1, d2] => { results := [.lit (.bool true)], args := [d1, d2] }
  | _ => none }
def fnExactMakeBoxRow : OpenClaim := { program := "ytnledgcplgdpmaa", sum := "b3ceaf51cfafbcf5bb4a27965ccce64f6497c0ecdf2eea49c684f9df2d2d4c44", func := "loop.example/g00247/laws.FnExactMakeBox", spec := "fnExactMakeBox", inPlace := ["internal/bytealg.IndexByteString", "slices.overlaps[loop.example/g00247/impl.Box]"], unfollowed := true, recurses := true, apart := false }
def FnExactMakeBoxSaid : Prop := fnExactMakeBoxRow.holds Try.pinned (OpenSpec.ofChange fnExactMakeBoxSpec)

/-- ITS FALSE NEIGHBOUR: 'it returns false'. Refute it at one input. -/
def fnExactMakeBoxWrong : ChangeSpec := { name := "fnExactMakeBox", fn := fun _ => fun
  | [d1, d2] => { results := [.lit (.bool false)], args := [d1, d2] }
  | _ => none }
def FnExactMakeBoxWrongFalsely : Prop := fnExactMakeBoxRow.holds Try.pinned (OpenSpec.ofChange fnExactMakeBoxWrong)

/- THE SECOND FORM. 'bulk': how many values and letters a reading holds, each counted each time it is reached (what is shared counts as often as it is met; a slice's spare places count too). A statement '..UptoSaid' is the law's where the arguments, and the package variables that the reading takes, are together of bulk at most 1048576: NARROWER than '..Said'. Prove '..Said' where nothing that the law and all that it calls make is longer than what came in: it says more and counts as full. Else prove '..UptoSaid'. A law counts once. -/
mutual
def uptoBulk {H : Type} : DataW H → Nat
  | .lit (.string bytes) => bytes.length + 1
  | .lit _ => 1
  | .nil => 1
  | .ptr d => uptoBulk d + 1
  | .slice elems spare => uptoBulkAll elems + uptoBulkAll spare + 1
  | .agg parts => uptoBulkAll parts + 1
  | .iface _ d => uptoBulk d + 1
  | .map entries => uptoBulkEntries entries + 1
  | .held _ => 1
def uptoBulkAll {H : Type} : List (DataW H) → Nat
  | [] => 0
  | d :: r => uptoBulk d + uptoBulkAll r
def uptoBulkEntries {H : Type} : List (Lit × DataW H) → Nat
  | [] => 0
  | x :: r => uptoBulkEntry x + uptoBulkEntries r
def uptoBulkEntry {H : Type} : Lit × DataW H → Nat
  | (.string bytes, d) => bytes.length + uptoBulk d + 1
  | (_, d) => uptoBulk d + 1
 end
def uptoSmall : (H : Type) → List (DataW H) → Bool := fun _ ds => decide (uptoBulkAll ds ≤ 1048576)
def OpenSpec.upto (s : _root_.Go.ChangeSpec) : _root_.Go.OpenSpec := { _root_.Go.OpenSpec.ofChange s with cond := some uptoSmall }

/-- 'laws.FnExactChanged', WHERE WHAT IT READS IS OF BULK AT MOST 1048576: true; the input reads as it did. -/
def fnExactChangedUptoRow : OpenClaim := { program := "ytnledgcplgdpmaa", sum := "b3ceaf51cfafbcf5bb4a27965ccce64f6497c0ecdf2eea49c684f9df2d2d4c44", func := "loop.example/g00247/laws.FnExactChanged", spec := "fnExactChanged", apart := false, narrowed := true }
def FnExactChangedUptoSaid : Prop := fnExactChangedUptoRow.holds Try.pinned (OpenSpec.upto fnExactChangedSpec)

/-- 'laws.FnExactViewOf', WHERE WHAT IT READS IS OF BULK AT MOST 1048576: true; the input reads as it did. -/
def fnExactViewOfUptoRow : OpenClaim := { program := "ytnledgcplgdpmaa", sum := "b3ceaf51cfafbcf5bb4a27965ccce64f6497c0ecdf2eea49c684f9df2d2d4c44", func := "loop.example/g00247/laws.FnExactViewOf", spec := "fnExactViewOf", apart := false, narrowed := true }
def FnExactViewOfUptoSaid : Prop := fnExactViewOfUptoRow.holds Try.pinned (OpenSpec.upto fnExactViewOfSpec)

/-- 'laws.FnExactBoxOk', WHERE WHAT IT READS IS OF BULK AT MOST 1048576: true; the input reads as it did. -/
def fnExactBoxOkUptoRow : OpenClaim := { program := "ytnledgcplgdpmaa", sum := "b3ceaf51cfafbcf5bb4a27965ccce64f6497c0ecdf2eea49c684f9df2d2d4c44", func := "loop.example/g00247/laws.FnExactBoxOk", spec := "fnExactBoxOk", inPlace := ["internal/bytealg.IndexByteString"], unfollowed := true, recurses := true, apart := false, narrowed := true }
def FnExactBoxOkUptoSaid : Prop := fnExactBoxOkUptoRow.holds Try.pinned (OpenSpec.upto fnExactBoxOkSpec)

/-- 'laws.FnExactBoxNew', WHERE WHAT IT READS IS OF BULK AT MOST 1048576: true; the input reads as it did. -/
def fnExactBoxNewUptoRow : OpenClaim := { program := "ytnledgcplgdpmaa", sum := "b3ceaf51cfafbcf5bb4a27965ccce64f6497c0ecdf2eea49c684f9df2d2d4c44", func := "loop.example/g00247/laws.FnExactBoxNew", spec := "fnExactBoxNew", inPlace := ["internal/bytealg.IndexByteString"], unfollowed := true, recurses := true, apart := false, narrowed := true }
def FnExactBoxNewUptoSaid : Prop := fnExactBoxNewUptoRow.holds Try.pinned (OpenSpec.upto fnExactBoxNewSpec)

/-- 'laws.FnExactStoreOk', WHERE WHAT IT READS IS OF BULK AT MOST 1048576: true; the input reads as it did. -/
def fnExactStoreOkUptoRow : OpenClaim := { program := "ytnledgcplgdpmaa", sum := "b3ceaf51cfafbcf5bb4a27965ccce64f6497c0ecdf2eea49c684f9df2d2d4c44", func := "loop.example/g00247/laws.FnExactStoreOk", spec := "fnExactStoreOk", inPlace := ["internal/bytealg.IndexByteString"], unfollowed := true, recurses := true, apart := false, narrowed := true }
def FnExactStoreOkUptoSaid : Prop := fnExactStoreOkUptoRow.holds Try.pinned (OpenSpec.upto fnExactStoreOkSpec)

/-- 'laws.FnExactBoxAt', WHERE WHAT IT READS IS OF BULK AT MOST 1048576: true; the input reads as it did. -/
def fnExactBoxAtUptoRow : OpenClaim := { program := "ytnledgcplgdpmaa", sum := "b3ceaf51cfafbcf5bb4a27965ccce64f6497c0ecdf2eea49c684f9df2d2d4c44", func := "loop.example/g00247/laws.FnExactBoxAt", spec := "fnExactBoxAt", unfollowed := true, recurses := true, apart := false, narrowed := true }
def FnExactBoxAtUptoSaid : Prop := fnExactBoxAtUptoRow.holds Try.pinned (OpenSpec.upto fnExactBoxAtSpec)

/-- 'laws.FnExactStoreNew', WHERE WHAT IT READS IS OF BULK AT MOST 1048576: true; the input reads as it did. -/
def fnExactStoreNewUptoRow : OpenClaim := { program := "ytnledgcplgdpmaa", sum := "b3ceaf51cfafbcf5bb4a27965ccce64f6497c0ecdf2eea49c684f9df2d2d4c44", func := "loop.example/g00247/laws.FnExactStoreNew", spec := "fnExactStoreNew", inPlace := ["internal/bytealg.IndexByteString"], unfollowed := true, recurses := true, apart := false, narrowed := true }
def FnExactStoreNewUptoSaid : Prop := fnExactStoreNewUptoRow.holds Try.pinned (OpenSpec.upto fnExactStoreNewSpec)

/-- 'laws.FnExactAddMail', WHERE WHAT IT READS IS OF BULK AT MOST 1048576: true; the input reads as it did. -/
def fnExactAddMailUptoRow : OpenClaim := { program := "ytnledgcplgdpmaa", sum := "b3ceaf51cfafbcf5bb4a27965ccce64f6497c0ecdf2eea49c684f9df2d2d4c44", func := "loop.example/g00247/laws.FnExactAddMail", spec := "fnExactAddMail", inPlace := ["internal/bytealg.IndexByteString"], unfollowed := true, recurses := true, apart := false, narrowed := true }
def FnExactAddMailUptoSaid : Prop := fnExactAddMailUptoRow.holds Try.pinned (OpenSpec.upto fnExactAddMailSpec)

/-- 'laws.FnExactPutBox', WHERE WHAT IT READS IS OF BULK AT MOST 1048576: true; the input reads as it did. -/
def fnExactPutBoxUptoRow : OpenClaim := { program := "ytnledgcplgdpmaa", sum := "b3ceaf51cfafbcf5bb4a27965ccce64f6497c0ecdf2eea49c684f9df2d2d4c44", func := "loop.example/g00247/laws.FnExactPutBox", spec := "fnExactPutBox", unfollowed := true, recurses := true, apart := false, narrowed := true }
def FnExactPutBoxUptoSaid : Prop := fnExactPutBoxUptoRow.holds Try.pinned (OpenSpec.upto fnExactPutBoxSpec)

/-- 'laws.FnExactForgetTombs', WHERE WHAT IT READS IS OF BULK AT MOST 1048576: true; the input reads as it did. -/
def fnExactForgetTombsUptoRow : OpenClaim := { program := "ytnledgcplgdpmaa", sum := "b3ceaf51cfafbcf5bb4a27965ccce64f6497c0ecdf2eea49c684f9df2d2d4c44", func := "loop.example/g00247/laws.FnExactForgetTombs", spec := "fnExactForgetTombs", inPlace := ["internal/bytealg.IndexByteString"], unfollowed := true, recurses := true, apart := false, narrowed := true }
def FnExactForgetTombsUptoSaid : Prop := fnExactForgetTombsUptoRow.holds Try.pinned (OpenSpec.upto fnExactForgetTombsSpec)

/-- 'laws.FnExactDropBox', WHERE WHAT IT READS IS OF BULK AT MOST 1048576: true; the input reads as it did. -/
def fnExactDropBoxUptoRow : OpenClaim := { program := "ytnledgcplgdpmaa", sum := "b3ceaf51cfafbcf5bb4a27965ccce64f6497c0ecdf2eea49c684f9df2d2d4c44", func := "loop.example/g00247/laws.FnExactDropBox", spec := "fnExactDropBox", inPlace := ["internal/bytealg.IndexByteString"], unfollowed := true, recurses := true, apart := false, narrowed := true }
def FnExactDropBoxUptoSaid : Prop := fnExactDropBoxUptoRow.holds Try.pinned (OpenSpec.upto fnExactDropBoxSpec)

/-- 'laws.FnExactMakeBox', WHERE WHAT IT READS IS OF BULK AT MOST 1048576: true; the input reads as it did. -/
def fnExactMakeBoxUptoRow : OpenClaim := { program := "ytnledgcplgdpmaa", sum := "b3ceaf51cfafbcf5bb4a27965ccce64f6497c0ecdf2eea49c684f9df2d2d4c44", func := "loop.example/g00247/laws.FnExactMakeBox", spec := "fnExactMakeBox", inPlace := ["internal/bytealg.IndexByteString", "slices.overlaps[loop.example/g00247/impl.Box]"], unfollowed := true, recurses := true, apart := false, narrowed := true }
def FnExactMakeBoxUptoSaid : Prop := fnExactMakeBoxUptoRow.holds Try.pinned (OpenSpec.upto fnExactMakeBoxSpec)

end Rows
end Go.Proofs.Ytnledgcplgdpmaa
