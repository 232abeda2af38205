/-
  No cell of these rows narrows 'for every input' (looked for: loops, veiled, ifaces, maps, wideKeys, modest, calm, conditions, laid).
  DERIVED. THE GIVEN ROWS OF THIS SEAT. 6 by the template 'for every input the law returns true; each argument reads behind the call as it read before'; 0 by the template 'total and deterministic' (their statements: YtglldabpgobimaaTotals.lean).
  GIVEN WITH THE SEED: the statements are not yours to turn. If you find one false, say at which input.
  Laid BY PROGRAM, IN A SANDBOX (cutbox-rows.mjs): the forced cells as the released guide's own fill.sh prints them over the translation e7e9cda3c7938f38… (all of the seat's roots in one cut). By AI agents, Wed Nov 11 2026. No macro, syntax, notation, axiom, sorry.
-/
import Derived.Test.YtglldabpgobimaaChecked
import GoSem.Claim
import GoSem.ClaimJoined
import GoSem.ClaimMapViews
import Derived.JoinedTies
import Derived.KernelRfl
namespace Go.Proofs.Ytglldabpgobimaa
/- THE CELL 'sum', in the pinned program and in every row, IS THE sha256 OF THE DUMP (.gsa) THAT YtglldabpgobimaaProg.lean LOADS. Nothing in Lean hashes anything: it is a label: what it is worth is what the hold of that sum in a sandbox is worth. -/
noncomputable def Try.pinned : Pinned := { name := "ytglldabpgobimaa", sum := "e7e9cda3c7938f38a421cdc3ba06d4ceadee68cbb31e51ea77a317b3eee9703e", checked := Try.checked }
namespace Rows
def none {H : Type} : Left H := { results := [], args := [] }

/-- 'laws.FnExactSetFlags': WHATEVER THE INPUT: true; the input reads as it did. -/
def fnExactSetFlagsSpec : ChangeSpec := { name := "fnExactSetFlags", fn := fun _ => fun
  | [d1, d2, d3, d4, d5] => { results := [.lit (.bool true)], args := [d1, d2, d3, d4, d5] }
  | _ => none }
def fnExactSetFlagsRow : OpenClaim := { program := "ytglldabpgobimaa", sum := "e7e9cda3c7938f38a421cdc3ba06d4ceadee68cbb31e51ea77a317b3eee9703e", func := "loop.example/g00247/laws.FnExactSetFlags", spec := "fnExactSetFlags", inPlace := ["internal/bytealg.IndexByteString"], unfollowed := true, recurses := true, apart := false }
def FnExactSetFlagsSaid : Prop := fnExactSetFlagsRow.holds Try.pinned (OpenSpec.ofChange fnExactSetFlagsSpec)

/-- ITS FALSE NEIGHBOUR: 'it returns false'. Refute it at one input. -/
def fnExactSetFlagsWrong : ChangeSpec := { name := "fnExactSetFlags", fn := fun _ => fun
  | [d1, d2, d3, d4, d5] => { results := [.lit (.bool false)], args := [d1, d2, d3, d4, d5] }
  | _ => none }
def FnExactSetFlagsWrongFalsely : Prop := fnExactSetFlagsRow.holds Try.pinned (OpenSpec.ofChange fnExactSetFlagsWrong)

/-- 'laws.FnExactExpunge': WHATEVER THE INPUT: true; the input reads as it did. -/
def fnExactExpungeSpec : ChangeSpec := { name := "fnExactExpunge", fn := fun _ => fun
  | [d1, d2] => { results := [.lit (.bool true)], args := [d1, d2] }
  | _ => none }
def fnExactExpungeRow : OpenClaim := { program := "ytglldabpgobimaa", sum := "e7e9cda3c7938f38a421cdc3ba06d4ceadee68cbb31e51ea77a317b3eee9703e", func := "loop.example/g00247/laws.FnExactExpunge", spec := "fnExactExpunge", inPlace := ["internal/bytealg.IndexByteString"], unfollowed := true, recurses := true, apart := false }
def FnExactExpungeSaid : Prop := fnExactExpungeRow.holds Try.pinned (OpenSpec.ofChange fnExactExpungeSpec)

/-- ITS FALSE NEIGHBOUR: 'it returns false'. Refute it at one input. -/
def fnExactExpungeWrong : ChangeSpec := { name := "fnExactExpunge", fn := fun _ => fun
  | [d1, d2] => { results := [.lit (.bool false)], args := [d1, d2] }
  | _ => none }
def FnExactExpungeWrongFalsely : Prop := fnExactExpungeRow.holds Try.pinned (OpenSpec.ofChange fnExactExpungeWrong)

/-- 'laws.FnExactVanished': WHATEVER THE INPUT: true; the input reads as it did. -/
def fnExactVanishedSpec : ChangeSpec := { name := "fnExactVanished", fn := fun _ => fun
  | [d1, d2] => { results := [.lit (.bool true)], args := [d1, d2] }
  | _ => none }
def fnExactVanishedRow : OpenClaim := { program := "ytglldabpgobimaa", sum := "e7e9cda3c7938f38a421cdc3ba06d4ceadee68cbb31e51ea77a317b3eee9703e", func := "loop.example/g00247/laws.FnExactVanished", spec := "fnExactVanished", inPlace := ["internal/bytealg.IndexByteString"], unfollowed := true, recurses := true, apart := false }
def FnExactVanishedSaid : Prop := fnExactVanishedRow.holds Try.pinned (OpenSpec.ofChange fnExactVanishedSpec)

/-- ITS FALSE NEIGHBOUR: 'it returns false'. Refute it at one input. -/
def fnExactVanishedWrong : ChangeSpec := { name := "fnExactVanished", fn := fun _ => fun
  | [d1, d2] => { results := [.lit (.bool false)], args := [d1, d2] }
  | _ => none }
def FnExactVanishedWrongFalsely : Prop := fnExactVanishedRow.holds Try.pinned (OpenSpec.ofChange fnExactVanishedWrong)

/-- 'laws.FnExactCopyMails': WHATEVER THE INPUT: true; the input reads as it did. -/
def fnExactCopyMailsSpec : ChangeSpec := { name := "fnExactCopyMails", fn := fun _ => fun
  | [d1, d2, d3, d4] => { results := [.lit (.bool true)], args := [d1, d2, d3, d4] }
  | _ => none }
def fnExactCopyMailsRow : OpenClaim := { program := "ytglldabpgobimaa", sum := "e7e9cda3c7938f38a421cdc3ba06d4ceadee68cbb31e51ea77a317b3eee9703e", func := "loop.example/g00247/laws.FnExactCopyMails", spec := "fnExactCopyMails", inPlace := ["internal/bytealg.IndexByteString"], unfollowed := true, recurses := true, apart := false }
def FnExactCopyMailsSaid : Prop := fnExactCopyMailsRow.holds Try.pinned (OpenSpec.ofChange fnExactCopyMailsSpec)

/-- ITS FALSE NEIGHBOUR: 'it returns false'. Refute it at one input. -/
def fnExactCopyMailsWrong : ChangeSpec := { name := "fnExactCopyMails", fn := fun _ => fun
  | [d1, d2, d3, d4] => { results := [.lit (.bool false)], args := [d1, d2, d3, d4] }
  | _ => none }
def FnExactCopyMailsWrongFalsely : Prop := fnExactCopyMailsRow.holds Try.pinned (OpenSpec.ofChange fnExactCopyMailsWrong)

/-- 'laws.FnExactMoveMails': WHATEVER THE INPUT: true; the input reads as it did. -/
def fnExactMoveMailsSpec : ChangeSpec := { name := "fnExactMoveMails", fn := fun _ => fun
  | [d1, d2, d3, d4] => { results := [.lit (.bool true)], args := [d1, d2, d3, d4] }
  | _ => none }
def fnExactMoveMailsRow : OpenClaim := { program := "ytglldabpgobimaa", sum := "e7e9cda3c7938f38a421cdc3ba06d4ceadee68cbb31e51ea77a317b3eee9703e", func := "loop.example/g00247/laws.FnExactMoveMails", spec := "fnExactMoveMails", inPlace := ["internal/bytealg.IndexByteString"], unfollowed := true, recurses := true, apart := false }
def FnExactMoveMailsSaid : Prop := fnExactMoveMailsRow.holds Try.pinned (OpenSpec.ofChange fnExactMoveMailsSpec)

/-- ITS FALSE NEIGHBOUR: 'it returns false'. Refute it at one input. -/
def fnExactMoveMailsWrong : ChangeSpec := { name := "fnExactMoveMails", fn := fun _ => fun
  | [d1, d2, d3, d4] => { results := [.lit (.bool false)], args := [d1, d2, d3, d4] }
  | _ => none }
def FnExactMoveMailsWrongFalsely : Prop := fnExactMoveMailsRow.holds Try.pinned (OpenSpec.ofChange fnExactMoveMailsWrong)

/-- 'laws.FnForgets': WHATEVER THE INPUT: true; the input reads as it did. -/
def fnForgetsSpec : ChangeSpec := { name := "fnForgets", fn := fun _ => fun
  | [d] => { results := [.lit (.bool true)], args := [d] }
  | _ => none }
def fnForgetsRow : OpenClaim := { program := "ytglldabpgobimaa", sum := "e7e9cda3c7938f38a421cdc3ba06d4ceadee68cbb31e51ea77a317b3eee9703e", func := "loop.example/g00247/laws.FnForgets", spec := "fnForgets", inPlace := ["internal/bytealg.IndexByteString"], unfollowed := true, recurses := true, apart := false }
def FnForgetsSaid : Prop := fnForgetsRow.holds Try.pinned (OpenSpec.ofChange fnForgetsSpec)

/-- ITS FALSE NEIGHBOUR: 'it returns false'. Refute it at one input. -/
def fnForgetsWrong : ChangeSpec := { name := "fnForgets", fn := fun _ => fun
  | [d] => { results := [.lit (.bool false)], args := [d] }
  | _ => none }
def FnForgetsWrongFalsely : Prop := fnForgetsRow.holds Try.pinned (OpenSpec.ofChange fnForgetsWrong)

/- THE SECOND FORM. 'bulk': how many values and letters a reading holds, each counted each time it is reached (what is shared counts as often as it is met; a slice's spare places count too). A statement '..UptoSaid' is the law's where the arguments, and the package variables that the reading takes, are together of bulk at most 1048576: NARROWER than '..Said'. Prove '..Said' where nothing that the law and all that it calls make is longer than what came in: it says more and counts as full. Else prove '..UptoSaid'. A law counts once. -/
mutual
def uptoBulk {H : Type} : DataW H → Nat
  | .lit (.string bytes) => bytes.length + 1
  | .lit _ => 1
  | .nil => 1
  | .ptr d => uptoBulk d + 1
  | .slice elems spare => uptoBulkAll elems + uptoBulkAll spare + 1
  | .agg parts => uptoBulkAll parts + 1
  | .iface _ d => uptoBulk d + 1
  | .map entries => uptoBulkEntries entries + 1
  | .held _ => 1
def uptoBulkAll {H : Type} : List (DataW H) → Nat
  | [] => 0
  | d :: r => uptoBulk d + uptoBulkAll r
def uptoBulkEntries {H : Type} : List (Lit × DataW H) → Nat
  | [] => 0
  | x :: r => uptoBulkEntry x + uptoBulkEntries r
def uptoBulkEntry {H : Type} : Lit × DataW H → Nat
  | (.string bytes, d) => bytes.length + uptoBulk d + 1
  | (_, d) => uptoBulk d + 1
 end
def uptoSmall : (H : Type) → List (DataW H) → Bool := fun _ ds => decide (uptoBulkAll ds ≤ 1048576)
def OpenSpec.upto (s : _root_.Go.ChangeSpec) : _root_.Go.OpenSpec := { _root_.Go.OpenSpec.ofChange s with cond := some uptoSmall }

/-- 'laws.FnExactSetFlags', WHERE WHAT IT READS IS OF BULK AT MOST 1048576: true; the input reads as it did. -/
def fnExactSetFlagsUptoRow : OpenClaim := { program := "ytglldabpgobimaa", sum := "e7e9cda3c7938f38a421cdc3ba06d4ceadee68cbb31e51ea77a317b3eee9703e", func := "loop.example/g00247/laws.FnExactSetFlags", spec := "fnExactSetFlags", inPlace := ["internal/bytealg.IndexByteString"], unfollowed := true, recurses := true, apart := false, narrowed := true }
def FnExactSetFlagsUptoSaid : Prop := fnExactSetFlagsUptoRow.holds Try.pinned (OpenSpec.upto fnExactSetFlagsSpec)

/-- 'laws.FnExactExpunge', WHERE WHAT IT READS IS OF BULK AT MOST 1048576: true; the input reads as it did. -/
def fnExactExpungeUptoRow : OpenClaim := { program := "ytglldabpgobimaa", sum := "e7e9cda3c7938f38a421cdc3ba06d4ceadee68cbb31e51ea77a317b3eee9703e", func := "loop.example/g00247/laws.FnExactExpunge", spec := "fnExactExpunge", inPlace := ["internal/bytealg.IndexByteString"], unfollowed := true, recurses := true, apart := false, narrowed := true }
def FnExactExpungeUptoSaid : Prop := fnExactExpungeUptoRow.holds Try.pinned (OpenSpec.upto fnExactExpungeSpec)

/-- 'laws.FnExactVanished', WHERE WHAT IT READS IS OF BULK AT MOST 1048576: true; the input reads as it did. -/
def fnExactVanishedUptoRow : OpenClaim := { program := "ytglldabpgobimaa", sum := "e7e9cda3c7938f38a421cdc3ba06d4ceadee68cbb31e51ea77a317b3eee9703e", func := "loop.example/g00247/laws.FnExactVanished", spec := "fnExactVanished", inPlace := ["internal/bytealg.IndexByteString"], unfollowed := true, recurses := true, apart := false, narrowed := true }
def FnExactVanishedUptoSaid : Prop := fnExactVanishedUptoRow.holds Try.pinned (OpenSpec.upto fnExactVanishedSpec)

/-- 'laws.FnExactCopyMails', WHERE WHAT IT READS IS OF BULK AT MOST 1048576: true; the input reads as it did. -/
def fnExactCopyMailsUptoRow : OpenClaim := { program := "ytglldabpgobimaa", sum := "e7e9cda3c7938f38a421cdc3ba06d4ceadee68cbb31e51ea77a317b3eee9703e", func := "loop.example/g00247/laws.FnExactCopyMails", spec := "fnExactCopyMails", inPlace := ["internal/bytealg.IndexByteString"], unfollowed := true, recurses := true, apart := false, narrowed := true }
def FnExactCopyMailsUptoSaid : Prop := fnExactCopyMailsUptoRow.holds Try.pinned (OpenSpec.upto fnExactCopyMailsSpec)

/-- 'laws.FnExactMoveMails', WHERE WHAT IT READS IS OF BULK AT MOST 1048576: true; the input reads as it did. -/
def fnExactMoveMailsUptoRow : OpenClaim := { program := "ytglldabpgobimaa", sum := "e7e9cda3c7938f38a421cdc3ba06d4ceadee68cbb31e51ea77a317b3eee9703e", func := "loop.example/g00247/laws.FnExactMoveMails", spec := "fnExactMoveMails", inPlace := ["internal/bytealg.IndexByteString"], unfollowed := true, recurses := true, apart := false, narrowed := true }
def FnExactMoveMailsUptoSaid : Prop := fnExactMoveMailsUptoRow.holds Try.pinned (OpenSpec.upto fnExactMoveMailsSpec)

/-- 'laws.FnForgets', WHERE WHAT IT READS IS OF BULK AT MOST 1048576: true; the input reads as it did. -/
def fnForgetsUptoRow : OpenClaim := { program := "ytglldabpgobimaa", sum := "e7e9cda3c7938f38a421cdc3ba06d4ceadee68cbb31e51ea77a317b3eee9703e", func := "loop.example/g00247/laws.FnForgets", spec := "fnForgets", inPlace := ["internal/bytealg.IndexByteString"], unfollowed := true, recurses := true, apart := false, narrowed := true }
def FnForgetsUptoSaid : Prop := fnForgetsUptoRow.holds Try.pinned (OpenSpec.upto fnForgetsSpec)

end Rows
end Go.Proofs.Ytglldabpgobimaa
