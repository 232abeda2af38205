/-
  DERIVED. GIVEN WITH THE SEED: THE CARDS: each row of YtnbkmmjnpbfhnaaDoorRows.lean that lists a variable, with what it lists TIED to the program's text (the seventh form; the later family's looks); each row that meets fmt, with fmt's text TOLD by the authors' own Lean function (tested against real Go, not proved from fmt's source: count such statements apart). THE CARD IS WHAT COUNTS. Prove the row's statement (the work); the ties are given (YtnbkmmjnpbfhnaaDoorTie.lean); close each card by the builder's one call (the guide's Derived/Test/ToyasCard.lean, 'card_holds'). Laid BY PROGRAM, IN A SANDBOX (cutbox-door.mjs). By AI agents, Wed Nov 11 2026. No macro, syntax, notation, axiom, sorry.
-/
import Derived.Test.YtnbkmmjnpbfhnaaDoorRows
import GoSem.ClaimSeven
namespace Go.Proofs.YtnbkmmjnpbfhnaaDoor
namespace Rows

/-- THE TIED CARD OF 'laws.FnExactReadKeys'. -/
def fnExactReadKeysCard : Claim7 := { stood := { row := fnExactReadKeysRow, standIns := [], harness := (true, "cdaddc92f25a8d7cb937eec450ffe4f35b18297f32ad637126f638441fa7c6e7"), looks := true }, kinds := [], alts := [], laidByText := true, laidKinds := [.data, .data, .data, .data, .sentinel, .sentinel, .pinned], laidTests := true, laidLooks := .later }
def FnExactReadKeysCardSaid : Prop := Claim7.holds Tryd.pinned (.plain (OpenSpec.ofChange fnExactReadKeysSpec)) fnExactReadKeysCard

/-- THE SECOND FORM's CARD OF 'laws.FnExactReadKeys'. -/
def fnExactReadKeysUptoCard : Claim7 := { stood := { row := fnExactReadKeysUptoRow, standIns := [], harness := (true, "cdaddc92f25a8d7cb937eec450ffe4f35b18297f32ad637126f638441fa7c6e7"), looks := true }, kinds := [], alts := [], laidByText := true, laidKinds := [.data, .data, .data, .data, .sentinel, .sentinel, .pinned], laidTests := true, laidLooks := .later }
def FnExactReadKeysUptoCardSaid : Prop := Claim7.holds Tryd.pinned (.plain (OpenSpec.upto fnExactReadKeysSpec)) fnExactReadKeysUptoCard
end Rows
end Go.Proofs.YtnbkmmjnpbfhnaaDoor
