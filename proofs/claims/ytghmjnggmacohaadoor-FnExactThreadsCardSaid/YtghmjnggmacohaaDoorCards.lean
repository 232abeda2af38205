/-
  DERIVED. GIVEN WITH THE SEED: THE CARDS: each row of YtghmjnggmacohaaDoorRows.lean that lists a variable, with what it lists TIED to the program's text (the seventh form; the later family's looks); each row that meets fmt, with fmt's text TOLD by the authors' own Lean function (tested against real Go, not proved from fmt's source: count such statements apart). THE CARD IS WHAT COUNTS. Prove the row's statement (the work); the ties are given (YtghmjnggmacohaaDoorTie.lean); close each card by the builder's one call (the guide's Derived/Test/ToyasCard.lean, 'card_holds'). Laid BY PROGRAM, IN A SANDBOX (cutbox-door.mjs). By AI agents, Wed Nov 11 2026. No macro, syntax, notation, axiom, sorry.
-/
import Derived.Test.YtghmjnggmacohaaDoorRows
import GoSem.ClaimSeven
namespace Go.Proofs.YtghmjnggmacohaaDoor
namespace Rows

/-- THE TIED CARD OF 'laws.FnExactThreads'. -/
def fnExactThreadsCard : Claim7 := { stood := { row := fnExactThreadsRow, standIns := [], harness := (true, "9ada0b53b16c7af297edaecff2b136cef1b6170a9a2bb66ebc332e370805203e"), looks := false }, kinds := [], alts := [], laidByText := true, laidKinds := [.data, .pinned], laidTests := true, laidLooks := .later }
def FnExactThreadsCardSaid : Prop := Claim7.holds Tryd.pinned (.plain (OpenSpec.ofChange fnExactThreadsSpec)) fnExactThreadsCard

/-- THE SECOND FORM's CARD OF 'laws.FnExactThreads'. -/
def fnExactThreadsUptoCard : Claim7 := { stood := { row := fnExactThreadsUptoRow, standIns := [], harness := (true, "9ada0b53b16c7af297edaecff2b136cef1b6170a9a2bb66ebc332e370805203e"), looks := false }, kinds := [], alts := [], laidByText := true, laidKinds := [.data, .pinned], laidTests := true, laidLooks := .later }
def FnExactThreadsUptoCardSaid : Prop := Claim7.holds Tryd.pinned (.plain (OpenSpec.upto fnExactThreadsSpec)) fnExactThreadsUptoCard
end Rows
end Go.Proofs.YtghmjnggmacohaaDoor
