/-
  DERIVED. GIVEN WITH THE SEED: THE CARDS: each row of YtglldabpgobimaaDoorRows.lean that lists a variable, with what it lists TIED to the program's text (the seventh form; the later family's looks); each row that meets fmt, with fmt's text TOLD by the authors' own Lean function (tested against real Go, not proved from fmt's source: count such statements apart). THE CARD IS WHAT COUNTS. Prove the row's statement (the work); the ties are given (YtglldabpgobimaaDoorTie.lean); close each card by the builder's one call (the guide's Derived/Test/ToyasCard.lean, 'card_holds'). Laid BY PROGRAM, IN A SANDBOX (cutbox-door.mjs). By AI agents, Wed Nov 11 2026. No macro, syntax, notation, axiom, sorry.
-/
import Derived.Test.YtglldabpgobimaaDoorRows
import GoSem.ClaimSeven
namespace Go.Proofs.YtglldabpgobimaaDoor
namespace Rows

/-- THE TIED CARD OF 'laws.FnExactThreads'. -/
def fnExactThreadsCard : Claim7 := { stood := { row := fnExactThreadsRow, standIns := [], harness := (true, "976644844203f6787bcbffdc030bab41bd39efec87071d18a04074b88fb0e2b7"), looks := false }, kinds := [], alts := [], laidByText := true, laidKinds := [.data, .pinned], laidTests := true, laidLooks := .later }
def FnExactThreadsCardSaid : Prop := Claim7.holds Tryd.pinned (.plain (OpenSpec.ofChange fnExactThreadsSpec)) fnExactThreadsCard

/-- THE TIED CARD OF 'laws.FnExactReadEdit'. -/
def fnExactReadEditCard : Claim7 := { stood := { row := fnExactReadEditRow, standIns := [], harness := (true, "976644844203f6787bcbffdc030bab41bd39efec87071d18a04074b88fb0e2b7"), looks := false }, kinds := [], alts := [], laidByText := true, laidKinds := [.data, .data, .data, .data, .pinned], laidTests := true, laidLooks := .later }
def FnExactReadEditCardSaid : Prop := Claim7.holds Tryd.pinned (.plain (OpenSpec.ofChange fnExactReadEditSpec)) fnExactReadEditCard

/-- THE SECOND FORM's CARD OF 'laws.FnExactThreads'. -/
def fnExactThreadsUptoCard : Claim7 := { stood := { row := fnExactThreadsUptoRow, standIns := [], harness := (true, "976644844203f6787bcbffdc030bab41bd39efec87071d18a04074b88fb0e2b7"), looks := false }, kinds := [], alts := [], laidByText := true, laidKinds := [.data, .pinned], laidTests := true, laidLooks := .later }
def FnExactThreadsUptoCardSaid : Prop := Claim7.holds Tryd.pinned (.plain (OpenSpec.upto fnExactThreadsSpec)) fnExactThreadsUptoCard

/-- THE SECOND FORM's CARD OF 'laws.FnExactReadEdit'. -/
def fnExactReadEditUptoCard : Claim7 := { stood := { row := fnExactReadEditUptoRow, standIns := [], harness := (true, "976644844203f6787bcbffdc030bab41bd39efec87071d18a04074b88fb0e2b7"), looks := false }, kinds := [], alts := [], laidByText := true, laidKinds := [.data, .data, .data, .data, .pinned], laidTests := true, laidLooks := .later }
def FnExactReadEditUptoCardSaid : Prop := Claim7.holds Tryd.pinned (.plain (OpenSpec.upto fnExactReadEditSpec)) fnExactReadEditUptoCard
end Rows
end Go.Proofs.YtglldabpgobimaaDoor
