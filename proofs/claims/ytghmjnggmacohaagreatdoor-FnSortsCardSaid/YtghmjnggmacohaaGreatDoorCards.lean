/-
  DERIVED. GIVEN WITH THE SEED: THE CARDS: each row of YtghmjnggmacohaaGreatDoorRows.lean that lists a variable, with what it lists TIED to the program's text (the seventh form; the later family's looks); each row that meets fmt, with fmt's text TOLD by the authors' own Lean function (tested against real Go, not proved from fmt's source: count such statements apart). THE CARD IS WHAT COUNTS. Prove the row's statement (the work); the ties are given (YtghmjnggmacohaaGreatDoorTie.lean); close each card by the builder's one call (the guide's Derived/Test/ToyasCard.lean, 'card_holds'). Laid BY PROGRAM, IN A SANDBOX (cutbox-door.mjs). By AI agents, Wed Nov 11 2026. No macro, syntax, notation, axiom, sorry.
-/
import Derived.Test.YtghmjnggmacohaaGreatDoorRows
import GoSem.ClaimSeven
namespace Go.Proofs.YtghmjnggmacohaaGreatDoor
namespace Rows

/-- THE TIED CARD OF 'laws.FnExactSortBySubject'. -/
def fnExactSortBySubjectCard : Claim7 := { stood := { row := fnExactSortBySubjectRow, standIns := [], harness := (true, "1ff7951d1efbc6591a22b1eeb86e500c2e5aaeb5bbabb823d5c6af9bdee2a0bd"), looks := false }, kinds := [], alts := [], laidByText := true, laidKinds := [.data, .pinned], laidTests := true, laidLooks := .later }
def FnExactSortBySubjectCardSaid : Prop := Claim7.holds Tryz.pinned (.plain (OpenSpec.ofChange fnExactSortBySubjectSpec)) fnExactSortBySubjectCard

/-- THE TIED CARD OF 'laws.FnSorts'. -/
def fnSortsCard : Claim7 := { stood := { row := fnSortsRow, standIns := [], harness := (true, "1ff7951d1efbc6591a22b1eeb86e500c2e5aaeb5bbabb823d5c6af9bdee2a0bd"), looks := false }, kinds := [], alts := [], laidByText := true, laidKinds := [.data, .pinned], laidTests := true, laidLooks := .later }
def FnSortsCardSaid : Prop := Claim7.holds Tryz.pinned (.plain (OpenSpec.ofChange fnSortsSpec)) fnSortsCard

/-- THE SECOND FORM's CARD OF 'laws.FnExactSortBySubject'. -/
def fnExactSortBySubjectUptoCard : Claim7 := { stood := { row := fnExactSortBySubjectUptoRow, standIns := [], harness := (true, "1ff7951d1efbc6591a22b1eeb86e500c2e5aaeb5bbabb823d5c6af9bdee2a0bd"), looks := false }, kinds := [], alts := [], laidByText := true, laidKinds := [.data, .pinned], laidTests := true, laidLooks := .later }
def FnExactSortBySubjectUptoCardSaid : Prop := Claim7.holds Tryz.pinned (.plain (OpenSpec.upto fnExactSortBySubjectSpec)) fnExactSortBySubjectUptoCard

/-- THE SECOND FORM's CARD OF 'laws.FnSorts'. -/
def fnSortsUptoCard : Claim7 := { stood := { row := fnSortsUptoRow, standIns := [], harness := (true, "1ff7951d1efbc6591a22b1eeb86e500c2e5aaeb5bbabb823d5c6af9bdee2a0bd"), looks := false }, kinds := [], alts := [], laidByText := true, laidKinds := [.data, .pinned], laidTests := true, laidLooks := .later }
def FnSortsUptoCardSaid : Prop := Claim7.holds Tryz.pinned (.plain (OpenSpec.upto fnSortsSpec)) fnSortsUptoCard
end Rows
end Go.Proofs.YtghmjnggmacohaaGreatDoor
