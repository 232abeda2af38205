/-
  DERIVED. GIVEN WITH THE SEED: THE CARDS: each row of YtglldabpgobimaaGreatDoorRows.lean that lists a variable, with what it lists TIED to the program's text (the seventh form; the later family's looks); each row that meets fmt, with fmt's text TOLD by the authors' own Lean function (tested against real Go, not proved from fmt's source: count such statements apart). THE CARD IS WHAT COUNTS. Prove the row's statement (the work); the ties are given (YtglldabpgobimaaGreatDoorTie.lean); close each card by the builder's one call (the guide's Derived/Test/ToyasCard.lean, 'card_holds'). Laid BY PROGRAM, IN A SANDBOX (cutbox-door.mjs). By AI agents, Wed Nov 11 2026. No macro, syntax, notation, axiom, sorry.
-/
import Derived.Test.YtglldabpgobimaaGreatDoorRows
import GoSem.ClaimSeven
namespace Go.Proofs.YtglldabpgobimaaGreatDoor
namespace Rows

/-- THE TIED CARD OF 'laws.FnExactSearch'. -/
def fnExactSearchCard : Claim7 := { stood := { row := fnExactSearchRow, standIns := [], harness := (true, "35cff9f74b4d87d84af1344dafb510cd0d0e9f6047870a6307e6679e12fe7dbe"), looks := true }, kinds := [], alts := [], laidByText := true, laidKinds := [.data, .pinned], laidTests := true, laidLooks := .later }
def FnExactSearchCardSaid : Prop := Claim7.holds Tryz.pinned (.plain (OpenSpec.ofChange fnExactSearchSpec)) fnExactSearchCard

/-- THE TIED CARD OF 'laws.FnExactSortBySubject'. -/
def fnExactSortBySubjectCard : Claim7 := { stood := { row := fnExactSortBySubjectRow, standIns := [], harness := (true, "35cff9f74b4d87d84af1344dafb510cd0d0e9f6047870a6307e6679e12fe7dbe"), looks := true }, kinds := [], alts := [], laidByText := true, laidKinds := [.data, .pinned], laidTests := true, laidLooks := .later }
def FnExactSortBySubjectCardSaid : Prop := Claim7.holds Tryz.pinned (.plain (OpenSpec.ofChange fnExactSortBySubjectSpec)) fnExactSortBySubjectCard

/-- THE TIED CARD OF 'laws.FnExactReadLine'. -/
def fnExactReadLineCard : Claim7 := { stood := { row := fnExactReadLineRow, standIns := [], harness := (true, "35cff9f74b4d87d84af1344dafb510cd0d0e9f6047870a6307e6679e12fe7dbe"), looks := true }, kinds := [], alts := [], laidByText := true, laidKinds := [.data, .data, .data, .data, .sentinel, .sentinel, .pinned], laidTests := true, laidLooks := .later }
def FnExactReadLineCardSaid : Prop := Claim7.holds Tryz.pinned (.plain (OpenSpec.ofChange fnExactReadLineSpec)) fnExactReadLineCard

/-- THE SECOND FORM's CARD OF 'laws.FnExactSearch'. -/
def fnExactSearchUptoCard : Claim7 := { stood := { row := fnExactSearchUptoRow, standIns := [], harness := (true, "35cff9f74b4d87d84af1344dafb510cd0d0e9f6047870a6307e6679e12fe7dbe"), looks := true }, kinds := [], alts := [], laidByText := true, laidKinds := [.data, .pinned], laidTests := true, laidLooks := .later }
def FnExactSearchUptoCardSaid : Prop := Claim7.holds Tryz.pinned (.plain (OpenSpec.upto fnExactSearchSpec)) fnExactSearchUptoCard

/-- THE SECOND FORM's CARD OF 'laws.FnExactSortBySubject'. -/
def fnExactSortBySubjectUptoCard : Claim7 := { stood := { row := fnExactSortBySubjectUptoRow, standIns := [], harness := (true, "35cff9f74b4d87d84af1344dafb510cd0d0e9f6047870a6307e6679e12fe7dbe"), looks := true }, kinds := [], alts := [], laidByText := true, laidKinds := [.data, .pinned], laidTests := true, laidLooks := .later }
def FnExactSortBySubjectUptoCardSaid : Prop := Claim7.holds Tryz.pinned (.plain (OpenSpec.upto fnExactSortBySubjectSpec)) fnExactSortBySubjectUptoCard

/-- THE SECOND FORM's CARD OF 'laws.FnExactReadLine'. -/
def fnExactReadLineUptoCard : Claim7 := { stood := { row := fnExactReadLineUptoRow, standIns := [], harness := (true, "35cff9f74b4d87d84af1344dafb510cd0d0e9f6047870a6307e6679e12fe7dbe"), looks := true }, kinds := [], alts := [], laidByText := true, laidKinds := [.data, .data, .data, .data, .sentinel, .sentinel, .pinned], laidTests := true, laidLooks := .later }
def FnExactReadLineUptoCardSaid : Prop := Claim7.holds Tryz.pinned (.plain (OpenSpec.upto fnExactReadLineSpec)) fnExactReadLineUptoCard
end Rows
end Go.Proofs.YtglldabpgobimaaGreatDoor
