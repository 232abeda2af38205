/-
  DERIVED. GIVEN WITH THE SEED: THE CARDS: each row of YtknagbmhmjcnkaaDoorRows.lean that lists a variable, with what it lists TIED to the program's text (the seventh form; the later family's looks); each row that meets fmt, with fmt's text TOLD by the authors' own Lean function (tested against real Go, not proved from fmt's source: count such statements apart). THE CARD IS WHAT COUNTS. Prove the row's statement (the work); the ties are given (YtknagbmhmjcnkaaDoorTie.lean); close each card by the builder's one call (the guide's Derived/Test/ToyasCard.lean, 'card_holds'). Laid BY PROGRAM, IN A SANDBOX (cutbox-door.mjs). By AI agents, Wed Nov 11 2026. No macro, syntax, notation, axiom, sorry.
-/
import Derived.Test.YtknagbmhmjcnkaaDoorRows
import GoSem.ClaimSeven
namespace Go.Proofs.YtknagbmhmjcnkaaDoor
namespace Rows

/-- THE TIED CARD OF 'laws.FnSubjects'. -/
def fnSubjectsCard : Claim7 := { stood := { row := fnSubjectsRow, standIns := [], harness := (true, "e7993d0e1b1222d9438608ce3533ce37c95a14b99203bcfb80008266cb4146ef"), looks := false }, kinds := [], alts := [], laidByText := true, laidKinds := [.data, .pinned], laidTests := true, laidLooks := .later }
def FnSubjectsCardSaid : Prop := Claim7.holds Tryd.pinned (.plain (OpenSpec.ofChange fnSubjectsSpec)) fnSubjectsCard

/-- THE TIED CARD OF 'laws.FnMails'. -/
def fnMailsCard : Claim7 := { stood := { row := fnMailsRow, standIns := [], harness := (true, "e7993d0e1b1222d9438608ce3533ce37c95a14b99203bcfb80008266cb4146ef"), looks := false }, kinds := [], alts := [], laidByText := true, laidKinds := [.data, .pinned], laidTests := true, laidLooks := .later }
def FnMailsCardSaid : Prop := Claim7.holds Tryd.pinned (.plain (OpenSpec.ofChange fnMailsSpec)) fnMailsCard

/-- THE TIED CARD OF 'laws.FnMailsTold'. -/
def fnMailsToldCard : Claim7 := { stood := { row := fnMailsToldRow, standIns := [], harness := (true, "e7993d0e1b1222d9438608ce3533ce37c95a14b99203bcfb80008266cb4146ef"), looks := false }, kinds := [], alts := [], laidByText := true, laidKinds := [.data, .pinned], laidTests := true, laidLooks := .later }
def FnMailsToldCardSaid : Prop := Claim7.holds Tryd.pinned (.plain (OpenSpec.ofChange fnMailsToldSpec)) fnMailsToldCard

/-- THE SECOND FORM's CARD OF 'laws.FnSubjects'. -/
def fnSubjectsUptoCard : Claim7 := { stood := { row := fnSubjectsUptoRow, standIns := [], harness := (true, "e7993d0e1b1222d9438608ce3533ce37c95a14b99203bcfb80008266cb4146ef"), looks := false }, kinds := [], alts := [], laidByText := true, laidKinds := [.data, .pinned], laidTests := true, laidLooks := .later }
def FnSubjectsUptoCardSaid : Prop := Claim7.holds Tryd.pinned (.plain (OpenSpec.upto fnSubjectsSpec)) fnSubjectsUptoCard

/-- THE SECOND FORM's CARD OF 'laws.FnMails'. -/
def fnMailsUptoCard : Claim7 := { stood := { row := fnMailsUptoRow, standIns := [], harness := (true, "e7993d0e1b1222d9438608ce3533ce37c95a14b99203bcfb80008266cb4146ef"), looks := false }, kinds := [], alts := [], laidByText := true, laidKinds := [.data, .pinned], laidTests := true, laidLooks := .later }
def FnMailsUptoCardSaid : Prop := Claim7.holds Tryd.pinned (.plain (OpenSpec.upto fnMailsSpec)) fnMailsUptoCard

/-- THE SECOND FORM's CARD OF 'laws.FnMailsTold'. -/
def fnMailsToldUptoCard : Claim7 := { stood := { row := fnMailsToldUptoRow, standIns := [], harness := (true, "e7993d0e1b1222d9438608ce3533ce37c95a14b99203bcfb80008266cb4146ef"), looks := false }, kinds := [], alts := [], laidByText := true, laidKinds := [.data, .pinned], laidTests := true, laidLooks := .later }
def FnMailsToldUptoCardSaid : Prop := Claim7.holds Tryd.pinned (.plain (OpenSpec.upto fnMailsToldSpec)) fnMailsToldUptoCard
end Rows
end Go.Proofs.YtknagbmhmjcnkaaDoor
