/-
  DERIVED. GIVEN WITH THE SEED: THE CARDS: each row of YthokmmknbbghbaaDoorRows.lean that lists a variable, with what it lists TIED to the program's text (the seventh form; the later family's looks); each row that meets fmt, with fmt's text TOLD by the authors' own Lean function (tested against real Go, not proved from fmt's source: count such statements apart). THE CARD IS WHAT COUNTS. Prove the row's statement (the work); the ties are given (YthokmmknbbghbaaDoorTie.lean); close each card by the builder's one call (the guide's Derived/Test/ToyasCard.lean, 'card_holds'). Laid BY PROGRAM, IN A SANDBOX (cutbox-door.mjs). By AI agents, Wed Nov 11 2026. No macro, syntax, notation, axiom, sorry.
-/
import Derived.Test.YthokmmknbbghbaaDoorRows
import GoSem.ClaimSeven
namespace Go.Proofs.YthokmmknbbghbaaDoor
namespace Rows

/-- THE TIED CARD OF 'laws.FnExactBaseSubject'. -/
def fnExactBaseSubjectCard : Claim7 := { stood := { row := fnExactBaseSubjectRow, standIns := [], harness := (true, "0d244fbf734e7a49ab39064b6cddcff7760c76f0cc8a9fbd24f31b4b9582e6bd"), looks := true }, kinds := [], alts := [], laidByText := true, laidKinds := [.data, .pinned], laidTests := true, laidLooks := .later }
def FnExactBaseSubjectCardSaid : Prop := Claim7.holds Tryd.pinned (.plain (OpenSpec.ofChange fnExactBaseSubjectSpec)) fnExactBaseSubjectCard

/-- THE TIED CARD OF 'laws.FnSubjects'. -/
def fnSubjectsCard : Claim7 := { stood := { row := fnSubjectsRow, standIns := [], harness := (true, "0d244fbf734e7a49ab39064b6cddcff7760c76f0cc8a9fbd24f31b4b9582e6bd"), looks := true }, kinds := [], alts := [], laidByText := true, laidKinds := [.data, .pinned], laidTests := true, laidLooks := .later }
def FnSubjectsCardSaid : Prop := Claim7.holds Tryd.pinned (.plain (OpenSpec.ofChange fnSubjectsSpec)) fnSubjectsCard

/-- THE TIED CARD OF 'laws.FnExactHeadOf'. -/
def fnExactHeadOfCard : Claim7 := { stood := { row := fnExactHeadOfRow, standIns := [], harness := (true, "0d244fbf734e7a49ab39064b6cddcff7760c76f0cc8a9fbd24f31b4b9582e6bd"), looks := true }, kinds := [], alts := [], laidByText := true, laidKinds := [.data, .pinned], laidTests := true, laidLooks := .later }
def FnExactHeadOfCardSaid : Prop := Claim7.holds Tryd.pinned (.plain (OpenSpec.ofChange fnExactHeadOfSpec)) fnExactHeadOfCard

/-- THE TIED CARD OF 'laws.FnMails'. -/
def fnMailsCard : Claim7 := { stood := { row := fnMailsRow, standIns := [], harness := (true, "0d244fbf734e7a49ab39064b6cddcff7760c76f0cc8a9fbd24f31b4b9582e6bd"), looks := true }, kinds := [], alts := [], laidByText := true, laidKinds := [.data, .pinned], laidTests := true, laidLooks := .later }
def FnMailsCardSaid : Prop := Claim7.holds Tryd.pinned (.plain (OpenSpec.ofChange fnMailsSpec)) fnMailsCard

/-- THE TIED CARD OF 'laws.FnMailsTold'. -/
def fnMailsToldCard : Claim7 := { stood := { row := fnMailsToldRow, standIns := [], harness := (true, "0d244fbf734e7a49ab39064b6cddcff7760c76f0cc8a9fbd24f31b4b9582e6bd"), looks := true }, kinds := [], alts := [], laidByText := true, laidKinds := [.data, .pinned], laidTests := true, laidLooks := .later }
def FnMailsToldCardSaid : Prop := Claim7.holds Tryd.pinned (.plain (OpenSpec.ofChange fnMailsToldSpec)) fnMailsToldCard

/-- THE TIED CARD OF 'laws.FnExactEditText'. -/
def fnExactEditTextCard : Claim7 := { stood := { row := fnExactEditTextRow, standIns := [], harness := (true, "0d244fbf734e7a49ab39064b6cddcff7760c76f0cc8a9fbd24f31b4b9582e6bd"), looks := true }, kinds := [], alts := [], laidByText := true, laidKinds := [.data, .data, .data], laidTests := true, laidLooks := .later }
def FnExactEditTextCardSaid : Prop := Claim7.holds Tryd.pinned (.plain (OpenSpec.ofChange fnExactEditTextSpec)) fnExactEditTextCard

/-- THE TIED CARD OF 'laws.FnExactLineText'. -/
def fnExactLineTextCard : Claim7 := { stood := { row := fnExactLineTextRow, standIns := [], harness := (true, "0d244fbf734e7a49ab39064b6cddcff7760c76f0cc8a9fbd24f31b4b9582e6bd"), looks := true }, kinds := [], alts := [], laidByText := true, laidKinds := [.data, .data, .data], laidTests := true, laidLooks := .later }
def FnExactLineTextCardSaid : Prop := Claim7.holds Tryd.pinned (.plain (OpenSpec.ofChange fnExactLineTextSpec)) fnExactLineTextCard

/-- THE TIED CARD OF 'laws.FnExactLogActs'. -/
def fnExactLogActsCard : Claim7 := { stood := { row := fnExactLogActsRow, standIns := [], harness := (true, "0d244fbf734e7a49ab39064b6cddcff7760c76f0cc8a9fbd24f31b4b9582e6bd"), looks := true }, kinds := [], alts := [], laidByText := true, laidKinds := [.data, .data, .data], laidTests := true, laidLooks := .later }
def FnExactLogActsCardSaid : Prop := Claim7.holds Tryd.pinned (.plain (OpenSpec.ofChange fnExactLogActsSpec)) fnExactLogActsCard

/-- THE TIED CARD OF 'laws.FnExactMatches'. -/
def fnExactMatchesCard : Claim7 := { stood := { row := fnExactMatchesRow, standIns := [], harness := (true, "0d244fbf734e7a49ab39064b6cddcff7760c76f0cc8a9fbd24f31b4b9582e6bd"), looks := true }, kinds := [], alts := [], laidByText := true, laidKinds := [.data, .pinned], laidTests := true, laidLooks := .later }
def FnExactMatchesCardSaid : Prop := Claim7.holds Tryd.pinned (.plain (OpenSpec.ofChange fnExactMatchesSpec)) fnExactMatchesCard

/-- THE TIED CARD OF 'laws.FnExactReadKeys'. -/
def fnExactReadKeysCard : Claim7 := { stood := { row := fnExactReadKeysRow, standIns := [], harness := (true, "0d244fbf734e7a49ab39064b6cddcff7760c76f0cc8a9fbd24f31b4b9582e6bd"), looks := true }, kinds := [], alts := [], laidByText := true, laidKinds := [.data, .data, .data, .data, .sentinel, .sentinel, .pinned], laidTests := true, laidLooks := .later }
def FnExactReadKeysCardSaid : Prop := Claim7.holds Tryd.pinned (.plain (OpenSpec.ofChange fnExactReadKeysSpec)) fnExactReadKeysCard

/-- THE SECOND FORM's CARD OF 'laws.FnExactBaseSubject'. -/
def fnExactBaseSubjectUptoCard : Claim7 := { stood := { row := fnExactBaseSubjectUptoRow, standIns := [], harness := (true, "0d244fbf734e7a49ab39064b6cddcff7760c76f0cc8a9fbd24f31b4b9582e6bd"), looks := true }, kinds := [], alts := [], laidByText := true, laidKinds := [.data, .pinned], laidTests := true, laidLooks := .later }
def FnExactBaseSubjectUptoCardSaid : Prop := Claim7.holds Tryd.pinned (.plain (OpenSpec.upto fnExactBaseSubjectSpec)) fnExactBaseSubjectUptoCard

/-- THE SECOND FORM's CARD OF 'laws.FnSubjects'. -/
def fnSubjectsUptoCard : Claim7 := { stood := { row := fnSubjectsUptoRow, standIns := [], harness := (true, "0d244fbf734e7a49ab39064b6cddcff7760c76f0cc8a9fbd24f31b4b9582e6bd"), looks := true }, kinds := [], alts := [], laidByText := true, laidKinds := [.data, .pinned], laidTests := true, laidLooks := .later }
def FnSubjectsUptoCardSaid : Prop := Claim7.holds Tryd.pinned (.plain (OpenSpec.upto fnSubjectsSpec)) fnSubjectsUptoCard

/-- THE SECOND FORM's CARD OF 'laws.FnExactHeadOf'. -/
def fnExactHeadOfUptoCard : Claim7 := { stood := { row := fnExactHeadOfUptoRow, standIns := [], harness := (true, "0d244fbf734e7a49ab39064b6cddcff7760c76f0cc8a9fbd24f31b4b9582e6bd"), looks := true }, kinds := [], alts := [], laidByText := true, laidKinds := [.data, .pinned], laidTests := true, laidLooks := .later }
def FnExactHeadOfUptoCardSaid : Prop := Claim7.holds Tryd.pinned (.plain (OpenSpec.upto fnExactHeadOfSpec)) fnExactHeadOfUptoCard

/-- THE SECOND FORM's CARD OF 'laws.FnMails'. -/
def fnMailsUptoCard : Claim7 := { stood := { row := fnMailsUptoRow, standIns := [], harness := (true, "0d244fbf734e7a49ab39064b6cddcff7760c76f0cc8a9fbd24f31b4b9582e6bd"), looks := true }, kinds := [], alts := [], laidByText := true, laidKinds := [.data, .pinned], laidTests := true, laidLooks := .later }
def FnMailsUptoCardSaid : Prop := Claim7.holds Tryd.pinned (.plain (OpenSpec.upto fnMailsSpec)) fnMailsUptoCard

/-- THE SECOND FORM's CARD OF 'laws.FnMailsTold'. -/
def fnMailsToldUptoCard : Claim7 := { stood := { row := fnMailsToldUptoRow, standIns := [], harness := (true, "0d244fbf734e7a49ab39064b6cddcff7760c76f0cc8a9fbd24f31b4b9582e6bd"), looks := true }, kinds := [], alts := [], laidByText := true, laidKinds := [.data, .pinned], laidTests := true, laidLooks := .later }
def FnMailsToldUptoCardSaid : Prop := Claim7.holds Tryd.pinned (.plain (OpenSpec.upto fnMailsToldSpec)) fnMailsToldUptoCard

/-- THE SECOND FORM's CARD OF 'laws.FnExactEditText'. -/
def fnExactEditTextUptoCard : Claim7 := { stood := { row := fnExactEditTextUptoRow, standIns := [], harness := (true, "0d244fbf734e7a49ab39064b6cddcff7760c76f0cc8a9fbd24f31b4b9582e6bd"), looks := true }, kinds := [], alts := [], laidByText := true, laidKinds := [.data, .data, .data], laidTests := true, laidLooks := .later }
def FnExactEditTextUptoCardSaid : Prop := Claim7.holds Tryd.pinned (.plain (OpenSpec.upto fnExactEditTextSpec)) fnExactEditTextUptoCard

/-- THE SECOND FORM's CARD OF 'laws.FnExactLineText'. -/
def fnExactLineTextUptoCard : Claim7 := { stood := { row := fnExactLineTextUptoRow, standIns := [], harness := (true, "0d244fbf734e7a49ab39064b6cddcff7760c76f0cc8a9fbd24f31b4b9582e6bd"), looks := true }, kinds := [], alts := [], laidByText := true, laidKinds := [.data, .data, .data], laidTests := true, laidLooks := .later }
def FnExactLineTextUptoCardSaid : Prop := Claim7.holds Tryd.pinned (.plain (OpenSpec.upto fnExactLineTextSpec)) fnExactLineTextUptoCard

/-- THE SECOND FORM's CARD OF 'laws.FnExactLogActs'. -/
def fnExactLogActsUptoCard : Claim7 := { stood := { row := fnExactLogActsUptoRow, standIns := [], harness := (true, "0d244fbf734e7a49ab39064b6cddcff7760c76f0cc8a9fbd24f31b4b9582e6bd"), looks := true }, kinds := [], alts := [], laidByText := true, laidKinds := [.data, .data, .data], laidTests := true, laidLooks := .later }
def FnExactLogActsUptoCardSaid : Prop := Claim7.holds Tryd.pinned (.plain (OpenSpec.upto fnExactLogActsSpec)) fnExactLogActsUptoCard

/-- THE SECOND FORM's CARD OF 'laws.FnExactMatches'. -/
def fnExactMatchesUptoCard : Claim7 := { stood := { row := fnExactMatchesUptoRow, standIns := [], harness := (true, "0d244fbf734e7a49ab39064b6cddcff7760c76f0cc8a9fbd24f31b4b9582e6bd"), looks := true }, kinds := [], alts := [], laidByText := true, laidKinds := [.data, .pinned], laidTests := true, laidLooks := .later }
def FnExactMatchesUptoCardSaid : Prop := Claim7.holds Tryd.pinned (.plain (OpenSpec.upto fnExactMatchesSpec)) fnExactMatchesUptoCard

/-- THE SECOND FORM's CARD OF 'laws.FnExactReadKeys'. -/
def fnExactReadKeysUptoCard : Claim7 := { stood := { row := fnExactReadKeysUptoRow, standIns := [], harness := (true, "0d244fbf734e7a49ab39064b6cddcff7760c76f0cc8a9fbd24f31b4b9582e6bd"), looks := true }, kinds := [], alts := [], laidByText := true, laidKinds := [.data, .data, .data, .data, .sentinel, .sentinel, .pinned], laidTests := true, laidLooks := .later }
def FnExactReadKeysUptoCardSaid : Prop := Claim7.holds Tryd.pinned (.plain (OpenSpec.upto fnExactReadKeysSpec)) fnExactReadKeysUptoCard
end Rows
end Go.Proofs.YthokmmknbbghbaaDoor
