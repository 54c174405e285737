/-
  DERIVED. GIVEN WITH THE SEED: THE CARDS: each row of YticjeianiahppaaGreatDoorRows.lean that lists a variable, with what it lists TIED to the program's text (the seventh form; the later family's looks); each row that meets fmt, with fmt's text TOLD by the authors' own Lean function (tested against real Go, not proved from fmt's source: count such statements apart). THE CARD IS WHAT COUNTS. Prove the row's statement (the work); the ties are given (YticjeianiahppaaGreatDoorTie.lean); close each card by the builder's one call (the guide's Derived/Test/ToyasCard.lean, 'card_holds'). Laid BY PROGRAM, IN A SANDBOX (cutbox-door.mjs). By AI agents, Wed Nov 11 2026. No macro, syntax, notation, axiom, sorry.
-/
import Derived.Test.YticjeianiahppaaGreatDoorRows
import GoSem.ClaimSeven
namespace Go.Proofs.YticjeianiahppaaGreatDoor
namespace Rows

/-- THE TIED CARD OF 'glistertop.TopSigned'. -/
def topSignedCard : Claim7 := { stood := { row := topSignedRow, standIns := [], harness := (true, "42e4cffee3bc8cbf1d0185dcf2b6daca658e6749166f8bfd229c5a44c46f4edf"), looks := true }, kinds := [], alts := [], laidByText := true, laidKinds := [.data, .data, .data, .data, .sentinel, .sentinel, .pinned], laidTests := true, laidLooks := .later }
def TopSignedCardSaid : Prop := Claim7.holds Tryz.pinned (.plain (OpenSpec.ofChange topSignedSpec)) topSignedCard

/-- THE TIED CARD OF 'glisterlaw12.BookPlays'. -/
def bookPlaysCard : Claim7 := { stood := { row := bookPlaysRow, standIns := [], harness := (true, "42e4cffee3bc8cbf1d0185dcf2b6daca658e6749166f8bfd229c5a44c46f4edf"), looks := true }, kinds := [], alts := [], laidByText := true, laidKinds := [.data, .data, .data, .data, .sentinel, .sentinel, .pinned], laidTests := true, laidLooks := .later }
def BookPlaysCardSaid : Prop := Claim7.holds Tryz.pinned (.plain (OpenSpec.ofChange bookPlaysSpec)) bookPlaysCard

/-- THE TIED CARD OF 'glisterlaw12.BookExposes'. -/
def bookExposesCard : Claim7 := { stood := { row := bookExposesRow, standIns := [], harness := (true, "42e4cffee3bc8cbf1d0185dcf2b6daca658e6749166f8bfd229c5a44c46f4edf"), looks := true }, kinds := [], alts := [], laidByText := true, laidKinds := [.data, .data, .data, .data, .sentinel, .sentinel, .pinned], laidTests := true, laidLooks := .later }
def BookExposesCardSaid : Prop := Claim7.holds Tryz.pinned (.plain (OpenSpec.ofChange bookExposesSpec)) bookExposesCard

/-- THE TIED CARD OF 'glisterlaw12.BookCopies'. -/
def bookCopiesCard : Claim7 := { stood := { row := bookCopiesRow, standIns := [], harness := (true, "42e4cffee3bc8cbf1d0185dcf2b6daca658e6749166f8bfd229c5a44c46f4edf"), looks := true }, kinds := [], alts := [], laidByText := true, laidKinds := [.data, .data, .data, .data, .sentinel, .sentinel, .pinned], laidTests := true, laidLooks := .later }
def BookCopiesCardSaid : Prop := Claim7.holds Tryz.pinned (.plain (OpenSpec.ofChange bookCopiesSpec)) bookCopiesCard

/-- THE TIED CARD OF 'glisterlaw12.BookOwes'. -/
def bookOwesCard : Claim7 := { stood := { row := bookOwesRow, standIns := [], harness := (true, "42e4cffee3bc8cbf1d0185dcf2b6daca658e6749166f8bfd229c5a44c46f4edf"), looks := true }, kinds := [], alts := [], laidByText := true, laidKinds := [.data, .data, .data, .data, .sentinel, .sentinel, .pinned], laidTests := true, laidLooks := .later }
def BookOwesCardSaid : Prop := Claim7.holds Tryz.pinned (.plain (OpenSpec.ofChange bookOwesSpec)) bookOwesCard

/-- THE TIED CARD OF 'glisterlaw12.BookReports'. -/
def bookReportsCard : Claim7 := { stood := { row := bookReportsRow, standIns := [], harness := (true, "42e4cffee3bc8cbf1d0185dcf2b6daca658e6749166f8bfd229c5a44c46f4edf"), looks := true }, kinds := [], alts := [], laidByText := true, laidKinds := [.data, .data, .data, .data, .sentinel, .sentinel, .pinned], laidTests := true, laidLooks := .later }
def BookReportsCardSaid : Prop := Claim7.holds Tryz.pinned (.plain (OpenSpec.ofChange bookReportsSpec)) bookReportsCard

/-- THE TIED CARD OF 'glisterlaw12.BookNames'. -/
def bookNamesCard : Claim7 := { stood := { row := bookNamesRow, standIns := [], harness := (true, "42e4cffee3bc8cbf1d0185dcf2b6daca658e6749166f8bfd229c5a44c46f4edf"), looks := true }, kinds := [], alts := [], laidByText := true, laidKinds := [.data, .data, .data, .data, .sentinel, .sentinel, .pinned], laidTests := true, laidLooks := .later }
def BookNamesCardSaid : Prop := Claim7.holds Tryz.pinned (.plain (OpenSpec.ofChange bookNamesSpec)) bookNamesCard

/-- THE TIED CARD OF 'glisterlaw12.BookReplays'. -/
def bookReplaysCard : Claim7 := { stood := { row := bookReplaysRow, standIns := [], harness := (true, "42e4cffee3bc8cbf1d0185dcf2b6daca658e6749166f8bfd229c5a44c46f4edf"), looks := true }, kinds := [], alts := [], laidByText := true, laidKinds := [.data, .data, .data, .data, .sentinel, .sentinel, .pinned], laidTests := true, laidLooks := .later }
def BookReplaysCardSaid : Prop := Claim7.holds Tryz.pinned (.plain (OpenSpec.ofChange bookReplaysSpec)) bookReplaysCard

/-- THE TIED CARD OF 'glisterlaw12.BookParts'. -/
def bookPartsCard : Claim7 := { stood := { row := bookPartsRow, standIns := [], harness := (true, "42e4cffee3bc8cbf1d0185dcf2b6daca658e6749166f8bfd229c5a44c46f4edf"), looks := true }, kinds := [], alts := [], laidByText := true, laidKinds := [.data, .data, .data, .data, .sentinel, .sentinel, .pinned], laidTests := true, laidLooks := .later }
def BookPartsCardSaid : Prop := Claim7.holds Tryz.pinned (.plain (OpenSpec.ofChange bookPartsSpec)) bookPartsCard

/-- THE TIED CARD OF 'glisterlaw12.BookUndone'. -/
def bookUndoneCard : Claim7 := { stood := { row := bookUndoneRow, standIns := [], harness := (true, "42e4cffee3bc8cbf1d0185dcf2b6daca658e6749166f8bfd229c5a44c46f4edf"), looks := true }, kinds := [], alts := [], laidByText := true, laidKinds := [.data, .data, .data, .data, .sentinel, .sentinel, .pinned], laidTests := true, laidLooks := .later }
def BookUndoneCardSaid : Prop := Claim7.holds Tryz.pinned (.plain (OpenSpec.ofChange bookUndoneSpec)) bookUndoneCard

/-- THE TIED CARD OF 'glisterlaw12.BookLost'. -/
def bookLostCard : Claim7 := { stood := { row := bookLostRow, standIns := [], harness := (true, "42e4cffee3bc8cbf1d0185dcf2b6daca658e6749166f8bfd229c5a44c46f4edf"), looks := true }, kinds := [], alts := [], laidByText := true, laidKinds := [.data, .data, .data, .data, .sentinel, .sentinel, .pinned], laidTests := true, laidLooks := .later }
def BookLostCardSaid : Prop := Claim7.holds Tryz.pinned (.plain (OpenSpec.ofChange bookLostSpec)) bookLostCard

/-- THE TIED CARD OF 'glisterlaw12.BookWords'. -/
def bookWordsCard : Claim7 := { stood := { row := bookWordsRow, standIns := [], harness := (true, "42e4cffee3bc8cbf1d0185dcf2b6daca658e6749166f8bfd229c5a44c46f4edf"), looks := true }, kinds := [], alts := [], laidByText := true, laidKinds := [.data, .data, .data, .data, .sentinel, .sentinel, .pinned], laidTests := true, laidLooks := .later }
def BookWordsCardSaid : Prop := Claim7.holds Tryz.pinned (.plain (OpenSpec.ofChange bookWordsSpec)) bookWordsCard

/-- THE TIED CARD OF 'glisterlaw12.BookWrites'. -/
def bookWritesCard : Claim7 := { stood := { row := bookWritesRow, standIns := [], harness := (true, "42e4cffee3bc8cbf1d0185dcf2b6daca658e6749166f8bfd229c5a44c46f4edf"), looks := true }, kinds := [], alts := [], laidByText := true, laidKinds := [.data, .data, .data, .data, .sentinel, .sentinel, .pinned], laidTests := true, laidLooks := .later }
def BookWritesCardSaid : Prop := Claim7.holds Tryz.pinned (.plain (OpenSpec.ofChange bookWritesSpec)) bookWritesCard

/-- THE TIED CARD OF 'glisterlaw12.BookStops'. -/
def bookStopsCard : Claim7 := { stood := { row := bookStopsRow, standIns := [], harness := (true, "42e4cffee3bc8cbf1d0185dcf2b6daca658e6749166f8bfd229c5a44c46f4edf"), looks := true }, kinds := [], alts := [], laidByText := true, laidKinds := [.data, .data, .data, .data, .sentinel, .sentinel, .pinned], laidTests := true, laidLooks := .later }
def BookStopsCardSaid : Prop := Claim7.holds Tryz.pinned (.plain (OpenSpec.ofChange bookStopsSpec)) bookStopsCard

/-- THE TIED CARD OF 'glisterlaw12.BookPlace'. -/
def bookPlaceCard : Claim7 := { stood := { row := bookPlaceRow, standIns := [], harness := (true, "42e4cffee3bc8cbf1d0185dcf2b6daca658e6749166f8bfd229c5a44c46f4edf"), looks := true }, kinds := [], alts := [], laidByText := true, laidKinds := [.data, .data, .data, .data, .sentinel, .sentinel, .pinned], laidTests := true, laidLooks := .later }
def BookPlaceCardSaid : Prop := Claim7.holds Tryz.pinned (.plain (OpenSpec.ofChange bookPlaceSpec)) bookPlaceCard

/-- THE TIED CARD OF 'glisterlaw12.BookResumes'. -/
def bookResumesCard : Claim7 := { stood := { row := bookResumesRow, standIns := [], harness := (true, "42e4cffee3bc8cbf1d0185dcf2b6daca658e6749166f8bfd229c5a44c46f4edf"), looks := true }, kinds := [], alts := [], laidByText := true, laidKinds := [.data, .data, .data, .data, .sentinel, .sentinel, .pinned], laidTests := true, laidLooks := .later }
def BookResumesCardSaid : Prop := Claim7.holds Tryz.pinned (.plain (OpenSpec.ofChange bookResumesSpec)) bookResumesCard

/-- THE TIED CARD OF 'glisterlaw12.BookGoesOn'. -/
def bookGoesOnCard : Claim7 := { stood := { row := bookGoesOnRow, standIns := [], harness := (true, "42e4cffee3bc8cbf1d0185dcf2b6daca658e6749166f8bfd229c5a44c46f4edf"), looks := true }, kinds := [], alts := [], laidByText := true, laidKinds := [.data, .data, .data, .data, .sentinel, .sentinel, .pinned], laidTests := true, laidLooks := .later }
def BookGoesOnCardSaid : Prop := Claim7.holds Tryz.pinned (.plain (OpenSpec.ofChange bookGoesOnSpec)) bookGoesOnCard

/-- THE TIED CARD OF 'glisterlaw12.BookExplained'. -/
def bookExplainedCard : Claim7 := { stood := { row := bookExplainedRow, standIns := [], harness := (true, "42e4cffee3bc8cbf1d0185dcf2b6daca658e6749166f8bfd229c5a44c46f4edf"), looks := true }, kinds := [], alts := [], laidByText := true, laidKinds := [.data, .data, .data, .data, .sentinel, .sentinel, .pinned], laidTests := true, laidLooks := .later }
def BookExplainedCardSaid : Prop := Claim7.holds Tryz.pinned (.plain (OpenSpec.ofChange bookExplainedSpec)) bookExplainedCard

/-- THE SECOND FORM's CARD OF 'glistertop.TopSigned'. -/
def topSignedUptoCard : Claim7 := { stood := { row := topSignedUptoRow, standIns := [], harness := (true, "42e4cffee3bc8cbf1d0185dcf2b6daca658e6749166f8bfd229c5a44c46f4edf"), looks := true }, kinds := [], alts := [], laidByText := true, laidKinds := [.data, .data, .data, .data, .sentinel, .sentinel, .pinned], laidTests := true, laidLooks := .later }
def TopSignedUptoCardSaid : Prop := Claim7.holds Tryz.pinned (.plain (OpenSpec.upto topSignedSpec)) topSignedUptoCard

/-- THE SECOND FORM's CARD OF 'glisterlaw12.BookPlays'. -/
def bookPlaysUptoCard : Claim7 := { stood := { row := bookPlaysUptoRow, standIns := [], harness := (true, "42e4cffee3bc8cbf1d0185dcf2b6daca658e6749166f8bfd229c5a44c46f4edf"), looks := true }, kinds := [], alts := [], laidByText := true, laidKinds := [.data, .data, .data, .data, .sentinel, .sentinel, .pinned], laidTests := true, laidLooks := .later }
def BookPlaysUptoCardSaid : Prop := Claim7.holds Tryz.pinned (.plain (OpenSpec.upto bookPlaysSpec)) bookPlaysUptoCard

/-- THE SECOND FORM's CARD OF 'glisterlaw12.BookExposes'. -/
def bookExposesUptoCard : Claim7 := { stood := { row := bookExposesUptoRow, standIns := [], harness := (true, "42e4cffee3bc8cbf1d0185dcf2b6daca658e6749166f8bfd229c5a44c46f4edf"), looks := true }, kinds := [], alts := [], laidByText := true, laidKinds := [.data, .data, .data, .data, .sentinel, .sentinel, .pinned], laidTests := true, laidLooks := .later }
def BookExposesUptoCardSaid : Prop := Claim7.holds Tryz.pinned (.plain (OpenSpec.upto bookExposesSpec)) bookExposesUptoCard

/-- THE SECOND FORM's CARD OF 'glisterlaw12.BookCopies'. -/
def bookCopiesUptoCard : Claim7 := { stood := { row := bookCopiesUptoRow, standIns := [], harness := (true, "42e4cffee3bc8cbf1d0185dcf2b6daca658e6749166f8bfd229c5a44c46f4edf"), looks := true }, kinds := [], alts := [], laidByText := true, laidKinds := [.data, .data, .data, .data, .sentinel, .sentinel, .pinned], laidTests := true, laidLooks := .later }
def BookCopiesUptoCardSaid : Prop := Claim7.holds Tryz.pinned (.plain (OpenSpec.upto bookCopiesSpec)) bookCopiesUptoCard

/-- THE SECOND FORM's CARD OF 'glisterlaw12.BookOwes'. -/
def bookOwesUptoCard : Claim7 := { stood := { row := bookOwesUptoRow, standIns := [], harness := (true, "42e4cffee3bc8cbf1d0185dcf2b6daca658e6749166f8bfd229c5a44c46f4edf"), looks := true }, kinds := [], alts := [], laidByText := true, laidKinds := [.data, .data, .data, .data, .sentinel, .sentinel, .pinned], laidTests := true, laidLooks := .later }
def BookOwesUptoCardSaid : Prop := Claim7.holds Tryz.pinned (.plain (OpenSpec.upto bookOwesSpec)) bookOwesUptoCard

/-- THE SECOND FORM's CARD OF 'glisterlaw12.BookReports'. -/
def bookReportsUptoCard : Claim7 := { stood := { row := bookReportsUptoRow, standIns := [], harness := (true, "42e4cffee3bc8cbf1d0185dcf2b6daca658e6749166f8bfd229c5a44c46f4edf"), looks := true }, kinds := [], alts := [], laidByText := true, laidKinds := [.data, .data, .data, .data, .sentinel, .sentinel, .pinned], laidTests := true, laidLooks := .later }
def BookReportsUptoCardSaid : Prop := Claim7.holds Tryz.pinned (.plain (OpenSpec.upto bookReportsSpec)) bookReportsUptoCard

/-- THE SECOND FORM's CARD OF 'glisterlaw12.BookNames'. -/
def bookNamesUptoCard : Claim7 := { stood := { row := bookNamesUptoRow, standIns := [], harness := (true, "42e4cffee3bc8cbf1d0185dcf2b6daca658e6749166f8bfd229c5a44c46f4edf"), looks := true }, kinds := [], alts := [], laidByText := true, laidKinds := [.data, .data, .data, .data, .sentinel, .sentinel, .pinned], laidTests := true, laidLooks := .later }
def BookNamesUptoCardSaid : Prop := Claim7.holds Tryz.pinned (.plain (OpenSpec.upto bookNamesSpec)) bookNamesUptoCard

/-- THE SECOND FORM's CARD OF 'glisterlaw12.BookReplays'. -/
def bookReplaysUptoCard : Claim7 := { stood := { row := bookReplaysUptoRow, standIns := [], harness := (true, "42e4cffee3bc8cbf1d0185dcf2b6daca658e6749166f8bfd229c5a44c46f4edf"), looks := true }, kinds := [], alts := [], laidByText := true, laidKinds := [.data, .data, .data, .data, .sentinel, .sentinel, .pinned], laidTests := true, laidLooks := .later }
def BookReplaysUptoCardSaid : Prop := Claim7.holds Tryz.pinned (.plain (OpenSpec.upto bookReplaysSpec)) bookReplaysUptoCard

/-- THE SECOND FORM's CARD OF 'glisterlaw12.BookParts'. -/
def bookPartsUptoCard : Claim7 := { stood := { row := bookPartsUptoRow, standIns := [], harness := (true, "42e4cffee3bc8cbf1d0185dcf2b6daca658e6749166f8bfd229c5a44c46f4edf"), looks := true }, kinds := [], alts := [], laidByText := true, laidKinds := [.data, .data, .data, .data, .sentinel, .sentinel, .pinned], laidTests := true, laidLooks := .later }
def BookPartsUptoCardSaid : Prop := Claim7.holds Tryz.pinned (.plain (OpenSpec.upto bookPartsSpec)) bookPartsUptoCard

/-- THE SECOND FORM's CARD OF 'glisterlaw12.BookUndone'. -/
def bookUndoneUptoCard : Claim7 := { stood := { row := bookUndoneUptoRow, standIns := [], harness := (true, "42e4cffee3bc8cbf1d0185dcf2b6daca658e6749166f8bfd229c5a44c46f4edf"), looks := true }, kinds := [], alts := [], laidByText := true, laidKinds := [.data, .data, .data, .data, .sentinel, .sentinel, .pinned], laidTests := true, laidLooks := .later }
def BookUndoneUptoCardSaid : Prop := Claim7.holds Tryz.pinned (.plain (OpenSpec.upto bookUndoneSpec)) bookUndoneUptoCard

/-- THE SECOND FORM's CARD OF 'glisterlaw12.BookLost'. -/
def bookLostUptoCard : Claim7 := { stood := { row := bookLostUptoRow, standIns := [], harness := (true, "42e4cffee3bc8cbf1d0185dcf2b6daca658e6749166f8bfd229c5a44c46f4edf"), looks := true }, kinds := [], alts := [], laidByText := true, laidKinds := [.data, .data, .data, .data, .sentinel, .sentinel, .pinned], laidTests := true, laidLooks := .later }
def BookLostUptoCardSaid : Prop := Claim7.holds Tryz.pinned (.plain (OpenSpec.upto bookLostSpec)) bookLostUptoCard

/-- THE SECOND FORM's CARD OF 'glisterlaw12.BookWords'. -/
def bookWordsUptoCard : Claim7 := { stood := { row := bookWordsUptoRow, standIns := [], harness := (true, "42e4cffee3bc8cbf1d0185dcf2b6daca658e6749166f8bfd229c5a44c46f4edf"), looks := true }, kinds := [], alts := [], laidByText := true, laidKinds := [.data, .data, .data, .data, .sentinel, .sentinel, .pinned], laidTests := true, laidLooks := .later }
def BookWordsUptoCardSaid : Prop := Claim7.holds Tryz.pinned (.plain (OpenSpec.upto bookWordsSpec)) bookWordsUptoCard

/-- THE SECOND FORM's CARD OF 'glisterlaw12.BookWrites'. -/
def bookWritesUptoCard : Claim7 := { stood := { row := bookWritesUptoRow, standIns := [], harness := (true, "42e4cffee3bc8cbf1d0185dcf2b6daca658e6749166f8bfd229c5a44c46f4edf"), looks := true }, kinds := [], alts := [], laidByText := true, laidKinds := [.data, .data, .data, .data, .sentinel, .sentinel, .pinned], laidTests := true, laidLooks := .later }
def BookWritesUptoCardSaid : Prop := Claim7.holds Tryz.pinned (.plain (OpenSpec.upto bookWritesSpec)) bookWritesUptoCard

/-- THE SECOND FORM's CARD OF 'glisterlaw12.BookStops'. -/
def bookStopsUptoCard : Claim7 := { stood := { row := bookStopsUptoRow, standIns := [], harness := (true, "42e4cffee3bc8cbf1d0185dcf2b6daca658e6749166f8bfd229c5a44c46f4edf"), looks := true }, kinds := [], alts := [], laidByText := true, laidKinds := [.data, .data, .data, .data, .sentinel, .sentinel, .pinned], laidTests := true, laidLooks := .later }
def BookStopsUptoCardSaid : Prop := Claim7.holds Tryz.pinned (.plain (OpenSpec.upto bookStopsSpec)) bookStopsUptoCard

/-- THE SECOND FORM's CARD OF 'glisterlaw12.BookPlace'. -/
def bookPlaceUptoCard : Claim7 := { stood := { row := bookPlaceUptoRow, standIns := [], harness := (true, "42e4cffee3bc8cbf1d0185dcf2b6daca658e6749166f8bfd229c5a44c46f4edf"), looks := true }, kinds := [], alts := [], laidByText := true, laidKinds := [.data, .data, .data, .data, .sentinel, .sentinel, .pinned], laidTests := true, laidLooks := .later }
def BookPlaceUptoCardSaid : Prop := Claim7.holds Tryz.pinned (.plain (OpenSpec.upto bookPlaceSpec)) bookPlaceUptoCard

/-- THE SECOND FORM's CARD OF 'glisterlaw12.BookResumes'. -/
def bookResumesUptoCard : Claim7 := { stood := { row := bookResumesUptoRow, standIns := [], harness := (true, "42e4cffee3bc8cbf1d0185dcf2b6daca658e6749166f8bfd229c5a44c46f4edf"), looks := true }, kinds := [], alts := [], laidByText := true, laidKinds := [.data, .data, .data, .data, .sentinel, .sentinel, .pinned], laidTests := true, laidLooks := .later }
def BookResumesUptoCardSaid : Prop := Claim7.holds Tryz.pinned (.plain (OpenSpec.upto bookResumesSpec)) bookResumesUptoCard

/-- THE SECOND FORM's CARD OF 'glisterlaw12.BookGoesOn'. -/
def bookGoesOnUptoCard : Claim7 := { stood := { row := bookGoesOnUptoRow, standIns := [], harness := (true, "42e4cffee3bc8cbf1d0185dcf2b6daca658e6749166f8bfd229c5a44c46f4edf"), looks := true }, kinds := [], alts := [], laidByText := true, laidKinds := [.data, .data, .data, .data, .sentinel, .sentinel, .pinned], laidTests := true, laidLooks := .later }
def BookGoesOnUptoCardSaid : Prop := Claim7.holds Tryz.pinned (.plain (OpenSpec.upto bookGoesOnSpec)) bookGoesOnUptoCard

/-- THE SECOND FORM's CARD OF 'glisterlaw12.BookExplained'. -/
def bookExplainedUptoCard : Claim7 := { stood := { row := bookExplainedUptoRow, standIns := [], harness := (true, "42e4cffee3bc8cbf1d0185dcf2b6daca658e6749166f8bfd229c5a44c46f4edf"), looks := true }, kinds := [], alts := [], laidByText := true, laidKinds := [.data, .data, .data, .data, .sentinel, .sentinel, .pinned], laidTests := true, laidLooks := .later }
def BookExplainedUptoCardSaid : Prop := Claim7.holds Tryz.pinned (.plain (OpenSpec.upto bookExplainedSpec)) bookExplainedUptoCard
end Rows
end Go.Proofs.YticjeianiahppaaGreatDoor
