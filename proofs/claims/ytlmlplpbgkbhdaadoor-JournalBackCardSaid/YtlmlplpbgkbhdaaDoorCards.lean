/-
  DERIVED. GIVEN WITH THE SEED: THE CARDS: each row of YtlmlplpbgkbhdaaDoorRows.lean that lists a variable, with what it lists TIED to the program's text (the seventh form; the later family's looks); each row that meets fmt, with fmt's text TOLD by the authors' own Lean function (tested against real Go, not proved from fmt's source: count such statements apart). THE CARD IS WHAT COUNTS. Prove the row's statement (the work); the ties are given (YtlmlplpbgkbhdaaDoorTie.lean); close each card by the builder's one call (the guide's Derived/Test/ToyasCard.lean, 'card_holds'). Laid BY PROGRAM, IN A SANDBOX (cutbox-door.mjs). By AI agents, Wed Nov 11 2026. No macro, syntax, notation, axiom, sorry.
-/
import Derived.Test.YtlmlplpbgkbhdaaDoorRows
import GoSem.ClaimSeven
namespace Go.Proofs.YtlmlplpbgkbhdaaDoor
namespace Rows

/-- THE TIED CARD OF 'hachurelaw03.SumBits'. -/
def sumBitsCard : Claim7 := { stood := { row := sumBitsRow, standIns := [], harness := (true, "9a91221d035ad6d49f4d6fd971cdc89c13b84f9777963ab30956f260f21ece71"), looks := false }, kinds := [], alts := [], laidByText := true, laidKinds := [.data], laidTests := true, laidLooks := .later }
def SumBitsCardSaid : Prop := Claim7.holds Tryd.pinned (.plain (OpenSpec.ofChange sumBitsSpec)) sumBitsCard

/-- THE TIED CARD OF 'hachurelaw03.SumOf'. -/
def sumOfCard : Claim7 := { stood := { row := sumOfRow, standIns := [], harness := (true, "9a91221d035ad6d49f4d6fd971cdc89c13b84f9777963ab30956f260f21ece71"), looks := false }, kinds := [], alts := [], laidByText := true, laidKinds := [.data], laidTests := true, laidLooks := .later }
def SumOfCardSaid : Prop := Claim7.holds Tryd.pinned (.plain (OpenSpec.ofChange sumOfSpec)) sumOfCard

/-- THE TIED CARD OF 'hachurelaw03.SumPieces'. -/
def sumPiecesCard : Claim7 := { stood := { row := sumPiecesRow, standIns := [], harness := (true, "9a91221d035ad6d49f4d6fd971cdc89c13b84f9777963ab30956f260f21ece71"), looks := false }, kinds := [], alts := [], laidByText := true, laidKinds := [.data], laidTests := true, laidLooks := .later }
def SumPiecesCardSaid : Prop := Claim7.holds Tryd.pinned (.plain (OpenSpec.ofChange sumPiecesSpec)) sumPiecesCard

/-- THE TIED CARD OF 'hachurelaw06.JournalFlips'. -/
def journalFlipsCard : Claim7 := { stood := { row := journalFlipsRow, standIns := [], harness := (true, "9a91221d035ad6d49f4d6fd971cdc89c13b84f9777963ab30956f260f21ece71"), looks := false }, kinds := [], alts := [], laidByText := true, laidKinds := [.data], laidTests := true, laidLooks := .later }
def JournalFlipsCardSaid : Prop := Claim7.holds Tryd.pinned (.plain (OpenSpec.ofChange journalFlipsSpec)) journalFlipsCard

/-- THE TIED CARD OF 'hachurelaw06.JournalForms'. -/
def journalFormsCard : Claim7 := { stood := { row := journalFormsRow, standIns := [], harness := (true, "9a91221d035ad6d49f4d6fd971cdc89c13b84f9777963ab30956f260f21ece71"), looks := false }, kinds := [], alts := [], laidByText := true, laidKinds := [.data], laidTests := true, laidLooks := .later }
def JournalFormsCardSaid : Prop := Claim7.holds Tryd.pinned (.plain (OpenSpec.ofChange journalFormsSpec)) journalFormsCard

/-- THE TIED CARD OF 'hachurelaw06.JournalTorn'. -/
def journalTornCard : Claim7 := { stood := { row := journalTornRow, standIns := [], harness := (true, "9a91221d035ad6d49f4d6fd971cdc89c13b84f9777963ab30956f260f21ece71"), looks := false }, kinds := [], alts := [], laidByText := true, laidKinds := [.data], laidTests := true, laidLooks := .later }
def JournalTornCardSaid : Prop := Claim7.holds Tryd.pinned (.plain (OpenSpec.ofChange journalTornSpec)) journalTornCard

/-- THE TIED CARD OF 'hachurelaw06.JournalReads'. -/
def journalReadsCard : Claim7 := { stood := { row := journalReadsRow, standIns := [], harness := (true, "9a91221d035ad6d49f4d6fd971cdc89c13b84f9777963ab30956f260f21ece71"), looks := false }, kinds := [], alts := [], laidByText := true, laidKinds := [.data], laidTests := true, laidLooks := .later }
def JournalReadsCardSaid : Prop := Claim7.holds Tryd.pinned (.plain (OpenSpec.ofChange journalReadsSpec)) journalReadsCard

/-- THE TIED CARD OF 'hachurelaw06.JournalBack'. -/
def journalBackCard : Claim7 := { stood := { row := journalBackRow, standIns := [], harness := (true, "9a91221d035ad6d49f4d6fd971cdc89c13b84f9777963ab30956f260f21ece71"), looks := false }, kinds := [], alts := [], laidByText := true, laidKinds := [.data], laidTests := true, laidLooks := .later }
def JournalBackCardSaid : Prop := Claim7.holds Tryd.pinned (.plain (OpenSpec.ofChange journalBackSpec)) journalBackCard

/-- THE SECOND FORM's CARD OF 'hachurelaw03.SumBits'. -/
def sumBitsUptoCard : Claim7 := { stood := { row := sumBitsUptoRow, standIns := [], harness := (true, "9a91221d035ad6d49f4d6fd971cdc89c13b84f9777963ab30956f260f21ece71"), looks := false }, kinds := [], alts := [], laidByText := true, laidKinds := [.data], laidTests := true, laidLooks := .later }
def SumBitsUptoCardSaid : Prop := Claim7.holds Tryd.pinned (.plain (OpenSpec.upto sumBitsSpec)) sumBitsUptoCard

/-- THE SECOND FORM's CARD OF 'hachurelaw03.SumOf'. -/
def sumOfUptoCard : Claim7 := { stood := { row := sumOfUptoRow, standIns := [], harness := (true, "9a91221d035ad6d49f4d6fd971cdc89c13b84f9777963ab30956f260f21ece71"), looks := false }, kinds := [], alts := [], laidByText := true, laidKinds := [.data], laidTests := true, laidLooks := .later }
def SumOfUptoCardSaid : Prop := Claim7.holds Tryd.pinned (.plain (OpenSpec.upto sumOfSpec)) sumOfUptoCard

/-- THE SECOND FORM's CARD OF 'hachurelaw03.SumPieces'. -/
def sumPiecesUptoCard : Claim7 := { stood := { row := sumPiecesUptoRow, standIns := [], harness := (true, "9a91221d035ad6d49f4d6fd971cdc89c13b84f9777963ab30956f260f21ece71"), looks := false }, kinds := [], alts := [], laidByText := true, laidKinds := [.data], laidTests := true, laidLooks := .later }
def SumPiecesUptoCardSaid : Prop := Claim7.holds Tryd.pinned (.plain (OpenSpec.upto sumPiecesSpec)) sumPiecesUptoCard

/-- THE SECOND FORM's CARD OF 'hachurelaw06.JournalFlips'. -/
def journalFlipsUptoCard : Claim7 := { stood := { row := journalFlipsUptoRow, standIns := [], harness := (true, "9a91221d035ad6d49f4d6fd971cdc89c13b84f9777963ab30956f260f21ece71"), looks := false }, kinds := [], alts := [], laidByText := true, laidKinds := [.data], laidTests := true, laidLooks := .later }
def JournalFlipsUptoCardSaid : Prop := Claim7.holds Tryd.pinned (.plain (OpenSpec.upto journalFlipsSpec)) journalFlipsUptoCard

/-- THE SECOND FORM's CARD OF 'hachurelaw06.JournalForms'. -/
def journalFormsUptoCard : Claim7 := { stood := { row := journalFormsUptoRow, standIns := [], harness := (true, "9a91221d035ad6d49f4d6fd971cdc89c13b84f9777963ab30956f260f21ece71"), looks := false }, kinds := [], alts := [], laidByText := true, laidKinds := [.data], laidTests := true, laidLooks := .later }
def JournalFormsUptoCardSaid : Prop := Claim7.holds Tryd.pinned (.plain (OpenSpec.upto journalFormsSpec)) journalFormsUptoCard

/-- THE SECOND FORM's CARD OF 'hachurelaw06.JournalTorn'. -/
def journalTornUptoCard : Claim7 := { stood := { row := journalTornUptoRow, standIns := [], harness := (true, "9a91221d035ad6d49f4d6fd971cdc89c13b84f9777963ab30956f260f21ece71"), looks := false }, kinds := [], alts := [], laidByText := true, laidKinds := [.data], laidTests := true, laidLooks := .later }
def JournalTornUptoCardSaid : Prop := Claim7.holds Tryd.pinned (.plain (OpenSpec.upto journalTornSpec)) journalTornUptoCard

/-- THE SECOND FORM's CARD OF 'hachurelaw06.JournalReads'. -/
def journalReadsUptoCard : Claim7 := { stood := { row := journalReadsUptoRow, standIns := [], harness := (true, "9a91221d035ad6d49f4d6fd971cdc89c13b84f9777963ab30956f260f21ece71"), looks := false }, kinds := [], alts := [], laidByText := true, laidKinds := [.data], laidTests := true, laidLooks := .later }
def JournalReadsUptoCardSaid : Prop := Claim7.holds Tryd.pinned (.plain (OpenSpec.upto journalReadsSpec)) journalReadsUptoCard

/-- THE SECOND FORM's CARD OF 'hachurelaw06.JournalBack'. -/
def journalBackUptoCard : Claim7 := { stood := { row := journalBackUptoRow, standIns := [], harness := (true, "9a91221d035ad6d49f4d6fd971cdc89c13b84f9777963ab30956f260f21ece71"), looks := false }, kinds := [], alts := [], laidByText := true, laidKinds := [.data], laidTests := true, laidLooks := .later }
def JournalBackUptoCardSaid : Prop := Claim7.holds Tryd.pinned (.plain (OpenSpec.upto journalBackSpec)) journalBackUptoCard
end Rows
end Go.Proofs.YtlmlplpbgkbhdaaDoor
