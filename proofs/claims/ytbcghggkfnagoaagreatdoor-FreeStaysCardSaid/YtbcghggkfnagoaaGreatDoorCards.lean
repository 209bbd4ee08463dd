/-
  DERIVED. GIVEN WITH THE SEED: THE CARDS: each row of YtbcghggkfnagoaaGreatDoorRows.lean that lists a variable, with what it lists TIED to the program's text (the seventh form; the later family's looks); each row that meets fmt, with fmt's text TOLD by the authors' own Lean function (tested against real Go, not proved from fmt's source: count such statements apart). THE CARD IS WHAT COUNTS. Prove the row's statement (the work); the ties are given (YtbcghggkfnagoaaGreatDoorTie.lean); close each card by the builder's one call (the guide's Derived/Test/ToyasCard.lean, 'card_holds'). Laid BY PROGRAM, IN A SANDBOX (cutbox-door.mjs). By AI agents, Wed Nov 11 2026. No macro, syntax, notation, axiom, sorry.
-/
import Derived.Test.YtbcghggkfnagoaaGreatDoorRows
import GoSem.ClaimSeven
namespace Go.Proofs.YtbcghggkfnagoaaGreatDoor
namespace Rows

/-- THE TIED CARD OF 'hachurelaw08.FreeOnce'. -/
def freeOnceCard : Claim7 := { stood := { row := freeOnceRow, standIns := [], harness := (true, "9c24ff1773d07d8a03aaf5f5e662e1c07da8a4ac73c95d6b8e6d021d7daa8352"), looks := true }, kinds := [], alts := [], laidByText := true, laidKinds := [.data], laidTests := true, laidLooks := .later }
def FreeOnceCardSaid : Prop := Claim7.holds Tryz.pinned (.plain (OpenSpec.ofChange freeOnceSpec)) freeOnceCard

/-- THE TIED CARD OF 'hachurelaw07.PagerFull'. -/
def pagerFullCard : Claim7 := { stood := { row := pagerFullRow, standIns := [], harness := (true, "9c24ff1773d07d8a03aaf5f5e662e1c07da8a4ac73c95d6b8e6d021d7daa8352"), looks := true }, kinds := [], alts := [], laidByText := true, laidKinds := [.data], laidTests := true, laidLooks := .later }
def PagerFullCardSaid : Prop := Claim7.holds Tryz.pinned (.plain (OpenSpec.ofChange pagerFullSpec)) pagerFullCard

/-- THE TIED CARD OF 'hachurelaw10.SpillWrong'. -/
def spillWrongCard : Claim7 := { stood := { row := spillWrongRow, standIns := [], harness := (true, "9c24ff1773d07d8a03aaf5f5e662e1c07da8a4ac73c95d6b8e6d021d7daa8352"), looks := true }, kinds := [], alts := [], laidByText := true, laidKinds := [.data], laidTests := true, laidLooks := .later }
def SpillWrongCardSaid : Prop := Claim7.holds Tryz.pinned (.plain (OpenSpec.ofChange spillWrongSpec)) spillWrongCard

/-- THE TIED CARD OF 'hachurelaw07.PagerCrash'. -/
def pagerCrashCard : Claim7 := { stood := { row := pagerCrashRow, standIns := [], harness := (true, "9c24ff1773d07d8a03aaf5f5e662e1c07da8a4ac73c95d6b8e6d021d7daa8352"), looks := true }, kinds := [], alts := [], laidByText := true, laidKinds := [.data], laidTests := true, laidLooks := .later }
def PagerCrashCardSaid : Prop := Claim7.holds Tryz.pinned (.plain (OpenSpec.ofChange pagerCrashSpec)) pagerCrashCard

/-- THE TIED CARD OF 'hachurelaw07.PagerNone'. -/
def pagerNoneCard : Claim7 := { stood := { row := pagerNoneRow, standIns := [], harness := (true, "9c24ff1773d07d8a03aaf5f5e662e1c07da8a4ac73c95d6b8e6d021d7daa8352"), looks := true }, kinds := [], alts := [], laidByText := true, laidKinds := [.data], laidTests := true, laidLooks := .later }
def PagerNoneCardSaid : Prop := Claim7.holds Tryz.pinned (.plain (OpenSpec.ofChange pagerNoneSpec)) pagerNoneCard

/-- THE TIED CARD OF 'hachurelaw08.FreeActs'. -/
def freeActsCard : Claim7 := { stood := { row := freeActsRow, standIns := [], harness := (true, "9c24ff1773d07d8a03aaf5f5e662e1c07da8a4ac73c95d6b8e6d021d7daa8352"), looks := true }, kinds := [], alts := [], laidByText := true, laidKinds := [.data], laidTests := true, laidLooks := .later }
def FreeActsCardSaid : Prop := Claim7.holds Tryz.pinned (.plain (OpenSpec.ofChange freeActsSpec)) freeActsCard

/-- THE TIED CARD OF 'hachurelaw07.PagerDead'. -/
def pagerDeadCard : Claim7 := { stood := { row := pagerDeadRow, standIns := [], harness := (true, "9c24ff1773d07d8a03aaf5f5e662e1c07da8a4ac73c95d6b8e6d021d7daa8352"), looks := true }, kinds := [], alts := [], laidByText := true, laidKinds := [.data], laidTests := true, laidLooks := .later }
def PagerDeadCardSaid : Prop := Claim7.holds Tryz.pinned (.plain (OpenSpec.ofChange pagerDeadSpec)) pagerDeadCard

/-- THE TIED CARD OF 'hachurelaw08.FreeNone'. -/
def freeNoneCard : Claim7 := { stood := { row := freeNoneRow, standIns := [], harness := (true, "9c24ff1773d07d8a03aaf5f5e662e1c07da8a4ac73c95d6b8e6d021d7daa8352"), looks := true }, kinds := [], alts := [], laidByText := true, laidKinds := [.data], laidTests := true, laidLooks := .later }
def FreeNoneCardSaid : Prop := Claim7.holds Tryz.pinned (.plain (OpenSpec.ofChange freeNoneSpec)) freeNoneCard

/-- THE TIED CARD OF 'hachurelaw10.SpillBack'. -/
def spillBackCard : Claim7 := { stood := { row := spillBackRow, standIns := [], harness := (true, "9c24ff1773d07d8a03aaf5f5e662e1c07da8a4ac73c95d6b8e6d021d7daa8352"), looks := true }, kinds := [], alts := [], laidByText := true, laidKinds := [.data], laidTests := true, laidLooks := .later }
def SpillBackCardSaid : Prop := Claim7.holds Tryz.pinned (.plain (OpenSpec.ofChange spillBackSpec)) spillBackCard

/-- THE TIED CARD OF 'hachurelaw08.FreeStays'. -/
def freeStaysCard : Claim7 := { stood := { row := freeStaysRow, standIns := [], harness := (true, "9c24ff1773d07d8a03aaf5f5e662e1c07da8a4ac73c95d6b8e6d021d7daa8352"), looks := true }, kinds := [], alts := [], laidByText := true, laidKinds := [.data], laidTests := true, laidLooks := .later }
def FreeStaysCardSaid : Prop := Claim7.holds Tryz.pinned (.plain (OpenSpec.ofChange freeStaysSpec)) freeStaysCard

/-- THE SECOND FORM's CARD OF 'hachurelaw08.FreeOnce'. -/
def freeOnceUptoCard : Claim7 := { stood := { row := freeOnceUptoRow, standIns := [], harness := (true, "9c24ff1773d07d8a03aaf5f5e662e1c07da8a4ac73c95d6b8e6d021d7daa8352"), looks := true }, kinds := [], alts := [], laidByText := true, laidKinds := [.data], laidTests := true, laidLooks := .later }
def FreeOnceUptoCardSaid : Prop := Claim7.holds Tryz.pinned (.plain (OpenSpec.upto freeOnceSpec)) freeOnceUptoCard

/-- THE SECOND FORM's CARD OF 'hachurelaw07.PagerFull'. -/
def pagerFullUptoCard : Claim7 := { stood := { row := pagerFullUptoRow, standIns := [], harness := (true, "9c24ff1773d07d8a03aaf5f5e662e1c07da8a4ac73c95d6b8e6d021d7daa8352"), looks := true }, kinds := [], alts := [], laidByText := true, laidKinds := [.data], laidTests := true, laidLooks := .later }
def PagerFullUptoCardSaid : Prop := Claim7.holds Tryz.pinned (.plain (OpenSpec.upto pagerFullSpec)) pagerFullUptoCard

/-- THE SECOND FORM's CARD OF 'hachurelaw10.SpillWrong'. -/
def spillWrongUptoCard : Claim7 := { stood := { row := spillWrongUptoRow, standIns := [], harness := (true, "9c24ff1773d07d8a03aaf5f5e662e1c07da8a4ac73c95d6b8e6d021d7daa8352"), looks := true }, kinds := [], alts := [], laidByText := true, laidKinds := [.data], laidTests := true, laidLooks := .later }
def SpillWrongUptoCardSaid : Prop := Claim7.holds Tryz.pinned (.plain (OpenSpec.upto spillWrongSpec)) spillWrongUptoCard

/-- THE SECOND FORM's CARD OF 'hachurelaw07.PagerCrash'. -/
def pagerCrashUptoCard : Claim7 := { stood := { row := pagerCrashUptoRow, standIns := [], harness := (true, "9c24ff1773d07d8a03aaf5f5e662e1c07da8a4ac73c95d6b8e6d021d7daa8352"), looks := true }, kinds := [], alts := [], laidByText := true, laidKinds := [.data], laidTests := true, laidLooks := .later }
def PagerCrashUptoCardSaid : Prop := Claim7.holds Tryz.pinned (.plain (OpenSpec.upto pagerCrashSpec)) pagerCrashUptoCard

/-- THE SECOND FORM's CARD OF 'hachurelaw07.PagerNone'. -/
def pagerNoneUptoCard : Claim7 := { stood := { row := pagerNoneUptoRow, standIns := [], harness := (true, "9c24ff1773d07d8a03aaf5f5e662e1c07da8a4ac73c95d6b8e6d021d7daa8352"), looks := true }, kinds := [], alts := [], laidByText := true, laidKinds := [.data], laidTests := true, laidLooks := .later }
def PagerNoneUptoCardSaid : Prop := Claim7.holds Tryz.pinned (.plain (OpenSpec.upto pagerNoneSpec)) pagerNoneUptoCard

/-- THE SECOND FORM's CARD OF 'hachurelaw08.FreeActs'. -/
def freeActsUptoCard : Claim7 := { stood := { row := freeActsUptoRow, standIns := [], harness := (true, "9c24ff1773d07d8a03aaf5f5e662e1c07da8a4ac73c95d6b8e6d021d7daa8352"), looks := true }, kinds := [], alts := [], laidByText := true, laidKinds := [.data], laidTests := true, laidLooks := .later }
def FreeActsUptoCardSaid : Prop := Claim7.holds Tryz.pinned (.plain (OpenSpec.upto freeActsSpec)) freeActsUptoCard

/-- THE SECOND FORM's CARD OF 'hachurelaw07.PagerDead'. -/
def pagerDeadUptoCard : Claim7 := { stood := { row := pagerDeadUptoRow, standIns := [], harness := (true, "9c24ff1773d07d8a03aaf5f5e662e1c07da8a4ac73c95d6b8e6d021d7daa8352"), looks := true }, kinds := [], alts := [], laidByText := true, laidKinds := [.data], laidTests := true, laidLooks := .later }
def PagerDeadUptoCardSaid : Prop := Claim7.holds Tryz.pinned (.plain (OpenSpec.upto pagerDeadSpec)) pagerDeadUptoCard

/-- THE SECOND FORM's CARD OF 'hachurelaw08.FreeNone'. -/
def freeNoneUptoCard : Claim7 := { stood := { row := freeNoneUptoRow, standIns := [], harness := (true, "9c24ff1773d07d8a03aaf5f5e662e1c07da8a4ac73c95d6b8e6d021d7daa8352"), looks := true }, kinds := [], alts := [], laidByText := true, laidKinds := [.data], laidTests := true, laidLooks := .later }
def FreeNoneUptoCardSaid : Prop := Claim7.holds Tryz.pinned (.plain (OpenSpec.upto freeNoneSpec)) freeNoneUptoCard

/-- THE SECOND FORM's CARD OF 'hachurelaw10.SpillBack'. -/
def spillBackUptoCard : Claim7 := { stood := { row := spillBackUptoRow, standIns := [], harness := (true, "9c24ff1773d07d8a03aaf5f5e662e1c07da8a4ac73c95d6b8e6d021d7daa8352"), looks := true }, kinds := [], alts := [], laidByText := true, laidKinds := [.data], laidTests := true, laidLooks := .later }
def SpillBackUptoCardSaid : Prop := Claim7.holds Tryz.pinned (.plain (OpenSpec.upto spillBackSpec)) spillBackUptoCard

/-- THE SECOND FORM's CARD OF 'hachurelaw08.FreeStays'. -/
def freeStaysUptoCard : Claim7 := { stood := { row := freeStaysUptoRow, standIns := [], harness := (true, "9c24ff1773d07d8a03aaf5f5e662e1c07da8a4ac73c95d6b8e6d021d7daa8352"), looks := true }, kinds := [], alts := [], laidByText := true, laidKinds := [.data], laidTests := true, laidLooks := .later }
def FreeStaysUptoCardSaid : Prop := Claim7.holds Tryz.pinned (.plain (OpenSpec.upto freeStaysSpec)) freeStaysUptoCard
end Rows
end Go.Proofs.YtbcghggkfnagoaaGreatDoor
