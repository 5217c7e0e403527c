/-
  DERIVED. GIVEN WITH THE SEED: THE CARDS: each row of YtpdceilhgaladaaGreatDoorRows.lean that lists a variable, with what it lists TIED to the program's text (the seventh form; the later family's looks); each row that meets fmt, with fmt's text TOLD by the authors' own Lean function (tested against real Go, not proved from fmt's source: count such statements apart). THE CARD IS WHAT COUNTS. Prove the row's statement (the work); the ties are given (YtpdceilhgaladaaGreatDoorTie.lean); close each card by the builder's one call (the guide's Derived/Test/ToyasCard.lean, 'card_holds'). Laid BY PROGRAM, IN A SANDBOX (cutbox-door.mjs). By AI agents, Wed Nov 11 2026. No macro, syntax, notation, axiom, sorry.
-/
import Derived.Test.YtpdceilhgaladaaGreatDoorRows
import GoSem.ClaimSeven
namespace Go.Proofs.YtpdceilhgaladaaGreatDoor
namespace Rows

/-- THE TIED CARD OF 'buttresslaw24.SessionNone'. -/
def sessionNoneCard : Claim7 := { stood := { row := sessionNoneRow, standIns := [], harness := (true, "70581ab234c81040e9e6b86084aaede0ea42cb153419c67d6d8cf33ff51431a7"), looks := true }, kinds := [], alts := [], laidByText := true, laidKinds := [.data, .data, .data, .pinned], laidTests := true, laidLooks := .later }
def SessionNoneCardSaid : Prop := Claim7.holds Tryz.pinned (.plain (OpenSpec.ofChange sessionNoneSpec)) sessionNoneCard

/-- THE TIED CARD OF 'buttresslaw13.ProofNone'. -/
def proofNoneCard : Claim7 := { stood := { row := proofNoneRow, standIns := [], harness := (true, "70581ab234c81040e9e6b86084aaede0ea42cb153419c67d6d8cf33ff51431a7"), looks := true }, kinds := [], alts := [], laidByText := true, laidKinds := [.data, .data, .data, .pinned], laidTests := true, laidLooks := .later }
def ProofNoneCardSaid : Prop := Claim7.holds Tryz.pinned (.plain (OpenSpec.ofChange proofNoneSpec)) proofNoneCard

/-- THE TIED CARD OF 'buttresslaw12.MerkleNone'. -/
def merkleNoneCard : Claim7 := { stood := { row := merkleNoneRow, standIns := [], harness := (true, "70581ab234c81040e9e6b86084aaede0ea42cb153419c67d6d8cf33ff51431a7"), looks := true }, kinds := [], alts := [], laidByText := true, laidKinds := [.data, .data, .data, .pinned], laidTests := true, laidLooks := .later }
def MerkleNoneCardSaid : Prop := Claim7.holds Tryz.pinned (.plain (OpenSpec.ofChange merkleNoneSpec)) merkleNoneCard

/-- THE SECOND FORM's CARD OF 'buttresslaw24.SessionNone'. -/
def sessionNoneUptoCard : Claim7 := { stood := { row := sessionNoneUptoRow, standIns := [], harness := (true, "70581ab234c81040e9e6b86084aaede0ea42cb153419c67d6d8cf33ff51431a7"), looks := true }, kinds := [], alts := [], laidByText := true, laidKinds := [.data, .data, .data, .pinned], laidTests := true, laidLooks := .later }
def SessionNoneUptoCardSaid : Prop := Claim7.holds Tryz.pinned (.plain (OpenSpec.upto sessionNoneSpec)) sessionNoneUptoCard

/-- THE SECOND FORM's CARD OF 'buttresslaw13.ProofNone'. -/
def proofNoneUptoCard : Claim7 := { stood := { row := proofNoneUptoRow, standIns := [], harness := (true, "70581ab234c81040e9e6b86084aaede0ea42cb153419c67d6d8cf33ff51431a7"), looks := true }, kinds := [], alts := [], laidByText := true, laidKinds := [.data, .data, .data, .pinned], laidTests := true, laidLooks := .later }
def ProofNoneUptoCardSaid : Prop := Claim7.holds Tryz.pinned (.plain (OpenSpec.upto proofNoneSpec)) proofNoneUptoCard

/-- THE SECOND FORM's CARD OF 'buttresslaw12.MerkleNone'. -/
def merkleNoneUptoCard : Claim7 := { stood := { row := merkleNoneUptoRow, standIns := [], harness := (true, "70581ab234c81040e9e6b86084aaede0ea42cb153419c67d6d8cf33ff51431a7"), looks := true }, kinds := [], alts := [], laidByText := true, laidKinds := [.data, .data, .data, .pinned], laidTests := true, laidLooks := .later }
def MerkleNoneUptoCardSaid : Prop := Claim7.holds Tryz.pinned (.plain (OpenSpec.upto merkleNoneSpec)) merkleNoneUptoCard
end Rows
end Go.Proofs.YtpdceilhgaladaaGreatDoor
