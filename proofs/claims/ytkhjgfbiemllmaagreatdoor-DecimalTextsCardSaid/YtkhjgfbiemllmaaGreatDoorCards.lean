/-
  DERIVED. GIVEN WITH THE SEED: THE CARDS: each row of YtkhjgfbiemllmaaGreatDoorRows.lean that lists a variable, with what it lists TIED to the program's text (the seventh form; the later family's looks); each row that meets fmt, with fmt's text TOLD by the authors' own Lean function (tested against real Go, not proved from fmt's source: count such statements apart). THE CARD IS WHAT COUNTS. Prove the row's statement (the work); the ties are given (YtkhjgfbiemllmaaGreatDoorTie.lean); close each card by the builder's one call (the guide's Derived/Test/ToyasCard.lean, 'card_holds'). Laid BY PROGRAM, IN A SANDBOX (cutbox-door.mjs). By AI agents, Wed Nov 11 2026. No macro, syntax, notation, axiom, sorry.
-/
import Derived.Test.YtkhjgfbiemllmaaGreatDoorRows
import GoSem.ClaimSeven
namespace Go.Proofs.YtkhjgfbiemllmaaGreatDoor
namespace Rows

/-- THE TIED CARD OF 'concordlaw04.DecimalProducts'. -/
def decimalProductsCard : Claim7 := { stood := { row := decimalProductsRow, standIns := [], harness := (true, "4bf3be39ec2e448bb3fa7836aa785679e5a3dec5213e99b897cf51eb78aa444a"), looks := true }, kinds := [], alts := [], laidByText := true, laidKinds := [.data, .data, .data, .sentinel, .sentinel, .data], laidTests := true, laidLooks := .later }
def DecimalProductsCardSaid : Prop := Claim7.holds Tryz.pinned (.plain (OpenSpec.ofChange decimalProductsSpec)) decimalProductsCard

/-- THE TIED CARD OF 'concordlaw04.DecimalRounds'. -/
def decimalRoundsCard : Claim7 := { stood := { row := decimalRoundsRow, standIns := [], harness := (true, "4bf3be39ec2e448bb3fa7836aa785679e5a3dec5213e99b897cf51eb78aa444a"), looks := true }, kinds := [], alts := [], laidByText := true, laidKinds := [.data, .data, .data, .sentinel, .sentinel, .data], laidTests := true, laidLooks := .later }
def DecimalRoundsCardSaid : Prop := Claim7.holds Tryz.pinned (.plain (OpenSpec.ofChange decimalRoundsSpec)) decimalRoundsCard

/-- THE TIED CARD OF 'concordlaw04.DecimalTexts'. -/
def decimalTextsCard : Claim7 := { stood := { row := decimalTextsRow, standIns := [], harness := (true, "4bf3be39ec2e448bb3fa7836aa785679e5a3dec5213e99b897cf51eb78aa444a"), looks := true }, kinds := [], alts := [], laidByText := true, laidKinds := [.data, .data, .data, .sentinel, .sentinel, .data], laidTests := true, laidLooks := .later }
def DecimalTextsCardSaid : Prop := Claim7.holds Tryz.pinned (.plain (OpenSpec.ofChange decimalTextsSpec)) decimalTextsCard

/-- THE TIED CARD OF 'concordlaw04.DecimalSums'. -/
def decimalSumsCard : Claim7 := { stood := { row := decimalSumsRow, standIns := [], harness := (true, "4bf3be39ec2e448bb3fa7836aa785679e5a3dec5213e99b897cf51eb78aa444a"), looks := true }, kinds := [], alts := [], laidByText := true, laidKinds := [.data, .data, .data, .sentinel, .sentinel, .data], laidTests := true, laidLooks := .later }
def DecimalSumsCardSaid : Prop := Claim7.holds Tryz.pinned (.plain (OpenSpec.ofChange decimalSumsSpec)) decimalSumsCard

/-- THE SECOND FORM's CARD OF 'concordlaw04.DecimalProducts'. -/
def decimalProductsUptoCard : Claim7 := { stood := { row := decimalProductsUptoRow, standIns := [], harness := (true, "4bf3be39ec2e448bb3fa7836aa785679e5a3dec5213e99b897cf51eb78aa444a"), looks := true }, kinds := [], alts := [], laidByText := true, laidKinds := [.data, .data, .data, .sentinel, .sentinel, .data], laidTests := true, laidLooks := .later }
def DecimalProductsUptoCardSaid : Prop := Claim7.holds Tryz.pinned (.plain (OpenSpec.upto decimalProductsSpec)) decimalProductsUptoCard

/-- THE SECOND FORM's CARD OF 'concordlaw04.DecimalRounds'. -/
def decimalRoundsUptoCard : Claim7 := { stood := { row := decimalRoundsUptoRow, standIns := [], harness := (true, "4bf3be39ec2e448bb3fa7836aa785679e5a3dec5213e99b897cf51eb78aa444a"), looks := true }, kinds := [], alts := [], laidByText := true, laidKinds := [.data, .data, .data, .sentinel, .sentinel, .data], laidTests := true, laidLooks := .later }
def DecimalRoundsUptoCardSaid : Prop := Claim7.holds Tryz.pinned (.plain (OpenSpec.upto decimalRoundsSpec)) decimalRoundsUptoCard

/-- THE SECOND FORM's CARD OF 'concordlaw04.DecimalTexts'. -/
def decimalTextsUptoCard : Claim7 := { stood := { row := decimalTextsUptoRow, standIns := [], harness := (true, "4bf3be39ec2e448bb3fa7836aa785679e5a3dec5213e99b897cf51eb78aa444a"), looks := true }, kinds := [], alts := [], laidByText := true, laidKinds := [.data, .data, .data, .sentinel, .sentinel, .data], laidTests := true, laidLooks := .later }
def DecimalTextsUptoCardSaid : Prop := Claim7.holds Tryz.pinned (.plain (OpenSpec.upto decimalTextsSpec)) decimalTextsUptoCard

/-- THE SECOND FORM's CARD OF 'concordlaw04.DecimalSums'. -/
def decimalSumsUptoCard : Claim7 := { stood := { row := decimalSumsUptoRow, standIns := [], harness := (true, "4bf3be39ec2e448bb3fa7836aa785679e5a3dec5213e99b897cf51eb78aa444a"), looks := true }, kinds := [], alts := [], laidByText := true, laidKinds := [.data, .data, .data, .sentinel, .sentinel, .data], laidTests := true, laidLooks := .later }
def DecimalSumsUptoCardSaid : Prop := Claim7.holds Tryz.pinned (.plain (OpenSpec.upto decimalSumsSpec)) decimalSumsUptoCard
end Rows
end Go.Proofs.YtkhjgfbiemllmaaGreatDoor
