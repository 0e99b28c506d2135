/-
  DERIVED. GIVEN WITH THE SEED: THE CARDS: each row of YtkhjgfbiemllmaaDoorRows.lean that lists a variable, with what it lists TIED to the program's text (the seventh form; the later family's looks); each row that meets fmt, with fmt's text TOLD by the authors' own Lean function (tested against real Go, not proved from fmt's source: count such statements apart). THE CARD IS WHAT COUNTS. Prove the row's statement (the work); the ties are given (YtkhjgfbiemllmaaDoorTie.lean); close each card by the builder's one call (the guide's Derived/Test/ToyasCard.lean, 'card_holds'). Laid BY PROGRAM, IN A SANDBOX (cutbox-door.mjs). By AI agents, Wed Nov 11 2026. No macro, syntax, notation, axiom, sorry.
-/
import Derived.Test.YtkhjgfbiemllmaaDoorRows
import GoSem.ClaimSeven
namespace Go.Proofs.YtkhjgfbiemllmaaDoor
namespace Rows

/-- THE TIED CARD OF 'concordlaw04.DecimalMakes'. -/
def decimalMakesCard : Claim7 := { stood := { row := decimalMakesRow, standIns := [], harness := (true, "0db4da33819566dfa9935ac0fd6e9050f9ee2383ad36f0f97085ede6ce252dbc"), looks := true }, kinds := [], alts := [], laidByText := true, laidKinds := [.data, .data, .data, .sentinel, .sentinel, .data], laidTests := true, laidLooks := .later }
def DecimalMakesCardSaid : Prop := Claim7.holds Tryd.pinned (.plain (OpenSpec.ofChange decimalMakesSpec)) decimalMakesCard

/-- THE TIED CARD OF 'concordlaw04.DecimalOrder'. -/
def decimalOrderCard : Claim7 := { stood := { row := decimalOrderRow, standIns := [], harness := (true, "0db4da33819566dfa9935ac0fd6e9050f9ee2383ad36f0f97085ede6ce252dbc"), looks := true }, kinds := [], alts := [], laidByText := true, laidKinds := [.data, .data, .data, .sentinel, .sentinel, .data], laidTests := true, laidLooks := .later }
def DecimalOrderCardSaid : Prop := Claim7.holds Tryd.pinned (.plain (OpenSpec.ofChange decimalOrderSpec)) decimalOrderCard

/-- THE TIED CARD OF 'concordlaw04.DecimalInts'. -/
def decimalIntsCard : Claim7 := { stood := { row := decimalIntsRow, standIns := [], harness := (true, "0db4da33819566dfa9935ac0fd6e9050f9ee2383ad36f0f97085ede6ce252dbc"), looks := true }, kinds := [], alts := [], laidByText := true, laidKinds := [.data, .data, .data, .sentinel, .sentinel, .data], laidTests := true, laidLooks := .later }
def DecimalIntsCardSaid : Prop := Claim7.holds Tryd.pinned (.plain (OpenSpec.ofChange decimalIntsSpec)) decimalIntsCard

/-- THE TIED CARD OF 'concordlaw04.DecimalRing'. -/
def decimalRingCard : Claim7 := { stood := { row := decimalRingRow, standIns := [], harness := (true, "0db4da33819566dfa9935ac0fd6e9050f9ee2383ad36f0f97085ede6ce252dbc"), looks := true }, kinds := [], alts := [], laidByText := true, laidKinds := [.data, .data, .data, .sentinel, .sentinel, .data], laidTests := true, laidLooks := .later }
def DecimalRingCardSaid : Prop := Claim7.holds Tryd.pinned (.plain (OpenSpec.ofChange decimalRingSpec)) decimalRingCard

/-- THE SECOND FORM's CARD OF 'concordlaw04.DecimalMakes'. -/
def decimalMakesUptoCard : Claim7 := { stood := { row := decimalMakesUptoRow, standIns := [], harness := (true, "0db4da33819566dfa9935ac0fd6e9050f9ee2383ad36f0f97085ede6ce252dbc"), looks := true }, kinds := [], alts := [], laidByText := true, laidKinds := [.data, .data, .data, .sentinel, .sentinel, .data], laidTests := true, laidLooks := .later }
def DecimalMakesUptoCardSaid : Prop := Claim7.holds Tryd.pinned (.plain (OpenSpec.upto decimalMakesSpec)) decimalMakesUptoCard

/-- THE SECOND FORM's CARD OF 'concordlaw04.DecimalOrder'. -/
def decimalOrderUptoCard : Claim7 := { stood := { row := decimalOrderUptoRow, standIns := [], harness := (true, "0db4da33819566dfa9935ac0fd6e9050f9ee2383ad36f0f97085ede6ce252dbc"), looks := true }, kinds := [], alts := [], laidByText := true, laidKinds := [.data, .data, .data, .sentinel, .sentinel, .data], laidTests := true, laidLooks := .later }
def DecimalOrderUptoCardSaid : Prop := Claim7.holds Tryd.pinned (.plain (OpenSpec.upto decimalOrderSpec)) decimalOrderUptoCard

/-- THE SECOND FORM's CARD OF 'concordlaw04.DecimalInts'. -/
def decimalIntsUptoCard : Claim7 := { stood := { row := decimalIntsUptoRow, standIns := [], harness := (true, "0db4da33819566dfa9935ac0fd6e9050f9ee2383ad36f0f97085ede6ce252dbc"), looks := true }, kinds := [], alts := [], laidByText := true, laidKinds := [.data, .data, .data, .sentinel, .sentinel, .data], laidTests := true, laidLooks := .later }
def DecimalIntsUptoCardSaid : Prop := Claim7.holds Tryd.pinned (.plain (OpenSpec.upto decimalIntsSpec)) decimalIntsUptoCard

/-- THE SECOND FORM's CARD OF 'concordlaw04.DecimalRing'. -/
def decimalRingUptoCard : Claim7 := { stood := { row := decimalRingUptoRow, standIns := [], harness := (true, "0db4da33819566dfa9935ac0fd6e9050f9ee2383ad36f0f97085ede6ce252dbc"), looks := true }, kinds := [], alts := [], laidByText := true, laidKinds := [.data, .data, .data, .sentinel, .sentinel, .data], laidTests := true, laidLooks := .later }
def DecimalRingUptoCardSaid : Prop := Claim7.holds Tryd.pinned (.plain (OpenSpec.upto decimalRingSpec)) decimalRingUptoCard
end Rows
end Go.Proofs.YtkhjgfbiemllmaaDoor
