/-
  DERIVED. GIVEN WITH THE SEED: THE CARDS: each row of YtkfbdhlfajdpgaaDoorRows.lean that lists a variable, with what it lists TIED to the program's text (the seventh form; the later family's looks); each row that meets fmt, with fmt's text TOLD by the authors' own Lean function (tested against real Go, not proved from fmt's source: count such statements apart). THE CARD IS WHAT COUNTS. Prove the row's statement (the work); the ties are given (YtkfbdhlfajdpgaaDoorTie.lean); close each card by the builder's one call (the guide's Derived/Test/ToyasCard.lean, 'card_holds'). Laid BY PROGRAM, IN A SANDBOX (cutbox-door.mjs). By AI agents, Wed Nov 11 2026. No macro, syntax, notation, axiom, sorry.
-/
import Derived.Test.YtkfbdhlfajdpgaaDoorRows
import GoSem.ClaimSeven
namespace Go.Proofs.YtkfbdhlfajdpgaaDoor
namespace Rows

/-- THE TIED CARD OF 'staddalaw06.HeapWins'. -/
def heapWinsCard : Claim7 := { stood := { row := heapWinsRow, standIns := [], harness := (true, "ee33b85b638ed377745bdbfa7ea1520c3ad06bc8391f04888bead49d0714d54a"), looks := false }, kinds := [], alts := [], laidByText := true, laidKinds := [.data, .pinned], laidTests := true, laidLooks := .later }
def HeapWinsCardSaid : Prop := Claim7.holds Tryd.pinned (.plain (OpenSpec.ofChange heapWinsSpec)) heapWinsCard

/-- THE SECOND FORM's CARD OF 'staddalaw06.HeapWins'. -/
def heapWinsUptoCard : Claim7 := { stood := { row := heapWinsUptoRow, standIns := [], harness := (true, "ee33b85b638ed377745bdbfa7ea1520c3ad06bc8391f04888bead49d0714d54a"), looks := false }, kinds := [], alts := [], laidByText := true, laidKinds := [.data, .pinned], laidTests := true, laidLooks := .later }
def HeapWinsUptoCardSaid : Prop := Claim7.holds Tryd.pinned (.plain (OpenSpec.upto heapWinsSpec)) heapWinsUptoCard
end Rows
end Go.Proofs.YtkfbdhlfajdpgaaDoor
