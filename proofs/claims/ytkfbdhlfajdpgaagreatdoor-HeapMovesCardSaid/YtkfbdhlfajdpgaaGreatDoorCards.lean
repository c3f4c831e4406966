/-
  DERIVED. GIVEN WITH THE SEED: THE CARDS: each row of YtkfbdhlfajdpgaaGreatDoorRows.lean that lists a variable, with what it lists TIED to the program's text (the seventh form; the later family's looks); each row that meets fmt, with fmt's text TOLD by the authors' own Lean function (tested against real Go, not proved from fmt's source: count such statements apart). THE CARD IS WHAT COUNTS. Prove the row's statement (the work); the ties are given (YtkfbdhlfajdpgaaGreatDoorTie.lean); close each card by the builder's one call (the guide's Derived/Test/ToyasCard.lean, 'card_holds'). Laid BY PROGRAM, IN A SANDBOX (cutbox-door.mjs). By AI agents, Wed Nov 11 2026. No macro, syntax, notation, axiom, sorry.
-/
import Derived.Test.YtkfbdhlfajdpgaaGreatDoorRows
import GoSem.ClaimSeven
namespace Go.Proofs.YtkfbdhlfajdpgaaGreatDoor
namespace Rows

/-- THE TIED CARD OF 'staddalaw06.HeapMoves'. -/
def heapMovesCard : Claim7 := { stood := { row := heapMovesRow, standIns := [], harness := (true, "e6d9f9dc215f17302131b99e5a14749656b99747f52ab66b4ad147eaff1bd827"), looks := false }, kinds := [], alts := [], laidByText := true, laidKinds := [.data, .pinned], laidTests := true, laidLooks := .later }
def HeapMovesCardSaid : Prop := Claim7.holds Tryz.pinned (.plain (OpenSpec.ofChange heapMovesSpec)) heapMovesCard

/-- THE SECOND FORM's CARD OF 'staddalaw06.HeapMoves'. -/
def heapMovesUptoCard : Claim7 := { stood := { row := heapMovesUptoRow, standIns := [], harness := (true, "e6d9f9dc215f17302131b99e5a14749656b99747f52ab66b4ad147eaff1bd827"), looks := false }, kinds := [], alts := [], laidByText := true, laidKinds := [.data, .pinned], laidTests := true, laidLooks := .later }
def HeapMovesUptoCardSaid : Prop := Claim7.holds Tryz.pinned (.plain (OpenSpec.upto heapMovesSpec)) heapMovesUptoCard
end Rows
end Go.Proofs.YtkfbdhlfajdpgaaGreatDoor
