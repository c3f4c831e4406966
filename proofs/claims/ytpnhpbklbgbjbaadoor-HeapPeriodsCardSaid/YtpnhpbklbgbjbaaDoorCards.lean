/-
  DERIVED. GIVEN WITH THE SEED: THE CARDS: each row of YtpnhpbklbgbjbaaDoorRows.lean that lists a variable, with what it lists TIED to the program's text (the seventh form; the later family's looks); each row that meets fmt, with fmt's text TOLD by the authors' own Lean function (tested against real Go, not proved from fmt's source: count such statements apart). THE CARD IS WHAT COUNTS. Prove the row's statement (the work); the ties are given (YtpnhpbklbgbjbaaDoorTie.lean); close each card by the builder's one call (the guide's Derived/Test/ToyasCard.lean, 'card_holds'). Laid BY PROGRAM, IN A SANDBOX (cutbox-door.mjs). By AI agents, Wed Nov 11 2026. No macro, syntax, notation, axiom, sorry.
-/
import Derived.Test.YtpnhpbklbgbjbaaDoorRows
import GoSem.ClaimSeven
namespace Go.Proofs.YtpnhpbklbgbjbaaDoor
namespace Rows

/-- THE TIED CARD OF 'staddalaw06.HeapPeriods'. -/
def heapPeriodsCard : Claim7 := { stood := { row := heapPeriodsRow, standIns := [], harness := (true, "51972451ce8d3a8a680565a016d665af01a523610b14070e710af7cbc75ef001"), looks := false }, kinds := [], alts := [], laidByText := true, laidKinds := [.data, .pinned], laidTests := true, laidLooks := .later }
def HeapPeriodsCardSaid : Prop := Claim7.holds Tryd.pinned (.plain (OpenSpec.ofChange heapPeriodsSpec)) heapPeriodsCard

/-- THE TIED CARD OF 'staddalaw06.HeapWins'. -/
def heapWinsCard : Claim7 := { stood := { row := heapWinsRow, standIns := [], harness := (true, "51972451ce8d3a8a680565a016d665af01a523610b14070e710af7cbc75ef001"), looks := false }, kinds := [], alts := [], laidByText := true, laidKinds := [.data, .pinned], laidTests := true, laidLooks := .later }
def HeapWinsCardSaid : Prop := Claim7.holds Tryd.pinned (.plain (OpenSpec.ofChange heapWinsSpec)) heapWinsCard

/-- THE SECOND FORM's CARD OF 'staddalaw06.HeapPeriods'. -/
def heapPeriodsUptoCard : Claim7 := { stood := { row := heapPeriodsUptoRow, standIns := [], harness := (true, "51972451ce8d3a8a680565a016d665af01a523610b14070e710af7cbc75ef001"), looks := false }, kinds := [], alts := [], laidByText := true, laidKinds := [.data, .pinned], laidTests := true, laidLooks := .later }
def HeapPeriodsUptoCardSaid : Prop := Claim7.holds Tryd.pinned (.plain (OpenSpec.upto heapPeriodsSpec)) heapPeriodsUptoCard

/-- THE SECOND FORM's CARD OF 'staddalaw06.HeapWins'. -/
def heapWinsUptoCard : Claim7 := { stood := { row := heapWinsUptoRow, standIns := [], harness := (true, "51972451ce8d3a8a680565a016d665af01a523610b14070e710af7cbc75ef001"), looks := false }, kinds := [], alts := [], laidByText := true, laidKinds := [.data, .pinned], laidTests := true, laidLooks := .later }
def HeapWinsUptoCardSaid : Prop := Claim7.holds Tryd.pinned (.plain (OpenSpec.upto heapWinsSpec)) heapWinsUptoCard
end Rows
end Go.Proofs.YtpnhpbklbgbjbaaDoor
