-- printed by wip/pp.py (my patched run of the kit's printer)
import Derived.Test.YtkfbdhlfajdpgaaGreatDoorPHeapMovesx0
import Derived.Test.YtkfbdhlfajdpgaaGreatDoorPHeapMovesx6
import Derived.Test.YtkfbdhlfajdpgaaGreatDoorPHeapMovesx8
import Derived.Test.YtkfbdhlfajdpgaaGreatDoorPHeapMovesx10
namespace Go.Proofs.YtkfbdhlfajdpgaaGreatDoor.PHeapMoves
open Go.RowKit Go.Proofs.YtkfbdhlfajdpgaaGreatDoorW.PrintWords Go.Proofs.YtkfbdhlfajdpgaaGreatDoorW.PrintLast Go.Proofs.YtkfbdhlfajdpgaaGreatDoorW.PrintMore
attribute [local go_sem] max2_int min2_int max_two min_two max_three min_three max_four min_four   -- for this text's walks alone
set_option linter.unusedVariables false
set_option linter.unusedSimpArgs false

end Go.Proofs.YtkfbdhlfajdpgaaGreatDoor.PHeapMoves
