-- printed by wip/pp.py (my patched run of the kit's printer)
import Derived.Test.YtkfbdhlfajdpgaaDoorPHeapWinsx0
import Derived.Test.YtkfbdhlfajdpgaaDoorPHeapWinsx1
import Derived.Test.YtkfbdhlfajdpgaaDoorPHeapWinsx2
import Derived.Test.YtkfbdhlfajdpgaaDoorPHeapWinsx3
import Derived.Test.YtkfbdhlfajdpgaaDoorPHeapWinsx4
import Derived.Test.YtkfbdhlfajdpgaaDoorPHeapWinsx5
import Derived.Test.YtkfbdhlfajdpgaaDoorPHeapWinsx6
namespace Go.Proofs.YtkfbdhlfajdpgaaDoor.PHeapWins
open Go.RowKit Go.Proofs.YtkfbdhlfajdpgaaDoorW.PrintWords Go.Proofs.YtkfbdhlfajdpgaaDoorW.PrintLast Go.Proofs.YtkfbdhlfajdpgaaDoorW.PrintMore
attribute [local go_sem] max2_int min2_int max_two min_two max_three min_three max_four min_four   -- for this text's walks alone
set_option linter.unusedVariables false
set_option linter.unusedSimpArgs false

end Go.Proofs.YtkfbdhlfajdpgaaDoor.PHeapWins
