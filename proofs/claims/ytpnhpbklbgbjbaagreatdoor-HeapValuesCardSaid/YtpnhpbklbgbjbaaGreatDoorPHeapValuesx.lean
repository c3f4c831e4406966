-- printed by wip/pp.py (my patched run of the kit's printer)
import Derived.Test.YtpnhpbklbgbjbaaGreatDoorPHeapValuesx0
import Derived.Test.YtpnhpbklbgbjbaaGreatDoorPHeapValuesx1
import Derived.Test.YtpnhpbklbgbjbaaGreatDoorPHeapValuesx2
import Derived.Test.YtpnhpbklbgbjbaaGreatDoorPHeapValuesx3
import Derived.Test.YtpnhpbklbgbjbaaGreatDoorPHeapValuesx4
import Derived.Test.YtpnhpbklbgbjbaaGreatDoorPHeapValuesx5
import Derived.Test.YtpnhpbklbgbjbaaGreatDoorPHeapValuesx6
import Derived.Test.YtpnhpbklbgbjbaaGreatDoorPHeapValuesx7
import Derived.Test.YtpnhpbklbgbjbaaGreatDoorPHeapValuesx8
import Derived.Test.YtpnhpbklbgbjbaaGreatDoorPHeapValuesx9
import Derived.Test.YtpnhpbklbgbjbaaGreatDoorPHeapValuesx10
namespace Go.Proofs.YtpnhpbklbgbjbaaGreatDoor.PHeapValues
open Go.RowKit Go.Proofs.YtpnhpbklbgbjbaaGreatDoorW.PrintWords Go.Proofs.YtpnhpbklbgbjbaaGreatDoorW.PrintLast Go.Proofs.YtpnhpbklbgbjbaaGreatDoorW.PrintMore
attribute [local go_sem] max2_int min2_int max_two min_two max_three min_three max_four min_four   -- for this text's walks alone
set_option linter.unusedVariables false
set_option linter.unusedSimpArgs false

end Go.Proofs.YtpnhpbklbgbjbaaGreatDoor.PHeapValues
