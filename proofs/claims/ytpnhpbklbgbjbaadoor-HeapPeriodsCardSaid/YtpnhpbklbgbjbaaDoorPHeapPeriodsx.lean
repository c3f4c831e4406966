-- printed by wip/pp.py (my patched run of the kit's printer)
import Derived.Test.YtpnhpbklbgbjbaaDoorPHeapPeriodsx0
import Derived.Test.YtpnhpbklbgbjbaaDoorPHeapPeriodsx1
import Derived.Test.YtpnhpbklbgbjbaaDoorPHeapPeriodsx2
import Derived.Test.YtpnhpbklbgbjbaaDoorPHeapPeriodsx3
import Derived.Test.YtpnhpbklbgbjbaaDoorPHeapPeriodsx4
import Derived.Test.YtpnhpbklbgbjbaaDoorPHeapPeriodsx5
import Derived.Test.YtpnhpbklbgbjbaaDoorPHeapPeriodsx6
import Derived.Test.YtpnhpbklbgbjbaaDoorPHeapPeriodsx7
import Derived.Test.YtpnhpbklbgbjbaaDoorPHeapPeriodsx8
import Derived.Test.YtpnhpbklbgbjbaaDoorPHeapPeriodsx9
namespace Go.Proofs.YtpnhpbklbgbjbaaDoor.PHeapPeriods
open Go.RowKit Go.Proofs.YtpnhpbklbgbjbaaDoorW.PrintWords Go.Proofs.YtpnhpbklbgbjbaaDoorW.PrintLast Go.Proofs.YtpnhpbklbgbjbaaDoorW.PrintMore
attribute [local go_sem] max2_int min2_int max_two min_two max_three min_three max_four min_four   -- for this text's walks alone
set_option linter.unusedVariables false
set_option linter.unusedSimpArgs false

end Go.Proofs.YtpnhpbklbgbjbaaDoor.PHeapPeriods
