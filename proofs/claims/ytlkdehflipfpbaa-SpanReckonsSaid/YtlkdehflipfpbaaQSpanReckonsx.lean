-- Written by a program of ours (wip/gen/myprint.py) for this claim.
import Derived.Test.YtlkdehflipfpbaaQSpanReckonsx0
import Derived.Test.YtlkdehflipfpbaaQSpanReckonsx1
import Derived.Test.YtlkdehflipfpbaaQSpanReckonsx2
import Derived.Test.YtlkdehflipfpbaaQSpanReckonsx3
import Derived.Test.YtlkdehflipfpbaaQSpanReckonsx4
import Derived.Test.YtlkdehflipfpbaaQSpanReckonsx5
import Derived.Test.YtlkdehflipfpbaaQSpanReckonsx6
import Derived.Test.YtlkdehflipfpbaaQSpanReckonsx7
import Derived.Test.YtlkdehflipfpbaaQSpanReckonsx8
namespace Go.Proofs.Ytlkdehflipfpbaa.QSpanReckons
open Go.RowKit Go.Proofs.YtlkdehflipfpbaaW.PrintWords Go.Proofs.YtlkdehflipfpbaaW.PrintLast Go.Proofs.YtlkdehflipfpbaaW.PrintMore
attribute [local go_sem] max2_int min2_int max_two min_two max_three min_three max_four min_four   -- for this text's walks alone
set_option linter.unusedVariables false
set_option linter.unusedSimpArgs false

end Go.Proofs.Ytlkdehflipfpbaa.QSpanReckons
