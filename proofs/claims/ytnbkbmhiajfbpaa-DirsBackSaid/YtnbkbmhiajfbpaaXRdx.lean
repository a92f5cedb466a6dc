-- Written by a program of this session (wip/tools)
import Derived.Test.YtnbkbmhiajfbpaaXRdx0
import Derived.Test.YtnbkbmhiajfbpaaXRdx1
namespace Go.Proofs.Ytnbkbmhiajfbpaa.XRd
open Go.RowKit Go.Proofs.YtnbkbmhiajfbpaaW.PrintWords Go.Proofs.YtnbkbmhiajfbpaaW.PrintLast Go.Proofs.YtnbkbmhiajfbpaaW.PrintMore
attribute [local go_sem] max2_int min2_int max_two min_two max_three min_three max_four min_four   -- for this text's walks alone
set_option linter.unusedVariables false
set_option linter.unusedSimpArgs false

end Go.Proofs.Ytnbkbmhiajfbpaa.XRd
