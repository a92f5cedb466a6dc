-- Written by a program of this session (wip/tools)
import Derived.Test.YtnbkbmhiajfbpaaDoorXDpx0
import Derived.Test.YtnbkbmhiajfbpaaDoorXDpx1
import Derived.Test.YtnbkbmhiajfbpaaDoorXDpx2
namespace Go.Proofs.YtnbkbmhiajfbpaaDoor.XDp
open Go.RowKit Go.Proofs.YtnbkbmhiajfbpaaDoorW.PrintWords Go.Proofs.YtnbkbmhiajfbpaaDoorW.PrintLast Go.Proofs.YtnbkbmhiajfbpaaDoorW.PrintMore
attribute [local go_sem] max2_int min2_int max_two min_two max_three min_three max_four min_four   -- for this text's walks alone
set_option linter.unusedVariables false
set_option linter.unusedSimpArgs false

end Go.Proofs.YtnbkbmhiajfbpaaDoor.XDp
