-- Written by a program of this session (wip/tools)
import Derived.Test.YtdaeanodgnmknaaXRdx0
import Derived.Test.YtdaeanodgnmknaaXRdx1
namespace Go.Proofs.Ytdaeanodgnmknaa.XRd
open Go.RowKit Go.Proofs.YtdaeanodgnmknaaW.PrintWords Go.Proofs.YtdaeanodgnmknaaW.PrintLast Go.Proofs.YtdaeanodgnmknaaW.PrintMore
attribute [local go_sem] max2_int min2_int max_two min_two max_three min_three max_four min_four   -- for this text's walks alone
set_option linter.unusedVariables false
set_option linter.unusedSimpArgs false

end Go.Proofs.Ytdaeanodgnmknaa.XRd
