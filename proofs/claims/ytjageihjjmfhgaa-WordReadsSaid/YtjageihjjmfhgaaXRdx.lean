-- Written by a program of this session (wip/tools)
import Derived.Test.YtjageihjjmfhgaaXRdx0
import Derived.Test.YtjageihjjmfhgaaXRdx1
namespace Go.Proofs.Ytjageihjjmfhgaa.XRd
open Go.RowKit Go.Proofs.YtjageihjjmfhgaaW.PrintWords Go.Proofs.YtjageihjjmfhgaaW.PrintLast Go.Proofs.YtjageihjjmfhgaaW.PrintMore
attribute [local go_sem] max2_int min2_int max_two min_two max_three min_three max_four min_four   -- for this text's walks alone
set_option linter.unusedVariables false
set_option linter.unusedSimpArgs false

end Go.Proofs.Ytjageihjjmfhgaa.XRd
