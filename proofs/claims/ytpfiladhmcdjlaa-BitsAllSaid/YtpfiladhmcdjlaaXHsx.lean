-- Written by a program of this session (wip/tools)
import Derived.Test.YtpfiladhmcdjlaaXHsx0
import Derived.Test.YtpfiladhmcdjlaaXHsx1
namespace Go.Proofs.Ytpfiladhmcdjlaa.XHs
open Go.RowKit Go.Proofs.YtpfiladhmcdjlaaW.PrintWords Go.Proofs.YtpfiladhmcdjlaaW.PrintLast Go.Proofs.YtpfiladhmcdjlaaW.PrintMore
attribute [local go_sem] max2_int min2_int max_two min_two max_three min_three max_four min_four   -- for this text's walks alone
set_option linter.unusedVariables false
set_option linter.unusedSimpArgs false

end Go.Proofs.Ytpfiladhmcdjlaa.XHs
