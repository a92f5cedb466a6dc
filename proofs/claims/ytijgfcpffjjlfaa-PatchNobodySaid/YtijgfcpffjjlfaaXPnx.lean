-- Written by a program of this session (wip/tools)
import Derived.Test.YtijgfcpffjjlfaaXPnx0
import Derived.Test.YtijgfcpffjjlfaaXPnx1
namespace Go.Proofs.Ytijgfcpffjjlfaa.XPn
open Go.RowKit Go.Proofs.YtijgfcpffjjlfaaW.PrintWords Go.Proofs.YtijgfcpffjjlfaaW.PrintLast Go.Proofs.YtijgfcpffjjlfaaW.PrintMore
attribute [local go_sem] max2_int min2_int max_two min_two max_three min_three max_four min_four   -- for this text's walks alone
set_option linter.unusedVariables false
set_option linter.unusedSimpArgs false

end Go.Proofs.Ytijgfcpffjjlfaa.XPn
