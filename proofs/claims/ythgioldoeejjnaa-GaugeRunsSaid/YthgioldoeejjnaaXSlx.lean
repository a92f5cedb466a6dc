-- Written by a program of this session (wip/tools)
import Derived.Test.YthgioldoeejjnaaXSlx0
import Derived.Test.YthgioldoeejjnaaXSlx1
namespace Go.Proofs.Ythgioldoeejjnaa.XSl
open Go.RowKit Go.Proofs.YthgioldoeejjnaaW.PrintWords Go.Proofs.YthgioldoeejjnaaW.PrintLast Go.Proofs.YthgioldoeejjnaaW.PrintMore
attribute [local go_sem] max2_int min2_int max_two min_two max_three min_three max_four min_four   -- for this text's walks alone
set_option linter.unusedVariables false
set_option linter.unusedSimpArgs false

end Go.Proofs.Ythgioldoeejjnaa.XSl
