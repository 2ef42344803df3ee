-- written by wip/pp.py of this session (by the kit's printing program, run once over all laws of the seat)
import Derived.Test.YtcaennbagdipkaaPx0
import Derived.Test.YtcaennbagdipkaaPx1
import Derived.Test.YtcaennbagdipkaaPx2
namespace Go.Proofs.Ytcaennbagdipkaa.P
open Go.RowKit Go.Proofs.YtcaennbagdipkaaW.PrintWords Go.Proofs.YtcaennbagdipkaaW.PrintLast Go.Proofs.YtcaennbagdipkaaW.PrintMore
attribute [local go_sem] max2_int min2_int max_two min_two max_three min_three max_four min_four   -- for this text's walks alone
set_option linter.unusedVariables false
set_option linter.unusedSimpArgs false

end Go.Proofs.Ytcaennbagdipkaa.P
