-- printed by xprint (a program of this session)
import Derived.Test.YtfllpoonfhiipaaPx0
import Derived.Test.YtfllpoonfhiipaaPx1
import Derived.Test.YtfllpoonfhiipaaPx2
import Derived.Test.YtfllpoonfhiipaaPx3
import Derived.Test.YtfllpoonfhiipaaPx4
import Derived.Test.YtfllpoonfhiipaaPx5
import Derived.Test.YtfllpoonfhiipaaPx6
import Derived.Test.YtfllpoonfhiipaaPx7
import Derived.Test.YtfllpoonfhiipaaPx8
import Derived.Test.YtfllpoonfhiipaaPx9
import Derived.Test.YtfllpoonfhiipaaPx10
import Derived.Test.YtfllpoonfhiipaaPx11
import Derived.Test.YtfllpoonfhiipaaPx12
import Derived.Test.YtfllpoonfhiipaaPx13
import Derived.Test.YtfllpoonfhiipaaPx14
namespace Go.Proofs.Ytfllpoonfhiipaa.P
open Go.RowKit Go.Proofs.YtfllpoonfhiipaaW.PrintWords Go.Proofs.YtfllpoonfhiipaaW.PrintLast Go.Proofs.YtfllpoonfhiipaaW.PrintMore
attribute [local go_sem] max2_int min2_int max_two min_two max_three min_three max_four min_four   -- for this text's walks alone
set_option linter.unusedVariables false
set_option linter.unusedSimpArgs false

end Go.Proofs.Ytfllpoonfhiipaa.P
