-- Written by my program pp.py for this claim
import Derived.Test.YtpabehkdedhncaaQTagBackx0
import Derived.Test.YtpabehkdedhncaaQTagBackx1
import Derived.Test.YtpabehkdedhncaaQTagBackx2
import Derived.Test.YtpabehkdedhncaaQTagBackx3
import Derived.Test.YtpabehkdedhncaaQTagBackx4
import Derived.Test.YtpabehkdedhncaaQTagBackx5
import Derived.Test.YtpabehkdedhncaaQTagBackx6
namespace Go.Proofs.Ytpabehkdedhncaa.QTagBack
open Go.RowKit Go.Proofs.YtpabehkdedhncaaW.PrintWords Go.Proofs.YtpabehkdedhncaaW.PrintLast Go.Proofs.YtpabehkdedhncaaW.PrintMore
attribute [local go_sem] max2_int min2_int max_two min_two max_three min_three max_four min_four   -- for this text's walks alone
set_option linter.unusedVariables false
set_option linter.unusedSimpArgs false

end Go.Proofs.Ytpabehkdedhncaa.QTagBack
