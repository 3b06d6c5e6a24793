-- Written by my program pp.py for this claim
import Derived.Test.YtpabehkdedhncaaQBadBackx0
import Derived.Test.YtpabehkdedhncaaQBadBackx1
import Derived.Test.YtpabehkdedhncaaQBadBackx2
import Derived.Test.YtpabehkdedhncaaQBadBackx3
import Derived.Test.YtpabehkdedhncaaQBadBackx4
import Derived.Test.YtpabehkdedhncaaQBadBackx5
import Derived.Test.YtpabehkdedhncaaQBadBackx6
namespace Go.Proofs.Ytpabehkdedhncaa.QBadBack
open Go.RowKit Go.Proofs.YtpabehkdedhncaaW.PrintWords Go.Proofs.YtpabehkdedhncaaW.PrintLast Go.Proofs.YtpabehkdedhncaaW.PrintMore
attribute [local go_sem] max2_int min2_int max_two min_two max_three min_three max_four min_four   -- for this text's walks alone
set_option linter.unusedVariables false
set_option linter.unusedSimpArgs false

end Go.Proofs.Ytpabehkdedhncaa.QBadBack
