-- Written by my program pp.py for this claim
import Derived.Test.YtpedkegfefnibaaQBitsTwox0
import Derived.Test.YtpedkegfefnibaaQBitsTwox1
import Derived.Test.YtpedkegfefnibaaQBitsTwox2
import Derived.Test.YtpedkegfefnibaaQBitsTwox3
import Derived.Test.YtpedkegfefnibaaQBitsTwox4
namespace Go.Proofs.Ytpedkegfefnibaa.QBitsTwo
open Go.RowKit Go.Proofs.YtpedkegfefnibaaW.PrintWords Go.Proofs.YtpedkegfefnibaaW.PrintLast Go.Proofs.YtpedkegfefnibaaW.PrintMore
attribute [local go_sem] max2_int min2_int max_two min_two max_three min_three max_four min_four   -- for this text's walks alone
set_option linter.unusedVariables false
set_option linter.unusedSimpArgs false

end Go.Proofs.Ytpedkegfefnibaa.QBitsTwo
