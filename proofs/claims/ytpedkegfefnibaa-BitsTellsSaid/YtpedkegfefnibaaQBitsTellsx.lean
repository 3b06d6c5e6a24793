-- Written by my program pp.py for this claim
import Derived.Test.YtpedkegfefnibaaQBitsTellsx0
import Derived.Test.YtpedkegfefnibaaQBitsTellsx1
import Derived.Test.YtpedkegfefnibaaQBitsTellsx2
import Derived.Test.YtpedkegfefnibaaQBitsTellsx3
namespace Go.Proofs.Ytpedkegfefnibaa.QBitsTells
open Go.RowKit Go.Proofs.YtpedkegfefnibaaW.PrintWords Go.Proofs.YtpedkegfefnibaaW.PrintLast Go.Proofs.YtpedkegfefnibaaW.PrintMore
attribute [local go_sem] max2_int min2_int max_two min_two max_three min_three max_four min_four   -- for this text's walks alone
set_option linter.unusedVariables false
set_option linter.unusedSimpArgs false

end Go.Proofs.Ytpedkegfefnibaa.QBitsTells
