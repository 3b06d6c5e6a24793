-- Written by my program pp.py for this claim
import Derived.Test.YtpedkegfefnibaaQCrcSumsx0
import Derived.Test.YtpedkegfefnibaaQCrcSumsx1
import Derived.Test.YtpedkegfefnibaaQCrcSumsx2
import Derived.Test.YtpedkegfefnibaaQCrcSumsx3
import Derived.Test.YtpedkegfefnibaaQCrcSumsx4
namespace Go.Proofs.Ytpedkegfefnibaa.QCrcSums
open Go.RowKit Go.Proofs.YtpedkegfefnibaaW.PrintWords Go.Proofs.YtpedkegfefnibaaW.PrintLast Go.Proofs.YtpedkegfefnibaaW.PrintMore
attribute [local go_sem] max2_int min2_int max_two min_two max_three min_three max_four min_four   -- for this text's walks alone
set_option linter.unusedVariables false
set_option linter.unusedSimpArgs false

end Go.Proofs.Ytpedkegfefnibaa.QCrcSums
