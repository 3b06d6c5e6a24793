-- Written by my program pp.py for this claim
import Derived.Test.YtpedkegfefnibaaQCrcPartsx0
import Derived.Test.YtpedkegfefnibaaQCrcPartsx1
import Derived.Test.YtpedkegfefnibaaQCrcPartsx2
import Derived.Test.YtpedkegfefnibaaQCrcPartsx3
namespace Go.Proofs.Ytpedkegfefnibaa.QCrcParts
open Go.RowKit Go.Proofs.YtpedkegfefnibaaW.PrintWords Go.Proofs.YtpedkegfefnibaaW.PrintLast Go.Proofs.YtpedkegfefnibaaW.PrintMore
attribute [local go_sem] max2_int min2_int max_two min_two max_three min_three max_four min_four   -- for this text's walks alone
set_option linter.unusedVariables false
set_option linter.unusedSimpArgs false

end Go.Proofs.Ytpedkegfefnibaa.QCrcParts
