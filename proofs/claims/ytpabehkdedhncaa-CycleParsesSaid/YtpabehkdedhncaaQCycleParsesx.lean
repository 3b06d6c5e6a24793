-- Written by my program pp.py for this claim
import Derived.Test.YtpabehkdedhncaaQCycleParsesx0
import Derived.Test.YtpabehkdedhncaaQCycleParsesx1
import Derived.Test.YtpabehkdedhncaaQCycleParsesx2
import Derived.Test.YtpabehkdedhncaaQCycleParsesx3
namespace Go.Proofs.Ytpabehkdedhncaa.QCycleParses
open Go.RowKit Go.Proofs.YtpabehkdedhncaaW.PrintWords Go.Proofs.YtpabehkdedhncaaW.PrintLast Go.Proofs.YtpabehkdedhncaaW.PrintMore
attribute [local go_sem] max2_int min2_int max_two min_two max_three min_three max_four min_four   -- for this text's walks alone
set_option linter.unusedVariables false
set_option linter.unusedSimpArgs false

end Go.Proofs.Ytpabehkdedhncaa.QCycleParses
