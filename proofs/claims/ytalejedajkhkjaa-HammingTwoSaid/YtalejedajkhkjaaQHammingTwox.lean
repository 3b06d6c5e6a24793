-- Written by my program pp.py for this claim
import Derived.Test.YtalejedajkhkjaaQHammingTwox0
import Derived.Test.YtalejedajkhkjaaQHammingTwox1
import Derived.Test.YtalejedajkhkjaaQHammingTwox2
import Derived.Test.YtalejedajkhkjaaQHammingTwox3
namespace Go.Proofs.Ytalejedajkhkjaa.QHammingTwo
open Go.RowKit Go.Proofs.YtalejedajkhkjaaW.PrintWords Go.Proofs.YtalejedajkhkjaaW.PrintLast Go.Proofs.YtalejedajkhkjaaW.PrintMore
attribute [local go_sem] max2_int min2_int max_two min_two max_three min_three max_four min_four   -- for this text's walks alone
set_option linter.unusedVariables false
set_option linter.unusedSimpArgs false

end Go.Proofs.Ytalejedajkhkjaa.QHammingTwo
