-- Written by my program pp.py for this claim
import Derived.Test.YtalejedajkhkjaaQChunkBackx0
import Derived.Test.YtalejedajkhkjaaQChunkBackx1
import Derived.Test.YtalejedajkhkjaaQChunkBackx2
import Derived.Test.YtalejedajkhkjaaQChunkBackx3
import Derived.Test.YtalejedajkhkjaaQChunkBackx4
import Derived.Test.YtalejedajkhkjaaQChunkBackx5
namespace Go.Proofs.Ytalejedajkhkjaa.QChunkBack
open Go.RowKit Go.Proofs.YtalejedajkhkjaaW.PrintWords Go.Proofs.YtalejedajkhkjaaW.PrintLast Go.Proofs.YtalejedajkhkjaaW.PrintMore
attribute [local go_sem] max2_int min2_int max_two min_two max_three min_three max_four min_four   -- for this text's walks alone
set_option linter.unusedVariables false
set_option linter.unusedSimpArgs false

end Go.Proofs.Ytalejedajkhkjaa.QChunkBack
