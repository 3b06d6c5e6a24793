-- PRINTED BY print.sh 35421559b90ae4d0a3588c463048766b98c2df88dd9212a6774a882060cdf62d: not written by this session
import Derived.Test.YtpabehkdedhncaaPTagBytesx0
import Derived.Test.YtpabehkdedhncaaPTagBytesx1
import Derived.Test.YtpabehkdedhncaaPTagBytesx2
import Derived.Test.YtpabehkdedhncaaPTagBytesx3
import Derived.Test.YtpabehkdedhncaaPTagBytesx4
import Derived.Test.YtpabehkdedhncaaPTagBytesx5
import Derived.Test.YtpabehkdedhncaaPTagBytesx6
import Derived.Test.YtpabehkdedhncaaPTagBytesx7
import Derived.Test.YtpabehkdedhncaaPTagBytesx8
import Derived.Test.YtpabehkdedhncaaPTagBytesx9
namespace Go.Proofs.Ytpabehkdedhncaa.PTagBytes
open Go.RowKit Go.Proofs.YtpabehkdedhncaaW.PrintWords Go.Proofs.YtpabehkdedhncaaW.PrintLast Go.Proofs.YtpabehkdedhncaaW.PrintMore
attribute [local go_sem] max2_int min2_int max_two min_two max_three min_three max_four min_four   -- for this text's walks alone
set_option linter.unusedVariables false
set_option linter.unusedSimpArgs false

end Go.Proofs.Ytpabehkdedhncaa.PTagBytes
