-- Written by a program of this place (wip/tools/prn.py) out of the translation, for this claim. Lean checks it.
import Derived.Test.YtjmjmpbphhbmpaaQCHx0
import Derived.Test.YtjmjmpbphhbmpaaQCHx1
import Derived.Test.YtjmjmpbphhbmpaaQCHx2
import Derived.Test.YtjmjmpbphhbmpaaQCHx3
import Derived.Test.YtjmjmpbphhbmpaaQCHx4
import Derived.Test.YtjmjmpbphhbmpaaQCHx5
import Derived.Test.YtjmjmpbphhbmpaaQCHx6
namespace Go.Proofs.Ytjmjmpbphhbmpaa.QCH
open Go.RowKit Go.Proofs.YtjmjmpbphhbmpaaQ Go.Proofs.YtjmjmpbphhbmpaaW.PrintWords Go.Proofs.YtjmjmpbphhbmpaaW.PrintLast Go.Proofs.YtjmjmpbphhbmpaaW.PrintMore
attribute [local go_sem] max2_int min2_int max_two min_two max_three min_three max_four min_four   -- for this text's walks alone
set_option linter.unusedVariables false
set_option linter.unusedSimpArgs false

end Go.Proofs.Ytjmjmpbphhbmpaa.QCH
