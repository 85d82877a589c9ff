import Derived.Test.YtehjmmedghcndaaCV
import Derived.Test.YtehjmmedghcndaaCB
import Derived.Test.YtehjmmedghcndaaJ42
import Derived.Test.YtehjmmedghcndaaPGx0
import Derived.Test.YtehjmmedghcndaaG1
import Derived.Test.YtehjmmedghcndaaCM
import Derived.Test.YtehjmmedghcndaaG3
import Derived.Test.YtehjmmedghcndaaCE0
section
/-! cyl, plain: few, and what is the same -/
namespace Go.Proofs.Ytehjmmedghcndaa.PG
open Go.RowKit Go.Proofs.YtehjmmedghcndaaW.PrintWords Go.Proofs.YtehjmmedghcndaaW.PrintLast Go.Proofs.YtehjmmedghcndaaW.PrintMore
end Go.Proofs.Ytehjmmedghcndaa.PG
end
section
namespace Go.Proofs.Ytehjmmedghcndaa.PG
open Go.RowKit Go.Proofs.YtehjmmedghcndaaW.PrintWords Go.Proofs.YtehjmmedghcndaaW.PrintLast Go.Proofs.YtehjmmedghcndaaW.PrintMore
attribute [local go_sem] max2_int min2_int max_two min_two max_three min_three max_four min_four run_store_one   -- for this text's walks alone
set_option linter.unusedVariables false
set_option linter.unusedSimpArgs false
/-! ### cyl_Give: function 15 -/
end Go.Proofs.Ytehjmmedghcndaa.PG
end
section
namespace Go.Proofs.Ytehjmmedghcndaa.PG
open Go.RowKit Go.Proofs.YtehjmmedghcndaaW.PrintWords Go.Proofs.YtehjmmedghcndaaW.PrintLast Go.Proofs.YtehjmmedghcndaaW.PrintMore
attribute [local go_sem] max2_int min2_int max_two min_two max_three min_three max_four min_four run_store_one   -- for this text's walks alone
set_option linter.unusedVariables false
set_option linter.unusedSimpArgs false
/-! ### selvedgeref18_Give: function 16 -/
end Go.Proofs.Ytehjmmedghcndaa.PG
end
section
/-! cyl, plain: Give on both sides -/
namespace Go.Proofs.Ytehjmmedghcndaa.PG
open Go.RowKit Go.Proofs.YtehjmmedghcndaaW.PrintWords Go.Proofs.YtehjmmedghcndaaW.PrintLast Go.Proofs.YtehjmmedghcndaaW.PrintMore
end Go.Proofs.Ytehjmmedghcndaa.PG
end
