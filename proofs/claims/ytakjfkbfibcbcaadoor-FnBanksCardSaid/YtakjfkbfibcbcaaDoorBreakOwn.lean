/- BreakS: mark and held over results. -/
import Derived.Test.YtakjfkbfibcbcaaDoorBreakList
import Derived.OwnWalk
set_option linter.unusedSimpArgs false
set_option linter.unusedVariables false
namespace Go.Proofs.YtakjfkbfibcbcaaDoor
open Go.RowKit Go.Sort Go.Salt
attribute [local go_sem] cell_rg
end Go.Proofs.YtakjfkbfibcbcaaDoor
