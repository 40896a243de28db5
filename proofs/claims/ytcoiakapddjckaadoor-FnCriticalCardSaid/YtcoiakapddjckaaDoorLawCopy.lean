/- The laws' helpers: copies and comparisons. -/
import Derived.Test.YtcoiakapddjckaaDoorF
import Derived.Test.YtcoiakapddjckaaDoorLoops
namespace Go.Proofs.YtcoiakapddjckaaDoor
end Go.Proofs.YtcoiakapddjckaaDoor
