/- The laws' helpers over graphs. -/
import Derived.Test.YtcoiakapddjckaaDoorGraph
namespace Go.Proofs.YtcoiakapddjckaaDoor
end Go.Proofs.YtcoiakapddjckaaDoor
