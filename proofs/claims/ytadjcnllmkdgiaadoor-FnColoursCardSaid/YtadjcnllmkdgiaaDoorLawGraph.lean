/- The laws' helpers over graphs. -/
import Derived.Test.YtadjcnllmkdgiaaDoorGraph
namespace Go.Proofs.YtadjcnllmkdgiaaDoor
end Go.Proofs.YtadjcnllmkdgiaaDoor
