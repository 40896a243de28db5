/- The laws' helpers: copies and comparisons. -/
import Derived.Test.YtadjcnllmkdgiaaDoorF
import Derived.Test.YtadjcnllmkdgiaaDoorLoops
namespace Go.Proofs.YtadjcnllmkdgiaaDoor
end Go.Proofs.YtadjcnllmkdgiaaDoor
