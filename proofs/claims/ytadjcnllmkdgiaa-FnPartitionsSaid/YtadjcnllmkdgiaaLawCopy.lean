/- The laws' helpers: copies and comparisons. -/
import Derived.Test.YtadjcnllmkdgiaaF
import Derived.Test.YtadjcnllmkdgiaaLoops
namespace Go.Proofs.Ytadjcnllmkdgiaa
end Go.Proofs.Ytadjcnllmkdgiaa
