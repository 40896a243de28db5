/- The laws' helpers over graphs. -/
import Derived.Test.YtadjcnllmkdgiaaGraph
namespace Go.Proofs.Ytadjcnllmkdgiaa
end Go.Proofs.Ytadjcnllmkdgiaa
