/- Counting sets: loops over all sets, one to one. -/
import Derived.Test.YtjcnkijmbjhcnaaSetF
namespace Go.Proofs.Ytjcnkijmbjhcnaa
end Go.Proofs.Ytjcnkijmbjhcnaa
