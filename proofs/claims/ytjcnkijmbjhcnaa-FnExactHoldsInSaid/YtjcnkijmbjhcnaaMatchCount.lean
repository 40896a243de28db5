/- How many matchings there are: the reference's table. -/
import Derived.Test.YtjcnkijmbjhcnaaTab
namespace Go.Proofs.Ytjcnkijmbjhcnaa
end Go.Proofs.Ytjcnkijmbjhcnaa
