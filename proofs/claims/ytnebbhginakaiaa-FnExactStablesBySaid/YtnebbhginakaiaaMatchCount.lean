/- How many matchings there are: the reference's table. -/
import Derived.Test.YtnebbhginakaiaaTab
namespace Go.Proofs.Ytnebbhginakaiaa
end Go.Proofs.Ytnebbhginakaiaa
