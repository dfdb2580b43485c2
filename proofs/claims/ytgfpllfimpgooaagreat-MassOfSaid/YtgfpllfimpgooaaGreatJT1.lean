/- The product of two units: how near its matrix is to the product of theirs. Plain: no program in sight. -/
import Derived.Test.YtgfpllfimpgooaaGreatJML
namespace Go.X

end Go.X
