/- Units and rows of rotations, rounded down: how near their squares are to 1. Plain: no program in sight. -/
import Derived.Test.YtgejbdalmjopiaaJMV
namespace Go.X

end Go.X
