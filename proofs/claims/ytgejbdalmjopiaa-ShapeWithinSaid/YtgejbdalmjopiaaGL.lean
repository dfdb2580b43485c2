/- The reference of shapes. -/
import Derived.Test.YtgejbdalmjopiaaJUH
import Derived.Test.YtgejbdalmjopiaaGK

section
namespace Go.X
open Go.Proofs
attribute [local irreducible] Good

end Go.X
end

section
namespace Go.X
open Go.Proofs
attribute [local irreducible] Good

end Go.X
end

section
namespace Go.X
open Go.Proofs
attribute [local irreducible] Good

end Go.X
end
