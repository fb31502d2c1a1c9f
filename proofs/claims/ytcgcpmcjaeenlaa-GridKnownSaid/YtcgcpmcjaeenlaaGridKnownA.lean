/-
  THE CLOSED RUN of 'frescolaw09.GridKnown' on the abstract machine: it answers true. No condition.
-/
import Derived.Test.YtcgcpmcjaeenlaaEnv
import Derived.Test.YtcgcpmcjaeenlaaLiftR
namespace Go.Proofs.Ytcgcpmcjaeenlaa
open Go.Lift
set_option maxRecDepth 1000000
theorem gridKnown_run : saysTrue (fcall Try.prog env 300 10 [] ⟨0, .nil⟩) = true := by decide +kernel
end Go.Proofs.Ytcgcpmcjaeenlaa
