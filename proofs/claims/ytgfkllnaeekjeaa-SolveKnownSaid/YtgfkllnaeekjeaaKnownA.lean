/- the closed run -/
import Derived.Test.YtgfkllnaeekjeaaEnv
namespace Go.Proofs.Ytgfkllnaeekjeaa
open Go.Lift
set_option maxRecDepth 1000000
theorem known_run : saysTrue (acall Try.prog env 300 11 [] ⟨0, []⟩) = true := by decide +kernel
end Go.Proofs.Ytgfkllnaeekjeaa
