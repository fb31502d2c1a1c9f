/-
  THE ENVIRONMENT OF THIS PROGRAM for the abstract machine, and that it is sound.
-/
import Derived.Test.YtgfkllnaeekjeaaLiftN
import Derived.Test.YtgfkllnaeekjeaaRows
namespace Go.Proofs.Ytgfkllnaeekjeaa
open Go.Lift

set_option maxRecDepth 1000000
noncomputable def env : AEnv := { D := tyD Try.prog, eqs := [24] }
theorem env_ok : EnvOk Try.prog env where
  tys := Tys.ok_self _
  eqs := eqs_of (by decide +kernel)
  names := names_of (by decide +kernel)
  prims := fun _ _ h => by cases h
theorem mixed : Try.prog.follows .mixedOrders = true := by decide +kernel
end Go.Proofs.Ytgfkllnaeekjeaa
