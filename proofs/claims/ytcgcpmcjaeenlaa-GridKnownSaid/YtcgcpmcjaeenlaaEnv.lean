/-
  THE ENVIRONMENT OF THIS PROGRAM for the abstract machine, and that it is sound.
-/
import Derived.Test.YtcgcpmcjaeenlaaLiftN
import Derived.Test.YtcgcpmcjaeenlaaRows
namespace Go.Proofs.Ytcgcpmcjaeenlaa
open Go.Lift

set_option maxRecDepth 1000000
noncomputable def env : AEnv := { D := tyD Try.prog, eqs := [36, 28, 38, 45] }
theorem env_ok : EnvOk Try.prog env where
  tys := Tys.ok_self _
  eqs := eqs_of (by decide +kernel)
  names := names_of (by decide +kernel)
theorem mixed : Try.prog.follows .mixedOrders = true := by decide +kernel
end Go.Proofs.Ytcgcpmcjaeenlaa
