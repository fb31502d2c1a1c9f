/-
  'frescolaw08.works' answers true, wherever it is called (a closed run).
-/
import Derived.Test.YtgfkllnaeekjeaaTypes
import Derived.Test.YtgfkllnaeekjeaaLiftR
namespace Go.Proofs.Ytgfkllnaeekjeaa
open Go.Lift
set_option maxRecDepth 1000000
theorem works_run : saysTrue (fcall Try.prog env 300 21 [] ⟨0, .nil⟩) = true := by decide +kernel
theorem works_does (H : AHeap) : FDoes Try.prog 21 [] H (.bool true) H := by
  obtain ⟨h', hc⟩ := fcall_true works_run
  exact (FDoes.of_acall env_ok mixed hc).bare (by simp) (Bare.bool _) H
end Go.Proofs.Ytgfkllnaeekjeaa
