/-
  'frescolaw08.SolveRight' answers true, for every item.
-/
import Derived.Test.YtgfkllnaeekjeaaRight
namespace Go.Proofs.Ytgfkllnaeekjeaa
open Go.Lift
set_option maxRecDepth 1000000
set_option linter.unusedVariables false

theorem solveRight_p (k n d mn mx : Int) (c3 : rightB k n d mn mx = rightB k n d mn mx) :
    FDoes Try.prog 3 [.agg [.int .i8 k, .int .i64 n, .int .i64 d, .int .i64 mn, .int .i64 mx]] (AHeap.of []) (AVal.bool true) (AHeap.rows 8 [(0, ABlk.made [AVal.agg [AVal.int IntKind.i8 k, AVal.int IntKind.i64 n, AVal.int IntKind.i64 d, AVal.int IntKind.i64 mn, AVal.int IntKind.i64 mx]] 5 true)]) :=
  pcall_does env_ok mixed (hs := [.val 1001 (.bool (rightB k n d mn mx)), .val 1003 (.bool (rightB k n d mn mx)), .val 1004 (.bool true)]) (rs := []) (by kernel_rfl) (All.cons (show CallT Try.prog 12 [AVal.agg [AVal.int IntKind.i8 k, AVal.int IntKind.i64 n, AVal.int IntKind.i64 d, AVal.int IntKind.i64 mn, AVal.int IntKind.i64 mx]] (AHeap.rows 8 [(0, ABlk.made [AVal.agg [AVal.int IntKind.i8 k, AVal.int IntKind.i64 n, AVal.int IntKind.i64 d, AVal.int IntKind.i64 mn, AVal.int IntKind.i64 mx]] 5 true)]) (AVal.bool (rightB k n d mn mx)) (AHeap.rows 8 [(0, ABlk.made [AVal.agg [AVal.int IntKind.i8 k, AVal.int IntKind.i64 n, AVal.int IntKind.i64 d, AVal.int IntKind.i64 mn, AVal.int IntKind.i64 mx]] 5 true)]) from ⟨(right_does _ _ _ _ _ _)⟩) (All.cons (show sameOld 8 (AHeap.rows 8 [(0, ABlk.made [AVal.agg [AVal.int IntKind.i8 k, AVal.int IntKind.i64 n, AVal.int IntKind.i64 d, AVal.int IntKind.i64 mn, AVal.int IntKind.i64 mx]] 5 true)]) (AHeap.rows 8 [(0, ABlk.made [AVal.agg [AVal.int IntKind.i8 k, AVal.int IntKind.i64 n, AVal.int IntKind.i64 d, AVal.int IntKind.i64 mn, AVal.int IntKind.i64 mx]] 5 true)]) = true from sameOld_refl _ _) (All.cons (show CallT Try.prog 13 [AVal.agg [AVal.int IntKind.i8 k, AVal.int IntKind.i64 n, AVal.int IntKind.i64 d, AVal.int IntKind.i64 mn, AVal.int IntKind.i64 mx]] (AHeap.rows 8 [(0, ABlk.made [AVal.agg [AVal.int IntKind.i8 k, AVal.int IntKind.i64 n, AVal.int IntKind.i64 d, AVal.int IntKind.i64 mn, AVal.int IntKind.i64 mx]] 5 true)]) (AVal.bool (rightB k n d mn mx)) (AHeap.rows 8 [(0, ABlk.made [AVal.agg [AVal.int IntKind.i8 k, AVal.int IntKind.i64 n, AVal.int IntKind.i64 d, AVal.int IntKind.i64 mn, AVal.int IntKind.i64 mx]] 5 true)]) from ⟨(refRight_does _ _ _ _ _ _)⟩) (All.cons (eqT c3) (All.nil)))))

end Go.Proofs.Ytgfkllnaeekjeaa
