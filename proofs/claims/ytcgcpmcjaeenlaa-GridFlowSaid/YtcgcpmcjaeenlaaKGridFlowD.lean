/-
  Parts of the proof, one behind the other:
  The document's Placed.behind: the walk.
  The document's Placed.behind: what it answers.
  grid.board.behind: the walk.
  grid.board.behind: what it answers.
  WHERE TRACKS LIE: the numbers, without the program.
  A number brought into a stretch: the walk.
  grid.Flow: the walk of its loops.
  grid.Flow: its call.
  THE LIFT, PART X: at a loop's head or end rows get other numbers; rows that nobody names are added.
  grid.Flow: what it answers.
  grid.Flow: its second loop, and what it answers in every memory.
  grid.Flow in every memory: what it answers.
-/
import Derived.Test.YtcgcpmcjaeenlaaKGridFlowC

namespace Go.Proofs.Ytcgcpmcjaeenlaa
open Go.Lift
set_option maxRecDepth 1000000
set_option linter.unusedSimpArgs false
set_option linter.unusedVariables false
set_option linter.unusedSectionVars false

theorem pb_next (o : Option AAddr) (n c v C : Nat) (bT rt : ABlk) (l : List AVal) (y x0 e x sa sb sc sd ta tb tc td : Int) (hc_0 : -9223372036854775808 ≤ x + sc ∧ x + sc ≤ 9223372036854775807) (hc_1 : x + sc ≤ (C : Int)) (hc_2 : FDoes Try.prog 52 [.slice (some ⟨37, 0, 0, 0, 1⟩) C C, .int .i64 x, .int .i64 sc] (AHeap.rows 52 [(0, (.made ([.agg [.slice o n c]]) 1 true)), (1, bT), (2, (.made ([.agg [.int .i64 sa, .int .i64 sb, .int .i64 sc, .int .i64 sd]]) 4 true)), (3, (.made ([.agg [.int .i64 0, .int .i64 0, .int .i64 0, .int .i64 0]]) 4 true)), (37, .made l 1 true)]) (AVal.bool false) (AHeap.rows 52 [(0, (.made ([.agg [.slice o n c]]) 1 true)), (1, bT), (2, (.made ([.agg [.int .i64 sa, .int .i64 sb, .int .i64 sc, .int .i64 sd]]) 4 true)), (3, (.made ([.agg [.int .i64 0, .int .i64 0, .int .i64 0, .int .i64 0]]) 4 true)), (37, .made l 1 true)])) (hc_3 : -9223372036854775808 ≤ x + 1 ∧ x + (1 : Int) ≤ 9223372036854775807) :
    Runs Try.prog 2 49 (loopAt Try.prog 29 1) [(0, .ptr (some ⟨0, 0, 0, 0, 1⟩)), (2, .int .i64 y), (3, .int .i64 x0), (4, .int .i64 C), (6, .ptr (some ⟨2, 0, 0, 0, 4⟩)), (10, .ptr (some ⟨3, 0, 0, 0, 4⟩)), (11, .slice (some ⟨37, 0, 0, 0, 1⟩) C C), (12, .int .i64 e), (13, .int .i64 x)] (AHeap.rows 40 [(0, .made [.agg [.slice o n c]] 1 true), (1, bT), (2, .made [.agg [.int .i64 sa, .int .i64 sb, .int .i64 sc, .int .i64 sd]] 4 true), (3, .made [.agg [.int .i64 0, .int .i64 0, .int .i64 0, .int .i64 0]] 4 true), (37, .made l 1 true)]) .normal [(0, .ptr (some ⟨0, 0, 0, 0, 1⟩)), (2, .int .i64 y), (3, .int .i64 x0), (4, .int .i64 (C : Int)), (6, .ptr (some ⟨2, 0, 0, 0, 4⟩)), (10, .ptr (some ⟨3, 0, 0, 0, 4⟩)), (11, .slice (some ⟨37, 0, 0, 0, 1⟩) C C), (12, .int .i64 e), (13, .int .i64 (x + 1))] (AHeap.rows 56 [(0, (.made ([.agg [.slice o n c]]) 1 true)), (1, bT), (2, (.made ([.agg [.int .i64 sa, .int .i64 sb, .int .i64 sc, .int .i64 sd]]) 4 true)), (3, (.made ([.agg [.int .i64 0, .int .i64 0, .int .i64 0, .int .i64 0]]) 4 true)), (37, .made l 1 true)]) :=
  ppath_runs env_ok mixed (hs := [.go 3003, .val 3005 (.bool true), .val 5004 (.bool false), .go 4001]) (keep := [0, 2, 3, 4, 6, 10, 11, 12, 13]) (by kernel_rfl) (All.cons hc_0 (All.cons (okT hc_1) (All.cons (CallT.mk hc_2) (All.cons hc_3 (All.nil)))))

theorem pb_found (o : Option AAddr) (n c v C : Nat) (bT rt : ABlk) (l : List AVal) (y x0 e x sa sb sc sd ta tb tc td : Int) (hc_0 : -9223372036854775808 ≤ x + sc ∧ x + sc ≤ 9223372036854775807) (hc_1 : x + sc ≤ (C : Int)) (hc_2 : FDoes Try.prog 52 [.slice (some ⟨37, 0, 0, 0, 1⟩) C C, .int .i64 x, .int .i64 sc] (AHeap.rows 52 [(0, (.made ([.agg [.slice o n c]]) 1 true)), (1, bT), (2, (.made ([.agg [.int .i64 sa, .int .i64 sb, .int .i64 sc, .int .i64 sd]]) 4 true)), (3, (.made ([.agg [.int .i64 0, .int .i64 0, .int .i64 0, .int .i64 0]]) 4 true)), (37, .made l 1 true)]) (AVal.bool true) (AHeap.rows 52 [(0, (.made ([.agg [.slice o n c]]) 1 true)), (1, bT), (2, (.made ([.agg [.int .i64 sa, .int .i64 sb, .int .i64 sc, .int .i64 sd]]) 4 true)), (3, (.made ([.agg [.int .i64 0, .int .i64 0, .int .i64 0, .int .i64 0]]) 4 true)), (37, .made l 1 true)])) :
    Runs Try.prog 2 49 (loopAt Try.prog 29 1) [(0, .ptr (some ⟨0, 0, 0, 0, 1⟩)), (2, .int .i64 y), (3, .int .i64 x0), (4, .int .i64 C), (6, .ptr (some ⟨2, 0, 0, 0, 4⟩)), (10, .ptr (some ⟨3, 0, 0, 0, 4⟩)), (11, .slice (some ⟨37, 0, 0, 0, 1⟩) C C), (12, .int .i64 e), (13, .int .i64 x)] (AHeap.rows 40 [(0, .made [.agg [.slice o n c]] 1 true), (1, bT), (2, .made [.agg [.int .i64 sa, .int .i64 sb, .int .i64 sc, .int .i64 sd]] 4 true), (3, .made [.agg [.int .i64 0, .int .i64 0, .int .i64 0, .int .i64 0]] 4 true), (37, .made l 1 true)]) .ret [(10, .ptr (some ⟨3, 0, 0, 0, 4⟩))] (AHeap.set (AHeap.rows 61 [(0, (.made ([.agg [.slice o n c]]) 1 true)), (1, bT), (2, (.made ([.agg [.int .i64 x, .int .i64 y, .int .i64 sc, .int .i64 sd]]) 4 true)), (3, (.made ([.agg [.int .i64 0, .int .i64 0, .int .i64 0, .int .i64 0]]) 4 true)), (37, .made l 1 true)]) 3 (.made ([.agg [.int .i64 x, .int .i64 y, .int .i64 sc, .int .i64 sd]]) 4 true)) :=
  ppath_runs env_ok mixed (hs := [.go 3003, .val 3005 (.bool true), .val 5004 (.bool true)]) (keep := [10]) (by kernel_rfl) (All.cons hc_0 (All.cons (okT hc_1) (All.cons (CallT.mk hc_2) (All.nil))))

theorem pb_end (o : Option AAddr) (n c v C : Nat) (bT rt : ABlk) (l : List AVal) (y x0 e x sa sb sc sd ta tb tc td : Int) (hc_0 : -9223372036854775808 ≤ x + sc ∧ x + sc ≤ 9223372036854775807) (hc_1 : ¬ (x + sc ≤ (C : Int))) :
    Runs Try.prog 2 49 (loopAt Try.prog 29 1) [(0, .ptr (some ⟨0, 0, 0, 0, 1⟩)), (2, .int .i64 y), (3, .int .i64 x0), (4, .int .i64 C), (6, .ptr (some ⟨2, 0, 0, 0, 4⟩)), (10, .ptr (some ⟨3, 0, 0, 0, 4⟩)), (11, .slice (some ⟨37, 0, 0, 0, 1⟩) C C), (12, .int .i64 e), (13, .int .i64 x)] (AHeap.rows 40 [(0, .made [.agg [.slice o n c]] 1 true), (1, bT), (2, .made [.agg [.int .i64 sa, .int .i64 sb, .int .i64 sc, .int .i64 sd]] 4 true), (3, .made [.agg [.int .i64 0, .int .i64 0, .int .i64 0, .int .i64 0]] 4 true), (37, .made l 1 true)]) (.exit 2) [(0, .ptr (some ⟨0, 0, 0, 0, 1⟩)), (2, .int .i64 y), (3, .int .i64 x0), (4, .int .i64 (C : Int)), (6, .ptr (some ⟨2, 0, 0, 0, 4⟩)), (10, .ptr (some ⟨3, 0, 0, 0, 4⟩)), (12, .int .i64 e)] (AHeap.rows 46 [(0, (.made ([.agg [.slice o n c]]) 1 true)), (1, bT), (2, (.made ([.agg [.int .i64 sa, .int .i64 sb, .int .i64 sc, .int .i64 sd]]) 4 true)), (3, (.made ([.agg [.int .i64 0, .int .i64 0, .int .i64 0, .int .i64 0]]) 4 true)), (37, .made l 1 true)]) :=
  ppath_runs env_ok mixed (hs := [.go 3003, .val 3005 (.bool false)]) (keep := [0, 2, 3, 4, 6, 10, 12]) (by kernel_rfl) (All.cons hc_0 (All.cons (okF hc_1) (All.nil)))

theorem p0_found (o : Option AAddr) (n c v C : Nat) (bT rt : ABlk) (l : List AVal) (y x0 e x sa sb sc sd ta tb tc td : Int) (hc_0 : FDoes Try.prog 51 [.ptr (some ⟨0, 0, 0, 0, 1⟩), .int .i64 y, .int .i64 sd, .int .i64 (C : Int)] (AHeap.rows 37 [(0, (.made ([.agg [.slice o n c]]) 1 true)), (1, bT), (2, (.made ([.agg [.int .i64 sa, .int .i64 sb, .int .i64 sc, .int .i64 sd]]) 4 true)), (3, (.made ([.agg [.int .i64 0, .int .i64 0, .int .i64 0, .int .i64 0]]) 4 true))]) (.tuple [.slice (some ⟨37, 0, 0, 0, 1⟩) C C, .int .i64 e]) (AHeap.rows 38 [(0, (.made ([.agg [.slice o n c]]) 1 true)), (1, bT), (2, (.made ([.agg [.int .i64 sa, .int .i64 sb, .int .i64 sc, .int .i64 sd]]) 4 true)), (3, (.made ([.agg [.int .i64 0, .int .i64 0, .int .i64 0, .int .i64 0]]) 4 true)), (37, rt)])) (hc_1 : Runs Try.prog 2 49 (.loop (loopAt Try.prog 29 1)) [(0, .ptr (some ⟨0, 0, 0, 0, 1⟩)), (2, .int .i64 y), (3, .int .i64 x0), (4, .int .i64 (C : Int)), (6, .ptr (some ⟨2, 0, 0, 0, 4⟩)), (10, .ptr (some ⟨3, 0, 0, 0, 4⟩)), (11, .slice (some ⟨37, 0, 0, 0, 1⟩) C C), (12, .int .i64 e), (13, .int .i64 x0)] (AHeap.rows 40 [(0, (.made ([.agg [.slice o n c]]) 1 true)), (1, bT), (2, (.made ([.agg [.int .i64 sa, .int .i64 sb, .int .i64 sc, .int .i64 sd]]) 4 true)), (3, (.made ([.agg [.int .i64 0, .int .i64 0, .int .i64 0, .int .i64 0]]) 4 true)), (37, rt)]) .ret [(10, .ptr (some ⟨3, 0, 0, 0, 4⟩))] (AHeap.rows 50 [(0, (.made ([.agg [.slice o n c]]) 1 true)), (1, bT), (3, (.made ([.agg [.int .i64 ta, .int .i64 tb, .int .i64 tc, .int .i64 td]]) 4 true))])) :
    Runs Try.prog 2 49 (loopAt Try.prog 29 0) [(0, .ptr (some ⟨0, 0, 0, 0, 1⟩)), (2, .int .i64 y), (3, .int .i64 x0), (4, .int .i64 C), (6, .ptr (some ⟨2, 0, 0, 0, 4⟩)), (10, .ptr (some ⟨3, 0, 0, 0, 4⟩))] (AHeap.rows 26 [(0, .made [.agg [.slice o n c]] 1 true), (1, bT), (2, .made [.agg [.int .i64 sa, .int .i64 sb, .int .i64 sc, .int .i64 sd]] 4 true), (3, .made [.agg [.int .i64 0, .int .i64 0, .int .i64 0, .int .i64 0]] 4 true)]) .ret [(10, .ptr (some ⟨3, 0, 0, 0, 4⟩))] (AHeap.rows 50 [(0, (.made ([.agg [.slice o n c]]) 1 true)), (1, bT), (3, (.made ([.agg [.int .i64 ta, .int .i64 tb, .int .i64 tc, .int .i64 td]]) 4 true))]) :=
  ppath_runs env_ok mixed (hs := [.act 1005 (.tuple [.slice (some ⟨37, 0, 0, 0, 1⟩) C C, .int .i64 e]) (fun h => h.upd [] [rt]), .keep [0, 2, 3, 4, 6, 10, 11, 12, 13], .loop [(10, .ptr (some ⟨3, 0, 0, 0, 4⟩))] (AHeap.rows 50 [(0, .made [.agg [.slice o n c]] 1 true), (1, bT), (3, .made [.agg [.int .i64 ta, .int .i64 tb, .int .i64 tc, .int .i64 td]] 4 true)]) (.ret)]) (keep := [10]) (by kernel_rfl) (All.cons (CallT.mk hc_0) (All.cons hc_1 (All.nil)))

theorem p0_col (o : Option AAddr) (n c v C : Nat) (bT rt : ABlk) (l : List AVal) (y x0 e x sa sb sc sd ta tb tc td : Int) (hc_0 : FDoes Try.prog 51 [.ptr (some ⟨0, 0, 0, 0, 1⟩), .int .i64 y, .int .i64 sd, .int .i64 (C : Int)] (AHeap.rows 37 [(0, (.made ([.agg [.slice o n c]]) 1 true)), (1, bT), (2, (.made ([.agg [.int .i64 sa, .int .i64 sb, .int .i64 sc, .int .i64 sd]]) 4 true)), (3, (.made ([.agg [.int .i64 0, .int .i64 0, .int .i64 0, .int .i64 0]]) 4 true))]) (.tuple [.slice (some ⟨37, 0, 0, 0, 1⟩) C C, .int .i64 e]) (AHeap.rows 38 [(0, (.made ([.agg [.slice o n c]]) 1 true)), (1, bT), (2, (.made ([.agg [.int .i64 sa, .int .i64 sb, .int .i64 sc, .int .i64 sd]]) 4 true)), (3, (.made ([.agg [.int .i64 0, .int .i64 0, .int .i64 0, .int .i64 0]]) 4 true)), (37, rt)])) (hc_1 : Runs Try.prog 2 49 (.loop (loopAt Try.prog 29 1)) [(0, .ptr (some ⟨0, 0, 0, 0, 1⟩)), (2, .int .i64 y), (3, .int .i64 x0), (4, .int .i64 (C : Int)), (6, .ptr (some ⟨2, 0, 0, 0, 4⟩)), (10, .ptr (some ⟨3, 0, 0, 0, 4⟩)), (11, .slice (some ⟨37, 0, 0, 0, 1⟩) C C), (12, .int .i64 e), (13, .int .i64 x0)] (AHeap.rows 40 [(0, (.made ([.agg [.slice o n c]]) 1 true)), (1, bT), (2, (.made ([.agg [.int .i64 sa, .int .i64 sb, .int .i64 sc, .int .i64 sd]]) 4 true)), (3, (.made ([.agg [.int .i64 0, .int .i64 0, .int .i64 0, .int .i64 0]]) 4 true)), (37, rt)]) (.exit 2) [(0, .ptr (some ⟨0, 0, 0, 0, 1⟩)), (2, .int .i64 y), (3, .int .i64 x0), (4, .int .i64 (C : Int)), (6, .ptr (some ⟨2, 0, 0, 0, 4⟩)), (10, .ptr (some ⟨3, 0, 0, 0, 4⟩)), (12, .int .i64 e)] (AHeap.rows 50 [(0, (.made ([.agg [.slice o n c]]) 1 true)), (1, bT), (2, (.made ([.agg [.int .i64 sa, .int .i64 sb, .int .i64 sc, .int .i64 sd]]) 4 true)), (3, (.made ([.agg [.int .i64 0, .int .i64 0, .int .i64 0, .int .i64 0]]) 4 true))])) (hc_2 : x0 > 0) (hc_3 : -9223372036854775808 ≤ y + 1 ∧ y + (1 : Int) ≤ 9223372036854775807) :
    Runs Try.prog 2 49 (loopAt Try.prog 29 0) [(0, .ptr (some ⟨0, 0, 0, 0, 1⟩)), (2, .int .i64 y), (3, .int .i64 x0), (4, .int .i64 C), (6, .ptr (some ⟨2, 0, 0, 0, 4⟩)), (10, .ptr (some ⟨3, 0, 0, 0, 4⟩))] (AHeap.rows 26 [(0, .made [.agg [.slice o n c]] 1 true), (1, bT), (2, .made [.agg [.int .i64 sa, .int .i64 sb, .int .i64 sc, .int .i64 sd]] 4 true), (3, .made [.agg [.int .i64 0, .int .i64 0, .int .i64 0, .int .i64 0]] 4 true)]) .normal [(0, .ptr (some ⟨0, 0, 0, 0, 1⟩)), (2, .int .i64 (y + 1)), (3, .int .i64 0), (4, .int .i64 (C : Int)), (6, .ptr (some ⟨2, 0, 0, 0, 4⟩)), (10, .ptr (some ⟨3, 0, 0, 0, 4⟩))] (AHeap.rows 56 [(0, (.made ([.agg [.slice o n c]]) 1 true)), (1, bT), (2, (.made ([.agg [.int .i64 sa, .int .i64 sb, .int .i64 sc, .int .i64 sd]]) 4 true)), (3, (.made ([.agg [.int .i64 0, .int .i64 0, .int .i64 0, .int .i64 0]]) 4 true))]) :=
  ppath_runs env_ok mixed (hs := [.act 1005 (.tuple [.slice (some ⟨37, 0, 0, 0, 1⟩) C C, .int .i64 e]) (fun h => h.upd [] [rt]), .keep [0, 2, 3, 4, 6, 10, 11, 12, 13], .loop [(0, .ptr (some ⟨0, 0, 0, 0, 1⟩)), (2, .int .i64 y), (3, .int .i64 x0), (4, .int .i64 C), (6, .ptr (some ⟨2, 0, 0, 0, 4⟩)), (10, .ptr (some ⟨3, 0, 0, 0, 4⟩)), (12, .int .i64 e)] (AHeap.rows 50 [(0, .made [.agg [.slice o n c]] 1 true), (1, bT), (2, .made [.agg [.int .i64 sa, .int .i64 sb, .int .i64 sc, .int .i64 sd]] 4 true), (3, .made [.agg [.int .i64 0, .int .i64 0, .int .i64 0, .int .i64 0]] 4 true)]) (.exit 2), .val 10001 (.bool true), .go 12001]) (keep := [0, 2, 3, 4, 6, 10]) (by kernel_rfl) (All.cons (CallT.mk hc_0) (All.cons hc_1 (All.cons (okT hc_2) (All.cons hc_3 (All.nil)))))

theorem p0_row (o : Option AAddr) (n c v C : Nat) (bT rt : ABlk) (l : List AVal) (y x0 e x sa sb sc sd ta tb tc td : Int) (hc_0 : FDoes Try.prog 51 [.ptr (some ⟨0, 0, 0, 0, 1⟩), .int .i64 y, .int .i64 sd, .int .i64 (C : Int)] (AHeap.rows 37 [(0, (.made ([.agg [.slice o n c]]) 1 true)), (1, bT), (2, (.made ([.agg [.int .i64 sa, .int .i64 sb, .int .i64 sc, .int .i64 sd]]) 4 true)), (3, (.made ([.agg [.int .i64 0, .int .i64 0, .int .i64 0, .int .i64 0]]) 4 true))]) (.tuple [.slice (some ⟨37, 0, 0, 0, 1⟩) C C, .int .i64 e]) (AHeap.rows 38 [(0, (.made ([.agg [.slice o n c]]) 1 true)), (1, bT), (2, (.made ([.agg [.int .i64 sa, .int .i64 sb, .int .i64 sc, .int .i64 sd]]) 4 true)), (3, (.made ([.agg [.int .i64 0, .int .i64 0, .int .i64 0, .int .i64 0]]) 4 true)), (37, rt)])) (hc_1 : Runs Try.prog 2 49 (.loop (loopAt Try.prog 29 1)) [(0, .ptr (some ⟨0, 0, 0, 0, 1⟩)), (2, .int .i64 y), (3, .int .i64 x0), (4, .int .i64 (C : Int)), (6, .ptr (some ⟨2, 0, 0, 0, 4⟩)), (10, .ptr (some ⟨3, 0, 0, 0, 4⟩)), (11, .slice (some ⟨37, 0, 0, 0, 1⟩) C C), (12, .int .i64 e), (13, .int .i64 x0)] (AHeap.rows 40 [(0, (.made ([.agg [.slice o n c]]) 1 true)), (1, bT), (2, (.made ([.agg [.int .i64 sa, .int .i64 sb, .int .i64 sc, .int .i64 sd]]) 4 true)), (3, (.made ([.agg [.int .i64 0, .int .i64 0, .int .i64 0, .int .i64 0]]) 4 true)), (37, rt)]) (.exit 2) [(0, .ptr (some ⟨0, 0, 0, 0, 1⟩)), (2, .int .i64 y), (3, .int .i64 x0), (4, .int .i64 (C : Int)), (6, .ptr (some ⟨2, 0, 0, 0, 4⟩)), (10, .ptr (some ⟨3, 0, 0, 0, 4⟩)), (12, .int .i64 e)] (AHeap.rows 50 [(0, (.made ([.agg [.slice o n c]]) 1 true)), (1, bT), (2, (.made ([.agg [.int .i64 sa, .int .i64 sb, .int .i64 sc, .int .i64 sd]]) 4 true)), (3, (.made ([.agg [.int .i64 0, .int .i64 0, .int .i64 0, .int .i64 0]]) 4 true))])) (hc_2 : ¬ (x0 > 0)) :
    Runs Try.prog 2 49 (loopAt Try.prog 29 0) [(0, .ptr (some ⟨0, 0, 0, 0, 1⟩)), (2, .int .i64 y), (3, .int .i64 x0), (4, .int .i64 C), (6, .ptr (some ⟨2, 0, 0, 0, 4⟩)), (10, .ptr (some ⟨3, 0, 0, 0, 4⟩))] (AHeap.rows 26 [(0, .made [.agg [.slice o n c]] 1 true), (1, bT), (2, .made [.agg [.int .i64 sa, .int .i64 sb, .int .i64 sc, .int .i64 sd]] 4 true), (3, .made [.agg [.int .i64 0, .int .i64 0, .int .i64 0, .int .i64 0]] 4 true)]) .normal [(0, .ptr (some ⟨0, 0, 0, 0, 1⟩)), (2, .int .i64 e), (3, .int .i64 x0), (4, .int .i64 (C : Int)), (6, .ptr (some ⟨2, 0, 0, 0, 4⟩)), (10, .ptr (some ⟨3, 0, 0, 0, 4⟩))] (AHeap.rows 54 [(0, (.made ([.agg [.slice o n c]]) 1 true)), (1, bT), (2, (.made ([.agg [.int .i64 sa, .int .i64 sb, .int .i64 sc, .int .i64 sd]]) 4 true)), (3, (.made ([.agg [.int .i64 0, .int .i64 0, .int .i64 0, .int .i64 0]]) 4 true))]) :=
  ppath_runs env_ok mixed (hs := [.act 1005 (.tuple [.slice (some ⟨37, 0, 0, 0, 1⟩) C C, .int .i64 e]) (fun h => h.upd [] [rt]), .keep [0, 2, 3, 4, 6, 10, 11, 12, 13], .loop [(0, .ptr (some ⟨0, 0, 0, 0, 1⟩)), (2, .int .i64 y), (3, .int .i64 x0), (4, .int .i64 C), (6, .ptr (some ⟨2, 0, 0, 0, 4⟩)), (10, .ptr (some ⟨3, 0, 0, 0, 4⟩)), (12, .int .i64 e)] (AHeap.rows 50 [(0, .made [.agg [.slice o n c]] 1 true), (1, bT), (2, .made [.agg [.int .i64 sa, .int .i64 sb, .int .i64 sc, .int .i64 sd]] 4 true), (3, .made [.agg [.int .i64 0, .int .i64 0, .int .i64 0, .int .i64 0]] 4 true)]) (.exit 2), .val 10001 (.bool false)]) (keep := [0, 2, 3, 4, 6, 10]) (by kernel_rfl) (All.cons (CallT.mk hc_0) (All.cons hc_1 (All.cons (okF hc_2) (All.nil))))

theorem pb_call (o : Option AAddr) (n c v C : Nat) (bT rt : ABlk) (l : List AVal) (y x0 e x sa sb sc sd ta tb tc td : Int) (hc_0 : Runs Try.prog 2 49 (.loop (loopAt Try.prog 29 0)) [(0, .ptr (some ⟨0, 0, 0, 0, 1⟩)), (2, .int .i64 y), (3, .int .i64 x0), (4, .int .i64 (C : Int)), (6, .ptr (some ⟨2, 0, 0, 0, 4⟩)), (10, .ptr (some ⟨3, 0, 0, 0, 4⟩))] (AHeap.set (AHeap.set (AHeap.rows 4 [(0, .made [.agg [.slice o n c]] 1 true), (1, bT)]) 2 (.made [.agg [.int .i64 sa, .int .i64 sb, .int .i64 sc, .int .i64 sd]] 4 true)) 3 (.made [.agg [.int .i64 0, .int .i64 0, .int .i64 0, .int .i64 0]] 4 true)) .ret [(10, .ptr (some ⟨3, 0, 0, 0, 4⟩))] (AHeap.rows 50 [(0, (.made ([.agg [.slice o n c]]) 1 true)), (1, bT), (3, (.made ([.agg [.int .i64 ta, .int .i64 tb, .int .i64 tc, .int .i64 td]]) 4 true))])) (hc_1 : aload env.D 28 ⟨3, 0, 0, 0, 4⟩ (AHeap.rows 50 [(0, (.made ([.agg [.slice o n c]]) 1 true)), (1, bT), (3, (.made ([.agg [.int .i64 ta, .int .i64 tb, .int .i64 tc, .int .i64 td]]) 4 true))]) = some (.agg [.int .i64 ta, .int .i64 tb, .int .i64 tc, .int .i64 td])) :
    FDoes Try.prog 29 [.ptr (some ⟨0, 0, 0, 0, 1⟩), .agg [.int .i64 sa, .int .i64 sb, .int .i64 sc, .int .i64 sd], .int .i64 y, .int .i64 x0, .int .i64 C] (AHeap.of [.made [.agg [.slice o n c]] 1 true, bT]) (.agg [.int .i64 ta, .int .i64 tb, .int .i64 tc, .int .i64 td]) (AHeap.rows 50 [(0, (.made ([.agg [.slice o n c]]) 1 true)), (1, bT), (3, (.made ([.agg [.int .i64 ta, .int .i64 tb, .int .i64 tc, .int .i64 td]]) 4 true))]) :=
  pcall_does env_ok mixed (hs := [.keep [0, 2, 3, 4, 6, 10], .loop [(10, .ptr (some ⟨3, 0, 0, 0, 4⟩))] (AHeap.rows 50 [(0, .made [.agg [.slice o n c]] 1 true), (1, bT), (3, .made [.agg [.int .i64 ta, .int .i64 tb, .int .i64 tc, .int .i64 td]] 4 true)]) (.ret)]) (rs := [.cell (.agg [.int .i64 ta, .int .i64 tb, .int .i64 tc, .int .i64 td])]) (by kernel_rfl) (All.cons hc_0 (All.cons hc_1 (All.nil)))

end Go.Proofs.Ytcgcpmcjaeenlaa

namespace Go.Proofs.Ytcgcpmcjaeenlaa
open Go.Lift
set_option maxRecDepth 1000000
set_option linter.unusedSimpArgs false
set_option linter.unusedVariables false
set_option linter.unusedSectionVars false

section
variable {C n c v : Nat} {o : Option AAddr} (hs : SlArg o n c 1 v 0 4) {bT : ABlk} (hb : BareB bT) {T : List Qd} (hl : T.length = n) (hel : ElT bT v T) {M : Int} (hT : GoodT C M T) (hC : C ≤ 64) (hM : 0 ≤ M ∧ M ≤ 2 ^ 39) (hn : n ≤ 2 ^ 40)
include hs hb hl hel hT hC hM hn

def PbEnds (C n c : Nat) (o : Option AAddr) (bT : ABlk) (T : List Qd) (s : Qd) (tk : Nat → Bool) (y x0 e x : Int) : Prop :=
  (∃ x', x ≤ x' ∧ x' + s.c ≤ C ∧ FreeZ T (s.at x' y) ∧ (∀ x'', x ≤ x'' → x'' < x' → ¬ FreeZ T (s.at x'' y)) ∧
    Loops Try.prog 2 49 (loopAt Try.prog 29 1) [(0, .ptr (some ⟨0, 0, 0, 0, 1⟩)), (2, .int .i64 y), (3, .int .i64 x0), (4, .int .i64 C), (6, .ptr (some ⟨2, 0, 0, 0, 4⟩)), (10, .ptr (some ⟨3, 0, 0, 0, 4⟩)), (11, .slice (some ⟨37, 0, 0, 0, 1⟩) C C), (12, .int .i64 e), (13, .int .i64 x)] (AHeap.rows 40 [(0, plcRow o n c), (1, bT), (2, .made [s.val] 4 true), (3, .made [Qd0.val] 4 true), (37, .made (bools C tk) 1 true)])
      .ret [(10, .ptr (some ⟨3, 0, 0, 0, 4⟩))] (AHeap.rows 50 [(0, plcRow o n c), (1, bT), (3, .made [(s.at x' y).val] 4 true)])) ∨
  ((∀ x'', x ≤ x'' → x'' + s.c ≤ C → ¬ FreeZ T (s.at x'' y)) ∧
    Loops Try.prog 2 49 (loopAt Try.prog 29 1) [(0, .ptr (some ⟨0, 0, 0, 0, 1⟩)), (2, .int .i64 y), (3, .int .i64 x0), (4, .int .i64 C), (6, .ptr (some ⟨2, 0, 0, 0, 4⟩)), (10, .ptr (some ⟨3, 0, 0, 0, 4⟩)), (11, .slice (some ⟨37, 0, 0, 0, 1⟩) C C), (12, .int .i64 e), (13, .int .i64 x)] (AHeap.rows 40 [(0, plcRow o n c), (1, bT), (2, .made [s.val] 4 true), (3, .made [Qd0.val] 4 true), (37, .made (bools C tk) 1 true)])
      (.exit 2) [(0, .ptr (some ⟨0, 0, 0, 0, 1⟩)), (2, .int .i64 y), (3, .int .i64 x0), (4, .int .i64 C), (6, .ptr (some ⟨2, 0, 0, 0, 4⟩)), (10, .ptr (some ⟨3, 0, 0, 0, 4⟩)), (12, .int .i64 e)] (AHeap.rows 50 [(0, plcRow o n c), (1, bT), (2, .made [s.val] 4 true), (3, .made [Qd0.val] 4 true)]))

theorem pb_loop {s : Qd} (hsm : Small s) (hsc : 1 ≤ s.c) {tk : Nat → Bool} {y : Int} (htk : ∀ X : Nat, X < C → (tk X = true ↔ TkZ T y s.d X)) (x0 e : Int) : ∀ (f : Nat) (x : Int), 0 ≤ x → x ≤ 2 ^ 40 → (C : Int) - x ≤ f → PbEnds C n c o bT T s tk y x0 e x := by
  have dn : ∀ x : Int, ¬ (x + s.c ≤ C) → 0 ≤ x → x ≤ 2 ^ 40 → PbEnds C n c o bT T s tk y x0 e x := fun x hx h0 h1 => by
    have h3 := hsm.2.2.1
    refine .inr ⟨fun x'' a b => by omega, (Loops.last (by simp) (pb_end o n c v C bT bT _ y x0 e x s.a s.b s.c s.d 0 0 0 0 (by omega) hx)).post ?_⟩
    exact Ent.drop (by kernel_rfl) (by kernel_rfl) (by kernel_rfl) (by kernel_rfl) (by simp [All_cons, All_nil, Clo, Ids]) (by
      simp only [List.map, All_cons, All_nil, and_true]
      exact ⟨plc_cloI (hs.clo (by simp [Ids])), hb.clo _, qd_cloI _ _, qd_cloI _ _⟩)
  intro f
  induction f with
  | zero => exact fun x h0 h1 h2 => dn x (by omega) h0 h1
  | succ f ih =>
    intro x h0 h1 h2
    have h3 := hsm.2.2.1
    by_cases hx : x + s.c ≤ C
    · have key : ∀ i' : Int, 0 ≤ i' → i' < s.c → (tk (x + i').toNat = true ↔ TkZ T y s.d (x + i')) := fun i' a b => by
        have := htk (x + i').toNat (by omega)
        rwa [show (((x + i').toNat : Nat) : Int) = x + i' by omega] at this
      rcases clear_does (H := AHeap.rows 52 [(0, plcRow o n c), (1, bT), (2, .made [s.val] 4 true), (3, .made [Qd0.val] 4 true), (37, .made (bools C tk) 1 true)]) (id := 37) (tk := tk) (by kernel_rfl) (by rw [AHeap.rows_next]; omega) hC h0 hx (by omega) with ⟨a, k⟩ | ⟨⟨i', a1, a2, a3⟩, k⟩
      · refine .inl ⟨x, Int.le_refl _, hx, (free_clear hT hsc x y).2 (fun i' b1 b2 h => by have := (key i' b1 b2).2 h; rw [a i' b1 b2] at this; cases this), fun x'' b1 b2 => by omega, ?_⟩
        refine (Loops.last (by simp) (pb_found o n c v C bT bT _ y x0 e x s.a s.b s.c s.d 0 0 0 0 (by omega) hx k)).post ?_
        exact Ent.drop (by kernel_rfl) (by kernel_rfl) (by kernel_rfl) (by kernel_rfl) (by simp [All_cons, All_nil, Clo, Ids]) (by
      simp only [List.map, All_cons, All_nil, and_true]
      exact ⟨plc_cloI (hs.clo (by simp [Ids])), hb.clo _, qd_cloI _ _⟩)
      · have nf : ¬ FreeZ T (s.at x y) := fun h => (free_clear hT hsc x y).1 h i' a1 a2 ((key i' a1 a2).1 a3)
        have st := (pb_next o n c v C bT bT _ y x0 e x s.a s.b s.c s.d 0 0 0 0 (by omega) hx k (by omega)).post (i := Ent.drop (K := 40) (l := [(0, plcRow o n c), (1, bT), (2, .made [s.val] 4 true), (3, .made [Qd0.val] 4 true), (37, .made (bools C tk) 1 true)]) (by kernel_rfl) (by kernel_rfl) (by kernel_rfl) (by kernel_rfl) (by simp [All_cons, All_nil, Clo, Ids]) (by
          simp only [List.map, All_cons, All_nil, and_true]
          exact ⟨plc_cloI (hs.clo (by simp [Ids])), hb.clo _, qd_cloI _ _, qd_cloI _ _, (bools_bare _ _).clo _⟩))
        rcases ih (x + 1) (by omega) (by omega) (by omega) with ⟨x', b1, b2, b3, b4, l2⟩ | ⟨b1, l2⟩
        · exact .inl ⟨x', by omega, b2, b3, fun x'' q1 q2 => by
            by_cases c1 : x'' = x
            · subst c1; exact nf
            · exact b4 x'' (by omega) q2, Loops.step st l2⟩
        · exact .inr ⟨fun x'' q1 q2 => by
            by_cases c1 : x'' = x
            · subst c1; exact nf
            · exact b1 x'' (by omega) q2, Loops.step st l2⟩
    · exact dn x hx h0 h1

def PhEnds (C n c : Nat) (o : Option AAddr) (bT : ABlk) (T : List Qd) (s : Qd) (y0 x0 y x : Int) : Prop :=
  ∃ r, BehindZ T C s y0 x0 r ∧ Loops Try.prog 2 49 (loopAt Try.prog 29 0) [(0, .ptr (some ⟨0, 0, 0, 0, 1⟩)), (2, .int .i64 y), (3, .int .i64 x), (4, .int .i64 C), (6, .ptr (some ⟨2, 0, 0, 0, 4⟩)), (10, .ptr (some ⟨3, 0, 0, 0, 4⟩))] (AHeap.rows 26 [(0, plcRow o n c), (1, bT), (2, .made [s.val] 4 true), (3, .made [Qd0.val] 4 true)])
    .ret [(10, .ptr (some ⟨3, 0, 0, 0, 4⟩))] (AHeap.rows 50 [(0, plcRow o n c), (1, bT), (3, .made [r.val] 4 true)])

theorem ph_loop {s : Qd} (hsm : Small s) (hsc : 1 ≤ s.c ∧ s.c ≤ C) {y0 x0 : Int} : ∀ (f : Nat) (y x : Int), 0 ≤ y → y ≤ M + 1 → (y = M + 1 → x = 0) → 0 ≤ x → x ≤ 2 ^ 40 → M + 1 - y < f → (y0 < y ∨ y0 = y ∧ x0 ≤ x) →
    (∀ y' x', 0 ≤ x' → x' + s.c ≤ C → (y0 < y' ∨ y0 = y' ∧ x0 ≤ x') → (y' < y ∨ y' = y ∧ x' < x) → ¬ FreeZ T (s.at x' y')) → PhEnds C n c o bT T s y0 x0 y x := by
  intro f
  induction f with
  | zero =>
    intro y x hy hy1 hyx hx hxb hf hge hp
    omega
  | succ f ih =>
    intro y x hy hy1 hyx hx hxb hf hge hp
    have bd : PlacedAt (AHeap.rows 37 [(0, plcRow o n c), (1, bT), (2, .made [s.val] 4 true), (3, .made [Qd0.val] 4 true)]) 0 1 o n c v bT T := ⟨by kernel_rfl, by kernel_rfl, hs, by decide, by rw [AHeap.rows_next]; omega, by rw [AHeap.rows_next]; omega, hb, hl, hel⟩
    obtain ⟨tk, e, non, t1, t2, k⟩ := prow_does bd hT hC hM hn (y := y) (d := s.d) (by omega) hsm.2.2.2
    rw [AHeap.rows_next] at k
    have back : ∀ (K : Nat) (y2 x2 : Int), Ent 2 49 [(0, .ptr (some ⟨0, 0, 0, 0, 1⟩)), (2, .int .i64 y2), (3, .int .i64 x2), (4, .int .i64 C), (6, .ptr (some ⟨2, 0, 0, 0, 4⟩)), (10, .ptr (some ⟨3, 0, 0, 0, 4⟩))] (AHeap.rows K [(0, plcRow o n c), (1, bT), (2, .made [s.val] 4 true), (3, .made [Qd0.val] 4 true)]) [(0, .ptr (some ⟨0, 0, 0, 0, 1⟩)), (2, .int .i64 y2), (3, .int .i64 x2), (4, .int .i64 C), (6, .ptr (some ⟨2, 0, 0, 0, 4⟩)), (10, .ptr (some ⟨3, 0, 0, 0, 4⟩))] (AHeap.rows 26 [(0, plcRow o n c), (1, bT), (2, .made [s.val] 4 true), (3, .made [Qd0.val] 4 true)]) := fun K y2 x2 =>
      Ent.drop (by kernel_rfl) (by kernel_rfl) (by kernel_rfl) (by kernel_rfl) (by simp [All_cons, All_nil, Clo, Ids]) (by
      simp only [List.map, All_cons, All_nil, and_true]
      exact ⟨plc_cloI (hs.clo (by simp [Ids])), hb.clo _, qd_cloI _ _, qd_cloI _ _⟩)
    rcases pb_loop hs hb hl hel hT hC hM hn hsm hsc.1 t1 x e C x hx hxb (by omega) with ⟨x', b1, b2, b3, b4, l⟩ | ⟨b1, l⟩
    · refine ⟨s.at x' y, ⟨y, x', rfl, by omega, b2, by omega, b3, fun y' x'' q1 q2 q3 q4 => ?_⟩, Loops.last (by simp) (p0_found o n c v C bT (.made (bools C tk) 1 true) [] y x e 0 s.a s.b s.c s.d x' y s.c s.d (k.to (by kernel_rfl)) (Runs.of_loops l))⟩
      by_cases c1 : y' < y ∨ y' = y ∧ x'' < x
      · exact hp y' x'' q1 q2 q3 c1
      · obtain rfl : y' = y := by omega
        exact b4 x'' (by omega) (by omega)
    · have np : ∀ y' x', 0 ≤ x' → x' + s.c ≤ C → (y0 < y' ∨ y0 = y' ∧ x0 ≤ x') → (y' < y + 1 ∨ y' = y + 1 ∧ x' < 0) → ¬ FreeZ T (s.at x' y') := fun y' x' q1 q2 q3 q4 => by
        by_cases c1 : y' < y ∨ y' = y ∧ x' < x
        · exact hp y' x' q1 q2 q3 c1
        · obtain rfl : y' = y := by omega
          exact b1 x' (by omega) q2
      by_cases cM : y = M + 1
      · have x00 := hyx cM
        subst x00
        exact absurd (free_low hT (s := s.at 0 y) (show M ≤ y by omega)) (b1 0 (by omega) (by omega))
      by_cases cx : x > 0
      · obtain ⟨r, r1, r2⟩ := ih (y + 1) 0 (by omega) (by omega) (fun _ => rfl) (Int.le_refl _) (by omega) (by omega) (by omega) np
        exact ⟨r, r1, Loops.step ((p0_col o n c v C bT (.made (bools C tk) 1 true) [] y x e 0 s.a s.b s.c s.d 0 0 0 0 (k.to (by kernel_rfl)) (Runs.of_loops l) cx (by omega)).post (i := back _ (y + 1) 0)) r2⟩
      · obtain rfl : x = 0 := by omega
        obtain ⟨e1, e2, e3⟩ := t2.next hT hsc.2 rfl (fun x' q1 q2 => b1 x' q1 q2)
        obtain ⟨r, r1, r2⟩ := ih e 0 (by omega) (by omega) (fun _ => rfl) (Int.le_refl _) (by omega) (by omega) (by omega) (fun y' x' q1 q2 q3 q4 => by
          by_cases c1 : y' < y
          · exact np y' x' q1 q2 q3 (by omega)
          · exact e3 y' x' (by omega) (by omega) q1 q2)
        exact ⟨r, r1, Loops.step ((p0_row o n c v C bT (.made (bools C tk) 1 true) [] y 0 e 0 s.a s.b s.c s.d 0 0 0 0 (k.to (by kernel_rfl)) (Runs.of_loops l) cx).post (i := back _ e 0)) r2⟩
end

/-- Placed.behind -/
theorem pbehind_does {H : AHeap} {ib iT C : Nat} {o : Option AAddr} {n c v : Nat} {bT : ABlk} {T : List Qd} (h : PlacedAt H ib iT o n c v bT T) {M : Int} (hT : GoodT C M T) (hC : C ≤ 64) (hM : 0 ≤ M ∧ M ≤ 2 ^ 39) (hn : n ≤ 2 ^ 40) {s : Qd} (hs : Small s) (hsc : 1 ≤ s.c ∧ s.c ≤ C) {y x : Int} (hy : 0 ≤ y ∧ y ≤ M) (hx : 0 ≤ x ∧ x ≤ 2 ^ 40) :
    ∃ r, BehindZ T C s y x r ∧ FDoes Try.prog 29 [.ptr (some ⟨ib, 0, 0, 0, 1⟩), s.val, .int .i64 y, .int .i64 x, .int .i64 C] H r.val H := by
  have s1 := h.sl.at 1
  obtain ⟨r, a, l⟩ := ph_loop s1 h.bare h.len h.el hT hC hM hn hs hsc (y0 := y) (x0 := x) ((M + 1 - y).toNat + 1) y x hy.1 (by omega) (by omega) hx.1 hx.2 (by omega) (by omega) (fun y' x' q1 q2 q3 q4 => by omega)
  have pre : ∀ {h0 : AHeap}, [h0.get 0, h0.get 1, h0.get 2, h0.get 3] = [some (plcRow (o.map fun a => { a with id := 1 }) n c), some bT, some (.made [s.val] 4 true), some (.made [Qd0.val] 4 true)] →
      Ent 2 49 [(0, .ptr (some ⟨0, 0, 0, 0, 1⟩)), (2, .int .i64 y), (3, .int .i64 x), (4, .int .i64 C), (6, .ptr (some ⟨2, 0, 0, 0, 4⟩)), (10, .ptr (some ⟨3, 0, 0, 0, 4⟩))] h0 [(0, .ptr (some ⟨0, 0, 0, 0, 1⟩)), (2, .int .i64 y), (3, .int .i64 x), (4, .int .i64 C), (6, .ptr (some ⟨2, 0, 0, 0, 4⟩)), (10, .ptr (some ⟨3, 0, 0, 0, 4⟩))] (AHeap.rows 26 [(0, plcRow (o.map fun a => { a with id := 1 }) n c), (1, bT), (2, .made [s.val] 4 true), (3, .made [Qd0.val] 4 true)]) := fun e1 =>
    Ent.drop e1 (by kernel_rfl) (by kernel_rfl) (by kernel_rfl) (by simp [All_cons, All_nil, Clo, Ids]) (by
      simp only [List.map, All_cons, All_nil, and_true]
      exact ⟨plc_cloI (s1.clo (by simp [Ids])), h.bare.clo _, qd_cloI _ _, qd_cloI _ _⟩)
  exact ⟨r, a, h.pure (pb_call _ n c v C bT bT [] y x 0 0 s.a s.b s.c s.d r.a r.b r.c r.d (Runs.of_loops (Tri.pre l (pre (by kernel_rfl)))) (by kernel_rfl)) (by kernel_rfl) (Qd.bare _) (by simp [Qd.bare, Bare.int])⟩

end Go.Proofs.Ytcgcpmcjaeenlaa

namespace Go.Proofs.Ytcgcpmcjaeenlaa
open Go.Lift
set_option maxRecDepth 1000000
set_option linter.unusedSimpArgs false
set_option linter.unusedVariables false
set_option linter.unusedSectionVars false

theorem bi_free (o : Option AAddr) (n c v C : Nat) (bT rt : ABlk) (l : List AVal) (y x0 e x i sa sb sc sd ta tb tc td : Int) (hc_0 : i < sc) (hc_1 : -9223372036854775808 ≤ x + i ∧ x + i ≤ 9223372036854775807) (hc_2 : 0 ≤ x + i ∧ x + i < (C : Int) ∧ 1 = 1) (hc_3 : ABlk.elem? (.made l 1 true) 0 (0 + Int.toNat (x + i)) = some (AVal.bool false)) (hc_4 : -9223372036854775808 ≤ i + 1 ∧ i + (1 : Int) ≤ 9223372036854775807) :
    Runs Try.prog 2 55 (loopAt Try.prog 33 2) [(0, .ptr (some ⟨0, 0, 0, 0, 2⟩)), (2, .int .i64 y), (3, .int .i64 x0), (5, .ptr (some ⟨2, 0, 0, 0, 4⟩)), (8, .ptr (some ⟨3, 0, 0, 0, 4⟩)), (9, .slice (some ⟨36, 0, 0, 0, 1⟩) C C), (10, .int .i64 e), (11, .int .i64 x), (34, .int .i64 sc), (35, .int .i64 i)] (AHeap.rows 40 [(0, .made [.agg [.int .i64 C, .slice o n c]] 2 true), (1, bT), (2, .made [.agg [.int .i64 sa, .int .i64 sb, .int .i64 sc, .int .i64 sd]] 4 true), (3, .made [.agg [.int .i64 0, .int .i64 0, .int .i64 0, .int .i64 0]] 4 true), (36, .made l 1 true)]) .normal [(0, .ptr (some ⟨0, 0, 0, 0, 2⟩)), (2, .int .i64 y), (3, .int .i64 x0), (5, .ptr (some ⟨2, 0, 0, 0, 4⟩)), (8, .ptr (some ⟨3, 0, 0, 0, 4⟩)), (9, .slice (some ⟨36, 0, 0, 0, 1⟩) C C), (10, .int .i64 e), (11, .int .i64 x), (34, .int .i64 sc), (35, .int .i64 (i + 1))] (AHeap.rows 51 [(0, (.made ([.agg [.int .i64 (C : Int), .slice o n c]]) 2 true)), (1, bT), (2, (.made ([.agg [.int .i64 sa, .int .i64 sb, .int .i64 sc, .int .i64 sd]]) 4 true)), (3, (.made ([.agg [.int .i64 0, .int .i64 0, .int .i64 0, .int .i64 0]]) 4 true)), (36, .made l 1 true)]) :=
  ppath_runs env_ok mixed (hs := [.val 6000 (.bool true), .go 8003, .go 8004, .ld 8005 (.bool false), .go 9000]) (keep := [0, 2, 3, 5, 8, 9, 10, 11, 34, 35]) (by kernel_rfl) (All.cons (okT hc_0) (All.cons hc_1 (All.cons hc_2 (All.cons hc_3 (All.cons hc_4 (All.nil))))))

theorem bi_taken (o : Option AAddr) (n c v C : Nat) (bT rt : ABlk) (l : List AVal) (y x0 e x i sa sb sc sd ta tb tc td : Int) (hc_0 : i < sc) (hc_1 : -9223372036854775808 ≤ x + i ∧ x + i ≤ 9223372036854775807) (hc_2 : 0 ≤ x + i ∧ x + i < (C : Int) ∧ 1 = 1) (hc_3 : ABlk.elem? (.made l 1 true) 0 (0 + Int.toNat (x + i)) = some (AVal.bool true)) :
    Runs Try.prog 2 55 (loopAt Try.prog 33 2) [(0, .ptr (some ⟨0, 0, 0, 0, 2⟩)), (2, .int .i64 y), (3, .int .i64 x0), (5, .ptr (some ⟨2, 0, 0, 0, 4⟩)), (8, .ptr (some ⟨3, 0, 0, 0, 4⟩)), (9, .slice (some ⟨36, 0, 0, 0, 1⟩) C C), (10, .int .i64 e), (11, .int .i64 x), (34, .int .i64 sc), (35, .int .i64 i)] (AHeap.rows 40 [(0, .made [.agg [.int .i64 C, .slice o n c]] 2 true), (1, bT), (2, .made [.agg [.int .i64 sa, .int .i64 sb, .int .i64 sc, .int .i64 sd]] 4 true), (3, .made [.agg [.int .i64 0, .int .i64 0, .int .i64 0, .int .i64 0]] 4 true), (36, .made l 1 true)]) (.exit 3) [(0, .ptr (some ⟨0, 0, 0, 0, 2⟩)), (2, .int .i64 y), (3, .int .i64 x0), (5, .ptr (some ⟨2, 0, 0, 0, 4⟩)), (8, .ptr (some ⟨3, 0, 0, 0, 4⟩)), (9, .slice (some ⟨36, 0, 0, 0, 1⟩) C C), (10, .int .i64 e), (11, .int .i64 x)] (AHeap.rows 49 [(0, (.made ([.agg [.int .i64 (C : Int), .slice o n c]]) 2 true)), (1, bT), (2, (.made ([.agg [.int .i64 sa, .int .i64 sb, .int .i64 sc, .int .i64 sd]]) 4 true)), (3, (.made ([.agg [.int .i64 0, .int .i64 0, .int .i64 0, .int .i64 0]]) 4 true)), (36, .made l 1 true)]) :=
  ppath_runs env_ok mixed (hs := [.val 6000 (.bool true), .go 8003, .go 8004, .ld 8005 (.bool true)]) (keep := [0, 2, 3, 5, 8, 9, 10, 11]) (by kernel_rfl) (All.cons (okT hc_0) (All.cons hc_1 (All.cons hc_2 (All.cons hc_3 (All.nil)))))

theorem bi_end (o : Option AAddr) (n c v C : Nat) (bT rt : ABlk) (l : List AVal) (y x0 e x i sa sb sc sd ta tb tc td : Int) (hc_0 : ¬ (i < sc)) :
    Runs Try.prog 2 55 (loopAt Try.prog 33 2) [(0, .ptr (some ⟨0, 0, 0, 0, 2⟩)), (2, .int .i64 y), (3, .int .i64 x0), (5, .ptr (some ⟨2, 0, 0, 0, 4⟩)), (8, .ptr (some ⟨3, 0, 0, 0, 4⟩)), (9, .slice (some ⟨36, 0, 0, 0, 1⟩) C C), (10, .int .i64 e), (11, .int .i64 x), (34, .int .i64 sc), (35, .int .i64 i)] (AHeap.rows 40 [(0, .made [.agg [.int .i64 C, .slice o n c]] 2 true), (1, bT), (2, .made [.agg [.int .i64 sa, .int .i64 sb, .int .i64 sc, .int .i64 sd]] 4 true), (3, .made [.agg [.int .i64 0, .int .i64 0, .int .i64 0, .int .i64 0]] 4 true), (36, .made l 1 true)]) (.exit 4) [(0, .ptr (some ⟨0, 0, 0, 0, 2⟩)), (2, .int .i64 y), (3, .int .i64 x0), (5, .ptr (some ⟨2, 0, 0, 0, 4⟩)), (8, .ptr (some ⟨3, 0, 0, 0, 4⟩)), (11, .int .i64 x)] (AHeap.rows 41 [(0, (.made ([.agg [.int .i64 (C : Int), .slice o n c]]) 2 true)), (1, bT), (2, (.made ([.agg [.int .i64 sa, .int .i64 sb, .int .i64 sc, .int .i64 sd]]) 4 true)), (3, (.made ([.agg [.int .i64 0, .int .i64 0, .int .i64 0, .int .i64 0]]) 4 true)), (36, .made l 1 true)]) :=
  ppath_runs env_ok mixed (hs := [.val 6000 (.bool false)]) (keep := [0, 2, 3, 5, 8, 11]) (by kernel_rfl) (All.cons (okF hc_0) (All.nil))

theorem bc_next (o : Option AAddr) (n c v C : Nat) (bT rt : ABlk) (l : List AVal) (y x0 e x i sa sb sc sd ta tb tc td : Int) (hc_0 : -9223372036854775808 ≤ x + sc ∧ x + sc ≤ 9223372036854775807) (hc_1 : x + sc ≤ (C : Int)) (hc_2 : Runs Try.prog 2 55 (.loop (loopAt Try.prog 33 2)) [(0, .ptr (some ⟨0, 0, 0, 0, 2⟩)), (2, .int .i64 y), (3, .int .i64 x0), (5, .ptr (some ⟨2, 0, 0, 0, 4⟩)), (8, .ptr (some ⟨3, 0, 0, 0, 4⟩)), (9, .slice (some ⟨36, 0, 0, 0, 1⟩) C C), (10, .int .i64 e), (11, .int .i64 x), (34, .int .i64 sc), (35, .int .i64 0)] (AHeap.rows 52 [(0, (.made ([.agg [.int .i64 (C : Int), .slice o n c]]) 2 true)), (1, bT), (2, (.made ([.agg [.int .i64 sa, .int .i64 sb, .int .i64 sc, .int .i64 sd]]) 4 true)), (3, (.made ([.agg [.int .i64 0, .int .i64 0, .int .i64 0, .int .i64 0]]) 4 true)), (36, .made l 1 true)]) (.exit 3) [(0, .ptr (some ⟨0, 0, 0, 0, 2⟩)), (2, .int .i64 y), (3, .int .i64 x0), (5, .ptr (some ⟨2, 0, 0, 0, 4⟩)), (8, .ptr (some ⟨3, 0, 0, 0, 4⟩)), (9, .slice (some ⟨36, 0, 0, 0, 1⟩) C C), (10, .int .i64 e), (11, .int .i64 x)] (AHeap.rows 60 [(0, (.made ([.agg [.int .i64 (C : Int), .slice o n c]]) 2 true)), (1, bT), (2, (.made ([.agg [.int .i64 sa, .int .i64 sb, .int .i64 sc, .int .i64 sd]]) 4 true)), (3, (.made ([.agg [.int .i64 0, .int .i64 0, .int .i64 0, .int .i64 0]]) 4 true)), (36, .made l 1 true)])) (hc_3 : -9223372036854775808 ≤ x + 1 ∧ x + (1 : Int) ≤ 9223372036854775807) :
    Runs Try.prog 2 55 (loopAt Try.prog 33 1) [(0, .ptr (some ⟨0, 0, 0, 0, 2⟩)), (2, .int .i64 y), (3, .int .i64 x0), (5, .ptr (some ⟨2, 0, 0, 0, 4⟩)), (8, .ptr (some ⟨3, 0, 0, 0, 4⟩)), (9, .slice (some ⟨36, 0, 0, 0, 1⟩) C C), (10, .int .i64 e), (11, .int .i64 x)] (AHeap.rows 40 [(0, .made [.agg [.int .i64 C, .slice o n c]] 2 true), (1, bT), (2, .made [.agg [.int .i64 sa, .int .i64 sb, .int .i64 sc, .int .i64 sd]] 4 true), (3, .made [.agg [.int .i64 0, .int .i64 0, .int .i64 0, .int .i64 0]] 4 true), (36, .made l 1 true)]) .normal [(0, .ptr (some ⟨0, 0, 0, 0, 2⟩)), (2, .int .i64 y), (3, .int .i64 x0), (5, .ptr (some ⟨2, 0, 0, 0, 4⟩)), (8, .ptr (some ⟨3, 0, 0, 0, 4⟩)), (9, .slice (some ⟨36, 0, 0, 0, 1⟩) C C), (10, .int .i64 e), (11, .int .i64 (x + 1))] (AHeap.rows 63 [(0, (.made ([.agg [.int .i64 (C : Int), .slice o n c]]) 2 true)), (1, bT), (2, (.made ([.agg [.int .i64 sa, .int .i64 sb, .int .i64 sc, .int .i64 sd]]) 4 true)), (3, (.made ([.agg [.int .i64 0, .int .i64 0, .int .i64 0, .int .i64 0]]) 4 true)), (36, .made l 1 true)]) :=
  ppath_runs env_ok mixed (hs := [.go 3003, .val 3008 (.bool true), .keep [0, 2, 3, 5, 8, 9, 10, 11, 34, 35], .loop [(0, .ptr (some ⟨0, 0, 0, 0, 2⟩)), (2, .int .i64 y), (3, .int .i64 x0), (5, .ptr (some ⟨2, 0, 0, 0, 4⟩)), (8, .ptr (some ⟨3, 0, 0, 0, 4⟩)), (9, .slice (some ⟨36, 0, 0, 0, 1⟩) C C), (10, .int .i64 e), (11, .int .i64 x)] (AHeap.rows 60 [(0, .made [.agg [.int .i64 C, .slice o n c]] 2 true), (1, bT), (2, .made [.agg [.int .i64 sa, .int .i64 sb, .int .i64 sc, .int .i64 sd]] 4 true), (3, .made [.agg [.int .i64 0, .int .i64 0, .int .i64 0, .int .i64 0]] 4 true), (36, .made l 1 true)]) (.exit 3), .go 4001]) (keep := [0, 2, 3, 5, 8, 9, 10, 11]) (by kernel_rfl) (All.cons hc_0 (All.cons (okT hc_1) (All.cons hc_2 (All.cons hc_3 (All.nil)))))

theorem bc_found (o : Option AAddr) (n c v C : Nat) (bT rt : ABlk) (l : List AVal) (y x0 e x i sa sb sc sd ta tb tc td : Int) (hc_0 : -9223372036854775808 ≤ x + sc ∧ x + sc ≤ 9223372036854775807) (hc_1 : x + sc ≤ (C : Int)) (hc_2 : Runs Try.prog 2 55 (.loop (loopAt Try.prog 33 2)) [(0, .ptr (some ⟨0, 0, 0, 0, 2⟩)), (2, .int .i64 y), (3, .int .i64 x0), (5, .ptr (some ⟨2, 0, 0, 0, 4⟩)), (8, .ptr (some ⟨3, 0, 0, 0, 4⟩)), (9, .slice (some ⟨36, 0, 0, 0, 1⟩) C C), (10, .int .i64 e), (11, .int .i64 x), (34, .int .i64 sc), (35, .int .i64 0)] (AHeap.rows 52 [(0, (.made ([.agg [.int .i64 (C : Int), .slice o n c]]) 2 true)), (1, bT), (2, (.made ([.agg [.int .i64 sa, .int .i64 sb, .int .i64 sc, .int .i64 sd]]) 4 true)), (3, (.made ([.agg [.int .i64 0, .int .i64 0, .int .i64 0, .int .i64 0]]) 4 true)), (36, .made l 1 true)]) (.exit 4) [(0, .ptr (some ⟨0, 0, 0, 0, 2⟩)), (2, .int .i64 y), (3, .int .i64 x0), (5, .ptr (some ⟨2, 0, 0, 0, 4⟩)), (8, .ptr (some ⟨3, 0, 0, 0, 4⟩)), (11, .int .i64 x)] (AHeap.rows 60 [(0, (.made ([.agg [.int .i64 (C : Int), .slice o n c]]) 2 true)), (1, bT), (2, (.made ([.agg [.int .i64 sa, .int .i64 sb, .int .i64 sc, .int .i64 sd]]) 4 true)), (3, (.made ([.agg [.int .i64 0, .int .i64 0, .int .i64 0, .int .i64 0]]) 4 true))])) :
    Runs Try.prog 2 55 (loopAt Try.prog 33 1) [(0, .ptr (some ⟨0, 0, 0, 0, 2⟩)), (2, .int .i64 y), (3, .int .i64 x0), (5, .ptr (some ⟨2, 0, 0, 0, 4⟩)), (8, .ptr (some ⟨3, 0, 0, 0, 4⟩)), (9, .slice (some ⟨36, 0, 0, 0, 1⟩) C C), (10, .int .i64 e), (11, .int .i64 x)] (AHeap.rows 40 [(0, .made [.agg [.int .i64 C, .slice o n c]] 2 true), (1, bT), (2, .made [.agg [.int .i64 sa, .int .i64 sb, .int .i64 sc, .int .i64 sd]] 4 true), (3, .made [.agg [.int .i64 0, .int .i64 0, .int .i64 0, .int .i64 0]] 4 true), (36, .made l 1 true)]) (.exit 0) [(5, .ptr (some ⟨2, 0, 0, 0, 4⟩)), (8, .ptr (some ⟨3, 0, 0, 0, 4⟩))] (AHeap.set (AHeap.set (AHeap.rows 66 [(0, (.made ([.agg [.int .i64 (C : Int), .slice o n c]]) 2 true)), (1, bT), (2, (.made ([.agg [.int .i64 sa, .int .i64 sb, .int .i64 sc, .int .i64 sd]]) 4 true)), (3, (.made ([.agg [.int .i64 0, .int .i64 0, .int .i64 0, .int .i64 0]]) 4 true))]) 2 (.made ([.agg [.int .i64 sa, .int .i64 y, .int .i64 sc, .int .i64 sd]]) 4 true)) 2 (.made ([.agg [.int .i64 x, .int .i64 y, .int .i64 sc, .int .i64 sd]]) 4 true)) :=
  ppath_runs env_ok mixed (hs := [.go 3003, .val 3008 (.bool true), .keep [0, 2, 3, 5, 8, 9, 10, 11, 34, 35], .loop [(0, .ptr (some ⟨0, 0, 0, 0, 2⟩)), (2, .int .i64 y), (3, .int .i64 x0), (5, .ptr (some ⟨2, 0, 0, 0, 4⟩)), (8, .ptr (some ⟨3, 0, 0, 0, 4⟩)), (11, .int .i64 x)] (AHeap.rows 60 [(0, .made [.agg [.int .i64 C, .slice o n c]] 2 true), (1, bT), (2, .made [.agg [.int .i64 sa, .int .i64 sb, .int .i64 sc, .int .i64 sd]] 4 true), (3, .made [.agg [.int .i64 0, .int .i64 0, .int .i64 0, .int .i64 0]] 4 true)]) (.exit 4)]) (keep := [5, 8]) (by kernel_rfl) (All.cons hc_0 (All.cons (okT hc_1) (All.cons hc_2 (All.nil))))

theorem bc_end (o : Option AAddr) (n c v C : Nat) (bT rt : ABlk) (l : List AVal) (y x0 e x i sa sb sc sd ta tb tc td : Int) (hc_0 : -9223372036854775808 ≤ x + sc ∧ x + sc ≤ 9223372036854775807) (hc_1 : ¬ (x + sc ≤ (C : Int))) :
    Runs Try.prog 2 55 (loopAt Try.prog 33 1) [(0, .ptr (some ⟨0, 0, 0, 0, 2⟩)), (2, .int .i64 y), (3, .int .i64 x0), (5, .ptr (some ⟨2, 0, 0, 0, 4⟩)), (8, .ptr (some ⟨3, 0, 0, 0, 4⟩)), (9, .slice (some ⟨36, 0, 0, 0, 1⟩) C C), (10, .int .i64 e), (11, .int .i64 x)] (AHeap.rows 40 [(0, .made [.agg [.int .i64 C, .slice o n c]] 2 true), (1, bT), (2, .made [.agg [.int .i64 sa, .int .i64 sb, .int .i64 sc, .int .i64 sd]] 4 true), (3, .made [.agg [.int .i64 0, .int .i64 0, .int .i64 0, .int .i64 0]] 4 true), (36, .made l 1 true)]) (.exit 2) [(0, .ptr (some ⟨0, 0, 0, 0, 2⟩)), (2, .int .i64 y), (3, .int .i64 x0), (5, .ptr (some ⟨2, 0, 0, 0, 4⟩)), (8, .ptr (some ⟨3, 0, 0, 0, 4⟩)), (10, .int .i64 e)] (AHeap.rows 49 [(0, (.made ([.agg [.int .i64 (C : Int), .slice o n c]]) 2 true)), (1, bT), (2, (.made ([.agg [.int .i64 sa, .int .i64 sb, .int .i64 sc, .int .i64 sd]]) 4 true)), (3, (.made ([.agg [.int .i64 0, .int .i64 0, .int .i64 0, .int .i64 0]]) 4 true)), (36, .made l 1 true)]) :=
  ppath_runs env_ok mixed (hs := [.go 3003, .val 3008 (.bool false)]) (keep := [0, 2, 3, 5, 8, 10]) (by kernel_rfl) (All.cons hc_0 (All.cons (okF hc_1) (All.nil)))

theorem b0_found (o : Option AAddr) (n c v C : Nat) (bT rt : ABlk) (l : List AVal) (y x0 e x i sa sb sc sd ta tb tc td : Int) (hc_0 : FDoes Try.prog 54 [.ptr (some ⟨0, 0, 0, 0, 2⟩), .int .i64 y, .int .i64 sd] (AHeap.rows 36 [(0, (.made ([.agg [.int .i64 (C : Int), .slice o n c]]) 2 true)), (1, bT), (2, (.made ([.agg [.int .i64 sa, .int .i64 sb, .int .i64 sc, .int .i64 sd]]) 4 true)), (3, (.made ([.agg [.int .i64 0, .int .i64 0, .int .i64 0, .int .i64 0]]) 4 true))]) (.tuple [.slice (some ⟨36, 0, 0, 0, 1⟩) C C, .int .i64 e]) (AHeap.rows 37 [(0, (.made ([.agg [.int .i64 (C : Int), .slice o n c]]) 2 true)), (1, bT), (2, (.made ([.agg [.int .i64 sa, .int .i64 sb, .int .i64 sc, .int .i64 sd]]) 4 true)), (3, (.made ([.agg [.int .i64 0, .int .i64 0, .int .i64 0, .int .i64 0]]) 4 true)), (36, rt)])) (hc_1 : Runs Try.prog 2 55 (.loop (loopAt Try.prog 33 1)) [(0, .ptr (some ⟨0, 0, 0, 0, 2⟩)), (2, .int .i64 y), (3, .int .i64 x0), (5, .ptr (some ⟨2, 0, 0, 0, 4⟩)), (8, .ptr (some ⟨3, 0, 0, 0, 4⟩)), (9, .slice (some ⟨36, 0, 0, 0, 1⟩) C C), (10, .int .i64 e), (11, .int .i64 x0)] (AHeap.rows 39 [(0, (.made ([.agg [.int .i64 (C : Int), .slice o n c]]) 2 true)), (1, bT), (2, (.made ([.agg [.int .i64 sa, .int .i64 sb, .int .i64 sc, .int .i64 sd]]) 4 true)), (3, (.made ([.agg [.int .i64 0, .int .i64 0, .int .i64 0, .int .i64 0]]) 4 true)), (36, rt)]) (.exit 0) [(5, .ptr (some ⟨2, 0, 0, 0, 4⟩)), (8, .ptr (some ⟨3, 0, 0, 0, 4⟩))] (AHeap.rows 50 [(0, (.made ([.agg [.int .i64 (C : Int), .slice o n c]]) 2 true)), (1, bT), (2, (.made ([.agg [.int .i64 ta, .int .i64 tb, .int .i64 tc, .int .i64 td]]) 4 true)), (3, (.made ([.agg [.int .i64 0, .int .i64 0, .int .i64 0, .int .i64 0]]) 4 true))])) :
    Runs Try.prog 2 55 (loopAt Try.prog 33 0) [(0, .ptr (some ⟨0, 0, 0, 0, 2⟩)), (2, .int .i64 y), (3, .int .i64 x0), (5, .ptr (some ⟨2, 0, 0, 0, 4⟩)), (8, .ptr (some ⟨3, 0, 0, 0, 4⟩))] (AHeap.rows 26 [(0, .made [.agg [.int .i64 C, .slice o n c]] 2 true), (1, bT), (2, .made [.agg [.int .i64 sa, .int .i64 sb, .int .i64 sc, .int .i64 sd]] 4 true), (3, .made [.agg [.int .i64 0, .int .i64 0, .int .i64 0, .int .i64 0]] 4 true)]) (.exit 0) [(5, .ptr (some ⟨2, 0, 0, 0, 4⟩)), (8, .ptr (some ⟨3, 0, 0, 0, 4⟩))] (AHeap.rows 50 [(0, (.made ([.agg [.int .i64 (C : Int), .slice o n c]]) 2 true)), (1, bT), (2, (.made ([.agg [.int .i64 ta, .int .i64 tb, .int .i64 tc, .int .i64 td]]) 4 true)), (3, (.made ([.agg [.int .i64 0, .int .i64 0, .int .i64 0, .int .i64 0]]) 4 true))]) :=
  ppath_runs env_ok mixed (hs := [.act 1004 (.tuple [.slice (some ⟨36, 0, 0, 0, 1⟩) C C, .int .i64 e]) (fun h => h.upd [] [rt]), .keep [0, 2, 3, 5, 8, 9, 10, 11], .loop [(5, .ptr (some ⟨2, 0, 0, 0, 4⟩)), (8, .ptr (some ⟨3, 0, 0, 0, 4⟩))] (AHeap.rows 50 [(0, .made [.agg [.int .i64 C, .slice o n c]] 2 true), (1, bT), (2, .made [.agg [.int .i64 ta, .int .i64 tb, .int .i64 tc, .int .i64 td]] 4 true), (3, .made [.agg [.int .i64 0, .int .i64 0, .int .i64 0, .int .i64 0]] 4 true)]) (.exit 0)]) (keep := [5, 8]) (by kernel_rfl) (All.cons (CallT.mk hc_0) (All.cons hc_1 (All.nil)))

theorem b0_col (o : Option AAddr) (n c v C : Nat) (bT rt : ABlk) (l : List AVal) (y x0 e x i sa sb sc sd ta tb tc td : Int) (hc_0 : FDoes Try.prog 54 [.ptr (some ⟨0, 0, 0, 0, 2⟩), .int .i64 y, .int .i64 sd] (AHeap.rows 36 [(0, (.made ([.agg [.int .i64 (C : Int), .slice o n c]]) 2 true)), (1, bT), (2, (.made ([.agg [.int .i64 sa, .int .i64 sb, .int .i64 sc, .int .i64 sd]]) 4 true)), (3, (.made ([.agg [.int .i64 0, .int .i64 0, .int .i64 0, .int .i64 0]]) 4 true))]) (.tuple [.slice (some ⟨36, 0, 0, 0, 1⟩) C C, .int .i64 e]) (AHeap.rows 37 [(0, (.made ([.agg [.int .i64 (C : Int), .slice o n c]]) 2 true)), (1, bT), (2, (.made ([.agg [.int .i64 sa, .int .i64 sb, .int .i64 sc, .int .i64 sd]]) 4 true)), (3, (.made ([.agg [.int .i64 0, .int .i64 0, .int .i64 0, .int .i64 0]]) 4 true)), (36, rt)])) (hc_1 : Runs Try.prog 2 55 (.loop (loopAt Try.prog 33 1)) [(0, .ptr (some ⟨0, 0, 0, 0, 2⟩)), (2, .int .i64 y), (3, .int .i64 x0), (5, .ptr (some ⟨2, 0, 0, 0, 4⟩)), (8, .ptr (some ⟨3, 0, 0, 0, 4⟩)), (9, .slice (some ⟨36, 0, 0, 0, 1⟩) C C), (10, .int .i64 e), (11, .int .i64 x0)] (AHeap.rows 39 [(0, (.made ([.agg [.int .i64 (C : Int), .slice o n c]]) 2 true)), (1, bT), (2, (.made ([.agg [.int .i64 sa, .int .i64 sb, .int .i64 sc, .int .i64 sd]]) 4 true)), (3, (.made ([.agg [.int .i64 0, .int .i64 0, .int .i64 0, .int .i64 0]]) 4 true)), (36, rt)]) (.exit 2) [(0, .ptr (some ⟨0, 0, 0, 0, 2⟩)), (2, .int .i64 y), (3, .int .i64 x0), (5, .ptr (some ⟨2, 0, 0, 0, 4⟩)), (8, .ptr (some ⟨3, 0, 0, 0, 4⟩)), (10, .int .i64 e)] (AHeap.rows 50 [(0, (.made ([.agg [.int .i64 (C : Int), .slice o n c]]) 2 true)), (1, bT), (2, (.made ([.agg [.int .i64 sa, .int .i64 sb, .int .i64 sc, .int .i64 sd]]) 4 true)), (3, (.made ([.agg [.int .i64 0, .int .i64 0, .int .i64 0, .int .i64 0]]) 4 true))])) (hc_2 : x0 > 0) (hc_3 : -9223372036854775808 ≤ y + 1 ∧ y + (1 : Int) ≤ 9223372036854775807) :
    Runs Try.prog 2 55 (loopAt Try.prog 33 0) [(0, .ptr (some ⟨0, 0, 0, 0, 2⟩)), (2, .int .i64 y), (3, .int .i64 x0), (5, .ptr (some ⟨2, 0, 0, 0, 4⟩)), (8, .ptr (some ⟨3, 0, 0, 0, 4⟩))] (AHeap.rows 26 [(0, .made [.agg [.int .i64 C, .slice o n c]] 2 true), (1, bT), (2, .made [.agg [.int .i64 sa, .int .i64 sb, .int .i64 sc, .int .i64 sd]] 4 true), (3, .made [.agg [.int .i64 0, .int .i64 0, .int .i64 0, .int .i64 0]] 4 true)]) .normal [(0, .ptr (some ⟨0, 0, 0, 0, 2⟩)), (2, .int .i64 (y + 1)), (3, .int .i64 0), (5, .ptr (some ⟨2, 0, 0, 0, 4⟩)), (8, .ptr (some ⟨3, 0, 0, 0, 4⟩))] (AHeap.rows 56 [(0, (.made ([.agg [.int .i64 (C : Int), .slice o n c]]) 2 true)), (1, bT), (2, (.made ([.agg [.int .i64 sa, .int .i64 sb, .int .i64 sc, .int .i64 sd]]) 4 true)), (3, (.made ([.agg [.int .i64 0, .int .i64 0, .int .i64 0, .int .i64 0]]) 4 true))]) :=
  ppath_runs env_ok mixed (hs := [.act 1004 (.tuple [.slice (some ⟨36, 0, 0, 0, 1⟩) C C, .int .i64 e]) (fun h => h.upd [] [rt]), .keep [0, 2, 3, 5, 8, 9, 10, 11], .loop [(0, .ptr (some ⟨0, 0, 0, 0, 2⟩)), (2, .int .i64 y), (3, .int .i64 x0), (5, .ptr (some ⟨2, 0, 0, 0, 4⟩)), (8, .ptr (some ⟨3, 0, 0, 0, 4⟩)), (10, .int .i64 e)] (AHeap.rows 50 [(0, .made [.agg [.int .i64 C, .slice o n c]] 2 true), (1, bT), (2, .made [.agg [.int .i64 sa, .int .i64 sb, .int .i64 sc, .int .i64 sd]] 4 true), (3, .made [.agg [.int .i64 0, .int .i64 0, .int .i64 0, .int .i64 0]] 4 true)]) (.exit 2), .val 11001 (.bool true), .go 12001]) (keep := [0, 2, 3, 5, 8]) (by kernel_rfl) (All.cons (CallT.mk hc_0) (All.cons hc_1 (All.cons (okT hc_2) (All.cons hc_3 (All.nil)))))

theorem b0_row (o : Option AAddr) (n c v C : Nat) (bT rt : ABlk) (l : List AVal) (y x0 e x i sa sb sc sd ta tb tc td : Int) (hc_0 : FDoes Try.prog 54 [.ptr (some ⟨0, 0, 0, 0, 2⟩), .int .i64 y, .int .i64 sd] (AHeap.rows 36 [(0, (.made ([.agg [.int .i64 (C : Int), .slice o n c]]) 2 true)), (1, bT), (2, (.made ([.agg [.int .i64 sa, .int .i64 sb, .int .i64 sc, .int .i64 sd]]) 4 true)), (3, (.made ([.agg [.int .i64 0, .int .i64 0, .int .i64 0, .int .i64 0]]) 4 true))]) (.tuple [.slice (some ⟨36, 0, 0, 0, 1⟩) C C, .int .i64 e]) (AHeap.rows 37 [(0, (.made ([.agg [.int .i64 (C : Int), .slice o n c]]) 2 true)), (1, bT), (2, (.made ([.agg [.int .i64 sa, .int .i64 sb, .int .i64 sc, .int .i64 sd]]) 4 true)), (3, (.made ([.agg [.int .i64 0, .int .i64 0, .int .i64 0, .int .i64 0]]) 4 true)), (36, rt)])) (hc_1 : Runs Try.prog 2 55 (.loop (loopAt Try.prog 33 1)) [(0, .ptr (some ⟨0, 0, 0, 0, 2⟩)), (2, .int .i64 y), (3, .int .i64 x0), (5, .ptr (some ⟨2, 0, 0, 0, 4⟩)), (8, .ptr (some ⟨3, 0, 0, 0, 4⟩)), (9, .slice (some ⟨36, 0, 0, 0, 1⟩) C C), (10, .int .i64 e), (11, .int .i64 x0)] (AHeap.rows 39 [(0, (.made ([.agg [.int .i64 (C : Int), .slice o n c]]) 2 true)), (1, bT), (2, (.made ([.agg [.int .i64 sa, .int .i64 sb, .int .i64 sc, .int .i64 sd]]) 4 true)), (3, (.made ([.agg [.int .i64 0, .int .i64 0, .int .i64 0, .int .i64 0]]) 4 true)), (36, rt)]) (.exit 2) [(0, .ptr (some ⟨0, 0, 0, 0, 2⟩)), (2, .int .i64 y), (3, .int .i64 x0), (5, .ptr (some ⟨2, 0, 0, 0, 4⟩)), (8, .ptr (some ⟨3, 0, 0, 0, 4⟩)), (10, .int .i64 e)] (AHeap.rows 50 [(0, (.made ([.agg [.int .i64 (C : Int), .slice o n c]]) 2 true)), (1, bT), (2, (.made ([.agg [.int .i64 sa, .int .i64 sb, .int .i64 sc, .int .i64 sd]]) 4 true)), (3, (.made ([.agg [.int .i64 0, .int .i64 0, .int .i64 0, .int .i64 0]]) 4 true))])) (hc_2 : ¬ (x0 > 0)) :
    Runs Try.prog 2 55 (loopAt Try.prog 33 0) [(0, .ptr (some ⟨0, 0, 0, 0, 2⟩)), (2, .int .i64 y), (3, .int .i64 x0), (5, .ptr (some ⟨2, 0, 0, 0, 4⟩)), (8, .ptr (some ⟨3, 0, 0, 0, 4⟩))] (AHeap.rows 26 [(0, .made [.agg [.int .i64 C, .slice o n c]] 2 true), (1, bT), (2, .made [.agg [.int .i64 sa, .int .i64 sb, .int .i64 sc, .int .i64 sd]] 4 true), (3, .made [.agg [.int .i64 0, .int .i64 0, .int .i64 0, .int .i64 0]] 4 true)]) .normal [(0, .ptr (some ⟨0, 0, 0, 0, 2⟩)), (2, .int .i64 e), (3, .int .i64 x0), (5, .ptr (some ⟨2, 0, 0, 0, 4⟩)), (8, .ptr (some ⟨3, 0, 0, 0, 4⟩))] (AHeap.rows 54 [(0, (.made ([.agg [.int .i64 (C : Int), .slice o n c]]) 2 true)), (1, bT), (2, (.made ([.agg [.int .i64 sa, .int .i64 sb, .int .i64 sc, .int .i64 sd]]) 4 true)), (3, (.made ([.agg [.int .i64 0, .int .i64 0, .int .i64 0, .int .i64 0]]) 4 true))]) :=
  ppath_runs env_ok mixed (hs := [.act 1004 (.tuple [.slice (some ⟨36, 0, 0, 0, 1⟩) C C, .int .i64 e]) (fun h => h.upd [] [rt]), .keep [0, 2, 3, 5, 8, 9, 10, 11], .loop [(0, .ptr (some ⟨0, 0, 0, 0, 2⟩)), (2, .int .i64 y), (3, .int .i64 x0), (5, .ptr (some ⟨2, 0, 0, 0, 4⟩)), (8, .ptr (some ⟨3, 0, 0, 0, 4⟩)), (10, .int .i64 e)] (AHeap.rows 50 [(0, .made [.agg [.int .i64 C, .slice o n c]] 2 true), (1, bT), (2, .made [.agg [.int .i64 sa, .int .i64 sb, .int .i64 sc, .int .i64 sd]] 4 true), (3, .made [.agg [.int .i64 0, .int .i64 0, .int .i64 0, .int .i64 0]] 4 true)]) (.exit 2), .val 11001 (.bool false)]) (keep := [0, 2, 3, 5, 8]) (by kernel_rfl) (All.cons (CallT.mk hc_0) (All.cons hc_1 (All.cons (okF hc_2) (All.nil))))

theorem bh_call (o : Option AAddr) (n c v C : Nat) (bT rt : ABlk) (l : List AVal) (y x0 e x i sa sb sc sd ta tb tc td : Int) (hc_0 : Runs Try.prog 2 55 (.loop (loopAt Try.prog 33 0)) [(0, .ptr (some ⟨0, 0, 0, 0, 2⟩)), (2, .int .i64 y), (3, .int .i64 x0), (5, .ptr (some ⟨2, 0, 0, 0, 4⟩)), (8, .ptr (some ⟨3, 0, 0, 0, 4⟩))] (AHeap.set (AHeap.set (AHeap.rows 4 [(0, .made [.agg [.int .i64 (C : Int), .slice o n c]] 2 true), (1, bT)]) 2 (.made [.agg [.int .i64 sa, .int .i64 sb, .int .i64 sc, .int .i64 sd]] 4 true)) 3 (.made [.agg [.int .i64 0, .int .i64 0, .int .i64 0, .int .i64 0]] 4 true)) (.exit 0) [(5, .ptr (some ⟨2, 0, 0, 0, 4⟩)), (8, .ptr (some ⟨3, 0, 0, 0, 4⟩))] (AHeap.rows 50 [(0, (.made ([.agg [.int .i64 (C : Int), .slice o n c]]) 2 true)), (1, bT), (2, (.made ([.agg [.int .i64 ta, .int .i64 tb, .int .i64 tc, .int .i64 td]]) 4 true)), (3, (.made ([.agg [.int .i64 0, .int .i64 0, .int .i64 0, .int .i64 0]]) 4 true))])) (hc_1 : aload env.D 28 ⟨3, 0, 0, 0, 4⟩ (AHeap.set (AHeap.rows 52 [(0, (.made ([.agg [.int .i64 (C : Int), .slice o n c]]) 2 true)), (1, bT), (2, (.made ([.agg [.int .i64 ta, .int .i64 tb, .int .i64 tc, .int .i64 td]]) 4 true)), (3, (.made ([.agg [.int .i64 0, .int .i64 0, .int .i64 0, .int .i64 0]]) 4 true))]) 3 (.made ([.agg [.int .i64 ta, .int .i64 tb, .int .i64 tc, .int .i64 td]]) 4 true)) = some (.agg [.int .i64 ta, .int .i64 tb, .int .i64 tc, .int .i64 td])) :
    FDoes Try.prog 33 [.ptr (some ⟨0, 0, 0, 0, 2⟩), .agg [.int .i64 sa, .int .i64 sb, .int .i64 sc, .int .i64 sd], .int .i64 y, .int .i64 x0] (AHeap.of [.made [.agg [.int .i64 C, .slice o n c]] 2 true, bT]) (.agg [.int .i64 ta, .int .i64 tb, .int .i64 tc, .int .i64 td]) (AHeap.set (AHeap.rows 52 [(0, (.made ([.agg [.int .i64 (C : Int), .slice o n c]]) 2 true)), (1, bT), (2, (.made ([.agg [.int .i64 ta, .int .i64 tb, .int .i64 tc, .int .i64 td]]) 4 true)), (3, (.made ([.agg [.int .i64 0, .int .i64 0, .int .i64 0, .int .i64 0]]) 4 true))]) 3 (.made ([.agg [.int .i64 ta, .int .i64 tb, .int .i64 tc, .int .i64 td]]) 4 true)) :=
  pcall_does env_ok mixed (hs := [.keep [0, 2, 3, 5, 8], .loop [(5, .ptr (some ⟨2, 0, 0, 0, 4⟩)), (8, .ptr (some ⟨3, 0, 0, 0, 4⟩))] (AHeap.rows 50 [(0, .made [.agg [.int .i64 C, .slice o n c]] 2 true), (1, bT), (2, .made [.agg [.int .i64 ta, .int .i64 tb, .int .i64 tc, .int .i64 td]] 4 true), (3, .made [.agg [.int .i64 0, .int .i64 0, .int .i64 0, .int .i64 0]] 4 true)]) (.exit 0)]) (rs := [.cell (.agg [.int .i64 ta, .int .i64 tb, .int .i64 tc, .int .i64 td])]) (by kernel_rfl) (All.cons hc_0 (All.cons hc_1 (All.nil)))

end Go.Proofs.Ytcgcpmcjaeenlaa

namespace Go.Proofs.Ytcgcpmcjaeenlaa
open Go.Lift
set_option maxRecDepth 1000000
set_option linter.unusedSimpArgs false
set_option linter.unusedVariables false
set_option linter.unusedSectionVars false

section
variable {C n c v : Nat} {o : Option AAddr} (hs : SlArg o n c 1 v 0 4) {bT : ABlk} (hb : BareB bT) {T : List Qd} (hl : T.length = n) (hel : ElT bT v T) {M : Int} (hT : GoodT C M T) (hC : C ≤ 64) (hM : 0 ≤ M ∧ M ≤ 2 ^ 39) (hn : n ≤ 2 ^ 40)
include hs hb hl hel hT hC hM hn

def BiEnds (C n c : Nat) (o : Option AAddr) (bT : ABlk) (s : Qd) (tk : Nat → Bool) (y x0 e x i : Int) : Prop :=
  ((∀ i' : Int, 0 ≤ i' → i' < s.c → tk (x + i').toNat = false) ∧ Loops Try.prog 2 55 (loopAt Try.prog 33 2) [(0, .ptr (some ⟨0, 0, 0, 0, 2⟩)), (2, .int .i64 y), (3, .int .i64 x0), (5, .ptr (some ⟨2, 0, 0, 0, 4⟩)), (8, .ptr (some ⟨3, 0, 0, 0, 4⟩)), (9, .slice (some ⟨36, 0, 0, 0, 1⟩) C C), (10, .int .i64 e), (11, .int .i64 x), (34, .int .i64 s.c), (35, .int .i64 i)]
      (AHeap.rows 40 [(0, brdRow C o n c), (1, bT), (2, .made [s.val] 4 true), (3, .made [Qd0.val] 4 true), (36, .made (bools C tk) 1 true)]) (.exit 4)
      [(0, .ptr (some ⟨0, 0, 0, 0, 2⟩)), (2, .int .i64 y), (3, .int .i64 x0), (5, .ptr (some ⟨2, 0, 0, 0, 4⟩)), (8, .ptr (some ⟨3, 0, 0, 0, 4⟩)), (11, .int .i64 x)] (AHeap.rows 60 [(0, brdRow C o n c), (1, bT), (2, .made [s.val] 4 true), (3, .made [Qd0.val] 4 true)])) ∨
  ((∃ i' : Int, 0 ≤ i' ∧ i' < s.c ∧ tk (x + i').toNat = true) ∧ Loops Try.prog 2 55 (loopAt Try.prog 33 2) [(0, .ptr (some ⟨0, 0, 0, 0, 2⟩)), (2, .int .i64 y), (3, .int .i64 x0), (5, .ptr (some ⟨2, 0, 0, 0, 4⟩)), (8, .ptr (some ⟨3, 0, 0, 0, 4⟩)), (9, .slice (some ⟨36, 0, 0, 0, 1⟩) C C), (10, .int .i64 e), (11, .int .i64 x), (34, .int .i64 s.c), (35, .int .i64 i)]
      (AHeap.rows 40 [(0, brdRow C o n c), (1, bT), (2, .made [s.val] 4 true), (3, .made [Qd0.val] 4 true), (36, .made (bools C tk) 1 true)]) (.exit 3)
      [(0, .ptr (some ⟨0, 0, 0, 0, 2⟩)), (2, .int .i64 y), (3, .int .i64 x0), (5, .ptr (some ⟨2, 0, 0, 0, 4⟩)), (8, .ptr (some ⟨3, 0, 0, 0, 4⟩)), (9, .slice (some ⟨36, 0, 0, 0, 1⟩) C C), (10, .int .i64 e), (11, .int .i64 x)] (AHeap.rows 60 [(0, brdRow C o n c), (1, bT), (2, .made [s.val] 4 true), (3, .made [Qd0.val] 4 true), (36, .made (bools C tk) 1 true)]))

theorem bi_loop {s : Qd} (tk : Nat → Bool) (y x0 e : Int) {x : Int} (hx : 0 ≤ x ∧ x + s.c ≤ C) : ∀ (f : Nat) (i : Int), 0 ≤ i → i ≤ s.c → s.c - i ≤ f → (∀ i' : Int, 0 ≤ i' → i' < i → tk (x + i').toNat = false) → BiEnds C n c o bT s tk y x0 e x i
  | 0, i, h0, h1, h2, hp => by
    obtain rfl : i = s.c := by omega
    refine .inl ⟨hp, ?_⟩
    refine (Loops.last (by simp) (bi_end o n c v C bT bT _ y x0 e x s.c s.a s.b s.c s.d 0 0 0 0 (by omega))).post ?_
    exact Ent.drop (by kernel_rfl) (by kernel_rfl) (by kernel_rfl) (by kernel_rfl) (by simp [All_cons, All_nil, Clo, Ids]) (by
      simp only [List.map, All_cons, All_nil, and_true]
      exact ⟨brd_cloI (hs.clo (by simp [Ids])), hb.clo _, qd_cloI _ _, qd_cloI _ _⟩)
  | f + 1, i, h0, h1, h2, hp => by
    by_cases c0 : i = s.c
    · subst c0
      refine .inl ⟨hp, ?_⟩
      refine (Loops.last (by simp) (bi_end o n c v C bT bT _ y x0 e x s.c s.a s.b s.c s.d 0 0 0 0 (by omega))).post ?_
      exact Ent.drop (by kernel_rfl) (by kernel_rfl) (by kernel_rfl) (by kernel_rfl) (by simp [All_cons, All_nil, Clo, Ids]) (by
        simp only [List.map, All_cons, All_nil, and_true]
        exact ⟨brd_cloI (hs.clo (by simp [Ids])), hb.clo _, qd_cloI _ _, qd_cloI _ _⟩)
    · have d0 : Clo (Ids [0, 1, 2, 3, 36]) (.slice o n c) := hs.clo (by simp [Ids])
      have el : (ABlk.made (bools C tk) 1 true).elem? 0 (0 + Int.toNat (x + i)) = some (.bool (tk (x + i).toNat)) := by rw [Nat.zero_add]; exact bools_el (by omega)
      cases hk : tk (x + i).toNat with
      | true =>
        rw [hk] at el
        refine .inr ⟨⟨i, h0, by omega, hk⟩, ?_⟩
        refine (Loops.last (by simp) (bi_taken o n c v C bT bT _ y x0 e x i s.a s.b s.c s.d 0 0 0 0 (by omega) (by omega) ⟨by omega, by omega, rfl⟩ el)).post ?_
        exact Ent.drop (by kernel_rfl) (by kernel_rfl) (by kernel_rfl) (by kernel_rfl) (by simp [All_cons, All_nil, Clo, Ids]) (by
          simp only [List.map, All_cons, All_nil, and_true]
          exact ⟨brd_cloI d0, hb.clo _, qd_cloI _ _, qd_cloI _ _, (bools_bare _ _).clo _⟩)
      | false =>
        rw [hk] at el
        have st := (bi_free o n c v C bT bT _ y x0 e x i s.a s.b s.c s.d 0 0 0 0 (by omega) (by omega) ⟨by omega, by omega, rfl⟩ el (by omega)).post (i := Ent.drop (K := 40) (l := [(0, brdRow C o n c), (1, bT), (2, .made [s.val] 4 true), (3, .made [Qd0.val] 4 true), (36, .made (bools C tk) 1 true)]) (by kernel_rfl) (by kernel_rfl) (by kernel_rfl) (by kernel_rfl) (by simp [All_cons, All_nil, Clo, Ids]) (by
          simp only [List.map, All_cons, All_nil, and_true]
          exact ⟨brd_cloI d0, hb.clo _, qd_cloI _ _, qd_cloI _ _, (bools_bare _ _).clo _⟩))
        rcases bi_loop tk y x0 e hx f (i + 1) (by omega) (by omega) (by omega) (fun i' a b => by
          by_cases c1 : i' = i
          · subst c1; exact hk
          · exact hp i' a (by omega)) with ⟨a, l⟩ | ⟨a, l⟩
        · exact .inl ⟨a, Loops.step st l⟩
        · exact .inr ⟨a, Loops.step st l⟩

def BcEnds (C n c : Nat) (o : Option AAddr) (bT : ABlk) (T : List Qd) (s : Qd) (tk : Nat → Bool) (y x0 e x : Int) : Prop :=
  (∃ x', x ≤ x' ∧ x' + s.c ≤ C ∧ FreeZ T (s.at x' y) ∧ (∀ x'', x ≤ x'' → x'' < x' → ¬ FreeZ T (s.at x'' y)) ∧ Loops Try.prog 2 55 (loopAt Try.prog 33 1) [(0, .ptr (some ⟨0, 0, 0, 0, 2⟩)), (2, .int .i64 y), (3, .int .i64 x0), (5, .ptr (some ⟨2, 0, 0, 0, 4⟩)), (8, .ptr (some ⟨3, 0, 0, 0, 4⟩)), (9, .slice (some ⟨36, 0, 0, 0, 1⟩) C C), (10, .int .i64 e), (11, .int .i64 x)]
      (AHeap.rows 40 [(0, brdRow C o n c), (1, bT), (2, .made [s.val] 4 true), (3, .made [Qd0.val] 4 true), (36, .made (bools C tk) 1 true)]) (.exit 0)
      [(5, .ptr (some ⟨2, 0, 0, 0, 4⟩)), (8, .ptr (some ⟨3, 0, 0, 0, 4⟩))] (AHeap.rows 50 [(0, brdRow C o n c), (1, bT), (2, .made [(s.at x' y).val] 4 true), (3, .made [Qd0.val] 4 true)])) ∨
  ((∀ x'', x ≤ x'' → x'' + s.c ≤ C → ¬ FreeZ T (s.at x'' y)) ∧ Loops Try.prog 2 55 (loopAt Try.prog 33 1) [(0, .ptr (some ⟨0, 0, 0, 0, 2⟩)), (2, .int .i64 y), (3, .int .i64 x0), (5, .ptr (some ⟨2, 0, 0, 0, 4⟩)), (8, .ptr (some ⟨3, 0, 0, 0, 4⟩)), (9, .slice (some ⟨36, 0, 0, 0, 1⟩) C C), (10, .int .i64 e), (11, .int .i64 x)]
      (AHeap.rows 40 [(0, brdRow C o n c), (1, bT), (2, .made [s.val] 4 true), (3, .made [Qd0.val] 4 true), (36, .made (bools C tk) 1 true)]) (.exit 2)
      [(0, .ptr (some ⟨0, 0, 0, 0, 2⟩)), (2, .int .i64 y), (3, .int .i64 x0), (5, .ptr (some ⟨2, 0, 0, 0, 4⟩)), (8, .ptr (some ⟨3, 0, 0, 0, 4⟩)), (10, .int .i64 e)] (AHeap.rows 50 [(0, brdRow C o n c), (1, bT), (2, .made [s.val] 4 true), (3, .made [Qd0.val] 4 true)]))

theorem bc_loop {s : Qd} (hsm : Small s) (hsc : 1 ≤ s.c) {tk : Nat → Bool} {y : Int} (htk : ∀ X : Nat, X < C → (tk X = true ↔ TkZ T y s.d X)) (x0 e : Int) : ∀ (f : Nat) (x : Int), 0 ≤ x → x ≤ 2 ^ 40 → (C : Int) - x ≤ f → BcEnds C n c o bT T s tk y x0 e x
  | 0, x, h0, h1, h2 => by
    have h3 := hsm.2.2.1
    refine .inr ⟨fun x'' a b => by omega, ?_⟩
    refine (Loops.last (by simp) (bc_end o n c v C bT bT _ y x0 e x 0 s.a s.b s.c s.d 0 0 0 0 (by omega) (by omega))).post ?_
    exact Ent.drop (by kernel_rfl) (by kernel_rfl) (by kernel_rfl) (by kernel_rfl) (by simp [All_cons, All_nil, Clo, Ids]) (by
      simp only [List.map, All_cons, All_nil, and_true]
      exact ⟨brd_cloI (hs.clo (by simp [Ids])), hb.clo _, qd_cloI _ _, qd_cloI _ _⟩)
  | f + 1, x, h0, h1, h2 => by
    have h3 := hsm.2.2.1
    have d0 : Clo (Ids [0, 1, 2, 3, 36]) (.slice o n c) := hs.clo (by simp [Ids])
    by_cases hx : x + s.c ≤ C
    · have key : ∀ i' : Int, 0 ≤ i' → i' < s.c → (tk (x + i').toNat = true ↔ TkZ T y s.d (x + i')) := fun i' a b => by
        have := htk (x + i').toNat (by omega)
        rwa [show (((x + i').toNat : Nat) : Int) = x + i' by omega] at this
      have pre : ∀ {h0 : AHeap}, [h0.get 0, h0.get 1, h0.get 2, h0.get 3, h0.get 36] = [some (brdRow C o n c), some bT, some (.made [s.val] 4 true), some (.made [Qd0.val] 4 true), some (.made (bools C tk) 1 true)] →
          Ent 2 55 [(0, .ptr (some ⟨0, 0, 0, 0, 2⟩)), (2, .int .i64 y), (3, .int .i64 x0), (5, .ptr (some ⟨2, 0, 0, 0, 4⟩)), (8, .ptr (some ⟨3, 0, 0, 0, 4⟩)), (9, .slice (some ⟨36, 0, 0, 0, 1⟩) C C), (10, .int .i64 e), (11, .int .i64 x), (34, .int .i64 s.c), (35, .int .i64 0)] h0
            [(0, .ptr (some ⟨0, 0, 0, 0, 2⟩)), (2, .int .i64 y), (3, .int .i64 x0), (5, .ptr (some ⟨2, 0, 0, 0, 4⟩)), (8, .ptr (some ⟨3, 0, 0, 0, 4⟩)), (9, .slice (some ⟨36, 0, 0, 0, 1⟩) C C), (10, .int .i64 e), (11, .int .i64 x), (34, .int .i64 s.c), (35, .int .i64 0)] (AHeap.rows 40 [(0, brdRow C o n c), (1, bT), (2, .made [s.val] 4 true), (3, .made [Qd0.val] 4 true), (36, .made (bools C tk) 1 true)]) := fun e1 =>
        Ent.drop e1 (by kernel_rfl) (by kernel_rfl) (by kernel_rfl) (by simp [All_cons, All_nil, Clo, Ids]) (by
          simp only [List.map, All_cons, All_nil, and_true]
          exact ⟨brd_cloI d0, hb.clo _, qd_cloI _ _, qd_cloI _ _, (bools_bare _ _).clo _⟩)
      rcases bi_loop hs hb hl hel hT hC hM hn (s := s) tk y x0 e ⟨h0, hx⟩ s.c.toNat 0 (Int.le_refl _) (by omega) (by omega) (fun i' a b => by omega) with ⟨a, l⟩ | ⟨⟨i', a1, a2, a3⟩, l⟩
      · refine .inl ⟨x, Int.le_refl _, hx, (free_clear hT hsc x y).2 (fun i' b1 b2 h => by have := (key i' b1 b2).2 h; rw [a i' b1 b2] at this; cases this), fun x'' b1 b2 => by omega, ?_⟩
        refine (Loops.last (by simp) (bc_found o n c v C bT bT _ y x0 e x 0 s.a s.b s.c s.d 0 0 0 0 (by omega) hx (Runs.of_loops (Tri.pre l (pre (by kernel_rfl)))))).post ?_
        exact Ent.drop (by kernel_rfl) (by kernel_rfl) (by kernel_rfl) (by kernel_rfl) (by simp [All_cons, All_nil, Clo, Ids]) (by
          simp only [List.map, All_cons, All_nil, and_true]
          exact ⟨brd_cloI (hs.clo (by simp [Ids])), hb.clo _, qd_cloI _ _, qd_cloI _ _⟩)
      · have nf : ¬ FreeZ T (s.at x y) := fun h => (free_clear hT hsc x y).1 h i' a1 a2 ((key i' a1 a2).1 a3)
        have st := (bc_next o n c v C bT bT _ y x0 e x 0 s.a s.b s.c s.d 0 0 0 0 (by omega) hx (Runs.of_loops (Tri.pre l (pre (by kernel_rfl)))) (by omega)).post (i := Ent.drop (K := 40) (l := [(0, brdRow C o n c), (1, bT), (2, .made [s.val] 4 true), (3, .made [Qd0.val] 4 true), (36, .made (bools C tk) 1 true)]) (by kernel_rfl) (by kernel_rfl) (by kernel_rfl) (by kernel_rfl) (by simp [All_cons, All_nil, Clo, Ids]) (by
          simp only [List.map, All_cons, All_nil, and_true]
          exact ⟨brd_cloI d0, hb.clo _, qd_cloI _ _, qd_cloI _ _, (bools_bare _ _).clo _⟩))
        rcases bc_loop hsm hsc htk x0 e f (x + 1) (by omega) (by omega) (by omega) with ⟨x', b1, b2, b3, b4, l2⟩ | ⟨b1, l2⟩
        · exact .inl ⟨x', by omega, b2, b3, fun x'' q1 q2 => by
            by_cases c1 : x'' = x
            · subst c1; exact nf
            · exact b4 x'' (by omega) q2, Loops.step st l2⟩
        · exact .inr ⟨fun x'' q1 q2 => by
            by_cases c1 : x'' = x
            · subst c1; exact nf
            · exact b1 x'' (by omega) q2, Loops.step st l2⟩
    · refine .inr ⟨fun x'' a b => by omega, ?_⟩
      refine (Loops.last (by simp) (bc_end o n c v C bT bT _ y x0 e x 0 s.a s.b s.c s.d 0 0 0 0 (by omega) (by omega))).post ?_
      exact Ent.drop (by kernel_rfl) (by kernel_rfl) (by kernel_rfl) (by kernel_rfl) (by simp [All_cons, All_nil, Clo, Ids]) (by
        simp only [List.map, All_cons, All_nil, and_true]
        exact ⟨brd_cloI (hs.clo (by simp [Ids])), hb.clo _, qd_cloI _ _, qd_cloI _ _⟩)

def BhEnds (C n c : Nat) (o : Option AAddr) (bT : ABlk) (T : List Qd) (s : Qd) (y0 x0 y x : Int) : Prop :=
  ∃ r, BehindZ T C s y0 x0 r ∧ Loops Try.prog 2 55 (loopAt Try.prog 33 0) [(0, .ptr (some ⟨0, 0, 0, 0, 2⟩)), (2, .int .i64 y), (3, .int .i64 x), (5, .ptr (some ⟨2, 0, 0, 0, 4⟩)), (8, .ptr (some ⟨3, 0, 0, 0, 4⟩))] (AHeap.rows 26 [(0, brdRow C o n c), (1, bT), (2, .made [s.val] 4 true), (3, .made [Qd0.val] 4 true)])
    (.exit 0) [(5, .ptr (some ⟨2, 0, 0, 0, 4⟩)), (8, .ptr (some ⟨3, 0, 0, 0, 4⟩))] (AHeap.rows 50 [(0, brdRow C o n c), (1, bT), (2, .made [r.val] 4 true), (3, .made [Qd0.val] 4 true)])

theorem bh_loop {s : Qd} (hsm : Small s) (hsc : 1 ≤ s.c ∧ s.c ≤ C) {y0 x0 : Int} : ∀ (f : Nat) (y x : Int), 0 ≤ y → y ≤ M + 1 → (y = M + 1 → x = 0) → 0 ≤ x → x ≤ 2 ^ 40 → M + 1 - y ≤ f → (y0 < y ∨ y0 = y ∧ x0 ≤ x) →
    (∀ y' x', 0 ≤ x' → x' + s.c ≤ C → (y0 < y' ∨ y0 = y' ∧ x0 ≤ x') → (y' < y ∨ y' = y ∧ x' < x) → ¬ FreeZ T (s.at x' y')) → BhEnds C n c o bT T s y0 x0 y x := by
  intro f
  induction f with
  | zero =>
    intro y x hy hy1 hyx hx hxb hf hge hp
    obtain rfl : y = M + 1 := by omega
    obtain rfl := hyx rfl
    have bd : BoardAt (AHeap.rows 36 [(0, brdRow C o n c), (1, bT), (2, .made [s.val] 4 true), (3, .made [Qd0.val] 4 true)]) 0 1 C o n c v bT T := ⟨by kernel_rfl, by kernel_rfl, hs, by decide, by rw [AHeap.rows_next]; omega, by rw [AHeap.rows_next]; omega, hb, hl, hel⟩
    obtain ⟨tk, e, t1, t2, k⟩ := strip_does bd hT hC hM hn (y := M + 1) (d := s.d) (by omega) hsm.2.2.2
    rw [AHeap.rows_next] at k
    have pre : ∀ {h0 : AHeap}, [h0.get 0, h0.get 1, h0.get 2, h0.get 3, h0.get 36] = [some (brdRow C o n c), some bT, some (.made [s.val] 4 true), some (.made [Qd0.val] 4 true), some (.made (bools C tk) 1 true)] →
        Ent 2 55 [(0, .ptr (some ⟨0, 0, 0, 0, 2⟩)), (2, .int .i64 (M + 1)), (3, .int .i64 0), (5, .ptr (some ⟨2, 0, 0, 0, 4⟩)), (8, .ptr (some ⟨3, 0, 0, 0, 4⟩)), (9, .slice (some ⟨36, 0, 0, 0, 1⟩) C C), (10, .int .i64 e), (11, .int .i64 0)] h0
          [(0, .ptr (some ⟨0, 0, 0, 0, 2⟩)), (2, .int .i64 (M + 1)), (3, .int .i64 0), (5, .ptr (some ⟨2, 0, 0, 0, 4⟩)), (8, .ptr (some ⟨3, 0, 0, 0, 4⟩)), (9, .slice (some ⟨36, 0, 0, 0, 1⟩) C C), (10, .int .i64 e), (11, .int .i64 0)] (AHeap.rows 40 [(0, brdRow C o n c), (1, bT), (2, .made [s.val] 4 true), (3, .made [Qd0.val] 4 true), (36, .made (bools C tk) 1 true)]) := fun e1 =>
      Ent.drop e1 (by kernel_rfl) (by kernel_rfl) (by kernel_rfl) (by simp [All_cons, All_nil, Clo, Ids]) (by
        simp only [List.map, All_cons, All_nil, and_true]
        exact ⟨brd_cloI (hs.clo (by simp [Ids])), hb.clo _, qd_cloI _ _, qd_cloI _ _, (bools_bare _ _).clo _⟩)
    rcases bc_loop hs hb hl hel hT hC hM hn hsm hsc.1 t1 0 e C 0 (by omega) (by omega) (by omega) with ⟨x', b1, b2, b3, b4, l⟩ | ⟨b1, l⟩
    · refine ⟨s.at x' (M + 1), ⟨M + 1, x', rfl, b1, b2, by omega, b3, fun y' x'' q1 q2 q3 q4 => ?_⟩, Loops.last (by simp) (b0_found o n c v C bT (.made (bools C tk) 1 true) [] (M + 1) 0 e 0 0 s.a s.b s.c s.d x' (M + 1) s.c s.d (k.to (by kernel_rfl)) (Runs.of_loops (Tri.pre l (pre (by kernel_rfl)))))⟩
      by_cases c1 : y' = M + 1
      · subst c1; exact b4 x'' q1 (by omega)
      · exact hp y' x'' q1 q2 q3 (by omega)
    · exact absurd (free_low hT (s := s.at 0 (M + 1)) (show M ≤ M + 1 by omega)) (b1 0 (by omega) (by omega))
  | succ f ih =>
    intro y x hy hy1 hyx hx hxb hf hge hp
    have bd : BoardAt (AHeap.rows 36 [(0, brdRow C o n c), (1, bT), (2, .made [s.val] 4 true), (3, .made [Qd0.val] 4 true)]) 0 1 C o n c v bT T := ⟨by kernel_rfl, by kernel_rfl, hs, by decide, by rw [AHeap.rows_next]; omega, by rw [AHeap.rows_next]; omega, hb, hl, hel⟩
    obtain ⟨tk, e, t1, t2, k⟩ := strip_does bd hT hC hM hn (y := y) (d := s.d) (by omega) hsm.2.2.2
    rw [AHeap.rows_next] at k
    have pre : ∀ {h0 : AHeap}, [h0.get 0, h0.get 1, h0.get 2, h0.get 3, h0.get 36] = [some (brdRow C o n c), some bT, some (.made [s.val] 4 true), some (.made [Qd0.val] 4 true), some (.made (bools C tk) 1 true)] →
        Ent 2 55 [(0, .ptr (some ⟨0, 0, 0, 0, 2⟩)), (2, .int .i64 y), (3, .int .i64 x), (5, .ptr (some ⟨2, 0, 0, 0, 4⟩)), (8, .ptr (some ⟨3, 0, 0, 0, 4⟩)), (9, .slice (some ⟨36, 0, 0, 0, 1⟩) C C), (10, .int .i64 e), (11, .int .i64 x)] h0
          [(0, .ptr (some ⟨0, 0, 0, 0, 2⟩)), (2, .int .i64 y), (3, .int .i64 x), (5, .ptr (some ⟨2, 0, 0, 0, 4⟩)), (8, .ptr (some ⟨3, 0, 0, 0, 4⟩)), (9, .slice (some ⟨36, 0, 0, 0, 1⟩) C C), (10, .int .i64 e), (11, .int .i64 x)] (AHeap.rows 40 [(0, brdRow C o n c), (1, bT), (2, .made [s.val] 4 true), (3, .made [Qd0.val] 4 true), (36, .made (bools C tk) 1 true)]) := fun e1 =>
      Ent.drop e1 (by kernel_rfl) (by kernel_rfl) (by kernel_rfl) (by simp [All_cons, All_nil, Clo, Ids]) (by
        simp only [List.map, All_cons, All_nil, and_true]
        exact ⟨brd_cloI (hs.clo (by simp [Ids])), hb.clo _, qd_cloI _ _, qd_cloI _ _, (bools_bare _ _).clo _⟩)
    have back : ∀ {h0 : AHeap} (y2 x2 : Int), [h0.get 0, h0.get 1, h0.get 2, h0.get 3] = [some (brdRow C o n c), some bT, some (.made [s.val] 4 true), some (.made [Qd0.val] 4 true)] →
        Ent 2 55 [(0, .ptr (some ⟨0, 0, 0, 0, 2⟩)), (2, .int .i64 y2), (3, .int .i64 x2), (5, .ptr (some ⟨2, 0, 0, 0, 4⟩)), (8, .ptr (some ⟨3, 0, 0, 0, 4⟩))] h0
          [(0, .ptr (some ⟨0, 0, 0, 0, 2⟩)), (2, .int .i64 y2), (3, .int .i64 x2), (5, .ptr (some ⟨2, 0, 0, 0, 4⟩)), (8, .ptr (some ⟨3, 0, 0, 0, 4⟩))] (AHeap.rows 26 [(0, brdRow C o n c), (1, bT), (2, .made [s.val] 4 true), (3, .made [Qd0.val] 4 true)]) := fun y2 x2 e1 =>
      Ent.drop e1 (by kernel_rfl) (by kernel_rfl) (by kernel_rfl) (by simp [All_cons, All_nil, Clo, Ids]) (by
        simp only [List.map, All_cons, All_nil, and_true]
        exact ⟨brd_cloI (hs.clo (by simp [Ids])), hb.clo _, qd_cloI _ _, qd_cloI _ _⟩)
    rcases bc_loop hs hb hl hel hT hC hM hn hsm hsc.1 t1 x e C x hx hxb (by omega) with ⟨x', b1, b2, b3, b4, l⟩ | ⟨b1, l⟩
    · refine ⟨s.at x' y, ⟨y, x', rfl, by omega, b2, by omega, b3, fun y' x'' q1 q2 q3 q4 => ?_⟩, Loops.last (by simp) (b0_found o n c v C bT (.made (bools C tk) 1 true) [] y x e 0 0 s.a s.b s.c s.d x' y s.c s.d (k.to (by kernel_rfl)) (Runs.of_loops (Tri.pre l (pre (by kernel_rfl)))))⟩
      by_cases c1 : y' < y ∨ y' = y ∧ x'' < x
      · exact hp y' x'' q1 q2 q3 c1
      · obtain rfl : y' = y := by omega
        exact b4 x'' (by omega) (by omega)
    · have np : ∀ y' x', 0 ≤ x' → x' + s.c ≤ C → (y0 < y' ∨ y0 = y' ∧ x0 ≤ x') → (y' < y + 1 ∨ y' = y + 1 ∧ x' < 0) → ¬ FreeZ T (s.at x' y') := fun y' x' q1 q2 q3 q4 => by
        by_cases c1 : y' < y ∨ y' = y ∧ x' < x
        · exact hp y' x' q1 q2 q3 c1
        · obtain rfl : y' = y := by omega
          exact b1 x' (by omega) q2
      by_cases cx : x > 0
      · have hyM : y ≤ M := by
          by_cases c2 : y = M + 1
          · have := hyx c2; omega
          · omega
        obtain ⟨r, r1, r2⟩ := ih (y + 1) 0 (by omega) (by omega) (fun _ => rfl) (Int.le_refl _) (by omega) (by omega) (by omega) np
        exact ⟨r, r1, Loops.step ((b0_col o n c v C bT (.made (bools C tk) 1 true) [] y x e 0 0 s.a s.b s.c s.d 0 0 0 0 (k.to (by kernel_rfl)) (Runs.of_loops (Tri.pre l (pre (by kernel_rfl)))) cx (by omega)).post (i := back (y + 1) 0 (by kernel_rfl))) r2⟩
      · obtain rfl : x = 0 := by omega
        obtain ⟨e1, e2, e3⟩ := t2.next hT hsc.2 rfl (fun x' q1 q2 => b1 x' q1 q2)
        obtain ⟨r, r1, r2⟩ := ih e 0 (by omega) (by omega) (fun _ => rfl) (Int.le_refl _) (by omega) (by omega) (by omega) (fun y' x' q1 q2 q3 q4 => by
          by_cases c1 : y' < y
          · exact np y' x' q1 q2 q3 (by omega)
          · exact e3 y' x' (by omega) (by omega) q1 q2)
        exact ⟨r, r1, Loops.step ((b0_row o n c v C bT (.made (bools C tk) 1 true) [] y 0 e 0 0 s.a s.b s.c s.d 0 0 0 0 (k.to (by kernel_rfl)) (Runs.of_loops (Tri.pre l (pre (by kernel_rfl)))) cx).post (i := back e 0 (by kernel_rfl))) r2⟩
end

/-- grid.board.behind -/
theorem behind_does {H : AHeap} {ib iT C : Nat} {o : Option AAddr} {n c v : Nat} {bT : ABlk} {T : List Qd} (h : BoardAt H ib iT C o n c v bT T) {M : Int} (hT : GoodT C M T) (hC : C ≤ 64) (hM : 0 ≤ M ∧ M ≤ 2 ^ 39) (hn : n ≤ 2 ^ 40) {s : Qd} (hs : Small s) (hsc : 1 ≤ s.c ∧ s.c ≤ C) {y x : Int} (hy : 0 ≤ y ∧ y ≤ M) (hx : 0 ≤ x ∧ x ≤ 2 ^ 40) :
    ∃ r, BehindZ T C s y x r ∧ FDoes Try.prog 33 [.ptr (some ⟨ib, 0, 0, 0, 2⟩), s.val, .int .i64 y, .int .i64 x] H r.val H := by
  have s1 := h.sl.at 1
  obtain ⟨r, a, l⟩ := bh_loop s1 h.bare h.len h.el hT hC hM hn hs hsc (y0 := y) (x0 := x) (M + 1 - y).toNat y x hy.1 (by omega) (by omega) hx.1 hx.2 (by omega) (by omega) (fun y' x' q1 q2 q3 q4 => by omega)
  have pre : ∀ {h0 : AHeap}, [h0.get 0, h0.get 1, h0.get 2, h0.get 3] = [some (brdRow C (o.map fun a => { a with id := 1 }) n c), some bT, some (.made [s.val] 4 true), some (.made [Qd0.val] 4 true)] →
      Ent 2 55 [(0, .ptr (some ⟨0, 0, 0, 0, 2⟩)), (2, .int .i64 y), (3, .int .i64 x), (5, .ptr (some ⟨2, 0, 0, 0, 4⟩)), (8, .ptr (some ⟨3, 0, 0, 0, 4⟩))] h0
        [(0, .ptr (some ⟨0, 0, 0, 0, 2⟩)), (2, .int .i64 y), (3, .int .i64 x), (5, .ptr (some ⟨2, 0, 0, 0, 4⟩)), (8, .ptr (some ⟨3, 0, 0, 0, 4⟩))] (AHeap.rows 26 [(0, brdRow C (o.map fun a => { a with id := 1 }) n c), (1, bT), (2, .made [s.val] 4 true), (3, .made [Qd0.val] 4 true)]) := fun e1 =>
    Ent.drop e1 (by kernel_rfl) (by kernel_rfl) (by kernel_rfl) (by simp [All_cons, All_nil, Clo, Ids]) (by
      simp only [List.map, All_cons, All_nil, and_true]
      exact ⟨brd_cloI (s1.clo (by simp [Ids])), h.bare.clo _, qd_cloI _ _, qd_cloI _ _⟩)
  exact ⟨r, a, h.pure (bh_call _ n c v C bT bT [] y x 0 0 0 s.a s.b s.c s.d r.a r.b r.c r.d (Runs.of_loops (Tri.pre l (pre (by kernel_rfl)))) (by kernel_rfl)) (by kernel_rfl) (Qd.bare _) (by simp [Qd.bare, Bare.int])⟩

end Go.Proofs.Ytcgcpmcjaeenlaa

namespace Go.Proofs.Ytcgcpmcjaeenlaa
open Go.Lift
set_option maxRecDepth 1000000
set_option linter.unusedSimpArgs false
set_option linter.unusedVariables false

/-- where track i begins -/
def atZ (x : Nat → Int) (g : Int) (i : Nat) : Int := sumTo (fun j => sideZ (x j) + g) i
/-- how many tracks from the first one that is there -/
def lenZ (p m : Int) : Int := if p < 0 then max m 1 + p else max m 1
def okZ (n : Nat) (p m : Int) : Prop := p.toNat < n ∧ 1 ≤ lenZ p m
instance (n : Nat) (p m : Int) : Decidable (okZ n p m) := inferInstanceAs (Decidable (_ ∧ _))
def hiZ (n : Nat) (p m : Int) : Nat := min n (p.toNat + (lenZ p m).toNat)
def begZ (x : Nat → Int) (g : Int) (n : Nat) (p m : Int) : Int := if okZ n p m then atZ x g p.toNat else 0
def sizZ (x : Nat → Int) (g : Int) (n : Nat) (p m : Int) : Int := if okZ n p m then atZ x g (hiZ n p m) - g - atZ x g p.toNat else 0

/-- what the document's loop holds ahead of track i -/
def seenZ (p m : Int) (i : Nat) : Prop := p.toNat < i ∧ 1 ≤ lenZ p m
instance (p m : Int) (i : Nat) : Decidable (seenZ p m i) := inferInstanceAs (Decidable (_ ∧ _))
def rbZ (x : Nat → Int) (g p m : Int) (i : Nat) : Int := if seenZ p m i then atZ x g p.toNat else -1
def reZ (x : Nat → Int) (g p m : Int) (i : Nat) : Int := if seenZ p m i then atZ x g (min i (p.toNat + (lenZ p m).toNat)) - g else 0
def inZ (p m : Int) (i : Nat) : Prop := p ≤ i ∧ (0 ≤ p ∧ (i : Int) - p < max 1 m ∨ p < 0 ∧ (i : Int) < max 1 m + p)

/-- where a span lies -/
def rectZ (x : Nat → Int) (n : Nat) (y : Nat → Int) (m : Nat) (g : Int) (s : Qd) : Qd :=
  if okZ n s.a s.c ∧ okZ m s.b s.d then ⟨begZ x g n s.a s.c, begZ y g m s.b s.d, sizZ x g n s.a s.c, sizZ y g m s.b s.d⟩ else Qd0

end Go.Proofs.Ytcgcpmcjaeenlaa

namespace Go.Proofs.Ytcgcpmcjaeenlaa
open Go.Lift
set_option maxRecDepth 1000000
set_option linter.unusedSimpArgs false
set_option linter.unusedVariables false
set_option linter.unusedSectionVars false

theorem gwithin_p (n lo hi : Int)  :
    FDoes Try.prog 30 [.int .i64 n, .int .i64 lo, .int .i64 hi] (⟨0, .nil⟩) (.int .i64 (if hi < if lo > n then lo else n then hi else if lo > n then lo else n)) (AHeap.rows 7 []) :=
  pcall_does env_ok mixed (hs := []) (rs := []) (by kernel_rfl) (All.nil)

theorem rwithin_lo (n lo hi : Int) (hc_0 : n < lo) :
    FDoes Try.prog 26 [.int .i64 n, .int .i64 lo, .int .i64 hi] (⟨0, .nil⟩) (.int .i64 lo) (AHeap.rows 6 []) :=
  pcall_does env_ok mixed (hs := [.val 1002 (.bool true)]) (rs := []) (by kernel_rfl) (All.cons (okT hc_0) (All.nil))

theorem rwithin_hi (n lo hi : Int) (hc_0 : ¬ (n < lo)) (hc_1 : n > hi) :
    FDoes Try.prog 26 [.int .i64 n, .int .i64 lo, .int .i64 hi] (⟨0, .nil⟩) (.int .i64 hi) (AHeap.rows 9 []) :=
  pcall_does env_ok mixed (hs := [.val 1002 (.bool false), .val 3002 (.bool true)]) (rs := []) (by kernel_rfl) (All.cons (okF hc_0) (All.cons (okT hc_1) (All.nil)))

theorem rwithin_in (n lo hi : Int) (hc_0 : ¬ (n < lo)) (hc_1 : ¬ (n > hi)) :
    FDoes Try.prog 26 [.int .i64 n, .int .i64 lo, .int .i64 hi] (⟨0, .nil⟩) (.int .i64 n) (AHeap.rows 9 []) :=
  pcall_does env_ok mixed (hs := [.val 1002 (.bool false), .val 3002 (.bool false)]) (rs := []) (by kernel_rfl) (All.cons (okF hc_0) (All.cons (okF hc_1) (All.nil)))

theorem gwithin_does (n lo hi : Int) (H : AHeap) : FDoes Try.prog 30 [.int .i64 n, .int .i64 lo, .int .i64 hi] H (.int .i64 (min (max n lo) hi)) H := by
  have h := (gwithin_p n lo hi).bare (by simp [Bare, AVal.ren, Clo]) (Bare.int _ _) H
  have e : (if hi < if lo > n then lo else n then hi else if lo > n then lo else n) = min (max n lo) hi := by split <;> split <;> omega
  rwa [e] at h
theorem rwithin_does (n lo hi : Int) (hl : lo ≤ hi) (H : AHeap) : FDoes Try.prog 26 [.int .i64 n, .int .i64 lo, .int .i64 hi] H (.int .i64 (min (max n lo) hi)) H := by
  by_cases c : n < lo
  · rw [show min (max n lo) hi = lo by omega]
    exact (rwithin_lo n lo hi c).bare (by simp [Bare, AVal.ren, Clo]) (Bare.int _ _) H
  · by_cases c2 : n > hi
    · rw [show min (max n lo) hi = hi by omega]
      exact (rwithin_hi n lo hi c c2).bare (by simp [Bare, AVal.ren, Clo]) (Bare.int _ _) H
    · rw [show min (max n lo) hi = n by omega]
      exact (rwithin_in n lo hi c c2).bare (by simp [Bare, AVal.ren, Clo]) (Bare.int _ _) H
end Go.Proofs.Ytcgcpmcjaeenlaa

namespace Go.Proofs.Ytcgcpmcjaeenlaa
open Go.Lift
set_option maxRecDepth 1000000
set_option linter.unusedSimpArgs false
set_option linter.unusedVariables false
set_option linter.unusedSectionVars false

theorem fl_no1 (o : Option AAddr) (n c ver off v q i C : Nat) (b rT rT2 : ABlk) (l : List AVal) (qa qb qc qd : Int) (sT : AVal) (hc_0 : (i : Int) < (n : Int)) (hc_1 : aindexAddr env.D 22 (.slice o n c) (.int .i64 (i : Int)) = some (.ptr (some ⟨0, ver, off + i, 0, 4⟩))) (hc_2 : ABlk.elem? b ver (off + i) = some (.agg [.int .i64 qa, .int .i64 qb, .int .i64 qc, .int .i64 qd])) (hc_5 : -9223372036854775808 ≤ (C : Int) - inZ2 qc 1 (C : Int) ∧ (C : Int) - inZ2 qc 1 (C : Int) ≤ 9223372036854775807) (hc_8 : 0 ≤ (i : Int) ∧ (i : Int) < (n : Int) ∧ 4 = 4) (hc_9 : 0 = 0 ∧ l[0 + Int.toNat (i : Int)]? = some (.agg [.int .i64 0, .int .i64 0, .int .i64 0, .int .i64 0])) (hc_10 : ¬ (inZ2 qa (-1) ((C : Int) - inZ2 qc 1 (C : Int)) ≥ 0)) (hc_11 : -9223372036854775808 ≤ (i : Int) + 1 ∧ (i : Int) + (1 : Int) ≤ 9223372036854775807) :
    Runs Try.prog 1 135 (loopAt Try.prog 13 0) [(5, .ptr (some ⟨8, 0, 0, 0, 2⟩)), (6, .slice (some ⟨12, 0, 0, 0, 4⟩) n n), (23, .slice o n c), (24, .int .i64 n), (25, .int .i64 i)] (AHeap.rows 14 [(0, b), (8, .made [.agg [.int .i64 C, sT]] 2 true), (12, .made l 4 true), (13, rT)]) .normal [(5, .ptr (some ⟨8, 0, 0, 0, 2⟩)), (6, .slice (some ⟨12, 0, 0, 0, 4⟩) n n), (23, .slice o n c), (24, .int .i64 (n : Int)), (25, .int .i64 ((i : Int) + 1))] (AHeap.rows 67 [(0, b), (8, (.made ([.agg [.int .i64 (C : Int), sT]]) 2 true)), (12, (.made (List.set l (0 + Int.toNat (i : Int)) (.agg [.int .i64 (inZ2 qa (-1) ((C : Int) - inZ2 qc 1 (C : Int))), .int .i64 (inZ2 qb (-1) 4096), .int .i64 (inZ2 qc 1 (C : Int)), .int .i64 (inZ2 qd 1 4096)])) 4 true)), (13, rT), (18, (.made ([.agg [.int .i64 (inZ2 qa (-1) ((C : Int) - inZ2 qc 1 (C : Int))), .int .i64 (inZ2 qb (-1) 4096), .int .i64 (inZ2 qc 1 (C : Int)), .int .i64 (inZ2 qd 1 4096)]]) 4 true))]) :=
  ppath_runs env_ok mixed (hs := [.val 6000 (.bool true), .val 7001 (.ptr (some ⟨0, ver, off + i, 0, 4⟩)), .ld 7002 (.agg [.int .i64 qa, .int .i64 qb, .int .i64 qc, .int .i64 qd]), .val 8006 (.int .i64 (inZ2 qc 1 C)), .val 9002 (.int .i64 (inZ2 qd 1 4096)), .go 10008, .val 10009 (.int .i64 (inZ2 qa (-1) (C - inZ2 qc 1 C))), .val 11002 (.int .i64 (inZ2 qb (-1) 4096)), .go 12003, .st 12004 (.agg [.int .i64 0, .int .i64 0, .int .i64 0, .int .i64 0]), .val 13002 (.bool false), .go 15000]) (keep := [5, 6, 23, 24, 25]) (by kernel_rfl) (All.cons (okT hc_0) (All.cons hc_1 (All.cons hc_2 (All.cons (show CallT Try.prog 30 [.int .i64 qc, .int .i64 1, .int .i64 (C : Int)] (AHeap.rows 30 [(0, b), (8, (.made ([.agg [.int .i64 (C : Int), sT]]) 2 true)), (12, .made l 4 true), (13, rT), (18, (.made ([.agg [.int .i64 qa, .int .i64 qb, .int .i64 qc, .int .i64 qd]]) 4 true))]) (.int .i64 (inZ2 qc 1 (C : Int))) (AHeap.rows 30 [(0, b), (8, (.made ([.agg [.int .i64 (C : Int), sT]]) 2 true)), (12, .made l 4 true), (13, rT), (18, (.made ([.agg [.int .i64 qa, .int .i64 qb, .int .i64 qc, .int .i64 qd]]) 4 true))]) from ⟨(gwithin_does _ _ _ _)⟩) (All.cons (show CallT Try.prog 30 [.int .i64 qd, .int .i64 1, .int .i64 4096] (AHeap.rows 35 [(0, b), (8, (.made ([.agg [.int .i64 (C : Int), sT]]) 2 true)), (12, .made l 4 true), (13, rT), (18, (.made ([.agg [.int .i64 qa, .int .i64 qb, .int .i64 (inZ2 qc 1 (C : Int)), .int .i64 qd]]) 4 true))]) (.int .i64 (inZ2 qd 1 4096)) (AHeap.rows 35 [(0, b), (8, (.made ([.agg [.int .i64 (C : Int), sT]]) 2 true)), (12, .made l 4 true), (13, rT), (18, (.made ([.agg [.int .i64 qa, .int .i64 qb, .int .i64 (inZ2 qc 1 (C : Int)), .int .i64 qd]]) 4 true))]) from ⟨(gwithin_does _ _ _ _)⟩) (All.cons hc_5 (All.cons (show CallT Try.prog 30 [.int .i64 qa, .int .i64 (-1), .int .i64 ((C : Int) - inZ2 qc 1 (C : Int))] (AHeap.rows 47 [(0, b), (8, (.made ([.agg [.int .i64 (C : Int), sT]]) 2 true)), (12, .made l 4 true), (13, rT), (18, (.made ([.agg [.int .i64 qa, .int .i64 qb, .int .i64 (inZ2 qc 1 (C : Int)), .int .i64 (inZ2 qd 1 4096)]]) 4 true))]) (.int .i64 (inZ2 qa (-1) ((C : Int) - inZ2 qc 1 (C : Int)))) (AHeap.rows 47 [(0, b), (8, (.made ([.agg [.int .i64 (C : Int), sT]]) 2 true)), (12, .made l 4 true), (13, rT), (18, (.made ([.agg [.int .i64 qa, .int .i64 qb, .int .i64 (inZ2 qc 1 (C : Int)), .int .i64 (inZ2 qd 1 4096)]]) 4 true))]) from ⟨(gwithin_does _ _ _ _)⟩) (All.cons (show CallT Try.prog 30 [.int .i64 qb, .int .i64 (-1), .int .i64 4096] (AHeap.rows 52 [(0, b), (8, (.made ([.agg [.int .i64 (C : Int), sT]]) 2 true)), (12, .made l 4 true), (13, rT), (18, (.made ([.agg [.int .i64 (inZ2 qa (-1) ((C : Int) - inZ2 qc 1 (C : Int))), .int .i64 qb, .int .i64 (inZ2 qc 1 (C : Int)), .int .i64 (inZ2 qd 1 4096)]]) 4 true))]) (.int .i64 (inZ2 qb (-1) 4096)) (AHeap.rows 52 [(0, b), (8, (.made ([.agg [.int .i64 (C : Int), sT]]) 2 true)), (12, .made l 4 true), (13, rT), (18, (.made ([.agg [.int .i64 (inZ2 qa (-1) ((C : Int) - inZ2 qc 1 (C : Int))), .int .i64 qb, .int .i64 (inZ2 qc 1 (C : Int)), .int .i64 (inZ2 qd 1 4096)]]) 4 true))]) from ⟨(gwithin_does _ _ _ _)⟩) (All.cons hc_8 (All.cons hc_9 (All.cons (okF hc_10) (All.cons hc_11 (All.nil)))))))))))))

theorem fl_no2 (o : Option AAddr) (n c ver off v q i C : Nat) (b rT rT2 : ABlk) (l : List AVal) (qa qb qc qd : Int) (sT : AVal) (hc_0 : (i : Int) < (n : Int)) (hc_1 : aindexAddr env.D 22 (.slice o n c) (.int .i64 (i : Int)) = some (.ptr (some ⟨0, ver, off + i, 0, 4⟩))) (hc_2 : ABlk.elem? b ver (off + i) = some (.agg [.int .i64 qa, .int .i64 qb, .int .i64 qc, .int .i64 qd])) (hc_5 : -9223372036854775808 ≤ (C : Int) - inZ2 qc 1 (C : Int) ∧ (C : Int) - inZ2 qc 1 (C : Int) ≤ 9223372036854775807) (hc_8 : 0 ≤ (i : Int) ∧ (i : Int) < (n : Int) ∧ 4 = 4) (hc_9 : 0 = 0 ∧ l[0 + Int.toNat (i : Int)]? = some (.agg [.int .i64 0, .int .i64 0, .int .i64 0, .int .i64 0])) (hc_10 : inZ2 qa (-1) ((C : Int) - inZ2 qc 1 (C : Int)) ≥ 0) (hc_11 : ¬ (inZ2 qb (-1) 4096 ≥ 0)) (hc_12 : -9223372036854775808 ≤ (i : Int) + 1 ∧ (i : Int) + (1 : Int) ≤ 9223372036854775807) :
    Runs Try.prog 1 135 (loopAt Try.prog 13 0) [(5, .ptr (some ⟨8, 0, 0, 0, 2⟩)), (6, .slice (some ⟨12, 0, 0, 0, 4⟩) n n), (23, .slice o n c), (24, .int .i64 n), (25, .int .i64 i)] (AHeap.rows 14 [(0, b), (8, .made [.agg [.int .i64 C, sT]] 2 true), (12, .made l 4 true), (13, rT)]) .normal [(5, .ptr (some ⟨8, 0, 0, 0, 2⟩)), (6, .slice (some ⟨12, 0, 0, 0, 4⟩) n n), (23, .slice o n c), (24, .int .i64 (n : Int)), (25, .int .i64 ((i : Int) + 1))] (AHeap.rows 67 [(0, b), (8, (.made ([.agg [.int .i64 (C : Int), sT]]) 2 true)), (12, (.made (List.set l (0 + Int.toNat (i : Int)) (.agg [.int .i64 (inZ2 qa (-1) ((C : Int) - inZ2 qc 1 (C : Int))), .int .i64 (inZ2 qb (-1) 4096), .int .i64 (inZ2 qc 1 (C : Int)), .int .i64 (inZ2 qd 1 4096)])) 4 true)), (13, rT), (18, (.made ([.agg [.int .i64 (inZ2 qa (-1) ((C : Int) - inZ2 qc 1 (C : Int))), .int .i64 (inZ2 qb (-1) 4096), .int .i64 (inZ2 qc 1 (C : Int)), .int .i64 (inZ2 qd 1 4096)]]) 4 true))]) :=
  ppath_runs env_ok mixed (hs := [.val 6000 (.bool true), .val 7001 (.ptr (some ⟨0, ver, off + i, 0, 4⟩)), .ld 7002 (.agg [.int .i64 qa, .int .i64 qb, .int .i64 qc, .int .i64 qd]), .val 8006 (.int .i64 (inZ2 qc 1 C)), .val 9002 (.int .i64 (inZ2 qd 1 4096)), .go 10008, .val 10009 (.int .i64 (inZ2 qa (-1) (C - inZ2 qc 1 C))), .val 11002 (.int .i64 (inZ2 qb (-1) 4096)), .go 12003, .st 12004 (.agg [.int .i64 0, .int .i64 0, .int .i64 0, .int .i64 0]), .val 13002 (.bool true), .val 13006 (.bool false), .go 15000]) (keep := [5, 6, 23, 24, 25]) (by kernel_rfl) (All.cons (okT hc_0) (All.cons hc_1 (All.cons hc_2 (All.cons (show CallT Try.prog 30 [.int .i64 qc, .int .i64 1, .int .i64 (C : Int)] (AHeap.rows 30 [(0, b), (8, (.made ([.agg [.int .i64 (C : Int), sT]]) 2 true)), (12, .made l 4 true), (13, rT), (18, (.made ([.agg [.int .i64 qa, .int .i64 qb, .int .i64 qc, .int .i64 qd]]) 4 true))]) (.int .i64 (inZ2 qc 1 (C : Int))) (AHeap.rows 30 [(0, b), (8, (.made ([.agg [.int .i64 (C : Int), sT]]) 2 true)), (12, .made l 4 true), (13, rT), (18, (.made ([.agg [.int .i64 qa, .int .i64 qb, .int .i64 qc, .int .i64 qd]]) 4 true))]) from ⟨(gwithin_does _ _ _ _)⟩) (All.cons (show CallT Try.prog 30 [.int .i64 qd, .int .i64 1, .int .i64 4096] (AHeap.rows 35 [(0, b), (8, (.made ([.agg [.int .i64 (C : Int), sT]]) 2 true)), (12, .made l 4 true), (13, rT), (18, (.made ([.agg [.int .i64 qa, .int .i64 qb, .int .i64 (inZ2 qc 1 (C : Int)), .int .i64 qd]]) 4 true))]) (.int .i64 (inZ2 qd 1 4096)) (AHeap.rows 35 [(0, b), (8, (.made ([.agg [.int .i64 (C : Int), sT]]) 2 true)), (12, .made l 4 true), (13, rT), (18, (.made ([.agg [.int .i64 qa, .int .i64 qb, .int .i64 (inZ2 qc 1 (C : Int)), .int .i64 qd]]) 4 true))]) from ⟨(gwithin_does _ _ _ _)⟩) (All.cons hc_5 (All.cons (show CallT Try.prog 30 [.int .i64 qa, .int .i64 (-1), .int .i64 ((C : Int) - inZ2 qc 1 (C : Int))] (AHeap.rows 47 [(0, b), (8, (.made ([.agg [.int .i64 (C : Int), sT]]) 2 true)), (12, .made l 4 true), (13, rT), (18, (.made ([.agg [.int .i64 qa, .int .i64 qb, .int .i64 (inZ2 qc 1 (C : Int)), .int .i64 (inZ2 qd 1 4096)]]) 4 true))]) (.int .i64 (inZ2 qa (-1) ((C : Int) - inZ2 qc 1 (C : Int)))) (AHeap.rows 47 [(0, b), (8, (.made ([.agg [.int .i64 (C : Int), sT]]) 2 true)), (12, .made l 4 true), (13, rT), (18, (.made ([.agg [.int .i64 qa, .int .i64 qb, .int .i64 (inZ2 qc 1 (C : Int)), .int .i64 (inZ2 qd 1 4096)]]) 4 true))]) from ⟨(gwithin_does _ _ _ _)⟩) (All.cons (show CallT Try.prog 30 [.int .i64 qb, .int .i64 (-1), .int .i64 4096] (AHeap.rows 52 [(0, b), (8, (.made ([.agg [.int .i64 (C : Int), sT]]) 2 true)), (12, .made l 4 true), (13, rT), (18, (.made ([.agg [.int .i64 (inZ2 qa (-1) ((C : Int) - inZ2 qc 1 (C : Int))), .int .i64 qb, .int .i64 (inZ2 qc 1 (C : Int)), .int .i64 (inZ2 qd 1 4096)]]) 4 true))]) (.int .i64 (inZ2 qb (-1) 4096)) (AHeap.rows 52 [(0, b), (8, (.made ([.agg [.int .i64 (C : Int), sT]]) 2 true)), (12, .made l 4 true), (13, rT), (18, (.made ([.agg [.int .i64 (inZ2 qa (-1) ((C : Int) - inZ2 qc 1 (C : Int))), .int .i64 qb, .int .i64 (inZ2 qc 1 (C : Int)), .int .i64 (inZ2 qd 1 4096)]]) 4 true))]) from ⟨(gwithin_does _ _ _ _)⟩) (All.cons hc_8 (All.cons hc_9 (All.cons (okT hc_10) (All.cons (okF hc_11) (All.cons hc_12 (All.nil))))))))))))))

theorem fl_new (o : Option AAddr) (n c ver off v q i C : Nat) (b rT rT2 : ABlk) (l : List AVal) (qa qb qc qd : Int) (hc_0 : (i : Int) < (n : Int)) (hc_1 : aindexAddr env.D 22 (.slice o n c) (.int .i64 (i : Int)) = some (.ptr (some ⟨0, ver, off + i, 0, 4⟩))) (hc_2 : ABlk.elem? b ver (off + i) = some (.agg [.int .i64 qa, .int .i64 qb, .int .i64 qc, .int .i64 qd])) (hc_5 : -9223372036854775808 ≤ (C : Int) - inZ2 qc 1 (C : Int) ∧ (C : Int) - inZ2 qc 1 (C : Int) ≤ 9223372036854775807) (hc_8 : 0 ≤ (i : Int) ∧ (i : Int) < (n : Int) ∧ 4 = 4) (hc_9 : 0 = 0 ∧ l[0 + Int.toNat (i : Int)]? = some (.agg [.int .i64 0, .int .i64 0, .int .i64 0, .int .i64 0])) (hc_10 : inZ2 qa (-1) ((C : Int) - inZ2 qc 1 (C : Int)) ≥ 0) (hc_11 : inZ2 qb (-1) 4096 ≥ 0) (hc_12 : abuiltin env Builtin.append { toList := [22, 22] } [.slice none 0 0, .slice (some ⟨70, 0, 0, 0, 4⟩) 1 1] 71 (AHeap.set (AHeap.rows 75 [(0, b), (8, (.made ([.agg [.int .i64 (C : Int), .slice none 0 0]]) 2 true)), (12, (.made (List.set l (0 + Int.toNat (i : Int)) (.agg [.int .i64 (inZ2 qa (-1) ((C : Int) - inZ2 qc 1 (C : Int))), .int .i64 (inZ2 qb (-1) 4096), .int .i64 (inZ2 qc 1 (C : Int)), .int .i64 (inZ2 qd 1 4096)])) 4 true)), (17, (.made ([.agg [.int .i64 (inZ2 qa (-1) ((C : Int) - inZ2 qc 1 (C : Int))), .int .i64 (inZ2 qb (-1) 4096), .int .i64 (inZ2 qc 1 (C : Int)), .int .i64 (inZ2 qd 1 4096)]]) 4 true))]) 70 (.made [.agg [.int .i64 (inZ2 qa (-1) ((C : Int) - inZ2 qc 1 (C : Int))), .int .i64 (inZ2 qb (-1) 4096), .int .i64 (inZ2 qc 1 (C : Int)), .int .i64 (inZ2 qd 1 4096)]] 4 true)) = some (.slice (some ⟨71, 0, 0, 0, 4⟩) 1 1, (AHeap.rows 75 [(0, b), (8, (.made ([.agg [.int .i64 (C : Int), .slice none 0 0]]) 2 true)), (12, (.made (List.set l (0 + Int.toNat (i : Int)) (.agg [.int .i64 (inZ2 qa (-1) ((C : Int) - inZ2 qc 1 (C : Int))), .int .i64 (inZ2 qb (-1) 4096), .int .i64 (inZ2 qc 1 (C : Int)), .int .i64 (inZ2 qd 1 4096)])) 4 true)), (17, (.made ([.agg [.int .i64 (inZ2 qa (-1) ((C : Int) - inZ2 qc 1 (C : Int))), .int .i64 (inZ2 qb (-1) 4096), .int .i64 (inZ2 qc 1 (C : Int)), .int .i64 (inZ2 qd 1 4096)]]) 4 true)), (70, .made [.agg [.int .i64 (inZ2 qa (-1) ((C : Int) - inZ2 qc 1 (C : Int))), .int .i64 (inZ2 qb (-1) 4096), .int .i64 (inZ2 qc 1 (C : Int)), .int .i64 (inZ2 qd 1 4096)]] 4 true), (71, rT2)]))) (hc_13 : -9223372036854775808 ≤ (i : Int) + 1 ∧ (i : Int) + (1 : Int) ≤ 9223372036854775807) :
    Runs Try.prog 1 135 (loopAt Try.prog 13 0) [(5, .ptr (some ⟨8, 0, 0, 0, 2⟩)), (6, .slice (some ⟨12, 0, 0, 0, 4⟩) n n), (23, .slice o n c), (24, .int .i64 n), (25, .int .i64 i)] (AHeap.rows 13 [(0, b), (8, .made [.agg [.int .i64 C, .slice none 0 0]] 2 true), (12, .made l 4 true)]) .normal [(5, .ptr (some ⟨8, 0, 0, 0, 2⟩)), (6, .slice (some ⟨12, 0, 0, 0, 4⟩) n n), (23, .slice o n c), (24, .int .i64 (n : Int)), (25, .int .i64 ((i : Int) + 1))] (AHeap.rows 77 [(0, b), (8, (.made ([.agg [.int .i64 (C : Int), .slice (some ⟨71, 0, 0, 0, 4⟩) 1 1]]) 2 true)), (12, (.made (List.set l (0 + Int.toNat (i : Int)) (.agg [.int .i64 (inZ2 qa (-1) ((C : Int) - inZ2 qc 1 (C : Int))), .int .i64 (inZ2 qb (-1) 4096), .int .i64 (inZ2 qc 1 (C : Int)), .int .i64 (inZ2 qd 1 4096)])) 4 true)), (17, (.made ([.agg [.int .i64 (inZ2 qa (-1) ((C : Int) - inZ2 qc 1 (C : Int))), .int .i64 (inZ2 qb (-1) 4096), .int .i64 (inZ2 qc 1 (C : Int)), .int .i64 (inZ2 qd 1 4096)]]) 4 true)), (70, .made [.agg [.int .i64 (inZ2 qa (-1) ((C : Int) - inZ2 qc 1 (C : Int))), .int .i64 (inZ2 qb (-1) 4096), .int .i64 (inZ2 qc 1 (C : Int)), .int .i64 (inZ2 qd 1 4096)]] 4 true), (71, rT2)]) :=
  ppath_runs env_ok mixed (hs := [.val 6000 (.bool true), .val 7001 (.ptr (some ⟨0, ver, off + i, 0, 4⟩)), .ld 7002 (.agg [.int .i64 qa, .int .i64 qb, .int .i64 qc, .int .i64 qd]), .val 8006 (.int .i64 (inZ2 qc 1 C)), .val 9002 (.int .i64 (inZ2 qd 1 4096)), .go 10008, .val 10009 (.int .i64 (inZ2 qa (-1) (C - inZ2 qc 1 C))), .val 11002 (.int .i64 (inZ2 qb (-1) 4096)), .go 12003, .st 12004 (.agg [.int .i64 0, .int .i64 0, .int .i64 0, .int .i64 0]), .val 13002 (.bool true), .val 13006 (.bool true), .act 14007 (.slice (some ⟨71, 0, 0, 0, 4⟩) 1 1) (fun h => h.set 71 rT2), .go 15000]) (keep := [5, 6, 23, 24, 25]) (by kernel_rfl) (All.cons (okT hc_0) (All.cons hc_1 (All.cons hc_2 (All.cons (show CallT Try.prog 30 [.int .i64 qc, .int .i64 1, .int .i64 (C : Int)] (AHeap.rows 29 [(0, b), (8, (.made ([.agg [.int .i64 (C : Int), .slice none 0 0]]) 2 true)), (12, .made l 4 true), (17, (.made ([.agg [.int .i64 qa, .int .i64 qb, .int .i64 qc, .int .i64 qd]]) 4 true))]) (.int .i64 (inZ2 qc 1 (C : Int))) (AHeap.rows 29 [(0, b), (8, (.made ([.agg [.int .i64 (C : Int), .slice none 0 0]]) 2 true)), (12, .made l 4 true), (17, (.made ([.agg [.int .i64 qa, .int .i64 qb, .int .i64 qc, .int .i64 qd]]) 4 true))]) from ⟨(gwithin_does _ _ _ _)⟩) (All.cons (show CallT Try.prog 30 [.int .i64 qd, .int .i64 1, .int .i64 4096] (AHeap.rows 34 [(0, b), (8, (.made ([.agg [.int .i64 (C : Int), .slice none 0 0]]) 2 true)), (12, .made l 4 true), (17, (.made ([.agg [.int .i64 qa, .int .i64 qb, .int .i64 (inZ2 qc 1 (C : Int)), .int .i64 qd]]) 4 true))]) (.int .i64 (inZ2 qd 1 4096)) (AHeap.rows 34 [(0, b), (8, (.made ([.agg [.int .i64 (C : Int), .slice none 0 0]]) 2 true)), (12, .made l 4 true), (17, (.made ([.agg [.int .i64 qa, .int .i64 qb, .int .i64 (inZ2 qc 1 (C : Int)), .int .i64 qd]]) 4 true))]) from ⟨(gwithin_does _ _ _ _)⟩) (All.cons hc_5 (All.cons (show CallT Try.prog 30 [.int .i64 qa, .int .i64 (-1), .int .i64 ((C : Int) - inZ2 qc 1 (C : Int))] (AHeap.rows 46 [(0, b), (8, (.made ([.agg [.int .i64 (C : Int), .slice none 0 0]]) 2 true)), (12, .made l 4 true), (17, (.made ([.agg [.int .i64 qa, .int .i64 qb, .int .i64 (inZ2 qc 1 (C : Int)), .int .i64 (inZ2 qd 1 4096)]]) 4 true))]) (.int .i64 (inZ2 qa (-1) ((C : Int) - inZ2 qc 1 (C : Int)))) (AHeap.rows 46 [(0, b), (8, (.made ([.agg [.int .i64 (C : Int), .slice none 0 0]]) 2 true)), (12, .made l 4 true), (17, (.made ([.agg [.int .i64 qa, .int .i64 qb, .int .i64 (inZ2 qc 1 (C : Int)), .int .i64 (inZ2 qd 1 4096)]]) 4 true))]) from ⟨(gwithin_does _ _ _ _)⟩) (All.cons (show CallT Try.prog 30 [.int .i64 qb, .int .i64 (-1), .int .i64 4096] (AHeap.rows 51 [(0, b), (8, (.made ([.agg [.int .i64 (C : Int), .slice none 0 0]]) 2 true)), (12, .made l 4 true), (17, (.made ([.agg [.int .i64 (inZ2 qa (-1) ((C : Int) - inZ2 qc 1 (C : Int))), .int .i64 qb, .int .i64 (inZ2 qc 1 (C : Int)), .int .i64 (inZ2 qd 1 4096)]]) 4 true))]) (.int .i64 (inZ2 qb (-1) 4096)) (AHeap.rows 51 [(0, b), (8, (.made ([.agg [.int .i64 (C : Int), .slice none 0 0]]) 2 true)), (12, .made l 4 true), (17, (.made ([.agg [.int .i64 (inZ2 qa (-1) ((C : Int) - inZ2 qc 1 (C : Int))), .int .i64 qb, .int .i64 (inZ2 qc 1 (C : Int)), .int .i64 (inZ2 qd 1 4096)]]) 4 true))]) from ⟨(gwithin_does _ _ _ _)⟩) (All.cons hc_8 (All.cons hc_9 (All.cons (okT hc_10) (All.cons (okT hc_11) (All.cons hc_12 (All.cons hc_13 (All.nil)))))))))))))))

theorem fl_grow (o : Option AAddr) (n c ver off v q i C : Nat) (b rT rT2 : ABlk) (l : List AVal) (qa qb qc qd : Int) (hc_0 : (i : Int) < (n : Int)) (hc_1 : aindexAddr env.D 22 (.slice o n c) (.int .i64 (i : Int)) = some (.ptr (some ⟨0, ver, off + i, 0, 4⟩))) (hc_2 : ABlk.elem? b ver (off + i) = some (.agg [.int .i64 qa, .int .i64 qb, .int .i64 qc, .int .i64 qd])) (hc_5 : -9223372036854775808 ≤ (C : Int) - inZ2 qc 1 (C : Int) ∧ (C : Int) - inZ2 qc 1 (C : Int) ≤ 9223372036854775807) (hc_8 : 0 ≤ (i : Int) ∧ (i : Int) < (n : Int) ∧ 4 = 4) (hc_9 : 0 = 0 ∧ l[0 + Int.toNat (i : Int)]? = some (.agg [.int .i64 0, .int .i64 0, .int .i64 0, .int .i64 0])) (hc_10 : inZ2 qa (-1) ((C : Int) - inZ2 qc 1 (C : Int)) ≥ 0) (hc_11 : inZ2 qb (-1) 4096 ≥ 0) (hc_12 : abuiltin env Builtin.append { toList := [22, 22] } [.slice (some ⟨13, v, 0, 0, 4⟩) q q, .slice (some ⟨71, 0, 0, 0, 4⟩) 1 1] 72 (AHeap.set (AHeap.rows 76 [(0, b), (8, (.made ([.agg [.int .i64 (C : Int), .slice (some ⟨13, v, 0, 0, 4⟩) q q]]) 2 true)), (12, (.made (List.set l (0 + Int.toNat (i : Int)) (.agg [.int .i64 (inZ2 qa (-1) ((C : Int) - inZ2 qc 1 (C : Int))), .int .i64 (inZ2 qb (-1) 4096), .int .i64 (inZ2 qc 1 (C : Int)), .int .i64 (inZ2 qd 1 4096)])) 4 true)), (13, rT), (18, (.made ([.agg [.int .i64 (inZ2 qa (-1) ((C : Int) - inZ2 qc 1 (C : Int))), .int .i64 (inZ2 qb (-1) 4096), .int .i64 (inZ2 qc 1 (C : Int)), .int .i64 (inZ2 qd 1 4096)]]) 4 true))]) 71 (.made [.agg [.int .i64 (inZ2 qa (-1) ((C : Int) - inZ2 qc 1 (C : Int))), .int .i64 (inZ2 qb (-1) 4096), .int .i64 (inZ2 qc 1 (C : Int)), .int .i64 (inZ2 qd 1 4096)]] 4 true)) = some (.slice (some ⟨13, v + 1, 0, 0, 4⟩) (q + 1) (q + 1), (AHeap.rows 76 [(0, b), (8, (.made ([.agg [.int .i64 (C : Int), .slice (some ⟨13, v, 0, 0, 4⟩) q q]]) 2 true)), (12, (.made (List.set l (0 + Int.toNat (i : Int)) (.agg [.int .i64 (inZ2 qa (-1) ((C : Int) - inZ2 qc 1 (C : Int))), .int .i64 (inZ2 qb (-1) 4096), .int .i64 (inZ2 qc 1 (C : Int)), .int .i64 (inZ2 qd 1 4096)])) 4 true)), (13, rT2), (18, (.made ([.agg [.int .i64 (inZ2 qa (-1) ((C : Int) - inZ2 qc 1 (C : Int))), .int .i64 (inZ2 qb (-1) 4096), .int .i64 (inZ2 qc 1 (C : Int)), .int .i64 (inZ2 qd 1 4096)]]) 4 true)), (71, .made [.agg [.int .i64 (inZ2 qa (-1) ((C : Int) - inZ2 qc 1 (C : Int))), .int .i64 (inZ2 qb (-1) 4096), .int .i64 (inZ2 qc 1 (C : Int)), .int .i64 (inZ2 qd 1 4096)]] 4 true)]))) (hc_13 : -9223372036854775808 ≤ (i : Int) + 1 ∧ (i : Int) + (1 : Int) ≤ 9223372036854775807) :
    Runs Try.prog 1 135 (loopAt Try.prog 13 0) [(5, .ptr (some ⟨8, 0, 0, 0, 2⟩)), (6, .slice (some ⟨12, 0, 0, 0, 4⟩) n n), (23, .slice o n c), (24, .int .i64 n), (25, .int .i64 i)] (AHeap.rows 14 [(0, b), (8, .made [.agg [.int .i64 C, .slice (some ⟨13, v, 0, 0, 4⟩) q q]] 2 true), (12, .made l 4 true), (13, rT)]) .normal [(5, .ptr (some ⟨8, 0, 0, 0, 2⟩)), (6, .slice (some ⟨12, 0, 0, 0, 4⟩) n n), (23, .slice o n c), (24, .int .i64 (n : Int)), (25, .int .i64 ((i : Int) + 1))] (AHeap.rows 78 [(0, b), (8, (.made ([.agg [.int .i64 (C : Int), .slice (some ⟨13, v + 1, 0, 0, 4⟩) (q + 1) (q + 1)]]) 2 true)), (12, (.made (List.set l (0 + Int.toNat (i : Int)) (.agg [.int .i64 (inZ2 qa (-1) ((C : Int) - inZ2 qc 1 (C : Int))), .int .i64 (inZ2 qb (-1) 4096), .int .i64 (inZ2 qc 1 (C : Int)), .int .i64 (inZ2 qd 1 4096)])) 4 true)), (13, rT2), (18, (.made ([.agg [.int .i64 (inZ2 qa (-1) ((C : Int) - inZ2 qc 1 (C : Int))), .int .i64 (inZ2 qb (-1) 4096), .int .i64 (inZ2 qc 1 (C : Int)), .int .i64 (inZ2 qd 1 4096)]]) 4 true)), (71, .made [.agg [.int .i64 (inZ2 qa (-1) ((C : Int) - inZ2 qc 1 (C : Int))), .int .i64 (inZ2 qb (-1) 4096), .int .i64 (inZ2 qc 1 (C : Int)), .int .i64 (inZ2 qd 1 4096)]] 4 true)]) :=
  ppath_runs env_ok mixed (hs := [.val 6000 (.bool true), .val 7001 (.ptr (some ⟨0, ver, off + i, 0, 4⟩)), .ld 7002 (.agg [.int .i64 qa, .int .i64 qb, .int .i64 qc, .int .i64 qd]), .val 8006 (.int .i64 (inZ2 qc 1 C)), .val 9002 (.int .i64 (inZ2 qd 1 4096)), .go 10008, .val 10009 (.int .i64 (inZ2 qa (-1) (C - inZ2 qc 1 C))), .val 11002 (.int .i64 (inZ2 qb (-1) 4096)), .go 12003, .st 12004 (.agg [.int .i64 0, .int .i64 0, .int .i64 0, .int .i64 0]), .val 13002 (.bool true), .val 13006 (.bool true), .act 14007 (.slice (some ⟨13, v + 1, 0, 0, 4⟩) (q + 1) (q + 1)) (fun h => h.set 13 rT2), .go 15000]) (keep := [5, 6, 23, 24, 25]) (by kernel_rfl) (All.cons (okT hc_0) (All.cons hc_1 (All.cons hc_2 (All.cons (show CallT Try.prog 30 [.int .i64 qc, .int .i64 1, .int .i64 (C : Int)] (AHeap.rows 30 [(0, b), (8, (.made ([.agg [.int .i64 (C : Int), .slice (some ⟨13, v, 0, 0, 4⟩) q q]]) 2 true)), (12, .made l 4 true), (13, rT), (18, (.made ([.agg [.int .i64 qa, .int .i64 qb, .int .i64 qc, .int .i64 qd]]) 4 true))]) (.int .i64 (inZ2 qc 1 (C : Int))) (AHeap.rows 30 [(0, b), (8, (.made ([.agg [.int .i64 (C : Int), .slice (some ⟨13, v, 0, 0, 4⟩) q q]]) 2 true)), (12, .made l 4 true), (13, rT), (18, (.made ([.agg [.int .i64 qa, .int .i64 qb, .int .i64 qc, .int .i64 qd]]) 4 true))]) from ⟨(gwithin_does _ _ _ _)⟩) (All.cons (show CallT Try.prog 30 [.int .i64 qd, .int .i64 1, .int .i64 4096] (AHeap.rows 35 [(0, b), (8, (.made ([.agg [.int .i64 (C : Int), .slice (some ⟨13, v, 0, 0, 4⟩) q q]]) 2 true)), (12, .made l 4 true), (13, rT), (18, (.made ([.agg [.int .i64 qa, .int .i64 qb, .int .i64 (inZ2 qc 1 (C : Int)), .int .i64 qd]]) 4 true))]) (.int .i64 (inZ2 qd 1 4096)) (AHeap.rows 35 [(0, b), (8, (.made ([.agg [.int .i64 (C : Int), .slice (some ⟨13, v, 0, 0, 4⟩) q q]]) 2 true)), (12, .made l 4 true), (13, rT), (18, (.made ([.agg [.int .i64 qa, .int .i64 qb, .int .i64 (inZ2 qc 1 (C : Int)), .int .i64 qd]]) 4 true))]) from ⟨(gwithin_does _ _ _ _)⟩) (All.cons hc_5 (All.cons (show CallT Try.prog 30 [.int .i64 qa, .int .i64 (-1), .int .i64 ((C : Int) - inZ2 qc 1 (C : Int))] (AHeap.rows 47 [(0, b), (8, (.made ([.agg [.int .i64 (C : Int), .slice (some ⟨13, v, 0, 0, 4⟩) q q]]) 2 true)), (12, .made l 4 true), (13, rT), (18, (.made ([.agg [.int .i64 qa, .int .i64 qb, .int .i64 (inZ2 qc 1 (C : Int)), .int .i64 (inZ2 qd 1 4096)]]) 4 true))]) (.int .i64 (inZ2 qa (-1) ((C : Int) - inZ2 qc 1 (C : Int)))) (AHeap.rows 47 [(0, b), (8, (.made ([.agg [.int .i64 (C : Int), .slice (some ⟨13, v, 0, 0, 4⟩) q q]]) 2 true)), (12, .made l 4 true), (13, rT), (18, (.made ([.agg [.int .i64 qa, .int .i64 qb, .int .i64 (inZ2 qc 1 (C : Int)), .int .i64 (inZ2 qd 1 4096)]]) 4 true))]) from ⟨(gwithin_does _ _ _ _)⟩) (All.cons (show CallT Try.prog 30 [.int .i64 qb, .int .i64 (-1), .int .i64 4096] (AHeap.rows 52 [(0, b), (8, (.made ([.agg [.int .i64 (C : Int), .slice (some ⟨13, v, 0, 0, 4⟩) q q]]) 2 true)), (12, .made l 4 true), (13, rT), (18, (.made ([.agg [.int .i64 (inZ2 qa (-1) ((C : Int) - inZ2 qc 1 (C : Int))), .int .i64 qb, .int .i64 (inZ2 qc 1 (C : Int)), .int .i64 (inZ2 qd 1 4096)]]) 4 true))]) (.int .i64 (inZ2 qb (-1) 4096)) (AHeap.rows 52 [(0, b), (8, (.made ([.agg [.int .i64 (C : Int), .slice (some ⟨13, v, 0, 0, 4⟩) q q]]) 2 true)), (12, .made l 4 true), (13, rT), (18, (.made ([.agg [.int .i64 (inZ2 qa (-1) ((C : Int) - inZ2 qc 1 (C : Int))), .int .i64 qb, .int .i64 (inZ2 qc 1 (C : Int)), .int .i64 (inZ2 qd 1 4096)]]) 4 true))]) from ⟨(gwithin_does _ _ _ _)⟩) (All.cons hc_8 (All.cons hc_9 (All.cons (okT hc_10) (All.cons (okT hc_11) (All.cons hc_12 (All.cons hc_13 (All.nil)))))))))))))))

theorem fl_end (o : Option AAddr) (n c ver off v q i C : Nat) (b rT rT2 : ABlk) (l : List AVal) (qa qb qc qd : Int) (sT : AVal) (hc_0 : ¬ ((i : Int) < (n : Int))) :
    Runs Try.prog 1 135 (loopAt Try.prog 13 0) [(5, .ptr (some ⟨8, 0, 0, 0, 2⟩)), (6, .slice (some ⟨12, 0, 0, 0, 4⟩) n n), (23, .slice o n c), (24, .int .i64 n), (25, .int .i64 i)] (AHeap.rows 14 [(0, b), (8, .made [.agg [.int .i64 C, sT]] 2 true), (12, .made l 4 true), (13, rT)]) (.exit 0) [(5, .ptr (some ⟨8, 0, 0, 0, 2⟩)), (6, .slice (some ⟨12, 0, 0, 0, 4⟩) n n)] (AHeap.rows 15 [(0, b), (8, (.made ([.agg [.int .i64 (C : Int), sT]]) 2 true)), (12, .made l 4 true), (13, rT)]) :=
  ppath_runs env_ok mixed (hs := [.val 6000 (.bool false)]) (keep := [5, 6]) (by kernel_rfl) (All.cons (okF hc_0) (All.nil))

theorem fx_fixed (n v q i C : Nat) (b rT rT2 : ABlk) (l : List AVal) (y x sa sb sc sd ra rb rc rd : Int) (sT : AVal) (hc_0 : (i : Int) < (n : Int)) (hc_1 : 0 ≤ (i : Int) ∧ (i : Int) < (n : Int) ∧ 4 = 4) (hc_2 : ABlk.elem? (.made l 4 true) 0 (0 + Int.toNat (i : Int)) = some (.agg [.int .i64 sa, .int .i64 sb, .int .i64 sc, .int .i64 sd])) (hc_3 : sa ≥ 0) (hc_4 : sb ≥ 0) (hc_5 : -9223372036854775808 ≤ (i : Int) + 1 ∧ (i : Int) + (1 : Int) ≤ 9223372036854775807) :
    Runs Try.prog 1 135 (loopAt Try.prog 13 1) [(5, .ptr (some ⟨8, 0, 0, 0, 2⟩)), (6, .slice (some ⟨12, 0, 0, 0, 4⟩) n n), (9, .int .i64 y), (10, .int .i64 x), (80, .slice (some ⟨12, 0, 0, 0, 4⟩) n n), (81, .int .i64 n), (82, .int .i64 i)] (AHeap.rows 14 [(0, b), (8, .made [.agg [.int .i64 C, sT]] 2 true), (12, .made l 4 true), (13, rT)]) .normal [(5, .ptr (some ⟨8, 0, 0, 0, 2⟩)), (6, .slice (some ⟨12, 0, 0, 0, 4⟩) n n), (9, .int .i64 y), (10, .int .i64 x), (80, .slice (some ⟨12, 0, 0, 0, 4⟩) n n), (81, .int .i64 (n : Int)), (82, .int .i64 ((i : Int) + 1))] (AHeap.rows 32 [(0, b), (8, (.made ([.agg [.int .i64 (C : Int), sT]]) 2 true)), (12, .made l 4 true), (13, rT), (18, (.made ([.agg [.int .i64 sa, .int .i64 sb, .int .i64 sc, .int .i64 sd]]) 4 true))]) :=
  ppath_runs env_ok mixed (hs := [.val 18000 (.bool true), .go 19001, .ld 19002 (.agg [.int .i64 sa, .int .i64 sb, .int .i64 sc, .int .i64 sd]), .val 22002 (.bool true), .val 22006 (.bool true), .go 29000]) (keep := [5, 6, 9, 10, 80, 81, 82]) (by kernel_rfl) (All.cons (okT hc_0) (All.cons hc_1 (All.cons hc_2 (All.cons (okT hc_3) (All.cons (okT hc_4) (All.cons hc_5 (All.nil)))))))

theorem fx_ac_new (n v q i C : Nat) (b rT rT2 : ABlk) (l : List AVal) (y x sa sb sc sd ra rb rc rd : Int) (hc_0 : (i : Int) < (n : Int)) (hc_1 : 0 ≤ (i : Int) ∧ (i : Int) < (n : Int) ∧ 4 = 4) (hc_2 : ABlk.elem? (.made l 4 true) 0 (0 + Int.toNat (i : Int)) = some (.agg [.int .i64 sa, .int .i64 sb, .int .i64 sc, .int .i64 sd])) (hc_3 : ¬ (sa ≥ 0)) (hc_4 : sb ≥ 0) (hc_5 : FDoes Try.prog 31 [.ptr (some ⟨8, 0, 0, 0, 2⟩), .agg [.int .i64 sa, .int .i64 sb, .int .i64 sc, .int .i64 sd]] (AHeap.rows 37 [(0, b), (8, (.made ([.agg [.int .i64 (C : Int), .slice none 0 0]]) 2 true)), (12, .made l 4 true), (17, (.made ([.agg [.int .i64 sa, .int .i64 sb, .int .i64 sc, .int .i64 sd]]) 4 true))]) (.agg [.int .i64 ra, .int .i64 rb, .int .i64 rc, .int .i64 rd]) (AHeap.rows 37 [(0, b), (8, (.made ([.agg [.int .i64 (C : Int), .slice none 0 0]]) 2 true)), (12, .made l 4 true), (17, (.made ([.agg [.int .i64 sa, .int .i64 sb, .int .i64 sc, .int .i64 sd]]) 4 true))])) (hc_6 : 0 ≤ (i : Int) ∧ (i : Int) < (n : Int) ∧ 4 = 4) (hc_7 : 0 = 0 ∧ l[0 + Int.toNat (i : Int)]? = some (.agg [.int .i64 sa, .int .i64 sb, .int .i64 sc, .int .i64 sd])) (hc_8 : abuiltin env Builtin.append { toList := [22, 22] } [.slice none 0 0, .slice (some ⟨48, 0, 0, 0, 4⟩) 1 1] 49 (AHeap.set (AHeap.rows 53 [(0, b), (8, (.made ([.agg [.int .i64 (C : Int), .slice none 0 0]]) 2 true)), (12, (.made (List.set l (0 + Int.toNat (i : Int)) (.agg [.int .i64 ra, .int .i64 rb, .int .i64 rc, .int .i64 rd])) 4 true)), (17, (.made ([.agg [.int .i64 ra, .int .i64 rb, .int .i64 rc, .int .i64 rd]]) 4 true))]) 48 (.made [.agg [.int .i64 ra, .int .i64 rb, .int .i64 rc, .int .i64 rd]] 4 true)) = some (.slice (some ⟨49, 0, 0, 0, 4⟩) 1 1, (AHeap.rows 53 [(0, b), (8, (.made ([.agg [.int .i64 (C : Int), .slice none 0 0]]) 2 true)), (12, (.made (List.set l (0 + Int.toNat (i : Int)) (.agg [.int .i64 ra, .int .i64 rb, .int .i64 rc, .int .i64 rd])) 4 true)), (17, (.made ([.agg [.int .i64 ra, .int .i64 rb, .int .i64 rc, .int .i64 rd]]) 4 true)), (48, .made [.agg [.int .i64 ra, .int .i64 rb, .int .i64 rc, .int .i64 rd]] 4 true), (49, rT2)]))) (hc_9 : -9223372036854775808 ≤ (i : Int) + 1 ∧ (i : Int) + (1 : Int) ≤ 9223372036854775807) :
    Runs Try.prog 1 135 (loopAt Try.prog 13 1) [(5, .ptr (some ⟨8, 0, 0, 0, 2⟩)), (6, .slice (some ⟨12, 0, 0, 0, 4⟩) n n), (9, .int .i64 y), (10, .int .i64 x), (80, .slice (some ⟨12, 0, 0, 0, 4⟩) n n), (81, .int .i64 n), (82, .int .i64 i)] (AHeap.rows 13 [(0, b), (8, .made [.agg [.int .i64 C, .slice none 0 0]] 2 true), (12, .made l 4 true)]) .normal [(5, .ptr (some ⟨8, 0, 0, 0, 2⟩)), (6, .slice (some ⟨12, 0, 0, 0, 4⟩) n n), (9, .int .i64 y), (10, .int .i64 x), (80, .slice (some ⟨12, 0, 0, 0, 4⟩) n n), (81, .int .i64 (n : Int)), (82, .int .i64 ((i : Int) + 1))] (AHeap.rows 55 [(0, b), (8, (.made ([.agg [.int .i64 (C : Int), .slice (some ⟨49, 0, 0, 0, 4⟩) 1 1]]) 2 true)), (12, (.made (List.set l (0 + Int.toNat (i : Int)) (.agg [.int .i64 ra, .int .i64 rb, .int .i64 rc, .int .i64 rd])) 4 true)), (17, (.made ([.agg [.int .i64 ra, .int .i64 rb, .int .i64 rc, .int .i64 rd]]) 4 true)), (48, .made [.agg [.int .i64 ra, .int .i64 rb, .int .i64 rc, .int .i64 rd]] 4 true), (49, rT2)]) :=
  ppath_runs env_ok mixed (hs := [.val 18000 (.bool true), .go 19001, .ld 19002 (.agg [.int .i64 sa, .int .i64 sb, .int .i64 sc, .int .i64 sd]), .val 22002 (.bool false), .val 23002 (.bool true), .val 24002 (.agg [.int .i64 ra, .int .i64 rb, .int .i64 rc, .int .i64 rd]), .go 27003, .st 27004 (.agg [.int .i64 sa, .int .i64 sb, .int .i64 sc, .int .i64 sd]), .act 28007 (.slice (some ⟨49, 0, 0, 0, 4⟩) 1 1) (fun h => h.set 49 rT2), .go 29000]) (keep := [5, 6, 9, 10, 80, 81, 82]) (by kernel_rfl) (All.cons (okT hc_0) (All.cons hc_1 (All.cons hc_2 (All.cons (okF hc_3) (All.cons (okT hc_4) (All.cons (CallT.mk hc_5) (All.cons hc_6 (All.cons hc_7 (All.cons hc_8 (All.cons hc_9 (All.nil)))))))))))

theorem fx_ac_grow (n v q i C : Nat) (b rT rT2 : ABlk) (l : List AVal) (y x sa sb sc sd ra rb rc rd : Int) (hc_0 : (i : Int) < (n : Int)) (hc_1 : 0 ≤ (i : Int) ∧ (i : Int) < (n : Int) ∧ 4 = 4) (hc_2 : ABlk.elem? (.made l 4 true) 0 (0 + Int.toNat (i : Int)) = some (.agg [.int .i64 sa, .int .i64 sb, .int .i64 sc, .int .i64 sd])) (hc_3 : ¬ (sa ≥ 0)) (hc_4 : sb ≥ 0) (hc_5 : FDoes Try.prog 31 [.ptr (some ⟨8, 0, 0, 0, 2⟩), .agg [.int .i64 sa, .int .i64 sb, .int .i64 sc, .int .i64 sd]] (AHeap.rows 38 [(0, b), (8, (.made ([.agg [.int .i64 (C : Int), .slice (some ⟨13, v, 0, 0, 4⟩) q q]]) 2 true)), (12, .made l 4 true), (13, rT), (18, (.made ([.agg [.int .i64 sa, .int .i64 sb, .int .i64 sc, .int .i64 sd]]) 4 true))]) (.agg [.int .i64 ra, .int .i64 rb, .int .i64 rc, .int .i64 rd]) (AHeap.rows 38 [(0, b), (8, (.made ([.agg [.int .i64 (C : Int), .slice (some ⟨13, v, 0, 0, 4⟩) q q]]) 2 true)), (12, .made l 4 true), (13, rT), (18, (.made ([.agg [.int .i64 sa, .int .i64 sb, .int .i64 sc, .int .i64 sd]]) 4 true))])) (hc_6 : 0 ≤ (i : Int) ∧ (i : Int) < (n : Int) ∧ 4 = 4) (hc_7 : 0 = 0 ∧ l[0 + Int.toNat (i : Int)]? = some (.agg [.int .i64 sa, .int .i64 sb, .int .i64 sc, .int .i64 sd])) (hc_8 : abuiltin env Builtin.append { toList := [22, 22] } [.slice (some ⟨13, v, 0, 0, 4⟩) q q, .slice (some ⟨49, 0, 0, 0, 4⟩) 1 1] 50 (AHeap.set (AHeap.rows 54 [(0, b), (8, (.made ([.agg [.int .i64 (C : Int), .slice (some ⟨13, v, 0, 0, 4⟩) q q]]) 2 true)), (12, (.made (List.set l (0 + Int.toNat (i : Int)) (.agg [.int .i64 ra, .int .i64 rb, .int .i64 rc, .int .i64 rd])) 4 true)), (13, rT), (18, (.made ([.agg [.int .i64 ra, .int .i64 rb, .int .i64 rc, .int .i64 rd]]) 4 true))]) 49 (.made [.agg [.int .i64 ra, .int .i64 rb, .int .i64 rc, .int .i64 rd]] 4 true)) = some (.slice (some ⟨13, v + 1, 0, 0, 4⟩) (q + 1) (q + 1), (AHeap.rows 54 [(0, b), (8, (.made ([.agg [.int .i64 (C : Int), .slice (some ⟨13, v, 0, 0, 4⟩) q q]]) 2 true)), (12, (.made (List.set l (0 + Int.toNat (i : Int)) (.agg [.int .i64 ra, .int .i64 rb, .int .i64 rc, .int .i64 rd])) 4 true)), (13, rT2), (18, (.made ([.agg [.int .i64 ra, .int .i64 rb, .int .i64 rc, .int .i64 rd]]) 4 true)), (49, .made [.agg [.int .i64 ra, .int .i64 rb, .int .i64 rc, .int .i64 rd]] 4 true)]))) (hc_9 : -9223372036854775808 ≤ (i : Int) + 1 ∧ (i : Int) + (1 : Int) ≤ 9223372036854775807) :
    Runs Try.prog 1 135 (loopAt Try.prog 13 1) [(5, .ptr (some ⟨8, 0, 0, 0, 2⟩)), (6, .slice (some ⟨12, 0, 0, 0, 4⟩) n n), (9, .int .i64 y), (10, .int .i64 x), (80, .slice (some ⟨12, 0, 0, 0, 4⟩) n n), (81, .int .i64 n), (82, .int .i64 i)] (AHeap.rows 14 [(0, b), (8, .made [.agg [.int .i64 C, .slice (some ⟨13, v, 0, 0, 4⟩) q q]] 2 true), (12, .made l 4 true), (13, rT)]) .normal [(5, .ptr (some ⟨8, 0, 0, 0, 2⟩)), (6, .slice (some ⟨12, 0, 0, 0, 4⟩) n n), (9, .int .i64 y), (10, .int .i64 x), (80, .slice (some ⟨12, 0, 0, 0, 4⟩) n n), (81, .int .i64 (n : Int)), (82, .int .i64 ((i : Int) + 1))] (AHeap.rows 56 [(0, b), (8, (.made ([.agg [.int .i64 (C : Int), .slice (some ⟨13, v + 1, 0, 0, 4⟩) (q + 1) (q + 1)]]) 2 true)), (12, (.made (List.set l (0 + Int.toNat (i : Int)) (.agg [.int .i64 ra, .int .i64 rb, .int .i64 rc, .int .i64 rd])) 4 true)), (13, rT2), (18, (.made ([.agg [.int .i64 ra, .int .i64 rb, .int .i64 rc, .int .i64 rd]]) 4 true)), (49, .made [.agg [.int .i64 ra, .int .i64 rb, .int .i64 rc, .int .i64 rd]] 4 true)]) :=
  ppath_runs env_ok mixed (hs := [.val 18000 (.bool true), .go 19001, .ld 19002 (.agg [.int .i64 sa, .int .i64 sb, .int .i64 sc, .int .i64 sd]), .val 22002 (.bool false), .val 23002 (.bool true), .val 24002 (.agg [.int .i64 ra, .int .i64 rb, .int .i64 rc, .int .i64 rd]), .go 27003, .st 27004 (.agg [.int .i64 sa, .int .i64 sb, .int .i64 sc, .int .i64 sd]), .act 28007 (.slice (some ⟨13, v + 1, 0, 0, 4⟩) (q + 1) (q + 1)) (fun h => h.set 13 rT2), .go 29000]) (keep := [5, 6, 9, 10, 80, 81, 82]) (by kernel_rfl) (All.cons (okT hc_0) (All.cons hc_1 (All.cons hc_2 (All.cons (okF hc_3) (All.cons (okT hc_4) (All.cons (CallT.mk hc_5) (All.cons hc_6 (All.cons hc_7 (All.cons hc_8 (All.cons hc_9 (All.nil)))))))))))

theorem fx_dn_new (n v q i C : Nat) (b rT rT2 : ABlk) (l : List AVal) (y x sa sb sc sd ra rb rc rd : Int) (hc_0 : (i : Int) < (n : Int)) (hc_1 : 0 ≤ (i : Int) ∧ (i : Int) < (n : Int) ∧ 4 = 4) (hc_2 : ABlk.elem? (.made l 4 true) 0 (0 + Int.toNat (i : Int)) = some (.agg [.int .i64 sa, .int .i64 sb, .int .i64 sc, .int .i64 sd])) (hc_3 : sa ≥ 0) (hc_4 : ¬ (sb ≥ 0)) (hc_5 : ¬ (sb ≥ 0)) (hc_6 : sa ≥ 0) (hc_7 : FDoes Try.prog 32 [.ptr (some ⟨8, 0, 0, 0, 2⟩), .agg [.int .i64 sa, .int .i64 sb, .int .i64 sc, .int .i64 sd]] (AHeap.rows 41 [(0, b), (8, (.made ([.agg [.int .i64 (C : Int), .slice none 0 0]]) 2 true)), (12, .made l 4 true), (17, (.made ([.agg [.int .i64 sa, .int .i64 sb, .int .i64 sc, .int .i64 sd]]) 4 true))]) (.agg [.int .i64 ra, .int .i64 rb, .int .i64 rc, .int .i64 rd]) (AHeap.rows 41 [(0, b), (8, (.made ([.agg [.int .i64 (C : Int), .slice none 0 0]]) 2 true)), (12, .made l 4 true), (17, (.made ([.agg [.int .i64 sa, .int .i64 sb, .int .i64 sc, .int .i64 sd]]) 4 true))])) (hc_8 : 0 ≤ (i : Int) ∧ (i : Int) < (n : Int) ∧ 4 = 4) (hc_9 : 0 = 0 ∧ l[0 + Int.toNat (i : Int)]? = some (.agg [.int .i64 sa, .int .i64 sb, .int .i64 sc, .int .i64 sd])) (hc_10 : abuiltin env Builtin.append { toList := [22, 22] } [.slice none 0 0, .slice (some ⟨52, 0, 0, 0, 4⟩) 1 1] 53 (AHeap.set (AHeap.rows 57 [(0, b), (8, (.made ([.agg [.int .i64 (C : Int), .slice none 0 0]]) 2 true)), (12, (.made (List.set l (0 + Int.toNat (i : Int)) (.agg [.int .i64 ra, .int .i64 rb, .int .i64 rc, .int .i64 rd])) 4 true)), (17, (.made ([.agg [.int .i64 ra, .int .i64 rb, .int .i64 rc, .int .i64 rd]]) 4 true))]) 52 (.made [.agg [.int .i64 ra, .int .i64 rb, .int .i64 rc, .int .i64 rd]] 4 true)) = some (.slice (some ⟨53, 0, 0, 0, 4⟩) 1 1, (AHeap.rows 57 [(0, b), (8, (.made ([.agg [.int .i64 (C : Int), .slice none 0 0]]) 2 true)), (12, (.made (List.set l (0 + Int.toNat (i : Int)) (.agg [.int .i64 ra, .int .i64 rb, .int .i64 rc, .int .i64 rd])) 4 true)), (17, (.made ([.agg [.int .i64 ra, .int .i64 rb, .int .i64 rc, .int .i64 rd]]) 4 true)), (52, .made [.agg [.int .i64 ra, .int .i64 rb, .int .i64 rc, .int .i64 rd]] 4 true), (53, rT2)]))) (hc_11 : -9223372036854775808 ≤ (i : Int) + 1 ∧ (i : Int) + (1 : Int) ≤ 9223372036854775807) :
    Runs Try.prog 1 135 (loopAt Try.prog 13 1) [(5, .ptr (some ⟨8, 0, 0, 0, 2⟩)), (6, .slice (some ⟨12, 0, 0, 0, 4⟩) n n), (9, .int .i64 y), (10, .int .i64 x), (80, .slice (some ⟨12, 0, 0, 0, 4⟩) n n), (81, .int .i64 n), (82, .int .i64 i)] (AHeap.rows 13 [(0, b), (8, .made [.agg [.int .i64 C, .slice none 0 0]] 2 true), (12, .made l 4 true)]) .normal [(5, .ptr (some ⟨8, 0, 0, 0, 2⟩)), (6, .slice (some ⟨12, 0, 0, 0, 4⟩) n n), (9, .int .i64 y), (10, .int .i64 x), (80, .slice (some ⟨12, 0, 0, 0, 4⟩) n n), (81, .int .i64 (n : Int)), (82, .int .i64 ((i : Int) + 1))] (AHeap.rows 59 [(0, b), (8, (.made ([.agg [.int .i64 (C : Int), .slice (some ⟨53, 0, 0, 0, 4⟩) 1 1]]) 2 true)), (12, (.made (List.set l (0 + Int.toNat (i : Int)) (.agg [.int .i64 ra, .int .i64 rb, .int .i64 rc, .int .i64 rd])) 4 true)), (17, (.made ([.agg [.int .i64 ra, .int .i64 rb, .int .i64 rc, .int .i64 rd]]) 4 true)), (52, .made [.agg [.int .i64 ra, .int .i64 rb, .int .i64 rc, .int .i64 rd]] 4 true), (53, rT2)]) :=
  ppath_runs env_ok mixed (hs := [.val 18000 (.bool true), .go 19001, .ld 19002 (.agg [.int .i64 sa, .int .i64 sb, .int .i64 sc, .int .i64 sd]), .val 22002 (.bool true), .val 22006 (.bool false), .val 23002 (.bool false), .val 25002 (.bool true), .val 26002 (.agg [.int .i64 ra, .int .i64 rb, .int .i64 rc, .int .i64 rd]), .go 27003, .st 27004 (.agg [.int .i64 sa, .int .i64 sb, .int .i64 sc, .int .i64 sd]), .act 28007 (.slice (some ⟨53, 0, 0, 0, 4⟩) 1 1) (fun h => h.set 53 rT2), .go 29000]) (keep := [5, 6, 9, 10, 80, 81, 82]) (by kernel_rfl) (All.cons (okT hc_0) (All.cons hc_1 (All.cons hc_2 (All.cons (okT hc_3) (All.cons (okF hc_4) (All.cons (okF hc_5) (All.cons (okT hc_6) (All.cons (CallT.mk hc_7) (All.cons hc_8 (All.cons hc_9 (All.cons hc_10 (All.cons hc_11 (All.nil)))))))))))))

theorem fx_dn_grow (n v q i C : Nat) (b rT rT2 : ABlk) (l : List AVal) (y x sa sb sc sd ra rb rc rd : Int) (hc_0 : (i : Int) < (n : Int)) (hc_1 : 0 ≤ (i : Int) ∧ (i : Int) < (n : Int) ∧ 4 = 4) (hc_2 : ABlk.elem? (.made l 4 true) 0 (0 + Int.toNat (i : Int)) = some (.agg [.int .i64 sa, .int .i64 sb, .int .i64 sc, .int .i64 sd])) (hc_3 : sa ≥ 0) (hc_4 : ¬ (sb ≥ 0)) (hc_5 : ¬ (sb ≥ 0)) (hc_6 : sa ≥ 0) (hc_7 : FDoes Try.prog 32 [.ptr (some ⟨8, 0, 0, 0, 2⟩), .agg [.int .i64 sa, .int .i64 sb, .int .i64 sc, .int .i64 sd]] (AHeap.rows 42 [(0, b), (8, (.made ([.agg [.int .i64 (C : Int), .slice (some ⟨13, v, 0, 0, 4⟩) q q]]) 2 true)), (12, .made l 4 true), (13, rT), (18, (.made ([.agg [.int .i64 sa, .int .i64 sb, .int .i64 sc, .int .i64 sd]]) 4 true))]) (.agg [.int .i64 ra, .int .i64 rb, .int .i64 rc, .int .i64 rd]) (AHeap.rows 42 [(0, b), (8, (.made ([.agg [.int .i64 (C : Int), .slice (some ⟨13, v, 0, 0, 4⟩) q q]]) 2 true)), (12, .made l 4 true), (13, rT), (18, (.made ([.agg [.int .i64 sa, .int .i64 sb, .int .i64 sc, .int .i64 sd]]) 4 true))])) (hc_8 : 0 ≤ (i : Int) ∧ (i : Int) < (n : Int) ∧ 4 = 4) (hc_9 : 0 = 0 ∧ l[0 + Int.toNat (i : Int)]? = some (.agg [.int .i64 sa, .int .i64 sb, .int .i64 sc, .int .i64 sd])) (hc_10 : abuiltin env Builtin.append { toList := [22, 22] } [.slice (some ⟨13, v, 0, 0, 4⟩) q q, .slice (some ⟨53, 0, 0, 0, 4⟩) 1 1] 54 (AHeap.set (AHeap.rows 58 [(0, b), (8, (.made ([.agg [.int .i64 (C : Int), .slice (some ⟨13, v, 0, 0, 4⟩) q q]]) 2 true)), (12, (.made (List.set l (0 + Int.toNat (i : Int)) (.agg [.int .i64 ra, .int .i64 rb, .int .i64 rc, .int .i64 rd])) 4 true)), (13, rT), (18, (.made ([.agg [.int .i64 ra, .int .i64 rb, .int .i64 rc, .int .i64 rd]]) 4 true))]) 53 (.made [.agg [.int .i64 ra, .int .i64 rb, .int .i64 rc, .int .i64 rd]] 4 true)) = some (.slice (some ⟨13, v + 1, 0, 0, 4⟩) (q + 1) (q + 1), (AHeap.rows 58 [(0, b), (8, (.made ([.agg [.int .i64 (C : Int), .slice (some ⟨13, v, 0, 0, 4⟩) q q]]) 2 true)), (12, (.made (List.set l (0 + Int.toNat (i : Int)) (.agg [.int .i64 ra, .int .i64 rb, .int .i64 rc, .int .i64 rd])) 4 true)), (13, rT2), (18, (.made ([.agg [.int .i64 ra, .int .i64 rb, .int .i64 rc, .int .i64 rd]]) 4 true)), (53, .made [.agg [.int .i64 ra, .int .i64 rb, .int .i64 rc, .int .i64 rd]] 4 true)]))) (hc_11 : -9223372036854775808 ≤ (i : Int) + 1 ∧ (i : Int) + (1 : Int) ≤ 9223372036854775807) :
    Runs Try.prog 1 135 (loopAt Try.prog 13 1) [(5, .ptr (some ⟨8, 0, 0, 0, 2⟩)), (6, .slice (some ⟨12, 0, 0, 0, 4⟩) n n), (9, .int .i64 y), (10, .int .i64 x), (80, .slice (some ⟨12, 0, 0, 0, 4⟩) n n), (81, .int .i64 n), (82, .int .i64 i)] (AHeap.rows 14 [(0, b), (8, .made [.agg [.int .i64 C, .slice (some ⟨13, v, 0, 0, 4⟩) q q]] 2 true), (12, .made l 4 true), (13, rT)]) .normal [(5, .ptr (some ⟨8, 0, 0, 0, 2⟩)), (6, .slice (some ⟨12, 0, 0, 0, 4⟩) n n), (9, .int .i64 y), (10, .int .i64 x), (80, .slice (some ⟨12, 0, 0, 0, 4⟩) n n), (81, .int .i64 (n : Int)), (82, .int .i64 ((i : Int) + 1))] (AHeap.rows 60 [(0, b), (8, (.made ([.agg [.int .i64 (C : Int), .slice (some ⟨13, v + 1, 0, 0, 4⟩) (q + 1) (q + 1)]]) 2 true)), (12, (.made (List.set l (0 + Int.toNat (i : Int)) (.agg [.int .i64 ra, .int .i64 rb, .int .i64 rc, .int .i64 rd])) 4 true)), (13, rT2), (18, (.made ([.agg [.int .i64 ra, .int .i64 rb, .int .i64 rc, .int .i64 rd]]) 4 true)), (53, .made [.agg [.int .i64 ra, .int .i64 rb, .int .i64 rc, .int .i64 rd]] 4 true)]) :=
  ppath_runs env_ok mixed (hs := [.val 18000 (.bool true), .go 19001, .ld 19002 (.agg [.int .i64 sa, .int .i64 sb, .int .i64 sc, .int .i64 sd]), .val 22002 (.bool true), .val 22006 (.bool false), .val 23002 (.bool false), .val 25002 (.bool true), .val 26002 (.agg [.int .i64 ra, .int .i64 rb, .int .i64 rc, .int .i64 rd]), .go 27003, .st 27004 (.agg [.int .i64 sa, .int .i64 sb, .int .i64 sc, .int .i64 sd]), .act 28007 (.slice (some ⟨13, v + 1, 0, 0, 4⟩) (q + 1) (q + 1)) (fun h => h.set 13 rT2), .go 29000]) (keep := [5, 6, 9, 10, 80, 81, 82]) (by kernel_rfl) (All.cons (okT hc_0) (All.cons hc_1 (All.cons hc_2 (All.cons (okT hc_3) (All.cons (okF hc_4) (All.cons (okF hc_5) (All.cons (okT hc_6) (All.cons (CallT.mk hc_7) (All.cons hc_8 (All.cons hc_9 (All.cons hc_10 (All.cons hc_11 (All.nil)))))))))))))

theorem fx_bh_new (n v q i C : Nat) (b rT rT2 : ABlk) (l : List AVal) (y x sa sb sc sd ra rb rc rd : Int) (hc_0 : (i : Int) < (n : Int)) (hc_1 : 0 ≤ (i : Int) ∧ (i : Int) < (n : Int) ∧ 4 = 4) (hc_2 : ABlk.elem? (.made l 4 true) 0 (0 + Int.toNat (i : Int)) = some (.agg [.int .i64 sa, .int .i64 sb, .int .i64 sc, .int .i64 sd])) (hc_3 : ¬ (sa ≥ 0)) (hc_4 : ¬ (sb ≥ 0)) (hc_5 : ¬ (sa ≥ 0)) (hc_6 : FDoes Try.prog 33 [.ptr (some ⟨8, 0, 0, 0, 2⟩), .agg [.int .i64 sa, .int .i64 sb, .int .i64 sc, .int .i64 sd], .int .i64 y, .int .i64 x] (AHeap.rows 43 [(0, b), (8, (.made ([.agg [.int .i64 (C : Int), .slice none 0 0]]) 2 true)), (12, .made l 4 true), (17, (.made ([.agg [.int .i64 sa, .int .i64 sb, .int .i64 sc, .int .i64 sd]]) 4 true))]) (.agg [.int .i64 ra, .int .i64 rb, .int .i64 rc, .int .i64 rd]) (AHeap.rows 43 [(0, b), (8, (.made ([.agg [.int .i64 (C : Int), .slice none 0 0]]) 2 true)), (12, .made l 4 true), (17, (.made ([.agg [.int .i64 sa, .int .i64 sb, .int .i64 sc, .int .i64 sd]]) 4 true))])) (hc_7 : 0 ≤ (i : Int) ∧ (i : Int) < (n : Int) ∧ 4 = 4) (hc_8 : 0 = 0 ∧ l[0 + Int.toNat (i : Int)]? = some (.agg [.int .i64 sa, .int .i64 sb, .int .i64 sc, .int .i64 sd])) (hc_9 : abuiltin env Builtin.append { toList := [22, 22] } [.slice none 0 0, .slice (some ⟨60, 0, 0, 0, 4⟩) 1 1] 61 (AHeap.set (AHeap.rows 65 [(0, b), (8, (.made ([.agg [.int .i64 (C : Int), .slice none 0 0]]) 2 true)), (12, (.made (List.set l (0 + Int.toNat (i : Int)) (.agg [.int .i64 ra, .int .i64 rb, .int .i64 rc, .int .i64 rd])) 4 true)), (17, (.made ([.agg [.int .i64 ra, .int .i64 rb, .int .i64 rc, .int .i64 rd]]) 4 true))]) 60 (.made [.agg [.int .i64 ra, .int .i64 rb, .int .i64 rc, .int .i64 rd]] 4 true)) = some (.slice (some ⟨61, 0, 0, 0, 4⟩) 1 1, (AHeap.rows 65 [(0, b), (8, (.made ([.agg [.int .i64 (C : Int), .slice none 0 0]]) 2 true)), (12, (.made (List.set l (0 + Int.toNat (i : Int)) (.agg [.int .i64 ra, .int .i64 rb, .int .i64 rc, .int .i64 rd])) 4 true)), (17, (.made ([.agg [.int .i64 ra, .int .i64 rb, .int .i64 rc, .int .i64 rd]]) 4 true)), (60, .made [.agg [.int .i64 ra, .int .i64 rb, .int .i64 rc, .int .i64 rd]] 4 true), (61, rT2)]))) (hc_10 : -9223372036854775808 ≤ (i : Int) + 1 ∧ (i : Int) + (1 : Int) ≤ 9223372036854775807) :
    Runs Try.prog 1 135 (loopAt Try.prog 13 1) [(5, .ptr (some ⟨8, 0, 0, 0, 2⟩)), (6, .slice (some ⟨12, 0, 0, 0, 4⟩) n n), (9, .int .i64 y), (10, .int .i64 x), (80, .slice (some ⟨12, 0, 0, 0, 4⟩) n n), (81, .int .i64 n), (82, .int .i64 i)] (AHeap.rows 13 [(0, b), (8, .made [.agg [.int .i64 C, .slice none 0 0]] 2 true), (12, .made l 4 true)]) .normal [(5, .ptr (some ⟨8, 0, 0, 0, 2⟩)), (6, .slice (some ⟨12, 0, 0, 0, 4⟩) n n), (9, .int .i64 rb), (10, .int .i64 ra), (80, .slice (some ⟨12, 0, 0, 0, 4⟩) n n), (81, .int .i64 (n : Int)), (82, .int .i64 ((i : Int) + 1))] (AHeap.rows 67 [(0, b), (8, (.made ([.agg [.int .i64 (C : Int), .slice (some ⟨61, 0, 0, 0, 4⟩) 1 1]]) 2 true)), (12, (.made (List.set l (0 + Int.toNat (i : Int)) (.agg [.int .i64 ra, .int .i64 rb, .int .i64 rc, .int .i64 rd])) 4 true)), (17, (.made ([.agg [.int .i64 ra, .int .i64 rb, .int .i64 rc, .int .i64 rd]]) 4 true)), (60, .made [.agg [.int .i64 ra, .int .i64 rb, .int .i64 rc, .int .i64 rd]] 4 true), (61, rT2)]) :=
  ppath_runs env_ok mixed (hs := [.val 18000 (.bool true), .go 19001, .ld 19002 (.agg [.int .i64 sa, .int .i64 sb, .int .i64 sc, .int .i64 sd]), .val 22002 (.bool false), .val 23002 (.bool false), .val 25002 (.bool false), .val 20004 (.agg [.int .i64 ra, .int .i64 rb, .int .i64 rc, .int .i64 rd]), .go 27003, .st 27004 (.agg [.int .i64 sa, .int .i64 sb, .int .i64 sc, .int .i64 sd]), .act 28007 (.slice (some ⟨61, 0, 0, 0, 4⟩) 1 1) (fun h => h.set 61 rT2), .go 29000]) (keep := [5, 6, 9, 10, 80, 81, 82]) (by kernel_rfl) (All.cons (okT hc_0) (All.cons hc_1 (All.cons hc_2 (All.cons (okF hc_3) (All.cons (okF hc_4) (All.cons (okF hc_5) (All.cons (CallT.mk hc_6) (All.cons hc_7 (All.cons hc_8 (All.cons hc_9 (All.cons hc_10 (All.nil))))))))))))

theorem fx_bh_grow (n v q i C : Nat) (b rT rT2 : ABlk) (l : List AVal) (y x sa sb sc sd ra rb rc rd : Int) (hc_0 : (i : Int) < (n : Int)) (hc_1 : 0 ≤ (i : Int) ∧ (i : Int) < (n : Int) ∧ 4 = 4) (hc_2 : ABlk.elem? (.made l 4 true) 0 (0 + Int.toNat (i : Int)) = some (.agg [.int .i64 sa, .int .i64 sb, .int .i64 sc, .int .i64 sd])) (hc_3 : ¬ (sa ≥ 0)) (hc_4 : ¬ (sb ≥ 0)) (hc_5 : ¬ (sa ≥ 0)) (hc_6 : FDoes Try.prog 33 [.ptr (some ⟨8, 0, 0, 0, 2⟩), .agg [.int .i64 sa, .int .i64 sb, .int .i64 sc, .int .i64 sd], .int .i64 y, .int .i64 x] (AHeap.rows 44 [(0, b), (8, (.made ([.agg [.int .i64 (C : Int), .slice (some ⟨13, v, 0, 0, 4⟩) q q]]) 2 true)), (12, .made l 4 true), (13, rT), (18, (.made ([.agg [.int .i64 sa, .int .i64 sb, .int .i64 sc, .int .i64 sd]]) 4 true))]) (.agg [.int .i64 ra, .int .i64 rb, .int .i64 rc, .int .i64 rd]) (AHeap.rows 44 [(0, b), (8, (.made ([.agg [.int .i64 (C : Int), .slice (some ⟨13, v, 0, 0, 4⟩) q q]]) 2 true)), (12, .made l 4 true), (13, rT), (18, (.made ([.agg [.int .i64 sa, .int .i64 sb, .int .i64 sc, .int .i64 sd]]) 4 true))])) (hc_7 : 0 ≤ (i : Int) ∧ (i : Int) < (n : Int) ∧ 4 = 4) (hc_8 : 0 = 0 ∧ l[0 + Int.toNat (i : Int)]? = some (.agg [.int .i64 sa, .int .i64 sb, .int .i64 sc, .int .i64 sd])) (hc_9 : abuiltin env Builtin.append { toList := [22, 22] } [.slice (some ⟨13, v, 0, 0, 4⟩) q q, .slice (some ⟨61, 0, 0, 0, 4⟩) 1 1] 62 (AHeap.set (AHeap.rows 66 [(0, b), (8, (.made ([.agg [.int .i64 (C : Int), .slice (some ⟨13, v, 0, 0, 4⟩) q q]]) 2 true)), (12, (.made (List.set l (0 + Int.toNat (i : Int)) (.agg [.int .i64 ra, .int .i64 rb, .int .i64 rc, .int .i64 rd])) 4 true)), (13, rT), (18, (.made ([.agg [.int .i64 ra, .int .i64 rb, .int .i64 rc, .int .i64 rd]]) 4 true))]) 61 (.made [.agg [.int .i64 ra, .int .i64 rb, .int .i64 rc, .int .i64 rd]] 4 true)) = some (.slice (some ⟨13, v + 1, 0, 0, 4⟩) (q + 1) (q + 1), (AHeap.rows 66 [(0, b), (8, (.made ([.agg [.int .i64 (C : Int), .slice (some ⟨13, v, 0, 0, 4⟩) q q]]) 2 true)), (12, (.made (List.set l (0 + Int.toNat (i : Int)) (.agg [.int .i64 ra, .int .i64 rb, .int .i64 rc, .int .i64 rd])) 4 true)), (13, rT2), (18, (.made ([.agg [.int .i64 ra, .int .i64 rb, .int .i64 rc, .int .i64 rd]]) 4 true)), (61, .made [.agg [.int .i64 ra, .int .i64 rb, .int .i64 rc, .int .i64 rd]] 4 true)]))) (hc_10 : -9223372036854775808 ≤ (i : Int) + 1 ∧ (i : Int) + (1 : Int) ≤ 9223372036854775807) :
    Runs Try.prog 1 135 (loopAt Try.prog 13 1) [(5, .ptr (some ⟨8, 0, 0, 0, 2⟩)), (6, .slice (some ⟨12, 0, 0, 0, 4⟩) n n), (9, .int .i64 y), (10, .int .i64 x), (80, .slice (some ⟨12, 0, 0, 0, 4⟩) n n), (81, .int .i64 n), (82, .int .i64 i)] (AHeap.rows 14 [(0, b), (8, .made [.agg [.int .i64 C, .slice (some ⟨13, v, 0, 0, 4⟩) q q]] 2 true), (12, .made l 4 true), (13, rT)]) .normal [(5, .ptr (some ⟨8, 0, 0, 0, 2⟩)), (6, .slice (some ⟨12, 0, 0, 0, 4⟩) n n), (9, .int .i64 rb), (10, .int .i64 ra), (80, .slice (some ⟨12, 0, 0, 0, 4⟩) n n), (81, .int .i64 (n : Int)), (82, .int .i64 ((i : Int) + 1))] (AHeap.rows 68 [(0, b), (8, (.made ([.agg [.int .i64 (C : Int), .slice (some ⟨13, v + 1, 0, 0, 4⟩) (q + 1) (q + 1)]]) 2 true)), (12, (.made (List.set l (0 + Int.toNat (i : Int)) (.agg [.int .i64 ra, .int .i64 rb, .int .i64 rc, .int .i64 rd])) 4 true)), (13, rT2), (18, (.made ([.agg [.int .i64 ra, .int .i64 rb, .int .i64 rc, .int .i64 rd]]) 4 true)), (61, .made [.agg [.int .i64 ra, .int .i64 rb, .int .i64 rc, .int .i64 rd]] 4 true)]) :=
  ppath_runs env_ok mixed (hs := [.val 18000 (.bool true), .go 19001, .ld 19002 (.agg [.int .i64 sa, .int .i64 sb, .int .i64 sc, .int .i64 sd]), .val 22002 (.bool false), .val 23002 (.bool false), .val 25002 (.bool false), .val 20004 (.agg [.int .i64 ra, .int .i64 rb, .int .i64 rc, .int .i64 rd]), .go 27003, .st 27004 (.agg [.int .i64 sa, .int .i64 sb, .int .i64 sc, .int .i64 sd]), .act 28007 (.slice (some ⟨13, v + 1, 0, 0, 4⟩) (q + 1) (q + 1)) (fun h => h.set 13 rT2), .go 29000]) (keep := [5, 6, 9, 10, 80, 81, 82]) (by kernel_rfl) (All.cons (okT hc_0) (All.cons hc_1 (All.cons hc_2 (All.cons (okF hc_3) (All.cons (okF hc_4) (All.cons (okF hc_5) (All.cons (CallT.mk hc_6) (All.cons hc_7 (All.cons hc_8 (All.cons hc_9 (All.cons hc_10 (All.nil))))))))))))

theorem fx_end (n v q i C : Nat) (b rT rT2 : ABlk) (l : List AVal) (y x sa sb sc sd ra rb rc rd : Int) (sT : AVal) (hc_0 : ¬ ((i : Int) < (n : Int))) :
    Runs Try.prog 1 135 (loopAt Try.prog 13 1) [(5, .ptr (some ⟨8, 0, 0, 0, 2⟩)), (6, .slice (some ⟨12, 0, 0, 0, 4⟩) n n), (9, .int .i64 y), (10, .int .i64 x), (80, .slice (some ⟨12, 0, 0, 0, 4⟩) n n), (81, .int .i64 n), (82, .int .i64 i)] (AHeap.rows 14 [(0, b), (8, .made [.agg [.int .i64 C, sT]] 2 true), (12, .made l 4 true), (13, rT)]) (.exit 2) [(6, .slice (some ⟨12, 0, 0, 0, 4⟩) n n)] (AHeap.rows 15 [(0, b), (8, (.made ([.agg [.int .i64 (C : Int), sT]]) 2 true)), (12, .made l 4 true), (13, rT)]) :=
  ppath_runs env_ok mixed (hs := [.val 18000 (.bool false)]) (keep := [6]) (by kernel_rfl) (All.cons (okF hc_0) (All.nil))

end Go.Proofs.Ytcgcpmcjaeenlaa

namespace Go.Proofs.Ytcgcpmcjaeenlaa
open Go.Lift
set_option maxRecDepth 1000000
set_option linter.unusedSimpArgs false
set_option linter.unusedVariables false
set_option linter.unusedSectionVars false

theorem fl_nil (o : Option AAddr) (n c C : Nat) (b rT : ABlk) (l l2 : List AVal) (cols : Int) (sT sU : AVal) (hc_0 : (n : Int) > 4096) :
    FDoes Try.prog 13 [.slice o n c, .int .i64 cols] (AHeap.of [b]) (.slice none 0 0) (AHeap.rows 6 [(0, b)]) :=
  pcall_does env_ok mixed (hs := [.val 1002 (.bool true)]) (rs := []) (by kernel_rfl) (All.cons (okT hc_0) (All.nil))

theorem fl_call (o : Option AAddr) (n c C : Nat) (b rT : ABlk) (l l2 : List AVal) (cols : Int) (sT sU : AVal) (hc_0 : ¬ ((n : Int) > 4096)) (hc_1 : FDoes Try.prog 30 [.int .i64 cols, .int .i64 1, .int .i64 64] (AHeap.rows 10 [(0, b)]) (.int .i64 (C : Int)) (AHeap.rows 10 [(0, b)])) (hc_2 : 0 ≤ (n : Int) ∧ (n : Int) ≤ (n : Int) ∧ (n : Int) < 4611686018427387904 ∧ (32 : Int) * (n : Int) ≤ 281474976710656) (hc_3 : Runs Try.prog 1 135 (.loop (loopAt Try.prog 13 0)) [(5, .ptr (some ⟨8, 0, 0, 0, 2⟩)), (6, .slice (some ⟨12, 0, 0, 0, 4⟩) n n), (23, .slice o n c), (24, .int .i64 (n : Int)), (25, .int .i64 0)] (AHeap.rows 17 [(0, b), (8, .made [.agg [.int .i64 (C : Int), .slice none 0 0]] 2 true), (12, .made (List.replicate n (.agg [.int .i64 0, .int .i64 0, .int .i64 0, .int .i64 0])) 4 true)]) (.exit 0) [(5, .ptr (some ⟨8, 0, 0, 0, 2⟩)), (6, .slice (some ⟨12, 0, 0, 0, 4⟩) n n)] (AHeap.rows 15 [(0, b), (8, (.made ([.agg [.int .i64 (C : Int), sT]]) 2 true)), (12, .made l 4 true), (13, rT)])) (hc_4 : Runs Try.prog 1 135 (.loop (loopAt Try.prog 13 1)) [(5, .ptr (some ⟨8, 0, 0, 0, 2⟩)), (6, .slice (some ⟨12, 0, 0, 0, 4⟩) n n), (9, .int .i64 0), (10, .int .i64 0), (80, .slice (some ⟨12, 0, 0, 0, 4⟩) n n), (81, .int .i64 (n : Int)), (82, .int .i64 0)] (AHeap.rows 20 [(0, b), (8, (.made ([.agg [.int .i64 (C : Int), sT]]) 2 true)), (12, .made l 4 true), (13, rT)]) (.exit 2) [(6, .slice (some ⟨12, 0, 0, 0, 4⟩) n n)] (AHeap.rows 15 [(0, b), (12, .made l2 4 true)])) :
    FDoes Try.prog 13 [.slice o n c, .int .i64 cols] (AHeap.of [b]) (.slice (some ⟨12, 0, 0, 0, 4⟩) n n) (AHeap.rows 17 [(0, b), (12, .made l2 4 true)]) :=
  pcall_does env_ok mixed (hs := [.val 1002 (.bool false), .val 3001 (.int .i64 C), .go 4002, .keep [5, 6, 23, 24, 25], .loop [(5, .ptr (some ⟨8, 0, 0, 0, 2⟩)), (6, .slice (some ⟨12, 0, 0, 0, 4⟩) n n)] (AHeap.rows 15 [(0, b), (8, .made [.agg [.int .i64 C, sT]] 2 true), (12, .made l 4 true), (13, rT)]) (.exit 0), .keep [5, 6, 9, 10, 80, 81, 82], .loop [(6, .slice (some ⟨12, 0, 0, 0, 4⟩) n n)] (AHeap.rows 15 [(0, b), (12, .made l2 4 true)]) (.exit 2)]) (rs := []) (by kernel_rfl) (All.cons (okF hc_0) (All.cons (CallT.mk hc_1) (All.cons hc_2 (All.cons hc_3 (All.cons hc_4 (All.nil))))))

end Go.Proofs.Ytcgcpmcjaeenlaa

namespace Go.Lift
noncomputable section
open Go.RowKit
set_option linter.unusedVariables false
set_option linter.unusedSimpArgs false

theorem lookF_mem {F : Facts} {t : Nat} {v : AVal} (hv : lookF F t = some v) : (t, v) ∈ F := by
  induction F with
  | nil => cases hv
  | cons p r ih =>
    obtain ⟨k, u⟩ := p
    rw [lookF_cons] at hv
    split at hv
    · rename_i e; simp only [Option.some.injEq] at hv; subst e; subst hv; simp
    · exact List.mem_cons_of_mem _ (ih hv)

theorem lookF_map {F : Facts} {g : AVal → AVal} {t : Nat} {v : AVal} (hv : lookF F t = some v) : lookF (F.map fun p => (p.1, g p.2)) t = some (g v) := by
  induction F with
  | nil => cases hv
  | cons p r ih =>
    obtain ⟨k, u⟩ := p
    rw [List.map_cons, lookF_cons]
    rw [lookF_cons] at hv
    split at hv
    · rename_i e; simp only [Option.some.injEq] at hv; subst hv; rw [if_pos e]
    · rename_i e; rw [if_neg e]; exact ih hv

/-- rows are forgotten, or get other numbers: the row p.1 was the row r p.1 -/
theorem Ent.move {base n : Nat} {F F1 : Facts} {h : AHeap} {K : Nat} {l : List (Nat × ABlk)} (r : Nat → Nat) (hl : l.map (fun p => h.get (r p.1)) = l.map (fun p => some (p.2.ren r))) (hK : l.all (fun p => Nat.blt p.1 K) = true)
    (hr : ((l.map (·.1)).map r).Nodup) (hb : (List.range base).all (fun i => (l.map (·.1)).contains i && Nat.beq (r i) i) = true) (hnew : l.all (fun p => Nat.blt p.1 base || Nat.ble base (r p.1)) = true)
    (hFF : F = F1.map fun p => (p.1, p.2.ren r)) (hn : F1.all (fun p => Nat.blt p.1 n) = true) (hF : All (F1.map fun p => Clo (Ids (l.map (·.1))) p.2))
    (hc : All (l.map fun p => ∀ e ∈ p.2.elems, Clo (Ids (l.map (·.1))) e)) : Ent base n F h F1 (AHeap.rows K l) := by
  have hget : ∀ i b, (AHeap.rows K l).get i = some b → i < K ∧ h.get (r i) = some (b.ren r) := by
    intro i b k
    have hm := AHeap.rows_get k
    refine ⟨Nat.blt_eq.mp (List.all_eq_true.1 hK _ hm), ?_⟩
    obtain ⟨j, hj, e⟩ := List.mem_iff_getElem.1 hm
    have h1 := congrArg (fun (x : List (Option ABlk)) => x[j]?) hl
    simp only [List.getElem?_map, List.getElem?_eq_getElem hj, Option.map_some, e, Option.some.injEq] at h1
    exact h1
  have hmono : ∀ {v : AVal}, Clo (Ids (l.map (·.1))) v → Clo (In (AHeap.rows K l)) v := Clo.mono fun i hi => AHeap.rows_in hi
  subst hFF
  refine Ent.ren (r := r) ⟨fun i b k => ⟨by rw [AHeap.rows_next]; exact (hget i b k).1, (hget i b k).2⟩, ?_, ?_⟩ ?_ ?_ ?_ ?_
  · intro i j hi hj e
    have hi := AHeap.rows_in_of hi
    have hj := AHeap.rows_in_of hj
    obtain ⟨a, ha, rfl⟩ := List.mem_iff_getElem.1 hi
    obtain ⟨b, hb', rfl⟩ := List.mem_iff_getElem.1 hj
    have h1 : ((l.map (·.1)).map r)[a]'(by simpa using ha) = ((l.map (·.1)).map r)[b]'(by simpa using hb') := by simpa using e
    have := (List.getElem_inj hr).1 h1
    subst this; rfl
  · intro i b k e he
    have hm := AHeap.rows_get k
    exact hmono (hc _ (List.mem_map.2 ⟨_, hm, rfl⟩) e he)
  · intro t v hv
    have hm := lookF_mem hv
    exact ⟨Nat.blt_eq.mp (List.all_eq_true.1 hn _ hm), lookF_map hv, hmono (hF _ (List.mem_map.2 ⟨_, hm, rfl⟩))⟩
  · intro i hi _
    have := List.all_eq_true.1 hb i (List.mem_range.2 hi)
    simp only [Bool.and_eq_true] at this
    exact AHeap.rows_in (by simpa using this.1)
  · intro i hi _
    have := List.all_eq_true.1 hb i (List.mem_range.2 hi)
    simp only [Bool.and_eq_true] at this
    exact Nat.eq_of_beq_eq_true this.2
  · intro i hi hlt
    have hi := AHeap.rows_in_of hi
    obtain ⟨p, hm, rfl⟩ := List.mem_map.1 hi
    have := List.all_eq_true.1 hnew p hm
    simp only [Bool.or_eq_true] at this
    rcases this with h1 | h1
    · exact Nat.blt_eq.mp h1
    · have := Nat.le_of_ble_eq_true h1; omega

theorem AHeap.foldl_get_eq (l : List (Nat × ABlk)) : ∀ (h g : AHeap) (i : Nat), h.get i = g.get i → (l.foldl (fun h p => h.set p.1 p.2) h).get i = (l.foldl (fun h p => h.set p.1 p.2) g).get i := by
  induction l with
  | nil => intro h g i e; exact e
  | cons p r ih =>
    intro h g i e
    refine ih _ _ i ?_
    rw [AHeap.get_set, AHeap.get_set, e]

theorem AHeap.foldl_out (l : List (Nat × ABlk)) : ∀ (h : AHeap) (i : Nat), i ∉ l.map (·.1) → (l.foldl (fun h p => h.set p.1 p.2) h).get i = h.get i := by
  induction l with
  | nil => intro h i _; rfl
  | cons p r ih =>
    intro h i hi
    simp only [List.map_cons, List.mem_cons, not_or] at hi
    rw [List.foldl_cons, ih _ i hi.2, AHeap.get_set_ne _ _ (Ne.symm hi.1)]

/-- rows that nobody names -/
theorem Ent.more {base n : Nat} {F : Facts} {K K2 : Nat} {l l2 : List (Nat × ABlk)} (hK : Nat.ble K K2 = true) (h2 : l2.all (fun p => Nat.ble K p.1) = true) : Ent base n F (AHeap.rows K l) F (AHeap.rows K2 (l ++ l2)) := by
  refine Ent.pad (by rw [AHeap.rows_next, AHeap.rows_next]; exact Nat.le_of_ble_eq_true hK) fun i hi => ?_
  rw [AHeap.rows_next] at hi
  unfold AHeap.rows
  rw [List.foldl_append, AHeap.foldl_out l2 _ i fun hm => ?_]
  · exact AHeap.foldl_get_eq l _ _ i rfl
  · obtain ⟨p, hp, rfl⟩ := List.mem_map.1 hm
    have := Nat.le_of_ble_eq_true (List.all_eq_true.1 h2 p hp)
    omega

/-- a row of nothing -/
def noRow0 : ABlk := .made [] 1 true
theorem noRow0_bare : BareB noRow0 := by intro e he; cases he
end
end Go.Lift

namespace Go.Proofs.Ytcgcpmcjaeenlaa
open Go.Lift
set_option maxRecDepth 1000000
set_option linter.unusedSimpArgs false
set_option linter.unusedVariables false
set_option linter.unusedSectionVars false

def tSlN : Nat → Option AAddr
  | 0 => none
  | k + 1 => some ⟨13, k, 0, 0, 4⟩
def tRow (T : List Qd) : ABlk := gRowQ (fun j => T.getD j Qd0) 1 (T.length - 1)
def to13 (N i : Nat) : Nat := if i = 13 then N else i
theorem slFix2 {o : Option AAddr} {n c id ver off es : Nat} (h : SlArg o n c id ver off es) {r : Nat → Nat} (hr : r id = id) : (AVal.slice o n c).ren r = .slice o n c := by
  rcases h with rfl | ⟨rfl, _, _⟩
  · simp [AVal.ren, AAddr.ren, hr]
  · rfl
theorem gRowQ_congr {f g : Nat → Qd} {n1 v : Nat} (h : ∀ j, j < n1 + v → f j = g j) : gRowQ f n1 v = gRowQ g n1 v := by
  unfold gRowQ; rw [qrows_congr h]

theorem tApp1 (r : Qd) (t N : Nat) (hp : AHeap) (hx : elemsOf 4 (.slice (some ⟨t, 0, 0, 0, 4⟩) 1 1) hp = some [r.val]) :
    abuiltin env .append #[22, 22] [.slice none 0 0, .slice (some ⟨t, 0, 0, 0, 4⟩) 1 1] N hp = some (.slice (some ⟨N, 0, 0, 0, 4⟩) 1 1, hp.set N (tRow [r])) :=
  app_quad1 slSpan (f := fun j => [r].getD j Qd0) r rfl t hp hx
theorem tAppG {T : List Qd} {k : Nat} (hk : T.length = k + 1) (hb : k ≤ 2 ^ 40) (r : Qd) (t K : Nat) (hp : AHeap) (hg : hp.get 13 = some (tRow T)) (hx : elemsOf 4 (.slice (some ⟨t, 0, 0, 0, 4⟩) 1 1) hp = some [r.val]) :
    abuiltin env .append #[22, 22] [.slice (some ⟨13, k, 0, 0, 4⟩) (k + 1) (k + 1), .slice (some ⟨t, 0, 0, 0, 4⟩) 1 1] K hp = some (.slice (some ⟨13, k + 1, 0, 0, 4⟩) (k + 1 + 1) (k + 1 + 1), hp.set 13 (tRow (T ++ [r]))) := by
  have e1 : tRow T = gRowQ (fun j => (T ++ [r]).getD j Qd0) 1 k := by
    unfold tRow
    rw [hk, show k + 1 - 1 = k by omega]
    exact gRowQ_congr fun j hj => by simp [List.getD_eq_getElem?_getD, List.getElem?_append_left (show j < T.length by omega)]
  have e2 : tRow (T ++ [r]) = gRowQ (fun j => (T ++ [r]).getD j Qd0) 1 (k + 1) := by
    unfold tRow
    rw [show (T ++ [r]).length - 1 = k + 1 by simp; omega]
  rw [e1] at hg
  have a := app_quad slSpan (f := fun j => (T ++ [r]).getD j Qd0) (n1 := 1) (v := k) (id := 13) (by omega) (by omega) r (by simp [List.getD_eq_getElem?_getD, show 1 + k = T.length by omega]) t K hp hg hx
  rw [show 1 + k = k + 1 by omega] at a
  rw [e2]; exact a

/-- the memory of grid.Flow's loops -/
noncomputable def stH (K : Nat) (b : ABlk) (C : Nat) (T : List Qd) (k : Nat) (l : List AVal) : AHeap := AHeap.rows K [(0, b), (8, brdRow C (tSlN k) k k), (12, .made l 4 true), (13, tRow T)]

theorem tSl_clo {k : Nat} {D : Nat → Prop} (h : D 13) : Clo D (.slice (tSlN k) k k) := by
  cases k with
  | zero => simp [tSlN, Clo]
  | succ k => simpa [tSlN, Clo] using h
theorem tRow_bare (T : List Qd) : BareB (tRow T) := gRowQ_bare _ _ _

section
variable {n C : Nat} (hn : n ≤ 4096) (hC : 1 ≤ C ∧ C ≤ 64) {o : Option AAddr} {c ver off : Nat} {b : ABlk} (hs : SlArg o n c 0 ver off 4) (hb : BareB b) {src : Nat → Qd} (hel : ∀ j, j < n → b.elem? ver (off + j) = some (src j).val)
include hn hC hs hb hel

theorem fl_loop : ∀ (f i : Nat) (T : List Qd), i + f = n → T = fixedL (fun j => normZ C (src j)) i → T.length ≤ i →
    ∃ k, (fixedL (fun j => normZ C (src j)) n).length = k ∧ Loops Try.prog 1 135 (loopAt Try.prog 13 0) [(5, .ptr (some ⟨8, 0, 0, 0, 2⟩)), (6, .slice (some ⟨12, 0, 0, 0, 4⟩) n n), (23, .slice o n c), (24, .int .i64 n), (25, .int .i64 i)]
      (stH 14 b C T T.length (qrows n fun j => if j < i then normZ C (src j) else Qd0)) (.exit 0) [(5, .ptr (some ⟨8, 0, 0, 0, 2⟩)), (6, .slice (some ⟨12, 0, 0, 0, 4⟩) n n)] (stH 15 b C (fixedL (fun j => normZ C (src j)) n) k (qrows n fun j => normZ C (src j)))
  | 0, i, T, e, hT, hl => by
    obtain rfl : i = n := by omega
    subst hT
    refine ⟨_, rfl, ?_⟩
    rw [show (qrows i fun j => if j < i then normZ C (src j) else Qd0) = (qrows i fun j => normZ C (src j)) from qrows_congr fun j hj => by rw [if_pos hj]]
    exact Loops.last (by simp) (fl_end o i c 0 0 0 0 i C b _ b _ 0 0 0 0 _ (by omega))
  | f + 1, i, T, e, hT, hl => by
    have hi : i < n := by omega
    have dc : Clo (Ids [0, 8, 12, 13]) (.slice o n c) := hs.clo (by simp [Ids])
    have dc2 : Clo (Ids [0, 8, 12]) (.slice o n c) := hs.clo (by simp [Ids])
    have nz := normZ_ok (cols := C) (by omega) (src i)
    have c1 : (i : Int) < n := by omega
    have c2 := ix_spS (k := .i64) hs hi
    have c3 := hel i hi
    have c4 : -9223372036854775808 ≤ (C : Int) - inZ2 (src i).c 1 C ∧ (C : Int) - inZ2 (src i).c 1 C ≤ 9223372036854775807 := by unfold inZ2; omega
    have c5 : 0 ≤ (i : Int) ∧ (i : Int) < (n : Int) ∧ 4 = 4 := ⟨by omega, by omega, rfl⟩
    have c6 : 0 = 0 ∧ (qrows n fun j => if j < i then normZ C (src j) else Qd0)[0 + Int.toNat (i : Int)]? = some Qd0.val := ⟨rfl, by rw [show 0 + Int.toNat (i : Int) = i by simp, qrows_get hi]; simp⟩
    have f5 : -9223372036854775808 ≤ (i : Int) + 1 ∧ (i : Int) + (1 : Int) ≤ 9223372036854775807 := by omega
    have es : List.set (qrows n fun j => if j < i then normZ C (src j) else Qd0) (0 + Int.toNat (i : Int)) (normZ C (src i)).val = qrows n fun j => if j < i + 1 then normZ C (src j) else Qd0 := by
      rw [show 0 + Int.toNat (i : Int) = i by simp]
      exact qrows_step (y := fun j => normZ C (src j)) (z := fun _ => Qd0) (i := i)
    have e2 : List.set (qrows n fun j => if j < i then normZ C (src j) else Qd0) (0 + Int.toNat (i : Int)) (.agg [.int .i64 (inZ2 (src i).a (-1) (C - inZ2 (src i).c 1 C)), .int .i64 (inZ2 (src i).b (-1) 4096), .int .i64 (inZ2 (src i).c 1 C), .int .i64 (inZ2 (src i).d 1 4096)]) = qrows n fun j => if j < i + 1 then normZ C (src j) else Qd0 := es
    have back : ∀ {h0 : AHeap} (T2 : List Qd) (k2 : Nat), [h0.get 0, h0.get 8, h0.get 12, h0.get 13] = [some b, some (brdRow C (tSlN k2) k2 k2), some (.made (qrows n fun j => if j < i + 1 then normZ C (src j) else Qd0) 4 true), some (tRow T2)] →
        Ent 1 135 [(5, .ptr (some ⟨8, 0, 0, 0, 2⟩)), (6, .slice (some ⟨12, 0, 0, 0, 4⟩) n n), (23, .slice o n c), (24, .int .i64 n), (25, .int .i64 (i + 1 : Nat))] h0
          [(5, .ptr (some ⟨8, 0, 0, 0, 2⟩)), (6, .slice (some ⟨12, 0, 0, 0, 4⟩) n n), (23, .slice o n c), (24, .int .i64 n), (25, .int .i64 (i + 1 : Nat))] (stH 14 b C T2 k2 (qrows n fun j => if j < i + 1 then normZ C (src j) else Qd0)) := fun T2 k2 e1 =>
      Ent.drop e1 (by kernel_rfl) (by kernel_rfl) (by kernel_rfl) (by simp [All_cons, All_nil, Clo, dc]; simp [Ids]) (by
        simp only [List.map, All_cons, All_nil, and_true]
        exact ⟨hb.clo _, brd_cloI (tSl_clo (by simp [Ids])), (qrows_bare _ _).clo _, (tRow_bare _).clo _⟩)
    by_cases ha : (normZ C (src i)).a ≥ 0
    · by_cases hbb : (normZ C (src i)).b ≥ 0
      · have fx : fixedZ (normZ C (src i)) = true := (fixedZ_iff _).2 ⟨ha, hbb⟩
        have eT : T ++ [normZ C (src i)] = fixedL (fun j => normZ C (src j)) (i + 1) := by
          simp only [fixedL, fx, if_true, hT]
        have el : (T ++ [normZ C (src i)]).length = T.length + 1 := by simp
        obtain ⟨k, hk, ih⟩ := fl_loop f (i + 1) (T ++ [normZ C (src i)]) (by omega) eT (by omega)
        rw [el] at ih
        refine ⟨k, hk, ?_⟩
        cases hc : T.length with
        | zero =>
          have : T = [] := List.eq_nil_of_length_eq_zero hc
          subst this
          have st := fl_new o n c ver off 0 0 i C b b (tRow [normZ C (src i)]) _ (src i).a (src i).b (src i).c (src i).d c1 c2 c3 c4 c5 c6 ha hbb ((tApp1 (normZ C (src i)) _ _ _ (by kernel_rfl)).trans (by kernel_rfl)) f5
          rw [e2] at st
          have pre : Ent 1 135 [(5, .ptr (some ⟨8, 0, 0, 0, 2⟩)), (6, .slice (some ⟨12, 0, 0, 0, 4⟩) n n), (23, .slice o n c), (24, .int .i64 n), (25, .int .i64 i)] (stH 14 b C [] 0 (qrows n fun j => if j < i then normZ C (src j) else Qd0))
              [(5, .ptr (some ⟨8, 0, 0, 0, 2⟩)), (6, .slice (some ⟨12, 0, 0, 0, 4⟩) n n), (23, .slice o n c), (24, .int .i64 n), (25, .int .i64 i)] (AHeap.rows 13 [(0, b), (8, brdRow C none 0 0), (12, .made (qrows n fun j => if j < i then normZ C (src j) else Qd0) 4 true)]) :=
            Ent.drop (by kernel_rfl) (by kernel_rfl) (by kernel_rfl) (by kernel_rfl) (by simp [All_cons, All_nil, Clo, dc2]; simp [Ids]) (by
              simp only [List.map, All_cons, All_nil, and_true]
              exact ⟨hb.clo _, brd_cloI (by simp [Clo]), (qrows_bare _ _).clo _⟩)
          refine Tri.pre (Loops.step (st.post ?_) ih) pre
          refine Ent.move (to13 71) ?_ (by kernel_rfl) (by simp [to13]) (by kernel_rfl) (by kernel_rfl) ?_ (by kernel_rfl) (by simp [All_cons, All_nil, Clo, dc]; simp [Ids]) (by
            simp only [List.map, All_cons, All_nil, and_true]
            exact ⟨hb.clo _, brd_cloI (tSl_clo (by simp [Ids])), (qrows_bare _ _).clo _, (tRow_bare _).clo _⟩)
          · simp only [List.map]
            rw [hb.ren, (qrows_bare _ _).ren, (tRow_bare _).ren]
            kernel_rfl
          · simp only [List.map, slFix2 hs (r := to13 71) rfl]
            rfl
        | succ k0 =>
          rw [hc] at ih
          have st := fl_grow o n c ver off k0 (k0 + 1) i C b (tRow T) (tRow (T ++ [normZ C (src i)])) _ (src i).a (src i).b (src i).c (src i).d c1 c2 c3 c4 c5 c6 ha hbb ((tAppG hc (by omega) (normZ C (src i)) _ _ _ (by kernel_rfl) (by kernel_rfl)).trans (by kernel_rfl)) f5
          rw [e2] at st
          exact Loops.step (st.post (i := back (T ++ [normZ C (src i)]) (k0 + 1 + 1) (by kernel_rfl))) ih
      · have fx : ¬ fixedZ (normZ C (src i)) = true := fun h => hbb ((fixedZ_iff _).1 h).2
        have eT : T = fixedL (fun j => normZ C (src j)) (i + 1) := by simp only [fixedL, fx]; exact hT
        obtain ⟨k, hk, ih⟩ := fl_loop f (i + 1) T (by omega) eT (by omega)
        have st := fl_no2 o n c ver off 0 0 i C b (tRow T) b _ (src i).a (src i).b (src i).c (src i).d (.slice (tSlN T.length) T.length T.length) c1 c2 c3 c4 c5 c6 ha hbb f5
        rw [e2] at st
        exact ⟨k, hk, Loops.step (st.post (i := back T T.length (by kernel_rfl))) ih⟩
    · have fx : ¬ fixedZ (normZ C (src i)) = true := fun h => ha ((fixedZ_iff _).1 h).1
      have eT : T = fixedL (fun j => normZ C (src j)) (i + 1) := by simp only [fixedL, fx]; exact hT
      obtain ⟨k, hk, ih⟩ := fl_loop f (i + 1) T (by omega) eT (by omega)
      have st := fl_no1 o n c ver off 0 0 i C b (tRow T) b _ (src i).a (src i).b (src i).c (src i).d (.slice (tSlN T.length) T.length T.length) c1 c2 c3 c4 c5 c6 ha f5
      rw [e2] at st
      exact ⟨k, hk, Loops.step (st.post (i := back T T.length (by kernel_rfl))) ih⟩
end

end Go.Proofs.Ytcgcpmcjaeenlaa

namespace Go.Proofs.Ytcgcpmcjaeenlaa
open Go.Lift
set_option maxRecDepth 1000000
set_option linter.unusedSimpArgs false
set_option linter.unusedVariables false
set_option linter.unusedSectionVars false

theorem prefix_good {cols : Int} {n m : Nat} {w out : Nat → Qd} (hm : m ≤ n) (hw : ∀ j, j < n → NormZ cols (w j)) (h : ∀ j, j < m → PlaceZ cols (takenL w out n j) (curZ w out j) (w j) (out j)) : ∀ i, i ≤ m → GoodT cols (downM i) (takenL w out n i) ∧ (0 ≤ (curZ w out i).1 ∧ (curZ w out i).1 ≤ downM i) ∧ (0 ≤ (curZ w out i).2 ∧ (curZ w out i).2 ≤ cols ∨ (curZ w out i).2 = 0)
  | 0, _ => ⟨by show GoodT cols (downM 0) (fixedL w n); rw [show downM 0 = 8192 by simp [downM]]; exact fixedL_good hw, by simp [curZ, downM], .inr rfl⟩
  | i + 1, hi => by
    obtain ⟨g1, g2, g3⟩ := prefix_good hm hw h i (by omega)
    have e : downM (i + 1) = downM i + 4097 := by simp only [downM]; push_cast; omega
    have hM : 8192 ≤ downM i := by simp only [downM]; omega
    have pg := place_good g1 hM g2 (hw i (by omega)) (h i (by omega))
    have k := hw i (by omega)
    have k3 := k.c; have k4 := k.d
    have up : GoodT cols (downM (i + 1)) (takenL w out n i) := fun t ht => by have := g1 t ht; omega
    refine ⟨?_, ?_, ?_⟩
    · simp only [takenL]
      split
      · exact up
      · intro t ht
        rcases List.mem_append.1 ht with ht | ht
        · exact up t ht
        · obtain rfl := List.mem_singleton.1 ht
          omega
    · simp only [curZ]
      split
      · simp only; omega
      · omega
    · simp only [curZ]
      split
      · simp only; omega
      · omega
theorem fixedL_len (w : Nat → Qd) : ∀ n, (fixedL w n).length ≤ n
  | 0 => Nat.le_refl _
  | n + 1 => by
    have := fixedL_len w n
    simp only [fixedL]
    split
    · simp; omega
    · omega
theorem takenL_len (w out : Nat → Qd) (n : Nat) : ∀ i, (takenL w out n i).length ≤ n + i
  | 0 => fixedL_len w n
  | i + 1 => by
    have := takenL_len w out n i
    simp only [takenL]
    split
    · omega
    · simp; omega
theorem tRow_el {T : List Qd} {k : Nat} (h : T.length = k + 1) : ElT (tRow T) k T := fun j t ht => by
  have hj := (List.getElem?_eq_some_iff.1 ht).1
  have e := gRowQ_el (f := fun j => T.getD j Qd0) (n1 := 1) (v := k) (j := j) (by omega)
  unfold tRow
  rw [show T.length - 1 = k by omega, e]
  simp [List.getD_eq_getElem?_getD, ht]
theorem norm_small {C : Nat} (hC : C ≤ 64) {s : Qd} (h : NormZ C s) : Small s := by
  have h1 := h.a; have h2 := h.b; have h3 := h.c; have h4 := h.d
  unfold Small; omega
theorem row_step {n i : Nat} {out w : Nat → Qd} {r : Qd} : (qrows n fun j => if j < i then out j else w j).set i r.val = qrows n fun j => if j < i + 1 then (if j = i then r else out j) else w j := by
  apply List.ext_getElem (by simp)
  intro j h1 h2
  rw [List.getElem_set]
  simp only [qrows, List.getElem_map, List.getElem_range]
  by_cases e : i = j
  · subst e; simp
  · rw [if_neg e]
    by_cases c : j < i
    · rw [if_pos c, if_pos (by omega), if_neg (Ne.symm e)]
    · rw [if_neg c, if_neg (by omega)]

section
variable {n C : Nat} (hn : n ≤ 4096) (hC : 1 ≤ C ∧ C ≤ 64) {b : ABlk} (hb : BareB b) {w : Nat → Qd} (hw : ∀ j, j < n → NormZ C (w j))
include hn hC hb hw

theorem fx_mv {N : Nat} (hN : N = 49 ∨ N = 53 ∨ N = 61) (y x : Int) (i : Nat) (r : Qd) (g : Nat → Qd) {h0 : AHeap} (e : [h0.get 0, h0.get 8, h0.get 12, h0.get N] = [some b, some (brdRow C (some ⟨N, 0, 0, 0, 4⟩) 1 1), some (.made (qrows n g) 4 true), some (tRow [r])]) :
    Ent 1 135 [(5, .ptr (some ⟨8, 0, 0, 0, 2⟩)), (6, .slice (some ⟨12, 0, 0, 0, 4⟩) n n), (9, .int .i64 y), (10, .int .i64 x), (80, .slice (some ⟨12, 0, 0, 0, 4⟩) n n), (81, .int .i64 n), (82, .int .i64 i)] h0
      [(5, .ptr (some ⟨8, 0, 0, 0, 2⟩)), (6, .slice (some ⟨12, 0, 0, 0, 4⟩) n n), (9, .int .i64 y), (10, .int .i64 x), (80, .slice (some ⟨12, 0, 0, 0, 4⟩) n n), (81, .int .i64 n), (82, .int .i64 i)] (stH 14 b C [r] 1 (qrows n g)) := by
  rcases hN with rfl | rfl | rfl
  · refine Ent.move (to13 49) ?_ (by kernel_rfl) (by simp [to13]) (by kernel_rfl) (by kernel_rfl) rfl (by kernel_rfl) (by simp [All_cons, All_nil, Clo]; simp [Ids]) (by
      simp only [List.map, All_cons, All_nil, and_true]
      exact ⟨hb.clo _, brd_cloI (tSl_clo (by simp [Ids])), (qrows_bare _ _).clo _, (tRow_bare _).clo _⟩)
    simp only [List.map]
    rw [hb.ren, (qrows_bare _ _).ren, (tRow_bare _).ren]
    exact e
  · refine Ent.move (to13 53) ?_ (by kernel_rfl) (by simp [to13]) (by kernel_rfl) (by kernel_rfl) rfl (by kernel_rfl) (by simp [All_cons, All_nil, Clo]; simp [Ids]) (by
      simp only [List.map, All_cons, All_nil, and_true]
      exact ⟨hb.clo _, brd_cloI (tSl_clo (by simp [Ids])), (qrows_bare _ _).clo _, (tRow_bare _).clo _⟩)
    simp only [List.map]
    rw [hb.ren, (qrows_bare _ _).ren, (tRow_bare _).ren]
    exact e
  · refine Ent.move (to13 61) ?_ (by kernel_rfl) (by simp [to13]) (by kernel_rfl) (by kernel_rfl) rfl (by kernel_rfl) (by simp [All_cons, All_nil, Clo]; simp [Ids]) (by
      simp only [List.map, All_cons, All_nil, and_true]
      exact ⟨hb.clo _, brd_cloI (tSl_clo (by simp [Ids])), (qrows_bare _ _).clo _, (tRow_bare _).clo _⟩)
    simp only [List.map]
    rw [hb.ren, (qrows_bare _ _).ren, (tRow_bare _).ren]
    exact e

theorem fx_loop : ∀ (f i : Nat) (out : Nat → Qd) (T : List Qd) (y x : Int), i + f = n → (∀ j, j < i → PlaceZ C (takenL w out n j) (curZ w out j) (w j) (out j)) → T = takenL w out n i → (y, x) = curZ w out i →
    ∃ out2, FlowZ C n w out2 ∧ Loops Try.prog 1 135 (loopAt Try.prog 13 1) [(5, .ptr (some ⟨8, 0, 0, 0, 2⟩)), (6, .slice (some ⟨12, 0, 0, 0, 4⟩) n n), (9, .int .i64 y), (10, .int .i64 x), (80, .slice (some ⟨12, 0, 0, 0, 4⟩) n n), (81, .int .i64 n), (82, .int .i64 i)]
      (stH 14 b C T T.length (qrows n fun j => if j < i then out j else w j)) (.exit 2) [(6, .slice (some ⟨12, 0, 0, 0, 4⟩) n n)] (AHeap.rows 15 [(0, b), (12, .made (qrows n out2) 4 true)])
  | 0, i, out, T, y, x, e, hp, hT, hyx => by
    obtain rfl : i = n := by omega
    refine ⟨out, hp, ?_⟩
    rw [show (qrows i fun j => if j < i then out j else w j) = qrows i out from qrows_congr fun j hj => by rw [if_pos hj]]
    refine (Loops.last (by simp) (fx_end i 0 0 i C b (tRow T) b _ y x 0 0 0 0 0 0 0 0 (.slice (tSlN T.length) T.length T.length) (by omega))).post ?_
    exact Ent.drop (by kernel_rfl) (by kernel_rfl) (by kernel_rfl) (by kernel_rfl) (by simp [All_cons, All_nil, Clo, Ids]) (by
      simp only [List.map, All_cons, All_nil, and_true]
      exact ⟨hb.clo _, (qrows_bare _ _).clo _⟩)
  | f + 1, i, out, T, y, x, e, hp, hT, hyx => by
    have hi : i < n := by omega
    obtain ⟨g1, g2, g3⟩ := prefix_good (m := i) (by omega) hw hp i (Nat.le_refl _)
    have g3x : 0 ≤ x ∧ x ≤ 2 ^ 40 := by
      have e3 : x = (curZ w out i).2 := by rw [← hyx]
      rw [e3]; omega
    rw [← hyx] at g2
    rw [← hT] at g1
    simp only at g2
    have nw := hw i hi
    have n1 := nw.a; have n2 := nw.b; have n3 := nw.c; have n4 := nw.d
    have sw := norm_small hC.2 nw
    have hM : 0 ≤ downM i ∧ downM i ≤ 2 ^ 39 := by unfold downM; omega
    have hlen : T.length ≤ 2 ^ 40 := by have := takenL_len w out n i; rw [← hT] at this; omega
    have c1 : (i : Int) < n := by omega
    have c5 : 0 ≤ (i : Int) ∧ (i : Int) < (n : Int) ∧ 4 = 4 := ⟨by omega, by omega, rfl⟩
    have rg : (qrows n fun j => if j < i then out j else w j)[0 + Int.toNat (i : Int)]? = some (w i).val := by rw [show 0 + Int.toNat (i : Int) = i by simp, qrows_get hi]; simp
    have c6 : (ABlk.made (qrows n fun j => if j < i then out j else w j) 4 true).elem? 0 (0 + Int.toNat (i : Int)) = some (w i).val := elem_made rg
    have f5 : -9223372036854775808 ≤ (i : Int) + 1 ∧ (i : Int) + (1 : Int) ≤ 9223372036854775807 := by omega
    have es : ∀ r : Qd, List.set (qrows n fun j => if j < i then out j else w j) (0 + Int.toNat (i : Int)) (.agg [.int .i64 r.a, .int .i64 r.b, .int .i64 r.c, .int .i64 r.d]) = qrows n fun j => if j < i + 1 then (if j = i then r else out j) else w j := fun r => by
      rw [show 0 + Int.toNat (i : Int) = i by simp]; exact row_step
    have back : ∀ {h0 : AHeap} (T2 : List Qd) (k2 : Nat) (y2 x2 : Int) (g : Nat → Qd), [h0.get 0, h0.get 8, h0.get 12, h0.get 13] = [some b, some (brdRow C (tSlN k2) k2 k2), some (.made (qrows n g) 4 true), some (tRow T2)] →
        Ent 1 135 [(5, .ptr (some ⟨8, 0, 0, 0, 2⟩)), (6, .slice (some ⟨12, 0, 0, 0, 4⟩) n n), (9, .int .i64 y2), (10, .int .i64 x2), (80, .slice (some ⟨12, 0, 0, 0, 4⟩) n n), (81, .int .i64 n), (82, .int .i64 (i + 1 : Nat))] h0
          [(5, .ptr (some ⟨8, 0, 0, 0, 2⟩)), (6, .slice (some ⟨12, 0, 0, 0, 4⟩) n n), (9, .int .i64 y2), (10, .int .i64 x2), (80, .slice (some ⟨12, 0, 0, 0, 4⟩) n n), (81, .int .i64 n), (82, .int .i64 (i + 1 : Nat))] (stH 14 b C T2 k2 (qrows n g)) := fun T2 k2 y2 x2 g e1 =>
      Ent.drop e1 (by kernel_rfl) (by kernel_rfl) (by kernel_rfl) (by simp [All_cons, All_nil, Clo]; simp [Ids]) (by
        simp only [List.map, All_cons, All_nil, and_true]
        exact ⟨hb.clo _, brd_cloI (tSl_clo (by simp [Ids])), (qrows_bare _ _).clo _, (tRow_bare _).clo _⟩)
    -- what is known once a place is found
    have nxt : ∀ r : Qd, PlaceZ C T (y, x) (w i) r → (∀ j, j < i + 1 → PlaceZ C (takenL w (fun j => if j = i then r else out j) n j) (curZ w (fun j => if j = i then r else out j) j) (w j) (if j = i then r else out j)) ∧ takenL w (fun j => if j = i then r else out j) n i = T ∧ curZ w (fun j => if j = i then r else out j) i = (y, x) := fun r hr => by
      have cg : ∀ j, j ≤ i → takenL w (fun j => if j = i then r else out j) n j = takenL w out n j ∧ curZ w (fun j => if j = i then r else out j) j = curZ w out j := fun j hj => takenL_congr fun k hk => by rw [if_neg (by omega)]
      refine ⟨fun j hj => ?_, by rw [(cg i (Nat.le_refl _)).1, hT], by rw [(cg i (Nat.le_refl _)).2, hyx]⟩
      by_cases c : j = i
      · subst c
        rw [(cg j (Nat.le_refl _)).1, (cg j (Nat.le_refl _)).2, if_pos rfl, ← hT, ← hyx]; exact hr
      · rw [(cg j (by omega)).1, (cg j (by omega)).2, if_neg c]; exact hp j (by omega)
    by_cases ha : (w i).a ≥ 0
    · by_cases hbb : (w i).b ≥ 0
      · -- it has its place
        have fx : fixedZ (w i) = true := (fixedZ_iff _).2 ⟨ha, hbb⟩
        obtain ⟨m1, m2, m3⟩ := nxt (w i) (by unfold PlaceZ; rw [if_pos fx])
        obtain ⟨o2, q1, l⟩ := fx_loop f (i + 1) (fun j => if j = i then w i else out j) T y x (by omega) m1 (by simp only [takenL, fx, if_true]; exact m2.symm) (by simp only [curZ]; rw [if_neg (by omega)]; exact m3.symm)
        rw [show (qrows n fun j => if j < i + 1 then (if j = i then w i else out j) else w j) = (qrows n fun j => if j < i then out j else w j) from qrows_congr fun j _ => by
          by_cases c : j = i
          · subst c; simp
          · by_cases c2 : j < i
            · rw [if_pos c2, if_pos (by omega), if_neg c]
            · rw [if_neg c2, if_neg (by omega)]] at l
        exact ⟨o2, q1, Loops.step ((fx_fixed n 0 0 i C b (tRow T) b _ y x (w i).a (w i).b (w i).c (w i).d 0 0 0 0 (.slice (tSlN T.length) T.length T.length) c1 c5 c6 ha hbb f5).post (i := back T T.length y x _ (by kernel_rfl))) l⟩
      · -- down
        have fx : ¬ fixedZ (w i) = true := fun h => hbb ((fixedZ_iff _).1 h).2
        have fin : ∀ r : Qd, DownZ T (w i) r → PlaceZ C T (y, x) (w i) r ∧ True := fun r hr => ⟨by unfold PlaceZ; rw [if_neg fx, if_neg hbb, if_pos (by omega)]; exact hr, trivial⟩
        have ih : ∀ r : Qd, DownZ T (w i) r → ∃ o2, FlowZ C n w o2 ∧ Loops Try.prog 1 135 (loopAt Try.prog 13 1) [(5, .ptr (some ⟨8, 0, 0, 0, 2⟩)), (6, .slice (some ⟨12, 0, 0, 0, 4⟩) n n), (9, .int .i64 y), (10, .int .i64 x), (80, .slice (some ⟨12, 0, 0, 0, 4⟩) n n), (81, .int .i64 n), (82, .int .i64 (i + 1 : Nat))]
            (stH 14 b C (T ++ [r]) (T.length + 1) (qrows n fun j => if j < i + 1 then (if j = i then r else out j) else w j)) (.exit 2) [(6, .slice (some ⟨12, 0, 0, 0, 4⟩) n n)] (AHeap.rows 15 [(0, b), (12, .made (qrows n o2) 4 true)]) := fun r hr => by
          obtain ⟨m1, m2, m3⟩ := nxt r (fin r hr).1
          have := fx_loop f (i + 1) (fun j => if j = i then r else out j) (T ++ [r]) y x (by omega) m1 (by simp only [takenL]; rw [if_neg fx, m2, if_pos trivial]) (by simp only [curZ]; rw [if_neg (by omega)]; exact m3.symm)
          rwa [show (T ++ [r]).length = T.length + 1 by simp] at this
        cases hc : T.length with
        | zero =>
          have t0 : T = [] := List.eq_nil_of_length_eq_zero hc
          have bd : BoardAt (AHeap.rows 41 [(0, b), (8, brdRow C none 0 0), (12, .made (qrows n fun j => if j < i then out j else w j) 4 true), (17, .made [(w i).val] 4 true)]) 8 0 C none 0 0 0 b T := ⟨by kernel_rfl, by kernel_rfl, .inr ⟨rfl, rfl, rfl⟩, by decide, by rw [AHeap.rows_next]; omega, by rw [AHeap.rows_next]; omega, hb, hc, fun j t h => by rw [t0] at h; simp at h⟩
          obtain ⟨r, r1, r2⟩ := down_does bd g1 hC.2 hM (by omega) sw
          obtain ⟨o2, q1, l⟩ := ih r r1
          subst t0
          refine ⟨o2, q1, ?_⟩
          have st := fx_dn_new n 0 0 i C b b (tRow [r]) _ y x (w i).a (w i).b (w i).c (w i).d r.a r.b r.c r.d c1 c5 c6 ha hbb hbb ha r2 c5 ⟨rfl, rg⟩ ((tApp1 r _ _ _ (by kernel_rfl)).trans (by kernel_rfl)) f5
          rw [es r] at st
          have pre : Ent 1 135 [(5, .ptr (some ⟨8, 0, 0, 0, 2⟩)), (6, .slice (some ⟨12, 0, 0, 0, 4⟩) n n), (9, .int .i64 y), (10, .int .i64 x), (80, .slice (some ⟨12, 0, 0, 0, 4⟩) n n), (81, .int .i64 n), (82, .int .i64 i)] (stH 14 b C [] 0 (qrows n fun j => if j < i then out j else w j))
              [(5, .ptr (some ⟨8, 0, 0, 0, 2⟩)), (6, .slice (some ⟨12, 0, 0, 0, 4⟩) n n), (9, .int .i64 y), (10, .int .i64 x), (80, .slice (some ⟨12, 0, 0, 0, 4⟩) n n), (81, .int .i64 n), (82, .int .i64 i)] (AHeap.rows 13 [(0, b), (8, brdRow C none 0 0), (12, .made (qrows n fun j => if j < i then out j else w j) 4 true)]) :=
            Ent.drop (by kernel_rfl) (by kernel_rfl) (by kernel_rfl) (by kernel_rfl) (by simp [All_cons, All_nil, Clo]; simp [Ids]) (by
              simp only [List.map, All_cons, All_nil, and_true]
              exact ⟨hb.clo _, brd_cloI (by simp [Clo]), (qrows_bare _ _).clo _⟩)
          exact Tri.pre (Loops.step (st.post (i := fx_mv hn hC hb hw (N := 53) (by omega) y x (i + 1) r _ (by kernel_rfl))) l) pre
        | succ k0 =>
          have bd : BoardAt (AHeap.rows 42 [(0, b), (8, brdRow C (some ⟨13, k0, 0, 0, 4⟩) (k0 + 1) (k0 + 1)), (12, .made (qrows n fun j => if j < i then out j else w j) 4 true), (13, tRow T), (18, .made [(w i).val] 4 true)]) 8 13 C (some ⟨13, k0, 0, 0, 4⟩) (k0 + 1) (k0 + 1) k0 (tRow T) T := ⟨by kernel_rfl, by kernel_rfl, .inl rfl, by decide, by rw [AHeap.rows_next]; omega, by rw [AHeap.rows_next]; omega, tRow_bare _, hc, tRow_el hc⟩
          obtain ⟨r, r1, r2⟩ := down_does bd g1 hC.2 hM (by omega) sw
          obtain ⟨o2, q1, l⟩ := ih r r1
          rw [hc] at l
          refine ⟨o2, q1, ?_⟩
          have st := fx_dn_grow n k0 (k0 + 1) i C b (tRow T) (tRow (T ++ [r])) _ y x (w i).a (w i).b (w i).c (w i).d r.a r.b r.c r.d c1 c5 c6 ha hbb hbb ha r2 c5 ⟨rfl, rg⟩ ((tAppG hc (by omega) r _ _ _ (by kernel_rfl) (by kernel_rfl)).trans (by kernel_rfl)) f5
          rw [es r] at st
          exact Loops.step (st.post (i := back (T ++ [r]) (k0 + 1 + 1) y x _ (by kernel_rfl))) l
    · by_cases hbb : (w i).b ≥ 0
      · -- across
        have fx : ¬ fixedZ (w i) = true := fun h => ha ((fixedZ_iff _).1 h).1
        have ih : ∀ r : Qd, AcrossZ T C (w i) r → ∃ o2, FlowZ C n w o2 ∧ Loops Try.prog 1 135 (loopAt Try.prog 13 1) [(5, .ptr (some ⟨8, 0, 0, 0, 2⟩)), (6, .slice (some ⟨12, 0, 0, 0, 4⟩) n n), (9, .int .i64 y), (10, .int .i64 x), (80, .slice (some ⟨12, 0, 0, 0, 4⟩) n n), (81, .int .i64 n), (82, .int .i64 (i + 1 : Nat))]
            (stH 14 b C (T ++ [r]) (T.length + 1) (qrows n fun j => if j < i + 1 then (if j = i then r else out j) else w j)) (.exit 2) [(6, .slice (some ⟨12, 0, 0, 0, 4⟩) n n)] (AHeap.rows 15 [(0, b), (12, .made (qrows n o2) 4 true)]) := fun r hr => by
          obtain ⟨m1, m2, m3⟩ := nxt r (by unfold PlaceZ; rw [if_neg fx, if_pos (by omega)]; exact hr)
          have := fx_loop f (i + 1) (fun j => if j = i then r else out j) (T ++ [r]) y x (by omega) m1 (by simp only [takenL]; rw [if_neg fx, m2, if_pos trivial]) (by simp only [curZ]; rw [if_neg (by omega)]; exact m3.symm)
          rwa [show (T ++ [r]).length = T.length + 1 by simp] at this
        cases hc : T.length with
        | zero =>
          have t0 : T = [] := List.eq_nil_of_length_eq_zero hc
          have bd : BoardAt (AHeap.rows 37 [(0, b), (8, brdRow C none 0 0), (12, .made (qrows n fun j => if j < i then out j else w j) 4 true), (17, .made [(w i).val] 4 true)]) 8 0 C none 0 0 0 b T := ⟨by kernel_rfl, by kernel_rfl, .inr ⟨rfl, rfl, rfl⟩, by decide, by rw [AHeap.rows_next]; omega, by rw [AHeap.rows_next]; omega, hb, hc, fun j t h => by rw [t0] at h; simp at h⟩
          obtain ⟨r, r1, r2⟩ := across_does bd g1 hC.2 hM (by omega) sw n3.1
          obtain ⟨o2, q1, l⟩ := ih r r1
          subst t0
          refine ⟨o2, q1, ?_⟩
          have st := fx_ac_new n 0 0 i C b b (tRow [r]) _ y x (w i).a (w i).b (w i).c (w i).d r.a r.b r.c r.d c1 c5 c6 ha hbb r2 c5 ⟨rfl, rg⟩ ((tApp1 r _ _ _ (by kernel_rfl)).trans (by kernel_rfl)) f5
          rw [es r] at st
          have pre : Ent 1 135 [(5, .ptr (some ⟨8, 0, 0, 0, 2⟩)), (6, .slice (some ⟨12, 0, 0, 0, 4⟩) n n), (9, .int .i64 y), (10, .int .i64 x), (80, .slice (some ⟨12, 0, 0, 0, 4⟩) n n), (81, .int .i64 n), (82, .int .i64 i)] (stH 14 b C [] 0 (qrows n fun j => if j < i then out j else w j))
              [(5, .ptr (some ⟨8, 0, 0, 0, 2⟩)), (6, .slice (some ⟨12, 0, 0, 0, 4⟩) n n), (9, .int .i64 y), (10, .int .i64 x), (80, .slice (some ⟨12, 0, 0, 0, 4⟩) n n), (81, .int .i64 n), (82, .int .i64 i)] (AHeap.rows 13 [(0, b), (8, brdRow C none 0 0), (12, .made (qrows n fun j => if j < i then out j else w j) 4 true)]) :=
            Ent.drop (by kernel_rfl) (by kernel_rfl) (by kernel_rfl) (by kernel_rfl) (by simp [All_cons, All_nil, Clo]; simp [Ids]) (by
              simp only [List.map, All_cons, All_nil, and_true]
              exact ⟨hb.clo _, brd_cloI (by simp [Clo]), (qrows_bare _ _).clo _⟩)
          exact Tri.pre (Loops.step (st.post (i := fx_mv hn hC hb hw (N := 49) (by omega) y x (i + 1) r _ (by kernel_rfl))) l) pre
        | succ k0 =>
          have bd : BoardAt (AHeap.rows 38 [(0, b), (8, brdRow C (some ⟨13, k0, 0, 0, 4⟩) (k0 + 1) (k0 + 1)), (12, .made (qrows n fun j => if j < i then out j else w j) 4 true), (13, tRow T), (18, .made [(w i).val] 4 true)]) 8 13 C (some ⟨13, k0, 0, 0, 4⟩) (k0 + 1) (k0 + 1) k0 (tRow T) T := ⟨by kernel_rfl, by kernel_rfl, .inl rfl, by decide, by rw [AHeap.rows_next]; omega, by rw [AHeap.rows_next]; omega, tRow_bare _, hc, tRow_el hc⟩
          obtain ⟨r, r1, r2⟩ := across_does bd g1 hC.2 hM (by omega) sw n3.1
          obtain ⟨o2, q1, l⟩ := ih r r1
          rw [hc] at l
          refine ⟨o2, q1, ?_⟩
          have st := fx_ac_grow n k0 (k0 + 1) i C b (tRow T) (tRow (T ++ [r])) _ y x (w i).a (w i).b (w i).c (w i).d r.a r.b r.c r.d c1 c5 c6 ha hbb r2 c5 ⟨rfl, rg⟩ ((tAppG hc (by omega) r _ _ _ (by kernel_rfl) (by kernel_rfl)).trans (by kernel_rfl)) f5
          rw [es r] at st
          exact Loops.step (st.post (i := back (T ++ [r]) (k0 + 1 + 1) y x _ (by kernel_rfl))) l
      · -- behind
        have fx : ¬ fixedZ (w i) = true := fun h => ha ((fixedZ_iff _).1 h).1
        have ih : ∀ r : Qd, BehindZ T C (w i) y x r → ∃ o2, FlowZ C n w o2 ∧ Loops Try.prog 1 135 (loopAt Try.prog 13 1) [(5, .ptr (some ⟨8, 0, 0, 0, 2⟩)), (6, .slice (some ⟨12, 0, 0, 0, 4⟩) n n), (9, .int .i64 r.b), (10, .int .i64 r.a), (80, .slice (some ⟨12, 0, 0, 0, 4⟩) n n), (81, .int .i64 n), (82, .int .i64 (i + 1 : Nat))]
            (stH 14 b C (T ++ [r]) (T.length + 1) (qrows n fun j => if j < i + 1 then (if j = i then r else out j) else w j)) (.exit 2) [(6, .slice (some ⟨12, 0, 0, 0, 4⟩) n n)] (AHeap.rows 15 [(0, b), (12, .made (qrows n o2) 4 true)]) := fun r hr => by
          obtain ⟨m1, m2, m3⟩ := nxt r (by unfold PlaceZ; rw [if_neg fx, if_neg hbb, if_neg ha]; exact hr)
          have := fx_loop f (i + 1) (fun j => if j = i then r else out j) (T ++ [r]) r.b r.a (by omega) m1 (by simp only [takenL]; rw [if_neg fx, m2, if_pos trivial]) (by simp only [curZ]; rw [if_pos ⟨by omega, by omega⟩, if_pos trivial])
          rwa [show (T ++ [r]).length = T.length + 1 by simp] at this
        cases hc : T.length with
        | zero =>
          have t0 : T = [] := List.eq_nil_of_length_eq_zero hc
          have bd : BoardAt (AHeap.rows 43 [(0, b), (8, brdRow C none 0 0), (12, .made (qrows n fun j => if j < i then out j else w j) 4 true), (17, .made [(w i).val] 4 true)]) 8 0 C none 0 0 0 b T := ⟨by kernel_rfl, by kernel_rfl, .inr ⟨rfl, rfl, rfl⟩, by decide, by rw [AHeap.rows_next]; omega, by rw [AHeap.rows_next]; omega, hb, hc, fun j t h => by rw [t0] at h; simp at h⟩
          obtain ⟨r, r1, r2⟩ := behind_does bd g1 hC.2 hM (by omega) sw n3 g2 g3x
          obtain ⟨o2, q1, l⟩ := ih r r1
          subst t0
          refine ⟨o2, q1, ?_⟩
          have st := fx_bh_new n 0 0 i C b b (tRow [r]) _ y x (w i).a (w i).b (w i).c (w i).d r.a r.b r.c r.d c1 c5 c6 ha hbb ha r2 c5 ⟨rfl, rg⟩ ((tApp1 r _ _ _ (by kernel_rfl)).trans (by kernel_rfl)) f5
          rw [es r] at st
          have pre : Ent 1 135 [(5, .ptr (some ⟨8, 0, 0, 0, 2⟩)), (6, .slice (some ⟨12, 0, 0, 0, 4⟩) n n), (9, .int .i64 y), (10, .int .i64 x), (80, .slice (some ⟨12, 0, 0, 0, 4⟩) n n), (81, .int .i64 n), (82, .int .i64 i)] (stH 14 b C [] 0 (qrows n fun j => if j < i then out j else w j))
              [(5, .ptr (some ⟨8, 0, 0, 0, 2⟩)), (6, .slice (some ⟨12, 0, 0, 0, 4⟩) n n), (9, .int .i64 y), (10, .int .i64 x), (80, .slice (some ⟨12, 0, 0, 0, 4⟩) n n), (81, .int .i64 n), (82, .int .i64 i)] (AHeap.rows 13 [(0, b), (8, brdRow C none 0 0), (12, .made (qrows n fun j => if j < i then out j else w j) 4 true)]) :=
            Ent.drop (by kernel_rfl) (by kernel_rfl) (by kernel_rfl) (by kernel_rfl) (by simp [All_cons, All_nil, Clo]; simp [Ids]) (by
              simp only [List.map, All_cons, All_nil, and_true]
              exact ⟨hb.clo _, brd_cloI (by simp [Clo]), (qrows_bare _ _).clo _⟩)
          exact Tri.pre (Loops.step (st.post (i := fx_mv hn hC hb hw (N := 61) (by omega) r.b r.a (i + 1) r _ (by kernel_rfl))) l) pre
        | succ k0 =>
          have bd : BoardAt (AHeap.rows 44 [(0, b), (8, brdRow C (some ⟨13, k0, 0, 0, 4⟩) (k0 + 1) (k0 + 1)), (12, .made (qrows n fun j => if j < i then out j else w j) 4 true), (13, tRow T), (18, .made [(w i).val] 4 true)]) 8 13 C (some ⟨13, k0, 0, 0, 4⟩) (k0 + 1) (k0 + 1) k0 (tRow T) T := ⟨by kernel_rfl, by kernel_rfl, .inl rfl, by decide, by rw [AHeap.rows_next]; omega, by rw [AHeap.rows_next]; omega, tRow_bare _, hc, tRow_el hc⟩
          obtain ⟨r, r1, r2⟩ := behind_does bd g1 hC.2 hM (by omega) sw n3 g2 g3x
          obtain ⟨o2, q1, l⟩ := ih r r1
          rw [hc] at l
          refine ⟨o2, q1, ?_⟩
          have st := fx_bh_grow n k0 (k0 + 1) i C b (tRow T) (tRow (T ++ [r])) _ y x (w i).a (w i).b (w i).c (w i).d r.a r.b r.c r.d c1 c5 c6 ha hbb ha r2 c5 ⟨rfl, rg⟩ ((tAppG hc (by omega) r _ _ _ (by kernel_rfl) (by kernel_rfl)).trans (by kernel_rfl)) f5
          rw [es r] at st
          exact Loops.step (st.post (i := back (T ++ [r]) (k0 + 1 + 1) r.b r.a _ (by kernel_rfl))) l
end

end Go.Proofs.Ytcgcpmcjaeenlaa

namespace Go.Proofs.Ytcgcpmcjaeenlaa
open Go.Lift
set_option maxRecDepth 1000000
set_option linter.unusedSimpArgs false
set_option linter.unusedVariables false
set_option linter.unusedSectionVars false

/-- how many spans are told -/
def flen (n : Nat) : Nat := if 4096 < n then 0 else n
theorem flen_le (n : Nat) : flen n ≤ n ∧ flen n ≤ 4096 := by unfold flen; split <;> omega
theorem colsZ_range (cols : Int) : 1 ≤ colsZ cols ∧ colsZ cols ≤ 64 := by unfold colsZ; omega

/-- what grid.Flow tells of a list -/
def FlowsTo (n : Nat) (src : Nat → Qd) (cols : Int) (out : Nat → Qd) : Prop := FlowZ (colsZ cols) (flen n) (fun j => normZ (colsZ cols) (src j)) out

theorem flow_does {H : AHeap} {o : Option AAddr} {n c id ver off : Nat} {b : ABlk} {src : Nat → Qd} (h : QdsAt H o n c id ver off b src) (cols : Int) (hn : n ≤ 4096) :
    ∃ out, FlowZ (colsZ cols) n (fun j => normZ (colsZ cols) (src j)) out ∧ FDoes Try.prog 13 [.slice o n c, .int .i64 cols] H (.slice (some ⟨H.next, 0, 0, 0, 4⟩) n n) (H.upd [] [.made (qrows n out) 4 true]) := by
  have s1 := h.sl.at 0
  have cr := colsZ_range cols
  obtain ⟨C, hC⟩ : ∃ C : Nat, (C : Int) = colsZ cols := ⟨(colsZ cols).toNat, by omega⟩
  rw [← hC]
  have hC2 : 1 ≤ C ∧ C ≤ 64 := by omega
  obtain ⟨k, hk, l1⟩ := fl_loop hn hC2 s1 h.bare h.el n 0 [] (by omega) rfl (Nat.le_refl _)
  obtain ⟨out, fo, l2⟩ := fx_loop hn hC2 h.bare (w := fun j => normZ C (src j)) (fun j _ => normZ_ok (by omega) _) n 0 (fun _ => Qd0) (fixedL (fun j => normZ C (src j)) n) 0 0 (by omega) (fun j hj => by omega) rfl rfl
  refine ⟨out, fo, ?_⟩
  rw [hk] at l2
  rw [show (qrows n fun j => if j < 0 then normZ C (src j) else Qd0) = List.replicate n Qd0.val from (qrows_zero2 _ _).symm] at l1
  rw [show (qrows n fun j => if j < 0 then Qd0 else normZ C (src j)) = (qrows n fun j => normZ C (src j)) from qrows_congr fun j _ => by rw [if_neg (by omega)]] at l2
  have d0 : Clo (Ids [0, 8, 12]) (.slice (o.map fun a => { a with id := 0 }) n c) := s1.clo (by simp [Ids])
  have p1 : Ent 1 135 [(5, .ptr (some ⟨8, 0, 0, 0, 2⟩)), (6, .slice (some ⟨12, 0, 0, 0, 4⟩) n n), (23, .slice (o.map fun a => { a with id := 0 }) n c), (24, .int .i64 n), (25, .int .i64 (0 : Nat))] (AHeap.rows 17 [(0, b), (8, brdRow C none 0 0), (12, .made (List.replicate n Qd0.val) 4 true)])
      [(5, .ptr (some ⟨8, 0, 0, 0, 2⟩)), (6, .slice (some ⟨12, 0, 0, 0, 4⟩) n n), (23, .slice (o.map fun a => { a with id := 0 }) n c), (24, .int .i64 n), (25, .int .i64 (0 : Nat))] (AHeap.rows 13 [(0, b), (8, brdRow C none 0 0), (12, .made (List.replicate n Qd0.val) 4 true)]) :=
    Ent.drop (by kernel_rfl) (by kernel_rfl) (by kernel_rfl) (by kernel_rfl) (by simp [All_cons, All_nil, Clo, d0]; simp [Ids]) (by
      simp only [List.map, All_cons, All_nil, and_true]
      exact ⟨h.bare.clo _, brd_cloI (by simp [Clo]), by rw [qrows_zero]; exact (qrows_bare _ _).clo _⟩)
  have p2 : Ent 1 135 [(5, .ptr (some ⟨8, 0, 0, 0, 2⟩)), (6, .slice (some ⟨12, 0, 0, 0, 4⟩) n n), (23, .slice (o.map fun a => { a with id := 0 }) n c), (24, .int .i64 n), (25, .int .i64 (0 : Nat))] (AHeap.rows 13 [(0, b), (8, brdRow C none 0 0), (12, .made (List.replicate n Qd0.val) 4 true)])
      [(5, .ptr (some ⟨8, 0, 0, 0, 2⟩)), (6, .slice (some ⟨12, 0, 0, 0, 4⟩) n n), (23, .slice (o.map fun a => { a with id := 0 }) n c), (24, .int .i64 n), (25, .int .i64 (0 : Nat))] (stH 14 b C [] 0 (List.replicate n Qd0.val)) :=
    Ent.more (l2 := [(13, tRow [])]) (by kernel_rfl) (by kernel_rfl)
  have p3 : Ent 1 135 [(5, .ptr (some ⟨8, 0, 0, 0, 2⟩)), (6, .slice (some ⟨12, 0, 0, 0, 4⟩) n n), (9, .int .i64 0), (10, .int .i64 0), (80, .slice (some ⟨12, 0, 0, 0, 4⟩) n n), (81, .int .i64 n), (82, .int .i64 (0 : Nat))] (stH 20 b C (fixedL (fun j => normZ C (src j)) n) k (qrows n fun j => normZ C (src j)))
      [(5, .ptr (some ⟨8, 0, 0, 0, 2⟩)), (6, .slice (some ⟨12, 0, 0, 0, 4⟩) n n), (9, .int .i64 0), (10, .int .i64 0), (80, .slice (some ⟨12, 0, 0, 0, 4⟩) n n), (81, .int .i64 n), (82, .int .i64 (0 : Nat))] (stH 14 b C (fixedL (fun j => normZ C (src j)) n) k (qrows n fun j => normZ C (src j))) :=
    Ent.drop (by kernel_rfl) (by kernel_rfl) (by kernel_rfl) (by kernel_rfl) (by simp [All_cons, All_nil, Clo]; simp [Ids]) (by
      simp only [List.map, All_cons, All_nil, and_true]
      exact ⟨h.bare.clo _, brd_cloI (tSl_clo (by simp [Ids])), (qrows_bare _ _).clo _, (tRow_bare _).clo _⟩)
  have wi := gwithin_does cols 1 64 (AHeap.rows 10 [(0, b)])
  rw [show min (max cols 1) 64 = (C : Int) from hC.symm] at wi
  have kk := (fl_call _ n c C b (tRow (fixedL (fun j => normZ C (src j)) n)) _ _ cols (.slice (tSlN k) k k) (.slice (tSlN k) k k) (by omega) wi ⟨by omega, by omega, by omega, by omega⟩ (Runs.of_loops (Tri.pre l1 (p1.trans p2))) (Runs.of_loops (Tri.pre l2 p3))).new1 (bn := .made (qrows n out) 4 true)
    (by simp [h.bare]) (qrows_bare _ _) (by kernel_rfl) (by kernel_rfl) (by simp) (by simp [Clos, Clo, s1.clo]) (H := H) [id] (by simp) (by simp [h.lt]) (by simp [h.get])
  simpa [h.sl.back (id' := 0) (r := toBig [id] H.next) rfl, AVal.ren] using kk

theorem flow_any {H : AHeap} {o : Option AAddr} {n c id ver off : Nat} {b : ABlk} {src : Nat → Qd} (h : QdsAt H o n c id ver off b src) (cols : Int) {N : Nat} (hN : H.next = N) :
    ∃ (o' : Option AAddr) (c' : Nat) (out : Nat → Qd), SlArg o' (flen n) c' N 0 0 4 ∧ c' = flen n ∧ FlowsTo n src cols out ∧ FDoes Try.prog 13 [.slice o n c, .int .i64 cols] H (.slice o' (flen n) c') (H.upd [] [.made (qrows (flen n) out) 4 true]) := by
  subst hN
  unfold FlowsTo
  by_cases hn : 4096 < n
  · have e : flen n = 0 := by unfold flen; rw [if_pos hn]
    rw [e]
    have s1 := h.sl.at 0
    have kk := (fl_nil (o.map fun a => { a with id := 0 }) n c 0 b b [] [] cols (.int .i64 0) (.int .i64 0) (by omega)).pure (by simp [h.bare]) (by kernel_rfl) ⟨fun r => rfl, trivial⟩ (by simp [Clos, Clo, s1.clo]) (H := H) [id] (by simp) (by simp [h.lt]) (by simp [h.get])
    have k2 : FDoes Try.prog 13 [.slice o n c, .int .i64 cols] H (.slice none 0 0) H := by
      simpa [h.sl.back (id' := 0) (r := toBig [id] H.next) rfl, AVal.ren] using kk
    exact ⟨none, 0, fun _ => Qd0, .inr ⟨rfl, rfl, rfl⟩, rfl, fun i hi => by omega, k2.pad1 _⟩
  · have e : flen n = n := by unfold flen; rw [if_neg hn]
    rw [e]
    obtain ⟨out, fo, k⟩ := flow_does h cols (by omega)
    exact ⟨some ⟨H.next, 0, 0, 0, 4⟩, n, out, .inl rfl, rfl, fo, k⟩

end Go.Proofs.Ytcgcpmcjaeenlaa
