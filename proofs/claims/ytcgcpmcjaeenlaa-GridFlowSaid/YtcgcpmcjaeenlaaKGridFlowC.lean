/-
  Parts of the proof, one behind the other:
  grid.board: hit, across, down: the walk.
  THE LIFT, PART W: a call told of a small memory whose rows name rows of it, in every memory.
  THE LIFT, PART Y: a call told of a small memory whose rows name rows of it: what comes new, in every memory.
  grid.board: hit, across and down: what they answer.
  grid.board.across and down: what they answer.
  Have two spans a cell in common: the walk.
  The document's Placed: free, across, down: the walk.
  The document's Placed: free, across and down: what they answer.
  grid.board.strip: the walk.
  grid.board.strip: what it answers.
  The document's Placed.row, clear: the walk.
  The document's Placed.row and clear: what they answer.
-/
import Derived.Test.YtcgcpmcjaeenlaaKGridFlowB

namespace Go.Proofs.Ytcgcpmcjaeenlaa
open Go.Lift
set_option maxRecDepth 1000000
set_option linter.unusedSimpArgs false
set_option linter.unusedVariables false
set_option linter.unusedSectionVars false

theorem hit_m0 (o : Option AAddr) (n c v i C : Nat) (bT : ABlk) (sa sb sc sd ta tb tc td : Int) (hc_0 : (i : Int) < (n : Int)) (hc_1 : aindexAddr env.D 22 (.slice o n c) (.int .i64 (i : Int)) = some (.ptr (some ⟨1, v, 0 + i, 0, 4⟩))) (hc_2 : ABlk.elem? bT v (0 + i) = some (.agg [.int .i64 ta, .int .i64 tb, .int .i64 tc, .int .i64 td])) (hc_3 : -9223372036854775808 ≤ sa + sc ∧ sa + sc ≤ 9223372036854775807) (hc_4 : ¬ (ta < sa + sc)) (hc_5 : -9223372036854775808 ≤ (i : Int) + 1 ∧ (i : Int) + (1 : Int) ≤ 9223372036854775807) :
    Runs Try.prog 2 58 (loopAt Try.prog 53 0) [(3, .ptr (some ⟨2, 0, 0, 0, 4⟩)), (4, .ptr (some ⟨3, 0, 0, 0, 4⟩)), (11, .slice o n c), (12, .int .i64 n), (13, .int .i64 i)] (AHeap.rows 11 [(0, .made [.agg [.int .i64 C, .slice o n c]] 2 true), (1, bT), (2, .made [.agg [.int .i64 sa, .int .i64 sb, .int .i64 sc, .int .i64 sd]] 4 true), (3, .made [.agg [.int .i64 0, .int .i64 0, .int .i64 0, .int .i64 0]] 4 true)]) .normal [(3, .ptr (some ⟨2, 0, 0, 0, 4⟩)), (4, .ptr (some ⟨3, 0, 0, 0, 4⟩)), (11, .slice o n c), (12, .int .i64 (n : Int)), (13, .int .i64 ((i : Int) + 1))] (AHeap.rows 56 [(0, (.made ([.agg [.int .i64 (C : Int), .slice o n c]]) 2 true)), (1, bT), (2, (.made ([.agg [.int .i64 sa, .int .i64 sb, .int .i64 sc, .int .i64 sd]]) 4 true)), (3, (.made ([.agg [.int .i64 0, .int .i64 0, .int .i64 0, .int .i64 0]]) 4 true)), (14, (.made ([.agg [.int .i64 ta, .int .i64 tb, .int .i64 tc, .int .i64 td]]) 4 true))]) :=
  ppath_runs env_ok mixed (hs := [.val 2000 (.bool true), .val 3000 (.ptr (some ⟨1, v, 0 + i, 0, 4⟩)), .ld 3001 (.agg [.int .i64 ta, .int .i64 tb, .int .i64 tc, .int .i64 td]), .go 4006, .val 4007 (.bool false), .go 6000]) (keep := [3, 4, 11, 12, 13]) (by kernel_rfl) (All.cons (okT hc_0) (All.cons hc_1 (All.cons hc_2 (All.cons hc_3 (All.cons (okF hc_4) (All.cons hc_5 (All.nil)))))))

theorem hit_m1 (o : Option AAddr) (n c v i C : Nat) (bT : ABlk) (sa sb sc sd ta tb tc td : Int) (hc_0 : (i : Int) < (n : Int)) (hc_1 : aindexAddr env.D 22 (.slice o n c) (.int .i64 (i : Int)) = some (.ptr (some ⟨1, v, 0 + i, 0, 4⟩))) (hc_2 : ABlk.elem? bT v (0 + i) = some (.agg [.int .i64 ta, .int .i64 tb, .int .i64 tc, .int .i64 td])) (hc_3 : -9223372036854775808 ≤ sa + sc ∧ sa + sc ≤ 9223372036854775807) (hc_4 : ta < sa + sc) (hc_5 : -9223372036854775808 ≤ ta + tc ∧ ta + tc ≤ 9223372036854775807) (hc_6 : ¬ (sa < ta + tc)) (hc_7 : -9223372036854775808 ≤ (i : Int) + 1 ∧ (i : Int) + (1 : Int) ≤ 9223372036854775807) :
    Runs Try.prog 2 58 (loopAt Try.prog 53 0) [(3, .ptr (some ⟨2, 0, 0, 0, 4⟩)), (4, .ptr (some ⟨3, 0, 0, 0, 4⟩)), (11, .slice o n c), (12, .int .i64 n), (13, .int .i64 i)] (AHeap.rows 11 [(0, .made [.agg [.int .i64 C, .slice o n c]] 2 true), (1, bT), (2, .made [.agg [.int .i64 sa, .int .i64 sb, .int .i64 sc, .int .i64 sd]] 4 true), (3, .made [.agg [.int .i64 0, .int .i64 0, .int .i64 0, .int .i64 0]] 4 true)]) .normal [(3, .ptr (some ⟨2, 0, 0, 0, 4⟩)), (4, .ptr (some ⟨3, 0, 0, 0, 4⟩)), (11, .slice o n c), (12, .int .i64 (n : Int)), (13, .int .i64 ((i : Int) + 1))] (AHeap.rows 56 [(0, (.made ([.agg [.int .i64 (C : Int), .slice o n c]]) 2 true)), (1, bT), (2, (.made ([.agg [.int .i64 sa, .int .i64 sb, .int .i64 sc, .int .i64 sd]]) 4 true)), (3, (.made ([.agg [.int .i64 0, .int .i64 0, .int .i64 0, .int .i64 0]]) 4 true)), (14, (.made ([.agg [.int .i64 ta, .int .i64 tb, .int .i64 tc, .int .i64 td]]) 4 true))]) :=
  ppath_runs env_ok mixed (hs := [.val 2000 (.bool true), .val 3000 (.ptr (some ⟨1, v, 0 + i, 0, 4⟩)), .ld 3001 (.agg [.int .i64 ta, .int .i64 tb, .int .i64 tc, .int .i64 td]), .go 4006, .val 4007 (.bool true), .go 4015, .val 4016 (.bool false), .go 6000]) (keep := [3, 4, 11, 12, 13]) (by kernel_rfl) (All.cons (okT hc_0) (All.cons hc_1 (All.cons hc_2 (All.cons hc_3 (All.cons (okT hc_4) (All.cons hc_5 (All.cons (okF hc_6) (All.cons hc_7 (All.nil)))))))))

theorem hit_m2 (o : Option AAddr) (n c v i C : Nat) (bT : ABlk) (sa sb sc sd ta tb tc td : Int) (hc_0 : (i : Int) < (n : Int)) (hc_1 : aindexAddr env.D 22 (.slice o n c) (.int .i64 (i : Int)) = some (.ptr (some ⟨1, v, 0 + i, 0, 4⟩))) (hc_2 : ABlk.elem? bT v (0 + i) = some (.agg [.int .i64 ta, .int .i64 tb, .int .i64 tc, .int .i64 td])) (hc_3 : -9223372036854775808 ≤ sa + sc ∧ sa + sc ≤ 9223372036854775807) (hc_4 : ta < sa + sc) (hc_5 : -9223372036854775808 ≤ ta + tc ∧ ta + tc ≤ 9223372036854775807) (hc_6 : sa < ta + tc) (hc_7 : -9223372036854775808 ≤ sb + sd ∧ sb + sd ≤ 9223372036854775807) (hc_8 : ¬ (tb < sb + sd)) (hc_9 : -9223372036854775808 ≤ (i : Int) + 1 ∧ (i : Int) + (1 : Int) ≤ 9223372036854775807) :
    Runs Try.prog 2 58 (loopAt Try.prog 53 0) [(3, .ptr (some ⟨2, 0, 0, 0, 4⟩)), (4, .ptr (some ⟨3, 0, 0, 0, 4⟩)), (11, .slice o n c), (12, .int .i64 n), (13, .int .i64 i)] (AHeap.rows 11 [(0, .made [.agg [.int .i64 C, .slice o n c]] 2 true), (1, bT), (2, .made [.agg [.int .i64 sa, .int .i64 sb, .int .i64 sc, .int .i64 sd]] 4 true), (3, .made [.agg [.int .i64 0, .int .i64 0, .int .i64 0, .int .i64 0]] 4 true)]) .normal [(3, .ptr (some ⟨2, 0, 0, 0, 4⟩)), (4, .ptr (some ⟨3, 0, 0, 0, 4⟩)), (11, .slice o n c), (12, .int .i64 (n : Int)), (13, .int .i64 ((i : Int) + 1))] (AHeap.rows 56 [(0, (.made ([.agg [.int .i64 (C : Int), .slice o n c]]) 2 true)), (1, bT), (2, (.made ([.agg [.int .i64 sa, .int .i64 sb, .int .i64 sc, .int .i64 sd]]) 4 true)), (3, (.made ([.agg [.int .i64 0, .int .i64 0, .int .i64 0, .int .i64 0]]) 4 true)), (14, (.made ([.agg [.int .i64 ta, .int .i64 tb, .int .i64 tc, .int .i64 td]]) 4 true))]) :=
  ppath_runs env_ok mixed (hs := [.val 2000 (.bool true), .val 3000 (.ptr (some ⟨1, v, 0 + i, 0, 4⟩)), .ld 3001 (.agg [.int .i64 ta, .int .i64 tb, .int .i64 tc, .int .i64 td]), .go 4006, .val 4007 (.bool true), .go 4015, .val 4016 (.bool true), .go 4025, .val 4026 (.bool false), .go 6000]) (keep := [3, 4, 11, 12, 13]) (by kernel_rfl) (All.cons (okT hc_0) (All.cons hc_1 (All.cons hc_2 (All.cons hc_3 (All.cons (okT hc_4) (All.cons hc_5 (All.cons (okT hc_6) (All.cons hc_7 (All.cons (okF hc_8) (All.cons hc_9 (All.nil)))))))))))

theorem hit_m3 (o : Option AAddr) (n c v i C : Nat) (bT : ABlk) (sa sb sc sd ta tb tc td : Int) (hc_0 : (i : Int) < (n : Int)) (hc_1 : aindexAddr env.D 22 (.slice o n c) (.int .i64 (i : Int)) = some (.ptr (some ⟨1, v, 0 + i, 0, 4⟩))) (hc_2 : ABlk.elem? bT v (0 + i) = some (.agg [.int .i64 ta, .int .i64 tb, .int .i64 tc, .int .i64 td])) (hc_3 : -9223372036854775808 ≤ sa + sc ∧ sa + sc ≤ 9223372036854775807) (hc_4 : ta < sa + sc) (hc_5 : -9223372036854775808 ≤ ta + tc ∧ ta + tc ≤ 9223372036854775807) (hc_6 : sa < ta + tc) (hc_7 : -9223372036854775808 ≤ sb + sd ∧ sb + sd ≤ 9223372036854775807) (hc_8 : tb < sb + sd) (hc_9 : -9223372036854775808 ≤ tb + td ∧ tb + td ≤ 9223372036854775807) (hc_10 : ¬ (sb < tb + td)) (hc_11 : -9223372036854775808 ≤ (i : Int) + 1 ∧ (i : Int) + (1 : Int) ≤ 9223372036854775807) :
    Runs Try.prog 2 58 (loopAt Try.prog 53 0) [(3, .ptr (some ⟨2, 0, 0, 0, 4⟩)), (4, .ptr (some ⟨3, 0, 0, 0, 4⟩)), (11, .slice o n c), (12, .int .i64 n), (13, .int .i64 i)] (AHeap.rows 11 [(0, .made [.agg [.int .i64 C, .slice o n c]] 2 true), (1, bT), (2, .made [.agg [.int .i64 sa, .int .i64 sb, .int .i64 sc, .int .i64 sd]] 4 true), (3, .made [.agg [.int .i64 0, .int .i64 0, .int .i64 0, .int .i64 0]] 4 true)]) .normal [(3, .ptr (some ⟨2, 0, 0, 0, 4⟩)), (4, .ptr (some ⟨3, 0, 0, 0, 4⟩)), (11, .slice o n c), (12, .int .i64 (n : Int)), (13, .int .i64 ((i : Int) + 1))] (AHeap.rows 56 [(0, (.made ([.agg [.int .i64 (C : Int), .slice o n c]]) 2 true)), (1, bT), (2, (.made ([.agg [.int .i64 sa, .int .i64 sb, .int .i64 sc, .int .i64 sd]]) 4 true)), (3, (.made ([.agg [.int .i64 0, .int .i64 0, .int .i64 0, .int .i64 0]]) 4 true)), (14, (.made ([.agg [.int .i64 ta, .int .i64 tb, .int .i64 tc, .int .i64 td]]) 4 true))]) :=
  ppath_runs env_ok mixed (hs := [.val 2000 (.bool true), .val 3000 (.ptr (some ⟨1, v, 0 + i, 0, 4⟩)), .ld 3001 (.agg [.int .i64 ta, .int .i64 tb, .int .i64 tc, .int .i64 td]), .go 4006, .val 4007 (.bool true), .go 4015, .val 4016 (.bool true), .go 4025, .val 4026 (.bool true), .go 4035, .val 4036 (.bool false), .go 6000]) (keep := [3, 4, 11, 12, 13]) (by kernel_rfl) (All.cons (okT hc_0) (All.cons hc_1 (All.cons hc_2 (All.cons hc_3 (All.cons (okT hc_4) (All.cons hc_5 (All.cons (okT hc_6) (All.cons hc_7 (All.cons (okT hc_8) (All.cons hc_9 (All.cons (okF hc_10) (All.cons hc_11 (All.nil)))))))))))))

theorem hit_y (o : Option AAddr) (n c v i C : Nat) (bT : ABlk) (sa sb sc sd ta tb tc td : Int) (hc_0 : (i : Int) < (n : Int)) (hc_1 : aindexAddr env.D 22 (.slice o n c) (.int .i64 (i : Int)) = some (.ptr (some ⟨1, v, 0 + i, 0, 4⟩))) (hc_2 : ABlk.elem? bT v (0 + i) = some (.agg [.int .i64 ta, .int .i64 tb, .int .i64 tc, .int .i64 td])) (hc_3 : -9223372036854775808 ≤ sa + sc ∧ sa + sc ≤ 9223372036854775807) (hc_4 : ta < sa + sc) (hc_5 : -9223372036854775808 ≤ ta + tc ∧ ta + tc ≤ 9223372036854775807) (hc_6 : sa < ta + tc) (hc_7 : -9223372036854775808 ≤ sb + sd ∧ sb + sd ≤ 9223372036854775807) (hc_8 : tb < sb + sd) (hc_9 : -9223372036854775808 ≤ tb + td ∧ tb + td ≤ 9223372036854775807) (hc_10 : sb < tb + td) :
    Runs Try.prog 2 58 (loopAt Try.prog 53 0) [(3, .ptr (some ⟨2, 0, 0, 0, 4⟩)), (4, .ptr (some ⟨3, 0, 0, 0, 4⟩)), (11, .slice o n c), (12, .int .i64 n), (13, .int .i64 i)] (AHeap.rows 11 [(0, .made [.agg [.int .i64 C, .slice o n c]] 2 true), (1, bT), (2, .made [.agg [.int .i64 sa, .int .i64 sb, .int .i64 sc, .int .i64 sd]] 4 true), (3, .made [.agg [.int .i64 0, .int .i64 0, .int .i64 0, .int .i64 0]] 4 true)]) .ret [(4, .ptr (some ⟨3, 0, 0, 0, 4⟩)), (5, AVal.bool true)] (AHeap.set (AHeap.rows 57 [(0, (.made ([.agg [.int .i64 (C : Int), .slice o n c]]) 2 true)), (1, bT), (2, (.made ([.agg [.int .i64 sa, .int .i64 sb, .int .i64 sc, .int .i64 sd]]) 4 true)), (3, (.made ([.agg [.int .i64 0, .int .i64 0, .int .i64 0, .int .i64 0]]) 4 true)), (14, (.made ([.agg [.int .i64 ta, .int .i64 tb, .int .i64 tc, .int .i64 td]]) 4 true))]) 3 (.made ([.agg [.int .i64 ta, .int .i64 tb, .int .i64 tc, .int .i64 td]]) 4 true)) :=
  ppath_runs env_ok mixed (hs := [.val 2000 (.bool true), .val 3000 (.ptr (some ⟨1, v, 0 + i, 0, 4⟩)), .ld 3001 (.agg [.int .i64 ta, .int .i64 tb, .int .i64 tc, .int .i64 td]), .go 4006, .val 4007 (.bool true), .go 4015, .val 4016 (.bool true), .go 4025, .val 4026 (.bool true), .go 4035, .val 4036 (.bool true)]) (keep := [4, 5]) (by kernel_rfl) (All.cons (okT hc_0) (All.cons hc_1 (All.cons hc_2 (All.cons hc_3 (All.cons (okT hc_4) (All.cons hc_5 (All.cons (okT hc_6) (All.cons hc_7 (All.cons (okT hc_8) (All.cons hc_9 (All.cons (okT hc_10) (All.nil))))))))))))

theorem hit_end (o : Option AAddr) (n c v i C : Nat) (bT : ABlk) (sa sb sc sd ta tb tc td : Int) (hc_0 : ¬ ((i : Int) < (n : Int))) :
    Runs Try.prog 2 58 (loopAt Try.prog 53 0) [(3, .ptr (some ⟨2, 0, 0, 0, 4⟩)), (4, .ptr (some ⟨3, 0, 0, 0, 4⟩)), (11, .slice o n c), (12, .int .i64 n), (13, .int .i64 i)] (AHeap.rows 11 [(0, .made [.agg [.int .i64 C, .slice o n c]] 2 true), (1, bT), (2, .made [.agg [.int .i64 sa, .int .i64 sb, .int .i64 sc, .int .i64 sd]] 4 true), (3, .made [.agg [.int .i64 0, .int .i64 0, .int .i64 0, .int .i64 0]] 4 true)]) (.exit 0) [(4, .ptr (some ⟨3, 0, 0, 0, 4⟩))] (AHeap.rows 12 [(0, (.made ([.agg [.int .i64 (C : Int), .slice o n c]]) 2 true)), (1, bT), (2, (.made ([.agg [.int .i64 sa, .int .i64 sb, .int .i64 sc, .int .i64 sd]]) 4 true)), (3, (.made ([.agg [.int .i64 0, .int .i64 0, .int .i64 0, .int .i64 0]]) 4 true))]) :=
  ppath_runs env_ok mixed (hs := [.val 2000 (.bool false)]) (keep := [4]) (by kernel_rfl) (All.cons (okF hc_0) (All.nil))

theorem hit_call_no (o : Option AAddr) (n c v i C : Nat) (bT : ABlk) (sa sb sc sd ta tb tc td : Int) (hc_0 : Runs Try.prog 2 58 (.loop (loopAt Try.prog 53 0)) [(3, .ptr (some ⟨2, 0, 0, 0, 4⟩)), (4, .ptr (some ⟨3, 0, 0, 0, 4⟩)), (11, .slice o n c), (12, .int .i64 (n : Int)), (13, .int .i64 0)] (AHeap.rows 11 [(0, .made [.agg [.int .i64 (C : Int), .slice o n c]] 2 true), (1, bT), (2, .made [.agg [.int .i64 sa, .int .i64 sb, .int .i64 sc, .int .i64 sd]] 4 true), (3, .made [.agg [.int .i64 0, .int .i64 0, .int .i64 0, .int .i64 0]] 4 true)]) (.exit 0) [(4, .ptr (some ⟨3, 0, 0, 0, 4⟩))] (AHeap.rows 12 [(0, (.made ([.agg [.int .i64 (C : Int), .slice o n c]]) 2 true)), (1, bT), (3, (.made ([.agg [.int .i64 0, .int .i64 0, .int .i64 0, .int .i64 0]]) 4 true))])) (hc_1 : aload env.D 28 ⟨3, 0, 0, 0, 4⟩ (AHeap.set (AHeap.rows 15 [(0, (.made ([.agg [.int .i64 (C : Int), .slice o n c]]) 2 true)), (1, bT), (3, (.made ([.agg [.int .i64 0, .int .i64 0, .int .i64 0, .int .i64 0]]) 4 true))]) 3 (.made ([.agg [.int .i64 0, .int .i64 0, .int .i64 0, .int .i64 0]]) 4 true)) = some (.agg [.int .i64 0, .int .i64 0, .int .i64 0, .int .i64 0])) :
    FDoes Try.prog 53 [.ptr (some ⟨0, 0, 0, 0, 2⟩), .agg [.int .i64 sa, .int .i64 sb, .int .i64 sc, .int .i64 sd]] (AHeap.of [.made [.agg [.int .i64 C, .slice o n c]] 2 true, bT]) (.tuple [.agg [.int .i64 0, .int .i64 0, .int .i64 0, .int .i64 0], AVal.bool false]) (AHeap.set (AHeap.rows 15 [(0, (.made ([.agg [.int .i64 (C : Int), .slice o n c]]) 2 true)), (1, bT), (3, (.made ([.agg [.int .i64 0, .int .i64 0, .int .i64 0, .int .i64 0]]) 4 true))]) 3 (.made ([.agg [.int .i64 0, .int .i64 0, .int .i64 0, .int .i64 0]]) 4 true)) :=
  pcall_does env_ok mixed (hs := [.keep [3, 4, 11, 12, 13], .loop [(4, .ptr (some ⟨3, 0, 0, 0, 4⟩))] (AHeap.rows 12 [(0, .made [.agg [.int .i64 C, .slice o n c]] 2 true), (1, bT), (3, .made [.agg [.int .i64 0, .int .i64 0, .int .i64 0, .int .i64 0]] 4 true)]) (.exit 0)]) (rs := [.cell (.agg [.int .i64 0, .int .i64 0, .int .i64 0, .int .i64 0])]) (by kernel_rfl) (All.cons hc_0 (All.cons hc_1 (All.nil)))

theorem hit_call_yes (o : Option AAddr) (n c v i C : Nat) (bT : ABlk) (sa sb sc sd ta tb tc td : Int) (hc_0 : Runs Try.prog 2 58 (.loop (loopAt Try.prog 53 0)) [(3, .ptr (some ⟨2, 0, 0, 0, 4⟩)), (4, .ptr (some ⟨3, 0, 0, 0, 4⟩)), (11, .slice o n c), (12, .int .i64 (n : Int)), (13, .int .i64 0)] (AHeap.rows 11 [(0, .made [.agg [.int .i64 (C : Int), .slice o n c]] 2 true), (1, bT), (2, .made [.agg [.int .i64 sa, .int .i64 sb, .int .i64 sc, .int .i64 sd]] 4 true), (3, .made [.agg [.int .i64 0, .int .i64 0, .int .i64 0, .int .i64 0]] 4 true)]) .ret [(4, .ptr (some ⟨3, 0, 0, 0, 4⟩)), (5, AVal.bool true)] (AHeap.rows 60 [(0, (.made ([.agg [.int .i64 (C : Int), .slice o n c]]) 2 true)), (1, bT), (3, (.made ([.agg [.int .i64 ta, .int .i64 tb, .int .i64 tc, .int .i64 td]]) 4 true))])) (hc_1 : aload env.D 28 ⟨3, 0, 0, 0, 4⟩ (AHeap.rows 60 [(0, (.made ([.agg [.int .i64 (C : Int), .slice o n c]]) 2 true)), (1, bT), (3, (.made ([.agg [.int .i64 ta, .int .i64 tb, .int .i64 tc, .int .i64 td]]) 4 true))]) = some (.agg [.int .i64 ta, .int .i64 tb, .int .i64 tc, .int .i64 td])) :
    FDoes Try.prog 53 [.ptr (some ⟨0, 0, 0, 0, 2⟩), .agg [.int .i64 sa, .int .i64 sb, .int .i64 sc, .int .i64 sd]] (AHeap.of [.made [.agg [.int .i64 C, .slice o n c]] 2 true, bT]) (.tuple [.agg [.int .i64 ta, .int .i64 tb, .int .i64 tc, .int .i64 td], AVal.bool true]) (AHeap.rows 60 [(0, (.made ([.agg [.int .i64 (C : Int), .slice o n c]]) 2 true)), (1, bT), (3, (.made ([.agg [.int .i64 ta, .int .i64 tb, .int .i64 tc, .int .i64 td]]) 4 true))]) :=
  pcall_does env_ok mixed (hs := [.keep [3, 4, 11, 12, 13], .loop [(4, .ptr (some ⟨3, 0, 0, 0, 4⟩)), (5, .bool true)] (AHeap.rows 60 [(0, .made [.agg [.int .i64 C, .slice o n c]] 2 true), (1, bT), (3, .made [.agg [.int .i64 ta, .int .i64 tb, .int .i64 tc, .int .i64 td]] 4 true)]) (.ret)]) (rs := [.cell (.agg [.int .i64 ta, .int .i64 tb, .int .i64 tc, .int .i64 td])]) (by kernel_rfl) (All.cons hc_0 (All.cons hc_1 (All.nil)))

theorem ac_step (o : Option AAddr) (n c v i C : Nat) (bT : ABlk) (sa sb sc sd ta tb tc td : Int) (hc_0 : -9223372036854775808 ≤ sa + sc ∧ sa + sc ≤ 9223372036854775807) (hc_1 : sa + sc ≤ (C : Int)) (hc_2 : FDoes Try.prog 53 [.ptr (some ⟨0, 0, 0, 0, 2⟩), .agg [.int .i64 sa, .int .i64 sb, .int .i64 sc, .int .i64 sd]] (AHeap.rows 25 [(0, (.made ([.agg [.int .i64 (C : Int), .slice o n c]]) 2 true)), (1, bT), (2, (.made ([.agg [.int .i64 sa, .int .i64 sb, .int .i64 sc, .int .i64 sd]]) 4 true)), (3, (.made ([.agg [.int .i64 0, .int .i64 0, .int .i64 0, .int .i64 0]]) 4 true))]) (.tuple [.agg [.int .i64 ta, .int .i64 tb, .int .i64 tc, .int .i64 td], AVal.bool true]) (AHeap.rows 25 [(0, (.made ([.agg [.int .i64 (C : Int), .slice o n c]]) 2 true)), (1, bT), (2, (.made ([.agg [.int .i64 sa, .int .i64 sb, .int .i64 sc, .int .i64 sd]]) 4 true)), (3, (.made ([.agg [.int .i64 0, .int .i64 0, .int .i64 0, .int .i64 0]]) 4 true))])) (hc_3 : -9223372036854775808 ≤ ta + tc ∧ ta + tc ≤ 9223372036854775807) :
    Runs Try.prog 2 35 (loopAt Try.prog 31 0) [(0, .ptr (some ⟨0, 0, 0, 0, 2⟩)), (3, .ptr (some ⟨2, 0, 0, 0, 4⟩)), (4, .ptr (some ⟨3, 0, 0, 0, 4⟩))] (AHeap.rows 6 [(0, .made [.agg [.int .i64 C, .slice o n c]] 2 true), (1, bT), (2, .made [.agg [.int .i64 sa, .int .i64 sb, .int .i64 sc, .int .i64 sd]] 4 true), (3, .made [.agg [.int .i64 0, .int .i64 0, .int .i64 0, .int .i64 0]] 4 true)]) .normal [(0, .ptr (some ⟨0, 0, 0, 0, 2⟩)), (3, .ptr (some ⟨2, 0, 0, 0, 4⟩)), (4, .ptr (some ⟨3, 0, 0, 0, 4⟩))] (AHeap.set (AHeap.rows 34 [(0, (.made ([.agg [.int .i64 (C : Int), .slice o n c]]) 2 true)), (1, bT), (2, (.made ([.agg [.int .i64 sa, .int .i64 sb, .int .i64 sc, .int .i64 sd]]) 4 true)), (3, (.made ([.agg [.int .i64 0, .int .i64 0, .int .i64 0, .int .i64 0]]) 4 true)), (22, (.made ([.agg [.int .i64 ta, .int .i64 tb, .int .i64 tc, .int .i64 td]]) 4 true))]) 2 (.made ([.agg [.int .i64 (ta + tc), .int .i64 sb, .int .i64 sc, .int .i64 sd]]) 4 true)) :=
  ppath_runs env_ok mixed (hs := [.go 2004, .val 2009 (.bool true), .val 3002 (.tuple [.agg [.int .i64 ta, .int .i64 tb, .int .i64 tc, .int .i64 td], .bool true]), .go 6004]) (keep := [0, 3, 4]) (by kernel_rfl) (All.cons hc_0 (All.cons (okT hc_1) (All.cons (CallT.mk hc_2) (All.cons hc_3 (All.nil)))))

theorem ac_found (o : Option AAddr) (n c v i C : Nat) (bT : ABlk) (sa sb sc sd ta tb tc td : Int) (hc_0 : -9223372036854775808 ≤ sa + sc ∧ sa + sc ≤ 9223372036854775807) (hc_1 : sa + sc ≤ (C : Int)) (hc_2 : FDoes Try.prog 53 [.ptr (some ⟨0, 0, 0, 0, 2⟩), .agg [.int .i64 sa, .int .i64 sb, .int .i64 sc, .int .i64 sd]] (AHeap.rows 25 [(0, (.made ([.agg [.int .i64 (C : Int), .slice o n c]]) 2 true)), (1, bT), (2, (.made ([.agg [.int .i64 sa, .int .i64 sb, .int .i64 sc, .int .i64 sd]]) 4 true)), (3, (.made ([.agg [.int .i64 0, .int .i64 0, .int .i64 0, .int .i64 0]]) 4 true))]) (.tuple [.agg [.int .i64 0, .int .i64 0, .int .i64 0, .int .i64 0], AVal.bool false]) (AHeap.rows 25 [(0, (.made ([.agg [.int .i64 (C : Int), .slice o n c]]) 2 true)), (1, bT), (2, (.made ([.agg [.int .i64 sa, .int .i64 sb, .int .i64 sc, .int .i64 sd]]) 4 true)), (3, (.made ([.agg [.int .i64 0, .int .i64 0, .int .i64 0, .int .i64 0]]) 4 true))])) :
    Runs Try.prog 2 35 (loopAt Try.prog 31 0) [(0, .ptr (some ⟨0, 0, 0, 0, 2⟩)), (3, .ptr (some ⟨2, 0, 0, 0, 4⟩)), (4, .ptr (some ⟨3, 0, 0, 0, 4⟩))] (AHeap.rows 6 [(0, .made [.agg [.int .i64 C, .slice o n c]] 2 true), (1, bT), (2, .made [.agg [.int .i64 sa, .int .i64 sb, .int .i64 sc, .int .i64 sd]] 4 true), (3, .made [.agg [.int .i64 0, .int .i64 0, .int .i64 0, .int .i64 0]] 4 true)]) .ret [(4, .ptr (some ⟨3, 0, 0, 0, 4⟩))] (AHeap.set (AHeap.rows 29 [(0, (.made ([.agg [.int .i64 (C : Int), .slice o n c]]) 2 true)), (1, bT), (2, (.made ([.agg [.int .i64 sa, .int .i64 sb, .int .i64 sc, .int .i64 sd]]) 4 true)), (3, (.made ([.agg [.int .i64 0, .int .i64 0, .int .i64 0, .int .i64 0]]) 4 true)), (22, (.made ([.agg [.int .i64 0, .int .i64 0, .int .i64 0, .int .i64 0]]) 4 true))]) 3 (.made ([.agg [.int .i64 sa, .int .i64 sb, .int .i64 sc, .int .i64 sd]]) 4 true)) :=
  ppath_runs env_ok mixed (hs := [.go 2004, .val 2009 (.bool true), .val 3002 (.tuple [.agg [.int .i64 0, .int .i64 0, .int .i64 0, .int .i64 0], .bool false])]) (keep := [4]) (by kernel_rfl) (All.cons hc_0 (All.cons (okT hc_1) (All.cons (CallT.mk hc_2) (All.nil))))

theorem ac_end (o : Option AAddr) (n c v i C : Nat) (bT : ABlk) (sa sb sc sd ta tb tc td : Int) (hc_0 : -9223372036854775808 ≤ sa + sc ∧ sa + sc ≤ 9223372036854775807) (hc_1 : ¬ (sa + sc ≤ (C : Int))) :
    Runs Try.prog 2 35 (loopAt Try.prog 31 0) [(0, .ptr (some ⟨0, 0, 0, 0, 2⟩)), (3, .ptr (some ⟨2, 0, 0, 0, 4⟩)), (4, .ptr (some ⟨3, 0, 0, 0, 4⟩))] (AHeap.rows 6 [(0, .made [.agg [.int .i64 C, .slice o n c]] 2 true), (1, bT), (2, .made [.agg [.int .i64 sa, .int .i64 sb, .int .i64 sc, .int .i64 sd]] 4 true), (3, .made [.agg [.int .i64 0, .int .i64 0, .int .i64 0, .int .i64 0]] 4 true)]) (.exit 0) [(3, .ptr (some ⟨2, 0, 0, 0, 4⟩)), (4, .ptr (some ⟨3, 0, 0, 0, 4⟩))] (AHeap.rows 16 [(0, (.made ([.agg [.int .i64 (C : Int), .slice o n c]]) 2 true)), (1, bT), (2, (.made ([.agg [.int .i64 sa, .int .i64 sb, .int .i64 sc, .int .i64 sd]]) 4 true)), (3, (.made ([.agg [.int .i64 0, .int .i64 0, .int .i64 0, .int .i64 0]]) 4 true))]) :=
  ppath_runs env_ok mixed (hs := [.go 2004, .val 2009 (.bool false)]) (keep := [3, 4]) (by kernel_rfl) (All.cons hc_0 (All.cons (okF hc_1) (All.nil)))

theorem ac_call_no (o : Option AAddr) (n c v i C : Nat) (bT : ABlk) (sa sb sc sd ta tb tc td : Int) (x : Int) (hc_0 : Runs Try.prog 2 35 (.loop (loopAt Try.prog 31 0)) [(0, .ptr (some ⟨0, 0, 0, 0, 2⟩)), (3, .ptr (some ⟨2, 0, 0, 0, 4⟩)), (4, .ptr (some ⟨3, 0, 0, 0, 4⟩))] (AHeap.set (AHeap.rows 6 [(0, .made [.agg [.int .i64 (C : Int), .slice o n c]] 2 true), (1, bT), (2, .made [.agg [.int .i64 sa, .int .i64 sb, .int .i64 sc, .int .i64 sd]] 4 true), (3, .made [.agg [.int .i64 0, .int .i64 0, .int .i64 0, .int .i64 0]] 4 true)]) 2 (.made ([.agg [.int .i64 0, .int .i64 sb, .int .i64 sc, .int .i64 sd]]) 4 true)) (.exit 0) [(3, .ptr (some ⟨2, 0, 0, 0, 4⟩)), (4, .ptr (some ⟨3, 0, 0, 0, 4⟩))] (AHeap.rows 16 [(0, (.made ([.agg [.int .i64 (C : Int), .slice o n c]]) 2 true)), (1, bT), (2, (.made ([.agg [.int .i64 x, .int .i64 sb, .int .i64 sc, .int .i64 sd]]) 4 true)), (3, (.made ([.agg [.int .i64 0, .int .i64 0, .int .i64 0, .int .i64 0]]) 4 true))])) (hc_1 : aload env.D 28 ⟨3, 0, 0, 0, 4⟩ (AHeap.set (AHeap.rows 20 [(0, (.made ([.agg [.int .i64 (C : Int), .slice o n c]]) 2 true)), (1, bT), (2, (.made ([.agg [.int .i64 0, .int .i64 sb, .int .i64 sc, .int .i64 sd]]) 4 true)), (3, (.made ([.agg [.int .i64 0, .int .i64 0, .int .i64 0, .int .i64 0]]) 4 true))]) 3 (.made ([.agg [.int .i64 0, .int .i64 sb, .int .i64 sc, .int .i64 sd]]) 4 true)) = some (.agg [.int .i64 0, .int .i64 sb, .int .i64 sc, .int .i64 sd])) :
    FDoes Try.prog 31 [.ptr (some ⟨0, 0, 0, 0, 2⟩), .agg [.int .i64 sa, .int .i64 sb, .int .i64 sc, .int .i64 sd]] (AHeap.of [.made [.agg [.int .i64 C, .slice o n c]] 2 true, bT]) (.agg [.int .i64 0, .int .i64 sb, .int .i64 sc, .int .i64 sd]) (AHeap.set (AHeap.rows 20 [(0, (.made ([.agg [.int .i64 (C : Int), .slice o n c]]) 2 true)), (1, bT), (2, (.made ([.agg [.int .i64 0, .int .i64 sb, .int .i64 sc, .int .i64 sd]]) 4 true)), (3, (.made ([.agg [.int .i64 0, .int .i64 0, .int .i64 0, .int .i64 0]]) 4 true))]) 3 (.made ([.agg [.int .i64 0, .int .i64 sb, .int .i64 sc, .int .i64 sd]]) 4 true)) :=
  pcall_does env_ok mixed (hs := [.keep [0, 3, 4], .loop [(3, .ptr (some ⟨2, 0, 0, 0, 4⟩)), (4, .ptr (some ⟨3, 0, 0, 0, 4⟩))] (AHeap.rows 16 [(0, .made [.agg [.int .i64 C, .slice o n c]] 2 true), (1, bT), (2, .made [.agg [.int .i64 x, .int .i64 sb, .int .i64 sc, .int .i64 sd]] 4 true), (3, .made [.agg [.int .i64 0, .int .i64 0, .int .i64 0, .int .i64 0]] 4 true)]) (.exit 0)]) (rs := [.cell (.agg [.int .i64 0, .int .i64 sb, .int .i64 sc, .int .i64 sd])]) (by kernel_rfl) (All.cons hc_0 (All.cons hc_1 (All.nil)))

theorem ac_call_yes (o : Option AAddr) (n c v i C : Nat) (bT : ABlk) (sa sb sc sd ta tb tc td : Int) (hc_0 : Runs Try.prog 2 35 (.loop (loopAt Try.prog 31 0)) [(0, .ptr (some ⟨0, 0, 0, 0, 2⟩)), (3, .ptr (some ⟨2, 0, 0, 0, 4⟩)), (4, .ptr (some ⟨3, 0, 0, 0, 4⟩))] (AHeap.set (AHeap.rows 6 [(0, .made [.agg [.int .i64 (C : Int), .slice o n c]] 2 true), (1, bT), (2, .made [.agg [.int .i64 sa, .int .i64 sb, .int .i64 sc, .int .i64 sd]] 4 true), (3, .made [.agg [.int .i64 0, .int .i64 0, .int .i64 0, .int .i64 0]] 4 true)]) 2 (.made ([.agg [.int .i64 0, .int .i64 sb, .int .i64 sc, .int .i64 sd]]) 4 true)) .ret [(4, .ptr (some ⟨3, 0, 0, 0, 4⟩))] (AHeap.rows 16 [(0, (.made ([.agg [.int .i64 (C : Int), .slice o n c]]) 2 true)), (1, bT), (3, (.made ([.agg [.int .i64 ta, .int .i64 tb, .int .i64 tc, .int .i64 td]]) 4 true))])) (hc_1 : aload env.D 28 ⟨3, 0, 0, 0, 4⟩ (AHeap.rows 16 [(0, (.made ([.agg [.int .i64 (C : Int), .slice o n c]]) 2 true)), (1, bT), (3, (.made ([.agg [.int .i64 ta, .int .i64 tb, .int .i64 tc, .int .i64 td]]) 4 true))]) = some (.agg [.int .i64 ta, .int .i64 tb, .int .i64 tc, .int .i64 td])) :
    FDoes Try.prog 31 [.ptr (some ⟨0, 0, 0, 0, 2⟩), .agg [.int .i64 sa, .int .i64 sb, .int .i64 sc, .int .i64 sd]] (AHeap.of [.made [.agg [.int .i64 C, .slice o n c]] 2 true, bT]) (.agg [.int .i64 ta, .int .i64 tb, .int .i64 tc, .int .i64 td]) (AHeap.rows 16 [(0, (.made ([.agg [.int .i64 (C : Int), .slice o n c]]) 2 true)), (1, bT), (3, (.made ([.agg [.int .i64 ta, .int .i64 tb, .int .i64 tc, .int .i64 td]]) 4 true))]) :=
  pcall_does env_ok mixed (hs := [.keep [0, 3, 4], .loop [(4, .ptr (some ⟨3, 0, 0, 0, 4⟩))] (AHeap.rows 16 [(0, .made [.agg [.int .i64 C, .slice o n c]] 2 true), (1, bT), (3, .made [.agg [.int .i64 ta, .int .i64 tb, .int .i64 tc, .int .i64 td]] 4 true)]) (.ret)]) (rs := [.cell (.agg [.int .i64 ta, .int .i64 tb, .int .i64 tc, .int .i64 td])]) (by kernel_rfl) (All.cons hc_0 (All.cons hc_1 (All.nil)))

theorem dn_m0 (o : Option AAddr) (n c v i C : Nat) (bT : ABlk) (sa sb sc sd ta tb tc td : Int) (m : Bool) (hc_0 : (i : Int) < (n : Int)) (hc_1 : aindexAddr env.D 22 (.slice o n c) (.int .i64 (i : Int)) = some (.ptr (some ⟨1, v, 0 + i, 0, 4⟩))) (hc_2 : ABlk.elem? bT v (0 + i) = some (.agg [.int .i64 ta, .int .i64 tb, .int .i64 tc, .int .i64 td])) (hc_3 : -9223372036854775808 ≤ sa + sc ∧ sa + sc ≤ 9223372036854775807) (hc_4 : ¬ (ta < sa + sc)) (hc_5 : -9223372036854775808 ≤ (i : Int) + 1 ∧ (i : Int) + (1 : Int) ≤ 9223372036854775807) :
    Runs Try.prog 2 65 (loopAt Try.prog 32 1) [(0, .ptr (some ⟨0, 0, 0, 0, 2⟩)), (3, .ptr (some ⟨2, 0, 0, 0, 4⟩)), (4, .ptr (some ⟨3, 0, 0, 0, 4⟩)), (5, .bool m), (13, .slice o n c), (14, .int .i64 n), (15, .int .i64 i)] (AHeap.rows 15 [(0, .made [.agg [.int .i64 C, .slice o n c]] 2 true), (1, bT), (2, .made [.agg [.int .i64 sa, .int .i64 sb, .int .i64 sc, .int .i64 sd]] 4 true), (3, .made [.agg [.int .i64 0, .int .i64 0, .int .i64 0, .int .i64 0]] 4 true)]) .normal [(0, .ptr (some ⟨0, 0, 0, 0, 2⟩)), (3, .ptr (some ⟨2, 0, 0, 0, 4⟩)), (4, .ptr (some ⟨3, 0, 0, 0, 4⟩)), (5, AVal.bool m), (13, .slice o n c), (14, .int .i64 (n : Int)), (15, .int .i64 ((i : Int) + 1))] (AHeap.rows 60 [(0, (.made ([.agg [.int .i64 (C : Int), .slice o n c]]) 2 true)), (1, bT), (2, (.made ([.agg [.int .i64 sa, .int .i64 sb, .int .i64 sc, .int .i64 sd]]) 4 true)), (3, (.made ([.agg [.int .i64 0, .int .i64 0, .int .i64 0, .int .i64 0]]) 4 true)), (18, (.made ([.agg [.int .i64 ta, .int .i64 tb, .int .i64 tc, .int .i64 td]]) 4 true))]) :=
  ppath_runs env_ok mixed (hs := [.val 6000 (.bool true), .val 7000 (.ptr (some ⟨1, v, 0 + i, 0, 4⟩)), .ld 7001 (.agg [.int .i64 ta, .int .i64 tb, .int .i64 tc, .int .i64 td]), .go 8006, .val 8007 (.bool false), .go 10000]) (keep := [0, 3, 4, 5, 13, 14, 15]) (by kernel_rfl) (All.cons (okT hc_0) (All.cons hc_1 (All.cons hc_2 (All.cons hc_3 (All.cons (okF hc_4) (All.cons hc_5 (All.nil)))))))

theorem dn_m1 (o : Option AAddr) (n c v i C : Nat) (bT : ABlk) (sa sb sc sd ta tb tc td : Int) (m : Bool) (hc_0 : (i : Int) < (n : Int)) (hc_1 : aindexAddr env.D 22 (.slice o n c) (.int .i64 (i : Int)) = some (.ptr (some ⟨1, v, 0 + i, 0, 4⟩))) (hc_2 : ABlk.elem? bT v (0 + i) = some (.agg [.int .i64 ta, .int .i64 tb, .int .i64 tc, .int .i64 td])) (hc_3 : -9223372036854775808 ≤ sa + sc ∧ sa + sc ≤ 9223372036854775807) (hc_4 : ta < sa + sc) (hc_5 : -9223372036854775808 ≤ ta + tc ∧ ta + tc ≤ 9223372036854775807) (hc_6 : ¬ (sa < ta + tc)) (hc_7 : -9223372036854775808 ≤ (i : Int) + 1 ∧ (i : Int) + (1 : Int) ≤ 9223372036854775807) :
    Runs Try.prog 2 65 (loopAt Try.prog 32 1) [(0, .ptr (some ⟨0, 0, 0, 0, 2⟩)), (3, .ptr (some ⟨2, 0, 0, 0, 4⟩)), (4, .ptr (some ⟨3, 0, 0, 0, 4⟩)), (5, .bool m), (13, .slice o n c), (14, .int .i64 n), (15, .int .i64 i)] (AHeap.rows 15 [(0, .made [.agg [.int .i64 C, .slice o n c]] 2 true), (1, bT), (2, .made [.agg [.int .i64 sa, .int .i64 sb, .int .i64 sc, .int .i64 sd]] 4 true), (3, .made [.agg [.int .i64 0, .int .i64 0, .int .i64 0, .int .i64 0]] 4 true)]) .normal [(0, .ptr (some ⟨0, 0, 0, 0, 2⟩)), (3, .ptr (some ⟨2, 0, 0, 0, 4⟩)), (4, .ptr (some ⟨3, 0, 0, 0, 4⟩)), (5, AVal.bool m), (13, .slice o n c), (14, .int .i64 (n : Int)), (15, .int .i64 ((i : Int) + 1))] (AHeap.rows 60 [(0, (.made ([.agg [.int .i64 (C : Int), .slice o n c]]) 2 true)), (1, bT), (2, (.made ([.agg [.int .i64 sa, .int .i64 sb, .int .i64 sc, .int .i64 sd]]) 4 true)), (3, (.made ([.agg [.int .i64 0, .int .i64 0, .int .i64 0, .int .i64 0]]) 4 true)), (18, (.made ([.agg [.int .i64 ta, .int .i64 tb, .int .i64 tc, .int .i64 td]]) 4 true))]) :=
  ppath_runs env_ok mixed (hs := [.val 6000 (.bool true), .val 7000 (.ptr (some ⟨1, v, 0 + i, 0, 4⟩)), .ld 7001 (.agg [.int .i64 ta, .int .i64 tb, .int .i64 tc, .int .i64 td]), .go 8006, .val 8007 (.bool true), .go 8015, .val 8016 (.bool false), .go 10000]) (keep := [0, 3, 4, 5, 13, 14, 15]) (by kernel_rfl) (All.cons (okT hc_0) (All.cons hc_1 (All.cons hc_2 (All.cons hc_3 (All.cons (okT hc_4) (All.cons hc_5 (All.cons (okF hc_6) (All.cons hc_7 (All.nil)))))))))

theorem dn_m2 (o : Option AAddr) (n c v i C : Nat) (bT : ABlk) (sa sb sc sd ta tb tc td : Int) (m : Bool) (hc_0 : (i : Int) < (n : Int)) (hc_1 : aindexAddr env.D 22 (.slice o n c) (.int .i64 (i : Int)) = some (.ptr (some ⟨1, v, 0 + i, 0, 4⟩))) (hc_2 : ABlk.elem? bT v (0 + i) = some (.agg [.int .i64 ta, .int .i64 tb, .int .i64 tc, .int .i64 td])) (hc_3 : -9223372036854775808 ≤ sa + sc ∧ sa + sc ≤ 9223372036854775807) (hc_4 : ta < sa + sc) (hc_5 : -9223372036854775808 ≤ ta + tc ∧ ta + tc ≤ 9223372036854775807) (hc_6 : sa < ta + tc) (hc_7 : -9223372036854775808 ≤ sb + sd ∧ sb + sd ≤ 9223372036854775807) (hc_8 : ¬ (tb < sb + sd)) (hc_9 : -9223372036854775808 ≤ (i : Int) + 1 ∧ (i : Int) + (1 : Int) ≤ 9223372036854775807) :
    Runs Try.prog 2 65 (loopAt Try.prog 32 1) [(0, .ptr (some ⟨0, 0, 0, 0, 2⟩)), (3, .ptr (some ⟨2, 0, 0, 0, 4⟩)), (4, .ptr (some ⟨3, 0, 0, 0, 4⟩)), (5, .bool m), (13, .slice o n c), (14, .int .i64 n), (15, .int .i64 i)] (AHeap.rows 15 [(0, .made [.agg [.int .i64 C, .slice o n c]] 2 true), (1, bT), (2, .made [.agg [.int .i64 sa, .int .i64 sb, .int .i64 sc, .int .i64 sd]] 4 true), (3, .made [.agg [.int .i64 0, .int .i64 0, .int .i64 0, .int .i64 0]] 4 true)]) .normal [(0, .ptr (some ⟨0, 0, 0, 0, 2⟩)), (3, .ptr (some ⟨2, 0, 0, 0, 4⟩)), (4, .ptr (some ⟨3, 0, 0, 0, 4⟩)), (5, AVal.bool m), (13, .slice o n c), (14, .int .i64 (n : Int)), (15, .int .i64 ((i : Int) + 1))] (AHeap.rows 60 [(0, (.made ([.agg [.int .i64 (C : Int), .slice o n c]]) 2 true)), (1, bT), (2, (.made ([.agg [.int .i64 sa, .int .i64 sb, .int .i64 sc, .int .i64 sd]]) 4 true)), (3, (.made ([.agg [.int .i64 0, .int .i64 0, .int .i64 0, .int .i64 0]]) 4 true)), (18, (.made ([.agg [.int .i64 ta, .int .i64 tb, .int .i64 tc, .int .i64 td]]) 4 true))]) :=
  ppath_runs env_ok mixed (hs := [.val 6000 (.bool true), .val 7000 (.ptr (some ⟨1, v, 0 + i, 0, 4⟩)), .ld 7001 (.agg [.int .i64 ta, .int .i64 tb, .int .i64 tc, .int .i64 td]), .go 8006, .val 8007 (.bool true), .go 8015, .val 8016 (.bool true), .go 8025, .val 8026 (.bool false), .go 10000]) (keep := [0, 3, 4, 5, 13, 14, 15]) (by kernel_rfl) (All.cons (okT hc_0) (All.cons hc_1 (All.cons hc_2 (All.cons hc_3 (All.cons (okT hc_4) (All.cons hc_5 (All.cons (okT hc_6) (All.cons hc_7 (All.cons (okF hc_8) (All.cons hc_9 (All.nil)))))))))))

theorem dn_m3 (o : Option AAddr) (n c v i C : Nat) (bT : ABlk) (sa sb sc sd ta tb tc td : Int) (m : Bool) (hc_0 : (i : Int) < (n : Int)) (hc_1 : aindexAddr env.D 22 (.slice o n c) (.int .i64 (i : Int)) = some (.ptr (some ⟨1, v, 0 + i, 0, 4⟩))) (hc_2 : ABlk.elem? bT v (0 + i) = some (.agg [.int .i64 ta, .int .i64 tb, .int .i64 tc, .int .i64 td])) (hc_3 : -9223372036854775808 ≤ sa + sc ∧ sa + sc ≤ 9223372036854775807) (hc_4 : ta < sa + sc) (hc_5 : -9223372036854775808 ≤ ta + tc ∧ ta + tc ≤ 9223372036854775807) (hc_6 : sa < ta + tc) (hc_7 : -9223372036854775808 ≤ sb + sd ∧ sb + sd ≤ 9223372036854775807) (hc_8 : tb < sb + sd) (hc_9 : -9223372036854775808 ≤ tb + td ∧ tb + td ≤ 9223372036854775807) (hc_10 : ¬ (sb < tb + td)) (hc_11 : -9223372036854775808 ≤ (i : Int) + 1 ∧ (i : Int) + (1 : Int) ≤ 9223372036854775807) :
    Runs Try.prog 2 65 (loopAt Try.prog 32 1) [(0, .ptr (some ⟨0, 0, 0, 0, 2⟩)), (3, .ptr (some ⟨2, 0, 0, 0, 4⟩)), (4, .ptr (some ⟨3, 0, 0, 0, 4⟩)), (5, .bool m), (13, .slice o n c), (14, .int .i64 n), (15, .int .i64 i)] (AHeap.rows 15 [(0, .made [.agg [.int .i64 C, .slice o n c]] 2 true), (1, bT), (2, .made [.agg [.int .i64 sa, .int .i64 sb, .int .i64 sc, .int .i64 sd]] 4 true), (3, .made [.agg [.int .i64 0, .int .i64 0, .int .i64 0, .int .i64 0]] 4 true)]) .normal [(0, .ptr (some ⟨0, 0, 0, 0, 2⟩)), (3, .ptr (some ⟨2, 0, 0, 0, 4⟩)), (4, .ptr (some ⟨3, 0, 0, 0, 4⟩)), (5, AVal.bool m), (13, .slice o n c), (14, .int .i64 (n : Int)), (15, .int .i64 ((i : Int) + 1))] (AHeap.rows 60 [(0, (.made ([.agg [.int .i64 (C : Int), .slice o n c]]) 2 true)), (1, bT), (2, (.made ([.agg [.int .i64 sa, .int .i64 sb, .int .i64 sc, .int .i64 sd]]) 4 true)), (3, (.made ([.agg [.int .i64 0, .int .i64 0, .int .i64 0, .int .i64 0]]) 4 true)), (18, (.made ([.agg [.int .i64 ta, .int .i64 tb, .int .i64 tc, .int .i64 td]]) 4 true))]) :=
  ppath_runs env_ok mixed (hs := [.val 6000 (.bool true), .val 7000 (.ptr (some ⟨1, v, 0 + i, 0, 4⟩)), .ld 7001 (.agg [.int .i64 ta, .int .i64 tb, .int .i64 tc, .int .i64 td]), .go 8006, .val 8007 (.bool true), .go 8015, .val 8016 (.bool true), .go 8025, .val 8026 (.bool true), .go 8035, .val 8036 (.bool false), .go 10000]) (keep := [0, 3, 4, 5, 13, 14, 15]) (by kernel_rfl) (All.cons (okT hc_0) (All.cons hc_1 (All.cons hc_2 (All.cons hc_3 (All.cons (okT hc_4) (All.cons hc_5 (All.cons (okT hc_6) (All.cons hc_7 (All.cons (okT hc_8) (All.cons hc_9 (All.cons (okF hc_10) (All.cons hc_11 (All.nil)))))))))))))

theorem dn_y (o : Option AAddr) (n c v i C : Nat) (bT : ABlk) (sa sb sc sd ta tb tc td : Int) (m : Bool) (hc_0 : (i : Int) < (n : Int)) (hc_1 : aindexAddr env.D 22 (.slice o n c) (.int .i64 (i : Int)) = some (.ptr (some ⟨1, v, 0 + i, 0, 4⟩))) (hc_2 : ABlk.elem? bT v (0 + i) = some (.agg [.int .i64 ta, .int .i64 tb, .int .i64 tc, .int .i64 td])) (hc_3 : -9223372036854775808 ≤ sa + sc ∧ sa + sc ≤ 9223372036854775807) (hc_4 : ta < sa + sc) (hc_5 : -9223372036854775808 ≤ ta + tc ∧ ta + tc ≤ 9223372036854775807) (hc_6 : sa < ta + tc) (hc_7 : -9223372036854775808 ≤ sb + sd ∧ sb + sd ≤ 9223372036854775807) (hc_8 : tb < sb + sd) (hc_9 : -9223372036854775808 ≤ tb + td ∧ tb + td ≤ 9223372036854775807) (hc_10 : sb < tb + td) (hc_11 : -9223372036854775808 ≤ tb + td ∧ tb + td ≤ 9223372036854775807) (hc_12 : -9223372036854775808 ≤ (i : Int) + 1 ∧ (i : Int) + (1 : Int) ≤ 9223372036854775807) :
    Runs Try.prog 2 65 (loopAt Try.prog 32 1) [(0, .ptr (some ⟨0, 0, 0, 0, 2⟩)), (3, .ptr (some ⟨2, 0, 0, 0, 4⟩)), (4, .ptr (some ⟨3, 0, 0, 0, 4⟩)), (5, .bool m), (13, .slice o n c), (14, .int .i64 n), (15, .int .i64 i)] (AHeap.rows 15 [(0, .made [.agg [.int .i64 C, .slice o n c]] 2 true), (1, bT), (2, .made [.agg [.int .i64 sa, .int .i64 sb, .int .i64 sc, .int .i64 sd]] 4 true), (3, .made [.agg [.int .i64 0, .int .i64 0, .int .i64 0, .int .i64 0]] 4 true)]) .normal [(0, .ptr (some ⟨0, 0, 0, 0, 2⟩)), (3, .ptr (some ⟨2, 0, 0, 0, 4⟩)), (4, .ptr (some ⟨3, 0, 0, 0, 4⟩)), (5, AVal.bool true), (13, .slice o n c), (14, .int .i64 (n : Int)), (15, .int .i64 ((i : Int) + 1))] (AHeap.rows 68 [(0, (.made ([.agg [.int .i64 (C : Int), .slice o n c]]) 2 true)), (1, bT), (2, (.made ([.agg [.int .i64 sa, .int .i64 (tb + td), .int .i64 sc, .int .i64 sd]]) 4 true)), (3, (.made ([.agg [.int .i64 0, .int .i64 0, .int .i64 0, .int .i64 0]]) 4 true)), (18, (.made ([.agg [.int .i64 ta, .int .i64 tb, .int .i64 tc, .int .i64 td]]) 4 true))]) :=
  ppath_runs env_ok mixed (hs := [.val 6000 (.bool true), .val 7000 (.ptr (some ⟨1, v, 0 + i, 0, 4⟩)), .ld 7001 (.agg [.int .i64 ta, .int .i64 tb, .int .i64 tc, .int .i64 td]), .go 8006, .val 8007 (.bool true), .go 8015, .val 8016 (.bool true), .go 8025, .val 8026 (.bool true), .go 8035, .val 8036 (.bool true), .go 9004, .go 10000]) (keep := [0, 3, 4, 5, 13, 14, 15]) (by kernel_rfl) (All.cons (okT hc_0) (All.cons hc_1 (All.cons hc_2 (All.cons hc_3 (All.cons (okT hc_4) (All.cons hc_5 (All.cons (okT hc_6) (All.cons hc_7 (All.cons (okT hc_8) (All.cons hc_9 (All.cons (okT hc_10) (All.cons hc_11 (All.cons hc_12 (All.nil))))))))))))))

theorem dn_iend (o : Option AAddr) (n c v i C : Nat) (bT : ABlk) (sa sb sc sd ta tb tc td : Int) (m : Bool) (hc_0 : ¬ ((i : Int) < (n : Int))) :
    Runs Try.prog 2 65 (loopAt Try.prog 32 1) [(0, .ptr (some ⟨0, 0, 0, 0, 2⟩)), (3, .ptr (some ⟨2, 0, 0, 0, 4⟩)), (4, .ptr (some ⟨3, 0, 0, 0, 4⟩)), (5, .bool m), (13, .slice o n c), (14, .int .i64 n), (15, .int .i64 i)] (AHeap.rows 15 [(0, .made [.agg [.int .i64 C, .slice o n c]] 2 true), (1, bT), (2, .made [.agg [.int .i64 sa, .int .i64 sb, .int .i64 sc, .int .i64 sd]] 4 true), (3, .made [.agg [.int .i64 0, .int .i64 0, .int .i64 0, .int .i64 0]] 4 true)]) (.exit 2) [(0, .ptr (some ⟨0, 0, 0, 0, 2⟩)), (3, .ptr (some ⟨2, 0, 0, 0, 4⟩)), (4, .ptr (some ⟨3, 0, 0, 0, 4⟩)), (5, AVal.bool m)] (AHeap.rows 16 [(0, (.made ([.agg [.int .i64 (C : Int), .slice o n c]]) 2 true)), (1, bT), (2, (.made ([.agg [.int .i64 sa, .int .i64 sb, .int .i64 sc, .int .i64 sd]]) 4 true)), (3, (.made ([.agg [.int .i64 0, .int .i64 0, .int .i64 0, .int .i64 0]]) 4 true))]) :=
  ppath_runs env_ok mixed (hs := [.val 6000 (.bool false)]) (keep := [0, 3, 4, 5]) (by kernel_rfl) (All.cons (okF hc_0) (All.nil))

theorem dn_round (o : Option AAddr) (n c v i C : Nat) (bT : ABlk) (sa sb sc sd ta tb tc td : Int) (m : Bool) (hc_0 : Runs Try.prog 2 65 (.loop (loopAt Try.prog 32 1)) [(0, .ptr (some ⟨0, 0, 0, 0, 2⟩)), (3, .ptr (some ⟨2, 0, 0, 0, 4⟩)), (4, .ptr (some ⟨3, 0, 0, 0, 4⟩)), (5, AVal.bool false), (13, .slice o n c), (14, .int .i64 (n : Int)), (15, .int .i64 0)] (AHeap.rows 15 [(0, (.made ([.agg [.int .i64 (C : Int), .slice o n c]]) 2 true)), (1, bT), (2, (.made ([.agg [.int .i64 sa, .int .i64 sb, .int .i64 sc, .int .i64 sd]]) 4 true)), (3, (.made ([.agg [.int .i64 0, .int .i64 0, .int .i64 0, .int .i64 0]]) 4 true))]) (.exit 2) [(0, .ptr (some ⟨0, 0, 0, 0, 2⟩)), (3, .ptr (some ⟨2, 0, 0, 0, 4⟩)), (4, .ptr (some ⟨3, 0, 0, 0, 4⟩)), (5, AVal.bool m)] (AHeap.rows 16 [(0, (.made ([.agg [.int .i64 (C : Int), .slice o n c]]) 2 true)), (1, bT), (2, (.made ([.agg [.int .i64 ta, .int .i64 tb, .int .i64 tc, .int .i64 td]]) 4 true)), (3, (.made ([.agg [.int .i64 0, .int .i64 0, .int .i64 0, .int .i64 0]]) 4 true))])) :
    Runs Try.prog 2 65 (loopAt Try.prog 32 0) [(0, .ptr (some ⟨0, 0, 0, 0, 2⟩)), (3, .ptr (some ⟨2, 0, 0, 0, 4⟩)), (4, .ptr (some ⟨3, 0, 0, 0, 4⟩)), (5, .bool true)] (AHeap.rows 7 [(0, .made [.agg [.int .i64 C, .slice o n c]] 2 true), (1, bT), (2, .made [.agg [.int .i64 sa, .int .i64 sb, .int .i64 sc, .int .i64 sd]] 4 true), (3, .made [.agg [.int .i64 0, .int .i64 0, .int .i64 0, .int .i64 0]] 4 true)]) .normal [(0, .ptr (some ⟨0, 0, 0, 0, 2⟩)), (3, .ptr (some ⟨2, 0, 0, 0, 4⟩)), (4, .ptr (some ⟨3, 0, 0, 0, 4⟩)), (5, AVal.bool m)] (AHeap.rows 16 [(0, (.made ([.agg [.int .i64 (C : Int), .slice o n c]]) 2 true)), (1, bT), (2, (.made ([.agg [.int .i64 ta, .int .i64 tb, .int .i64 tc, .int .i64 td]]) 4 true)), (3, (.made ([.agg [.int .i64 0, .int .i64 0, .int .i64 0, .int .i64 0]]) 4 true))]) :=
  ppath_runs env_ok mixed (hs := [.keep [0, 3, 4, 5, 13, 14, 15], .loop [(0, .ptr (some ⟨0, 0, 0, 0, 2⟩)), (3, .ptr (some ⟨2, 0, 0, 0, 4⟩)), (4, .ptr (some ⟨3, 0, 0, 0, 4⟩)), (5, .bool m)] (AHeap.rows 16 [(0, .made [.agg [.int .i64 C, .slice o n c]] 2 true), (1, bT), (2, .made [.agg [.int .i64 ta, .int .i64 tb, .int .i64 tc, .int .i64 td]] 4 true), (3, .made [.agg [.int .i64 0, .int .i64 0, .int .i64 0, .int .i64 0]] 4 true)]) (.exit 2)]) (keep := [0, 3, 4, 5]) (by kernel_rfl) (All.cons hc_0 (All.nil))

theorem dn_last (o : Option AAddr) (n c v i C : Nat) (bT : ABlk) (sa sb sc sd ta tb tc td : Int) (m : Bool)  :
    Runs Try.prog 2 65 (loopAt Try.prog 32 0) [(0, .ptr (some ⟨0, 0, 0, 0, 2⟩)), (3, .ptr (some ⟨2, 0, 0, 0, 4⟩)), (4, .ptr (some ⟨3, 0, 0, 0, 4⟩)), (5, .bool false)] (AHeap.rows 7 [(0, .made [.agg [.int .i64 C, .slice o n c]] 2 true), (1, bT), (2, .made [.agg [.int .i64 sa, .int .i64 sb, .int .i64 sc, .int .i64 sd]] 4 true), (3, .made [.agg [.int .i64 0, .int .i64 0, .int .i64 0, .int .i64 0]] 4 true)]) (.exit 0) [(3, .ptr (some ⟨2, 0, 0, 0, 4⟩)), (4, .ptr (some ⟨3, 0, 0, 0, 4⟩))] (AHeap.rows 8 [(0, (.made ([.agg [.int .i64 (C : Int), .slice o n c]]) 2 true)), (1, bT), (2, (.made ([.agg [.int .i64 sa, .int .i64 sb, .int .i64 sc, .int .i64 sd]]) 4 true)), (3, (.made ([.agg [.int .i64 0, .int .i64 0, .int .i64 0, .int .i64 0]]) 4 true))]) :=
  ppath_runs env_ok mixed (hs := []) (keep := [3, 4]) (by kernel_rfl) (All.nil)

theorem dn_call (o : Option AAddr) (n c v i C : Nat) (bT : ABlk) (sa sb sc sd ta tb tc td : Int) (hc_0 : Runs Try.prog 2 65 (.loop (loopAt Try.prog 32 0)) [(0, .ptr (some ⟨0, 0, 0, 0, 2⟩)), (3, .ptr (some ⟨2, 0, 0, 0, 4⟩)), (4, .ptr (some ⟨3, 0, 0, 0, 4⟩)), (5, AVal.bool true)] (AHeap.rows 7 [(0, .made [.agg [.int .i64 (C : Int), .slice o n c]] 2 true), (1, bT), (2, (.made ([.agg [.int .i64 sa, .int .i64 0, .int .i64 sc, .int .i64 sd]]) 4 true)), (3, .made [.agg [.int .i64 0, .int .i64 0, .int .i64 0, .int .i64 0]] 4 true)]) (.exit 0) [(3, .ptr (some ⟨2, 0, 0, 0, 4⟩)), (4, .ptr (some ⟨3, 0, 0, 0, 4⟩))] (AHeap.rows 8 [(0, (.made ([.agg [.int .i64 (C : Int), .slice o n c]]) 2 true)), (1, bT), (2, (.made ([.agg [.int .i64 ta, .int .i64 tb, .int .i64 tc, .int .i64 td]]) 4 true)), (3, (.made ([.agg [.int .i64 0, .int .i64 0, .int .i64 0, .int .i64 0]]) 4 true))])) (hc_1 : aload env.D 28 ⟨3, 0, 0, 0, 4⟩ (AHeap.set (AHeap.rows 10 [(0, (.made ([.agg [.int .i64 (C : Int), .slice o n c]]) 2 true)), (1, bT), (2, (.made ([.agg [.int .i64 ta, .int .i64 tb, .int .i64 tc, .int .i64 td]]) 4 true)), (3, (.made ([.agg [.int .i64 0, .int .i64 0, .int .i64 0, .int .i64 0]]) 4 true))]) 3 (.made ([.agg [.int .i64 ta, .int .i64 tb, .int .i64 tc, .int .i64 td]]) 4 true)) = some (.agg [.int .i64 ta, .int .i64 tb, .int .i64 tc, .int .i64 td])) :
    FDoes Try.prog 32 [.ptr (some ⟨0, 0, 0, 0, 2⟩), .agg [.int .i64 sa, .int .i64 sb, .int .i64 sc, .int .i64 sd]] (AHeap.of [.made [.agg [.int .i64 C, .slice o n c]] 2 true, bT]) (.agg [.int .i64 ta, .int .i64 tb, .int .i64 tc, .int .i64 td]) (AHeap.set (AHeap.rows 10 [(0, (.made ([.agg [.int .i64 (C : Int), .slice o n c]]) 2 true)), (1, bT), (2, (.made ([.agg [.int .i64 ta, .int .i64 tb, .int .i64 tc, .int .i64 td]]) 4 true)), (3, (.made ([.agg [.int .i64 0, .int .i64 0, .int .i64 0, .int .i64 0]]) 4 true))]) 3 (.made ([.agg [.int .i64 ta, .int .i64 tb, .int .i64 tc, .int .i64 td]]) 4 true)) :=
  pcall_does env_ok mixed (hs := [.keep [0, 3, 4, 5], .loop [(3, .ptr (some ⟨2, 0, 0, 0, 4⟩)), (4, .ptr (some ⟨3, 0, 0, 0, 4⟩))] (AHeap.rows 8 [(0, .made [.agg [.int .i64 C, .slice o n c]] 2 true), (1, bT), (2, .made [.agg [.int .i64 ta, .int .i64 tb, .int .i64 tc, .int .i64 td]] 4 true), (3, .made [.agg [.int .i64 0, .int .i64 0, .int .i64 0, .int .i64 0]] 4 true)]) (.exit 0)]) (rs := [.cell (.agg [.int .i64 ta, .int .i64 tb, .int .i64 tc, .int .i64 td])]) (by kernel_rfl) (All.cons hc_0 (All.cons hc_1 (All.nil)))

end Go.Proofs.Ytcgcpmcjaeenlaa

namespace Go.Lift
noncomputable section
open Go.RowKit
set_option linter.unusedVariables false
set_option linter.unusedSimpArgs false

mutual
theorem AVal.ren_on {D : Nat → Prop} {r : Nat → Nat} (h : ∀ i, D i → r i = i) : ∀ {v : AVal}, Clo D v → v.ren r = v
  | .ptr (some a), k => by simp only [Clo] at k; simp only [AVal.ren, AAddr.ren, h _ k]
  | .slice (some a) _ _, k => by simp only [Clo] at k; simp only [AVal.ren, AAddr.ren, h _ k]
  | .func fn f c, k => by simp only [Clo] at k; simp only [AVal.ren, AVal.rens_on h k.1, AVal.rens_on h k.2]
  | .iface t v, k => by simp only [Clo] at k; simp only [AVal.ren, AVal.ren_on h k]
  | .agg cs, k => by simp only [Clo] at k; simp only [AVal.ren, AVal.rens_on h k]
  | .tuple vs, k => by simp only [Clo] at k; simp only [AVal.ren, AVal.rens_on h k]
  | .undef, _ => rfl
  | .bool _, _ => rfl
  | .int _ _, _ => rfl
  | .str _, _ => rfl
  | .ptr none, _ => rfl
  | .slice none _ _, _ => rfl
  | .nilFunc, _ => rfl
  | .nilIface, _ => rfl
theorem AVal.rens_on {D : Nat → Prop} {r : Nat → Nat} (h : ∀ i, D i → r i = i) : ∀ {l : List AVal}, Clos D l → AVal.rens r l = l
  | [], _ => rfl
  | a :: l, k => by simp only [Clos] at k; simp only [AVal.rens, AVal.ren_on h k.1, AVal.rens_on h k.2]
end

/-- a row that names none but these -/
def CloB (D : Nat → Prop) (b : ABlk) : Prop := ∀ e ∈ b.elems, Clo D e

theorem ABlk.ren_on {D : Nat → Prop} {r : Nat → Nat} (h : ∀ i, D i → r i = i) {b : ABlk} (k : CloB D b) : b.ren r = b := by
  unfold ABlk.ren
  have : b.elems.map (AVal.ren r) = b.elems := by
    conv => rhs; rw [← List.map_id b.elems]
    exact List.map_congr_left fun e he => AVal.ren_on h (k e he)
  rw [this]

/-- the rows at a path's end -/
theorem FDoes.closed {P : Program} {f : FuncId} {args : List AVal} {h' : AHeap} {v : AVal} {l l' : List ABlk} (k : FDoes P f args (AHeap.of l) v h') (hlen : l'.length = l.length) (hget : (List.range l'.length).map h'.get = l'.map some) (hv : Bare v)
    (hc : ∀ b ∈ l', CloB (fun i => i < l'.length) b) : FDoes P f args (AHeap.of l) v (AHeap.of l') := by
  have hfst : (idxd 0 l').map (·.1) = List.range l'.length := by rw [idxd_fst, List.range_eq_range']
  rw [AHeap.of_rows l']
  refine k.clean (fun i => i) v l'.length (idxd 0 l') ?_ (hv.1 _).symm ?_ ?_ ?_ ?_ (Nat.ble_eq.mpr ?_) (hv.clo _) ?_
  · have h1 : (idxd 0 l').map (fun p => h'.get p.1) = ((idxd 0 l').map (·.1)).map h'.get := by rw [List.map_map]; rfl
    have h2 : (idxd 0 l').map (fun p => some (p.2.ren fun i => i)) = ((idxd 0 l').map (·.2)).map some := by
      rw [List.map_map]; exact List.map_congr_left fun p _ => by rw [ABlk.ren_id]; rfl
    rw [h1, h2, hfst, idxd_snd, hget]
  · rw [List.all_eq_true]
    intro p hp
    have : p.1 ∈ (idxd 0 l').map (·.1) := List.mem_map.2 ⟨p, hp, rfl⟩
    rw [hfst] at this
    exact Nat.blt_eq.mpr (List.mem_range.1 this)
  · rw [hfst]; rw [List.map_id']; exact List.nodup_range
  · rw [List.all_eq_true, AHeap.of_next]
    intro i hi
    have hi := List.mem_range.1 hi
    rw [hfst, Bool.and_eq_true]
    exact ⟨by simp; omega, beq_true rfl⟩
  · rw [List.all_eq_true, AHeap.of_next]
    intro p hp
    have : p.1 ∈ (idxd 0 l').map (·.1) := List.mem_map.2 ⟨p, hp, rfl⟩
    rw [hfst] at this
    have hlt := List.mem_range.1 this
    rw [Bool.or_eq_true]
    exact .inl (Nat.blt_eq.mpr (by omega))
  · rw [AHeap.of_next]; omega
  · rw [hfst]
    have : ∀ (q : List (Nat × ABlk)), (∀ p ∈ q, CloB (fun i => i < l'.length) p.2) → All (q.map fun p => ∀ e ∈ p.2.elems, Clo (Ids (List.range l'.length)) e) := by
      intro q
      induction q with
      | nil => intro _; exact All.nil
      | cons p r ih =>
        intro hq
        exact All.cons (fun e he => Clo.mono (fun i hi => List.mem_range.2 hi) (hq p (by simp) e he)) (ih fun p hp => hq p (by simp [hp]))
    refine this _ fun p hp => hc p.2 ?_
    have : p.2 ∈ (idxd 0 l').map (·.2) := List.mem_map.2 ⟨p, hp, rfl⟩
    rwa [idxd_snd] at this

end
end Go.Lift

namespace Go.Lift
noncomputable section
open Go.RowKit
set_option linter.unusedVariables false
set_option linter.unusedSimpArgs false

theorem FDoes.finC {P : Program} {f : FuncId} {args : List AVal} {h' : AHeap} {v : AVal} {l : List ABlk} (k : FDoes P f args (AHeap.of l) v h') (js : List Nat) (l' : List ABlk) (v2 : AVal) (hb' : ∀ b ∈ l', CloB (fun i => i < l.length) b)
    (hlen : l'.length = l.length + js.length) (hget : (List.range l'.length).map (fun i => h'.get (finR l.length js i)) = l'.map some) (hv : v = v2.ren (finR l.length js)) (hvc : Clo (fun i => i < l'.length) v2)
    (hjs : js.all (fun j => Nat.ble l.length j) = true) (hnd : js.Nodup) : FDoes P f args (AHeap.of l) v2 (AHeap.of l') := by
  have hfst : (idxd 0 l').map (·.1) = List.range l'.length := by rw [idxd_fst, List.range_eq_range']
  have hge : ∀ j ∈ js, l.length ≤ j := fun j hj => Nat.le_of_ble_eq_true (List.all_eq_true.1 hjs j hj)
  have hfix : ∀ i, i < l.length → finR l.length js i = i := fun i hi => by simp [finR, hi]
  have hhi : ∀ i, l.length ≤ i → i < l'.length → ∃ (h : i - l.length < js.length), finR l.length js i = js[i - l.length] := by
    intro i h1 h2
    have h3 : i - l.length < js.length := by omega
    exact ⟨h3, by simp only [finR, if_neg (show ¬ i < l.length by omega), List.getElem?_eq_getElem h3, Option.getD_some]⟩
  rw [AHeap.of_rows l']
  refine k.clean (finR l.length js) v2 l'.length (idxd 0 l') ?_ hv ?_ ?_ ?_ ?_ (Nat.ble_eq.mpr ?_) ?_ ?_
  · have h1 : (idxd 0 l').map (fun p => h'.get (finR l.length js p.1)) = ((idxd 0 l').map (·.1)).map (fun i => h'.get (finR l.length js i)) := by rw [List.map_map]; rfl
    have h2 : (idxd 0 l').map (fun p => some (p.2.ren (finR l.length js))) = ((idxd 0 l').map (·.2)).map (fun b => some (b.ren (finR l.length js))) := by rw [List.map_map]; rfl
    rw [h1, h2, hfst, idxd_snd, hget]
    exact List.map_congr_left fun b hm => by rw [ABlk.ren_on hfix (hb' b hm)]
  · rw [List.all_eq_true]
    intro p hp
    have : p.1 ∈ (idxd 0 l').map (·.1) := List.mem_map.2 ⟨p, hp, rfl⟩
    rw [hfst] at this
    exact Nat.blt_eq.mpr (List.mem_range.1 this)
  · rw [hfst]
    refine List.Nodup.map_on' ?_
    intro a ha b hb e
    have ha := List.mem_range.1 ha
    have hb := List.mem_range.1 hb
    by_cases c1 : a < l.length <;> by_cases c2 : b < l.length
    · simpa [finR, c1, c2] using e
    · obtain ⟨h3, h4⟩ := hhi b (by omega) hb
      rw [h4, show finR l.length js a = a by simp [finR, c1]] at e
      have := hge _ (List.getElem_mem h3); omega
    · obtain ⟨h3, h4⟩ := hhi a (by omega) ha
      rw [h4, show finR l.length js b = b by simp [finR, c2]] at e
      have := hge _ (List.getElem_mem h3); omega
    · obtain ⟨h3, h4⟩ := hhi a (by omega) ha
      obtain ⟨h5, h6⟩ := hhi b (by omega) hb
      rw [h4, h6] at e
      have := (List.getElem_inj hnd).1 e; omega
  · rw [List.all_eq_true, AHeap.of_next]
    intro i hi
    have hi := List.mem_range.1 hi
    rw [hfst, Bool.and_eq_true]
    exact ⟨by simp; omega, beq_true (by simp [finR, hi])⟩
  · rw [List.all_eq_true, AHeap.of_next]
    intro p hp
    have : p.1 ∈ (idxd 0 l').map (·.1) := List.mem_map.2 ⟨p, hp, rfl⟩
    rw [hfst] at this
    have hlt := List.mem_range.1 this
    rw [Bool.or_eq_true]
    by_cases c : p.1 < l.length
    · exact .inl (Nat.blt_eq.mpr c)
    · obtain ⟨h3, h4⟩ := hhi p.1 (by omega) hlt
      exact .inr (Nat.ble_eq.mpr (by rw [h4]; exact hge _ (List.getElem_mem h3)))
  · rw [AHeap.of_next]; omega
  · rw [hfst]; exact Clo.mono (fun i hi => List.mem_range.2 hi) hvc
  · intro p hp
    obtain ⟨q, hq, rfl⟩ := List.mem_map.1 hp
    intro e he
    have hm : q.2 ∈ l' := by
      have : q.2 ∈ (idxd 0 l').map (·.2) := List.mem_map.2 ⟨q, hq, rfl⟩
      rwa [idxd_snd] at this
    rw [hfst]
    exact Clo.mono (fun i hi => List.mem_range.2 (by omega)) (hb' q.2 hm e he)

/-- into every memory: rows that name rows -/
theorem FDoes.upG {P : Program} {f : FuncId} {args : List AVal} {v : AVal} {l l' : List ABlk} (k : FDoes P f args (AHeap.of l) v (AHeap.of l')) (hb : ∀ b ∈ l, CloB (fun i => i < l.length) b) (hll : l.length ≤ l'.length) (ha : Clos (fun i => i < l.length) args)
    {H H' : AHeap} (ids : List Nat) (hn : ids.Nodup) (hlt : ∀ j ∈ ids, j < H.next) (hl : ids.map H.get = l.map (fun b => some (b.ren (toBig ids H.next)))) (hnext : H'.next = H.next + (l'.length - l.length)) (hat : ∀ i, i < l'.length → H'.get (toBig ids H.next i) = (l'[i]?).map (ABlk.ren (toBig ids H.next)))
    (hout : ∀ j, j < H.next → j ∉ ids → H'.get j = H.get j) : FDoes P f (args.map (AVal.ren (toBig ids H.next))) H (v.ren (toBig ids H.next)) H' := by
  have hlen : ids.length = l.length := by have := congrArg List.length hl; simpa using this
  have hbig : ∀ i (hi : i < ids.length), toBig ids H.next i = ids[i] := fun i hi => by simp [toBig, List.getElem?_eq_getElem hi]
  refine k.frame (r := toBig ids H.next) ⟨?_, ?_, ?_⟩ ?_ ?_ ?_ ?_ ?_
  · intro i b hg
    rw [AHeap.of_get] at hg
    have hi := (List.getElem?_eq_some_iff.1 hg).1
    refine ⟨by rw [AHeap.of_next]; exact hi, ?_⟩
    rw [hbig i (by omega)]
    have h1 := congrArg (fun (x : List (Option ABlk)) => x[i]?) hl
    simp only [List.getElem?_map, List.getElem?_eq_getElem (show i < ids.length by omega), Option.map_some, hg, Option.some.injEq] at h1
    exact h1
  · intro i j hi hj e
    rw [AHeap.of_in] at hi hj
    rw [hbig i (by omega), hbig j (by omega)] at e
    exact (List.getElem_inj hn).1 e
  · intro i b hg e he
    rw [AHeap.of_get] at hg
    exact Clo.mono (fun i hi => AHeap.of_in.2 hi) (hb b (List.mem_of_getElem? hg) e he)
  · exact Clos.mono (fun i hi => AHeap.of_in.2 hi) ha
  · intro i hi
    rw [AHeap.of_next] at hi
    simp only [toBig, List.getElem?_eq_none (show ids.length ≤ i by omega), AHeap.of_next, hlen]
  · intro i b hg _
    rw [AHeap.of_get] at hg
    rw [hat i (List.getElem?_eq_some_iff.1 hg).1, hg]; rfl
  · rw [hnext]; simp
  · intro j hj hne
    refine hout j hj fun hm => ?_
    obtain ⟨i, hi, e⟩ := List.mem_iff_getElem.1 hm
    exact hne i (AHeap.of_in.2 (by omega)) (by rw [hbig i hi]; exact e)

/-- nothing is written, and a plain value comes: in every memory -/
theorem FDoes.pureC {P : Program} {f : FuncId} {args : List AVal} {h' : AHeap} {v : AVal} {l : List ABlk} (k : FDoes P f args (AHeap.of l) v h') (hb : ∀ b ∈ l, CloB (fun i => i < l.length) b) (hget : (List.range l.length).map h'.get = l.map some) (hv : Bare v)
    (ha : Clos (fun i => i < l.length) args) {H : AHeap} (ids : List Nat) (hn : ids.Nodup) (hlt : ∀ j ∈ ids, j < H.next) (hl : ids.map H.get = l.map (fun b => some (b.ren (toBig ids H.next)))) : FDoes P f (args.map (AVal.ren (toBig ids H.next))) H v H := by
  have hlen : ids.length = l.length := by have := congrArg List.length hl; simpa using this
  have k1 := k.finC [] l v hb (by simp) (by
    rw [← hget]
    exact List.map_congr_left fun i hi => by rw [show finR l.length [] i = i by simp [finR, List.mem_range.1 hi]]) (hv.1 _).symm (hv.clo _) rfl (by simp)
  have k2 := k1.upG (H' := H) hb (Nat.le_refl _) ha ids hn hlt hl (by simp) (fun i hi => by
    have h1 := congrArg (fun (x : List (Option ABlk)) => x[i]?) hl
    simp only [List.getElem?_map, List.getElem?_eq_getElem (show i < ids.length by omega), List.getElem?_eq_getElem hi, Option.map_some, Option.some.injEq] at h1
    simp only [toBig, List.getElem?_eq_getElem (show i < ids.length by omega)]
    rw [h1, List.getElem?_eq_getElem hi]; rfl) (fun _ _ _ => rfl)
  rwa [hv.1] at k2

/-- nothing is written, and one new row comes: in every memory -/
theorem FDoes.newC {P : Program} {f : FuncId} {args : List AVal} {h' : AHeap} {v v2 : AVal} {l : List ABlk} {bn : ABlk} {j : Nat} (k : FDoes P f args (AHeap.of l) v h') (hb : ∀ b ∈ l, CloB (fun i => i < l.length) b) (hbn : BareB bn)
    (hget : (List.range l.length).map h'.get = l.map some) (hnew : h'.get j = some bn) (hj : l.length ≤ j) (hv : v = v2.ren (finR l.length [j])) (hvc : Clo (fun i => i < l.length + 1) v2)
    (ha : Clos (fun i => i < l.length) args) {H : AHeap} (ids : List Nat) (hn : ids.Nodup) (hlt : ∀ j ∈ ids, j < H.next) (hl : ids.map H.get = l.map (fun b => some (b.ren (toBig ids H.next)))) :
    FDoes P f (args.map (AVal.ren (toBig ids H.next))) H (v2.ren (toBig ids H.next)) (H.upd [] [bn]) := by
  have hlen : ids.length = l.length := by have := congrArg List.length hl; simpa using this
  have k1 := k.finC [j] (l ++ [bn]) v2 (fun b hm => (List.mem_append.1 hm).elim (hb b) (fun h => by rw [List.mem_singleton.1 h]; exact fun e he => (hbn e he).clo _)) (by simp) (by
    rw [List.length_append, List.length_singleton, List.range_succ, List.map_append, List.map_append]
    congr 1
    · rw [← hget]
      exact List.map_congr_left fun i hi => by rw [show finR l.length [j] i = i by simp [finR, List.mem_range.1 hi]]
    · simp [finR, hnew]) hv (by simpa using hvc) (by simp [hj]) (by simp)
  refine k1.upG (H' := H.upd [] [bn]) hb (by simp) ha ids hn hlt hl ?_ ?_ ?_
  · show (AHeap.updFrom [] [bn] H).next = _
    rw [AHeap.updFrom_next [] [bn] H (by simp)]; simp
  · intro i hi
    show (AHeap.updFrom [] [bn] H).get _ = _
    by_cases c : i < ids.length
    · have h1 := congrArg (fun (x : List (Option ABlk)) => x[i]?) hl
      simp only [List.getElem?_map, List.getElem?_eq_getElem c, List.getElem?_eq_getElem (show i < l.length by omega), Option.map_some, Option.some.injEq] at h1
      simp only [toBig, List.getElem?_eq_getElem c]
      rw [AHeap.updFrom_out [] [bn] H _ (by simp) (hlt _ (List.getElem_mem c)) (by simp), h1, List.getElem?_append_left (by omega), List.getElem?_eq_getElem (show i < l.length by omega)]; rfl
    · have e : toBig ids H.next i = toBig [] H.next (i - ids.length) := by simp [toBig, List.getElem?_eq_none (show ids.length ≤ i by omega)]
      rw [List.length_append] at hi
      rw [e, AHeap.updFrom_at [] [bn] H (i - ids.length) (by simp) (by simp) (by simp) (by simp at hi ⊢; omega), List.getElem?_append_right (by omega), hlen]
      have : i - l.length = 0 := by simp at hi; omega
      rw [this]
      simp only [List.getElem?_cons_zero, Option.map_some]
      rw [hbn.ren]
  · intro j hj hm
    exact AHeap.updFrom_out [] [bn] H j (by simp) hj (by simp)
end
end Go.Lift

namespace Go.Proofs.Ytcgcpmcjaeenlaa
open Go.Lift
set_option maxRecDepth 1000000
set_option linter.unusedSimpArgs false
set_option linter.unusedVariables false
set_option linter.unusedSectionVars false

/-- a list of spans in a row -/
def ElT (bT : ABlk) (v : Nat) (T : List Qd) : Prop := ∀ (j : Nat) (t : Qd), T[j]? = some t → bT.elem? v (0 + j) = some t.val
/-- the board's row -/
def brdRow (C : Nat) (o : Option AAddr) (n c : Nat) : ABlk := .made [.agg [.int .i64 C, .slice o n c]] 2 true

/-- the board, and what is taken, in a memory -/
structure BoardAt (H : AHeap) (ib iT C : Nat) (o : Option AAddr) (n c v : Nat) (bT : ABlk) (T : List Qd) : Prop where
  gb : H.get ib = some (brdRow C o n c)
  gT : H.get iT = some bT
  sl : SlArg o n c iT v 0 4
  ne : ib ≠ iT
  lb : ib < H.next
  lT : iT < H.next
  bare : BareB bT
  len : T.length = n
  el : ElT bT v T

/-- numbers that do not run over -/
def Small (s : Qd) : Prop := (-2 ^ 40 ≤ s.a ∧ s.a ≤ 2 ^ 40) ∧ (-2 ^ 40 ≤ s.b ∧ s.b ≤ 2 ^ 40) ∧ (-2 ^ 40 ≤ s.c ∧ s.c ≤ 2 ^ 40) ∧ (-2 ^ 40 ≤ s.d ∧ s.d ≤ 2 ^ 40)
theorem GoodT.small {cols M : Int} {T : List Qd} (h : GoodT cols M T) (hc : cols ≤ 64) (hM : M ≤ 2 ^ 39) : ∀ t, t ∈ T → Small t := fun t ht => by
  have := h t ht
  unfold Small; omega

theorem brd_clo {C : Nat} {o : Option AAddr} {n c v : Nat} (hs : SlArg o n c 1 v 0 4) : CloB (fun i => i < 2) (brdRow C o n c) := by
  intro e he
  simp [brdRow, ABlk.made] at he
  subst he
  simp [Clo, Clos]
  exact hs.clo (by omega)
theorem bare_clo2 {b : ABlk} (h : BareB b) : CloB (fun i => i < 2) b := fun e he => (h e he).clo _

/-- a method that only reads the board: in every memory -/
theorem BoardAt.pure {H : AHeap} {ib iT C : Nat} {o : Option AAddr} {n c v : Nat} {bT : ABlk} {T : List Qd} (h : BoardAt H ib iT C o n c v bT T) {f : Nat} {args : List AVal} {w : AVal} {h' : AHeap}
    (k : FDoes Try.prog f (.ptr (some ⟨0, 0, 0, 0, 2⟩) :: args) (AHeap.of [brdRow C (o.map fun a => { a with id := 1 }) n c, bT]) w h') (hg : [h'.get 0, h'.get 1] = [some (brdRow C (o.map fun a => { a with id := 1 }) n c), some bT]) (hw : Bare w) (ha : ∀ a, a ∈ args → Bare a) :
    FDoes Try.prog f (.ptr (some ⟨ib, 0, 0, 0, 2⟩) :: args) H w H := by
  have s1 := h.sl.at 1
  have kk := k.pureC (by simp; exact ⟨brd_clo s1, bare_clo2 h.bare⟩) hg hw (by
    simp only [Clos]
    refine ⟨by simp [Clo], ?_⟩
    clear k
    induction args with
    | nil => trivial
    | cons a r ih => exact ⟨(ha a (by simp)).clo _, ih fun b hb => ha b (by simp [hb])⟩) (H := H) [ib, iT] (by simp [h.ne]) (by simp [h.lb, h.lT]) (by
    have e1 : (brdRow C (o.map fun a => { a with id := 1 }) n c).ren (toBig [ib, iT] H.next) = brdRow C o n c := by
      rcases h.sl with rfl | ⟨rfl, rfl, rfl⟩ <;> simp [brdRow, ABlk.ren, ABlk.made, AVal.ren, AVal.rens, AAddr.ren, toBig]
    simp [h.gb, h.gT, e1, h.bare.ren])
  have e2 : args.map (AVal.ren (toBig [ib, iT] H.next)) = args := by
    conv => rhs; rw [← List.map_id args]
    exact List.map_congr_left fun a hm => (ha a hm).1 _
  simpa [AVal.ren, AAddr.ren, toBig, e2] using kk

theorem fit_add {a b : Int} (ha : -2 ^ 40 ≤ a ∧ a ≤ 2 ^ 40) (hb : -2 ^ 40 ≤ b ∧ b ≤ 2 ^ 40) : -9223372036854775808 ≤ a + b ∧ a + b ≤ 9223372036854775807 := by omega

def HitEnds (C n c : Nat) (o : Option AAddr) (bT : ABlk) (T : List Qd) (s : Qd) (i : Nat) : Prop :=
    (FreeZ T s ∧ Loops Try.prog 2 58 (loopAt Try.prog 53 0) [(3, .ptr (some ⟨2, 0, 0, 0, 4⟩)), (4, .ptr (some ⟨3, 0, 0, 0, 4⟩)), (11, .slice o n c), (12, .int .i64 n), (13, .int .i64 i)] (AHeap.rows 11 [(0, brdRow C o n c), (1, bT), (2, .made [s.val] 4 true), (3, .made [Qd0.val] 4 true)])
      (.exit 0) [(4, .ptr (some ⟨3, 0, 0, 0, 4⟩))] (AHeap.rows 12 [(0, brdRow C o n c), (1, bT), (3, .made [Qd0.val] 4 true)])) ∨
    (∃ t, t ∈ T ∧ MeetsZ t s ∧ Loops Try.prog 2 58 (loopAt Try.prog 53 0) [(3, .ptr (some ⟨2, 0, 0, 0, 4⟩)), (4, .ptr (some ⟨3, 0, 0, 0, 4⟩)), (11, .slice o n c), (12, .int .i64 n), (13, .int .i64 i)] (AHeap.rows 11 [(0, brdRow C o n c), (1, bT), (2, .made [s.val] 4 true), (3, .made [Qd0.val] 4 true)])
      .ret [(4, .ptr (some ⟨3, 0, 0, 0, 4⟩)), (5, .bool true)] (AHeap.rows 60 [(0, brdRow C o n c), (1, bT), (3, .made [t.val] 4 true)]))

section
variable {C n c v : Nat} {o : Option AAddr} (hs : SlArg o n c 1 v 0 4) {bT : ABlk} (hb : BareB bT) {T : List Qd} (hl : T.length = n) (hel : ElT bT v T) (hT : ∀ t, t ∈ T → Small t) (hn : n ≤ 2 ^ 40)
include hs hb hl hel hT hn

theorem hit_loop {s : Qd} (hs1 : Small s) : ∀ (f i : Nat), i + f = n → (∀ j t, j < i → T[j]? = some t → ¬ MeetsZ t s) → HitEnds C n c o bT T s i
  | 0, i, e, hp => by
    obtain rfl : i = n := by omega
    refine .inl ⟨fun t ht hm => ?_, ?_⟩
    · obtain ⟨j, hj, e1⟩ := List.mem_iff_getElem.1 ht
      exact hp j t (by omega) (by rw [List.getElem?_eq_getElem hj, e1]) hm
    · refine (Loops.last (by simp) (hit_end o i c v i C bT s.a s.b s.c s.d 0 0 0 0 (by omega))).post ?_
      exact Ent.drop (by kernel_rfl) (by kernel_rfl) (by kernel_rfl) (by kernel_rfl) (by simp [All_cons, All_nil, Clo, Ids]) (by
        simp only [List.map, All_cons, All_nil, and_true]
        exact ⟨fun e he => by simp [brdRow, ABlk.made] at he; subst he; simp [Clo, Clos]; exact hs.clo (by simp [Ids]), hb.clo _, fun e he => by simp [ABlk.made] at he; subst he; exact (Qd.bare _).clo _⟩)
  | f + 1, i, e, hp => by
    have hi : i < n := by omega
    obtain ⟨t, ht⟩ : ∃ t, T[i]? = some t := ⟨T[i], List.getElem?_eq_getElem (by omega)⟩
    have htm : t ∈ T := List.mem_of_getElem? ht
    have st := hT t htm
    have ce : ∀ (K : Nat) (x : ABlk), Ent 2 58 [(3, .ptr (some ⟨2, 0, 0, 0, 4⟩)), (4, .ptr (some ⟨3, 0, 0, 0, 4⟩)), (11, .slice o n c), (12, .int .i64 n), (13, .int .i64 (i + 1 : Nat))] (AHeap.rows K [(0, brdRow C o n c), (1, bT), (2, .made [s.val] 4 true), (3, .made [Qd0.val] 4 true), (14, x)])
        [(3, .ptr (some ⟨2, 0, 0, 0, 4⟩)), (4, .ptr (some ⟨3, 0, 0, 0, 4⟩)), (11, .slice o n c), (12, .int .i64 n), (13, .int .i64 (i + 1 : Nat))] (AHeap.rows 11 [(0, brdRow C o n c), (1, bT), (2, .made [s.val] 4 true), (3, .made [Qd0.val] 4 true)]) := fun K x => by
      have hc : Clo (Ids [0, 1, 2, 3]) (.slice o n c) := hs.clo (by simp [Ids])
      exact Ent.drop (by kernel_rfl) (by kernel_rfl) (by kernel_rfl) (by kernel_rfl) (by simp [All_cons, All_nil, Clo, hc]; simp [Ids]) (by
        simp only [List.map, All_cons, All_nil, and_true]
        exact ⟨fun e he => by simp [brdRow, ABlk.made] at he; subst he; simp [Clo, Clos]; exact hc, hb.clo _, fun e he => by simp [ABlk.made] at he; subst he; exact (Qd.bare _).clo _, fun e he => by simp [ABlk.made] at he; subst he; exact (Qd.bare _).clo _⟩)
    have go : ¬ MeetsZ t s → (∀ {K : Nat} {x : ABlk}, Runs Try.prog 2 58 (loopAt Try.prog 53 0) [(3, .ptr (some ⟨2, 0, 0, 0, 4⟩)), (4, .ptr (some ⟨3, 0, 0, 0, 4⟩)), (11, .slice o n c), (12, .int .i64 n), (13, .int .i64 i)] (AHeap.rows 11 [(0, brdRow C o n c), (1, bT), (2, .made [s.val] 4 true), (3, .made [Qd0.val] 4 true)]) .normal
        [(3, .ptr (some ⟨2, 0, 0, 0, 4⟩)), (4, .ptr (some ⟨3, 0, 0, 0, 4⟩)), (11, .slice o n c), (12, .int .i64 n), (13, .int .i64 (i + 1 : Nat))] (AHeap.rows K [(0, brdRow C o n c), (1, bT), (2, .made [s.val] 4 true), (3, .made [Qd0.val] 4 true), (14, x)]) → HitEnds C n c o bT T s i) := fun hm K x r => by
      have hp2 : ∀ j u, j < i + 1 → T[j]? = some u → ¬ MeetsZ u s := fun j u hj hu => by
        by_cases c : j = i
        · subst c; rw [ht] at hu; cases hu; exact hm
        · exact hp j u (by omega) hu
      rcases hit_loop hs1 f (i + 1) (by omega) hp2 with ⟨a, l⟩ | ⟨u, a1, a2, l⟩
      · exact Or.inl (And.intro a (Loops.round r (ce K x) l))
      · exact Or.inr ⟨u, a1, a2, Loops.round r (ce K x) l⟩
    have c1 : (i : Int) < n := by omega
    have c2 := ix_spS (k := .i64) hs hi
    have c3 := hel i t ht
    have f1 := fit_add hs1.1 hs1.2.2.1
    have f2 := fit_add st.1 st.2.2.1
    have f3 := fit_add hs1.2.1 hs1.2.2.2
    have f4 := fit_add st.2.1 st.2.2.2
    have f5 : -9223372036854775808 ≤ (i : Int) + 1 ∧ (i : Int) + (1 : Int) ≤ 9223372036854775807 := by omega
    by_cases m1 : t.a < s.a + s.c
    · by_cases m2 : s.a < t.a + t.c
      · by_cases m3 : t.b < s.b + s.d
        · by_cases m4 : s.b < t.b + t.d
          · refine .inr ⟨t, htm, ⟨m1, m2, m3, m4⟩, ?_⟩
            refine (Loops.last (by simp) (hit_y o n c v i C bT s.a s.b s.c s.d t.a t.b t.c t.d c1 c2 c3 f1 m1 f2 m2 f3 m3 f4 m4)).post ?_
            exact Ent.drop (by kernel_rfl) (by kernel_rfl) (by kernel_rfl) (by kernel_rfl) (by simp [All_cons, All_nil, Clo, Ids]) (by
              simp only [List.map, All_cons, All_nil, and_true]
              exact ⟨fun e he => by simp [brdRow, ABlk.made] at he; subst he; simp [Clo, Clos]; exact hs.clo (by simp [Ids]), hb.clo _, fun e he => by simp [ABlk.made] at he; subst he; exact (Qd.bare _).clo _⟩)
          · exact go (fun h => m4 h.2.2.2) (hit_m3 o n c v i C bT s.a s.b s.c s.d t.a t.b t.c t.d c1 c2 c3 f1 m1 f2 m2 f3 m3 f4 m4 f5)
        · exact go (fun h => m3 h.2.2.1) (hit_m2 o n c v i C bT s.a s.b s.c s.d t.a t.b t.c t.d c1 c2 c3 f1 m1 f2 m2 f3 m3 f5)
      · exact go (fun h => m2 h.2.1) (hit_m1 o n c v i C bT s.a s.b s.c s.d t.a t.b t.c t.d c1 c2 c3 f1 m1 f2 m2 f5)
    · exact go (fun h => m1 h.1) (hit_m0 o n c v i C bT s.a s.b s.c s.d t.a t.b t.c t.d c1 c2 c3 f1 m1 f5)
end

theorem tup2 (q : Qd) (b : Bool) : Bare (.tuple [q.val, .bool b]) := ⟨fun r => by simp [AVal.ren, AVal.rens, (Qd.bare q).1], by simp [Clo, Clos]; exact (Qd.bare q).2⟩

/-- grid.board.hit -/
theorem hit_does {H : AHeap} {ib iT C : Nat} {o : Option AAddr} {n c v : Nat} {bT : ABlk} {T : List Qd} (h : BoardAt H ib iT C o n c v bT T) (hT : ∀ t, t ∈ T → Small t) (hn : n ≤ 2 ^ 40) {s : Qd} (hs : Small s) :
    (FreeZ T s ∧ FDoes Try.prog 53 [.ptr (some ⟨ib, 0, 0, 0, 2⟩), s.val] H (.tuple [Qd0.val, .bool false]) H) ∨ (∃ t, t ∈ T ∧ MeetsZ t s ∧ FDoes Try.prog 53 [.ptr (some ⟨ib, 0, 0, 0, 2⟩), s.val] H (.tuple [t.val, .bool true]) H) := by
  have s1 := h.sl.at 1
  rcases hit_loop (C := C) s1 h.bare h.len h.el hT hn hs n 0 (by omega) (fun j t hj _ => by omega) with ⟨a, l⟩ | ⟨t, a1, a2, l⟩
  · exact .inl ⟨a, h.pure (hit_call_no _ n c v 0 C bT s.a s.b s.c s.d 0 0 0 0 (Runs.of_loops l) (by kernel_rfl)) (by kernel_rfl) (tup2 _ _) (by simp [Qd.bare])⟩
  · exact .inr ⟨t, a1, a2, h.pure (hit_call_yes _ n c v 0 C bT s.a s.b s.c s.d t.a t.b t.c t.d (Runs.of_loops l) (by kernel_rfl)) (by kernel_rfl) (tup2 _ _) (by simp [Qd.bare])⟩

end Go.Proofs.Ytcgcpmcjaeenlaa

namespace Go.Proofs.Ytcgcpmcjaeenlaa
open Go.Lift
set_option maxRecDepth 1000000
set_option linter.unusedSimpArgs false
set_option linter.unusedVariables false
set_option linter.unusedSectionVars false

theorem brd_cloI {C : Nat} {o : Option AAddr} {n c : Nat} {D : Nat → Prop} (h : Clo D (.slice o n c)) : ∀ e ∈ (brdRow C o n c).elems, Clo D e := by
  intro e he
  simp [brdRow, ABlk.made] at he
  subst he
  simp [Clo, Clos]
  exact h
theorem qd_cloI (q : Qd) (D : Nat → Prop) : ∀ e ∈ (ABlk.made [q.val] 4 true).elems, Clo D e := by
  intro e he
  simp [ABlk.made] at he
  subst he
  exact (Qd.bare _).clo _

/-- the four rows of a method of the board -/
noncomputable def h4 (K C : Nat) (o : Option AAddr) (n c : Nat) (bT : ABlk) (s t : Qd) : AHeap := AHeap.rows K [(0, brdRow C o n c), (1, bT), (2, .made [s.val] 4 true), (3, .made [t.val] 4 true)]

section
variable {C n c v : Nat} {o : Option AAddr} (hs : SlArg o n c 1 v 0 4) {bT : ABlk} (hb : BareB bT) {T : List Qd} (hl : T.length = n) (hel : ElT bT v T) {M : Int} (hT : GoodT C M T) (hC : C ≤ 64) (hM : 0 ≤ M ∧ M ≤ 2 ^ 39) (hn : n ≤ 2 ^ 40)
include hs hb hl hel hT hC hM hn

def AcEnds (C n c : Nat) (o : Option AAddr) (bT : ABlk) (T : List Qd) (s : Qd) (x : Int) : Prop :=
  (∃ r, AcrossZ T C s r ∧ Loops Try.prog 2 35 (loopAt Try.prog 31 0) [(0, .ptr (some ⟨0, 0, 0, 0, 2⟩)), (3, .ptr (some ⟨2, 0, 0, 0, 4⟩)), (4, .ptr (some ⟨3, 0, 0, 0, 4⟩))] (h4 6 C o n c bT (s.col x) Qd0) .ret [(4, .ptr (some ⟨3, 0, 0, 0, 4⟩))] (AHeap.rows 16 [(0, brdRow C o n c), (1, bT), (3, .made [r.val] 4 true)])) ∨
  (AcrossZ T C s (s.col 0) ∧ ∃ x', Loops Try.prog 2 35 (loopAt Try.prog 31 0) [(0, .ptr (some ⟨0, 0, 0, 0, 2⟩)), (3, .ptr (some ⟨2, 0, 0, 0, 4⟩)), (4, .ptr (some ⟨3, 0, 0, 0, 4⟩))] (h4 6 C o n c bT (s.col x) Qd0) (.exit 0) [(3, .ptr (some ⟨2, 0, 0, 0, 4⟩)), (4, .ptr (some ⟨3, 0, 0, 0, 4⟩))] (h4 16 C o n c bT (s.col x') Qd0))

theorem ac_loop {s : Qd} (hsm : Small s) (hsc : 1 ≤ s.c) : ∀ (f : Nat) (x : Int), 0 ≤ x → x ≤ C → (C : Int) - x ≤ f → (∀ x', 0 ≤ x' → x' < x → ¬ FreeZ T (s.col x')) → AcEnds C n c o bT T s x
  | 0, x, h0, h1, h2, hp => by
    have := hsm.2.2.1
    exact .inr ⟨.inr ⟨rfl, fun x' a b => hp x' a (by omega)⟩, x, Loops.last (by simp) (ac_end o n c v 0 C bT x s.b s.c s.d 0 0 0 0 (by omega) (by omega))⟩
  | f + 1, x, h0, h1, h2, hp => by
    have hcc := hsm.2.2.1
    by_cases hx : x + s.c ≤ C
    · have d0 : Clo (Ids [0, 1, 2, 3]) (.slice o n c) := hs.clo (by simp [Ids])
      have bd : BoardAt (h4 25 C o n c bT (s.col x) Qd0) 0 1 C o n c v bT T := ⟨by kernel_rfl, by kernel_rfl, hs, by decide, by unfold h4; rw [AHeap.rows_next]; omega, by unfold h4; rw [AHeap.rows_next]; omega, hb, hl, hel⟩
      have sx : Small (s.col x) := ⟨⟨show -2 ^ 40 ≤ x by omega, show x ≤ 2 ^ 40 by omega⟩, hsm.2⟩
      rcases hit_does bd (hT.small (by omega) hM.2) hn sx with ⟨fr, k⟩ | ⟨t, ht, hm, k⟩
      · refine .inl ⟨s.col x, .inl ⟨x, h0, hx, rfl, fr, hp⟩, ?_⟩
        refine (Loops.last (by simp) (ac_found o n c v 0 C bT x s.b s.c s.d 0 0 0 0 (by omega) hx k)).post ?_
        exact Ent.drop (by kernel_rfl) (by kernel_rfl) (by kernel_rfl) (by kernel_rfl) (by simp [All_cons, All_nil, Clo, Ids]) (by
          simp only [List.map, All_cons, All_nil, and_true]
          exact ⟨brd_cloI (hs.clo (by simp [Ids])), hb.clo _, qd_cloI _ _⟩)
      · have g := hT t ht
        obtain ⟨n1, n2⟩ := hop_col ht hm hp
        have st := ac_step o n c v 0 C bT x s.b s.c s.d t.a t.b t.c t.d (by omega) hx k (by omega)
        have st2 := st.post (i := Ent.drop (K := 6) (l := [(0, brdRow C o n c), (1, bT), (2, .made [(s.col (t.a + t.c)).val] 4 true), (3, .made [Qd0.val] 4 true)]) (by kernel_rfl) (by kernel_rfl) (by kernel_rfl) (by kernel_rfl) (by simp [All_cons, All_nil, Clo, Ids]) (by
            simp only [List.map, All_cons, All_nil, and_true]
            exact ⟨brd_cloI d0, hb.clo _, qd_cloI _ _, qd_cloI _ _⟩))
        rcases ac_loop hsm hsc f (t.a + t.c) (by omega) (by omega) (by omega) n2 with ⟨r, a, l⟩ | ⟨a, x', l⟩
        · exact .inl ⟨r, a, Loops.step st2 l⟩
        · exact .inr ⟨a, x', Loops.step st2 l⟩
    · exact .inr ⟨.inr ⟨rfl, fun x' a b => hp x' a (by omega)⟩, x, Loops.last (by simp) (ac_end o n c v 0 C bT x s.b s.c s.d 0 0 0 0 (by omega) hx)⟩

/-! down -/
def DnIn (C n c : Nat) (o : Option AAddr) (bT : ABlk) (T : List Qd) (M : Int) (s : Qd) (y0 y : Int) (m : Bool) (i : Nat) : Prop :=
  ∃ y2 m2, (0 ≤ y2 ∧ y2 ≤ M) ∧ (∀ y', 0 ≤ y' → y' < y2 → ¬ FreeZ T (s.row y')) ∧ (m2 = false → FreeZ T (s.row y2)) ∧ (m2 = true → y0 < y2) ∧
    Loops Try.prog 2 65 (loopAt Try.prog 32 1) [(0, .ptr (some ⟨0, 0, 0, 0, 2⟩)), (3, .ptr (some ⟨2, 0, 0, 0, 4⟩)), (4, .ptr (some ⟨3, 0, 0, 0, 4⟩)), (5, .bool m), (13, .slice o n c), (14, .int .i64 n), (15, .int .i64 i)] (h4 15 C o n c bT (s.row y) Qd0)
      (.exit 2) [(0, .ptr (some ⟨0, 0, 0, 0, 2⟩)), (3, .ptr (some ⟨2, 0, 0, 0, 4⟩)), (4, .ptr (some ⟨3, 0, 0, 0, 4⟩)), (5, .bool m2)] (h4 16 C o n c bT (s.row y2) Qd0)

theorem dn_in {s : Qd} (hsm : Small s) {y0 : Int} : ∀ (f i : Nat) (y : Int) (m : Bool), i + f = n → (0 ≤ y ∧ y ≤ M) → (∀ y', 0 ≤ y' → y' < y → ¬ FreeZ T (s.row y')) → (m = false → ∀ j t, j < i → T[j]? = some t → ¬ MeetsZ t (s.row y)) → (m = true → y0 < y) → y0 ≤ y → DnIn C n c o bT T M s y0 y m i
  | 0, i, y, m, e, hy, hp, hf, hm, hle => by
    obtain rfl : i = n := by omega
    refine ⟨y, m, hy, hp, fun h t ht hme => ?_, hm, Loops.last (by simp) (dn_iend o i c v i C bT s.a y s.c s.d 0 0 0 0 m (by omega))⟩
    obtain ⟨j, hj, e1⟩ := List.mem_iff_getElem.1 ht
    exact hf h j t (by omega) (by rw [List.getElem?_eq_getElem hj, e1]) hme
  | f + 1, i, y, m, e, hy, hp, hf, hm, hle => by
    have hi : i < n := by omega
    obtain ⟨t, ht⟩ : ∃ t, T[i]? = some t := ⟨T[i], List.getElem?_eq_getElem (by omega)⟩
    have htm : t ∈ T := List.mem_of_getElem? ht
    have g := hT t htm
    have st := hT.small (by omega) hM.2 t htm
    have d0 : Clo (Ids [0, 1, 2, 3]) (.slice o n c) := hs.clo (by simp [Ids])
    have sy : Small (s.row y) := ⟨hsm.1, ⟨show -2 ^ 40 ≤ y by omega, show y ≤ 2 ^ 40 by omega⟩, hsm.2.2⟩
    have pp : ∀ (m2 : Bool) (y2 : Int) (K : Nat) (x : ABlk), Ent 2 65 [(0, .ptr (some ⟨0, 0, 0, 0, 2⟩)), (3, .ptr (some ⟨2, 0, 0, 0, 4⟩)), (4, .ptr (some ⟨3, 0, 0, 0, 4⟩)), (5, .bool m2), (13, .slice o n c), (14, .int .i64 n), (15, .int .i64 (i + 1 : Nat))] (AHeap.rows K [(0, brdRow C o n c), (1, bT), (2, .made [(s.row y2).val] 4 true), (3, .made [Qd0.val] 4 true), (18, x)])
        [(0, .ptr (some ⟨0, 0, 0, 0, 2⟩)), (3, .ptr (some ⟨2, 0, 0, 0, 4⟩)), (4, .ptr (some ⟨3, 0, 0, 0, 4⟩)), (5, .bool m2), (13, .slice o n c), (14, .int .i64 n), (15, .int .i64 (i + 1 : Nat))] (h4 15 C o n c bT (s.row y2) Qd0) := fun m2 y2 K x =>
      Ent.drop (by kernel_rfl) (by kernel_rfl) (by kernel_rfl) (by kernel_rfl) (by simp [All_cons, All_nil, Clo, d0]; simp [Ids]) (by
        simp only [List.map, All_cons, All_nil, and_true]
        exact ⟨brd_cloI d0, hb.clo _, qd_cloI _ _, qd_cloI _ _⟩)
    have c1 : (i : Int) < n := by omega
    have c2 := ix_spS (k := .i64) hs hi
    have c3 := hel i t ht
    have f1 := fit_add hsm.1 hsm.2.2.1
    have f2 := fit_add st.1 st.2.2.1
    have f3 := fit_add sy.2.1 hsm.2.2.2
    have f4 := fit_add st.2.1 st.2.2.2
    have f5 : -9223372036854775808 ≤ (i : Int) + 1 ∧ (i : Int) + (1 : Int) ≤ 9223372036854775807 := by omega
    have go : ¬ MeetsZ t (s.row y) → (∀ {K : Nat} {x : ABlk}, Runs Try.prog 2 65 (loopAt Try.prog 32 1) [(0, .ptr (some ⟨0, 0, 0, 0, 2⟩)), (3, .ptr (some ⟨2, 0, 0, 0, 4⟩)), (4, .ptr (some ⟨3, 0, 0, 0, 4⟩)), (5, .bool m), (13, .slice o n c), (14, .int .i64 n), (15, .int .i64 i)] (h4 15 C o n c bT (s.row y) Qd0) .normal
        [(0, .ptr (some ⟨0, 0, 0, 0, 2⟩)), (3, .ptr (some ⟨2, 0, 0, 0, 4⟩)), (4, .ptr (some ⟨3, 0, 0, 0, 4⟩)), (5, .bool m), (13, .slice o n c), (14, .int .i64 n), (15, .int .i64 (i + 1 : Nat))] (AHeap.rows K [(0, brdRow C o n c), (1, bT), (2, .made [(s.row y).val] 4 true), (3, .made [Qd0.val] 4 true), (18, x)]) → DnIn C n c o bT T M s y0 y m i) := fun hme K x r => by
      obtain ⟨y2, m2, a1, a2, a3, a4, l⟩ := dn_in hsm f (i + 1) y m (by omega) hy hp (fun h j u hj hu => by
        by_cases c : j = i
        · subst c; rw [ht] at hu; cases hu; exact hme
        · exact hf h j u (by omega) hu) hm hle
      exact ⟨y2, m2, a1, a2, a3, a4, Loops.step (r.post (pp m y K x)) l⟩
    by_cases m1 : t.a < s.a + s.c
    · by_cases m2 : s.a < t.a + t.c
      · by_cases m3 : t.b < y + s.d
        · by_cases m4 : y < t.b + t.d
          · obtain ⟨n1, n2⟩ := hop_row (s := s) (y := y) htm ⟨m1, m2, m3, m4⟩ hp
            obtain ⟨y2, mm, a1, a2, a3, a4, l⟩ := dn_in hsm (y0 := y0) f (i + 1) (t.b + t.d) true (by omega) (by omega) n2 (fun h => by cases h) (fun _ => by omega) (by omega)
            exact ⟨y2, mm, a1, a2, a3, a4, Loops.step ((dn_y o n c v i C bT s.a y s.c s.d t.a t.b t.c t.d m c1 c2 c3 f1 m1 f2 m2 f3 m3 f4 m4 f4 f5).post (pp true (t.b + t.d) _ _)) l⟩
          · exact go (fun h => m4 h.2.2.2) (dn_m3 o n c v i C bT s.a y s.c s.d t.a t.b t.c t.d m c1 c2 c3 f1 m1 f2 m2 f3 m3 f4 m4 f5)
        · exact go (fun h => m3 h.2.2.1) (dn_m2 o n c v i C bT s.a y s.c s.d t.a t.b t.c t.d m c1 c2 c3 f1 m1 f2 m2 f3 m3 f5)
      · exact go (fun h => m2 h.2.1) (dn_m1 o n c v i C bT s.a y s.c s.d t.a t.b t.c t.d m c1 c2 c3 f1 m1 f2 m2 f5)
    · exact go (fun h => m1 h.1) (dn_m0 o n c v i C bT s.a y s.c s.d t.a t.b t.c t.d m c1 c2 c3 f1 m1 f5)

def DnEnds (C n c : Nat) (o : Option AAddr) (bT : ABlk) (T : List Qd) (s : Qd) (y : Int) (m : Bool) : Prop :=
  ∃ r, DownZ T s r ∧ Loops Try.prog 2 65 (loopAt Try.prog 32 0) [(0, .ptr (some ⟨0, 0, 0, 0, 2⟩)), (3, .ptr (some ⟨2, 0, 0, 0, 4⟩)), (4, .ptr (some ⟨3, 0, 0, 0, 4⟩)), (5, .bool m)] (h4 7 C o n c bT (s.row y) Qd0)
    (.exit 0) [(3, .ptr (some ⟨2, 0, 0, 0, 4⟩)), (4, .ptr (some ⟨3, 0, 0, 0, 4⟩))] (h4 8 C o n c bT r Qd0)

theorem dn_loop {s : Qd} (hsm : Small s) : ∀ (f : Nat) (y : Int), (0 ≤ y ∧ y ≤ M) → M - y < f → (∀ y', 0 ≤ y' → y' < y → ¬ FreeZ T (s.row y')) → DnEnds C n c o bT T s y true
  | 0, y, h, h2, hp => by omega
  | f + 1, y, h, h2, hp => by
    obtain ⟨y2, m2, a1, a2, a3, a4, l⟩ := dn_in hs hb hl hel hT hC hM hn hsm (y0 := y) n 0 y false (by omega) h hp (fun _ j t hj _ => by omega) (fun h => by cases h) (Int.le_refl _)
    have rd := dn_round o n c v 0 C bT s.a y s.c s.d s.a y2 s.c s.d m2 (Runs.of_loops l)
    have rd2 := rd.post (i := Ent.drop (K := 7) (l := [(0, brdRow C o n c), (1, bT), (2, .made [(s.row y2).val] 4 true), (3, .made [Qd0.val] 4 true)]) (by kernel_rfl) (by kernel_rfl) (by kernel_rfl) (by kernel_rfl) (by simp [All_cons, All_nil, Clo, Ids]) (by
        simp only [List.map, All_cons, All_nil, and_true]
        exact ⟨brd_cloI (hs.clo (by simp [Ids])), hb.clo _, qd_cloI _ _, qd_cloI _ _⟩))
    cases m2 with
    | false => exact ⟨s.row y2, ⟨y2, a1.1, rfl, a3 rfl, a2⟩, Loops.step rd2 (Loops.last (by simp) (dn_last o n c v 0 C bT s.a y2 s.c s.d 0 0 0 0 false))⟩
    | true =>
      have := a4 rfl
      obtain ⟨r, b1, b2⟩ := dn_loop hsm f y2 a1 (by omega) a2
      exact ⟨r, b1, Loops.step rd2 b2⟩
end

/-- grid.board.across -/
theorem across_does {H : AHeap} {ib iT C : Nat} {o : Option AAddr} {n c v : Nat} {bT : ABlk} {T : List Qd} (h : BoardAt H ib iT C o n c v bT T) {M : Int} (hT : GoodT C M T) (hC : C ≤ 64) (hM : 0 ≤ M ∧ M ≤ 2 ^ 39) (hn : n ≤ 2 ^ 40) {s : Qd} (hs : Small s) (hsc : 1 ≤ s.c) :
    ∃ r, AcrossZ T C s r ∧ FDoes Try.prog 31 [.ptr (some ⟨ib, 0, 0, 0, 2⟩), s.val] H r.val H := by
  have s1 := h.sl.at 1
  have cl : Clo (Ids [0, 1, 2, 3]) (.slice (o.map fun a => { a with id := 1 }) n c) := s1.clo (by simp [Ids])
  have pre : ∀ {h0 : AHeap}, [h0.get 0, h0.get 1, h0.get 2, h0.get 3] = [some (brdRow C (o.map fun a => { a with id := 1 }) n c), some bT, some (.made [(s.col 0).val] 4 true), some (.made [Qd0.val] 4 true)] →
      Ent 2 35 [(0, .ptr (some ⟨0, 0, 0, 0, 2⟩)), (3, .ptr (some ⟨2, 0, 0, 0, 4⟩)), (4, .ptr (some ⟨3, 0, 0, 0, 4⟩))] h0 [(0, .ptr (some ⟨0, 0, 0, 0, 2⟩)), (3, .ptr (some ⟨2, 0, 0, 0, 4⟩)), (4, .ptr (some ⟨3, 0, 0, 0, 4⟩))] (h4 6 C (o.map fun a => { a with id := 1 }) n c bT (s.col 0) Qd0) := fun e =>
    Ent.drop e (by kernel_rfl) (by kernel_rfl) (by kernel_rfl) (by simp [All_cons, All_nil, Clo, Ids]) (by
      simp only [List.map, All_cons, All_nil, and_true]
      exact ⟨brd_cloI cl, h.bare.clo _, qd_cloI _ _, qd_cloI _ _⟩)
  rcases ac_loop s1 h.bare h.len h.el hT hC hM hn hs hsc C 0 (by omega) (by omega) (by omega) (fun x' a b => by omega) with ⟨r, a, l⟩ | ⟨a, x', l⟩
  · exact ⟨r, a, h.pure (ac_call_yes _ n c v 0 C bT s.a s.b s.c s.d r.a r.b r.c r.d (Runs.of_loops (Tri.pre l (pre (by kernel_rfl)))) (by kernel_rfl)) (by kernel_rfl) (Qd.bare _) (by simp [Qd.bare])⟩
  · exact ⟨_, a, h.pure (ac_call_no _ n c v 0 C bT s.a s.b s.c s.d 0 0 0 0 x' (Runs.of_loops (Tri.pre l (pre (by kernel_rfl)))) (by kernel_rfl)) (by kernel_rfl) (Qd.bare (s.col 0)) (by simp [Qd.bare])⟩

/-- grid.board.down -/
theorem down_does {H : AHeap} {ib iT C : Nat} {o : Option AAddr} {n c v : Nat} {bT : ABlk} {T : List Qd} (h : BoardAt H ib iT C o n c v bT T) {M : Int} (hT : GoodT C M T) (hC : C ≤ 64) (hM : 0 ≤ M ∧ M ≤ 2 ^ 39) (hn : n ≤ 2 ^ 40) {s : Qd} (hs : Small s) :
    ∃ r, DownZ T s r ∧ FDoes Try.prog 32 [.ptr (some ⟨ib, 0, 0, 0, 2⟩), s.val] H r.val H := by
  have s1 := h.sl.at 1
  obtain ⟨r, a, l⟩ := dn_loop s1 h.bare h.len h.el hT hC hM hn hs (M.toNat + 1) 0 (by omega) (by omega) (fun y' a b => by omega)
  exact ⟨r, a, h.pure (dn_call _ n c v 0 C bT s.a s.b s.c s.d r.a r.b r.c r.d (Runs.of_loops l) (by kernel_rfl)) (by kernel_rfl) (Qd.bare _) (by simp [Qd.bare])⟩

end Go.Proofs.Ytcgcpmcjaeenlaa

namespace Go.Proofs.Ytcgcpmcjaeenlaa
open Go.Lift
set_option maxRecDepth 1000000
set_option linter.unusedSimpArgs false
set_option linter.unusedVariables false
set_option linter.unusedSectionVars false

theorem rm_0 (ta tb tc td sa sb sc sd : Int) (hc_0 : -9223372036854775808 ≤ sa + sc ∧ sa + sc ≤ 9223372036854775807) (hc_1 : ¬ (ta < sa + sc)) :
    FDoes Try.prog 50 [.agg [.int .i64 ta, .int .i64 tb, .int .i64 tc, .int .i64 td], .agg [.int .i64 sa, .int .i64 sb, .int .i64 sc, .int .i64 sd]] (⟨0, .nil⟩) (AVal.bool false) (AHeap.rows 42 [(0, .made [.agg [.int .i64 ta, .int .i64 tb, .int .i64 tc, .int .i64 td]] 4 true), (1, .made [.agg [.int .i64 sa, .int .i64 sb, .int .i64 sc, .int .i64 sd]] 4 true)]) :=
  pcall_does env_ok mixed (hs := [.go 1006, .val 1007 (.bool false)]) (rs := []) (by kernel_rfl) (All.cons hc_0 (All.cons (okF hc_1) (All.nil)))

theorem rm_1 (ta tb tc td sa sb sc sd : Int) (hc_0 : -9223372036854775808 ≤ sa + sc ∧ sa + sc ≤ 9223372036854775807) (hc_1 : ta < sa + sc) (hc_2 : -9223372036854775808 ≤ ta + tc ∧ ta + tc ≤ 9223372036854775807) (hc_3 : ¬ (sa < ta + tc)) :
    FDoes Try.prog 50 [.agg [.int .i64 ta, .int .i64 tb, .int .i64 tc, .int .i64 td], .agg [.int .i64 sa, .int .i64 sb, .int .i64 sc, .int .i64 sd]] (⟨0, .nil⟩) (AVal.bool false) (AHeap.rows 42 [(0, .made [.agg [.int .i64 ta, .int .i64 tb, .int .i64 tc, .int .i64 td]] 4 true), (1, .made [.agg [.int .i64 sa, .int .i64 sb, .int .i64 sc, .int .i64 sd]] 4 true)]) :=
  pcall_does env_ok mixed (hs := [.go 1006, .val 1007 (.bool true), .go 1015, .val 1016 (.bool false)]) (rs := []) (by kernel_rfl) (All.cons hc_0 (All.cons (okT hc_1) (All.cons hc_2 (All.cons (okF hc_3) (All.nil)))))

theorem rm_2 (ta tb tc td sa sb sc sd : Int) (hc_0 : -9223372036854775808 ≤ sa + sc ∧ sa + sc ≤ 9223372036854775807) (hc_1 : ta < sa + sc) (hc_2 : -9223372036854775808 ≤ ta + tc ∧ ta + tc ≤ 9223372036854775807) (hc_3 : sa < ta + tc) (hc_4 : -9223372036854775808 ≤ sb + sd ∧ sb + sd ≤ 9223372036854775807) (hc_5 : ¬ (tb < sb + sd)) :
    FDoes Try.prog 50 [.agg [.int .i64 ta, .int .i64 tb, .int .i64 tc, .int .i64 td], .agg [.int .i64 sa, .int .i64 sb, .int .i64 sc, .int .i64 sd]] (⟨0, .nil⟩) (AVal.bool false) (AHeap.rows 42 [(0, .made [.agg [.int .i64 ta, .int .i64 tb, .int .i64 tc, .int .i64 td]] 4 true), (1, .made [.agg [.int .i64 sa, .int .i64 sb, .int .i64 sc, .int .i64 sd]] 4 true)]) :=
  pcall_does env_ok mixed (hs := [.go 1006, .val 1007 (.bool true), .go 1015, .val 1016 (.bool true), .go 1025, .val 1026 (.bool false)]) (rs := []) (by kernel_rfl) (All.cons hc_0 (All.cons (okT hc_1) (All.cons hc_2 (All.cons (okT hc_3) (All.cons hc_4 (All.cons (okF hc_5) (All.nil)))))))

theorem rm_3 (ta tb tc td sa sb sc sd : Int) (hc_0 : -9223372036854775808 ≤ sa + sc ∧ sa + sc ≤ 9223372036854775807) (hc_1 : ta < sa + sc) (hc_2 : -9223372036854775808 ≤ ta + tc ∧ ta + tc ≤ 9223372036854775807) (hc_3 : sa < ta + tc) (hc_4 : -9223372036854775808 ≤ sb + sd ∧ sb + sd ≤ 9223372036854775807) (hc_5 : tb < sb + sd) (hc_6 : -9223372036854775808 ≤ tb + td ∧ tb + td ≤ 9223372036854775807) (hc_7 : ¬ (sb < tb + td)) :
    FDoes Try.prog 50 [.agg [.int .i64 ta, .int .i64 tb, .int .i64 tc, .int .i64 td], .agg [.int .i64 sa, .int .i64 sb, .int .i64 sc, .int .i64 sd]] (⟨0, .nil⟩) (AVal.bool false) (AHeap.rows 42 [(0, .made [.agg [.int .i64 ta, .int .i64 tb, .int .i64 tc, .int .i64 td]] 4 true), (1, .made [.agg [.int .i64 sa, .int .i64 sb, .int .i64 sc, .int .i64 sd]] 4 true)]) :=
  pcall_does env_ok mixed (hs := [.go 1006, .val 1007 (.bool true), .go 1015, .val 1016 (.bool true), .go 1025, .val 1026 (.bool true), .go 1035, .val 1036 (.bool false)]) (rs := []) (by kernel_rfl) (All.cons hc_0 (All.cons (okT hc_1) (All.cons hc_2 (All.cons (okT hc_3) (All.cons hc_4 (All.cons (okT hc_5) (All.cons hc_6 (All.cons (okF hc_7) (All.nil)))))))))

theorem rm_y (ta tb tc td sa sb sc sd : Int) (hc_0 : -9223372036854775808 ≤ sa + sc ∧ sa + sc ≤ 9223372036854775807) (hc_1 : ta < sa + sc) (hc_2 : -9223372036854775808 ≤ ta + tc ∧ ta + tc ≤ 9223372036854775807) (hc_3 : sa < ta + tc) (hc_4 : -9223372036854775808 ≤ sb + sd ∧ sb + sd ≤ 9223372036854775807) (hc_5 : tb < sb + sd) (hc_6 : -9223372036854775808 ≤ tb + td ∧ tb + td ≤ 9223372036854775807) (hc_7 : sb < tb + td) :
    FDoes Try.prog 50 [.agg [.int .i64 ta, .int .i64 tb, .int .i64 tc, .int .i64 td], .agg [.int .i64 sa, .int .i64 sb, .int .i64 sc, .int .i64 sd]] (⟨0, .nil⟩) (AVal.bool true) (AHeap.rows 42 [(0, .made [.agg [.int .i64 ta, .int .i64 tb, .int .i64 tc, .int .i64 td]] 4 true), (1, .made [.agg [.int .i64 sa, .int .i64 sb, .int .i64 sc, .int .i64 sd]] 4 true)]) :=
  pcall_does env_ok mixed (hs := [.go 1006, .val 1007 (.bool true), .go 1015, .val 1016 (.bool true), .go 1025, .val 1026 (.bool true), .go 1035, .val 1036 (.bool true)]) (rs := []) (by kernel_rfl) (All.cons hc_0 (All.cons (okT hc_1) (All.cons hc_2 (All.cons (okT hc_3) (All.cons hc_4 (All.cons (okT hc_5) (All.cons hc_6 (All.cons (okT hc_7) (All.nil)))))))))


theorem rmeets_does {t s : Qd} (ht : Small t) (hs : Small s) (H : AHeap) : FDoes Try.prog 50 [t.val, s.val] H (.bool (decide (MeetsZ t s))) H := by
  have f1 := fit_add hs.1 hs.2.2.1
  have f2 := fit_add ht.1 ht.2.2.1
  have f3 := fit_add hs.2.1 hs.2.2.2
  have f4 := fit_add ht.2.1 ht.2.2.2
  have hb : ∀ a, a ∈ [t.val, s.val] → Bare a := by simp [Qd.bare]
  by_cases m1 : t.a < s.a + s.c
  · by_cases m2 : s.a < t.a + t.c
    · by_cases m3 : t.b < s.b + s.d
      · by_cases m4 : s.b < t.b + t.d
        · rw [decide_eq_true (show MeetsZ t s from ⟨m1, m2, m3, m4⟩)]
          exact (rm_y t.a t.b t.c t.d s.a s.b s.c s.d f1 m1 f2 m2 f3 m3 f4 m4).bare hb (Bare.bool _) H
        · rw [decide_eq_false (show ¬ MeetsZ t s from fun h => m4 h.2.2.2)]
          exact (rm_3 t.a t.b t.c t.d s.a s.b s.c s.d f1 m1 f2 m2 f3 m3 f4 m4).bare hb (Bare.bool _) H
      · rw [decide_eq_false (show ¬ MeetsZ t s from fun h => m3 h.2.2.1)]
        exact (rm_2 t.a t.b t.c t.d s.a s.b s.c s.d f1 m1 f2 m2 f3 m3).bare hb (Bare.bool _) H
    · rw [decide_eq_false (show ¬ MeetsZ t s from fun h => m2 h.2.1)]
      exact (rm_1 t.a t.b t.c t.d s.a s.b s.c s.d f1 m1 f2 m2).bare hb (Bare.bool _) H
  · rw [decide_eq_false (show ¬ MeetsZ t s from fun h => m1 h.1)]
    exact (rm_0 t.a t.b t.c t.d s.a s.b s.c s.d f1 m1).bare hb (Bare.bool _) H

end Go.Proofs.Ytcgcpmcjaeenlaa

namespace Go.Proofs.Ytcgcpmcjaeenlaa
open Go.Lift
set_option maxRecDepth 1000000
set_option linter.unusedSimpArgs false
set_option linter.unusedVariables false
set_option linter.unusedSectionVars false

theorem pf_no (o : Option AAddr) (n c v i C : Nat) (bT : ABlk) (x sa sb sc sd ta tb tc td : Int) (m : Bool) (hc_0 : (i : Int) < (n : Int)) (hc_1 : aindexAddr env.D 22 (.slice o n c) (.int .i64 (i : Int)) = some (.ptr (some ⟨1, v, 0 + i, 0, 4⟩))) (hc_2 : ABlk.elem? bT v (0 + i) = some (.agg [.int .i64 ta, .int .i64 tb, .int .i64 tc, .int .i64 td])) (hc_3 : FDoes Try.prog 50 [.agg [.int .i64 ta, .int .i64 tb, .int .i64 tc, .int .i64 td], .agg [.int .i64 sa, .int .i64 sb, .int .i64 sc, .int .i64 sd]] (AHeap.rows 22 [(0, (.made ([.agg [.slice o n c]]) 1 true)), (1, bT), (2, (.made ([.agg [.int .i64 sa, .int .i64 sb, .int .i64 sc, .int .i64 sd]]) 4 true))]) (AVal.bool false) (AHeap.rows 22 [(0, (.made ([.agg [.slice o n c]]) 1 true)), (1, bT), (2, (.made ([.agg [.int .i64 sa, .int .i64 sb, .int .i64 sc, .int .i64 sd]]) 4 true))])) (hc_4 : -9223372036854775808 ≤ (i : Int) + 1 ∧ (i : Int) + (1 : Int) ≤ 9223372036854775807) :
    Runs Try.prog 2 26 (loopAt Try.prog 49 0) [(0, .ptr (some ⟨0, 0, 0, 0, 1⟩)), (3, .ptr (some ⟨2, 0, 0, 0, 4⟩)), (5, .int .i64 i)] (AHeap.rows 5 [(0, .made [.agg [.slice o n c]] 1 true), (1, bT), (2, .made [.agg [.int .i64 sa, .int .i64 sb, .int .i64 sc, .int .i64 sd]] 4 true)]) .normal [(0, .ptr (some ⟨0, 0, 0, 0, 1⟩)), (3, .ptr (some ⟨2, 0, 0, 0, 4⟩)), (5, .int .i64 ((i : Int) + 1))] (AHeap.rows 26 [(0, (.made ([.agg [.slice o n c]]) 1 true)), (1, bT), (2, (.made ([.agg [.int .i64 sa, .int .i64 sb, .int .i64 sc, .int .i64 sd]]) 4 true))]) :=
  ppath_runs env_ok mixed (hs := [.val 2006 (.bool true), .val 4005 (.ptr (some ⟨1, v, 0 + i, 0, 4⟩)), .ld 4006 (.agg [.int .i64 ta, .int .i64 tb, .int .i64 tc, .int .i64 td]), .val 4008 (.bool false), .go 3001]) (keep := [0, 3, 5]) (by kernel_rfl) (All.cons (okT hc_0) (All.cons hc_1 (All.cons hc_2 (All.cons (CallT.mk hc_3) (All.cons hc_4 (All.nil))))))

theorem pf_yes (o : Option AAddr) (n c v i C : Nat) (bT : ABlk) (x sa sb sc sd ta tb tc td : Int) (m : Bool) (hc_0 : (i : Int) < (n : Int)) (hc_1 : aindexAddr env.D 22 (.slice o n c) (.int .i64 (i : Int)) = some (.ptr (some ⟨1, v, 0 + i, 0, 4⟩))) (hc_2 : ABlk.elem? bT v (0 + i) = some (.agg [.int .i64 ta, .int .i64 tb, .int .i64 tc, .int .i64 td])) (hc_3 : FDoes Try.prog 50 [.agg [.int .i64 ta, .int .i64 tb, .int .i64 tc, .int .i64 td], .agg [.int .i64 sa, .int .i64 sb, .int .i64 sc, .int .i64 sd]] (AHeap.rows 22 [(0, (.made ([.agg [.slice o n c]]) 1 true)), (1, bT), (2, (.made ([.agg [.int .i64 sa, .int .i64 sb, .int .i64 sc, .int .i64 sd]]) 4 true))]) (AVal.bool true) (AHeap.rows 22 [(0, (.made ([.agg [.slice o n c]]) 1 true)), (1, bT), (2, (.made ([.agg [.int .i64 sa, .int .i64 sb, .int .i64 sc, .int .i64 sd]]) 4 true))])) :
    Runs Try.prog 2 26 (loopAt Try.prog 49 0) [(0, .ptr (some ⟨0, 0, 0, 0, 1⟩)), (3, .ptr (some ⟨2, 0, 0, 0, 4⟩)), (5, .int .i64 i)] (AHeap.rows 5 [(0, .made [.agg [.slice o n c]] 1 true), (1, bT), (2, .made [.agg [.int .i64 sa, .int .i64 sb, .int .i64 sc, .int .i64 sd]] 4 true)]) .ret [(4, AVal.bool false)] (AHeap.rows 24 [(0, (.made ([.agg [.slice o n c]]) 1 true)), (1, bT), (2, (.made ([.agg [.int .i64 sa, .int .i64 sb, .int .i64 sc, .int .i64 sd]]) 4 true))]) :=
  ppath_runs env_ok mixed (hs := [.val 2006 (.bool true), .val 4005 (.ptr (some ⟨1, v, 0 + i, 0, 4⟩)), .ld 4006 (.agg [.int .i64 ta, .int .i64 tb, .int .i64 tc, .int .i64 td]), .val 4008 (.bool true)]) (keep := [4]) (by kernel_rfl) (All.cons (okT hc_0) (All.cons hc_1 (All.cons hc_2 (All.cons (CallT.mk hc_3) (All.nil)))))

theorem pf_end (o : Option AAddr) (n c v i C : Nat) (bT : ABlk) (x sa sb sc sd ta tb tc td : Int) (m : Bool) (hc_0 : ¬ ((i : Int) < (n : Int))) :
    Runs Try.prog 2 26 (loopAt Try.prog 49 0) [(0, .ptr (some ⟨0, 0, 0, 0, 1⟩)), (3, .ptr (some ⟨2, 0, 0, 0, 4⟩)), (5, .int .i64 i)] (AHeap.rows 5 [(0, .made [.agg [.slice o n c]] 1 true), (1, bT), (2, .made [.agg [.int .i64 sa, .int .i64 sb, .int .i64 sc, .int .i64 sd]] 4 true)]) (.exit 0) [] (AHeap.rows 12 [(0, (.made ([.agg [.slice o n c]]) 1 true)), (1, bT), (2, (.made ([.agg [.int .i64 sa, .int .i64 sb, .int .i64 sc, .int .i64 sd]]) 4 true))]) :=
  ppath_runs env_ok mixed (hs := [.val 2006 (.bool false)]) (keep := []) (by kernel_rfl) (All.cons (okF hc_0) (All.nil))

theorem pf_call_yes (o : Option AAddr) (n c v i C : Nat) (bT : ABlk) (x sa sb sc sd ta tb tc td : Int) (m : Bool) (hc_0 : Runs Try.prog 2 26 (.loop (loopAt Try.prog 49 0)) [(0, .ptr (some ⟨0, 0, 0, 0, 1⟩)), (3, .ptr (some ⟨2, 0, 0, 0, 4⟩)), (5, .int .i64 0)] (AHeap.rows 5 [(0, .made [.agg [.slice o n c]] 1 true), (1, bT), (2, .made [.agg [.int .i64 sa, .int .i64 sb, .int .i64 sc, .int .i64 sd]] 4 true)]) (.exit 0) [] (AHeap.rows 8 [(0, (.made ([.agg [.slice o n c]]) 1 true)), (1, bT)])) :
    FDoes Try.prog 49 [.ptr (some ⟨0, 0, 0, 0, 1⟩), .agg [.int .i64 sa, .int .i64 sb, .int .i64 sc, .int .i64 sd]] (AHeap.of [.made [.agg [.slice o n c]] 1 true, bT]) (AVal.bool true) (AHeap.rows 9 [(0, (.made ([.agg [.slice o n c]]) 1 true)), (1, bT)]) :=
  pcall_does env_ok mixed (hs := [.keep [0, 3, 5], .loop [] (AHeap.rows 8 [(0, .made [.agg [.slice o n c]] 1 true), (1, bT)]) (.exit 0)]) (rs := []) (by kernel_rfl) (All.cons hc_0 (All.nil))

theorem pf_call_no (o : Option AAddr) (n c v i C : Nat) (bT : ABlk) (x sa sb sc sd ta tb tc td : Int) (m : Bool) (hc_0 : Runs Try.prog 2 26 (.loop (loopAt Try.prog 49 0)) [(0, .ptr (some ⟨0, 0, 0, 0, 1⟩)), (3, .ptr (some ⟨2, 0, 0, 0, 4⟩)), (5, .int .i64 0)] (AHeap.rows 5 [(0, .made [.agg [.slice o n c]] 1 true), (1, bT), (2, .made [.agg [.int .i64 sa, .int .i64 sb, .int .i64 sc, .int .i64 sd]] 4 true)]) .ret [(4, AVal.bool false)] (AHeap.rows 20 [(0, (.made ([.agg [.slice o n c]]) 1 true)), (1, bT)])) :
    FDoes Try.prog 49 [.ptr (some ⟨0, 0, 0, 0, 1⟩), .agg [.int .i64 sa, .int .i64 sb, .int .i64 sc, .int .i64 sd]] (AHeap.of [.made [.agg [.slice o n c]] 1 true, bT]) (AVal.bool false) (AHeap.rows 20 [(0, (.made ([.agg [.slice o n c]]) 1 true)), (1, bT)]) :=
  pcall_does env_ok mixed (hs := [.keep [0, 3, 5], .loop [(4, .bool false)] (AHeap.rows 20 [(0, .made [.agg [.slice o n c]] 1 true), (1, bT)]) (.ret)]) (rs := []) (by kernel_rfl) (All.cons hc_0 (All.nil))

theorem pa_step (o : Option AAddr) (n c v i C : Nat) (bT : ABlk) (x sa sb sc sd ta tb tc td : Int) (m : Bool) (hc_0 : -9223372036854775808 ≤ x + sc ∧ x + sc ≤ 9223372036854775807) (hc_1 : x + sc ≤ (C : Int)) (hc_2 : FDoes Try.prog 49 [.ptr (some ⟨0, 0, 0, 0, 1⟩), .agg [.int .i64 x, .int .i64 sb, .int .i64 sc, .int .i64 sd]] (AHeap.rows 19 [(0, (.made ([.agg [.slice o n c]]) 1 true)), (1, bT), (2, (.made ([.agg [.int .i64 x, .int .i64 sb, .int .i64 sc, .int .i64 sd]]) 4 true)), (3, (.made ([.agg [.int .i64 0, .int .i64 0, .int .i64 0, .int .i64 0]]) 4 true))]) (AVal.bool false) (AHeap.rows 19 [(0, (.made ([.agg [.slice o n c]]) 1 true)), (1, bT), (2, (.made ([.agg [.int .i64 x, .int .i64 sb, .int .i64 sc, .int .i64 sd]]) 4 true)), (3, (.made ([.agg [.int .i64 0, .int .i64 0, .int .i64 0, .int .i64 0]]) 4 true))])) (hc_3 : -9223372036854775808 ≤ x + 1 ∧ x + (1 : Int) ≤ 9223372036854775807) :
    Runs Try.prog 2 26 (loopAt Try.prog 27 0) [(0, .ptr (some ⟨0, 0, 0, 0, 1⟩)), (2, .int .i64 C), (4, .ptr (some ⟨2, 0, 0, 0, 4⟩)), (6, .ptr (some ⟨3, 0, 0, 0, 4⟩)), (7, .int .i64 x)] (AHeap.rows 6 [(0, .made [.agg [.slice o n c]] 1 true), (1, bT), (2, .made [.agg [.int .i64 sa, .int .i64 sb, .int .i64 sc, .int .i64 sd]] 4 true), (3, .made [.agg [.int .i64 0, .int .i64 0, .int .i64 0, .int .i64 0]] 4 true)]) .normal [(0, .ptr (some ⟨0, 0, 0, 0, 1⟩)), (2, .int .i64 (C : Int)), (4, .ptr (some ⟨2, 0, 0, 0, 4⟩)), (6, .ptr (some ⟨3, 0, 0, 0, 4⟩)), (7, .int .i64 (x + 1))] (AHeap.rows 23 [(0, (.made ([.agg [.slice o n c]]) 1 true)), (1, bT), (2, (.made ([.agg [.int .i64 x, .int .i64 sb, .int .i64 sc, .int .i64 sd]]) 4 true)), (3, (.made ([.agg [.int .i64 0, .int .i64 0, .int .i64 0, .int .i64 0]]) 4 true))]) :=
  ppath_runs env_ok mixed (hs := [.go 2003, .val 2005 (.bool true), .val 5002 (.bool false), .go 3001]) (keep := [0, 2, 4, 6, 7]) (by kernel_rfl) (All.cons hc_0 (All.cons (okT hc_1) (All.cons (CallT.mk hc_2) (All.cons hc_3 (All.nil)))))

theorem pa_found (o : Option AAddr) (n c v i C : Nat) (bT : ABlk) (x sa sb sc sd ta tb tc td : Int) (m : Bool) (hc_0 : -9223372036854775808 ≤ x + sc ∧ x + sc ≤ 9223372036854775807) (hc_1 : x + sc ≤ (C : Int)) (hc_2 : FDoes Try.prog 49 [.ptr (some ⟨0, 0, 0, 0, 1⟩), .agg [.int .i64 x, .int .i64 sb, .int .i64 sc, .int .i64 sd]] (AHeap.rows 19 [(0, (.made ([.agg [.slice o n c]]) 1 true)), (1, bT), (2, (.made ([.agg [.int .i64 x, .int .i64 sb, .int .i64 sc, .int .i64 sd]]) 4 true)), (3, (.made ([.agg [.int .i64 0, .int .i64 0, .int .i64 0, .int .i64 0]]) 4 true))]) (AVal.bool true) (AHeap.rows 19 [(0, (.made ([.agg [.slice o n c]]) 1 true)), (1, bT), (2, (.made ([.agg [.int .i64 x, .int .i64 sb, .int .i64 sc, .int .i64 sd]]) 4 true)), (3, (.made ([.agg [.int .i64 0, .int .i64 0, .int .i64 0, .int .i64 0]]) 4 true))])) :
    Runs Try.prog 2 26 (loopAt Try.prog 27 0) [(0, .ptr (some ⟨0, 0, 0, 0, 1⟩)), (2, .int .i64 C), (4, .ptr (some ⟨2, 0, 0, 0, 4⟩)), (6, .ptr (some ⟨3, 0, 0, 0, 4⟩)), (7, .int .i64 x)] (AHeap.rows 6 [(0, .made [.agg [.slice o n c]] 1 true), (1, bT), (2, .made [.agg [.int .i64 sa, .int .i64 sb, .int .i64 sc, .int .i64 sd]] 4 true), (3, .made [.agg [.int .i64 0, .int .i64 0, .int .i64 0, .int .i64 0]] 4 true)]) .ret [(6, .ptr (some ⟨3, 0, 0, 0, 4⟩))] (AHeap.set (AHeap.rows 22 [(0, (.made ([.agg [.slice o n c]]) 1 true)), (1, bT), (2, (.made ([.agg [.int .i64 x, .int .i64 sb, .int .i64 sc, .int .i64 sd]]) 4 true)), (3, (.made ([.agg [.int .i64 0, .int .i64 0, .int .i64 0, .int .i64 0]]) 4 true))]) 3 (.made ([.agg [.int .i64 x, .int .i64 sb, .int .i64 sc, .int .i64 sd]]) 4 true)) :=
  ppath_runs env_ok mixed (hs := [.go 2003, .val 2005 (.bool true), .val 5002 (.bool true)]) (keep := [6]) (by kernel_rfl) (All.cons hc_0 (All.cons (okT hc_1) (All.cons (CallT.mk hc_2) (All.nil))))

theorem pa_end (o : Option AAddr) (n c v i C : Nat) (bT : ABlk) (x sa sb sc sd ta tb tc td : Int) (m : Bool) (hc_0 : -9223372036854775808 ≤ x + sc ∧ x + sc ≤ 9223372036854775807) (hc_1 : ¬ (x + sc ≤ (C : Int))) :
    Runs Try.prog 2 26 (loopAt Try.prog 27 0) [(0, .ptr (some ⟨0, 0, 0, 0, 1⟩)), (2, .int .i64 C), (4, .ptr (some ⟨2, 0, 0, 0, 4⟩)), (6, .ptr (some ⟨3, 0, 0, 0, 4⟩)), (7, .int .i64 x)] (AHeap.rows 6 [(0, .made [.agg [.slice o n c]] 1 true), (1, bT), (2, .made [.agg [.int .i64 sa, .int .i64 sb, .int .i64 sc, .int .i64 sd]] 4 true), (3, .made [.agg [.int .i64 0, .int .i64 0, .int .i64 0, .int .i64 0]] 4 true)]) (.exit 0) [(4, .ptr (some ⟨2, 0, 0, 0, 4⟩)), (6, .ptr (some ⟨3, 0, 0, 0, 4⟩))] (AHeap.rows 12 [(0, (.made ([.agg [.slice o n c]]) 1 true)), (1, bT), (2, (.made ([.agg [.int .i64 sa, .int .i64 sb, .int .i64 sc, .int .i64 sd]]) 4 true)), (3, (.made ([.agg [.int .i64 0, .int .i64 0, .int .i64 0, .int .i64 0]]) 4 true))]) :=
  ppath_runs env_ok mixed (hs := [.go 2003, .val 2005 (.bool false)]) (keep := [4, 6]) (by kernel_rfl) (All.cons hc_0 (All.cons (okF hc_1) (All.nil)))

theorem pa_call_no (o : Option AAddr) (n c v i C : Nat) (bT : ABlk) (x sa sb sc sd ta tb tc td : Int) (m : Bool) (hc_0 : Runs Try.prog 2 26 (.loop (loopAt Try.prog 27 0)) [(0, .ptr (some ⟨0, 0, 0, 0, 1⟩)), (2, .int .i64 (C : Int)), (4, .ptr (some ⟨2, 0, 0, 0, 4⟩)), (6, .ptr (some ⟨3, 0, 0, 0, 4⟩)), (7, .int .i64 0)] (AHeap.rows 5 [(0, .made [.agg [.slice o n c]] 1 true), (1, bT), (2, .made [.agg [.int .i64 sa, .int .i64 sb, .int .i64 sc, .int .i64 sd]] 4 true), (3, .made [.agg [.int .i64 0, .int .i64 0, .int .i64 0, .int .i64 0]] 4 true)]) (.exit 0) [(4, .ptr (some ⟨2, 0, 0, 0, 4⟩)), (6, .ptr (some ⟨3, 0, 0, 0, 4⟩))] (AHeap.rows 16 [(0, (.made ([.agg [.slice o n c]]) 1 true)), (1, bT), (2, (.made ([.agg [.int .i64 x, .int .i64 sb, .int .i64 sc, .int .i64 sd]]) 4 true)), (3, (.made ([.agg [.int .i64 0, .int .i64 0, .int .i64 0, .int .i64 0]]) 4 true))])) (hc_1 : aload env.D 28 ⟨3, 0, 0, 0, 4⟩ (AHeap.set (AHeap.rows 20 [(0, (.made ([.agg [.slice o n c]]) 1 true)), (1, bT), (2, (.made ([.agg [.int .i64 0, .int .i64 sb, .int .i64 sc, .int .i64 sd]]) 4 true)), (3, (.made ([.agg [.int .i64 0, .int .i64 0, .int .i64 0, .int .i64 0]]) 4 true))]) 3 (.made ([.agg [.int .i64 0, .int .i64 sb, .int .i64 sc, .int .i64 sd]]) 4 true)) = some (.agg [.int .i64 0, .int .i64 sb, .int .i64 sc, .int .i64 sd])) :
    FDoes Try.prog 27 [.ptr (some ⟨0, 0, 0, 0, 1⟩), .agg [.int .i64 sa, .int .i64 sb, .int .i64 sc, .int .i64 sd], .int .i64 C] (AHeap.of [.made [.agg [.slice o n c]] 1 true, bT]) (.agg [.int .i64 0, .int .i64 sb, .int .i64 sc, .int .i64 sd]) (AHeap.set (AHeap.rows 20 [(0, (.made ([.agg [.slice o n c]]) 1 true)), (1, bT), (2, (.made ([.agg [.int .i64 0, .int .i64 sb, .int .i64 sc, .int .i64 sd]]) 4 true)), (3, (.made ([.agg [.int .i64 0, .int .i64 0, .int .i64 0, .int .i64 0]]) 4 true))]) 3 (.made ([.agg [.int .i64 0, .int .i64 sb, .int .i64 sc, .int .i64 sd]]) 4 true)) :=
  pcall_does env_ok mixed (hs := [.keep [0, 2, 4, 6, 7], .loop [(4, .ptr (some ⟨2, 0, 0, 0, 4⟩)), (6, .ptr (some ⟨3, 0, 0, 0, 4⟩))] (AHeap.rows 16 [(0, .made [.agg [.slice o n c]] 1 true), (1, bT), (2, .made [.agg [.int .i64 x, .int .i64 sb, .int .i64 sc, .int .i64 sd]] 4 true), (3, .made [.agg [.int .i64 0, .int .i64 0, .int .i64 0, .int .i64 0]] 4 true)]) (.exit 0)]) (rs := [.cell (.agg [.int .i64 0, .int .i64 sb, .int .i64 sc, .int .i64 sd])]) (by kernel_rfl) (All.cons hc_0 (All.cons hc_1 (All.nil)))

theorem pa_call_yes (o : Option AAddr) (n c v i C : Nat) (bT : ABlk) (x sa sb sc sd ta tb tc td : Int) (m : Bool) (hc_0 : Runs Try.prog 2 26 (.loop (loopAt Try.prog 27 0)) [(0, .ptr (some ⟨0, 0, 0, 0, 1⟩)), (2, .int .i64 (C : Int)), (4, .ptr (some ⟨2, 0, 0, 0, 4⟩)), (6, .ptr (some ⟨3, 0, 0, 0, 4⟩)), (7, .int .i64 0)] (AHeap.rows 5 [(0, .made [.agg [.slice o n c]] 1 true), (1, bT), (2, .made [.agg [.int .i64 sa, .int .i64 sb, .int .i64 sc, .int .i64 sd]] 4 true), (3, .made [.agg [.int .i64 0, .int .i64 0, .int .i64 0, .int .i64 0]] 4 true)]) .ret [(6, .ptr (some ⟨3, 0, 0, 0, 4⟩))] (AHeap.rows 16 [(0, (.made ([.agg [.slice o n c]]) 1 true)), (1, bT), (3, (.made ([.agg [.int .i64 ta, .int .i64 tb, .int .i64 tc, .int .i64 td]]) 4 true))])) (hc_1 : aload env.D 28 ⟨3, 0, 0, 0, 4⟩ (AHeap.rows 16 [(0, (.made ([.agg [.slice o n c]]) 1 true)), (1, bT), (3, (.made ([.agg [.int .i64 ta, .int .i64 tb, .int .i64 tc, .int .i64 td]]) 4 true))]) = some (.agg [.int .i64 ta, .int .i64 tb, .int .i64 tc, .int .i64 td])) :
    FDoes Try.prog 27 [.ptr (some ⟨0, 0, 0, 0, 1⟩), .agg [.int .i64 sa, .int .i64 sb, .int .i64 sc, .int .i64 sd], .int .i64 C] (AHeap.of [.made [.agg [.slice o n c]] 1 true, bT]) (.agg [.int .i64 ta, .int .i64 tb, .int .i64 tc, .int .i64 td]) (AHeap.rows 16 [(0, (.made ([.agg [.slice o n c]]) 1 true)), (1, bT), (3, (.made ([.agg [.int .i64 ta, .int .i64 tb, .int .i64 tc, .int .i64 td]]) 4 true))]) :=
  pcall_does env_ok mixed (hs := [.keep [0, 2, 4, 6, 7], .loop [(6, .ptr (some ⟨3, 0, 0, 0, 4⟩))] (AHeap.rows 16 [(0, .made [.agg [.slice o n c]] 1 true), (1, bT), (3, .made [.agg [.int .i64 ta, .int .i64 tb, .int .i64 tc, .int .i64 td]] 4 true)]) (.ret)]) (rs := [.cell (.agg [.int .i64 ta, .int .i64 tb, .int .i64 tc, .int .i64 td])]) (by kernel_rfl) (All.cons hc_0 (All.cons hc_1 (All.nil)))

theorem pd_no (o : Option AAddr) (n c v i C : Nat) (bT : ABlk) (x sa sb sc sd ta tb tc td : Int) (m : Bool) (hc_0 : (i : Int) < (n : Int)) (hc_1 : aindexAddr env.D 22 (.slice o n c) (.int .i64 (i : Int)) = some (.ptr (some ⟨1, v, 0 + i, 0, 4⟩))) (hc_2 : ABlk.elem? bT v (0 + i) = some (.agg [.int .i64 ta, .int .i64 tb, .int .i64 tc, .int .i64 td])) (hc_3 : FDoes Try.prog 50 [.agg [.int .i64 ta, .int .i64 tb, .int .i64 tc, .int .i64 td], .agg [.int .i64 sa, .int .i64 sb, .int .i64 sc, .int .i64 sd]] (AHeap.rows 32 [(0, (.made ([.agg [.slice o n c]]) 1 true)), (1, bT), (2, (.made ([.agg [.int .i64 sa, .int .i64 sb, .int .i64 sc, .int .i64 sd]]) 4 true)), (3, (.made ([.agg [.int .i64 0, .int .i64 0, .int .i64 0, .int .i64 0]]) 4 true))]) (AVal.bool false) (AHeap.rows 32 [(0, (.made ([.agg [.slice o n c]]) 1 true)), (1, bT), (2, (.made ([.agg [.int .i64 sa, .int .i64 sb, .int .i64 sc, .int .i64 sd]]) 4 true)), (3, (.made ([.agg [.int .i64 0, .int .i64 0, .int .i64 0, .int .i64 0]]) 4 true))])) (hc_4 : -9223372036854775808 ≤ (i : Int) + 1 ∧ (i : Int) + (1 : Int) ≤ 9223372036854775807) :
    Runs Try.prog 2 49 (loopAt Try.prog 28 1) [(0, .ptr (some ⟨0, 0, 0, 0, 1⟩)), (3, .ptr (some ⟨2, 0, 0, 0, 4⟩)), (4, .ptr (some ⟨3, 0, 0, 0, 4⟩)), (5, .bool m), (6, .int .i64 i)] (AHeap.rows 15 [(0, .made [.agg [.slice o n c]] 1 true), (1, bT), (2, .made [.agg [.int .i64 sa, .int .i64 sb, .int .i64 sc, .int .i64 sd]] 4 true), (3, .made [.agg [.int .i64 0, .int .i64 0, .int .i64 0, .int .i64 0]] 4 true)]) .normal [(0, .ptr (some ⟨0, 0, 0, 0, 1⟩)), (3, .ptr (some ⟨2, 0, 0, 0, 4⟩)), (4, .ptr (some ⟨3, 0, 0, 0, 4⟩)), (5, AVal.bool m), (6, .int .i64 ((i : Int) + 1))] (AHeap.rows 36 [(0, (.made ([.agg [.slice o n c]]) 1 true)), (1, bT), (2, (.made ([.agg [.int .i64 sa, .int .i64 sb, .int .i64 sc, .int .i64 sd]]) 4 true)), (3, (.made ([.agg [.int .i64 0, .int .i64 0, .int .i64 0, .int .i64 0]]) 4 true))]) :=
  ppath_runs env_ok mixed (hs := [.val 4006 (.bool true), .val 6005 (.ptr (some ⟨1, v, 0 + i, 0, 4⟩)), .ld 6006 (.agg [.int .i64 ta, .int .i64 tb, .int .i64 tc, .int .i64 td]), .val 6008 (.bool false), .go 5001]) (keep := [0, 3, 4, 5, 6]) (by kernel_rfl) (All.cons (okT hc_0) (All.cons hc_1 (All.cons hc_2 (All.cons (CallT.mk hc_3) (All.cons hc_4 (All.nil))))))

theorem pd_yes (o : Option AAddr) (n c v i C : Nat) (bT : ABlk) (x sa sb sc sd ta tb tc td : Int) (m : Bool) (hc_0 : (i : Int) < (n : Int)) (hc_1 : aindexAddr env.D 22 (.slice o n c) (.int .i64 (i : Int)) = some (.ptr (some ⟨1, v, 0 + i, 0, 4⟩))) (hc_2 : ABlk.elem? bT v (0 + i) = some (.agg [.int .i64 ta, .int .i64 tb, .int .i64 tc, .int .i64 td])) (hc_3 : FDoes Try.prog 50 [.agg [.int .i64 ta, .int .i64 tb, .int .i64 tc, .int .i64 td], .agg [.int .i64 sa, .int .i64 sb, .int .i64 sc, .int .i64 sd]] (AHeap.rows 32 [(0, (.made ([.agg [.slice o n c]]) 1 true)), (1, bT), (2, (.made ([.agg [.int .i64 sa, .int .i64 sb, .int .i64 sc, .int .i64 sd]]) 4 true)), (3, (.made ([.agg [.int .i64 0, .int .i64 0, .int .i64 0, .int .i64 0]]) 4 true))]) (AVal.bool true) (AHeap.rows 32 [(0, (.made ([.agg [.slice o n c]]) 1 true)), (1, bT), (2, (.made ([.agg [.int .i64 sa, .int .i64 sb, .int .i64 sc, .int .i64 sd]]) 4 true)), (3, (.made ([.agg [.int .i64 0, .int .i64 0, .int .i64 0, .int .i64 0]]) 4 true))])) (hc_4 : aindexAddr env.D 22 (.slice o n c) (.int .i64 (i : Int)) = some (.ptr (some ⟨1, v, 0 + i, 0, 4⟩))) (hc_5 : ABlk.elem? bT v (0 + i) = some (.agg [.int .i64 ta, .int .i64 tb, .int .i64 tc, .int .i64 td])) (hc_6 : aindexAddr env.D 22 (.slice o n c) (.int .i64 (i : Int)) = some (.ptr (some ⟨1, v, 0 + i, 0, 4⟩))) (hc_7 : ABlk.elem? bT v (0 + i) = some (.agg [.int .i64 ta, .int .i64 tb, .int .i64 tc, .int .i64 td])) (hc_8 : -9223372036854775808 ≤ tb + td ∧ tb + td ≤ 9223372036854775807) (hc_9 : -9223372036854775808 ≤ (i : Int) + 1 ∧ (i : Int) + (1 : Int) ≤ 9223372036854775807) :
    Runs Try.prog 2 49 (loopAt Try.prog 28 1) [(0, .ptr (some ⟨0, 0, 0, 0, 1⟩)), (3, .ptr (some ⟨2, 0, 0, 0, 4⟩)), (4, .ptr (some ⟨3, 0, 0, 0, 4⟩)), (5, .bool m), (6, .int .i64 i)] (AHeap.rows 15 [(0, .made [.agg [.slice o n c]] 1 true), (1, bT), (2, .made [.agg [.int .i64 sa, .int .i64 sb, .int .i64 sc, .int .i64 sd]] 4 true), (3, .made [.agg [.int .i64 0, .int .i64 0, .int .i64 0, .int .i64 0]] 4 true)]) .normal [(0, .ptr (some ⟨0, 0, 0, 0, 1⟩)), (3, .ptr (some ⟨2, 0, 0, 0, 4⟩)), (4, .ptr (some ⟨3, 0, 0, 0, 4⟩)), (5, AVal.bool true), (6, .int .i64 ((i : Int) + 1))] (AHeap.rows 56 [(0, (.made ([.agg [.slice o n c]]) 1 true)), (1, bT), (2, (.made ([.agg [.int .i64 sa, .int .i64 (tb + td), .int .i64 sc, .int .i64 sd]]) 4 true)), (3, (.made ([.agg [.int .i64 0, .int .i64 0, .int .i64 0, .int .i64 0]]) 4 true))]) :=
  ppath_runs env_ok mixed (hs := [.val 4006 (.bool true), .val 6005 (.ptr (some ⟨1, v, 0 + i, 0, 4⟩)), .ld 6006 (.agg [.int .i64 ta, .int .i64 tb, .int .i64 tc, .int .i64 td]), .val 6008 (.bool true), .val 8005 (.ptr (some ⟨1, v, 0 + i, 0, 4⟩)), .ld 8007 (.agg [.int .i64 ta, .int .i64 tb, .int .i64 tc, .int .i64 td]), .val 8013 (.ptr (some ⟨1, v, 0 + i, 0, 4⟩)), .ld 8015 (.agg [.int .i64 ta, .int .i64 tb, .int .i64 tc, .int .i64 td]), .go 8016, .go 5001]) (keep := [0, 3, 4, 5, 6]) (by kernel_rfl) (All.cons (okT hc_0) (All.cons hc_1 (All.cons hc_2 (All.cons (CallT.mk hc_3) (All.cons hc_4 (All.cons hc_5 (All.cons hc_6 (All.cons hc_7 (All.cons hc_8 (All.cons hc_9 (All.nil)))))))))))

theorem pd_iend (o : Option AAddr) (n c v i C : Nat) (bT : ABlk) (x sa sb sc sd ta tb tc td : Int) (m : Bool) (hc_0 : ¬ ((i : Int) < (n : Int))) :
    Runs Try.prog 2 49 (loopAt Try.prog 28 1) [(0, .ptr (some ⟨0, 0, 0, 0, 1⟩)), (3, .ptr (some ⟨2, 0, 0, 0, 4⟩)), (4, .ptr (some ⟨3, 0, 0, 0, 4⟩)), (5, .bool m), (6, .int .i64 i)] (AHeap.rows 15 [(0, .made [.agg [.slice o n c]] 1 true), (1, bT), (2, .made [.agg [.int .i64 sa, .int .i64 sb, .int .i64 sc, .int .i64 sd]] 4 true), (3, .made [.agg [.int .i64 0, .int .i64 0, .int .i64 0, .int .i64 0]] 4 true)]) (.exit 2) [(0, .ptr (some ⟨0, 0, 0, 0, 1⟩)), (3, .ptr (some ⟨2, 0, 0, 0, 4⟩)), (4, .ptr (some ⟨3, 0, 0, 0, 4⟩)), (5, AVal.bool m)] (AHeap.rows 22 [(0, (.made ([.agg [.slice o n c]]) 1 true)), (1, bT), (2, (.made ([.agg [.int .i64 sa, .int .i64 sb, .int .i64 sc, .int .i64 sd]]) 4 true)), (3, (.made ([.agg [.int .i64 0, .int .i64 0, .int .i64 0, .int .i64 0]]) 4 true))]) :=
  ppath_runs env_ok mixed (hs := [.val 4006 (.bool false)]) (keep := [0, 3, 4, 5]) (by kernel_rfl) (All.cons (okF hc_0) (All.nil))

theorem pd_round (o : Option AAddr) (n c v i C : Nat) (bT : ABlk) (x sa sb sc sd ta tb tc td : Int) (m : Bool) (hc_0 : Runs Try.prog 2 49 (.loop (loopAt Try.prog 28 1)) [(0, .ptr (some ⟨0, 0, 0, 0, 1⟩)), (3, .ptr (some ⟨2, 0, 0, 0, 4⟩)), (4, .ptr (some ⟨3, 0, 0, 0, 4⟩)), (5, AVal.bool false), (6, .int .i64 0)] (AHeap.rows 9 [(0, (.made ([.agg [.slice o n c]]) 1 true)), (1, bT), (2, (.made ([.agg [.int .i64 sa, .int .i64 sb, .int .i64 sc, .int .i64 sd]]) 4 true)), (3, (.made ([.agg [.int .i64 0, .int .i64 0, .int .i64 0, .int .i64 0]]) 4 true))]) (.exit 2) [(0, .ptr (some ⟨0, 0, 0, 0, 1⟩)), (3, .ptr (some ⟨2, 0, 0, 0, 4⟩)), (4, .ptr (some ⟨3, 0, 0, 0, 4⟩)), (5, AVal.bool true)] (AHeap.rows 16 [(0, (.made ([.agg [.slice o n c]]) 1 true)), (1, bT), (2, (.made ([.agg [.int .i64 ta, .int .i64 tb, .int .i64 tc, .int .i64 td]]) 4 true)), (3, (.made ([.agg [.int .i64 0, .int .i64 0, .int .i64 0, .int .i64 0]]) 4 true))])) :
    Runs Try.prog 2 49 (loopAt Try.prog 28 0) [(0, .ptr (some ⟨0, 0, 0, 0, 1⟩)), (3, .ptr (some ⟨2, 0, 0, 0, 4⟩)), (4, .ptr (some ⟨3, 0, 0, 0, 4⟩))] (AHeap.rows 7 [(0, .made [.agg [.slice o n c]] 1 true), (1, bT), (2, .made [.agg [.int .i64 sa, .int .i64 sb, .int .i64 sc, .int .i64 sd]] 4 true), (3, .made [.agg [.int .i64 0, .int .i64 0, .int .i64 0, .int .i64 0]] 4 true)]) .normal [(0, .ptr (some ⟨0, 0, 0, 0, 1⟩)), (3, .ptr (some ⟨2, 0, 0, 0, 4⟩)), (4, .ptr (some ⟨3, 0, 0, 0, 4⟩))] (AHeap.rows 18 [(0, (.made ([.agg [.slice o n c]]) 1 true)), (1, bT), (2, (.made ([.agg [.int .i64 ta, .int .i64 tb, .int .i64 tc, .int .i64 td]]) 4 true)), (3, (.made ([.agg [.int .i64 0, .int .i64 0, .int .i64 0, .int .i64 0]]) 4 true))]) :=
  ppath_runs env_ok mixed (hs := [.keep [0, 3, 4, 5, 6], .loop [(0, .ptr (some ⟨0, 0, 0, 0, 1⟩)), (3, .ptr (some ⟨2, 0, 0, 0, 4⟩)), (4, .ptr (some ⟨3, 0, 0, 0, 4⟩)), (5, .bool true)] (AHeap.rows 16 [(0, .made [.agg [.slice o n c]] 1 true), (1, bT), (2, .made [.agg [.int .i64 ta, .int .i64 tb, .int .i64 tc, .int .i64 td]] 4 true), (3, .made [.agg [.int .i64 0, .int .i64 0, .int .i64 0, .int .i64 0]] 4 true)]) (.exit 2)]) (keep := [0, 3, 4]) (by kernel_rfl) (All.cons hc_0 (All.nil))

theorem pd_last (o : Option AAddr) (n c v i C : Nat) (bT : ABlk) (x sa sb sc sd ta tb tc td : Int) (m : Bool) (hc_0 : Runs Try.prog 2 49 (.loop (loopAt Try.prog 28 1)) [(0, .ptr (some ⟨0, 0, 0, 0, 1⟩)), (3, .ptr (some ⟨2, 0, 0, 0, 4⟩)), (4, .ptr (some ⟨3, 0, 0, 0, 4⟩)), (5, AVal.bool false), (6, .int .i64 0)] (AHeap.rows 9 [(0, (.made ([.agg [.slice o n c]]) 1 true)), (1, bT), (2, (.made ([.agg [.int .i64 sa, .int .i64 sb, .int .i64 sc, .int .i64 sd]]) 4 true)), (3, (.made ([.agg [.int .i64 0, .int .i64 0, .int .i64 0, .int .i64 0]]) 4 true))]) (.exit 2) [(0, .ptr (some ⟨0, 0, 0, 0, 1⟩)), (3, .ptr (some ⟨2, 0, 0, 0, 4⟩)), (4, .ptr (some ⟨3, 0, 0, 0, 4⟩)), (5, AVal.bool false)] (AHeap.rows 16 [(0, (.made ([.agg [.slice o n c]]) 1 true)), (1, bT), (2, (.made ([.agg [.int .i64 ta, .int .i64 tb, .int .i64 tc, .int .i64 td]]) 4 true)), (3, (.made ([.agg [.int .i64 0, .int .i64 0, .int .i64 0, .int .i64 0]]) 4 true))])) :
    Runs Try.prog 2 49 (loopAt Try.prog 28 0) [(0, .ptr (some ⟨0, 0, 0, 0, 1⟩)), (3, .ptr (some ⟨2, 0, 0, 0, 4⟩)), (4, .ptr (some ⟨3, 0, 0, 0, 4⟩))] (AHeap.rows 7 [(0, .made [.agg [.slice o n c]] 1 true), (1, bT), (2, .made [.agg [.int .i64 sa, .int .i64 sb, .int .i64 sc, .int .i64 sd]] 4 true), (3, .made [.agg [.int .i64 0, .int .i64 0, .int .i64 0, .int .i64 0]] 4 true)]) .ret [(4, .ptr (some ⟨3, 0, 0, 0, 4⟩))] (AHeap.set (AHeap.rows 20 [(0, (.made ([.agg [.slice o n c]]) 1 true)), (1, bT), (2, (.made ([.agg [.int .i64 ta, .int .i64 tb, .int .i64 tc, .int .i64 td]]) 4 true)), (3, (.made ([.agg [.int .i64 0, .int .i64 0, .int .i64 0, .int .i64 0]]) 4 true))]) 3 (.made ([.agg [.int .i64 ta, .int .i64 tb, .int .i64 tc, .int .i64 td]]) 4 true)) :=
  ppath_runs env_ok mixed (hs := [.keep [0, 3, 4, 5, 6], .loop [(0, .ptr (some ⟨0, 0, 0, 0, 1⟩)), (3, .ptr (some ⟨2, 0, 0, 0, 4⟩)), (4, .ptr (some ⟨3, 0, 0, 0, 4⟩)), (5, .bool false)] (AHeap.rows 16 [(0, .made [.agg [.slice o n c]] 1 true), (1, bT), (2, .made [.agg [.int .i64 ta, .int .i64 tb, .int .i64 tc, .int .i64 td]] 4 true), (3, .made [.agg [.int .i64 0, .int .i64 0, .int .i64 0, .int .i64 0]] 4 true)]) (.exit 2)]) (keep := [4]) (by kernel_rfl) (All.cons hc_0 (All.nil))

theorem pd_call (o : Option AAddr) (n c v i C : Nat) (bT : ABlk) (x sa sb sc sd ta tb tc td : Int) (m : Bool) (hc_0 : Runs Try.prog 2 49 (.loop (loopAt Try.prog 28 0)) [(0, .ptr (some ⟨0, 0, 0, 0, 1⟩)), (3, .ptr (some ⟨2, 0, 0, 0, 4⟩)), (4, .ptr (some ⟨3, 0, 0, 0, 4⟩))] (AHeap.set (AHeap.rows 6 [(0, .made [.agg [.slice o n c]] 1 true), (1, bT), (2, .made [.agg [.int .i64 sa, .int .i64 sb, .int .i64 sc, .int .i64 sd]] 4 true), (3, .made [.agg [.int .i64 0, .int .i64 0, .int .i64 0, .int .i64 0]] 4 true)]) 2 (.made ([.agg [.int .i64 sa, .int .i64 0, .int .i64 sc, .int .i64 sd]]) 4 true)) .ret [(4, .ptr (some ⟨3, 0, 0, 0, 4⟩))] (AHeap.rows 18 [(0, (.made ([.agg [.slice o n c]]) 1 true)), (1, bT), (3, (.made ([.agg [.int .i64 ta, .int .i64 tb, .int .i64 tc, .int .i64 td]]) 4 true))])) (hc_1 : aload env.D 28 ⟨3, 0, 0, 0, 4⟩ (AHeap.rows 18 [(0, (.made ([.agg [.slice o n c]]) 1 true)), (1, bT), (3, (.made ([.agg [.int .i64 ta, .int .i64 tb, .int .i64 tc, .int .i64 td]]) 4 true))]) = some (.agg [.int .i64 ta, .int .i64 tb, .int .i64 tc, .int .i64 td])) :
    FDoes Try.prog 28 [.ptr (some ⟨0, 0, 0, 0, 1⟩), .agg [.int .i64 sa, .int .i64 sb, .int .i64 sc, .int .i64 sd]] (AHeap.of [.made [.agg [.slice o n c]] 1 true, bT]) (.agg [.int .i64 ta, .int .i64 tb, .int .i64 tc, .int .i64 td]) (AHeap.rows 18 [(0, (.made ([.agg [.slice o n c]]) 1 true)), (1, bT), (3, (.made ([.agg [.int .i64 ta, .int .i64 tb, .int .i64 tc, .int .i64 td]]) 4 true))]) :=
  pcall_does env_ok mixed (hs := [.keep [0, 3, 4], .loop [(4, .ptr (some ⟨3, 0, 0, 0, 4⟩))] (AHeap.rows 18 [(0, .made [.agg [.slice o n c]] 1 true), (1, bT), (3, .made [.agg [.int .i64 ta, .int .i64 tb, .int .i64 tc, .int .i64 td]] 4 true)]) (.ret)]) (rs := [.cell (.agg [.int .i64 ta, .int .i64 tb, .int .i64 tc, .int .i64 td])]) (by kernel_rfl) (All.cons hc_0 (All.cons hc_1 (All.nil)))

end Go.Proofs.Ytcgcpmcjaeenlaa

namespace Go.Proofs.Ytcgcpmcjaeenlaa
open Go.Lift
set_option maxRecDepth 1000000
set_option linter.unusedSimpArgs false
set_option linter.unusedVariables false
set_option linter.unusedSectionVars false

/-- the row of what is placed -/
def plcRow (o : Option AAddr) (n c : Nat) : ABlk := .made [.agg [.slice o n c]] 1 true

structure PlacedAt (H : AHeap) (ib iT : Nat) (o : Option AAddr) (n c v : Nat) (bT : ABlk) (T : List Qd) : Prop where
  gb : H.get ib = some (plcRow o n c)
  gT : H.get iT = some bT
  sl : SlArg o n c iT v 0 4
  ne : ib ≠ iT
  lb : ib < H.next
  lT : iT < H.next
  bare : BareB bT
  len : T.length = n
  el : ElT bT v T

theorem plc_cloI {o : Option AAddr} {n c : Nat} {D : Nat → Prop} (h : Clo D (.slice o n c)) : ∀ e ∈ (plcRow o n c).elems, Clo D e := by
  intro e he
  simp [plcRow, ABlk.made] at he
  subst he
  simp [Clo, Clos]
  exact h

theorem plc_ren {o : Option AAddr} {n c iT v : Nat} (h : SlArg o n c iT v 0 4) {r : Nat → Nat} (hr : r 1 = iT) : (plcRow (o.map fun a => { a with id := 1 }) n c).ren r = plcRow o n c := by
  rcases h with rfl | ⟨rfl, rfl, rfl⟩ <;> simp [plcRow, ABlk.ren, ABlk.made, AVal.ren, AVal.rens, AAddr.ren, hr]

theorem PlacedAt.pure {H : AHeap} {ib iT : Nat} {o : Option AAddr} {n c v : Nat} {bT : ABlk} {T : List Qd} (h : PlacedAt H ib iT o n c v bT T) {f : Nat} {args : List AVal} {w : AVal} {h' : AHeap}
    (k : FDoes Try.prog f (.ptr (some ⟨0, 0, 0, 0, 1⟩) :: args) (AHeap.of [plcRow (o.map fun a => { a with id := 1 }) n c, bT]) w h') (hg : [h'.get 0, h'.get 1] = [some (plcRow (o.map fun a => { a with id := 1 }) n c), some bT]) (hw : Bare w) (ha : ∀ a, a ∈ args → Bare a) :
    FDoes Try.prog f (.ptr (some ⟨ib, 0, 0, 0, 1⟩) :: args) H w H := by
  have s1 := h.sl.at 1
  have kk := k.pureC (by simp; exact ⟨plc_cloI (s1.clo (by omega)), bare_clo2 h.bare⟩) hg hw (by
    simp only [Clos]
    refine ⟨by simp [Clo], ?_⟩
    clear k
    induction args with
    | nil => trivial
    | cons a r ih => exact ⟨(ha a (by simp)).clo _, ih fun b hb => ha b (by simp [hb])⟩) (H := H) [ib, iT] (by simp [h.ne]) (by simp [h.lb, h.lT]) (by
    have e1 : (plcRow (o.map fun a => { a with id := 1 }) n c).ren (toBig [ib, iT] H.next) = plcRow o n c := plc_ren h.sl (by simp [toBig])
    simp [h.gb, h.gT, e1, h.bare.ren])
  have e2 : args.map (AVal.ren (toBig [ib, iT] H.next)) = args := by
    conv => rhs; rw [← List.map_id args]
    exact List.map_congr_left fun a hm => (ha a hm).1 _
  simpa [AVal.ren, AAddr.ren, toBig, e2] using kk

theorem rmeets_no {t s : Qd} (ht : Small t) (hs : Small s) (h : ¬ MeetsZ t s) (H : AHeap) : FDoes Try.prog 50 [t.val, s.val] H (.bool false) H := by
  have := rmeets_does ht hs H; rwa [decide_eq_false h] at this
theorem rmeets_yes {t s : Qd} (ht : Small t) (hs : Small s) (h : MeetsZ t s) (H : AHeap) : FDoes Try.prog 50 [t.val, s.val] H (.bool true) H := by
  have := rmeets_does ht hs H; rwa [decide_eq_true h] at this

/-- the rows of a method of what is placed -/
noncomputable def p4 (K : Nat) (o : Option AAddr) (n c : Nat) (bT : ABlk) (s t : Qd) : AHeap := AHeap.rows K [(0, plcRow o n c), (1, bT), (2, .made [s.val] 4 true), (3, .made [t.val] 4 true)]

def PfEnds (n c : Nat) (o : Option AAddr) (bT : ABlk) (T : List Qd) (s : Qd) (i : Nat) : Prop :=
    (FreeZ T s ∧ Loops Try.prog 2 26 (loopAt Try.prog 49 0) [(0, .ptr (some ⟨0, 0, 0, 0, 1⟩)), (3, .ptr (some ⟨2, 0, 0, 0, 4⟩)), (5, .int .i64 i)] (AHeap.rows 5 [(0, plcRow o n c), (1, bT), (2, .made [s.val] 4 true)])
      (.exit 0) [] (AHeap.rows 8 [(0, plcRow o n c), (1, bT)])) ∨
    (¬ FreeZ T s ∧ Loops Try.prog 2 26 (loopAt Try.prog 49 0) [(0, .ptr (some ⟨0, 0, 0, 0, 1⟩)), (3, .ptr (some ⟨2, 0, 0, 0, 4⟩)), (5, .int .i64 i)] (AHeap.rows 5 [(0, plcRow o n c), (1, bT), (2, .made [s.val] 4 true)])
      .ret [(4, .bool false)] (AHeap.rows 20 [(0, plcRow o n c), (1, bT)]))

section
variable {n c v : Nat} {o : Option AAddr} (hs : SlArg o n c 1 v 0 4) {bT : ABlk} (hb : BareB bT) {T : List Qd} (hl : T.length = n) (hel : ElT bT v T) (hT : ∀ t, t ∈ T → Small t) (hn : n ≤ 2 ^ 40)
include hs hb hl hel hT hn

theorem pf_loop {s : Qd} (hs1 : Small s) : ∀ (f i : Nat), i + f = n → (∀ j t, j < i → T[j]? = some t → ¬ MeetsZ t s) → PfEnds n c o bT T s i
  | 0, i, e, hp => by
    obtain rfl : i = n := by omega
    refine .inl ⟨fun t ht hm => ?_, ?_⟩
    · obtain ⟨j, hj, e1⟩ := List.mem_iff_getElem.1 ht
      exact hp j t (by omega) (by rw [List.getElem?_eq_getElem hj, e1]) hm
    · refine (Loops.last (by simp) (pf_end o i c v i 0 bT 0 s.a s.b s.c s.d 0 0 0 0 false (by omega))).post ?_
      exact Ent.drop (by kernel_rfl) (by kernel_rfl) (by kernel_rfl) (by kernel_rfl) (by simp [All_cons, All_nil, Clo]) (by
        simp only [List.map, All_cons, All_nil, and_true]
        exact ⟨plc_cloI (hs.clo (by simp [Ids])), hb.clo _⟩)
  | f + 1, i, e, hp => by
    have hi : i < n := by omega
    obtain ⟨t, ht⟩ : ∃ t, T[i]? = some t := ⟨T[i], List.getElem?_eq_getElem (by omega)⟩
    have htm : t ∈ T := List.mem_of_getElem? ht
    have st := hT t htm
    have hc : Clo (Ids [0, 1, 2]) (.slice o n c) := hs.clo (by simp [Ids])
    have c1 : (i : Int) < n := by omega
    have c2 := ix_spS (k := .i64) hs hi
    have c3 := hel i t ht
    by_cases m : MeetsZ t s
    · refine .inr ⟨fun h => h t htm m, ?_⟩
      refine (Loops.last (by simp) (pf_yes o n c v i 0 bT 0 s.a s.b s.c s.d t.a t.b t.c t.d false c1 c2 c3 (rmeets_yes st hs1 m _))).post ?_
      exact Ent.drop (by kernel_rfl) (by kernel_rfl) (by kernel_rfl) (by kernel_rfl) (by simp [All_cons, All_nil, Clo]) (by
        simp only [List.map, All_cons, All_nil, and_true]
        exact ⟨plc_cloI (hs.clo (by simp [Ids])), hb.clo _⟩)
    · have hp2 : ∀ j u, j < i + 1 → T[j]? = some u → ¬ MeetsZ u s := fun j u hj hu => by
        by_cases c : j = i
        · subst c; rw [ht] at hu; cases hu; exact m
        · exact hp j u (by omega) hu
      have r := pf_no o n c v i 0 bT 0 s.a s.b s.c s.d t.a t.b t.c t.d false c1 c2 c3 (rmeets_no st hs1 m _) (by omega)
      have ce : Ent 2 26 [(0, .ptr (some ⟨0, 0, 0, 0, 1⟩)), (3, .ptr (some ⟨2, 0, 0, 0, 4⟩)), (5, .int .i64 ((i : Int) + 1))] (AHeap.rows 26 [(0, plcRow o n c), (1, bT), (2, .made [s.val] 4 true)]) [(0, .ptr (some ⟨0, 0, 0, 0, 1⟩)), (3, .ptr (some ⟨2, 0, 0, 0, 4⟩)), (5, .int .i64 (i + 1 : Nat))] (AHeap.rows 5 [(0, plcRow o n c), (1, bT), (2, .made [s.val] 4 true)]) :=
        Ent.drop (by kernel_rfl) (by kernel_rfl) (by kernel_rfl) (by kernel_rfl) (by simp [All_cons, All_nil, Clo]; simp [Ids]) (by
          simp only [List.map, All_cons, All_nil, and_true]
          exact ⟨plc_cloI hc, hb.clo _, qd_cloI _ _⟩)
      rcases pf_loop hs1 f (i + 1) (by omega) hp2 with ⟨a, l⟩ | ⟨a, l⟩
      · exact .inl ⟨a, Loops.step (r.post ce) l⟩
      · exact .inr ⟨a, Loops.step (r.post ce) l⟩
end

/-- Placed.free -/
theorem pfree_does {H : AHeap} {ib iT : Nat} {o : Option AAddr} {n c v : Nat} {bT : ABlk} {T : List Qd} (h : PlacedAt H ib iT o n c v bT T) (hT : ∀ t, t ∈ T → Small t) (hn : n ≤ 2 ^ 40) {s : Qd} (hs : Small s) :
    (FreeZ T s ∧ FDoes Try.prog 49 [.ptr (some ⟨ib, 0, 0, 0, 1⟩), s.val] H (.bool true) H) ∨ (¬ FreeZ T s ∧ FDoes Try.prog 49 [.ptr (some ⟨ib, 0, 0, 0, 1⟩), s.val] H (.bool false) H) := by
  have s1 := h.sl.at 1
  rcases pf_loop s1 h.bare h.len h.el hT hn hs n 0 (by omega) (fun j t hj _ => by omega) with ⟨a, l⟩ | ⟨a, l⟩
  · exact .inl ⟨a, h.pure (pf_call_yes _ n c v 0 0 bT 0 s.a s.b s.c s.d 0 0 0 0 false (Runs.of_loops l)) (by kernel_rfl) (Bare.bool _) (by simp [Qd.bare])⟩
  · exact .inr ⟨a, h.pure (pf_call_no _ n c v 0 0 bT 0 s.a s.b s.c s.d 0 0 0 0 false (Runs.of_loops l)) (by kernel_rfl) (Bare.bool _) (by simp [Qd.bare])⟩

section
variable {C n c v : Nat} {o : Option AAddr} (hs : SlArg o n c 1 v 0 4) {bT : ABlk} (hb : BareB bT) {T : List Qd} (hl : T.length = n) (hel : ElT bT v T) {M : Int} (hT : GoodT C M T) (hC : C ≤ 64) (hM : 0 ≤ M ∧ M ≤ 2 ^ 39) (hn : n ≤ 2 ^ 40)
include hs hb hl hel hT hC hM hn

def PaEnds (C n c : Nat) (o : Option AAddr) (bT : ABlk) (T : List Qd) (s : Qd) (z x : Int) : Prop :=
  (∃ r, AcrossZ T C s r ∧ Loops Try.prog 2 26 (loopAt Try.prog 27 0) [(0, .ptr (some ⟨0, 0, 0, 0, 1⟩)), (2, .int .i64 C), (4, .ptr (some ⟨2, 0, 0, 0, 4⟩)), (6, .ptr (some ⟨3, 0, 0, 0, 4⟩)), (7, .int .i64 x)] (p4 6 o n c bT (s.col z) Qd0) .ret [(6, .ptr (some ⟨3, 0, 0, 0, 4⟩))] (AHeap.rows 16 [(0, plcRow o n c), (1, bT), (3, .made [r.val] 4 true)])) ∨
  (AcrossZ T C s (s.col 0) ∧ ∃ z', Loops Try.prog 2 26 (loopAt Try.prog 27 0) [(0, .ptr (some ⟨0, 0, 0, 0, 1⟩)), (2, .int .i64 C), (4, .ptr (some ⟨2, 0, 0, 0, 4⟩)), (6, .ptr (some ⟨3, 0, 0, 0, 4⟩)), (7, .int .i64 x)] (p4 6 o n c bT (s.col z) Qd0) (.exit 0) [(4, .ptr (some ⟨2, 0, 0, 0, 4⟩)), (6, .ptr (some ⟨3, 0, 0, 0, 4⟩))] (p4 16 o n c bT (s.col z') Qd0))

theorem pa_loop {s : Qd} (hsm : Small s) (hsc : 1 ≤ s.c) : ∀ (f : Nat) (z x : Int), 0 ≤ x → x ≤ C → (C : Int) - x ≤ f → (∀ x', 0 ≤ x' → x' < x → ¬ FreeZ T (s.col x')) → PaEnds C n c o bT T s z x := by
  have dn : ∀ (z x : Int), ¬ (x + s.c ≤ C) → 0 ≤ x → x ≤ C → (∀ x', 0 ≤ x' → x' < x → ¬ FreeZ T (s.col x')) → PaEnds C n c o bT T s z x := fun z x hx h0 h1 hp => by
    have h3 := hsm.2.2.1
    refine .inr ⟨.inr ⟨rfl, fun x' a b => hp x' a (by omega)⟩, z, (Loops.last (by simp) (pa_end o n c v 0 C bT x z s.b s.c s.d 0 0 0 0 false (by omega) hx)).post ?_⟩
    exact Ent.drop (by kernel_rfl) (by kernel_rfl) (by kernel_rfl) (by kernel_rfl) (by simp [All_cons, All_nil, Clo, Ids]) (by
      simp only [List.map, All_cons, All_nil, and_true]
      exact ⟨plc_cloI (hs.clo (by simp [Ids])), hb.clo _, qd_cloI _ _, qd_cloI _ _⟩)
  intro f
  induction f with
  | zero => exact fun z x h0 h1 h2 hp => dn z x (by omega) h0 h1 hp
  | succ f ih =>
    intro z x h0 h1 h2 hp
    have hcc := hsm.2.2.1
    by_cases hx : x + s.c ≤ C
    · have d0 : Clo (Ids [0, 1, 2, 3]) (.slice o n c) := hs.clo (by simp [Ids])
      have bd : PlacedAt (p4 19 o n c bT (s.col x) Qd0) 0 1 o n c v bT T := ⟨by kernel_rfl, by kernel_rfl, hs, by decide, by unfold p4; rw [AHeap.rows_next]; omega, by unfold p4; rw [AHeap.rows_next]; omega, hb, hl, hel⟩
      have sx : Small (s.col x) := ⟨⟨show -2 ^ 40 ≤ x by omega, show x ≤ 2 ^ 40 by omega⟩, hsm.2⟩
      rcases pfree_does bd (hT.small (by omega) hM.2) hn sx with ⟨fr, k⟩ | ⟨fr, k⟩
      · refine .inl ⟨s.col x, .inl ⟨x, h0, hx, rfl, fr, hp⟩, ?_⟩
        refine (Loops.last (by simp) (pa_found o n c v 0 C bT x z s.b s.c s.d 0 0 0 0 false (by omega) hx k)).post ?_
        exact Ent.drop (by kernel_rfl) (by kernel_rfl) (by kernel_rfl) (by kernel_rfl) (by simp [All_cons, All_nil, Clo, Ids]) (by
          simp only [List.map, All_cons, All_nil, and_true]
          exact ⟨plc_cloI (hs.clo (by simp [Ids])), hb.clo _, qd_cloI _ _⟩)
      · have st := pa_step o n c v 0 C bT x z s.b s.c s.d 0 0 0 0 false (by omega) hx k (by omega)
        have st2 := st.post (i := Ent.drop (K := 6) (l := [(0, plcRow o n c), (1, bT), (2, .made [(s.col x).val] 4 true), (3, .made [Qd0.val] 4 true)]) (by kernel_rfl) (by kernel_rfl) (by kernel_rfl) (by kernel_rfl) (by simp [All_cons, All_nil, Clo, Ids]) (by
            simp only [List.map, All_cons, All_nil, and_true]
            exact ⟨plc_cloI d0, hb.clo _, qd_cloI _ _, qd_cloI _ _⟩))
        rcases ih x (x + 1) (by omega) (by omega) (by omega) (fun x' a b => by
          by_cases c1 : x' = x
          · subst c1; exact fr
          · exact hp x' a (by omega)) with ⟨r, a, l⟩ | ⟨a, z', l⟩
        · exact .inl ⟨r, a, Loops.step st2 l⟩
        · exact .inr ⟨a, z', Loops.step st2 l⟩
    · exact dn z x hx h0 h1 hp

/-! down -/
def PdIn (n c : Nat) (o : Option AAddr) (bT : ABlk) (T : List Qd) (M : Int) (s : Qd) (y0 y : Int) (m : Bool) (i : Nat) : Prop :=
  ∃ y2 m2, (0 ≤ y2 ∧ y2 ≤ M) ∧ (∀ y', 0 ≤ y' → y' < y2 → ¬ FreeZ T (s.row y')) ∧ (m2 = false → FreeZ T (s.row y2)) ∧ (m2 = true → y0 < y2) ∧
    Loops Try.prog 2 49 (loopAt Try.prog 28 1) [(0, .ptr (some ⟨0, 0, 0, 0, 1⟩)), (3, .ptr (some ⟨2, 0, 0, 0, 4⟩)), (4, .ptr (some ⟨3, 0, 0, 0, 4⟩)), (5, .bool m), (6, .int .i64 i)] (p4 15 o n c bT (s.row y) Qd0)
      (.exit 2) [(0, .ptr (some ⟨0, 0, 0, 0, 1⟩)), (3, .ptr (some ⟨2, 0, 0, 0, 4⟩)), (4, .ptr (some ⟨3, 0, 0, 0, 4⟩)), (5, .bool m2)] (p4 16 o n c bT (s.row y2) Qd0)

theorem pd_in {s : Qd} (hsm : Small s) {y0 : Int} : ∀ (f i : Nat) (y : Int) (m : Bool), i + f = n → (0 ≤ y ∧ y ≤ M) → (∀ y', 0 ≤ y' → y' < y → ¬ FreeZ T (s.row y')) → (m = false → ∀ j t, j < i → T[j]? = some t → ¬ MeetsZ t (s.row y)) → (m = true → y0 < y) → y0 ≤ y → PdIn n c o bT T M s y0 y m i
  | 0, i, y, m, e, hy, hp, hf, hm, hle => by
    obtain rfl : i = n := by omega
    refine ⟨y, m, hy, hp, fun h t ht hme => ?_, hm, (Loops.last (by simp) (pd_iend o i c v i C bT 0 s.a y s.c s.d 0 0 0 0 m (by omega))).post ?_⟩
    · obtain ⟨j, hj, e1⟩ := List.mem_iff_getElem.1 ht
      exact hf h j t (by omega) (by rw [List.getElem?_eq_getElem hj, e1]) hme
    · exact Ent.drop (by kernel_rfl) (by kernel_rfl) (by kernel_rfl) (by kernel_rfl) (by simp [All_cons, All_nil, Clo, Ids]) (by
        simp only [List.map, All_cons, All_nil, and_true]
        exact ⟨plc_cloI (hs.clo (by simp [Ids])), hb.clo _, qd_cloI _ _, qd_cloI _ _⟩)
  | f + 1, i, y, m, e, hy, hp, hf, hm, hle => by
    have hi : i < n := by omega
    obtain ⟨t, ht⟩ : ∃ t, T[i]? = some t := ⟨T[i], List.getElem?_eq_getElem (by omega)⟩
    have htm : t ∈ T := List.mem_of_getElem? ht
    have g := hT t htm
    have st := hT.small (by omega) hM.2 t htm
    have d0 : Clo (Ids [0, 1, 2, 3]) (.slice o n c) := hs.clo (by simp [Ids])
    have sy : Small (s.row y) := ⟨hsm.1, ⟨show -2 ^ 40 ≤ y by omega, show y ≤ 2 ^ 40 by omega⟩, hsm.2.2⟩
    have pp : ∀ (m2 : Bool) (y2 : Int) (K : Nat), Ent 2 49 [(0, .ptr (some ⟨0, 0, 0, 0, 1⟩)), (3, .ptr (some ⟨2, 0, 0, 0, 4⟩)), (4, .ptr (some ⟨3, 0, 0, 0, 4⟩)), (5, .bool m2), (6, .int .i64 ((i : Int) + 1))] (AHeap.rows K [(0, plcRow o n c), (1, bT), (2, .made [(s.row y2).val] 4 true), (3, .made [Qd0.val] 4 true)])
        [(0, .ptr (some ⟨0, 0, 0, 0, 1⟩)), (3, .ptr (some ⟨2, 0, 0, 0, 4⟩)), (4, .ptr (some ⟨3, 0, 0, 0, 4⟩)), (5, .bool m2), (6, .int .i64 (i + 1 : Nat))] (p4 15 o n c bT (s.row y2) Qd0) := fun m2 y2 K =>
      Ent.drop (by kernel_rfl) (by kernel_rfl) (by kernel_rfl) (by kernel_rfl) (by simp [All_cons, All_nil, Clo]; simp [Ids]) (by
        simp only [List.map, All_cons, All_nil, and_true]
        exact ⟨plc_cloI d0, hb.clo _, qd_cloI _ _, qd_cloI _ _⟩)
    have c1 : (i : Int) < n := by omega
    have c2 := ix_spS (k := .i64) hs hi
    have c3 := hel i t ht
    by_cases me : MeetsZ t (s.row y)
    · obtain ⟨n1, n2⟩ := hop_row (s := s) (y := y) htm me hp
      obtain ⟨y2, mm, a1, a2, a3, a4, l⟩ := pd_in hsm (y0 := y0) f (i + 1) (t.b + t.d) true (by omega) (by omega) n2 (fun h => by cases h) (fun _ => by omega) (by omega)
      exact ⟨y2, mm, a1, a2, a3, a4, Loops.step ((pd_yes o n c v i C bT 0 s.a y s.c s.d t.a t.b t.c t.d m c1 c2 c3 (rmeets_yes st sy me _) c2 c3 c2 c3 (fit_add st.2.1 st.2.2.2) (by omega)).post (pp true (t.b + t.d) _)) l⟩
    · obtain ⟨y2, m2, a1, a2, a3, a4, l⟩ := pd_in hsm f (i + 1) y m (by omega) hy hp (fun h j u hj hu => by
        by_cases c : j = i
        · subst c; rw [ht] at hu; cases hu; exact me
        · exact hf h j u (by omega) hu) hm hle
      exact ⟨y2, m2, a1, a2, a3, a4, Loops.step ((pd_no o n c v i C bT 0 s.a y s.c s.d t.a t.b t.c t.d m c1 c2 c3 (rmeets_no st sy me _) (by omega)).post (pp m y _)) l⟩

def PdEnds (n c : Nat) (o : Option AAddr) (bT : ABlk) (T : List Qd) (s : Qd) (y : Int) : Prop :=
  ∃ r, DownZ T s r ∧ Loops Try.prog 2 49 (loopAt Try.prog 28 0) [(0, .ptr (some ⟨0, 0, 0, 0, 1⟩)), (3, .ptr (some ⟨2, 0, 0, 0, 4⟩)), (4, .ptr (some ⟨3, 0, 0, 0, 4⟩))] (p4 7 o n c bT (s.row y) Qd0)
    .ret [(4, .ptr (some ⟨3, 0, 0, 0, 4⟩))] (AHeap.rows 18 [(0, plcRow o n c), (1, bT), (3, .made [r.val] 4 true)])

theorem pd_loop {s : Qd} (hsm : Small s) : ∀ (f : Nat) (y : Int), (0 ≤ y ∧ y ≤ M) → M - y < f → (∀ y', 0 ≤ y' → y' < y → ¬ FreeZ T (s.row y')) → PdEnds n c o bT T s y
  | 0, y, h, h2, hp => by omega
  | f + 1, y, h, h2, hp => by
    obtain ⟨y2, m2, a1, a2, a3, a4, l⟩ := pd_in hs hb hl hel hT hC hM hn hsm (y0 := y) n 0 y false (by omega) h hp (fun _ j t hj _ => by omega) (fun h => by cases h) (Int.le_refl _)
    have d0 : Clo (Ids [0, 1, 2, 3]) (.slice o n c) := hs.clo (by simp [Ids])
    have pre : ∀ K : Nat, Ent 2 49 [(0, .ptr (some ⟨0, 0, 0, 0, 1⟩)), (3, .ptr (some ⟨2, 0, 0, 0, 4⟩)), (4, .ptr (some ⟨3, 0, 0, 0, 4⟩)), (5, .bool false), (6, .int .i64 (0 : Nat))] (AHeap.rows K [(0, plcRow o n c), (1, bT), (2, .made [(s.row y).val] 4 true), (3, .made [Qd0.val] 4 true)])
        [(0, .ptr (some ⟨0, 0, 0, 0, 1⟩)), (3, .ptr (some ⟨2, 0, 0, 0, 4⟩)), (4, .ptr (some ⟨3, 0, 0, 0, 4⟩)), (5, .bool false), (6, .int .i64 (0 : Nat))] (p4 15 o n c bT (s.row y) Qd0) := fun K =>
      Ent.drop (by kernel_rfl) (by kernel_rfl) (by kernel_rfl) (by kernel_rfl) (by simp [All_cons, All_nil, Clo]; simp [Ids]) (by
        simp only [List.map, All_cons, All_nil, and_true]
        exact ⟨plc_cloI d0, hb.clo _, qd_cloI _ _, qd_cloI _ _⟩)
    cases m2 with
    | false =>
      refine ⟨s.row y2, ⟨y2, a1.1, rfl, a3 rfl, a2⟩, (Loops.last (by simp) (pd_last o n c v 0 C bT 0 s.a y s.c s.d s.a y2 s.c s.d false (Runs.of_loops (l.pre (pre _))))).post ?_⟩
      exact Ent.drop (by kernel_rfl) (by kernel_rfl) (by kernel_rfl) (by kernel_rfl) (by simp [All_cons, All_nil, Clo, Ids]) (by
        simp only [List.map, All_cons, All_nil, and_true]
        exact ⟨plc_cloI (hs.clo (by simp [Ids])), hb.clo _, qd_cloI _ _⟩)
    | true =>
      have := a4 rfl
      have rd := pd_round o n c v 0 C bT 0 s.a y s.c s.d s.a y2 s.c s.d false (Runs.of_loops (l.pre (pre _)))
      have rd2 := rd.post (i := Ent.drop (K := 7) (l := [(0, plcRow o n c), (1, bT), (2, .made [(s.row y2).val] 4 true), (3, .made [Qd0.val] 4 true)]) (by kernel_rfl) (by kernel_rfl) (by kernel_rfl) (by kernel_rfl) (by simp [All_cons, All_nil, Clo, Ids]) (by
          simp only [List.map, All_cons, All_nil, and_true]
          exact ⟨plc_cloI d0, hb.clo _, qd_cloI _ _, qd_cloI _ _⟩))
      obtain ⟨r, b1, b2⟩ := pd_loop hsm f y2 a1 (by omega) a2
      exact ⟨r, b1, Loops.step rd2 b2⟩
end

/-- Placed.across -/
theorem pacross_does {H : AHeap} {ib iT C : Nat} {o : Option AAddr} {n c v : Nat} {bT : ABlk} {T : List Qd} (h : PlacedAt H ib iT o n c v bT T) {M : Int} (hT : GoodT C M T) (hC : C ≤ 64) (hM : 0 ≤ M ∧ M ≤ 2 ^ 39) (hn : n ≤ 2 ^ 40) {s : Qd} (hs : Small s) (hsc : 1 ≤ s.c) :
    ∃ r, AcrossZ T C s r ∧ FDoes Try.prog 27 [.ptr (some ⟨ib, 0, 0, 0, 1⟩), s.val, .int .i64 C] H r.val H := by
  have s1 := h.sl.at 1
  have cl : Clo (Ids [0, 1, 2, 3]) (.slice (o.map fun a => { a with id := 1 }) n c) := s1.clo (by simp [Ids])
  have pre : ∀ K : Nat, Ent 2 26 [(0, .ptr (some ⟨0, 0, 0, 0, 1⟩)), (2, .int .i64 C), (4, .ptr (some ⟨2, 0, 0, 0, 4⟩)), (6, .ptr (some ⟨3, 0, 0, 0, 4⟩)), (7, .int .i64 0)] (AHeap.rows K [(0, plcRow (o.map fun a => { a with id := 1 }) n c), (1, bT), (2, .made [s.val] 4 true), (3, .made [Qd0.val] 4 true)]) [(0, .ptr (some ⟨0, 0, 0, 0, 1⟩)), (2, .int .i64 C), (4, .ptr (some ⟨2, 0, 0, 0, 4⟩)), (6, .ptr (some ⟨3, 0, 0, 0, 4⟩)), (7, .int .i64 0)] (p4 6 (o.map fun a => { a with id := 1 }) n c bT (s.col s.a) Qd0) := fun K =>
    Ent.drop (by kernel_rfl) (by kernel_rfl) (by kernel_rfl) (by kernel_rfl) (by simp [All_cons, All_nil, Clo, Ids]) (by
      simp only [List.map, All_cons, All_nil, and_true]
      exact ⟨plc_cloI cl, h.bare.clo _, qd_cloI _ _, qd_cloI _ _⟩)
  rcases pa_loop s1 h.bare h.len h.el hT hC hM hn hs hsc C s.a 0 (by omega) (by omega) (by omega) (fun x' a b => by omega) with ⟨r, a, l⟩ | ⟨a, z', l⟩
  · exact ⟨r, a, h.pure (pa_call_yes _ n c v 0 C bT 0 s.a s.b s.c s.d r.a r.b r.c r.d false (Runs.of_loops (Tri.pre l (pre _))) (by kernel_rfl)) (by kernel_rfl) (Qd.bare _) (by simp [Qd.bare, Bare.int])⟩
  · exact ⟨_, a, h.pure (pa_call_no _ n c v 0 C bT z' s.a s.b s.c s.d 0 0 0 0 false (Runs.of_loops (Tri.pre l (pre _))) (by kernel_rfl)) (by kernel_rfl) (Qd.bare (s.col 0)) (by simp [Qd.bare, Bare.int])⟩

/-- Placed.down -/
theorem pdown_does {H : AHeap} {ib iT C : Nat} {o : Option AAddr} {n c v : Nat} {bT : ABlk} {T : List Qd} (h : PlacedAt H ib iT o n c v bT T) {M : Int} (hT : GoodT C M T) (hC : C ≤ 64) (hM : 0 ≤ M ∧ M ≤ 2 ^ 39) (hn : n ≤ 2 ^ 40) {s : Qd} (hs : Small s) :
    ∃ r, DownZ T s r ∧ FDoes Try.prog 28 [.ptr (some ⟨ib, 0, 0, 0, 1⟩), s.val] H r.val H := by
  have s1 := h.sl.at 1
  have cl : Clo (Ids [0, 1, 2, 3]) (.slice (o.map fun a => { a with id := 1 }) n c) := s1.clo (by simp [Ids])
  have pre : ∀ {h0 : AHeap}, [h0.get 0, h0.get 1, h0.get 2, h0.get 3] = [some (plcRow (o.map fun a => { a with id := 1 }) n c), some bT, some (.made [(s.row 0).val] 4 true), some (.made [Qd0.val] 4 true)] →
      Ent 2 49 [(0, .ptr (some ⟨0, 0, 0, 0, 1⟩)), (3, .ptr (some ⟨2, 0, 0, 0, 4⟩)), (4, .ptr (some ⟨3, 0, 0, 0, 4⟩))] h0 [(0, .ptr (some ⟨0, 0, 0, 0, 1⟩)), (3, .ptr (some ⟨2, 0, 0, 0, 4⟩)), (4, .ptr (some ⟨3, 0, 0, 0, 4⟩))] (p4 7 (o.map fun a => { a with id := 1 }) n c bT (s.row 0) Qd0) := fun e =>
    Ent.drop e (by kernel_rfl) (by kernel_rfl) (by kernel_rfl) (by simp [All_cons, All_nil, Clo, Ids]) (by
      simp only [List.map, All_cons, All_nil, and_true]
      exact ⟨plc_cloI cl, h.bare.clo _, qd_cloI _ _, qd_cloI _ _⟩)
  obtain ⟨r, a, l⟩ := pd_loop s1 h.bare h.len h.el hT hC hM hn hs (M.toNat + 1) 0 (by omega) (by omega) (fun y' a b => by omega)
  exact ⟨r, a, h.pure (pd_call _ n c v 0 C bT 0 s.a s.b s.c s.d r.a r.b r.c r.d false (Runs.of_loops (Tri.pre l (pre (by kernel_rfl)))) (by kernel_rfl)) (by kernel_rfl) (Qd.bare _) (by simp [Qd.bare])⟩

end Go.Proofs.Ytcgcpmcjaeenlaa

namespace Go.Proofs.Ytcgcpmcjaeenlaa
open Go.Lift
set_option maxRecDepth 1000000
set_option linter.unusedSimpArgs false
set_option linter.unusedVariables false
set_option linter.unusedSectionVars false

theorem st_o1 (o : Option AAddr) (n c v i C : Nat) (bT : ABlk) (l l2 : List AVal) (y d e e2 x ta tb tc td : Int) (old : Bool) (hc_0 : (i : Int) < (n : Int)) (hc_1 : aindexAddr env.D 22 (.slice o n c) (.int .i64 (i : Int)) = some (.ptr (some ⟨1, v, 0 + i, 0, 4⟩))) (hc_2 : ABlk.elem? bT v (0 + i) = some (.agg [.int .i64 ta, .int .i64 tb, .int .i64 tc, .int .i64 td])) (hc_3 : -9223372036854775808 ≤ y + d ∧ y + d ≤ 9223372036854775807) (hc_4 : tb ≥ y + d) (hc_5 : -9223372036854775808 ≤ (i : Int) + 1 ∧ (i : Int) + (1 : Int) ≤ 9223372036854775807) :
    Runs Try.prog 2 76 (loopAt Try.prog 54 0) [(0, .ptr (some ⟨0, 0, 0, 0, 2⟩)), (1, .int .i64 y), (2, .int .i64 d), (6, .slice (some ⟨8, 0, 0, 0, 1⟩) C C), (7, .int .i64 e), (20, .slice o n c), (21, .int .i64 n), (22, .int .i64 i)] (AHeap.rows 16 [(0, .made [.agg [.int .i64 C, .slice o n c]] 2 true), (1, bT), (8, .made l 1 true)]) .normal [(0, .ptr (some ⟨0, 0, 0, 0, 2⟩)), (1, .int .i64 y), (2, .int .i64 d), (6, .slice (some ⟨8, 0, 0, 0, 1⟩) C C), (7, .int .i64 e), (20, .slice o n c), (21, .int .i64 (n : Int)), (22, .int .i64 ((i : Int) + 1))] (AHeap.rows 38 [(0, (.made ([.agg [.int .i64 (C : Int), .slice o n c]]) 2 true)), (1, bT), (8, .made l 1 true), (19, (.made ([.agg [.int .i64 ta, .int .i64 tb, .int .i64 tc, .int .i64 td]]) 4 true))]) :=
  ppath_runs env_ok mixed (hs := [.val 3000 (.bool true), .val 4000 (.ptr (some ⟨1, v, 0 + i, 0, 4⟩)), .ld 4001 (.agg [.int .i64 ta, .int .i64 tb, .int .i64 tc, .int .i64 td]), .go 5004, .val 5005 (.bool true), .go 13000]) (keep := [0, 1, 2, 6, 7, 20, 21, 22]) (by kernel_rfl) (All.cons (okT hc_0) (All.cons hc_1 (All.cons hc_2 (All.cons hc_3 (All.cons (okT hc_4) (All.cons hc_5 (All.nil)))))))

theorem st_o2 (o : Option AAddr) (n c v i C : Nat) (bT : ABlk) (l l2 : List AVal) (y d e e2 x ta tb tc td : Int) (old : Bool) (hc_0 : (i : Int) < (n : Int)) (hc_1 : aindexAddr env.D 22 (.slice o n c) (.int .i64 (i : Int)) = some (.ptr (some ⟨1, v, 0 + i, 0, 4⟩))) (hc_2 : ABlk.elem? bT v (0 + i) = some (.agg [.int .i64 ta, .int .i64 tb, .int .i64 tc, .int .i64 td])) (hc_3 : -9223372036854775808 ≤ y + d ∧ y + d ≤ 9223372036854775807) (hc_4 : ¬ (tb ≥ y + d)) (hc_5 : -9223372036854775808 ≤ tb + td ∧ tb + td ≤ 9223372036854775807) (hc_6 : y ≥ tb + td) (hc_7 : -9223372036854775808 ≤ (i : Int) + 1 ∧ (i : Int) + (1 : Int) ≤ 9223372036854775807) :
    Runs Try.prog 2 76 (loopAt Try.prog 54 0) [(0, .ptr (some ⟨0, 0, 0, 0, 2⟩)), (1, .int .i64 y), (2, .int .i64 d), (6, .slice (some ⟨8, 0, 0, 0, 1⟩) C C), (7, .int .i64 e), (20, .slice o n c), (21, .int .i64 n), (22, .int .i64 i)] (AHeap.rows 16 [(0, .made [.agg [.int .i64 C, .slice o n c]] 2 true), (1, bT), (8, .made l 1 true)]) .normal [(0, .ptr (some ⟨0, 0, 0, 0, 2⟩)), (1, .int .i64 y), (2, .int .i64 d), (6, .slice (some ⟨8, 0, 0, 0, 1⟩) C C), (7, .int .i64 e), (20, .slice o n c), (21, .int .i64 (n : Int)), (22, .int .i64 ((i : Int) + 1))] (AHeap.rows 38 [(0, (.made ([.agg [.int .i64 (C : Int), .slice o n c]]) 2 true)), (1, bT), (8, .made l 1 true), (19, (.made ([.agg [.int .i64 ta, .int .i64 tb, .int .i64 tc, .int .i64 td]]) 4 true))]) :=
  ppath_runs env_ok mixed (hs := [.val 3000 (.bool true), .val 4000 (.ptr (some ⟨1, v, 0 + i, 0, 4⟩)), .ld 4001 (.agg [.int .i64 ta, .int .i64 tb, .int .i64 tc, .int .i64 td]), .go 5004, .val 5005 (.bool false), .go 5012, .val 5013 (.bool true), .go 13000]) (keep := [0, 1, 2, 6, 7, 20, 21, 22]) (by kernel_rfl) (All.cons (okT hc_0) (All.cons hc_1 (All.cons hc_2 (All.cons hc_3 (All.cons (okF hc_4) (All.cons hc_5 (All.cons (okT hc_6) (All.cons hc_7 (All.nil)))))))))

theorem st_in1 (o : Option AAddr) (n c v i C : Nat) (bT : ABlk) (l l2 : List AVal) (y d e e2 x ta tb tc td : Int) (old : Bool) (hc_0 : (i : Int) < (n : Int)) (hc_1 : aindexAddr env.D 22 (.slice o n c) (.int .i64 (i : Int)) = some (.ptr (some ⟨1, v, 0 + i, 0, 4⟩))) (hc_2 : ABlk.elem? bT v (0 + i) = some (.agg [.int .i64 ta, .int .i64 tb, .int .i64 tc, .int .i64 td])) (hc_3 : -9223372036854775808 ≤ y + d ∧ y + d ≤ 9223372036854775807) (hc_4 : ¬ (tb ≥ y + d)) (hc_5 : -9223372036854775808 ≤ tb + td ∧ tb + td ≤ 9223372036854775807) (hc_6 : ¬ (y ≥ tb + td)) (hc_7 : -9223372036854775808 ≤ tb + td ∧ tb + td ≤ 9223372036854775807) (hc_8 : e = 0) (hc_9 : Runs Try.prog 2 76 (.loop (loopAt Try.prog 54 1)) [(0, .ptr (some ⟨0, 0, 0, 0, 2⟩)), (1, .int .i64 y), (2, .int .i64 d), (6, .slice (some ⟨8, 0, 0, 0, 1⟩) C C), (7, .int .i64 (tb + td)), (9, .ptr (some ⟨19, 0, 0, 0, 4⟩)), (11, .int .i64 ta), (20, .slice o n c), (21, .int .i64 (n : Int)), (22, .int .i64 (i : Int))] (AHeap.rows 54 [(0, (.made ([.agg [.int .i64 (C : Int), .slice o n c]]) 2 true)), (1, bT), (8, .made l 1 true), (19, (.made ([.agg [.int .i64 ta, .int .i64 tb, .int .i64 tc, .int .i64 td]]) 4 true))]) (.exit 2) [(0, .ptr (some ⟨0, 0, 0, 0, 2⟩)), (1, .int .i64 y), (2, .int .i64 d), (6, .slice (some ⟨8, 0, 0, 0, 1⟩) C C), (7, .int .i64 e2), (20, .slice o n c), (21, .int .i64 (n : Int)), (22, .int .i64 (i : Int))] (AHeap.rows 80 [(0, (.made ([.agg [.int .i64 (C : Int), .slice o n c]]) 2 true)), (1, bT), (8, .made l2 1 true)])) (hc_10 : -9223372036854775808 ≤ (i : Int) + 1 ∧ (i : Int) + (1 : Int) ≤ 9223372036854775807) :
    Runs Try.prog 2 76 (loopAt Try.prog 54 0) [(0, .ptr (some ⟨0, 0, 0, 0, 2⟩)), (1, .int .i64 y), (2, .int .i64 d), (6, .slice (some ⟨8, 0, 0, 0, 1⟩) C C), (7, .int .i64 e), (20, .slice o n c), (21, .int .i64 n), (22, .int .i64 i)] (AHeap.rows 16 [(0, .made [.agg [.int .i64 C, .slice o n c]] 2 true), (1, bT), (8, .made l 1 true)]) .normal [(0, .ptr (some ⟨0, 0, 0, 0, 2⟩)), (1, .int .i64 y), (2, .int .i64 d), (6, .slice (some ⟨8, 0, 0, 0, 1⟩) C C), (7, .int .i64 e2), (20, .slice o n c), (21, .int .i64 (n : Int)), (22, .int .i64 ((i : Int) + 1))] (AHeap.rows 82 [(0, (.made ([.agg [.int .i64 (C : Int), .slice o n c]]) 2 true)), (1, bT), (8, .made l2 1 true)]) :=
  ppath_runs env_ok mixed (hs := [.val 3000 (.bool true), .val 4000 (.ptr (some ⟨1, v, 0 + i, 0, 4⟩)), .ld 4001 (.agg [.int .i64 ta, .int .i64 tb, .int .i64 tc, .int .i64 td]), .go 5004, .val 5005 (.bool false), .go 5012, .val 5013 (.bool false), .go 6004, .val 7001 (.bool true), .keep [0, 1, 2, 6, 7, 9, 11, 20, 21, 22], .loop [(0, .ptr (some ⟨0, 0, 0, 0, 2⟩)), (1, .int .i64 y), (2, .int .i64 d), (6, .slice (some ⟨8, 0, 0, 0, 1⟩) C C), (7, .int .i64 e2), (20, .slice o n c), (21, .int .i64 n), (22, .int .i64 i)] (AHeap.rows 80 [(0, .made [.agg [.int .i64 C, .slice o n c]] 2 true), (1, bT), (8, .made l2 1 true)]) (.exit 2), .go 13000]) (keep := [0, 1, 2, 6, 7, 20, 21, 22]) (by kernel_rfl) (All.cons (okT hc_0) (All.cons hc_1 (All.cons hc_2 (All.cons hc_3 (All.cons (okF hc_4) (All.cons hc_5 (All.cons (okF hc_6) (All.cons hc_7 (All.cons (eqT hc_8) (All.cons hc_9 (All.cons hc_10 (All.nil))))))))))))

theorem st_in2 (o : Option AAddr) (n c v i C : Nat) (bT : ABlk) (l l2 : List AVal) (y d e e2 x ta tb tc td : Int) (old : Bool) (hc_0 : (i : Int) < (n : Int)) (hc_1 : aindexAddr env.D 22 (.slice o n c) (.int .i64 (i : Int)) = some (.ptr (some ⟨1, v, 0 + i, 0, 4⟩))) (hc_2 : ABlk.elem? bT v (0 + i) = some (.agg [.int .i64 ta, .int .i64 tb, .int .i64 tc, .int .i64 td])) (hc_3 : -9223372036854775808 ≤ y + d ∧ y + d ≤ 9223372036854775807) (hc_4 : ¬ (tb ≥ y + d)) (hc_5 : -9223372036854775808 ≤ tb + td ∧ tb + td ≤ 9223372036854775807) (hc_6 : ¬ (y ≥ tb + td)) (hc_7 : -9223372036854775808 ≤ tb + td ∧ tb + td ≤ 9223372036854775807) (hc_8 : ¬ (e = 0)) (hc_9 : tb + td < e) (hc_10 : Runs Try.prog 2 76 (.loop (loopAt Try.prog 54 1)) [(0, .ptr (some ⟨0, 0, 0, 0, 2⟩)), (1, .int .i64 y), (2, .int .i64 d), (6, .slice (some ⟨8, 0, 0, 0, 1⟩) C C), (7, .int .i64 (tb + td)), (9, .ptr (some ⟨19, 0, 0, 0, 4⟩)), (11, .int .i64 ta), (20, .slice o n c), (21, .int .i64 (n : Int)), (22, .int .i64 (i : Int))] (AHeap.rows 54 [(0, (.made ([.agg [.int .i64 (C : Int), .slice o n c]]) 2 true)), (1, bT), (8, .made l 1 true), (19, (.made ([.agg [.int .i64 ta, .int .i64 tb, .int .i64 tc, .int .i64 td]]) 4 true))]) (.exit 2) [(0, .ptr (some ⟨0, 0, 0, 0, 2⟩)), (1, .int .i64 y), (2, .int .i64 d), (6, .slice (some ⟨8, 0, 0, 0, 1⟩) C C), (7, .int .i64 e2), (20, .slice o n c), (21, .int .i64 (n : Int)), (22, .int .i64 (i : Int))] (AHeap.rows 80 [(0, (.made ([.agg [.int .i64 (C : Int), .slice o n c]]) 2 true)), (1, bT), (8, .made l2 1 true)])) (hc_11 : -9223372036854775808 ≤ (i : Int) + 1 ∧ (i : Int) + (1 : Int) ≤ 9223372036854775807) :
    Runs Try.prog 2 76 (loopAt Try.prog 54 0) [(0, .ptr (some ⟨0, 0, 0, 0, 2⟩)), (1, .int .i64 y), (2, .int .i64 d), (6, .slice (some ⟨8, 0, 0, 0, 1⟩) C C), (7, .int .i64 e), (20, .slice o n c), (21, .int .i64 n), (22, .int .i64 i)] (AHeap.rows 16 [(0, .made [.agg [.int .i64 C, .slice o n c]] 2 true), (1, bT), (8, .made l 1 true)]) .normal [(0, .ptr (some ⟨0, 0, 0, 0, 2⟩)), (1, .int .i64 y), (2, .int .i64 d), (6, .slice (some ⟨8, 0, 0, 0, 1⟩) C C), (7, .int .i64 e2), (20, .slice o n c), (21, .int .i64 (n : Int)), (22, .int .i64 ((i : Int) + 1))] (AHeap.rows 82 [(0, (.made ([.agg [.int .i64 (C : Int), .slice o n c]]) 2 true)), (1, bT), (8, .made l2 1 true)]) :=
  ppath_runs env_ok mixed (hs := [.val 3000 (.bool true), .val 4000 (.ptr (some ⟨1, v, 0 + i, 0, 4⟩)), .ld 4001 (.agg [.int .i64 ta, .int .i64 tb, .int .i64 tc, .int .i64 td]), .go 5004, .val 5005 (.bool false), .go 5012, .val 5013 (.bool false), .go 6004, .val 7001 (.bool false), .val 7005 (.bool true), .keep [0, 1, 2, 6, 7, 9, 11, 20, 21, 22], .loop [(0, .ptr (some ⟨0, 0, 0, 0, 2⟩)), (1, .int .i64 y), (2, .int .i64 d), (6, .slice (some ⟨8, 0, 0, 0, 1⟩) C C), (7, .int .i64 e2), (20, .slice o n c), (21, .int .i64 n), (22, .int .i64 i)] (AHeap.rows 80 [(0, .made [.agg [.int .i64 C, .slice o n c]] 2 true), (1, bT), (8, .made l2 1 true)]) (.exit 2), .go 13000]) (keep := [0, 1, 2, 6, 7, 20, 21, 22]) (by kernel_rfl) (All.cons (okT hc_0) (All.cons hc_1 (All.cons hc_2 (All.cons hc_3 (All.cons (okF hc_4) (All.cons hc_5 (All.cons (okF hc_6) (All.cons hc_7 (All.cons (eqF hc_8) (All.cons (okT hc_9) (All.cons hc_10 (All.cons hc_11 (All.nil)))))))))))))

theorem st_in3 (o : Option AAddr) (n c v i C : Nat) (bT : ABlk) (l l2 : List AVal) (y d e e2 x ta tb tc td : Int) (old : Bool) (hc_0 : (i : Int) < (n : Int)) (hc_1 : aindexAddr env.D 22 (.slice o n c) (.int .i64 (i : Int)) = some (.ptr (some ⟨1, v, 0 + i, 0, 4⟩))) (hc_2 : ABlk.elem? bT v (0 + i) = some (.agg [.int .i64 ta, .int .i64 tb, .int .i64 tc, .int .i64 td])) (hc_3 : -9223372036854775808 ≤ y + d ∧ y + d ≤ 9223372036854775807) (hc_4 : ¬ (tb ≥ y + d)) (hc_5 : -9223372036854775808 ≤ tb + td ∧ tb + td ≤ 9223372036854775807) (hc_6 : ¬ (y ≥ tb + td)) (hc_7 : -9223372036854775808 ≤ tb + td ∧ tb + td ≤ 9223372036854775807) (hc_8 : ¬ (e = 0)) (hc_9 : ¬ (tb + td < e)) (hc_10 : Runs Try.prog 2 76 (.loop (loopAt Try.prog 54 1)) [(0, .ptr (some ⟨0, 0, 0, 0, 2⟩)), (1, .int .i64 y), (2, .int .i64 d), (6, .slice (some ⟨8, 0, 0, 0, 1⟩) C C), (7, .int .i64 e), (9, .ptr (some ⟨19, 0, 0, 0, 4⟩)), (11, .int .i64 ta), (20, .slice o n c), (21, .int .i64 (n : Int)), (22, .int .i64 (i : Int))] (AHeap.rows 52 [(0, (.made ([.agg [.int .i64 (C : Int), .slice o n c]]) 2 true)), (1, bT), (8, .made l 1 true), (19, (.made ([.agg [.int .i64 ta, .int .i64 tb, .int .i64 tc, .int .i64 td]]) 4 true))]) (.exit 2) [(0, .ptr (some ⟨0, 0, 0, 0, 2⟩)), (1, .int .i64 y), (2, .int .i64 d), (6, .slice (some ⟨8, 0, 0, 0, 1⟩) C C), (7, .int .i64 e2), (20, .slice o n c), (21, .int .i64 (n : Int)), (22, .int .i64 (i : Int))] (AHeap.rows 80 [(0, (.made ([.agg [.int .i64 (C : Int), .slice o n c]]) 2 true)), (1, bT), (8, .made l2 1 true)])) (hc_11 : -9223372036854775808 ≤ (i : Int) + 1 ∧ (i : Int) + (1 : Int) ≤ 9223372036854775807) :
    Runs Try.prog 2 76 (loopAt Try.prog 54 0) [(0, .ptr (some ⟨0, 0, 0, 0, 2⟩)), (1, .int .i64 y), (2, .int .i64 d), (6, .slice (some ⟨8, 0, 0, 0, 1⟩) C C), (7, .int .i64 e), (20, .slice o n c), (21, .int .i64 n), (22, .int .i64 i)] (AHeap.rows 16 [(0, .made [.agg [.int .i64 C, .slice o n c]] 2 true), (1, bT), (8, .made l 1 true)]) .normal [(0, .ptr (some ⟨0, 0, 0, 0, 2⟩)), (1, .int .i64 y), (2, .int .i64 d), (6, .slice (some ⟨8, 0, 0, 0, 1⟩) C C), (7, .int .i64 e2), (20, .slice o n c), (21, .int .i64 (n : Int)), (22, .int .i64 ((i : Int) + 1))] (AHeap.rows 82 [(0, (.made ([.agg [.int .i64 (C : Int), .slice o n c]]) 2 true)), (1, bT), (8, .made l2 1 true)]) :=
  ppath_runs env_ok mixed (hs := [.val 3000 (.bool true), .val 4000 (.ptr (some ⟨1, v, 0 + i, 0, 4⟩)), .ld 4001 (.agg [.int .i64 ta, .int .i64 tb, .int .i64 tc, .int .i64 td]), .go 5004, .val 5005 (.bool false), .go 5012, .val 5013 (.bool false), .go 6004, .val 7001 (.bool false), .val 7005 (.bool false), .keep [0, 1, 2, 6, 7, 9, 11, 20, 21, 22], .loop [(0, .ptr (some ⟨0, 0, 0, 0, 2⟩)), (1, .int .i64 y), (2, .int .i64 d), (6, .slice (some ⟨8, 0, 0, 0, 1⟩) C C), (7, .int .i64 e2), (20, .slice o n c), (21, .int .i64 n), (22, .int .i64 i)] (AHeap.rows 80 [(0, .made [.agg [.int .i64 C, .slice o n c]] 2 true), (1, bT), (8, .made l2 1 true)]) (.exit 2), .go 13000]) (keep := [0, 1, 2, 6, 7, 20, 21, 22]) (by kernel_rfl) (All.cons (okT hc_0) (All.cons hc_1 (All.cons hc_2 (All.cons hc_3 (All.cons (okF hc_4) (All.cons hc_5 (All.cons (okF hc_6) (All.cons hc_7 (All.cons (eqF hc_8) (All.cons (okF hc_9) (All.cons hc_10 (All.cons hc_11 (All.nil)))))))))))))

theorem st_end (o : Option AAddr) (n c v i C : Nat) (bT : ABlk) (l l2 : List AVal) (y d e e2 x ta tb tc td : Int) (old : Bool) (hc_0 : ¬ ((i : Int) < (n : Int))) :
    Runs Try.prog 2 76 (loopAt Try.prog 54 0) [(0, .ptr (some ⟨0, 0, 0, 0, 2⟩)), (1, .int .i64 y), (2, .int .i64 d), (6, .slice (some ⟨8, 0, 0, 0, 1⟩) C C), (7, .int .i64 e), (20, .slice o n c), (21, .int .i64 n), (22, .int .i64 i)] (AHeap.rows 16 [(0, .made [.agg [.int .i64 C, .slice o n c]] 2 true), (1, bT), (8, .made l 1 true)]) (.exit 0) [(6, .slice (some ⟨8, 0, 0, 0, 1⟩) C C), (7, .int .i64 e)] (AHeap.rows 17 [(0, (.made ([.agg [.int .i64 (C : Int), .slice o n c]]) 2 true)), (1, bT), (8, .made l 1 true)]) :=
  ppath_runs env_ok mixed (hs := [.val 3000 (.bool false)]) (keep := [6, 7]) (by kernel_rfl) (All.cons (okF hc_0) (All.nil))

theorem si_step (o : Option AAddr) (n c v i C : Nat) (bT : ABlk) (l l2 : List AVal) (y d e e2 x ta tb tc td : Int) (old : Bool) (hc_0 : -9223372036854775808 ≤ ta + tc ∧ ta + tc ≤ 9223372036854775807) (hc_1 : x < if (C : Int) < ta + tc then (C : Int) else ta + tc) (hc_2 : 0 ≤ x ∧ x < (C : Int) ∧ 1 = 1) (hc_3 : 0 = 0 ∧ l[0 + Int.toNat x]? = some (AVal.bool old)) (hc_4 : -9223372036854775808 ≤ x + 1 ∧ x + (1 : Int) ≤ 9223372036854775807) :
    Runs Try.prog 2 76 (loopAt Try.prog 54 1) [(0, .ptr (some ⟨0, 0, 0, 0, 2⟩)), (1, .int .i64 y), (2, .int .i64 d), (6, .slice (some ⟨8, 0, 0, 0, 1⟩) C C), (7, .int .i64 e), (9, .ptr (some ⟨19, 0, 0, 0, 4⟩)), (11, .int .i64 x), (20, .slice o n c), (21, .int .i64 n), (22, .int .i64 i)] (AHeap.rows 60 [(0, .made [.agg [.int .i64 C, .slice o n c]] 2 true), (1, bT), (8, .made l 1 true), (19, .made [.agg [.int .i64 ta, .int .i64 tb, .int .i64 tc, .int .i64 td]] 4 true)]) .normal [(0, .ptr (some ⟨0, 0, 0, 0, 2⟩)), (1, .int .i64 y), (2, .int .i64 d), (6, .slice (some ⟨8, 0, 0, 0, 1⟩) C C), (7, .int .i64 e), (9, .ptr (some ⟨19, 0, 0, 0, 4⟩)), (11, .int .i64 (x + 1)), (20, .slice o n c), (21, .int .i64 (n : Int)), (22, .int .i64 (i : Int))] (AHeap.rows 79 [(0, (.made ([.agg [.int .i64 (C : Int), .slice o n c]]) 2 true)), (1, bT), (8, (.made (List.set l (0 + Int.toNat x) (AVal.bool true)) 1 true)), (19, (.made ([.agg [.int .i64 ta, .int .i64 tb, .int .i64 tc, .int .i64 td]]) 4 true))]) :=
  ppath_runs env_ok mixed (hs := [.go 10005, .val 10011 (.bool true), .go 12002, .st 12003 (.bool old), .go 11001]) (keep := [0, 1, 2, 6, 7, 9, 11, 20, 21, 22]) (by kernel_rfl) (All.cons hc_0 (All.cons (okT hc_1) (All.cons hc_2 (All.cons hc_3 (All.cons hc_4 (All.nil))))))

theorem si_end (o : Option AAddr) (n c v i C : Nat) (bT : ABlk) (l l2 : List AVal) (y d e e2 x ta tb tc td : Int) (old : Bool) (hc_0 : -9223372036854775808 ≤ ta + tc ∧ ta + tc ≤ 9223372036854775807) (hc_1 : ¬ (x < if (C : Int) < ta + tc then (C : Int) else ta + tc)) :
    Runs Try.prog 2 76 (loopAt Try.prog 54 1) [(0, .ptr (some ⟨0, 0, 0, 0, 2⟩)), (1, .int .i64 y), (2, .int .i64 d), (6, .slice (some ⟨8, 0, 0, 0, 1⟩) C C), (7, .int .i64 e), (9, .ptr (some ⟨19, 0, 0, 0, 4⟩)), (11, .int .i64 x), (20, .slice o n c), (21, .int .i64 n), (22, .int .i64 i)] (AHeap.rows 60 [(0, .made [.agg [.int .i64 C, .slice o n c]] 2 true), (1, bT), (8, .made l 1 true), (19, .made [.agg [.int .i64 ta, .int .i64 tb, .int .i64 tc, .int .i64 td]] 4 true)]) (.exit 2) [(0, .ptr (some ⟨0, 0, 0, 0, 2⟩)), (1, .int .i64 y), (2, .int .i64 d), (6, .slice (some ⟨8, 0, 0, 0, 1⟩) C C), (7, .int .i64 e), (20, .slice o n c), (21, .int .i64 (n : Int)), (22, .int .i64 (i : Int))] (AHeap.rows 72 [(0, (.made ([.agg [.int .i64 (C : Int), .slice o n c]]) 2 true)), (1, bT), (8, .made l 1 true), (19, (.made ([.agg [.int .i64 ta, .int .i64 tb, .int .i64 tc, .int .i64 td]]) 4 true))]) :=
  ppath_runs env_ok mixed (hs := [.go 10005, .val 10011 (.bool false)]) (keep := [0, 1, 2, 6, 7, 20, 21, 22]) (by kernel_rfl) (All.cons hc_0 (All.cons (okF hc_1) (All.nil)))

theorem st_call (o : Option AAddr) (n c v i C : Nat) (bT : ABlk) (l l2 : List AVal) (y d e e2 x ta tb tc td : Int) (old : Bool) (hc_0 : 0 ≤ (C : Int) ∧ (C : Int) ≤ (C : Int) ∧ (C : Int) < 4611686018427387904 ∧ (1 : Int) * (C : Int) ≤ 281474976710656) (hc_1 : Runs Try.prog 2 76 (.loop (loopAt Try.prog 54 0)) [(0, .ptr (some ⟨0, 0, 0, 0, 2⟩)), (1, .int .i64 y), (2, .int .i64 d), (6, .slice (some ⟨8, 0, 0, 0, 1⟩) C C), (7, .int .i64 0), (20, .slice o n c), (21, .int .i64 (n : Int)), (22, .int .i64 0)] (AHeap.rows 16 [(0, .made [.agg [.int .i64 (C : Int), .slice o n c]] 2 true), (1, bT), (8, .made (List.replicate C (AVal.bool false)) 1 true)]) (.exit 0) [(6, .slice (some ⟨8, 0, 0, 0, 1⟩) C C), (7, .int .i64 e)] (AHeap.rows 17 [(0, (.made ([.agg [.int .i64 (C : Int), .slice o n c]]) 2 true)), (1, bT), (8, .made l 1 true)])) :
    FDoes Try.prog 54 [.ptr (some ⟨0, 0, 0, 0, 2⟩), .int .i64 y, .int .i64 d] (AHeap.of [.made [.agg [.int .i64 C, .slice o n c]] 2 true, bT]) (.tuple [.slice (some ⟨8, 0, 0, 0, 1⟩) C C, .int .i64 e]) (AHeap.rows 21 [(0, (.made ([.agg [.int .i64 (C : Int), .slice o n c]]) 2 true)), (1, bT), (8, .made l 1 true)]) :=
  pcall_does env_ok mixed (hs := [.go 1004, .keep [0, 1, 2, 6, 7, 20, 21, 22], .loop [(6, .slice (some ⟨8, 0, 0, 0, 1⟩) C C), (7, .int .i64 e)] (AHeap.rows 17 [(0, .made [.agg [.int .i64 C, .slice o n c]] 2 true), (1, bT), (8, .made l 1 true)]) (.exit 0)]) (rs := []) (by kernel_rfl) (All.cons hc_0 (All.cons hc_1 (All.nil)))

end Go.Proofs.Ytcgcpmcjaeenlaa

namespace Go.Proofs.Ytcgcpmcjaeenlaa
open Go.Lift
set_option maxRecDepth 1000000
set_option linter.unusedSimpArgs false
set_option linter.unusedVariables false
set_option linter.unusedSectionVars false

/-- a row of truths -/
def bools (n : Nat) (f : Nat → Bool) : List AVal := (List.range n).map fun j => .bool (f j)
theorem bools_get {n : Nat} {f : Nat → Bool} {i : Nat} (h : i < n) : (bools n f)[i]? = some (.bool (f i)) := by simp [bools, h]
theorem bools_congr {n : Nat} {f g : Nat → Bool} (h : ∀ j, j < n → f j = g j) : bools n f = bools n g := List.map_congr_left fun j hj => by rw [h j (List.mem_range.1 hj)]
theorem bools_set {n : Nat} {f : Nat → Bool} {i : Nat} {v : Bool} : (bools n f).set i (.bool v) = bools n (fun j => if j = i then v else f j) := by
  apply List.ext_getElem (by simp [bools])
  intro j h1 h2
  rw [List.getElem_set]
  simp only [bools, List.getElem_map, List.getElem_range]
  by_cases e : i = j
  · subst e; simp
  · rw [if_neg e, if_neg (Ne.symm e)]
theorem bools_zero (n : Nat) : List.replicate n (AVal.bool false) = bools n (fun _ => false) := by
  apply List.ext_getElem (by simp [bools])
  intro j h1 h2
  simp [bools]
theorem bools_bare (n : Nat) (f : Nat → Bool) : BareB (.made (bools n f) 1 true) := by
  intro e he
  obtain ⟨j, _, rfl⟩ := List.mem_map.1 (show e ∈ (List.range n).map fun j => AVal.bool (f j) from he)
  exact Bare.bool _
theorem bools_el {n : Nat} {f : Nat → Bool} {k : Nat} (h : k < n) : (ABlk.made (bools n f) 1 true).elem? 0 k = some (.bool (f k)) := elem_made (bools_get h)

/-- what the first i of them take of some rows -/
structure StripZ (T : List Qd) (C : Nat) (y d none : Int) (i : Nat) (tk : Nat → Bool) (e : Int) : Prop where
  tk : ∀ x : Nat, x < C → (tk x = true ↔ ∃ j t, j < i ∧ T[j]? = some t ∧ OvlZ t y d ∧ t.a ≤ x ∧ (x : Int) < t.a + t.c)
  e : (e = none ∧ ∀ j t, j < i → T[j]? = some t → ¬ OvlZ t y d) ∨ ((∃ j t, j < i ∧ T[j]? = some t ∧ OvlZ t y d ∧ e = t.b + t.d) ∧ ∀ j t, j < i → T[j]? = some t → OvlZ t y d → e ≤ t.b + t.d)

theorem StripZ.zero (T : List Qd) (C : Nat) (y d none : Int) : StripZ T C y d none 0 (fun _ => false) none :=
  ⟨fun x _ => ⟨fun h => (by cases h), fun ⟨j, _, h, _⟩ => by omega⟩, .inl ⟨rfl, fun j _ h => by omega⟩⟩

theorem StripZ.out {T : List Qd} {C : Nat} {y d none e : Int} {i : Nat} {tk : Nat → Bool} (h : StripZ T C y d none i tk e) {t : Qd} (ht : T[i]? = some t) (ho : ¬ OvlZ t y d) : StripZ T C y d none (i + 1) tk e := by
  have no : ∀ j u, j < i + 1 → T[j]? = some u → OvlZ u y d → j < i := fun j u hj hu hv => by
    by_cases c : j = i
    · subst c; rw [ht] at hu; cases hu; exact absurd hv ho
    · omega
  refine ⟨fun x hx => (h.tk x hx).trans ⟨fun ⟨j, u, a1, a2, a3⟩ => ⟨j, u, by omega, a2, a3⟩, fun ⟨j, u, a1, a2, a3⟩ => ⟨j, u, no j u a1 a2 a3.1, a2, a3⟩⟩, ?_⟩
  rcases h.e with ⟨a, b⟩ | ⟨⟨j, u, a1, a2, a3⟩, b⟩
  · exact .inl ⟨a, fun j u hj hu hv => b j u (no j u hj hu hv) hu hv⟩
  · exact .inr ⟨⟨j, u, by omega, a2, a3⟩, fun j u hj hu hv => b j u (no j u hj hu hv) hu hv⟩

theorem StripZ.in_ {T : List Qd} {C : Nat} {y d none e e2 : Int} {i : Nat} {tk : Nat → Bool} (h : StripZ T C y d none i tk e) {t : Qd} (ht : T[i]? = some t) (ho : OvlZ t y d) (he : e2 = t.b + t.d ∧ (e = none ∨ t.b + t.d ≤ e) ∨ e2 = e ∧ e ≤ t.b + t.d ∧ e ≠ none) (hnone : e = none → ∀ j u, j < i → T[j]? = some u → OvlZ u y d → t.b + t.d ≤ u.b + u.d) :
    StripZ T C y d none (i + 1) (fun x => tk x || decide (t.a ≤ x ∧ (x : Int) < t.a + t.c)) e2 := by
  have il : ∀ j u, j < i + 1 → T[j]? = some u → (j < i ∧ T[j]? = some u) ∨ u = t := fun j u hj hu => by
    by_cases c : j = i
    · subst c; rw [ht] at hu; cases hu; exact .inr rfl
    · exact .inl ⟨by omega, hu⟩
  refine ⟨fun x hx => ?_, .inr ?_⟩
  · simp only [Bool.or_eq_true, decide_eq_true_eq]
    constructor
    · rintro (a | a)
      · obtain ⟨j, u, a1, a2, a3⟩ := (h.tk x hx).1 a
        exact ⟨j, u, by omega, a2, a3⟩
      · exact ⟨i, t, by omega, ht, ho, a⟩
    · rintro ⟨j, u, a1, a2, a3, a4⟩
      rcases il j u a1 a2 with ⟨b1, b2⟩ | rfl
      · exact .inl ((h.tk x hx).2 ⟨j, u, b1, b2, a3, a4⟩)
      · exact .inr a4
  · rcases he with ⟨rfl, h2⟩ | ⟨rfl, h2, h3⟩
    · refine ⟨⟨i, t, by omega, ht, ho, rfl⟩, fun j u hj hu hv => ?_⟩
      rcases il j u hj hu with ⟨b1, b2⟩ | rfl
      · rcases h.e with ⟨a, b⟩ | ⟨_, b⟩
        · exact absurd hv (b j u b1 b2)
        · rcases h2 with h2 | h2
          · exact hnone h2 j u b1 b2 hv
          · have := b j u b1 b2 hv; omega
      · exact Int.le_refl _
    · rcases h.e with ⟨a, b⟩ | ⟨⟨j, u, a1, a2, a3⟩, b⟩
      · exact absurd a h3
      · refine ⟨⟨j, u, by omega, a2, a3⟩, fun j u hj hu hv => ?_⟩
        rcases il j u hj hu with ⟨b1, b2⟩ | rfl
        · exact b j u b1 b2 hv
        · exact h2

theorem StripZ.all {T : List Qd} {C : Nat} {y d none e : Int} {tk : Nat → Bool} (h : StripZ T C y d none T.length tk e) : (∀ x : Nat, x < C → (tk x = true ↔ TkZ T y d x)) ∧ EndZ T y d e none := by
  have mem : ∀ t, t ∈ T → ∃ j, j < T.length ∧ T[j]? = some t := fun t ht => by
    obtain ⟨j, hj, e1⟩ := List.mem_iff_getElem.1 ht
    exact ⟨j, hj, by rw [List.getElem?_eq_getElem hj, e1]⟩
  refine ⟨fun x hx => (h.tk x hx).trans ⟨fun ⟨j, t, a1, a2, a3⟩ => ⟨t, List.mem_of_getElem? a2, a3⟩, fun ⟨t, a1, a3⟩ => ?_⟩, ?_⟩
  · obtain ⟨j, hj, e1⟩ := mem t a1
    exact ⟨j, t, hj, e1, a3⟩
  · rcases h.e with ⟨a, b⟩ | ⟨⟨j, t, a1, a2, a3, a4⟩, b⟩
    · exact .inl ⟨a, fun t ht ho => by obtain ⟨j, hj, e1⟩ := mem t ht; exact b j t hj e1 ho⟩
    · exact .inr ⟨⟨t, List.mem_of_getElem? a2, a3, a4⟩, fun t ht ho => by obtain ⟨j, hj, e1⟩ := mem t ht; exact b j t hj e1 ho⟩

section
variable {C n c v : Nat} {o : Option AAddr} (hs : SlArg o n c 1 v 0 4) {bT : ABlk} (hb : BareB bT) {T : List Qd} (hl : T.length = n) (hel : ElT bT v T) {M : Int} (hT : GoodT C M T) (hC : C ≤ 64) (hM : 0 ≤ M ∧ M ≤ 2 ^ 39) (hn : n ≤ 2 ^ 40)
include hs hb hl hel hT hC hM hn

theorem si_loop {t : Qd} (ht : t ∈ T) (tk : Nat → Bool) (y d e : Int) (i : Nat) : ∀ (f : Nat) (x : Int), t.a ≤ x → x + f = t.a + t.c →
    Loops Try.prog 2 76 (loopAt Try.prog 54 1) [(0, .ptr (some ⟨0, 0, 0, 0, 2⟩)), (1, .int .i64 y), (2, .int .i64 d), (6, .slice (some ⟨8, 0, 0, 0, 1⟩) C C), (7, .int .i64 e), (9, .ptr (some ⟨19, 0, 0, 0, 4⟩)), (11, .int .i64 x), (20, .slice o n c), (21, .int .i64 n), (22, .int .i64 i)]
      (AHeap.rows 60 [(0, brdRow C o n c), (1, bT), (8, .made (bools C fun j => tk j || decide (t.a ≤ j ∧ (j : Int) < x)) 1 true), (19, .made [t.val] 4 true)]) (.exit 2)
      [(0, .ptr (some ⟨0, 0, 0, 0, 2⟩)), (1, .int .i64 y), (2, .int .i64 d), (6, .slice (some ⟨8, 0, 0, 0, 1⟩) C C), (7, .int .i64 e), (20, .slice o n c), (21, .int .i64 n), (22, .int .i64 i)] (AHeap.rows 80 [(0, brdRow C o n c), (1, bT), (8, .made (bools C fun j => tk j || decide (t.a ≤ j ∧ (j : Int) < t.a + t.c)) 1 true)])
  | 0, x, h0, e0 => by
    have g := hT t ht
    obtain rfl : x = t.a + t.c := by omega
    have d0 : Clo (Ids [0, 1, 8]) (.slice o n c) := hs.clo (by simp [Ids])
    refine (Loops.last (by simp) (si_end o n c v i C bT _ [] y d e 0 (t.a + t.c) t.a t.b t.c t.d false (by omega) (by split <;> omega))).post ?_
    exact Ent.drop (by kernel_rfl) (by kernel_rfl) (by kernel_rfl) (by kernel_rfl) (by simp [All_cons, All_nil, Clo, d0]; simp [Ids]) (by
      simp only [List.map, All_cons, All_nil, and_true]
      exact ⟨brd_cloI d0, hb.clo _, (bools_bare _ _).clo _⟩)
  | f + 1, x, h0, e0 => by
    have g := hT t ht
    have d0 : Clo (Ids [0, 1, 8, 19]) (.slice o n c) := hs.clo (by simp [Ids])
    have st := si_step o n c v i C bT (bools C fun j => tk j || decide (t.a ≤ j ∧ (j : Int) < x)) [] y d e 0 x t.a t.b t.c t.d (tk x.toNat || decide (t.a ≤ x.toNat ∧ (x.toNat : Int) < x)) (by omega) (by split <;> omega) ⟨by omega, by omega, rfl⟩ ⟨rfl, by rw [Nat.zero_add, bools_get (by omega)]⟩ (by omega)
    rw [Nat.zero_add, bools_set, show (bools C fun j => if j = x.toNat then true else (tk j || decide (t.a ≤ j ∧ (j : Int) < x))) = (bools C fun j => tk j || decide (t.a ≤ j ∧ (j : Int) < x + 1)) from bools_congr fun j hj => by
      by_cases c1 : j = x.toNat
      · rw [if_pos c1, decide_eq_true (show t.a ≤ (j : Int) ∧ (j : Int) < x + 1 by omega), Bool.or_true]
      · rw [if_neg c1]
        congr 1
        rw [decide_eq_decide]
        omega] at st
    refine Loops.step (st.post ?_) (si_loop ht tk y d e i f (x + 1) (by omega) (by omega))
    exact Ent.drop (by kernel_rfl) (by kernel_rfl) (by kernel_rfl) (by kernel_rfl) (by simp [All_cons, All_nil, Clo, d0]; simp [Ids]) (by
      simp only [List.map, All_cons, All_nil, and_true]
      exact ⟨brd_cloI d0, hb.clo _, (bools_bare _ _).clo _, qd_cloI _ _⟩)

theorem st_loop {y d : Int} (hy : -2 ^ 40 ≤ y ∧ y ≤ 2 ^ 40) (hd : -2 ^ 40 ≤ d ∧ d ≤ 2 ^ 40) : ∀ (f i : Nat) (tk : Nat → Bool) (e : Int), i + f = n → StripZ T C y d 0 i tk e →
    ∃ tk2 e2, StripZ T C y d 0 n tk2 e2 ∧ Loops Try.prog 2 76 (loopAt Try.prog 54 0) [(0, .ptr (some ⟨0, 0, 0, 0, 2⟩)), (1, .int .i64 y), (2, .int .i64 d), (6, .slice (some ⟨8, 0, 0, 0, 1⟩) C C), (7, .int .i64 e), (20, .slice o n c), (21, .int .i64 n), (22, .int .i64 i)]
      (AHeap.rows 16 [(0, brdRow C o n c), (1, bT), (8, .made (bools C tk) 1 true)]) (.exit 0) [(6, .slice (some ⟨8, 0, 0, 0, 1⟩) C C), (7, .int .i64 e2)] (AHeap.rows 17 [(0, brdRow C o n c), (1, bT), (8, .made (bools C tk2) 1 true)])
  | 0, i, tk, e, hi, hz => by
    obtain rfl : i = n := by omega
    exact ⟨tk, e, hz, Loops.last (by simp) (st_end o i c v i C bT _ [] y d e 0 0 0 0 0 0 false (by omega))⟩
  | f + 1, i, tk, e, hi, hz => by
    have hin : i < n := by omega
    obtain ⟨t, ht⟩ : ∃ t, T[i]? = some t := ⟨T[i], List.getElem?_eq_getElem (by omega)⟩
    have htm : t ∈ T := List.mem_of_getElem? ht
    have g := hT t htm
    have st := hT.small (by omega) hM.2 t htm
    have d0 : Clo (Ids [0, 1, 8]) (.slice o n c) := hs.clo (by simp [Ids])
    have d1 : Clo (Ids [0, 1, 8, 19]) (.slice o n c) := hs.clo (by simp [Ids])
    have c1 : (i : Int) < n := by omega
    have c2 := ix_spS (k := .i64) hs hin
    have c3 := hel i t ht
    have f1 := fit_add hy hd
    have f2 := fit_add st.2.1 st.2.2.2
    have f5 : -9223372036854775808 ≤ (i : Int) + 1 ∧ (i : Int) + (1 : Int) ≤ 9223372036854775807 := by omega
    have dr : ∀ (K : Nat) (l : List (Nat × ABlk)) (e3 : Int) (tk3 : Nat → Bool), [(AHeap.rows K l).get 0, (AHeap.rows K l).get 1, (AHeap.rows K l).get 8] = [some (brdRow C o n c), some bT, some (.made (bools C tk3) 1 true)] →
        Ent 2 76 [(0, .ptr (some ⟨0, 0, 0, 0, 2⟩)), (1, .int .i64 y), (2, .int .i64 d), (6, .slice (some ⟨8, 0, 0, 0, 1⟩) C C), (7, .int .i64 e3), (20, .slice o n c), (21, .int .i64 n), (22, .int .i64 (i + 1 : Nat))] (AHeap.rows K l)
          [(0, .ptr (some ⟨0, 0, 0, 0, 2⟩)), (1, .int .i64 y), (2, .int .i64 d), (6, .slice (some ⟨8, 0, 0, 0, 1⟩) C C), (7, .int .i64 e3), (20, .slice o n c), (21, .int .i64 n), (22, .int .i64 (i + 1 : Nat))] (AHeap.rows 16 [(0, brdRow C o n c), (1, bT), (8, .made (bools C tk3) 1 true)]) := fun K l e3 tk3 hh =>
      Ent.drop hh (by kernel_rfl) (by kernel_rfl) (by kernel_rfl) (by simp [All_cons, All_nil, Clo, d0]; simp [Ids]) (by
        simp only [List.map, All_cons, All_nil, and_true]
        exact ⟨brd_cloI d0, hb.clo _, (bools_bare _ _).clo _⟩)
    by_cases o1 : t.b ≥ y + d
    · obtain ⟨tk2, e2, a1, l⟩ := st_loop hy hd f (i + 1) tk e (by omega) (hz.out ht (fun h => by have := h.1; omega))
      exact ⟨tk2, e2, a1, Loops.step ((st_o1 o n c v i C bT _ [] y d e 0 0 t.a t.b t.c t.d false c1 c2 c3 f1 o1 f5).post (dr _ _ e tk (by kernel_rfl))) l⟩
    · by_cases o2 : y ≥ t.b + t.d
      · obtain ⟨tk2, e2, a1, l⟩ := st_loop hy hd f (i + 1) tk e (by omega) (hz.out ht (fun h => by have := h.2; omega))
        exact ⟨tk2, e2, a1, Loops.step ((st_o2 o n c v i C bT _ [] y d e 0 0 t.a t.b t.c t.d false c1 c2 c3 f1 o1 f2 o2 f5).post (dr _ _ e tk (by kernel_rfl))) l⟩
      · have ov : OvlZ t y d := ⟨by omega, by omega⟩
        have inn : ∀ (K : Nat) (e3 : Int), Runs Try.prog 2 76 (Code.loop (loopAt Try.prog 54 1)) [(0, .ptr (some ⟨0, 0, 0, 0, 2⟩)), (1, .int .i64 y), (2, .int .i64 d), (6, .slice (some ⟨8, 0, 0, 0, 1⟩) C C), (7, .int .i64 e3), (9, .ptr (some ⟨19, 0, 0, 0, 4⟩)), (11, .int .i64 t.a), (20, .slice o n c), (21, .int .i64 n), (22, .int .i64 i)]
            (AHeap.rows K [(0, brdRow C o n c), (1, bT), (8, .made (bools C tk) 1 true), (19, .made [t.val] 4 true)]) (.exit 2)
            [(0, .ptr (some ⟨0, 0, 0, 0, 2⟩)), (1, .int .i64 y), (2, .int .i64 d), (6, .slice (some ⟨8, 0, 0, 0, 1⟩) C C), (7, .int .i64 e3), (20, .slice o n c), (21, .int .i64 n), (22, .int .i64 i)] (AHeap.rows 80 [(0, brdRow C o n c), (1, bT), (8, .made (bools C fun j => tk j || decide (t.a ≤ j ∧ (j : Int) < t.a + t.c)) 1 true)]) := fun K e3 => by
          have l := si_loop hs hb hl hel hT hC hM hn htm tk y d e3 i t.c.toNat t.a (Int.le_refl _) (by omega)
          rw [show (bools C fun j => tk j || decide (t.a ≤ j ∧ (j : Int) < t.a)) = bools C tk from bools_congr fun j _ => by rw [decide_eq_false (by omega), Bool.or_false]] at l
          refine Runs.of_loops (Tri.pre l ?_)
          exact Ent.drop (by kernel_rfl) (by kernel_rfl) (by kernel_rfl) (by kernel_rfl) (by simp [All_cons, All_nil, Clo, d1]; simp [Ids]) (by
            simp only [List.map, All_cons, All_nil, and_true]
            exact ⟨brd_cloI d1, hb.clo _, (bools_bare _ _).clo _, qd_cloI _ _⟩)
        have en : e = 0 → ∀ j u, j < i → T[j]? = some u → OvlZ u y d → t.b + t.d ≤ u.b + u.d := fun h0 j u hj hu hv => by
          rcases hz.e with ⟨_, b⟩ | ⟨⟨j2, u2, b1, b2, b3, b4⟩, _⟩
          · exact absurd hv (b j u hj hu)
          · have := hT u2 (List.mem_of_getElem? b2); omega
        by_cases e0 : e = 0
        · obtain ⟨tk2, e2, a1, l⟩ := st_loop hy hd f (i + 1) _ (t.b + t.d) (by omega) (hz.in_ ht ov (.inl ⟨rfl, .inl e0⟩) en)
          exact ⟨tk2, e2, a1, Loops.step ((st_in1 o n c v i C bT _ _ y d e (t.b + t.d) 0 t.a t.b t.c t.d false c1 c2 c3 f1 o1 f2 o2 f2 e0 (inn _ _) f5).post (dr _ _ _ _ (by kernel_rfl))) l⟩
        · by_cases e1 : t.b + t.d < e
          · obtain ⟨tk2, e2, a1, l⟩ := st_loop hy hd f (i + 1) _ (t.b + t.d) (by omega) (hz.in_ ht ov (.inl ⟨rfl, .inr (by omega)⟩) en)
            exact ⟨tk2, e2, a1, Loops.step ((st_in2 o n c v i C bT _ _ y d e (t.b + t.d) 0 t.a t.b t.c t.d false c1 c2 c3 f1 o1 f2 o2 f2 e0 e1 (inn _ _) f5).post (dr _ _ _ _ (by kernel_rfl))) l⟩
          · obtain ⟨tk2, e2, a1, l⟩ := st_loop hy hd f (i + 1) _ e (by omega) (hz.in_ ht ov (.inr ⟨rfl, by omega, e0⟩) en)
            exact ⟨tk2, e2, a1, Loops.step ((st_in3 o n c v i C bT _ _ y d e e 0 t.a t.b t.c t.d false c1 c2 c3 f1 o1 f2 o2 f2 e0 e1 (inn _ _) f5).post (dr _ _ _ _ (by kernel_rfl))) l⟩
end

/-- grid.board.strip -/
theorem strip_does {H : AHeap} {ib iT C : Nat} {o : Option AAddr} {n c v : Nat} {bT : ABlk} {T : List Qd} (h : BoardAt H ib iT C o n c v bT T) {M : Int} (hT : GoodT C M T) (hC : C ≤ 64) (hM : 0 ≤ M ∧ M ≤ 2 ^ 39) (hn : n ≤ 2 ^ 40) {y d : Int} (hy : -2 ^ 40 ≤ y ∧ y ≤ 2 ^ 40) (hd : -2 ^ 40 ≤ d ∧ d ≤ 2 ^ 40) :
    ∃ tk e, (∀ x : Nat, x < C → (tk x = true ↔ TkZ T y d x)) ∧ EndZ T y d e 0 ∧ FDoes Try.prog 54 [.ptr (some ⟨ib, 0, 0, 0, 2⟩), .int .i64 y, .int .i64 d] H (.tuple [.slice (some ⟨H.next, 0, 0, 0, 1⟩) C C, .int .i64 e]) (H.upd [] [.made (bools C tk) 1 true]) := by
  have s1 := h.sl.at 1
  obtain ⟨tk, e, a1, l⟩ := st_loop s1 h.bare h.len h.el hT hC hM hn hy hd n 0 (fun _ => false) 0 (by omega) (StripZ.zero T C y d 0)
  rw [← bools_zero] at l
  rw [← h.len] at a1
  obtain ⟨b1, b2⟩ := a1.all
  refine ⟨tk, e, b1, b2, ?_⟩
  have k := (st_call _ n c v 0 C bT _ [] y d e 0 0 0 0 0 0 false ⟨by omega, by omega, by omega, by omega⟩ (Runs.of_loops l)).newC (l := [brdRow C (o.map fun a => { a with id := 1 }) n c, bT]) (bn := .made (bools C tk) 1 true) (j := 8) (v2 := .tuple [.slice (some ⟨2, 0, 0, 0, 1⟩) C C, .int .i64 e])
    (by simp; exact ⟨brd_clo s1, bare_clo2 h.bare⟩) (bools_bare _ _) (by kernel_rfl) (by kernel_rfl) (by simp) (by simp [AVal.ren, AVal.rens, AAddr.ren, finR]) (by simp [Clo, Clos]) (by simp [Clo, Clos]) (H := H) [ib, iT] (by simp [h.ne]) (by simp [h.lb, h.lT]) (by
    have e1 : (brdRow C (o.map fun a => { a with id := 1 }) n c).ren (toBig [ib, iT] H.next) = brdRow C o n c := by
      rcases h.sl with rfl | ⟨rfl, rfl, rfl⟩ <;> simp [brdRow, ABlk.ren, ABlk.made, AVal.ren, AVal.rens, AAddr.ren, toBig]
    simp [h.gb, h.gT, e1, h.bare.ren])
  simpa [AVal.ren, AVal.rens, AAddr.ren, toBig] using k

end Go.Proofs.Ytcgcpmcjaeenlaa

namespace Go.Proofs.Ytcgcpmcjaeenlaa
open Go.Lift
set_option maxRecDepth 1000000
set_option linter.unusedSimpArgs false
set_option linter.unusedVariables false
set_option linter.unusedSectionVars false

theorem pr_out (o : Option AAddr) (n c v i C : Nat) (bT : ABlk) (l l2 : List AVal) (y d e e2 x ta tb tc td : Int) (old : Bool) (hc_0 : (i : Int) < (n : Int)) (hc_1 : aindexAddr env.D 22 (.slice o n c) (.int .i64 (i : Int)) = some (.ptr (some ⟨1, v, 0 + i, 0, 4⟩))) (hc_2 : ABlk.elem? bT v (0 + i) = some (.agg [.int .i64 ta, .int .i64 tb, .int .i64 tc, .int .i64 td])) (hc_3 : FDoes Try.prog 50 [.agg [.int .i64 ta, .int .i64 tb, .int .i64 tc, .int .i64 td], .agg [.int .i64 0, .int .i64 y, .int .i64 (C : Int), .int .i64 d]] (AHeap.rows 39 [(0, (.made ([.agg [.slice o n c]]) 1 true)), (1, bT), (5, .made l 1 true), (30, (.made ([.agg [.int .i64 ta, .int .i64 tb, .int .i64 tc, .int .i64 td]]) 4 true))]) (AVal.bool false) (AHeap.rows 39 [(0, (.made ([.agg [.slice o n c]]) 1 true)), (1, bT), (5, .made l 1 true), (30, (.made ([.agg [.int .i64 ta, .int .i64 tb, .int .i64 tc, .int .i64 td]]) 4 true))])) (hc_4 : -9223372036854775808 ≤ (i : Int) + 1 ∧ (i : Int) + (1 : Int) ≤ 9223372036854775807) :
    Runs Try.prog 2 80 (loopAt Try.prog 51 0) [(0, .ptr (some ⟨0, 0, 0, 0, 1⟩)), (1, .int .i64 y), (2, .int .i64 d), (3, .int .i64 C), (10, .slice (some ⟨5, 0, 0, 0, 1⟩) C C), (11, .int .i64 e), (12, .int .i64 i)] (AHeap.rows 16 [(0, .made [.agg [.slice o n c]] 1 true), (1, bT), (5, .made l 1 true)]) .normal [(0, .ptr (some ⟨0, 0, 0, 0, 1⟩)), (1, .int .i64 y), (2, .int .i64 d), (3, .int .i64 (C : Int)), (10, .slice (some ⟨5, 0, 0, 0, 1⟩) C C), (11, .int .i64 e), (12, .int .i64 ((i : Int) + 1))] (AHeap.rows 44 [(0, (.made ([.agg [.slice o n c]]) 1 true)), (1, bT), (5, .made l 1 true), (30, (.made ([.agg [.int .i64 ta, .int .i64 tb, .int .i64 tc, .int .i64 td]]) 4 true))]) :=
  ppath_runs env_ok mixed (hs := [.val 4006 (.bool true), .val 6005 (.ptr (some ⟨1, v, 0 + i, 0, 4⟩)), .ld 6006 (.agg [.int .i64 ta, .int .i64 tb, .int .i64 tc, .int .i64 td]), .val 7005 (.bool false), .go 5001]) (keep := [0, 1, 2, 3, 10, 11, 12]) (by kernel_rfl) (All.cons (okT hc_0) (All.cons hc_1 (All.cons hc_2 (All.cons (CallT.mk hc_3) (All.cons hc_4 (All.nil))))))

theorem pr_in1 (o : Option AAddr) (n c v i C : Nat) (bT : ABlk) (l l2 : List AVal) (y d e e2 x ta tb tc td : Int) (old : Bool) (hc_0 : (i : Int) < (n : Int)) (hc_1 : aindexAddr env.D 22 (.slice o n c) (.int .i64 (i : Int)) = some (.ptr (some ⟨1, v, 0 + i, 0, 4⟩))) (hc_2 : ABlk.elem? bT v (0 + i) = some (.agg [.int .i64 ta, .int .i64 tb, .int .i64 tc, .int .i64 td])) (hc_3 : FDoes Try.prog 50 [.agg [.int .i64 ta, .int .i64 tb, .int .i64 tc, .int .i64 td], .agg [.int .i64 0, .int .i64 y, .int .i64 (C : Int), .int .i64 d]] (AHeap.rows 39 [(0, (.made ([.agg [.slice o n c]]) 1 true)), (1, bT), (5, .made l 1 true), (30, (.made ([.agg [.int .i64 ta, .int .i64 tb, .int .i64 tc, .int .i64 td]]) 4 true))]) (AVal.bool true) (AHeap.rows 39 [(0, (.made ([.agg [.slice o n c]]) 1 true)), (1, bT), (5, .made l 1 true), (30, (.made ([.agg [.int .i64 ta, .int .i64 tb, .int .i64 tc, .int .i64 td]]) 4 true))])) (hc_4 : -9223372036854775808 ≤ tb + td ∧ tb + td ≤ 9223372036854775807) (hc_5 : tb + td < e) (hc_6 : -9223372036854775808 ≤ tb + td ∧ tb + td ≤ 9223372036854775807) (hc_7 : Runs Try.prog 2 80 (.loop (loopAt Try.prog 51 1)) [(0, .ptr (some ⟨0, 0, 0, 0, 1⟩)), (1, .int .i64 y), (2, .int .i64 d), (3, .int .i64 (C : Int)), (10, .slice (some ⟨5, 0, 0, 0, 1⟩) C C), (11, .int .i64 (tb + td)), (12, .int .i64 (i : Int)), (13, .ptr (some ⟨30, 0, 0, 0, 4⟩)), (15, .int .i64 ta)] (AHeap.rows 57 [(0, (.made ([.agg [.slice o n c]]) 1 true)), (1, bT), (5, .made l 1 true), (30, (.made ([.agg [.int .i64 ta, .int .i64 tb, .int .i64 tc, .int .i64 td]]) 4 true))]) (.exit 2) [(0, .ptr (some ⟨0, 0, 0, 0, 1⟩)), (1, .int .i64 y), (2, .int .i64 d), (3, .int .i64 (C : Int)), (10, .slice (some ⟨5, 0, 0, 0, 1⟩) C C), (11, .int .i64 e2), (12, .int .i64 (i : Int))] (AHeap.rows 80 [(0, (.made ([.agg [.slice o n c]]) 1 true)), (1, bT), (5, .made l2 1 true)])) (hc_8 : -9223372036854775808 ≤ (i : Int) + 1 ∧ (i : Int) + (1 : Int) ≤ 9223372036854775807) :
    Runs Try.prog 2 80 (loopAt Try.prog 51 0) [(0, .ptr (some ⟨0, 0, 0, 0, 1⟩)), (1, .int .i64 y), (2, .int .i64 d), (3, .int .i64 C), (10, .slice (some ⟨5, 0, 0, 0, 1⟩) C C), (11, .int .i64 e), (12, .int .i64 i)] (AHeap.rows 16 [(0, .made [.agg [.slice o n c]] 1 true), (1, bT), (5, .made l 1 true)]) .normal [(0, .ptr (some ⟨0, 0, 0, 0, 1⟩)), (1, .int .i64 y), (2, .int .i64 d), (3, .int .i64 (C : Int)), (10, .slice (some ⟨5, 0, 0, 0, 1⟩) C C), (11, .int .i64 e2), (12, .int .i64 ((i : Int) + 1))] (AHeap.rows 83 [(0, (.made ([.agg [.slice o n c]]) 1 true)), (1, bT), (5, .made l2 1 true)]) :=
  ppath_runs env_ok mixed (hs := [.val 4006 (.bool true), .val 6005 (.ptr (some ⟨1, v, 0 + i, 0, 4⟩)), .ld 6006 (.agg [.int .i64 ta, .int .i64 tb, .int .i64 tc, .int .i64 td]), .val 7005 (.bool true), .go 9004, .val 9006 (.bool true), .go 10004, .keep [0, 1, 2, 3, 10, 11, 12, 13, 15], .loop [(0, .ptr (some ⟨0, 0, 0, 0, 1⟩)), (1, .int .i64 y), (2, .int .i64 d), (3, .int .i64 C), (10, .slice (some ⟨5, 0, 0, 0, 1⟩) C C), (11, .int .i64 e2), (12, .int .i64 i)] (AHeap.rows 80 [(0, .made [.agg [.slice o n c]] 1 true), (1, bT), (5, .made l2 1 true)]) (.exit 2), .go 5001]) (keep := [0, 1, 2, 3, 10, 11, 12]) (by kernel_rfl) (All.cons (okT hc_0) (All.cons hc_1 (All.cons hc_2 (All.cons (CallT.mk hc_3) (All.cons hc_4 (All.cons (okT hc_5) (All.cons hc_6 (All.cons hc_7 (All.cons hc_8 (All.nil))))))))))

theorem pr_in2 (o : Option AAddr) (n c v i C : Nat) (bT : ABlk) (l l2 : List AVal) (y d e e2 x ta tb tc td : Int) (old : Bool) (hc_0 : (i : Int) < (n : Int)) (hc_1 : aindexAddr env.D 22 (.slice o n c) (.int .i64 (i : Int)) = some (.ptr (some ⟨1, v, 0 + i, 0, 4⟩))) (hc_2 : ABlk.elem? bT v (0 + i) = some (.agg [.int .i64 ta, .int .i64 tb, .int .i64 tc, .int .i64 td])) (hc_3 : FDoes Try.prog 50 [.agg [.int .i64 ta, .int .i64 tb, .int .i64 tc, .int .i64 td], .agg [.int .i64 0, .int .i64 y, .int .i64 (C : Int), .int .i64 d]] (AHeap.rows 39 [(0, (.made ([.agg [.slice o n c]]) 1 true)), (1, bT), (5, .made l 1 true), (30, (.made ([.agg [.int .i64 ta, .int .i64 tb, .int .i64 tc, .int .i64 td]]) 4 true))]) (AVal.bool true) (AHeap.rows 39 [(0, (.made ([.agg [.slice o n c]]) 1 true)), (1, bT), (5, .made l 1 true), (30, (.made ([.agg [.int .i64 ta, .int .i64 tb, .int .i64 tc, .int .i64 td]]) 4 true))])) (hc_4 : -9223372036854775808 ≤ tb + td ∧ tb + td ≤ 9223372036854775807) (hc_5 : ¬ (tb + td < e)) (hc_6 : Runs Try.prog 2 80 (.loop (loopAt Try.prog 51 1)) [(0, .ptr (some ⟨0, 0, 0, 0, 1⟩)), (1, .int .i64 y), (2, .int .i64 d), (3, .int .i64 (C : Int)), (10, .slice (some ⟨5, 0, 0, 0, 1⟩) C C), (11, .int .i64 e), (12, .int .i64 (i : Int)), (13, .ptr (some ⟨30, 0, 0, 0, 4⟩)), (15, .int .i64 ta)] (AHeap.rows 51 [(0, (.made ([.agg [.slice o n c]]) 1 true)), (1, bT), (5, .made l 1 true), (30, (.made ([.agg [.int .i64 ta, .int .i64 tb, .int .i64 tc, .int .i64 td]]) 4 true))]) (.exit 2) [(0, .ptr (some ⟨0, 0, 0, 0, 1⟩)), (1, .int .i64 y), (2, .int .i64 d), (3, .int .i64 (C : Int)), (10, .slice (some ⟨5, 0, 0, 0, 1⟩) C C), (11, .int .i64 e2), (12, .int .i64 (i : Int))] (AHeap.rows 80 [(0, (.made ([.agg [.slice o n c]]) 1 true)), (1, bT), (5, .made l2 1 true)])) (hc_7 : -9223372036854775808 ≤ (i : Int) + 1 ∧ (i : Int) + (1 : Int) ≤ 9223372036854775807) :
    Runs Try.prog 2 80 (loopAt Try.prog 51 0) [(0, .ptr (some ⟨0, 0, 0, 0, 1⟩)), (1, .int .i64 y), (2, .int .i64 d), (3, .int .i64 C), (10, .slice (some ⟨5, 0, 0, 0, 1⟩) C C), (11, .int .i64 e), (12, .int .i64 i)] (AHeap.rows 16 [(0, .made [.agg [.slice o n c]] 1 true), (1, bT), (5, .made l 1 true)]) .normal [(0, .ptr (some ⟨0, 0, 0, 0, 1⟩)), (1, .int .i64 y), (2, .int .i64 d), (3, .int .i64 (C : Int)), (10, .slice (some ⟨5, 0, 0, 0, 1⟩) C C), (11, .int .i64 e2), (12, .int .i64 ((i : Int) + 1))] (AHeap.rows 83 [(0, (.made ([.agg [.slice o n c]]) 1 true)), (1, bT), (5, .made l2 1 true)]) :=
  ppath_runs env_ok mixed (hs := [.val 4006 (.bool true), .val 6005 (.ptr (some ⟨1, v, 0 + i, 0, 4⟩)), .ld 6006 (.agg [.int .i64 ta, .int .i64 tb, .int .i64 tc, .int .i64 td]), .val 7005 (.bool true), .go 9004, .val 9006 (.bool false), .keep [0, 1, 2, 3, 10, 11, 12, 13, 15], .loop [(0, .ptr (some ⟨0, 0, 0, 0, 1⟩)), (1, .int .i64 y), (2, .int .i64 d), (3, .int .i64 C), (10, .slice (some ⟨5, 0, 0, 0, 1⟩) C C), (11, .int .i64 e2), (12, .int .i64 i)] (AHeap.rows 80 [(0, .made [.agg [.slice o n c]] 1 true), (1, bT), (5, .made l2 1 true)]) (.exit 2), .go 5001]) (keep := [0, 1, 2, 3, 10, 11, 12]) (by kernel_rfl) (All.cons (okT hc_0) (All.cons hc_1 (All.cons hc_2 (All.cons (CallT.mk hc_3) (All.cons hc_4 (All.cons (okF hc_5) (All.cons hc_6 (All.cons hc_7 (All.nil)))))))))

theorem pr_end (o : Option AAddr) (n c v i C : Nat) (bT : ABlk) (l l2 : List AVal) (y d e e2 x ta tb tc td : Int) (old : Bool) (hc_0 : ¬ ((i : Int) < (n : Int))) :
    Runs Try.prog 2 80 (loopAt Try.prog 51 0) [(0, .ptr (some ⟨0, 0, 0, 0, 1⟩)), (1, .int .i64 y), (2, .int .i64 d), (3, .int .i64 C), (10, .slice (some ⟨5, 0, 0, 0, 1⟩) C C), (11, .int .i64 e), (12, .int .i64 i)] (AHeap.rows 16 [(0, .made [.agg [.slice o n c]] 1 true), (1, bT), (5, .made l 1 true)]) (.exit 0) [(10, .slice (some ⟨5, 0, 0, 0, 1⟩) C C), (11, .int .i64 e)] (AHeap.rows 23 [(0, (.made ([.agg [.slice o n c]]) 1 true)), (1, bT), (5, .made l 1 true)]) :=
  ppath_runs env_ok mixed (hs := [.val 4006 (.bool false)]) (keep := [10, 11]) (by kernel_rfl) (All.cons (okF hc_0) (All.nil))

theorem pi_step (o : Option AAddr) (n c v i C : Nat) (bT : ABlk) (l l2 : List AVal) (y d e e2 x ta tb tc td : Int) (old : Bool) (hc_0 : -9223372036854775808 ≤ ta + tc ∧ ta + tc ≤ 9223372036854775807) (hc_1 : x < ta + tc) (hc_2 : x < (C : Int)) (hc_3 : 0 ≤ x ∧ x < (C : Int) ∧ 1 = 1) (hc_4 : 0 = 0 ∧ l[0 + Int.toNat x]? = some (AVal.bool old)) (hc_5 : -9223372036854775808 ≤ x + 1 ∧ x + (1 : Int) ≤ 9223372036854775807) :
    Runs Try.prog 2 80 (loopAt Try.prog 51 1) [(0, .ptr (some ⟨0, 0, 0, 0, 1⟩)), (1, .int .i64 y), (2, .int .i64 d), (3, .int .i64 C), (10, .slice (some ⟨5, 0, 0, 0, 1⟩) C C), (11, .int .i64 e), (12, .int .i64 i), (13, .ptr (some ⟨30, 0, 0, 0, 4⟩)), (15, .int .i64 x)] (AHeap.rows 60 [(0, .made [.agg [.slice o n c]] 1 true), (1, bT), (5, .made l 1 true), (30, .made [.agg [.int .i64 ta, .int .i64 tb, .int .i64 tc, .int .i64 td]] 4 true)]) .normal [(0, .ptr (some ⟨0, 0, 0, 0, 1⟩)), (1, .int .i64 y), (2, .int .i64 d), (3, .int .i64 (C : Int)), (10, .slice (some ⟨5, 0, 0, 0, 1⟩) C C), (11, .int .i64 e), (12, .int .i64 (i : Int)), (13, .ptr (some ⟨30, 0, 0, 0, 4⟩)), (15, .int .i64 (x + 1))] (AHeap.rows 79 [(0, (.made ([.agg [.slice o n c]]) 1 true)), (1, bT), (5, (.made (List.set l (0 + Int.toNat x) (AVal.bool true)) 1 true)), (30, (.made ([.agg [.int .i64 ta, .int .i64 tb, .int .i64 tc, .int .i64 td]]) 4 true))]) :=
  ppath_runs env_ok mixed (hs := [.go 12005, .val 12006 (.bool true), .val 12010 (.bool true), .go 14002, .st 14003 (.bool old), .go 13001]) (keep := [0, 1, 2, 3, 10, 11, 12, 13, 15]) (by kernel_rfl) (All.cons hc_0 (All.cons (okT hc_1) (All.cons (okT hc_2) (All.cons hc_3 (All.cons hc_4 (All.cons hc_5 (All.nil)))))))

theorem pi_end (o : Option AAddr) (n c v i C : Nat) (bT : ABlk) (l l2 : List AVal) (y d e e2 x ta tb tc td : Int) (old : Bool) (hc_0 : -9223372036854775808 ≤ ta + tc ∧ ta + tc ≤ 9223372036854775807) (hc_1 : ¬ (x < ta + tc)) :
    Runs Try.prog 2 80 (loopAt Try.prog 51 1) [(0, .ptr (some ⟨0, 0, 0, 0, 1⟩)), (1, .int .i64 y), (2, .int .i64 d), (3, .int .i64 C), (10, .slice (some ⟨5, 0, 0, 0, 1⟩) C C), (11, .int .i64 e), (12, .int .i64 i), (13, .ptr (some ⟨30, 0, 0, 0, 4⟩)), (15, .int .i64 x)] (AHeap.rows 60 [(0, .made [.agg [.slice o n c]] 1 true), (1, bT), (5, .made l 1 true), (30, .made [.agg [.int .i64 ta, .int .i64 tb, .int .i64 tc, .int .i64 td]] 4 true)]) (.exit 2) [(0, .ptr (some ⟨0, 0, 0, 0, 1⟩)), (1, .int .i64 y), (2, .int .i64 d), (3, .int .i64 (C : Int)), (10, .slice (some ⟨5, 0, 0, 0, 1⟩) C C), (11, .int .i64 e), (12, .int .i64 (i : Int))] (AHeap.rows 72 [(0, (.made ([.agg [.slice o n c]]) 1 true)), (1, bT), (5, .made l 1 true), (30, (.made ([.agg [.int .i64 ta, .int .i64 tb, .int .i64 tc, .int .i64 td]]) 4 true))]) :=
  ppath_runs env_ok mixed (hs := [.go 12005, .val 12006 (.bool false)]) (keep := [0, 1, 2, 3, 10, 11, 12]) (by kernel_rfl) (All.cons hc_0 (All.cons (okF hc_1) (All.nil)))

theorem pr_call (o : Option AAddr) (n c v i C : Nat) (bT : ABlk) (l l2 : List AVal) (y d e e2 x ta tb tc td : Int) (old : Bool) (hc_0 : 0 ≤ (C : Int) ∧ (C : Int) ≤ (C : Int) ∧ (C : Int) < 4611686018427387904 ∧ (1 : Int) * (C : Int) ≤ 281474976710656) (hc_1 : -9223372036854775808 ≤ y + d ∧ y + d ≤ 9223372036854775807) (hc_2 : -9223372036854775808 ≤ y + d + 4096 ∧ y + d + (4096 : Int) ≤ 9223372036854775807) (hc_3 : -9223372036854775808 ≤ y + d + 4096 + 4096 ∧ y + d + 4096 + (4096 : Int) ≤ 9223372036854775807) (hc_4 : Runs Try.prog 2 80 (.loop (loopAt Try.prog 51 0)) [(0, .ptr (some ⟨0, 0, 0, 0, 1⟩)), (1, .int .i64 y), (2, .int .i64 d), (3, .int .i64 (C : Int)), (10, .slice (some ⟨5, 0, 0, 0, 1⟩) C C), (11, .int .i64 (y + d + 4096 + 4096)), (12, .int .i64 0)] (AHeap.rows 14 [(0, .made [.agg [.slice o n c]] 1 true), (1, bT), (5, .made (List.replicate C (AVal.bool false)) 1 true)]) (.exit 0) [(10, .slice (some ⟨5, 0, 0, 0, 1⟩) C C), (11, .int .i64 e)] (AHeap.rows 17 [(0, (.made ([.agg [.slice o n c]]) 1 true)), (1, bT), (5, .made l 1 true)])) :
    FDoes Try.prog 51 [.ptr (some ⟨0, 0, 0, 0, 1⟩), .int .i64 y, .int .i64 d, .int .i64 C] (AHeap.of [.made [.agg [.slice o n c]] 1 true, bT]) (.tuple [.slice (some ⟨5, 0, 0, 0, 1⟩) C C, .int .i64 e]) (AHeap.rows 21 [(0, (.made ([.agg [.slice o n c]]) 1 true)), (1, bT), (5, .made l 1 true)]) :=
  pcall_does env_ok mixed (hs := [.go 1001, .go 2002, .go 2003, .go 2004, .keep [0, 1, 2, 3, 10, 11, 12], .loop [(10, .slice (some ⟨5, 0, 0, 0, 1⟩) C C), (11, .int .i64 e)] (AHeap.rows 17 [(0, .made [.agg [.slice o n c]] 1 true), (1, bT), (5, .made l 1 true)]) (.exit 0)]) (rs := []) (by kernel_rfl) (All.cons hc_0 (All.cons hc_1 (All.cons hc_2 (All.cons hc_3 (All.cons hc_4 (All.nil))))))

theorem cl_next (n : Nat) (l : List AVal) (x y z : Int) (hc_0 : -9223372036854775808 ≤ x + z ∧ x + z ≤ 9223372036854775807) (hc_1 : y < x + z) (hc_2 : 0 ≤ y ∧ y < (n : Int) ∧ 1 = 1) (hc_3 : ABlk.elem? (.made l 1 true) 0 (0 + Int.toNat y) = some (AVal.bool false)) (hc_4 : -9223372036854775808 ≤ y + 1 ∧ y + (1 : Int) ≤ 9223372036854775807) :
    Runs Try.prog 1 20 (loopAt Try.prog 52 0) [(0, .slice (some ⟨0, 0, 0, 0, 1⟩) n n), (1, .int .i64 x), (2, .int .i64 z), (7, .int .i64 y)] (AHeap.rows 8 [(0, .made l 1 true)]) .normal [(0, .slice (some ⟨0, 0, 0, 0, 1⟩) n n), (1, .int .i64 x), (2, .int .i64 z), (7, .int .i64 (y + 1))] (AHeap.rows 20 [(0, .made l 1 true)]) :=
  ppath_runs env_ok mixed (hs := [.go 2003, .val 2004 (.bool true), .go 4002, .ld 4003 (.bool false), .go 3001]) (keep := [0, 1, 2, 7]) (by kernel_rfl) (All.cons hc_0 (All.cons (okT hc_1) (All.cons hc_2 (All.cons hc_3 (All.cons hc_4 (All.nil))))))

theorem cl_hit (n : Nat) (l : List AVal) (x y z : Int) (hc_0 : -9223372036854775808 ≤ x + z ∧ x + z ≤ 9223372036854775807) (hc_1 : y < x + z) (hc_2 : 0 ≤ y ∧ y < (n : Int) ∧ 1 = 1) (hc_3 : ABlk.elem? (.made l 1 true) 0 (0 + Int.toNat y) = some (AVal.bool true)) :
    Runs Try.prog 1 20 (loopAt Try.prog 52 0) [(0, .slice (some ⟨0, 0, 0, 0, 1⟩) n n), (1, .int .i64 x), (2, .int .i64 z), (7, .int .i64 y)] (AHeap.rows 8 [(0, .made l 1 true)]) .ret [(6, AVal.bool false)] (AHeap.rows 18 [(0, .made l 1 true)]) :=
  ppath_runs env_ok mixed (hs := [.go 2003, .val 2004 (.bool true), .go 4002, .ld 4003 (.bool true)]) (keep := [6]) (by kernel_rfl) (All.cons hc_0 (All.cons (okT hc_1) (All.cons hc_2 (All.cons hc_3 (All.nil)))))

theorem cl_end (n : Nat) (l : List AVal) (x y z : Int) (hc_0 : -9223372036854775808 ≤ x + z ∧ x + z ≤ 9223372036854775807) (hc_1 : ¬ (y < x + z)) :
    Runs Try.prog 1 20 (loopAt Try.prog 52 0) [(0, .slice (some ⟨0, 0, 0, 0, 1⟩) n n), (1, .int .i64 x), (2, .int .i64 z), (7, .int .i64 y)] (AHeap.rows 8 [(0, .made l 1 true)]) (.exit 0) [] (AHeap.rows 13 [(0, .made l 1 true)]) :=
  ppath_runs env_ok mixed (hs := [.go 2003, .val 2004 (.bool false)]) (keep := []) (by kernel_rfl) (All.cons hc_0 (All.cons (okF hc_1) (All.nil)))

theorem cl_call_yes (n : Nat) (l : List AVal) (x y z : Int) (hc_0 : Runs Try.prog 1 20 (.loop (loopAt Try.prog 52 0)) [(0, .slice (some ⟨0, 0, 0, 0, 1⟩) n n), (1, .int .i64 x), (2, .int .i64 z), (7, .int .i64 x)] (AHeap.rows 4 [(0, .made l 1 true)]) (.exit 0) [] (AHeap.rows 9 [(0, .made l 1 true)])) :
    FDoes Try.prog 52 [.slice (some ⟨0, 0, 0, 0, 1⟩) n n, .int .i64 x, .int .i64 z] (AHeap.of [.made l 1 true]) (AVal.bool true) (AHeap.rows 10 [(0, .made l 1 true)]) :=
  pcall_does env_ok mixed (hs := [.keep [0, 1, 2, 7], .loop [] (AHeap.rows 9 [(0, .made l 1 true)]) (.exit 0)]) (rs := []) (by kernel_rfl) (All.cons hc_0 (All.nil))

theorem cl_call_no (n : Nat) (l : List AVal) (x y z : Int) (hc_0 : Runs Try.prog 1 20 (.loop (loopAt Try.prog 52 0)) [(0, .slice (some ⟨0, 0, 0, 0, 1⟩) n n), (1, .int .i64 x), (2, .int .i64 z), (7, .int .i64 x)] (AHeap.rows 4 [(0, .made l 1 true)]) .ret [(6, AVal.bool false)] (AHeap.rows 20 [(0, .made l 1 true)])) :
    FDoes Try.prog 52 [.slice (some ⟨0, 0, 0, 0, 1⟩) n n, .int .i64 x, .int .i64 z] (AHeap.of [.made l 1 true]) (AVal.bool false) (AHeap.rows 20 [(0, .made l 1 true)]) :=
  pcall_does env_ok mixed (hs := [.keep [0, 1, 2, 7], .loop [(6, .bool false)] (AHeap.rows 20 [(0, .made l 1 true)]) (.ret)]) (rs := []) (by kernel_rfl) (All.cons hc_0 (All.nil))

end Go.Proofs.Ytcgcpmcjaeenlaa

namespace Go.Proofs.Ytcgcpmcjaeenlaa
open Go.Lift
set_option maxRecDepth 1000000
set_option linter.unusedSimpArgs false
set_option linter.unusedVariables false
set_option linter.unusedSectionVars false

section
variable {C n c v : Nat} {o : Option AAddr} (hs : SlArg o n c 1 v 0 4) {bT : ABlk} (hb : BareB bT) {T : List Qd} (hl : T.length = n) (hel : ElT bT v T) {M : Int} (hT : GoodT C M T) (hC : C ≤ 64) (hM : 0 ≤ M ∧ M ≤ 2 ^ 39) (hn : n ≤ 2 ^ 40)
include hs hb hl hel hT hC hM hn

theorem pi_loop {t : Qd} (ht : t ∈ T) (tk : Nat → Bool) (y d e : Int) (i : Nat) : ∀ (f : Nat) (x : Int), t.a ≤ x → x + f = t.a + t.c →
    Loops Try.prog 2 80 (loopAt Try.prog 51 1) [(0, .ptr (some ⟨0, 0, 0, 0, 1⟩)), (1, .int .i64 y), (2, .int .i64 d), (3, .int .i64 C), (10, .slice (some ⟨5, 0, 0, 0, 1⟩) C C), (11, .int .i64 e), (12, .int .i64 i), (13, .ptr (some ⟨30, 0, 0, 0, 4⟩)), (15, .int .i64 x)]
      (AHeap.rows 60 [(0, plcRow o n c), (1, bT), (5, .made (bools C fun j => tk j || decide (t.a ≤ j ∧ (j : Int) < x)) 1 true), (30, .made [t.val] 4 true)]) (.exit 2)
      [(0, .ptr (some ⟨0, 0, 0, 0, 1⟩)), (1, .int .i64 y), (2, .int .i64 d), (3, .int .i64 C), (10, .slice (some ⟨5, 0, 0, 0, 1⟩) C C), (11, .int .i64 e), (12, .int .i64 i)] (AHeap.rows 80 [(0, plcRow o n c), (1, bT), (5, .made (bools C fun j => tk j || decide (t.a ≤ j ∧ (j : Int) < t.a + t.c)) 1 true)])
  | 0, x, h0, e0 => by
    have g := hT t ht
    obtain rfl : x = t.a + t.c := by omega
    have d0 : Clo (Ids [0, 1, 5]) (.slice o n c) := hs.clo (by simp [Ids])
    have st := (hT.small (by omega) hM.2) t ht
    refine (Loops.last (by simp) (pi_end o n c v i C bT _ [] y d e 0 (t.a + t.c) t.a t.b t.c t.d false (fit_add st.1 st.2.2.1) (by omega))).post ?_
    exact Ent.drop (by kernel_rfl) (by kernel_rfl) (by kernel_rfl) (by kernel_rfl) (by simp [All_cons, All_nil, Clo, d0]; simp [Ids]) (by
      simp only [List.map, All_cons, All_nil, and_true]
      exact ⟨plc_cloI d0, hb.clo _, (bools_bare _ _).clo _⟩)
  | f + 1, x, h0, e0 => by
    have g := hT t ht
    have sm := (hT.small (by omega) hM.2) t ht
    have d0 : Clo (Ids [0, 1, 5, 30]) (.slice o n c) := hs.clo (by simp [Ids])
    have st := pi_step o n c v i C bT (bools C fun j => tk j || decide (t.a ≤ j ∧ (j : Int) < x)) [] y d e 0 x t.a t.b t.c t.d (tk x.toNat || decide (t.a ≤ x.toNat ∧ (x.toNat : Int) < x)) (fit_add sm.1 sm.2.2.1) (by omega) (by omega) ⟨by omega, by omega, rfl⟩ ⟨rfl, by rw [Nat.zero_add, bools_get (by omega)]⟩ (by omega)
    rw [Nat.zero_add, bools_set, show (bools C fun j => if j = x.toNat then true else (tk j || decide (t.a ≤ j ∧ (j : Int) < x))) = (bools C fun j => tk j || decide (t.a ≤ j ∧ (j : Int) < x + 1)) from bools_congr fun j hj => by
      by_cases c1 : j = x.toNat
      · rw [if_pos c1, decide_eq_true (show t.a ≤ (j : Int) ∧ (j : Int) < x + 1 by omega), Bool.or_true]
      · rw [if_neg c1]
        congr 1
        rw [decide_eq_decide]
        omega] at st
    refine Loops.step (st.post ?_) (pi_loop ht tk y d e i f (x + 1) (by omega) (by omega))
    exact Ent.drop (by kernel_rfl) (by kernel_rfl) (by kernel_rfl) (by kernel_rfl) (by simp [All_cons, All_nil, Clo, d0]; simp [Ids]) (by
      simp only [List.map, All_cons, All_nil, and_true]
      exact ⟨plc_cloI d0, hb.clo _, (bools_bare _ _).clo _, qd_cloI _ _⟩)

theorem pr_loop {y d : Int} (hy : -2 ^ 40 ≤ y ∧ y ≤ 2 ^ 40) (hd : -2 ^ 40 ≤ d ∧ d ≤ 2 ^ 40) : ∀ (f i : Nat) (tk : Nat → Bool) (e : Int), i + f = n → StripZ T C y d (y + d + 4096 + 4096) i tk e →
    ∃ tk2 e2, StripZ T C y d (y + d + 4096 + 4096) n tk2 e2 ∧ Loops Try.prog 2 80 (loopAt Try.prog 51 0) [(0, .ptr (some ⟨0, 0, 0, 0, 1⟩)), (1, .int .i64 y), (2, .int .i64 d), (3, .int .i64 C), (10, .slice (some ⟨5, 0, 0, 0, 1⟩) C C), (11, .int .i64 e), (12, .int .i64 i)]
      (AHeap.rows 16 [(0, plcRow o n c), (1, bT), (5, .made (bools C tk) 1 true)]) (.exit 0) [(10, .slice (some ⟨5, 0, 0, 0, 1⟩) C C), (11, .int .i64 e2)] (AHeap.rows 17 [(0, plcRow o n c), (1, bT), (5, .made (bools C tk2) 1 true)])
  | 0, i, tk, e, hi, hz => by
    obtain rfl : i = n := by omega
    refine ⟨tk, e, hz, (Loops.last (by simp) (pr_end o i c v i C bT _ [] y d e 0 0 0 0 0 0 false (by omega))).post ?_⟩
    exact Ent.drop (by kernel_rfl) (by kernel_rfl) (by kernel_rfl) (by kernel_rfl) (by simp [All_cons, All_nil, Clo]; simp [Ids]) (by
      simp only [List.map, All_cons, All_nil, and_true]
      exact ⟨plc_cloI (hs.clo (by simp [Ids])), hb.clo _, (bools_bare _ _).clo _⟩)
  | f + 1, i, tk, e, hi, hz => by
    have hin : i < n := by omega
    obtain ⟨t, ht⟩ : ∃ t, T[i]? = some t := ⟨T[i], List.getElem?_eq_getElem (by omega)⟩
    have htm : t ∈ T := List.mem_of_getElem? ht
    have g := hT t htm
    have st := hT.small (by omega) hM.2 t htm
    have d0 : Clo (Ids [0, 1, 5]) (.slice o n c) := hs.clo (by simp [Ids])
    have d1 : Clo (Ids [0, 1, 5, 30]) (.slice o n c) := hs.clo (by simp [Ids])
    have c1 : (i : Int) < n := by omega
    have c2 := ix_spS (k := .i64) hs hin
    have c3 := hel i t ht
    have f2 := fit_add st.2.1 st.2.2.2
    have f5 : -9223372036854775808 ≤ (i : Int) + 1 ∧ (i : Int) + (1 : Int) ≤ 9223372036854775807 := by omega
    have sw : Small ⟨0, y, C, d⟩ := ⟨⟨by show (-2 ^ 40 : Int) ≤ 0; omega, by show (0 : Int) ≤ 2 ^ 40; omega⟩, hy, ⟨by show (-2 ^ 40 : Int) ≤ C; omega, by show (C : Int) ≤ 2 ^ 40; omega⟩, hd⟩
    have mo : MeetsZ t ⟨0, y, C, d⟩ ↔ OvlZ t y d := ⟨fun h => ⟨h.2.2.1, h.2.2.2⟩, fun h => ⟨show t.a < 0 + (C : Int) by omega, show 0 < t.a + t.c by omega, h.1, h.2⟩⟩
    have dr : ∀ (K : Nat) (l : List (Nat × ABlk)) (e3 : Int) (tk3 : Nat → Bool), [(AHeap.rows K l).get 0, (AHeap.rows K l).get 1, (AHeap.rows K l).get 5] = [some (plcRow o n c), some bT, some (.made (bools C tk3) 1 true)] →
        Ent 2 80 [(0, .ptr (some ⟨0, 0, 0, 0, 1⟩)), (1, .int .i64 y), (2, .int .i64 d), (3, .int .i64 C), (10, .slice (some ⟨5, 0, 0, 0, 1⟩) C C), (11, .int .i64 e3), (12, .int .i64 ((i : Int) + 1))] (AHeap.rows K l)
          [(0, .ptr (some ⟨0, 0, 0, 0, 1⟩)), (1, .int .i64 y), (2, .int .i64 d), (3, .int .i64 C), (10, .slice (some ⟨5, 0, 0, 0, 1⟩) C C), (11, .int .i64 e3), (12, .int .i64 (i + 1 : Nat))] (AHeap.rows 16 [(0, plcRow o n c), (1, bT), (5, .made (bools C tk3) 1 true)]) := fun K l e3 tk3 hh =>
      Ent.drop hh (by kernel_rfl) (by kernel_rfl) (by kernel_rfl) (by simp [All_cons, All_nil, Clo, d0]; simp [Ids]) (by
        simp only [List.map, All_cons, All_nil, and_true]
        exact ⟨plc_cloI d0, hb.clo _, (bools_bare _ _).clo _⟩)
    by_cases ov : OvlZ t y d
    · have me := rmeets_yes st sw (mo.2 ov)
      have inn : ∀ (K : Nat) (e3 : Int), Runs Try.prog 2 80 (Code.loop (loopAt Try.prog 51 1)) [(0, .ptr (some ⟨0, 0, 0, 0, 1⟩)), (1, .int .i64 y), (2, .int .i64 d), (3, .int .i64 C), (10, .slice (some ⟨5, 0, 0, 0, 1⟩) C C), (11, .int .i64 e3), (12, .int .i64 i), (13, .ptr (some ⟨30, 0, 0, 0, 4⟩)), (15, .int .i64 t.a)]
          (AHeap.rows K [(0, plcRow o n c), (1, bT), (5, .made (bools C tk) 1 true), (30, .made [t.val] 4 true)]) (.exit 2)
          [(0, .ptr (some ⟨0, 0, 0, 0, 1⟩)), (1, .int .i64 y), (2, .int .i64 d), (3, .int .i64 C), (10, .slice (some ⟨5, 0, 0, 0, 1⟩) C C), (11, .int .i64 e3), (12, .int .i64 i)] (AHeap.rows 80 [(0, plcRow o n c), (1, bT), (5, .made (bools C fun j => tk j || decide (t.a ≤ j ∧ (j : Int) < t.a + t.c)) 1 true)]) := fun K e3 => by
        have l := pi_loop hs hb hl hel hT hC hM hn htm tk y d e3 i t.c.toNat t.a (Int.le_refl _) (by omega)
        rw [show (bools C fun j => tk j || decide (t.a ≤ j ∧ (j : Int) < t.a)) = bools C tk from bools_congr fun j _ => by rw [decide_eq_false (by omega), Bool.or_false]] at l
        refine Runs.of_loops (Tri.pre l ?_)
        exact Ent.drop (by kernel_rfl) (by kernel_rfl) (by kernel_rfl) (by kernel_rfl) (by simp [All_cons, All_nil, Clo, d1]; simp [Ids]) (by
          simp only [List.map, All_cons, All_nil, and_true]
          exact ⟨plc_cloI d1, hb.clo _, (bools_bare _ _).clo _, qd_cloI _ _⟩)
      have en : e = y + d + 4096 + 4096 → ∀ j u, j < i → T[j]? = some u → OvlZ u y d → t.b + t.d ≤ u.b + u.d := fun h0 j u hj hu hv => by
        rcases hz.e with ⟨_, b⟩ | ⟨⟨j2, u2, b1, b2, b3, b4⟩, _⟩
        · exact absurd hv (b j u hj hu)
        · have g2 := hT u2 (List.mem_of_getElem? b2); have := b3.1; omega
      have o1 := ov.1
      by_cases e1 : t.b + t.d < e
      · obtain ⟨tk2, e2, a1, l⟩ := pr_loop hy hd f (i + 1) _ (t.b + t.d) (by omega) (hz.in_ ht ov (.inl ⟨rfl, .inr (by omega)⟩) en)
        exact ⟨tk2, e2, a1, Loops.step ((pr_in1 o n c v i C bT _ _ y d e (t.b + t.d) 0 t.a t.b t.c t.d false c1 c2 c3 (me _) f2 e1 f2 (inn _ _) f5).post (dr _ _ _ _ (by kernel_rfl))) l⟩
      · obtain ⟨tk2, e2, a1, l⟩ := pr_loop hy hd f (i + 1) _ e (by omega) (hz.in_ ht ov (.inr ⟨rfl, by omega, by omega⟩) en)
        exact ⟨tk2, e2, a1, Loops.step ((pr_in2 o n c v i C bT _ _ y d e e 0 t.a t.b t.c t.d false c1 c2 c3 (me _) f2 e1 (inn _ _) f5).post (dr _ _ _ _ (by kernel_rfl))) l⟩
    · have me := rmeets_no st sw (fun h => ov (mo.1 h))
      obtain ⟨tk2, e2, a1, l⟩ := pr_loop hy hd f (i + 1) tk e (by omega) (hz.out ht ov)
      exact ⟨tk2, e2, a1, Loops.step ((pr_out o n c v i C bT _ [] y d e 0 0 t.a t.b t.c t.d false c1 c2 c3 (me _) f5).post (dr _ _ e tk (by kernel_rfl))) l⟩
end

/-- Placed.row -/
theorem prow_does {H : AHeap} {ib iT C : Nat} {o : Option AAddr} {n c v : Nat} {bT : ABlk} {T : List Qd} (h : PlacedAt H ib iT o n c v bT T) {M : Int} (hT : GoodT C M T) (hC : C ≤ 64) (hM : 0 ≤ M ∧ M ≤ 2 ^ 39) (hn : n ≤ 2 ^ 40) {y d : Int} (hy : -2 ^ 40 ≤ y ∧ y ≤ 2 ^ 40) (hd : -2 ^ 40 ≤ d ∧ d ≤ 2 ^ 40) :
    ∃ tk e none, (∀ x : Nat, x < C → (tk x = true ↔ TkZ T y d x)) ∧ EndZ T y d e none ∧ FDoes Try.prog 51 [.ptr (some ⟨ib, 0, 0, 0, 1⟩), .int .i64 y, .int .i64 d, .int .i64 C] H (.tuple [.slice (some ⟨H.next, 0, 0, 0, 1⟩) C C, .int .i64 e]) (H.upd [] [.made (bools C tk) 1 true]) := by
  have s1 := h.sl.at 1
  obtain ⟨tk, e, a1, l⟩ := pr_loop s1 h.bare h.len h.el hT hC hM hn hy hd n 0 (fun _ => false) (y + d + 4096 + 4096) (by omega) (StripZ.zero T C y d _)
  rw [← bools_zero] at l
  rw [← h.len] at a1
  obtain ⟨b1, b2⟩ := a1.all
  refine ⟨tk, e, _, b1, b2, ?_⟩
  have d0 : Clo (Ids [0, 1, 5]) (.slice (o.map fun a => { a with id := 1 }) n c) := s1.clo (by simp [Ids])
  have pre : ∀ K : Nat, Ent 2 80 [(0, .ptr (some ⟨0, 0, 0, 0, 1⟩)), (1, .int .i64 y), (2, .int .i64 d), (3, .int .i64 C), (10, .slice (some ⟨5, 0, 0, 0, 1⟩) C C), (11, .int .i64 (y + d + 4096 + 4096)), (12, .int .i64 (0 : Nat))] (AHeap.rows K [(0, plcRow (o.map fun a => { a with id := 1 }) n c), (1, bT), (5, .made (List.replicate C (AVal.bool false)) 1 true)])
      [(0, .ptr (some ⟨0, 0, 0, 0, 1⟩)), (1, .int .i64 y), (2, .int .i64 d), (3, .int .i64 C), (10, .slice (some ⟨5, 0, 0, 0, 1⟩) C C), (11, .int .i64 (y + d + 4096 + 4096)), (12, .int .i64 (0 : Nat))] (AHeap.rows 16 [(0, plcRow (o.map fun a => { a with id := 1 }) n c), (1, bT), (5, .made (List.replicate C (AVal.bool false)) 1 true)]) := fun K =>
    Ent.drop (by kernel_rfl) (by kernel_rfl) (by kernel_rfl) (by kernel_rfl) (by simp [All_cons, All_nil, Clo, d0]; simp [Ids]) (by
      simp only [List.map, All_cons, All_nil, and_true]
      exact ⟨plc_cloI d0, h.bare.clo _, by rw [bools_zero]; exact (bools_bare _ _).clo _⟩)
  have k := (pr_call _ n c v 0 C bT _ [] y d e 0 0 0 0 0 0 false ⟨by omega, by omega, by omega, by omega⟩ (by omega) (by omega) (by omega) (Runs.of_loops (l.pre (pre _)))).newC (l := [plcRow (o.map fun a => { a with id := 1 }) n c, bT]) (bn := .made (bools C tk) 1 true) (j := 5) (v2 := .tuple [.slice (some ⟨2, 0, 0, 0, 1⟩) C C, .int .i64 e])
    (by simp; exact ⟨plc_cloI (s1.clo (by omega)), bare_clo2 h.bare⟩) (bools_bare _ _) (by kernel_rfl) (by kernel_rfl) (by simp) (by simp [AVal.ren, AVal.rens, AAddr.ren, finR]) (by simp [Clo, Clos]) (by simp [Clo, Clos]) (H := H) [ib, iT] (by simp [h.ne]) (by simp [h.lb, h.lT]) (by
    have e1 : (plcRow (o.map fun a => { a with id := 1 }) n c).ren (toBig [ib, iT] H.next) = plcRow o n c := plc_ren h.sl (by simp [toBig])
    simp [h.gb, h.gT, e1, h.bare.ren])
  simpa [AVal.ren, AVal.rens, AAddr.ren, toBig] using k

/-! clear -/
def ClEnds (C : Nat) (tk : Nat → Bool) (x z y : Int) : Prop :=
  ((∀ i : Int, y ≤ i → i < x + z → tk i.toNat = false) ∧ Loops Try.prog 1 20 (loopAt Try.prog 52 0) [(0, .slice (some ⟨0, 0, 0, 0, 1⟩) C C), (1, .int .i64 x), (2, .int .i64 z), (7, .int .i64 y)] (AHeap.rows 8 [(0, .made (bools C tk) 1 true)]) (.exit 0) [] (AHeap.rows 9 [(0, .made (bools C tk) 1 true)])) ∨
  ((∃ i : Int, y ≤ i ∧ i < x + z ∧ tk i.toNat = true) ∧ Loops Try.prog 1 20 (loopAt Try.prog 52 0) [(0, .slice (some ⟨0, 0, 0, 0, 1⟩) C C), (1, .int .i64 x), (2, .int .i64 z), (7, .int .i64 y)] (AHeap.rows 8 [(0, .made (bools C tk) 1 true)]) .ret [(6, .bool false)] (AHeap.rows 20 [(0, .made (bools C tk) 1 true)]))

theorem cl_loop {C : Nat} (hC : C ≤ 64) (tk : Nat → Bool) {x z : Int} (hx : 0 ≤ x) (hz : x + z ≤ C) (hz0 : 0 ≤ z) : ∀ (f : Nat) (y : Int), x ≤ y → y + f = x + z → ClEnds C tk x z y
  | 0, y, h0, h1 => by
    refine .inl ⟨fun i a b => by omega, (Loops.last (by simp) (cl_end C _ x y z (by omega) (by omega))).post ?_⟩
    exact Ent.drop (by kernel_rfl) (by kernel_rfl) (by kernel_rfl) (by kernel_rfl) (by simp [All_cons, All_nil, Clo]) (by simp only [List.map, All_cons, All_nil, and_true]; exact (bools_bare _ _).clo _)
  | f + 1, y, h0, h1 => by
    have el : (ABlk.made (bools C tk) 1 true).elem? 0 (0 + Int.toNat y) = some (.bool (tk y.toNat)) := by rw [Nat.zero_add]; exact bools_el (by omega)
    cases hk : tk y.toNat with
    | true =>
      rw [hk] at el
      refine .inr ⟨⟨y, Int.le_refl _, by omega, hk⟩, (Loops.last (by simp) (cl_hit C _ x y z (by omega) (by omega) ⟨by omega, by omega, rfl⟩ el)).post ?_⟩
      exact Ent.drop (by kernel_rfl) (by kernel_rfl) (by kernel_rfl) (by kernel_rfl) (by simp [All_cons, All_nil, Clo]) (by simp only [List.map, All_cons, All_nil, and_true]; exact (bools_bare _ _).clo _)
    | false =>
      rw [hk] at el
      have st := (cl_next C _ x y z (by omega) (by omega) ⟨by omega, by omega, rfl⟩ el (by omega)).post (i := Ent.drop (K := 8) (l := [(0, .made (bools C tk) 1 true)]) (by kernel_rfl) (by kernel_rfl) (by kernel_rfl) (by kernel_rfl) (by simp [All_cons, All_nil, Clo, Ids]) (by simp only [List.map, All_cons, All_nil, and_true]; exact (bools_bare _ _).clo _))
      rcases cl_loop hC tk hx hz hz0 f (y + 1) (by omega) (by omega) with ⟨a, l⟩ | ⟨⟨i, a1, a2, a3⟩, l⟩
      · exact .inl ⟨fun i q1 q2 => by
          by_cases c1 : i = y
          · subst c1; exact hk
          · exact a i (by omega) q2, Loops.step st l⟩
      · exact .inr ⟨⟨i, by omega, a2, a3⟩, Loops.step st l⟩

/-- clear -/
theorem clear_does {H : AHeap} {id C : Nat} {tk : Nat → Bool} (hg : H.get id = some (.made (bools C tk) 1 true)) (hlt : id < H.next) (hC : C ≤ 64) {x z : Int} (hx : 0 ≤ x) (hz : x + z ≤ C) (hz0 : 0 ≤ z) :
    ((∀ i : Int, 0 ≤ i → i < z → tk (x + i).toNat = false) ∧ FDoes Try.prog 52 [.slice (some ⟨id, 0, 0, 0, 1⟩) C C, .int .i64 x, .int .i64 z] H (.bool true) H) ∨
    ((∃ i : Int, 0 ≤ i ∧ i < z ∧ tk (x + i).toNat = true) ∧ FDoes Try.prog 52 [.slice (some ⟨id, 0, 0, 0, 1⟩) C C, .int .i64 x, .int .i64 z] H (.bool false) H) := by
  have pre : ∀ K : Nat, Ent 1 20 [(0, .slice (some ⟨0, 0, 0, 0, 1⟩) C C), (1, .int .i64 x), (2, .int .i64 z), (7, .int .i64 x)] (AHeap.rows K [(0, .made (bools C tk) 1 true)]) [(0, .slice (some ⟨0, 0, 0, 0, 1⟩) C C), (1, .int .i64 x), (2, .int .i64 z), (7, .int .i64 x)] (AHeap.rows 8 [(0, .made (bools C tk) 1 true)]) := fun K =>
    Ent.drop (by kernel_rfl) (by kernel_rfl) (by kernel_rfl) (by kernel_rfl) (by simp [All_cons, All_nil, Clo, Ids]) (by simp only [List.map, All_cons, All_nil, and_true]; exact (bools_bare _ _).clo _)
  rcases cl_loop hC tk hx hz hz0 z.toNat x (Int.le_refl _) (by omega) with ⟨a, l⟩ | ⟨⟨i, a1, a2, a3⟩, l⟩
  · refine .inl ⟨fun i q1 q2 => a (x + i) (by omega) (by omega), ?_⟩
    have kk := (cl_call_yes C _ x 0 z (Runs.of_loops (l.pre (pre _)))).pure (by simp [bools_bare]) (by kernel_rfl) (Bare.bool _) (by simp [Clos, Clo]) (H := H) [id] (by simp) (by simp [hlt]) (by simp [hg])
    simpa [AVal.ren, AAddr.ren, toBig] using kk
  · refine .inr ⟨⟨i - x, by omega, by omega, by rw [show x + (i - x) = i by omega]; exact a3⟩, ?_⟩
    have kk := (cl_call_no C _ x 0 z (Runs.of_loops (l.pre (pre _)))).pure (by simp [bools_bare]) (by kernel_rfl) (Bare.bool _) (by simp [Clos, Clo]) (H := H) [id] (by simp) (by simp [hlt]) (by simp [hg])
    simpa [AVal.ren, AAddr.ren, toBig] using kk

end Go.Proofs.Ytcgcpmcjaeenlaa
