/-
  Parts of the proof, one behind the other:
  grid.board: hit, across, down: the walk.
  THE LIFT, PART W: a call told of a small memory whose rows name rows of it, in every memory.
  THE LIFT, PART Y: a call told of a small memory whose rows name rows of it: what comes new, in every memory.
  grid.board: hit, across and down: what they answer.
  grid.board.across and down: what they answer.
  grid.board.strip: the walk.
  grid.board.strip: what it answers.
  grid.board.behind: the walk.
  grid.board.behind: what it answers.
  WHERE TRACKS LIE: the numbers, without the program.
  A number brought into a stretch: the walk.
  grid.Flow: the walk of its loops.
-/
import Derived.Test.YtcgcpmcjaeenlaaKGridApartB

namespace Go.Proofs.Ytcgcpmcjaeenlaa
open Go.Lift
set_option maxRecDepth 1000000
set_option linter.unusedSimpArgs false
set_option linter.unusedVariables false
set_option linter.unusedSectionVars false

theorem hit_m0 (o : Option AAddr) (n c v i C : Nat) (bT : ABlk) (sa sb sc sd ta tb tc td : Int) (hc_0 : (i : Int) < (n : Int)) (hc_1 : aindexAddr env.D 22 (.slice o n c) (.int .i64 (i : Int)) = some (.ptr (some ⟨1, v, 0 + i, 0, 4⟩))) (hc_2 : ABlk.elem? bT v (0 + i) = some (.agg [.int .i64 ta, .int .i64 tb, .int .i64 tc, .int .i64 td])) (hc_3 : -9223372036854775808 ≤ sa + sc ∧ sa + sc ≤ 9223372036854775807) (hc_4 : ¬ (ta < sa + sc)) (hc_5 : -9223372036854775808 ≤ (i : Int) + 1 ∧ (i : Int) + (1 : Int) ≤ 9223372036854775807) :
    Runs Try.prog 2 58 (loopAt Try.prog 53 0) [(3, .ptr (some ⟨2, 0, 0, 0, 4⟩)), (4, .ptr (some ⟨3, 0, 0, 0, 4⟩)), (11, .slice o n c), (12, .int .i64 n), (13, .int .i64 i)] (AHeap.rows 11 [(0, .made [.agg [.int .i64 C, .slice o n c]] 2 true), (1, bT), (2, .made [.agg [.int .i64 sa, .int .i64 sb, .int .i64 sc, .int .i64 sd]] 4 true), (3, .made [.agg [.int .i64 0, .int .i64 0, .int .i64 0, .int .i64 0]] 4 true)]) .normal [(3, .ptr (some ⟨2, 0, 0, 0, 4⟩)), (4, .ptr (some ⟨3, 0, 0, 0, 4⟩)), (11, .slice o n c), (12, .int .i64 (n : Int)), (13, .int .i64 ((i : Int) + 1))] (AHeap.rows 56 [(0, (.made ([.agg [.int .i64 (C : Int), .slice o n c]]) 2 true)), (1, bT), (2, (.made ([.agg [.int .i64 sa, .int .i64 sb, .int .i64 sc, .int .i64 sd]]) 4 true)), (3, (.made ([.agg [.int .i64 0, .int .i64 0, .int .i64 0, .int .i64 0]]) 4 true)), (14, (.made ([.agg [.int .i64 ta, .int .i64 tb, .int .i64 tc, .int .i64 td]]) 4 true))]) :=
  ppath_runs env_ok mixed (hs := [.val 2000 (.bool true), .val 3000 (.ptr (some ⟨1, v, 0 + i, 0, 4⟩)), .ld 3001 (.agg [.int .i64 ta, .int .i64 tb, .int .i64 tc, .int .i64 td]), .go 4006, .val 4007 (.bool false), .go 6000]) (keep := [3, 4, 11, 12, 13]) (by kernel_rfl) (All.cons (okT hc_0) (All.cons hc_1 (All.cons hc_2 (All.cons hc_3 (All.cons (okF hc_4) (All.cons hc_5 (All.nil)))))))

theorem hit_m1 (o : Option AAddr) (n c v i C : Nat) (bT : ABlk) (sa sb sc sd ta tb tc td : Int) (hc_0 : (i : Int) < (n : Int)) (hc_1 : aindexAddr env.D 22 (.slice o n c) (.int .i64 (i : Int)) = some (.ptr (some ⟨1, v, 0 + i, 0, 4⟩))) (hc_2 : ABlk.elem? bT v (0 + i) = some (.agg [.int .i64 ta, .int .i64 tb, .int .i64 tc, .int .i64 td])) (hc_3 : -9223372036854775808 ≤ sa + sc ∧ sa + sc ≤ 9223372036854775807) (hc_4 : ta < sa + sc) (hc_5 : -9223372036854775808 ≤ ta + tc ∧ ta + tc ≤ 9223372036854775807) (hc_6 : ¬ (sa < ta + tc)) (hc_7 : -9223372036854775808 ≤ (i : Int) + 1 ∧ (i : Int) + (1 : Int) ≤ 9223372036854775807) :
    Runs Try.prog 2 58 (loopAt Try.prog 53 0) [(3, .ptr (some ⟨2, 0, 0, 0, 4⟩)), (4, .ptr (some ⟨3, 0, 0, 0, 4⟩)), (11, .slice o n c), (12, .int .i64 n), (13, .int .i64 i)] (AHeap.rows 11 [(0, .made [.agg [.int .i64 C, .slice o n c]] 2 true), (1, bT), (2, .made [.agg [.int .i64 sa, .int .i64 sb, .int .i64 sc, .int .i64 sd]] 4 true), (3, .made [.agg [.int .i64 0, .int .i64 0, .int .i64 0, .int .i64 0]] 4 true)]) .normal [(3, .ptr (some ⟨2, 0, 0, 0, 4⟩)), (4, .ptr (some ⟨3, 0, 0, 0, 4⟩)), (11, .slice o n c), (12, .int .i64 (n : Int)), (13, .int .i64 ((i : Int) + 1))] (AHeap.rows 56 [(0, (.made ([.agg [.int .i64 (C : Int), .slice o n c]]) 2 true)), (1, bT), (2, (.made ([.agg [.int .i64 sa, .int .i64 sb, .int .i64 sc, .int .i64 sd]]) 4 true)), (3, (.made ([.agg [.int .i64 0, .int .i64 0, .int .i64 0, .int .i64 0]]) 4 true)), (14, (.made ([.agg [.int .i64 ta, .int .i64 tb, .int .i64 tc, .int .i64 td]]) 4 true))]) :=
  ppath_runs env_ok mixed (hs := [.val 2000 (.bool true), .val 3000 (.ptr (some ⟨1, v, 0 + i, 0, 4⟩)), .ld 3001 (.agg [.int .i64 ta, .int .i64 tb, .int .i64 tc, .int .i64 td]), .go 4006, .val 4007 (.bool true), .go 4015, .val 4016 (.bool false), .go 6000]) (keep := [3, 4, 11, 12, 13]) (by kernel_rfl) (All.cons (okT hc_0) (All.cons hc_1 (All.cons hc_2 (All.cons hc_3 (All.cons (okT hc_4) (All.cons hc_5 (All.cons (okF hc_6) (All.cons hc_7 (All.nil)))))))))

theorem hit_m2 (o : Option AAddr) (n c v i C : Nat) (bT : ABlk) (sa sb sc sd ta tb tc td : Int) (hc_0 : (i : Int) < (n : Int)) (hc_1 : aindexAddr env.D 22 (.slice o n c) (.int .i64 (i : Int)) = some (.ptr (some ⟨1, v, 0 + i, 0, 4⟩))) (hc_2 : ABlk.elem? bT v (0 + i) = some (.agg [.int .i64 ta, .int .i64 tb, .int .i64 tc, .int .i64 td])) (hc_3 : -9223372036854775808 ≤ sa + sc ∧ sa + sc ≤ 9223372036854775807) (hc_4 : ta < sa + sc) (hc_5 : -9223372036854775808 ≤ ta + tc ∧ ta + tc ≤ 9223372036854775807) (hc_6 : sa < ta + tc) (hc_7 : -9223372036854775808 ≤ sb + sd ∧ sb + sd ≤ 9223372036854775807) (hc_8 : ¬ (tb < sb + sd)) (hc_9 : -9223372036854775808 ≤ (i : Int) + 1 ∧ (i : Int) + (1 : Int) ≤ 9223372036854775807) :
    Runs Try.prog 2 58 (loopAt Try.prog 53 0) [(3, .ptr (some ⟨2, 0, 0, 0, 4⟩)), (4, .ptr (some ⟨3, 0, 0, 0, 4⟩)), (11, .slice o n c), (12, .int .i64 n), (13, .int .i64 i)] (AHeap.rows 11 [(0, .made [.agg [.int .i64 C, .slice o n c]] 2 true), (1, bT), (2, .made [.agg [.int .i64 sa, .int .i64 sb, .int .i64 sc, .int .i64 sd]] 4 true), (3, .made [.agg [.int .i64 0, .int .i64 0, .int .i64 0, .int .i64 0]] 4 true)]) .normal [(3, .ptr (some ⟨2, 0, 0, 0, 4⟩)), (4, .ptr (some ⟨3, 0, 0, 0, 4⟩)), (11, .slice o n c), (12, .int .i64 (n : Int)), (13, .int .i64 ((i : Int) + 1))] (AHeap.rows 56 [(0, (.made ([.agg [.int .i64 (C : Int), .slice o n c]]) 2 true)), (1, bT), (2, (.made ([.agg [.int .i64 sa, .int .i64 sb, .int .i64 sc, .int .i64 sd]]) 4 true)), (3, (.made ([.agg [.int .i64 0, .int .i64 0, .int .i64 0, .int .i64 0]]) 4 true)), (14, (.made ([.agg [.int .i64 ta, .int .i64 tb, .int .i64 tc, .int .i64 td]]) 4 true))]) :=
  ppath_runs env_ok mixed (hs := [.val 2000 (.bool true), .val 3000 (.ptr (some ⟨1, v, 0 + i, 0, 4⟩)), .ld 3001 (.agg [.int .i64 ta, .int .i64 tb, .int .i64 tc, .int .i64 td]), .go 4006, .val 4007 (.bool true), .go 4015, .val 4016 (.bool true), .go 4025, .val 4026 (.bool false), .go 6000]) (keep := [3, 4, 11, 12, 13]) (by kernel_rfl) (All.cons (okT hc_0) (All.cons hc_1 (All.cons hc_2 (All.cons hc_3 (All.cons (okT hc_4) (All.cons hc_5 (All.cons (okT hc_6) (All.cons hc_7 (All.cons (okF hc_8) (All.cons hc_9 (All.nil)))))))))))

theorem hit_m3 (o : Option AAddr) (n c v i C : Nat) (bT : ABlk) (sa sb sc sd ta tb tc td : Int) (hc_0 : (i : Int) < (n : Int)) (hc_1 : aindexAddr env.D 22 (.slice o n c) (.int .i64 (i : Int)) = some (.ptr (some ⟨1, v, 0 + i, 0, 4⟩))) (hc_2 : ABlk.elem? bT v (0 + i) = some (.agg [.int .i64 ta, .int .i64 tb, .int .i64 tc, .int .i64 td])) (hc_3 : -9223372036854775808 ≤ sa + sc ∧ sa + sc ≤ 9223372036854775807) (hc_4 : ta < sa + sc) (hc_5 : -9223372036854775808 ≤ ta + tc ∧ ta + tc ≤ 9223372036854775807) (hc_6 : sa < ta + tc) (hc_7 : -9223372036854775808 ≤ sb + sd ∧ sb + sd ≤ 9223372036854775807) (hc_8 : tb < sb + sd) (hc_9 : -9223372036854775808 ≤ tb + td ∧ tb + td ≤ 9223372036854775807) (hc_10 : ¬ (sb < tb + td)) (hc_11 : -9223372036854775808 ≤ (i : Int) + 1 ∧ (i : Int) + (1 : Int) ≤ 9223372036854775807) :
    Runs Try.prog 2 58 (loopAt Try.prog 53 0) [(3, .ptr (some ⟨2, 0, 0, 0, 4⟩)), (4, .ptr (some ⟨3, 0, 0, 0, 4⟩)), (11, .slice o n c), (12, .int .i64 n), (13, .int .i64 i)] (AHeap.rows 11 [(0, .made [.agg [.int .i64 C, .slice o n c]] 2 true), (1, bT), (2, .made [.agg [.int .i64 sa, .int .i64 sb, .int .i64 sc, .int .i64 sd]] 4 true), (3, .made [.agg [.int .i64 0, .int .i64 0, .int .i64 0, .int .i64 0]] 4 true)]) .normal [(3, .ptr (some ⟨2, 0, 0, 0, 4⟩)), (4, .ptr (some ⟨3, 0, 0, 0, 4⟩)), (11, .slice o n c), (12, .int .i64 (n : Int)), (13, .int .i64 ((i : Int) + 1))] (AHeap.rows 56 [(0, (.made ([.agg [.int .i64 (C : Int), .slice o n c]]) 2 true)), (1, bT), (2, (.made ([.agg [.int .i64 sa, .int .i64 sb, .int .i64 sc, .int .i64 sd]]) 4 true)), (3, (.made ([.agg [.int .i64 0, .int .i64 0, .int .i64 0, .int .i64 0]]) 4 true)), (14, (.made ([.agg [.int .i64 ta, .int .i64 tb, .int .i64 tc, .int .i64 td]]) 4 true))]) :=
  ppath_runs env_ok mixed (hs := [.val 2000 (.bool true), .val 3000 (.ptr (some ⟨1, v, 0 + i, 0, 4⟩)), .ld 3001 (.agg [.int .i64 ta, .int .i64 tb, .int .i64 tc, .int .i64 td]), .go 4006, .val 4007 (.bool true), .go 4015, .val 4016 (.bool true), .go 4025, .val 4026 (.bool true), .go 4035, .val 4036 (.bool false), .go 6000]) (keep := [3, 4, 11, 12, 13]) (by kernel_rfl) (All.cons (okT hc_0) (All.cons hc_1 (All.cons hc_2 (All.cons hc_3 (All.cons (okT hc_4) (All.cons hc_5 (All.cons (okT hc_6) (All.cons hc_7 (All.cons (okT hc_8) (All.cons hc_9 (All.cons (okF hc_10) (All.cons hc_11 (All.nil)))))))))))))

theorem hit_y (o : Option AAddr) (n c v i C : Nat) (bT : ABlk) (sa sb sc sd ta tb tc td : Int) (hc_0 : (i : Int) < (n : Int)) (hc_1 : aindexAddr env.D 22 (.slice o n c) (.int .i64 (i : Int)) = some (.ptr (some ⟨1, v, 0 + i, 0, 4⟩))) (hc_2 : ABlk.elem? bT v (0 + i) = some (.agg [.int .i64 ta, .int .i64 tb, .int .i64 tc, .int .i64 td])) (hc_3 : -9223372036854775808 ≤ sa + sc ∧ sa + sc ≤ 9223372036854775807) (hc_4 : ta < sa + sc) (hc_5 : -9223372036854775808 ≤ ta + tc ∧ ta + tc ≤ 9223372036854775807) (hc_6 : sa < ta + tc) (hc_7 : -9223372036854775808 ≤ sb + sd ∧ sb + sd ≤ 9223372036854775807) (hc_8 : tb < sb + sd) (hc_9 : -9223372036854775808 ≤ tb + td ∧ tb + td ≤ 9223372036854775807) (hc_10 : sb < tb + td) :
    Runs Try.prog 2 58 (loopAt Try.prog 53 0) [(3, .ptr (some ⟨2, 0, 0, 0, 4⟩)), (4, .ptr (some ⟨3, 0, 0, 0, 4⟩)), (11, .slice o n c), (12, .int .i64 n), (13, .int .i64 i)] (AHeap.rows 11 [(0, .made [.agg [.int .i64 C, .slice o n c]] 2 true), (1, bT), (2, .made [.agg [.int .i64 sa, .int .i64 sb, .int .i64 sc, .int .i64 sd]] 4 true), (3, .made [.agg [.int .i64 0, .int .i64 0, .int .i64 0, .int .i64 0]] 4 true)]) .ret [(4, .ptr (some ⟨3, 0, 0, 0, 4⟩)), (5, AVal.bool true)] (AHeap.set (AHeap.rows 57 [(0, (.made ([.agg [.int .i64 (C : Int), .slice o n c]]) 2 true)), (1, bT), (2, (.made ([.agg [.int .i64 sa, .int .i64 sb, .int .i64 sc, .int .i64 sd]]) 4 true)), (3, (.made ([.agg [.int .i64 0, .int .i64 0, .int .i64 0, .int .i64 0]]) 4 true)), (14, (.made ([.agg [.int .i64 ta, .int .i64 tb, .int .i64 tc, .int .i64 td]]) 4 true))]) 3 (.made ([.agg [.int .i64 ta, .int .i64 tb, .int .i64 tc, .int .i64 td]]) 4 true)) :=
  ppath_runs env_ok mixed (hs := [.val 2000 (.bool true), .val 3000 (.ptr (some ⟨1, v, 0 + i, 0, 4⟩)), .ld 3001 (.agg [.int .i64 ta, .int .i64 tb, .int .i64 tc, .int .i64 td]), .go 4006, .val 4007 (.bool true), .go 4015, .val 4016 (.bool true), .go 4025, .val 4026 (.bool true), .go 4035, .val 4036 (.bool true)]) (keep := [4, 5]) (by kernel_rfl) (All.cons (okT hc_0) (All.cons hc_1 (All.cons hc_2 (All.cons hc_3 (All.cons (okT hc_4) (All.cons hc_5 (All.cons (okT hc_6) (All.cons hc_7 (All.cons (okT hc_8) (All.cons hc_9 (All.cons (okT hc_10) (All.nil))))))))))))

theorem hit_end (o : Option AAddr) (n c v i C : Nat) (bT : ABlk) (sa sb sc sd ta tb tc td : Int) (hc_0 : ¬ ((i : Int) < (n : Int))) :
    Runs Try.prog 2 58 (loopAt Try.prog 53 0) [(3, .ptr (some ⟨2, 0, 0, 0, 4⟩)), (4, .ptr (some ⟨3, 0, 0, 0, 4⟩)), (11, .slice o n c), (12, .int .i64 n), (13, .int .i64 i)] (AHeap.rows 11 [(0, .made [.agg [.int .i64 C, .slice o n c]] 2 true), (1, bT), (2, .made [.agg [.int .i64 sa, .int .i64 sb, .int .i64 sc, .int .i64 sd]] 4 true), (3, .made [.agg [.int .i64 0, .int .i64 0, .int .i64 0, .int .i64 0]] 4 true)]) (.exit 0) [(4, .ptr (some ⟨3, 0, 0, 0, 4⟩))] (AHeap.rows 12 [(0, (.made ([.agg [.int .i64 (C : Int), .slice o n c]]) 2 true)), (1, bT), (2, (.made ([.agg [.int .i64 sa, .int .i64 sb, .int .i64 sc, .int .i64 sd]]) 4 true)), (3, (.made ([.agg [.int .i64 0, .int .i64 0, .int .i64 0, .int .i64 0]]) 4 true))]) :=
  ppath_runs env_ok mixed (hs := [.val 2000 (.bool false)]) (keep := [4]) (by kernel_rfl) (All.cons (okF hc_0) (All.nil))

theorem hit_call_no (o : Option AAddr) (n c v i C : Nat) (bT : ABlk) (sa sb sc sd ta tb tc td : Int) (hc_0 : Runs Try.prog 2 58 (.loop (loopAt Try.prog 53 0)) [(3, .ptr (some ⟨2, 0, 0, 0, 4⟩)), (4, .ptr (some ⟨3, 0, 0, 0, 4⟩)), (11, .slice o n c), (12, .int .i64 (n : Int)), (13, .int .i64 0)] (AHeap.rows 11 [(0, .made [.agg [.int .i64 (C : Int), .slice o n c]] 2 true), (1, bT), (2, .made [.agg [.int .i64 sa, .int .i64 sb, .int .i64 sc, .int .i64 sd]] 4 true), (3, .made [.agg [.int .i64 0, .int .i64 0, .int .i64 0, .int .i64 0]] 4 true)]) (.exit 0) [(4, .ptr (some ⟨3, 0, 0, 0, 4⟩))] (AHeap.rows 12 [(0, (.made ([.agg [.int .i64 (C : Int), .slice o n c]]) 2 true)), (1, bT), (3, (.made ([.agg [.int .i64 0, .int .i64 0, .int .i64 0, .int .i64 0]]) 4 true))])) (hc_1 : aload env.D 28 ⟨3, 0, 0, 0, 4⟩ (AHeap.set (AHeap.rows 15 [(0, (.made ([.agg [.int .i64 (C : Int), .slice o n c]]) 2 true)), (1, bT), (3, (.made ([.agg [.int .i64 0, .int .i64 0, .int .i64 0, .int .i64 0]]) 4 true))]) 3 (.made ([.agg [.int .i64 0, .int .i64 0, .int .i64 0, .int .i64 0]]) 4 true)) = some (.agg [.int .i64 0, .int .i64 0, .int .i64 0, .int .i64 0])) :
    FDoes Try.prog 53 [.ptr (some ⟨0, 0, 0, 0, 2⟩), .agg [.int .i64 sa, .int .i64 sb, .int .i64 sc, .int .i64 sd]] (AHeap.of [.made [.agg [.int .i64 C, .slice o n c]] 2 true, bT]) (.tuple [.agg [.int .i64 0, .int .i64 0, .int .i64 0, .int .i64 0], AVal.bool false]) (AHeap.set (AHeap.rows 15 [(0, (.made ([.agg [.int .i64 (C : Int), .slice o n c]]) 2 true)), (1, bT), (3, (.made ([.agg [.int .i64 0, .int .i64 0, .int .i64 0, .int .i64 0]]) 4 true))]) 3 (.made ([.agg [.int .i64 0, .int .i64 0, .int .i64 0, .int .i64 0]]) 4 true)) :=
  pcall_does env_ok mixed (hs := [.keep [3, 4, 11, 12, 13], .loop [(4, .ptr (some ⟨3, 0, 0, 0, 4⟩))] (AHeap.rows 12 [(0, .made [.agg [.int .i64 C, .slice o n c]] 2 true), (1, bT), (3, .made [.agg [.int .i64 0, .int .i64 0, .int .i64 0, .int .i64 0]] 4 true)]) (.exit 0)]) (rs := [.cell (.agg [.int .i64 0, .int .i64 0, .int .i64 0, .int .i64 0])]) (by kernel_rfl) (All.cons hc_0 (All.cons hc_1 (All.nil)))

theorem hit_call_yes (o : Option AAddr) (n c v i C : Nat) (bT : ABlk) (sa sb sc sd ta tb tc td : Int) (hc_0 : Runs Try.prog 2 58 (.loop (loopAt Try.prog 53 0)) [(3, .ptr (some ⟨2, 0, 0, 0, 4⟩)), (4, .ptr (some ⟨3, 0, 0, 0, 4⟩)), (11, .slice o n c), (12, .int .i64 (n : Int)), (13, .int .i64 0)] (AHeap.rows 11 [(0, .made [.agg [.int .i64 (C : Int), .slice o n c]] 2 true), (1, bT), (2, .made [.agg [.int .i64 sa, .int .i64 sb, .int .i64 sc, .int .i64 sd]] 4 true), (3, .made [.agg [.int .i64 0, .int .i64 0, .int .i64 0, .int .i64 0]] 4 true)]) .ret [(4, .ptr (some ⟨3, 0, 0, 0, 4⟩)), (5, AVal.bool true)] (AHeap.rows 60 [(0, (.made ([.agg [.int .i64 (C : Int), .slice o n c]]) 2 true)), (1, bT), (3, (.made ([.agg [.int .i64 ta, .int .i64 tb, .int .i64 tc, .int .i64 td]]) 4 true))])) (hc_1 : aload env.D 28 ⟨3, 0, 0, 0, 4⟩ (AHeap.rows 60 [(0, (.made ([.agg [.int .i64 (C : Int), .slice o n c]]) 2 true)), (1, bT), (3, (.made ([.agg [.int .i64 ta, .int .i64 tb, .int .i64 tc, .int .i64 td]]) 4 true))]) = some (.agg [.int .i64 ta, .int .i64 tb, .int .i64 tc, .int .i64 td])) :
    FDoes Try.prog 53 [.ptr (some ⟨0, 0, 0, 0, 2⟩), .agg [.int .i64 sa, .int .i64 sb, .int .i64 sc, .int .i64 sd]] (AHeap.of [.made [.agg [.int .i64 C, .slice o n c]] 2 true, bT]) (.tuple [.agg [.int .i64 ta, .int .i64 tb, .int .i64 tc, .int .i64 td], AVal.bool true]) (AHeap.rows 60 [(0, (.made ([.agg [.int .i64 (C : Int), .slice o n c]]) 2 true)), (1, bT), (3, (.made ([.agg [.int .i64 ta, .int .i64 tb, .int .i64 tc, .int .i64 td]]) 4 true))]) :=
  pcall_does env_ok mixed (hs := [.keep [3, 4, 11, 12, 13], .loop [(4, .ptr (some ⟨3, 0, 0, 0, 4⟩)), (5, .bool true)] (AHeap.rows 60 [(0, .made [.agg [.int .i64 C, .slice o n c]] 2 true), (1, bT), (3, .made [.agg [.int .i64 ta, .int .i64 tb, .int .i64 tc, .int .i64 td]] 4 true)]) (.ret)]) (rs := [.cell (.agg [.int .i64 ta, .int .i64 tb, .int .i64 tc, .int .i64 td])]) (by kernel_rfl) (All.cons hc_0 (All.cons hc_1 (All.nil)))

theorem ac_step (o : Option AAddr) (n c v i C : Nat) (bT : ABlk) (sa sb sc sd ta tb tc td : Int) (hc_0 : -9223372036854775808 ≤ sa + sc ∧ sa + sc ≤ 9223372036854775807) (hc_1 : sa + sc ≤ (C : Int)) (hc_2 : FDoes Try.prog 53 [.ptr (some ⟨0, 0, 0, 0, 2⟩), .agg [.int .i64 sa, .int .i64 sb, .int .i64 sc, .int .i64 sd]] (AHeap.rows 25 [(0, (.made ([.agg [.int .i64 (C : Int), .slice o n c]]) 2 true)), (1, bT), (2, (.made ([.agg [.int .i64 sa, .int .i64 sb, .int .i64 sc, .int .i64 sd]]) 4 true)), (3, (.made ([.agg [.int .i64 0, .int .i64 0, .int .i64 0, .int .i64 0]]) 4 true))]) (.tuple [.agg [.int .i64 ta, .int .i64 tb, .int .i64 tc, .int .i64 td], AVal.bool true]) (AHeap.rows 25 [(0, (.made ([.agg [.int .i64 (C : Int), .slice o n c]]) 2 true)), (1, bT), (2, (.made ([.agg [.int .i64 sa, .int .i64 sb, .int .i64 sc, .int .i64 sd]]) 4 true)), (3, (.made ([.agg [.int .i64 0, .int .i64 0, .int .i64 0, .int .i64 0]]) 4 true))])) (hc_3 : -9223372036854775808 ≤ ta + tc ∧ ta + tc ≤ 9223372036854775807) :
    Runs Try.prog 2 35 (loopAt Try.prog 31 0) [(0, .ptr (some ⟨0, 0, 0, 0, 2⟩)), (3, .ptr (some ⟨2, 0, 0, 0, 4⟩)), (4, .ptr (some ⟨3, 0, 0, 0, 4⟩))] (AHeap.rows 6 [(0, .made [.agg [.int .i64 C, .slice o n c]] 2 true), (1, bT), (2, .made [.agg [.int .i64 sa, .int .i64 sb, .int .i64 sc, .int .i64 sd]] 4 true), (3, .made [.agg [.int .i64 0, .int .i64 0, .int .i64 0, .int .i64 0]] 4 true)]) .normal [(0, .ptr (some ⟨0, 0, 0, 0, 2⟩)), (3, .ptr (some ⟨2, 0, 0, 0, 4⟩)), (4, .ptr (some ⟨3, 0, 0, 0, 4⟩))] (AHeap.set (AHeap.rows 34 [(0, (.made ([.agg [.int .i64 (C : Int), .slice o n c]]) 2 true)), (1, bT), (2, (.made ([.agg [.int .i64 sa, .int .i64 sb, .int .i64 sc, .int .i64 sd]]) 4 true)), (3, (.made ([.agg [.int .i64 0, .int .i64 0, .int .i64 0, .int .i64 0]]) 4 true)), (22, (.made ([.agg [.int .i64 ta, .int .i64 tb, .int .i64 tc, .int .i64 td]]) 4 true))]) 2 (.made ([.agg [.int .i64 (ta + tc), .int .i64 sb, .int .i64 sc, .int .i64 sd]]) 4 true)) :=
  ppath_runs env_ok mixed (hs := [.go 2004, .val 2009 (.bool true), .val 3002 (.tuple [.agg [.int .i64 ta, .int .i64 tb, .int .i64 tc, .int .i64 td], .bool true]), .go 6004]) (keep := [0, 3, 4]) (by kernel_rfl) (All.cons hc_0 (All.cons (okT hc_1) (All.cons (CallT.mk hc_2) (All.cons hc_3 (All.nil)))))

theorem ac_found (o : Option AAddr) (n c v i C : Nat) (bT : ABlk) (sa sb sc sd ta tb tc td : Int) (hc_0 : -9223372036854775808 ≤ sa + sc ∧ sa + sc ≤ 9223372036854775807) (hc_1 : sa + sc ≤ (C : Int)) (hc_2 : FDoes Try.prog 53 [.ptr (some ⟨0, 0, 0, 0, 2⟩), .agg [.int .i64 sa, .int .i64 sb, .int .i64 sc, .int .i64 sd]] (AHeap.rows 25 [(0, (.made ([.agg [.int .i64 (C : Int), .slice o n c]]) 2 true)), (1, bT), (2, (.made ([.agg [.int .i64 sa, .int .i64 sb, .int .i64 sc, .int .i64 sd]]) 4 true)), (3, (.made ([.agg [.int .i64 0, .int .i64 0, .int .i64 0, .int .i64 0]]) 4 true))]) (.tuple [.agg [.int .i64 0, .int .i64 0, .int .i64 0, .int .i64 0], AVal.bool false]) (AHeap.rows 25 [(0, (.made ([.agg [.int .i64 (C : Int), .slice o n c]]) 2 true)), (1, bT), (2, (.made ([.agg [.int .i64 sa, .int .i64 sb, .int .i64 sc, .int .i64 sd]]) 4 true)), (3, (.made ([.agg [.int .i64 0, .int .i64 0, .int .i64 0, .int .i64 0]]) 4 true))])) :
    Runs Try.prog 2 35 (loopAt Try.prog 31 0) [(0, .ptr (some ⟨0, 0, 0, 0, 2⟩)), (3, .ptr (some ⟨2, 0, 0, 0, 4⟩)), (4, .ptr (some ⟨3, 0, 0, 0, 4⟩))] (AHeap.rows 6 [(0, .made [.agg [.int .i64 C, .slice o n c]] 2 true), (1, bT), (2, .made [.agg [.int .i64 sa, .int .i64 sb, .int .i64 sc, .int .i64 sd]] 4 true), (3, .made [.agg [.int .i64 0, .int .i64 0, .int .i64 0, .int .i64 0]] 4 true)]) .ret [(4, .ptr (some ⟨3, 0, 0, 0, 4⟩))] (AHeap.set (AHeap.rows 29 [(0, (.made ([.agg [.int .i64 (C : Int), .slice o n c]]) 2 true)), (1, bT), (2, (.made ([.agg [.int .i64 sa, .int .i64 sb, .int .i64 sc, .int .i64 sd]]) 4 true)), (3, (.made ([.agg [.int .i64 0, .int .i64 0, .int .i64 0, .int .i64 0]]) 4 true)), (22, (.made ([.agg [.int .i64 0, .int .i64 0, .int .i64 0, .int .i64 0]]) 4 true))]) 3 (.made ([.agg [.int .i64 sa, .int .i64 sb, .int .i64 sc, .int .i64 sd]]) 4 true)) :=
  ppath_runs env_ok mixed (hs := [.go 2004, .val 2009 (.bool true), .val 3002 (.tuple [.agg [.int .i64 0, .int .i64 0, .int .i64 0, .int .i64 0], .bool false])]) (keep := [4]) (by kernel_rfl) (All.cons hc_0 (All.cons (okT hc_1) (All.cons (CallT.mk hc_2) (All.nil))))

theorem ac_end (o : Option AAddr) (n c v i C : Nat) (bT : ABlk) (sa sb sc sd ta tb tc td : Int) (hc_0 : -9223372036854775808 ≤ sa + sc ∧ sa + sc ≤ 9223372036854775807) (hc_1 : ¬ (sa + sc ≤ (C : Int))) :
    Runs Try.prog 2 35 (loopAt Try.prog 31 0) [(0, .ptr (some ⟨0, 0, 0, 0, 2⟩)), (3, .ptr (some ⟨2, 0, 0, 0, 4⟩)), (4, .ptr (some ⟨3, 0, 0, 0, 4⟩))] (AHeap.rows 6 [(0, .made [.agg [.int .i64 C, .slice o n c]] 2 true), (1, bT), (2, .made [.agg [.int .i64 sa, .int .i64 sb, .int .i64 sc, .int .i64 sd]] 4 true), (3, .made [.agg [.int .i64 0, .int .i64 0, .int .i64 0, .int .i64 0]] 4 true)]) (.exit 0) [(3, .ptr (some ⟨2, 0, 0, 0, 4⟩)), (4, .ptr (some ⟨3, 0, 0, 0, 4⟩))] (AHeap.rows 16 [(0, (.made ([.agg [.int .i64 (C : Int), .slice o n c]]) 2 true)), (1, bT), (2, (.made ([.agg [.int .i64 sa, .int .i64 sb, .int .i64 sc, .int .i64 sd]]) 4 true)), (3, (.made ([.agg [.int .i64 0, .int .i64 0, .int .i64 0, .int .i64 0]]) 4 true))]) :=
  ppath_runs env_ok mixed (hs := [.go 2004, .val 2009 (.bool false)]) (keep := [3, 4]) (by kernel_rfl) (All.cons hc_0 (All.cons (okF hc_1) (All.nil)))

theorem ac_call_no (o : Option AAddr) (n c v i C : Nat) (bT : ABlk) (sa sb sc sd ta tb tc td : Int) (x : Int) (hc_0 : Runs Try.prog 2 35 (.loop (loopAt Try.prog 31 0)) [(0, .ptr (some ⟨0, 0, 0, 0, 2⟩)), (3, .ptr (some ⟨2, 0, 0, 0, 4⟩)), (4, .ptr (some ⟨3, 0, 0, 0, 4⟩))] (AHeap.set (AHeap.rows 6 [(0, .made [.agg [.int .i64 (C : Int), .slice o n c]] 2 true), (1, bT), (2, .made [.agg [.int .i64 sa, .int .i64 sb, .int .i64 sc, .int .i64 sd]] 4 true), (3, .made [.agg [.int .i64 0, .int .i64 0, .int .i64 0, .int .i64 0]] 4 true)]) 2 (.made ([.agg [.int .i64 0, .int .i64 sb, .int .i64 sc, .int .i64 sd]]) 4 true)) (.exit 0) [(3, .ptr (some ⟨2, 0, 0, 0, 4⟩)), (4, .ptr (some ⟨3, 0, 0, 0, 4⟩))] (AHeap.rows 16 [(0, (.made ([.agg [.int .i64 (C : Int), .slice o n c]]) 2 true)), (1, bT), (2, (.made ([.agg [.int .i64 x, .int .i64 sb, .int .i64 sc, .int .i64 sd]]) 4 true)), (3, (.made ([.agg [.int .i64 0, .int .i64 0, .int .i64 0, .int .i64 0]]) 4 true))])) (hc_1 : aload env.D 28 ⟨3, 0, 0, 0, 4⟩ (AHeap.set (AHeap.rows 20 [(0, (.made ([.agg [.int .i64 (C : Int), .slice o n c]]) 2 true)), (1, bT), (2, (.made ([.agg [.int .i64 0, .int .i64 sb, .int .i64 sc, .int .i64 sd]]) 4 true)), (3, (.made ([.agg [.int .i64 0, .int .i64 0, .int .i64 0, .int .i64 0]]) 4 true))]) 3 (.made ([.agg [.int .i64 0, .int .i64 sb, .int .i64 sc, .int .i64 sd]]) 4 true)) = some (.agg [.int .i64 0, .int .i64 sb, .int .i64 sc, .int .i64 sd])) :
    FDoes Try.prog 31 [.ptr (some ⟨0, 0, 0, 0, 2⟩), .agg [.int .i64 sa, .int .i64 sb, .int .i64 sc, .int .i64 sd]] (AHeap.of [.made [.agg [.int .i64 C, .slice o n c]] 2 true, bT]) (.agg [.int .i64 0, .int .i64 sb, .int .i64 sc, .int .i64 sd]) (AHeap.set (AHeap.rows 20 [(0, (.made ([.agg [.int .i64 (C : Int), .slice o n c]]) 2 true)), (1, bT), (2, (.made ([.agg [.int .i64 0, .int .i64 sb, .int .i64 sc, .int .i64 sd]]) 4 true)), (3, (.made ([.agg [.int .i64 0, .int .i64 0, .int .i64 0, .int .i64 0]]) 4 true))]) 3 (.made ([.agg [.int .i64 0, .int .i64 sb, .int .i64 sc, .int .i64 sd]]) 4 true)) :=
  pcall_does env_ok mixed (hs := [.keep [0, 3, 4], .loop [(3, .ptr (some ⟨2, 0, 0, 0, 4⟩)), (4, .ptr (some ⟨3, 0, 0, 0, 4⟩))] (AHeap.rows 16 [(0, .made [.agg [.int .i64 C, .slice o n c]] 2 true), (1, bT), (2, .made [.agg [.int .i64 x, .int .i64 sb, .int .i64 sc, .int .i64 sd]] 4 true), (3, .made [.agg [.int .i64 0, .int .i64 0, .int .i64 0, .int .i64 0]] 4 true)]) (.exit 0)]) (rs := [.cell (.agg [.int .i64 0, .int .i64 sb, .int .i64 sc, .int .i64 sd])]) (by kernel_rfl) (All.cons hc_0 (All.cons hc_1 (All.nil)))

theorem ac_call_yes (o : Option AAddr) (n c v i C : Nat) (bT : ABlk) (sa sb sc sd ta tb tc td : Int) (hc_0 : Runs Try.prog 2 35 (.loop (loopAt Try.prog 31 0)) [(0, .ptr (some ⟨0, 0, 0, 0, 2⟩)), (3, .ptr (some ⟨2, 0, 0, 0, 4⟩)), (4, .ptr (some ⟨3, 0, 0, 0, 4⟩))] (AHeap.set (AHeap.rows 6 [(0, .made [.agg [.int .i64 (C : Int), .slice o n c]] 2 true), (1, bT), (2, .made [.agg [.int .i64 sa, .int .i64 sb, .int .i64 sc, .int .i64 sd]] 4 true), (3, .made [.agg [.int .i64 0, .int .i64 0, .int .i64 0, .int .i64 0]] 4 true)]) 2 (.made ([.agg [.int .i64 0, .int .i64 sb, .int .i64 sc, .int .i64 sd]]) 4 true)) .ret [(4, .ptr (some ⟨3, 0, 0, 0, 4⟩))] (AHeap.rows 16 [(0, (.made ([.agg [.int .i64 (C : Int), .slice o n c]]) 2 true)), (1, bT), (3, (.made ([.agg [.int .i64 ta, .int .i64 tb, .int .i64 tc, .int .i64 td]]) 4 true))])) (hc_1 : aload env.D 28 ⟨3, 0, 0, 0, 4⟩ (AHeap.rows 16 [(0, (.made ([.agg [.int .i64 (C : Int), .slice o n c]]) 2 true)), (1, bT), (3, (.made ([.agg [.int .i64 ta, .int .i64 tb, .int .i64 tc, .int .i64 td]]) 4 true))]) = some (.agg [.int .i64 ta, .int .i64 tb, .int .i64 tc, .int .i64 td])) :
    FDoes Try.prog 31 [.ptr (some ⟨0, 0, 0, 0, 2⟩), .agg [.int .i64 sa, .int .i64 sb, .int .i64 sc, .int .i64 sd]] (AHeap.of [.made [.agg [.int .i64 C, .slice o n c]] 2 true, bT]) (.agg [.int .i64 ta, .int .i64 tb, .int .i64 tc, .int .i64 td]) (AHeap.rows 16 [(0, (.made ([.agg [.int .i64 (C : Int), .slice o n c]]) 2 true)), (1, bT), (3, (.made ([.agg [.int .i64 ta, .int .i64 tb, .int .i64 tc, .int .i64 td]]) 4 true))]) :=
  pcall_does env_ok mixed (hs := [.keep [0, 3, 4], .loop [(4, .ptr (some ⟨3, 0, 0, 0, 4⟩))] (AHeap.rows 16 [(0, .made [.agg [.int .i64 C, .slice o n c]] 2 true), (1, bT), (3, .made [.agg [.int .i64 ta, .int .i64 tb, .int .i64 tc, .int .i64 td]] 4 true)]) (.ret)]) (rs := [.cell (.agg [.int .i64 ta, .int .i64 tb, .int .i64 tc, .int .i64 td])]) (by kernel_rfl) (All.cons hc_0 (All.cons hc_1 (All.nil)))

theorem dn_m0 (o : Option AAddr) (n c v i C : Nat) (bT : ABlk) (sa sb sc sd ta tb tc td : Int) (m : Bool) (hc_0 : (i : Int) < (n : Int)) (hc_1 : aindexAddr env.D 22 (.slice o n c) (.int .i64 (i : Int)) = some (.ptr (some ⟨1, v, 0 + i, 0, 4⟩))) (hc_2 : ABlk.elem? bT v (0 + i) = some (.agg [.int .i64 ta, .int .i64 tb, .int .i64 tc, .int .i64 td])) (hc_3 : -9223372036854775808 ≤ sa + sc ∧ sa + sc ≤ 9223372036854775807) (hc_4 : ¬ (ta < sa + sc)) (hc_5 : -9223372036854775808 ≤ (i : Int) + 1 ∧ (i : Int) + (1 : Int) ≤ 9223372036854775807) :
    Runs Try.prog 2 65 (loopAt Try.prog 32 1) [(0, .ptr (some ⟨0, 0, 0, 0, 2⟩)), (3, .ptr (some ⟨2, 0, 0, 0, 4⟩)), (4, .ptr (some ⟨3, 0, 0, 0, 4⟩)), (5, .bool m), (13, .slice o n c), (14, .int .i64 n), (15, .int .i64 i)] (AHeap.rows 15 [(0, .made [.agg [.int .i64 C, .slice o n c]] 2 true), (1, bT), (2, .made [.agg [.int .i64 sa, .int .i64 sb, .int .i64 sc, .int .i64 sd]] 4 true), (3, .made [.agg [.int .i64 0, .int .i64 0, .int .i64 0, .int .i64 0]] 4 true)]) .normal [(0, .ptr (some ⟨0, 0, 0, 0, 2⟩)), (3, .ptr (some ⟨2, 0, 0, 0, 4⟩)), (4, .ptr (some ⟨3, 0, 0, 0, 4⟩)), (5, AVal.bool m), (13, .slice o n c), (14, .int .i64 (n : Int)), (15, .int .i64 ((i : Int) + 1))] (AHeap.rows 60 [(0, (.made ([.agg [.int .i64 (C : Int), .slice o n c]]) 2 true)), (1, bT), (2, (.made ([.agg [.int .i64 sa, .int .i64 sb, .int .i64 sc, .int .i64 sd]]) 4 true)), (3, (.made ([.agg [.int .i64 0, .int .i64 0, .int .i64 0, .int .i64 0]]) 4 true)), (18, (.made ([.agg [.int .i64 ta, .int .i64 tb, .int .i64 tc, .int .i64 td]]) 4 true))]) :=
  ppath_runs env_ok mixed (hs := [.val 6000 (.bool true), .val 7000 (.ptr (some ⟨1, v, 0 + i, 0, 4⟩)), .ld 7001 (.agg [.int .i64 ta, .int .i64 tb, .int .i64 tc, .int .i64 td]), .go 8006, .val 8007 (.bool false), .go 10000]) (keep := [0, 3, 4, 5, 13, 14, 15]) (by kernel_rfl) (All.cons (okT hc_0) (All.cons hc_1 (All.cons hc_2 (All.cons hc_3 (All.cons (okF hc_4) (All.cons hc_5 (All.nil)))))))

theorem dn_m1 (o : Option AAddr) (n c v i C : Nat) (bT : ABlk) (sa sb sc sd ta tb tc td : Int) (m : Bool) (hc_0 : (i : Int) < (n : Int)) (hc_1 : aindexAddr env.D 22 (.slice o n c) (.int .i64 (i : Int)) = some (.ptr (some ⟨1, v, 0 + i, 0, 4⟩))) (hc_2 : ABlk.elem? bT v (0 + i) = some (.agg [.int .i64 ta, .int .i64 tb, .int .i64 tc, .int .i64 td])) (hc_3 : -9223372036854775808 ≤ sa + sc ∧ sa + sc ≤ 9223372036854775807) (hc_4 : ta < sa + sc) (hc_5 : -9223372036854775808 ≤ ta + tc ∧ ta + tc ≤ 9223372036854775807) (hc_6 : ¬ (sa < ta + tc)) (hc_7 : -9223372036854775808 ≤ (i : Int) + 1 ∧ (i : Int) + (1 : Int) ≤ 9223372036854775807) :
    Runs Try.prog 2 65 (loopAt Try.prog 32 1) [(0, .ptr (some ⟨0, 0, 0, 0, 2⟩)), (3, .ptr (some ⟨2, 0, 0, 0, 4⟩)), (4, .ptr (some ⟨3, 0, 0, 0, 4⟩)), (5, .bool m), (13, .slice o n c), (14, .int .i64 n), (15, .int .i64 i)] (AHeap.rows 15 [(0, .made [.agg [.int .i64 C, .slice o n c]] 2 true), (1, bT), (2, .made [.agg [.int .i64 sa, .int .i64 sb, .int .i64 sc, .int .i64 sd]] 4 true), (3, .made [.agg [.int .i64 0, .int .i64 0, .int .i64 0, .int .i64 0]] 4 true)]) .normal [(0, .ptr (some ⟨0, 0, 0, 0, 2⟩)), (3, .ptr (some ⟨2, 0, 0, 0, 4⟩)), (4, .ptr (some ⟨3, 0, 0, 0, 4⟩)), (5, AVal.bool m), (13, .slice o n c), (14, .int .i64 (n : Int)), (15, .int .i64 ((i : Int) + 1))] (AHeap.rows 60 [(0, (.made ([.agg [.int .i64 (C : Int), .slice o n c]]) 2 true)), (1, bT), (2, (.made ([.agg [.int .i64 sa, .int .i64 sb, .int .i64 sc, .int .i64 sd]]) 4 true)), (3, (.made ([.agg [.int .i64 0, .int .i64 0, .int .i64 0, .int .i64 0]]) 4 true)), (18, (.made ([.agg [.int .i64 ta, .int .i64 tb, .int .i64 tc, .int .i64 td]]) 4 true))]) :=
  ppath_runs env_ok mixed (hs := [.val 6000 (.bool true), .val 7000 (.ptr (some ⟨1, v, 0 + i, 0, 4⟩)), .ld 7001 (.agg [.int .i64 ta, .int .i64 tb, .int .i64 tc, .int .i64 td]), .go 8006, .val 8007 (.bool true), .go 8015, .val 8016 (.bool false), .go 10000]) (keep := [0, 3, 4, 5, 13, 14, 15]) (by kernel_rfl) (All.cons (okT hc_0) (All.cons hc_1 (All.cons hc_2 (All.cons hc_3 (All.cons (okT hc_4) (All.cons hc_5 (All.cons (okF hc_6) (All.cons hc_7 (All.nil)))))))))

theorem dn_m2 (o : Option AAddr) (n c v i C : Nat) (bT : ABlk) (sa sb sc sd ta tb tc td : Int) (m : Bool) (hc_0 : (i : Int) < (n : Int)) (hc_1 : aindexAddr env.D 22 (.slice o n c) (.int .i64 (i : Int)) = some (.ptr (some ⟨1, v, 0 + i, 0, 4⟩))) (hc_2 : ABlk.elem? bT v (0 + i) = some (.agg [.int .i64 ta, .int .i64 tb, .int .i64 tc, .int .i64 td])) (hc_3 : -9223372036854775808 ≤ sa + sc ∧ sa + sc ≤ 9223372036854775807) (hc_4 : ta < sa + sc) (hc_5 : -9223372036854775808 ≤ ta + tc ∧ ta + tc ≤ 9223372036854775807) (hc_6 : sa < ta + tc) (hc_7 : -9223372036854775808 ≤ sb + sd ∧ sb + sd ≤ 9223372036854775807) (hc_8 : ¬ (tb < sb + sd)) (hc_9 : -9223372036854775808 ≤ (i : Int) + 1 ∧ (i : Int) + (1 : Int) ≤ 9223372036854775807) :
    Runs Try.prog 2 65 (loopAt Try.prog 32 1) [(0, .ptr (some ⟨0, 0, 0, 0, 2⟩)), (3, .ptr (some ⟨2, 0, 0, 0, 4⟩)), (4, .ptr (some ⟨3, 0, 0, 0, 4⟩)), (5, .bool m), (13, .slice o n c), (14, .int .i64 n), (15, .int .i64 i)] (AHeap.rows 15 [(0, .made [.agg [.int .i64 C, .slice o n c]] 2 true), (1, bT), (2, .made [.agg [.int .i64 sa, .int .i64 sb, .int .i64 sc, .int .i64 sd]] 4 true), (3, .made [.agg [.int .i64 0, .int .i64 0, .int .i64 0, .int .i64 0]] 4 true)]) .normal [(0, .ptr (some ⟨0, 0, 0, 0, 2⟩)), (3, .ptr (some ⟨2, 0, 0, 0, 4⟩)), (4, .ptr (some ⟨3, 0, 0, 0, 4⟩)), (5, AVal.bool m), (13, .slice o n c), (14, .int .i64 (n : Int)), (15, .int .i64 ((i : Int) + 1))] (AHeap.rows 60 [(0, (.made ([.agg [.int .i64 (C : Int), .slice o n c]]) 2 true)), (1, bT), (2, (.made ([.agg [.int .i64 sa, .int .i64 sb, .int .i64 sc, .int .i64 sd]]) 4 true)), (3, (.made ([.agg [.int .i64 0, .int .i64 0, .int .i64 0, .int .i64 0]]) 4 true)), (18, (.made ([.agg [.int .i64 ta, .int .i64 tb, .int .i64 tc, .int .i64 td]]) 4 true))]) :=
  ppath_runs env_ok mixed (hs := [.val 6000 (.bool true), .val 7000 (.ptr (some ⟨1, v, 0 + i, 0, 4⟩)), .ld 7001 (.agg [.int .i64 ta, .int .i64 tb, .int .i64 tc, .int .i64 td]), .go 8006, .val 8007 (.bool true), .go 8015, .val 8016 (.bool true), .go 8025, .val 8026 (.bool false), .go 10000]) (keep := [0, 3, 4, 5, 13, 14, 15]) (by kernel_rfl) (All.cons (okT hc_0) (All.cons hc_1 (All.cons hc_2 (All.cons hc_3 (All.cons (okT hc_4) (All.cons hc_5 (All.cons (okT hc_6) (All.cons hc_7 (All.cons (okF hc_8) (All.cons hc_9 (All.nil)))))))))))

theorem dn_m3 (o : Option AAddr) (n c v i C : Nat) (bT : ABlk) (sa sb sc sd ta tb tc td : Int) (m : Bool) (hc_0 : (i : Int) < (n : Int)) (hc_1 : aindexAddr env.D 22 (.slice o n c) (.int .i64 (i : Int)) = some (.ptr (some ⟨1, v, 0 + i, 0, 4⟩))) (hc_2 : ABlk.elem? bT v (0 + i) = some (.agg [.int .i64 ta, .int .i64 tb, .int .i64 tc, .int .i64 td])) (hc_3 : -9223372036854775808 ≤ sa + sc ∧ sa + sc ≤ 9223372036854775807) (hc_4 : ta < sa + sc) (hc_5 : -9223372036854775808 ≤ ta + tc ∧ ta + tc ≤ 9223372036854775807) (hc_6 : sa < ta + tc) (hc_7 : -9223372036854775808 ≤ sb + sd ∧ sb + sd ≤ 9223372036854775807) (hc_8 : tb < sb + sd) (hc_9 : -9223372036854775808 ≤ tb + td ∧ tb + td ≤ 9223372036854775807) (hc_10 : ¬ (sb < tb + td)) (hc_11 : -9223372036854775808 ≤ (i : Int) + 1 ∧ (i : Int) + (1 : Int) ≤ 9223372036854775807) :
    Runs Try.prog 2 65 (loopAt Try.prog 32 1) [(0, .ptr (some ⟨0, 0, 0, 0, 2⟩)), (3, .ptr (some ⟨2, 0, 0, 0, 4⟩)), (4, .ptr (some ⟨3, 0, 0, 0, 4⟩)), (5, .bool m), (13, .slice o n c), (14, .int .i64 n), (15, .int .i64 i)] (AHeap.rows 15 [(0, .made [.agg [.int .i64 C, .slice o n c]] 2 true), (1, bT), (2, .made [.agg [.int .i64 sa, .int .i64 sb, .int .i64 sc, .int .i64 sd]] 4 true), (3, .made [.agg [.int .i64 0, .int .i64 0, .int .i64 0, .int .i64 0]] 4 true)]) .normal [(0, .ptr (some ⟨0, 0, 0, 0, 2⟩)), (3, .ptr (some ⟨2, 0, 0, 0, 4⟩)), (4, .ptr (some ⟨3, 0, 0, 0, 4⟩)), (5, AVal.bool m), (13, .slice o n c), (14, .int .i64 (n : Int)), (15, .int .i64 ((i : Int) + 1))] (AHeap.rows 60 [(0, (.made ([.agg [.int .i64 (C : Int), .slice o n c]]) 2 true)), (1, bT), (2, (.made ([.agg [.int .i64 sa, .int .i64 sb, .int .i64 sc, .int .i64 sd]]) 4 true)), (3, (.made ([.agg [.int .i64 0, .int .i64 0, .int .i64 0, .int .i64 0]]) 4 true)), (18, (.made ([.agg [.int .i64 ta, .int .i64 tb, .int .i64 tc, .int .i64 td]]) 4 true))]) :=
  ppath_runs env_ok mixed (hs := [.val 6000 (.bool true), .val 7000 (.ptr (some ⟨1, v, 0 + i, 0, 4⟩)), .ld 7001 (.agg [.int .i64 ta, .int .i64 tb, .int .i64 tc, .int .i64 td]), .go 8006, .val 8007 (.bool true), .go 8015, .val 8016 (.bool true), .go 8025, .val 8026 (.bool true), .go 8035, .val 8036 (.bool false), .go 10000]) (keep := [0, 3, 4, 5, 13, 14, 15]) (by kernel_rfl) (All.cons (okT hc_0) (All.cons hc_1 (All.cons hc_2 (All.cons hc_3 (All.cons (okT hc_4) (All.cons hc_5 (All.cons (okT hc_6) (All.cons hc_7 (All.cons (okT hc_8) (All.cons hc_9 (All.cons (okF hc_10) (All.cons hc_11 (All.nil)))))))))))))

theorem dn_y (o : Option AAddr) (n c v i C : Nat) (bT : ABlk) (sa sb sc sd ta tb tc td : Int) (m : Bool) (hc_0 : (i : Int) < (n : Int)) (hc_1 : aindexAddr env.D 22 (.slice o n c) (.int .i64 (i : Int)) = some (.ptr (some ⟨1, v, 0 + i, 0, 4⟩))) (hc_2 : ABlk.elem? bT v (0 + i) = some (.agg [.int .i64 ta, .int .i64 tb, .int .i64 tc, .int .i64 td])) (hc_3 : -9223372036854775808 ≤ sa + sc ∧ sa + sc ≤ 9223372036854775807) (hc_4 : ta < sa + sc) (hc_5 : -9223372036854775808 ≤ ta + tc ∧ ta + tc ≤ 9223372036854775807) (hc_6 : sa < ta + tc) (hc_7 : -9223372036854775808 ≤ sb + sd ∧ sb + sd ≤ 9223372036854775807) (hc_8 : tb < sb + sd) (hc_9 : -9223372036854775808 ≤ tb + td ∧ tb + td ≤ 9223372036854775807) (hc_10 : sb < tb + td) (hc_11 : -9223372036854775808 ≤ tb + td ∧ tb + td ≤ 9223372036854775807) (hc_12 : -9223372036854775808 ≤ (i : Int) + 1 ∧ (i : Int) + (1 : Int) ≤ 9223372036854775807) :
    Runs Try.prog 2 65 (loopAt Try.prog 32 1) [(0, .ptr (some ⟨0, 0, 0, 0, 2⟩)), (3, .ptr (some ⟨2, 0, 0, 0, 4⟩)), (4, .ptr (some ⟨3, 0, 0, 0, 4⟩)), (5, .bool m), (13, .slice o n c), (14, .int .i64 n), (15, .int .i64 i)] (AHeap.rows 15 [(0, .made [.agg [.int .i64 C, .slice o n c]] 2 true), (1, bT), (2, .made [.agg [.int .i64 sa, .int .i64 sb, .int .i64 sc, .int .i64 sd]] 4 true), (3, .made [.agg [.int .i64 0, .int .i64 0, .int .i64 0, .int .i64 0]] 4 true)]) .normal [(0, .ptr (some ⟨0, 0, 0, 0, 2⟩)), (3, .ptr (some ⟨2, 0, 0, 0, 4⟩)), (4, .ptr (some ⟨3, 0, 0, 0, 4⟩)), (5, AVal.bool true), (13, .slice o n c), (14, .int .i64 (n : Int)), (15, .int .i64 ((i : Int) + 1))] (AHeap.rows 68 [(0, (.made ([.agg [.int .i64 (C : Int), .slice o n c]]) 2 true)), (1, bT), (2, (.made ([.agg [.int .i64 sa, .int .i64 (tb + td), .int .i64 sc, .int .i64 sd]]) 4 true)), (3, (.made ([.agg [.int .i64 0, .int .i64 0, .int .i64 0, .int .i64 0]]) 4 true)), (18, (.made ([.agg [.int .i64 ta, .int .i64 tb, .int .i64 tc, .int .i64 td]]) 4 true))]) :=
  ppath_runs env_ok mixed (hs := [.val 6000 (.bool true), .val 7000 (.ptr (some ⟨1, v, 0 + i, 0, 4⟩)), .ld 7001 (.agg [.int .i64 ta, .int .i64 tb, .int .i64 tc, .int .i64 td]), .go 8006, .val 8007 (.bool true), .go 8015, .val 8016 (.bool true), .go 8025, .val 8026 (.bool true), .go 8035, .val 8036 (.bool true), .go 9004, .go 10000]) (keep := [0, 3, 4, 5, 13, 14, 15]) (by kernel_rfl) (All.cons (okT hc_0) (All.cons hc_1 (All.cons hc_2 (All.cons hc_3 (All.cons (okT hc_4) (All.cons hc_5 (All.cons (okT hc_6) (All.cons hc_7 (All.cons (okT hc_8) (All.cons hc_9 (All.cons (okT hc_10) (All.cons hc_11 (All.cons hc_12 (All.nil))))))))))))))

theorem dn_iend (o : Option AAddr) (n c v i C : Nat) (bT : ABlk) (sa sb sc sd ta tb tc td : Int) (m : Bool) (hc_0 : ¬ ((i : Int) < (n : Int))) :
    Runs Try.prog 2 65 (loopAt Try.prog 32 1) [(0, .ptr (some ⟨0, 0, 0, 0, 2⟩)), (3, .ptr (some ⟨2, 0, 0, 0, 4⟩)), (4, .ptr (some ⟨3, 0, 0, 0, 4⟩)), (5, .bool m), (13, .slice o n c), (14, .int .i64 n), (15, .int .i64 i)] (AHeap.rows 15 [(0, .made [.agg [.int .i64 C, .slice o n c]] 2 true), (1, bT), (2, .made [.agg [.int .i64 sa, .int .i64 sb, .int .i64 sc, .int .i64 sd]] 4 true), (3, .made [.agg [.int .i64 0, .int .i64 0, .int .i64 0, .int .i64 0]] 4 true)]) (.exit 2) [(0, .ptr (some ⟨0, 0, 0, 0, 2⟩)), (3, .ptr (some ⟨2, 0, 0, 0, 4⟩)), (4, .ptr (some ⟨3, 0, 0, 0, 4⟩)), (5, AVal.bool m)] (AHeap.rows 16 [(0, (.made ([.agg [.int .i64 (C : Int), .slice o n c]]) 2 true)), (1, bT), (2, (.made ([.agg [.int .i64 sa, .int .i64 sb, .int .i64 sc, .int .i64 sd]]) 4 true)), (3, (.made ([.agg [.int .i64 0, .int .i64 0, .int .i64 0, .int .i64 0]]) 4 true))]) :=
  ppath_runs env_ok mixed (hs := [.val 6000 (.bool false)]) (keep := [0, 3, 4, 5]) (by kernel_rfl) (All.cons (okF hc_0) (All.nil))

theorem dn_round (o : Option AAddr) (n c v i C : Nat) (bT : ABlk) (sa sb sc sd ta tb tc td : Int) (m : Bool) (hc_0 : Runs Try.prog 2 65 (.loop (loopAt Try.prog 32 1)) [(0, .ptr (some ⟨0, 0, 0, 0, 2⟩)), (3, .ptr (some ⟨2, 0, 0, 0, 4⟩)), (4, .ptr (some ⟨3, 0, 0, 0, 4⟩)), (5, AVal.bool false), (13, .slice o n c), (14, .int .i64 (n : Int)), (15, .int .i64 0)] (AHeap.rows 15 [(0, (.made ([.agg [.int .i64 (C : Int), .slice o n c]]) 2 true)), (1, bT), (2, (.made ([.agg [.int .i64 sa, .int .i64 sb, .int .i64 sc, .int .i64 sd]]) 4 true)), (3, (.made ([.agg [.int .i64 0, .int .i64 0, .int .i64 0, .int .i64 0]]) 4 true))]) (.exit 2) [(0, .ptr (some ⟨0, 0, 0, 0, 2⟩)), (3, .ptr (some ⟨2, 0, 0, 0, 4⟩)), (4, .ptr (some ⟨3, 0, 0, 0, 4⟩)), (5, AVal.bool m)] (AHeap.rows 16 [(0, (.made ([.agg [.int .i64 (C : Int), .slice o n c]]) 2 true)), (1, bT), (2, (.made ([.agg [.int .i64 ta, .int .i64 tb, .int .i64 tc, .int .i64 td]]) 4 true)), (3, (.made ([.agg [.int .i64 0, .int .i64 0, .int .i64 0, .int .i64 0]]) 4 true))])) :
    Runs Try.prog 2 65 (loopAt Try.prog 32 0) [(0, .ptr (some ⟨0, 0, 0, 0, 2⟩)), (3, .ptr (some ⟨2, 0, 0, 0, 4⟩)), (4, .ptr (some ⟨3, 0, 0, 0, 4⟩)), (5, .bool true)] (AHeap.rows 7 [(0, .made [.agg [.int .i64 C, .slice o n c]] 2 true), (1, bT), (2, .made [.agg [.int .i64 sa, .int .i64 sb, .int .i64 sc, .int .i64 sd]] 4 true), (3, .made [.agg [.int .i64 0, .int .i64 0, .int .i64 0, .int .i64 0]] 4 true)]) .normal [(0, .ptr (some ⟨0, 0, 0, 0, 2⟩)), (3, .ptr (some ⟨2, 0, 0, 0, 4⟩)), (4, .ptr (some ⟨3, 0, 0, 0, 4⟩)), (5, AVal.bool m)] (AHeap.rows 16 [(0, (.made ([.agg [.int .i64 (C : Int), .slice o n c]]) 2 true)), (1, bT), (2, (.made ([.agg [.int .i64 ta, .int .i64 tb, .int .i64 tc, .int .i64 td]]) 4 true)), (3, (.made ([.agg [.int .i64 0, .int .i64 0, .int .i64 0, .int .i64 0]]) 4 true))]) :=
  ppath_runs env_ok mixed (hs := [.keep [0, 3, 4, 5, 13, 14, 15], .loop [(0, .ptr (some ⟨0, 0, 0, 0, 2⟩)), (3, .ptr (some ⟨2, 0, 0, 0, 4⟩)), (4, .ptr (some ⟨3, 0, 0, 0, 4⟩)), (5, .bool m)] (AHeap.rows 16 [(0, .made [.agg [.int .i64 C, .slice o n c]] 2 true), (1, bT), (2, .made [.agg [.int .i64 ta, .int .i64 tb, .int .i64 tc, .int .i64 td]] 4 true), (3, .made [.agg [.int .i64 0, .int .i64 0, .int .i64 0, .int .i64 0]] 4 true)]) (.exit 2)]) (keep := [0, 3, 4, 5]) (by kernel_rfl) (All.cons hc_0 (All.nil))

theorem dn_last (o : Option AAddr) (n c v i C : Nat) (bT : ABlk) (sa sb sc sd ta tb tc td : Int) (m : Bool)  :
    Runs Try.prog 2 65 (loopAt Try.prog 32 0) [(0, .ptr (some ⟨0, 0, 0, 0, 2⟩)), (3, .ptr (some ⟨2, 0, 0, 0, 4⟩)), (4, .ptr (some ⟨3, 0, 0, 0, 4⟩)), (5, .bool false)] (AHeap.rows 7 [(0, .made [.agg [.int .i64 C, .slice o n c]] 2 true), (1, bT), (2, .made [.agg [.int .i64 sa, .int .i64 sb, .int .i64 sc, .int .i64 sd]] 4 true), (3, .made [.agg [.int .i64 0, .int .i64 0, .int .i64 0, .int .i64 0]] 4 true)]) (.exit 0) [(3, .ptr (some ⟨2, 0, 0, 0, 4⟩)), (4, .ptr (some ⟨3, 0, 0, 0, 4⟩))] (AHeap.rows 8 [(0, (.made ([.agg [.int .i64 (C : Int), .slice o n c]]) 2 true)), (1, bT), (2, (.made ([.agg [.int .i64 sa, .int .i64 sb, .int .i64 sc, .int .i64 sd]]) 4 true)), (3, (.made ([.agg [.int .i64 0, .int .i64 0, .int .i64 0, .int .i64 0]]) 4 true))]) :=
  ppath_runs env_ok mixed (hs := []) (keep := [3, 4]) (by kernel_rfl) (All.nil)

theorem dn_call (o : Option AAddr) (n c v i C : Nat) (bT : ABlk) (sa sb sc sd ta tb tc td : Int) (hc_0 : Runs Try.prog 2 65 (.loop (loopAt Try.prog 32 0)) [(0, .ptr (some ⟨0, 0, 0, 0, 2⟩)), (3, .ptr (some ⟨2, 0, 0, 0, 4⟩)), (4, .ptr (some ⟨3, 0, 0, 0, 4⟩)), (5, AVal.bool true)] (AHeap.rows 7 [(0, .made [.agg [.int .i64 (C : Int), .slice o n c]] 2 true), (1, bT), (2, (.made ([.agg [.int .i64 sa, .int .i64 0, .int .i64 sc, .int .i64 sd]]) 4 true)), (3, .made [.agg [.int .i64 0, .int .i64 0, .int .i64 0, .int .i64 0]] 4 true)]) (.exit 0) [(3, .ptr (some ⟨2, 0, 0, 0, 4⟩)), (4, .ptr (some ⟨3, 0, 0, 0, 4⟩))] (AHeap.rows 8 [(0, (.made ([.agg [.int .i64 (C : Int), .slice o n c]]) 2 true)), (1, bT), (2, (.made ([.agg [.int .i64 ta, .int .i64 tb, .int .i64 tc, .int .i64 td]]) 4 true)), (3, (.made ([.agg [.int .i64 0, .int .i64 0, .int .i64 0, .int .i64 0]]) 4 true))])) (hc_1 : aload env.D 28 ⟨3, 0, 0, 0, 4⟩ (AHeap.set (AHeap.rows 10 [(0, (.made ([.agg [.int .i64 (C : Int), .slice o n c]]) 2 true)), (1, bT), (2, (.made ([.agg [.int .i64 ta, .int .i64 tb, .int .i64 tc, .int .i64 td]]) 4 true)), (3, (.made ([.agg [.int .i64 0, .int .i64 0, .int .i64 0, .int .i64 0]]) 4 true))]) 3 (.made ([.agg [.int .i64 ta, .int .i64 tb, .int .i64 tc, .int .i64 td]]) 4 true)) = some (.agg [.int .i64 ta, .int .i64 tb, .int .i64 tc, .int .i64 td])) :
    FDoes Try.prog 32 [.ptr (some ⟨0, 0, 0, 0, 2⟩), .agg [.int .i64 sa, .int .i64 sb, .int .i64 sc, .int .i64 sd]] (AHeap.of [.made [.agg [.int .i64 C, .slice o n c]] 2 true, bT]) (.agg [.int .i64 ta, .int .i64 tb, .int .i64 tc, .int .i64 td]) (AHeap.set (AHeap.rows 10 [(0, (.made ([.agg [.int .i64 (C : Int), .slice o n c]]) 2 true)), (1, bT), (2, (.made ([.agg [.int .i64 ta, .int .i64 tb, .int .i64 tc, .int .i64 td]]) 4 true)), (3, (.made ([.agg [.int .i64 0, .int .i64 0, .int .i64 0, .int .i64 0]]) 4 true))]) 3 (.made ([.agg [.int .i64 ta, .int .i64 tb, .int .i64 tc, .int .i64 td]]) 4 true)) :=
  pcall_does env_ok mixed (hs := [.keep [0, 3, 4, 5], .loop [(3, .ptr (some ⟨2, 0, 0, 0, 4⟩)), (4, .ptr (some ⟨3, 0, 0, 0, 4⟩))] (AHeap.rows 8 [(0, .made [.agg [.int .i64 C, .slice o n c]] 2 true), (1, bT), (2, .made [.agg [.int .i64 ta, .int .i64 tb, .int .i64 tc, .int .i64 td]] 4 true), (3, .made [.agg [.int .i64 0, .int .i64 0, .int .i64 0, .int .i64 0]] 4 true)]) (.exit 0)]) (rs := [.cell (.agg [.int .i64 ta, .int .i64 tb, .int .i64 tc, .int .i64 td])]) (by kernel_rfl) (All.cons hc_0 (All.cons hc_1 (All.nil)))

end Go.Proofs.Ytcgcpmcjaeenlaa

namespace Go.Lift
noncomputable section
open Go.RowKit
set_option linter.unusedVariables false
set_option linter.unusedSimpArgs false

mutual
theorem AVal.ren_on {D : Nat → Prop} {r : Nat → Nat} (h : ∀ i, D i → r i = i) : ∀ {v : AVal}, Clo D v → v.ren r = v
  | .ptr (some a), k => by simp only [Clo] at k; simp only [AVal.ren, AAddr.ren, h _ k]
  | .slice (some a) _ _, k => by simp only [Clo] at k; simp only [AVal.ren, AAddr.ren, h _ k]
  | .func fn f c, k => by simp only [Clo] at k; simp only [AVal.ren, AVal.rens_on h k.1, AVal.rens_on h k.2]
  | .iface t v, k => by simp only [Clo] at k; simp only [AVal.ren, AVal.ren_on h k]
  | .agg cs, k => by simp only [Clo] at k; simp only [AVal.ren, AVal.rens_on h k]
  | .tuple vs, k => by simp only [Clo] at k; simp only [AVal.ren, AVal.rens_on h k]
  | .undef, _ => rfl
  | .bool _, _ => rfl
  | .int _ _, _ => rfl
  | .str _, _ => rfl
  | .ptr none, _ => rfl
  | .slice none _ _, _ => rfl
  | .nilFunc, _ => rfl
  | .nilIface, _ => rfl
theorem AVal.rens_on {D : Nat → Prop} {r : Nat → Nat} (h : ∀ i, D i → r i = i) : ∀ {l : List AVal}, Clos D l → AVal.rens r l = l
  | [], _ => rfl
  | a :: l, k => by simp only [Clos] at k; simp only [AVal.rens, AVal.ren_on h k.1, AVal.rens_on h k.2]
end

/-- a row that names none but these -/
def CloB (D : Nat → Prop) (b : ABlk) : Prop := ∀ e ∈ b.elems, Clo D e

theorem ABlk.ren_on {D : Nat → Prop} {r : Nat → Nat} (h : ∀ i, D i → r i = i) {b : ABlk} (k : CloB D b) : b.ren r = b := by
  unfold ABlk.ren
  have : b.elems.map (AVal.ren r) = b.elems := by
    conv => rhs; rw [← List.map_id b.elems]
    exact List.map_congr_left fun e he => AVal.ren_on h (k e he)
  rw [this]

/-- the rows at a path's end -/
theorem FDoes.closed {P : Program} {f : FuncId} {args : List AVal} {h' : AHeap} {v : AVal} {l l' : List ABlk} (k : FDoes P f args (AHeap.of l) v h') (hlen : l'.length = l.length) (hget : (List.range l'.length).map h'.get = l'.map some) (hv : Bare v)
    (hc : ∀ b ∈ l', CloB (fun i => i < l'.length) b) : FDoes P f args (AHeap.of l) v (AHeap.of l') := by
  have hfst : (idxd 0 l').map (·.1) = List.range l'.length := by rw [idxd_fst, List.range_eq_range']
  rw [AHeap.of_rows l']
  refine k.clean (fun i => i) v l'.length (idxd 0 l') ?_ (hv.1 _).symm ?_ ?_ ?_ ?_ (Nat.ble_eq.mpr ?_) (hv.clo _) ?_
  · have h1 : (idxd 0 l').map (fun p => h'.get p.1) = ((idxd 0 l').map (·.1)).map h'.get := by rw [List.map_map]; rfl
    have h2 : (idxd 0 l').map (fun p => some (p.2.ren fun i => i)) = ((idxd 0 l').map (·.2)).map some := by
      rw [List.map_map]; exact List.map_congr_left fun p _ => by rw [ABlk.ren_id]; rfl
    rw [h1, h2, hfst, idxd_snd, hget]
  · rw [List.all_eq_true]
    intro p hp
    have : p.1 ∈ (idxd 0 l').map (·.1) := List.mem_map.2 ⟨p, hp, rfl⟩
    rw [hfst] at this
    exact Nat.blt_eq.mpr (List.mem_range.1 this)
  · rw [hfst]; rw [List.map_id']; exact List.nodup_range
  · rw [List.all_eq_true, AHeap.of_next]
    intro i hi
    have hi := List.mem_range.1 hi
    rw [hfst, Bool.and_eq_true]
    exact ⟨by simp; omega, beq_true rfl⟩
  · rw [List.all_eq_true, AHeap.of_next]
    intro p hp
    have : p.1 ∈ (idxd 0 l').map (·.1) := List.mem_map.2 ⟨p, hp, rfl⟩
    rw [hfst] at this
    have hlt := List.mem_range.1 this
    rw [Bool.or_eq_true]
    exact .inl (Nat.blt_eq.mpr (by omega))
  · rw [AHeap.of_next]; omega
  · rw [hfst]
    have : ∀ (q : List (Nat × ABlk)), (∀ p ∈ q, CloB (fun i => i < l'.length) p.2) → All (q.map fun p => ∀ e ∈ p.2.elems, Clo (Ids (List.range l'.length)) e) := by
      intro q
      induction q with
      | nil => intro _; exact All.nil
      | cons p r ih =>
        intro hq
        exact All.cons (fun e he => Clo.mono (fun i hi => List.mem_range.2 hi) (hq p (by simp) e he)) (ih fun p hp => hq p (by simp [hp]))
    refine this _ fun p hp => hc p.2 ?_
    have : p.2 ∈ (idxd 0 l').map (·.2) := List.mem_map.2 ⟨p, hp, rfl⟩
    rwa [idxd_snd] at this

end
end Go.Lift

namespace Go.Lift
noncomputable section
open Go.RowKit
set_option linter.unusedVariables false
set_option linter.unusedSimpArgs false

theorem FDoes.finC {P : Program} {f : FuncId} {args : List AVal} {h' : AHeap} {v : AVal} {l : List ABlk} (k : FDoes P f args (AHeap.of l) v h') (js : List Nat) (l' : List ABlk) (v2 : AVal) (hb' : ∀ b ∈ l', CloB (fun i => i < l.length) b)
    (hlen : l'.length = l.length + js.length) (hget : (List.range l'.length).map (fun i => h'.get (finR l.length js i)) = l'.map some) (hv : v = v2.ren (finR l.length js)) (hvc : Clo (fun i => i < l'.length) v2)
    (hjs : js.all (fun j => Nat.ble l.length j) = true) (hnd : js.Nodup) : FDoes P f args (AHeap.of l) v2 (AHeap.of l') := by
  have hfst : (idxd 0 l').map (·.1) = List.range l'.length := by rw [idxd_fst, List.range_eq_range']
  have hge : ∀ j ∈ js, l.length ≤ j := fun j hj => Nat.le_of_ble_eq_true (List.all_eq_true.1 hjs j hj)
  have hfix : ∀ i, i < l.length → finR l.length js i = i := fun i hi => by simp [finR, hi]
  have hhi : ∀ i, l.length ≤ i → i < l'.length → ∃ (h : i - l.length < js.length), finR l.length js i = js[i - l.length] := by
    intro i h1 h2
    have h3 : i - l.length < js.length := by omega
    exact ⟨h3, by simp only [finR, if_neg (show ¬ i < l.length by omega), List.getElem?_eq_getElem h3, Option.getD_some]⟩
  rw [AHeap.of_rows l']
  refine k.clean (finR l.length js) v2 l'.length (idxd 0 l') ?_ hv ?_ ?_ ?_ ?_ (Nat.ble_eq.mpr ?_) ?_ ?_
  · have h1 : (idxd 0 l').map (fun p => h'.get (finR l.length js p.1)) = ((idxd 0 l').map (·.1)).map (fun i => h'.get (finR l.length js i)) := by rw [List.map_map]; rfl
    have h2 : (idxd 0 l').map (fun p => some (p.2.ren (finR l.length js))) = ((idxd 0 l').map (·.2)).map (fun b => some (b.ren (finR l.length js))) := by rw [List.map_map]; rfl
    rw [h1, h2, hfst, idxd_snd, hget]
    exact List.map_congr_left fun b hm => by rw [ABlk.ren_on hfix (hb' b hm)]
  · rw [List.all_eq_true]
    intro p hp
    have : p.1 ∈ (idxd 0 l').map (·.1) := List.mem_map.2 ⟨p, hp, rfl⟩
    rw [hfst] at this
    exact Nat.blt_eq.mpr (List.mem_range.1 this)
  · rw [hfst]
    refine List.Nodup.map_on' ?_
    intro a ha b hb e
    have ha := List.mem_range.1 ha
    have hb := List.mem_range.1 hb
    by_cases c1 : a < l.length <;> by_cases c2 : b < l.length
    · simpa [finR, c1, c2] using e
    · obtain ⟨h3, h4⟩ := hhi b (by omega) hb
      rw [h4, show finR l.length js a = a by simp [finR, c1]] at e
      have := hge _ (List.getElem_mem h3); omega
    · obtain ⟨h3, h4⟩ := hhi a (by omega) ha
      rw [h4, show finR l.length js b = b by simp [finR, c2]] at e
      have := hge _ (List.getElem_mem h3); omega
    · obtain ⟨h3, h4⟩ := hhi a (by omega) ha
      obtain ⟨h5, h6⟩ := hhi b (by omega) hb
      rw [h4, h6] at e
      have := (List.getElem_inj hnd).1 e; omega
  · rw [List.all_eq_true, AHeap.of_next]
    intro i hi
    have hi := List.mem_range.1 hi
    rw [hfst, Bool.and_eq_true]
    exact ⟨by simp; omega, beq_true (by simp [finR, hi])⟩
  · rw [List.all_eq_true, AHeap.of_next]
    intro p hp
    have : p.1 ∈ (idxd 0 l').map (·.1) := List.mem_map.2 ⟨p, hp, rfl⟩
    rw [hfst] at this
    have hlt := List.mem_range.1 this
    rw [Bool.or_eq_true]
    by_cases c : p.1 < l.length
    · exact .inl (Nat.blt_eq.mpr c)
    · obtain ⟨h3, h4⟩ := hhi p.1 (by omega) hlt
      exact .inr (Nat.ble_eq.mpr (by rw [h4]; exact hge _ (List.getElem_mem h3)))
  · rw [AHeap.of_next]; omega
  · rw [hfst]; exact Clo.mono (fun i hi => List.mem_range.2 hi) hvc
  · intro p hp
    obtain ⟨q, hq, rfl⟩ := List.mem_map.1 hp
    intro e he
    have hm : q.2 ∈ l' := by
      have : q.2 ∈ (idxd 0 l').map (·.2) := List.mem_map.2 ⟨q, hq, rfl⟩
      rwa [idxd_snd] at this
    rw [hfst]
    exact Clo.mono (fun i hi => List.mem_range.2 (by omega)) (hb' q.2 hm e he)

/-- into every memory: rows that name rows -/
theorem FDoes.upG {P : Program} {f : FuncId} {args : List AVal} {v : AVal} {l l' : List ABlk} (k : FDoes P f args (AHeap.of l) v (AHeap.of l')) (hb : ∀ b ∈ l, CloB (fun i => i < l.length) b) (hll : l.length ≤ l'.length) (ha : Clos (fun i => i < l.length) args)
    {H H' : AHeap} (ids : List Nat) (hn : ids.Nodup) (hlt : ∀ j ∈ ids, j < H.next) (hl : ids.map H.get = l.map (fun b => some (b.ren (toBig ids H.next)))) (hnext : H'.next = H.next + (l'.length - l.length)) (hat : ∀ i, i < l'.length → H'.get (toBig ids H.next i) = (l'[i]?).map (ABlk.ren (toBig ids H.next)))
    (hout : ∀ j, j < H.next → j ∉ ids → H'.get j = H.get j) : FDoes P f (args.map (AVal.ren (toBig ids H.next))) H (v.ren (toBig ids H.next)) H' := by
  have hlen : ids.length = l.length := by have := congrArg List.length hl; simpa using this
  have hbig : ∀ i (hi : i < ids.length), toBig ids H.next i = ids[i] := fun i hi => by simp [toBig, List.getElem?_eq_getElem hi]
  refine k.frame (r := toBig ids H.next) ⟨?_, ?_, ?_⟩ ?_ ?_ ?_ ?_ ?_
  · intro i b hg
    rw [AHeap.of_get] at hg
    have hi := (List.getElem?_eq_some_iff.1 hg).1
    refine ⟨by rw [AHeap.of_next]; exact hi, ?_⟩
    rw [hbig i (by omega)]
    have h1 := congrArg (fun (x : List (Option ABlk)) => x[i]?) hl
    simp only [List.getElem?_map, List.getElem?_eq_getElem (show i < ids.length by omega), Option.map_some, hg, Option.some.injEq] at h1
    exact h1
  · intro i j hi hj e
    rw [AHeap.of_in] at hi hj
    rw [hbig i (by omega), hbig j (by omega)] at e
    exact (List.getElem_inj hn).1 e
  · intro i b hg e he
    rw [AHeap.of_get] at hg
    exact Clo.mono (fun i hi => AHeap.of_in.2 hi) (hb b (List.mem_of_getElem? hg) e he)
  · exact Clos.mono (fun i hi => AHeap.of_in.2 hi) ha
  · intro i hi
    rw [AHeap.of_next] at hi
    simp only [toBig, List.getElem?_eq_none (show ids.length ≤ i by omega), AHeap.of_next, hlen]
  · intro i b hg _
    rw [AHeap.of_get] at hg
    rw [hat i (List.getElem?_eq_some_iff.1 hg).1, hg]; rfl
  · rw [hnext]; simp
  · intro j hj hne
    refine hout j hj fun hm => ?_
    obtain ⟨i, hi, e⟩ := List.mem_iff_getElem.1 hm
    exact hne i (AHeap.of_in.2 (by omega)) (by rw [hbig i hi]; exact e)

/-- nothing is written, and a plain value comes: in every memory -/
theorem FDoes.pureC {P : Program} {f : FuncId} {args : List AVal} {h' : AHeap} {v : AVal} {l : List ABlk} (k : FDoes P f args (AHeap.of l) v h') (hb : ∀ b ∈ l, CloB (fun i => i < l.length) b) (hget : (List.range l.length).map h'.get = l.map some) (hv : Bare v)
    (ha : Clos (fun i => i < l.length) args) {H : AHeap} (ids : List Nat) (hn : ids.Nodup) (hlt : ∀ j ∈ ids, j < H.next) (hl : ids.map H.get = l.map (fun b => some (b.ren (toBig ids H.next)))) : FDoes P f (args.map (AVal.ren (toBig ids H.next))) H v H := by
  have hlen : ids.length = l.length := by have := congrArg List.length hl; simpa using this
  have k1 := k.finC [] l v hb (by simp) (by
    rw [← hget]
    exact List.map_congr_left fun i hi => by rw [show finR l.length [] i = i by simp [finR, List.mem_range.1 hi]]) (hv.1 _).symm (hv.clo _) rfl (by simp)
  have k2 := k1.upG (H' := H) hb (Nat.le_refl _) ha ids hn hlt hl (by simp) (fun i hi => by
    have h1 := congrArg (fun (x : List (Option ABlk)) => x[i]?) hl
    simp only [List.getElem?_map, List.getElem?_eq_getElem (show i < ids.length by omega), List.getElem?_eq_getElem hi, Option.map_some, Option.some.injEq] at h1
    simp only [toBig, List.getElem?_eq_getElem (show i < ids.length by omega)]
    rw [h1, List.getElem?_eq_getElem hi]; rfl) (fun _ _ _ => rfl)
  rwa [hv.1] at k2

/-- nothing is written, and one new row comes: in every memory -/
theorem FDoes.newC {P : Program} {f : FuncId} {args : List AVal} {h' : AHeap} {v v2 : AVal} {l : List ABlk} {bn : ABlk} {j : Nat} (k : FDoes P f args (AHeap.of l) v h') (hb : ∀ b ∈ l, CloB (fun i => i < l.length) b) (hbn : BareB bn)
    (hget : (List.range l.length).map h'.get = l.map some) (hnew : h'.get j = some bn) (hj : l.length ≤ j) (hv : v = v2.ren (finR l.length [j])) (hvc : Clo (fun i => i < l.length + 1) v2)
    (ha : Clos (fun i => i < l.length) args) {H : AHeap} (ids : List Nat) (hn : ids.Nodup) (hlt : ∀ j ∈ ids, j < H.next) (hl : ids.map H.get = l.map (fun b => some (b.ren (toBig ids H.next)))) :
    FDoes P f (args.map (AVal.ren (toBig ids H.next))) H (v2.ren (toBig ids H.next)) (H.upd [] [bn]) := by
  have hlen : ids.length = l.length := by have := congrArg List.length hl; simpa using this
  have k1 := k.finC [j] (l ++ [bn]) v2 (fun b hm => (List.mem_append.1 hm).elim (hb b) (fun h => by rw [List.mem_singleton.1 h]; exact fun e he => (hbn e he).clo _)) (by simp) (by
    rw [List.length_append, List.length_singleton, List.range_succ, List.map_append, List.map_append]
    congr 1
    · rw [← hget]
      exact List.map_congr_left fun i hi => by rw [show finR l.length [j] i = i by simp [finR, List.mem_range.1 hi]]
    · simp [finR, hnew]) hv (by simpa using hvc) (by simp [hj]) (by simp)
  refine k1.upG (H' := H.upd [] [bn]) hb (by simp) ha ids hn hlt hl ?_ ?_ ?_
  · show (AHeap.updFrom [] [bn] H).next = _
    rw [AHeap.updFrom_next [] [bn] H (by simp)]; simp
  · intro i hi
    show (AHeap.updFrom [] [bn] H).get _ = _
    by_cases c : i < ids.length
    · have h1 := congrArg (fun (x : List (Option ABlk)) => x[i]?) hl
      simp only [List.getElem?_map, List.getElem?_eq_getElem c, List.getElem?_eq_getElem (show i < l.length by omega), Option.map_some, Option.some.injEq] at h1
      simp only [toBig, List.getElem?_eq_getElem c]
      rw [AHeap.updFrom_out [] [bn] H _ (by simp) (hlt _ (List.getElem_mem c)) (by simp), h1, List.getElem?_append_left (by omega), List.getElem?_eq_getElem (show i < l.length by omega)]; rfl
    · have e : toBig ids H.next i = toBig [] H.next (i - ids.length) := by simp [toBig, List.getElem?_eq_none (show ids.length ≤ i by omega)]
      rw [List.length_append] at hi
      rw [e, AHeap.updFrom_at [] [bn] H (i - ids.length) (by simp) (by simp) (by simp) (by simp at hi ⊢; omega), List.getElem?_append_right (by omega), hlen]
      have : i - l.length = 0 := by simp at hi; omega
      rw [this]
      simp only [List.getElem?_cons_zero, Option.map_some]
      rw [hbn.ren]
  · intro j hj hm
    exact AHeap.updFrom_out [] [bn] H j (by simp) hj (by simp)
end
end Go.Lift

namespace Go.Proofs.Ytcgcpmcjaeenlaa
open Go.Lift
set_option maxRecDepth 1000000
set_option linter.unusedSimpArgs false
set_option linter.unusedVariables false
set_option linter.unusedSectionVars false

/-- a list of spans in a row -/
def ElT (bT : ABlk) (v : Nat) (T : List Qd) : Prop := ∀ (j : Nat) (t : Qd), T[j]? = some t → bT.elem? v (0 + j) = some t.val
/-- the board's row -/
def brdRow (C : Nat) (o : Option AAddr) (n c : Nat) : ABlk := .made [.agg [.int .i64 C, .slice o n c]] 2 true

/-- the board, and what is taken, in a memory -/
structure BoardAt (H : AHeap) (ib iT C : Nat) (o : Option AAddr) (n c v : Nat) (bT : ABlk) (T : List Qd) : Prop where
  gb : H.get ib = some (brdRow C o n c)
  gT : H.get iT = some bT
  sl : SlArg o n c iT v 0 4
  ne : ib ≠ iT
  lb : ib < H.next
  lT : iT < H.next
  bare : BareB bT
  len : T.length = n
  el : ElT bT v T

/-- numbers that do not run over -/
def Small (s : Qd) : Prop := (-2 ^ 40 ≤ s.a ∧ s.a ≤ 2 ^ 40) ∧ (-2 ^ 40 ≤ s.b ∧ s.b ≤ 2 ^ 40) ∧ (-2 ^ 40 ≤ s.c ∧ s.c ≤ 2 ^ 40) ∧ (-2 ^ 40 ≤ s.d ∧ s.d ≤ 2 ^ 40)
theorem GoodT.small {cols M : Int} {T : List Qd} (h : GoodT cols M T) (hc : cols ≤ 64) (hM : M ≤ 2 ^ 39) : ∀ t, t ∈ T → Small t := fun t ht => by
  have := h t ht
  unfold Small; omega

theorem brd_clo {C : Nat} {o : Option AAddr} {n c v : Nat} (hs : SlArg o n c 1 v 0 4) : CloB (fun i => i < 2) (brdRow C o n c) := by
  intro e he
  simp [brdRow, ABlk.made] at he
  subst he
  simp [Clo, Clos]
  exact hs.clo (by omega)
theorem bare_clo2 {b : ABlk} (h : BareB b) : CloB (fun i => i < 2) b := fun e he => (h e he).clo _

/-- a method that only reads the board: in every memory -/
theorem BoardAt.pure {H : AHeap} {ib iT C : Nat} {o : Option AAddr} {n c v : Nat} {bT : ABlk} {T : List Qd} (h : BoardAt H ib iT C o n c v bT T) {f : Nat} {args : List AVal} {w : AVal} {h' : AHeap}
    (k : FDoes Try.prog f (.ptr (some ⟨0, 0, 0, 0, 2⟩) :: args) (AHeap.of [brdRow C (o.map fun a => { a with id := 1 }) n c, bT]) w h') (hg : [h'.get 0, h'.get 1] = [some (brdRow C (o.map fun a => { a with id := 1 }) n c), some bT]) (hw : Bare w) (ha : ∀ a, a ∈ args → Bare a) :
    FDoes Try.prog f (.ptr (some ⟨ib, 0, 0, 0, 2⟩) :: args) H w H := by
  have s1 := h.sl.at 1
  have kk := k.pureC (by simp; exact ⟨brd_clo s1, bare_clo2 h.bare⟩) hg hw (by
    simp only [Clos]
    refine ⟨by simp [Clo], ?_⟩
    clear k
    induction args with
    | nil => trivial
    | cons a r ih => exact ⟨(ha a (by simp)).clo _, ih fun b hb => ha b (by simp [hb])⟩) (H := H) [ib, iT] (by simp [h.ne]) (by simp [h.lb, h.lT]) (by
    have e1 : (brdRow C (o.map fun a => { a with id := 1 }) n c).ren (toBig [ib, iT] H.next) = brdRow C o n c := by
      rcases h.sl with rfl | ⟨rfl, rfl, rfl⟩ <;> simp [brdRow, ABlk.ren, ABlk.made, AVal.ren, AVal.rens, AAddr.ren, toBig]
    simp [h.gb, h.gT, e1, h.bare.ren])
  have e2 : args.map (AVal.ren (toBig [ib, iT] H.next)) = args := by
    conv => rhs; rw [← List.map_id args]
    exact List.map_congr_left fun a hm => (ha a hm).1 _
  simpa [AVal.ren, AAddr.ren, toBig, e2] using kk

theorem fit_add {a b : Int} (ha : -2 ^ 40 ≤ a ∧ a ≤ 2 ^ 40) (hb : -2 ^ 40 ≤ b ∧ b ≤ 2 ^ 40) : -9223372036854775808 ≤ a + b ∧ a + b ≤ 9223372036854775807 := by omega

def HitEnds (C n c : Nat) (o : Option AAddr) (bT : ABlk) (T : List Qd) (s : Qd) (i : Nat) : Prop :=
    (FreeZ T s ∧ Loops Try.prog 2 58 (loopAt Try.prog 53 0) [(3, .ptr (some ⟨2, 0, 0, 0, 4⟩)), (4, .ptr (some ⟨3, 0, 0, 0, 4⟩)), (11, .slice o n c), (12, .int .i64 n), (13, .int .i64 i)] (AHeap.rows 11 [(0, brdRow C o n c), (1, bT), (2, .made [s.val] 4 true), (3, .made [Qd0.val] 4 true)])
      (.exit 0) [(4, .ptr (some ⟨3, 0, 0, 0, 4⟩))] (AHeap.rows 12 [(0, brdRow C o n c), (1, bT), (3, .made [Qd0.val] 4 true)])) ∨
    (∃ t, t ∈ T ∧ MeetsZ t s ∧ Loops Try.prog 2 58 (loopAt Try.prog 53 0) [(3, .ptr (some ⟨2, 0, 0, 0, 4⟩)), (4, .ptr (some ⟨3, 0, 0, 0, 4⟩)), (11, .slice o n c), (12, .int .i64 n), (13, .int .i64 i)] (AHeap.rows 11 [(0, brdRow C o n c), (1, bT), (2, .made [s.val] 4 true), (3, .made [Qd0.val] 4 true)])
      .ret [(4, .ptr (some ⟨3, 0, 0, 0, 4⟩)), (5, .bool true)] (AHeap.rows 60 [(0, brdRow C o n c), (1, bT), (3, .made [t.val] 4 true)]))

section
variable {C n c v : Nat} {o : Option AAddr} (hs : SlArg o n c 1 v 0 4) {bT : ABlk} (hb : BareB bT) {T : List Qd} (hl : T.length = n) (hel : ElT bT v T) (hT : ∀ t, t ∈ T → Small t) (hn : n ≤ 2 ^ 40)
include hs hb hl hel hT hn

theorem hit_loop {s : Qd} (hs1 : Small s) : ∀ (f i : Nat), i + f = n → (∀ j t, j < i → T[j]? = some t → ¬ MeetsZ t s) → HitEnds C n c o bT T s i
  | 0, i, e, hp => by
    obtain rfl : i = n := by omega
    refine .inl ⟨fun t ht hm => ?_, ?_⟩
    · obtain ⟨j, hj, e1⟩ := List.mem_iff_getElem.1 ht
      exact hp j t (by omega) (by rw [List.getElem?_eq_getElem hj, e1]) hm
    · refine (Loops.last (by simp) (hit_end o i c v i C bT s.a s.b s.c s.d 0 0 0 0 (by omega))).post ?_
      exact Ent.drop (by kernel_rfl) (by kernel_rfl) (by kernel_rfl) (by kernel_rfl) (by simp [All_cons, All_nil, Clo, Ids]) (by
        simp only [List.map, All_cons, All_nil, and_true]
        exact ⟨fun e he => by simp [brdRow, ABlk.made] at he; subst he; simp [Clo, Clos]; exact hs.clo (by simp [Ids]), hb.clo _, fun e he => by simp [ABlk.made] at he; subst he; exact (Qd.bare _).clo _⟩)
  | f + 1, i, e, hp => by
    have hi : i < n := by omega
    obtain ⟨t, ht⟩ : ∃ t, T[i]? = some t := ⟨T[i], List.getElem?_eq_getElem (by omega)⟩
    have htm : t ∈ T := List.mem_of_getElem? ht
    have st := hT t htm
    have ce : ∀ (K : Nat) (x : ABlk), Ent 2 58 [(3, .ptr (some ⟨2, 0, 0, 0, 4⟩)), (4, .ptr (some ⟨3, 0, 0, 0, 4⟩)), (11, .slice o n c), (12, .int .i64 n), (13, .int .i64 (i + 1 : Nat))] (AHeap.rows K [(0, brdRow C o n c), (1, bT), (2, .made [s.val] 4 true), (3, .made [Qd0.val] 4 true), (14, x)])
        [(3, .ptr (some ⟨2, 0, 0, 0, 4⟩)), (4, .ptr (some ⟨3, 0, 0, 0, 4⟩)), (11, .slice o n c), (12, .int .i64 n), (13, .int .i64 (i + 1 : Nat))] (AHeap.rows 11 [(0, brdRow C o n c), (1, bT), (2, .made [s.val] 4 true), (3, .made [Qd0.val] 4 true)]) := fun K x => by
      have hc : Clo (Ids [0, 1, 2, 3]) (.slice o n c) := hs.clo (by simp [Ids])
      exact Ent.drop (by kernel_rfl) (by kernel_rfl) (by kernel_rfl) (by kernel_rfl) (by simp [All_cons, All_nil, Clo, hc]; simp [Ids]) (by
        simp only [List.map, All_cons, All_nil, and_true]
        exact ⟨fun e he => by simp [brdRow, ABlk.made] at he; subst he; simp [Clo, Clos]; exact hc, hb.clo _, fun e he => by simp [ABlk.made] at he; subst he; exact (Qd.bare _).clo _, fun e he => by simp [ABlk.made] at he; subst he; exact (Qd.bare _).clo _⟩)
    have go : ¬ MeetsZ t s → (∀ {K : Nat} {x : ABlk}, Runs Try.prog 2 58 (loopAt Try.prog 53 0) [(3, .ptr (some ⟨2, 0, 0, 0, 4⟩)), (4, .ptr (some ⟨3, 0, 0, 0, 4⟩)), (11, .slice o n c), (12, .int .i64 n), (13, .int .i64 i)] (AHeap.rows 11 [(0, brdRow C o n c), (1, bT), (2, .made [s.val] 4 true), (3, .made [Qd0.val] 4 true)]) .normal
        [(3, .ptr (some ⟨2, 0, 0, 0, 4⟩)), (4, .ptr (some ⟨3, 0, 0, 0, 4⟩)), (11, .slice o n c), (12, .int .i64 n), (13, .int .i64 (i + 1 : Nat))] (AHeap.rows K [(0, brdRow C o n c), (1, bT), (2, .made [s.val] 4 true), (3, .made [Qd0.val] 4 true), (14, x)]) → HitEnds C n c o bT T s i) := fun hm K x r => by
      have hp2 : ∀ j u, j < i + 1 → T[j]? = some u → ¬ MeetsZ u s := fun j u hj hu => by
        by_cases c : j = i
        · subst c; rw [ht] at hu; cases hu; exact hm
        · exact hp j u (by omega) hu
      rcases hit_loop hs1 f (i + 1) (by omega) hp2 with ⟨a, l⟩ | ⟨u, a1, a2, l⟩
      · exact Or.inl (And.intro a (Loops.round r (ce K x) l))
      · exact Or.inr ⟨u, a1, a2, Loops.round r (ce K x) l⟩
    have c1 : (i : Int) < n := by omega
    have c2 := ix_spS (k := .i64) hs hi
    have c3 := hel i t ht
    have f1 := fit_add hs1.1 hs1.2.2.1
    have f2 := fit_add st.1 st.2.2.1
    have f3 := fit_add hs1.2.1 hs1.2.2.2
    have f4 := fit_add st.2.1 st.2.2.2
    have f5 : -9223372036854775808 ≤ (i : Int) + 1 ∧ (i : Int) + (1 : Int) ≤ 9223372036854775807 := by omega
    by_cases m1 : t.a < s.a + s.c
    · by_cases m2 : s.a < t.a + t.c
      · by_cases m3 : t.b < s.b + s.d
        · by_cases m4 : s.b < t.b + t.d
          · refine .inr ⟨t, htm, ⟨m1, m2, m3, m4⟩, ?_⟩
            refine (Loops.last (by simp) (hit_y o n c v i C bT s.a s.b s.c s.d t.a t.b t.c t.d c1 c2 c3 f1 m1 f2 m2 f3 m3 f4 m4)).post ?_
            exact Ent.drop (by kernel_rfl) (by kernel_rfl) (by kernel_rfl) (by kernel_rfl) (by simp [All_cons, All_nil, Clo, Ids]) (by
              simp only [List.map, All_cons, All_nil, and_true]
              exact ⟨fun e he => by simp [brdRow, ABlk.made] at he; subst he; simp [Clo, Clos]; exact hs.clo (by simp [Ids]), hb.clo _, fun e he => by simp [ABlk.made] at he; subst he; exact (Qd.bare _).clo _⟩)
          · exact go (fun h => m4 h.2.2.2) (hit_m3 o n c v i C bT s.a s.b s.c s.d t.a t.b t.c t.d c1 c2 c3 f1 m1 f2 m2 f3 m3 f4 m4 f5)
        · exact go (fun h => m3 h.2.2.1) (hit_m2 o n c v i C bT s.a s.b s.c s.d t.a t.b t.c t.d c1 c2 c3 f1 m1 f2 m2 f3 m3 f5)
      · exact go (fun h => m2 h.2.1) (hit_m1 o n c v i C bT s.a s.b s.c s.d t.a t.b t.c t.d c1 c2 c3 f1 m1 f2 m2 f5)
    · exact go (fun h => m1 h.1) (hit_m0 o n c v i C bT s.a s.b s.c s.d t.a t.b t.c t.d c1 c2 c3 f1 m1 f5)
end

theorem tup2 (q : Qd) (b : Bool) : Bare (.tuple [q.val, .bool b]) := ⟨fun r => by simp [AVal.ren, AVal.rens, (Qd.bare q).1], by simp [Clo, Clos]; exact (Qd.bare q).2⟩

/-- grid.board.hit -/
theorem hit_does {H : AHeap} {ib iT C : Nat} {o : Option AAddr} {n c v : Nat} {bT : ABlk} {T : List Qd} (h : BoardAt H ib iT C o n c v bT T) (hT : ∀ t, t ∈ T → Small t) (hn : n ≤ 2 ^ 40) {s : Qd} (hs : Small s) :
    (FreeZ T s ∧ FDoes Try.prog 53 [.ptr (some ⟨ib, 0, 0, 0, 2⟩), s.val] H (.tuple [Qd0.val, .bool false]) H) ∨ (∃ t, t ∈ T ∧ MeetsZ t s ∧ FDoes Try.prog 53 [.ptr (some ⟨ib, 0, 0, 0, 2⟩), s.val] H (.tuple [t.val, .bool true]) H) := by
  have s1 := h.sl.at 1
  rcases hit_loop (C := C) s1 h.bare h.len h.el hT hn hs n 0 (by omega) (fun j t hj _ => by omega) with ⟨a, l⟩ | ⟨t, a1, a2, l⟩
  · exact .inl ⟨a, h.pure (hit_call_no _ n c v 0 C bT s.a s.b s.c s.d 0 0 0 0 (Runs.of_loops l) (by kernel_rfl)) (by kernel_rfl) (tup2 _ _) (by simp [Qd.bare])⟩
  · exact .inr ⟨t, a1, a2, h.pure (hit_call_yes _ n c v 0 C bT s.a s.b s.c s.d t.a t.b t.c t.d (Runs.of_loops l) (by kernel_rfl)) (by kernel_rfl) (tup2 _ _) (by simp [Qd.bare])⟩

end Go.Proofs.Ytcgcpmcjaeenlaa

namespace Go.Proofs.Ytcgcpmcjaeenlaa
open Go.Lift
set_option maxRecDepth 1000000
set_option linter.unusedSimpArgs false
set_option linter.unusedVariables false
set_option linter.unusedSectionVars false

theorem brd_cloI {C : Nat} {o : Option AAddr} {n c : Nat} {D : Nat → Prop} (h : Clo D (.slice o n c)) : ∀ e ∈ (brdRow C o n c).elems, Clo D e := by
  intro e he
  simp [brdRow, ABlk.made] at he
  subst he
  simp [Clo, Clos]
  exact h
theorem qd_cloI (q : Qd) (D : Nat → Prop) : ∀ e ∈ (ABlk.made [q.val] 4 true).elems, Clo D e := by
  intro e he
  simp [ABlk.made] at he
  subst he
  exact (Qd.bare _).clo _

/-- the four rows of a method of the board -/
noncomputable def h4 (K C : Nat) (o : Option AAddr) (n c : Nat) (bT : ABlk) (s t : Qd) : AHeap := AHeap.rows K [(0, brdRow C o n c), (1, bT), (2, .made [s.val] 4 true), (3, .made [t.val] 4 true)]

section
variable {C n c v : Nat} {o : Option AAddr} (hs : SlArg o n c 1 v 0 4) {bT : ABlk} (hb : BareB bT) {T : List Qd} (hl : T.length = n) (hel : ElT bT v T) {M : Int} (hT : GoodT C M T) (hC : C ≤ 64) (hM : 0 ≤ M ∧ M ≤ 2 ^ 39) (hn : n ≤ 2 ^ 40)
include hs hb hl hel hT hC hM hn

def AcEnds (C n c : Nat) (o : Option AAddr) (bT : ABlk) (T : List Qd) (s : Qd) (x : Int) : Prop :=
  (∃ r, AcrossZ T C s r ∧ Loops Try.prog 2 35 (loopAt Try.prog 31 0) [(0, .ptr (some ⟨0, 0, 0, 0, 2⟩)), (3, .ptr (some ⟨2, 0, 0, 0, 4⟩)), (4, .ptr (some ⟨3, 0, 0, 0, 4⟩))] (h4 6 C o n c bT (s.col x) Qd0) .ret [(4, .ptr (some ⟨3, 0, 0, 0, 4⟩))] (AHeap.rows 16 [(0, brdRow C o n c), (1, bT), (3, .made [r.val] 4 true)])) ∨
  (AcrossZ T C s (s.col 0) ∧ ∃ x', Loops Try.prog 2 35 (loopAt Try.prog 31 0) [(0, .ptr (some ⟨0, 0, 0, 0, 2⟩)), (3, .ptr (some ⟨2, 0, 0, 0, 4⟩)), (4, .ptr (some ⟨3, 0, 0, 0, 4⟩))] (h4 6 C o n c bT (s.col x) Qd0) (.exit 0) [(3, .ptr (some ⟨2, 0, 0, 0, 4⟩)), (4, .ptr (some ⟨3, 0, 0, 0, 4⟩))] (h4 16 C o n c bT (s.col x') Qd0))

theorem ac_loop {s : Qd} (hsm : Small s) (hsc : 1 ≤ s.c) : ∀ (f : Nat) (x : Int), 0 ≤ x → x ≤ C → (C : Int) - x ≤ f → (∀ x', 0 ≤ x' → x' < x → ¬ FreeZ T (s.col x')) → AcEnds C n c o bT T s x
  | 0, x, h0, h1, h2, hp => by
    have := hsm.2.2.1
    exact .inr ⟨.inr ⟨rfl, fun x' a b => hp x' a (by omega)⟩, x, Loops.last (by simp) (ac_end o n c v 0 C bT x s.b s.c s.d 0 0 0 0 (by omega) (by omega))⟩
  | f + 1, x, h0, h1, h2, hp => by
    have hcc := hsm.2.2.1
    by_cases hx : x + s.c ≤ C
    · have d0 : Clo (Ids [0, 1, 2, 3]) (.slice o n c) := hs.clo (by simp [Ids])
      have bd : BoardAt (h4 25 C o n c bT (s.col x) Qd0) 0 1 C o n c v bT T := ⟨by kernel_rfl, by kernel_rfl, hs, by decide, by unfold h4; rw [AHeap.rows_next]; omega, by unfold h4; rw [AHeap.rows_next]; omega, hb, hl, hel⟩
      have sx : Small (s.col x) := ⟨⟨show -2 ^ 40 ≤ x by omega, show x ≤ 2 ^ 40 by omega⟩, hsm.2⟩
      rcases hit_does bd (hT.small (by omega) hM.2) hn sx with ⟨fr, k⟩ | ⟨t, ht, hm, k⟩
      · refine .inl ⟨s.col x, .inl ⟨x, h0, hx, rfl, fr, hp⟩, ?_⟩
        refine (Loops.last (by simp) (ac_found o n c v 0 C bT x s.b s.c s.d 0 0 0 0 (by omega) hx k)).post ?_
        exact Ent.drop (by kernel_rfl) (by kernel_rfl) (by kernel_rfl) (by kernel_rfl) (by simp [All_cons, All_nil, Clo, Ids]) (by
          simp only [List.map, All_cons, All_nil, and_true]
          exact ⟨brd_cloI (hs.clo (by simp [Ids])), hb.clo _, qd_cloI _ _⟩)
      · have g := hT t ht
        obtain ⟨n1, n2⟩ := hop_col ht hm hp
        have st := ac_step o n c v 0 C bT x s.b s.c s.d t.a t.b t.c t.d (by omega) hx k (by omega)
        have st2 := st.post (i := Ent.drop (K := 6) (l := [(0, brdRow C o n c), (1, bT), (2, .made [(s.col (t.a + t.c)).val] 4 true), (3, .made [Qd0.val] 4 true)]) (by kernel_rfl) (by kernel_rfl) (by kernel_rfl) (by kernel_rfl) (by simp [All_cons, All_nil, Clo, Ids]) (by
            simp only [List.map, All_cons, All_nil, and_true]
            exact ⟨brd_cloI d0, hb.clo _, qd_cloI _ _, qd_cloI _ _⟩))
        rcases ac_loop hsm hsc f (t.a + t.c) (by omega) (by omega) (by omega) n2 with ⟨r, a, l⟩ | ⟨a, x', l⟩
        · exact .inl ⟨r, a, Loops.step st2 l⟩
        · exact .inr ⟨a, x', Loops.step st2 l⟩
    · exact .inr ⟨.inr ⟨rfl, fun x' a b => hp x' a (by omega)⟩, x, Loops.last (by simp) (ac_end o n c v 0 C bT x s.b s.c s.d 0 0 0 0 (by omega) hx)⟩

/-! down -/
def DnIn (C n c : Nat) (o : Option AAddr) (bT : ABlk) (T : List Qd) (M : Int) (s : Qd) (y0 y : Int) (m : Bool) (i : Nat) : Prop :=
  ∃ y2 m2, (0 ≤ y2 ∧ y2 ≤ M) ∧ (∀ y', 0 ≤ y' → y' < y2 → ¬ FreeZ T (s.row y')) ∧ (m2 = false → FreeZ T (s.row y2)) ∧ (m2 = true → y0 < y2) ∧
    Loops Try.prog 2 65 (loopAt Try.prog 32 1) [(0, .ptr (some ⟨0, 0, 0, 0, 2⟩)), (3, .ptr (some ⟨2, 0, 0, 0, 4⟩)), (4, .ptr (some ⟨3, 0, 0, 0, 4⟩)), (5, .bool m), (13, .slice o n c), (14, .int .i64 n), (15, .int .i64 i)] (h4 15 C o n c bT (s.row y) Qd0)
      (.exit 2) [(0, .ptr (some ⟨0, 0, 0, 0, 2⟩)), (3, .ptr (some ⟨2, 0, 0, 0, 4⟩)), (4, .ptr (some ⟨3, 0, 0, 0, 4⟩)), (5, .bool m2)] (h4 16 C o n c bT (s.row y2) Qd0)

theorem dn_in {s : Qd} (hsm : Small s) {y0 : Int} : ∀ (f i : Nat) (y : Int) (m : Bool), i + f = n → (0 ≤ y ∧ y ≤ M) → (∀ y', 0 ≤ y' → y' < y → ¬ FreeZ T (s.row y')) → (m = false → ∀ j t, j < i → T[j]? = some t → ¬ MeetsZ t (s.row y)) → (m = true → y0 < y) → y0 ≤ y → DnIn C n c o bT T M s y0 y m i
  | 0, i, y, m, e, hy, hp, hf, hm, hle => by
    obtain rfl : i = n := by omega
    refine ⟨y, m, hy, hp, fun h t ht hme => ?_, hm, Loops.last (by simp) (dn_iend o i c v i C bT s.a y s.c s.d 0 0 0 0 m (by omega))⟩
    obtain ⟨j, hj, e1⟩ := List.mem_iff_getElem.1 ht
    exact hf h j t (by omega) (by rw [List.getElem?_eq_getElem hj, e1]) hme
  | f + 1, i, y, m, e, hy, hp, hf, hm, hle => by
    have hi : i < n := by omega
    obtain ⟨t, ht⟩ : ∃ t, T[i]? = some t := ⟨T[i], List.getElem?_eq_getElem (by omega)⟩
    have htm : t ∈ T := List.mem_of_getElem? ht
    have g := hT t htm
    have st := hT.small (by omega) hM.2 t htm
    have d0 : Clo (Ids [0, 1, 2, 3]) (.slice o n c) := hs.clo (by simp [Ids])
    have sy : Small (s.row y) := ⟨hsm.1, ⟨show -2 ^ 40 ≤ y by omega, show y ≤ 2 ^ 40 by omega⟩, hsm.2.2⟩
    have pp : ∀ (m2 : Bool) (y2 : Int) (K : Nat) (x : ABlk), Ent 2 65 [(0, .ptr (some ⟨0, 0, 0, 0, 2⟩)), (3, .ptr (some ⟨2, 0, 0, 0, 4⟩)), (4, .ptr (some ⟨3, 0, 0, 0, 4⟩)), (5, .bool m2), (13, .slice o n c), (14, .int .i64 n), (15, .int .i64 (i + 1 : Nat))] (AHeap.rows K [(0, brdRow C o n c), (1, bT), (2, .made [(s.row y2).val] 4 true), (3, .made [Qd0.val] 4 true), (18, x)])
        [(0, .ptr (some ⟨0, 0, 0, 0, 2⟩)), (3, .ptr (some ⟨2, 0, 0, 0, 4⟩)), (4, .ptr (some ⟨3, 0, 0, 0, 4⟩)), (5, .bool m2), (13, .slice o n c), (14, .int .i64 n), (15, .int .i64 (i + 1 : Nat))] (h4 15 C o n c bT (s.row y2) Qd0) := fun m2 y2 K x =>
      Ent.drop (by kernel_rfl) (by kernel_rfl) (by kernel_rfl) (by kernel_rfl) (by simp [All_cons, All_nil, Clo, d0]; simp [Ids]) (by
        simp only [List.map, All_cons, All_nil, and_true]
        exact ⟨brd_cloI d0, hb.clo _, qd_cloI _ _, qd_cloI _ _⟩)
    have c1 : (i : Int) < n := by omega
    have c2 := ix_spS (k := .i64) hs hi
    have c3 := hel i t ht
    have f1 := fit_add hsm.1 hsm.2.2.1
    have f2 := fit_add st.1 st.2.2.1
    have f3 := fit_add sy.2.1 hsm.2.2.2
    have f4 := fit_add st.2.1 st.2.2.2
    have f5 : -9223372036854775808 ≤ (i : Int) + 1 ∧ (i : Int) + (1 : Int) ≤ 9223372036854775807 := by omega
    have go : ¬ MeetsZ t (s.row y) → (∀ {K : Nat} {x : ABlk}, Runs Try.prog 2 65 (loopAt Try.prog 32 1) [(0, .ptr (some ⟨0, 0, 0, 0, 2⟩)), (3, .ptr (some ⟨2, 0, 0, 0, 4⟩)), (4, .ptr (some ⟨3, 0, 0, 0, 4⟩)), (5, .bool m), (13, .slice o n c), (14, .int .i64 n), (15, .int .i64 i)] (h4 15 C o n c bT (s.row y) Qd0) .normal
        [(0, .ptr (some ⟨0, 0, 0, 0, 2⟩)), (3, .ptr (some ⟨2, 0, 0, 0, 4⟩)), (4, .ptr (some ⟨3, 0, 0, 0, 4⟩)), (5, .bool m), (13, .slice o n c), (14, .int .i64 n), (15, .int .i64 (i + 1 : Nat))] (AHeap.rows K [(0, brdRow C o n c), (1, bT), (2, .made [(s.row y).val] 4 true), (3, .made [Qd0.val] 4 true), (18, x)]) → DnIn C n c o bT T M s y0 y m i) := fun hme K x r => by
      obtain ⟨y2, m2, a1, a2, a3, a4, l⟩ := dn_in hsm f (i + 1) y m (by omega) hy hp (fun h j u hj hu => by
        by_cases c : j = i
        · subst c; rw [ht] at hu; cases hu; exact hme
        · exact hf h j u (by omega) hu) hm hle
      exact ⟨y2, m2, a1, a2, a3, a4, Loops.step (r.post (pp m y K x)) l⟩
    by_cases m1 : t.a < s.a + s.c
    · by_cases m2 : s.a < t.a + t.c
      · by_cases m3 : t.b < y + s.d
        · by_cases m4 : y < t.b + t.d
          · obtain ⟨n1, n2⟩ := hop_row (s := s) (y := y) htm ⟨m1, m2, m3, m4⟩ hp
            obtain ⟨y2, mm, a1, a2, a3, a4, l⟩ := dn_in hsm (y0 := y0) f (i + 1) (t.b + t.d) true (by omega) (by omega) n2 (fun h => by cases h) (fun _ => by omega) (by omega)
            exact ⟨y2, mm, a1, a2, a3, a4, Loops.step ((dn_y o n c v i C bT s.a y s.c s.d t.a t.b t.c t.d m c1 c2 c3 f1 m1 f2 m2 f3 m3 f4 m4 f4 f5).post (pp true (t.b + t.d) _ _)) l⟩
          · exact go (fun h => m4 h.2.2.2) (dn_m3 o n c v i C bT s.a y s.c s.d t.a t.b t.c t.d m c1 c2 c3 f1 m1 f2 m2 f3 m3 f4 m4 f5)
        · exact go (fun h => m3 h.2.2.1) (dn_m2 o n c v i C bT s.a y s.c s.d t.a t.b t.c t.d m c1 c2 c3 f1 m1 f2 m2 f3 m3 f5)
      · exact go (fun h => m2 h.2.1) (dn_m1 o n c v i C bT s.a y s.c s.d t.a t.b t.c t.d m c1 c2 c3 f1 m1 f2 m2 f5)
    · exact go (fun h => m1 h.1) (dn_m0 o n c v i C bT s.a y s.c s.d t.a t.b t.c t.d m c1 c2 c3 f1 m1 f5)

def DnEnds (C n c : Nat) (o : Option AAddr) (bT : ABlk) (T : List Qd) (s : Qd) (y : Int) (m : Bool) : Prop :=
  ∃ r, DownZ T s r ∧ Loops Try.prog 2 65 (loopAt Try.prog 32 0) [(0, .ptr (some ⟨0, 0, 0, 0, 2⟩)), (3, .ptr (some ⟨2, 0, 0, 0, 4⟩)), (4, .ptr (some ⟨3, 0, 0, 0, 4⟩)), (5, .bool m)] (h4 7 C o n c bT (s.row y) Qd0)
    (.exit 0) [(3, .ptr (some ⟨2, 0, 0, 0, 4⟩)), (4, .ptr (some ⟨3, 0, 0, 0, 4⟩))] (h4 8 C o n c bT r Qd0)

theorem dn_loop {s : Qd} (hsm : Small s) : ∀ (f : Nat) (y : Int), (0 ≤ y ∧ y ≤ M) → M - y < f → (∀ y', 0 ≤ y' → y' < y → ¬ FreeZ T (s.row y')) → DnEnds C n c o bT T s y true
  | 0, y, h, h2, hp => by omega
  | f + 1, y, h, h2, hp => by
    obtain ⟨y2, m2, a1, a2, a3, a4, l⟩ := dn_in hs hb hl hel hT hC hM hn hsm (y0 := y) n 0 y false (by omega) h hp (fun _ j t hj _ => by omega) (fun h => by cases h) (Int.le_refl _)
    have rd := dn_round o n c v 0 C bT s.a y s.c s.d s.a y2 s.c s.d m2 (Runs.of_loops l)
    have rd2 := rd.post (i := Ent.drop (K := 7) (l := [(0, brdRow C o n c), (1, bT), (2, .made [(s.row y2).val] 4 true), (3, .made [Qd0.val] 4 true)]) (by kernel_rfl) (by kernel_rfl) (by kernel_rfl) (by kernel_rfl) (by simp [All_cons, All_nil, Clo, Ids]) (by
        simp only [List.map, All_cons, All_nil, and_true]
        exact ⟨brd_cloI (hs.clo (by simp [Ids])), hb.clo _, qd_cloI _ _, qd_cloI _ _⟩))
    cases m2 with
    | false => exact ⟨s.row y2, ⟨y2, a1.1, rfl, a3 rfl, a2⟩, Loops.step rd2 (Loops.last (by simp) (dn_last o n c v 0 C bT s.a y2 s.c s.d 0 0 0 0 false))⟩
    | true =>
      have := a4 rfl
      obtain ⟨r, b1, b2⟩ := dn_loop hsm f y2 a1 (by omega) a2
      exact ⟨r, b1, Loops.step rd2 b2⟩
end

/-- grid.board.across -/
theorem across_does {H : AHeap} {ib iT C : Nat} {o : Option AAddr} {n c v : Nat} {bT : ABlk} {T : List Qd} (h : BoardAt H ib iT C o n c v bT T) {M : Int} (hT : GoodT C M T) (hC : C ≤ 64) (hM : 0 ≤ M ∧ M ≤ 2 ^ 39) (hn : n ≤ 2 ^ 40) {s : Qd} (hs : Small s) (hsc : 1 ≤ s.c) :
    ∃ r, AcrossZ T C s r ∧ FDoes Try.prog 31 [.ptr (some ⟨ib, 0, 0, 0, 2⟩), s.val] H r.val H := by
  have s1 := h.sl.at 1
  have cl : Clo (Ids [0, 1, 2, 3]) (.slice (o.map fun a => { a with id := 1 }) n c) := s1.clo (by simp [Ids])
  have pre : ∀ {h0 : AHeap}, [h0.get 0, h0.get 1, h0.get 2, h0.get 3] = [some (brdRow C (o.map fun a => { a with id := 1 }) n c), some bT, some (.made [(s.col 0).val] 4 true), some (.made [Qd0.val] 4 true)] →
      Ent 2 35 [(0, .ptr (some ⟨0, 0, 0, 0, 2⟩)), (3, .ptr (some ⟨2, 0, 0, 0, 4⟩)), (4, .ptr (some ⟨3, 0, 0, 0, 4⟩))] h0 [(0, .ptr (some ⟨0, 0, 0, 0, 2⟩)), (3, .ptr (some ⟨2, 0, 0, 0, 4⟩)), (4, .ptr (some ⟨3, 0, 0, 0, 4⟩))] (h4 6 C (o.map fun a => { a with id := 1 }) n c bT (s.col 0) Qd0) := fun e =>
    Ent.drop e (by kernel_rfl) (by kernel_rfl) (by kernel_rfl) (by simp [All_cons, All_nil, Clo, Ids]) (by
      simp only [List.map, All_cons, All_nil, and_true]
      exact ⟨brd_cloI cl, h.bare.clo _, qd_cloI _ _, qd_cloI _ _⟩)
  rcases ac_loop s1 h.bare h.len h.el hT hC hM hn hs hsc C 0 (by omega) (by omega) (by omega) (fun x' a b => by omega) with ⟨r, a, l⟩ | ⟨a, x', l⟩
  · exact ⟨r, a, h.pure (ac_call_yes _ n c v 0 C bT s.a s.b s.c s.d r.a r.b r.c r.d (Runs.of_loops (Tri.pre l (pre (by kernel_rfl)))) (by kernel_rfl)) (by kernel_rfl) (Qd.bare _) (by simp [Qd.bare])⟩
  · exact ⟨_, a, h.pure (ac_call_no _ n c v 0 C bT s.a s.b s.c s.d 0 0 0 0 x' (Runs.of_loops (Tri.pre l (pre (by kernel_rfl)))) (by kernel_rfl)) (by kernel_rfl) (Qd.bare (s.col 0)) (by simp [Qd.bare])⟩

/-- grid.board.down -/
theorem down_does {H : AHeap} {ib iT C : Nat} {o : Option AAddr} {n c v : Nat} {bT : ABlk} {T : List Qd} (h : BoardAt H ib iT C o n c v bT T) {M : Int} (hT : GoodT C M T) (hC : C ≤ 64) (hM : 0 ≤ M ∧ M ≤ 2 ^ 39) (hn : n ≤ 2 ^ 40) {s : Qd} (hs : Small s) :
    ∃ r, DownZ T s r ∧ FDoes Try.prog 32 [.ptr (some ⟨ib, 0, 0, 0, 2⟩), s.val] H r.val H := by
  have s1 := h.sl.at 1
  obtain ⟨r, a, l⟩ := dn_loop s1 h.bare h.len h.el hT hC hM hn hs (M.toNat + 1) 0 (by omega) (by omega) (fun y' a b => by omega)
  exact ⟨r, a, h.pure (dn_call _ n c v 0 C bT s.a s.b s.c s.d r.a r.b r.c r.d (Runs.of_loops l) (by kernel_rfl)) (by kernel_rfl) (Qd.bare _) (by simp [Qd.bare])⟩

end Go.Proofs.Ytcgcpmcjaeenlaa

namespace Go.Proofs.Ytcgcpmcjaeenlaa
open Go.Lift
set_option maxRecDepth 1000000
set_option linter.unusedSimpArgs false
set_option linter.unusedVariables false
set_option linter.unusedSectionVars false

theorem st_o1 (o : Option AAddr) (n c v i C : Nat) (bT : ABlk) (l l2 : List AVal) (y d e e2 x ta tb tc td : Int) (old : Bool) (hc_0 : (i : Int) < (n : Int)) (hc_1 : aindexAddr env.D 22 (.slice o n c) (.int .i64 (i : Int)) = some (.ptr (some ⟨1, v, 0 + i, 0, 4⟩))) (hc_2 : ABlk.elem? bT v (0 + i) = some (.agg [.int .i64 ta, .int .i64 tb, .int .i64 tc, .int .i64 td])) (hc_3 : -9223372036854775808 ≤ y + d ∧ y + d ≤ 9223372036854775807) (hc_4 : tb ≥ y + d) (hc_5 : -9223372036854775808 ≤ (i : Int) + 1 ∧ (i : Int) + (1 : Int) ≤ 9223372036854775807) :
    Runs Try.prog 2 76 (loopAt Try.prog 54 0) [(0, .ptr (some ⟨0, 0, 0, 0, 2⟩)), (1, .int .i64 y), (2, .int .i64 d), (6, .slice (some ⟨8, 0, 0, 0, 1⟩) C C), (7, .int .i64 e), (20, .slice o n c), (21, .int .i64 n), (22, .int .i64 i)] (AHeap.rows 16 [(0, .made [.agg [.int .i64 C, .slice o n c]] 2 true), (1, bT), (8, .made l 1 true)]) .normal [(0, .ptr (some ⟨0, 0, 0, 0, 2⟩)), (1, .int .i64 y), (2, .int .i64 d), (6, .slice (some ⟨8, 0, 0, 0, 1⟩) C C), (7, .int .i64 e), (20, .slice o n c), (21, .int .i64 (n : Int)), (22, .int .i64 ((i : Int) + 1))] (AHeap.rows 38 [(0, (.made ([.agg [.int .i64 (C : Int), .slice o n c]]) 2 true)), (1, bT), (8, .made l 1 true), (19, (.made ([.agg [.int .i64 ta, .int .i64 tb, .int .i64 tc, .int .i64 td]]) 4 true))]) :=
  ppath_runs env_ok mixed (hs := [.val 3000 (.bool true), .val 4000 (.ptr (some ⟨1, v, 0 + i, 0, 4⟩)), .ld 4001 (.agg [.int .i64 ta, .int .i64 tb, .int .i64 tc, .int .i64 td]), .go 5004, .val 5005 (.bool true), .go 13000]) (keep := [0, 1, 2, 6, 7, 20, 21, 22]) (by kernel_rfl) (All.cons (okT hc_0) (All.cons hc_1 (All.cons hc_2 (All.cons hc_3 (All.cons (okT hc_4) (All.cons hc_5 (All.nil)))))))

theorem st_o2 (o : Option AAddr) (n c v i C : Nat) (bT : ABlk) (l l2 : List AVal) (y d e e2 x ta tb tc td : Int) (old : Bool) (hc_0 : (i : Int) < (n : Int)) (hc_1 : aindexAddr env.D 22 (.slice o n c) (.int .i64 (i : Int)) = some (.ptr (some ⟨1, v, 0 + i, 0, 4⟩))) (hc_2 : ABlk.elem? bT v (0 + i) = some (.agg [.int .i64 ta, .int .i64 tb, .int .i64 tc, .int .i64 td])) (hc_3 : -9223372036854775808 ≤ y + d ∧ y + d ≤ 9223372036854775807) (hc_4 : ¬ (tb ≥ y + d)) (hc_5 : -9223372036854775808 ≤ tb + td ∧ tb + td ≤ 9223372036854775807) (hc_6 : y ≥ tb + td) (hc_7 : -9223372036854775808 ≤ (i : Int) + 1 ∧ (i : Int) + (1 : Int) ≤ 9223372036854775807) :
    Runs Try.prog 2 76 (loopAt Try.prog 54 0) [(0, .ptr (some ⟨0, 0, 0, 0, 2⟩)), (1, .int .i64 y), (2, .int .i64 d), (6, .slice (some ⟨8, 0, 0, 0, 1⟩) C C), (7, .int .i64 e), (20, .slice o n c), (21, .int .i64 n), (22, .int .i64 i)] (AHeap.rows 16 [(0, .made [.agg [.int .i64 C, .slice o n c]] 2 true), (1, bT), (8, .made l 1 true)]) .normal [(0, .ptr (some ⟨0, 0, 0, 0, 2⟩)), (1, .int .i64 y), (2, .int .i64 d), (6, .slice (some ⟨8, 0, 0, 0, 1⟩) C C), (7, .int .i64 e), (20, .slice o n c), (21, .int .i64 (n : Int)), (22, .int .i64 ((i : Int) + 1))] (AHeap.rows 38 [(0, (.made ([.agg [.int .i64 (C : Int), .slice o n c]]) 2 true)), (1, bT), (8, .made l 1 true), (19, (.made ([.agg [.int .i64 ta, .int .i64 tb, .int .i64 tc, .int .i64 td]]) 4 true))]) :=
  ppath_runs env_ok mixed (hs := [.val 3000 (.bool true), .val 4000 (.ptr (some ⟨1, v, 0 + i, 0, 4⟩)), .ld 4001 (.agg [.int .i64 ta, .int .i64 tb, .int .i64 tc, .int .i64 td]), .go 5004, .val 5005 (.bool false), .go 5012, .val 5013 (.bool true), .go 13000]) (keep := [0, 1, 2, 6, 7, 20, 21, 22]) (by kernel_rfl) (All.cons (okT hc_0) (All.cons hc_1 (All.cons hc_2 (All.cons hc_3 (All.cons (okF hc_4) (All.cons hc_5 (All.cons (okT hc_6) (All.cons hc_7 (All.nil)))))))))

theorem st_in1 (o : Option AAddr) (n c v i C : Nat) (bT : ABlk) (l l2 : List AVal) (y d e e2 x ta tb tc td : Int) (old : Bool) (hc_0 : (i : Int) < (n : Int)) (hc_1 : aindexAddr env.D 22 (.slice o n c) (.int .i64 (i : Int)) = some (.ptr (some ⟨1, v, 0 + i, 0, 4⟩))) (hc_2 : ABlk.elem? bT v (0 + i) = some (.agg [.int .i64 ta, .int .i64 tb, .int .i64 tc, .int .i64 td])) (hc_3 : -9223372036854775808 ≤ y + d ∧ y + d ≤ 9223372036854775807) (hc_4 : ¬ (tb ≥ y + d)) (hc_5 : -9223372036854775808 ≤ tb + td ∧ tb + td ≤ 9223372036854775807) (hc_6 : ¬ (y ≥ tb + td)) (hc_7 : -9223372036854775808 ≤ tb + td ∧ tb + td ≤ 9223372036854775807) (hc_8 : e = 0) (hc_9 : Runs Try.prog 2 76 (.loop (loopAt Try.prog 54 1)) [(0, .ptr (some ⟨0, 0, 0, 0, 2⟩)), (1, .int .i64 y), (2, .int .i64 d), (6, .slice (some ⟨8, 0, 0, 0, 1⟩) C C), (7, .int .i64 (tb + td)), (9, .ptr (some ⟨19, 0, 0, 0, 4⟩)), (11, .int .i64 ta), (20, .slice o n c), (21, .int .i64 (n : Int)), (22, .int .i64 (i : Int))] (AHeap.rows 54 [(0, (.made ([.agg [.int .i64 (C : Int), .slice o n c]]) 2 true)), (1, bT), (8, .made l 1 true), (19, (.made ([.agg [.int .i64 ta, .int .i64 tb, .int .i64 tc, .int .i64 td]]) 4 true))]) (.exit 2) [(0, .ptr (some ⟨0, 0, 0, 0, 2⟩)), (1, .int .i64 y), (2, .int .i64 d), (6, .slice (some ⟨8, 0, 0, 0, 1⟩) C C), (7, .int .i64 e2), (20, .slice o n c), (21, .int .i64 (n : Int)), (22, .int .i64 (i : Int))] (AHeap.rows 80 [(0, (.made ([.agg [.int .i64 (C : Int), .slice o n c]]) 2 true)), (1, bT), (8, .made l2 1 true)])) (hc_10 : -9223372036854775808 ≤ (i : Int) + 1 ∧ (i : Int) + (1 : Int) ≤ 9223372036854775807) :
    Runs Try.prog 2 76 (loopAt Try.prog 54 0) [(0, .ptr (some ⟨0, 0, 0, 0, 2⟩)), (1, .int .i64 y), (2, .int .i64 d), (6, .slice (some ⟨8, 0, 0, 0, 1⟩) C C), (7, .int .i64 e), (20, .slice o n c), (21, .int .i64 n), (22, .int .i64 i)] (AHeap.rows 16 [(0, .made [.agg [.int .i64 C, .slice o n c]] 2 true), (1, bT), (8, .made l 1 true)]) .normal [(0, .ptr (some ⟨0, 0, 0, 0, 2⟩)), (1, .int .i64 y), (2, .int .i64 d), (6, .slice (some ⟨8, 0, 0, 0, 1⟩) C C), (7, .int .i64 e2), (20, .slice o n c), (21, .int .i64 (n : Int)), (22, .int .i64 ((i : Int) + 1))] (AHeap.rows 82 [(0, (.made ([.agg [.int .i64 (C : Int), .slice o n c]]) 2 true)), (1, bT), (8, .made l2 1 true)]) :=
  ppath_runs env_ok mixed (hs := [.val 3000 (.bool true), .val 4000 (.ptr (some ⟨1, v, 0 + i, 0, 4⟩)), .ld 4001 (.agg [.int .i64 ta, .int .i64 tb, .int .i64 tc, .int .i64 td]), .go 5004, .val 5005 (.bool false), .go 5012, .val 5013 (.bool false), .go 6004, .val 7001 (.bool true), .keep [0, 1, 2, 6, 7, 9, 11, 20, 21, 22], .loop [(0, .ptr (some ⟨0, 0, 0, 0, 2⟩)), (1, .int .i64 y), (2, .int .i64 d), (6, .slice (some ⟨8, 0, 0, 0, 1⟩) C C), (7, .int .i64 e2), (20, .slice o n c), (21, .int .i64 n), (22, .int .i64 i)] (AHeap.rows 80 [(0, .made [.agg [.int .i64 C, .slice o n c]] 2 true), (1, bT), (8, .made l2 1 true)]) (.exit 2), .go 13000]) (keep := [0, 1, 2, 6, 7, 20, 21, 22]) (by kernel_rfl) (All.cons (okT hc_0) (All.cons hc_1 (All.cons hc_2 (All.cons hc_3 (All.cons (okF hc_4) (All.cons hc_5 (All.cons (okF hc_6) (All.cons hc_7 (All.cons (eqT hc_8) (All.cons hc_9 (All.cons hc_10 (All.nil))))))))))))

theorem st_in2 (o : Option AAddr) (n c v i C : Nat) (bT : ABlk) (l l2 : List AVal) (y d e e2 x ta tb tc td : Int) (old : Bool) (hc_0 : (i : Int) < (n : Int)) (hc_1 : aindexAddr env.D 22 (.slice o n c) (.int .i64 (i : Int)) = some (.ptr (some ⟨1, v, 0 + i, 0, 4⟩))) (hc_2 : ABlk.elem? bT v (0 + i) = some (.agg [.int .i64 ta, .int .i64 tb, .int .i64 tc, .int .i64 td])) (hc_3 : -9223372036854775808 ≤ y + d ∧ y + d ≤ 9223372036854775807) (hc_4 : ¬ (tb ≥ y + d)) (hc_5 : -9223372036854775808 ≤ tb + td ∧ tb + td ≤ 9223372036854775807) (hc_6 : ¬ (y ≥ tb + td)) (hc_7 : -9223372036854775808 ≤ tb + td ∧ tb + td ≤ 9223372036854775807) (hc_8 : ¬ (e = 0)) (hc_9 : tb + td < e) (hc_10 : Runs Try.prog 2 76 (.loop (loopAt Try.prog 54 1)) [(0, .ptr (some ⟨0, 0, 0, 0, 2⟩)), (1, .int .i64 y), (2, .int .i64 d), (6, .slice (some ⟨8, 0, 0, 0, 1⟩) C C), (7, .int .i64 (tb + td)), (9, .ptr (some ⟨19, 0, 0, 0, 4⟩)), (11, .int .i64 ta), (20, .slice o n c), (21, .int .i64 (n : Int)), (22, .int .i64 (i : Int))] (AHeap.rows 54 [(0, (.made ([.agg [.int .i64 (C : Int), .slice o n c]]) 2 true)), (1, bT), (8, .made l 1 true), (19, (.made ([.agg [.int .i64 ta, .int .i64 tb, .int .i64 tc, .int .i64 td]]) 4 true))]) (.exit 2) [(0, .ptr (some ⟨0, 0, 0, 0, 2⟩)), (1, .int .i64 y), (2, .int .i64 d), (6, .slice (some ⟨8, 0, 0, 0, 1⟩) C C), (7, .int .i64 e2), (20, .slice o n c), (21, .int .i64 (n : Int)), (22, .int .i64 (i : Int))] (AHeap.rows 80 [(0, (.made ([.agg [.int .i64 (C : Int), .slice o n c]]) 2 true)), (1, bT), (8, .made l2 1 true)])) (hc_11 : -9223372036854775808 ≤ (i : Int) + 1 ∧ (i : Int) + (1 : Int) ≤ 9223372036854775807) :
    Runs Try.prog 2 76 (loopAt Try.prog 54 0) [(0, .ptr (some ⟨0, 0, 0, 0, 2⟩)), (1, .int .i64 y), (2, .int .i64 d), (6, .slice (some ⟨8, 0, 0, 0, 1⟩) C C), (7, .int .i64 e), (20, .slice o n c), (21, .int .i64 n), (22, .int .i64 i)] (AHeap.rows 16 [(0, .made [.agg [.int .i64 C, .slice o n c]] 2 true), (1, bT), (8, .made l 1 true)]) .normal [(0, .ptr (some ⟨0, 0, 0, 0, 2⟩)), (1, .int .i64 y), (2, .int .i64 d), (6, .slice (some ⟨8, 0, 0, 0, 1⟩) C C), (7, .int .i64 e2), (20, .slice o n c), (21, .int .i64 (n : Int)), (22, .int .i64 ((i : Int) + 1))] (AHeap.rows 82 [(0, (.made ([.agg [.int .i64 (C : Int), .slice o n c]]) 2 true)), (1, bT), (8, .made l2 1 true)]) :=
  ppath_runs env_ok mixed (hs := [.val 3000 (.bool true), .val 4000 (.ptr (some ⟨1, v, 0 + i, 0, 4⟩)), .ld 4001 (.agg [.int .i64 ta, .int .i64 tb, .int .i64 tc, .int .i64 td]), .go 5004, .val 5005 (.bool false), .go 5012, .val 5013 (.bool false), .go 6004, .val 7001 (.bool false), .val 7005 (.bool true), .keep [0, 1, 2, 6, 7, 9, 11, 20, 21, 22], .loop [(0, .ptr (some ⟨0, 0, 0, 0, 2⟩)), (1, .int .i64 y), (2, .int .i64 d), (6, .slice (some ⟨8, 0, 0, 0, 1⟩) C C), (7, .int .i64 e2), (20, .slice o n c), (21, .int .i64 n), (22, .int .i64 i)] (AHeap.rows 80 [(0, .made [.agg [.int .i64 C, .slice o n c]] 2 true), (1, bT), (8, .made l2 1 true)]) (.exit 2), .go 13000]) (keep := [0, 1, 2, 6, 7, 20, 21, 22]) (by kernel_rfl) (All.cons (okT hc_0) (All.cons hc_1 (All.cons hc_2 (All.cons hc_3 (All.cons (okF hc_4) (All.cons hc_5 (All.cons (okF hc_6) (All.cons hc_7 (All.cons (eqF hc_8) (All.cons (okT hc_9) (All.cons hc_10 (All.cons hc_11 (All.nil)))))))))))))

theorem st_in3 (o : Option AAddr) (n c v i C : Nat) (bT : ABlk) (l l2 : List AVal) (y d e e2 x ta tb tc td : Int) (old : Bool) (hc_0 : (i : Int) < (n : Int)) (hc_1 : aindexAddr env.D 22 (.slice o n c) (.int .i64 (i : Int)) = some (.ptr (some ⟨1, v, 0 + i, 0, 4⟩))) (hc_2 : ABlk.elem? bT v (0 + i) = some (.agg [.int .i64 ta, .int .i64 tb, .int .i64 tc, .int .i64 td])) (hc_3 : -9223372036854775808 ≤ y + d ∧ y + d ≤ 9223372036854775807) (hc_4 : ¬ (tb ≥ y + d)) (hc_5 : -9223372036854775808 ≤ tb + td ∧ tb + td ≤ 9223372036854775807) (hc_6 : ¬ (y ≥ tb + td)) (hc_7 : -9223372036854775808 ≤ tb + td ∧ tb + td ≤ 9223372036854775807) (hc_8 : ¬ (e = 0)) (hc_9 : ¬ (tb + td < e)) (hc_10 : Runs Try.prog 2 76 (.loop (loopAt Try.prog 54 1)) [(0, .ptr (some ⟨0, 0, 0, 0, 2⟩)), (1, .int .i64 y), (2, .int .i64 d), (6, .slice (some ⟨8, 0, 0, 0, 1⟩) C C), (7, .int .i64 e), (9, .ptr (some ⟨19, 0, 0, 0, 4⟩)), (11, .int .i64 ta), (20, .slice o n c), (21, .int .i64 (n : Int)), (22, .int .i64 (i : Int))] (AHeap.rows 52 [(0, (.made ([.agg [.int .i64 (C : Int), .slice o n c]]) 2 true)), (1, bT), (8, .made l 1 true), (19, (.made ([.agg [.int .i64 ta, .int .i64 tb, .int .i64 tc, .int .i64 td]]) 4 true))]) (.exit 2) [(0, .ptr (some ⟨0, 0, 0, 0, 2⟩)), (1, .int .i64 y), (2, .int .i64 d), (6, .slice (some ⟨8, 0, 0, 0, 1⟩) C C), (7, .int .i64 e2), (20, .slice o n c), (21, .int .i64 (n : Int)), (22, .int .i64 (i : Int))] (AHeap.rows 80 [(0, (.made ([.agg [.int .i64 (C : Int), .slice o n c]]) 2 true)), (1, bT), (8, .made l2 1 true)])) (hc_11 : -9223372036854775808 ≤ (i : Int) + 1 ∧ (i : Int) + (1 : Int) ≤ 9223372036854775807) :
    Runs Try.prog 2 76 (loopAt Try.prog 54 0) [(0, .ptr (some ⟨0, 0, 0, 0, 2⟩)), (1, .int .i64 y), (2, .int .i64 d), (6, .slice (some ⟨8, 0, 0, 0, 1⟩) C C), (7, .int .i64 e), (20, .slice o n c), (21, .int .i64 n), (22, .int .i64 i)] (AHeap.rows 16 [(0, .made [.agg [.int .i64 C, .slice o n c]] 2 true), (1, bT), (8, .made l 1 true)]) .normal [(0, .ptr (some ⟨0, 0, 0, 0, 2⟩)), (1, .int .i64 y), (2, .int .i64 d), (6, .slice (some ⟨8, 0, 0, 0, 1⟩) C C), (7, .int .i64 e2), (20, .slice o n c), (21, .int .i64 (n : Int)), (22, .int .i64 ((i : Int) + 1))] (AHeap.rows 82 [(0, (.made ([.agg [.int .i64 (C : Int), .slice o n c]]) 2 true)), (1, bT), (8, .made l2 1 true)]) :=
  ppath_runs env_ok mixed (hs := [.val 3000 (.bool true), .val 4000 (.ptr (some ⟨1, v, 0 + i, 0, 4⟩)), .ld 4001 (.agg [.int .i64 ta, .int .i64 tb, .int .i64 tc, .int .i64 td]), .go 5004, .val 5005 (.bool false), .go 5012, .val 5013 (.bool false), .go 6004, .val 7001 (.bool false), .val 7005 (.bool false), .keep [0, 1, 2, 6, 7, 9, 11, 20, 21, 22], .loop [(0, .ptr (some ⟨0, 0, 0, 0, 2⟩)), (1, .int .i64 y), (2, .int .i64 d), (6, .slice (some ⟨8, 0, 0, 0, 1⟩) C C), (7, .int .i64 e2), (20, .slice o n c), (21, .int .i64 n), (22, .int .i64 i)] (AHeap.rows 80 [(0, .made [.agg [.int .i64 C, .slice o n c]] 2 true), (1, bT), (8, .made l2 1 true)]) (.exit 2), .go 13000]) (keep := [0, 1, 2, 6, 7, 20, 21, 22]) (by kernel_rfl) (All.cons (okT hc_0) (All.cons hc_1 (All.cons hc_2 (All.cons hc_3 (All.cons (okF hc_4) (All.cons hc_5 (All.cons (okF hc_6) (All.cons hc_7 (All.cons (eqF hc_8) (All.cons (okF hc_9) (All.cons hc_10 (All.cons hc_11 (All.nil)))))))))))))

theorem st_end (o : Option AAddr) (n c v i C : Nat) (bT : ABlk) (l l2 : List AVal) (y d e e2 x ta tb tc td : Int) (old : Bool) (hc_0 : ¬ ((i : Int) < (n : Int))) :
    Runs Try.prog 2 76 (loopAt Try.prog 54 0) [(0, .ptr (some ⟨0, 0, 0, 0, 2⟩)), (1, .int .i64 y), (2, .int .i64 d), (6, .slice (some ⟨8, 0, 0, 0, 1⟩) C C), (7, .int .i64 e), (20, .slice o n c), (21, .int .i64 n), (22, .int .i64 i)] (AHeap.rows 16 [(0, .made [.agg [.int .i64 C, .slice o n c]] 2 true), (1, bT), (8, .made l 1 true)]) (.exit 0) [(6, .slice (some ⟨8, 0, 0, 0, 1⟩) C C), (7, .int .i64 e)] (AHeap.rows 17 [(0, (.made ([.agg [.int .i64 (C : Int), .slice o n c]]) 2 true)), (1, bT), (8, .made l 1 true)]) :=
  ppath_runs env_ok mixed (hs := [.val 3000 (.bool false)]) (keep := [6, 7]) (by kernel_rfl) (All.cons (okF hc_0) (All.nil))

theorem si_step (o : Option AAddr) (n c v i C : Nat) (bT : ABlk) (l l2 : List AVal) (y d e e2 x ta tb tc td : Int) (old : Bool) (hc_0 : -9223372036854775808 ≤ ta + tc ∧ ta + tc ≤ 9223372036854775807) (hc_1 : x < if (C : Int) < ta + tc then (C : Int) else ta + tc) (hc_2 : 0 ≤ x ∧ x < (C : Int) ∧ 1 = 1) (hc_3 : 0 = 0 ∧ l[0 + Int.toNat x]? = some (AVal.bool old)) (hc_4 : -9223372036854775808 ≤ x + 1 ∧ x + (1 : Int) ≤ 9223372036854775807) :
    Runs Try.prog 2 76 (loopAt Try.prog 54 1) [(0, .ptr (some ⟨0, 0, 0, 0, 2⟩)), (1, .int .i64 y), (2, .int .i64 d), (6, .slice (some ⟨8, 0, 0, 0, 1⟩) C C), (7, .int .i64 e), (9, .ptr (some ⟨19, 0, 0, 0, 4⟩)), (11, .int .i64 x), (20, .slice o n c), (21, .int .i64 n), (22, .int .i64 i)] (AHeap.rows 60 [(0, .made [.agg [.int .i64 C, .slice o n c]] 2 true), (1, bT), (8, .made l 1 true), (19, .made [.agg [.int .i64 ta, .int .i64 tb, .int .i64 tc, .int .i64 td]] 4 true)]) .normal [(0, .ptr (some ⟨0, 0, 0, 0, 2⟩)), (1, .int .i64 y), (2, .int .i64 d), (6, .slice (some ⟨8, 0, 0, 0, 1⟩) C C), (7, .int .i64 e), (9, .ptr (some ⟨19, 0, 0, 0, 4⟩)), (11, .int .i64 (x + 1)), (20, .slice o n c), (21, .int .i64 (n : Int)), (22, .int .i64 (i : Int))] (AHeap.rows 79 [(0, (.made ([.agg [.int .i64 (C : Int), .slice o n c]]) 2 true)), (1, bT), (8, (.made (List.set l (0 + Int.toNat x) (AVal.bool true)) 1 true)), (19, (.made ([.agg [.int .i64 ta, .int .i64 tb, .int .i64 tc, .int .i64 td]]) 4 true))]) :=
  ppath_runs env_ok mixed (hs := [.go 10005, .val 10011 (.bool true), .go 12002, .st 12003 (.bool old), .go 11001]) (keep := [0, 1, 2, 6, 7, 9, 11, 20, 21, 22]) (by kernel_rfl) (All.cons hc_0 (All.cons (okT hc_1) (All.cons hc_2 (All.cons hc_3 (All.cons hc_4 (All.nil))))))

theorem si_end (o : Option AAddr) (n c v i C : Nat) (bT : ABlk) (l l2 : List AVal) (y d e e2 x ta tb tc td : Int) (old : Bool) (hc_0 : -9223372036854775808 ≤ ta + tc ∧ ta + tc ≤ 9223372036854775807) (hc_1 : ¬ (x < if (C : Int) < ta + tc then (C : Int) else ta + tc)) :
    Runs Try.prog 2 76 (loopAt Try.prog 54 1) [(0, .ptr (some ⟨0, 0, 0, 0, 2⟩)), (1, .int .i64 y), (2, .int .i64 d), (6, .slice (some ⟨8, 0, 0, 0, 1⟩) C C), (7, .int .i64 e), (9, .ptr (some ⟨19, 0, 0, 0, 4⟩)), (11, .int .i64 x), (20, .slice o n c), (21, .int .i64 n), (22, .int .i64 i)] (AHeap.rows 60 [(0, .made [.agg [.int .i64 C, .slice o n c]] 2 true), (1, bT), (8, .made l 1 true), (19, .made [.agg [.int .i64 ta, .int .i64 tb, .int .i64 tc, .int .i64 td]] 4 true)]) (.exit 2) [(0, .ptr (some ⟨0, 0, 0, 0, 2⟩)), (1, .int .i64 y), (2, .int .i64 d), (6, .slice (some ⟨8, 0, 0, 0, 1⟩) C C), (7, .int .i64 e), (20, .slice o n c), (21, .int .i64 (n : Int)), (22, .int .i64 (i : Int))] (AHeap.rows 72 [(0, (.made ([.agg [.int .i64 (C : Int), .slice o n c]]) 2 true)), (1, bT), (8, .made l 1 true), (19, (.made ([.agg [.int .i64 ta, .int .i64 tb, .int .i64 tc, .int .i64 td]]) 4 true))]) :=
  ppath_runs env_ok mixed (hs := [.go 10005, .val 10011 (.bool false)]) (keep := [0, 1, 2, 6, 7, 20, 21, 22]) (by kernel_rfl) (All.cons hc_0 (All.cons (okF hc_1) (All.nil)))

theorem st_call (o : Option AAddr) (n c v i C : Nat) (bT : ABlk) (l l2 : List AVal) (y d e e2 x ta tb tc td : Int) (old : Bool) (hc_0 : 0 ≤ (C : Int) ∧ (C : Int) ≤ (C : Int) ∧ (C : Int) < 4611686018427387904 ∧ (1 : Int) * (C : Int) ≤ 281474976710656) (hc_1 : Runs Try.prog 2 76 (.loop (loopAt Try.prog 54 0)) [(0, .ptr (some ⟨0, 0, 0, 0, 2⟩)), (1, .int .i64 y), (2, .int .i64 d), (6, .slice (some ⟨8, 0, 0, 0, 1⟩) C C), (7, .int .i64 0), (20, .slice o n c), (21, .int .i64 (n : Int)), (22, .int .i64 0)] (AHeap.rows 16 [(0, .made [.agg [.int .i64 (C : Int), .slice o n c]] 2 true), (1, bT), (8, .made (List.replicate C (AVal.bool false)) 1 true)]) (.exit 0) [(6, .slice (some ⟨8, 0, 0, 0, 1⟩) C C), (7, .int .i64 e)] (AHeap.rows 17 [(0, (.made ([.agg [.int .i64 (C : Int), .slice o n c]]) 2 true)), (1, bT), (8, .made l 1 true)])) :
    FDoes Try.prog 54 [.ptr (some ⟨0, 0, 0, 0, 2⟩), .int .i64 y, .int .i64 d] (AHeap.of [.made [.agg [.int .i64 C, .slice o n c]] 2 true, bT]) (.tuple [.slice (some ⟨8, 0, 0, 0, 1⟩) C C, .int .i64 e]) (AHeap.rows 21 [(0, (.made ([.agg [.int .i64 (C : Int), .slice o n c]]) 2 true)), (1, bT), (8, .made l 1 true)]) :=
  pcall_does env_ok mixed (hs := [.go 1004, .keep [0, 1, 2, 6, 7, 20, 21, 22], .loop [(6, .slice (some ⟨8, 0, 0, 0, 1⟩) C C), (7, .int .i64 e)] (AHeap.rows 17 [(0, .made [.agg [.int .i64 C, .slice o n c]] 2 true), (1, bT), (8, .made l 1 true)]) (.exit 0)]) (rs := []) (by kernel_rfl) (All.cons hc_0 (All.cons hc_1 (All.nil)))

end Go.Proofs.Ytcgcpmcjaeenlaa

namespace Go.Proofs.Ytcgcpmcjaeenlaa
open Go.Lift
set_option maxRecDepth 1000000
set_option linter.unusedSimpArgs false
set_option linter.unusedVariables false
set_option linter.unusedSectionVars false

/-- a row of truths -/
def bools (n : Nat) (f : Nat → Bool) : List AVal := (List.range n).map fun j => .bool (f j)
theorem bools_get {n : Nat} {f : Nat → Bool} {i : Nat} (h : i < n) : (bools n f)[i]? = some (.bool (f i)) := by simp [bools, h]
theorem bools_congr {n : Nat} {f g : Nat → Bool} (h : ∀ j, j < n → f j = g j) : bools n f = bools n g := List.map_congr_left fun j hj => by rw [h j (List.mem_range.1 hj)]
theorem bools_set {n : Nat} {f : Nat → Bool} {i : Nat} {v : Bool} : (bools n f).set i (.bool v) = bools n (fun j => if j = i then v else f j) := by
  apply List.ext_getElem (by simp [bools])
  intro j h1 h2
  rw [List.getElem_set]
  simp only [bools, List.getElem_map, List.getElem_range]
  by_cases e : i = j
  · subst e; simp
  · rw [if_neg e, if_neg (Ne.symm e)]
theorem bools_zero (n : Nat) : List.replicate n (AVal.bool false) = bools n (fun _ => false) := by
  apply List.ext_getElem (by simp [bools])
  intro j h1 h2
  simp [bools]
theorem bools_bare (n : Nat) (f : Nat → Bool) : BareB (.made (bools n f) 1 true) := by
  intro e he
  obtain ⟨j, _, rfl⟩ := List.mem_map.1 (show e ∈ (List.range n).map fun j => AVal.bool (f j) from he)
  exact Bare.bool _
theorem bools_el {n : Nat} {f : Nat → Bool} {k : Nat} (h : k < n) : (ABlk.made (bools n f) 1 true).elem? 0 k = some (.bool (f k)) := elem_made (bools_get h)

/-- what the first i of them take of some rows -/
structure StripZ (T : List Qd) (C : Nat) (y d none : Int) (i : Nat) (tk : Nat → Bool) (e : Int) : Prop where
  tk : ∀ x : Nat, x < C → (tk x = true ↔ ∃ j t, j < i ∧ T[j]? = some t ∧ OvlZ t y d ∧ t.a ≤ x ∧ (x : Int) < t.a + t.c)
  e : (e = none ∧ ∀ j t, j < i → T[j]? = some t → ¬ OvlZ t y d) ∨ ((∃ j t, j < i ∧ T[j]? = some t ∧ OvlZ t y d ∧ e = t.b + t.d) ∧ ∀ j t, j < i → T[j]? = some t → OvlZ t y d → e ≤ t.b + t.d)

theorem StripZ.zero (T : List Qd) (C : Nat) (y d none : Int) : StripZ T C y d none 0 (fun _ => false) none :=
  ⟨fun x _ => ⟨fun h => (by cases h), fun ⟨j, _, h, _⟩ => by omega⟩, .inl ⟨rfl, fun j _ h => by omega⟩⟩

theorem StripZ.out {T : List Qd} {C : Nat} {y d none e : Int} {i : Nat} {tk : Nat → Bool} (h : StripZ T C y d none i tk e) {t : Qd} (ht : T[i]? = some t) (ho : ¬ OvlZ t y d) : StripZ T C y d none (i + 1) tk e := by
  have no : ∀ j u, j < i + 1 → T[j]? = some u → OvlZ u y d → j < i := fun j u hj hu hv => by
    by_cases c : j = i
    · subst c; rw [ht] at hu; cases hu; exact absurd hv ho
    · omega
  refine ⟨fun x hx => (h.tk x hx).trans ⟨fun ⟨j, u, a1, a2, a3⟩ => ⟨j, u, by omega, a2, a3⟩, fun ⟨j, u, a1, a2, a3⟩ => ⟨j, u, no j u a1 a2 a3.1, a2, a3⟩⟩, ?_⟩
  rcases h.e with ⟨a, b⟩ | ⟨⟨j, u, a1, a2, a3⟩, b⟩
  · exact .inl ⟨a, fun j u hj hu hv => b j u (no j u hj hu hv) hu hv⟩
  · exact .inr ⟨⟨j, u, by omega, a2, a3⟩, fun j u hj hu hv => b j u (no j u hj hu hv) hu hv⟩

theorem StripZ.in_ {T : List Qd} {C : Nat} {y d none e e2 : Int} {i : Nat} {tk : Nat → Bool} (h : StripZ T C y d none i tk e) {t : Qd} (ht : T[i]? = some t) (ho : OvlZ t y d) (he : e2 = t.b + t.d ∧ (e = none ∨ t.b + t.d ≤ e) ∨ e2 = e ∧ e ≤ t.b + t.d ∧ e ≠ none) (hnone : e = none → ∀ j u, j < i → T[j]? = some u → OvlZ u y d → t.b + t.d ≤ u.b + u.d) :
    StripZ T C y d none (i + 1) (fun x => tk x || decide (t.a ≤ x ∧ (x : Int) < t.a + t.c)) e2 := by
  have il : ∀ j u, j < i + 1 → T[j]? = some u → (j < i ∧ T[j]? = some u) ∨ u = t := fun j u hj hu => by
    by_cases c : j = i
    · subst c; rw [ht] at hu; cases hu; exact .inr rfl
    · exact .inl ⟨by omega, hu⟩
  refine ⟨fun x hx => ?_, .inr ?_⟩
  · simp only [Bool.or_eq_true, decide_eq_true_eq]
    constructor
    · rintro (a | a)
      · obtain ⟨j, u, a1, a2, a3⟩ := (h.tk x hx).1 a
        exact ⟨j, u, by omega, a2, a3⟩
      · exact ⟨i, t, by omega, ht, ho, a⟩
    · rintro ⟨j, u, a1, a2, a3, a4⟩
      rcases il j u a1 a2 with ⟨b1, b2⟩ | rfl
      · exact .inl ((h.tk x hx).2 ⟨j, u, b1, b2, a3, a4⟩)
      · exact .inr a4
  · rcases he with ⟨rfl, h2⟩ | ⟨rfl, h2, h3⟩
    · refine ⟨⟨i, t, by omega, ht, ho, rfl⟩, fun j u hj hu hv => ?_⟩
      rcases il j u hj hu with ⟨b1, b2⟩ | rfl
      · rcases h.e with ⟨a, b⟩ | ⟨_, b⟩
        · exact absurd hv (b j u b1 b2)
        · rcases h2 with h2 | h2
          · exact hnone h2 j u b1 b2 hv
          · have := b j u b1 b2 hv; omega
      · exact Int.le_refl _
    · rcases h.e with ⟨a, b⟩ | ⟨⟨j, u, a1, a2, a3⟩, b⟩
      · exact absurd a h3
      · refine ⟨⟨j, u, by omega, a2, a3⟩, fun j u hj hu hv => ?_⟩
        rcases il j u hj hu with ⟨b1, b2⟩ | rfl
        · exact b j u b1 b2 hv
        · exact h2

theorem StripZ.all {T : List Qd} {C : Nat} {y d none e : Int} {tk : Nat → Bool} (h : StripZ T C y d none T.length tk e) : (∀ x : Nat, x < C → (tk x = true ↔ TkZ T y d x)) ∧ EndZ T y d e none := by
  have mem : ∀ t, t ∈ T → ∃ j, j < T.length ∧ T[j]? = some t := fun t ht => by
    obtain ⟨j, hj, e1⟩ := List.mem_iff_getElem.1 ht
    exact ⟨j, hj, by rw [List.getElem?_eq_getElem hj, e1]⟩
  refine ⟨fun x hx => (h.tk x hx).trans ⟨fun ⟨j, t, a1, a2, a3⟩ => ⟨t, List.mem_of_getElem? a2, a3⟩, fun ⟨t, a1, a3⟩ => ?_⟩, ?_⟩
  · obtain ⟨j, hj, e1⟩ := mem t a1
    exact ⟨j, t, hj, e1, a3⟩
  · rcases h.e with ⟨a, b⟩ | ⟨⟨j, t, a1, a2, a3, a4⟩, b⟩
    · exact .inl ⟨a, fun t ht ho => by obtain ⟨j, hj, e1⟩ := mem t ht; exact b j t hj e1 ho⟩
    · exact .inr ⟨⟨t, List.mem_of_getElem? a2, a3, a4⟩, fun t ht ho => by obtain ⟨j, hj, e1⟩ := mem t ht; exact b j t hj e1 ho⟩

section
variable {C n c v : Nat} {o : Option AAddr} (hs : SlArg o n c 1 v 0 4) {bT : ABlk} (hb : BareB bT) {T : List Qd} (hl : T.length = n) (hel : ElT bT v T) {M : Int} (hT : GoodT C M T) (hC : C ≤ 64) (hM : 0 ≤ M ∧ M ≤ 2 ^ 39) (hn : n ≤ 2 ^ 40)
include hs hb hl hel hT hC hM hn

theorem si_loop {t : Qd} (ht : t ∈ T) (tk : Nat → Bool) (y d e : Int) (i : Nat) : ∀ (f : Nat) (x : Int), t.a ≤ x → x + f = t.a + t.c →
    Loops Try.prog 2 76 (loopAt Try.prog 54 1) [(0, .ptr (some ⟨0, 0, 0, 0, 2⟩)), (1, .int .i64 y), (2, .int .i64 d), (6, .slice (some ⟨8, 0, 0, 0, 1⟩) C C), (7, .int .i64 e), (9, .ptr (some ⟨19, 0, 0, 0, 4⟩)), (11, .int .i64 x), (20, .slice o n c), (21, .int .i64 n), (22, .int .i64 i)]
      (AHeap.rows 60 [(0, brdRow C o n c), (1, bT), (8, .made (bools C fun j => tk j || decide (t.a ≤ j ∧ (j : Int) < x)) 1 true), (19, .made [t.val] 4 true)]) (.exit 2)
      [(0, .ptr (some ⟨0, 0, 0, 0, 2⟩)), (1, .int .i64 y), (2, .int .i64 d), (6, .slice (some ⟨8, 0, 0, 0, 1⟩) C C), (7, .int .i64 e), (20, .slice o n c), (21, .int .i64 n), (22, .int .i64 i)] (AHeap.rows 80 [(0, brdRow C o n c), (1, bT), (8, .made (bools C fun j => tk j || decide (t.a ≤ j ∧ (j : Int) < t.a + t.c)) 1 true)])
  | 0, x, h0, e0 => by
    have g := hT t ht
    obtain rfl : x = t.a + t.c := by omega
    have d0 : Clo (Ids [0, 1, 8]) (.slice o n c) := hs.clo (by simp [Ids])
    refine (Loops.last (by simp) (si_end o n c v i C bT _ [] y d e 0 (t.a + t.c) t.a t.b t.c t.d false (by omega) (by split <;> omega))).post ?_
    exact Ent.drop (by kernel_rfl) (by kernel_rfl) (by kernel_rfl) (by kernel_rfl) (by simp [All_cons, All_nil, Clo, d0]; simp [Ids]) (by
      simp only [List.map, All_cons, All_nil, and_true]
      exact ⟨brd_cloI d0, hb.clo _, (bools_bare _ _).clo _⟩)
  | f + 1, x, h0, e0 => by
    have g := hT t ht
    have d0 : Clo (Ids [0, 1, 8, 19]) (.slice o n c) := hs.clo (by simp [Ids])
    have st := si_step o n c v i C bT (bools C fun j => tk j || decide (t.a ≤ j ∧ (j : Int) < x)) [] y d e 0 x t.a t.b t.c t.d (tk x.toNat || decide (t.a ≤ x.toNat ∧ (x.toNat : Int) < x)) (by omega) (by split <;> omega) ⟨by omega, by omega, rfl⟩ ⟨rfl, by rw [Nat.zero_add, bools_get (by omega)]⟩ (by omega)
    rw [Nat.zero_add, bools_set, show (bools C fun j => if j = x.toNat then true else (tk j || decide (t.a ≤ j ∧ (j : Int) < x))) = (bools C fun j => tk j || decide (t.a ≤ j ∧ (j : Int) < x + 1)) from bools_congr fun j hj => by
      by_cases c1 : j = x.toNat
      · rw [if_pos c1, decide_eq_true (show t.a ≤ (j : Int) ∧ (j : Int) < x + 1 by omega), Bool.or_true]
      · rw [if_neg c1]
        congr 1
        rw [decide_eq_decide]
        omega] at st
    refine Loops.step (st.post ?_) (si_loop ht tk y d e i f (x + 1) (by omega) (by omega))
    exact Ent.drop (by kernel_rfl) (by kernel_rfl) (by kernel_rfl) (by kernel_rfl) (by simp [All_cons, All_nil, Clo, d0]; simp [Ids]) (by
      simp only [List.map, All_cons, All_nil, and_true]
      exact ⟨brd_cloI d0, hb.clo _, (bools_bare _ _).clo _, qd_cloI _ _⟩)

theorem st_loop {y d : Int} (hy : -2 ^ 40 ≤ y ∧ y ≤ 2 ^ 40) (hd : -2 ^ 40 ≤ d ∧ d ≤ 2 ^ 40) : ∀ (f i : Nat) (tk : Nat → Bool) (e : Int), i + f = n → StripZ T C y d 0 i tk e →
    ∃ tk2 e2, StripZ T C y d 0 n tk2 e2 ∧ Loops Try.prog 2 76 (loopAt Try.prog 54 0) [(0, .ptr (some ⟨0, 0, 0, 0, 2⟩)), (1, .int .i64 y), (2, .int .i64 d), (6, .slice (some ⟨8, 0, 0, 0, 1⟩) C C), (7, .int .i64 e), (20, .slice o n c), (21, .int .i64 n), (22, .int .i64 i)]
      (AHeap.rows 16 [(0, brdRow C o n c), (1, bT), (8, .made (bools C tk) 1 true)]) (.exit 0) [(6, .slice (some ⟨8, 0, 0, 0, 1⟩) C C), (7, .int .i64 e2)] (AHeap.rows 17 [(0, brdRow C o n c), (1, bT), (8, .made (bools C tk2) 1 true)])
  | 0, i, tk, e, hi, hz => by
    obtain rfl : i = n := by omega
    exact ⟨tk, e, hz, Loops.last (by simp) (st_end o i c v i C bT _ [] y d e 0 0 0 0 0 0 false (by omega))⟩
  | f + 1, i, tk, e, hi, hz => by
    have hin : i < n := by omega
    obtain ⟨t, ht⟩ : ∃ t, T[i]? = some t := ⟨T[i], List.getElem?_eq_getElem (by omega)⟩
    have htm : t ∈ T := List.mem_of_getElem? ht
    have g := hT t htm
    have st := hT.small (by omega) hM.2 t htm
    have d0 : Clo (Ids [0, 1, 8]) (.slice o n c) := hs.clo (by simp [Ids])
    have d1 : Clo (Ids [0, 1, 8, 19]) (.slice o n c) := hs.clo (by simp [Ids])
    have c1 : (i : Int) < n := by omega
    have c2 := ix_spS (k := .i64) hs hin
    have c3 := hel i t ht
    have f1 := fit_add hy hd
    have f2 := fit_add st.2.1 st.2.2.2
    have f5 : -9223372036854775808 ≤ (i : Int) + 1 ∧ (i : Int) + (1 : Int) ≤ 9223372036854775807 := by omega
    have dr : ∀ (K : Nat) (l : List (Nat × ABlk)) (e3 : Int) (tk3 : Nat → Bool), [(AHeap.rows K l).get 0, (AHeap.rows K l).get 1, (AHeap.rows K l).get 8] = [some (brdRow C o n c), some bT, some (.made (bools C tk3) 1 true)] →
        Ent 2 76 [(0, .ptr (some ⟨0, 0, 0, 0, 2⟩)), (1, .int .i64 y), (2, .int .i64 d), (6, .slice (some ⟨8, 0, 0, 0, 1⟩) C C), (7, .int .i64 e3), (20, .slice o n c), (21, .int .i64 n), (22, .int .i64 (i + 1 : Nat))] (AHeap.rows K l)
          [(0, .ptr (some ⟨0, 0, 0, 0, 2⟩)), (1, .int .i64 y), (2, .int .i64 d), (6, .slice (some ⟨8, 0, 0, 0, 1⟩) C C), (7, .int .i64 e3), (20, .slice o n c), (21, .int .i64 n), (22, .int .i64 (i + 1 : Nat))] (AHeap.rows 16 [(0, brdRow C o n c), (1, bT), (8, .made (bools C tk3) 1 true)]) := fun K l e3 tk3 hh =>
      Ent.drop hh (by kernel_rfl) (by kernel_rfl) (by kernel_rfl) (by simp [All_cons, All_nil, Clo, d0]; simp [Ids]) (by
        simp only [List.map, All_cons, All_nil, and_true]
        exact ⟨brd_cloI d0, hb.clo _, (bools_bare _ _).clo _⟩)
    by_cases o1 : t.b ≥ y + d
    · obtain ⟨tk2, e2, a1, l⟩ := st_loop hy hd f (i + 1) tk e (by omega) (hz.out ht (fun h => by have := h.1; omega))
      exact ⟨tk2, e2, a1, Loops.step ((st_o1 o n c v i C bT _ [] y d e 0 0 t.a t.b t.c t.d false c1 c2 c3 f1 o1 f5).post (dr _ _ e tk (by kernel_rfl))) l⟩
    · by_cases o2 : y ≥ t.b + t.d
      · obtain ⟨tk2, e2, a1, l⟩ := st_loop hy hd f (i + 1) tk e (by omega) (hz.out ht (fun h => by have := h.2; omega))
        exact ⟨tk2, e2, a1, Loops.step ((st_o2 o n c v i C bT _ [] y d e 0 0 t.a t.b t.c t.d false c1 c2 c3 f1 o1 f2 o2 f5).post (dr _ _ e tk (by kernel_rfl))) l⟩
      · have ov : OvlZ t y d := ⟨by omega, by omega⟩
        have inn : ∀ (K : Nat) (e3 : Int), Runs Try.prog 2 76 (Code.loop (loopAt Try.prog 54 1)) [(0, .ptr (some ⟨0, 0, 0, 0, 2⟩)), (1, .int .i64 y), (2, .int .i64 d), (6, .slice (some ⟨8, 0, 0, 0, 1⟩) C C), (7, .int .i64 e3), (9, .ptr (some ⟨19, 0, 0, 0, 4⟩)), (11, .int .i64 t.a), (20, .slice o n c), (21, .int .i64 n), (22, .int .i64 i)]
            (AHeap.rows K [(0, brdRow C o n c), (1, bT), (8, .made (bools C tk) 1 true), (19, .made [t.val] 4 true)]) (.exit 2)
            [(0, .ptr (some ⟨0, 0, 0, 0, 2⟩)), (1, .int .i64 y), (2, .int .i64 d), (6, .slice (some ⟨8, 0, 0, 0, 1⟩) C C), (7, .int .i64 e3), (20, .slice o n c), (21, .int .i64 n), (22, .int .i64 i)] (AHeap.rows 80 [(0, brdRow C o n c), (1, bT), (8, .made (bools C fun j => tk j || decide (t.a ≤ j ∧ (j : Int) < t.a + t.c)) 1 true)]) := fun K e3 => by
          have l := si_loop hs hb hl hel hT hC hM hn htm tk y d e3 i t.c.toNat t.a (Int.le_refl _) (by omega)
          rw [show (bools C fun j => tk j || decide (t.a ≤ j ∧ (j : Int) < t.a)) = bools C tk from bools_congr fun j _ => by rw [decide_eq_false (by omega), Bool.or_false]] at l
          refine Runs.of_loops (Tri.pre l ?_)
          exact Ent.drop (by kernel_rfl) (by kernel_rfl) (by kernel_rfl) (by kernel_rfl) (by simp [All_cons, All_nil, Clo, d1]; simp [Ids]) (by
            simp only [List.map, All_cons, All_nil, and_true]
            exact ⟨brd_cloI d1, hb.clo _, (bools_bare _ _).clo _, qd_cloI _ _⟩)
        have en : e = 0 → ∀ j u, j < i → T[j]? = some u → OvlZ u y d → t.b + t.d ≤ u.b + u.d := fun h0 j u hj hu hv => by
          rcases hz.e with ⟨_, b⟩ | ⟨⟨j2, u2, b1, b2, b3, b4⟩, _⟩
          · exact absurd hv (b j u hj hu)
          · have := hT u2 (List.mem_of_getElem? b2); omega
        by_cases e0 : e = 0
        · obtain ⟨tk2, e2, a1, l⟩ := st_loop hy hd f (i + 1) _ (t.b + t.d) (by omega) (hz.in_ ht ov (.inl ⟨rfl, .inl e0⟩) en)
          exact ⟨tk2, e2, a1, Loops.step ((st_in1 o n c v i C bT _ _ y d e (t.b + t.d) 0 t.a t.b t.c t.d false c1 c2 c3 f1 o1 f2 o2 f2 e0 (inn _ _) f5).post (dr _ _ _ _ (by kernel_rfl))) l⟩
        · by_cases e1 : t.b + t.d < e
          · obtain ⟨tk2, e2, a1, l⟩ := st_loop hy hd f (i + 1) _ (t.b + t.d) (by omega) (hz.in_ ht ov (.inl ⟨rfl, .inr (by omega)⟩) en)
            exact ⟨tk2, e2, a1, Loops.step ((st_in2 o n c v i C bT _ _ y d e (t.b + t.d) 0 t.a t.b t.c t.d false c1 c2 c3 f1 o1 f2 o2 f2 e0 e1 (inn _ _) f5).post (dr _ _ _ _ (by kernel_rfl))) l⟩
          · obtain ⟨tk2, e2, a1, l⟩ := st_loop hy hd f (i + 1) _ e (by omega) (hz.in_ ht ov (.inr ⟨rfl, by omega, e0⟩) en)
            exact ⟨tk2, e2, a1, Loops.step ((st_in3 o n c v i C bT _ _ y d e e 0 t.a t.b t.c t.d false c1 c2 c3 f1 o1 f2 o2 f2 e0 e1 (inn _ _) f5).post (dr _ _ _ _ (by kernel_rfl))) l⟩
end

/-- grid.board.strip -/
theorem strip_does {H : AHeap} {ib iT C : Nat} {o : Option AAddr} {n c v : Nat} {bT : ABlk} {T : List Qd} (h : BoardAt H ib iT C o n c v bT T) {M : Int} (hT : GoodT C M T) (hC : C ≤ 64) (hM : 0 ≤ M ∧ M ≤ 2 ^ 39) (hn : n ≤ 2 ^ 40) {y d : Int} (hy : -2 ^ 40 ≤ y ∧ y ≤ 2 ^ 40) (hd : -2 ^ 40 ≤ d ∧ d ≤ 2 ^ 40) :
    ∃ tk e, (∀ x : Nat, x < C → (tk x = true ↔ TkZ T y d x)) ∧ EndZ T y d e 0 ∧ FDoes Try.prog 54 [.ptr (some ⟨ib, 0, 0, 0, 2⟩), .int .i64 y, .int .i64 d] H (.tuple [.slice (some ⟨H.next, 0, 0, 0, 1⟩) C C, .int .i64 e]) (H.upd [] [.made (bools C tk) 1 true]) := by
  have s1 := h.sl.at 1
  obtain ⟨tk, e, a1, l⟩ := st_loop s1 h.bare h.len h.el hT hC hM hn hy hd n 0 (fun _ => false) 0 (by omega) (StripZ.zero T C y d 0)
  rw [← bools_zero] at l
  rw [← h.len] at a1
  obtain ⟨b1, b2⟩ := a1.all
  refine ⟨tk, e, b1, b2, ?_⟩
  have k := (st_call _ n c v 0 C bT _ [] y d e 0 0 0 0 0 0 false ⟨by omega, by omega, by omega, by omega⟩ (Runs.of_loops l)).newC (l := [brdRow C (o.map fun a => { a with id := 1 }) n c, bT]) (bn := .made (bools C tk) 1 true) (j := 8) (v2 := .tuple [.slice (some ⟨2, 0, 0, 0, 1⟩) C C, .int .i64 e])
    (by simp; exact ⟨brd_clo s1, bare_clo2 h.bare⟩) (bools_bare _ _) (by kernel_rfl) (by kernel_rfl) (by simp) (by simp [AVal.ren, AVal.rens, AAddr.ren, finR]) (by simp [Clo, Clos]) (by simp [Clo, Clos]) (H := H) [ib, iT] (by simp [h.ne]) (by simp [h.lb, h.lT]) (by
    have e1 : (brdRow C (o.map fun a => { a with id := 1 }) n c).ren (toBig [ib, iT] H.next) = brdRow C o n c := by
      rcases h.sl with rfl | ⟨rfl, rfl, rfl⟩ <;> simp [brdRow, ABlk.ren, ABlk.made, AVal.ren, AVal.rens, AAddr.ren, toBig]
    simp [h.gb, h.gT, e1, h.bare.ren])
  simpa [AVal.ren, AVal.rens, AAddr.ren, toBig] using k

end Go.Proofs.Ytcgcpmcjaeenlaa

namespace Go.Proofs.Ytcgcpmcjaeenlaa
open Go.Lift
set_option maxRecDepth 1000000
set_option linter.unusedSimpArgs false
set_option linter.unusedVariables false
set_option linter.unusedSectionVars false

theorem bi_free (o : Option AAddr) (n c v C : Nat) (bT rt : ABlk) (l : List AVal) (y x0 e x i sa sb sc sd ta tb tc td : Int) (hc_0 : i < sc) (hc_1 : -9223372036854775808 ≤ x + i ∧ x + i ≤ 9223372036854775807) (hc_2 : 0 ≤ x + i ∧ x + i < (C : Int) ∧ 1 = 1) (hc_3 : ABlk.elem? (.made l 1 true) 0 (0 + Int.toNat (x + i)) = some (AVal.bool false)) (hc_4 : -9223372036854775808 ≤ i + 1 ∧ i + (1 : Int) ≤ 9223372036854775807) :
    Runs Try.prog 2 55 (loopAt Try.prog 33 2) [(0, .ptr (some ⟨0, 0, 0, 0, 2⟩)), (2, .int .i64 y), (3, .int .i64 x0), (5, .ptr (some ⟨2, 0, 0, 0, 4⟩)), (8, .ptr (some ⟨3, 0, 0, 0, 4⟩)), (9, .slice (some ⟨36, 0, 0, 0, 1⟩) C C), (10, .int .i64 e), (11, .int .i64 x), (34, .int .i64 sc), (35, .int .i64 i)] (AHeap.rows 40 [(0, .made [.agg [.int .i64 C, .slice o n c]] 2 true), (1, bT), (2, .made [.agg [.int .i64 sa, .int .i64 sb, .int .i64 sc, .int .i64 sd]] 4 true), (3, .made [.agg [.int .i64 0, .int .i64 0, .int .i64 0, .int .i64 0]] 4 true), (36, .made l 1 true)]) .normal [(0, .ptr (some ⟨0, 0, 0, 0, 2⟩)), (2, .int .i64 y), (3, .int .i64 x0), (5, .ptr (some ⟨2, 0, 0, 0, 4⟩)), (8, .ptr (some ⟨3, 0, 0, 0, 4⟩)), (9, .slice (some ⟨36, 0, 0, 0, 1⟩) C C), (10, .int .i64 e), (11, .int .i64 x), (34, .int .i64 sc), (35, .int .i64 (i + 1))] (AHeap.rows 51 [(0, (.made ([.agg [.int .i64 (C : Int), .slice o n c]]) 2 true)), (1, bT), (2, (.made ([.agg [.int .i64 sa, .int .i64 sb, .int .i64 sc, .int .i64 sd]]) 4 true)), (3, (.made ([.agg [.int .i64 0, .int .i64 0, .int .i64 0, .int .i64 0]]) 4 true)), (36, .made l 1 true)]) :=
  ppath_runs env_ok mixed (hs := [.val 6000 (.bool true), .go 8003, .go 8004, .ld 8005 (.bool false), .go 9000]) (keep := [0, 2, 3, 5, 8, 9, 10, 11, 34, 35]) (by kernel_rfl) (All.cons (okT hc_0) (All.cons hc_1 (All.cons hc_2 (All.cons hc_3 (All.cons hc_4 (All.nil))))))

theorem bi_taken (o : Option AAddr) (n c v C : Nat) (bT rt : ABlk) (l : List AVal) (y x0 e x i sa sb sc sd ta tb tc td : Int) (hc_0 : i < sc) (hc_1 : -9223372036854775808 ≤ x + i ∧ x + i ≤ 9223372036854775807) (hc_2 : 0 ≤ x + i ∧ x + i < (C : Int) ∧ 1 = 1) (hc_3 : ABlk.elem? (.made l 1 true) 0 (0 + Int.toNat (x + i)) = some (AVal.bool true)) :
    Runs Try.prog 2 55 (loopAt Try.prog 33 2) [(0, .ptr (some ⟨0, 0, 0, 0, 2⟩)), (2, .int .i64 y), (3, .int .i64 x0), (5, .ptr (some ⟨2, 0, 0, 0, 4⟩)), (8, .ptr (some ⟨3, 0, 0, 0, 4⟩)), (9, .slice (some ⟨36, 0, 0, 0, 1⟩) C C), (10, .int .i64 e), (11, .int .i64 x), (34, .int .i64 sc), (35, .int .i64 i)] (AHeap.rows 40 [(0, .made [.agg [.int .i64 C, .slice o n c]] 2 true), (1, bT), (2, .made [.agg [.int .i64 sa, .int .i64 sb, .int .i64 sc, .int .i64 sd]] 4 true), (3, .made [.agg [.int .i64 0, .int .i64 0, .int .i64 0, .int .i64 0]] 4 true), (36, .made l 1 true)]) (.exit 3) [(0, .ptr (some ⟨0, 0, 0, 0, 2⟩)), (2, .int .i64 y), (3, .int .i64 x0), (5, .ptr (some ⟨2, 0, 0, 0, 4⟩)), (8, .ptr (some ⟨3, 0, 0, 0, 4⟩)), (9, .slice (some ⟨36, 0, 0, 0, 1⟩) C C), (10, .int .i64 e), (11, .int .i64 x)] (AHeap.rows 49 [(0, (.made ([.agg [.int .i64 (C : Int), .slice o n c]]) 2 true)), (1, bT), (2, (.made ([.agg [.int .i64 sa, .int .i64 sb, .int .i64 sc, .int .i64 sd]]) 4 true)), (3, (.made ([.agg [.int .i64 0, .int .i64 0, .int .i64 0, .int .i64 0]]) 4 true)), (36, .made l 1 true)]) :=
  ppath_runs env_ok mixed (hs := [.val 6000 (.bool true), .go 8003, .go 8004, .ld 8005 (.bool true)]) (keep := [0, 2, 3, 5, 8, 9, 10, 11]) (by kernel_rfl) (All.cons (okT hc_0) (All.cons hc_1 (All.cons hc_2 (All.cons hc_3 (All.nil)))))

theorem bi_end (o : Option AAddr) (n c v C : Nat) (bT rt : ABlk) (l : List AVal) (y x0 e x i sa sb sc sd ta tb tc td : Int) (hc_0 : ¬ (i < sc)) :
    Runs Try.prog 2 55 (loopAt Try.prog 33 2) [(0, .ptr (some ⟨0, 0, 0, 0, 2⟩)), (2, .int .i64 y), (3, .int .i64 x0), (5, .ptr (some ⟨2, 0, 0, 0, 4⟩)), (8, .ptr (some ⟨3, 0, 0, 0, 4⟩)), (9, .slice (some ⟨36, 0, 0, 0, 1⟩) C C), (10, .int .i64 e), (11, .int .i64 x), (34, .int .i64 sc), (35, .int .i64 i)] (AHeap.rows 40 [(0, .made [.agg [.int .i64 C, .slice o n c]] 2 true), (1, bT), (2, .made [.agg [.int .i64 sa, .int .i64 sb, .int .i64 sc, .int .i64 sd]] 4 true), (3, .made [.agg [.int .i64 0, .int .i64 0, .int .i64 0, .int .i64 0]] 4 true), (36, .made l 1 true)]) (.exit 4) [(0, .ptr (some ⟨0, 0, 0, 0, 2⟩)), (2, .int .i64 y), (3, .int .i64 x0), (5, .ptr (some ⟨2, 0, 0, 0, 4⟩)), (8, .ptr (some ⟨3, 0, 0, 0, 4⟩)), (11, .int .i64 x)] (AHeap.rows 41 [(0, (.made ([.agg [.int .i64 (C : Int), .slice o n c]]) 2 true)), (1, bT), (2, (.made ([.agg [.int .i64 sa, .int .i64 sb, .int .i64 sc, .int .i64 sd]]) 4 true)), (3, (.made ([.agg [.int .i64 0, .int .i64 0, .int .i64 0, .int .i64 0]]) 4 true)), (36, .made l 1 true)]) :=
  ppath_runs env_ok mixed (hs := [.val 6000 (.bool false)]) (keep := [0, 2, 3, 5, 8, 11]) (by kernel_rfl) (All.cons (okF hc_0) (All.nil))

theorem bc_next (o : Option AAddr) (n c v C : Nat) (bT rt : ABlk) (l : List AVal) (y x0 e x i sa sb sc sd ta tb tc td : Int) (hc_0 : -9223372036854775808 ≤ x + sc ∧ x + sc ≤ 9223372036854775807) (hc_1 : x + sc ≤ (C : Int)) (hc_2 : Runs Try.prog 2 55 (.loop (loopAt Try.prog 33 2)) [(0, .ptr (some ⟨0, 0, 0, 0, 2⟩)), (2, .int .i64 y), (3, .int .i64 x0), (5, .ptr (some ⟨2, 0, 0, 0, 4⟩)), (8, .ptr (some ⟨3, 0, 0, 0, 4⟩)), (9, .slice (some ⟨36, 0, 0, 0, 1⟩) C C), (10, .int .i64 e), (11, .int .i64 x), (34, .int .i64 sc), (35, .int .i64 0)] (AHeap.rows 52 [(0, (.made ([.agg [.int .i64 (C : Int), .slice o n c]]) 2 true)), (1, bT), (2, (.made ([.agg [.int .i64 sa, .int .i64 sb, .int .i64 sc, .int .i64 sd]]) 4 true)), (3, (.made ([.agg [.int .i64 0, .int .i64 0, .int .i64 0, .int .i64 0]]) 4 true)), (36, .made l 1 true)]) (.exit 3) [(0, .ptr (some ⟨0, 0, 0, 0, 2⟩)), (2, .int .i64 y), (3, .int .i64 x0), (5, .ptr (some ⟨2, 0, 0, 0, 4⟩)), (8, .ptr (some ⟨3, 0, 0, 0, 4⟩)), (9, .slice (some ⟨36, 0, 0, 0, 1⟩) C C), (10, .int .i64 e), (11, .int .i64 x)] (AHeap.rows 60 [(0, (.made ([.agg [.int .i64 (C : Int), .slice o n c]]) 2 true)), (1, bT), (2, (.made ([.agg [.int .i64 sa, .int .i64 sb, .int .i64 sc, .int .i64 sd]]) 4 true)), (3, (.made ([.agg [.int .i64 0, .int .i64 0, .int .i64 0, .int .i64 0]]) 4 true)), (36, .made l 1 true)])) (hc_3 : -9223372036854775808 ≤ x + 1 ∧ x + (1 : Int) ≤ 9223372036854775807) :
    Runs Try.prog 2 55 (loopAt Try.prog 33 1) [(0, .ptr (some ⟨0, 0, 0, 0, 2⟩)), (2, .int .i64 y), (3, .int .i64 x0), (5, .ptr (some ⟨2, 0, 0, 0, 4⟩)), (8, .ptr (some ⟨3, 0, 0, 0, 4⟩)), (9, .slice (some ⟨36, 0, 0, 0, 1⟩) C C), (10, .int .i64 e), (11, .int .i64 x)] (AHeap.rows 40 [(0, .made [.agg [.int .i64 C, .slice o n c]] 2 true), (1, bT), (2, .made [.agg [.int .i64 sa, .int .i64 sb, .int .i64 sc, .int .i64 sd]] 4 true), (3, .made [.agg [.int .i64 0, .int .i64 0, .int .i64 0, .int .i64 0]] 4 true), (36, .made l 1 true)]) .normal [(0, .ptr (some ⟨0, 0, 0, 0, 2⟩)), (2, .int .i64 y), (3, .int .i64 x0), (5, .ptr (some ⟨2, 0, 0, 0, 4⟩)), (8, .ptr (some ⟨3, 0, 0, 0, 4⟩)), (9, .slice (some ⟨36, 0, 0, 0, 1⟩) C C), (10, .int .i64 e), (11, .int .i64 (x + 1))] (AHeap.rows 63 [(0, (.made ([.agg [.int .i64 (C : Int), .slice o n c]]) 2 true)), (1, bT), (2, (.made ([.agg [.int .i64 sa, .int .i64 sb, .int .i64 sc, .int .i64 sd]]) 4 true)), (3, (.made ([.agg [.int .i64 0, .int .i64 0, .int .i64 0, .int .i64 0]]) 4 true)), (36, .made l 1 true)]) :=
  ppath_runs env_ok mixed (hs := [.go 3003, .val 3008 (.bool true), .keep [0, 2, 3, 5, 8, 9, 10, 11, 34, 35], .loop [(0, .ptr (some ⟨0, 0, 0, 0, 2⟩)), (2, .int .i64 y), (3, .int .i64 x0), (5, .ptr (some ⟨2, 0, 0, 0, 4⟩)), (8, .ptr (some ⟨3, 0, 0, 0, 4⟩)), (9, .slice (some ⟨36, 0, 0, 0, 1⟩) C C), (10, .int .i64 e), (11, .int .i64 x)] (AHeap.rows 60 [(0, .made [.agg [.int .i64 C, .slice o n c]] 2 true), (1, bT), (2, .made [.agg [.int .i64 sa, .int .i64 sb, .int .i64 sc, .int .i64 sd]] 4 true), (3, .made [.agg [.int .i64 0, .int .i64 0, .int .i64 0, .int .i64 0]] 4 true), (36, .made l 1 true)]) (.exit 3), .go 4001]) (keep := [0, 2, 3, 5, 8, 9, 10, 11]) (by kernel_rfl) (All.cons hc_0 (All.cons (okT hc_1) (All.cons hc_2 (All.cons hc_3 (All.nil)))))

theorem bc_found (o : Option AAddr) (n c v C : Nat) (bT rt : ABlk) (l : List AVal) (y x0 e x i sa sb sc sd ta tb tc td : Int) (hc_0 : -9223372036854775808 ≤ x + sc ∧ x + sc ≤ 9223372036854775807) (hc_1 : x + sc ≤ (C : Int)) (hc_2 : Runs Try.prog 2 55 (.loop (loopAt Try.prog 33 2)) [(0, .ptr (some ⟨0, 0, 0, 0, 2⟩)), (2, .int .i64 y), (3, .int .i64 x0), (5, .ptr (some ⟨2, 0, 0, 0, 4⟩)), (8, .ptr (some ⟨3, 0, 0, 0, 4⟩)), (9, .slice (some ⟨36, 0, 0, 0, 1⟩) C C), (10, .int .i64 e), (11, .int .i64 x), (34, .int .i64 sc), (35, .int .i64 0)] (AHeap.rows 52 [(0, (.made ([.agg [.int .i64 (C : Int), .slice o n c]]) 2 true)), (1, bT), (2, (.made ([.agg [.int .i64 sa, .int .i64 sb, .int .i64 sc, .int .i64 sd]]) 4 true)), (3, (.made ([.agg [.int .i64 0, .int .i64 0, .int .i64 0, .int .i64 0]]) 4 true)), (36, .made l 1 true)]) (.exit 4) [(0, .ptr (some ⟨0, 0, 0, 0, 2⟩)), (2, .int .i64 y), (3, .int .i64 x0), (5, .ptr (some ⟨2, 0, 0, 0, 4⟩)), (8, .ptr (some ⟨3, 0, 0, 0, 4⟩)), (11, .int .i64 x)] (AHeap.rows 60 [(0, (.made ([.agg [.int .i64 (C : Int), .slice o n c]]) 2 true)), (1, bT), (2, (.made ([.agg [.int .i64 sa, .int .i64 sb, .int .i64 sc, .int .i64 sd]]) 4 true)), (3, (.made ([.agg [.int .i64 0, .int .i64 0, .int .i64 0, .int .i64 0]]) 4 true))])) :
    Runs Try.prog 2 55 (loopAt Try.prog 33 1) [(0, .ptr (some ⟨0, 0, 0, 0, 2⟩)), (2, .int .i64 y), (3, .int .i64 x0), (5, .ptr (some ⟨2, 0, 0, 0, 4⟩)), (8, .ptr (some ⟨3, 0, 0, 0, 4⟩)), (9, .slice (some ⟨36, 0, 0, 0, 1⟩) C C), (10, .int .i64 e), (11, .int .i64 x)] (AHeap.rows 40 [(0, .made [.agg [.int .i64 C, .slice o n c]] 2 true), (1, bT), (2, .made [.agg [.int .i64 sa, .int .i64 sb, .int .i64 sc, .int .i64 sd]] 4 true), (3, .made [.agg [.int .i64 0, .int .i64 0, .int .i64 0, .int .i64 0]] 4 true), (36, .made l 1 true)]) (.exit 0) [(5, .ptr (some ⟨2, 0, 0, 0, 4⟩)), (8, .ptr (some ⟨3, 0, 0, 0, 4⟩))] (AHeap.set (AHeap.set (AHeap.rows 66 [(0, (.made ([.agg [.int .i64 (C : Int), .slice o n c]]) 2 true)), (1, bT), (2, (.made ([.agg [.int .i64 sa, .int .i64 sb, .int .i64 sc, .int .i64 sd]]) 4 true)), (3, (.made ([.agg [.int .i64 0, .int .i64 0, .int .i64 0, .int .i64 0]]) 4 true))]) 2 (.made ([.agg [.int .i64 sa, .int .i64 y, .int .i64 sc, .int .i64 sd]]) 4 true)) 2 (.made ([.agg [.int .i64 x, .int .i64 y, .int .i64 sc, .int .i64 sd]]) 4 true)) :=
  ppath_runs env_ok mixed (hs := [.go 3003, .val 3008 (.bool true), .keep [0, 2, 3, 5, 8, 9, 10, 11, 34, 35], .loop [(0, .ptr (some ⟨0, 0, 0, 0, 2⟩)), (2, .int .i64 y), (3, .int .i64 x0), (5, .ptr (some ⟨2, 0, 0, 0, 4⟩)), (8, .ptr (some ⟨3, 0, 0, 0, 4⟩)), (11, .int .i64 x)] (AHeap.rows 60 [(0, .made [.agg [.int .i64 C, .slice o n c]] 2 true), (1, bT), (2, .made [.agg [.int .i64 sa, .int .i64 sb, .int .i64 sc, .int .i64 sd]] 4 true), (3, .made [.agg [.int .i64 0, .int .i64 0, .int .i64 0, .int .i64 0]] 4 true)]) (.exit 4)]) (keep := [5, 8]) (by kernel_rfl) (All.cons hc_0 (All.cons (okT hc_1) (All.cons hc_2 (All.nil))))

theorem bc_end (o : Option AAddr) (n c v C : Nat) (bT rt : ABlk) (l : List AVal) (y x0 e x i sa sb sc sd ta tb tc td : Int) (hc_0 : -9223372036854775808 ≤ x + sc ∧ x + sc ≤ 9223372036854775807) (hc_1 : ¬ (x + sc ≤ (C : Int))) :
    Runs Try.prog 2 55 (loopAt Try.prog 33 1) [(0, .ptr (some ⟨0, 0, 0, 0, 2⟩)), (2, .int .i64 y), (3, .int .i64 x0), (5, .ptr (some ⟨2, 0, 0, 0, 4⟩)), (8, .ptr (some ⟨3, 0, 0, 0, 4⟩)), (9, .slice (some ⟨36, 0, 0, 0, 1⟩) C C), (10, .int .i64 e), (11, .int .i64 x)] (AHeap.rows 40 [(0, .made [.agg [.int .i64 C, .slice o n c]] 2 true), (1, bT), (2, .made [.agg [.int .i64 sa, .int .i64 sb, .int .i64 sc, .int .i64 sd]] 4 true), (3, .made [.agg [.int .i64 0, .int .i64 0, .int .i64 0, .int .i64 0]] 4 true), (36, .made l 1 true)]) (.exit 2) [(0, .ptr (some ⟨0, 0, 0, 0, 2⟩)), (2, .int .i64 y), (3, .int .i64 x0), (5, .ptr (some ⟨2, 0, 0, 0, 4⟩)), (8, .ptr (some ⟨3, 0, 0, 0, 4⟩)), (10, .int .i64 e)] (AHeap.rows 49 [(0, (.made ([.agg [.int .i64 (C : Int), .slice o n c]]) 2 true)), (1, bT), (2, (.made ([.agg [.int .i64 sa, .int .i64 sb, .int .i64 sc, .int .i64 sd]]) 4 true)), (3, (.made ([.agg [.int .i64 0, .int .i64 0, .int .i64 0, .int .i64 0]]) 4 true)), (36, .made l 1 true)]) :=
  ppath_runs env_ok mixed (hs := [.go 3003, .val 3008 (.bool false)]) (keep := [0, 2, 3, 5, 8, 10]) (by kernel_rfl) (All.cons hc_0 (All.cons (okF hc_1) (All.nil)))

theorem b0_found (o : Option AAddr) (n c v C : Nat) (bT rt : ABlk) (l : List AVal) (y x0 e x i sa sb sc sd ta tb tc td : Int) (hc_0 : FDoes Try.prog 54 [.ptr (some ⟨0, 0, 0, 0, 2⟩), .int .i64 y, .int .i64 sd] (AHeap.rows 36 [(0, (.made ([.agg [.int .i64 (C : Int), .slice o n c]]) 2 true)), (1, bT), (2, (.made ([.agg [.int .i64 sa, .int .i64 sb, .int .i64 sc, .int .i64 sd]]) 4 true)), (3, (.made ([.agg [.int .i64 0, .int .i64 0, .int .i64 0, .int .i64 0]]) 4 true))]) (.tuple [.slice (some ⟨36, 0, 0, 0, 1⟩) C C, .int .i64 e]) (AHeap.rows 37 [(0, (.made ([.agg [.int .i64 (C : Int), .slice o n c]]) 2 true)), (1, bT), (2, (.made ([.agg [.int .i64 sa, .int .i64 sb, .int .i64 sc, .int .i64 sd]]) 4 true)), (3, (.made ([.agg [.int .i64 0, .int .i64 0, .int .i64 0, .int .i64 0]]) 4 true)), (36, rt)])) (hc_1 : Runs Try.prog 2 55 (.loop (loopAt Try.prog 33 1)) [(0, .ptr (some ⟨0, 0, 0, 0, 2⟩)), (2, .int .i64 y), (3, .int .i64 x0), (5, .ptr (some ⟨2, 0, 0, 0, 4⟩)), (8, .ptr (some ⟨3, 0, 0, 0, 4⟩)), (9, .slice (some ⟨36, 0, 0, 0, 1⟩) C C), (10, .int .i64 e), (11, .int .i64 x0)] (AHeap.rows 39 [(0, (.made ([.agg [.int .i64 (C : Int), .slice o n c]]) 2 true)), (1, bT), (2, (.made ([.agg [.int .i64 sa, .int .i64 sb, .int .i64 sc, .int .i64 sd]]) 4 true)), (3, (.made ([.agg [.int .i64 0, .int .i64 0, .int .i64 0, .int .i64 0]]) 4 true)), (36, rt)]) (.exit 0) [(5, .ptr (some ⟨2, 0, 0, 0, 4⟩)), (8, .ptr (some ⟨3, 0, 0, 0, 4⟩))] (AHeap.rows 50 [(0, (.made ([.agg [.int .i64 (C : Int), .slice o n c]]) 2 true)), (1, bT), (2, (.made ([.agg [.int .i64 ta, .int .i64 tb, .int .i64 tc, .int .i64 td]]) 4 true)), (3, (.made ([.agg [.int .i64 0, .int .i64 0, .int .i64 0, .int .i64 0]]) 4 true))])) :
    Runs Try.prog 2 55 (loopAt Try.prog 33 0) [(0, .ptr (some ⟨0, 0, 0, 0, 2⟩)), (2, .int .i64 y), (3, .int .i64 x0), (5, .ptr (some ⟨2, 0, 0, 0, 4⟩)), (8, .ptr (some ⟨3, 0, 0, 0, 4⟩))] (AHeap.rows 26 [(0, .made [.agg [.int .i64 C, .slice o n c]] 2 true), (1, bT), (2, .made [.agg [.int .i64 sa, .int .i64 sb, .int .i64 sc, .int .i64 sd]] 4 true), (3, .made [.agg [.int .i64 0, .int .i64 0, .int .i64 0, .int .i64 0]] 4 true)]) (.exit 0) [(5, .ptr (some ⟨2, 0, 0, 0, 4⟩)), (8, .ptr (some ⟨3, 0, 0, 0, 4⟩))] (AHeap.rows 50 [(0, (.made ([.agg [.int .i64 (C : Int), .slice o n c]]) 2 true)), (1, bT), (2, (.made ([.agg [.int .i64 ta, .int .i64 tb, .int .i64 tc, .int .i64 td]]) 4 true)), (3, (.made ([.agg [.int .i64 0, .int .i64 0, .int .i64 0, .int .i64 0]]) 4 true))]) :=
  ppath_runs env_ok mixed (hs := [.act 1004 (.tuple [.slice (some ⟨36, 0, 0, 0, 1⟩) C C, .int .i64 e]) (fun h => h.upd [] [rt]), .keep [0, 2, 3, 5, 8, 9, 10, 11], .loop [(5, .ptr (some ⟨2, 0, 0, 0, 4⟩)), (8, .ptr (some ⟨3, 0, 0, 0, 4⟩))] (AHeap.rows 50 [(0, .made [.agg [.int .i64 C, .slice o n c]] 2 true), (1, bT), (2, .made [.agg [.int .i64 ta, .int .i64 tb, .int .i64 tc, .int .i64 td]] 4 true), (3, .made [.agg [.int .i64 0, .int .i64 0, .int .i64 0, .int .i64 0]] 4 true)]) (.exit 0)]) (keep := [5, 8]) (by kernel_rfl) (All.cons (CallT.mk hc_0) (All.cons hc_1 (All.nil)))

theorem b0_col (o : Option AAddr) (n c v C : Nat) (bT rt : ABlk) (l : List AVal) (y x0 e x i sa sb sc sd ta tb tc td : Int) (hc_0 : FDoes Try.prog 54 [.ptr (some ⟨0, 0, 0, 0, 2⟩), .int .i64 y, .int .i64 sd] (AHeap.rows 36 [(0, (.made ([.agg [.int .i64 (C : Int), .slice o n c]]) 2 true)), (1, bT), (2, (.made ([.agg [.int .i64 sa, .int .i64 sb, .int .i64 sc, .int .i64 sd]]) 4 true)), (3, (.made ([.agg [.int .i64 0, .int .i64 0, .int .i64 0, .int .i64 0]]) 4 true))]) (.tuple [.slice (some ⟨36, 0, 0, 0, 1⟩) C C, .int .i64 e]) (AHeap.rows 37 [(0, (.made ([.agg [.int .i64 (C : Int), .slice o n c]]) 2 true)), (1, bT), (2, (.made ([.agg [.int .i64 sa, .int .i64 sb, .int .i64 sc, .int .i64 sd]]) 4 true)), (3, (.made ([.agg [.int .i64 0, .int .i64 0, .int .i64 0, .int .i64 0]]) 4 true)), (36, rt)])) (hc_1 : Runs Try.prog 2 55 (.loop (loopAt Try.prog 33 1)) [(0, .ptr (some ⟨0, 0, 0, 0, 2⟩)), (2, .int .i64 y), (3, .int .i64 x0), (5, .ptr (some ⟨2, 0, 0, 0, 4⟩)), (8, .ptr (some ⟨3, 0, 0, 0, 4⟩)), (9, .slice (some ⟨36, 0, 0, 0, 1⟩) C C), (10, .int .i64 e), (11, .int .i64 x0)] (AHeap.rows 39 [(0, (.made ([.agg [.int .i64 (C : Int), .slice o n c]]) 2 true)), (1, bT), (2, (.made ([.agg [.int .i64 sa, .int .i64 sb, .int .i64 sc, .int .i64 sd]]) 4 true)), (3, (.made ([.agg [.int .i64 0, .int .i64 0, .int .i64 0, .int .i64 0]]) 4 true)), (36, rt)]) (.exit 2) [(0, .ptr (some ⟨0, 0, 0, 0, 2⟩)), (2, .int .i64 y), (3, .int .i64 x0), (5, .ptr (some ⟨2, 0, 0, 0, 4⟩)), (8, .ptr (some ⟨3, 0, 0, 0, 4⟩)), (10, .int .i64 e)] (AHeap.rows 50 [(0, (.made ([.agg [.int .i64 (C : Int), .slice o n c]]) 2 true)), (1, bT), (2, (.made ([.agg [.int .i64 sa, .int .i64 sb, .int .i64 sc, .int .i64 sd]]) 4 true)), (3, (.made ([.agg [.int .i64 0, .int .i64 0, .int .i64 0, .int .i64 0]]) 4 true))])) (hc_2 : x0 > 0) (hc_3 : -9223372036854775808 ≤ y + 1 ∧ y + (1 : Int) ≤ 9223372036854775807) :
    Runs Try.prog 2 55 (loopAt Try.prog 33 0) [(0, .ptr (some ⟨0, 0, 0, 0, 2⟩)), (2, .int .i64 y), (3, .int .i64 x0), (5, .ptr (some ⟨2, 0, 0, 0, 4⟩)), (8, .ptr (some ⟨3, 0, 0, 0, 4⟩))] (AHeap.rows 26 [(0, .made [.agg [.int .i64 C, .slice o n c]] 2 true), (1, bT), (2, .made [.agg [.int .i64 sa, .int .i64 sb, .int .i64 sc, .int .i64 sd]] 4 true), (3, .made [.agg [.int .i64 0, .int .i64 0, .int .i64 0, .int .i64 0]] 4 true)]) .normal [(0, .ptr (some ⟨0, 0, 0, 0, 2⟩)), (2, .int .i64 (y + 1)), (3, .int .i64 0), (5, .ptr (some ⟨2, 0, 0, 0, 4⟩)), (8, .ptr (some ⟨3, 0, 0, 0, 4⟩))] (AHeap.rows 56 [(0, (.made ([.agg [.int .i64 (C : Int), .slice o n c]]) 2 true)), (1, bT), (2, (.made ([.agg [.int .i64 sa, .int .i64 sb, .int .i64 sc, .int .i64 sd]]) 4 true)), (3, (.made ([.agg [.int .i64 0, .int .i64 0, .int .i64 0, .int .i64 0]]) 4 true))]) :=
  ppath_runs env_ok mixed (hs := [.act 1004 (.tuple [.slice (some ⟨36, 0, 0, 0, 1⟩) C C, .int .i64 e]) (fun h => h.upd [] [rt]), .keep [0, 2, 3, 5, 8, 9, 10, 11], .loop [(0, .ptr (some ⟨0, 0, 0, 0, 2⟩)), (2, .int .i64 y), (3, .int .i64 x0), (5, .ptr (some ⟨2, 0, 0, 0, 4⟩)), (8, .ptr (some ⟨3, 0, 0, 0, 4⟩)), (10, .int .i64 e)] (AHeap.rows 50 [(0, .made [.agg [.int .i64 C, .slice o n c]] 2 true), (1, bT), (2, .made [.agg [.int .i64 sa, .int .i64 sb, .int .i64 sc, .int .i64 sd]] 4 true), (3, .made [.agg [.int .i64 0, .int .i64 0, .int .i64 0, .int .i64 0]] 4 true)]) (.exit 2), .val 11001 (.bool true), .go 12001]) (keep := [0, 2, 3, 5, 8]) (by kernel_rfl) (All.cons (CallT.mk hc_0) (All.cons hc_1 (All.cons (okT hc_2) (All.cons hc_3 (All.nil)))))

theorem b0_row (o : Option AAddr) (n c v C : Nat) (bT rt : ABlk) (l : List AVal) (y x0 e x i sa sb sc sd ta tb tc td : Int) (hc_0 : FDoes Try.prog 54 [.ptr (some ⟨0, 0, 0, 0, 2⟩), .int .i64 y, .int .i64 sd] (AHeap.rows 36 [(0, (.made ([.agg [.int .i64 (C : Int), .slice o n c]]) 2 true)), (1, bT), (2, (.made ([.agg [.int .i64 sa, .int .i64 sb, .int .i64 sc, .int .i64 sd]]) 4 true)), (3, (.made ([.agg [.int .i64 0, .int .i64 0, .int .i64 0, .int .i64 0]]) 4 true))]) (.tuple [.slice (some ⟨36, 0, 0, 0, 1⟩) C C, .int .i64 e]) (AHeap.rows 37 [(0, (.made ([.agg [.int .i64 (C : Int), .slice o n c]]) 2 true)), (1, bT), (2, (.made ([.agg [.int .i64 sa, .int .i64 sb, .int .i64 sc, .int .i64 sd]]) 4 true)), (3, (.made ([.agg [.int .i64 0, .int .i64 0, .int .i64 0, .int .i64 0]]) 4 true)), (36, rt)])) (hc_1 : Runs Try.prog 2 55 (.loop (loopAt Try.prog 33 1)) [(0, .ptr (some ⟨0, 0, 0, 0, 2⟩)), (2, .int .i64 y), (3, .int .i64 x0), (5, .ptr (some ⟨2, 0, 0, 0, 4⟩)), (8, .ptr (some ⟨3, 0, 0, 0, 4⟩)), (9, .slice (some ⟨36, 0, 0, 0, 1⟩) C C), (10, .int .i64 e), (11, .int .i64 x0)] (AHeap.rows 39 [(0, (.made ([.agg [.int .i64 (C : Int), .slice o n c]]) 2 true)), (1, bT), (2, (.made ([.agg [.int .i64 sa, .int .i64 sb, .int .i64 sc, .int .i64 sd]]) 4 true)), (3, (.made ([.agg [.int .i64 0, .int .i64 0, .int .i64 0, .int .i64 0]]) 4 true)), (36, rt)]) (.exit 2) [(0, .ptr (some ⟨0, 0, 0, 0, 2⟩)), (2, .int .i64 y), (3, .int .i64 x0), (5, .ptr (some ⟨2, 0, 0, 0, 4⟩)), (8, .ptr (some ⟨3, 0, 0, 0, 4⟩)), (10, .int .i64 e)] (AHeap.rows 50 [(0, (.made ([.agg [.int .i64 (C : Int), .slice o n c]]) 2 true)), (1, bT), (2, (.made ([.agg [.int .i64 sa, .int .i64 sb, .int .i64 sc, .int .i64 sd]]) 4 true)), (3, (.made ([.agg [.int .i64 0, .int .i64 0, .int .i64 0, .int .i64 0]]) 4 true))])) (hc_2 : ¬ (x0 > 0)) :
    Runs Try.prog 2 55 (loopAt Try.prog 33 0) [(0, .ptr (some ⟨0, 0, 0, 0, 2⟩)), (2, .int .i64 y), (3, .int .i64 x0), (5, .ptr (some ⟨2, 0, 0, 0, 4⟩)), (8, .ptr (some ⟨3, 0, 0, 0, 4⟩))] (AHeap.rows 26 [(0, .made [.agg [.int .i64 C, .slice o n c]] 2 true), (1, bT), (2, .made [.agg [.int .i64 sa, .int .i64 sb, .int .i64 sc, .int .i64 sd]] 4 true), (3, .made [.agg [.int .i64 0, .int .i64 0, .int .i64 0, .int .i64 0]] 4 true)]) .normal [(0, .ptr (some ⟨0, 0, 0, 0, 2⟩)), (2, .int .i64 e), (3, .int .i64 x0), (5, .ptr (some ⟨2, 0, 0, 0, 4⟩)), (8, .ptr (some ⟨3, 0, 0, 0, 4⟩))] (AHeap.rows 54 [(0, (.made ([.agg [.int .i64 (C : Int), .slice o n c]]) 2 true)), (1, bT), (2, (.made ([.agg [.int .i64 sa, .int .i64 sb, .int .i64 sc, .int .i64 sd]]) 4 true)), (3, (.made ([.agg [.int .i64 0, .int .i64 0, .int .i64 0, .int .i64 0]]) 4 true))]) :=
  ppath_runs env_ok mixed (hs := [.act 1004 (.tuple [.slice (some ⟨36, 0, 0, 0, 1⟩) C C, .int .i64 e]) (fun h => h.upd [] [rt]), .keep [0, 2, 3, 5, 8, 9, 10, 11], .loop [(0, .ptr (some ⟨0, 0, 0, 0, 2⟩)), (2, .int .i64 y), (3, .int .i64 x0), (5, .ptr (some ⟨2, 0, 0, 0, 4⟩)), (8, .ptr (some ⟨3, 0, 0, 0, 4⟩)), (10, .int .i64 e)] (AHeap.rows 50 [(0, .made [.agg [.int .i64 C, .slice o n c]] 2 true), (1, bT), (2, .made [.agg [.int .i64 sa, .int .i64 sb, .int .i64 sc, .int .i64 sd]] 4 true), (3, .made [.agg [.int .i64 0, .int .i64 0, .int .i64 0, .int .i64 0]] 4 true)]) (.exit 2), .val 11001 (.bool false)]) (keep := [0, 2, 3, 5, 8]) (by kernel_rfl) (All.cons (CallT.mk hc_0) (All.cons hc_1 (All.cons (okF hc_2) (All.nil))))

theorem bh_call (o : Option AAddr) (n c v C : Nat) (bT rt : ABlk) (l : List AVal) (y x0 e x i sa sb sc sd ta tb tc td : Int) (hc_0 : Runs Try.prog 2 55 (.loop (loopAt Try.prog 33 0)) [(0, .ptr (some ⟨0, 0, 0, 0, 2⟩)), (2, .int .i64 y), (3, .int .i64 x0), (5, .ptr (some ⟨2, 0, 0, 0, 4⟩)), (8, .ptr (some ⟨3, 0, 0, 0, 4⟩))] (AHeap.set (AHeap.set (AHeap.rows 4 [(0, .made [.agg [.int .i64 (C : Int), .slice o n c]] 2 true), (1, bT)]) 2 (.made [.agg [.int .i64 sa, .int .i64 sb, .int .i64 sc, .int .i64 sd]] 4 true)) 3 (.made [.agg [.int .i64 0, .int .i64 0, .int .i64 0, .int .i64 0]] 4 true)) (.exit 0) [(5, .ptr (some ⟨2, 0, 0, 0, 4⟩)), (8, .ptr (some ⟨3, 0, 0, 0, 4⟩))] (AHeap.rows 50 [(0, (.made ([.agg [.int .i64 (C : Int), .slice o n c]]) 2 true)), (1, bT), (2, (.made ([.agg [.int .i64 ta, .int .i64 tb, .int .i64 tc, .int .i64 td]]) 4 true)), (3, (.made ([.agg [.int .i64 0, .int .i64 0, .int .i64 0, .int .i64 0]]) 4 true))])) (hc_1 : aload env.D 28 ⟨3, 0, 0, 0, 4⟩ (AHeap.set (AHeap.rows 52 [(0, (.made ([.agg [.int .i64 (C : Int), .slice o n c]]) 2 true)), (1, bT), (2, (.made ([.agg [.int .i64 ta, .int .i64 tb, .int .i64 tc, .int .i64 td]]) 4 true)), (3, (.made ([.agg [.int .i64 0, .int .i64 0, .int .i64 0, .int .i64 0]]) 4 true))]) 3 (.made ([.agg [.int .i64 ta, .int .i64 tb, .int .i64 tc, .int .i64 td]]) 4 true)) = some (.agg [.int .i64 ta, .int .i64 tb, .int .i64 tc, .int .i64 td])) :
    FDoes Try.prog 33 [.ptr (some ⟨0, 0, 0, 0, 2⟩), .agg [.int .i64 sa, .int .i64 sb, .int .i64 sc, .int .i64 sd], .int .i64 y, .int .i64 x0] (AHeap.of [.made [.agg [.int .i64 C, .slice o n c]] 2 true, bT]) (.agg [.int .i64 ta, .int .i64 tb, .int .i64 tc, .int .i64 td]) (AHeap.set (AHeap.rows 52 [(0, (.made ([.agg [.int .i64 (C : Int), .slice o n c]]) 2 true)), (1, bT), (2, (.made ([.agg [.int .i64 ta, .int .i64 tb, .int .i64 tc, .int .i64 td]]) 4 true)), (3, (.made ([.agg [.int .i64 0, .int .i64 0, .int .i64 0, .int .i64 0]]) 4 true))]) 3 (.made ([.agg [.int .i64 ta, .int .i64 tb, .int .i64 tc, .int .i64 td]]) 4 true)) :=
  pcall_does env_ok mixed (hs := [.keep [0, 2, 3, 5, 8], .loop [(5, .ptr (some ⟨2, 0, 0, 0, 4⟩)), (8, .ptr (some ⟨3, 0, 0, 0, 4⟩))] (AHeap.rows 50 [(0, .made [.agg [.int .i64 C, .slice o n c]] 2 true), (1, bT), (2, .made [.agg [.int .i64 ta, .int .i64 tb, .int .i64 tc, .int .i64 td]] 4 true), (3, .made [.agg [.int .i64 0, .int .i64 0, .int .i64 0, .int .i64 0]] 4 true)]) (.exit 0)]) (rs := [.cell (.agg [.int .i64 ta, .int .i64 tb, .int .i64 tc, .int .i64 td])]) (by kernel_rfl) (All.cons hc_0 (All.cons hc_1 (All.nil)))

end Go.Proofs.Ytcgcpmcjaeenlaa

namespace Go.Proofs.Ytcgcpmcjaeenlaa
open Go.Lift
set_option maxRecDepth 1000000
set_option linter.unusedSimpArgs false
set_option linter.unusedVariables false
set_option linter.unusedSectionVars false

section
variable {C n c v : Nat} {o : Option AAddr} (hs : SlArg o n c 1 v 0 4) {bT : ABlk} (hb : BareB bT) {T : List Qd} (hl : T.length = n) (hel : ElT bT v T) {M : Int} (hT : GoodT C M T) (hC : C ≤ 64) (hM : 0 ≤ M ∧ M ≤ 2 ^ 39) (hn : n ≤ 2 ^ 40)
include hs hb hl hel hT hC hM hn

def BiEnds (C n c : Nat) (o : Option AAddr) (bT : ABlk) (s : Qd) (tk : Nat → Bool) (y x0 e x i : Int) : Prop :=
  ((∀ i' : Int, 0 ≤ i' → i' < s.c → tk (x + i').toNat = false) ∧ Loops Try.prog 2 55 (loopAt Try.prog 33 2) [(0, .ptr (some ⟨0, 0, 0, 0, 2⟩)), (2, .int .i64 y), (3, .int .i64 x0), (5, .ptr (some ⟨2, 0, 0, 0, 4⟩)), (8, .ptr (some ⟨3, 0, 0, 0, 4⟩)), (9, .slice (some ⟨36, 0, 0, 0, 1⟩) C C), (10, .int .i64 e), (11, .int .i64 x), (34, .int .i64 s.c), (35, .int .i64 i)]
      (AHeap.rows 40 [(0, brdRow C o n c), (1, bT), (2, .made [s.val] 4 true), (3, .made [Qd0.val] 4 true), (36, .made (bools C tk) 1 true)]) (.exit 4)
      [(0, .ptr (some ⟨0, 0, 0, 0, 2⟩)), (2, .int .i64 y), (3, .int .i64 x0), (5, .ptr (some ⟨2, 0, 0, 0, 4⟩)), (8, .ptr (some ⟨3, 0, 0, 0, 4⟩)), (11, .int .i64 x)] (AHeap.rows 60 [(0, brdRow C o n c), (1, bT), (2, .made [s.val] 4 true), (3, .made [Qd0.val] 4 true)])) ∨
  ((∃ i' : Int, 0 ≤ i' ∧ i' < s.c ∧ tk (x + i').toNat = true) ∧ Loops Try.prog 2 55 (loopAt Try.prog 33 2) [(0, .ptr (some ⟨0, 0, 0, 0, 2⟩)), (2, .int .i64 y), (3, .int .i64 x0), (5, .ptr (some ⟨2, 0, 0, 0, 4⟩)), (8, .ptr (some ⟨3, 0, 0, 0, 4⟩)), (9, .slice (some ⟨36, 0, 0, 0, 1⟩) C C), (10, .int .i64 e), (11, .int .i64 x), (34, .int .i64 s.c), (35, .int .i64 i)]
      (AHeap.rows 40 [(0, brdRow C o n c), (1, bT), (2, .made [s.val] 4 true), (3, .made [Qd0.val] 4 true), (36, .made (bools C tk) 1 true)]) (.exit 3)
      [(0, .ptr (some ⟨0, 0, 0, 0, 2⟩)), (2, .int .i64 y), (3, .int .i64 x0), (5, .ptr (some ⟨2, 0, 0, 0, 4⟩)), (8, .ptr (some ⟨3, 0, 0, 0, 4⟩)), (9, .slice (some ⟨36, 0, 0, 0, 1⟩) C C), (10, .int .i64 e), (11, .int .i64 x)] (AHeap.rows 60 [(0, brdRow C o n c), (1, bT), (2, .made [s.val] 4 true), (3, .made [Qd0.val] 4 true), (36, .made (bools C tk) 1 true)]))

theorem bi_loop {s : Qd} (tk : Nat → Bool) (y x0 e : Int) {x : Int} (hx : 0 ≤ x ∧ x + s.c ≤ C) : ∀ (f : Nat) (i : Int), 0 ≤ i → i ≤ s.c → s.c - i ≤ f → (∀ i' : Int, 0 ≤ i' → i' < i → tk (x + i').toNat = false) → BiEnds C n c o bT s tk y x0 e x i
  | 0, i, h0, h1, h2, hp => by
    obtain rfl : i = s.c := by omega
    refine .inl ⟨hp, ?_⟩
    refine (Loops.last (by simp) (bi_end o n c v C bT bT _ y x0 e x s.c s.a s.b s.c s.d 0 0 0 0 (by omega))).post ?_
    exact Ent.drop (by kernel_rfl) (by kernel_rfl) (by kernel_rfl) (by kernel_rfl) (by simp [All_cons, All_nil, Clo, Ids]) (by
      simp only [List.map, All_cons, All_nil, and_true]
      exact ⟨brd_cloI (hs.clo (by simp [Ids])), hb.clo _, qd_cloI _ _, qd_cloI _ _⟩)
  | f + 1, i, h0, h1, h2, hp => by
    by_cases c0 : i = s.c
    · subst c0
      refine .inl ⟨hp, ?_⟩
      refine (Loops.last (by simp) (bi_end o n c v C bT bT _ y x0 e x s.c s.a s.b s.c s.d 0 0 0 0 (by omega))).post ?_
      exact Ent.drop (by kernel_rfl) (by kernel_rfl) (by kernel_rfl) (by kernel_rfl) (by simp [All_cons, All_nil, Clo, Ids]) (by
        simp only [List.map, All_cons, All_nil, and_true]
        exact ⟨brd_cloI (hs.clo (by simp [Ids])), hb.clo _, qd_cloI _ _, qd_cloI _ _⟩)
    · have d0 : Clo (Ids [0, 1, 2, 3, 36]) (.slice o n c) := hs.clo (by simp [Ids])
      have el : (ABlk.made (bools C tk) 1 true).elem? 0 (0 + Int.toNat (x + i)) = some (.bool (tk (x + i).toNat)) := by rw [Nat.zero_add]; exact bools_el (by omega)
      cases hk : tk (x + i).toNat with
      | true =>
        rw [hk] at el
        refine .inr ⟨⟨i, h0, by omega, hk⟩, ?_⟩
        refine (Loops.last (by simp) (bi_taken o n c v C bT bT _ y x0 e x i s.a s.b s.c s.d 0 0 0 0 (by omega) (by omega) ⟨by omega, by omega, rfl⟩ el)).post ?_
        exact Ent.drop (by kernel_rfl) (by kernel_rfl) (by kernel_rfl) (by kernel_rfl) (by simp [All_cons, All_nil, Clo, Ids]) (by
          simp only [List.map, All_cons, All_nil, and_true]
          exact ⟨brd_cloI d0, hb.clo _, qd_cloI _ _, qd_cloI _ _, (bools_bare _ _).clo _⟩)
      | false =>
        rw [hk] at el
        have st := (bi_free o n c v C bT bT _ y x0 e x i s.a s.b s.c s.d 0 0 0 0 (by omega) (by omega) ⟨by omega, by omega, rfl⟩ el (by omega)).post (i := Ent.drop (K := 40) (l := [(0, brdRow C o n c), (1, bT), (2, .made [s.val] 4 true), (3, .made [Qd0.val] 4 true), (36, .made (bools C tk) 1 true)]) (by kernel_rfl) (by kernel_rfl) (by kernel_rfl) (by kernel_rfl) (by simp [All_cons, All_nil, Clo, Ids]) (by
          simp only [List.map, All_cons, All_nil, and_true]
          exact ⟨brd_cloI d0, hb.clo _, qd_cloI _ _, qd_cloI _ _, (bools_bare _ _).clo _⟩))
        rcases bi_loop tk y x0 e hx f (i + 1) (by omega) (by omega) (by omega) (fun i' a b => by
          by_cases c1 : i' = i
          · subst c1; exact hk
          · exact hp i' a (by omega)) with ⟨a, l⟩ | ⟨a, l⟩
        · exact .inl ⟨a, Loops.step st l⟩
        · exact .inr ⟨a, Loops.step st l⟩

def BcEnds (C n c : Nat) (o : Option AAddr) (bT : ABlk) (T : List Qd) (s : Qd) (tk : Nat → Bool) (y x0 e x : Int) : Prop :=
  (∃ x', x ≤ x' ∧ x' + s.c ≤ C ∧ FreeZ T (s.at x' y) ∧ (∀ x'', x ≤ x'' → x'' < x' → ¬ FreeZ T (s.at x'' y)) ∧ Loops Try.prog 2 55 (loopAt Try.prog 33 1) [(0, .ptr (some ⟨0, 0, 0, 0, 2⟩)), (2, .int .i64 y), (3, .int .i64 x0), (5, .ptr (some ⟨2, 0, 0, 0, 4⟩)), (8, .ptr (some ⟨3, 0, 0, 0, 4⟩)), (9, .slice (some ⟨36, 0, 0, 0, 1⟩) C C), (10, .int .i64 e), (11, .int .i64 x)]
      (AHeap.rows 40 [(0, brdRow C o n c), (1, bT), (2, .made [s.val] 4 true), (3, .made [Qd0.val] 4 true), (36, .made (bools C tk) 1 true)]) (.exit 0)
      [(5, .ptr (some ⟨2, 0, 0, 0, 4⟩)), (8, .ptr (some ⟨3, 0, 0, 0, 4⟩))] (AHeap.rows 50 [(0, brdRow C o n c), (1, bT), (2, .made [(s.at x' y).val] 4 true), (3, .made [Qd0.val] 4 true)])) ∨
  ((∀ x'', x ≤ x'' → x'' + s.c ≤ C → ¬ FreeZ T (s.at x'' y)) ∧ Loops Try.prog 2 55 (loopAt Try.prog 33 1) [(0, .ptr (some ⟨0, 0, 0, 0, 2⟩)), (2, .int .i64 y), (3, .int .i64 x0), (5, .ptr (some ⟨2, 0, 0, 0, 4⟩)), (8, .ptr (some ⟨3, 0, 0, 0, 4⟩)), (9, .slice (some ⟨36, 0, 0, 0, 1⟩) C C), (10, .int .i64 e), (11, .int .i64 x)]
      (AHeap.rows 40 [(0, brdRow C o n c), (1, bT), (2, .made [s.val] 4 true), (3, .made [Qd0.val] 4 true), (36, .made (bools C tk) 1 true)]) (.exit 2)
      [(0, .ptr (some ⟨0, 0, 0, 0, 2⟩)), (2, .int .i64 y), (3, .int .i64 x0), (5, .ptr (some ⟨2, 0, 0, 0, 4⟩)), (8, .ptr (some ⟨3, 0, 0, 0, 4⟩)), (10, .int .i64 e)] (AHeap.rows 50 [(0, brdRow C o n c), (1, bT), (2, .made [s.val] 4 true), (3, .made [Qd0.val] 4 true)]))

theorem bc_loop {s : Qd} (hsm : Small s) (hsc : 1 ≤ s.c) {tk : Nat → Bool} {y : Int} (htk : ∀ X : Nat, X < C → (tk X = true ↔ TkZ T y s.d X)) (x0 e : Int) : ∀ (f : Nat) (x : Int), 0 ≤ x → x ≤ 2 ^ 40 → (C : Int) - x ≤ f → BcEnds C n c o bT T s tk y x0 e x
  | 0, x, h0, h1, h2 => by
    have h3 := hsm.2.2.1
    refine .inr ⟨fun x'' a b => by omega, ?_⟩
    refine (Loops.last (by simp) (bc_end o n c v C bT bT _ y x0 e x 0 s.a s.b s.c s.d 0 0 0 0 (by omega) (by omega))).post ?_
    exact Ent.drop (by kernel_rfl) (by kernel_rfl) (by kernel_rfl) (by kernel_rfl) (by simp [All_cons, All_nil, Clo, Ids]) (by
      simp only [List.map, All_cons, All_nil, and_true]
      exact ⟨brd_cloI (hs.clo (by simp [Ids])), hb.clo _, qd_cloI _ _, qd_cloI _ _⟩)
  | f + 1, x, h0, h1, h2 => by
    have h3 := hsm.2.2.1
    have d0 : Clo (Ids [0, 1, 2, 3, 36]) (.slice o n c) := hs.clo (by simp [Ids])
    by_cases hx : x + s.c ≤ C
    · have key : ∀ i' : Int, 0 ≤ i' → i' < s.c → (tk (x + i').toNat = true ↔ TkZ T y s.d (x + i')) := fun i' a b => by
        have := htk (x + i').toNat (by omega)
        rwa [show (((x + i').toNat : Nat) : Int) = x + i' by omega] at this
      have pre : ∀ {h0 : AHeap}, [h0.get 0, h0.get 1, h0.get 2, h0.get 3, h0.get 36] = [some (brdRow C o n c), some bT, some (.made [s.val] 4 true), some (.made [Qd0.val] 4 true), some (.made (bools C tk) 1 true)] →
          Ent 2 55 [(0, .ptr (some ⟨0, 0, 0, 0, 2⟩)), (2, .int .i64 y), (3, .int .i64 x0), (5, .ptr (some ⟨2, 0, 0, 0, 4⟩)), (8, .ptr (some ⟨3, 0, 0, 0, 4⟩)), (9, .slice (some ⟨36, 0, 0, 0, 1⟩) C C), (10, .int .i64 e), (11, .int .i64 x), (34, .int .i64 s.c), (35, .int .i64 0)] h0
            [(0, .ptr (some ⟨0, 0, 0, 0, 2⟩)), (2, .int .i64 y), (3, .int .i64 x0), (5, .ptr (some ⟨2, 0, 0, 0, 4⟩)), (8, .ptr (some ⟨3, 0, 0, 0, 4⟩)), (9, .slice (some ⟨36, 0, 0, 0, 1⟩) C C), (10, .int .i64 e), (11, .int .i64 x), (34, .int .i64 s.c), (35, .int .i64 0)] (AHeap.rows 40 [(0, brdRow C o n c), (1, bT), (2, .made [s.val] 4 true), (3, .made [Qd0.val] 4 true), (36, .made (bools C tk) 1 true)]) := fun e1 =>
        Ent.drop e1 (by kernel_rfl) (by kernel_rfl) (by kernel_rfl) (by simp [All_cons, All_nil, Clo, Ids]) (by
          simp only [List.map, All_cons, All_nil, and_true]
          exact ⟨brd_cloI d0, hb.clo _, qd_cloI _ _, qd_cloI _ _, (bools_bare _ _).clo _⟩)
      rcases bi_loop hs hb hl hel hT hC hM hn (s := s) tk y x0 e ⟨h0, hx⟩ s.c.toNat 0 (Int.le_refl _) (by omega) (by omega) (fun i' a b => by omega) with ⟨a, l⟩ | ⟨⟨i', a1, a2, a3⟩, l⟩
      · refine .inl ⟨x, Int.le_refl _, hx, (free_clear hT hsc x y).2 (fun i' b1 b2 h => by have := (key i' b1 b2).2 h; rw [a i' b1 b2] at this; cases this), fun x'' b1 b2 => by omega, ?_⟩
        refine (Loops.last (by simp) (bc_found o n c v C bT bT _ y x0 e x 0 s.a s.b s.c s.d 0 0 0 0 (by omega) hx (Runs.of_loops (Tri.pre l (pre (by kernel_rfl)))))).post ?_
        exact Ent.drop (by kernel_rfl) (by kernel_rfl) (by kernel_rfl) (by kernel_rfl) (by simp [All_cons, All_nil, Clo, Ids]) (by
          simp only [List.map, All_cons, All_nil, and_true]
          exact ⟨brd_cloI (hs.clo (by simp [Ids])), hb.clo _, qd_cloI _ _, qd_cloI _ _⟩)
      · have nf : ¬ FreeZ T (s.at x y) := fun h => (free_clear hT hsc x y).1 h i' a1 a2 ((key i' a1 a2).1 a3)
        have st := (bc_next o n c v C bT bT _ y x0 e x 0 s.a s.b s.c s.d 0 0 0 0 (by omega) hx (Runs.of_loops (Tri.pre l (pre (by kernel_rfl)))) (by omega)).post (i := Ent.drop (K := 40) (l := [(0, brdRow C o n c), (1, bT), (2, .made [s.val] 4 true), (3, .made [Qd0.val] 4 true), (36, .made (bools C tk) 1 true)]) (by kernel_rfl) (by kernel_rfl) (by kernel_rfl) (by kernel_rfl) (by simp [All_cons, All_nil, Clo, Ids]) (by
          simp only [List.map, All_cons, All_nil, and_true]
          exact ⟨brd_cloI d0, hb.clo _, qd_cloI _ _, qd_cloI _ _, (bools_bare _ _).clo _⟩))
        rcases bc_loop hsm hsc htk x0 e f (x + 1) (by omega) (by omega) (by omega) with ⟨x', b1, b2, b3, b4, l2⟩ | ⟨b1, l2⟩
        · exact .inl ⟨x', by omega, b2, b3, fun x'' q1 q2 => by
            by_cases c1 : x'' = x
            · subst c1; exact nf
            · exact b4 x'' (by omega) q2, Loops.step st l2⟩
        · exact .inr ⟨fun x'' q1 q2 => by
            by_cases c1 : x'' = x
            · subst c1; exact nf
            · exact b1 x'' (by omega) q2, Loops.step st l2⟩
    · refine .inr ⟨fun x'' a b => by omega, ?_⟩
      refine (Loops.last (by simp) (bc_end o n c v C bT bT _ y x0 e x 0 s.a s.b s.c s.d 0 0 0 0 (by omega) (by omega))).post ?_
      exact Ent.drop (by kernel_rfl) (by kernel_rfl) (by kernel_rfl) (by kernel_rfl) (by simp [All_cons, All_nil, Clo, Ids]) (by
        simp only [List.map, All_cons, All_nil, and_true]
        exact ⟨brd_cloI (hs.clo (by simp [Ids])), hb.clo _, qd_cloI _ _, qd_cloI _ _⟩)

def BhEnds (C n c : Nat) (o : Option AAddr) (bT : ABlk) (T : List Qd) (s : Qd) (y0 x0 y x : Int) : Prop :=
  ∃ r, BehindZ T C s y0 x0 r ∧ Loops Try.prog 2 55 (loopAt Try.prog 33 0) [(0, .ptr (some ⟨0, 0, 0, 0, 2⟩)), (2, .int .i64 y), (3, .int .i64 x), (5, .ptr (some ⟨2, 0, 0, 0, 4⟩)), (8, .ptr (some ⟨3, 0, 0, 0, 4⟩))] (AHeap.rows 26 [(0, brdRow C o n c), (1, bT), (2, .made [s.val] 4 true), (3, .made [Qd0.val] 4 true)])
    (.exit 0) [(5, .ptr (some ⟨2, 0, 0, 0, 4⟩)), (8, .ptr (some ⟨3, 0, 0, 0, 4⟩))] (AHeap.rows 50 [(0, brdRow C o n c), (1, bT), (2, .made [r.val] 4 true), (3, .made [Qd0.val] 4 true)])

theorem bh_loop {s : Qd} (hsm : Small s) (hsc : 1 ≤ s.c ∧ s.c ≤ C) {y0 x0 : Int} : ∀ (f : Nat) (y x : Int), 0 ≤ y → y ≤ M + 1 → (y = M + 1 → x = 0) → 0 ≤ x → x ≤ 2 ^ 40 → M + 1 - y ≤ f → (y0 < y ∨ y0 = y ∧ x0 ≤ x) →
    (∀ y' x', 0 ≤ x' → x' + s.c ≤ C → (y0 < y' ∨ y0 = y' ∧ x0 ≤ x') → (y' < y ∨ y' = y ∧ x' < x) → ¬ FreeZ T (s.at x' y')) → BhEnds C n c o bT T s y0 x0 y x := by
  intro f
  induction f with
  | zero =>
    intro y x hy hy1 hyx hx hxb hf hge hp
    obtain rfl : y = M + 1 := by omega
    obtain rfl := hyx rfl
    have bd : BoardAt (AHeap.rows 36 [(0, brdRow C o n c), (1, bT), (2, .made [s.val] 4 true), (3, .made [Qd0.val] 4 true)]) 0 1 C o n c v bT T := ⟨by kernel_rfl, by kernel_rfl, hs, by decide, by rw [AHeap.rows_next]; omega, by rw [AHeap.rows_next]; omega, hb, hl, hel⟩
    obtain ⟨tk, e, t1, t2, k⟩ := strip_does bd hT hC hM hn (y := M + 1) (d := s.d) (by omega) hsm.2.2.2
    rw [AHeap.rows_next] at k
    have pre : ∀ {h0 : AHeap}, [h0.get 0, h0.get 1, h0.get 2, h0.get 3, h0.get 36] = [some (brdRow C o n c), some bT, some (.made [s.val] 4 true), some (.made [Qd0.val] 4 true), some (.made (bools C tk) 1 true)] →
        Ent 2 55 [(0, .ptr (some ⟨0, 0, 0, 0, 2⟩)), (2, .int .i64 (M + 1)), (3, .int .i64 0), (5, .ptr (some ⟨2, 0, 0, 0, 4⟩)), (8, .ptr (some ⟨3, 0, 0, 0, 4⟩)), (9, .slice (some ⟨36, 0, 0, 0, 1⟩) C C), (10, .int .i64 e), (11, .int .i64 0)] h0
          [(0, .ptr (some ⟨0, 0, 0, 0, 2⟩)), (2, .int .i64 (M + 1)), (3, .int .i64 0), (5, .ptr (some ⟨2, 0, 0, 0, 4⟩)), (8, .ptr (some ⟨3, 0, 0, 0, 4⟩)), (9, .slice (some ⟨36, 0, 0, 0, 1⟩) C C), (10, .int .i64 e), (11, .int .i64 0)] (AHeap.rows 40 [(0, brdRow C o n c), (1, bT), (2, .made [s.val] 4 true), (3, .made [Qd0.val] 4 true), (36, .made (bools C tk) 1 true)]) := fun e1 =>
      Ent.drop e1 (by kernel_rfl) (by kernel_rfl) (by kernel_rfl) (by simp [All_cons, All_nil, Clo, Ids]) (by
        simp only [List.map, All_cons, All_nil, and_true]
        exact ⟨brd_cloI (hs.clo (by simp [Ids])), hb.clo _, qd_cloI _ _, qd_cloI _ _, (bools_bare _ _).clo _⟩)
    rcases bc_loop hs hb hl hel hT hC hM hn hsm hsc.1 t1 0 e C 0 (by omega) (by omega) (by omega) with ⟨x', b1, b2, b3, b4, l⟩ | ⟨b1, l⟩
    · refine ⟨s.at x' (M + 1), ⟨M + 1, x', rfl, b1, b2, by omega, b3, fun y' x'' q1 q2 q3 q4 => ?_⟩, Loops.last (by simp) (b0_found o n c v C bT (.made (bools C tk) 1 true) [] (M + 1) 0 e 0 0 s.a s.b s.c s.d x' (M + 1) s.c s.d (k.to (by kernel_rfl)) (Runs.of_loops (Tri.pre l (pre (by kernel_rfl)))))⟩
      by_cases c1 : y' = M + 1
      · subst c1; exact b4 x'' q1 (by omega)
      · exact hp y' x'' q1 q2 q3 (by omega)
    · exact absurd (free_low hT (s := s.at 0 (M + 1)) (show M ≤ M + 1 by omega)) (b1 0 (by omega) (by omega))
  | succ f ih =>
    intro y x hy hy1 hyx hx hxb hf hge hp
    have bd : BoardAt (AHeap.rows 36 [(0, brdRow C o n c), (1, bT), (2, .made [s.val] 4 true), (3, .made [Qd0.val] 4 true)]) 0 1 C o n c v bT T := ⟨by kernel_rfl, by kernel_rfl, hs, by decide, by rw [AHeap.rows_next]; omega, by rw [AHeap.rows_next]; omega, hb, hl, hel⟩
    obtain ⟨tk, e, t1, t2, k⟩ := strip_does bd hT hC hM hn (y := y) (d := s.d) (by omega) hsm.2.2.2
    rw [AHeap.rows_next] at k
    have pre : ∀ {h0 : AHeap}, [h0.get 0, h0.get 1, h0.get 2, h0.get 3, h0.get 36] = [some (brdRow C o n c), some bT, some (.made [s.val] 4 true), some (.made [Qd0.val] 4 true), some (.made (bools C tk) 1 true)] →
        Ent 2 55 [(0, .ptr (some ⟨0, 0, 0, 0, 2⟩)), (2, .int .i64 y), (3, .int .i64 x), (5, .ptr (some ⟨2, 0, 0, 0, 4⟩)), (8, .ptr (some ⟨3, 0, 0, 0, 4⟩)), (9, .slice (some ⟨36, 0, 0, 0, 1⟩) C C), (10, .int .i64 e), (11, .int .i64 x)] h0
          [(0, .ptr (some ⟨0, 0, 0, 0, 2⟩)), (2, .int .i64 y), (3, .int .i64 x), (5, .ptr (some ⟨2, 0, 0, 0, 4⟩)), (8, .ptr (some ⟨3, 0, 0, 0, 4⟩)), (9, .slice (some ⟨36, 0, 0, 0, 1⟩) C C), (10, .int .i64 e), (11, .int .i64 x)] (AHeap.rows 40 [(0, brdRow C o n c), (1, bT), (2, .made [s.val] 4 true), (3, .made [Qd0.val] 4 true), (36, .made (bools C tk) 1 true)]) := fun e1 =>
      Ent.drop e1 (by kernel_rfl) (by kernel_rfl) (by kernel_rfl) (by simp [All_cons, All_nil, Clo, Ids]) (by
        simp only [List.map, All_cons, All_nil, and_true]
        exact ⟨brd_cloI (hs.clo (by simp [Ids])), hb.clo _, qd_cloI _ _, qd_cloI _ _, (bools_bare _ _).clo _⟩)
    have back : ∀ {h0 : AHeap} (y2 x2 : Int), [h0.get 0, h0.get 1, h0.get 2, h0.get 3] = [some (brdRow C o n c), some bT, some (.made [s.val] 4 true), some (.made [Qd0.val] 4 true)] →
        Ent 2 55 [(0, .ptr (some ⟨0, 0, 0, 0, 2⟩)), (2, .int .i64 y2), (3, .int .i64 x2), (5, .ptr (some ⟨2, 0, 0, 0, 4⟩)), (8, .ptr (some ⟨3, 0, 0, 0, 4⟩))] h0
          [(0, .ptr (some ⟨0, 0, 0, 0, 2⟩)), (2, .int .i64 y2), (3, .int .i64 x2), (5, .ptr (some ⟨2, 0, 0, 0, 4⟩)), (8, .ptr (some ⟨3, 0, 0, 0, 4⟩))] (AHeap.rows 26 [(0, brdRow C o n c), (1, bT), (2, .made [s.val] 4 true), (3, .made [Qd0.val] 4 true)]) := fun y2 x2 e1 =>
      Ent.drop e1 (by kernel_rfl) (by kernel_rfl) (by kernel_rfl) (by simp [All_cons, All_nil, Clo, Ids]) (by
        simp only [List.map, All_cons, All_nil, and_true]
        exact ⟨brd_cloI (hs.clo (by simp [Ids])), hb.clo _, qd_cloI _ _, qd_cloI _ _⟩)
    rcases bc_loop hs hb hl hel hT hC hM hn hsm hsc.1 t1 x e C x hx hxb (by omega) with ⟨x', b1, b2, b3, b4, l⟩ | ⟨b1, l⟩
    · refine ⟨s.at x' y, ⟨y, x', rfl, by omega, b2, by omega, b3, fun y' x'' q1 q2 q3 q4 => ?_⟩, Loops.last (by simp) (b0_found o n c v C bT (.made (bools C tk) 1 true) [] y x e 0 0 s.a s.b s.c s.d x' y s.c s.d (k.to (by kernel_rfl)) (Runs.of_loops (Tri.pre l (pre (by kernel_rfl)))))⟩
      by_cases c1 : y' < y ∨ y' = y ∧ x'' < x
      · exact hp y' x'' q1 q2 q3 c1
      · obtain rfl : y' = y := by omega
        exact b4 x'' (by omega) (by omega)
    · have np : ∀ y' x', 0 ≤ x' → x' + s.c ≤ C → (y0 < y' ∨ y0 = y' ∧ x0 ≤ x') → (y' < y + 1 ∨ y' = y + 1 ∧ x' < 0) → ¬ FreeZ T (s.at x' y') := fun y' x' q1 q2 q3 q4 => by
        by_cases c1 : y' < y ∨ y' = y ∧ x' < x
        · exact hp y' x' q1 q2 q3 c1
        · obtain rfl : y' = y := by omega
          exact b1 x' (by omega) q2
      by_cases cx : x > 0
      · have hyM : y ≤ M := by
          by_cases c2 : y = M + 1
          · have := hyx c2; omega
          · omega
        obtain ⟨r, r1, r2⟩ := ih (y + 1) 0 (by omega) (by omega) (fun _ => rfl) (Int.le_refl _) (by omega) (by omega) (by omega) np
        exact ⟨r, r1, Loops.step ((b0_col o n c v C bT (.made (bools C tk) 1 true) [] y x e 0 0 s.a s.b s.c s.d 0 0 0 0 (k.to (by kernel_rfl)) (Runs.of_loops (Tri.pre l (pre (by kernel_rfl)))) cx (by omega)).post (i := back (y + 1) 0 (by kernel_rfl))) r2⟩
      · obtain rfl : x = 0 := by omega
        obtain ⟨e1, e2, e3⟩ := t2.next hT hsc.2 rfl (fun x' q1 q2 => b1 x' q1 q2)
        obtain ⟨r, r1, r2⟩ := ih e 0 (by omega) (by omega) (fun _ => rfl) (Int.le_refl _) (by omega) (by omega) (by omega) (fun y' x' q1 q2 q3 q4 => by
          by_cases c1 : y' < y
          · exact np y' x' q1 q2 q3 (by omega)
          · exact e3 y' x' (by omega) (by omega) q1 q2)
        exact ⟨r, r1, Loops.step ((b0_row o n c v C bT (.made (bools C tk) 1 true) [] y 0 e 0 0 s.a s.b s.c s.d 0 0 0 0 (k.to (by kernel_rfl)) (Runs.of_loops (Tri.pre l (pre (by kernel_rfl)))) cx).post (i := back e 0 (by kernel_rfl))) r2⟩
end

/-- grid.board.behind -/
theorem behind_does {H : AHeap} {ib iT C : Nat} {o : Option AAddr} {n c v : Nat} {bT : ABlk} {T : List Qd} (h : BoardAt H ib iT C o n c v bT T) {M : Int} (hT : GoodT C M T) (hC : C ≤ 64) (hM : 0 ≤ M ∧ M ≤ 2 ^ 39) (hn : n ≤ 2 ^ 40) {s : Qd} (hs : Small s) (hsc : 1 ≤ s.c ∧ s.c ≤ C) {y x : Int} (hy : 0 ≤ y ∧ y ≤ M) (hx : 0 ≤ x ∧ x ≤ 2 ^ 40) :
    ∃ r, BehindZ T C s y x r ∧ FDoes Try.prog 33 [.ptr (some ⟨ib, 0, 0, 0, 2⟩), s.val, .int .i64 y, .int .i64 x] H r.val H := by
  have s1 := h.sl.at 1
  obtain ⟨r, a, l⟩ := bh_loop s1 h.bare h.len h.el hT hC hM hn hs hsc (y0 := y) (x0 := x) (M + 1 - y).toNat y x hy.1 (by omega) (by omega) hx.1 hx.2 (by omega) (by omega) (fun y' x' q1 q2 q3 q4 => by omega)
  have pre : ∀ {h0 : AHeap}, [h0.get 0, h0.get 1, h0.get 2, h0.get 3] = [some (brdRow C (o.map fun a => { a with id := 1 }) n c), some bT, some (.made [s.val] 4 true), some (.made [Qd0.val] 4 true)] →
      Ent 2 55 [(0, .ptr (some ⟨0, 0, 0, 0, 2⟩)), (2, .int .i64 y), (3, .int .i64 x), (5, .ptr (some ⟨2, 0, 0, 0, 4⟩)), (8, .ptr (some ⟨3, 0, 0, 0, 4⟩))] h0
        [(0, .ptr (some ⟨0, 0, 0, 0, 2⟩)), (2, .int .i64 y), (3, .int .i64 x), (5, .ptr (some ⟨2, 0, 0, 0, 4⟩)), (8, .ptr (some ⟨3, 0, 0, 0, 4⟩))] (AHeap.rows 26 [(0, brdRow C (o.map fun a => { a with id := 1 }) n c), (1, bT), (2, .made [s.val] 4 true), (3, .made [Qd0.val] 4 true)]) := fun e1 =>
    Ent.drop e1 (by kernel_rfl) (by kernel_rfl) (by kernel_rfl) (by simp [All_cons, All_nil, Clo, Ids]) (by
      simp only [List.map, All_cons, All_nil, and_true]
      exact ⟨brd_cloI (s1.clo (by simp [Ids])), h.bare.clo _, qd_cloI _ _, qd_cloI _ _⟩)
  exact ⟨r, a, h.pure (bh_call _ n c v C bT bT [] y x 0 0 0 s.a s.b s.c s.d r.a r.b r.c r.d (Runs.of_loops (Tri.pre l (pre (by kernel_rfl)))) (by kernel_rfl)) (by kernel_rfl) (Qd.bare _) (by simp [Qd.bare, Bare.int])⟩

end Go.Proofs.Ytcgcpmcjaeenlaa

namespace Go.Proofs.Ytcgcpmcjaeenlaa
open Go.Lift
set_option maxRecDepth 1000000
set_option linter.unusedSimpArgs false
set_option linter.unusedVariables false

/-- where track i begins -/
def atZ (x : Nat → Int) (g : Int) (i : Nat) : Int := sumTo (fun j => sideZ (x j) + g) i
theorem atZ_succ (x : Nat → Int) (g : Int) (i : Nat) : atZ x g (i + 1) = atZ x g i + (sideZ (x i) + g) := rfl
theorem atZ_range (x : Nat → Int) {g : Int} (hg : 0 ≤ g ∧ g ≤ 4096) (i : Nat) : 0 ≤ atZ x g i ∧ atZ x g i ≤ 8192 * i :=
  sumTo_range (f := fun j => sideZ (x j) + g) (M := 8192) (fun j => by have := sideZ_range (x j); omega) i
theorem atZ_up (x : Nat → Int) {g : Int} (hg : 0 ≤ g ∧ g ≤ 4096) {i k : Nat} (h : i ≤ k) : atZ x g i ≤ atZ x g k :=
  sumTo_up (f := fun j => sideZ (x j) + g) (fun j => by have := sideZ_range (x j); omega) h

/-- how many tracks from the first one that is there -/
def lenZ (p m : Int) : Int := if p < 0 then max m 1 + p else max m 1
def okZ (n : Nat) (p m : Int) : Prop := p.toNat < n ∧ 1 ≤ lenZ p m
instance (n : Nat) (p m : Int) : Decidable (okZ n p m) := inferInstanceAs (Decidable (_ ∧ _))
def hiZ (n : Nat) (p m : Int) : Nat := min n (p.toNat + (lenZ p m).toNat)
def begZ (x : Nat → Int) (g : Int) (n : Nat) (p m : Int) : Int := if okZ n p m then atZ x g p.toNat else 0
def sizZ (x : Nat → Int) (g : Int) (n : Nat) (p m : Int) : Int := if okZ n p m then atZ x g (hiZ n p m) - g - atZ x g p.toNat else 0

theorem sizZ_range (x : Nat → Int) {g : Int} (hg : 0 ≤ g ∧ g ≤ 4096) (n : Nat) (p m : Int) : 0 ≤ begZ x g n p m ∧ 0 ≤ sizZ x g n p m ∧ begZ x g n p m + sizZ x g n p m ≤ 8192 * n := by
  unfold begZ sizZ
  by_cases h : okZ n p m
  · rw [if_pos h, if_pos h]
    obtain ⟨h1, h2⟩ := h
    have h3 : p.toNat + 1 ≤ hiZ n p m := by unfold hiZ; omega
    have h4 : hiZ n p m ≤ n := by unfold hiZ; omega
    have a1 := atZ_up x hg h3
    have a2 := atZ_up x hg h4
    have a3 := (atZ_range x hg n).2
    have a4 := (atZ_range x hg p.toNat).1
    rw [atZ_succ] at a1
    have := sideZ_range (x p.toNat)
    omega
  · rw [if_neg h, if_neg h]; omega

/-- what the document's loop holds ahead of track i -/
def seenZ (p m : Int) (i : Nat) : Prop := p.toNat < i ∧ 1 ≤ lenZ p m
instance (p m : Int) (i : Nat) : Decidable (seenZ p m i) := inferInstanceAs (Decidable (_ ∧ _))
def rbZ (x : Nat → Int) (g p m : Int) (i : Nat) : Int := if seenZ p m i then atZ x g p.toNat else -1
def reZ (x : Nat → Int) (g p m : Int) (i : Nat) : Int := if seenZ p m i then atZ x g (min i (p.toNat + (lenZ p m).toNat)) - g else 0
def inZ (p m : Int) (i : Nat) : Prop := p ≤ i ∧ (0 ≤ p ∧ (i : Int) - p < max 1 m ∨ p < 0 ∧ (i : Int) < max 1 m + p)

/-- where a span lies -/
def rectZ (x : Nat → Int) (n : Nat) (y : Nat → Int) (m : Nat) (g : Int) (s : Qd) : Qd :=
  if okZ n s.a s.c ∧ okZ m s.b s.d then ⟨begZ x g n s.a s.c, begZ y g m s.b s.d, sizZ x g n s.a s.c, sizZ y g m s.b s.d⟩ else Qd0

end Go.Proofs.Ytcgcpmcjaeenlaa

namespace Go.Proofs.Ytcgcpmcjaeenlaa
open Go.Lift
set_option maxRecDepth 1000000
set_option linter.unusedSimpArgs false
set_option linter.unusedVariables false
set_option linter.unusedSectionVars false

theorem gwithin_p (n lo hi : Int)  :
    FDoes Try.prog 30 [.int .i64 n, .int .i64 lo, .int .i64 hi] (⟨0, .nil⟩) (.int .i64 (if hi < if lo > n then lo else n then hi else if lo > n then lo else n)) (AHeap.rows 7 []) :=
  pcall_does env_ok mixed (hs := []) (rs := []) (by kernel_rfl) (All.nil)

theorem gwithin_does (n lo hi : Int) (H : AHeap) : FDoes Try.prog 30 [.int .i64 n, .int .i64 lo, .int .i64 hi] H (.int .i64 (min (max n lo) hi)) H := by
  have h := (gwithin_p n lo hi).bare (by simp [Bare, AVal.ren, Clo]) (Bare.int _ _) H
  have e : (if hi < if lo > n then lo else n then hi else if lo > n then lo else n) = min (max n lo) hi := by split <;> split <;> omega
  rwa [e] at h
theorem gside_does (n : Int) (H : AHeap) : FDoes Try.prog 30 [.int .i64 n, .int .i64 0, .int .i64 4096] H (.int .i64 (sideZ n)) H := gwithin_does n 0 4096 H
end Go.Proofs.Ytcgcpmcjaeenlaa

namespace Go.Proofs.Ytcgcpmcjaeenlaa
open Go.Lift
set_option maxRecDepth 1000000
set_option linter.unusedSimpArgs false
set_option linter.unusedVariables false
set_option linter.unusedSectionVars false

theorem fl_no1 (o : Option AAddr) (n c ver off v q i C : Nat) (b rT rT2 : ABlk) (l : List AVal) (qa qb qc qd : Int) (sT : AVal) (hc_0 : (i : Int) < (n : Int)) (hc_1 : aindexAddr env.D 22 (.slice o n c) (.int .i64 (i : Int)) = some (.ptr (some ⟨0, ver, off + i, 0, 4⟩))) (hc_2 : ABlk.elem? b ver (off + i) = some (.agg [.int .i64 qa, .int .i64 qb, .int .i64 qc, .int .i64 qd])) (hc_5 : -9223372036854775808 ≤ (C : Int) - inZ2 qc 1 (C : Int) ∧ (C : Int) - inZ2 qc 1 (C : Int) ≤ 9223372036854775807) (hc_8 : 0 ≤ (i : Int) ∧ (i : Int) < (n : Int) ∧ 4 = 4) (hc_9 : 0 = 0 ∧ l[0 + Int.toNat (i : Int)]? = some (.agg [.int .i64 0, .int .i64 0, .int .i64 0, .int .i64 0])) (hc_10 : ¬ (inZ2 qa (-1) ((C : Int) - inZ2 qc 1 (C : Int)) ≥ 0)) (hc_11 : -9223372036854775808 ≤ (i : Int) + 1 ∧ (i : Int) + (1 : Int) ≤ 9223372036854775807) :
    Runs Try.prog 1 135 (loopAt Try.prog 13 0) [(5, .ptr (some ⟨8, 0, 0, 0, 2⟩)), (6, .slice (some ⟨12, 0, 0, 0, 4⟩) n n), (23, .slice o n c), (24, .int .i64 n), (25, .int .i64 i)] (AHeap.rows 14 [(0, b), (8, .made [.agg [.int .i64 C, sT]] 2 true), (12, .made l 4 true), (13, rT)]) .normal [(5, .ptr (some ⟨8, 0, 0, 0, 2⟩)), (6, .slice (some ⟨12, 0, 0, 0, 4⟩) n n), (23, .slice o n c), (24, .int .i64 (n : Int)), (25, .int .i64 ((i : Int) + 1))] (AHeap.rows 67 [(0, b), (8, (.made ([.agg [.int .i64 (C : Int), sT]]) 2 true)), (12, (.made (List.set l (0 + Int.toNat (i : Int)) (.agg [.int .i64 (inZ2 qa (-1) ((C : Int) - inZ2 qc 1 (C : Int))), .int .i64 (inZ2 qb (-1) 4096), .int .i64 (inZ2 qc 1 (C : Int)), .int .i64 (inZ2 qd 1 4096)])) 4 true)), (13, rT), (18, (.made ([.agg [.int .i64 (inZ2 qa (-1) ((C : Int) - inZ2 qc 1 (C : Int))), .int .i64 (inZ2 qb (-1) 4096), .int .i64 (inZ2 qc 1 (C : Int)), .int .i64 (inZ2 qd 1 4096)]]) 4 true))]) :=
  ppath_runs env_ok mixed (hs := [.val 6000 (.bool true), .val 7001 (.ptr (some ⟨0, ver, off + i, 0, 4⟩)), .ld 7002 (.agg [.int .i64 qa, .int .i64 qb, .int .i64 qc, .int .i64 qd]), .val 8006 (.int .i64 (inZ2 qc 1 C)), .val 9002 (.int .i64 (inZ2 qd 1 4096)), .go 10008, .val 10009 (.int .i64 (inZ2 qa (-1) (C - inZ2 qc 1 C))), .val 11002 (.int .i64 (inZ2 qb (-1) 4096)), .go 12003, .st 12004 (.agg [.int .i64 0, .int .i64 0, .int .i64 0, .int .i64 0]), .val 13002 (.bool false), .go 15000]) (keep := [5, 6, 23, 24, 25]) (by kernel_rfl) (All.cons (okT hc_0) (All.cons hc_1 (All.cons hc_2 (All.cons (show CallT Try.prog 30 [.int .i64 qc, .int .i64 1, .int .i64 (C : Int)] (AHeap.rows 30 [(0, b), (8, (.made ([.agg [.int .i64 (C : Int), sT]]) 2 true)), (12, .made l 4 true), (13, rT), (18, (.made ([.agg [.int .i64 qa, .int .i64 qb, .int .i64 qc, .int .i64 qd]]) 4 true))]) (.int .i64 (inZ2 qc 1 (C : Int))) (AHeap.rows 30 [(0, b), (8, (.made ([.agg [.int .i64 (C : Int), sT]]) 2 true)), (12, .made l 4 true), (13, rT), (18, (.made ([.agg [.int .i64 qa, .int .i64 qb, .int .i64 qc, .int .i64 qd]]) 4 true))]) from ⟨(gwithin_does _ _ _ _)⟩) (All.cons (show CallT Try.prog 30 [.int .i64 qd, .int .i64 1, .int .i64 4096] (AHeap.rows 35 [(0, b), (8, (.made ([.agg [.int .i64 (C : Int), sT]]) 2 true)), (12, .made l 4 true), (13, rT), (18, (.made ([.agg [.int .i64 qa, .int .i64 qb, .int .i64 (inZ2 qc 1 (C : Int)), .int .i64 qd]]) 4 true))]) (.int .i64 (inZ2 qd 1 4096)) (AHeap.rows 35 [(0, b), (8, (.made ([.agg [.int .i64 (C : Int), sT]]) 2 true)), (12, .made l 4 true), (13, rT), (18, (.made ([.agg [.int .i64 qa, .int .i64 qb, .int .i64 (inZ2 qc 1 (C : Int)), .int .i64 qd]]) 4 true))]) from ⟨(gwithin_does _ _ _ _)⟩) (All.cons hc_5 (All.cons (show CallT Try.prog 30 [.int .i64 qa, .int .i64 (-1), .int .i64 ((C : Int) - inZ2 qc 1 (C : Int))] (AHeap.rows 47 [(0, b), (8, (.made ([.agg [.int .i64 (C : Int), sT]]) 2 true)), (12, .made l 4 true), (13, rT), (18, (.made ([.agg [.int .i64 qa, .int .i64 qb, .int .i64 (inZ2 qc 1 (C : Int)), .int .i64 (inZ2 qd 1 4096)]]) 4 true))]) (.int .i64 (inZ2 qa (-1) ((C : Int) - inZ2 qc 1 (C : Int)))) (AHeap.rows 47 [(0, b), (8, (.made ([.agg [.int .i64 (C : Int), sT]]) 2 true)), (12, .made l 4 true), (13, rT), (18, (.made ([.agg [.int .i64 qa, .int .i64 qb, .int .i64 (inZ2 qc 1 (C : Int)), .int .i64 (inZ2 qd 1 4096)]]) 4 true))]) from ⟨(gwithin_does _ _ _ _)⟩) (All.cons (show CallT Try.prog 30 [.int .i64 qb, .int .i64 (-1), .int .i64 4096] (AHeap.rows 52 [(0, b), (8, (.made ([.agg [.int .i64 (C : Int), sT]]) 2 true)), (12, .made l 4 true), (13, rT), (18, (.made ([.agg [.int .i64 (inZ2 qa (-1) ((C : Int) - inZ2 qc 1 (C : Int))), .int .i64 qb, .int .i64 (inZ2 qc 1 (C : Int)), .int .i64 (inZ2 qd 1 4096)]]) 4 true))]) (.int .i64 (inZ2 qb (-1) 4096)) (AHeap.rows 52 [(0, b), (8, (.made ([.agg [.int .i64 (C : Int), sT]]) 2 true)), (12, .made l 4 true), (13, rT), (18, (.made ([.agg [.int .i64 (inZ2 qa (-1) ((C : Int) - inZ2 qc 1 (C : Int))), .int .i64 qb, .int .i64 (inZ2 qc 1 (C : Int)), .int .i64 (inZ2 qd 1 4096)]]) 4 true))]) from ⟨(gwithin_does _ _ _ _)⟩) (All.cons hc_8 (All.cons hc_9 (All.cons (okF hc_10) (All.cons hc_11 (All.nil)))))))))))))

theorem fl_no2 (o : Option AAddr) (n c ver off v q i C : Nat) (b rT rT2 : ABlk) (l : List AVal) (qa qb qc qd : Int) (sT : AVal) (hc_0 : (i : Int) < (n : Int)) (hc_1 : aindexAddr env.D 22 (.slice o n c) (.int .i64 (i : Int)) = some (.ptr (some ⟨0, ver, off + i, 0, 4⟩))) (hc_2 : ABlk.elem? b ver (off + i) = some (.agg [.int .i64 qa, .int .i64 qb, .int .i64 qc, .int .i64 qd])) (hc_5 : -9223372036854775808 ≤ (C : Int) - inZ2 qc 1 (C : Int) ∧ (C : Int) - inZ2 qc 1 (C : Int) ≤ 9223372036854775807) (hc_8 : 0 ≤ (i : Int) ∧ (i : Int) < (n : Int) ∧ 4 = 4) (hc_9 : 0 = 0 ∧ l[0 + Int.toNat (i : Int)]? = some (.agg [.int .i64 0, .int .i64 0, .int .i64 0, .int .i64 0])) (hc_10 : inZ2 qa (-1) ((C : Int) - inZ2 qc 1 (C : Int)) ≥ 0) (hc_11 : ¬ (inZ2 qb (-1) 4096 ≥ 0)) (hc_12 : -9223372036854775808 ≤ (i : Int) + 1 ∧ (i : Int) + (1 : Int) ≤ 9223372036854775807) :
    Runs Try.prog 1 135 (loopAt Try.prog 13 0) [(5, .ptr (some ⟨8, 0, 0, 0, 2⟩)), (6, .slice (some ⟨12, 0, 0, 0, 4⟩) n n), (23, .slice o n c), (24, .int .i64 n), (25, .int .i64 i)] (AHeap.rows 14 [(0, b), (8, .made [.agg [.int .i64 C, sT]] 2 true), (12, .made l 4 true), (13, rT)]) .normal [(5, .ptr (some ⟨8, 0, 0, 0, 2⟩)), (6, .slice (some ⟨12, 0, 0, 0, 4⟩) n n), (23, .slice o n c), (24, .int .i64 (n : Int)), (25, .int .i64 ((i : Int) + 1))] (AHeap.rows 67 [(0, b), (8, (.made ([.agg [.int .i64 (C : Int), sT]]) 2 true)), (12, (.made (List.set l (0 + Int.toNat (i : Int)) (.agg [.int .i64 (inZ2 qa (-1) ((C : Int) - inZ2 qc 1 (C : Int))), .int .i64 (inZ2 qb (-1) 4096), .int .i64 (inZ2 qc 1 (C : Int)), .int .i64 (inZ2 qd 1 4096)])) 4 true)), (13, rT), (18, (.made ([.agg [.int .i64 (inZ2 qa (-1) ((C : Int) - inZ2 qc 1 (C : Int))), .int .i64 (inZ2 qb (-1) 4096), .int .i64 (inZ2 qc 1 (C : Int)), .int .i64 (inZ2 qd 1 4096)]]) 4 true))]) :=
  ppath_runs env_ok mixed (hs := [.val 6000 (.bool true), .val 7001 (.ptr (some ⟨0, ver, off + i, 0, 4⟩)), .ld 7002 (.agg [.int .i64 qa, .int .i64 qb, .int .i64 qc, .int .i64 qd]), .val 8006 (.int .i64 (inZ2 qc 1 C)), .val 9002 (.int .i64 (inZ2 qd 1 4096)), .go 10008, .val 10009 (.int .i64 (inZ2 qa (-1) (C - inZ2 qc 1 C))), .val 11002 (.int .i64 (inZ2 qb (-1) 4096)), .go 12003, .st 12004 (.agg [.int .i64 0, .int .i64 0, .int .i64 0, .int .i64 0]), .val 13002 (.bool true), .val 13006 (.bool false), .go 15000]) (keep := [5, 6, 23, 24, 25]) (by kernel_rfl) (All.cons (okT hc_0) (All.cons hc_1 (All.cons hc_2 (All.cons (show CallT Try.prog 30 [.int .i64 qc, .int .i64 1, .int .i64 (C : Int)] (AHeap.rows 30 [(0, b), (8, (.made ([.agg [.int .i64 (C : Int), sT]]) 2 true)), (12, .made l 4 true), (13, rT), (18, (.made ([.agg [.int .i64 qa, .int .i64 qb, .int .i64 qc, .int .i64 qd]]) 4 true))]) (.int .i64 (inZ2 qc 1 (C : Int))) (AHeap.rows 30 [(0, b), (8, (.made ([.agg [.int .i64 (C : Int), sT]]) 2 true)), (12, .made l 4 true), (13, rT), (18, (.made ([.agg [.int .i64 qa, .int .i64 qb, .int .i64 qc, .int .i64 qd]]) 4 true))]) from ⟨(gwithin_does _ _ _ _)⟩) (All.cons (show CallT Try.prog 30 [.int .i64 qd, .int .i64 1, .int .i64 4096] (AHeap.rows 35 [(0, b), (8, (.made ([.agg [.int .i64 (C : Int), sT]]) 2 true)), (12, .made l 4 true), (13, rT), (18, (.made ([.agg [.int .i64 qa, .int .i64 qb, .int .i64 (inZ2 qc 1 (C : Int)), .int .i64 qd]]) 4 true))]) (.int .i64 (inZ2 qd 1 4096)) (AHeap.rows 35 [(0, b), (8, (.made ([.agg [.int .i64 (C : Int), sT]]) 2 true)), (12, .made l 4 true), (13, rT), (18, (.made ([.agg [.int .i64 qa, .int .i64 qb, .int .i64 (inZ2 qc 1 (C : Int)), .int .i64 qd]]) 4 true))]) from ⟨(gwithin_does _ _ _ _)⟩) (All.cons hc_5 (All.cons (show CallT Try.prog 30 [.int .i64 qa, .int .i64 (-1), .int .i64 ((C : Int) - inZ2 qc 1 (C : Int))] (AHeap.rows 47 [(0, b), (8, (.made ([.agg [.int .i64 (C : Int), sT]]) 2 true)), (12, .made l 4 true), (13, rT), (18, (.made ([.agg [.int .i64 qa, .int .i64 qb, .int .i64 (inZ2 qc 1 (C : Int)), .int .i64 (inZ2 qd 1 4096)]]) 4 true))]) (.int .i64 (inZ2 qa (-1) ((C : Int) - inZ2 qc 1 (C : Int)))) (AHeap.rows 47 [(0, b), (8, (.made ([.agg [.int .i64 (C : Int), sT]]) 2 true)), (12, .made l 4 true), (13, rT), (18, (.made ([.agg [.int .i64 qa, .int .i64 qb, .int .i64 (inZ2 qc 1 (C : Int)), .int .i64 (inZ2 qd 1 4096)]]) 4 true))]) from ⟨(gwithin_does _ _ _ _)⟩) (All.cons (show CallT Try.prog 30 [.int .i64 qb, .int .i64 (-1), .int .i64 4096] (AHeap.rows 52 [(0, b), (8, (.made ([.agg [.int .i64 (C : Int), sT]]) 2 true)), (12, .made l 4 true), (13, rT), (18, (.made ([.agg [.int .i64 (inZ2 qa (-1) ((C : Int) - inZ2 qc 1 (C : Int))), .int .i64 qb, .int .i64 (inZ2 qc 1 (C : Int)), .int .i64 (inZ2 qd 1 4096)]]) 4 true))]) (.int .i64 (inZ2 qb (-1) 4096)) (AHeap.rows 52 [(0, b), (8, (.made ([.agg [.int .i64 (C : Int), sT]]) 2 true)), (12, .made l 4 true), (13, rT), (18, (.made ([.agg [.int .i64 (inZ2 qa (-1) ((C : Int) - inZ2 qc 1 (C : Int))), .int .i64 qb, .int .i64 (inZ2 qc 1 (C : Int)), .int .i64 (inZ2 qd 1 4096)]]) 4 true))]) from ⟨(gwithin_does _ _ _ _)⟩) (All.cons hc_8 (All.cons hc_9 (All.cons (okT hc_10) (All.cons (okF hc_11) (All.cons hc_12 (All.nil))))))))))))))

theorem fl_new (o : Option AAddr) (n c ver off v q i C : Nat) (b rT rT2 : ABlk) (l : List AVal) (qa qb qc qd : Int) (hc_0 : (i : Int) < (n : Int)) (hc_1 : aindexAddr env.D 22 (.slice o n c) (.int .i64 (i : Int)) = some (.ptr (some ⟨0, ver, off + i, 0, 4⟩))) (hc_2 : ABlk.elem? b ver (off + i) = some (.agg [.int .i64 qa, .int .i64 qb, .int .i64 qc, .int .i64 qd])) (hc_5 : -9223372036854775808 ≤ (C : Int) - inZ2 qc 1 (C : Int) ∧ (C : Int) - inZ2 qc 1 (C : Int) ≤ 9223372036854775807) (hc_8 : 0 ≤ (i : Int) ∧ (i : Int) < (n : Int) ∧ 4 = 4) (hc_9 : 0 = 0 ∧ l[0 + Int.toNat (i : Int)]? = some (.agg [.int .i64 0, .int .i64 0, .int .i64 0, .int .i64 0])) (hc_10 : inZ2 qa (-1) ((C : Int) - inZ2 qc 1 (C : Int)) ≥ 0) (hc_11 : inZ2 qb (-1) 4096 ≥ 0) (hc_12 : abuiltin env Builtin.append { toList := [22, 22] } [.slice none 0 0, .slice (some ⟨70, 0, 0, 0, 4⟩) 1 1] 71 (AHeap.set (AHeap.rows 75 [(0, b), (8, (.made ([.agg [.int .i64 (C : Int), .slice none 0 0]]) 2 true)), (12, (.made (List.set l (0 + Int.toNat (i : Int)) (.agg [.int .i64 (inZ2 qa (-1) ((C : Int) - inZ2 qc 1 (C : Int))), .int .i64 (inZ2 qb (-1) 4096), .int .i64 (inZ2 qc 1 (C : Int)), .int .i64 (inZ2 qd 1 4096)])) 4 true)), (17, (.made ([.agg [.int .i64 (inZ2 qa (-1) ((C : Int) - inZ2 qc 1 (C : Int))), .int .i64 (inZ2 qb (-1) 4096), .int .i64 (inZ2 qc 1 (C : Int)), .int .i64 (inZ2 qd 1 4096)]]) 4 true))]) 70 (.made [.agg [.int .i64 (inZ2 qa (-1) ((C : Int) - inZ2 qc 1 (C : Int))), .int .i64 (inZ2 qb (-1) 4096), .int .i64 (inZ2 qc 1 (C : Int)), .int .i64 (inZ2 qd 1 4096)]] 4 true)) = some (.slice (some ⟨71, 0, 0, 0, 4⟩) 1 1, (AHeap.rows 75 [(0, b), (8, (.made ([.agg [.int .i64 (C : Int), .slice none 0 0]]) 2 true)), (12, (.made (List.set l (0 + Int.toNat (i : Int)) (.agg [.int .i64 (inZ2 qa (-1) ((C : Int) - inZ2 qc 1 (C : Int))), .int .i64 (inZ2 qb (-1) 4096), .int .i64 (inZ2 qc 1 (C : Int)), .int .i64 (inZ2 qd 1 4096)])) 4 true)), (17, (.made ([.agg [.int .i64 (inZ2 qa (-1) ((C : Int) - inZ2 qc 1 (C : Int))), .int .i64 (inZ2 qb (-1) 4096), .int .i64 (inZ2 qc 1 (C : Int)), .int .i64 (inZ2 qd 1 4096)]]) 4 true)), (70, .made [.agg [.int .i64 (inZ2 qa (-1) ((C : Int) - inZ2 qc 1 (C : Int))), .int .i64 (inZ2 qb (-1) 4096), .int .i64 (inZ2 qc 1 (C : Int)), .int .i64 (inZ2 qd 1 4096)]] 4 true), (71, rT2)]))) (hc_13 : -9223372036854775808 ≤ (i : Int) + 1 ∧ (i : Int) + (1 : Int) ≤ 9223372036854775807) :
    Runs Try.prog 1 135 (loopAt Try.prog 13 0) [(5, .ptr (some ⟨8, 0, 0, 0, 2⟩)), (6, .slice (some ⟨12, 0, 0, 0, 4⟩) n n), (23, .slice o n c), (24, .int .i64 n), (25, .int .i64 i)] (AHeap.rows 13 [(0, b), (8, .made [.agg [.int .i64 C, .slice none 0 0]] 2 true), (12, .made l 4 true)]) .normal [(5, .ptr (some ⟨8, 0, 0, 0, 2⟩)), (6, .slice (some ⟨12, 0, 0, 0, 4⟩) n n), (23, .slice o n c), (24, .int .i64 (n : Int)), (25, .int .i64 ((i : Int) + 1))] (AHeap.rows 77 [(0, b), (8, (.made ([.agg [.int .i64 (C : Int), .slice (some ⟨71, 0, 0, 0, 4⟩) 1 1]]) 2 true)), (12, (.made (List.set l (0 + Int.toNat (i : Int)) (.agg [.int .i64 (inZ2 qa (-1) ((C : Int) - inZ2 qc 1 (C : Int))), .int .i64 (inZ2 qb (-1) 4096), .int .i64 (inZ2 qc 1 (C : Int)), .int .i64 (inZ2 qd 1 4096)])) 4 true)), (17, (.made ([.agg [.int .i64 (inZ2 qa (-1) ((C : Int) - inZ2 qc 1 (C : Int))), .int .i64 (inZ2 qb (-1) 4096), .int .i64 (inZ2 qc 1 (C : Int)), .int .i64 (inZ2 qd 1 4096)]]) 4 true)), (70, .made [.agg [.int .i64 (inZ2 qa (-1) ((C : Int) - inZ2 qc 1 (C : Int))), .int .i64 (inZ2 qb (-1) 4096), .int .i64 (inZ2 qc 1 (C : Int)), .int .i64 (inZ2 qd 1 4096)]] 4 true), (71, rT2)]) :=
  ppath_runs env_ok mixed (hs := [.val 6000 (.bool true), .val 7001 (.ptr (some ⟨0, ver, off + i, 0, 4⟩)), .ld 7002 (.agg [.int .i64 qa, .int .i64 qb, .int .i64 qc, .int .i64 qd]), .val 8006 (.int .i64 (inZ2 qc 1 C)), .val 9002 (.int .i64 (inZ2 qd 1 4096)), .go 10008, .val 10009 (.int .i64 (inZ2 qa (-1) (C - inZ2 qc 1 C))), .val 11002 (.int .i64 (inZ2 qb (-1) 4096)), .go 12003, .st 12004 (.agg [.int .i64 0, .int .i64 0, .int .i64 0, .int .i64 0]), .val 13002 (.bool true), .val 13006 (.bool true), .act 14007 (.slice (some ⟨71, 0, 0, 0, 4⟩) 1 1) (fun h => h.set 71 rT2), .go 15000]) (keep := [5, 6, 23, 24, 25]) (by kernel_rfl) (All.cons (okT hc_0) (All.cons hc_1 (All.cons hc_2 (All.cons (show CallT Try.prog 30 [.int .i64 qc, .int .i64 1, .int .i64 (C : Int)] (AHeap.rows 29 [(0, b), (8, (.made ([.agg [.int .i64 (C : Int), .slice none 0 0]]) 2 true)), (12, .made l 4 true), (17, (.made ([.agg [.int .i64 qa, .int .i64 qb, .int .i64 qc, .int .i64 qd]]) 4 true))]) (.int .i64 (inZ2 qc 1 (C : Int))) (AHeap.rows 29 [(0, b), (8, (.made ([.agg [.int .i64 (C : Int), .slice none 0 0]]) 2 true)), (12, .made l 4 true), (17, (.made ([.agg [.int .i64 qa, .int .i64 qb, .int .i64 qc, .int .i64 qd]]) 4 true))]) from ⟨(gwithin_does _ _ _ _)⟩) (All.cons (show CallT Try.prog 30 [.int .i64 qd, .int .i64 1, .int .i64 4096] (AHeap.rows 34 [(0, b), (8, (.made ([.agg [.int .i64 (C : Int), .slice none 0 0]]) 2 true)), (12, .made l 4 true), (17, (.made ([.agg [.int .i64 qa, .int .i64 qb, .int .i64 (inZ2 qc 1 (C : Int)), .int .i64 qd]]) 4 true))]) (.int .i64 (inZ2 qd 1 4096)) (AHeap.rows 34 [(0, b), (8, (.made ([.agg [.int .i64 (C : Int), .slice none 0 0]]) 2 true)), (12, .made l 4 true), (17, (.made ([.agg [.int .i64 qa, .int .i64 qb, .int .i64 (inZ2 qc 1 (C : Int)), .int .i64 qd]]) 4 true))]) from ⟨(gwithin_does _ _ _ _)⟩) (All.cons hc_5 (All.cons (show CallT Try.prog 30 [.int .i64 qa, .int .i64 (-1), .int .i64 ((C : Int) - inZ2 qc 1 (C : Int))] (AHeap.rows 46 [(0, b), (8, (.made ([.agg [.int .i64 (C : Int), .slice none 0 0]]) 2 true)), (12, .made l 4 true), (17, (.made ([.agg [.int .i64 qa, .int .i64 qb, .int .i64 (inZ2 qc 1 (C : Int)), .int .i64 (inZ2 qd 1 4096)]]) 4 true))]) (.int .i64 (inZ2 qa (-1) ((C : Int) - inZ2 qc 1 (C : Int)))) (AHeap.rows 46 [(0, b), (8, (.made ([.agg [.int .i64 (C : Int), .slice none 0 0]]) 2 true)), (12, .made l 4 true), (17, (.made ([.agg [.int .i64 qa, .int .i64 qb, .int .i64 (inZ2 qc 1 (C : Int)), .int .i64 (inZ2 qd 1 4096)]]) 4 true))]) from ⟨(gwithin_does _ _ _ _)⟩) (All.cons (show CallT Try.prog 30 [.int .i64 qb, .int .i64 (-1), .int .i64 4096] (AHeap.rows 51 [(0, b), (8, (.made ([.agg [.int .i64 (C : Int), .slice none 0 0]]) 2 true)), (12, .made l 4 true), (17, (.made ([.agg [.int .i64 (inZ2 qa (-1) ((C : Int) - inZ2 qc 1 (C : Int))), .int .i64 qb, .int .i64 (inZ2 qc 1 (C : Int)), .int .i64 (inZ2 qd 1 4096)]]) 4 true))]) (.int .i64 (inZ2 qb (-1) 4096)) (AHeap.rows 51 [(0, b), (8, (.made ([.agg [.int .i64 (C : Int), .slice none 0 0]]) 2 true)), (12, .made l 4 true), (17, (.made ([.agg [.int .i64 (inZ2 qa (-1) ((C : Int) - inZ2 qc 1 (C : Int))), .int .i64 qb, .int .i64 (inZ2 qc 1 (C : Int)), .int .i64 (inZ2 qd 1 4096)]]) 4 true))]) from ⟨(gwithin_does _ _ _ _)⟩) (All.cons hc_8 (All.cons hc_9 (All.cons (okT hc_10) (All.cons (okT hc_11) (All.cons hc_12 (All.cons hc_13 (All.nil)))))))))))))))

theorem fl_grow (o : Option AAddr) (n c ver off v q i C : Nat) (b rT rT2 : ABlk) (l : List AVal) (qa qb qc qd : Int) (hc_0 : (i : Int) < (n : Int)) (hc_1 : aindexAddr env.D 22 (.slice o n c) (.int .i64 (i : Int)) = some (.ptr (some ⟨0, ver, off + i, 0, 4⟩))) (hc_2 : ABlk.elem? b ver (off + i) = some (.agg [.int .i64 qa, .int .i64 qb, .int .i64 qc, .int .i64 qd])) (hc_5 : -9223372036854775808 ≤ (C : Int) - inZ2 qc 1 (C : Int) ∧ (C : Int) - inZ2 qc 1 (C : Int) ≤ 9223372036854775807) (hc_8 : 0 ≤ (i : Int) ∧ (i : Int) < (n : Int) ∧ 4 = 4) (hc_9 : 0 = 0 ∧ l[0 + Int.toNat (i : Int)]? = some (.agg [.int .i64 0, .int .i64 0, .int .i64 0, .int .i64 0])) (hc_10 : inZ2 qa (-1) ((C : Int) - inZ2 qc 1 (C : Int)) ≥ 0) (hc_11 : inZ2 qb (-1) 4096 ≥ 0) (hc_12 : abuiltin env Builtin.append { toList := [22, 22] } [.slice (some ⟨13, v, 0, 0, 4⟩) q q, .slice (some ⟨71, 0, 0, 0, 4⟩) 1 1] 72 (AHeap.set (AHeap.rows 76 [(0, b), (8, (.made ([.agg [.int .i64 (C : Int), .slice (some ⟨13, v, 0, 0, 4⟩) q q]]) 2 true)), (12, (.made (List.set l (0 + Int.toNat (i : Int)) (.agg [.int .i64 (inZ2 qa (-1) ((C : Int) - inZ2 qc 1 (C : Int))), .int .i64 (inZ2 qb (-1) 4096), .int .i64 (inZ2 qc 1 (C : Int)), .int .i64 (inZ2 qd 1 4096)])) 4 true)), (13, rT), (18, (.made ([.agg [.int .i64 (inZ2 qa (-1) ((C : Int) - inZ2 qc 1 (C : Int))), .int .i64 (inZ2 qb (-1) 4096), .int .i64 (inZ2 qc 1 (C : Int)), .int .i64 (inZ2 qd 1 4096)]]) 4 true))]) 71 (.made [.agg [.int .i64 (inZ2 qa (-1) ((C : Int) - inZ2 qc 1 (C : Int))), .int .i64 (inZ2 qb (-1) 4096), .int .i64 (inZ2 qc 1 (C : Int)), .int .i64 (inZ2 qd 1 4096)]] 4 true)) = some (.slice (some ⟨13, v + 1, 0, 0, 4⟩) (q + 1) (q + 1), (AHeap.rows 76 [(0, b), (8, (.made ([.agg [.int .i64 (C : Int), .slice (some ⟨13, v, 0, 0, 4⟩) q q]]) 2 true)), (12, (.made (List.set l (0 + Int.toNat (i : Int)) (.agg [.int .i64 (inZ2 qa (-1) ((C : Int) - inZ2 qc 1 (C : Int))), .int .i64 (inZ2 qb (-1) 4096), .int .i64 (inZ2 qc 1 (C : Int)), .int .i64 (inZ2 qd 1 4096)])) 4 true)), (13, rT2), (18, (.made ([.agg [.int .i64 (inZ2 qa (-1) ((C : Int) - inZ2 qc 1 (C : Int))), .int .i64 (inZ2 qb (-1) 4096), .int .i64 (inZ2 qc 1 (C : Int)), .int .i64 (inZ2 qd 1 4096)]]) 4 true)), (71, .made [.agg [.int .i64 (inZ2 qa (-1) ((C : Int) - inZ2 qc 1 (C : Int))), .int .i64 (inZ2 qb (-1) 4096), .int .i64 (inZ2 qc 1 (C : Int)), .int .i64 (inZ2 qd 1 4096)]] 4 true)]))) (hc_13 : -9223372036854775808 ≤ (i : Int) + 1 ∧ (i : Int) + (1 : Int) ≤ 9223372036854775807) :
    Runs Try.prog 1 135 (loopAt Try.prog 13 0) [(5, .ptr (some ⟨8, 0, 0, 0, 2⟩)), (6, .slice (some ⟨12, 0, 0, 0, 4⟩) n n), (23, .slice o n c), (24, .int .i64 n), (25, .int .i64 i)] (AHeap.rows 14 [(0, b), (8, .made [.agg [.int .i64 C, .slice (some ⟨13, v, 0, 0, 4⟩) q q]] 2 true), (12, .made l 4 true), (13, rT)]) .normal [(5, .ptr (some ⟨8, 0, 0, 0, 2⟩)), (6, .slice (some ⟨12, 0, 0, 0, 4⟩) n n), (23, .slice o n c), (24, .int .i64 (n : Int)), (25, .int .i64 ((i : Int) + 1))] (AHeap.rows 78 [(0, b), (8, (.made ([.agg [.int .i64 (C : Int), .slice (some ⟨13, v + 1, 0, 0, 4⟩) (q + 1) (q + 1)]]) 2 true)), (12, (.made (List.set l (0 + Int.toNat (i : Int)) (.agg [.int .i64 (inZ2 qa (-1) ((C : Int) - inZ2 qc 1 (C : Int))), .int .i64 (inZ2 qb (-1) 4096), .int .i64 (inZ2 qc 1 (C : Int)), .int .i64 (inZ2 qd 1 4096)])) 4 true)), (13, rT2), (18, (.made ([.agg [.int .i64 (inZ2 qa (-1) ((C : Int) - inZ2 qc 1 (C : Int))), .int .i64 (inZ2 qb (-1) 4096), .int .i64 (inZ2 qc 1 (C : Int)), .int .i64 (inZ2 qd 1 4096)]]) 4 true)), (71, .made [.agg [.int .i64 (inZ2 qa (-1) ((C : Int) - inZ2 qc 1 (C : Int))), .int .i64 (inZ2 qb (-1) 4096), .int .i64 (inZ2 qc 1 (C : Int)), .int .i64 (inZ2 qd 1 4096)]] 4 true)]) :=
  ppath_runs env_ok mixed (hs := [.val 6000 (.bool true), .val 7001 (.ptr (some ⟨0, ver, off + i, 0, 4⟩)), .ld 7002 (.agg [.int .i64 qa, .int .i64 qb, .int .i64 qc, .int .i64 qd]), .val 8006 (.int .i64 (inZ2 qc 1 C)), .val 9002 (.int .i64 (inZ2 qd 1 4096)), .go 10008, .val 10009 (.int .i64 (inZ2 qa (-1) (C - inZ2 qc 1 C))), .val 11002 (.int .i64 (inZ2 qb (-1) 4096)), .go 12003, .st 12004 (.agg [.int .i64 0, .int .i64 0, .int .i64 0, .int .i64 0]), .val 13002 (.bool true), .val 13006 (.bool true), .act 14007 (.slice (some ⟨13, v + 1, 0, 0, 4⟩) (q + 1) (q + 1)) (fun h => h.set 13 rT2), .go 15000]) (keep := [5, 6, 23, 24, 25]) (by kernel_rfl) (All.cons (okT hc_0) (All.cons hc_1 (All.cons hc_2 (All.cons (show CallT Try.prog 30 [.int .i64 qc, .int .i64 1, .int .i64 (C : Int)] (AHeap.rows 30 [(0, b), (8, (.made ([.agg [.int .i64 (C : Int), .slice (some ⟨13, v, 0, 0, 4⟩) q q]]) 2 true)), (12, .made l 4 true), (13, rT), (18, (.made ([.agg [.int .i64 qa, .int .i64 qb, .int .i64 qc, .int .i64 qd]]) 4 true))]) (.int .i64 (inZ2 qc 1 (C : Int))) (AHeap.rows 30 [(0, b), (8, (.made ([.agg [.int .i64 (C : Int), .slice (some ⟨13, v, 0, 0, 4⟩) q q]]) 2 true)), (12, .made l 4 true), (13, rT), (18, (.made ([.agg [.int .i64 qa, .int .i64 qb, .int .i64 qc, .int .i64 qd]]) 4 true))]) from ⟨(gwithin_does _ _ _ _)⟩) (All.cons (show CallT Try.prog 30 [.int .i64 qd, .int .i64 1, .int .i64 4096] (AHeap.rows 35 [(0, b), (8, (.made ([.agg [.int .i64 (C : Int), .slice (some ⟨13, v, 0, 0, 4⟩) q q]]) 2 true)), (12, .made l 4 true), (13, rT), (18, (.made ([.agg [.int .i64 qa, .int .i64 qb, .int .i64 (inZ2 qc 1 (C : Int)), .int .i64 qd]]) 4 true))]) (.int .i64 (inZ2 qd 1 4096)) (AHeap.rows 35 [(0, b), (8, (.made ([.agg [.int .i64 (C : Int), .slice (some ⟨13, v, 0, 0, 4⟩) q q]]) 2 true)), (12, .made l 4 true), (13, rT), (18, (.made ([.agg [.int .i64 qa, .int .i64 qb, .int .i64 (inZ2 qc 1 (C : Int)), .int .i64 qd]]) 4 true))]) from ⟨(gwithin_does _ _ _ _)⟩) (All.cons hc_5 (All.cons (show CallT Try.prog 30 [.int .i64 qa, .int .i64 (-1), .int .i64 ((C : Int) - inZ2 qc 1 (C : Int))] (AHeap.rows 47 [(0, b), (8, (.made ([.agg [.int .i64 (C : Int), .slice (some ⟨13, v, 0, 0, 4⟩) q q]]) 2 true)), (12, .made l 4 true), (13, rT), (18, (.made ([.agg [.int .i64 qa, .int .i64 qb, .int .i64 (inZ2 qc 1 (C : Int)), .int .i64 (inZ2 qd 1 4096)]]) 4 true))]) (.int .i64 (inZ2 qa (-1) ((C : Int) - inZ2 qc 1 (C : Int)))) (AHeap.rows 47 [(0, b), (8, (.made ([.agg [.int .i64 (C : Int), .slice (some ⟨13, v, 0, 0, 4⟩) q q]]) 2 true)), (12, .made l 4 true), (13, rT), (18, (.made ([.agg [.int .i64 qa, .int .i64 qb, .int .i64 (inZ2 qc 1 (C : Int)), .int .i64 (inZ2 qd 1 4096)]]) 4 true))]) from ⟨(gwithin_does _ _ _ _)⟩) (All.cons (show CallT Try.prog 30 [.int .i64 qb, .int .i64 (-1), .int .i64 4096] (AHeap.rows 52 [(0, b), (8, (.made ([.agg [.int .i64 (C : Int), .slice (some ⟨13, v, 0, 0, 4⟩) q q]]) 2 true)), (12, .made l 4 true), (13, rT), (18, (.made ([.agg [.int .i64 (inZ2 qa (-1) ((C : Int) - inZ2 qc 1 (C : Int))), .int .i64 qb, .int .i64 (inZ2 qc 1 (C : Int)), .int .i64 (inZ2 qd 1 4096)]]) 4 true))]) (.int .i64 (inZ2 qb (-1) 4096)) (AHeap.rows 52 [(0, b), (8, (.made ([.agg [.int .i64 (C : Int), .slice (some ⟨13, v, 0, 0, 4⟩) q q]]) 2 true)), (12, .made l 4 true), (13, rT), (18, (.made ([.agg [.int .i64 (inZ2 qa (-1) ((C : Int) - inZ2 qc 1 (C : Int))), .int .i64 qb, .int .i64 (inZ2 qc 1 (C : Int)), .int .i64 (inZ2 qd 1 4096)]]) 4 true))]) from ⟨(gwithin_does _ _ _ _)⟩) (All.cons hc_8 (All.cons hc_9 (All.cons (okT hc_10) (All.cons (okT hc_11) (All.cons hc_12 (All.cons hc_13 (All.nil)))))))))))))))

theorem fl_end (o : Option AAddr) (n c ver off v q i C : Nat) (b rT rT2 : ABlk) (l : List AVal) (qa qb qc qd : Int) (sT : AVal) (hc_0 : ¬ ((i : Int) < (n : Int))) :
    Runs Try.prog 1 135 (loopAt Try.prog 13 0) [(5, .ptr (some ⟨8, 0, 0, 0, 2⟩)), (6, .slice (some ⟨12, 0, 0, 0, 4⟩) n n), (23, .slice o n c), (24, .int .i64 n), (25, .int .i64 i)] (AHeap.rows 14 [(0, b), (8, .made [.agg [.int .i64 C, sT]] 2 true), (12, .made l 4 true), (13, rT)]) (.exit 0) [(5, .ptr (some ⟨8, 0, 0, 0, 2⟩)), (6, .slice (some ⟨12, 0, 0, 0, 4⟩) n n)] (AHeap.rows 15 [(0, b), (8, (.made ([.agg [.int .i64 (C : Int), sT]]) 2 true)), (12, .made l 4 true), (13, rT)]) :=
  ppath_runs env_ok mixed (hs := [.val 6000 (.bool false)]) (keep := [5, 6]) (by kernel_rfl) (All.cons (okF hc_0) (All.nil))

theorem fx_fixed (n v q i C : Nat) (b rT rT2 : ABlk) (l : List AVal) (y x sa sb sc sd ra rb rc rd : Int) (sT : AVal) (hc_0 : (i : Int) < (n : Int)) (hc_1 : 0 ≤ (i : Int) ∧ (i : Int) < (n : Int) ∧ 4 = 4) (hc_2 : ABlk.elem? (.made l 4 true) 0 (0 + Int.toNat (i : Int)) = some (.agg [.int .i64 sa, .int .i64 sb, .int .i64 sc, .int .i64 sd])) (hc_3 : sa ≥ 0) (hc_4 : sb ≥ 0) (hc_5 : -9223372036854775808 ≤ (i : Int) + 1 ∧ (i : Int) + (1 : Int) ≤ 9223372036854775807) :
    Runs Try.prog 1 135 (loopAt Try.prog 13 1) [(5, .ptr (some ⟨8, 0, 0, 0, 2⟩)), (6, .slice (some ⟨12, 0, 0, 0, 4⟩) n n), (9, .int .i64 y), (10, .int .i64 x), (80, .slice (some ⟨12, 0, 0, 0, 4⟩) n n), (81, .int .i64 n), (82, .int .i64 i)] (AHeap.rows 14 [(0, b), (8, .made [.agg [.int .i64 C, sT]] 2 true), (12, .made l 4 true), (13, rT)]) .normal [(5, .ptr (some ⟨8, 0, 0, 0, 2⟩)), (6, .slice (some ⟨12, 0, 0, 0, 4⟩) n n), (9, .int .i64 y), (10, .int .i64 x), (80, .slice (some ⟨12, 0, 0, 0, 4⟩) n n), (81, .int .i64 (n : Int)), (82, .int .i64 ((i : Int) + 1))] (AHeap.rows 32 [(0, b), (8, (.made ([.agg [.int .i64 (C : Int), sT]]) 2 true)), (12, .made l 4 true), (13, rT), (18, (.made ([.agg [.int .i64 sa, .int .i64 sb, .int .i64 sc, .int .i64 sd]]) 4 true))]) :=
  ppath_runs env_ok mixed (hs := [.val 18000 (.bool true), .go 19001, .ld 19002 (.agg [.int .i64 sa, .int .i64 sb, .int .i64 sc, .int .i64 sd]), .val 22002 (.bool true), .val 22006 (.bool true), .go 29000]) (keep := [5, 6, 9, 10, 80, 81, 82]) (by kernel_rfl) (All.cons (okT hc_0) (All.cons hc_1 (All.cons hc_2 (All.cons (okT hc_3) (All.cons (okT hc_4) (All.cons hc_5 (All.nil)))))))

theorem fx_ac_new (n v q i C : Nat) (b rT rT2 : ABlk) (l : List AVal) (y x sa sb sc sd ra rb rc rd : Int) (hc_0 : (i : Int) < (n : Int)) (hc_1 : 0 ≤ (i : Int) ∧ (i : Int) < (n : Int) ∧ 4 = 4) (hc_2 : ABlk.elem? (.made l 4 true) 0 (0 + Int.toNat (i : Int)) = some (.agg [.int .i64 sa, .int .i64 sb, .int .i64 sc, .int .i64 sd])) (hc_3 : ¬ (sa ≥ 0)) (hc_4 : sb ≥ 0) (hc_5 : FDoes Try.prog 31 [.ptr (some ⟨8, 0, 0, 0, 2⟩), .agg [.int .i64 sa, .int .i64 sb, .int .i64 sc, .int .i64 sd]] (AHeap.rows 37 [(0, b), (8, (.made ([.agg [.int .i64 (C : Int), .slice none 0 0]]) 2 true)), (12, .made l 4 true), (17, (.made ([.agg [.int .i64 sa, .int .i64 sb, .int .i64 sc, .int .i64 sd]]) 4 true))]) (.agg [.int .i64 ra, .int .i64 rb, .int .i64 rc, .int .i64 rd]) (AHeap.rows 37 [(0, b), (8, (.made ([.agg [.int .i64 (C : Int), .slice none 0 0]]) 2 true)), (12, .made l 4 true), (17, (.made ([.agg [.int .i64 sa, .int .i64 sb, .int .i64 sc, .int .i64 sd]]) 4 true))])) (hc_6 : 0 ≤ (i : Int) ∧ (i : Int) < (n : Int) ∧ 4 = 4) (hc_7 : 0 = 0 ∧ l[0 + Int.toNat (i : Int)]? = some (.agg [.int .i64 sa, .int .i64 sb, .int .i64 sc, .int .i64 sd])) (hc_8 : abuiltin env Builtin.append { toList := [22, 22] } [.slice none 0 0, .slice (some ⟨48, 0, 0, 0, 4⟩) 1 1] 49 (AHeap.set (AHeap.rows 53 [(0, b), (8, (.made ([.agg [.int .i64 (C : Int), .slice none 0 0]]) 2 true)), (12, (.made (List.set l (0 + Int.toNat (i : Int)) (.agg [.int .i64 ra, .int .i64 rb, .int .i64 rc, .int .i64 rd])) 4 true)), (17, (.made ([.agg [.int .i64 ra, .int .i64 rb, .int .i64 rc, .int .i64 rd]]) 4 true))]) 48 (.made [.agg [.int .i64 ra, .int .i64 rb, .int .i64 rc, .int .i64 rd]] 4 true)) = some (.slice (some ⟨49, 0, 0, 0, 4⟩) 1 1, (AHeap.rows 53 [(0, b), (8, (.made ([.agg [.int .i64 (C : Int), .slice none 0 0]]) 2 true)), (12, (.made (List.set l (0 + Int.toNat (i : Int)) (.agg [.int .i64 ra, .int .i64 rb, .int .i64 rc, .int .i64 rd])) 4 true)), (17, (.made ([.agg [.int .i64 ra, .int .i64 rb, .int .i64 rc, .int .i64 rd]]) 4 true)), (48, .made [.agg [.int .i64 ra, .int .i64 rb, .int .i64 rc, .int .i64 rd]] 4 true), (49, rT2)]))) (hc_9 : -9223372036854775808 ≤ (i : Int) + 1 ∧ (i : Int) + (1 : Int) ≤ 9223372036854775807) :
    Runs Try.prog 1 135 (loopAt Try.prog 13 1) [(5, .ptr (some ⟨8, 0, 0, 0, 2⟩)), (6, .slice (some ⟨12, 0, 0, 0, 4⟩) n n), (9, .int .i64 y), (10, .int .i64 x), (80, .slice (some ⟨12, 0, 0, 0, 4⟩) n n), (81, .int .i64 n), (82, .int .i64 i)] (AHeap.rows 13 [(0, b), (8, .made [.agg [.int .i64 C, .slice none 0 0]] 2 true), (12, .made l 4 true)]) .normal [(5, .ptr (some ⟨8, 0, 0, 0, 2⟩)), (6, .slice (some ⟨12, 0, 0, 0, 4⟩) n n), (9, .int .i64 y), (10, .int .i64 x), (80, .slice (some ⟨12, 0, 0, 0, 4⟩) n n), (81, .int .i64 (n : Int)), (82, .int .i64 ((i : Int) + 1))] (AHeap.rows 55 [(0, b), (8, (.made ([.agg [.int .i64 (C : Int), .slice (some ⟨49, 0, 0, 0, 4⟩) 1 1]]) 2 true)), (12, (.made (List.set l (0 + Int.toNat (i : Int)) (.agg [.int .i64 ra, .int .i64 rb, .int .i64 rc, .int .i64 rd])) 4 true)), (17, (.made ([.agg [.int .i64 ra, .int .i64 rb, .int .i64 rc, .int .i64 rd]]) 4 true)), (48, .made [.agg [.int .i64 ra, .int .i64 rb, .int .i64 rc, .int .i64 rd]] 4 true), (49, rT2)]) :=
  ppath_runs env_ok mixed (hs := [.val 18000 (.bool true), .go 19001, .ld 19002 (.agg [.int .i64 sa, .int .i64 sb, .int .i64 sc, .int .i64 sd]), .val 22002 (.bool false), .val 23002 (.bool true), .val 24002 (.agg [.int .i64 ra, .int .i64 rb, .int .i64 rc, .int .i64 rd]), .go 27003, .st 27004 (.agg [.int .i64 sa, .int .i64 sb, .int .i64 sc, .int .i64 sd]), .act 28007 (.slice (some ⟨49, 0, 0, 0, 4⟩) 1 1) (fun h => h.set 49 rT2), .go 29000]) (keep := [5, 6, 9, 10, 80, 81, 82]) (by kernel_rfl) (All.cons (okT hc_0) (All.cons hc_1 (All.cons hc_2 (All.cons (okF hc_3) (All.cons (okT hc_4) (All.cons (CallT.mk hc_5) (All.cons hc_6 (All.cons hc_7 (All.cons hc_8 (All.cons hc_9 (All.nil)))))))))))

theorem fx_ac_grow (n v q i C : Nat) (b rT rT2 : ABlk) (l : List AVal) (y x sa sb sc sd ra rb rc rd : Int) (hc_0 : (i : Int) < (n : Int)) (hc_1 : 0 ≤ (i : Int) ∧ (i : Int) < (n : Int) ∧ 4 = 4) (hc_2 : ABlk.elem? (.made l 4 true) 0 (0 + Int.toNat (i : Int)) = some (.agg [.int .i64 sa, .int .i64 sb, .int .i64 sc, .int .i64 sd])) (hc_3 : ¬ (sa ≥ 0)) (hc_4 : sb ≥ 0) (hc_5 : FDoes Try.prog 31 [.ptr (some ⟨8, 0, 0, 0, 2⟩), .agg [.int .i64 sa, .int .i64 sb, .int .i64 sc, .int .i64 sd]] (AHeap.rows 38 [(0, b), (8, (.made ([.agg [.int .i64 (C : Int), .slice (some ⟨13, v, 0, 0, 4⟩) q q]]) 2 true)), (12, .made l 4 true), (13, rT), (18, (.made ([.agg [.int .i64 sa, .int .i64 sb, .int .i64 sc, .int .i64 sd]]) 4 true))]) (.agg [.int .i64 ra, .int .i64 rb, .int .i64 rc, .int .i64 rd]) (AHeap.rows 38 [(0, b), (8, (.made ([.agg [.int .i64 (C : Int), .slice (some ⟨13, v, 0, 0, 4⟩) q q]]) 2 true)), (12, .made l 4 true), (13, rT), (18, (.made ([.agg [.int .i64 sa, .int .i64 sb, .int .i64 sc, .int .i64 sd]]) 4 true))])) (hc_6 : 0 ≤ (i : Int) ∧ (i : Int) < (n : Int) ∧ 4 = 4) (hc_7 : 0 = 0 ∧ l[0 + Int.toNat (i : Int)]? = some (.agg [.int .i64 sa, .int .i64 sb, .int .i64 sc, .int .i64 sd])) (hc_8 : abuiltin env Builtin.append { toList := [22, 22] } [.slice (some ⟨13, v, 0, 0, 4⟩) q q, .slice (some ⟨49, 0, 0, 0, 4⟩) 1 1] 50 (AHeap.set (AHeap.rows 54 [(0, b), (8, (.made ([.agg [.int .i64 (C : Int), .slice (some ⟨13, v, 0, 0, 4⟩) q q]]) 2 true)), (12, (.made (List.set l (0 + Int.toNat (i : Int)) (.agg [.int .i64 ra, .int .i64 rb, .int .i64 rc, .int .i64 rd])) 4 true)), (13, rT), (18, (.made ([.agg [.int .i64 ra, .int .i64 rb, .int .i64 rc, .int .i64 rd]]) 4 true))]) 49 (.made [.agg [.int .i64 ra, .int .i64 rb, .int .i64 rc, .int .i64 rd]] 4 true)) = some (.slice (some ⟨13, v + 1, 0, 0, 4⟩) (q + 1) (q + 1), (AHeap.rows 54 [(0, b), (8, (.made ([.agg [.int .i64 (C : Int), .slice (some ⟨13, v, 0, 0, 4⟩) q q]]) 2 true)), (12, (.made (List.set l (0 + Int.toNat (i : Int)) (.agg [.int .i64 ra, .int .i64 rb, .int .i64 rc, .int .i64 rd])) 4 true)), (13, rT2), (18, (.made ([.agg [.int .i64 ra, .int .i64 rb, .int .i64 rc, .int .i64 rd]]) 4 true)), (49, .made [.agg [.int .i64 ra, .int .i64 rb, .int .i64 rc, .int .i64 rd]] 4 true)]))) (hc_9 : -9223372036854775808 ≤ (i : Int) + 1 ∧ (i : Int) + (1 : Int) ≤ 9223372036854775807) :
    Runs Try.prog 1 135 (loopAt Try.prog 13 1) [(5, .ptr (some ⟨8, 0, 0, 0, 2⟩)), (6, .slice (some ⟨12, 0, 0, 0, 4⟩) n n), (9, .int .i64 y), (10, .int .i64 x), (80, .slice (some ⟨12, 0, 0, 0, 4⟩) n n), (81, .int .i64 n), (82, .int .i64 i)] (AHeap.rows 14 [(0, b), (8, .made [.agg [.int .i64 C, .slice (some ⟨13, v, 0, 0, 4⟩) q q]] 2 true), (12, .made l 4 true), (13, rT)]) .normal [(5, .ptr (some ⟨8, 0, 0, 0, 2⟩)), (6, .slice (some ⟨12, 0, 0, 0, 4⟩) n n), (9, .int .i64 y), (10, .int .i64 x), (80, .slice (some ⟨12, 0, 0, 0, 4⟩) n n), (81, .int .i64 (n : Int)), (82, .int .i64 ((i : Int) + 1))] (AHeap.rows 56 [(0, b), (8, (.made ([.agg [.int .i64 (C : Int), .slice (some ⟨13, v + 1, 0, 0, 4⟩) (q + 1) (q + 1)]]) 2 true)), (12, (.made (List.set l (0 + Int.toNat (i : Int)) (.agg [.int .i64 ra, .int .i64 rb, .int .i64 rc, .int .i64 rd])) 4 true)), (13, rT2), (18, (.made ([.agg [.int .i64 ra, .int .i64 rb, .int .i64 rc, .int .i64 rd]]) 4 true)), (49, .made [.agg [.int .i64 ra, .int .i64 rb, .int .i64 rc, .int .i64 rd]] 4 true)]) :=
  ppath_runs env_ok mixed (hs := [.val 18000 (.bool true), .go 19001, .ld 19002 (.agg [.int .i64 sa, .int .i64 sb, .int .i64 sc, .int .i64 sd]), .val 22002 (.bool false), .val 23002 (.bool true), .val 24002 (.agg [.int .i64 ra, .int .i64 rb, .int .i64 rc, .int .i64 rd]), .go 27003, .st 27004 (.agg [.int .i64 sa, .int .i64 sb, .int .i64 sc, .int .i64 sd]), .act 28007 (.slice (some ⟨13, v + 1, 0, 0, 4⟩) (q + 1) (q + 1)) (fun h => h.set 13 rT2), .go 29000]) (keep := [5, 6, 9, 10, 80, 81, 82]) (by kernel_rfl) (All.cons (okT hc_0) (All.cons hc_1 (All.cons hc_2 (All.cons (okF hc_3) (All.cons (okT hc_4) (All.cons (CallT.mk hc_5) (All.cons hc_6 (All.cons hc_7 (All.cons hc_8 (All.cons hc_9 (All.nil)))))))))))

theorem fx_dn_new (n v q i C : Nat) (b rT rT2 : ABlk) (l : List AVal) (y x sa sb sc sd ra rb rc rd : Int) (hc_0 : (i : Int) < (n : Int)) (hc_1 : 0 ≤ (i : Int) ∧ (i : Int) < (n : Int) ∧ 4 = 4) (hc_2 : ABlk.elem? (.made l 4 true) 0 (0 + Int.toNat (i : Int)) = some (.agg [.int .i64 sa, .int .i64 sb, .int .i64 sc, .int .i64 sd])) (hc_3 : sa ≥ 0) (hc_4 : ¬ (sb ≥ 0)) (hc_5 : ¬ (sb ≥ 0)) (hc_6 : sa ≥ 0) (hc_7 : FDoes Try.prog 32 [.ptr (some ⟨8, 0, 0, 0, 2⟩), .agg [.int .i64 sa, .int .i64 sb, .int .i64 sc, .int .i64 sd]] (AHeap.rows 41 [(0, b), (8, (.made ([.agg [.int .i64 (C : Int), .slice none 0 0]]) 2 true)), (12, .made l 4 true), (17, (.made ([.agg [.int .i64 sa, .int .i64 sb, .int .i64 sc, .int .i64 sd]]) 4 true))]) (.agg [.int .i64 ra, .int .i64 rb, .int .i64 rc, .int .i64 rd]) (AHeap.rows 41 [(0, b), (8, (.made ([.agg [.int .i64 (C : Int), .slice none 0 0]]) 2 true)), (12, .made l 4 true), (17, (.made ([.agg [.int .i64 sa, .int .i64 sb, .int .i64 sc, .int .i64 sd]]) 4 true))])) (hc_8 : 0 ≤ (i : Int) ∧ (i : Int) < (n : Int) ∧ 4 = 4) (hc_9 : 0 = 0 ∧ l[0 + Int.toNat (i : Int)]? = some (.agg [.int .i64 sa, .int .i64 sb, .int .i64 sc, .int .i64 sd])) (hc_10 : abuiltin env Builtin.append { toList := [22, 22] } [.slice none 0 0, .slice (some ⟨52, 0, 0, 0, 4⟩) 1 1] 53 (AHeap.set (AHeap.rows 57 [(0, b), (8, (.made ([.agg [.int .i64 (C : Int), .slice none 0 0]]) 2 true)), (12, (.made (List.set l (0 + Int.toNat (i : Int)) (.agg [.int .i64 ra, .int .i64 rb, .int .i64 rc, .int .i64 rd])) 4 true)), (17, (.made ([.agg [.int .i64 ra, .int .i64 rb, .int .i64 rc, .int .i64 rd]]) 4 true))]) 52 (.made [.agg [.int .i64 ra, .int .i64 rb, .int .i64 rc, .int .i64 rd]] 4 true)) = some (.slice (some ⟨53, 0, 0, 0, 4⟩) 1 1, (AHeap.rows 57 [(0, b), (8, (.made ([.agg [.int .i64 (C : Int), .slice none 0 0]]) 2 true)), (12, (.made (List.set l (0 + Int.toNat (i : Int)) (.agg [.int .i64 ra, .int .i64 rb, .int .i64 rc, .int .i64 rd])) 4 true)), (17, (.made ([.agg [.int .i64 ra, .int .i64 rb, .int .i64 rc, .int .i64 rd]]) 4 true)), (52, .made [.agg [.int .i64 ra, .int .i64 rb, .int .i64 rc, .int .i64 rd]] 4 true), (53, rT2)]))) (hc_11 : -9223372036854775808 ≤ (i : Int) + 1 ∧ (i : Int) + (1 : Int) ≤ 9223372036854775807) :
    Runs Try.prog 1 135 (loopAt Try.prog 13 1) [(5, .ptr (some ⟨8, 0, 0, 0, 2⟩)), (6, .slice (some ⟨12, 0, 0, 0, 4⟩) n n), (9, .int .i64 y), (10, .int .i64 x), (80, .slice (some ⟨12, 0, 0, 0, 4⟩) n n), (81, .int .i64 n), (82, .int .i64 i)] (AHeap.rows 13 [(0, b), (8, .made [.agg [.int .i64 C, .slice none 0 0]] 2 true), (12, .made l 4 true)]) .normal [(5, .ptr (some ⟨8, 0, 0, 0, 2⟩)), (6, .slice (some ⟨12, 0, 0, 0, 4⟩) n n), (9, .int .i64 y), (10, .int .i64 x), (80, .slice (some ⟨12, 0, 0, 0, 4⟩) n n), (81, .int .i64 (n : Int)), (82, .int .i64 ((i : Int) + 1))] (AHeap.rows 59 [(0, b), (8, (.made ([.agg [.int .i64 (C : Int), .slice (some ⟨53, 0, 0, 0, 4⟩) 1 1]]) 2 true)), (12, (.made (List.set l (0 + Int.toNat (i : Int)) (.agg [.int .i64 ra, .int .i64 rb, .int .i64 rc, .int .i64 rd])) 4 true)), (17, (.made ([.agg [.int .i64 ra, .int .i64 rb, .int .i64 rc, .int .i64 rd]]) 4 true)), (52, .made [.agg [.int .i64 ra, .int .i64 rb, .int .i64 rc, .int .i64 rd]] 4 true), (53, rT2)]) :=
  ppath_runs env_ok mixed (hs := [.val 18000 (.bool true), .go 19001, .ld 19002 (.agg [.int .i64 sa, .int .i64 sb, .int .i64 sc, .int .i64 sd]), .val 22002 (.bool true), .val 22006 (.bool false), .val 23002 (.bool false), .val 25002 (.bool true), .val 26002 (.agg [.int .i64 ra, .int .i64 rb, .int .i64 rc, .int .i64 rd]), .go 27003, .st 27004 (.agg [.int .i64 sa, .int .i64 sb, .int .i64 sc, .int .i64 sd]), .act 28007 (.slice (some ⟨53, 0, 0, 0, 4⟩) 1 1) (fun h => h.set 53 rT2), .go 29000]) (keep := [5, 6, 9, 10, 80, 81, 82]) (by kernel_rfl) (All.cons (okT hc_0) (All.cons hc_1 (All.cons hc_2 (All.cons (okT hc_3) (All.cons (okF hc_4) (All.cons (okF hc_5) (All.cons (okT hc_6) (All.cons (CallT.mk hc_7) (All.cons hc_8 (All.cons hc_9 (All.cons hc_10 (All.cons hc_11 (All.nil)))))))))))))

theorem fx_dn_grow (n v q i C : Nat) (b rT rT2 : ABlk) (l : List AVal) (y x sa sb sc sd ra rb rc rd : Int) (hc_0 : (i : Int) < (n : Int)) (hc_1 : 0 ≤ (i : Int) ∧ (i : Int) < (n : Int) ∧ 4 = 4) (hc_2 : ABlk.elem? (.made l 4 true) 0 (0 + Int.toNat (i : Int)) = some (.agg [.int .i64 sa, .int .i64 sb, .int .i64 sc, .int .i64 sd])) (hc_3 : sa ≥ 0) (hc_4 : ¬ (sb ≥ 0)) (hc_5 : ¬ (sb ≥ 0)) (hc_6 : sa ≥ 0) (hc_7 : FDoes Try.prog 32 [.ptr (some ⟨8, 0, 0, 0, 2⟩), .agg [.int .i64 sa, .int .i64 sb, .int .i64 sc, .int .i64 sd]] (AHeap.rows 42 [(0, b), (8, (.made ([.agg [.int .i64 (C : Int), .slice (some ⟨13, v, 0, 0, 4⟩) q q]]) 2 true)), (12, .made l 4 true), (13, rT), (18, (.made ([.agg [.int .i64 sa, .int .i64 sb, .int .i64 sc, .int .i64 sd]]) 4 true))]) (.agg [.int .i64 ra, .int .i64 rb, .int .i64 rc, .int .i64 rd]) (AHeap.rows 42 [(0, b), (8, (.made ([.agg [.int .i64 (C : Int), .slice (some ⟨13, v, 0, 0, 4⟩) q q]]) 2 true)), (12, .made l 4 true), (13, rT), (18, (.made ([.agg [.int .i64 sa, .int .i64 sb, .int .i64 sc, .int .i64 sd]]) 4 true))])) (hc_8 : 0 ≤ (i : Int) ∧ (i : Int) < (n : Int) ∧ 4 = 4) (hc_9 : 0 = 0 ∧ l[0 + Int.toNat (i : Int)]? = some (.agg [.int .i64 sa, .int .i64 sb, .int .i64 sc, .int .i64 sd])) (hc_10 : abuiltin env Builtin.append { toList := [22, 22] } [.slice (some ⟨13, v, 0, 0, 4⟩) q q, .slice (some ⟨53, 0, 0, 0, 4⟩) 1 1] 54 (AHeap.set (AHeap.rows 58 [(0, b), (8, (.made ([.agg [.int .i64 (C : Int), .slice (some ⟨13, v, 0, 0, 4⟩) q q]]) 2 true)), (12, (.made (List.set l (0 + Int.toNat (i : Int)) (.agg [.int .i64 ra, .int .i64 rb, .int .i64 rc, .int .i64 rd])) 4 true)), (13, rT), (18, (.made ([.agg [.int .i64 ra, .int .i64 rb, .int .i64 rc, .int .i64 rd]]) 4 true))]) 53 (.made [.agg [.int .i64 ra, .int .i64 rb, .int .i64 rc, .int .i64 rd]] 4 true)) = some (.slice (some ⟨13, v + 1, 0, 0, 4⟩) (q + 1) (q + 1), (AHeap.rows 58 [(0, b), (8, (.made ([.agg [.int .i64 (C : Int), .slice (some ⟨13, v, 0, 0, 4⟩) q q]]) 2 true)), (12, (.made (List.set l (0 + Int.toNat (i : Int)) (.agg [.int .i64 ra, .int .i64 rb, .int .i64 rc, .int .i64 rd])) 4 true)), (13, rT2), (18, (.made ([.agg [.int .i64 ra, .int .i64 rb, .int .i64 rc, .int .i64 rd]]) 4 true)), (53, .made [.agg [.int .i64 ra, .int .i64 rb, .int .i64 rc, .int .i64 rd]] 4 true)]))) (hc_11 : -9223372036854775808 ≤ (i : Int) + 1 ∧ (i : Int) + (1 : Int) ≤ 9223372036854775807) :
    Runs Try.prog 1 135 (loopAt Try.prog 13 1) [(5, .ptr (some ⟨8, 0, 0, 0, 2⟩)), (6, .slice (some ⟨12, 0, 0, 0, 4⟩) n n), (9, .int .i64 y), (10, .int .i64 x), (80, .slice (some ⟨12, 0, 0, 0, 4⟩) n n), (81, .int .i64 n), (82, .int .i64 i)] (AHeap.rows 14 [(0, b), (8, .made [.agg [.int .i64 C, .slice (some ⟨13, v, 0, 0, 4⟩) q q]] 2 true), (12, .made l 4 true), (13, rT)]) .normal [(5, .ptr (some ⟨8, 0, 0, 0, 2⟩)), (6, .slice (some ⟨12, 0, 0, 0, 4⟩) n n), (9, .int .i64 y), (10, .int .i64 x), (80, .slice (some ⟨12, 0, 0, 0, 4⟩) n n), (81, .int .i64 (n : Int)), (82, .int .i64 ((i : Int) + 1))] (AHeap.rows 60 [(0, b), (8, (.made ([.agg [.int .i64 (C : Int), .slice (some ⟨13, v + 1, 0, 0, 4⟩) (q + 1) (q + 1)]]) 2 true)), (12, (.made (List.set l (0 + Int.toNat (i : Int)) (.agg [.int .i64 ra, .int .i64 rb, .int .i64 rc, .int .i64 rd])) 4 true)), (13, rT2), (18, (.made ([.agg [.int .i64 ra, .int .i64 rb, .int .i64 rc, .int .i64 rd]]) 4 true)), (53, .made [.agg [.int .i64 ra, .int .i64 rb, .int .i64 rc, .int .i64 rd]] 4 true)]) :=
  ppath_runs env_ok mixed (hs := [.val 18000 (.bool true), .go 19001, .ld 19002 (.agg [.int .i64 sa, .int .i64 sb, .int .i64 sc, .int .i64 sd]), .val 22002 (.bool true), .val 22006 (.bool false), .val 23002 (.bool false), .val 25002 (.bool true), .val 26002 (.agg [.int .i64 ra, .int .i64 rb, .int .i64 rc, .int .i64 rd]), .go 27003, .st 27004 (.agg [.int .i64 sa, .int .i64 sb, .int .i64 sc, .int .i64 sd]), .act 28007 (.slice (some ⟨13, v + 1, 0, 0, 4⟩) (q + 1) (q + 1)) (fun h => h.set 13 rT2), .go 29000]) (keep := [5, 6, 9, 10, 80, 81, 82]) (by kernel_rfl) (All.cons (okT hc_0) (All.cons hc_1 (All.cons hc_2 (All.cons (okT hc_3) (All.cons (okF hc_4) (All.cons (okF hc_5) (All.cons (okT hc_6) (All.cons (CallT.mk hc_7) (All.cons hc_8 (All.cons hc_9 (All.cons hc_10 (All.cons hc_11 (All.nil)))))))))))))

theorem fx_bh_new (n v q i C : Nat) (b rT rT2 : ABlk) (l : List AVal) (y x sa sb sc sd ra rb rc rd : Int) (hc_0 : (i : Int) < (n : Int)) (hc_1 : 0 ≤ (i : Int) ∧ (i : Int) < (n : Int) ∧ 4 = 4) (hc_2 : ABlk.elem? (.made l 4 true) 0 (0 + Int.toNat (i : Int)) = some (.agg [.int .i64 sa, .int .i64 sb, .int .i64 sc, .int .i64 sd])) (hc_3 : ¬ (sa ≥ 0)) (hc_4 : ¬ (sb ≥ 0)) (hc_5 : ¬ (sa ≥ 0)) (hc_6 : FDoes Try.prog 33 [.ptr (some ⟨8, 0, 0, 0, 2⟩), .agg [.int .i64 sa, .int .i64 sb, .int .i64 sc, .int .i64 sd], .int .i64 y, .int .i64 x] (AHeap.rows 43 [(0, b), (8, (.made ([.agg [.int .i64 (C : Int), .slice none 0 0]]) 2 true)), (12, .made l 4 true), (17, (.made ([.agg [.int .i64 sa, .int .i64 sb, .int .i64 sc, .int .i64 sd]]) 4 true))]) (.agg [.int .i64 ra, .int .i64 rb, .int .i64 rc, .int .i64 rd]) (AHeap.rows 43 [(0, b), (8, (.made ([.agg [.int .i64 (C : Int), .slice none 0 0]]) 2 true)), (12, .made l 4 true), (17, (.made ([.agg [.int .i64 sa, .int .i64 sb, .int .i64 sc, .int .i64 sd]]) 4 true))])) (hc_7 : 0 ≤ (i : Int) ∧ (i : Int) < (n : Int) ∧ 4 = 4) (hc_8 : 0 = 0 ∧ l[0 + Int.toNat (i : Int)]? = some (.agg [.int .i64 sa, .int .i64 sb, .int .i64 sc, .int .i64 sd])) (hc_9 : abuiltin env Builtin.append { toList := [22, 22] } [.slice none 0 0, .slice (some ⟨60, 0, 0, 0, 4⟩) 1 1] 61 (AHeap.set (AHeap.rows 65 [(0, b), (8, (.made ([.agg [.int .i64 (C : Int), .slice none 0 0]]) 2 true)), (12, (.made (List.set l (0 + Int.toNat (i : Int)) (.agg [.int .i64 ra, .int .i64 rb, .int .i64 rc, .int .i64 rd])) 4 true)), (17, (.made ([.agg [.int .i64 ra, .int .i64 rb, .int .i64 rc, .int .i64 rd]]) 4 true))]) 60 (.made [.agg [.int .i64 ra, .int .i64 rb, .int .i64 rc, .int .i64 rd]] 4 true)) = some (.slice (some ⟨61, 0, 0, 0, 4⟩) 1 1, (AHeap.rows 65 [(0, b), (8, (.made ([.agg [.int .i64 (C : Int), .slice none 0 0]]) 2 true)), (12, (.made (List.set l (0 + Int.toNat (i : Int)) (.agg [.int .i64 ra, .int .i64 rb, .int .i64 rc, .int .i64 rd])) 4 true)), (17, (.made ([.agg [.int .i64 ra, .int .i64 rb, .int .i64 rc, .int .i64 rd]]) 4 true)), (60, .made [.agg [.int .i64 ra, .int .i64 rb, .int .i64 rc, .int .i64 rd]] 4 true), (61, rT2)]))) (hc_10 : -9223372036854775808 ≤ (i : Int) + 1 ∧ (i : Int) + (1 : Int) ≤ 9223372036854775807) :
    Runs Try.prog 1 135 (loopAt Try.prog 13 1) [(5, .ptr (some ⟨8, 0, 0, 0, 2⟩)), (6, .slice (some ⟨12, 0, 0, 0, 4⟩) n n), (9, .int .i64 y), (10, .int .i64 x), (80, .slice (some ⟨12, 0, 0, 0, 4⟩) n n), (81, .int .i64 n), (82, .int .i64 i)] (AHeap.rows 13 [(0, b), (8, .made [.agg [.int .i64 C, .slice none 0 0]] 2 true), (12, .made l 4 true)]) .normal [(5, .ptr (some ⟨8, 0, 0, 0, 2⟩)), (6, .slice (some ⟨12, 0, 0, 0, 4⟩) n n), (9, .int .i64 rb), (10, .int .i64 ra), (80, .slice (some ⟨12, 0, 0, 0, 4⟩) n n), (81, .int .i64 (n : Int)), (82, .int .i64 ((i : Int) + 1))] (AHeap.rows 67 [(0, b), (8, (.made ([.agg [.int .i64 (C : Int), .slice (some ⟨61, 0, 0, 0, 4⟩) 1 1]]) 2 true)), (12, (.made (List.set l (0 + Int.toNat (i : Int)) (.agg [.int .i64 ra, .int .i64 rb, .int .i64 rc, .int .i64 rd])) 4 true)), (17, (.made ([.agg [.int .i64 ra, .int .i64 rb, .int .i64 rc, .int .i64 rd]]) 4 true)), (60, .made [.agg [.int .i64 ra, .int .i64 rb, .int .i64 rc, .int .i64 rd]] 4 true), (61, rT2)]) :=
  ppath_runs env_ok mixed (hs := [.val 18000 (.bool true), .go 19001, .ld 19002 (.agg [.int .i64 sa, .int .i64 sb, .int .i64 sc, .int .i64 sd]), .val 22002 (.bool false), .val 23002 (.bool false), .val 25002 (.bool false), .val 20004 (.agg [.int .i64 ra, .int .i64 rb, .int .i64 rc, .int .i64 rd]), .go 27003, .st 27004 (.agg [.int .i64 sa, .int .i64 sb, .int .i64 sc, .int .i64 sd]), .act 28007 (.slice (some ⟨61, 0, 0, 0, 4⟩) 1 1) (fun h => h.set 61 rT2), .go 29000]) (keep := [5, 6, 9, 10, 80, 81, 82]) (by kernel_rfl) (All.cons (okT hc_0) (All.cons hc_1 (All.cons hc_2 (All.cons (okF hc_3) (All.cons (okF hc_4) (All.cons (okF hc_5) (All.cons (CallT.mk hc_6) (All.cons hc_7 (All.cons hc_8 (All.cons hc_9 (All.cons hc_10 (All.nil))))))))))))

theorem fx_bh_grow (n v q i C : Nat) (b rT rT2 : ABlk) (l : List AVal) (y x sa sb sc sd ra rb rc rd : Int) (hc_0 : (i : Int) < (n : Int)) (hc_1 : 0 ≤ (i : Int) ∧ (i : Int) < (n : Int) ∧ 4 = 4) (hc_2 : ABlk.elem? (.made l 4 true) 0 (0 + Int.toNat (i : Int)) = some (.agg [.int .i64 sa, .int .i64 sb, .int .i64 sc, .int .i64 sd])) (hc_3 : ¬ (sa ≥ 0)) (hc_4 : ¬ (sb ≥ 0)) (hc_5 : ¬ (sa ≥ 0)) (hc_6 : FDoes Try.prog 33 [.ptr (some ⟨8, 0, 0, 0, 2⟩), .agg [.int .i64 sa, .int .i64 sb, .int .i64 sc, .int .i64 sd], .int .i64 y, .int .i64 x] (AHeap.rows 44 [(0, b), (8, (.made ([.agg [.int .i64 (C : Int), .slice (some ⟨13, v, 0, 0, 4⟩) q q]]) 2 true)), (12, .made l 4 true), (13, rT), (18, (.made ([.agg [.int .i64 sa, .int .i64 sb, .int .i64 sc, .int .i64 sd]]) 4 true))]) (.agg [.int .i64 ra, .int .i64 rb, .int .i64 rc, .int .i64 rd]) (AHeap.rows 44 [(0, b), (8, (.made ([.agg [.int .i64 (C : Int), .slice (some ⟨13, v, 0, 0, 4⟩) q q]]) 2 true)), (12, .made l 4 true), (13, rT), (18, (.made ([.agg [.int .i64 sa, .int .i64 sb, .int .i64 sc, .int .i64 sd]]) 4 true))])) (hc_7 : 0 ≤ (i : Int) ∧ (i : Int) < (n : Int) ∧ 4 = 4) (hc_8 : 0 = 0 ∧ l[0 + Int.toNat (i : Int)]? = some (.agg [.int .i64 sa, .int .i64 sb, .int .i64 sc, .int .i64 sd])) (hc_9 : abuiltin env Builtin.append { toList := [22, 22] } [.slice (some ⟨13, v, 0, 0, 4⟩) q q, .slice (some ⟨61, 0, 0, 0, 4⟩) 1 1] 62 (AHeap.set (AHeap.rows 66 [(0, b), (8, (.made ([.agg [.int .i64 (C : Int), .slice (some ⟨13, v, 0, 0, 4⟩) q q]]) 2 true)), (12, (.made (List.set l (0 + Int.toNat (i : Int)) (.agg [.int .i64 ra, .int .i64 rb, .int .i64 rc, .int .i64 rd])) 4 true)), (13, rT), (18, (.made ([.agg [.int .i64 ra, .int .i64 rb, .int .i64 rc, .int .i64 rd]]) 4 true))]) 61 (.made [.agg [.int .i64 ra, .int .i64 rb, .int .i64 rc, .int .i64 rd]] 4 true)) = some (.slice (some ⟨13, v + 1, 0, 0, 4⟩) (q + 1) (q + 1), (AHeap.rows 66 [(0, b), (8, (.made ([.agg [.int .i64 (C : Int), .slice (some ⟨13, v, 0, 0, 4⟩) q q]]) 2 true)), (12, (.made (List.set l (0 + Int.toNat (i : Int)) (.agg [.int .i64 ra, .int .i64 rb, .int .i64 rc, .int .i64 rd])) 4 true)), (13, rT2), (18, (.made ([.agg [.int .i64 ra, .int .i64 rb, .int .i64 rc, .int .i64 rd]]) 4 true)), (61, .made [.agg [.int .i64 ra, .int .i64 rb, .int .i64 rc, .int .i64 rd]] 4 true)]))) (hc_10 : -9223372036854775808 ≤ (i : Int) + 1 ∧ (i : Int) + (1 : Int) ≤ 9223372036854775807) :
    Runs Try.prog 1 135 (loopAt Try.prog 13 1) [(5, .ptr (some ⟨8, 0, 0, 0, 2⟩)), (6, .slice (some ⟨12, 0, 0, 0, 4⟩) n n), (9, .int .i64 y), (10, .int .i64 x), (80, .slice (some ⟨12, 0, 0, 0, 4⟩) n n), (81, .int .i64 n), (82, .int .i64 i)] (AHeap.rows 14 [(0, b), (8, .made [.agg [.int .i64 C, .slice (some ⟨13, v, 0, 0, 4⟩) q q]] 2 true), (12, .made l 4 true), (13, rT)]) .normal [(5, .ptr (some ⟨8, 0, 0, 0, 2⟩)), (6, .slice (some ⟨12, 0, 0, 0, 4⟩) n n), (9, .int .i64 rb), (10, .int .i64 ra), (80, .slice (some ⟨12, 0, 0, 0, 4⟩) n n), (81, .int .i64 (n : Int)), (82, .int .i64 ((i : Int) + 1))] (AHeap.rows 68 [(0, b), (8, (.made ([.agg [.int .i64 (C : Int), .slice (some ⟨13, v + 1, 0, 0, 4⟩) (q + 1) (q + 1)]]) 2 true)), (12, (.made (List.set l (0 + Int.toNat (i : Int)) (.agg [.int .i64 ra, .int .i64 rb, .int .i64 rc, .int .i64 rd])) 4 true)), (13, rT2), (18, (.made ([.agg [.int .i64 ra, .int .i64 rb, .int .i64 rc, .int .i64 rd]]) 4 true)), (61, .made [.agg [.int .i64 ra, .int .i64 rb, .int .i64 rc, .int .i64 rd]] 4 true)]) :=
  ppath_runs env_ok mixed (hs := [.val 18000 (.bool true), .go 19001, .ld 19002 (.agg [.int .i64 sa, .int .i64 sb, .int .i64 sc, .int .i64 sd]), .val 22002 (.bool false), .val 23002 (.bool false), .val 25002 (.bool false), .val 20004 (.agg [.int .i64 ra, .int .i64 rb, .int .i64 rc, .int .i64 rd]), .go 27003, .st 27004 (.agg [.int .i64 sa, .int .i64 sb, .int .i64 sc, .int .i64 sd]), .act 28007 (.slice (some ⟨13, v + 1, 0, 0, 4⟩) (q + 1) (q + 1)) (fun h => h.set 13 rT2), .go 29000]) (keep := [5, 6, 9, 10, 80, 81, 82]) (by kernel_rfl) (All.cons (okT hc_0) (All.cons hc_1 (All.cons hc_2 (All.cons (okF hc_3) (All.cons (okF hc_4) (All.cons (okF hc_5) (All.cons (CallT.mk hc_6) (All.cons hc_7 (All.cons hc_8 (All.cons hc_9 (All.cons hc_10 (All.nil))))))))))))

theorem fx_end (n v q i C : Nat) (b rT rT2 : ABlk) (l : List AVal) (y x sa sb sc sd ra rb rc rd : Int) (sT : AVal) (hc_0 : ¬ ((i : Int) < (n : Int))) :
    Runs Try.prog 1 135 (loopAt Try.prog 13 1) [(5, .ptr (some ⟨8, 0, 0, 0, 2⟩)), (6, .slice (some ⟨12, 0, 0, 0, 4⟩) n n), (9, .int .i64 y), (10, .int .i64 x), (80, .slice (some ⟨12, 0, 0, 0, 4⟩) n n), (81, .int .i64 n), (82, .int .i64 i)] (AHeap.rows 14 [(0, b), (8, .made [.agg [.int .i64 C, sT]] 2 true), (12, .made l 4 true), (13, rT)]) (.exit 2) [(6, .slice (some ⟨12, 0, 0, 0, 4⟩) n n)] (AHeap.rows 15 [(0, b), (8, (.made ([.agg [.int .i64 (C : Int), sT]]) 2 true)), (12, .made l 4 true), (13, rT)]) :=
  ppath_runs env_ok mixed (hs := [.val 18000 (.bool false)]) (keep := [6]) (by kernel_rfl) (All.cons (okF hc_0) (All.nil))

end Go.Proofs.Ytcgcpmcjaeenlaa
