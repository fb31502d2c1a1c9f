/-
  Parts of the proof, one behind the other:
  grid.spread where there is no fill: the walk.
  What grid.spread computes where there is no fill: plain law.
  solve.into and solve.bound.
  SUMS: what solve.sum answers, for every slice.
  solve.Sizes of items that are all fixed and fit: the walk.
  solve.Sizes of items that are all fixed and fit: what it answers.
  grid.spread where there is no fill: what it does.
  STABLE SORTING, plain: the steps of the library's merges on arrangements (functions from places to what stands there).
  SORTING, the walk: slices.swapRangeCmpFunc, rotateCmpFunc.
  SORTING, the walk: swapRange, rotate and insertion, each in every memory of this form.
  SORTING, the walk: insertion.
  SORTING, the walk: slices.symMergeCmpFunc.
  SORTING, the walk: symMerge, its searches and the cases of one thing.
-/
import Derived.Test.YtcgcpmcjaeenlaaKGridHoldsB

namespace Go.Proofs.Ytcgcpmcjaeenlaa
open Go.Lift
set_option maxRecDepth 1000000
set_option linter.unusedSimpArgs false
set_option linter.unusedVariables false
set_option linter.unusedSectionVars false

theorem br_F (x k n d mn mx : Int) (hc_0 : ¬ (mx > 0)) :
    FDoes Try.prog 41 [.int .i64 x, .agg [.int .i8 k, .int .i64 n, .int .i64 d, .int .i64 mn, .int .i64 mx]] (⟨0, .nil⟩) (.int .i64 (if mn > x then mn else x)) (AHeap.rows 12 [(0, .made [.agg [.int .i8 k, .int .i64 n, .int .i64 d, .int .i64 mn, .int .i64 mx]] 5 true)]) :=
  pcall_does env_ok mixed (hs := [.val 2002 (.bool false)]) (rs := []) (by kernel_rfl) (All.cons (okF hc_0) (All.nil))

theorem brought_does {x mn : Int} (h : mn ≤ x) (k n d : Int) (H : AHeap) : FDoes Try.prog 41 [.int .i64 x, .agg [.int .i8 k, .int .i64 n, .int .i64 d, .int .i64 mn, .int .i64 0]] H (.int .i64 x) H := by
  have ha : ∀ a ∈ [AVal.int .i64 x, AVal.agg [.int .i8 k, .int .i64 n, .int .i64 d, .int .i64 mn, .int .i64 0]], Bare a := by
    intro a h
    rcases List.mem_cons.1 h with h | h
    · rw [h]; exact Bare.int _ _
    · rw [List.mem_singleton.1 h]
      exact Bare.agg (by simp [Bare.int])
  have q := (br_F x k n d mn 0 (by omega)).bare ha (Bare.int _ _) H
  rwa [show (if mn > x then mn else x) = x by split <;> omega] at q

theorem sp_new (oi oh : Option AAddr) (m ci ch vi offi offh i q v : Nat) (bi ra rb : ABlk) (lh : List AVal) (lack gap size hv k n d mn mx : Int) (sl : AVal) (hc_0 : (i : Int) < (m : Int)) (hc_1 : aindexAddr env.D 30 (.slice oi m ci) (.int .i64 (i : Int)) = some (.ptr (some ⟨0, vi, offi + i, 0, 5⟩))) (hc_2 : ABlk.elem? bi vi (offi + i) = some (.agg [.int .i8 (0), .int .i64 n, .int .i64 d, .int .i64 mn, .int .i64 mx])) (hc_5 : abuiltin env Builtin.append { toList := [32, 32] } [.slice none 0 0, .slice (some ⟨29, 0, 0, 0, 1⟩) 1 1] 30 (AHeap.set (AHeap.rows 32 [(0, bi), (1, .made lh 1 true), (18, (.made ([.agg [.int .i8 (0), .int .i64 n, .int .i64 d, .int .i64 mn, .int .i64 mx]]) 5 true))]) 29 (.made [.int .i64 (i : Int)] 1 true)) = some (.slice (some ⟨30, 0, 0, 0, 1⟩) 1 1, (AHeap.rows 32 [(0, bi), (1, .made lh 1 true), (18, (.made ([.agg [.int .i8 (0), .int .i64 n, .int .i64 d, .int .i64 mn, .int .i64 mx]]) 5 true)), (29, .made [.int .i64 (i : Int)] 1 true), (30, ra)]))) (hc_6 : aindexAddr env.D 32 (.slice oh m ch) (.int .i64 (i : Int)) = some (.ptr (some ⟨1, 0, offh + i, 0, 1⟩))) (hc_7 : ABlk.elem? (.made lh 1 true) 0 (offh + i) = some (.int .i64 hv)) (hc_8 : FDoes Try.prog 41 [.int .i64 hv, .agg [.int .i8 (0), .int .i64 n, .int .i64 d, .int .i64 mn, .int .i64 mx]] (AHeap.rows 41 [(0, bi), (1, .made lh 1 true), (18, (.made ([.agg [.int .i8 (0), .int .i64 n, .int .i64 d, .int .i64 mn, .int .i64 mx]]) 5 true)), (29, .made [.int .i64 (i : Int)] 1 true), (30, ra)]) (.int .i64 hv) (AHeap.rows 41 [(0, bi), (1, .made lh 1 true), (18, (.made ([.agg [.int .i8 (0), .int .i64 n, .int .i64 d, .int .i64 mn, .int .i64 mx]]) 5 true)), (29, .made [.int .i64 (i : Int)] 1 true), (30, ra)])) (hc_9 : -9223372036854775808 ≤ lack - hv ∧ lack - hv ≤ 9223372036854775807) (hc_10 : -9223372036854775808 ≤ (i : Int) + 1 ∧ (i : Int) + (1 : Int) ≤ 9223372036854775807) :
    Runs Try.prog 2 83 (loopAt Try.prog 44 0) [(1, .slice oh m ch), (8, .int .i64 lack), (9, .slice none 0 0), (22, .slice oi m ci), (23, .int .i64 m), (24, .int .i64 i)] (AHeap.rows 14 [(0, bi), (1, .made lh 1 true)]) .normal [(1, .slice oh m ch), (8, .int .i64 (lack - hv)), (9, .slice (some ⟨30, 0, 0, 0, 1⟩) 1 1), (22, .slice oi m ci), (23, .int .i64 (m : Int)), (24, .int .i64 ((i : Int) + 1))] (AHeap.rows 43 [(0, bi), (1, .made lh 1 true), (18, (.made ([.agg [.int .i8 (0), .int .i64 n, .int .i64 d, .int .i64 mn, .int .i64 mx]]) 5 true)), (29, .made [.int .i64 (i : Int)] 1 true), (30, ra)]) :=
  ppath_runs env_ok mixed (hs := [.val 3000 (.bool true), .val 4001 (.ptr (some ⟨0, vi, offi + i, 0, 5⟩)), .ld 4002 (.agg [.int .i8 0, .int .i64 n, .int .i64 d, .int .i64 mn, .int .i64 mx]), .val 5002 (.bool false), .val 6002 (.bool true), .act 7003 (.slice (some ⟨30, 0, 0, 0, 1⟩) 1 1) (fun h => h.set 30 ra), .val 8003 (.ptr (some ⟨1, 0, offh + i, 0, 1⟩)), .ld 8004 (.int .i64 hv), .val 8006 (.int .i64 hv), .go 8007, .go 9000]) (keep := [1, 8, 9, 22, 23, 24]) (by kernel_rfl) (All.cons (okT hc_0) (All.cons hc_1 (All.cons hc_2 (All.cons (show some (AVal.bool false) = some (AVal.bool false) from congrArg (fun q => some (AVal.bool q)) (rfl)) (All.cons (show some (AVal.bool true) = some (AVal.bool true) from congrArg (fun q => some (AVal.bool q)) (rfl)) (All.cons hc_5 (All.cons hc_6 (All.cons hc_7 (All.cons (CallT.mk hc_8) (All.cons hc_9 (All.cons hc_10 (All.nil))))))))))))

theorem sp_grow (oi oh : Option AAddr) (m ci ch vi offi offh i q v : Nat) (bi ra rb : ABlk) (lh : List AVal) (lack gap size hv k n d mn mx : Int) (sl : AVal) (hc_0 : (i : Int) < (m : Int)) (hc_1 : aindexAddr env.D 30 (.slice oi m ci) (.int .i64 (i : Int)) = some (.ptr (some ⟨0, vi, offi + i, 0, 5⟩))) (hc_2 : ABlk.elem? bi vi (offi + i) = some (.agg [.int .i8 (0), .int .i64 n, .int .i64 d, .int .i64 mn, .int .i64 mx])) (hc_5 : abuiltin env Builtin.append { toList := [32, 32] } [.slice (some ⟨30, v, 0, 0, 1⟩) q q, .slice (some ⟨75, 0, 0, 0, 1⟩) 1 1] 76 (AHeap.set (AHeap.rows 78 [(0, bi), (1, .made lh 1 true), (30, ra), (64, (.made ([.agg [.int .i8 (0), .int .i64 n, .int .i64 d, .int .i64 mn, .int .i64 mx]]) 5 true))]) 75 (.made [.int .i64 (i : Int)] 1 true)) = some (.slice (some ⟨30, v + 1, 0, 0, 1⟩) (q + 1) (q + 1), (AHeap.rows 78 [(0, bi), (1, .made lh 1 true), (30, rb), (64, (.made ([.agg [.int .i8 (0), .int .i64 n, .int .i64 d, .int .i64 mn, .int .i64 mx]]) 5 true)), (75, .made [.int .i64 (i : Int)] 1 true)]))) (hc_6 : aindexAddr env.D 32 (.slice oh m ch) (.int .i64 (i : Int)) = some (.ptr (some ⟨1, 0, offh + i, 0, 1⟩))) (hc_7 : ABlk.elem? (.made lh 1 true) 0 (offh + i) = some (.int .i64 hv)) (hc_8 : FDoes Try.prog 41 [.int .i64 hv, .agg [.int .i8 (0), .int .i64 n, .int .i64 d, .int .i64 mn, .int .i64 mx]] (AHeap.rows 87 [(0, bi), (1, .made lh 1 true), (30, rb), (64, (.made ([.agg [.int .i8 (0), .int .i64 n, .int .i64 d, .int .i64 mn, .int .i64 mx]]) 5 true)), (75, .made [.int .i64 (i : Int)] 1 true)]) (.int .i64 hv) (AHeap.rows 87 [(0, bi), (1, .made lh 1 true), (30, rb), (64, (.made ([.agg [.int .i8 (0), .int .i64 n, .int .i64 d, .int .i64 mn, .int .i64 mx]]) 5 true)), (75, .made [.int .i64 (i : Int)] 1 true)])) (hc_9 : -9223372036854775808 ≤ lack - hv ∧ lack - hv ≤ 9223372036854775807) (hc_10 : -9223372036854775808 ≤ (i : Int) + 1 ∧ (i : Int) + (1 : Int) ≤ 9223372036854775807) :
    Runs Try.prog 2 83 (loopAt Try.prog 44 0) [(1, .slice oh m ch), (8, .int .i64 lack), (9, .slice (some ⟨30, v, 0, 0, 1⟩) q q), (22, .slice oi m ci), (23, .int .i64 m), (24, .int .i64 i)] (AHeap.rows 60 [(0, bi), (1, .made lh 1 true), (30, ra)]) .normal [(1, .slice oh m ch), (8, .int .i64 (lack - hv)), (9, .slice (some ⟨30, v + 1, 0, 0, 1⟩) (q + 1) (q + 1)), (22, .slice oi m ci), (23, .int .i64 (m : Int)), (24, .int .i64 ((i : Int) + 1))] (AHeap.rows 89 [(0, bi), (1, .made lh 1 true), (30, rb), (64, (.made ([.agg [.int .i8 (0), .int .i64 n, .int .i64 d, .int .i64 mn, .int .i64 mx]]) 5 true)), (75, .made [.int .i64 (i : Int)] 1 true)]) :=
  ppath_runs env_ok mixed (hs := [.val 3000 (.bool true), .val 4001 (.ptr (some ⟨0, vi, offi + i, 0, 5⟩)), .ld 4002 (.agg [.int .i8 0, .int .i64 n, .int .i64 d, .int .i64 mn, .int .i64 mx]), .val 5002 (.bool false), .val 6002 (.bool true), .act 7003 (.slice (some ⟨30, v + 1, 0, 0, 1⟩) (q + 1) (q + 1)) (fun h => h.set 30 rb), .val 8003 (.ptr (some ⟨1, 0, offh + i, 0, 1⟩)), .ld 8004 (.int .i64 hv), .val 8006 (.int .i64 hv), .go 8007, .go 9000]) (keep := [1, 8, 9, 22, 23, 24]) (by kernel_rfl) (All.cons (okT hc_0) (All.cons hc_1 (All.cons hc_2 (All.cons (show some (AVal.bool false) = some (AVal.bool false) from congrArg (fun q => some (AVal.bool q)) (rfl)) (All.cons (show some (AVal.bool true) = some (AVal.bool true) from congrArg (fun q => some (AVal.bool q)) (rfl)) (All.cons hc_5 (All.cons hc_6 (All.cons hc_7 (All.cons (CallT.mk hc_8) (All.cons hc_9 (All.cons hc_10 (All.nil))))))))))))

theorem sp_fixN (oi oh : Option AAddr) (m ci ch vi offi offh i q v : Nat) (bi ra rb : ABlk) (lh : List AVal) (lack gap size hv k n d mn mx : Int) (sl : AVal) (hc_0 : (i : Int) < (m : Int)) (hc_1 : aindexAddr env.D 30 (.slice oi m ci) (.int .i64 (i : Int)) = some (.ptr (some ⟨0, vi, offi + i, 0, 5⟩))) (hc_2 : ABlk.elem? bi vi (offi + i) = some (.agg [.int .i8 (1), .int .i64 n, .int .i64 d, .int .i64 mn, .int .i64 mx])) (hc_5 : aindexAddr env.D 32 (.slice oh m ch) (.int .i64 (i : Int)) = some (.ptr (some ⟨1, 0, offh + i, 0, 1⟩))) (hc_6 : ABlk.elem? (.made lh 1 true) 0 (offh + i) = some (.int .i64 hv)) (hc_7 : FDoes Try.prog 41 [.int .i64 hv, .agg [.int .i8 (1), .int .i64 n, .int .i64 d, .int .i64 mn, .int .i64 mx]] (AHeap.rows 36 [(0, bi), (1, .made lh 1 true), (18, (.made ([.agg [.int .i8 (1), .int .i64 n, .int .i64 d, .int .i64 mn, .int .i64 mx]]) 5 true))]) (.int .i64 hv) (AHeap.rows 36 [(0, bi), (1, .made lh 1 true), (18, (.made ([.agg [.int .i8 (1), .int .i64 n, .int .i64 d, .int .i64 mn, .int .i64 mx]]) 5 true))])) (hc_8 : -9223372036854775808 ≤ lack - hv ∧ lack - hv ≤ 9223372036854775807) (hc_9 : -9223372036854775808 ≤ (i : Int) + 1 ∧ (i : Int) + (1 : Int) ≤ 9223372036854775807) :
    Runs Try.prog 2 83 (loopAt Try.prog 44 0) [(1, .slice oh m ch), (8, .int .i64 lack), (9, .slice none 0 0), (22, .slice oi m ci), (23, .int .i64 m), (24, .int .i64 i)] (AHeap.rows 14 [(0, bi), (1, .made lh 1 true)]) .normal [(1, .slice oh m ch), (8, .int .i64 (lack - hv)), (9, .slice none 0 0), (22, .slice oi m ci), (23, .int .i64 (m : Int)), (24, .int .i64 ((i : Int) + 1))] (AHeap.rows 38 [(0, bi), (1, .made lh 1 true), (18, (.made ([.agg [.int .i8 (1), .int .i64 n, .int .i64 d, .int .i64 mn, .int .i64 mx]]) 5 true))]) :=
  ppath_runs env_ok mixed (hs := [.val 3000 (.bool true), .val 4001 (.ptr (some ⟨0, vi, offi + i, 0, 5⟩)), .ld 4002 (.agg [.int .i8 1, .int .i64 n, .int .i64 d, .int .i64 mn, .int .i64 mx]), .val 5002 (.bool false), .val 6002 (.bool false), .val 8003 (.ptr (some ⟨1, 0, offh + i, 0, 1⟩)), .ld 8004 (.int .i64 hv), .val 8006 (.int .i64 hv), .go 8007, .go 9000]) (keep := [1, 8, 9, 22, 23, 24]) (by kernel_rfl) (All.cons (okT hc_0) (All.cons hc_1 (All.cons hc_2 (All.cons (show some (AVal.bool false) = some (AVal.bool false) from congrArg (fun q => some (AVal.bool q)) (rfl)) (All.cons (show some (AVal.bool false) = some (AVal.bool false) from congrArg (fun q => some (AVal.bool q)) (rfl)) (All.cons hc_5 (All.cons hc_6 (All.cons (CallT.mk hc_7) (All.cons hc_8 (All.cons hc_9 (All.nil)))))))))))

theorem sp_fix (oi oh : Option AAddr) (m ci ch vi offi offh i q v : Nat) (bi ra rb : ABlk) (lh : List AVal) (lack gap size hv k n d mn mx : Int) (sl : AVal) (hc_0 : (i : Int) < (m : Int)) (hc_1 : aindexAddr env.D 30 (.slice oi m ci) (.int .i64 (i : Int)) = some (.ptr (some ⟨0, vi, offi + i, 0, 5⟩))) (hc_2 : ABlk.elem? bi vi (offi + i) = some (.agg [.int .i8 (1), .int .i64 n, .int .i64 d, .int .i64 mn, .int .i64 mx])) (hc_5 : aindexAddr env.D 32 (.slice oh m ch) (.int .i64 (i : Int)) = some (.ptr (some ⟨1, 0, offh + i, 0, 1⟩))) (hc_6 : ABlk.elem? (.made lh 1 true) 0 (offh + i) = some (.int .i64 hv)) (hc_7 : FDoes Try.prog 41 [.int .i64 hv, .agg [.int .i8 (1), .int .i64 n, .int .i64 d, .int .i64 mn, .int .i64 mx]] (AHeap.rows 82 [(0, bi), (1, .made lh 1 true), (30, ra), (64, (.made ([.agg [.int .i8 (1), .int .i64 n, .int .i64 d, .int .i64 mn, .int .i64 mx]]) 5 true))]) (.int .i64 hv) (AHeap.rows 82 [(0, bi), (1, .made lh 1 true), (30, ra), (64, (.made ([.agg [.int .i8 (1), .int .i64 n, .int .i64 d, .int .i64 mn, .int .i64 mx]]) 5 true))])) (hc_8 : -9223372036854775808 ≤ lack - hv ∧ lack - hv ≤ 9223372036854775807) (hc_9 : -9223372036854775808 ≤ (i : Int) + 1 ∧ (i : Int) + (1 : Int) ≤ 9223372036854775807) :
    Runs Try.prog 2 83 (loopAt Try.prog 44 0) [(1, .slice oh m ch), (8, .int .i64 lack), (9, .slice (some ⟨30, v, 0, 0, 1⟩) q q), (22, .slice oi m ci), (23, .int .i64 m), (24, .int .i64 i)] (AHeap.rows 60 [(0, bi), (1, .made lh 1 true), (30, ra)]) .normal [(1, .slice oh m ch), (8, .int .i64 (lack - hv)), (9, .slice (some ⟨30, v, 0, 0, 1⟩) q q), (22, .slice oi m ci), (23, .int .i64 (m : Int)), (24, .int .i64 ((i : Int) + 1))] (AHeap.rows 84 [(0, bi), (1, .made lh 1 true), (30, ra), (64, (.made ([.agg [.int .i8 (1), .int .i64 n, .int .i64 d, .int .i64 mn, .int .i64 mx]]) 5 true))]) :=
  ppath_runs env_ok mixed (hs := [.val 3000 (.bool true), .val 4001 (.ptr (some ⟨0, vi, offi + i, 0, 5⟩)), .ld 4002 (.agg [.int .i8 1, .int .i64 n, .int .i64 d, .int .i64 mn, .int .i64 mx]), .val 5002 (.bool false), .val 6002 (.bool false), .val 8003 (.ptr (some ⟨1, 0, offh + i, 0, 1⟩)), .ld 8004 (.int .i64 hv), .val 8006 (.int .i64 hv), .go 8007, .go 9000]) (keep := [1, 8, 9, 22, 23, 24]) (by kernel_rfl) (All.cons (okT hc_0) (All.cons hc_1 (All.cons hc_2 (All.cons (show some (AVal.bool false) = some (AVal.bool false) from congrArg (fun q => some (AVal.bool q)) (rfl)) (All.cons (show some (AVal.bool false) = some (AVal.bool false) from congrArg (fun q => some (AVal.bool q)) (rfl)) (All.cons hc_5 (All.cons hc_6 (All.cons (CallT.mk hc_7) (All.cons hc_8 (All.cons hc_9 (All.nil)))))))))))

theorem sp_endN (oi oh : Option AAddr) (m ci ch vi offi offh i q v : Nat) (bi ra rb : ABlk) (lh : List AVal) (lack gap size hv k n d mn mx : Int) (sl : AVal) (hc_0 : ¬ ((i : Int) < (m : Int))) :
    Runs Try.prog 2 83 (loopAt Try.prog 44 0) [(1, .slice oh m ch), (8, .int .i64 lack), (9, .slice none 0 0), (22, .slice oi m ci), (23, .int .i64 m), (24, .int .i64 i)] (AHeap.rows 14 [(0, bi), (1, .made lh 1 true)]) (.exit 0) [(1, .slice oh m ch), (8, .int .i64 lack), (9, .slice none 0 0)] (AHeap.rows 15 [(0, bi), (1, .made lh 1 true)]) :=
  ppath_runs env_ok mixed (hs := [.val 3000 (.bool false)]) (keep := [1, 8, 9]) (by kernel_rfl) (All.cons (okF hc_0) (All.nil))

theorem sp_end (oi oh : Option AAddr) (m ci ch vi offi offh i q v : Nat) (bi ra rb : ABlk) (lh : List AVal) (lack gap size hv k n d mn mx : Int) (sl : AVal) (hc_0 : ¬ ((i : Int) < (m : Int))) :
    Runs Try.prog 2 83 (loopAt Try.prog 44 0) [(1, .slice oh m ch), (8, .int .i64 lack), (9, .slice (some ⟨30, v, 0, 0, 1⟩) q q), (22, .slice oi m ci), (23, .int .i64 m), (24, .int .i64 i)] (AHeap.rows 60 [(0, bi), (1, .made lh 1 true), (30, ra)]) (.exit 0) [(1, .slice oh m ch), (8, .int .i64 lack), (9, .slice (some ⟨30, v, 0, 0, 1⟩) q q)] (AHeap.rows 61 [(0, bi), (1, .made lh 1 true), (30, ra)]) :=
  ppath_runs env_ok mixed (hs := [.val 3000 (.bool false)]) (keep := [1, 8, 9]) (by kernel_rfl) (All.cons (okF hc_0) (All.nil))

theorem sp_stop (oi oh oa : Option AAddr) (m ci ch vi offi offh va i q ca j : Nat) (bi ra rb : ABlk) (lh : List AVal) (lack gap size hv lack2 : Int) (sl : AVal) (hc_0 : (i : Int) < (q : Int)) (hc_1 : aindexAddr env.D 32 (.slice oa q ca) (.int .i64 (i : Int)) = some (.ptr (some ⟨30, va, 0 + i, 0, 1⟩))) (hc_2 : ABlk.elem? ra va (0 + i) = some (.int .i64 (j : Int))) (hc_3 : lack ≤ 0) :
    Runs Try.prog 2 83 (loopAt Try.prog 44 1) [(1, .slice oh m ch), (8, .int .i64 lack), (9, .slice oa q ca), (48, .slice oa q ca), (49, .int .i64 q), (50, .int .i64 i)] (AHeap.rows 70 [(0, bi), (1, .made lh 1 true), (30, ra)]) .ret [] (AHeap.rows 78 [(0, bi), (1, .made lh 1 true), (30, ra)]) :=
  ppath_runs env_ok mixed (hs := [.val 11000 (.bool true), .val 12001 (.ptr (some ⟨30, va, 0 + i, 0, 1⟩)), .ld 12002 (.int .i64 j), .val 13001 (.bool true)]) (keep := []) (by kernel_rfl) (All.cons (okT hc_0) (All.cons hc_1 (All.cons hc_2 (All.cons (okT hc_3) (All.nil)))))

theorem sp_up (oi oh oa : Option AAddr) (m ci ch vi offi offh va i q ca j : Nat) (bi ra rb : ABlk) (lh : List AVal) (lack gap size hv lack2 : Int) (sl : AVal) (hc_0 : (i : Int) < (q : Int)) (hc_1 : aindexAddr env.D 32 (.slice oa q ca) (.int .i64 (i : Int)) = some (.ptr (some ⟨30, va, 0 + i, 0, 1⟩))) (hc_2 : ABlk.elem? ra va (0 + i) = some (.int .i64 (j : Int))) (hc_3 : ¬ (lack ≤ 0)) (hc_4 : -9223372036854775808 ≤ (q : Int) - (i : Int) ∧ (q : Int) - (i : Int) ≤ 9223372036854775807) (hc_5 : (q : Int) - (i : Int) ≠ 0 ∧ -9223372036854775808 ≤ Int.tdiv lack ((q : Int) - (i : Int)) ∧ Int.tdiv lack ((q : Int) - (i : Int)) ≤ 9223372036854775807) (hc_6 : -9223372036854775808 ≤ (q : Int) - (i : Int) ∧ (q : Int) - (i : Int) ≤ 9223372036854775807) (hc_7 : (q : Int) - (i : Int) ≠ 0) (hc_8 : Int.tmod lack ((q : Int) - (i : Int)) > 0) (hc_9 : -9223372036854775808 ≤ Int.tdiv lack ((q : Int) - (i : Int)) + 1 ∧ Int.tdiv lack ((q : Int) - (i : Int)) + (1 : Int) ≤ 9223372036854775807) (hc_10 : aindexAddr env.D 32 (.slice oh m ch) (.int .i64 (j : Int)) = some (.ptr (some ⟨1, 0, offh + j, 0, 1⟩))) (hc_11 : ABlk.elem? (.made lh 1 true) 0 (offh + j) = some (.int .i64 hv)) (hc_12 : -9223372036854775808 ≤ hv + (Int.tdiv lack ((q : Int) - (i : Int)) + 1) ∧ hv + (Int.tdiv lack ((q : Int) - (i : Int)) + 1) ≤ 9223372036854775807) (hc_13 : aindexAddr env.D 32 (.slice oh m ch) (.int .i64 (j : Int)) = some (.ptr (some ⟨1, 0, offh + j, 0, 1⟩))) (hc_14 : 0 = 0 ∧ lh[offh + j]? = some (.int .i64 hv)) (hc_15 : -9223372036854775808 ≤ lack - (Int.tdiv lack ((q : Int) - (i : Int)) + 1) ∧ lack - (Int.tdiv lack ((q : Int) - (i : Int)) + 1) ≤ 9223372036854775807) (hc_16 : -9223372036854775808 ≤ (i : Int) + 1 ∧ (i : Int) + (1 : Int) ≤ 9223372036854775807) :
    Runs Try.prog 2 83 (loopAt Try.prog 44 1) [(1, .slice oh m ch), (8, .int .i64 lack), (9, .slice oa q ca), (48, .slice oa q ca), (49, .int .i64 q), (50, .int .i64 i)] (AHeap.rows 70 [(0, bi), (1, .made lh 1 true), (30, ra)]) .normal [(1, .slice oh m ch), (8, .int .i64 (lack - (Int.tdiv lack ((q : Int) - (i : Int)) + 1))), (9, .slice oa q ca), (48, .slice oa q ca), (49, .int .i64 (q : Int)), (50, .int .i64 ((i : Int) + 1))] (AHeap.rows 109 [(0, bi), (1, (.made (List.set lh (offh + j) (.int .i64 (hv + (Int.tdiv lack ((q : Int) - (i : Int)) + 1)))) 1 true)), (30, ra)]) :=
  ppath_runs env_ok mixed (hs := [.val 11000 (.bool true), .val 12001 (.ptr (some ⟨30, va, 0 + i, 0, 1⟩)), .ld 12002 (.int .i64 j), .val 13001 (.bool false), .go 14004, .go 14005, .go 15004, .go 15005, .val 15006 (.bool true), .go 16001, .val 17002 (.ptr (some ⟨1, 0, offh + j, 0, 1⟩)), .ld 17003 (.int .i64 hv), .go 17005, .val 17006 (.ptr (some ⟨1, 0, offh + j, 0, 1⟩)), .st 17007 (.int .i64 hv), .go 18002, .go 19000]) (keep := [1, 8, 9, 48, 49, 50]) (by kernel_rfl) (All.cons (okT hc_0) (All.cons hc_1 (All.cons hc_2 (All.cons (okF hc_3) (All.cons hc_4 (All.cons hc_5 (All.cons hc_6 (All.cons hc_7 (All.cons (okT hc_8) (All.cons hc_9 (All.cons hc_10 (All.cons hc_11 (All.cons hc_12 (All.cons hc_13 (All.cons hc_14 (All.cons hc_15 (All.cons hc_16 (All.nil))))))))))))))))))

theorem sp_even (oi oh oa : Option AAddr) (m ci ch vi offi offh va i q ca j : Nat) (bi ra rb : ABlk) (lh : List AVal) (lack gap size hv lack2 : Int) (sl : AVal) (hc_0 : (i : Int) < (q : Int)) (hc_1 : aindexAddr env.D 32 (.slice oa q ca) (.int .i64 (i : Int)) = some (.ptr (some ⟨30, va, 0 + i, 0, 1⟩))) (hc_2 : ABlk.elem? ra va (0 + i) = some (.int .i64 (j : Int))) (hc_3 : ¬ (lack ≤ 0)) (hc_4 : -9223372036854775808 ≤ (q : Int) - (i : Int) ∧ (q : Int) - (i : Int) ≤ 9223372036854775807) (hc_5 : (q : Int) - (i : Int) ≠ 0 ∧ -9223372036854775808 ≤ Int.tdiv lack ((q : Int) - (i : Int)) ∧ Int.tdiv lack ((q : Int) - (i : Int)) ≤ 9223372036854775807) (hc_6 : -9223372036854775808 ≤ (q : Int) - (i : Int) ∧ (q : Int) - (i : Int) ≤ 9223372036854775807) (hc_7 : (q : Int) - (i : Int) ≠ 0) (hc_8 : ¬ (Int.tmod lack ((q : Int) - (i : Int)) > 0)) (hc_9 : aindexAddr env.D 32 (.slice oh m ch) (.int .i64 (j : Int)) = some (.ptr (some ⟨1, 0, offh + j, 0, 1⟩))) (hc_10 : ABlk.elem? (.made lh 1 true) 0 (offh + j) = some (.int .i64 hv)) (hc_11 : -9223372036854775808 ≤ hv + Int.tdiv lack ((q : Int) - (i : Int)) ∧ hv + Int.tdiv lack ((q : Int) - (i : Int)) ≤ 9223372036854775807) (hc_12 : aindexAddr env.D 32 (.slice oh m ch) (.int .i64 (j : Int)) = some (.ptr (some ⟨1, 0, offh + j, 0, 1⟩))) (hc_13 : 0 = 0 ∧ lh[offh + j]? = some (.int .i64 hv)) (hc_14 : -9223372036854775808 ≤ lack - Int.tdiv lack ((q : Int) - (i : Int)) ∧ lack - Int.tdiv lack ((q : Int) - (i : Int)) ≤ 9223372036854775807) (hc_15 : -9223372036854775808 ≤ (i : Int) + 1 ∧ (i : Int) + (1 : Int) ≤ 9223372036854775807) :
    Runs Try.prog 2 83 (loopAt Try.prog 44 1) [(1, .slice oh m ch), (8, .int .i64 lack), (9, .slice oa q ca), (48, .slice oa q ca), (49, .int .i64 q), (50, .int .i64 i)] (AHeap.rows 70 [(0, bi), (1, .made lh 1 true), (30, ra)]) .normal [(1, .slice oh m ch), (8, .int .i64 (lack - Int.tdiv lack ((q : Int) - (i : Int)))), (9, .slice oa q ca), (48, .slice oa q ca), (49, .int .i64 (q : Int)), (50, .int .i64 ((i : Int) + 1))] (AHeap.rows 106 [(0, bi), (1, (.made (List.set lh (offh + j) (.int .i64 (hv + Int.tdiv lack ((q : Int) - (i : Int))))) 1 true)), (30, ra)]) :=
  ppath_runs env_ok mixed (hs := [.val 11000 (.bool true), .val 12001 (.ptr (some ⟨30, va, 0 + i, 0, 1⟩)), .ld 12002 (.int .i64 j), .val 13001 (.bool false), .go 14004, .go 14005, .go 15004, .go 15005, .val 15006 (.bool false), .val 17002 (.ptr (some ⟨1, 0, offh + j, 0, 1⟩)), .ld 17003 (.int .i64 hv), .go 17005, .val 17006 (.ptr (some ⟨1, 0, offh + j, 0, 1⟩)), .st 17007 (.int .i64 hv), .go 18002, .go 19000]) (keep := [1, 8, 9, 48, 49, 50]) (by kernel_rfl) (All.cons (okT hc_0) (All.cons hc_1 (All.cons hc_2 (All.cons (okF hc_3) (All.cons hc_4 (All.cons hc_5 (All.cons hc_6 (All.cons hc_7 (All.cons (okF hc_8) (All.cons hc_9 (All.cons hc_10 (All.cons hc_11 (All.cons hc_12 (All.cons hc_13 (All.cons hc_14 (All.cons hc_15 (All.nil)))))))))))))))))

theorem sp_e1 (oi oh oa : Option AAddr) (m ci ch vi offi offh va i q ca j : Nat) (bi ra rb : ABlk) (lh : List AVal) (lack gap size hv lack2 : Int) (sl : AVal) (hc_0 : ¬ ((i : Int) < (q : Int))) :
    Runs Try.prog 2 83 (loopAt Try.prog 44 1) [(1, .slice oh m ch), (8, .int .i64 lack), (9, .slice oa q ca), (48, .slice oa q ca), (49, .int .i64 q), (50, .int .i64 i)] (AHeap.rows 70 [(0, bi), (1, .made lh 1 true), (30, ra)]) (.exit 2) [] (AHeap.rows 71 [(0, bi), (1, .made lh 1 true), (30, ra)]) :=
  ppath_runs env_ok mixed (hs := [.val 11000 (.bool false)]) (keep := []) (by kernel_rfl) (All.cons (okF hc_0) (All.nil))

theorem sp_e1N (oi oh oa : Option AAddr) (m ci ch vi offi offh va i q ca j : Nat) (bi ra rb : ABlk) (lh : List AVal) (lack gap size hv lack2 : Int) (sl : AVal)  :
    Runs Try.prog 2 83 (loopAt Try.prog 44 1) [(1, .slice oh m ch), (8, .int .i64 lack), (9, .slice none 0 0), (48, .slice none 0 0), (49, .int .i64 0), (50, .int .i64 0)] (AHeap.rows 70 [(0, bi), (1, .made lh 1 true)]) (.exit 2) [] (AHeap.rows 71 [(0, bi), (1, .made lh 1 true)]) :=
  ppath_runs env_ok mixed (hs := []) (keep := []) (by kernel_rfl) (All.nil)

theorem sp_callN (oi oh oa : Option AAddr) (m ci ch q ca : Nat) (bi ra rb : ABlk) (lh lh2 : List AVal) (lack gap size : Int) (hc_0 : -9223372036854775808 ≤ (m : Int) - 1 ∧ (m : Int) - (1 : Int) ≤ 9223372036854775807) (hc_1 : -9223372036854775808 ≤ gap * ((m : Int) - 1) ∧ gap * ((m : Int) - 1) ≤ 9223372036854775807) (hc_2 : -9223372036854775808 ≤ size - gap * ((m : Int) - 1) ∧ size - gap * ((m : Int) - 1) ≤ 9223372036854775807) (hc_3 : Runs Try.prog 2 83 (.loop (loopAt Try.prog 44 0)) [(1, .slice oh m ch), (8, .int .i64 (size - gap * ((m : Int) - 1))), (9, .slice none 0 0), (22, .slice oi m ci), (23, .int .i64 (m : Int)), (24, .int .i64 0)] (AHeap.rows 14 [(0, bi), (1, .made lh 1 true)]) (.exit 0) [(1, .slice oh m ch), (8, .int .i64 lack), (9, .slice none 0 0)] (AHeap.rows 20 [(0, bi), (1, .made lh 1 true)])) (hc_4 : Runs Try.prog 2 83 (.loop (loopAt Try.prog 44 1)) [(1, .slice oh m ch), (8, .int .i64 lack), (9, .slice none 0 0), (48, .slice none 0 0), (49, .int .i64 0), (50, .int .i64 0)] (AHeap.rows 23 [(0, bi), (1, .made lh 1 true)]) (.exit 2) [] (AHeap.rows 74 [(0, bi), (1, .made lh 1 true)])) :
    FDoes Try.prog 44 [.slice oi m ci, .slice oh m ch, .int .i64 size, .int .i64 gap] (AHeap.of [bi, .made lh 1 true]) (.tuple []) (AHeap.rows 74 [(0, bi), (1, .made lh 1 true)]) :=
  pcall_does env_ok mixed (hs := [.go 4, .go 5, .go 6, .keep [1, 8, 9, 22, 23, 24], .loop [(1, .slice oh m ch), (8, .int .i64 lack), (9, .slice none 0 0)] (AHeap.rows 20 [(0, bi), (1, .made lh 1 true)]) (.exit 0), .keep [1, 8, 9, 48, 49, 50], .loop [] (AHeap.rows 74 [(0, bi), (1, .made lh 1 true)]) (.exit 2)]) (rs := []) (by kernel_rfl) (All.cons hc_0 (All.cons hc_1 (All.cons hc_2 (All.cons hc_3 (All.cons hc_4 (All.nil))))))

theorem sp_callE (oi oh oa : Option AAddr) (m ci ch q ca : Nat) (bi ra rb : ABlk) (lh lh2 : List AVal) (lack gap size : Int) (hc_0 : -9223372036854775808 ≤ (m : Int) - 1 ∧ (m : Int) - (1 : Int) ≤ 9223372036854775807) (hc_1 : -9223372036854775808 ≤ gap * ((m : Int) - 1) ∧ gap * ((m : Int) - 1) ≤ 9223372036854775807) (hc_2 : -9223372036854775808 ≤ size - gap * ((m : Int) - 1) ∧ size - gap * ((m : Int) - 1) ≤ 9223372036854775807) (hc_3 : Runs Try.prog 2 83 (.loop (loopAt Try.prog 44 0)) [(1, .slice oh m ch), (8, .int .i64 (size - gap * ((m : Int) - 1))), (9, .slice none 0 0), (22, .slice oi m ci), (23, .int .i64 (m : Int)), (24, .int .i64 0)] (AHeap.rows 14 [(0, bi), (1, .made lh 1 true)]) (.exit 0) [(1, .slice oh m ch), (8, .int .i64 lack), (9, .slice oa q ca)] (AHeap.rows 66 [(0, bi), (1, .made lh 1 true), (30, ra)])) (hc_4 : Runs Try.prog 2 83 (.loop (loopAt Try.prog 44 1)) [(1, .slice oh m ch), (8, .int .i64 lack), (9, .slice oa q ca), (48, .slice oa q ca), (49, .int .i64 (q : Int)), (50, .int .i64 0)] (AHeap.rows 69 [(0, bi), (1, .made lh 1 true), (30, ra)]) (.exit 2) [] (AHeap.rows 74 [(0, bi), (1, .made lh2 1 true), (30, ra)])) :
    FDoes Try.prog 44 [.slice oi m ci, .slice oh m ch, .int .i64 size, .int .i64 gap] (AHeap.of [bi, .made lh 1 true]) (.tuple []) (AHeap.rows 74 [(0, bi), (1, .made lh2 1 true), (30, ra)]) :=
  pcall_does env_ok mixed (hs := [.go 4, .go 5, .go 6, .keep [1, 8, 9, 22, 23, 24], .loop [(1, .slice oh m ch), (8, .int .i64 lack), (9, .slice oa q ca)] (AHeap.rows 66 [(0, bi), (1, .made lh 1 true), (30, ra)]) (.exit 0), .keep [1, 8, 9, 48, 49, 50], .loop [] (AHeap.rows 74 [(0, bi), (1, .made lh2 1 true), (30, ra)]) (.exit 2)]) (rs := []) (by kernel_rfl) (All.cons hc_0 (All.cons hc_1 (All.cons hc_2 (All.cons hc_3 (All.cons hc_4 (All.nil))))))

theorem sp_callR (oi oh oa : Option AAddr) (m ci ch q ca : Nat) (bi ra rb : ABlk) (lh lh2 : List AVal) (lack gap size : Int) (hc_0 : -9223372036854775808 ≤ (m : Int) - 1 ∧ (m : Int) - (1 : Int) ≤ 9223372036854775807) (hc_1 : -9223372036854775808 ≤ gap * ((m : Int) - 1) ∧ gap * ((m : Int) - 1) ≤ 9223372036854775807) (hc_2 : -9223372036854775808 ≤ size - gap * ((m : Int) - 1) ∧ size - gap * ((m : Int) - 1) ≤ 9223372036854775807) (hc_3 : Runs Try.prog 2 83 (.loop (loopAt Try.prog 44 0)) [(1, .slice oh m ch), (8, .int .i64 (size - gap * ((m : Int) - 1))), (9, .slice none 0 0), (22, .slice oi m ci), (23, .int .i64 (m : Int)), (24, .int .i64 0)] (AHeap.rows 14 [(0, bi), (1, .made lh 1 true)]) (.exit 0) [(1, .slice oh m ch), (8, .int .i64 lack), (9, .slice oa q ca)] (AHeap.rows 66 [(0, bi), (1, .made lh 1 true), (30, ra)])) (hc_4 : Runs Try.prog 2 83 (.loop (loopAt Try.prog 44 1)) [(1, .slice oh m ch), (8, .int .i64 lack), (9, .slice oa q ca), (48, .slice oa q ca), (49, .int .i64 (q : Int)), (50, .int .i64 0)] (AHeap.rows 69 [(0, bi), (1, .made lh 1 true), (30, ra)]) .ret [] (AHeap.rows 74 [(0, bi), (1, .made lh2 1 true), (30, ra)])) :
    FDoes Try.prog 44 [.slice oi m ci, .slice oh m ch, .int .i64 size, .int .i64 gap] (AHeap.of [bi, .made lh 1 true]) (.tuple []) (AHeap.rows 74 [(0, bi), (1, .made lh2 1 true), (30, ra)]) :=
  pcall_does env_ok mixed (hs := [.go 4, .go 5, .go 6, .keep [1, 8, 9, 22, 23, 24], .loop [(1, .slice oh m ch), (8, .int .i64 lack), (9, .slice oa q ca)] (AHeap.rows 66 [(0, bi), (1, .made lh 1 true), (30, ra)]) (.exit 0), .keep [1, 8, 9, 48, 49, 50], .loop [] (AHeap.rows 74 [(0, bi), (1, .made lh2 1 true), (30, ra)]) (.ret)]) (rs := []) (by kernel_rfl) (All.cons hc_0 (All.cons hc_1 (All.cons hc_2 (All.cons hc_3 (All.cons hc_4 (All.nil))))))

end Go.Proofs.Ytcgcpmcjaeenlaa

namespace Go.Proofs.Ytcgcpmcjaeenlaa
open Go.Lift
set_option linter.unusedSimpArgs false
set_option linter.unusedVariables false

/-- the places among the first ones of which p holds -/
def auL (p : Nat → Bool) (i : Nat) : List Nat := (List.range i).filter p
theorem auL_succ (p : Nat → Bool) (i : Nat) : auL p (i + 1) = auL p i ++ if p i then [i] else [] := by
  unfold auL
  rw [List.range_succ, List.filter_append]
  congr 1
  cases h : p i <;> simp [h]
theorem auL_get {p : Nat → Bool} {i m : Nat} (hp : p i = true) (h : i < m) : (auL p m)[(auL p i).length]? = some i := by
  induction m with
  | zero => omega
  | succ k ih =>
    rw [auL_succ]
    by_cases e : i = k
    · subst e; rw [if_pos hp, List.getElem?_append_right (Nat.le_refl _), Nat.sub_self]; rfl
    · have g := ih (by omega)
      have l := (List.getElem?_eq_some_iff.1 g).1
      rw [List.getElem?_append_left l]; exact g
theorem auL_mem {p : Nat → Bool} {i j : Nat} : j ∈ auL p i ↔ j < i ∧ p j = true := by simp [auL]

/-- one of d shares -/
def partZ (L d : Int) : Int := Int.tdiv L d + if Int.tmod L d > 0 then 1 else 0
theorem partZ_range {L d : Int} (hL : 0 < L) (hd : 1 ≤ d) : 0 ≤ partZ L d ∧ partZ L d ≤ L := by
  have e := Int.tmod_add_mul_tdiv L d
  have m0 : 0 ≤ Int.tmod L d := Int.tmod_nonneg d (by omega)
  have d0 : 0 ≤ Int.tdiv L d := Int.tdiv_nonneg (by omega) (by omega)
  have h1 : 1 * Int.tdiv L d ≤ d * Int.tdiv L d := Int.mul_le_mul_of_nonneg_right hd d0
  unfold partZ
  split
  · exact ⟨by omega, by omega⟩
  · exact ⟨by omega, by omega⟩
theorem partZ_one (L : Int) : partZ L 1 = L := by unfold partZ; rw [Int.tdiv_one, Int.tmod_one]; simp

/-- what is lacking, shared out -/
def giveZ (off : Nat) : List Nat → Int → (Nat → Int) → Nat → Int
  | [], _, h => h
  | j :: r, L, h => if L ≤ 0 then h else giveZ off r (L - partZ L (r.length + 1 : Nat)) fun k => if k = off + j then h k + partZ L (r.length + 1 : Nat) else h k

theorem giveZ_mono (off : Nat) : ∀ (l : List Nat) (L : Int) (h : Nat → Int) (k : Nat), h k ≤ giveZ off l L h k
  | [], _, h, k => Int.le_refl _
  | j :: r, L, h, k => by
    unfold giveZ
    split
    · exact Int.le_refl _
    · refine Int.le_trans ?_ (giveZ_mono off r _ _ k)
      have := partZ_range (L := L) (d := (r.length + 1 : Nat)) (by omega) (by omega)
      split <;> omega
theorem giveZ_out (off : Nat) : ∀ (l : List Nat) (L : Int) (h : Nat → Int) (k : Nat), (∀ j ∈ l, k ≠ off + j) → giveZ off l L h k = h k
  | [], _, h, k, _ => rfl
  | j :: r, L, h, k, hk => by
    unfold giveZ
    split
    · rfl
    · rw [giveZ_out off r _ _ k fun j hj => hk j (List.mem_cons_of_mem _ hj)]
      rw [if_neg (hk j (List.mem_cons_self ..))]

theorem sumTo_upd {f : Nat → Int} {off j : Nat} {p : Int} : ∀ {m : Nat}, sumTo (fun k => if off + k = off + j then f (off + k) + p else f (off + k)) m = sumTo (fun k => f (off + k)) m + if j < m then p else 0
  | 0 => by simp [sumTo]
  | m + 1 => by
    simp only [sumTo]
    rw [sumTo_upd (m := m)]
    by_cases e : m = j
    · subst e; rw [if_pos rfl, if_neg (by omega), if_pos (by omega)]; omega
    · rw [if_neg (show ¬ off + m = off + j by omega)]
      by_cases c : j < m
      · rw [if_pos c, if_pos (by omega)]; omega
      · rw [if_neg c, if_neg (by omega)]; omega
theorem giveZ_sum {off m : Nat} : ∀ (l : List Nat) (L : Int) (h : Nat → Int), (∀ j ∈ l, j < m) → sumTo (fun k => giveZ off l L h (off + k)) m = sumTo (fun k => h (off + k)) m + if l = [] then 0 else max 0 L
  | [], L, h, _ => by simp [giveZ]
  | j :: r, L, h, hl => by
    rw [if_neg (by simp)]
    unfold giveZ
    split
    · rw [show max 0 L = 0 by omega]; omega
    · rw [giveZ_sum r _ _ fun k hk => hl k (List.mem_cons_of_mem _ hk), sumTo_upd, if_pos (hl j (List.mem_cons_self ..))]
      have pr := partZ_range (L := L) (d := (r.length + 1 : Nat)) (by omega) (by omega)
      by_cases e : r = []
      · subst e
        rw [if_pos rfl]
        have : partZ L (([] : List Nat).length + 1 : Nat) = L := partZ_one L
        rw [this]; omega
      · rw [if_neg e]; omega

end Go.Proofs.Ytcgcpmcjaeenlaa

namespace Go.Proofs.Ytcgcpmcjaeenlaa
open Go.Lift
set_option maxRecDepth 1000000
set_option linter.unusedSimpArgs false
set_option linter.unusedVariables false

theorem into_T (x k n d mn mx : Int) (hc_0 : mx > 0) :
    FDoes Try.prog 63 [.int .i64 x, .agg [.int .i8 k, .int .i64 n, .int .i64 d, .int .i64 mn, .int .i64 mx]] (⟨0, .nil⟩) (.int .i64 (if mx < if mn > x then mn else x then mx else if mn > x then mn else x)) (AHeap.rows 17 [(0, .made [.agg [.int .i8 k, .int .i64 n, .int .i64 d, .int .i64 mn, .int .i64 mx]] 5 true)]) :=
  pcall_does env_ok mixed (hs := [.val 2002 (.bool true)]) (rs := []) (by kernel_rfl) (All.cons (okT hc_0) (All.nil))

theorem into_F (x k n d mn mx : Int) (hc_0 : ¬ (mx > 0)) :
    FDoes Try.prog 63 [.int .i64 x, .agg [.int .i8 k, .int .i64 n, .int .i64 d, .int .i64 mn, .int .i64 mx]] (⟨0, .nil⟩) (.int .i64 (if mn > x then mn else x)) (AHeap.rows 12 [(0, .made [.agg [.int .i8 k, .int .i64 n, .int .i64 d, .int .i64 mn, .int .i64 mx]] 5 true)]) :=
  pcall_does env_ok mixed (hs := [.val 2002 (.bool false)]) (rs := []) (by kernel_rfl) (All.cons (okF hc_0) (All.nil))

/-- an item's greatest size -/
def boundZ (mx : Int) : Int := if 0 < mx then mx else 8192
/-- brought into an item's least to greatest -/
def intoZ (mn mx x : Int) : Int := if 0 < mx then min (max x mn) mx else max x mn

theorem into_does (x k n d mn mx : Int) (H : AHeap) : FDoes Try.prog 63 [.int .i64 x, .agg [.int .i8 k, .int .i64 n, .int .i64 d, .int .i64 mn, .int .i64 mx]] H (.int .i64 (intoZ mn mx x)) H := by
  have ha : ∀ a ∈ [AVal.int .i64 x, AVal.agg [.int .i8 k, .int .i64 n, .int .i64 d, .int .i64 mn, .int .i64 mx]], Bare a := by
    intro a h
    rcases List.mem_cons.1 h with h | h
    · rw [h]; exact Bare.int _ _
    · rw [List.mem_singleton.1 h]
      exact Bare.agg (by simp [Bare.int])
  unfold intoZ
  by_cases c : 0 < mx
  · have h := (into_T x k n d mn mx c).bare ha (Bare.int _ _) H
    rw [if_pos c]
    rwa [show (if mx < if mn > x then mn else x then mx else if mn > x then mn else x) = min (max x mn) mx by split <;> split <;> omega] at h
  · have h := (into_F x k n d mn mx c).bare ha (Bare.int _ _) H
    rw [if_neg c]
    rwa [show (if mn > x then mn else x) = max x mn by split <;> omega] at h

end Go.Proofs.Ytcgcpmcjaeenlaa

namespace Go.Proofs.Ytcgcpmcjaeenlaa
open Go.Lift
set_option maxRecDepth 1000000
set_option linter.unusedSimpArgs false
set_option linter.unusedVariables false

theorem sum_step (o : Option AAddr) (n c ver off : Nat) (b : ABlk) (i : Nat) (x acc : Int) (hc_0 : (i : Int) < (n : Int)) (hc_1 : aindexAddr env.D 32 (.slice o n c) (.int .i64 (i : Int)) = some (.ptr (some ⟨0, ver, off + i, 0, 1⟩))) (hc_2 : ABlk.elem? b ver (off + i) = some (.int .i64 x)) (hc_3 : -9223372036854775808 ≤ acc + x ∧ acc + x ≤ 9223372036854775807) (hc_4 : -9223372036854775808 ≤ (i : Int) + 1 ∧ (i : Int) + (1 : Int) ≤ 9223372036854775807) :
    Runs Try.prog 1 17 (loopAt Try.prog 64 0) [(6, .slice o n c), (7, .int .i64 n), (8, .int .i64 i), (3, .int .i64 acc)] (AHeap.rows 6 [(0, b)]) .normal [(6, .slice o n c), (7, .int .i64 (n : Int)), (8, .int .i64 ((i : Int) + 1)), (3, .int .i64 (acc + x))] (AHeap.rows 16 [(0, b)]) :=
  ppath_runs env_ok mixed (hs := [.val 3000 (.bool true), .val 4000 (.ptr (some ⟨0, ver, off + i, 0, 1⟩)), .ld 4001 (.int .i64 x), .go 5002, .go 6000]) (keep := [6, 7, 8, 3]) (by kernel_rfl) (All.cons (okT hc_0) (All.cons hc_1 (All.cons hc_2 (All.cons hc_3 (All.cons hc_4 (All.nil))))))

theorem sum_end (o : Option AAddr) (n c : Nat) (b : ABlk) (i : Nat) (acc : Int) (hc_0 : ¬ ((i : Int) < (n : Int))) :
    Runs Try.prog 1 17 (loopAt Try.prog 64 0) [(6, .slice o n c), (7, .int .i64 n), (8, .int .i64 i), (3, .int .i64 acc)] (AHeap.rows 6 [(0, b)]) (.exit 0) [(3, .int .i64 acc)] (AHeap.rows 7 [(0, b)]) :=
  ppath_runs env_ok mixed (hs := [.val 3000 (.bool false)]) (keep := [3]) (by kernel_rfl) (All.cons (okF hc_0) (All.nil))

theorem sum_call (o : Option AAddr) (n c : Nat) (b : ABlk) (r : Int) (hc_0 : Runs Try.prog 1 17 (.loop (loopAt Try.prog 64 0)) [(6, .slice o n c), (7, .int .i64 (n : Int)), (8, .int .i64 0), (3, .int .i64 0)] (AHeap.rows 6 [(0, b)]) (.exit 0) [(3, .int .i64 r)] (AHeap.rows 7 [(0, b)])) :
    FDoes Try.prog 64 [.slice o n c] (AHeap.of [b]) (.int .i64 r) (AHeap.rows 9 [(0, b)]) :=
  pcall_does env_ok mixed (hs := [.keep [6, 7, 8, 3], .loop [(3, .int .i64 r)] (AHeap.rows 7 [(0, b)]) (.exit 0)]) (rs := []) (by kernel_rfl) (All.cons hc_0 (All.nil))

theorem sum_loop {o : Option AAddr} {n c ver off : Nat} {b : ABlk} (hs : SlArg o n c 0 ver off 1) (hb : BareB b) {x : Nat → Int} (hx : ∀ j, j < n → b.elem? ver (off + j) = some (.int .i64 (x j))) (hf : ∀ j, j ≤ n → Fit64 (sumTo x j)) (hn : n < 2 ^ 62) :
    ∀ (k i : Nat), i + k = n → Loops Try.prog 1 17 (loopAt Try.prog 64 0) [(6, .slice o n c), (7, .int .i64 n), (8, .int .i64 i), (3, .int .i64 (sumTo x i))] (AHeap.rows 6 [(0, b)]) (.exit 0) [(3, .int .i64 (sumTo x n))] (AHeap.rows 7 [(0, b)])
  | 0, i, e => by
    obtain rfl : i = n := by omega
    exact Loops.last (by simp) (sum_end o i c b i _ (by omega))
  | k + 1, i, e => by
    refine Loops.round (sum_step o n c ver off b i (x i) _ (by omega) (ix_intN hs (by omega)) (hx i (by omega)) (hf (i + 1) (by omega)) (by omega)) ?_ (sum_loop hs hb hx hf hn k (i + 1) (by omega))
    have hc : Clo (Ids [0]) (.slice o n c) := hs.clo (by simp [Ids])
    exact Ent.drop (by kernel_rfl) (by kernel_rfl) (by kernel_rfl) (by kernel_rfl) (by simp [All_cons, All_nil, Clo, hc]) (by simp [All_cons, All_nil, Ids]; exact hb.clo _)

theorem sum_small {o : Option AAddr} {n c ver off : Nat} {b : ABlk} (hs : SlArg o n c 0 ver off 1) (hb : BareB b) {x : Nat → Int} (hx : ∀ j, j < n → b.elem? ver (off + j) = some (.int .i64 (x j))) (hf : ∀ j, j ≤ n → Fit64 (sumTo x j)) (hn : n < 2 ^ 62) :
    FDoes Try.prog 64 [.slice o n c] (AHeap.of [b]) (.int .i64 (sumTo x n)) (AHeap.rows 9 [(0, b)]) :=
  sum_call o n c b _ (Runs.of_loops (sum_loop hs hb hx hf hn n 0 (by omega)))

theorem sum_does {o : Option AAddr} {n c id ver off : Nat} {b : ABlk} (hs : SlArg o n c id ver off 1) (hb : BareB b) {x : Nat → Int} (hx : ∀ j, j < n → b.elem? ver (off + j) = some (.int .i64 (x j))) (hf : ∀ j, j ≤ n → Fit64 (sumTo x j)) (hn : n < 2 ^ 62)
    {H : AHeap} (hid : H.get id = some b) (hlt : id < H.next) : FDoes Try.prog 64 [.slice o n c] H (.int .i64 (sumTo x n)) H := by
  have k := (sum_small (hs.at 0) hb hx hf hn).pure (by simp [hb]) (by kernel_rfl) (Bare.int _ _) (by simp [Clos, (hs.at 0).clo]) (H := H) [id] (by simp) (by simp [hlt]) (by simp [hid])
  simpa [hs.back (id' := 0) (r := toBig [id] H.next) rfl] using k

end Go.Proofs.Ytcgcpmcjaeenlaa

namespace Go.Proofs.Ytcgcpmcjaeenlaa
open Go.Lift
set_option maxRecDepth 1000000
set_option linter.unusedSimpArgs false
set_option linter.unusedVariables false
set_option linter.unusedSectionVars false

theorem szf_side (n : Int)  :
    FDoes Try.prog 62 [.int .i64 n] (⟨0, .nil⟩) (.int .i64 (if 4096 < if 0 > n then 0 else n then 4096 else if 0 > n then 0 else n)) (AHeap.rows 5 []) :=
  pcall_does env_ok mixed (hs := []) (rs := []) (by kernel_rfl) (All.nil)

theorem szf_step (o : Option AAddr) (n c ver off i : Nat) (b : ABlk) (li lm lw lo : List AVal) (room tn td tm tx w ok on od om ox pm pw po : Int) (hc_0 : (i : Int) < (n : Int)) (hc_1 : aindexAddr env.D 30 (.slice o n c) (.int .i64 (i : Int)) = some (.ptr (some ⟨0, ver, off + i, 0, 5⟩))) (hc_2 : ABlk.elem? b ver (off + i) = some (.agg [.int .i8 (1), .int .i64 tn, .int .i64 td, .int .i64 tm, .int .i64 tx])) (hc_3 : FDoes Try.prog 40 [.agg [.int .i8 (1), .int .i64 tn, .int .i64 td, .int .i64 tm, .int .i64 tx]] (AHeap.rows 50 [(0, b), (22, .made li 5 true), (25, .made lm 1 true), (27, .made lw 1 true), (29, .made lo 1 true), (44, (.made ([.agg [.int .i8 (1), .int .i64 tn, .int .i64 td, .int .i64 tm, .int .i64 tx]]) 5 true))]) (AVal.bool true) (AHeap.rows 50 [(0, b), (22, .made li 5 true), (25, .made lm 1 true), (27, .made lw 1 true), (29, .made lo 1 true), (44, (.made ([.agg [.int .i8 (1), .int .i64 tn, .int .i64 td, .int .i64 tm, .int .i64 tx]]) 5 true))])) (hc_4 : aindexAddr env.D 30 (.slice (some ⟨22, 0, 0, 0, 5⟩) n n) (.int .i64 (i : Int)) = some (.ptr (some ⟨22, 0, 0 + i, 0, 5⟩))) (hc_5 : 0 = 0 ∧ li[0 + i]? = some (.agg [.int .i8 ok, .int .i64 on, .int .i64 od, .int .i64 om, .int .i64 ox])) (hc_6 : aindexAddr env.D 32 (.slice (some ⟨25, 0, 0, 0, 1⟩) n n) (.int .i64 (i : Int)) = some (.ptr (some ⟨25, 0, 0 + i, 0, 1⟩))) (hc_7 : 0 = 0 ∧ lm[0 + i]? = some (.int .i64 pm)) (hc_10 : FDoes Try.prog 63 [.int .i64 tn, .agg [.int .i8 (1), .int .i64 tn, .int .i64 td, .int .i64 tm, .int .i64 tx]] (AHeap.rows 75 [(0, b), (22, (.made (List.set li (0 + i) (.agg [.int .i8 (1), .int .i64 tn, .int .i64 td, .int .i64 tm, .int .i64 tx])) 5 true)), (25, (.made (List.set lm (0 + i) (.int .i64 tm)) 1 true)), (27, .made lw 1 true), (29, .made lo 1 true), (44, (.made ([.agg [.int .i8 (1), .int .i64 tn, .int .i64 td, .int .i64 tm, .int .i64 tx]]) 5 true))]) (.int .i64 w) (AHeap.rows 75 [(0, b), (22, (.made (List.set li (0 + i) (.agg [.int .i8 (1), .int .i64 tn, .int .i64 td, .int .i64 tm, .int .i64 tx])) 5 true)), (25, (.made (List.set lm (0 + i) (.int .i64 tm)) 1 true)), (27, .made lw 1 true), (29, .made lo 1 true), (44, (.made ([.agg [.int .i8 (1), .int .i64 tn, .int .i64 td, .int .i64 tm, .int .i64 tx]]) 5 true))])) (hc_11 : aindexAddr env.D 32 (.slice (some ⟨27, 0, 0, 0, 1⟩) n n) (.int .i64 (i : Int)) = some (.ptr (some ⟨27, 0, 0 + i, 0, 1⟩))) (hc_12 : 0 = 0 ∧ lw[0 + i]? = some (.int .i64 pw)) (hc_13 : aindexAddr env.D 32 (.slice (some ⟨27, 0, 0, 0, 1⟩) n n) (.int .i64 (i : Int)) = some (.ptr (some ⟨27, 0, 0 + i, 0, 1⟩))) (hc_14 : ABlk.elem? (.made (List.set lw (0 + i) (.int .i64 w)) 1 true) 0 (0 + i) = some (.int .i64 w)) (hc_15 : aindexAddr env.D 32 (.slice (some ⟨25, 0, 0, 0, 1⟩) n n) (.int .i64 (i : Int)) = some (.ptr (some ⟨25, 0, 0 + i, 0, 1⟩))) (hc_16 : ABlk.elem? (.made (List.set lm (0 + i) (.int .i64 tm)) 1 true) 0 (0 + i) = some (.int .i64 tm)) (hc_17 : -9223372036854775808 ≤ w - tm ∧ w - tm ≤ 9223372036854775807) (hc_18 : aindexAddr env.D 32 (.slice (some ⟨29, 0, 0, 0, 1⟩) n n) (.int .i64 (i : Int)) = some (.ptr (some ⟨29, 0, 0 + i, 0, 1⟩))) (hc_19 : 0 = 0 ∧ lo[0 + i]? = some (.int .i64 po)) (hc_20 : -9223372036854775808 ≤ (i : Int) + 1 ∧ (i : Int) + (1 : Int) ≤ 9223372036854775807) :
    Runs Try.prog 1 142 (loopAt Try.prog 45 0) [(8, .int .i64 room), (9, .slice (some ⟨22, 0, 0, 0, 5⟩) n n), (10, .slice (some ⟨25, 0, 0, 0, 1⟩) n n), (11, .slice (some ⟨27, 0, 0, 0, 1⟩) n n), (12, .slice (some ⟨29, 0, 0, 0, 1⟩) n n), (43, .slice o n c), (44, .int .i64 n), (45, .int .i64 i)] (AHeap.rows 40 [(0, b), (22, .made li 5 true), (25, .made lm 1 true), (27, .made lw 1 true), (29, .made lo 1 true)]) .normal [(8, .int .i64 room), (9, .slice (some ⟨22, 0, 0, 0, 5⟩) n n), (10, .slice (some ⟨25, 0, 0, 0, 1⟩) n n), (11, .slice (some ⟨27, 0, 0, 0, 1⟩) n n), (12, .slice (some ⟨29, 0, 0, 0, 1⟩) n n), (43, .slice o n c), (44, .int .i64 (n : Int)), (45, .int .i64 ((i : Int) + 1))] (AHeap.rows 90 [(0, b), (22, (.made (List.set li (0 + i) (.agg [.int .i8 (1), .int .i64 tn, .int .i64 td, .int .i64 tm, .int .i64 tx])) 5 true)), (25, (.made (List.set lm (0 + i) (.int .i64 tm)) 1 true)), (27, (.made (List.set lw (0 + i) (.int .i64 w)) 1 true)), (29, (.made (List.set lo (0 + i) (.int .i64 (w - tm))) 1 true)), (44, (.made ([.agg [.int .i8 (1), .int .i64 tn, .int .i64 td, .int .i64 tm, .int .i64 tx]]) 5 true))]) :=
  ppath_runs env_ok mixed (hs := [.val 8000 (.bool true), .val 9001 (.ptr (some ⟨0, ver, off + i, 0, 5⟩)), .ld 9002 (.agg [.int .i8 1, .int .i64 tn, .int .i64 td, .int .i64 tm, .int .i64 tx]), .val 10001 (.bool true), .val 12003 (.ptr (some ⟨22, 0, 0 + i, 0, 5⟩)), .st 12004 (.agg [.int .i8 ok, .int .i64 on, .int .i64 od, .int .i64 om, .int .i64 ox]), .val 13004 (.ptr (some ⟨25, 0, 0 + i, 0, 1⟩)), .st 13005 (.int .i64 pm), .val 16000 (.bool false), .val 18000 (.bool false), .val 15005 (.int .i64 w), .val 15006 (.ptr (some ⟨27, 0, 0 + i, 0, 1⟩)), .st 15007 (.int .i64 pw), .val 20004 (.ptr (some ⟨27, 0, 0 + i, 0, 1⟩)), .ld 20005 (.int .i64 w), .val 20008 (.ptr (some ⟨25, 0, 0 + i, 0, 1⟩)), .ld 20009 (.int .i64 tm), .go 20010, .val 20011 (.ptr (some ⟨29, 0, 0 + i, 0, 1⟩)), .st 20012 (.int .i64 po), .go 21000]) (keep := [8, 9, 10, 11, 12, 43, 44, 45]) (by kernel_rfl) (All.cons (okT hc_0) (All.cons hc_1 (All.cons hc_2 (All.cons (CallT.mk hc_3) (All.cons hc_4 (All.cons hc_5 (All.cons hc_6 (All.cons hc_7 (All.cons (show some (AVal.bool false) = some (AVal.bool false) from congrArg (fun q => some (AVal.bool q)) (rfl)) (All.cons (show some (AVal.bool false) = some (AVal.bool false) from congrArg (fun q => some (AVal.bool q)) (rfl)) (All.cons (CallT.mk hc_10) (All.cons hc_11 (All.cons hc_12 (All.cons hc_13 (All.cons hc_14 (All.cons hc_15 (All.cons hc_16 (All.cons hc_17 (All.cons hc_18 (All.cons hc_19 (All.cons hc_20 (All.nil))))))))))))))))))))))

theorem szf_end (o : Option AAddr) (n c ver off i : Nat) (b : ABlk) (li lm lw lo : List AVal) (room tn td tm tx w ok on od om ox pm pw po : Int) (hc_0 : ¬ ((i : Int) < (n : Int))) :
    Runs Try.prog 1 142 (loopAt Try.prog 45 0) [(8, .int .i64 room), (9, .slice (some ⟨22, 0, 0, 0, 5⟩) n n), (10, .slice (some ⟨25, 0, 0, 0, 1⟩) n n), (11, .slice (some ⟨27, 0, 0, 0, 1⟩) n n), (12, .slice (some ⟨29, 0, 0, 0, 1⟩) n n), (43, .slice o n c), (44, .int .i64 n), (45, .int .i64 i)] (AHeap.rows 40 [(0, b), (22, .made li 5 true), (25, .made lm 1 true), (27, .made lw 1 true), (29, .made lo 1 true)]) (.exit 0) [(8, .int .i64 room), (9, .slice (some ⟨22, 0, 0, 0, 5⟩) n n), (10, .slice (some ⟨25, 0, 0, 0, 1⟩) n n), (11, .slice (some ⟨27, 0, 0, 0, 1⟩) n n), (12, .slice (some ⟨29, 0, 0, 0, 1⟩) n n)] (AHeap.rows 41 [(0, b), (22, .made li 5 true), (25, .made lm 1 true), (27, .made lw 1 true), (29, .made lo 1 true)]) :=
  ppath_runs env_ok mixed (hs := [.val 8000 (.bool false)]) (keep := [8, 9, 10, 11, 12]) (by kernel_rfl) (All.cons (okF hc_0) (All.nil))

theorem szf_nil (o : Option AAddr) (n c : Nat) (b : ABlk) (li lm lw lo : List AVal) (ext gap s1 s2 : Int)  :
    FDoes Try.prog 45 [.slice o 0 c, .int .i64 ext, .int .i64 gap] (AHeap.of [b]) (.slice none 0 0) (AHeap.rows 12 [(0, b)]) :=
  pcall_does env_ok mixed (hs := [.val 2001 (.bool true)]) (rs := []) (by kernel_rfl) (All.cons (show some (AVal.bool true) = some (AVal.bool true) from congrArg (fun q => some (AVal.bool q)) (rfl)) (All.nil))

theorem szf_call (o : Option AAddr) (n c : Nat) (b : ABlk) (li lm lw lo : List AVal) (ext gap s1 s2 : Int) (hc_0 : ¬ ((n : Int) = 0)) (hc_1 : ¬ ((n : Int) > 4096)) (hc_2 : FDoes Try.prog 62 [.int .i64 ext] (AHeap.rows 21 [(0, b)]) (.int .i64 (sideZ ext)) (AHeap.rows 21 [(0, b)])) (hc_3 : FDoes Try.prog 62 [.int .i64 gap] (AHeap.rows 21 [(0, b)]) (.int .i64 (sideZ gap)) (AHeap.rows 21 [(0, b)])) (hc_4 : -9223372036854775808 ≤ (n : Int) - 1 ∧ (n : Int) - (1 : Int) ≤ 9223372036854775807) (hc_5 : -9223372036854775808 ≤ sideZ gap * ((n : Int) - 1) ∧ sideZ gap * ((n : Int) - 1) ≤ 9223372036854775807) (hc_6 : -9223372036854775808 ≤ sideZ ext - sideZ gap * ((n : Int) - 1) ∧ sideZ ext - sideZ gap * ((n : Int) - 1) ≤ 9223372036854775807) (hc_8 : 0 ≤ (n : Int) ∧ (n : Int) ≤ (n : Int) ∧ (n : Int) < 4611686018427387904 ∧ (40 : Int) * (n : Int) ≤ 281474976710656) (hc_9 : 0 ≤ (n : Int) ∧ (n : Int) ≤ (n : Int) ∧ (n : Int) < 4611686018427387904 ∧ (8 : Int) * (n : Int) ≤ 281474976710656) (hc_10 : 0 ≤ (n : Int) ∧ (n : Int) ≤ (n : Int) ∧ (n : Int) < 4611686018427387904 ∧ (8 : Int) * (n : Int) ≤ 281474976710656) (hc_11 : 0 ≤ (n : Int) ∧ (n : Int) ≤ (n : Int) ∧ (n : Int) < 4611686018427387904 ∧ (8 : Int) * (n : Int) ≤ 281474976710656) (hc_12 : Runs Try.prog 1 142 (.loop (loopAt Try.prog 45 0)) [(8, .int .i64 (if sideZ ext - sideZ gap * ((n : Int) - 1) > 0 then sideZ ext - sideZ gap * ((n : Int) - 1) else 0)), (9, .slice (some ⟨22, 0, 0, 0, 5⟩) n n), (10, .slice (some ⟨25, 0, 0, 0, 1⟩) n n), (11, .slice (some ⟨27, 0, 0, 0, 1⟩) n n), (12, .slice (some ⟨29, 0, 0, 0, 1⟩) n n), (43, .slice o n c), (44, .int .i64 (n : Int)), (45, .int .i64 0)] (AHeap.rows 36 [(0, b), (22, .made (List.replicate n (.agg [.int .i8 (0), .int .i64 0, .int .i64 0, .int .i64 0, .int .i64 0])) 5 true), (25, .made (List.replicate n (.int .i64 0)) 1 true), (27, .made (List.replicate n (.int .i64 0)) 1 true), (29, .made (List.replicate n (.int .i64 0)) 1 true)]) (.exit 0) [(8, .int .i64 (if sideZ ext - sideZ gap * ((n : Int) - 1) > 0 then sideZ ext - sideZ gap * ((n : Int) - 1) else 0)), (9, .slice (some ⟨22, 0, 0, 0, 5⟩) n n), (10, .slice (some ⟨25, 0, 0, 0, 1⟩) n n), (11, .slice (some ⟨27, 0, 0, 0, 1⟩) n n), (12, .slice (some ⟨29, 0, 0, 0, 1⟩) n n)] (AHeap.rows 44 [(0, b), (22, .made li 5 true), (25, .made lm 1 true), (27, .made lw 1 true), (29, .made lo 1 true)])) (hc_13 : FDoes Try.prog 64 [.slice (some ⟨25, 0, 0, 0, 1⟩) n n] (AHeap.rows 48 [(0, b), (22, .made li 5 true), (25, .made lm 1 true), (27, .made lw 1 true), (29, .made lo 1 true)]) (.int .i64 s1) (AHeap.rows 48 [(0, b), (22, .made li 5 true), (25, .made lm 1 true), (27, .made lw 1 true), (29, .made lo 1 true)])) (hc_14 : ¬ (s1 > if sideZ ext - sideZ gap * ((n : Int) - 1) > 0 then sideZ ext - sideZ gap * ((n : Int) - 1) else 0)) (hc_15 : FDoes Try.prog 64 [.slice (some ⟨27, 0, 0, 0, 1⟩) n n] (AHeap.rows 53 [(0, b), (22, .made li 5 true), (25, .made lm 1 true), (27, .made lw 1 true), (29, .made lo 1 true)]) (.int .i64 s2) (AHeap.rows 53 [(0, b), (22, .made li 5 true), (25, .made lm 1 true), (27, .made lw 1 true), (29, .made lo 1 true)])) (hc_16 : (-9223372036854775808 ≤ s2 - if sideZ ext - sideZ gap * ((n : Int) - 1) > 0 then sideZ ext - sideZ gap * ((n : Int) - 1) else 0) ∧ (s2 - if sideZ ext - sideZ gap * ((n : Int) - 1) > 0 then sideZ ext - sideZ gap * ((n : Int) - 1) else 0) ≤ 9223372036854775807) (hc_17 : ¬ ((s2 - if sideZ ext - sideZ gap * ((n : Int) - 1) > 0 then sideZ ext - sideZ gap * ((n : Int) - 1) else 0) > 0)) (hc_18 : FDoes Try.prog 66 [.slice (some ⟨22, 0, 0, 0, 5⟩) n n, .slice (some ⟨27, 0, 0, 0, 1⟩) n n, .int .i64 (if sideZ ext - sideZ gap * ((n : Int) - 1) > 0 then sideZ ext - sideZ gap * ((n : Int) - 1) else 0)] (AHeap.rows 59 [(0, b), (22, .made li 5 true), (25, .made lm 1 true), (27, .made lw 1 true), (29, .made lo 1 true)]) (.tuple []) (AHeap.rows 59 [(0, b), (22, .made li 5 true), (25, .made lm 1 true), (27, .made lw 1 true), (29, .made lo 1 true)])) :
    FDoes Try.prog 45 [.slice o n c, .int .i64 ext, .int .i64 gap] (AHeap.of [b]) (.slice (some ⟨27, 0, 0, 0, 1⟩) n n) (AHeap.rows 61 [(0, b), (22, .made li 5 true), (25, .made lm 1 true), (27, .made lw 1 true), (29, .made lo 1 true)]) :=
  pcall_does env_ok mixed (hs := [.val 2001 (.bool false), .val 2004 (.bool false), .val 4001 (.int .i64 (sideZ ext)), .val 4003 (.int .i64 (sideZ gap)), .go 4005, .go 4006, .go 4007, .go 5001, .go 6001, .go 6003, .go 6005, .keep [8, 9, 10, 11, 12, 43, 44, 45], .loop [(8, .int .i64 (if sideZ ext - sideZ gap * ((n : Int) - 1) > 0 then sideZ ext - sideZ gap * ((n : Int) - 1) else 0)), (9, .slice (some ⟨22, 0, 0, 0, 5⟩) n n), (10, .slice (some ⟨25, 0, 0, 0, 1⟩) n n), (11, .slice (some ⟨27, 0, 0, 0, 1⟩) n n), (12, .slice (some ⟨29, 0, 0, 0, 1⟩) n n)] (AHeap.rows 44 [(0, b), (22, .made li 5 true), (25, .made lm 1 true), (27, .made lw 1 true), (29, .made lo 1 true)]) (.exit 0), .val 22001 (.int .i64 s1), .val 22003 (.bool false), .val 24001 (.int .i64 s2), .go 24003, .val 25001 (.bool false), .act 32003 (.tuple []) (fun h => h)]) (rs := []) (by kernel_rfl) (All.cons (eqF hc_0) (All.cons (okF hc_1) (All.cons (CallT.mk hc_2) (All.cons (CallT.mk hc_3) (All.cons hc_4 (All.cons hc_5 (All.cons hc_6 (All.cons (show Agree [.int .i64 ext] [.int .i64 gap] (AHeap.rows 21 [(0, b)]) (AHeap.rows 21 [(0, b)]) (.int .i64 (sideZ ext)) (.int .i64 (sideZ gap)) (AHeap.rows 21 [(0, b)]) (AHeap.rows 21 [(0, b)]) from ⟨by intro hh hk; first | (simp at hh; done) | exact nxAbs hk (by decide) | (simp at hh; simp [hh]) | exact ⟨rfl, rfl⟩⟩) (All.cons hc_8 (All.cons hc_9 (All.cons hc_10 (All.cons hc_11 (All.cons hc_12 (All.cons (CallT.mk hc_13) (All.cons (okF hc_14) (All.cons (CallT.mk hc_15) (All.cons hc_16 (All.cons (okF hc_17) (All.cons (CallT.mk hc_18) (All.nil))))))))))))))))))))

theorem szf_fs (n i : Nat) (li lw : List AVal) (room rest tn td tm tx x : Int) (hc_0 : (i : Int) < (n : Int)) (hc_1 : aindexAddr env.D 30 (.slice (some ⟨0, 0, 0, 0, 5⟩) n n) (.int .i64 (i : Int)) = some (.ptr (some ⟨0, 0, 0 + i, 0, 5⟩))) (hc_2 : ABlk.elem? (.made li 5 true) 0 (0 + i) = some (.agg [.int .i8 (1), .int .i64 tn, .int .i64 td, .int .i64 tm, .int .i64 tx])) (hc_4 : aindexAddr env.D 32 (.slice (some ⟨1, 0, 0, 0, 1⟩) n n) (.int .i64 (i : Int)) = some (.ptr (some ⟨1, 0, 0 + i, 0, 1⟩))) (hc_5 : ABlk.elem? (.made lw 1 true) 0 (0 + i) = some (.int .i64 x)) (hc_6 : -9223372036854775808 ≤ rest - x ∧ rest - x ≤ 9223372036854775807) (hc_7 : -9223372036854775808 ≤ (i : Int) + 1 ∧ (i : Int) + (1 : Int) ≤ 9223372036854775807) :
    Runs Try.prog 2 279 (loopAt Try.prog 66 0) [(0, .slice (some ⟨0, 0, 0, 0, 5⟩) n n), (1, .slice (some ⟨1, 0, 0, 0, 1⟩) n n), (6, .int .i64 rest), (7, .int .i64 0), (8, .int .i64 0), (9, .slice none 0 0), (10, .bool true), (33, .slice (some ⟨0, 0, 0, 0, 5⟩) n n), (34, .int .i64 n), (35, .int .i64 i)] (AHeap.rows 14 [(0, .made li 5 true), (1, .made lw 1 true)]) .normal [(0, .slice (some ⟨0, 0, 0, 0, 5⟩) n n), (1, .slice (some ⟨1, 0, 0, 0, 1⟩) n n), (6, .int .i64 (rest - x)), (7, .int .i64 0), (8, .int .i64 0), (9, .slice none 0 0), (10, AVal.bool true), (33, .slice (some ⟨0, 0, 0, 0, 5⟩) n n), (34, .int .i64 (n : Int)), (35, .int .i64 ((i : Int) + 1))] (AHeap.rows 33 [(0, .made li 5 true), (1, .made lw 1 true), (18, (.made ([.agg [.int .i8 (1), .int .i64 tn, .int .i64 td, .int .i64 tm, .int .i64 tx]]) 5 true))]) :=
  ppath_runs env_ok mixed (hs := [.val 4000 (.bool true), .val 5001 (.ptr (some ⟨0, 0, 0 + i, 0, 5⟩)), .ld 5002 (.agg [.int .i8 1, .int .i64 tn, .int .i64 td, .int .i64 tm, .int .i64 tx]), .val 6002 (.bool true), .val 7003 (.ptr (some ⟨1, 0, 0 + i, 0, 1⟩)), .ld 7004 (.int .i64 x), .go 7005, .go 12000]) (keep := [0, 1, 6, 7, 8, 9, 10, 33, 34, 35]) (by kernel_rfl) (All.cons (okT hc_0) (All.cons hc_1 (All.cons hc_2 (All.cons (show some (AVal.bool true) = some (AVal.bool true) from congrArg (fun q => some (AVal.bool q)) (rfl)) (All.cons hc_4 (All.cons hc_5 (All.cons hc_6 (All.cons hc_7 (All.nil)))))))))

theorem szf_fe (n i : Nat) (li lw : List AVal) (room rest tn td tm tx x : Int) (hc_0 : ¬ ((i : Int) < (n : Int))) :
    Runs Try.prog 2 279 (loopAt Try.prog 66 0) [(0, .slice (some ⟨0, 0, 0, 0, 5⟩) n n), (1, .slice (some ⟨1, 0, 0, 0, 1⟩) n n), (6, .int .i64 rest), (7, .int .i64 0), (8, .int .i64 0), (9, .slice none 0 0), (10, .bool true), (33, .slice (some ⟨0, 0, 0, 0, 5⟩) n n), (34, .int .i64 n), (35, .int .i64 i)] (AHeap.rows 14 [(0, .made li 5 true), (1, .made lw 1 true)]) (.exit 0) [(0, .slice (some ⟨0, 0, 0, 0, 5⟩) n n), (1, .slice (some ⟨1, 0, 0, 0, 1⟩) n n), (6, .int .i64 rest), (7, .int .i64 0), (8, .int .i64 0), (9, .slice none 0 0), (10, AVal.bool true)] (AHeap.rows 15 [(0, .made li 5 true), (1, .made lw 1 true)]) :=
  ppath_runs env_ok mixed (hs := [.val 4000 (.bool false)]) (keep := [0, 1, 6, 7, 8, 9, 10]) (by kernel_rfl) (All.cons (okF hc_0) (All.nil))

theorem szf_fl (n i : Nat) (li lw : List AVal) (room rest tn td tm tx x : Int)  :
    Runs Try.prog 2 279 (loopAt Try.prog 66 1) [(0, .slice (some ⟨0, 0, 0, 0, 5⟩) n n), (1, .slice (some ⟨1, 0, 0, 0, 1⟩) n n), (74, .slice none 0 0), (75, .int .i64 0), (76, .int .i64 0)] (AHeap.rows 30 [(0, .made li 5 true), (1, .made lw 1 true)]) (.exit 2) [] (AHeap.rows 31 [(0, .made li 5 true), (1, .made lw 1 true)]) :=
  ppath_runs env_ok mixed (hs := []) (keep := []) (by kernel_rfl) (All.nil)

theorem szf_fc (n i : Nat) (li lw : List AVal) (room rest tn td tm tx x : Int) (hc_0 : Runs Try.prog 2 279 (.loop (loopAt Try.prog 66 0)) [(0, .slice (some ⟨0, 0, 0, 0, 5⟩) n n), (1, .slice (some ⟨1, 0, 0, 0, 1⟩) n n), (6, .int .i64 room), (7, .int .i64 0), (8, .int .i64 0), (9, .slice none 0 0), (10, AVal.bool true), (33, .slice (some ⟨0, 0, 0, 0, 5⟩) n n), (34, .int .i64 (n : Int)), (35, .int .i64 0)] (AHeap.rows 11 [(0, .made li 5 true), (1, .made lw 1 true)]) (.exit 0) [(0, .slice (some ⟨0, 0, 0, 0, 5⟩) n n), (1, .slice (some ⟨1, 0, 0, 0, 1⟩) n n), (6, .int .i64 rest), (7, .int .i64 0), (8, .int .i64 0), (9, .slice none 0 0), (10, AVal.bool true)] (AHeap.rows 18 [(0, .made li 5 true), (1, .made lw 1 true)])) (hc_1 : 0 ≤ rest) (hc_2 : Runs Try.prog 2 279 (.loop (loopAt Try.prog 66 1)) [(0, .slice (some ⟨0, 0, 0, 0, 5⟩) n n), (1, .slice (some ⟨1, 0, 0, 0, 1⟩) n n), (74, .slice none 0 0), (75, .int .i64 0), (76, .int .i64 0)] (AHeap.rows 27 [(0, .made li 5 true), (1, .made lw 1 true)]) (.exit 2) [] (AHeap.rows 34 [(0, .made li 5 true), (1, .made lw 1 true)])) :
    FDoes Try.prog 66 [.slice (some ⟨0, 0, 0, 0, 5⟩) n n, .slice (some ⟨1, 0, 0, 0, 1⟩) n n, .int .i64 room] (AHeap.of [.made li 5 true, .made lw 1 true]) (.tuple []) (AHeap.rows 34 [(0, .made li 5 true), (1, .made lw 1 true)]) :=
  pcall_does env_ok mixed (hs := [.keep [0, 1, 6, 7, 8, 9, 10, 33, 34, 35], .loop [(0, .slice (some ⟨0, 0, 0, 0, 5⟩) n n), (1, .slice (some ⟨1, 0, 0, 0, 1⟩) n n), (6, .int .i64 rest), (7, .int .i64 0), (8, .int .i64 0), (9, .slice none 0 0), (10, .bool true)] (AHeap.rows 18 [(0, .made li 5 true), (1, .made lw 1 true)]) (.exit 0), .val 13004 (.bool true), .keep [0, 1, 74, 75, 76], .loop [] (AHeap.rows 34 [(0, .made li 5 true), (1, .made lw 1 true)]) (.exit 2)]) (rs := []) (by kernel_rfl) (All.cons hc_0 (All.cons (okT hc_1) (All.cons hc_2 (All.nil))))

end Go.Proofs.Ytcgcpmcjaeenlaa

namespace Go.Proofs.Ytcgcpmcjaeenlaa
open Go.Lift
set_option maxRecDepth 1000000
set_option linter.unusedSimpArgs false
set_option linter.unusedVariables false
set_option linter.unusedSectionVars false

/-- a fixed item -/
def fixI (x mn : Int) : It := ⟨1, x, 0, mn, 0⟩
def It00 : It := ⟨0, 0, 0, 0, 0⟩
def frows (n : Nat) (f : Nat → It) : List AVal := (List.range n).map fun j => (f j).val
theorem frows_get {n : Nat} {f : Nat → It} {j : Nat} (h : j < n) : (frows n f)[j]? = some (f j).val := by simp [frows, h]
@[simp] theorem frows_length (n : Nat) (f : Nat → It) : (frows n f).length = n := by simp [frows]
theorem frows_congr {n : Nat} {f g : Nat → It} (h : ∀ j, j < n → f j = g j) : frows n f = frows n g := List.map_congr_left fun j hj => by rw [h j (List.mem_range.1 hj)]
theorem frows_mem {n : Nat} {f : Nat → It} {e : AVal} (he : e ∈ frows n f) : Bare e := by
  obtain ⟨j, _, rfl⟩ := List.mem_map.1 he
  exact It.bare _
theorem frows_bare (n : Nat) (f : Nat → It) (ex : Bool) : BareB (.made (frows n f) 5 ex) := fun e he => frows_mem he
theorem frows_step {n : Nat} {y z : Nat → It} {i : Nat} : (frows n (fun j => if j < i then y j else z j)).set i (y i).val = frows n (fun j => if j < i + 1 then y j else z j) := by
  apply List.ext_getElem (by simp)
  intro j h1 h2
  rw [List.getElem_set]
  simp only [frows, List.getElem_map, List.getElem_range]
  by_cases e : i = j
  · subst e; simp
  · rw [if_neg e]
    by_cases c : j < i
    · rw [if_pos c, if_pos (by omega)]
    · rw [if_neg c, if_neg (by omega)]
theorem frows_zero (n : Nat) (y : Nat → It) : List.replicate n It00.val = frows n fun j => if j < 0 then y j else It00 := by
  apply List.ext_getElem (by simp)
  intro j h1 h2
  simp [frows]
theorem ints_stepZ {n : Nat} {y z : Nat → Int} {i : Nat} : (ints n (fun j => if j < i then y j else z j)).set i (.int .i64 (y i)) = ints n (fun j => if j < i + 1 then y j else z j) := by
  rw [ints_set]
  refine ints_congr fun j hj => ?_
  by_cases e : j = i
  · subst e; rw [if_pos rfl, if_pos (by omega)]
  · rw [if_neg e]
    by_cases c : j < i
    · rw [if_pos c, if_pos (by omega)]
    · rw [if_neg c, if_neg (by omega)]
theorem ints_zeroZ (n : Nat) (y : Nat → Int) : List.replicate n (AVal.int .i64 0) = ints n fun j => if j < 0 then y j else 0 := by
  apply List.ext_getElem (by simp [ints])
  intro j h1 h2
  simp [ints]

theorem slIt9 : SlTy env.D 30 36 5 40 := by
  have h1 : (env.D 36).isSome = true := by kernel_rfl
  have h2 : (env.D 36).map (fun x => (x.size, x.bytes, x.zeroFits)) = some (5, 40, true) := by kernel_rfl
  obtain ⟨xd, hx⟩ := Option.isSome_iff_exists.1 h1
  rw [hx] at h2
  simp only [Option.map_some, Option.some.injEq, Prod.mk.injEq] at h2
  exact ⟨⟨⟨.slice 36, 1, 24, some (.slice none 0 0)⟩, xd, by kernel_rfl, rfl, hx, h2.1, h2.2.1, by omega, h2.2.2⟩⟩
theorem ix_itS {o : Option AAddr} {n c id ver off : Nat} (h : SlArg o n c id ver off 5) {k : IntKind} {i : Nat} (hi : i < n) :
    aindexAddr env.D 30 (.slice o n c) (.int k i) = some (.ptr (some ⟨id, ver, off + i, 0, 5⟩)) := by
  obtain ⟨d, xd, t1, t2, t3, t4, t5, t6, t7⟩ := slIt9.ty
  have := h.index (D := env.D) (t := 30) (e := 36) (d := d) (xd := xd) t1 t2 t3 t4.symm (k := k) (i := (i : Int)) (by omega) (by omega)
  simpa using this

theorem szfside_does (n : Int) (H : AHeap) : FDoes Try.prog 62 [.int .i64 n] H (.int .i64 (sideZ n)) H := by
  have h := (szf_side n).bare (by simp [Bare, AVal.ren, Clo]) (Bare.int _ _) H
  have e : (if 4096 < if 0 > n then 0 else n then 4096 else if 0 > n then 0 else n) = sideZ n := by unfold sideZ; omega
  rwa [e] at h

/-- a fixed item may be -/
theorem right_fix {x mn : Int} (hx : 0 ≤ x ∧ x ≤ 4096) (hm : 0 ≤ mn ∧ mn ≤ 4096) (H : AHeap) : FDoes Try.prog 40 [(fixI x mn).val] H (.bool true) H :=
  (right_does_24 1 x 0 mn 0 (by omega) (by omega) rfl (by omega) rfl (by omega) (by omega) rfl).bare (by simp [It.bare]; exact It.bare (fixI x mn)) (Bare.bool _) H

section
variable {n : Nat} (hn : n ≤ 4096) {x mn : Nat → Int} (hx : ∀ j, j < n → (0 ≤ x j ∧ x j ≤ 4096) ∧ 0 ≤ mn j ∧ mn j ≤ x j)
include hn hx

noncomputable def szH (K n : Nat) (b : ABlk) (x mn : Nat → Int) (i : Nat) : AHeap := AHeap.rows K [(0, b), (22, .made (frows n fun j => if j < i then fixI (x j) (mn j) else It00) 5 true), (25, .made (ints n fun j => if j < i then mn j else 0) 1 true), (27, .made (ints n fun j => if j < i then x j else 0) 1 true), (29, .made (ints n fun j => if j < i then x j - mn j else 0) 1 true)]

theorem szf_loop {o : Option AAddr} {c ver off : Nat} (hs : SlArg o n c 0 ver off 5) {b : ABlk} (hb : BareB b) (hel : ∀ j, j < n → b.elem? ver (off + j) = some (fixI (x j) (mn j)).val) (room : Int) : ∀ (f i : Nat), i + f = n →
    Loops Try.prog 1 142 (loopAt Try.prog 45 0) [(8, .int .i64 room), (9, .slice (some ⟨22, 0, 0, 0, 5⟩) n n), (10, .slice (some ⟨25, 0, 0, 0, 1⟩) n n), (11, .slice (some ⟨27, 0, 0, 0, 1⟩) n n), (12, .slice (some ⟨29, 0, 0, 0, 1⟩) n n), (43, .slice o n c), (44, .int .i64 n), (45, .int .i64 i)] (szH 40 n b x mn i)
      (.exit 0) [(8, .int .i64 room), (9, .slice (some ⟨22, 0, 0, 0, 5⟩) n n), (10, .slice (some ⟨25, 0, 0, 0, 1⟩) n n), (11, .slice (some ⟨27, 0, 0, 0, 1⟩) n n), (12, .slice (some ⟨29, 0, 0, 0, 1⟩) n n)] (szH 44 n b x mn n)
  | 0, i, e => by
    obtain rfl : i = n := by omega
    refine (Loops.last (by simp) (szf_end o i c ver off i b _ _ _ _ room 0 0 0 0 0 0 0 0 0 0 0 0 0 (by omega))).post ?_
    exact Ent.drop (by kernel_rfl) (by kernel_rfl) (by kernel_rfl) (by kernel_rfl) (by simp [All_cons, All_nil, Clo]; simp [Ids]) (by simp only [List.map, All_cons, All_nil, and_true]; exact ⟨hb.clo _, (frows_bare _ _ _).clo _, fun e he => (ints_bare _ _ e he).clo _, fun e he => (ints_bare _ _ e he).clo _, fun e he => (ints_bare _ _ e he).clo _⟩)
  | f + 1, i, e => by
    have hi : i < n := by omega
    obtain ⟨h1, h2⟩ := hx i hi
    have into := into_does (x i) 1 (x i) 0 (mn i) 0
    rw [show intoZ (mn i) 0 (x i) = x i by unfold intoZ; rw [if_neg (by omega)]; omega] at into
    have st := szf_step o n c ver off i b (frows n fun j => if j < i then fixI (x j) (mn j) else It00) (ints n fun j => if j < i then mn j else 0) (ints n fun j => if j < i then x j else 0) (ints n fun j => if j < i then x j - mn j else 0) room (x i) 0 (mn i) 0 (x i) 0 0 0 0 0 0 0 0
      (by omega) (ix_itS hs hi) (hel i hi) (right_fix h1 (by omega) _) (ix_itS (.inl rfl) hi) ⟨rfl, by rw [Nat.zero_add, frows_get hi, if_neg (by omega)]; rfl⟩ (ix_intN (.inl rfl) hi) ⟨rfl, by rw [Nat.zero_add, ints_get hi, if_neg (by omega)]⟩ (into _) (ix_intN (.inl rfl) hi) ⟨rfl, by rw [Nat.zero_add, ints_get hi, if_neg (by omega)]⟩
      (ix_intN (.inl rfl) hi) (by rw [Nat.zero_add, ints_stepZ (y := x) (z := fun _ => 0) (i := i)]; refine elem_made ?_; rw [ints_get hi, if_pos (by omega)]) (ix_intN (.inl rfl) hi) (by rw [Nat.zero_add, ints_stepZ (y := mn) (z := fun _ => 0) (i := i)]; refine elem_made ?_; rw [ints_get hi, if_pos (by omega)]) (by omega) (ix_intN (.inl rfl) hi) ⟨rfl, by rw [Nat.zero_add, ints_get hi, if_neg (by omega)]⟩ (by omega)
    have e1 : (frows n fun j => if j < i then fixI (x j) (mn j) else It00).set i (.agg [.int .i8 1, .int .i64 (x i), .int .i64 0, .int .i64 (mn i), .int .i64 0]) = frows n (fun j => if j < i + 1 then fixI (x j) (mn j) else It00) := frows_step (y := fun j => fixI (x j) (mn j))
    have e4 : (ints n fun j => if j < i then x j - mn j else 0).set i (.int .i64 (x i - mn i)) = ints n (fun j => if j < i + 1 then x j - mn j else 0) := ints_stepZ (y := fun j => x j - mn j)
    simp only [Nat.zero_add] at st
    rw [e1, e4, ints_stepZ (y := x) (z := fun _ => 0) (i := i), ints_stepZ (y := mn) (z := fun _ => 0) (i := i)] at st
    have d0 : Clo (Ids [0, 22, 25, 27, 29]) (.slice o n c) := hs.clo (by simp [Ids])
    refine Loops.step (st.post ?_) (szf_loop hs hb hel room f (i + 1) (by omega))
    exact Ent.drop (by kernel_rfl) (by kernel_rfl) (by kernel_rfl) (by kernel_rfl) (by simp [All_cons, All_nil, Clo, d0]; simp [Ids]) (by simp only [List.map, All_cons, All_nil, and_true]; exact ⟨hb.clo _, (frows_bare _ _ _).clo _, fun e he => (ints_bare _ _ e he).clo _, fun e he => (ints_bare _ _ e he).clo _, fun e he => (ints_bare _ _ e he).clo _⟩)
end

section
variable {n : Nat} (hn : n ≤ 4096) {x mn : Nat → Int} (hx : ∀ j, j < n → (0 ≤ x j ∧ x j ≤ 4096) ∧ 0 ≤ mn j ∧ mn j ≤ x j)
include hn hx

noncomputable def flH (K n : Nat) (x mn : Nat → Int) : AHeap := AHeap.rows K [(0, .made (frows n fun j => fixI (x j) (mn j)) 5 true), (1, .made (ints n x) 1 true)]

theorem szf_fill (room : Int) (hr : 0 ≤ room ∧ room ≤ 2 ^ 40) : ∀ (f i : Nat), i + f = n →
    Loops Try.prog 2 279 (loopAt Try.prog 66 0) [(0, .slice (some ⟨0, 0, 0, 0, 5⟩) n n), (1, .slice (some ⟨1, 0, 0, 0, 1⟩) n n), (6, .int .i64 (room - sumTo x i)), (7, .int .i64 0), (8, .int .i64 0), (9, .slice none 0 0), (10, .bool true), (33, .slice (some ⟨0, 0, 0, 0, 5⟩) n n), (34, .int .i64 n), (35, .int .i64 i)] (flH 14 n x mn)
      (.exit 0) [(0, .slice (some ⟨0, 0, 0, 0, 5⟩) n n), (1, .slice (some ⟨1, 0, 0, 0, 1⟩) n n), (6, .int .i64 (room - sumTo x n)), (7, .int .i64 0), (8, .int .i64 0), (9, .slice none 0 0), (10, .bool true)] (flH 18 n x mn)
  | 0, i, e => by
    obtain rfl : i = n := by omega
    refine (Loops.last (by simp) (szf_fe i i _ _ room (room - sumTo x i) 0 0 0 0 0 (by omega))).post ?_
    exact Ent.drop (by kernel_rfl) (by kernel_rfl) (by kernel_rfl) (by kernel_rfl) (by simp [All_cons, All_nil, Clo]; simp [Ids]) (by simp only [List.map, All_cons, All_nil, and_true]; exact ⟨(frows_bare _ _ _).clo _, fun e he => (ints_bare _ _ e he).clo _⟩)
  | f + 1, i, e => by
    have hi : i < n := by omega
    obtain ⟨h1, h2⟩ := hx i hi
    have sr : 0 ≤ sumTo x i ∧ sumTo x i ≤ 4096 * i := by
      have : ∀ k, k ≤ i → 0 ≤ sumTo x k ∧ sumTo x k ≤ 4096 * k := fun k => by
        induction k with
        | zero => intro _; simp [sumTo]
        | succ k ih => intro hk; have := ih (by omega); have := (hx k (by omega)).1; simp only [sumTo]; push_cast; omega
      exact this i (Nat.le_refl _)
    have st := szf_fs n i (frows n fun j => fixI (x j) (mn j)) (ints n x) room (room - sumTo x i) (x i) 0 (mn i) 0 (x i) (by omega) (ix_itS (.inl rfl) hi) (by rw [Nat.zero_add]; exact elem_made (frows_get hi)) (ix_intN (.inl rfl) hi) (by rw [Nat.zero_add]; exact elem_made (ints_get hi)) (by omega) (by omega)
    rw [show room - sumTo x i - x i = room - sumTo x (i + 1) by simp only [sumTo]; omega] at st
    refine Loops.step (st.post ?_) (szf_fill room hr f (i + 1) (by omega))
    exact Ent.drop (by kernel_rfl) (by kernel_rfl) (by kernel_rfl) (by kernel_rfl) (by simp [All_cons, All_nil, Clo]; simp [Ids]) (by simp only [List.map, All_cons, All_nil, and_true]; exact ⟨(frows_bare _ _ _).clo _, fun e he => (ints_bare _ _ e he).clo _⟩)
end

theorem szf_sums {n : Nat} {x : Nat → Int} (hx : ∀ j, j < n → 0 ≤ x j ∧ x j ≤ 4096) : ∀ k, k ≤ n → 0 ≤ sumTo x k ∧ sumTo x k ≤ 4096 * k
  | 0, _ => by simp [sumTo]
  | k + 1, hk => by
    have := szf_sums hx k (by omega)
    have := hx k (by omega)
    simp only [sumTo]; push_cast; omega
theorem szf_mono {n : Nat} {x y : Nat → Int} (h : ∀ j, j < n → x j ≤ y j) : ∀ k, k ≤ n → sumTo x k ≤ sumTo y k
  | 0, _ => by simp [sumTo]
  | k + 1, hk => by
    have := szf_mono h k (by omega)
    have := h k (by omega)
    simp only [sumTo]; omega

/-- solve.Sizes of fixed items that fit -/
theorem szf_does {H : AHeap} {o : Option AAddr} {n c id ver off : Nat} {b : ABlk} (hs : SlArg o n c id ver off 5) (hg : H.get id = some b) (hlt : id < H.next) (hb : BareB b) (hn : n ≤ 4096) {x mn : Nat → Int} (hx : ∀ j, j < n → (0 ≤ x j ∧ x j ≤ 4096) ∧ 0 ≤ mn j ∧ mn j ≤ x j)
    (hel : ∀ j, j < n → b.elem? ver (off + j) = some (fixI (x j) (mn j)).val) (ext gap : Int) (hfit : sumTo x n ≤ sideZ ext - sideZ gap * ((n : Int) - 1)) {N : Nat} (hN : H.next = N) :
    ∃ o' c', SlArg o' n c' N 0 0 1 ∧ c' = n ∧ FDoes Try.prog 45 [.slice o n c, .int .i64 ext, .int .i64 gap] H (.slice o' n c') (H.upd [] [.made (ints n x) 1 true]) := by
  subst hN
  have s1 := hs.at 0
  by_cases h0 : n = 0
  · subst h0
    have kk := (szf_nil (o.map fun a => { a with id := 0 }) 0 c b [] [] [] [] ext gap 0 0).pure (by simp [hb]) (by kernel_rfl) ⟨fun r => rfl, trivial⟩ (by simp [Clos, Clo, s1.clo]) (H := H) [id] (by simp) (by simp [hlt]) (by simp [hg])
    refine ⟨none, 0, .inr ⟨rfl, rfl, rfl⟩, rfl, FDoes.pad1 ?_ _⟩
    simpa [hs.back (id' := 0) (r := toBig [id] H.next) rfl, AVal.ren] using kk
  · have hsum := szf_sums (fun j hj => (hx j hj).1) n (Nat.le_refl _)
    have hsm : 0 ≤ sumTo mn n ∧ sumTo mn n ≤ sumTo x n := ⟨(szf_sums (x := mn) (fun j hj => by have := hx j hj; omega) n (Nat.le_refl _)).1, szf_mono (fun j hj => (hx j hj).2.2) n (Nat.le_refl _)⟩
    have hse := sideZ_range ext
    have hsg := sideZ_range gap
    have hgn : 0 ≤ sideZ gap * ((n : Int) - 1) := Int.mul_nonneg hsg.1 (by omega)
    have hgn2 : sideZ gap * ((n : Int) - 1) ≤ 4096 := by omega
    have room : (if sideZ ext - sideZ gap * ((n : Int) - 1) > 0 then sideZ ext - sideZ gap * ((n : Int) - 1) else 0) = sideZ ext - sideZ gap * ((n : Int) - 1) := by split <;> omega
    have l0 := szf_loop hn hx s1 hb hel (sideZ ext - sideZ gap * ((n : Int) - 1)) n 0 (by omega)
    have eli : (frows n fun j => if j < n then fixI (x j) (mn j) else It00) = frows n fun j => fixI (x j) (mn j) := frows_congr fun j hj => by rw [if_pos hj]
    have elm : (ints n fun j => if j < n then mn j else 0) = ints n mn := ints_congr fun j hj => by rw [if_pos hj]
    have elw : (ints n fun j => if j < n then x j else 0) = ints n x := ints_congr fun j hj => by rw [if_pos hj]
    unfold szH at l0
    rw [eli, elm, elw, ← frows_zero, ← ints_zeroZ, ← ints_zeroZ, ← ints_zeroZ n (fun j => x j - mn j)] at l0
    have l1 := szf_fill hn hx (sideZ ext - sideZ gap * ((n : Int) - 1)) (by omega) n 0 (by omega)
    have bi : ∀ (m : Nat) (f : Nat → Int), BareB (.made (ints m f) 1 true) := fun m f e he => ints_bare _ _ e he
    have pf1 : Ent 2 279 [(0, .slice (some ⟨0, 0, 0, 0, 5⟩) n n), (1, .slice (some ⟨1, 0, 0, 0, 1⟩) n n), (6, .int .i64 (sideZ ext - sideZ gap * ((n : Int) - 1))), (7, .int .i64 0), (8, .int .i64 0), (9, .slice none 0 0), (10, .bool true), (33, .slice (some ⟨0, 0, 0, 0, 5⟩) n n), (34, .int .i64 n), (35, .int .i64 (0 : Nat))] (flH 11 n x mn) [(0, .slice (some ⟨0, 0, 0, 0, 5⟩) n n), (1, .slice (some ⟨1, 0, 0, 0, 1⟩) n n), (6, .int .i64 (sideZ ext - sideZ gap * ((n : Int) - 1) - sumTo x 0)), (7, .int .i64 0), (8, .int .i64 0), (9, .slice none 0 0), (10, .bool true), (33, .slice (some ⟨0, 0, 0, 0, 5⟩) n n), (34, .int .i64 n), (35, .int .i64 (0 : Nat))] (flH 14 n x mn) := by
      rw [show sideZ ext - sideZ gap * ((n : Int) - 1) - sumTo x 0 = sideZ ext - sideZ gap * ((n : Int) - 1) by simp [sumTo]]
      exact Ent.drop (by kernel_rfl) (by kernel_rfl) (by kernel_rfl) (by kernel_rfl) (by simp [All_cons, All_nil, Clo]; simp [Ids]) (by simp only [List.map, All_cons, All_nil, and_true]; exact ⟨(frows_bare _ _ _).clo _, (bi _ _).clo _⟩)
    have lf := Loops.last (by simp) (szf_fl n 0 (frows n fun j => fixI (x j) (mn j)) (ints n x) 0 0 0 0 0 0 0)
    have pf2 : Ent 2 279 [(0, .slice (some ⟨0, 0, 0, 0, 5⟩) n n), (1, .slice (some ⟨1, 0, 0, 0, 1⟩) n n), (74, .slice none 0 0), (75, .int .i64 0), (76, .int .i64 0)] (flH 27 n x mn) [(0, .slice (some ⟨0, 0, 0, 0, 5⟩) n n), (1, .slice (some ⟨1, 0, 0, 0, 1⟩) n n), (74, .slice none 0 0), (75, .int .i64 0), (76, .int .i64 0)] (flH 30 n x mn) :=
      Ent.drop (by kernel_rfl) (by kernel_rfl) (by kernel_rfl) (by kernel_rfl) (by simp [All_cons, All_nil, Clo]; simp [Ids]) (by simp only [List.map, All_cons, All_nil, and_true]; exact ⟨(frows_bare _ _ _).clo _, (bi _ _).clo _⟩)
    have pf3 : Ent 2 279 [] (flH 31 n x mn) [] (flH 34 n x mn) :=
      Ent.drop (by kernel_rfl) (by kernel_rfl) (by kernel_rfl) (by kernel_rfl) (by simp [All_nil]) (by simp only [List.map, All_cons, All_nil, and_true]; exact ⟨(frows_bare _ _ _).clo _, (bi _ _).clo _⟩)
    have fc := szf_fc n 0 (frows n fun j => fixI (x j) (mn j)) (ints n x) (sideZ ext - sideZ gap * ((n : Int) - 1)) (sideZ ext - sideZ gap * ((n : Int) - 1) - sumTo x n) 0 0 0 0 0 (Runs.of_loops (l1.pre pf1)) (by omega) (Runs.of_loops ((lf.post pf3).pre pf2))
    have fill : ∀ {b0 lo : ABlk}, FDoes Try.prog 66 [.slice (some ⟨22, 0, 0, 0, 5⟩) n n, .slice (some ⟨27, 0, 0, 0, 1⟩) n n, .int .i64 (sideZ ext - sideZ gap * ((n : Int) - 1))] (AHeap.rows 59 [(0, b0), (22, .made (frows n fun j => fixI (x j) (mn j)) 5 true), (25, .made (ints n mn) 1 true), (27, .made (ints n x) 1 true), (29, lo)]) (.tuple []) (AHeap.rows 59 [(0, b0), (22, .made (frows n fun j => fixI (x j) (mn j)) 5 true), (25, .made (ints n mn) 1 true), (27, .made (ints n x) 1 true), (29, lo)]) := by
      intro b0 lo
      have kk := fc.pure (by simp; exact ⟨frows_bare _ _ _, bi _ _⟩) (by kernel_rfl) ⟨fun r => rfl, by simp [Clo, Clos]⟩ (by simp [Clos, Clo]) (H := AHeap.rows 59 [(0, b0), (22, .made (frows n fun j => fixI (x j) (mn j)) 5 true), (25, .made (ints n mn) 1 true), (27, .made (ints n x) 1 true), (29, lo)]) [22, 27] (by simp) (by simp) (by kernel_rfl)
      simpa [AVal.ren, AVal.rens, AAddr.ren, toBig] using kk
    have fits : ∀ (y : Nat → Int), (∀ j, j < n → 0 ≤ y j ∧ y j ≤ 4096) → ∀ j, j ≤ n → Fit64 (sumTo y j) := fun y hy j hj => by
      have := szf_sums hy j hj
      exact ⟨by omega, by omega⟩
    have hmn : ∀ j, j < n → 0 ≤ mn j ∧ mn j ≤ 4096 := fun j hj => by have := hx j hj; omega
    have d0 : Clo (Ids [0, 22, 25, 27, 29]) (.slice (o.map fun a => { a with id := 0 }) n c) := s1.clo (by simp [Ids])
    have q : FDoes Try.prog 45 [.slice (o.map fun a => { a with id := 0 }) n c, .int .i64 ext, .int .i64 gap] (AHeap.of [b]) (.slice (some ⟨27, 0, 0, 0, 1⟩) n n) (AHeap.rows 61 [(0, b), (22, .made (frows n fun j => fixI (x j) (mn j)) 5 true), (25, .made (ints n mn) 1 true), (27, .made (ints n x) 1 true), (29, .made (ints n fun j => x j - mn j) 1 true)]) := by
      have elo : (ints n fun j => if j < n then x j - mn j else 0) = ints n fun j => x j - mn j := ints_congr fun j hj => by rw [if_pos hj]
      rw [elo] at l0
      exact szf_call _ n c b (frows n fun j => fixI (x j) (mn j)) (ints n mn) (ints n x) (ints n fun j => x j - mn j) ext gap (sumTo mn n) (sumTo x n) (by omega) (by omega) (szfside_does _ _) (szfside_does _ _) (by omega) (by omega) (by omega) (by omega) (by omega) (by omega) (by omega)
        (by rw [room]; exact Runs.of_loops (l0.pre (Ent.drop (by kernel_rfl) (by kernel_rfl) (by kernel_rfl) (by kernel_rfl) (by simp [All_cons, All_nil, Clo, d0]; simp [Ids]) (by simp only [List.map, All_cons, All_nil, and_true]; exact ⟨hb.clo _, fun e he => by obtain ⟨_, rfl⟩ := List.mem_replicate.1 he; exact (It.bare It00).clo _, fun e he => by obtain ⟨_, rfl⟩ := List.mem_replicate.1 he; exact (Bare.int _ _).clo _, fun e he => by obtain ⟨_, rfl⟩ := List.mem_replicate.1 he; exact (Bare.int _ _).clo _, fun e he => by obtain ⟨_, rfl⟩ := List.mem_replicate.1 he; exact (Bare.int _ _).clo _⟩))))
        (sum_does (.inl rfl) (bi _ _) (fun j hj => by rw [Nat.zero_add]; exact elem_made (ints_get hj)) (fits mn hmn) (by omega) (by kernel_rfl) (by simp)) (by rw [room]; omega)
        (sum_does (.inl rfl) (bi _ _) (fun j hj => by rw [Nat.zero_add]; exact elem_made (ints_get hj)) (fits x (fun j hj => (hx j hj).1)) (by omega) (by kernel_rfl) (by simp)) (by rw [room]; omega) (by rw [room]; omega) (by rw [room]; exact fill)
    refine ⟨some ⟨H.next, 0, 0, 0, 1⟩, n, .inl rfl, rfl, ?_⟩
    have kk := q.new1 (bn := .made (ints n x) 1 true) (by simp [hb]) (bi _ _) (by kernel_rfl) (by kernel_rfl) (by simp) (by simp [Clos, Clo, s1.clo]) (H := H) [id] (by simp) (by simp [hlt]) (by simp [hg])
    simpa [hs.back (id' := 0) (r := toBig [id] H.next) rfl, AVal.ren] using kk
end Go.Proofs.Ytcgcpmcjaeenlaa

namespace Go.Proofs.Ytcgcpmcjaeenlaa
open Go.Lift
set_option maxRecDepth 1000000
set_option linter.unusedSimpArgs false
set_option linter.unusedVariables false
set_option linter.unusedSectionVars false

def isAuto (it : Nat → It) (j : Nat) : Bool := (it j).k == 0
noncomputable def auF (p : Nat → Bool) (m : Nat) (k : Nat) : Int := (((auL p m)[k]?.getD 0 : Nat) : Int)

/-- items that are auto or fixed, and have at least their least size -/
structure Spr (it : Nat → It) (hv : Nat → Int) (m : Nat) : Prop where
  ok : ∀ j, j < m → ((it j).k = 0 ∨ (it j).k = 1) ∧ (it j).mx = 0 ∧ (it j).mn ≤ hv j ∧ 0 ≤ hv j ∧ hv j ≤ 2 ^ 30

section
variable {oi oh : Option AAddr} {m ci ch offi offh N : Nat} {bi : ABlk} {it : Nat → It} {h : Nat → Int} (hm : m ≤ 4096) (hsi : SlArg oi m ci 0 0 offi 5) (hsh : SlArg oh m ch 1 0 offh 1) (hbi : BareB bi) (hN : offh + m ≤ N)
  (hel : ∀ j, j < m → bi.elem? 0 (offi + j) = some (it j).val) (hs : Spr it (fun j => h (offh + j)) m)
include hm hsi hsh hbi hN hel hs

noncomputable def spH (K : Nat) (bi : ABlk) (N : Nat) (h : Nat → Int) (l : List (Nat × ABlk)) : AHeap := AHeap.rows K ((0, bi) :: (1, .made (ints N h) 1 true) :: l)

theorem sp_lack (lack0 : Int) (hl : -2 ^ 40 ≤ lack0 ∧ lack0 ≤ 4096) : ∀ i, i ≤ m → lack0 - sumTo (fun j => h (offh + j)) i ≤ 4096 ∧ -2 ^ 40 - 2 ^ 30 * (i : Int) ≤ lack0 - sumTo (fun j => h (offh + j)) i
  | 0, _ => by simp [sumTo]; omega
  | i + 1, hi => by
    have := sp_lack lack0 hl i (by omega)
    have := hs.ok i (by omega)
    simp only [sumTo]; push_cast; omega

theorem sp_loopB (lack0 : Int) (hl : -2 ^ 40 ≤ lack0 ∧ lack0 ≤ 4096) : ∀ (f i : Nat), i + f = m → (v : Nat) → (auL (isAuto it) i).length = 1 + v →
    ∃ v', (auL (isAuto it) m).length = 1 + v' ∧ Loops Try.prog 2 83 (loopAt Try.prog 44 0) [(1, .slice oh m ch), (8, .int .i64 (lack0 - sumTo (fun j => h (offh + j)) i)), (9, .slice (some ⟨30, v, 0, 0, 1⟩) (1 + v) (1 + v)), (22, .slice oi m ci), (23, .int .i64 m), (24, .int .i64 i)] (spH 60 bi N h [(30, gRow (auF (isAuto it) m) 1 v)])
      (.exit 0) [(1, .slice oh m ch), (8, .int .i64 (lack0 - sumTo (fun j => h (offh + j)) m)), (9, .slice (some ⟨30, v', 0, 0, 1⟩) (1 + v') (1 + v'))] (spH 66 bi N h [(30, gRow (auF (isAuto it) m) 1 v')])
  | 0, i, e, v, hv => by
    obtain rfl : i = m := by omega
    refine ⟨v, hv, (Loops.last (by simp) (sp_end oi oh i ci ch 0 offi offh i (1 + v) v bi (gRow (auF (isAuto it) i) 1 v) bi (ints N h) (lack0 - sumTo (fun j => h (offh + j)) i) 0 0 0 0 0 0 0 0 (.bool true) (by omega))).post ?_⟩
    have d1 : Clo (Ids [0, 1, 30]) (.slice oi i ci) := hsi.clo (by simp [Ids])
    have d2 : Clo (Ids [0, 1, 30]) (.slice oh i ch) := hsh.clo (by simp [Ids])
    exact Ent.drop (by kernel_rfl) (by kernel_rfl) (by kernel_rfl) (by kernel_rfl) (by simp [All_cons, All_nil, Clo, d1, d2] <;> simp [Ids]) (by simp only [List.map, All_cons, All_nil, and_true]; exact ⟨hbi.clo _, fun e he => (ints_bare _ _ e he).clo _, (gRow_bare _ _ _).clo _⟩)
  | f + 1, i, e, v, hv => by
    have hi : i < m := by omega
    obtain ⟨hk, hmx, h1, h2, h3⟩ := hs.ok i hi
    have sl := sp_lack hm hsi hsh hbi hN hel hs lack0 hl i (by omega)
    have d1 : Clo (Ids [0, 1, 30]) (.slice oi m ci) := hsi.clo (by simp [Ids])
    have d2 : Clo (Ids [0, 1, 30]) (.slice oh m ch) := hsh.clo (by simp [Ids])
    have esum : lack0 - sumTo (fun j => h (offh + j)) i - h (offh + i) = lack0 - sumTo (fun j => h (offh + j)) (i + 1) := by simp only [sumTo]; omega
    have hh : (ints N h)[offh + i]? = some (.int .i64 (h (offh + i))) := ints_get (by omega)
    have hv4 : 1 + v ≤ 4096 := by have := List.length_filter_le (isAuto it) (List.range i); rw [List.length_range] at this; unfold auL at hv; omega
    rcases hk with k0 | k1
    · have hp : isAuto it i = true := by simp [isAuto, k0]
      have hl1 : (auL (isAuto it) (i + 1)).length = 1 + (v + 1) := by rw [auL_succ, if_pos hp, List.length_append, hv]; rfl
      have ea : auF (isAuto it) m (1 + v) = (i : Int) := by have := auL_get hp hi; rw [hv] at this; unfold auF; rw [this]; rfl
      obtain ⟨v', hv', L⟩ := sp_loopB lack0 hl f (i + 1) (by omega) (v + 1) hl1
      refine ⟨v', hv', ?_⟩
      have ev : (it i).val = .agg [.int .i8 0, .int .i64 (it i).n, .int .i64 (it i).d, .int .i64 (it i).mn, .int .i64 (it i).mx] := by unfold It.val It.cells; rw [k0]
      have st := sp_grow oi oh m ci ch 0 offi offh i (1 + v) v bi (gRow (auF (isAuto it) m) 1 v) (gRow (auF (isAuto it) m) 1 (v + 1)) (ints N h) (lack0 - sumTo (fun j => h (offh + j)) i) 0 0 (h (offh + i)) 0 (it i).n (it i).d (it i).mn (it i).mx (.bool true)
        (by omega) (ix_itS hsi hi) (by rw [hel i hi, ev]) ((app_num (by omega) (by omega) _ ea _ _ _ (by kernel_rfl) (by kernel_rfl)).trans (by kernel_rfl))
        (ix_intN hsh hi) (elem_made hh) (by rw [hmx]; exact brought_does h1 _ _ _ _) (by omega) (by omega)
      rw [esum] at st
      refine Loops.round st ?_ L
      exact Ent.drop (by kernel_rfl) (by kernel_rfl) (by kernel_rfl) (by kernel_rfl) (by simp [All_cons, All_nil, Clo, d1, d2] <;> simp [Ids]) (by simp only [List.map, All_cons, All_nil, and_true]; exact ⟨hbi.clo _, fun e he => (ints_bare _ _ e he).clo _, (gRow_bare _ _ _).clo _⟩)
    · have hp : ¬ isAuto it i = true := by simp [isAuto, k1]
      have hl1 : (auL (isAuto it) (i + 1)).length = 1 + v := by rw [auL_succ, if_neg hp, List.append_nil, hv]
      obtain ⟨v', hv', L⟩ := sp_loopB lack0 hl f (i + 1) (by omega) v hl1
      refine ⟨v', hv', ?_⟩
      have ev : (it i).val = .agg [.int .i8 1, .int .i64 (it i).n, .int .i64 (it i).d, .int .i64 (it i).mn, .int .i64 (it i).mx] := by unfold It.val It.cells; rw [k1]
      have st := sp_fix oi oh m ci ch 0 offi offh i (1 + v) v bi (gRow (auF (isAuto it) m) 1 v) (gRow (auF (isAuto it) m) 1 (v + 1)) (ints N h) (lack0 - sumTo (fun j => h (offh + j)) i) 0 0 (h (offh + i)) 0 (it i).n (it i).d (it i).mn (it i).mx (.bool true)
        (by omega) (ix_itS hsi hi) (by rw [hel i hi, ev]) (ix_intN hsh hi) (elem_made hh) (by rw [hmx]; exact brought_does h1 _ _ _ _) (by omega) (by omega)
      rw [esum] at st
      refine Loops.round st ?_ L
      exact Ent.drop (by kernel_rfl) (by kernel_rfl) (by kernel_rfl) (by kernel_rfl) (by simp [All_cons, All_nil, Clo, d1, d2] <;> simp [Ids]) (by simp only [List.map, All_cons, All_nil, and_true]; exact ⟨hbi.clo _, fun e he => (ints_bare _ _ e he).clo _, (gRow_bare _ _ _).clo _⟩)

theorem sp_loopN (lack0 : Int) (hl : -2 ^ 40 ≤ lack0 ∧ lack0 ≤ 4096) : ∀ (f i : Nat), i + f = m → auL (isAuto it) i = [] →
    (auL (isAuto it) m = [] ∧ Loops Try.prog 2 83 (loopAt Try.prog 44 0) [(1, .slice oh m ch), (8, .int .i64 (lack0 - sumTo (fun j => h (offh + j)) i)), (9, .slice none 0 0), (22, .slice oi m ci), (23, .int .i64 m), (24, .int .i64 i)] (spH 14 bi N h [])
      (.exit 0) [(1, .slice oh m ch), (8, .int .i64 (lack0 - sumTo (fun j => h (offh + j)) m)), (9, .slice none 0 0)] (spH 20 bi N h [])) ∨
    ∃ v', (auL (isAuto it) m).length = 1 + v' ∧ Loops Try.prog 2 83 (loopAt Try.prog 44 0) [(1, .slice oh m ch), (8, .int .i64 (lack0 - sumTo (fun j => h (offh + j)) i)), (9, .slice none 0 0), (22, .slice oi m ci), (23, .int .i64 m), (24, .int .i64 i)] (spH 14 bi N h [])
      (.exit 0) [(1, .slice oh m ch), (8, .int .i64 (lack0 - sumTo (fun j => h (offh + j)) m)), (9, .slice (some ⟨30, v', 0, 0, 1⟩) (1 + v') (1 + v'))] (spH 66 bi N h [(30, gRow (auF (isAuto it) m) 1 v')])
  | 0, i, e, hv => by
    obtain rfl : i = m := by omega
    refine .inl ⟨hv, (Loops.last (by simp) (sp_endN oi oh i ci ch 0 offi offh i 0 0 bi bi bi (ints N h) (lack0 - sumTo (fun j => h (offh + j)) i) 0 0 0 0 0 0 0 0 (.bool true) (by omega))).post ?_⟩
    have d1 : Clo (Ids [0, 1]) (.slice oi i ci) := hsi.clo (by simp [Ids])
    have d2 : Clo (Ids [0, 1]) (.slice oh i ch) := hsh.clo (by simp [Ids])
    exact Ent.drop (by kernel_rfl) (by kernel_rfl) (by kernel_rfl) (by kernel_rfl) (by simp [All_cons, All_nil, Clo, d1, d2] <;> simp [Ids]) (by simp only [List.map, All_cons, All_nil, and_true]; exact ⟨hbi.clo _, fun e he => (ints_bare _ _ e he).clo _⟩)
  | f + 1, i, e, hv => by
    have hi : i < m := by omega
    obtain ⟨hk, hmx, h1, h2, h3⟩ := hs.ok i hi
    have sl := sp_lack hm hsi hsh hbi hN hel hs lack0 hl i (by omega)
    have esum : lack0 - sumTo (fun j => h (offh + j)) i - h (offh + i) = lack0 - sumTo (fun j => h (offh + j)) (i + 1) := by simp only [sumTo]; omega
    have hh : (ints N h)[offh + i]? = some (.int .i64 (h (offh + i))) := ints_get (by omega)
    rcases hk with k0 | k1
    · have hp : isAuto it i = true := by simp [isAuto, k0]
      have hl1 : (auL (isAuto it) (i + 1)).length = 1 + 0 := by rw [auL_succ, if_pos hp, List.length_append, hv]; rfl
      have ea : auF (isAuto it) m 0 = (i : Int) := by have := auL_get hp hi; rw [hv] at this; unfold auF; rw [List.length_nil] at this; rw [this]; rfl
      obtain ⟨v', hv', L⟩ := sp_loopB hm hsi hsh hbi hN hel hs lack0 hl f (i + 1) (by omega) 0 hl1
      refine .inr ⟨v', hv', ?_⟩
      have ev : (it i).val = .agg [.int .i8 0, .int .i64 (it i).n, .int .i64 (it i).d, .int .i64 (it i).mn, .int .i64 (it i).mx] := by unfold It.val It.cells; rw [k0]
      have st := sp_new oi oh m ci ch 0 offi offh i 0 0 bi (gRow (auF (isAuto it) m) 1 0) bi (ints N h) (lack0 - sumTo (fun j => h (offh + j)) i) 0 0 (h (offh + i)) 0 (it i).n (it i).d (it i).mn (it i).mx (.bool true)
        (by omega) (ix_itS hsi hi) (by rw [hel i hi, ev]) (by
          refine (app_new slInt (new := [.int .i64 i]) (by kernel_rfl) (by simp) (by simp) (by simp)).trans ?_
          rw [show ABlk.made [AVal.int .i64 i] 1 false = gRow (auF (isAuto it) m) 1 0 by rw [← gRow_zero]; simp [ints, ea]]
          rfl)
        (ix_intN hsh hi) (elem_made hh) (by rw [hmx]; exact brought_does h1 _ _ _ _) (by omega) (by omega)
      rw [esum] at st
      refine Loops.round st ?_ L
      have d1 : Clo (Ids [0, 1, 30]) (.slice oi m ci) := hsi.clo (by simp [Ids])
      have d2 : Clo (Ids [0, 1, 30]) (.slice oh m ch) := hsh.clo (by simp [Ids])
      exact Ent.drop (by kernel_rfl) (by kernel_rfl) (by kernel_rfl) (by kernel_rfl) (by simp [All_cons, All_nil, Clo, d1, d2] <;> simp [Ids]) (by simp only [List.map, All_cons, All_nil, and_true]; exact ⟨hbi.clo _, fun e he => (ints_bare _ _ e he).clo _, (gRow_bare _ _ _).clo _⟩)
    · have hp : ¬ isAuto it i = true := by simp [isAuto, k1]
      have hl1 : auL (isAuto it) (i + 1) = [] := by rw [auL_succ, if_neg hp, List.append_nil, hv]
      have ev : (it i).val = .agg [.int .i8 1, .int .i64 (it i).n, .int .i64 (it i).d, .int .i64 (it i).mn, .int .i64 (it i).mx] := by unfold It.val It.cells; rw [k1]
      have st := sp_fixN oi oh m ci ch 0 offi offh i 0 0 bi bi bi (ints N h) (lack0 - sumTo (fun j => h (offh + j)) i) 0 0 (h (offh + i)) 0 (it i).n (it i).d (it i).mn (it i).mx (.bool true)
        (by omega) (ix_itS hsi hi) (by rw [hel i hi, ev]) (ix_intN hsh hi) (elem_made hh) (by rw [hmx]; exact brought_does h1 _ _ _ _) (by omega) (by omega)
      rw [esum] at st
      have d1 : Clo (Ids [0, 1]) (.slice oi m ci) := hsi.clo (by simp [Ids])
      have d2 : Clo (Ids [0, 1]) (.slice oh m ch) := hsh.clo (by simp [Ids])
      have dr := st.post (Ent.drop (F := [(1, .slice oh m ch), (8, .int .i64 (lack0 - sumTo (fun j => h (offh + j)) (i + 1))), (9, .slice none 0 0), (22, .slice oi m ci), (23, .int .i64 m), (24, .int .i64 (i + 1 : Nat))]) (K := 14) (l := [(0, bi), (1, .made (ints N h) 1 true)]) (by kernel_rfl) (by kernel_rfl) (by kernel_rfl) (by kernel_rfl) (by simp [All_cons, All_nil, Clo, d1, d2] <;> simp [Ids]) (by simp only [List.map, All_cons, All_nil, and_true]; exact ⟨hbi.clo _, fun e he => (ints_bare _ _ e he).clo _⟩))
      rcases sp_loopN lack0 hl f (i + 1) (by omega) hl1 with ⟨q, L⟩ | ⟨v', hv', L⟩
      · exact .inl ⟨q, Loops.step dr L⟩
      · exact .inr ⟨v', hv', Loops.step dr L⟩
end

section
variable {oi oh : Option AAddr} {m ci ch offi offh N : Nat} {bi : ABlk} (hm : m ≤ 4096) (hsi : SlArg oi m ci 0 0 offi 5) (hsh : SlArg oh m ch 1 0 offh 1) (hbi : BareB bi) (hN : offh + m ≤ N) {p : Nat → Bool} {v : Nat} (hq : (auL p m).length = 1 + v)
include hm hsi hsh hbi hN hq

theorem sp_give : ∀ (l : List Nat) (i : Nat) (L : Int) (h : Nat → Int), (auL p m).drop i = l → L ≤ 4096 → -2 ^ 50 ≤ L → (∀ k, k < N → 0 ≤ h k ∧ h k + max 0 L ≤ 2 ^ 40) →
    ∃ e, (e = .exit 2 ∨ e = .ret) ∧ Loops Try.prog 2 83 (loopAt Try.prog 44 1) [(1, .slice oh m ch), (8, .int .i64 L), (9, .slice (some ⟨30, v, 0, 0, 1⟩) (1 + v) (1 + v)), (48, .slice (some ⟨30, v, 0, 0, 1⟩) (1 + v) (1 + v)), (49, .int .i64 (1 + v : Nat)), (50, .int .i64 i)] (spH 70 bi N h [(30, gRow (auF p m) 1 v)])
      e [] (spH 74 bi N (giveZ offh l L h) [(30, gRow (auF p m) 1 v)])
  | [], i, L, h, hd, hL, hL2, hh => by
    have hlen : 1 + v ≤ i := by have := congrArg List.length hd; rw [List.length_drop, List.length_nil] at this; omega
    refine ⟨_, .inl rfl, (Loops.last (by simp) (sp_e1 oi oh (some ⟨30, v, 0, 0, 1⟩) m ci ch 0 offi offh v i (1 + v) (1 + v) 0 bi (gRow (auF p m) 1 v) bi (ints N h) L 0 0 0 0 (.bool true) (by omega))).post ?_⟩
    exact Ent.drop (by kernel_rfl) (by kernel_rfl) (by kernel_rfl) (by kernel_rfl) (by simp [All_cons, All_nil, Clo]) (by simp only [List.map, All_cons, All_nil, and_true]; exact ⟨hbi.clo _, fun e he => (ints_bare _ _ e he).clo _, (gRow_bare _ _ _).clo _⟩)
  | j :: r, i, L, h, hd, hL, hL2, hh => by
    have hlen : 1 + v = i + (r.length + 1) := by have := congrArg List.length hd; rw [List.length_drop, List.length_cons] at this; omega
    have hv4 : 1 + v ≤ 4096 := by have := List.length_filter_le p (List.range m); rw [List.length_range] at this; unfold auL at hq; omega
    have hji : (auL p m)[i]? = some j := by have := congrArg (fun l => l[0]?) hd; simpa using this
    have hjm : j < m := (auL_mem.1 (List.mem_of_getElem? hji)).1
    have hd2 : (auL p m).drop (i + 1) = r := by have := congrArg List.tail hd; simpa [List.tail_drop] using this
    have hai : auF p m i = (j : Int) := by unfold auF; rw [hji]; rfl
    have hve : (gRow (auF p m) 1 v).elem? v (0 + i) = some (.int .i64 j) := by rw [gRow_el (by omega), hai]
    have d2 : Clo (Ids [0, 1, 30]) (.slice oh m ch) := hsh.clo (by simp [Ids])
    have hx : aindexAddr env.D 32 (.slice (some ⟨30, v, 0, 0, 1⟩) (1 + v) (1 + v)) (.int .i64 i) = some (.ptr (some ⟨30, v, 0 + i, 0, 1⟩)) := ix_intN (.inl rfl) (by omega)
    have hg : (ints N h)[offh + j]? = some (.int .i64 (h (offh + j))) := ints_get (by omega)
    by_cases c : L ≤ 0
    · refine ⟨_, .inr rfl, (Loops.last (by simp) (sp_stop oi oh (some ⟨30, v, 0, 0, 1⟩) m ci ch 0 offi offh v i (1 + v) (1 + v) j bi (gRow (auF p m) 1 v) bi (ints N h) L 0 0 0 0 (.bool true) (by omega) hx hve c)).post ?_⟩
      unfold giveZ
      rw [if_pos c]
      exact Ent.drop (by kernel_rfl) (by kernel_rfl) (by kernel_rfl) (by kernel_rfl) (by simp [All_cons, All_nil, Clo]) (by simp only [List.map, All_cons, All_nil, and_true]; exact ⟨hbi.clo _, fun e he => (ints_bare _ _ e he).clo _, (gRow_bare _ _ _).clo _⟩)
    · have pr := partZ_range (L := L) (d := (r.length + 1 : Nat)) (by omega) (by omega)
      have hq : (((1 + v : Nat) : Int) - (i : Int)) = ((r.length + 1 : Nat) : Int) := by omega
      have hhj := hh (offh + j) (by omega)
      obtain ⟨e, he, lp⟩ := sp_give r (i + 1) (L - partZ L (r.length + 1 : Nat)) (fun k => if k = offh + j then h k + partZ L (r.length + 1 : Nat) else h k) hd2 (by omega) (by omega) (fun k hk => by have := hh k hk; split <;> omega)
      refine ⟨e, he, ?_⟩
      have st : Runs Try.prog 2 83 (loopAt Try.prog 44 1) [(1, .slice oh m ch), (8, .int .i64 L), (9, .slice (some ⟨30, v, 0, 0, 1⟩) (1 + v) (1 + v)), (48, .slice (some ⟨30, v, 0, 0, 1⟩) (1 + v) (1 + v)), (49, .int .i64 (1 + v : Nat)), (50, .int .i64 i)] (spH 70 bi N h [(30, gRow (auF p m) 1 v)])
          .normal [(1, .slice oh m ch), (8, .int .i64 (L - partZ L (r.length + 1 : Nat))), (9, .slice (some ⟨30, v, 0, 0, 1⟩) (1 + v) (1 + v)), (48, .slice (some ⟨30, v, 0, 0, 1⟩) (1 + v) (1 + v)), (49, .int .i64 (1 + v : Nat)), (50, .int .i64 (i + 1 : Nat))] (spH 70 bi N (fun k => if k = offh + j then h k + partZ L (r.length + 1 : Nat) else h k) [(30, gRow (auF p m) 1 v)]) := by
        have es : ∀ y, (ints N h).set (offh + j) (.int .i64 (h (offh + j) + y)) = ints N fun k => if k = offh + j then h k + y else h k := fun y => by
          rw [ints_set]; exact ints_congr fun k hk => by split <;> simp_all
        by_cases t : Int.tmod L (r.length + 1 : Nat) > 0
        · have ep : partZ L (r.length + 1 : Nat) = Int.tdiv L (r.length + 1 : Nat) + 1 := by unfold partZ; rw [if_pos t]
          rw [ep] at pr ⊢
          generalize ((r.length + 1 : Nat) : Int) = d at *
          have q := sp_up oi oh (some ⟨30, v, 0, 0, 1⟩) m ci ch 0 offi offh v i (1 + v) (1 + v) j bi (gRow (auF p m) 1 v) bi (ints N h) L 0 0 (h (offh + j)) 0 (.bool true) (by omega) hx hve (by omega) (by omega) (by rw [hq]; omega) (by omega) (by omega) (by rw [hq]; exact t) (by rw [hq]; omega) (ix_intN hsh hjm) (elem_made hg) (by rw [hq]; omega) (ix_intN hsh hjm) ⟨rfl, hg⟩ (by rw [hq]; omega) (by omega)
          rw [hq, es] at q
          refine q.post ?_
          exact Ent.drop (by kernel_rfl) (by kernel_rfl) (by kernel_rfl) (by kernel_rfl) (by simp [All_cons, All_nil, Clo, d2] <;> simp [Ids]) (by simp only [List.map, All_cons, All_nil, and_true]; exact ⟨hbi.clo _, fun e he => (ints_bare _ _ e he).clo _, (gRow_bare _ _ _).clo _⟩)
        · have ep : partZ L (r.length + 1 : Nat) = Int.tdiv L (r.length + 1 : Nat) := by unfold partZ; rw [if_neg t]; omega
          rw [ep] at pr ⊢
          generalize ((r.length + 1 : Nat) : Int) = d at *
          have q := sp_even oi oh (some ⟨30, v, 0, 0, 1⟩) m ci ch 0 offi offh v i (1 + v) (1 + v) j bi (gRow (auF p m) 1 v) bi (ints N h) L 0 0 (h (offh + j)) 0 (.bool true) (by omega) hx hve (by omega) (by omega) (by rw [hq]; omega) (by omega) (by omega) (by rw [hq]; exact t) (ix_intN hsh hjm) (elem_made hg) (by rw [hq]; omega) (ix_intN hsh hjm) ⟨rfl, hg⟩ (by rw [hq]; omega) (by omega)
          rw [hq, es] at q
          refine q.post ?_
          exact Ent.drop (by kernel_rfl) (by kernel_rfl) (by kernel_rfl) (by kernel_rfl) (by simp [All_cons, All_nil, Clo, d2] <;> simp [Ids]) (by simp only [List.map, All_cons, All_nil, and_true]; exact ⟨hbi.clo _, fun e he => (ints_bare _ _ e he).clo _, (gRow_bare _ _ _).clo _⟩)
      have eg : giveZ offh (j :: r) L h = giveZ offh r (L - partZ L (r.length + 1 : Nat)) fun k => if k = offh + j then h k + partZ L (r.length + 1 : Nat) else h k := by rw [giveZ]; rw [if_neg c]
      rw [eg]
      exact Loops.step st lp
end

/-- what a need lacks -/
def lackZ (h : Nat → Int) (off m : Nat) (size gap : Int) : Int := size - gap * ((m : Int) - 1) - sumTo (fun j => h (off + j)) m
/-- a need's lack shared out -/
noncomputable def sprZ (it : Nat → It) (h : Nat → Int) (offi off m : Nat) (size gap : Int) : Nat → Int := giveZ off (auL (fun j => isAuto it (offi + j)) m) (lackZ h off m size gap) h

theorem spread_does {H : AHeap} {oi oh : Option AAddr} {m ci ch ii ih offi offh N : Nat} {bi : ABlk} {it : Nat → It} {h : Nat → Int} (hm : m ≤ 4096) (hsi : SlArg oi m ci ii 0 offi 5) (hsh : SlArg oh m ch ih 0 offh 1) (hbi : BareB bi) (hN : offh + m ≤ N) (hN2 : N ≤ 4096)
    (hel : ∀ j, j < m → bi.elem? 0 (offi + j) = some (it (offi + j)).val) (hs : Spr (fun j => it (offi + j)) (fun j => h (offh + j)) m) (hh : ∀ k, k < N → 0 ≤ h k ∧ h k ≤ 2 ^ 30) {size gap : Int} (hz : 0 ≤ size ∧ size ≤ 4096) (hgp : 0 ≤ gap ∧ gap ≤ 4096) (hm1 : 1 ≤ m)
    (gi : H.get ii = some bi) (gh : H.get ih = some (.made (ints N h) 1 true)) (li : ii < H.next) (lh : ih < H.next) (hne : ii ≠ ih) :
    FDoes Try.prog 44 [.slice oi m ci, .slice oh m ch, .int .i64 size, .int .i64 gap] H (.tuple []) (H.upd [ii, ih] [bi, .made (ints N (sprZ it h offi offh m size gap)) 1 true]) := by
  have s1 := hsi.at 0
  have s2 := hsh.at 1
  have g0 : 0 ≤ gap * ((m : Int) - 1) := Int.mul_nonneg hgp.1 (by omega)
  have g1 : gap * ((m : Int) - 1) ≤ 4096 * ((m : Int) - 1) := Int.mul_le_mul_of_nonneg_right hgp.2 (by omega)
  have hl : -2 ^ 40 ≤ size - gap * ((m : Int) - 1) ∧ size - gap * ((m : Int) - 1) ≤ 4096 := by omega
  have bn : ∀ f : Nat → Int, BareB (.made (ints N f) 1 true) := fun f e he => ints_bare _ _ e he
  have d2 : Clo (Ids [0, 1]) (.slice (oh.map fun a => { a with id := 1 }) m ch) := s2.clo (by simp [Ids])
  have d3 : Clo (Ids [0, 1, 30]) (.slice (oh.map fun a => { a with id := 1 }) m ch) := s2.clo (by simp [Ids])
  have small : FDoes Try.prog 44 [.slice (oi.map fun a => { a with id := 0 }) m ci, .slice (oh.map fun a => { a with id := 1 }) m ch, .int .i64 size, .int .i64 gap] (AHeap.of [bi, .made (ints N h) 1 true]) (.tuple []) (AHeap.of [bi, .made (ints N (sprZ it h offi offh m size gap)) 1 true]) := by
    have lk := sp_lack hm s1 s2 hbi hN hel hs (size - gap * ((m : Int) - 1)) hl m (Nat.le_refl _)
    rcases sp_loopN hm s1 s2 hbi hN hel hs (size - gap * ((m : Int) - 1)) hl m 0 (by omega) rfl with ⟨q, L⟩ | ⟨v, hv, L⟩
    · rw [show size - gap * ((m : Int) - 1) - sumTo (fun j => h (offh + j)) 0 = size - gap * ((m : Int) - 1) by simp [sumTo]] at L
      have k := sp_callN _ _ none m ci ch 0 0 bi bi bi (ints N h) [] _ gap size (by omega) (by omega) (by omega) (Runs.of_loops L) (Runs.of_loops (((Loops.last (by simp) (sp_e1N none (oh.map fun a => { a with id := 1 }) none m ci ch 0 0 0 0 0 0 0 0 bi bi bi (ints N h) (size - gap * ((m : Int) - 1) - sumTo (fun j => h (offh + j)) m) gap 0 0 0 (.bool true))).post (Ent.drop (K := 74) (by kernel_rfl) (by kernel_rfl) (by kernel_rfl) (by kernel_rfl) (by simp [All_cons, All_nil, Clo]) (by simp only [List.map, All_cons, All_nil, and_true]; exact ⟨hbi.clo _, (bn _).clo _⟩))).pre (Ent.drop (by kernel_rfl) (by kernel_rfl) (by kernel_rfl) (by kernel_rfl) (by simp [All_cons, All_nil, Clo, d2]) (by simp only [List.map, All_cons, All_nil, and_true]; exact ⟨hbi.clo _, (bn _).clo _⟩))))
      have e : sprZ it h offi offh m size gap = h := by
        unfold sprZ
        rw [show auL (fun j => isAuto it (offi + j)) m = [] from q]; rfl
      rw [e]
      exact k.fin [] _ (.tuple []) (by simp [hbi]; exact bn _) rfl (by kernel_rfl) rfl (by simp [Clo, Clos]) rfl (by simp)
    · rw [show size - gap * ((m : Int) - 1) - sumTo (fun j => h (offh + j)) 0 = size - gap * ((m : Int) - 1) by simp [sumTo]] at L
      obtain ⟨e, he, L2⟩ := sp_give hm s1 s2 hbi hN hv (auL (fun j => isAuto it (offi + j)) m) 0 (lackZ h offh m size gap) h (List.drop_zero ..) (by unfold lackZ; omega) (by unfold lackZ; omega) (fun k hk => by have := hh k hk; unfold lackZ; omega)
      have pe : Ent 2 83 [(1, .slice (oh.map fun a => { a with id := 1 }) m ch), (8, .int .i64 (lackZ h offh m size gap)), (9, .slice (some ⟨30, v, 0, 0, 1⟩) (1 + v) (1 + v)), (48, .slice (some ⟨30, v, 0, 0, 1⟩) (1 + v) (1 + v)), (49, .int .i64 (1 + v : Nat)), (50, .int .i64 (0 : Nat))] (spH 69 bi N h [(30, gRow (auF (fun j => isAuto it (offi + j)) m) 1 v)]) [(1, .slice (oh.map fun a => { a with id := 1 }) m ch), (8, .int .i64 (lackZ h offh m size gap)), (9, .slice (some ⟨30, v, 0, 0, 1⟩) (1 + v) (1 + v)), (48, .slice (some ⟨30, v, 0, 0, 1⟩) (1 + v) (1 + v)), (49, .int .i64 (1 + v : Nat)), (50, .int .i64 (0 : Nat))] (spH 70 bi N h [(30, gRow (auF (fun j => isAuto it (offi + j)) m) 1 v)]) :=
        Ent.drop (by kernel_rfl) (by kernel_rfl) (by kernel_rfl) (by kernel_rfl) (by simp [All_cons, All_nil, Clo, d3]; simp [Ids]) (by simp only [List.map, All_cons, All_nil, and_true]; exact ⟨hbi.clo _, (bn _).clo _, (gRow_bare _ _ _).clo _⟩)
      have R2 := Runs.of_loops (L2.pre pe)
      rcases he with rfl | rfl
      · have k := sp_callE _ _ (some ⟨30, v, 0, 0, 1⟩) m ci ch (1 + v) (1 + v) bi _ bi (ints N h) (ints N (sprZ it h offi offh m size gap)) _ gap size (by omega) (by omega) (by omega) (Runs.of_loops L) R2
        exact k.fin [] _ (.tuple []) (by simp [hbi]; exact bn _) rfl (by kernel_rfl) rfl (by simp [Clo, Clos]) rfl (by simp)
      · have k := sp_callR _ _ (some ⟨30, v, 0, 0, 1⟩) m ci ch (1 + v) (1 + v) bi _ bi (ints N h) (ints N (sprZ it h offi offh m size gap)) _ gap size (by omega) (by omega) (by omega) (Runs.of_loops L) R2
        exact k.fin [] _ (.tuple []) (by simp [hbi]; exact bn _) rfl (by kernel_rfl) rfl (by simp [Clo, Clos]) rfl (by simp)
  have k2 := small.upW (by simp [hbi]; exact bn _) (by simp [hbi]; exact bn _) (by simp) (by simp [Clos, Clo, s1.clo, s2.clo]) (H := H) [ii, ih] (by simp [hne]) (by simp [li, lh]) (by simp [gi, gh])
  simpa [hsi.back (id' := 0) (r := toBig [ii, ih] H.next) rfl, hsh.back (id' := 1) (r := toBig [ii, ih] H.next) rfl, AVal.ren, AVal.rens] using k2
end Go.Proofs.Ytcgcpmcjaeenlaa

namespace Go.Lift

/-- two stretches change places -/
def swapR (π : Nat → Nat) (x y n k : Nat) : Nat := if x ≤ k ∧ k < x + n then π (k - x + y) else if y ≤ k ∧ k < y + n then π (k - y + x) else π k

/-- a stretch and the one behind it change places -/
def rotF (π : Nat → Nat) (a m b k : Nat) : Nat := if a ≤ k ∧ k < a + (b - m) then π (k + (m - a)) else if a + (b - m) ≤ k ∧ k < b then π (k - (b - m)) else π k

theorem rot_long (π : Nat → Nat) {i j m : Nat} (hi : i ≤ m) (hj : j < i) : rotF (swapR π (m - i) m j) (m - (i - j)) m (m + j) = rotF π (m - i) m (m + j) := by
  funext k
  unfold rotF swapR
  repeat' split
  all_goals first | rfl | (exfalso; omega) | (congr 1; omega)

theorem rot_short (π : Nat → Nat) {i j m : Nat} (hi : i ≤ m) (hj : i < j) : rotF (swapR π (m - i) (m + j - i) i) (m - i) m (m + (j - i)) = rotF π (m - i) m (m + j) := by
  funext k
  unfold rotF swapR
  repeat' split
  all_goals first | rfl | (exfalso; omega) | (congr 1; omega)

theorem rot_same (π : Nat → Nat) {i m : Nat} (hi : i ≤ m) : swapR π (m - i) m i = rotF π (m - i) m (m + i) := by
  funext k
  unfold rotF swapR
  repeat' split
  all_goals first | rfl | (exfalso; omega) | (congr 1; omega)

/-- a strict weak order, as a comparison tells it -/
structure Weak (less : Nat → Nat → Bool) : Prop where
  asym : ∀ p q, less p q = true → less q p = false
  trans : ∀ p q r, less q p = false → less r q = false → less r p = false

/-- ahead: less, or alike and earlier -/
def Lt (less : Nat → Nat → Bool) (p q : Nat) : Prop := less p q = true ∨ (less q p = false ∧ p < q)

theorem Lt.trans {less : Nat → Nat → Bool} (w : Weak less) {p q r : Nat} (h : Lt less p q) (k : Lt less q r) : Lt less p r := by
  unfold Lt at *
  have hqp : less q p = false := by rcases h with h | h; exact w.asym _ _ h; exact h.1
  have hrq : less r q = false := by rcases k with k | k; exact w.asym _ _ k; exact k.1
  have hrp := w.trans p q r hqp hrq
  by_cases c : less p r = true
  · exact .inl c
  · have c : less p r = false := by simpa using c
    rcases h with h | h
    · -- p < q, q ≤ r, r ≤ p : q ≤ p
      have := w.trans q r p hrq c
      rw [h] at this; cases this
    · rcases k with k | k
      · have := w.trans r p q c hqp
        rw [k] at this; cases this
      · exact .inr ⟨hrp, by omega⟩

/-- the same places hold the same things, but for the order within a to b -/
structure Same (π ρ : Nat → Nat) (a b : Nat) : Prop where
  out : ∀ k, k < a ∨ b ≤ k → ρ k = π k
  perm : ((List.range' a (b - a)).map ρ).Perm ((List.range' a (b - a)).map π)

theorem Same.refl (π : Nat → Nat) (a b : Nat) : Same π π a b := ⟨fun _ _ => rfl, .refl _⟩
theorem Same.trans {π ρ σ : Nat → Nat} {a b : Nat} (h : Same π ρ a b) (k : Same ρ σ a b) : Same π σ a b :=
  ⟨fun i hi => (k.out i hi).trans (h.out i hi), k.perm.trans h.perm⟩

/-- a wider stretch -/
theorem Same.wide {π ρ : Nat → Nat} {a b c d : Nat} (h : Same π ρ a b) (h1 : c ≤ a) (h2 : b ≤ d) (h3 : a ≤ b) : Same π ρ c d := by
  refine ⟨fun k hk => h.out k (by omega), ?_⟩
  have e : List.range' c (d - c) = List.range' c (a - c) ++ (List.range' a (b - a) ++ List.range' b (d - b)) := by
    rw [show List.range' a (b - a) ++ List.range' b (d - b) = List.range' a (d - a) by
      have := List.range'_append_1 (s := a) (m := b - a) (n := d - b)
      rw [show a + (b - a) = b by omega] at this
      rw [this]; congr 1; omega]
    have := List.range'_append_1 (s := c) (m := a - c) (n := d - a)
    rw [show c + (a - c) = a by omega] at this
    rw [this]; congr 1; omega
  rw [e]
  simp only [List.map_append]
  have e1 : (List.range' c (a - c)).map ρ = (List.range' c (a - c)).map π := List.map_congr_left fun k hk => h.out k (by have := List.mem_range'_1.1 hk; omega)
  have e2 : (List.range' b (d - b)).map ρ = (List.range' b (d - b)).map π := List.map_congr_left fun k hk => h.out k (by have := List.mem_range'_1.1 hk; omega)
  rw [e1, e2]
  exact (List.Perm.refl _).append (h.perm.append (.refl _))

/-- what stands in the stretch is what stood there -/
theorem Same.from {π ρ : Nat → Nat} {a b k : Nat} (h : Same π ρ a b) (h1 : a ≤ k) (h2 : k < b) : ∃ j, a ≤ j ∧ j < b ∧ ρ k = π j := by
  have hm : ρ k ∈ (List.range' a (b - a)).map ρ := List.mem_map.2 ⟨k, List.mem_range'_1.2 ⟨h1, by omega⟩, rfl⟩
  obtain ⟨j, hj, e⟩ := List.mem_map.1 (h.perm.mem_iff.1 hm)
  have := List.mem_range'_1.1 hj
  exact ⟨j, this.1, by omega, e.symm⟩

/-- two neighbours change places -/
def swap1 (π : Nat → Nat) (i k : Nat) : Nat := if k = i then π (i + 1) else if k = i + 1 then π i else π k

theorem rotF_same (π : Nat → Nat) {a m b : Nat} (h1 : a ≤ m) (h2 : m ≤ b) : Same π (rotF π a m b) a b := by
  refine ⟨fun k hk => by unfold rotF; rw [if_neg (by omega), if_neg (by omega)], ?_⟩
  have e1 : List.range' a (b - a) = List.range' a (b - m) ++ List.range' (a + (b - m)) (m - a) := by
    rw [List.range'_append_1]; congr 1; omega
  have e2 : List.range' a (b - a) = List.range' a (m - a) ++ List.range' m (b - m) := by
    have := List.range'_append_1 (s := a) (m := m - a) (n := b - m)
    rw [show a + (m - a) = m by omega] at this
    rw [this]; congr 1; omega
  have f1 : (List.range' a (b - m)).map (rotF π a m b) = (List.range' m (b - m)).map π := by
    apply List.ext_getElem (by simp)
    intro i h3 h4
    simp only [List.length_map, List.length_range'] at h3
    simp only [List.getElem_map, List.getElem_range', Nat.one_mul]
    unfold rotF
    rw [if_pos (by omega)]; congr 1; omega
  have f2 : (List.range' (a + (b - m)) (m - a)).map (rotF π a m b) = (List.range' a (m - a)).map π := by
    apply List.ext_getElem (by simp)
    intro i h3 h4
    simp only [List.length_map, List.length_range'] at h3
    simp only [List.getElem_map, List.getElem_range', Nat.one_mul]
    unfold rotF
    rw [if_neg (by omega), if_pos (by omega)]; congr 1; omega
  rw [show (List.range' a (b - a)).map (rotF π a m b) = (List.range' m (b - m)).map π ++ (List.range' a (m - a)).map π by rw [e1, List.map_append, f1, f2],
    show (List.range' a (b - a)).map π = (List.range' a (m - a)).map π ++ (List.range' m (b - m)).map π by rw [e2, List.map_append]]
  exact List.perm_append_comm

/-- in order from a to b -/
def Srt (less : Nat → Nat → Bool) (π : Nat → Nat) (a b : Nat) : Prop := ∀ i j, a ≤ i → i < j → j < b → Lt less (π i) (π j)

/-- what merges are asked: both in order, and what stands in the first is earlier -/
structure Parts (less : Nat → Nat → Bool) (π : Nat → Nat) (a m b : Nat) : Prop where
  one : Srt less π a m
  two : Srt less π m b
  cross : ∀ i j, a ≤ i → i < m → m ≤ j → j < b → π i < π j

section
variable {less : Nat → Nat → Bool} (w : Weak less)
include w

theorem Lt.le {p q : Nat} (h : Lt less p q) : less q p = false := by
  rcases h with h | h
  · exact w.asym _ _ h
  · exact h.1

/-- p < q ≤ r -/
theorem less_le {p q r : Nat} (h : less p q = true) (k : less r q = false) : less p r = true := by
  cases c : less p r with
  | true => rfl
  | false =>
    have := w.trans q r p k c
    rw [h] at this; cases this

/-- p ≤ q < r -/
theorem le_less {p q r : Nat} (h : less q p = false) (k : less q r = true) : less p r = true := by
  cases c : less p r with
  | true => rfl
  | false =>
    have := w.trans r p q c h
    rw [k] at this; cases this

/-! insertion -/
omit w in
/-- the thing at i is moved down to j -/
def insAt (π : Nat → Nat) (j i k : Nat) : Nat := if k = j then π i else if j < k ∧ k ≤ i then π (k - 1) else π k

omit w in
theorem insAt_self (π : Nat → Nat) (i : Nat) : insAt π i i = π := by
  funext k; unfold insAt
  repeat' split
  all_goals first | rfl | (exfalso; omega) | (congr 1; omega)

omit w in
theorem insAt_step (π : Nat → Nat) {j i : Nat} (h0 : 0 < j) (h : j ≤ i) : swap1 (insAt π j i) (j - 1) = insAt π (j - 1) i := by
  funext k; unfold swap1 insAt
  repeat' split
  all_goals first | rfl | (exfalso; omega) | (congr 1; omega)

omit w in
theorem insAt_rot (π : Nat → Nat) {j i : Nat} (h : j ≤ i) : insAt π j i = rotF π j i (i + 1) := by
  funext k; unfold rotF insAt
  repeat' split
  all_goals first | rfl | (exfalso; omega) | (congr 1; omega)

theorem ins_done {π : Nat → Nat} {a i j : Nat} (h1 : Srt less π a i) (he : ∀ k, a ≤ k → k < i → π k < π i) (hj : a ≤ j) (hji : j ≤ i) (hr : ∀ k, j ≤ k → k < i → less (π i) (π k) = true) (hl : j = a ∨ less (π i) (π (j - 1)) = false) : Srt less (insAt π j i) a (i + 1) := by
  have before : ∀ k, a ≤ k → k < j → Lt less (π k) (π i) := by
    intro k hk hkj
    rcases hl with rfl | hl
    · omega
    · refine .inr ⟨?_, he k hk (by omega)⟩
      by_cases e : k = j - 1
      · subst e; exact hl
      · exact w.trans _ _ _ (Lt.le w (h1 k (j - 1) hk (by omega) (by omega))) hl
  intro x y hx hxy hy
  unfold insAt
  by_cases c1 : x = j
  · rw [if_pos c1, if_neg (by omega), if_pos ⟨by omega, by omega⟩]
    exact .inl (hr _ (by omega) (by omega))
  · rw [if_neg c1]
    by_cases c2 : j < x ∧ x ≤ i
    · rw [if_pos c2, if_neg (by omega), if_pos ⟨by omega, by omega⟩]
      exact h1 _ _ (by omega) (by omega) (by omega)
    · rw [if_neg c2]
      by_cases c3 : y = j
      · rw [if_pos c3]; exact before x hx (by omega)
      · rw [if_neg c3]
        by_cases c4 : j < y ∧ y ≤ i
        · rw [if_pos c4]
          exact h1 _ _ hx (by omega) (by omega)
        · rw [if_neg c4]; exact h1 _ _ hx hxy (by omega)

/-! one thing ahead of a stretch that is in order -/
omit w in
theorem rot1_zero (π : Nat → Nat) (a : Nat) : rotF π a (a + 1) (a + 1) = π := by
  funext k; unfold rotF
  repeat' split
  all_goals first | rfl | (exfalso; omega) | (congr 1; omega)

omit w in
theorem rot1_step (π : Nat → Nat) {a k : Nat} (h : a ≤ k) : swap1 (rotF π a (a + 1) (k + 1)) k = rotF π a (a + 1) (k + 2) := by
  funext x; unfold swap1 rotF
  repeat' split
  all_goals first | rfl | (exfalso; omega) | (congr 1; omega)

theorem merge_one {π : Nat → Nat} {a b i : Nat} (h : Parts less π a (a + 1) b) (hi : a + 1 ≤ i) (hb : i ≤ b) (hl : i = a + 1 ∨ less (π (i - 1)) (π a) = true) (hr : i = b ∨ less (π i) (π a) = false) : Srt less (rotF π a (a + 1) i) a b := by
  have before : ∀ k, a + 1 ≤ k → k < i → less (π k) (π a) = true := by
    intro k hk hki
    rcases hl with rfl | hl
    · omega
    · by_cases e : k = i - 1
      · subst e; exact hl
      · exact le_less w (Lt.le w (h.two k (i - 1) hk (by omega) (by omega))) hl
  have behind : ∀ k, i ≤ k → k < b → Lt less (π a) (π k) := by
    intro k hk hkb
    rcases hr with rfl | hr
    · omega
    · refine .inr ⟨?_, h.cross a k (by omega) (by omega) (by omega) hkb⟩
      by_cases e : k = i
      · subst e; exact hr
      · exact w.trans _ _ _ hr (Lt.le w (h.two i k (by omega) (by omega) hkb))
  intro x y hx hxy hy
  unfold rotF
  by_cases c1 : a ≤ x ∧ x < a + (i - (a + 1))
  · rw [if_pos c1]
    by_cases c2 : a ≤ y ∧ y < a + (i - (a + 1))
    · rw [if_pos c2]; exact h.two _ _ (by omega) (by omega) (by omega)
    · rw [if_neg c2]
      by_cases c3 : a + (i - (a + 1)) ≤ y ∧ y < i
      · rw [if_pos c3, show y - (i - (a + 1)) = a by omega]
        exact .inl (before _ (by omega) (by omega))
      · rw [if_neg c3]; exact h.two _ _ (by omega) (by omega) (by omega)
  · rw [if_neg c1]
    by_cases c2 : a + (i - (a + 1)) ≤ x ∧ x < i
    · rw [if_pos c2, if_neg (by omega), if_neg (by omega), show x - (i - (a + 1)) = a by omega]
      exact behind y (by omega) hy
    · rw [if_neg c2, if_neg (by omega), if_neg (by omega)]
      exact h.two _ _ (by omega) hxy hy

/-! one thing behind a stretch that is in order -/
omit w in
theorem rotL_zero (π : Nat → Nat) (m : Nat) : rotF π m m (m + 1) = π := by
  funext k; unfold rotF
  repeat' split
  all_goals first | rfl | (exfalso; omega) | (congr 1; omega)

omit w in
theorem rotL_step (π : Nat → Nat) {k m : Nat} (h : k ≤ m) (h0 : 0 < k) : swap1 (rotF π k m (m + 1)) (k - 1) = rotF π (k - 1) m (m + 1) := by
  funext x; unfold swap1 rotF
  repeat' split
  all_goals first | rfl | (exfalso; omega) | (congr 1; omega)

theorem merge_last {π : Nat → Nat} {a m i : Nat} (h : Parts less π a m (m + 1)) (hi : a ≤ i) (hm : i ≤ m) (hl : i = a ∨ less (π m) (π (i - 1)) = false) (hr : i = m ∨ less (π m) (π i) = true) : Srt less (rotF π i m (m + 1)) a (m + 1) := by
  rw [← insAt_rot π hm]
  refine ins_done w h.one (fun k h1 h2 => h.cross k m h1 h2 (Nat.le_refl _) (by omega)) hi hm ?_ hl
  intro k hk hkm
  rcases hr with rfl | hr
  · omega
  · by_cases e : k = i
    · subst e; exact hr
    · exact less_le w hr (Lt.le w (h.one i k hi (by omega) hkm))

/-! both halves -/
theorem merge_split {π : Nat → Nat} {a m b mid start : Nat} (h : Parts less π a m b) (hm1 : a < m) (hm2 : m < b) (hmid : mid = (a + b) / 2)
    (hs1 : (if mid < m then mid + m - b else a) ≤ start) (hs2 : start ≤ (if mid < m then mid else m))
    (hl : start = (if mid < m then mid + m - b else a) ∨ less (π (mid + m - 1 - (start - 1))) (π (start - 1)) = false) (hr : start = (if mid < m then mid else m) ∨ less (π (mid + m - 1 - start)) (π start) = true) :
    Parts less (rotF π start m (mid + m - start)) a start mid ∧ Parts less (rotF π start m (mid + m - start)) mid (mid + m - start) b ∧
    ∀ i j, a ≤ i → i < mid → mid ≤ j → j < b → Lt less (rotF π start m (mid + m - start) i) (rotF π start m (mid + m - start) j) := by
  have b1 : a ≤ start ∧ start ≤ m ∧ start ≤ mid ∧ m ≤ mid + m - start ∧ mid + m - start ≤ b := by
    split at hs1 <;> split at hs2 <;> omega
  -- what stands where
  have vA : ∀ k, a ≤ k → k < start → rotF π start m (mid + m - start) k = π k := fun k h1 h2 => by unfold rotF; rw [if_neg (by omega), if_neg (by omega)]
  have vB : ∀ k, start ≤ k → k < mid → rotF π start m (mid + m - start) k = π (k + (m - start)) := fun k h1 h2 => by unfold rotF; rw [if_pos (by omega)]
  have vC : ∀ k, mid ≤ k → k < mid + m - start → rotF π start m (mid + m - start) k = π (k - (mid - start)) := fun k h1 h2 => by unfold rotF; rw [if_neg (by omega), if_pos (by omega)]; congr 1; omega
  have vD : ∀ k, mid + m - start ≤ k → k < b → rotF π start m (mid + m - start) k = π k := fun k h1 h2 => by unfold rotF; rw [if_neg (by omega), if_neg (by omega)]
  -- A1 (a to start) against B2 (end to b)
  have ad : ∀ i j, a ≤ i → i < start → mid + m - start ≤ j → j < b → Lt less (π i) (π j) := by
    intro i j h1 h2 h3 h4
    refine .inr ⟨?_, h.cross i j h1 (by omega) (by omega) h4⟩
    rcases hl with hl | hl
    · split at hl <;> omega
    · have e : mid + m - 1 - (start - 1) = mid + m - start := by omega
      rw [e] at hl
      have k1 : less (π (start - 1)) (π i) = false := by
        by_cases c : i = start - 1
        · subst c
          cases hq : less (π (start - 1)) (π (start - 1)) with
          | false => rfl
          | true => rw [w.asym _ _ hq] at hq; cases hq
        · exact Lt.le w (h.one i (start - 1) h1 (by omega) (by omega))
      have k2 : less (π j) (π (mid + m - start)) = false := by
        by_cases c : j = mid + m - start
        · subst c
          cases hq : less (π (mid + m - start)) (π (mid + m - start)) with
          | false => rfl
          | true => rw [w.asym _ _ hq] at hq; cases hq
        · exact Lt.le w (h.two _ j (by omega) (by omega) h4)
      exact w.trans _ _ _ (w.trans _ _ _ k1 hl) k2
  -- B1 (m to end) against A2 (start to m)
  have bc : ∀ i j, m ≤ i → i < mid + m - start → start ≤ j → j < m → Lt less (π i) (π j) := by
    intro i j h1 h2 h3 h4
    rcases hr with hr | hr
    · split at hr <;> omega
    · refine .inl ?_
      have k1 : less (π (mid + m - 1 - start)) (π i) = false := by
        by_cases c : i = mid + m - 1 - start
        · subst c
          cases hq : less (π (mid + m - 1 - start)) (π (mid + m - 1 - start)) with
          | false => rfl
          | true => rw [w.asym _ _ hq] at hq; cases hq
        · exact Lt.le w (h.two i _ h1 (by omega) (by omega))
      have k2 : less (π j) (π start) = false := by
        by_cases c : j = start
        · subst c
          cases hq : less (π j) (π j) with
          | false => rfl
          | true => rw [w.asym _ _ hq] at hq; cases hq
        · exact Lt.le w (h.one start j (by omega) (by omega) h4)
      exact less_le w (le_less w k1 hr) k2
  refine ⟨⟨?_, ?_, ?_⟩, ⟨?_, ?_, ?_⟩, ?_⟩
  · intro i j h1 h2 h3
    rw [vA i h1 (by omega), vA j (by omega) h3]; exact h.one i j h1 h2 (by omega)
  · intro i j h1 h2 h3
    rw [vB i h1 (by omega), vB j (by omega) h3]; exact h.two _ _ (by omega) (by omega) (by omega)
  · intro i j h1 h2 h3 h4
    rw [vA i h1 h2, vB j h3 h4]; exact h.cross _ _ h1 (by omega) (by omega) (by omega)
  · intro i j h1 h2 h3
    rw [vC i h1 (by omega), vC j (by omega) h3]; exact h.one _ _ (by omega) (by omega) (by omega)
  · intro i j h1 h2 h3
    rw [vD i h1 (by omega), vD j (by omega) h3]; exact h.two _ _ (by omega) h2 h3
  · intro i j h1 h2 h3 h4
    rw [vC i h1 h2, vD j h3 h4]; exact h.cross _ _ (by omega) (by omega) (by omega) h4
  · intro i j h1 h2 h3 h4
    by_cases c1 : i < start <;> by_cases c2 : j < mid + m - start
    · rw [vA i h1 c1, vC j h3 c2]; exact h.one _ _ h1 (by omega) (by omega)
    · rw [vA i h1 c1, vD j (by omega) h4]; exact ad _ _ h1 c1 (by omega) h4
    · rw [vB i (by omega) h2, vC j h3 c2]; exact bc _ _ (by omega) (by omega) (by omega) (by omega)
    · rw [vB i (by omega) h2, vD j (by omega) h4]; exact h.two _ _ (by omega) (by omega) h4

omit w in
/-- both halves in order -/
theorem merge_join {ρ σ : Nat → Nat} {a mid b : Nat} (h1 : a ≤ mid) (h2 : mid ≤ b) (s1 : Same ρ σ a mid) (k1 : Srt less σ a mid) {τ : Nat → Nat} (s2 : Same σ τ mid b) (k2 : Srt less τ mid b)
    (hc : ∀ i j, a ≤ i → i < mid → mid ≤ j → j < b → Lt less (ρ i) (ρ j)) : Srt less τ a b := by
  intro i j hi hij hj
  by_cases c1 : j < mid
  · rw [s2.out i (.inl (by omega)), s2.out j (.inl c1)]; exact k1 i j hi hij c1
  · by_cases c2 : mid ≤ i
    · exact k2 i j c2 hij hj
    · rw [s2.out i (.inl (by omega))]
      obtain ⟨x, x1, x2, ex⟩ := s1.from (k := i) hi (by omega)
      obtain ⟨y, y1, y2, ey⟩ := s2.from (k := j) (by omega) hj
      rw [ex, ey, s1.out y (.inr y1)]
      exact hc x y x1 x2 y1 y2
end

end Go.Lift

namespace Go.Proofs.Ytcgcpmcjaeenlaa
open Go.Lift
set_option maxRecDepth 1000000
set_option linter.unusedSimpArgs false
set_option linter.unusedVariables false

theorem qswr_step (vv ff N : Nat) (g : FuncId) (cs : List AVal) (l : List AVal) (b1 b2 : ABlk) (n i a b : Nat) (xa xb xc ya yb yc ua ub uc va vb vc : Int) (hc_0 : (i : Int) < (n : Int)) (hc_1 : -9223372036854775808 ≤ (a : Int) + (i : Int) ∧ (a : Int) + (i : Int) ≤ 9223372036854775807) (hc_2 : -9223372036854775808 ≤ (b : Int) + (i : Int) ∧ (b : Int) + (i : Int) ≤ 9223372036854775807) (hc_3 : -9223372036854775808 ≤ (b : Int) + (i : Int) ∧ (b : Int) + (i : Int) ≤ 9223372036854775807) (hc_4 : aindexAddr env.D 31 (.slice (some ⟨0, vv, 0, 0, 3⟩) N N) (.int .i64 ((b : Int) + (i : Int))) = some (.ptr (some ⟨0, vv, b + i, 0, 3⟩))) (hc_5 : ABlk.elem? ⟨l, 3, false, false, vv, vv, ff⟩ vv (b + i) = some (.agg [.int .i64 ya, .int .i64 yb, .int .i64 yc])) (hc_6 : -9223372036854775808 ≤ (a : Int) + (i : Int) ∧ (a : Int) + (i : Int) ≤ 9223372036854775807) (hc_7 : aindexAddr env.D 31 (.slice (some ⟨0, vv, 0, 0, 3⟩) N N) (.int .i64 ((a : Int) + (i : Int))) = some (.ptr (some ⟨0, vv, a + i, 0, 3⟩))) (hc_8 : ABlk.elem? ⟨l, 3, false, false, vv, vv, ff⟩ vv (a + i) = some (.agg [.int .i64 xa, .int .i64 xb, .int .i64 xc])) (hc_9 : aindexAddr env.D 31 (.slice (some ⟨0, vv, 0, 0, 3⟩) N N) (.int .i64 ((a : Int) + (i : Int))) = some (.ptr (some ⟨0, vv, a + i, 0, 3⟩))) (hc_10 : vv = vv ∧ l[a + i]? = some (.agg [.int .i64 ua, .int .i64 ub, .int .i64 uc])) (hc_11 : aindexAddr env.D 31 (.slice (some ⟨0, vv, 0, 0, 3⟩) N N) (.int .i64 ((b : Int) + (i : Int))) = some (.ptr (some ⟨0, vv, b + i, 0, 3⟩))) (hc_12 : vv = vv ∧ (List.set l (a + i) (.agg [.int .i64 ya, .int .i64 yb, .int .i64 yc]))[b + i]? = some (.agg [.int .i64 va, .int .i64 vb, .int .i64 vc])) (hc_13 : -9223372036854775808 ≤ (i : Int) + 1 ∧ (i : Int) + (1 : Int) ≤ 9223372036854775807) :
    Runs Try.prog 3 38 (loopAt Try.prog 81 0) [(0, .slice (some ⟨0, vv, 0, 0, 3⟩) N N), (1, .int .i64 a), (2, .int .i64 b), (3, .int .i64 n), (10, .int .i64 i)] (AHeap.rows 4 [(0, ⟨l, 3, false, false, vv, vv, ff⟩), (1, b1), (2, b2)]) .normal [(0, .slice (some ⟨0, vv, 0, 0, 3⟩) N N), (1, .int .i64 (a : Int)), (2, .int .i64 (b : Int)), (3, .int .i64 (n : Int)), (10, .int .i64 ((i : Int) + 1))] (AHeap.rows 34 [(0, ⟨List.set (List.set l (a + i) (.agg [.int .i64 ya, .int .i64 yb, .int .i64 yc])) (b + i) (.agg [.int .i64 xa, .int .i64 xb, .int .i64 xc]), 3, false, false, vv, vv, ff⟩), (1, b1), (2, b2)]) :=
  ppath_runs env_ok mixed (hs := [.val 1002 (.bool true), .go 3003, .go 3007, .go 3011, .val 3012 (.ptr (some ⟨0, vv, b + i, 0, 3⟩)), .ld 3013 (.agg [.int .i64 ya, .int .i64 yb, .int .i64 yc]), .go 3017, .val 3018 (.ptr (some ⟨0, vv, a + i, 0, 3⟩)), .ld 3019 (.agg [.int .i64 xa, .int .i64 xb, .int .i64 xc]), .val 3020 (.ptr (some ⟨0, vv, a + i, 0, 3⟩)), .st 3021 (.agg [.int .i64 ua, .int .i64 ub, .int .i64 uc]), .val 3022 (.ptr (some ⟨0, vv, b + i, 0, 3⟩)), .st 3023 (.agg [.int .i64 va, .int .i64 vb, .int .i64 vc]), .go 2001]) (keep := [0, 1, 2, 3, 10]) (by kernel_rfl) (All.cons (okT hc_0) (All.cons hc_1 (All.cons hc_2 (All.cons hc_3 (All.cons hc_4 (All.cons hc_5 (All.cons hc_6 (All.cons hc_7 (All.cons hc_8 (All.cons hc_9 (All.cons hc_10 (All.cons hc_11 (All.cons hc_12 (All.cons hc_13 (All.nil)))))))))))))))

theorem qswr_end (vv ff N : Nat) (g : FuncId) (cs : List AVal) (l : List AVal) (b1 b2 : ABlk) (n i a b : Nat) (hc_0 : ¬ ((i : Int) < (n : Int))) :
    Runs Try.prog 3 38 (loopAt Try.prog 81 0) [(0, .slice (some ⟨0, vv, 0, 0, 3⟩) N N), (1, .int .i64 a), (2, .int .i64 b), (3, .int .i64 n), (10, .int .i64 i)] (AHeap.rows 4 [(0, ⟨l, 3, false, false, vv, vv, ff⟩), (1, b1), (2, b2)]) (.exit 0) [] (AHeap.rows 7 [(0, ⟨l, 3, false, false, vv, vv, ff⟩), (1, b1), (2, b2)]) :=
  ppath_runs env_ok mixed (hs := [.val 1002 (.bool false)]) (keep := []) (by kernel_rfl) (All.cons (okF hc_0) (All.nil))

theorem qswr_call (vv ff N : Nat) (g : FuncId) (cs : List AVal) (l : List AVal) (b1 b2 : ABlk) (n a b : Nat) (l' : List AVal) (hc_0 : Runs Try.prog 3 38 (.loop (loopAt Try.prog 81 0)) [(0, .slice (some ⟨0, vv, 0, 0, 3⟩) N N), (1, .int .i64 (a : Int)), (2, .int .i64 (b : Int)), (3, .int .i64 (n : Int)), (10, .int .i64 0)] (AHeap.rows 4 [(0, ⟨l, 3, false, false, vv, vv, ff⟩), (1, b1), (2, b2)]) (.exit 0) [] (AHeap.rows 7 [(0, ⟨l', 3, false, false, vv, vv, ff⟩), (1, b1), (2, b2)])) :
    FDoes Try.prog 81 [.slice (some ⟨0, vv, 0, 0, 3⟩) N N, .int .i64 a, .int .i64 b, .int .i64 n, .func (.func g) [] cs] (AHeap.of [⟨l, 3, false, false, vv, vv, ff⟩, b1, b2]) (.tuple []) (AHeap.rows 7 [(0, ⟨l', 3, false, false, vv, vv, ff⟩), (1, b1), (2, b2)]) :=
  pcall_does env_ok mixed (hs := [.keep [0, 1, 2, 3, 10], .loop [] (AHeap.rows 7 [(0, ⟨l', 3, false, false, vv, vv, ff⟩), (1, b1), (2, b2)]) (.exit 0)]) (rs := []) (by kernel_rfl) (All.cons hc_0 (All.nil))

theorem qrot_gt (vv ff N : Nat) (g : FuncId) (cs : List AVal) (l : List AVal) (b1 b2 : ABlk) (m i j : Nat) (l' : List AVal) (hc_0 : ¬ ((i : Int) = (j : Int))) (hc_1 : (i : Int) > (j : Int)) (hc_2 : -9223372036854775808 ≤ (m : Int) - (i : Int) ∧ (m : Int) - (i : Int) ≤ 9223372036854775807) (hc_3 : FDoes Try.prog 81 [.slice (some ⟨0, vv, 0, 0, 3⟩) N N, .int .i64 ((m : Int) - (i : Int)), .int .i64 (m : Int), .int .i64 (j : Int), .func (.func g) [] cs] (AHeap.rows 25 [(0, ⟨l, 3, false, false, vv, vv, ff⟩), (1, b1), (2, b2)]) (.tuple []) (AHeap.rows 25 [(0, ⟨l', 3, false, false, vv, vv, ff⟩), (1, b1), (2, b2)])) (hc_4 : -9223372036854775808 ≤ (i : Int) - (j : Int) ∧ (i : Int) - (j : Int) ≤ 9223372036854775807) :
    Runs Try.prog 3 58 (loopAt Try.prog 78 0) [(0, .slice (some ⟨0, vv, 0, 0, 3⟩) N N), (2, .int .i64 m), (4, .func (.func g) [] cs), (10, .int .i64 i), (11, .int .i64 j)] (AHeap.rows 11 [(0, ⟨l, 3, false, false, vv, vv, ff⟩), (1, b1), (2, b2)]) .normal [(0, .slice (some ⟨0, vv, 0, 0, 3⟩) N N), (2, .int .i64 (m : Int)), (4, .func (.func g) [] cs), (10, .int .i64 ((i : Int) - (j : Int))), (11, .int .i64 (j : Int))] (AHeap.rows 29 [(0, ⟨l', 3, false, false, vv, vv, ff⟩), (1, b1), (2, b2)]) :=
  ppath_runs env_ok mixed (hs := [.val 2002 (.bool true), .val 3002 (.bool true), .go 4003, .act 4007 (.tuple []) (fun h => h.upd [0] [⟨l', 3, false, false, vv, vv, ff⟩]), .go 5002]) (keep := [0, 2, 4, 10, 11]) (by kernel_rfl) (All.cons (neT hc_0) (All.cons (okT hc_1) (All.cons hc_2 (All.cons (CallT.mk hc_3) (All.cons hc_4 (All.nil))))))

theorem qrot_lt (vv ff N : Nat) (g : FuncId) (cs : List AVal) (l : List AVal) (b1 b2 : ABlk) (m i j : Nat) (l' : List AVal) (hc_0 : ¬ ((i : Int) = (j : Int))) (hc_1 : ¬ ((i : Int) > (j : Int))) (hc_2 : -9223372036854775808 ≤ (m : Int) - (i : Int) ∧ (m : Int) - (i : Int) ≤ 9223372036854775807) (hc_3 : -9223372036854775808 ≤ (m : Int) + (j : Int) ∧ (m : Int) + (j : Int) ≤ 9223372036854775807) (hc_4 : -9223372036854775808 ≤ (m : Int) + (j : Int) - (i : Int) ∧ (m : Int) + (j : Int) - (i : Int) ≤ 9223372036854775807) (hc_5 : FDoes Try.prog 81 [.slice (some ⟨0, vv, 0, 0, 3⟩) N N, .int .i64 ((m : Int) - (i : Int)), .int .i64 ((m : Int) + (j : Int) - (i : Int)), .int .i64 (i : Int), .func (.func g) [] cs] (AHeap.rows 29 [(0, ⟨l, 3, false, false, vv, vv, ff⟩), (1, b1), (2, b2)]) (.tuple []) (AHeap.rows 29 [(0, ⟨l', 3, false, false, vv, vv, ff⟩), (1, b1), (2, b2)])) (hc_6 : -9223372036854775808 ≤ (j : Int) - (i : Int) ∧ (j : Int) - (i : Int) ≤ 9223372036854775807) :
    Runs Try.prog 3 58 (loopAt Try.prog 78 0) [(0, .slice (some ⟨0, vv, 0, 0, 3⟩) N N), (2, .int .i64 m), (4, .func (.func g) [] cs), (10, .int .i64 i), (11, .int .i64 j)] (AHeap.rows 11 [(0, ⟨l, 3, false, false, vv, vv, ff⟩), (1, b1), (2, b2)]) .normal [(0, .slice (some ⟨0, vv, 0, 0, 3⟩) N N), (2, .int .i64 (m : Int)), (4, .func (.func g) [] cs), (10, .int .i64 (i : Int)), (11, .int .i64 ((j : Int) - (i : Int)))] (AHeap.rows 33 [(0, ⟨l', 3, false, false, vv, vv, ff⟩), (1, b1), (2, b2)]) :=
  ppath_runs env_ok mixed (hs := [.val 2002 (.bool true), .val 3002 (.bool false), .go 6003, .go 6006, .go 6008, .act 6011 (.tuple []) (fun h => h.upd [0] [⟨l', 3, false, false, vv, vv, ff⟩]), .go 7002]) (keep := [0, 2, 4, 10, 11]) (by kernel_rfl) (All.cons (neT hc_0) (All.cons (okF hc_1) (All.cons hc_2 (All.cons hc_3 (All.cons hc_4 (All.cons (CallT.mk hc_5) (All.cons hc_6 (All.nil))))))))

theorem qrot_end (vv ff N : Nat) (g : FuncId) (cs : List AVal) (l : List AVal) (b1 b2 : ABlk) (m i j : Nat) (hc_0 : (i : Int) = (j : Int)) :
    Runs Try.prog 3 58 (loopAt Try.prog 78 0) [(0, .slice (some ⟨0, vv, 0, 0, 3⟩) N N), (2, .int .i64 m), (4, .func (.func g) [] cs), (10, .int .i64 i), (11, .int .i64 j)] (AHeap.rows 11 [(0, ⟨l, 3, false, false, vv, vv, ff⟩), (1, b1), (2, b2)]) (.exit 0) [(0, .slice (some ⟨0, vv, 0, 0, 3⟩) N N), (2, .int .i64 (m : Int)), (4, .func (.func g) [] cs), (10, .int .i64 (i : Int))] (AHeap.rows 14 [(0, ⟨l, 3, false, false, vv, vv, ff⟩), (1, b1), (2, b2)]) :=
  ppath_runs env_ok mixed (hs := [.val 2002 (.bool false)]) (keep := [0, 2, 4, 10]) (by kernel_rfl) (All.cons (neF hc_0) (All.nil))

theorem qrot_call (vv ff N : Nat) (g : FuncId) (cs : List AVal) (l : List AVal) (b1 b2 : ABlk) (a m b k : Nat) (l1 l' : List AVal) (hc_0 : -9223372036854775808 ≤ (m : Int) - (a : Int) ∧ (m : Int) - (a : Int) ≤ 9223372036854775807) (hc_1 : -9223372036854775808 ≤ (b : Int) - (m : Int) ∧ (b : Int) - (m : Int) ≤ 9223372036854775807) (hc_2 : Runs Try.prog 3 58 (.loop (loopAt Try.prog 78 0)) [(0, .slice (some ⟨0, vv, 0, 0, 3⟩) N N), (2, .int .i64 (m : Int)), (4, .func (.func g) [] cs), (10, .int .i64 ((m : Int) - (a : Int))), (11, .int .i64 ((b : Int) - (m : Int)))] (AHeap.rows 11 [(0, ⟨l, 3, false, false, vv, vv, ff⟩), (1, b1), (2, b2)]) (.exit 0) [(0, .slice (some ⟨0, vv, 0, 0, 3⟩) N N), (2, .int .i64 (m : Int)), (4, .func (.func g) [] cs), (10, .int .i64 (k : Int))] (AHeap.rows 14 [(0, ⟨l1, 3, false, false, vv, vv, ff⟩), (1, b1), (2, b2)])) (hc_3 : -9223372036854775808 ≤ (m : Int) - (k : Int) ∧ (m : Int) - (k : Int) ≤ 9223372036854775807) (hc_4 : FDoes Try.prog 81 [.slice (some ⟨0, vv, 0, 0, 3⟩) N N, .int .i64 ((m : Int) - (k : Int)), .int .i64 (m : Int), .int .i64 (k : Int), .func (.func g) [] cs] (AHeap.rows 22 [(0, ⟨l1, 3, false, false, vv, vv, ff⟩), (1, b1), (2, b2)]) (.tuple []) (AHeap.rows 22 [(0, ⟨l', 3, false, false, vv, vv, ff⟩), (1, b1), (2, b2)])) :
    FDoes Try.prog 78 [.slice (some ⟨0, vv, 0, 0, 3⟩) N N, .int .i64 a, .int .i64 m, .int .i64 b, .func (.func g) [] cs] (AHeap.of [⟨l, 3, false, false, vv, vv, ff⟩, b1, b2]) (.tuple []) (AHeap.rows 22 [(0, ⟨l', 3, false, false, vv, vv, ff⟩), (1, b1), (2, b2)]) :=
  pcall_does env_ok mixed (hs := [.go 2, .go 1002, .keep [0, 2, 4, 10, 11], .loop [(0, .slice (some ⟨0, vv, 0, 0, 3⟩) N N), (2, .int .i64 m), (4, .func (.func g) [] cs), (10, .int .i64 k)] (AHeap.rows 14 [(0, ⟨l1, 3, false, false, vv, vv, ff⟩), (1, b1), (2, b2)]) (.exit 0), .go 8003, .act 8007 (.tuple []) (fun h => h.upd [0] [⟨l', 3, false, false, vv, vv, ff⟩])]) (rs := []) (by kernel_rfl) (All.cons hc_0 (All.cons hc_1 (All.cons hc_2 (All.cons hc_3 (All.cons (CallT.mk hc_4) (All.nil))))))

theorem qins_in_step (vv ff N : Nat) (g : FuncId) (cs : List AVal) (l : List AVal) (b1 b2 : ABlk) (a b i j : Nat) (xa xb xc ya yb yc c ua ub uc va vb vc : Int) (hc_0 : (j : Int) > (a : Int)) (hc_1 : aindexAddr env.D 31 (.slice (some ⟨0, vv, 0, 0, 3⟩) N N) (.int .i64 (j : Int)) = some (.ptr (some ⟨0, vv, j, 0, 3⟩))) (hc_2 : ABlk.elem? ⟨l, 3, false, false, vv, vv, ff⟩ vv j = some (.agg [.int .i64 xa, .int .i64 xb, .int .i64 xc])) (hc_3 : -9223372036854775808 ≤ (j : Int) - 1 ∧ (j : Int) - (1 : Int) ≤ 9223372036854775807) (hc_4 : aindexAddr env.D 31 (.slice (some ⟨0, vv, 0, 0, 3⟩) N N) (.int .i64 ((j : Int) - 1)) = some (.ptr (some ⟨0, vv, j - 1, 0, 3⟩))) (hc_5 : ABlk.elem? ⟨l, 3, false, false, vv, vv, ff⟩ vv (j - 1) = some (.agg [.int .i64 ya, .int .i64 yb, .int .i64 yc])) (hc_6 : FDoes Try.prog g (.agg [.int .i64 xa, .int .i64 xb, .int .i64 xc] :: .agg [.int .i64 ya, .int .i64 yb, .int .i64 yc] :: cs) (AHeap.rows 28 [(0, ⟨l, 3, false, false, vv, vv, ff⟩), (1, b1), (2, b2)]) (.int .i64 c) (AHeap.rows 28 [(0, ⟨l, 3, false, false, vv, vv, ff⟩), (1, b1), (2, b2)])) (hc_7 : c < 0) (hc_8 : -9223372036854775808 ≤ (j : Int) - 1 ∧ (j : Int) - (1 : Int) ≤ 9223372036854775807) (hc_9 : -9223372036854775808 ≤ (j : Int) - 1 ∧ (j : Int) - (1 : Int) ≤ 9223372036854775807) (hc_10 : aindexAddr env.D 31 (.slice (some ⟨0, vv, 0, 0, 3⟩) N N) (.int .i64 ((j : Int) - 1)) = some (.ptr (some ⟨0, vv, j - 1, 0, 3⟩))) (hc_11 : ABlk.elem? ⟨l, 3, false, false, vv, vv, ff⟩ vv (j - 1) = some (.agg [.int .i64 ya, .int .i64 yb, .int .i64 yc])) (hc_12 : aindexAddr env.D 31 (.slice (some ⟨0, vv, 0, 0, 3⟩) N N) (.int .i64 (j : Int)) = some (.ptr (some ⟨0, vv, j, 0, 3⟩))) (hc_13 : ABlk.elem? ⟨l, 3, false, false, vv, vv, ff⟩ vv j = some (.agg [.int .i64 xa, .int .i64 xb, .int .i64 xc])) (hc_14 : aindexAddr env.D 31 (.slice (some ⟨0, vv, 0, 0, 3⟩) N N) (.int .i64 (j : Int)) = some (.ptr (some ⟨0, vv, j, 0, 3⟩))) (hc_15 : vv = vv ∧ l[j]? = some (.agg [.int .i64 ua, .int .i64 ub, .int .i64 uc])) (hc_16 : aindexAddr env.D 31 (.slice (some ⟨0, vv, 0, 0, 3⟩) N N) (.int .i64 ((j : Int) - 1)) = some (.ptr (some ⟨0, vv, j - 1, 0, 3⟩))) (hc_17 : vv = vv ∧ (List.set l j (.agg [.int .i64 ya, .int .i64 yb, .int .i64 yc]))[j - 1]? = some (.agg [.int .i64 va, .int .i64 vb, .int .i64 vc])) (hc_18 : -9223372036854775808 ≤ (j : Int) - 1 ∧ (j : Int) - (1 : Int) ≤ 9223372036854775807) :
    Runs Try.prog 3 53 (loopAt Try.prog 72 1) [(0, .slice (some ⟨0, vv, 0, 0, 3⟩) N N), (1, .int .i64 a), (2, .int .i64 b), (3, .func (.func g) [] cs), (8, .int .i64 i), (9, .int .i64 j)] (AHeap.rows 11 [(0, ⟨l, 3, false, false, vv, vv, ff⟩), (1, b1), (2, b2)]) .normal [(0, .slice (some ⟨0, vv, 0, 0, 3⟩) N N), (1, .int .i64 (a : Int)), (2, .int .i64 (b : Int)), (3, .func (.func g) [] cs), (8, .int .i64 (i : Int)), (9, .int .i64 ((j : Int) - 1))] (AHeap.rows 49 [(0, ⟨List.set (List.set l j (.agg [.int .i64 ya, .int .i64 yb, .int .i64 yc])) (j - 1) (.agg [.int .i64 xa, .int .i64 xb, .int .i64 xc]), 3, false, false, vv, vv, ff⟩), (1, b1), (2, b2)]) :=
  ppath_runs env_ok mixed (hs := [.val 4002 (.bool true), .val 4007 (.ptr (some ⟨0, vv, j, 0, 3⟩)), .ld 4008 (.agg [.int .i64 xa, .int .i64 xb, .int .i64 xc]), .go 4011, .val 4012 (.ptr (some ⟨0, vv, j - 1, 0, 3⟩)), .ld 4013 (.agg [.int .i64 ya, .int .i64 yb, .int .i64 yc]), .val 4014 (.int .i64 c), .val 4015 (.bool true), .go 6004, .go 6007, .val 6008 (.ptr (some ⟨0, vv, j - 1, 0, 3⟩)), .ld 6009 (.agg [.int .i64 ya, .int .i64 yb, .int .i64 yc]), .val 6012 (.ptr (some ⟨0, vv, j, 0, 3⟩)), .ld 6013 (.agg [.int .i64 xa, .int .i64 xb, .int .i64 xc]), .val 6014 (.ptr (some ⟨0, vv, j, 0, 3⟩)), .st 6015 (.agg [.int .i64 ua, .int .i64 ub, .int .i64 uc]), .val 6016 (.ptr (some ⟨0, vv, j - 1, 0, 3⟩)), .st 6017 (.agg [.int .i64 va, .int .i64 vb, .int .i64 vc]), .go 5001]) (keep := [0, 1, 2, 3, 8, 9]) (by kernel_rfl) (All.cons (okT hc_0) (All.cons hc_1 (All.cons hc_2 (All.cons hc_3 (All.cons hc_4 (All.cons hc_5 (All.cons (CallT.mk hc_6) (All.cons (okT hc_7) (All.cons hc_8 (All.cons hc_9 (All.cons hc_10 (All.cons hc_11 (All.cons hc_12 (All.cons hc_13 (All.cons hc_14 (All.cons hc_15 (All.cons hc_16 (All.cons hc_17 (All.cons hc_18 (All.nil))))))))))))))))))))

theorem qins_in_out (vv ff N : Nat) (g : FuncId) (cs : List AVal) (l : List AVal) (b1 b2 : ABlk) (a b i j : Nat) (xa xb xc ya yb yc c : Int) (hc_0 : (j : Int) > (a : Int)) (hc_1 : aindexAddr env.D 31 (.slice (some ⟨0, vv, 0, 0, 3⟩) N N) (.int .i64 (j : Int)) = some (.ptr (some ⟨0, vv, j, 0, 3⟩))) (hc_2 : ABlk.elem? ⟨l, 3, false, false, vv, vv, ff⟩ vv j = some (.agg [.int .i64 xa, .int .i64 xb, .int .i64 xc])) (hc_3 : -9223372036854775808 ≤ (j : Int) - 1 ∧ (j : Int) - (1 : Int) ≤ 9223372036854775807) (hc_4 : aindexAddr env.D 31 (.slice (some ⟨0, vv, 0, 0, 3⟩) N N) (.int .i64 ((j : Int) - 1)) = some (.ptr (some ⟨0, vv, j - 1, 0, 3⟩))) (hc_5 : ABlk.elem? ⟨l, 3, false, false, vv, vv, ff⟩ vv (j - 1) = some (.agg [.int .i64 ya, .int .i64 yb, .int .i64 yc])) (hc_6 : FDoes Try.prog g (.agg [.int .i64 xa, .int .i64 xb, .int .i64 xc] :: .agg [.int .i64 ya, .int .i64 yb, .int .i64 yc] :: cs) (AHeap.rows 28 [(0, ⟨l, 3, false, false, vv, vv, ff⟩), (1, b1), (2, b2)]) (.int .i64 c) (AHeap.rows 28 [(0, ⟨l, 3, false, false, vv, vv, ff⟩), (1, b1), (2, b2)])) (hc_7 : ¬ (c < 0)) :
    Runs Try.prog 3 53 (loopAt Try.prog 72 1) [(0, .slice (some ⟨0, vv, 0, 0, 3⟩) N N), (1, .int .i64 a), (2, .int .i64 b), (3, .func (.func g) [] cs), (8, .int .i64 i), (9, .int .i64 j)] (AHeap.rows 11 [(0, ⟨l, 3, false, false, vv, vv, ff⟩), (1, b1), (2, b2)]) (.exit 2) [(0, .slice (some ⟨0, vv, 0, 0, 3⟩) N N), (1, .int .i64 (a : Int)), (2, .int .i64 (b : Int)), (3, .func (.func g) [] cs), (8, .int .i64 (i : Int))] (AHeap.rows 28 [(0, ⟨l, 3, false, false, vv, vv, ff⟩), (1, b1), (2, b2)]) :=
  ppath_runs env_ok mixed (hs := [.val 4002 (.bool true), .val 4007 (.ptr (some ⟨0, vv, j, 0, 3⟩)), .ld 4008 (.agg [.int .i64 xa, .int .i64 xb, .int .i64 xc]), .go 4011, .val 4012 (.ptr (some ⟨0, vv, j - 1, 0, 3⟩)), .ld 4013 (.agg [.int .i64 ya, .int .i64 yb, .int .i64 yc]), .val 4014 (.int .i64 c), .val 4015 (.bool false)]) (keep := [0, 1, 2, 3, 8]) (by kernel_rfl) (All.cons (okT hc_0) (All.cons hc_1 (All.cons hc_2 (All.cons hc_3 (All.cons hc_4 (All.cons hc_5 (All.cons (CallT.mk hc_6) (All.cons (okF hc_7) (All.nil)))))))))

theorem qins_in_a (vv ff N : Nat) (g : FuncId) (cs : List AVal) (l : List AVal) (b1 b2 : ABlk) (a b i j : Nat) (hc_0 : ¬ ((j : Int) > (a : Int))) :
    Runs Try.prog 3 53 (loopAt Try.prog 72 1) [(0, .slice (some ⟨0, vv, 0, 0, 3⟩) N N), (1, .int .i64 a), (2, .int .i64 b), (3, .func (.func g) [] cs), (8, .int .i64 i), (9, .int .i64 j)] (AHeap.rows 11 [(0, ⟨l, 3, false, false, vv, vv, ff⟩), (1, b1), (2, b2)]) (.exit 2) [(0, .slice (some ⟨0, vv, 0, 0, 3⟩) N N), (1, .int .i64 (a : Int)), (2, .int .i64 (b : Int)), (3, .func (.func g) [] cs), (8, .int .i64 (i : Int))] (AHeap.rows 28 [(0, ⟨l, 3, false, false, vv, vv, ff⟩), (1, b1), (2, b2)]) :=
  ppath_runs env_ok mixed (hs := [.val 4002 (.bool false)]) (keep := [0, 1, 2, 3, 8]) (by kernel_rfl) (All.cons (okF hc_0) (All.nil))

theorem qins_step (vv ff N : Nat) (g : FuncId) (cs : List AVal) (l : List AVal) (b1 b2 : ABlk) (a b i : Nat) (l1 : List AVal) (hc_0 : (i : Int) < (b : Int)) (hc_1 : Runs Try.prog 3 53 (.loop (loopAt Try.prog 72 1)) [(0, .slice (some ⟨0, vv, 0, 0, 3⟩) N N), (1, .int .i64 (a : Int)), (2, .int .i64 (b : Int)), (3, .func (.func g) [] cs), (8, .int .i64 (i : Int)), (9, .int .i64 (i : Int))] (AHeap.rows 11 [(0, ⟨l, 3, false, false, vv, vv, ff⟩), (1, b1), (2, b2)]) (.exit 2) [(0, .slice (some ⟨0, vv, 0, 0, 3⟩) N N), (1, .int .i64 (a : Int)), (2, .int .i64 (b : Int)), (3, .func (.func g) [] cs), (8, .int .i64 (i : Int))] (AHeap.rows 28 [(0, ⟨l1, 3, false, false, vv, vv, ff⟩), (1, b1), (2, b2)])) (hc_2 : -9223372036854775808 ≤ (i : Int) + 1 ∧ (i : Int) + (1 : Int) ≤ 9223372036854775807) :
    Runs Try.prog 3 53 (loopAt Try.prog 72 0) [(0, .slice (some ⟨0, vv, 0, 0, 3⟩) N N), (1, .int .i64 a), (2, .int .i64 b), (3, .func (.func g) [] cs), (8, .int .i64 i)] (AHeap.rows 6 [(0, ⟨l, 3, false, false, vv, vv, ff⟩), (1, b1), (2, b2)]) .normal [(0, .slice (some ⟨0, vv, 0, 0, 3⟩) N N), (1, .int .i64 (a : Int)), (2, .int .i64 (b : Int)), (3, .func (.func g) [] cs), (8, .int .i64 ((i : Int) + 1))] (AHeap.rows 31 [(0, ⟨l1, 3, false, false, vv, vv, ff⟩), (1, b1), (2, b2)]) :=
  ppath_runs env_ok mixed (hs := [.val 1002 (.bool true), .keep [0, 1, 2, 3, 8, 9], .loop [(0, .slice (some ⟨0, vv, 0, 0, 3⟩) N N), (1, .int .i64 a), (2, .int .i64 b), (3, .func (.func g) [] cs), (8, .int .i64 i)] (AHeap.rows 28 [(0, ⟨l1, 3, false, false, vv, vv, ff⟩), (1, b1), (2, b2)]) (.exit 2), .go 2001]) (keep := [0, 1, 2, 3, 8]) (by kernel_rfl) (All.cons (okT hc_0) (All.cons hc_1 (All.cons hc_2 (All.nil))))

theorem qins_end (vv ff N : Nat) (g : FuncId) (cs : List AVal) (l : List AVal) (b1 b2 : ABlk) (a b i : Nat) (hc_0 : ¬ ((i : Int) < (b : Int))) :
    Runs Try.prog 3 53 (loopAt Try.prog 72 0) [(0, .slice (some ⟨0, vv, 0, 0, 3⟩) N N), (1, .int .i64 a), (2, .int .i64 b), (3, .func (.func g) [] cs), (8, .int .i64 i)] (AHeap.rows 6 [(0, ⟨l, 3, false, false, vv, vv, ff⟩), (1, b1), (2, b2)]) (.exit 0) [] (AHeap.rows 9 [(0, ⟨l, 3, false, false, vv, vv, ff⟩), (1, b1), (2, b2)]) :=
  ppath_runs env_ok mixed (hs := [.val 1002 (.bool false)]) (keep := []) (by kernel_rfl) (All.cons (okF hc_0) (All.nil))

theorem qins_call (vv ff N : Nat) (g : FuncId) (cs : List AVal) (l : List AVal) (b1 b2 : ABlk) (a b : Nat) (l1 : List AVal) (hc_0 : -9223372036854775808 ≤ (a : Int) + 1 ∧ (a : Int) + (1 : Int) ≤ 9223372036854775807) (hc_1 : Runs Try.prog 3 53 (.loop (loopAt Try.prog 72 0)) [(0, .slice (some ⟨0, vv, 0, 0, 3⟩) N N), (1, .int .i64 (a : Int)), (2, .int .i64 (b : Int)), (3, .func (.func g) [] cs), (8, .int .i64 ((a : Int) + 1))] (AHeap.rows 6 [(0, ⟨l, 3, false, false, vv, vv, ff⟩), (1, b1), (2, b2)]) (.exit 0) [] (AHeap.rows 9 [(0, ⟨l1, 3, false, false, vv, vv, ff⟩), (1, b1), (2, b2)])) :
    FDoes Try.prog 72 [.slice (some ⟨0, vv, 0, 0, 3⟩) N N, .int .i64 a, .int .i64 b, .func (.func g) [] cs] (AHeap.of [⟨l, 3, false, false, vv, vv, ff⟩, b1, b2]) (.tuple []) (AHeap.rows 9 [(0, ⟨l1, 3, false, false, vv, vv, ff⟩), (1, b1), (2, b2)]) :=
  pcall_does env_ok mixed (hs := [.go 1, .keep [0, 1, 2, 3, 8], .loop [] (AHeap.rows 9 [(0, ⟨l1, 3, false, false, vv, vv, ff⟩), (1, b1), (2, b2)]) (.exit 0)]) (rs := []) (by kernel_rfl) (All.cons hc_0 (All.cons hc_1 (All.nil)))

end Go.Proofs.Ytcgcpmcjaeenlaa

namespace Go.Proofs.Ytcgcpmcjaeenlaa
open Go.Lift
set_option maxRecDepth 1000000
set_option linter.unusedSimpArgs false
set_option linter.unusedVariables false
set_option linter.unusedSectionVars false

/-- three numbers -/
structure Tr where
  a : Int
  b : Int
  c : Int
abbrev Tr.val (t : Tr) : AVal := .agg [.int .i64 t.a, .int .i64 t.b, .int .i64 t.c]
theorem Tr.bare (t : Tr) : Bare t.val := Bare.agg (by simp [Bare.int])

theorem slNeed : SlTy env.D 31 38 3 24 := by
  have h1 : (env.D 38).isSome = true := by kernel_rfl
  have h2 : (env.D 38).map (fun x => (x.size, x.bytes, x.zeroFits)) = some (3, 24, true) := by kernel_rfl
  obtain ⟨xd, hx⟩ := Option.isSome_iff_exists.1 h1
  rw [hx] at h2
  simp only [Option.map_some, Option.some.injEq, Prod.mk.injEq] at h2
  exact ⟨⟨⟨.slice 38, 1, 24, some (.slice none 0 0)⟩, xd, by kernel_rfl, rfl, hx, h2.1, h2.2.1, by omega, h2.2.2⟩⟩
theorem ix_neS {o : Option AAddr} {n c id ver off : Nat} (h : SlArg o n c id ver off 3) {k : IntKind} {i : Nat} (hi : i < n) :
    aindexAddr env.D 31 (.slice o n c) (.int k i) = some (.ptr (some ⟨id, ver, off + i, 0, 3⟩)) := by
  obtain ⟨d, xd, t1, t2, t3, t4, t5, t6, t7⟩ := slNeed.ty
  have := h.index (D := env.D) (t := 31) (e := 38) (d := d) (xd := xd) t1 t2 t3 t4.symm (k := k) (i := (i : Int)) (by omega) (by omega)
  simpa using this

/-- a row of needs, in an arrangement -/
def trw (N : Nat) (tw : Nat → Tr) (f : Nat → Nat) : List AVal := (List.range N).map fun k => (tw (f k)).val
theorem trw_get {N : Nat} {tw : Nat → Tr} {f : Nat → Nat} {k : Nat} (h : k < N) : (trw N tw f)[k]? = some (tw (f k)).val := by simp [trw, h]
@[simp] theorem trw_length (N : Nat) (tw : Nat → Tr) (f : Nat → Nat) : (trw N tw f).length = N := by simp [trw]
theorem trw_congr {N : Nat} {tw : Nat → Tr} {f g : Nat → Nat} (h : ∀ k, k < N → f k = g k) : trw N tw f = trw N tw g := List.map_congr_left fun k hk => by rw [h k (List.mem_range.1 hk)]
theorem trw_set {N : Nat} {tw : Nat → Tr} {f : Nat → Nat} {i p : Nat} : (trw N tw f).set i (tw p).val = trw N tw fun k => if k = i then p else f k := by
  apply List.ext_getElem (by simp)
  intro j h1 h2
  rw [List.getElem_set]
  simp only [trw, List.getElem_map, List.getElem_range]
  by_cases e : i = j
  · subst e; simp
  · rw [if_neg e, if_neg (Ne.symm e)]
/-- the row that holds them -/
abbrev TRow (vv ff : Nat) (l : List AVal) : ABlk := { elems := l, es := 3, exact := false, ro := false, ver := vv, minVer := vv, forkLen := ff }
theorem trw_mem {N : Nat} {tw : Nat → Tr} {f : Nat → Nat} {e : AVal} (he : e ∈ trw N tw f) : Bare e := by
  obtain ⟨j, _, rfl⟩ := List.mem_map.1 (show e ∈ (List.range N).map fun k => (tw (f k)).val from he)
  exact Tr.bare _
theorem trw_bare (vv ff N : Nat) (tw : Nat → Tr) (f : Nat → Nat) : BareB (TRow vv ff (trw N tw f)) := fun e he => by
  obtain ⟨j, _, rfl⟩ := List.mem_map.1 (show e ∈ (List.range N).map fun k => (tw (f k)).val from he)
  exact Tr.bare _
theorem q_trw_set_get {N : Nat} {tw : Nat → Tr} {f : Nat → Nat} {i k p : Nat} (h : k < N) : ((trw N tw f).set i (tw p).val)[k]? = some (tw (if k = i then p else f k)).val := by rw [trw_set, trw_get h]
theorem q_trw_el {vv ff N : Nat} {tw : Nat → Tr} {f : Nat → Nat} {k : Nat} (h : k < N) : (TRow vv ff (trw N tw f)).elem? vv k = some (tw (f k)).val := by
  simp only [ABlk.elem?, ABlk.lim, TRow, if_true, trw_length]
  rw [if_pos h, trw_get h]

theorem q_elA {vv ff N : Nat} {tw : Nat → Tr} {f : Nat → Nat} {k p : Nat} (h : k < N) (e : f k = p) : (TRow vv ff (trw N tw f)).elem? vv k = some (tw p).val := by rw [← e]; exact q_trw_el h

theorem q_ixS {vv N k : Nat} {e : Int} (h : e = k) (hk : k < N) : aindexAddr env.D 31 (.slice (some ⟨0, vv, 0, 0, 3⟩) N N) (.int .i64 e) = some (.ptr (some ⟨0, vv, k, 0, 3⟩)) := by
  subst h
  have := ix_neS (o := some ⟨0, vv, 0, 0, 3⟩) (n := N) (c := N) (.inl rfl) (k := .i64) hk
  rwa [Nat.zero_add] at this

noncomputable abbrev QSRow (tw : Nat → Tr) (vv ff N : Nat) (π : Nat → Nat) : ABlk := TRow vv ff (trw N tw fun k => π k)
/-- the memory while it is sorted -/
noncomputable abbrev QSH (tw : Nat → Tr) (vv ff K N : Nat) (π : Nat → Nat) (b1 b2 : ABlk) : AHeap := AHeap.rows K [(0, QSRow tw vv ff N π), (1, b1), (2, b2)]

theorem clo3 {v : AVal} (h : Clo (fun i => i < 3) v) : Clo (Ids [0, 1, 2]) v := Clo.mono (fun i hi => by
  have hi : i < 3 := hi
  show i ∈ [0, 1, 2]
  simp; omega) h
theorem clos3 {l : List AVal} (h : Clos (fun i => i < 3) l) : Clos (Ids [0, 1, 2]) l := Clos.mono (fun i hi => by
  have hi : i < 3 := hi
  show i ∈ [0, 1, 2]
  simp; omega) h
theorem q_srow_clo (tw : Nat → Tr) (vv ff N : Nat) (π : Nat → Nat) (D : Nat → Prop) : CloB D (QSRow tw vv ff N π) := fun e he => (trw_mem he).clo _

/-- at a loop's head -/
theorem QSDrop {tw : Nat → Tr} {vv ff n : Nat} {F : Facts} {K K' N : Nat} {π : Nat → Nat} {b1 b2 : ABlk} (c1 : CloB (fun i => i < 3) b1) (c2 : CloB (fun i => i < 3) b2) (hK : 3 ≤ K') (hn : F.all (fun p => Nat.blt p.1 n) = true) (hF : All (F.map fun p => Clo (Ids [0, 1, 2]) p.2)) :
    Ent 3 n F (QSH tw vv ff K N π b1 b2) F (QSH tw vv ff K' N π b1 b2) :=
  Ent.drop (by kernel_rfl) (by simp [List.all_cons, Nat.blt_eq]; omega) (by kernel_rfl) hn hF (by
    simp only [List.map, All_cons, All_nil, and_true]
    exact ⟨fun e he => (trw_mem he).clo _, fun e he => clo3 (c1 e he), fun e he => clo3 (c2 e he)⟩)

section
variable (tw : Nat → Tr) (vv ff : Nat) {N : Nat} (hN : N < 2 ^ 44) {b1 b2 : ABlk} (c1 : CloB (fun i => i < 3) b1) (c2 : CloB (fun i => i < 3) b2) {g : FuncId} {cs : List AVal} (hcs : Clos (fun i => i < 3) cs)
include tw vv ff hN c1 c2

/-! ## swapRange -/
theorem q_swr_set (π : Nat → Nat) {a b i : Nat} (hab : a + i < b) (hb : b + i < N) : ((trw N tw fun k => swapR π a b i k).set (a + i) ((tw (π (b + i))).val)).set (b + i) ((tw (π (a + i))).val) = trw N tw fun k => swapR π a b (i + 1) k := by
  rw [trw_set, trw_set]
  refine trw_congr fun k hk => ?_
  unfold swapR
  by_cases h1 : k = b + i
  · subst h1
    rw [if_pos rfl, if_neg (by omega), if_pos (by omega), show b + i - b + a = a + i by omega]
  · rw [if_neg h1]
    by_cases h2 : k = a + i
    · subst h2
      rw [if_pos rfl, if_pos (by omega), show a + i - a + b = b + i by omega]
    · rw [if_neg h2]
      by_cases h3 : a ≤ k ∧ k < a + i
      · rw [if_pos h3, if_pos (by omega)]
      · rw [if_neg h3, if_neg (show ¬ (a ≤ k ∧ k < a + (i + 1)) by omega)]
        by_cases h4 : b ≤ k ∧ k < b + i
        · rw [if_pos h4, if_pos (by omega)]
        · rw [if_neg h4, if_neg (by omega)]

theorem q_swr_loop (π : Nat → Nat) {a b n : Nat} (hab : a + n ≤ b) (hb : b + n ≤ N) : ∀ (k i : Nat), i + k = n →
    Loops Try.prog 3 38 (loopAt Try.prog 81 0) [(0, .slice (some ⟨0, vv, 0, 0, 3⟩) N N), (1, .int .i64 a), (2, .int .i64 b), (3, .int .i64 n), (10, .int .i64 i)] (QSH tw vv ff 4 N (swapR π a b i) b1 b2) (.exit 0) [] (QSH tw vv ff 7 N (swapR π a b n) b1 b2)
  | 0, i, e => by
    obtain rfl : i = n := by omega
    exact Loops.last (by simp) (qswr_end vv ff N 0 [] _ b1 b2 i i a b (by omega))
  | k + 1, i, e => by
    have ea : swapR π a b i (a + i) = π (a + i) := by unfold swapR; rw [if_neg (by omega), if_neg (by omega)]
    have eb : swapR π a b i (b + i) = π (b + i) := by unfold swapR; rw [if_neg (by omega), if_neg (by omega)]
    have s := qswr_step vv ff N 0 [] (trw N tw fun k => swapR π a b i k) b1 b2 n i a b (tw (π (a + i))).a (tw (π (a + i))).b (tw (π (a + i))).c (tw (π (b + i))).a (tw (π (b + i))).b (tw (π (b + i))).c _ _ _ _ _ _ (by omega) (by omega) (by omega) (by omega) (q_ixS (by omega) (by omega)) (q_elA (by omega) eb) (by omega) (q_ixS (by omega) (by omega)) (q_elA (by omega) ea)
      (q_ixS (by omega) (by omega)) ⟨rfl, trw_get (by omega)⟩ (q_ixS (by omega) (by omega)) ⟨rfl, q_trw_set_get (by omega)⟩ (by omega)
    rw [q_swr_set tw vv ff hN c1 c2 π (by omega) (by omega)] at s
    refine Loops.round s ?_ (q_swr_loop π hab hb k (i + 1) (by omega))
    exact QSDrop c1 c2 (by omega) (by kernel_rfl) (by simp [All_cons, All_nil, Clo]; simp [Ids])
include hcs
theorem q_swr_does (π : Nat → Nat) {a b n : Nat} (hab : a + n ≤ b) (hb : b + n ≤ N) {ea eb en : Int} (ha : ea = a) (hb' : eb = b) (hn : en = n) {K : Nat} (hK : 3 ≤ K) :
    FDoes Try.prog 81 [.slice (some ⟨0, vv, 0, 0, 3⟩) N N, .int .i64 ea, .int .i64 eb, .int .i64 en, .func (.func g) [] cs] (QSH tw vv ff K N π b1 b2) (.tuple []) (QSH tw vv ff K N (swapR π a b n) b1 b2) := by
  subst ha hb' hn
  have l := q_swr_loop tw vv ff hN c1 c2 π hab hb n 0 (by omega)
  rw [show swapR π a b 0 = π by funext k; unfold swapR; rw [if_neg (by omega), if_neg (by omega)]] at l
  exact (qswr_call vv ff N g cs _ b1 b2 n a b _ (Runs.of_loops l)).all3 (by kernel_rfl) ⟨fun _ => rfl, by simp [Clo, Clos]⟩ (q_srow_clo _ _ _ _ _ _) (q_srow_clo _ _ _ _ _ _) c1 c2 (by simp [Clos, Clo, hcs]) hK

/-! ## rotate -/
theorem q_rot_loop {m : Nat} (hmN : m ≤ N) : ∀ (fuel i j : Nat) (π : Nat → Nat), i + j ≤ fuel → 0 < i → 0 < j → i ≤ m → m + j ≤ N →
    ∃ (k : Nat) (ρ : Nat → Nat), 0 < k ∧ k ≤ m ∧ m + k ≤ N ∧ rotF ρ (m - k) m (m + k) = rotF π (m - i) m (m + j) ∧
    Loops Try.prog 3 58 (loopAt Try.prog 78 0) [(0, .slice (some ⟨0, vv, 0, 0, 3⟩) N N), (2, .int .i64 m), (4, .func (.func g) [] cs), (10, .int .i64 i), (11, .int .i64 j)] (QSH tw vv ff 11 N π b1 b2)
      (.exit 0) [(0, .slice (some ⟨0, vv, 0, 0, 3⟩) N N), (2, .int .i64 m), (4, .func (.func g) [] cs), (10, .int .i64 k)] (QSH tw vv ff 14 N ρ b1 b2)
  | 0, i, j, π, h, hi, hj, him, hjm => by omega
  | fuel + 1, i, j, π, h, hi, hj, him, hjm => by
    by_cases hij : i = j
    · subst hij
      exact ⟨i, π, hi, him, hjm, rfl, Loops.last (by simp) (qrot_end vv ff N g cs _ b1 b2 m i i rfl)⟩
    · by_cases hgt : j < i
      · obtain ⟨k, ρ, k1, k2, k3, k4, k5⟩ := q_rot_loop hmN fuel (i - j) j (swapR π (m - i) m j) (by omega) (by omega) hj (by omega) hjm
        refine ⟨k, ρ, k1, k2, k3, k4.trans (rot_long π him hgt), ?_⟩
        have s := qrot_gt vv ff N g cs (trw N tw fun k => π k) b1 b2 m i j (trw N tw fun k => swapR π (m - i) m j k) (by omega) (by omega) (by omega) (q_swr_does tw vv ff hN c1 c2 hcs π (by omega) (by omega) (by omega) rfl rfl (by omega)) (by omega)
        rw [show (i : Int) - (j : Int) = ((i - j : Nat) : Int) by omega] at s
        exact Loops.round s (QSDrop c1 c2 (by omega) (by kernel_rfl) (by simp [All_cons, All_nil, Clo, Clos, clos3 hcs]; simp [Ids])) k5
      · obtain ⟨k, ρ, k1, k2, k3, k4, k5⟩ := q_rot_loop hmN fuel i (j - i) (swapR π (m - i) (m + j - i) i) (by omega) hi (by omega) him (by omega)
        refine ⟨k, ρ, k1, k2, k3, k4.trans (rot_short π him (by omega)), ?_⟩
        have s := qrot_lt vv ff N g cs (trw N tw fun k => π k) b1 b2 m i j (trw N tw fun k => swapR π (m - i) (m + j - i) i k) (by omega) (by omega) (by omega) (by omega) (by omega) (q_swr_does tw vv ff hN c1 c2 hcs π (by omega) (by omega) (by omega) (by omega) rfl (by omega)) (by omega)
        rw [show (j : Int) - (i : Int) = ((j - i : Nat) : Int) by omega] at s
        exact Loops.round s (QSDrop c1 c2 (by omega) (by kernel_rfl) (by simp [All_cons, All_nil, Clo, Clos, clos3 hcs]; simp [Ids])) k5

theorem q_rot_does (π : Nat → Nat) {a m b : Nat} (ham : a < m) (hmb : m < b) (hb : b ≤ N) {ea em eb : Int} (ha : ea = a) (hm : em = m) (hb' : eb = b) {K : Nat} (hK : 3 ≤ K) :
    FDoes Try.prog 78 [.slice (some ⟨0, vv, 0, 0, 3⟩) N N, .int .i64 ea, .int .i64 em, .int .i64 eb, .func (.func g) [] cs] (QSH tw vv ff K N π b1 b2) (.tuple []) (QSH tw vv ff K N (rotF π a m b) b1 b2) := by
  subst ha hm hb'
  obtain ⟨k, ρ, k1, k2, k3, k4, k5⟩ := q_rot_loop tw vv ff hN c1 c2 hcs (m := m) (by omega) (b - a) (m - a) (b - m) π (by omega) (by omega) (by omega) (by omega) (by omega)
  rw [show m - (m - a) = a by omega, show m + (b - m) = b by omega, ← rot_same ρ k2] at k4
  have r := Runs.of_loops k5
  rw [show ((m - a : Nat) : Int) = (m : Int) - (a : Int) by omega, show ((b - m : Nat) : Int) = (b : Int) - (m : Int) by omega] at r
  have c := qrot_call vv ff N g cs _ b1 b2 a m b k _ (trw N tw fun j => swapR ρ (m - k) m k j) (by omega) (by omega) r (by omega) (q_swr_does tw vv ff hN c1 c2 hcs ρ (by omega) (by omega) (by omega) rfl rfl (by omega))
  rw [k4] at c
  exact c.all3 (by kernel_rfl) ⟨fun _ => rfl, by simp [Clo, Clos]⟩ (q_srow_clo _ _ _ _ _ _) (q_srow_clo _ _ _ _ _ _) c1 c2 (by simp [Clos, Clo, hcs]) hK
end
end Go.Proofs.Ytcgcpmcjaeenlaa

namespace Go.Proofs.Ytcgcpmcjaeenlaa
open Go.Lift
set_option maxRecDepth 1000000
set_option linter.unusedSimpArgs false
set_option linter.unusedVariables false
set_option linter.unusedSectionVars false

/-- the function that compares, called while it is sorted -/
def QCmpOk (tw : Nat → Tr) (vv ff N : Nat) (g : FuncId) (cs : List AVal) (b1 b2 : ABlk) (less : Nat → Nat → Bool) : Prop :=
  ∀ (K : Nat) (π : Nat → Nat) (p q : Nat), 3 ≤ K → p < N → q < N → ∃ c : Int, (c < 0 ↔ less p q = true) ∧ FDoes Try.prog g ((tw p).val :: (tw q).val :: cs) (QSH tw vv ff K N π b1 b2) (.int .i64 c) (QSH tw vv ff K N π b1 b2)

/-- numbers of what there is -/
def InN (N : Nat) (π : Nat → Nat) : Prop := ∀ k, k < N → π k < N
theorem InN.same {N : Nat} {π ρ : Nat → Nat} {a b : Nat} (h : InN N π) (k : Same π ρ a b) (hb : b ≤ N) : InN N ρ := by
  intro j hj
  by_cases c : a ≤ j ∧ j < b
  · obtain ⟨i, h1, h2, h3⟩ := k.from c.1 c.2
    rw [h3]; exact h i (by omega)
  · rw [k.out j (by omega)]; exact h j hj

section
variable (tw : Nat → Tr) (vv ff : Nat) {N : Nat} (hN : N < 2 ^ 44) {b1 b2 : ABlk} (c1 : CloB (fun i => i < 3) b1) (c2 : CloB (fun i => i < 3) b2) {g : FuncId} {cs : List AVal} (hcs : Clos (fun i => i < 3) cs) {less : Nat → Nat → Bool} (hw : Weak less) (hcmp : QCmpOk tw vv ff N g cs b1 b2 less)
include tw vv ff hN c1 c2 hcs hw hcmp

theorem q_ins_in {a b i : Nat} (ρ : Nat → Nat) (hρ : InN N ρ) (hai : a ≤ i) (hi : i < N) : ∀ (j : Nat), a ≤ j → j ≤ i → (∀ k, j ≤ k → k < i → less (ρ i) (ρ k) = true) →
    ∃ j', a ≤ j' ∧ j' ≤ i ∧ (∀ k, j' ≤ k → k < i → less (ρ i) (ρ k) = true) ∧ (j' = a ∨ less (ρ i) (ρ (j' - 1)) = false) ∧
    Loops Try.prog 3 53 (loopAt Try.prog 72 1) [(0, .slice (some ⟨0, vv, 0, 0, 3⟩) N N), (1, .int .i64 a), (2, .int .i64 b), (3, .func (.func g) [] cs), (8, .int .i64 i), (9, .int .i64 j)] (QSH tw vv ff 11 N (insAt ρ j i) b1 b2)
      (.exit 2) [(0, .slice (some ⟨0, vv, 0, 0, 3⟩) N N), (1, .int .i64 a), (2, .int .i64 b), (3, .func (.func g) [] cs), (8, .int .i64 i)] (QSH tw vv ff 28 N (insAt ρ j' i) b1 b2)
  | 0, h1, h2, h3 => by
    obtain rfl : a = 0 := by omega
    exact ⟨0, by omega, by omega, h3, .inl rfl, Loops.last (by simp) (qins_in_a vv ff N g cs _ b1 b2 0 b i 0 (by omega))⟩
  | j + 1, h1, h2, h3 => by
    by_cases ha : a = j + 1
    · subst ha
      exact ⟨j + 1, by omega, h2, h3, .inl rfl, Loops.last (by simp) (qins_in_a vv ff N g cs _ b1 b2 (j + 1) b i (j + 1) (by omega))⟩
    · have ex : insAt ρ (j + 1) i (j + 1) = ρ i := by unfold insAt; rw [if_pos rfl]
      have ey : insAt ρ (j + 1) i j = ρ j := by unfold insAt; rw [if_neg (by omega), if_neg (by omega)]
      have hix : aindexAddr env.D 31 (.slice (some ⟨0, vv, 0, 0, 3⟩) N N) (.int .i64 ((j + 1 : Nat) : Int)) = some (.ptr (some ⟨0, vv, j + 1, 0, 3⟩)) := q_ixS rfl (by omega)
      have hiy : aindexAddr env.D 31 (.slice (some ⟨0, vv, 0, 0, 3⟩) N N) (.int .i64 (((j + 1 : Nat) : Int) - 1)) = some (.ptr (some ⟨0, vv, j + 1 - 1, 0, 3⟩)) := q_ixS (by omega) (by omega)
      have hex : (TRow vv ff (trw N tw fun k => insAt ρ (j + 1) i k)).elem? vv (j + 1) = some ((tw (ρ i)).val) := q_elA (by omega) ex
      have hey : (TRow vv ff (trw N tw fun k => insAt ρ (j + 1) i k)).elem? vv (j + 1 - 1) = some ((tw (ρ j)).val) := by rw [q_trw_el (by omega), show j + 1 - 1 = j by omega, ey]
      obtain ⟨c, hc, hf⟩ := hcmp 28 (insAt ρ (j + 1) i) (ρ i) (ρ j) (by omega) (hρ i hi) (hρ j (by omega))
      by_cases hl : less (ρ i) (ρ j) = true
      · obtain ⟨j', q1, q2, q3, q4, q5⟩ := q_ins_in ρ hρ hai hi j (by omega) (by omega) (fun k hk hki => by
          by_cases e : k = j
          · subst e; exact hl
          · exact h3 k (by omega) hki)
        refine ⟨j', q1, q2, q3, q4, ?_⟩
        have s := qins_in_step vv ff N g cs (trw N tw fun k => insAt ρ (j + 1) i k) b1 b2 a b i (j + 1) (tw (ρ i)).a (tw (ρ i)).b (tw (ρ i)).c (tw (ρ j)).a (tw (ρ j)).b (tw (ρ j)).c c _ _ _ _ _ _ (by omega) hix hex (by omega) hiy hey hf (hc.2 hl) (by omega) (by omega) hiy hey hix hex hix ⟨rfl, trw_get (by omega)⟩ hiy ⟨rfl, q_trw_set_get (by omega)⟩ (by omega)
        have e : ((trw N tw fun k => insAt ρ (j + 1) i k).set (j + 1) ((tw (ρ j)).val)).set (j + 1 - 1) ((tw (ρ i)).val) = trw N tw fun k => insAt ρ j i k := by
          rw [trw_set, trw_set]
          refine trw_congr fun k hk => ?_
          have h := congrFun (insAt_step ρ (j := j + 1) (i := i) (by omega) (by omega)) k
          rw [show j + 1 - 1 = j by omega] at h ⊢
          rw [← h]
          unfold swap1
          rw [ex, ey]
        rw [e, show ((j + 1 : Nat) : Int) - 1 = (j : Int) by omega] at s
        exact Loops.round s (QSDrop c1 c2 (by omega) (by kernel_rfl) (by simp [All_cons, All_nil, Clo, Clos, clos3 hcs]; simp [Ids])) q5
      · have hl : less (ρ i) (ρ j) = false := by simpa using hl
        refine ⟨j + 1, by omega, h2, h3, .inr (by rw [show j + 1 - 1 = j by omega]; exact hl), ?_⟩
        have s := qins_in_out vv ff N g cs (trw N tw fun k => insAt ρ (j + 1) i k) b1 b2 a b i (j + 1) (tw (ρ i)).a (tw (ρ i)).b (tw (ρ i)).c (tw (ρ j)).a (tw (ρ j)).b (tw (ρ j)).c c (by omega) hix hex (by omega) hiy hey hf (fun h => by have := hc.1 h; rw [hl] at this; cases this)
        exact Loops.last (by simp) s

theorem q_ins_out {a b : Nat} (π : Nat → Nat) (hπ : InN N π) (hab : a < b) (hb : b ≤ N) (hinc : ∀ i j, a ≤ i → i < j → j < b → π i < π j) : ∀ (fuel i : Nat) (ρ : Nat → Nat), i + fuel = b → a < i → Same π ρ a i → Srt less ρ a i →
    ∃ σ, Same π σ a b ∧ Srt less σ a b ∧ Loops Try.prog 3 53 (loopAt Try.prog 72 0) [(0, .slice (some ⟨0, vv, 0, 0, 3⟩) N N), (1, .int .i64 a), (2, .int .i64 b), (3, .func (.func g) [] cs), (8, .int .i64 i)] (QSH tw vv ff 6 N ρ b1 b2) (.exit 0) [] (QSH tw vv ff 9 N σ b1 b2)
  | 0, i, ρ, e, h1, h2, h3 => by
    obtain rfl : i = b := by omega
    exact ⟨ρ, h2, h3, Loops.last (by simp) (qins_end vv ff N g cs _ b1 b2 a i i (by omega))⟩
  | fuel + 1, i, ρ, e, h1, h2, h3 => by
    have hρ : InN N ρ := hπ.same h2 (by omega)
    obtain ⟨j, q1, q2, q3, q4, q5⟩ := q_ins_in tw vv ff hN c1 c2 hcs hw hcmp (a := a) (b := b) ρ hρ (by omega) (by omega : i < N) i (by omega) (by omega) (fun k _ _ => by omega)
    rw [insAt_self] at q5
    have hi : ρ i = π i := h2.out i (by omega)
    have hlt : ∀ k, a ≤ k → k < i → ρ k < ρ i := by
      intro k hk hki
      obtain ⟨m, m1, m2, m3⟩ := h2.from hk hki
      rw [m3, hi]; exact hinc m i m1 m2 (by omega)
    have hs := ins_done hw h3 hlt q1 q2 q3 q4
    have hsame : Same π (insAt ρ j i) a (i + 1) := (h2.wide (by omega) (by omega) (by omega)).trans (by
      rw [insAt_rot ρ q2]
      exact (rotF_same ρ q2 (by omega)).wide (by omega) (by omega) (by omega))
    obtain ⟨σ, r1, r2, r3⟩ := q_ins_out π hπ hab hb hinc fuel (i + 1) (insAt ρ j i) (by omega) (by omega) hsame hs
    refine ⟨σ, r1, r2, ?_⟩
    have s := qins_step vv ff N g cs (trw N tw fun k => ρ k) b1 b2 a b i (trw N tw fun k => insAt ρ j i k) (by omega) (Runs.of_loops q5) (by omega)
    exact Loops.round s (QSDrop c1 c2 (by omega) (by kernel_rfl) (by simp [All_cons, All_nil, Clo, Clos, clos3 hcs]; simp [Ids])) r3

/-- a block put in order -/
theorem q_ins_does {a b : Nat} (π : Nat → Nat) (hπ : InN N π) (hab : a ≤ b) (hb : b ≤ N) (hinc : ∀ i j, a ≤ i → i < j → j < b → π i < π j) {ea eb : Int} (ha : ea = a) (hb' : eb = b) :
    ∃ σ, Same π σ a b ∧ Srt less σ a b ∧ ∀ K, 3 ≤ K → FDoes Try.prog 72 [.slice (some ⟨0, vv, 0, 0, 3⟩) N N, .int .i64 ea, .int .i64 eb, .func (.func g) [] cs] (QSH tw vv ff K N π b1 b2) (.tuple []) (QSH tw vv ff K N σ b1 b2) := by
  subst ha hb'
  have fin : ∀ σ, Loops Try.prog 3 53 (loopAt Try.prog 72 0) [(0, .slice (some ⟨0, vv, 0, 0, 3⟩) N N), (1, .int .i64 a), (2, .int .i64 b), (3, .func (.func g) [] cs), (8, .int .i64 (a + 1 : Nat))] (QSH tw vv ff 6 N π b1 b2) (.exit 0) [] (QSH tw vv ff 9 N σ b1 b2) →
      ∀ K, 3 ≤ K → FDoes Try.prog 72 [.slice (some ⟨0, vv, 0, 0, 3⟩) N N, .int .i64 a, .int .i64 b, .func (.func g) [] cs] (QSH tw vv ff K N π b1 b2) (.tuple []) (QSH tw vv ff K N σ b1 b2) := by
    intro σ l K hK
    exact (qins_call vv ff N g cs _ b1 b2 a b _ (by omega) (Runs.of_loops l)).all3 (by kernel_rfl) ⟨fun _ => rfl, by simp [Clo, Clos]⟩ (q_srow_clo _ _ _ _ _ _) (q_srow_clo _ _ _ _ _ _) c1 c2 (by simp [Clos, Clo, hcs]) hK
  by_cases h : a < b
  · obtain ⟨σ, r1, r2, r3⟩ := q_ins_out tw vv ff hN c1 c2 hcs hw hcmp π hπ h hb hinc (b - (a + 1)) (a + 1) π (by omega) (by omega) (Same.refl _ _ _) (fun i j h1 h2 h3 => by omega)
    exact ⟨σ, r1, r2, fin σ r3⟩
  · obtain rfl : a = b := by omega
    exact ⟨π, Same.refl _ _ _, fun i j h1 h2 h3 => by omega, fin π (Loops.last (by simp) (qins_end vv ff N g cs _ b1 b2 a a (a + 1) (by omega)))⟩
end
end Go.Proofs.Ytcgcpmcjaeenlaa

namespace Go.Proofs.Ytcgcpmcjaeenlaa
open Go.Lift
set_option maxRecDepth 1000000
set_option linter.unusedSimpArgs false
set_option linter.unusedVariables false

theorem qsm0_t (vv ff N : Nat) (g : FuncId) (cs : List AVal) (l : List AVal) (b1 b2 : ABlk) (a i j h : Nat) (xa xb xc ya yb yc c : Int) (hc_0 : (i : Int) < (j : Int)) (hc_1 : -9223372036854775808 ≤ (i : Int) + (j : Int) ∧ (i : Int) + (j : Int) ≤ 9223372036854775807) (hc_2 : 0 ≤ (i : Int) + (j : Int) ∧ (i : Int) + (j : Int) ≤ 18446744073709551615) (hc_3 : -9223372036854775808 ≤ Int.fdiv ((i : Int) + (j : Int)) (2 ^ 1) ∧ Int.fdiv ((i : Int) + (j : Int)) (2 ^ 1) ≤ 9223372036854775807) (hc_4 : aindexAddr env.D 31 (.slice (some ⟨0, vv, 0, 0, 3⟩) N N) (.int .i64 (Int.fdiv ((i : Int) + (j : Int)) (2 ^ 1))) = some (.ptr (some ⟨0, vv, h, 0, 3⟩))) (hc_5 : ABlk.elem? ⟨l, 3, false, false, vv, vv, ff⟩ vv h = some (.agg [.int .i64 xa, .int .i64 xb, .int .i64 xc])) (hc_6 : aindexAddr env.D 31 (.slice (some ⟨0, vv, 0, 0, 3⟩) N N) (.int .i64 (a : Int)) = some (.ptr (some ⟨0, vv, a, 0, 3⟩))) (hc_7 : ABlk.elem? ⟨l, 3, false, false, vv, vv, ff⟩ vv a = some (.agg [.int .i64 ya, .int .i64 yb, .int .i64 yc])) (hc_8 : FDoes Try.prog g (.agg [.int .i64 xa, .int .i64 xb, .int .i64 xc] :: .agg [.int .i64 ya, .int .i64 yb, .int .i64 yc] :: cs) (AHeap.rows 32 [(0, ⟨l, 3, false, false, vv, vv, ff⟩), (1, b1), (2, b2)]) (.int .i64 c) (AHeap.rows 32 [(0, ⟨l, 3, false, false, vv, vv, ff⟩), (1, b1), (2, b2)])) (hc_9 : c < 0) (hc_10 : -9223372036854775808 ≤ Int.fdiv ((i : Int) + (j : Int)) (2 ^ 1) + 1 ∧ Int.fdiv ((i : Int) + (j : Int)) (2 ^ 1) + (1 : Int) ≤ 9223372036854775807) :
    Runs Try.prog 3 220 (loopAt Try.prog 73 0) [(0, .slice (some ⟨0, vv, 0, 0, 3⟩) N N), (1, .int .i64 a), (4, .func (.func g) [] cs), (10, .int .i64 i), (11, .int .i64 j)] (AHeap.rows 11 [(0, ⟨l, 3, false, false, vv, vv, ff⟩), (1, b1), (2, b2)]) .normal [(0, .slice (some ⟨0, vv, 0, 0, 3⟩) N N), (1, .int .i64 (a : Int)), (4, .func (.func g) [] cs), (10, .int .i64 (Int.fdiv ((i : Int) + (j : Int)) (2 ^ 1) + 1)), (11, .int .i64 (j : Int))] (AHeap.rows 35 [(0, ⟨l, 3, false, false, vv, vv, ff⟩), (1, b1), (2, b2)]) :=
  ppath_runs env_ok mixed (hs := [.val 3002 (.bool true), .go 4002, .go 4003, .go 4005, .val 5003 (.ptr (some ⟨0, vv, h, 0, 3⟩)), .ld 5004 (.agg [.int .i64 xa, .int .i64 xb, .int .i64 xc]), .val 5007 (.ptr (some ⟨0, vv, a, 0, 3⟩)), .ld 5008 (.agg [.int .i64 ya, .int .i64 yb, .int .i64 yc]), .val 5009 (.int .i64 c), .val 5010 (.bool true), .go 6001]) (keep := [0, 1, 4, 10, 11]) (by kernel_rfl) (All.cons (okT hc_0) (All.cons hc_1 (All.cons hc_2 (All.cons hc_3 (All.cons hc_4 (All.cons hc_5 (All.cons hc_6 (All.cons hc_7 (All.cons (CallT.mk hc_8) (All.cons (okT hc_9) (All.cons hc_10 (All.nil))))))))))))

theorem qsm0_f (vv ff N : Nat) (g : FuncId) (cs : List AVal) (l : List AVal) (b1 b2 : ABlk) (a i j h : Nat) (xa xb xc ya yb yc c : Int) (hc_0 : (i : Int) < (j : Int)) (hc_1 : -9223372036854775808 ≤ (i : Int) + (j : Int) ∧ (i : Int) + (j : Int) ≤ 9223372036854775807) (hc_2 : 0 ≤ (i : Int) + (j : Int) ∧ (i : Int) + (j : Int) ≤ 18446744073709551615) (hc_3 : -9223372036854775808 ≤ Int.fdiv ((i : Int) + (j : Int)) (2 ^ 1) ∧ Int.fdiv ((i : Int) + (j : Int)) (2 ^ 1) ≤ 9223372036854775807) (hc_4 : aindexAddr env.D 31 (.slice (some ⟨0, vv, 0, 0, 3⟩) N N) (.int .i64 (Int.fdiv ((i : Int) + (j : Int)) (2 ^ 1))) = some (.ptr (some ⟨0, vv, h, 0, 3⟩))) (hc_5 : ABlk.elem? ⟨l, 3, false, false, vv, vv, ff⟩ vv h = some (.agg [.int .i64 xa, .int .i64 xb, .int .i64 xc])) (hc_6 : aindexAddr env.D 31 (.slice (some ⟨0, vv, 0, 0, 3⟩) N N) (.int .i64 (a : Int)) = some (.ptr (some ⟨0, vv, a, 0, 3⟩))) (hc_7 : ABlk.elem? ⟨l, 3, false, false, vv, vv, ff⟩ vv a = some (.agg [.int .i64 ya, .int .i64 yb, .int .i64 yc])) (hc_8 : FDoes Try.prog g (.agg [.int .i64 xa, .int .i64 xb, .int .i64 xc] :: .agg [.int .i64 ya, .int .i64 yb, .int .i64 yc] :: cs) (AHeap.rows 32 [(0, ⟨l, 3, false, false, vv, vv, ff⟩), (1, b1), (2, b2)]) (.int .i64 c) (AHeap.rows 32 [(0, ⟨l, 3, false, false, vv, vv, ff⟩), (1, b1), (2, b2)])) (hc_9 : ¬ (c < 0)) :
    Runs Try.prog 3 220 (loopAt Try.prog 73 0) [(0, .slice (some ⟨0, vv, 0, 0, 3⟩) N N), (1, .int .i64 a), (4, .func (.func g) [] cs), (10, .int .i64 i), (11, .int .i64 j)] (AHeap.rows 11 [(0, ⟨l, 3, false, false, vv, vv, ff⟩), (1, b1), (2, b2)]) .normal [(0, .slice (some ⟨0, vv, 0, 0, 3⟩) N N), (1, .int .i64 (a : Int)), (4, .func (.func g) [] cs), (10, .int .i64 (i : Int)), (11, .int .i64 (Int.fdiv ((i : Int) + (j : Int)) (2 ^ 1)))] (AHeap.rows 34 [(0, ⟨l, 3, false, false, vv, vv, ff⟩), (1, b1), (2, b2)]) :=
  ppath_runs env_ok mixed (hs := [.val 3002 (.bool true), .go 4002, .go 4003, .go 4005, .val 5003 (.ptr (some ⟨0, vv, h, 0, 3⟩)), .ld 5004 (.agg [.int .i64 xa, .int .i64 xb, .int .i64 xc]), .val 5007 (.ptr (some ⟨0, vv, a, 0, 3⟩)), .ld 5008 (.agg [.int .i64 ya, .int .i64 yb, .int .i64 yc]), .val 5009 (.int .i64 c), .val 5010 (.bool false)]) (keep := [0, 1, 4, 10, 11]) (by kernel_rfl) (All.cons (okT hc_0) (All.cons hc_1 (All.cons hc_2 (All.cons hc_3 (All.cons hc_4 (All.cons hc_5 (All.cons hc_6 (All.cons hc_7 (All.cons (CallT.mk hc_8) (All.cons (okF hc_9) (All.nil)))))))))))

theorem qsm0_end (vv ff N : Nat) (g : FuncId) (cs : List AVal) (l : List AVal) (b1 b2 : ABlk) (a i j : Nat) (hc_0 : ¬ ((i : Int) < (j : Int))) :
    Runs Try.prog 3 220 (loopAt Try.prog 73 0) [(0, .slice (some ⟨0, vv, 0, 0, 3⟩) N N), (1, .int .i64 a), (4, .func (.func g) [] cs), (10, .int .i64 i), (11, .int .i64 j)] (AHeap.rows 11 [(0, ⟨l, 3, false, false, vv, vv, ff⟩), (1, b1), (2, b2)]) (.exit 0) [(0, .slice (some ⟨0, vv, 0, 0, 3⟩) N N), (1, .int .i64 (a : Int)), (10, .int .i64 (i : Int))] (AHeap.rows 14 [(0, ⟨l, 3, false, false, vv, vv, ff⟩), (1, b1), (2, b2)]) :=
  ppath_runs env_ok mixed (hs := [.val 3002 (.bool false)]) (keep := [0, 1, 10]) (by kernel_rfl) (All.cons (okF hc_0) (All.nil))

theorem qsm1_step (vv ff N : Nat) (g : FuncId) (cs : List AVal) (l : List AVal) (b1 b2 : ABlk) (i k : Nat) (xa xb xc ya yb yc ua ub uc va vb vc : Int) (hc_0 : -9223372036854775808 ≤ (i : Int) - 1 ∧ (i : Int) - (1 : Int) ≤ 9223372036854775807) (hc_1 : (k : Int) < (i : Int) - 1) (hc_2 : -9223372036854775808 ≤ (k : Int) + 1 ∧ (k : Int) + (1 : Int) ≤ 9223372036854775807) (hc_3 : -9223372036854775808 ≤ (k : Int) + 1 ∧ (k : Int) + (1 : Int) ≤ 9223372036854775807) (hc_4 : aindexAddr env.D 31 (.slice (some ⟨0, vv, 0, 0, 3⟩) N N) (.int .i64 ((k : Int) + 1)) = some (.ptr (some ⟨0, vv, k + 1, 0, 3⟩))) (hc_5 : ABlk.elem? ⟨l, 3, false, false, vv, vv, ff⟩ vv (k + 1) = some (.agg [.int .i64 ya, .int .i64 yb, .int .i64 yc])) (hc_6 : aindexAddr env.D 31 (.slice (some ⟨0, vv, 0, 0, 3⟩) N N) (.int .i64 (k : Int)) = some (.ptr (some ⟨0, vv, k, 0, 3⟩))) (hc_7 : ABlk.elem? ⟨l, 3, false, false, vv, vv, ff⟩ vv k = some (.agg [.int .i64 xa, .int .i64 xb, .int .i64 xc])) (hc_8 : aindexAddr env.D 31 (.slice (some ⟨0, vv, 0, 0, 3⟩) N N) (.int .i64 (k : Int)) = some (.ptr (some ⟨0, vv, k, 0, 3⟩))) (hc_9 : vv = vv ∧ l[k]? = some (.agg [.int .i64 ua, .int .i64 ub, .int .i64 uc])) (hc_10 : aindexAddr env.D 31 (.slice (some ⟨0, vv, 0, 0, 3⟩) N N) (.int .i64 ((k : Int) + 1)) = some (.ptr (some ⟨0, vv, k + 1, 0, 3⟩))) (hc_11 : vv = vv ∧ (List.set l k (.agg [.int .i64 ya, .int .i64 yb, .int .i64 yc]))[k + 1]? = some (.agg [.int .i64 va, .int .i64 vb, .int .i64 vc])) (hc_12 : -9223372036854775808 ≤ (k : Int) + 1 ∧ (k : Int) + (1 : Int) ≤ 9223372036854775807) :
    Runs Try.prog 3 220 (loopAt Try.prog 73 1) [(0, .slice (some ⟨0, vv, 0, 0, 3⟩) N N), (10, .int .i64 i), (13, .int .i64 k)] (AHeap.rows 16 [(0, ⟨l, 3, false, false, vv, vv, ff⟩), (1, b1), (2, b2)]) .normal [(0, .slice (some ⟨0, vv, 0, 0, 3⟩) N N), (10, .int .i64 (i : Int)), (13, .int .i64 ((k : Int) + 1))] (AHeap.rows 41 [(0, ⟨List.set (List.set l k (.agg [.int .i64 ya, .int .i64 yb, .int .i64 yc])) (k + 1) (.agg [.int .i64 xa, .int .i64 xb, .int .i64 xc]), 3, false, false, vv, vv, ff⟩), (1, b1), (2, b2)]) :=
  ppath_runs env_ok mixed (hs := [.go 9002, .val 9003 (.bool true), .go 11004, .go 11007, .val 11008 (.ptr (some ⟨0, vv, k + 1, 0, 3⟩)), .ld 11009 (.agg [.int .i64 ya, .int .i64 yb, .int .i64 yc]), .val 11012 (.ptr (some ⟨0, vv, k, 0, 3⟩)), .ld 11013 (.agg [.int .i64 xa, .int .i64 xb, .int .i64 xc]), .val 11014 (.ptr (some ⟨0, vv, k, 0, 3⟩)), .st 11015 (.agg [.int .i64 ua, .int .i64 ub, .int .i64 uc]), .val 11016 (.ptr (some ⟨0, vv, k + 1, 0, 3⟩)), .st 11017 (.agg [.int .i64 va, .int .i64 vb, .int .i64 vc]), .go 10001]) (keep := [0, 10, 13]) (by kernel_rfl) (All.cons hc_0 (All.cons (okT hc_1) (All.cons hc_2 (All.cons hc_3 (All.cons hc_4 (All.cons hc_5 (All.cons hc_6 (All.cons hc_7 (All.cons hc_8 (All.cons hc_9 (All.cons hc_10 (All.cons hc_11 (All.cons hc_12 (All.nil))))))))))))))

theorem qsm1_end (vv ff N : Nat) (g : FuncId) (cs : List AVal) (l : List AVal) (b1 b2 : ABlk) (i k : Nat) (hc_0 : -9223372036854775808 ≤ (i : Int) - 1 ∧ (i : Int) - (1 : Int) ≤ 9223372036854775807) (hc_1 : ¬ ((k : Int) < (i : Int) - 1)) :
    Runs Try.prog 3 220 (loopAt Try.prog 73 1) [(0, .slice (some ⟨0, vv, 0, 0, 3⟩) N N), (10, .int .i64 i), (13, .int .i64 k)] (AHeap.rows 16 [(0, ⟨l, 3, false, false, vv, vv, ff⟩), (1, b1), (2, b2)]) (.exit 2) [] (AHeap.rows 20 [(0, ⟨l, 3, false, false, vv, vv, ff⟩), (1, b1), (2, b2)]) :=
  ppath_runs env_ok mixed (hs := [.go 9002, .val 9003 (.bool false)]) (keep := []) (by kernel_rfl) (All.cons hc_0 (All.cons (okF hc_1) (All.nil)))

theorem qsm2_t (vv ff N : Nat) (g : FuncId) (cs : List AVal) (l : List AVal) (b1 b2 : ABlk) (m i j h : Nat) (xa xb xc ya yb yc c : Int) (hc_0 : (i : Int) < (j : Int)) (hc_1 : -9223372036854775808 ≤ (i : Int) + (j : Int) ∧ (i : Int) + (j : Int) ≤ 9223372036854775807) (hc_2 : 0 ≤ (i : Int) + (j : Int) ∧ (i : Int) + (j : Int) ≤ 18446744073709551615) (hc_3 : -9223372036854775808 ≤ Int.fdiv ((i : Int) + (j : Int)) (2 ^ 1) ∧ Int.fdiv ((i : Int) + (j : Int)) (2 ^ 1) ≤ 9223372036854775807) (hc_4 : aindexAddr env.D 31 (.slice (some ⟨0, vv, 0, 0, 3⟩) N N) (.int .i64 (m : Int)) = some (.ptr (some ⟨0, vv, m, 0, 3⟩))) (hc_5 : ABlk.elem? ⟨l, 3, false, false, vv, vv, ff⟩ vv m = some (.agg [.int .i64 xa, .int .i64 xb, .int .i64 xc])) (hc_6 : aindexAddr env.D 31 (.slice (some ⟨0, vv, 0, 0, 3⟩) N N) (.int .i64 (Int.fdiv ((i : Int) + (j : Int)) (2 ^ 1))) = some (.ptr (some ⟨0, vv, h, 0, 3⟩))) (hc_7 : ABlk.elem? ⟨l, 3, false, false, vv, vv, ff⟩ vv h = some (.agg [.int .i64 ya, .int .i64 yb, .int .i64 yc])) (hc_8 : FDoes Try.prog g (.agg [.int .i64 xa, .int .i64 xb, .int .i64 xc] :: .agg [.int .i64 ya, .int .i64 yb, .int .i64 yc] :: cs) (AHeap.rows 37 [(0, ⟨l, 3, false, false, vv, vv, ff⟩), (1, b1), (2, b2)]) (.int .i64 c) (AHeap.rows 37 [(0, ⟨l, 3, false, false, vv, vv, ff⟩), (1, b1), (2, b2)])) (hc_9 : c < 0) :
    Runs Try.prog 3 220 (loopAt Try.prog 73 2) [(0, .slice (some ⟨0, vv, 0, 0, 3⟩) N N), (2, .int .i64 m), (4, .func (.func g) [] cs), (14, .int .i64 i), (15, .int .i64 j)] (AHeap.rows 15 [(0, ⟨l, 3, false, false, vv, vv, ff⟩), (1, b1), (2, b2)]) .normal [(0, .slice (some ⟨0, vv, 0, 0, 3⟩) N N), (2, .int .i64 (m : Int)), (4, .func (.func g) [] cs), (14, .int .i64 (i : Int)), (15, .int .i64 (Int.fdiv ((i : Int) + (j : Int)) (2 ^ 1)))] (AHeap.rows 39 [(0, ⟨l, 3, false, false, vv, vv, ff⟩), (1, b1), (2, b2)]) :=
  ppath_runs env_ok mixed (hs := [.val 15002 (.bool true), .go 16002, .go 16003, .go 16005, .val 17003 (.ptr (some ⟨0, vv, m, 0, 3⟩)), .ld 17004 (.agg [.int .i64 xa, .int .i64 xb, .int .i64 xc]), .val 17007 (.ptr (some ⟨0, vv, h, 0, 3⟩)), .ld 17008 (.agg [.int .i64 ya, .int .i64 yb, .int .i64 yc]), .val 17009 (.int .i64 c), .val 17010 (.bool true)]) (keep := [0, 2, 4, 14, 15]) (by kernel_rfl) (All.cons (okT hc_0) (All.cons hc_1 (All.cons hc_2 (All.cons hc_3 (All.cons hc_4 (All.cons hc_5 (All.cons hc_6 (All.cons hc_7 (All.cons (CallT.mk hc_8) (All.cons (okT hc_9) (All.nil)))))))))))

theorem qsm2_f (vv ff N : Nat) (g : FuncId) (cs : List AVal) (l : List AVal) (b1 b2 : ABlk) (m i j h : Nat) (xa xb xc ya yb yc c : Int) (hc_0 : (i : Int) < (j : Int)) (hc_1 : -9223372036854775808 ≤ (i : Int) + (j : Int) ∧ (i : Int) + (j : Int) ≤ 9223372036854775807) (hc_2 : 0 ≤ (i : Int) + (j : Int) ∧ (i : Int) + (j : Int) ≤ 18446744073709551615) (hc_3 : -9223372036854775808 ≤ Int.fdiv ((i : Int) + (j : Int)) (2 ^ 1) ∧ Int.fdiv ((i : Int) + (j : Int)) (2 ^ 1) ≤ 9223372036854775807) (hc_4 : aindexAddr env.D 31 (.slice (some ⟨0, vv, 0, 0, 3⟩) N N) (.int .i64 (m : Int)) = some (.ptr (some ⟨0, vv, m, 0, 3⟩))) (hc_5 : ABlk.elem? ⟨l, 3, false, false, vv, vv, ff⟩ vv m = some (.agg [.int .i64 xa, .int .i64 xb, .int .i64 xc])) (hc_6 : aindexAddr env.D 31 (.slice (some ⟨0, vv, 0, 0, 3⟩) N N) (.int .i64 (Int.fdiv ((i : Int) + (j : Int)) (2 ^ 1))) = some (.ptr (some ⟨0, vv, h, 0, 3⟩))) (hc_7 : ABlk.elem? ⟨l, 3, false, false, vv, vv, ff⟩ vv h = some (.agg [.int .i64 ya, .int .i64 yb, .int .i64 yc])) (hc_8 : FDoes Try.prog g (.agg [.int .i64 xa, .int .i64 xb, .int .i64 xc] :: .agg [.int .i64 ya, .int .i64 yb, .int .i64 yc] :: cs) (AHeap.rows 37 [(0, ⟨l, 3, false, false, vv, vv, ff⟩), (1, b1), (2, b2)]) (.int .i64 c) (AHeap.rows 37 [(0, ⟨l, 3, false, false, vv, vv, ff⟩), (1, b1), (2, b2)])) (hc_9 : ¬ (c < 0)) (hc_10 : -9223372036854775808 ≤ Int.fdiv ((i : Int) + (j : Int)) (2 ^ 1) + 1 ∧ Int.fdiv ((i : Int) + (j : Int)) (2 ^ 1) + (1 : Int) ≤ 9223372036854775807) :
    Runs Try.prog 3 220 (loopAt Try.prog 73 2) [(0, .slice (some ⟨0, vv, 0, 0, 3⟩) N N), (2, .int .i64 m), (4, .func (.func g) [] cs), (14, .int .i64 i), (15, .int .i64 j)] (AHeap.rows 15 [(0, ⟨l, 3, false, false, vv, vv, ff⟩), (1, b1), (2, b2)]) .normal [(0, .slice (some ⟨0, vv, 0, 0, 3⟩) N N), (2, .int .i64 (m : Int)), (4, .func (.func g) [] cs), (14, .int .i64 (Int.fdiv ((i : Int) + (j : Int)) (2 ^ 1) + 1)), (15, .int .i64 (j : Int))] (AHeap.rows 40 [(0, ⟨l, 3, false, false, vv, vv, ff⟩), (1, b1), (2, b2)]) :=
  ppath_runs env_ok mixed (hs := [.val 15002 (.bool true), .go 16002, .go 16003, .go 16005, .val 17003 (.ptr (some ⟨0, vv, m, 0, 3⟩)), .ld 17004 (.agg [.int .i64 xa, .int .i64 xb, .int .i64 xc]), .val 17007 (.ptr (some ⟨0, vv, h, 0, 3⟩)), .ld 17008 (.agg [.int .i64 ya, .int .i64 yb, .int .i64 yc]), .val 17009 (.int .i64 c), .val 17010 (.bool false), .go 18001]) (keep := [0, 2, 4, 14, 15]) (by kernel_rfl) (All.cons (okT hc_0) (All.cons hc_1 (All.cons hc_2 (All.cons hc_3 (All.cons hc_4 (All.cons hc_5 (All.cons hc_6 (All.cons hc_7 (All.cons (CallT.mk hc_8) (All.cons (okF hc_9) (All.cons hc_10 (All.nil))))))))))))

theorem qsm2_end (vv ff N : Nat) (g : FuncId) (cs : List AVal) (l : List AVal) (b1 b2 : ABlk) (m i j : Nat) (hc_0 : ¬ ((i : Int) < (j : Int))) :
    Runs Try.prog 3 220 (loopAt Try.prog 73 2) [(0, .slice (some ⟨0, vv, 0, 0, 3⟩) N N), (2, .int .i64 m), (4, .func (.func g) [] cs), (14, .int .i64 i), (15, .int .i64 j)] (AHeap.rows 15 [(0, ⟨l, 3, false, false, vv, vv, ff⟩), (1, b1), (2, b2)]) (.exit 4) [(0, .slice (some ⟨0, vv, 0, 0, 3⟩) N N), (2, .int .i64 (m : Int)), (14, .int .i64 (i : Int))] (AHeap.rows 18 [(0, ⟨l, 3, false, false, vv, vv, ff⟩), (1, b1), (2, b2)]) :=
  ppath_runs env_ok mixed (hs := [.val 15002 (.bool false)]) (keep := [0, 2, 14]) (by kernel_rfl) (All.cons (okF hc_0) (All.nil))

theorem qsm3_step (vv ff N : Nat) (g : FuncId) (cs : List AVal) (l : List AVal) (b1 b2 : ABlk) (i k : Nat) (xa xb xc ya yb yc ua ub uc va vb vc : Int) (hc_0 : (k : Int) > (i : Int)) (hc_1 : -9223372036854775808 ≤ (k : Int) - 1 ∧ (k : Int) - (1 : Int) ≤ 9223372036854775807) (hc_2 : -9223372036854775808 ≤ (k : Int) - 1 ∧ (k : Int) - (1 : Int) ≤ 9223372036854775807) (hc_3 : aindexAddr env.D 31 (.slice (some ⟨0, vv, 0, 0, 3⟩) N N) (.int .i64 ((k : Int) - 1)) = some (.ptr (some ⟨0, vv, k - 1, 0, 3⟩))) (hc_4 : ABlk.elem? ⟨l, 3, false, false, vv, vv, ff⟩ vv (k - 1) = some (.agg [.int .i64 ya, .int .i64 yb, .int .i64 yc])) (hc_5 : aindexAddr env.D 31 (.slice (some ⟨0, vv, 0, 0, 3⟩) N N) (.int .i64 (k : Int)) = some (.ptr (some ⟨0, vv, k, 0, 3⟩))) (hc_6 : ABlk.elem? ⟨l, 3, false, false, vv, vv, ff⟩ vv k = some (.agg [.int .i64 xa, .int .i64 xb, .int .i64 xc])) (hc_7 : aindexAddr env.D 31 (.slice (some ⟨0, vv, 0, 0, 3⟩) N N) (.int .i64 (k : Int)) = some (.ptr (some ⟨0, vv, k, 0, 3⟩))) (hc_8 : vv = vv ∧ l[k]? = some (.agg [.int .i64 ua, .int .i64 ub, .int .i64 uc])) (hc_9 : aindexAddr env.D 31 (.slice (some ⟨0, vv, 0, 0, 3⟩) N N) (.int .i64 ((k : Int) - 1)) = some (.ptr (some ⟨0, vv, k - 1, 0, 3⟩))) (hc_10 : vv = vv ∧ (List.set l k (.agg [.int .i64 ya, .int .i64 yb, .int .i64 yc]))[k - 1]? = some (.agg [.int .i64 va, .int .i64 vb, .int .i64 vc])) (hc_11 : -9223372036854775808 ≤ (k : Int) - 1 ∧ (k : Int) - (1 : Int) ≤ 9223372036854775807) :
    Runs Try.prog 3 220 (loopAt Try.prog 73 3) [(0, .slice (some ⟨0, vv, 0, 0, 3⟩) N N), (14, .int .i64 i), (17, .int .i64 k)] (AHeap.rows 20 [(0, ⟨l, 3, false, false, vv, vv, ff⟩), (1, b1), (2, b2)]) .normal [(0, .slice (some ⟨0, vv, 0, 0, 3⟩) N N), (14, .int .i64 (i : Int)), (17, .int .i64 ((k : Int) - 1))] (AHeap.rows 44 [(0, ⟨List.set (List.set l k (.agg [.int .i64 ya, .int .i64 yb, .int .i64 yc])) (k - 1) (.agg [.int .i64 xa, .int .i64 xb, .int .i64 xc]), 3, false, false, vv, vv, ff⟩), (1, b1), (2, b2)]) :=
  ppath_runs env_ok mixed (hs := [.val 21002 (.bool true), .go 23004, .go 23007, .val 23008 (.ptr (some ⟨0, vv, k - 1, 0, 3⟩)), .ld 23009 (.agg [.int .i64 ya, .int .i64 yb, .int .i64 yc]), .val 23012 (.ptr (some ⟨0, vv, k, 0, 3⟩)), .ld 23013 (.agg [.int .i64 xa, .int .i64 xb, .int .i64 xc]), .val 23014 (.ptr (some ⟨0, vv, k, 0, 3⟩)), .st 23015 (.agg [.int .i64 ua, .int .i64 ub, .int .i64 uc]), .val 23016 (.ptr (some ⟨0, vv, k - 1, 0, 3⟩)), .st 23017 (.agg [.int .i64 va, .int .i64 vb, .int .i64 vc]), .go 22001]) (keep := [0, 14, 17]) (by kernel_rfl) (All.cons (okT hc_0) (All.cons hc_1 (All.cons hc_2 (All.cons hc_3 (All.cons hc_4 (All.cons hc_5 (All.cons hc_6 (All.cons hc_7 (All.cons hc_8 (All.cons hc_9 (All.cons hc_10 (All.cons hc_11 (All.nil)))))))))))))

theorem qsm3_end (vv ff N : Nat) (g : FuncId) (cs : List AVal) (l : List AVal) (b1 b2 : ABlk) (i k : Nat) (hc_0 : ¬ ((k : Int) > (i : Int))) :
    Runs Try.prog 3 220 (loopAt Try.prog 73 3) [(0, .slice (some ⟨0, vv, 0, 0, 3⟩) N N), (14, .int .i64 i), (17, .int .i64 k)] (AHeap.rows 20 [(0, ⟨l, 3, false, false, vv, vv, ff⟩), (1, b1), (2, b2)]) (.exit 6) [] (AHeap.rows 23 [(0, ⟨l, 3, false, false, vv, vv, ff⟩), (1, b1), (2, b2)]) :=
  ppath_runs env_ok mixed (hs := [.val 21002 (.bool false)]) (keep := []) (by kernel_rfl) (All.cons (okF hc_0) (All.nil))

theorem qsm4_t (vv ff N : Nat) (g : FuncId) (cs : List AVal) (l : List AVal) (b1 b2 : ABlk) (a m b d n i j p h : Nat) (xa xb xc ya yb yc c : Int) (hc_0 : (i : Int) < (j : Int)) (hc_1 : -9223372036854775808 ≤ (i : Int) + (j : Int) ∧ (i : Int) + (j : Int) ≤ 9223372036854775807) (hc_2 : 0 ≤ (i : Int) + (j : Int) ∧ (i : Int) + (j : Int) ≤ 18446744073709551615) (hc_3 : -9223372036854775808 ≤ Int.fdiv ((i : Int) + (j : Int)) (2 ^ 1) ∧ Int.fdiv ((i : Int) + (j : Int)) (2 ^ 1) ≤ 9223372036854775807) (hc_4 : -9223372036854775808 ≤ (p : Int) - Int.fdiv ((i : Int) + (j : Int)) (2 ^ 1) ∧ (p : Int) - Int.fdiv ((i : Int) + (j : Int)) (2 ^ 1) ≤ 9223372036854775807) (hc_5 : aindexAddr env.D 31 (.slice (some ⟨0, vv, 0, 0, 3⟩) N N) (.int .i64 ((p : Int) - Int.fdiv ((i : Int) + (j : Int)) (2 ^ 1))) = some (.ptr (some ⟨0, vv, p - h, 0, 3⟩))) (hc_6 : ABlk.elem? ⟨l, 3, false, false, vv, vv, ff⟩ vv (p - h) = some (.agg [.int .i64 xa, .int .i64 xb, .int .i64 xc])) (hc_7 : aindexAddr env.D 31 (.slice (some ⟨0, vv, 0, 0, 3⟩) N N) (.int .i64 (Int.fdiv ((i : Int) + (j : Int)) (2 ^ 1))) = some (.ptr (some ⟨0, vv, h, 0, 3⟩))) (hc_8 : ABlk.elem? ⟨l, 3, false, false, vv, vv, ff⟩ vv h = some (.agg [.int .i64 ya, .int .i64 yb, .int .i64 yc])) (hc_9 : FDoes Try.prog g (.agg [.int .i64 xa, .int .i64 xb, .int .i64 xc] :: .agg [.int .i64 ya, .int .i64 yb, .int .i64 yc] :: cs) (AHeap.rows 60 [(0, ⟨l, 3, false, false, vv, vv, ff⟩), (1, b1), (2, b2)]) (.int .i64 c) (AHeap.rows 60 [(0, ⟨l, 3, false, false, vv, vv, ff⟩), (1, b1), (2, b2)])) (hc_10 : c < 0) :
    Runs Try.prog 3 220 (loopAt Try.prog 73 4) [(0, .slice (some ⟨0, vv, 0, 0, 3⟩) N N), (1, .int .i64 a), (2, .int .i64 m), (3, .int .i64 b), (4, .func (.func g) [] cs), (18, .int .i64 d), (19, .int .i64 n), (20, .int .i64 i), (21, .int .i64 j), (22, .int .i64 p)] (AHeap.rows 36 [(0, ⟨l, 3, false, false, vv, vv, ff⟩), (1, b1), (2, b2)]) .normal [(0, .slice (some ⟨0, vv, 0, 0, 3⟩) N N), (1, .int .i64 (a : Int)), (2, .int .i64 (m : Int)), (3, .int .i64 (b : Int)), (4, .func (.func g) [] cs), (18, .int .i64 (d : Int)), (19, .int .i64 (n : Int)), (20, .int .i64 (i : Int)), (21, .int .i64 (Int.fdiv ((i : Int) + (j : Int)) (2 ^ 1))), (22, .int .i64 (p : Int))] (AHeap.rows 62 [(0, ⟨l, 3, false, false, vv, vv, ff⟩), (1, b1), (2, b2)]) :=
  ppath_runs env_ok mixed (hs := [.val 33002 (.bool true), .go 34002, .go 34003, .go 34005, .go 35004, .val 35005 (.ptr (some ⟨0, vv, p - h, 0, 3⟩)), .ld 35006 (.agg [.int .i64 xa, .int .i64 xb, .int .i64 xc]), .val 35009 (.ptr (some ⟨0, vv, h, 0, 3⟩)), .ld 35010 (.agg [.int .i64 ya, .int .i64 yb, .int .i64 yc]), .val 35011 (.int .i64 c), .val 35012 (.bool true)]) (keep := [0, 1, 2, 3, 4, 18, 19, 20, 21, 22]) (by kernel_rfl) (All.cons (okT hc_0) (All.cons hc_1 (All.cons hc_2 (All.cons hc_3 (All.cons hc_4 (All.cons hc_5 (All.cons hc_6 (All.cons hc_7 (All.cons hc_8 (All.cons (CallT.mk hc_9) (All.cons (okT hc_10) (All.nil))))))))))))

theorem qsm4_f (vv ff N : Nat) (g : FuncId) (cs : List AVal) (l : List AVal) (b1 b2 : ABlk) (a m b d n i j p h : Nat) (xa xb xc ya yb yc c : Int) (hc_0 : (i : Int) < (j : Int)) (hc_1 : -9223372036854775808 ≤ (i : Int) + (j : Int) ∧ (i : Int) + (j : Int) ≤ 9223372036854775807) (hc_2 : 0 ≤ (i : Int) + (j : Int) ∧ (i : Int) + (j : Int) ≤ 18446744073709551615) (hc_3 : -9223372036854775808 ≤ Int.fdiv ((i : Int) + (j : Int)) (2 ^ 1) ∧ Int.fdiv ((i : Int) + (j : Int)) (2 ^ 1) ≤ 9223372036854775807) (hc_4 : -9223372036854775808 ≤ (p : Int) - Int.fdiv ((i : Int) + (j : Int)) (2 ^ 1) ∧ (p : Int) - Int.fdiv ((i : Int) + (j : Int)) (2 ^ 1) ≤ 9223372036854775807) (hc_5 : aindexAddr env.D 31 (.slice (some ⟨0, vv, 0, 0, 3⟩) N N) (.int .i64 ((p : Int) - Int.fdiv ((i : Int) + (j : Int)) (2 ^ 1))) = some (.ptr (some ⟨0, vv, p - h, 0, 3⟩))) (hc_6 : ABlk.elem? ⟨l, 3, false, false, vv, vv, ff⟩ vv (p - h) = some (.agg [.int .i64 xa, .int .i64 xb, .int .i64 xc])) (hc_7 : aindexAddr env.D 31 (.slice (some ⟨0, vv, 0, 0, 3⟩) N N) (.int .i64 (Int.fdiv ((i : Int) + (j : Int)) (2 ^ 1))) = some (.ptr (some ⟨0, vv, h, 0, 3⟩))) (hc_8 : ABlk.elem? ⟨l, 3, false, false, vv, vv, ff⟩ vv h = some (.agg [.int .i64 ya, .int .i64 yb, .int .i64 yc])) (hc_9 : FDoes Try.prog g (.agg [.int .i64 xa, .int .i64 xb, .int .i64 xc] :: .agg [.int .i64 ya, .int .i64 yb, .int .i64 yc] :: cs) (AHeap.rows 60 [(0, ⟨l, 3, false, false, vv, vv, ff⟩), (1, b1), (2, b2)]) (.int .i64 c) (AHeap.rows 60 [(0, ⟨l, 3, false, false, vv, vv, ff⟩), (1, b1), (2, b2)])) (hc_10 : ¬ (c < 0)) (hc_11 : -9223372036854775808 ≤ Int.fdiv ((i : Int) + (j : Int)) (2 ^ 1) + 1 ∧ Int.fdiv ((i : Int) + (j : Int)) (2 ^ 1) + (1 : Int) ≤ 9223372036854775807) :
    Runs Try.prog 3 220 (loopAt Try.prog 73 4) [(0, .slice (some ⟨0, vv, 0, 0, 3⟩) N N), (1, .int .i64 a), (2, .int .i64 m), (3, .int .i64 b), (4, .func (.func g) [] cs), (18, .int .i64 d), (19, .int .i64 n), (20, .int .i64 i), (21, .int .i64 j), (22, .int .i64 p)] (AHeap.rows 36 [(0, ⟨l, 3, false, false, vv, vv, ff⟩), (1, b1), (2, b2)]) .normal [(0, .slice (some ⟨0, vv, 0, 0, 3⟩) N N), (1, .int .i64 (a : Int)), (2, .int .i64 (m : Int)), (3, .int .i64 (b : Int)), (4, .func (.func g) [] cs), (18, .int .i64 (d : Int)), (19, .int .i64 (n : Int)), (20, .int .i64 (Int.fdiv ((i : Int) + (j : Int)) (2 ^ 1) + 1)), (21, .int .i64 (j : Int)), (22, .int .i64 (p : Int))] (AHeap.rows 63 [(0, ⟨l, 3, false, false, vv, vv, ff⟩), (1, b1), (2, b2)]) :=
  ppath_runs env_ok mixed (hs := [.val 33002 (.bool true), .go 34002, .go 34003, .go 34005, .go 35004, .val 35005 (.ptr (some ⟨0, vv, p - h, 0, 3⟩)), .ld 35006 (.agg [.int .i64 xa, .int .i64 xb, .int .i64 xc]), .val 35009 (.ptr (some ⟨0, vv, h, 0, 3⟩)), .ld 35010 (.agg [.int .i64 ya, .int .i64 yb, .int .i64 yc]), .val 35011 (.int .i64 c), .val 35012 (.bool false), .go 36001]) (keep := [0, 1, 2, 3, 4, 18, 19, 20, 21, 22]) (by kernel_rfl) (All.cons (okT hc_0) (All.cons hc_1 (All.cons hc_2 (All.cons hc_3 (All.cons hc_4 (All.cons hc_5 (All.cons hc_6 (All.cons hc_7 (All.cons hc_8 (All.cons (CallT.mk hc_9) (All.cons (okF hc_10) (All.cons hc_11 (All.nil)))))))))))))

theorem qsm4_end (vv ff N : Nat) (g : FuncId) (cs : List AVal) (l : List AVal) (b1 b2 : ABlk) (a m b d n i j p : Nat) (hc_0 : ¬ ((i : Int) < (j : Int))) :
    Runs Try.prog 3 220 (loopAt Try.prog 73 4) [(0, .slice (some ⟨0, vv, 0, 0, 3⟩) N N), (1, .int .i64 a), (2, .int .i64 m), (3, .int .i64 b), (4, .func (.func g) [] cs), (18, .int .i64 d), (19, .int .i64 n), (20, .int .i64 i), (21, .int .i64 j), (22, .int .i64 p)] (AHeap.rows 36 [(0, ⟨l, 3, false, false, vv, vv, ff⟩), (1, b1), (2, b2)]) (.exit 8) [(0, .slice (some ⟨0, vv, 0, 0, 3⟩) N N), (1, .int .i64 (a : Int)), (2, .int .i64 (m : Int)), (3, .int .i64 (b : Int)), (4, .func (.func g) [] cs), (18, .int .i64 (d : Int)), (19, .int .i64 (n : Int)), (20, .int .i64 (i : Int))] (AHeap.rows 39 [(0, ⟨l, 3, false, false, vv, vv, ff⟩), (1, b1), (2, b2)]) :=
  ppath_runs env_ok mixed (hs := [.val 33002 (.bool false)]) (keep := [0, 1, 2, 3, 4, 18, 19, 20]) (by kernel_rfl) (All.cons (okF hc_0) (All.nil))

theorem qsmc_one (vv ff N : Nat) (g : FuncId) (cs : List AVal) (l : List AVal) (b1 b2 : ABlk) (a m b i : Nat) (l1 l2 : List AVal) (hc_0 : -9223372036854775808 ≤ (m : Int) - (a : Int) ∧ (m : Int) - (a : Int) ≤ 9223372036854775807) (hc_1 : (m : Int) - (a : Int) = 1) (hc_2 : Runs Try.prog 3 220 (.loop (loopAt Try.prog 73 0)) [(0, .slice (some ⟨0, vv, 0, 0, 3⟩) N N), (1, .int .i64 (a : Int)), (4, .func (.func g) [] cs), (10, .int .i64 (m : Int)), (11, .int .i64 (b : Int))] (AHeap.rows 11 [(0, ⟨l, 3, false, false, vv, vv, ff⟩), (1, b1), (2, b2)]) (.exit 0) [(0, .slice (some ⟨0, vv, 0, 0, 3⟩) N N), (1, .int .i64 (a : Int)), (10, .int .i64 (i : Int))] (AHeap.rows 14 [(0, ⟨l1, 3, false, false, vv, vv, ff⟩), (1, b1), (2, b2)])) (hc_3 : Runs Try.prog 3 220 (.loop (loopAt Try.prog 73 1)) [(0, .slice (some ⟨0, vv, 0, 0, 3⟩) N N), (10, .int .i64 (i : Int)), (13, .int .i64 (a : Int))] (AHeap.rows 16 [(0, ⟨l1, 3, false, false, vv, vv, ff⟩), (1, b1), (2, b2)]) (.exit 2) [] (AHeap.rows 20 [(0, ⟨l2, 3, false, false, vv, vv, ff⟩), (1, b1), (2, b2)])) :
    FDoes Try.prog 73 [.slice (some ⟨0, vv, 0, 0, 3⟩) N N, .int .i64 a, .int .i64 m, .int .i64 b, .func (.func g) [] cs] (AHeap.of [⟨l, 3, false, false, vv, vv, ff⟩, b1, b2]) (.tuple []) (AHeap.rows 20 [(0, ⟨l2, 3, false, false, vv, vv, ff⟩), (1, b1), (2, b2)]) :=
  pcall_does env_ok mixed (hs := [.go 2, .val 3 (.bool true), .keep [0, 1, 4, 10, 11], .loop [(0, .slice (some ⟨0, vv, 0, 0, 3⟩) N N), (1, .int .i64 a), (10, .int .i64 i)] (AHeap.rows 14 [(0, ⟨l1, 3, false, false, vv, vv, ff⟩), (1, b1), (2, b2)]) (.exit 0), .keep [0, 10, 13], .loop [] (AHeap.rows 20 [(0, ⟨l2, 3, false, false, vv, vv, ff⟩), (1, b1), (2, b2)]) (.exit 2)]) (rs := []) (by kernel_rfl) (All.cons hc_0 (All.cons (eqT hc_1) (All.cons hc_2 (All.cons hc_3 (All.nil)))))

theorem qsmc_last (vv ff N : Nat) (g : FuncId) (cs : List AVal) (l : List AVal) (b1 b2 : ABlk) (a m b i : Nat) (l1 l2 : List AVal) (hc_0 : -9223372036854775808 ≤ (m : Int) - (a : Int) ∧ (m : Int) - (a : Int) ≤ 9223372036854775807) (hc_1 : ¬ ((m : Int) - (a : Int) = 1)) (hc_2 : -9223372036854775808 ≤ (b : Int) - (m : Int) ∧ (b : Int) - (m : Int) ≤ 9223372036854775807) (hc_3 : (b : Int) - (m : Int) = 1) (hc_4 : Runs Try.prog 3 220 (.loop (loopAt Try.prog 73 2)) [(0, .slice (some ⟨0, vv, 0, 0, 3⟩) N N), (2, .int .i64 (m : Int)), (4, .func (.func g) [] cs), (14, .int .i64 (a : Int)), (15, .int .i64 (m : Int))] (AHeap.rows 15 [(0, ⟨l, 3, false, false, vv, vv, ff⟩), (1, b1), (2, b2)]) (.exit 4) [(0, .slice (some ⟨0, vv, 0, 0, 3⟩) N N), (2, .int .i64 (m : Int)), (14, .int .i64 (i : Int))] (AHeap.rows 18 [(0, ⟨l1, 3, false, false, vv, vv, ff⟩), (1, b1), (2, b2)])) (hc_5 : Runs Try.prog 3 220 (.loop (loopAt Try.prog 73 3)) [(0, .slice (some ⟨0, vv, 0, 0, 3⟩) N N), (14, .int .i64 (i : Int)), (17, .int .i64 (m : Int))] (AHeap.rows 20 [(0, ⟨l1, 3, false, false, vv, vv, ff⟩), (1, b1), (2, b2)]) (.exit 6) [] (AHeap.rows 23 [(0, ⟨l2, 3, false, false, vv, vv, ff⟩), (1, b1), (2, b2)])) :
    FDoes Try.prog 73 [.slice (some ⟨0, vv, 0, 0, 3⟩) N N, .int .i64 a, .int .i64 m, .int .i64 b, .func (.func g) [] cs] (AHeap.of [⟨l, 3, false, false, vv, vv, ff⟩, b1, b2]) (.tuple []) (AHeap.rows 23 [(0, ⟨l2, 3, false, false, vv, vv, ff⟩), (1, b1), (2, b2)]) :=
  pcall_does env_ok mixed (hs := [.go 2, .val 3 (.bool false), .go 12002, .val 12003 (.bool true), .keep [0, 2, 4, 14, 15], .loop [(0, .slice (some ⟨0, vv, 0, 0, 3⟩) N N), (2, .int .i64 m), (14, .int .i64 i)] (AHeap.rows 18 [(0, ⟨l1, 3, false, false, vv, vv, ff⟩), (1, b1), (2, b2)]) (.exit 4), .keep [0, 14, 17], .loop [] (AHeap.rows 23 [(0, ⟨l2, 3, false, false, vv, vv, ff⟩), (1, b1), (2, b2)]) (.exit 6)]) (rs := []) (by kernel_rfl) (All.cons hc_0 (All.cons (eqF hc_1) (All.cons hc_2 (All.cons (eqT hc_3) (All.cons hc_4 (All.cons hc_5 (All.nil)))))))

end Go.Proofs.Ytcgcpmcjaeenlaa

namespace Go.Proofs.Ytcgcpmcjaeenlaa
open Go.Lift
set_option maxRecDepth 1000000
set_option linter.unusedSimpArgs false
set_option linter.unusedVariables false
set_option linter.unusedSectionVars false

theorem fdiv2 (i j : Nat) : Int.fdiv ((i : Int) + (j : Int)) (2 ^ 1) = (((i + j) / 2 : Nat) : Int) := by
  rw [Int.fdiv_eq_ediv_of_nonneg _ (by decide)]
  omega

/-- two neighbours change places in the row -/
theorem q_swap1_row {tw : Nat → Tr} {N : Nat} (π : Nat → Nat) {k : Nat} : ((trw N tw fun j => π j).set k ((tw (π (k + 1))).val)).set (k + 1) ((tw (π k)).val) = trw N tw fun j => swap1 π k j := by
  rw [trw_set, trw_set]
  refine trw_congr fun j hj => ?_
  unfold swap1
  by_cases e2 : j = k + 1
  · rw [if_pos e2, if_neg (by omega), if_pos e2]
  · rw [if_neg e2]
    by_cases e1 : j = k
    · rw [if_pos e1, if_pos e1]
    · rw [if_neg e1, if_neg e1, if_neg e2]
theorem q_swap1_row' {tw : Nat → Tr} {N : Nat} (π : Nat → Nat) {k : Nat} : ((trw N tw fun j => π j).set (k + 1) ((tw (π k)).val)).set k ((tw (π (k + 1))).val) = trw N tw fun j => swap1 π k j := by
  rw [trw_set, trw_set]
  refine trw_congr fun j hj => ?_
  unfold swap1
  rfl

section
variable (tw : Nat → Tr) (vv ff : Nat) {N : Nat} (hN : N < 2 ^ 44) {b1 b2 : ABlk} (c1 : CloB (fun i => i < 3) b1) (c2 : CloB (fun i => i < 3) b2) {g : FuncId} {cs : List AVal} (hcs : Clos (fun i => i < 3) cs) {less : Nat → Nat → Bool} (hw : Weak less) (hcmp : QCmpOk tw vv ff N g cs b1 b2 less)
include tw vv ff hN c1 c2 hcs hw hcmp

/-! ## the case of one thing ahead -/
theorem q_sm0_loop {a b : Nat} (π : Nat → Nat) (hπ : InN N π) (hab : a < b) (hb : b ≤ N) : ∀ (fuel i j : Nat), j - i ≤ fuel → a + 1 ≤ i → i ≤ j → j ≤ b → (i = a + 1 ∨ less (π (i - 1)) (π a) = true) → (j = b ∨ less (π j) (π a) = false) →
    ∃ k, a + 1 ≤ k ∧ k ≤ b ∧ (k = a + 1 ∨ less (π (k - 1)) (π a) = true) ∧ (k = b ∨ less (π k) (π a) = false) ∧
    Loops Try.prog 3 220 (loopAt Try.prog 73 0) [(0, .slice (some ⟨0, vv, 0, 0, 3⟩) N N), (1, .int .i64 a), (4, .func (.func g) [] cs), (10, .int .i64 i), (11, .int .i64 j)] (QSH tw vv ff 11 N π b1 b2)
      (.exit 0) [(0, .slice (some ⟨0, vv, 0, 0, 3⟩) N N), (1, .int .i64 a), (10, .int .i64 k)] (QSH tw vv ff 14 N π b1 b2)
  | fuel, i, j, hf, h1, h2, h3, hl, hr => by
    by_cases hij : i = j
    · subst hij
      exact ⟨i, h1, h3, hl, hr, Loops.last (by simp) (qsm0_end vv ff N g cs _ b1 b2 a i i (by omega))⟩
    · match fuel, hf with
      | 0, hf => omega
      | fuel + 1, hf =>
        have hh : i ≤ (i + j) / 2 ∧ (i + j) / 2 < j := by omega
        generalize hhd : (i + j) / 2 = h at hh
        have hd : Int.fdiv ((i : Int) + (j : Int)) (2 ^ 1) = (h : Int) := by rw [fdiv2, hhd]
        obtain ⟨c, hc, hfd⟩ := hcmp 32 π (π h) (π a) (by omega) (hπ h (by omega)) (hπ a (by omega))
        by_cases hls : less (π h) (π a) = true
        · obtain ⟨k, k1, k2, k3, k4, k5⟩ := q_sm0_loop π hπ hab hb fuel (h + 1) j (by omega) (by omega) (by omega) h3 (.inr (by rw [show h + 1 - 1 = h by omega]; exact hls)) hr
          refine ⟨k, k1, k2, k3, k4, ?_⟩
          have s := qsm0_t vv ff N g cs (trw N tw fun k => π k) b1 b2 a i j h (tw (π h)).a (tw (π h)).b (tw (π h)).c (tw (π a)).a (tw (π a)).b (tw (π a)).c c (by omega) (by omega) (by omega) (by rw [hd]; omega) (q_ixS hd (by omega)) (q_trw_el (by omega)) (q_ixS rfl (by omega)) (q_trw_el (by omega)) hfd (hc.2 hls) (by rw [hd]; omega)
          rw [hd] at s
          exact Loops.round s (QSDrop c1 c2 (by omega) (by kernel_rfl) (by simp [All_cons, All_nil, Clo, Clos, clos3 hcs]; simp [Ids])) k5
        · have hls : less (π h) (π a) = false := by simpa using hls
          obtain ⟨k, k1, k2, k3, k4, k5⟩ := q_sm0_loop π hπ hab hb fuel i h (by omega) h1 (by omega) (by omega) hl (.inr hls)
          refine ⟨k, k1, k2, k3, k4, ?_⟩
          have s := qsm0_f vv ff N g cs (trw N tw fun k => π k) b1 b2 a i j h (tw (π h)).a (tw (π h)).b (tw (π h)).c (tw (π a)).a (tw (π a)).b (tw (π a)).c c (by omega) (by omega) (by omega) (by rw [hd]; omega) (q_ixS hd (by omega)) (q_trw_el (by omega)) (q_ixS rfl (by omega)) (q_trw_el (by omega)) hfd (fun h => by have := hc.1 h; rw [hls] at this; cases this)
          rw [hd] at s
          exact Loops.round s (QSDrop c1 c2 (by omega) (by kernel_rfl) (by simp [All_cons, All_nil, Clo, Clos, clos3 hcs]; simp [Ids])) k5

theorem q_sm1_loop {a i : Nat} (π : Nat → Nat) (hi : i ≤ N) : ∀ (f k : Nat), k + 1 + f = i → a ≤ k →
    Loops Try.prog 3 220 (loopAt Try.prog 73 1) [(0, .slice (some ⟨0, vv, 0, 0, 3⟩) N N), (10, .int .i64 i), (13, .int .i64 k)] (QSH tw vv ff 16 N (rotF π a (a + 1) (k + 1)) b1 b2) (.exit 2) [] (QSH tw vv ff 20 N (rotF π a (a + 1) i) b1 b2)
  | 0, k, e, h => by
    obtain rfl : i = k + 1 := by omega
    exact Loops.last (by simp) (qsm1_end vv ff N 0 [] _ b1 b2 (k + 1) k (by omega) (by omega))
  | f + 1, k, e, h => by
    have s := qsm1_step vv ff N 0 [] (trw N tw fun j => rotF π a (a + 1) (k + 1) j) b1 b2 i k (tw (rotF π a (a + 1) (k + 1) k)).a (tw (rotF π a (a + 1) (k + 1) k)).b (tw (rotF π a (a + 1) (k + 1) k)).c (tw (rotF π a (a + 1) (k + 1) (k + 1))).a (tw (rotF π a (a + 1) (k + 1) (k + 1))).b (tw (rotF π a (a + 1) (k + 1) (k + 1))).c _ _ _ _ _ _ (by omega) (by omega) (by omega) (by omega) (q_ixS (by omega) (by omega)) (q_trw_el (by omega)) (q_ixS rfl (by omega)) (q_trw_el (by omega)) (q_ixS rfl (by omega)) ⟨rfl, trw_get (by omega)⟩ (q_ixS (by omega) (by omega)) ⟨rfl, q_trw_set_get (by omega)⟩ (by omega)
    rw [q_swap1_row, rot1_step π h] at s
    exact Loops.round s (QSDrop c1 c2 (by omega) (by kernel_rfl) (by simp [All_cons, All_nil, Clo]; simp [Ids])) (q_sm1_loop π hi f (k + 1) (by omega) (by omega))

/-! ## the case of one thing behind -/
theorem q_sm2_loop {a m : Nat} (π : Nat → Nat) (hπ : InN N π) (ham : a < m) (hm : m < N) : ∀ (fuel i j : Nat), j - i ≤ fuel → a ≤ i → i ≤ j → j ≤ m → (i = a ∨ less (π m) (π (i - 1)) = false) → (j = m ∨ less (π m) (π j) = true) →
    ∃ k, a ≤ k ∧ k ≤ m ∧ (k = a ∨ less (π m) (π (k - 1)) = false) ∧ (k = m ∨ less (π m) (π k) = true) ∧
    Loops Try.prog 3 220 (loopAt Try.prog 73 2) [(0, .slice (some ⟨0, vv, 0, 0, 3⟩) N N), (2, .int .i64 m), (4, .func (.func g) [] cs), (14, .int .i64 i), (15, .int .i64 j)] (QSH tw vv ff 15 N π b1 b2)
      (.exit 4) [(0, .slice (some ⟨0, vv, 0, 0, 3⟩) N N), (2, .int .i64 m), (14, .int .i64 k)] (QSH tw vv ff 18 N π b1 b2)
  | fuel, i, j, hf, h1, h2, h3, hl, hr => by
    by_cases hij : i = j
    · subst hij
      exact ⟨i, h1, h3, hl, hr, Loops.last (by simp) (qsm2_end vv ff N g cs _ b1 b2 m i i (by omega))⟩
    · match fuel, hf with
      | 0, hf => omega
      | fuel + 1, hf =>
        have hh : i ≤ (i + j) / 2 ∧ (i + j) / 2 < j := by omega
        generalize hhd : (i + j) / 2 = h at hh
        have hd : Int.fdiv ((i : Int) + (j : Int)) (2 ^ 1) = (h : Int) := by rw [fdiv2, hhd]
        obtain ⟨c, hc, hfd⟩ := hcmp 37 π (π m) (π h) (by omega) (hπ m (by omega)) (hπ h (by omega))
        by_cases hls : less (π m) (π h) = true
        · obtain ⟨k, k1, k2, k3, k4, k5⟩ := q_sm2_loop π hπ ham hm fuel i h (by omega) h1 (by omega) (by omega) hl (.inr hls)
          refine ⟨k, k1, k2, k3, k4, ?_⟩
          have s := qsm2_t vv ff N g cs (trw N tw fun k => π k) b1 b2 m i j h (tw (π m)).a (tw (π m)).b (tw (π m)).c (tw (π h)).a (tw (π h)).b (tw (π h)).c c (by omega) (by omega) (by omega) (by rw [hd]; omega) (q_ixS rfl (by omega)) (q_trw_el (by omega)) (q_ixS hd (by omega)) (q_trw_el (by omega)) hfd (hc.2 hls)
          rw [hd] at s
          exact Loops.round s (QSDrop c1 c2 (by omega) (by kernel_rfl) (by simp [All_cons, All_nil, Clo, Clos, clos3 hcs]; simp [Ids])) k5
        · have hls : less (π m) (π h) = false := by simpa using hls
          obtain ⟨k, k1, k2, k3, k4, k5⟩ := q_sm2_loop π hπ ham hm fuel (h + 1) j (by omega) (by omega) (by omega) h3 (.inr (by rw [show h + 1 - 1 = h by omega]; exact hls)) hr
          refine ⟨k, k1, k2, k3, k4, ?_⟩
          have s := qsm2_f vv ff N g cs (trw N tw fun k => π k) b1 b2 m i j h (tw (π m)).a (tw (π m)).b (tw (π m)).c (tw (π h)).a (tw (π h)).b (tw (π h)).c c (by omega) (by omega) (by omega) (by rw [hd]; omega) (q_ixS rfl (by omega)) (q_trw_el (by omega)) (q_ixS hd (by omega)) (q_trw_el (by omega)) hfd (fun h => by have := hc.1 h; rw [hls] at this; cases this) (by rw [hd]; omega)
          rw [hd] at s
          exact Loops.round s (QSDrop c1 c2 (by omega) (by kernel_rfl) (by simp [All_cons, All_nil, Clo, Clos, clos3 hcs]; simp [Ids])) k5

theorem q_sm3_loop {m i : Nat} (π : Nat → Nat) (hm : m < N) : ∀ (f k : Nat), i + f = k → k ≤ m →
    Loops Try.prog 3 220 (loopAt Try.prog 73 3) [(0, .slice (some ⟨0, vv, 0, 0, 3⟩) N N), (14, .int .i64 i), (17, .int .i64 k)] (QSH tw vv ff 20 N (rotF π k m (m + 1)) b1 b2) (.exit 6) [] (QSH tw vv ff 23 N (rotF π i m (m + 1)) b1 b2)
  | 0, k, e, h => by
    obtain rfl : i = k := by omega
    exact Loops.last (by simp) (qsm3_end vv ff N 0 [] _ b1 b2 i i (by omega))
  | f + 1, k, e, h => by
    obtain ⟨k', rfl⟩ : ∃ k', k = k' + 1 := ⟨k - 1, by omega⟩
    have s := qsm3_step vv ff N 0 [] (trw N tw fun j => rotF π (k' + 1) m (m + 1) j) b1 b2 i (k' + 1) (tw (rotF π (k' + 1) m (m + 1) (k' + 1))).a (tw (rotF π (k' + 1) m (m + 1) (k' + 1))).b (tw (rotF π (k' + 1) m (m + 1) (k' + 1))).c (tw (rotF π (k' + 1) m (m + 1) k')).a (tw (rotF π (k' + 1) m (m + 1) k')).b (tw (rotF π (k' + 1) m (m + 1) k')).c _ _ _ _ _ _ (by omega) (by omega) (by omega) (q_ixS (by omega) (by omega)) (q_trw_el (by omega)) (q_ixS rfl (by omega)) (q_trw_el (by omega)) (q_ixS rfl (by omega)) ⟨rfl, trw_get (by omega)⟩ (q_ixS (by omega) (by omega)) ⟨rfl, q_trw_set_get (by omega)⟩ (by omega)
    have r := rotL_step π h (by omega)
    rw [show k' + 1 - 1 = k' by omega] at r s
    rw [q_swap1_row', r, show ((k' + 1 : Nat) : Int) - 1 = (k' : Int) by omega] at s
    exact Loops.round s (QSDrop c1 c2 (by omega) (by kernel_rfl) (by simp [All_cons, All_nil, Clo]; simp [Ids])) (q_sm3_loop π hm f k' (by omega) (by omega))

/-- one thing ahead -/
theorem q_sm_one {a m b : Nat} (π : Nat → Nat) (hπ : InN N π) (hm : m = a + 1) (hmb : m < b) (hb : b ≤ N) (hp : Parts less π a m b) :
    ∃ σ, Same π σ a b ∧ Srt less σ a b ∧ ∀ K, 3 ≤ K → FDoes Try.prog 73 [.slice (some ⟨0, vv, 0, 0, 3⟩) N N, .int .i64 a, .int .i64 m, .int .i64 b, .func (.func g) [] cs] (QSH tw vv ff K N π b1 b2) (.tuple []) (QSH tw vv ff K N σ b1 b2) := by
  subst hm
  obtain ⟨k, k1, k2, k3, k4, k5⟩ := q_sm0_loop tw vv ff hN c1 c2 hcs hw hcmp π hπ (by omega : a < b) hb (b - (a + 1)) (a + 1) b (by omega) (by omega) (by omega) (by omega) (.inl rfl) (.inl rfl)
  have l := q_sm1_loop tw vv ff hN c1 c2 hcs hw hcmp (a := a) (i := k) π (by omega) (k - (a + 1)) a (by omega) (by omega)
  rw [rot1_zero] at l
  refine ⟨_, (rotF_same π (by omega) (by omega)).wide (Nat.le_refl a) k2 (by omega), merge_one hw hp k1 k2 k3 k4, fun K hK => ?_⟩
  exact (qsmc_one vv ff N g cs _ b1 b2 a (a + 1) b k _ _ (by omega) (by omega) (Runs.of_loops k5) (Runs.of_loops l)).all3 (by kernel_rfl) ⟨fun _ => rfl, by simp [Clo, Clos]⟩ (q_srow_clo _ _ _ _ _ _) (q_srow_clo _ _ _ _ _ _) c1 c2 (by simp [Clos, Clo, hcs]) hK

/-- one thing behind -/
theorem q_sm_last {a m b : Nat} (π : Nat → Nat) (hπ : InN N π) (ham : a < m) (ham2 : m ≠ a + 1) (hbm : b = m + 1) (hb : b ≤ N) (hp : Parts less π a m b) :
    ∃ σ, Same π σ a b ∧ Srt less σ a b ∧ ∀ K, 3 ≤ K → FDoes Try.prog 73 [.slice (some ⟨0, vv, 0, 0, 3⟩) N N, .int .i64 a, .int .i64 m, .int .i64 b, .func (.func g) [] cs] (QSH tw vv ff K N π b1 b2) (.tuple []) (QSH tw vv ff K N σ b1 b2) := by
  subst hbm
  obtain ⟨k, k1, k2, k3, k4, k5⟩ := q_sm2_loop tw vv ff hN c1 c2 hcs hw hcmp π hπ ham (by omega) (m - a) a m (by omega) (by omega) (by omega) (by omega) (.inl rfl) (.inl rfl)
  have l := q_sm3_loop tw vv ff hN c1 c2 hcs hw hcmp (i := k) π (by omega : m < N) (m - k) m (by omega) (by omega)
  rw [rotL_zero] at l
  refine ⟨_, (rotF_same π k2 (by omega)).wide k1 (Nat.le_refl _) (by omega), merge_last hw hp k1 k2 k3 k4, fun K hK => ?_⟩
  exact (qsmc_last vv ff N g cs _ b1 b2 a m (m + 1) k _ _ (by omega) (by omega) (by omega) (by omega) (Runs.of_loops k5) (Runs.of_loops l)).all3 (by kernel_rfl) ⟨fun _ => rfl, by simp [Clo, Clos]⟩ (q_srow_clo _ _ _ _ _ _) (q_srow_clo _ _ _ _ _ _) c1 c2 (by simp [Clos, Clo, hcs]) hK

end
end Go.Proofs.Ytcgcpmcjaeenlaa
