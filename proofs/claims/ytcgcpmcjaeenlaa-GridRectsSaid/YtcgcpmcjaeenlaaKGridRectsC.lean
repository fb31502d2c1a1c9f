/-
  Parts of the proof, one behind the other:
  grid.Rects and what it calls: the walk.
  grid.Rects: what it answers.
  frescoref09.Rects and what it calls: the walk.
  frescoref09.Rects, and grid.Rects in every memory: what they answer.
  THE LIFT, PART W: a call told of a small memory whose rows name rows of it, in every memory.
  THE LIFT, PART X: at a loop's head or end rows get other numbers; rows that nobody names are added.
  frescoref09.Rects: what it answers.
  Lists that the statements of chapter 9 compare and lend: the walk.
  Lists that the statements of chapter 9 compare and lend: what comes of it.
  THE LIFT, PART R: the abstract machine once more, so written that the kernel runs it with every value worked out at once. What it answers the abstract machine answers.
  'frescolaw09.alive' answers true, wherever it is called (a closed run).
-/
import Derived.Test.YtcgcpmcjaeenlaaKGridRectsB

namespace Go.Proofs.Ytcgcpmcjaeenlaa
open Go.Lift
set_option maxRecDepth 1000000
set_option linter.unusedSimpArgs false
set_option linter.unusedVariables false
set_option linter.unusedSectionVars false

theorem bg_step (o : Option AAddr) (n c ver off i : Nat) (b : ABlk) (l : List AVal) (g x acc old : Int) (hc_0 : (i : Int) < (n : Int)) (hc_1 : aindexAddr env.D 32 (.slice o n c) (.int .i64 (i : Int)) = some (.ptr (some ⟨0, ver, off + i, 0, 1⟩))) (hc_2 : ABlk.elem? b ver (off + i) = some (.int .i64 x)) (hc_3 : -9223372036854775808 ≤ (i : Int) + 1 ∧ (i : Int) + (1 : Int) ≤ 9223372036854775807) (hc_4 : 0 ≤ (i : Int) ∧ (i : Int) < (↑(n + 1) : Int) ∧ 1 = 1) (hc_5 : ABlk.elem? (.made l 1 true) 0 (0 + Int.toNat (i : Int)) = some (.int .i64 acc)) (hc_8 : -9223372036854775808 ≤ acc + sideZ x ∧ acc + sideZ x ≤ 9223372036854775807) (hc_9 : -9223372036854775808 ≤ acc + sideZ x + g ∧ acc + sideZ x + g ≤ 9223372036854775807) (hc_10 : 0 ≤ (i : Int) + 1 ∧ (i : Int) + 1 < (↑(n + 1) : Int) ∧ 1 = 1) (hc_11 : 0 = 0 ∧ l[0 + Int.toNat ((i : Int) + 1)]? = some (.int .i64 old)) (hc_12 : -9223372036854775808 ≤ (i : Int) + 1 ∧ (i : Int) + (1 : Int) ≤ 9223372036854775807) :
    Runs Try.prog 1 34 (loopAt Try.prog 47 0) [(1, .int .i64 g), (5, .slice (some ⟨5, 0, 0, 0, 1⟩) (n + 1) (n + 1)), (12, .slice o n c), (13, .int .i64 n), (14, .int .i64 i)] (AHeap.rows 10 [(0, b), (5, .made l 1 true)]) .normal [(1, .int .i64 g), (5, .slice (some ⟨5, 0, 0, 0, 1⟩) (n + 1) (n + 1)), (12, .slice o n c), (13, .int .i64 (n : Int)), (14, .int .i64 ((i : Int) + 1))] (AHeap.rows 32 [(0, b), (5, (.made (List.set l (0 + Int.toNat ((i : Int) + 1)) (.int .i64 (acc + sideZ x + g))) 1 true))]) :=
  ppath_runs env_ok mixed (hs := [.val 3000 (.bool true), .val 4001 (.ptr (some ⟨0, ver, off + i, 0, 1⟩)), .ld 4002 (.int .i64 x), .go 5002, .go 5005, .ld 5006 (.int .i64 acc), .val 5008 (.int .i64 (sideZ x)), .go 5009, .go 5011, .go 5012, .st 5013 (.int .i64 old), .go 6000]) (keep := [1, 5, 12, 13, 14]) (by kernel_rfl) (All.cons (okT hc_0) (All.cons hc_1 (All.cons hc_2 (All.cons hc_3 (All.cons hc_4 (All.cons hc_5 (All.cons (show CallT Try.prog 30 [.int .i64 x, .int .i64 0, .int .i64 4096] (AHeap.rows 30 [(0, b), (5, .made l 1 true)]) (.int .i64 (sideZ x)) (AHeap.rows 30 [(0, b), (5, .made l 1 true)]) from ⟨(gside_does _ _)⟩) (All.cons (show sameOld 30 (AHeap.rows 30 [(0, b), (5, .made l 1 true)]) (AHeap.rows 30 [(0, b), (5, .made l 1 true)]) = true from sameOld_refl _ _) (All.cons hc_8 (All.cons hc_9 (All.cons hc_10 (All.cons hc_11 (All.cons hc_12 (All.nil))))))))))))))

theorem bg_end (o : Option AAddr) (n c i : Nat) (b : ABlk) (l : List AVal) (g : Int) (hc_0 : ¬ ((i : Int) < (n : Int))) :
    Runs Try.prog 1 34 (loopAt Try.prog 47 0) [(1, .int .i64 g), (5, .slice (some ⟨5, 0, 0, 0, 1⟩) (n + 1) (n + 1)), (12, .slice o n c), (13, .int .i64 n), (14, .int .i64 i)] (AHeap.rows 10 [(0, b), (5, .made l 1 true)]) (.exit 0) [(5, .slice (some ⟨5, 0, 0, 0, 1⟩) (n + 1) (n + 1))] (AHeap.rows 11 [(0, b), (5, .made l 1 true)]) :=
  ppath_runs env_ok mixed (hs := [.val 3000 (.bool false)]) (keep := [5]) (by kernel_rfl) (All.cons (okF hc_0) (All.nil))

theorem bg_call (o : Option AAddr) (n c : Nat) (b : ABlk) (l : List AVal) (g : Int) (hc_0 : -9223372036854775808 ≤ (n : Int) + 1 ∧ (n : Int) + (1 : Int) ≤ 9223372036854775807) (hc_1 : 0 ≤ (n : Int) + 1 ∧ (n : Int) + 1 ≤ (n : Int) + 1 ∧ (n : Int) + (1 : Int) < 4611686018427387904 ∧ (8 : Int) * ((n : Int) + 1) ≤ 281474976710656) (hc_2 : Runs Try.prog 1 34 (.loop (loopAt Try.prog 47 0)) [(1, .int .i64 g), (5, .slice (some ⟨5, 0, 0, 0, 1⟩) (n + 1) (n + 1)), (12, .slice o n c), (13, .int .i64 (n : Int)), (14, .int .i64 0)] (AHeap.rows 10 [(0, b), (5, .made (List.replicate (n + 1) (.int .i64 0)) 1 true)]) (.exit 0) [(5, .slice (some ⟨5, 0, 0, 0, 1⟩) (n + 1) (n + 1))] (AHeap.rows 11 [(0, b), (5, .made l 1 true)])) :
    FDoes Try.prog 47 [.slice o n c, .int .i64 g] (AHeap.of [b]) (.slice (some ⟨5, 0, 0, 0, 1⟩) (n + 1) (n + 1)) (AHeap.rows 13 [(0, b), (5, .made l 1 true)]) :=
  pcall_does env_ok mixed (hs := [.go 1002, .go 1003, .keep [1, 5, 12, 13, 14], .loop [(5, .slice (some ⟨5, 0, 0, 0, 1⟩) (n + 1) (n + 1))] (AHeap.rows 11 [(0, b), (5, .made l 1 true)]) (.exit 0)]) (rs := []) (by kernel_rfl) (All.cons hc_0 (All.cons hc_1 (All.cons hc_2 (All.nil))))

theorem gs_neg_nT (o : Option AAddr) (n c ver off : Nat) (b : ABlk) (g p m x y : Int) (hc_0 : -9223372036854775808 ≤ (↑(n + 1) : Int) - 1 ∧ (↑(n + 1) : Int) - (1 : Int) ≤ 9223372036854775807) (hc_1 : p < 0) (hc_2 : -9223372036854775808 ≤ (if 1 > m then 1 else m) + p ∧ (if 1 > m then 1 else m) + p ≤ 9223372036854775807) (hc_3 : 0 ≥ (↑(n + 1) : Int) - 1) :
    FDoes Try.prog 48 [.slice o (n + 1) c, .int .i64 g, .int .i64 p, .int .i64 m] (AHeap.of [b]) (.tuple [.int .i64 0, .int .i64 0, AVal.bool false]) (AHeap.rows 28 [(0, b)]) :=
  pcall_does env_ok mixed (hs := [.go 1002, .val 3001 (.bool true), .go 4002, .val 6002 (.bool true)]) (rs := []) (by kernel_rfl) (All.cons hc_0 (All.cons (okT hc_1) (All.cons hc_2 (All.cons (okT hc_3) (All.nil)))))

theorem gs_pos_nT (o : Option AAddr) (n c ver off : Nat) (b : ABlk) (g p m x y : Int) (hc_0 : -9223372036854775808 ≤ (↑(n + 1) : Int) - 1 ∧ (↑(n + 1) : Int) - (1 : Int) ≤ 9223372036854775807) (hc_1 : ¬ (p < 0)) (hc_2 : p ≥ (↑(n + 1) : Int) - 1) :
    FDoes Try.prog 48 [.slice o (n + 1) c, .int .i64 g, .int .i64 p, .int .i64 m] (AHeap.of [b]) (.tuple [.int .i64 0, .int .i64 0, AVal.bool false]) (AHeap.rows 23 [(0, b)]) :=
  pcall_does env_ok mixed (hs := [.go 1002, .val 3001 (.bool false), .val 6002 (.bool true)]) (rs := []) (by kernel_rfl) (All.cons hc_0 (All.cons (okF hc_1) (All.cons (okT hc_2) (All.nil))))

theorem gs_neg_nFT (o : Option AAddr) (n c ver off : Nat) (b : ABlk) (g p m x y : Int) (hc_0 : -9223372036854775808 ≤ (↑(n + 1) : Int) - 1 ∧ (↑(n + 1) : Int) - (1 : Int) ≤ 9223372036854775807) (hc_1 : p < 0) (hc_2 : -9223372036854775808 ≤ (if 1 > m then 1 else m) + p ∧ (if 1 > m then 1 else m) + p ≤ 9223372036854775807) (hc_3 : ¬ (0 ≥ (↑(n + 1) : Int) - 1)) (hc_4 : (if 1 > m then 1 else m) + p < 1) :
    FDoes Try.prog 48 [.slice o (n + 1) c, .int .i64 g, .int .i64 p, .int .i64 m] (AHeap.of [b]) (.tuple [.int .i64 0, .int .i64 0, AVal.bool false]) (AHeap.rows 28 [(0, b)]) :=
  pcall_does env_ok mixed (hs := [.go 1002, .val 3001 (.bool true), .go 4002, .val 6002 (.bool false), .val 6005 (.bool true)]) (rs := []) (by kernel_rfl) (All.cons hc_0 (All.cons (okT hc_1) (All.cons hc_2 (All.cons (okF hc_3) (All.cons (okT hc_4) (All.nil))))))

theorem gs_neg_ok (o : Option AAddr) (n c ver off : Nat) (b : ABlk) (g p m x y : Int) (q : Nat) (hc_0 : -9223372036854775808 ≤ (↑(n + 1) : Int) - 1 ∧ (↑(n + 1) : Int) - (1 : Int) ≤ 9223372036854775807) (hc_1 : p < 0) (hc_2 : -9223372036854775808 ≤ (if 1 > m then 1 else m) + p ∧ (if 1 > m then 1 else m) + p ≤ 9223372036854775807) (hc_3 : ¬ (0 ≥ (↑(n + 1) : Int) - 1)) (hc_4 : ¬ ((if 1 > m then 1 else m) + p < 1)) (hc_5 : -9223372036854775808 ≤ (↑(n + 1) : Int) - 1 - 0 ∧ (↑(n + 1) : Int) - 1 - (0 : Int) ≤ 9223372036854775807) (hc_6 : aindexAddr env.D 32 (.slice o (n + 1) c) (.int .i64 0) = some (.ptr (some ⟨0, ver, off + 0, 0, 1⟩))) (hc_7 : ABlk.elem? b ver (off + 0) = some (.int .i64 x)) (hc_8 : (-9223372036854775808 ≤ 0 + if (↑(n + 1) : Int) - 1 - 0 < (if 1 > m then 1 else m) + p then (↑(n + 1) : Int) - 1 - 0 else (if 1 > m then 1 else m) + p) ∧ (0 + if (↑(n + 1) : Int) - 1 - 0 < (if 1 > m then 1 else m) + p then (↑(n + 1) : Int) - 1 - 0 else (if 1 > m then 1 else m) + p) ≤ 9223372036854775807) (hc_9 : aindexAddr env.D 32 (.slice o (n + 1) c) (.int .i64 (0 + if (↑(n + 1) : Int) - 1 - 0 < (if 1 > m then 1 else m) + p then (↑(n + 1) : Int) - 1 - 0 else (if 1 > m then 1 else m) + p)) = some (.ptr (some ⟨0, ver, off + q, 0, 1⟩))) (hc_10 : ABlk.elem? b ver (off + q) = some (.int .i64 y)) (hc_11 : -9223372036854775808 ≤ y - g ∧ y - g ≤ 9223372036854775807) (hc_12 : aindexAddr env.D 32 (.slice o (n + 1) c) (.int .i64 0) = some (.ptr (some ⟨0, ver, off + 0, 0, 1⟩))) (hc_13 : ABlk.elem? b ver (off + 0) = some (.int .i64 x)) (hc_14 : -9223372036854775808 ≤ y - g - x ∧ y - g - x ≤ 9223372036854775807) :
    FDoes Try.prog 48 [.slice o (n + 1) c, .int .i64 g, .int .i64 p, .int .i64 m] (AHeap.of [b]) (.tuple [.int .i64 x, .int .i64 (y - g - x), AVal.bool true]) (AHeap.rows 51 [(0, b)]) :=
  pcall_does env_ok mixed (hs := [.go 1002, .val 3001 (.bool true), .go 4002, .val 6002 (.bool false), .val 6005 (.bool false), .go 8003, .val 9002 (.ptr (some ⟨0, ver, off + 0, 0, 1⟩)), .ld 9003 (.int .i64 x), .go 9007, .val 9008 (.ptr (some ⟨0, ver, off + q, 0, 1⟩)), .ld 9009 (.int .i64 y), .go 9011, .val 9014 (.ptr (some ⟨0, ver, off + 0, 0, 1⟩)), .ld 9015 (.int .i64 x), .go 9016]) (rs := []) (by kernel_rfl) (All.cons hc_0 (All.cons (okT hc_1) (All.cons hc_2 (All.cons (okF hc_3) (All.cons (okF hc_4) (All.cons hc_5 (All.cons hc_6 (All.cons hc_7 (All.cons hc_8 (All.cons hc_9 (All.cons hc_10 (All.cons hc_11 (All.cons hc_12 (All.cons hc_13 (All.cons hc_14 (All.nil))))))))))))))))

theorem gs_pos_ok (o : Option AAddr) (n c ver off : Nat) (b : ABlk) (g p m x y : Int) (q r : Nat) (hc_0 : -9223372036854775808 ≤ (↑(n + 1) : Int) - 1 ∧ (↑(n + 1) : Int) - (1 : Int) ≤ 9223372036854775807) (hc_1 : ¬ (p < 0)) (hc_2 : ¬ (p ≥ (↑(n + 1) : Int) - 1)) (hc_3 : ¬ ((if 1 > m then 1 else m) < 1)) (hc_4 : -9223372036854775808 ≤ (↑(n + 1) : Int) - 1 - p ∧ (↑(n + 1) : Int) - 1 - p ≤ 9223372036854775807) (hc_5 : aindexAddr env.D 32 (.slice o (n + 1) c) (.int .i64 p) = some (.ptr (some ⟨0, ver, off + r, 0, 1⟩))) (hc_6 : ABlk.elem? b ver (off + r) = some (.int .i64 x)) (hc_7 : (-9223372036854775808 ≤ p + if (↑(n + 1) : Int) - 1 - p < if 1 > m then 1 else m then (↑(n + 1) : Int) - 1 - p else if 1 > m then 1 else m) ∧ (p + if (↑(n + 1) : Int) - 1 - p < if 1 > m then 1 else m then (↑(n + 1) : Int) - 1 - p else if 1 > m then 1 else m) ≤ 9223372036854775807) (hc_8 : aindexAddr env.D 32 (.slice o (n + 1) c) (.int .i64 (p + if (↑(n + 1) : Int) - 1 - p < if 1 > m then 1 else m then (↑(n + 1) : Int) - 1 - p else if 1 > m then 1 else m)) = some (.ptr (some ⟨0, ver, off + q, 0, 1⟩))) (hc_9 : ABlk.elem? b ver (off + q) = some (.int .i64 y)) (hc_10 : -9223372036854775808 ≤ y - g ∧ y - g ≤ 9223372036854775807) (hc_11 : aindexAddr env.D 32 (.slice o (n + 1) c) (.int .i64 p) = some (.ptr (some ⟨0, ver, off + r, 0, 1⟩))) (hc_12 : ABlk.elem? b ver (off + r) = some (.int .i64 x)) (hc_13 : -9223372036854775808 ≤ y - g - x ∧ y - g - x ≤ 9223372036854775807) :
    FDoes Try.prog 48 [.slice o (n + 1) c, .int .i64 g, .int .i64 p, .int .i64 m] (AHeap.of [b]) (.tuple [.int .i64 x, .int .i64 (y - g - x), AVal.bool true]) (AHeap.rows 46 [(0, b)]) :=
  pcall_does env_ok mixed (hs := [.go 1002, .val 3001 (.bool false), .val 6002 (.bool false), .val 6005 (.bool false), .go 8003, .val 9002 (.ptr (some ⟨0, ver, off + r, 0, 1⟩)), .ld 9003 (.int .i64 x), .go 9007, .val 9008 (.ptr (some ⟨0, ver, off + q, 0, 1⟩)), .ld 9009 (.int .i64 y), .go 9011, .val 9014 (.ptr (some ⟨0, ver, off + r, 0, 1⟩)), .ld 9015 (.int .i64 x), .go 9016]) (rs := []) (by kernel_rfl) (All.cons hc_0 (All.cons (okF hc_1) (All.cons (okF hc_2) (All.cons (okF hc_3) (All.cons hc_4 (All.cons hc_5 (All.cons hc_6 (All.cons hc_7 (All.cons hc_8 (All.cons hc_9 (All.cons hc_10 (All.cons hc_11 (All.cons hc_12 (All.cons hc_13 (All.nil)))))))))))))))

theorem rx_TT (o : Option AAddr) (n m k c ver off i : Nat) (b0 b1 b r0 r1 : ABlk) (l : List AVal) (g qa qb qc qd bx wx by_ wy : Int) (u : Bool) (hc_0 : (i : Int) < (k : Int)) (hc_1 : aindexAddr env.D 22 (.slice o k c) (.int .i64 (i : Int)) = some (.ptr (some ⟨2, ver, off + i, 0, 4⟩))) (hc_2 : ABlk.elem? b ver (off + i) = some (.agg [.int .i64 qa, .int .i64 qb, .int .i64 qc, .int .i64 qd])) (hc_3 : FDoes Try.prog 48 [.slice (some ⟨23, 0, 0, 0, 1⟩) (n + 1) (n + 1), .int .i64 g, .int .i64 qa, .int .i64 qc] (AHeap.rows 53 [(0, b0), (1, b1), (2, b), (23, r0), (24, r1), (27, .made l 4 true), (36, (.made ([.agg [.int .i64 qa, .int .i64 qb, .int .i64 qc, .int .i64 qd]]) 4 true))]) (.tuple [.int .i64 bx, .int .i64 wx, AVal.bool true]) (AHeap.rows 53 [(0, b0), (1, b1), (2, b), (23, r0), (24, r1), (27, .made l 4 true), (36, (.made ([.agg [.int .i64 qa, .int .i64 qb, .int .i64 qc, .int .i64 qd]]) 4 true))])) (hc_4 : FDoes Try.prog 48 [.slice (some ⟨24, 0, 0, 0, 1⟩) (m + 1) (m + 1), .int .i64 g, .int .i64 qb, .int .i64 qd] (AHeap.rows 67 [(0, b0), (1, b1), (2, b), (23, r0), (24, r1), (27, .made l 4 true), (36, (.made ([.agg [.int .i64 qa, .int .i64 qb, .int .i64 qc, .int .i64 qd]]) 4 true))]) (.tuple [.int .i64 by_, .int .i64 wy, AVal.bool true]) (AHeap.rows 67 [(0, b0), (1, b1), (2, b), (23, r0), (24, r1), (27, .made l 4 true), (36, (.made ([.agg [.int .i64 qa, .int .i64 qb, .int .i64 qc, .int .i64 qd]]) 4 true))])) (hc_5 : 0 ≤ (i : Int) ∧ (i : Int) < (k : Int) ∧ 4 = 4) (hc_6 : 0 = 0 ∧ l[0 + Int.toNat (i : Int)]? = some (.agg [.int .i64 0, .int .i64 0, .int .i64 0, .int .i64 0])) (hc_7 : -9223372036854775808 ≤ (i : Int) + 1 ∧ (i : Int) + (1 : Int) ≤ 9223372036854775807) :
    Runs Try.prog 3 82 (loopAt Try.prog 21 0) [(2, .int .i64 g), (9, .slice (some ⟨23, 0, 0, 0, 1⟩) (n + 1) (n + 1)), (10, .slice (some ⟨24, 0, 0, 0, 1⟩) (m + 1) (m + 1)), (11, .slice (some ⟨27, 0, 0, 0, 4⟩) k k), (39, .slice o k c), (40, .int .i64 k), (41, .int .i64 i)] (AHeap.rows 32 [(0, b0), (1, b1), (2, b), (23, r0), (24, r1), (27, .made l 4 true)]) .normal [(2, .int .i64 g), (9, .slice (some ⟨23, 0, 0, 0, 1⟩) (n + 1) (n + 1)), (10, .slice (some ⟨24, 0, 0, 0, 1⟩) (m + 1) (m + 1)), (11, .slice (some ⟨27, 0, 0, 0, 4⟩) k k), (39, .slice o k c), (40, .int .i64 (k : Int)), (41, .int .i64 ((i : Int) + 1))] (AHeap.rows 82 [(0, b0), (1, b1), (2, b), (23, r0), (24, r1), (27, (.made (List.set l (0 + Int.toNat (i : Int)) (.agg [.int .i64 bx, .int .i64 by_, .int .i64 wx, .int .i64 wy])) 4 true)), (36, (.made ([.agg [.int .i64 qa, .int .i64 qb, .int .i64 qc, .int .i64 qd]]) 4 true))]) :=
  ppath_runs env_ok mixed (hs := [.val 7000 (.bool true), .val 8001 (.ptr (some ⟨2, ver, off + i, 0, 4⟩)), .ld 8002 (.agg [.int .i64 qa, .int .i64 qb, .int .i64 qc, .int .i64 qd]), .val 9006 (.tuple [.int .i64 bx, .int .i64 wx, .bool true]), .val 10006 (.tuple [.int .i64 by_, .int .i64 wy, .bool true]), .go 12007, .st 12008 (.agg [.int .i64 0, .int .i64 0, .int .i64 0, .int .i64 0]), .go 13000]) (keep := [2, 9, 10, 11, 39, 40, 41]) (by kernel_rfl) (All.cons (okT hc_0) (All.cons hc_1 (All.cons hc_2 (All.cons (CallT.mk hc_3) (All.cons (CallT.mk hc_4) (All.cons hc_5 (All.cons hc_6 (All.cons hc_7 (All.nil)))))))))

theorem rx_TF (o : Option AAddr) (n m k c ver off i : Nat) (b0 b1 b r0 r1 : ABlk) (l : List AVal) (g qa qb qc qd bx wx by_ wy : Int) (u : Bool) (hc_0 : (i : Int) < (k : Int)) (hc_1 : aindexAddr env.D 22 (.slice o k c) (.int .i64 (i : Int)) = some (.ptr (some ⟨2, ver, off + i, 0, 4⟩))) (hc_2 : ABlk.elem? b ver (off + i) = some (.agg [.int .i64 qa, .int .i64 qb, .int .i64 qc, .int .i64 qd])) (hc_3 : FDoes Try.prog 48 [.slice (some ⟨23, 0, 0, 0, 1⟩) (n + 1) (n + 1), .int .i64 g, .int .i64 qa, .int .i64 qc] (AHeap.rows 53 [(0, b0), (1, b1), (2, b), (23, r0), (24, r1), (27, .made l 4 true), (36, (.made ([.agg [.int .i64 qa, .int .i64 qb, .int .i64 qc, .int .i64 qd]]) 4 true))]) (.tuple [.int .i64 bx, .int .i64 wx, AVal.bool true]) (AHeap.rows 53 [(0, b0), (1, b1), (2, b), (23, r0), (24, r1), (27, .made l 4 true), (36, (.made ([.agg [.int .i64 qa, .int .i64 qb, .int .i64 qc, .int .i64 qd]]) 4 true))])) (hc_4 : FDoes Try.prog 48 [.slice (some ⟨24, 0, 0, 0, 1⟩) (m + 1) (m + 1), .int .i64 g, .int .i64 qb, .int .i64 qd] (AHeap.rows 67 [(0, b0), (1, b1), (2, b), (23, r0), (24, r1), (27, .made l 4 true), (36, (.made ([.agg [.int .i64 qa, .int .i64 qb, .int .i64 qc, .int .i64 qd]]) 4 true))]) (.tuple [.int .i64 by_, .int .i64 wy, AVal.bool false]) (AHeap.rows 67 [(0, b0), (1, b1), (2, b), (23, r0), (24, r1), (27, .made l 4 true), (36, (.made ([.agg [.int .i64 qa, .int .i64 qb, .int .i64 qc, .int .i64 qd]]) 4 true))])) (hc_5 : -9223372036854775808 ≤ (i : Int) + 1 ∧ (i : Int) + (1 : Int) ≤ 9223372036854775807) :
    Runs Try.prog 3 82 (loopAt Try.prog 21 0) [(2, .int .i64 g), (9, .slice (some ⟨23, 0, 0, 0, 1⟩) (n + 1) (n + 1)), (10, .slice (some ⟨24, 0, 0, 0, 1⟩) (m + 1) (m + 1)), (11, .slice (some ⟨27, 0, 0, 0, 4⟩) k k), (39, .slice o k c), (40, .int .i64 k), (41, .int .i64 i)] (AHeap.rows 32 [(0, b0), (1, b1), (2, b), (23, r0), (24, r1), (27, .made l 4 true)]) .normal [(2, .int .i64 g), (9, .slice (some ⟨23, 0, 0, 0, 1⟩) (n + 1) (n + 1)), (10, .slice (some ⟨24, 0, 0, 0, 1⟩) (m + 1) (m + 1)), (11, .slice (some ⟨27, 0, 0, 0, 4⟩) k k), (39, .slice o k c), (40, .int .i64 (k : Int)), (41, .int .i64 ((i : Int) + 1))] (AHeap.rows 73 [(0, b0), (1, b1), (2, b), (23, r0), (24, r1), (27, .made l 4 true), (36, (.made ([.agg [.int .i64 qa, .int .i64 qb, .int .i64 qc, .int .i64 qd]]) 4 true))]) :=
  ppath_runs env_ok mixed (hs := [.val 7000 (.bool true), .val 8001 (.ptr (some ⟨2, ver, off + i, 0, 4⟩)), .ld 8002 (.agg [.int .i64 qa, .int .i64 qb, .int .i64 qc, .int .i64 qd]), .val 9006 (.tuple [.int .i64 bx, .int .i64 wx, .bool true]), .val 10006 (.tuple [.int .i64 by_, .int .i64 wy, .bool false]), .go 13000]) (keep := [2, 9, 10, 11, 39, 40, 41]) (by kernel_rfl) (All.cons (okT hc_0) (All.cons hc_1 (All.cons hc_2 (All.cons (CallT.mk hc_3) (All.cons (CallT.mk hc_4) (All.cons hc_5 (All.nil)))))))

theorem rx_F (o : Option AAddr) (n m k c ver off i : Nat) (b0 b1 b r0 r1 : ABlk) (l : List AVal) (g qa qb qc qd bx wx by_ wy : Int) (u : Bool) (hc_0 : (i : Int) < (k : Int)) (hc_1 : aindexAddr env.D 22 (.slice o k c) (.int .i64 (i : Int)) = some (.ptr (some ⟨2, ver, off + i, 0, 4⟩))) (hc_2 : ABlk.elem? b ver (off + i) = some (.agg [.int .i64 qa, .int .i64 qb, .int .i64 qc, .int .i64 qd])) (hc_3 : FDoes Try.prog 48 [.slice (some ⟨23, 0, 0, 0, 1⟩) (n + 1) (n + 1), .int .i64 g, .int .i64 qa, .int .i64 qc] (AHeap.rows 53 [(0, b0), (1, b1), (2, b), (23, r0), (24, r1), (27, .made l 4 true), (36, (.made ([.agg [.int .i64 qa, .int .i64 qb, .int .i64 qc, .int .i64 qd]]) 4 true))]) (.tuple [.int .i64 bx, .int .i64 wx, AVal.bool false]) (AHeap.rows 53 [(0, b0), (1, b1), (2, b), (23, r0), (24, r1), (27, .made l 4 true), (36, (.made ([.agg [.int .i64 qa, .int .i64 qb, .int .i64 qc, .int .i64 qd]]) 4 true))])) (hc_4 : FDoes Try.prog 48 [.slice (some ⟨24, 0, 0, 0, 1⟩) (m + 1) (m + 1), .int .i64 g, .int .i64 qb, .int .i64 qd] (AHeap.rows 67 [(0, b0), (1, b1), (2, b), (23, r0), (24, r1), (27, .made l 4 true), (36, (.made ([.agg [.int .i64 qa, .int .i64 qb, .int .i64 qc, .int .i64 qd]]) 4 true))]) (.tuple [.int .i64 by_, .int .i64 wy, AVal.bool u]) (AHeap.rows 67 [(0, b0), (1, b1), (2, b), (23, r0), (24, r1), (27, .made l 4 true), (36, (.made ([.agg [.int .i64 qa, .int .i64 qb, .int .i64 qc, .int .i64 qd]]) 4 true))])) (hc_5 : -9223372036854775808 ≤ (i : Int) + 1 ∧ (i : Int) + (1 : Int) ≤ 9223372036854775807) :
    Runs Try.prog 3 82 (loopAt Try.prog 21 0) [(2, .int .i64 g), (9, .slice (some ⟨23, 0, 0, 0, 1⟩) (n + 1) (n + 1)), (10, .slice (some ⟨24, 0, 0, 0, 1⟩) (m + 1) (m + 1)), (11, .slice (some ⟨27, 0, 0, 0, 4⟩) k k), (39, .slice o k c), (40, .int .i64 k), (41, .int .i64 i)] (AHeap.rows 32 [(0, b0), (1, b1), (2, b), (23, r0), (24, r1), (27, .made l 4 true)]) .normal [(2, .int .i64 g), (9, .slice (some ⟨23, 0, 0, 0, 1⟩) (n + 1) (n + 1)), (10, .slice (some ⟨24, 0, 0, 0, 1⟩) (m + 1) (m + 1)), (11, .slice (some ⟨27, 0, 0, 0, 4⟩) k k), (39, .slice o k c), (40, .int .i64 (k : Int)), (41, .int .i64 ((i : Int) + 1))] (AHeap.rows 73 [(0, b0), (1, b1), (2, b), (23, r0), (24, r1), (27, .made l 4 true), (36, (.made ([.agg [.int .i64 qa, .int .i64 qb, .int .i64 qc, .int .i64 qd]]) 4 true))]) :=
  ppath_runs env_ok mixed (hs := [.val 7000 (.bool true), .val 8001 (.ptr (some ⟨2, ver, off + i, 0, 4⟩)), .ld 8002 (.agg [.int .i64 qa, .int .i64 qb, .int .i64 qc, .int .i64 qd]), .val 9006 (.tuple [.int .i64 bx, .int .i64 wx, .bool false]), .val 10006 (.tuple [.int .i64 by_, .int .i64 wy, .bool u]), .go 13000]) (keep := [2, 9, 10, 11, 39, 40, 41]) (by kernel_rfl) (All.cons (okT hc_0) (All.cons hc_1 (All.cons hc_2 (All.cons (CallT.mk hc_3) (All.cons (CallT.mk hc_4) (All.cons hc_5 (All.nil)))))))

theorem rx_end (o : Option AAddr) (n m k c ver off i : Nat) (b0 b1 b r0 r1 : ABlk) (l : List AVal) (g qa qb qc qd bx wx by_ wy : Int) (u : Bool) (hc_0 : ¬ ((i : Int) < (k : Int))) :
    Runs Try.prog 3 82 (loopAt Try.prog 21 0) [(2, .int .i64 g), (9, .slice (some ⟨23, 0, 0, 0, 1⟩) (n + 1) (n + 1)), (10, .slice (some ⟨24, 0, 0, 0, 1⟩) (m + 1) (m + 1)), (11, .slice (some ⟨27, 0, 0, 0, 4⟩) k k), (39, .slice o k c), (40, .int .i64 k), (41, .int .i64 i)] (AHeap.rows 32 [(0, b0), (1, b1), (2, b), (23, r0), (24, r1), (27, .made l 4 true)]) (.exit 0) [(11, .slice (some ⟨27, 0, 0, 0, 4⟩) k k)] (AHeap.rows 33 [(0, b0), (1, b1), (2, b), (23, r0), (24, r1), (27, .made l 4 true)]) :=
  ppath_runs env_ok mixed (hs := [.val 7000 (.bool false)]) (keep := [11]) (by kernel_rfl) (All.cons (okF hc_0) (All.nil))

theorem rx_nil (o0 o1 o : Option AAddr) (n c0 m c1 k c : Nat) (b0 b1 b r0 r1 : ABlk) (l : List AVal) (gap : Int) (hc_0 : (if (k : Int) > if (m : Int) > (n : Int) then (m : Int) else (n : Int) then (k : Int) else if (m : Int) > (n : Int) then (m : Int) else (n : Int)) > 4096) :
    FDoes Try.prog 21 [.slice o0 n c0, .slice o1 m c1, .int .i64 gap, .slice o k c] (AHeap.of [b0, b1, b]) (.slice none 0 0) (AHeap.rows 13 [(0, b0), (1, b1), (2, b)]) :=
  pcall_does env_ok mixed (hs := [.val 1007 (.bool true)]) (rs := []) (by kernel_rfl) (All.cons (okT hc_0) (All.nil))

theorem rx_call (o0 o1 o : Option AAddr) (n c0 m c1 k c : Nat) (b0 b1 b r0 r1 : ABlk) (l : List AVal) (gap : Int) (hc_0 : ¬ ((if (k : Int) > if (m : Int) > (n : Int) then (m : Int) else (n : Int) then (k : Int) else if (m : Int) > (n : Int) then (m : Int) else (n : Int)) > 4096)) (hc_2 : FDoes Try.prog 47 [.slice o0 n c0, .int .i64 (sideZ gap)] (AHeap.rows 23 [(0, b0), (1, b1), (2, b)]) (.slice (some ⟨23, 0, 0, 0, 1⟩) (n + 1) (n + 1)) (AHeap.rows 24 [(0, b0), (1, b1), (2, b), (23, r0)])) (hc_3 : FDoes Try.prog 47 [.slice o1 m c1, .int .i64 (sideZ gap)] (AHeap.rows 24 [(0, b0), (1, b1), (2, b), (23, r0)]) (.slice (some ⟨24, 0, 0, 0, 1⟩) (m + 1) (m + 1)) (AHeap.rows 25 [(0, b0), (1, b1), (2, b), (23, r0), (24, r1)])) (hc_5 : 0 ≤ (k : Int) ∧ (k : Int) ≤ (k : Int) ∧ (k : Int) < 4611686018427387904 ∧ (32 : Int) * (k : Int) ≤ 281474976710656) (hc_6 : Runs Try.prog 3 82 (.loop (loopAt Try.prog 21 0)) [(2, .int .i64 (sideZ gap)), (9, .slice (some ⟨23, 0, 0, 0, 1⟩) (n + 1) (n + 1)), (10, .slice (some ⟨24, 0, 0, 0, 1⟩) (m + 1) (m + 1)), (11, .slice (some ⟨27, 0, 0, 0, 4⟩) k k), (39, .slice o k c), (40, .int .i64 (k : Int)), (41, .int .i64 0)] (AHeap.rows 32 [(0, b0), (1, b1), (2, b), (23, r0), (24, r1), (27, .made (List.replicate k (.agg [.int .i64 0, .int .i64 0, .int .i64 0, .int .i64 0])) 4 true)]) (.exit 0) [(11, .slice (some ⟨27, 0, 0, 0, 4⟩) k k)] (AHeap.rows 33 [(0, b0), (1, b1), (2, b), (27, .made l 4 true)])) :
    FDoes Try.prog 21 [.slice o0 n c0, .slice o1 m c1, .int .i64 gap, .slice o k c] (AHeap.of [b0, b1, b]) (.slice (some ⟨27, 0, 0, 0, 4⟩) k k) (AHeap.rows 35 [(0, b0), (1, b1), (2, b), (27, .made l 4 true)]) :=
  pcall_does env_ok mixed (hs := [.val 1007 (.bool false), .val 3001 (.int .i64 (sideZ gap)), .act 4002 (.slice (some ⟨23, 0, 0, 0, 1⟩) (n + 1) (n + 1)) (fun h => h.upd [] [r0]), .act 4005 (.slice (some ⟨24, 0, 0, 0, 1⟩) (m + 1) (m + 1)) (fun h => h.upd [] [r1]), .go 5002, .keep [2, 9, 10, 11, 39, 40, 41], .loop [(11, .slice (some ⟨27, 0, 0, 0, 4⟩) k k)] (AHeap.rows 33 [(0, b0), (1, b1), (2, b), (27, .made l 4 true)]) (.exit 0)]) (rs := []) (by kernel_rfl) (All.cons (okF hc_0) (All.cons (show CallT Try.prog 30 [.int .i64 gap, .int .i64 0, .int .i64 4096] (AHeap.rows 15 [(0, b0), (1, b1), (2, b)]) (.int .i64 (sideZ gap)) (AHeap.rows 15 [(0, b0), (1, b1), (2, b)]) from ⟨(gside_does _ _)⟩) (All.cons (CallT.mk hc_2) (All.cons (CallT.mk hc_3) (All.cons (show Agree [.slice o0 n c0, .int .i64 (sideZ gap)] [.slice o1 m c1, .int .i64 (sideZ gap)] (AHeap.rows 23 [(0, b0), (1, b1), (2, b)]) (AHeap.rows 24 [(0, b0), (1, b1), (2, b), (23, r0)]) (.slice (some ⟨23, 0, 0, 0, 1⟩) (n + 1) (n + 1)) (.slice (some ⟨24, 0, 0, 0, 1⟩) (m + 1) (m + 1)) (AHeap.rows 24 [(0, b0), (1, b1), (2, b), (23, r0)]) (AHeap.rows 25 [(0, b0), (1, b1), (2, b), (23, r0), (24, r1)]) from ⟨by intro hh hk; first | (simp at hh; done) | exact nxAbs hk (by decide) | (simp at hh; simp [hh]) | exact ⟨rfl, rfl⟩⟩) (All.cons hc_5 (All.cons hc_6 (All.nil))))))))

end Go.Proofs.Ytcgcpmcjaeenlaa

namespace Go.Proofs.Ytcgcpmcjaeenlaa
open Go.Lift
set_option maxRecDepth 1000000
set_option linter.unusedSimpArgs false
set_option linter.unusedVariables false
set_option linter.unusedSectionVars false

section
variable {n : Nat} (hn : n ≤ 4096) {o : Option AAddr} {c ver off : Nat} {b : ABlk} (hs : SlArg o n c 0 ver off 1) (hb : BareB b) {x : Nat → Int} (hel : ∀ j, j < n → b.elem? ver (off + j) = some (.int .i64 (x j))) {g : Int} (hg : 0 ≤ g ∧ g ≤ 4096)
include hn hs hb hel hg

theorem bg_loop : ∀ (k i : Nat), i + k = n →
    Loops Try.prog 1 34 (loopAt Try.prog 47 0) [(1, .int .i64 g), (5, .slice (some ⟨5, 0, 0, 0, 1⟩) (n + 1) (n + 1)), (12, .slice o n c), (13, .int .i64 n), (14, .int .i64 i)] (AHeap.rows 10 [(0, b), (5, .made (ints (n + 1) fun j => if j < i + 1 then atZ x g j else 0) 1 true)]) (.exit 0)
      [(5, .slice (some ⟨5, 0, 0, 0, 1⟩) (n + 1) (n + 1))] (AHeap.rows 11 [(0, b), (5, .made (ints (n + 1) (atZ x g)) 1 true)])
  | 0, i, e => by
    obtain rfl : i = n := by omega
    rw [show (ints (i + 1) fun j => if j < i + 1 then atZ x g j else 0) = ints (i + 1) (atZ x g) from ints_congr fun j hj => by rw [if_pos hj]]
    exact Loops.last (by simp) (bg_end o i c i b _ g (by omega))
  | k + 1, i, e => by
    have hc : Clo (Ids [0, 5]) (.slice o n c) := hs.clo (by simp [Ids])
    have r := atZ_range x hg i
    have sx := sideZ_range (x i)
    have st := bg_step o n c ver off i b (ints (n + 1) fun j => if j < i + 1 then atZ x g j else 0) g (x i) (atZ x g i) 0 (by omega) (ix_intN hs (by omega)) (hel i (by omega)) (by omega) ⟨by omega, by omega, rfl⟩
      (by rw [show 0 + Int.toNat (i : Int) = i by simp]; exact elem_made (by rw [ints_get (by omega)]; simp)) (by omega) (by omega) ⟨by omega, by omega, rfl⟩ ⟨rfl, by rw [show 0 + Int.toNat ((i : Int) + 1) = i + 1 by omega, ints_get (by omega)]; simp⟩ (by omega)
    rw [show 0 + Int.toNat ((i : Int) + 1) = i + 1 by omega, show atZ x g i + sideZ (x i) + g = atZ x g (i + 1) by rw [atZ_succ]; omega, ints_step (y := atZ x g) (z := fun _ => 0) (i := i + 1)] at st
    refine Loops.round st ?_ (bg_loop k (i + 1) (by omega))
    exact Ent.drop (by kernel_rfl) (by kernel_rfl) (by kernel_rfl) (by kernel_rfl) (by simp [All_cons, All_nil, Clo, hc]; simp [Ids]) (by simp only [List.map, All_cons, All_nil, and_true]; exact ⟨hb.clo _, fun e he => (ints_bare _ _ e he).clo _⟩)
end

theorem begins_does {H : AHeap} {o : Option AAddr} {n c id ver off : Nat} {b : ABlk} {x : Nat → Int} (h1 : IntsAt H o n c id ver off b x) (hn : n ≤ 4096) {g : Int} (hg : 0 ≤ g ∧ g ≤ 4096) :
    FDoes Try.prog 47 [.slice o n c, .int .i64 g] H (.slice (some ⟨H.next, 0, 0, 0, 1⟩) (n + 1) (n + 1)) (H.upd [] [IRow (n + 1) (atZ x g)]) := by
  have s1 := h1.sl.at 0
  have l := bg_loop hn s1 h1.bare h1.el hg n 0 (by omega)
  rw [show (ints (n + 1) fun j => if j < 0 + 1 then atZ x g j else 0) = List.replicate (n + 1) (AVal.int .i64 0) by
    rw [ints_zero]; refine ints_congr fun j _ => ?_
    by_cases c : j < 0 + 1
    · rw [if_pos c, show j = 0 by omega]; rfl
    · rw [if_neg c]] at l
  have k := (bg_call _ n c b _ g (by omega) ⟨by omega, by omega, by omega, by omega⟩ (Runs.of_loops l)).new1 (bn := IRow (n + 1) (atZ x g)) (by simp [h1.bare]) (irow_bare _ _) (by kernel_rfl) (by kernel_rfl) (by simp) (by simp [Clos, Clo, s1.clo]) (H := H) [id] (by simp) (by simp [h1.lt]) (by simp [h1.get])
  simpa [h1.sl.back (id' := 0) (r := toBig [id] H.next) rfl, AVal.ren] using k

theorem max_if (m : Int) : (if 1 > m then 1 else m) = max m 1 := by split <;> omega

/-- grid.stretch -/
theorem stretch_does {H : AHeap} {n id : Nat} {x : Nat → Int} {g : Int} (hg : 0 ≤ g ∧ g ≤ 4096) (hn : n ≤ 4096) (hget : H.get id = some (IRow (n + 1) (atZ x g))) (hlt : id < H.next) (p m : Int) (hp : Fit64 p) (hm : Fit64 m) :
    FDoes Try.prog 48 [.slice (some ⟨id, 0, 0, 0, 1⟩) (n + 1) (n + 1), .int .i64 g, .int .i64 p, .int .i64 m] H (.tuple [.int .i64 (begZ x g n p m), .int .i64 (sizZ x g n p m), .bool (decide (okZ n p m))]) H := by
  have hs : SlArg (some ⟨0, 0, 0, 0, 1⟩) (n + 1) (n + 1) 0 0 0 1 := .inl rfl
  have el : ∀ j, j < n + 1 → (IRow (n + 1) (atZ x g)).elem? 0 (0 + j) = some (.int .i64 (atZ x g j)) := fun j hj => by rw [Nat.zero_add]; exact elem_made (ints_get hj)
  have fin : ∀ {v : AVal} {h' : AHeap}, Bare v → FDoes Try.prog 48 [.slice (some ⟨0, 0, 0, 0, 1⟩) (n + 1) (n + 1), .int .i64 g, .int .i64 p, .int .i64 m] (AHeap.of [IRow (n + 1) (atZ x g)]) v h' → h'.get 0 = some (IRow (n + 1) (atZ x g)) →
      FDoes Try.prog 48 [.slice (some ⟨id, 0, 0, 0, 1⟩) (n + 1) (n + 1), .int .i64 g, .int .i64 p, .int .i64 m] H v H := by
    intro v h' hv k hg'
    have k2 := k.pure (by simp; exact irow_bare _ _) (by simp [hg']) hv (by simp [Clos, Clo]) (H := H) [id] (by simp) (by simp [hlt]) (by simp [hget])
    simpa [AVal.ren, AAddr.ren, toBig] using k2
  have bt : ∀ (a b : Int) (t : Bool), Bare (.tuple [.int .i64 a, .int .i64 b, .bool t]) := fun a b t => ⟨fun r => by simp [AVal.ren, AVal.rens], by simp [Clo, Clos]⟩
  have sz := sizZ_range x hg n p m
  have hp1 : -9223372036854775808 ≤ p ∧ p ≤ 9223372036854775807 := hp
  have hm1 : -9223372036854775808 ≤ m ∧ m ≤ 9223372036854775807 := hm
  have no : ¬ okZ n p m → (AVal.tuple [.int .i64 (begZ x g n p m), .int .i64 (sizZ x g n p m), .bool (decide (okZ n p m))]) = .tuple [.int .i64 0, .int .i64 0, .bool false] := fun h => by
    unfold begZ sizZ; rw [if_neg h, if_neg h, decide_eq_false h]
  by_cases h0 : p < 0
  · have l0 : lenZ p m = max m 1 + p := by unfold lenZ; rw [if_pos h0]
    by_cases h1 : n = 0
    · rw [no (fun h => by have := h.1; omega)]
      exact fin (bt _ _ _) (gs_neg_nT (some ⟨0, 0, 0, 0, 1⟩) n (n + 1) 0 0 _ g p m 0 0 (by omega) h0 (by rw [max_if]; omega) (by omega)) (by kernel_rfl)
    · by_cases h2 : max m 1 + p < 1
      · rw [no (fun h => by have := h.2; omega)]
        exact fin (bt _ _ _) (gs_neg_nFT (some ⟨0, 0, 0, 0, 1⟩) n (n + 1) 0 0 _ g p m 0 0 (by omega) h0 (by rw [max_if]; omega) (by omega) (by rw [max_if]; omega)) (by kernel_rfl)
      · have ok : okZ n p m := ⟨by omega, by omega⟩
        have e0 : p.toNat = 0 := by omega
        have eh : hiZ n p m = min n (max m 1 + p).toNat := by unfold hiZ; rw [e0, l0, Nat.zero_add]
        have hq : (0 : Int) + (if ((n + 1 : Nat) : Int) - 1 - 0 < max m 1 + p then ((n + 1 : Nat) : Int) - 1 - 0 else max m 1 + p) = (hiZ n p m : Nat) := by rw [eh]; split <;> omega
        have hh : hiZ n p m ≤ n := by unfold hiZ; omega
        have r := atZ_range x hg (hiZ n p m)
        have ev : (AVal.tuple [.int .i64 (begZ x g n p m), .int .i64 (sizZ x g n p m), .bool (decide (okZ n p m))]) = .tuple [.int .i64 (atZ x g 0), .int .i64 (atZ x g (hiZ n p m) - g - atZ x g 0), .bool true] := by
          unfold begZ sizZ; rw [if_pos ok, if_pos ok, decide_eq_true ok, e0]
        have r0 : atZ x g 0 = 0 := rfl
        rw [ev]
        refine fin (bt _ _ _) (gs_neg_ok (some ⟨0, 0, 0, 0, 1⟩) n (n + 1) 0 0 _ g p m (atZ x g 0) (atZ x g (hiZ n p m)) (hiZ n p m) (by omega) h0 (by rw [max_if]; omega) (by omega) (by rw [max_if]; omega) (by omega) (ix_intN (i := 0) hs (by omega)) (el 0 (by omega)) (by rw [max_if, hq]; omega) (by rw [max_if, hq]; exact ix_intN hs (by omega)) (el _ (by omega)) (by omega) (ix_intN (i := 0) hs (by omega)) (el 0 (by omega)) (by omega)) (by kernel_rfl)
  · have l0 : lenZ p m = max m 1 := by unfold lenZ; rw [if_neg h0]
    by_cases h1 : p ≥ n
    · rw [no (fun h => by have := h.1; omega)]
      exact fin (bt _ _ _) (gs_pos_nT (some ⟨0, 0, 0, 0, 1⟩) n (n + 1) 0 0 _ g p m 0 0 (by omega) h0 (by omega)) (by kernel_rfl)
    · have ok : okZ n p m := ⟨by omega, by omega⟩
      have eh : hiZ n p m = min n (p.toNat + (max m 1).toNat) := by unfold hiZ; rw [l0]
      have hq : p + (if ((n + 1 : Nat) : Int) - 1 - p < max m 1 then ((n + 1 : Nat) : Int) - 1 - p else max m 1) = (hiZ n p m : Nat) := by rw [eh]; split <;> omega
      have hh : hiZ n p m ≤ n := by unfold hiZ; omega
      have r := atZ_range x hg (hiZ n p m)
      have r1 := atZ_range x hg p.toNat
      have ep : p = (p.toNat : Int) := by omega
      have ev : (AVal.tuple [.int .i64 (begZ x g n p m), .int .i64 (sizZ x g n p m), .bool (decide (okZ n p m))]) = .tuple [.int .i64 (atZ x g p.toNat), .int .i64 (atZ x g (hiZ n p m) - g - atZ x g p.toNat), .bool true] := by
        unfold begZ sizZ; rw [if_pos ok, if_pos ok, decide_eq_true ok]
      have ixp : aindexAddr (AEnv.D env) 32 (AVal.slice (some ⟨0, 0, 0, 0, 1⟩) (n + 1) (n + 1)) (AVal.int IntKind.i64 p) = some (AVal.ptr (some ⟨0, 0, 0 + p.toNat, 0, 1⟩)) := ix_int hs (by omega) (by omega)
      rw [ev]
      refine fin (bt _ _ _) (gs_pos_ok (some ⟨0, 0, 0, 0, 1⟩) n (n + 1) 0 0 _ g p m (atZ x g p.toNat) (atZ x g (hiZ n p m)) (hiZ n p m) p.toNat (by omega) h0 (by omega) (by rw [max_if]; omega) (by omega) ixp (el _ (by omega)) (by rw [max_if, hq]; omega) (by rw [max_if, hq]; exact ix_intN hs (by omega)) (el _ (by omega)) (by omega) ixp (el _ (by omega)) (by omega)) (by kernel_rfl)

section
variable {n m k : Nat} (hn : n ≤ 4096) (hm : m ≤ 4096) (hk : k ≤ 4096) {o : Option AAddr} {c ver off : Nat} {b0 b1 b : ABlk} (hs : SlArg o k c 2 ver off 4) (hb0 : BareB b0) (hb1 : BareB b1) (hb : BareB b) {w : Nat → Qd} (hel : ∀ j, j < k → b.elem? ver (off + j) = some (w j).val) (hw : ∀ j, j < k → (w j).Fits) {x y : Nat → Int} {g : Int} (hg : 0 ≤ g ∧ g ≤ 4096)
include hn hm hk hs hb0 hb1 hb hel hg hw

theorem rx_loop : ∀ (f i : Nat), i + f = k →
    Loops Try.prog 3 82 (loopAt Try.prog 21 0) [(2, .int .i64 g), (9, .slice (some ⟨23, 0, 0, 0, 1⟩) (n + 1) (n + 1)), (10, .slice (some ⟨24, 0, 0, 0, 1⟩) (m + 1) (m + 1)), (11, .slice (some ⟨27, 0, 0, 0, 4⟩) k k), (39, .slice o k c), (40, .int .i64 k), (41, .int .i64 i)]
      (AHeap.rows 32 [(0, b0), (1, b1), (2, b), (23, IRow (n + 1) (atZ x g)), (24, IRow (m + 1) (atZ y g)), (27, .made (qrows k fun j => if j < i then rectZ x n y m g (w j) else Qd0) 4 true)]) (.exit 0)
      [(11, .slice (some ⟨27, 0, 0, 0, 4⟩) k k)] (AHeap.rows 33 [(0, b0), (1, b1), (2, b), (27, .made (qrows k fun j => rectZ x n y m g (w j)) 4 true)])
  | 0, i, e => by
    obtain rfl : i = k := by omega
    rw [show (qrows i fun j => if j < i then rectZ x n y m g (w j) else Qd0) = (qrows i fun j => rectZ x n y m g (w j)) from qrows_congr fun j hj => by rw [if_pos hj]]
    refine (Loops.last (by simp) (rx_end o n m i c 0 0 i b0 b1 b _ _ _ g 0 0 0 0 0 0 0 0 false (by omega))).post ?_
    exact Ent.drop (by kernel_rfl) (by kernel_rfl) (by kernel_rfl) (by kernel_rfl) (by simp [All_cons, All_nil, Clo, Ids]) (by simp only [List.map, All_cons, All_nil, and_true]; exact ⟨hb0.clo _, hb1.clo _, hb.clo _, (qrows_bare _ _).clo _⟩)
  | f + 1, i, e => by
    have hi : i < k := by omega
    have hc : Clo (Ids [0, 1, 2, 23, 24, 27]) (.slice o k c) := hs.clo (by simp [Ids])
    have fw := hw i hi
    have ih := rx_loop f (i + 1) (by omega)
    have dr : ∀ K v, Ent 3 82 [(2, .int .i64 g), (9, .slice (some ⟨23, 0, 0, 0, 1⟩) (n + 1) (n + 1)), (10, .slice (some ⟨24, 0, 0, 0, 1⟩) (m + 1) (m + 1)), (11, .slice (some ⟨27, 0, 0, 0, 4⟩) k k), (39, .slice o k c), (40, .int .i64 k), (41, .int .i64 (i + 1 : Nat))]
        (AHeap.rows K [(0, b0), (1, b1), (2, b), (23, IRow (n + 1) (atZ x g)), (24, IRow (m + 1) (atZ y g)), (27, .made (qrows k fun j => if j < i + 1 then rectZ x n y m g (w j) else Qd0) 4 true), (36, v)])
        [(2, .int .i64 g), (9, .slice (some ⟨23, 0, 0, 0, 1⟩) (n + 1) (n + 1)), (10, .slice (some ⟨24, 0, 0, 0, 1⟩) (m + 1) (m + 1)), (11, .slice (some ⟨27, 0, 0, 0, 4⟩) k k), (39, .slice o k c), (40, .int .i64 k), (41, .int .i64 (i + 1 : Nat))]
        (AHeap.rows 32 [(0, b0), (1, b1), (2, b), (23, IRow (n + 1) (atZ x g)), (24, IRow (m + 1) (atZ y g)), (27, .made (qrows k fun j => if j < i + 1 then rectZ x n y m g (w j) else Qd0) 4 true)]) := fun K v =>
      Ent.drop (by kernel_rfl) (by kernel_rfl) (by kernel_rfl) (by kernel_rfl) (by simp [All_cons, All_nil, Clo, hc]; simp [Ids]) (by simp only [List.map, All_cons, All_nil, and_true]; exact ⟨hb0.clo _, hb1.clo _, hb.clo _, (irow_bare _ _).clo _, (irow_bare _ _).clo _, (qrows_bare _ _).clo _⟩)
    have no : ¬ (okZ n (w i).a (w i).c ∧ okZ m (w i).b (w i).d) → (qrows k fun j => if j < i then rectZ x n y m g (w j) else Qd0) = (qrows k fun j => if j < i + 1 then rectZ x n y m g (w j) else Qd0) := fun h => qrows_congr fun j _ => by
      by_cases e1 : j = i
      · subst e1; simp [rectZ, h]
      · by_cases e2 : j < i
        · rw [if_pos e2, if_pos (by omega)]
        · rw [if_neg e2, if_neg (by omega)]
    have sx := fun (K : Nat) (v : ABlk) => stretch_does (x := x) (n := n) (H := AHeap.rows K [(0, b0), (1, b1), (2, b), (23, IRow (n + 1) (atZ x g)), (24, IRow (m + 1) (atZ y g)), (27, .made (qrows k fun j => if j < i then rectZ x n y m g (w j) else Qd0) 4 true), (36, v)]) (id := 23) hg hn (by kernel_rfl)
    have sy := fun (K : Nat) (v : ABlk) => stretch_does (x := y) (n := m) (H := AHeap.rows K [(0, b0), (1, b1), (2, b), (23, IRow (n + 1) (atZ x g)), (24, IRow (m + 1) (atZ y g)), (27, .made (qrows k fun j => if j < i then rectZ x n y m g (w j) else Qd0) 4 true), (36, v)]) (id := 24) hg hm (by kernel_rfl)
    by_cases h1 : okZ n (w i).a (w i).c
    · by_cases h2 : okZ m (w i).b (w i).d
      · have st := rx_TT o n m k c ver off i b0 b1 b _ _ (qrows k fun j => if j < i then rectZ x n y m g (w j) else Qd0) g (w i).a (w i).b (w i).c (w i).d _ _ _ _ false (by omega) (ix_spS hs hi) (hel i hi)
          (by have := sx 53 (.made [(w i).val] 4 true) (by rw [AHeap.rows_next]; omega) (w i).a (w i).c fw.a fw.c; rwa [decide_eq_true h1] at this) (by have := sy 67 (.made [(w i).val] 4 true) (by rw [AHeap.rows_next]; omega) (w i).b (w i).d fw.b fw.d; rwa [decide_eq_true h2] at this)
          ⟨by omega, by omega, rfl⟩ ⟨rfl, by rw [show 0 + Int.toNat (i : Int) = i by simp, qrows_get hi]; simp; rfl⟩ (by omega)
        have er : (AVal.agg [.int .i64 (begZ x g n (w i).a (w i).c), .int .i64 (begZ y g m (w i).b (w i).d), .int .i64 (sizZ x g n (w i).a (w i).c), .int .i64 (sizZ y g m (w i).b (w i).d)]) = (rectZ x n y m g (w i)).val := by unfold rectZ; rw [if_pos ⟨h1, h2⟩]; rfl
        rw [er, show 0 + Int.toNat (i : Int) = i by simp, qrows_step (y := fun j => rectZ x n y m g (w j)) (z := fun _ => Qd0) (i := i)] at st
        exact Loops.round st (dr _ _) ih
      · have st := rx_TF o n m k c ver off i b0 b1 b _ _ (qrows k fun j => if j < i then rectZ x n y m g (w j) else Qd0) g (w i).a (w i).b (w i).c (w i).d _ _ _ _ false (by omega) (ix_spS hs hi) (hel i hi)
          (by have := sx 53 (.made [(w i).val] 4 true) (by rw [AHeap.rows_next]; omega) (w i).a (w i).c fw.a fw.c; rwa [decide_eq_true h1] at this) (by have := sy 67 (.made [(w i).val] 4 true) (by rw [AHeap.rows_next]; omega) (w i).b (w i).d fw.b fw.d; rwa [decide_eq_false h2] at this) (by omega)
        rw [no (fun h => h2 h.2)] at st
        rw [no (fun h => h2 h.2)]
        exact Loops.round st (dr _ _) ih
    · have st := rx_F o n m k c ver off i b0 b1 b _ _ (qrows k fun j => if j < i then rectZ x n y m g (w j) else Qd0) g (w i).a (w i).b (w i).c (w i).d _ _ _ _ (decide (okZ m (w i).b (w i).d)) (by omega) (ix_spS hs hi) (hel i hi)
        (by have := sx 53 (.made [(w i).val] 4 true) (by rw [AHeap.rows_next]; omega) (w i).a (w i).c fw.a fw.c; rwa [decide_eq_false h1] at this) (sy 67 (.made [(w i).val] 4 true) (by rw [AHeap.rows_next]; omega) (w i).b (w i).d fw.b fw.d) (by omega)
      rw [no (fun h => h1 h.1)] at st
      rw [no (fun h => h1 h.1)]
      exact Loops.round st (dr _ _) ih
end

end Go.Proofs.Ytcgcpmcjaeenlaa

namespace Go.Proofs.Ytcgcpmcjaeenlaa
open Go.Lift
set_option maxRecDepth 1000000
set_option linter.unusedSimpArgs false
set_option linter.unusedVariables false
set_option linter.unusedSectionVars false

theorem rs_o1 (o : Option AAddr) (n c ver off i : Nat) (b : ABlk) (g p m at_ bg en x : Int) (hc_0 : (i : Int) < (n : Int)) (hc_1 : aindexAddr env.D 32 (.slice o n c) (.int .i64 (i : Int)) = some (.ptr (some ⟨0, ver, off + i, 0, 1⟩))) (hc_2 : ABlk.elem? b ver (off + i) = some (.int .i64 x)) (hc_4 : ¬ ((i : Int) ≥ p)) (hc_5 : -9223372036854775808 ≤ at_ + sideZ x ∧ at_ + sideZ x ≤ 9223372036854775807) (hc_6 : -9223372036854775808 ≤ at_ + sideZ x + g ∧ at_ + sideZ x + g ≤ 9223372036854775807) (hc_7 : -9223372036854775808 ≤ (i : Int) + 1 ∧ (i : Int) + (1 : Int) ≤ 9223372036854775807) :
    Runs Try.prog 1 75 (loopAt Try.prog 46 0) [(0, .slice o n c), (1, .int .i64 g), (2, .int .i64 p), (3, .int .i64 m), (11, .int .i64 at_), (12, .int .i64 bg), (13, .int .i64 en), (14, .int .i64 i)] (AHeap.rows 8 [(0, b)]) .normal [(0, .slice o n c), (1, .int .i64 g), (2, .int .i64 p), (3, .int .i64 m), (11, .int .i64 (at_ + sideZ x + g)), (12, .int .i64 bg), (13, .int .i64 en), (14, .int .i64 ((i : Int) + 1))] (AHeap.rows 56 [(0, b)]) :=
  ppath_runs env_ok mixed (hs := [.val 5003 (.bool true), .val 7002 (.ptr (some ⟨0, ver, off + i, 0, 1⟩)), .ld 7003 (.int .i64 x), .val 7004 (.int .i64 (sideZ x)), .val 8002 (.bool false), .go 13002, .go 13004, .go 6001]) (keep := [0, 1, 2, 3, 11, 12, 13, 14]) (by kernel_rfl) (All.cons (okT hc_0) (All.cons hc_1 (All.cons hc_2 (All.cons (show CallT Try.prog 26 [.int .i64 x, .int .i64 0, .int .i64 4096] (AHeap.rows 18 [(0, b)]) (.int .i64 (sideZ x)) (AHeap.rows 18 [(0, b)]) from ⟨(rside_does _ _)⟩) (All.cons (okF hc_4) (All.cons hc_5 (All.cons hc_6 (All.cons hc_7 (All.nil)))))))))

theorem rs_i1 (o : Option AAddr) (n c ver off i : Nat) (b : ABlk) (g p m at_ bg en x : Int) (hc_0 : (i : Int) < (n : Int)) (hc_1 : aindexAddr env.D 32 (.slice o n c) (.int .i64 (i : Int)) = some (.ptr (some ⟨0, ver, off + i, 0, 1⟩))) (hc_2 : ABlk.elem? b ver (off + i) = some (.int .i64 x)) (hc_4 : (i : Int) ≥ p) (hc_5 : p ≥ 0) (hc_6 : -9223372036854775808 ≤ (i : Int) - p ∧ (i : Int) - p ≤ 9223372036854775807) (hc_7 : (i : Int) - p < if m > 1 then m else 1) (hc_8 : bg < 0) (hc_9 : -9223372036854775808 ≤ at_ + sideZ x ∧ at_ + sideZ x ≤ 9223372036854775807) (hc_10 : -9223372036854775808 ≤ at_ + sideZ x ∧ at_ + sideZ x ≤ 9223372036854775807) (hc_11 : -9223372036854775808 ≤ at_ + sideZ x + g ∧ at_ + sideZ x + g ≤ 9223372036854775807) (hc_12 : -9223372036854775808 ≤ (i : Int) + 1 ∧ (i : Int) + (1 : Int) ≤ 9223372036854775807) :
    Runs Try.prog 1 75 (loopAt Try.prog 46 0) [(0, .slice o n c), (1, .int .i64 g), (2, .int .i64 p), (3, .int .i64 m), (11, .int .i64 at_), (12, .int .i64 bg), (13, .int .i64 en), (14, .int .i64 i)] (AHeap.rows 8 [(0, b)]) .normal [(0, .slice o n c), (1, .int .i64 g), (2, .int .i64 p), (3, .int .i64 m), (11, .int .i64 (at_ + sideZ x + g)), (12, .int .i64 at_), (13, .int .i64 (at_ + sideZ x)), (14, .int .i64 ((i : Int) + 1))] (AHeap.rows 64 [(0, b)]) :=
  ppath_runs env_ok mixed (hs := [.val 5003 (.bool true), .val 7002 (.ptr (some ⟨0, ver, off + i, 0, 1⟩)), .ld 7003 (.int .i64 x), .val 7004 (.int .i64 (sideZ x)), .val 8002 (.bool true), .val 8005 (.bool true), .go 8009, .val 8012 (.bool true), .val 10001 (.bool true), .go 12002, .go 13002, .go 13004, .go 6001]) (keep := [0, 1, 2, 3, 11, 12, 13, 14]) (by kernel_rfl) (All.cons (okT hc_0) (All.cons hc_1 (All.cons hc_2 (All.cons (show CallT Try.prog 26 [.int .i64 x, .int .i64 0, .int .i64 4096] (AHeap.rows 18 [(0, b)]) (.int .i64 (sideZ x)) (AHeap.rows 18 [(0, b)]) from ⟨(rside_does _ _)⟩) (All.cons (okT hc_4) (All.cons (okT hc_5) (All.cons hc_6 (All.cons (okT hc_7) (All.cons (okT hc_8) (All.cons hc_9 (All.cons hc_10 (All.cons hc_11 (All.cons hc_12 (All.nil))))))))))))))

theorem rs_i2 (o : Option AAddr) (n c ver off i : Nat) (b : ABlk) (g p m at_ bg en x : Int) (hc_0 : (i : Int) < (n : Int)) (hc_1 : aindexAddr env.D 32 (.slice o n c) (.int .i64 (i : Int)) = some (.ptr (some ⟨0, ver, off + i, 0, 1⟩))) (hc_2 : ABlk.elem? b ver (off + i) = some (.int .i64 x)) (hc_4 : (i : Int) ≥ p) (hc_5 : p ≥ 0) (hc_6 : -9223372036854775808 ≤ (i : Int) - p ∧ (i : Int) - p ≤ 9223372036854775807) (hc_7 : (i : Int) - p < if m > 1 then m else 1) (hc_8 : ¬ (bg < 0)) (hc_9 : -9223372036854775808 ≤ at_ + sideZ x ∧ at_ + sideZ x ≤ 9223372036854775807) (hc_10 : -9223372036854775808 ≤ at_ + sideZ x ∧ at_ + sideZ x ≤ 9223372036854775807) (hc_11 : -9223372036854775808 ≤ at_ + sideZ x + g ∧ at_ + sideZ x + g ≤ 9223372036854775807) (hc_12 : -9223372036854775808 ≤ (i : Int) + 1 ∧ (i : Int) + (1 : Int) ≤ 9223372036854775807) :
    Runs Try.prog 1 75 (loopAt Try.prog 46 0) [(0, .slice o n c), (1, .int .i64 g), (2, .int .i64 p), (3, .int .i64 m), (11, .int .i64 at_), (12, .int .i64 bg), (13, .int .i64 en), (14, .int .i64 i)] (AHeap.rows 8 [(0, b)]) .normal [(0, .slice o n c), (1, .int .i64 g), (2, .int .i64 p), (3, .int .i64 m), (11, .int .i64 (at_ + sideZ x + g)), (12, .int .i64 bg), (13, .int .i64 (at_ + sideZ x)), (14, .int .i64 ((i : Int) + 1))] (AHeap.rows 62 [(0, b)]) :=
  ppath_runs env_ok mixed (hs := [.val 5003 (.bool true), .val 7002 (.ptr (some ⟨0, ver, off + i, 0, 1⟩)), .ld 7003 (.int .i64 x), .val 7004 (.int .i64 (sideZ x)), .val 8002 (.bool true), .val 8005 (.bool true), .go 8009, .val 8012 (.bool true), .val 10001 (.bool false), .go 12002, .go 13002, .go 13004, .go 6001]) (keep := [0, 1, 2, 3, 11, 12, 13, 14]) (by kernel_rfl) (All.cons (okT hc_0) (All.cons hc_1 (All.cons hc_2 (All.cons (show CallT Try.prog 26 [.int .i64 x, .int .i64 0, .int .i64 4096] (AHeap.rows 18 [(0, b)]) (.int .i64 (sideZ x)) (AHeap.rows 18 [(0, b)]) from ⟨(rside_does _ _)⟩) (All.cons (okT hc_4) (All.cons (okT hc_5) (All.cons hc_6 (All.cons (okT hc_7) (All.cons (okF hc_8) (All.cons hc_9 (All.cons hc_10 (All.cons hc_11 (All.cons hc_12 (All.nil))))))))))))))

theorem rs_o2 (o : Option AAddr) (n c ver off i : Nat) (b : ABlk) (g p m at_ bg en x : Int) (hc_0 : (i : Int) < (n : Int)) (hc_1 : aindexAddr env.D 32 (.slice o n c) (.int .i64 (i : Int)) = some (.ptr (some ⟨0, ver, off + i, 0, 1⟩))) (hc_2 : ABlk.elem? b ver (off + i) = some (.int .i64 x)) (hc_4 : (i : Int) ≥ p) (hc_5 : p ≥ 0) (hc_6 : -9223372036854775808 ≤ (i : Int) - p ∧ (i : Int) - p ≤ 9223372036854775807) (hc_7 : ¬ ((i : Int) - p < if m > 1 then m else 1)) (hc_8 : ¬ (p < 0)) (hc_9 : -9223372036854775808 ≤ at_ + sideZ x ∧ at_ + sideZ x ≤ 9223372036854775807) (hc_10 : -9223372036854775808 ≤ at_ + sideZ x + g ∧ at_ + sideZ x + g ≤ 9223372036854775807) (hc_11 : -9223372036854775808 ≤ (i : Int) + 1 ∧ (i : Int) + (1 : Int) ≤ 9223372036854775807) :
    Runs Try.prog 1 75 (loopAt Try.prog 46 0) [(0, .slice o n c), (1, .int .i64 g), (2, .int .i64 p), (3, .int .i64 m), (11, .int .i64 at_), (12, .int .i64 bg), (13, .int .i64 en), (14, .int .i64 i)] (AHeap.rows 8 [(0, b)]) .normal [(0, .slice o n c), (1, .int .i64 g), (2, .int .i64 p), (3, .int .i64 m), (11, .int .i64 (at_ + sideZ x + g)), (12, .int .i64 bg), (13, .int .i64 en), (14, .int .i64 ((i : Int) + 1))] (AHeap.rows 56 [(0, b)]) :=
  ppath_runs env_ok mixed (hs := [.val 5003 (.bool true), .val 7002 (.ptr (some ⟨0, ver, off + i, 0, 1⟩)), .ld 7003 (.int .i64 x), .val 7004 (.int .i64 (sideZ x)), .val 8002 (.bool true), .val 8005 (.bool true), .go 8009, .val 8012 (.bool false), .val 8016 (.bool false), .go 13002, .go 13004, .go 6001]) (keep := [0, 1, 2, 3, 11, 12, 13, 14]) (by kernel_rfl) (All.cons (okT hc_0) (All.cons hc_1 (All.cons hc_2 (All.cons (show CallT Try.prog 26 [.int .i64 x, .int .i64 0, .int .i64 4096] (AHeap.rows 18 [(0, b)]) (.int .i64 (sideZ x)) (AHeap.rows 18 [(0, b)]) from ⟨(rside_does _ _)⟩) (All.cons (okT hc_4) (All.cons (okT hc_5) (All.cons hc_6 (All.cons (okF hc_7) (All.cons (okF hc_8) (All.cons hc_9 (All.cons hc_10 (All.cons hc_11 (All.nil)))))))))))))

theorem rs_i3 (o : Option AAddr) (n c ver off i : Nat) (b : ABlk) (g p m at_ bg en x : Int) (hc_0 : (i : Int) < (n : Int)) (hc_1 : aindexAddr env.D 32 (.slice o n c) (.int .i64 (i : Int)) = some (.ptr (some ⟨0, ver, off + i, 0, 1⟩))) (hc_2 : ABlk.elem? b ver (off + i) = some (.int .i64 x)) (hc_4 : (i : Int) ≥ p) (hc_5 : ¬ (p ≥ 0)) (hc_6 : p < 0) (hc_7 : -9223372036854775808 ≤ (if m > 1 then m else 1) + p ∧ (if m > 1 then m else 1) + p ≤ 9223372036854775807) (hc_8 : (i : Int) < (if m > 1 then m else 1) + p) (hc_9 : bg < 0) (hc_10 : -9223372036854775808 ≤ at_ + sideZ x ∧ at_ + sideZ x ≤ 9223372036854775807) (hc_11 : -9223372036854775808 ≤ at_ + sideZ x ∧ at_ + sideZ x ≤ 9223372036854775807) (hc_12 : -9223372036854775808 ≤ at_ + sideZ x + g ∧ at_ + sideZ x + g ≤ 9223372036854775807) (hc_13 : -9223372036854775808 ≤ (i : Int) + 1 ∧ (i : Int) + (1 : Int) ≤ 9223372036854775807) :
    Runs Try.prog 1 75 (loopAt Try.prog 46 0) [(0, .slice o n c), (1, .int .i64 g), (2, .int .i64 p), (3, .int .i64 m), (11, .int .i64 at_), (12, .int .i64 bg), (13, .int .i64 en), (14, .int .i64 i)] (AHeap.rows 8 [(0, b)]) .normal [(0, .slice o n c), (1, .int .i64 g), (2, .int .i64 p), (3, .int .i64 m), (11, .int .i64 (at_ + sideZ x + g)), (12, .int .i64 at_), (13, .int .i64 (at_ + sideZ x)), (14, .int .i64 ((i : Int) + 1))] (AHeap.rows 64 [(0, b)]) :=
  ppath_runs env_ok mixed (hs := [.val 5003 (.bool true), .val 7002 (.ptr (some ⟨0, ver, off + i, 0, 1⟩)), .ld 7003 (.int .i64 x), .val 7004 (.int .i64 (sideZ x)), .val 8002 (.bool true), .val 8005 (.bool false), .val 8016 (.bool true), .go 8022, .val 8023 (.bool true), .val 10001 (.bool true), .go 12002, .go 13002, .go 13004, .go 6001]) (keep := [0, 1, 2, 3, 11, 12, 13, 14]) (by kernel_rfl) (All.cons (okT hc_0) (All.cons hc_1 (All.cons hc_2 (All.cons (show CallT Try.prog 26 [.int .i64 x, .int .i64 0, .int .i64 4096] (AHeap.rows 18 [(0, b)]) (.int .i64 (sideZ x)) (AHeap.rows 18 [(0, b)]) from ⟨(rside_does _ _)⟩) (All.cons (okT hc_4) (All.cons (okF hc_5) (All.cons (okT hc_6) (All.cons hc_7 (All.cons (okT hc_8) (All.cons (okT hc_9) (All.cons hc_10 (All.cons hc_11 (All.cons hc_12 (All.cons hc_13 (All.nil)))))))))))))))

theorem rs_i4 (o : Option AAddr) (n c ver off i : Nat) (b : ABlk) (g p m at_ bg en x : Int) (hc_0 : (i : Int) < (n : Int)) (hc_1 : aindexAddr env.D 32 (.slice o n c) (.int .i64 (i : Int)) = some (.ptr (some ⟨0, ver, off + i, 0, 1⟩))) (hc_2 : ABlk.elem? b ver (off + i) = some (.int .i64 x)) (hc_4 : (i : Int) ≥ p) (hc_5 : ¬ (p ≥ 0)) (hc_6 : p < 0) (hc_7 : -9223372036854775808 ≤ (if m > 1 then m else 1) + p ∧ (if m > 1 then m else 1) + p ≤ 9223372036854775807) (hc_8 : (i : Int) < (if m > 1 then m else 1) + p) (hc_9 : ¬ (bg < 0)) (hc_10 : -9223372036854775808 ≤ at_ + sideZ x ∧ at_ + sideZ x ≤ 9223372036854775807) (hc_11 : -9223372036854775808 ≤ at_ + sideZ x ∧ at_ + sideZ x ≤ 9223372036854775807) (hc_12 : -9223372036854775808 ≤ at_ + sideZ x + g ∧ at_ + sideZ x + g ≤ 9223372036854775807) (hc_13 : -9223372036854775808 ≤ (i : Int) + 1 ∧ (i : Int) + (1 : Int) ≤ 9223372036854775807) :
    Runs Try.prog 1 75 (loopAt Try.prog 46 0) [(0, .slice o n c), (1, .int .i64 g), (2, .int .i64 p), (3, .int .i64 m), (11, .int .i64 at_), (12, .int .i64 bg), (13, .int .i64 en), (14, .int .i64 i)] (AHeap.rows 8 [(0, b)]) .normal [(0, .slice o n c), (1, .int .i64 g), (2, .int .i64 p), (3, .int .i64 m), (11, .int .i64 (at_ + sideZ x + g)), (12, .int .i64 bg), (13, .int .i64 (at_ + sideZ x)), (14, .int .i64 ((i : Int) + 1))] (AHeap.rows 62 [(0, b)]) :=
  ppath_runs env_ok mixed (hs := [.val 5003 (.bool true), .val 7002 (.ptr (some ⟨0, ver, off + i, 0, 1⟩)), .ld 7003 (.int .i64 x), .val 7004 (.int .i64 (sideZ x)), .val 8002 (.bool true), .val 8005 (.bool false), .val 8016 (.bool true), .go 8022, .val 8023 (.bool true), .val 10001 (.bool false), .go 12002, .go 13002, .go 13004, .go 6001]) (keep := [0, 1, 2, 3, 11, 12, 13, 14]) (by kernel_rfl) (All.cons (okT hc_0) (All.cons hc_1 (All.cons hc_2 (All.cons (show CallT Try.prog 26 [.int .i64 x, .int .i64 0, .int .i64 4096] (AHeap.rows 18 [(0, b)]) (.int .i64 (sideZ x)) (AHeap.rows 18 [(0, b)]) from ⟨(rside_does _ _)⟩) (All.cons (okT hc_4) (All.cons (okF hc_5) (All.cons (okT hc_6) (All.cons hc_7 (All.cons (okT hc_8) (All.cons (okF hc_9) (All.cons hc_10 (All.cons hc_11 (All.cons hc_12 (All.cons hc_13 (All.nil)))))))))))))))

theorem rs_o3 (o : Option AAddr) (n c ver off i : Nat) (b : ABlk) (g p m at_ bg en x : Int) (hc_0 : (i : Int) < (n : Int)) (hc_1 : aindexAddr env.D 32 (.slice o n c) (.int .i64 (i : Int)) = some (.ptr (some ⟨0, ver, off + i, 0, 1⟩))) (hc_2 : ABlk.elem? b ver (off + i) = some (.int .i64 x)) (hc_4 : (i : Int) ≥ p) (hc_5 : ¬ (p ≥ 0)) (hc_6 : p < 0) (hc_7 : -9223372036854775808 ≤ (if m > 1 then m else 1) + p ∧ (if m > 1 then m else 1) + p ≤ 9223372036854775807) (hc_8 : ¬ ((i : Int) < (if m > 1 then m else 1) + p)) (hc_9 : -9223372036854775808 ≤ at_ + sideZ x ∧ at_ + sideZ x ≤ 9223372036854775807) (hc_10 : -9223372036854775808 ≤ at_ + sideZ x + g ∧ at_ + sideZ x + g ≤ 9223372036854775807) (hc_11 : -9223372036854775808 ≤ (i : Int) + 1 ∧ (i : Int) + (1 : Int) ≤ 9223372036854775807) :
    Runs Try.prog 1 75 (loopAt Try.prog 46 0) [(0, .slice o n c), (1, .int .i64 g), (2, .int .i64 p), (3, .int .i64 m), (11, .int .i64 at_), (12, .int .i64 bg), (13, .int .i64 en), (14, .int .i64 i)] (AHeap.rows 8 [(0, b)]) .normal [(0, .slice o n c), (1, .int .i64 g), (2, .int .i64 p), (3, .int .i64 m), (11, .int .i64 (at_ + sideZ x + g)), (12, .int .i64 bg), (13, .int .i64 en), (14, .int .i64 ((i : Int) + 1))] (AHeap.rows 56 [(0, b)]) :=
  ppath_runs env_ok mixed (hs := [.val 5003 (.bool true), .val 7002 (.ptr (some ⟨0, ver, off + i, 0, 1⟩)), .ld 7003 (.int .i64 x), .val 7004 (.int .i64 (sideZ x)), .val 8002 (.bool true), .val 8005 (.bool false), .val 8016 (.bool true), .go 8022, .val 8023 (.bool false), .go 13002, .go 13004, .go 6001]) (keep := [0, 1, 2, 3, 11, 12, 13, 14]) (by kernel_rfl) (All.cons (okT hc_0) (All.cons hc_1 (All.cons hc_2 (All.cons (show CallT Try.prog 26 [.int .i64 x, .int .i64 0, .int .i64 4096] (AHeap.rows 18 [(0, b)]) (.int .i64 (sideZ x)) (AHeap.rows 18 [(0, b)]) from ⟨(rside_does _ _)⟩) (All.cons (okT hc_4) (All.cons (okF hc_5) (All.cons (okT hc_6) (All.cons hc_7 (All.cons (okF hc_8) (All.cons hc_9 (All.cons hc_10 (All.cons hc_11 (All.nil)))))))))))))

theorem rs_end (o : Option AAddr) (n c ver off i : Nat) (b : ABlk) (g p m at_ bg en x : Int) (hc_0 : ¬ ((i : Int) < (n : Int))) :
    Runs Try.prog 1 75 (loopAt Try.prog 46 0) [(0, .slice o n c), (1, .int .i64 g), (2, .int .i64 p), (3, .int .i64 m), (11, .int .i64 at_), (12, .int .i64 bg), (13, .int .i64 en), (14, .int .i64 i)] (AHeap.rows 8 [(0, b)]) (.exit 0) [(12, .int .i64 bg), (13, .int .i64 en)] (AHeap.rows 12 [(0, b)]) :=
  ppath_runs env_ok mixed (hs := [.val 5003 (.bool false)]) (keep := [12, 13]) (by kernel_rfl) (All.cons (okF hc_0) (All.nil))

theorem rs_call_T (o : Option AAddr) (n c : Nat) (b : ABlk) (g p m bg en : Int) (hc_0 : Runs Try.prog 1 75 (.loop (loopAt Try.prog 46 0)) [(0, .slice o n c), (1, .int .i64 g), (2, .int .i64 p), (3, .int .i64 m), (11, .int .i64 0), (12, .int .i64 (-1)), (13, .int .i64 0), (14, .int .i64 0)] (AHeap.rows 8 [(0, b)]) (.exit 0) [(12, .int .i64 bg), (13, .int .i64 en)] (AHeap.rows 12 [(0, b)])) (hc_1 : (-9223372036854775808 ≤ en - if bg > 0 then bg else 0) ∧ (en - if bg > 0 then bg else 0) ≤ 9223372036854775807) (hc_2 : bg ≥ 0) :
    FDoes Try.prog 46 [.slice o n c, .int .i64 g, .int .i64 p, .int .i64 m] (AHeap.of [b]) (.tuple [.int .i64 (if bg > 0 then bg else 0), .int .i64 (en - if bg > 0 then bg else 0), AVal.bool true]) (AHeap.rows 23 [(0, b)]) :=
  pcall_does env_ok mixed (hs := [.keep [0, 1, 2, 3, 11, 12, 13, 14], .loop [(12, .int .i64 bg), (13, .int .i64 en)] (AHeap.rows 12 [(0, b)]) (.exit 0), .go 14005, .val 14007 (.bool true)]) (rs := []) (by kernel_rfl) (All.cons hc_0 (All.cons hc_1 (All.cons (okT hc_2) (All.nil))))

theorem rs_call_F (o : Option AAddr) (n c : Nat) (b : ABlk) (g p m bg en : Int) (hc_0 : Runs Try.prog 1 75 (.loop (loopAt Try.prog 46 0)) [(0, .slice o n c), (1, .int .i64 g), (2, .int .i64 p), (3, .int .i64 m), (11, .int .i64 0), (12, .int .i64 (-1)), (13, .int .i64 0), (14, .int .i64 0)] (AHeap.rows 8 [(0, b)]) (.exit 0) [(12, .int .i64 bg), (13, .int .i64 en)] (AHeap.rows 12 [(0, b)])) (hc_1 : (-9223372036854775808 ≤ en - if bg > 0 then bg else 0) ∧ (en - if bg > 0 then bg else 0) ≤ 9223372036854775807) (hc_2 : ¬ (bg ≥ 0)) :
    FDoes Try.prog 46 [.slice o n c, .int .i64 g, .int .i64 p, .int .i64 m] (AHeap.of [b]) (.tuple [.int .i64 (if bg > 0 then bg else 0), .int .i64 (en - if bg > 0 then bg else 0), AVal.bool false]) (AHeap.rows 23 [(0, b)]) :=
  pcall_does env_ok mixed (hs := [.keep [0, 1, 2, 3, 11, 12, 13, 14], .loop [(12, .int .i64 bg), (13, .int .i64 en)] (AHeap.rows 12 [(0, b)]) (.exit 0), .go 14005, .val 14007 (.bool false)]) (rs := []) (by kernel_rfl) (All.cons hc_0 (All.cons hc_1 (All.cons (okF hc_2) (All.nil))))

theorem rr_TT_new (o0 o1 o : Option AAddr) (n m k c0 c1 c ver off i v q : Nat) (b0 b1 b r r2 : ABlk) (g qa qb qc qd bx wx by_ wy : Int) (u : Bool) (hc_0 : (i : Int) < (k : Int)) (hc_1 : aindexAddr env.D 22 (.slice o k c) (.int .i64 (i : Int)) = some (.ptr (some ⟨2, ver, off + i, 0, 4⟩))) (hc_2 : ABlk.elem? b ver (off + i) = some (.agg [.int .i64 qa, .int .i64 qb, .int .i64 qc, .int .i64 qd])) (hc_3 : FDoes Try.prog 46 [.slice o0 n c0, .int .i64 g, .int .i64 qa, .int .i64 qc] (AHeap.rows 33 [(0, b0), (1, b1), (2, b), (17, (.made ([.agg [.int .i64 qa, .int .i64 qb, .int .i64 qc, .int .i64 qd]]) 4 true))]) (.tuple [.int .i64 bx, .int .i64 wx, AVal.bool true]) (AHeap.rows 33 [(0, b0), (1, b1), (2, b), (17, (.made ([.agg [.int .i64 qa, .int .i64 qb, .int .i64 qc, .int .i64 qd]]) 4 true))])) (hc_4 : FDoes Try.prog 46 [.slice o1 m c1, .int .i64 g, .int .i64 qb, .int .i64 qd] (AHeap.rows 47 [(0, b0), (1, b1), (2, b), (17, (.made ([.agg [.int .i64 qa, .int .i64 qb, .int .i64 qc, .int .i64 qd]]) 4 true))]) (.tuple [.int .i64 by_, .int .i64 wy, AVal.bool true]) (AHeap.rows 47 [(0, b0), (1, b1), (2, b), (17, (.made ([.agg [.int .i64 qa, .int .i64 qb, .int .i64 qc, .int .i64 qd]]) 4 true))])) (hc_5 : abuiltin env Builtin.append { toList := [41, 41] } [.slice none 0 0, .slice (some ⟨59, 0, 0, 0, 4⟩) 1 1] 60 (AHeap.set (AHeap.rows 62 [(0, b0), (1, b1), (2, b), (17, (.made ([.agg [.int .i64 qa, .int .i64 qb, .int .i64 qc, .int .i64 qd]]) 4 true))]) 59 (.made [.agg [.int .i64 bx, .int .i64 by_, .int .i64 wx, .int .i64 wy]] 4 true)) = some (.slice (some ⟨60, 0, 0, 0, 4⟩) 1 1, (AHeap.rows 62 [(0, b0), (1, b1), (2, b), (17, (.made ([.agg [.int .i64 qa, .int .i64 qb, .int .i64 qc, .int .i64 qd]]) 4 true)), (59, .made [.agg [.int .i64 bx, .int .i64 by_, .int .i64 wx, .int .i64 wy]] 4 true), (60, r2)]))) (hc_6 : -9223372036854775808 ≤ (i : Int) + 1 ∧ (i : Int) + (1 : Int) ≤ 9223372036854775807) :
    Runs Try.prog 3 85 (loopAt Try.prog 20 0) [(0, .slice o0 n c0), (1, .slice o1 m c1), (3, .slice o k c), (9, .int .i64 g), (10, .slice none 0 0), (11, .int .i64 i)] (AHeap.rows 9 [(0, b0), (1, b1), (2, b)]) .normal [(0, .slice o0 n c0), (1, .slice o1 m c1), (3, .slice o k c), (9, .int .i64 g), (10, .slice (some ⟨60, 0, 0, 0, 4⟩) 1 1), (11, .int .i64 ((i : Int) + 1))] (AHeap.rows 65 [(0, b0), (1, b1), (2, b), (17, (.made ([.agg [.int .i64 qa, .int .i64 qb, .int .i64 qc, .int .i64 qd]]) 4 true)), (59, .made [.agg [.int .i64 bx, .int .i64 by_, .int .i64 wx, .int .i64 wy]] 4 true), (60, r2)]) :=
  ppath_runs env_ok mixed (hs := [.val 6003 (.bool true), .val 8002 (.ptr (some ⟨2, ver, off + i, 0, 4⟩)), .ld 8003 (.agg [.int .i64 qa, .int .i64 qb, .int .i64 qc, .int .i64 qd]), .val 9006 (.tuple [.int .i64 bx, .int .i64 wx, .bool true]), .val 10006 (.tuple [.int .i64 by_, .int .i64 wy, .bool true]), .act 13007 (.slice (some ⟨60, 0, 0, 0, 4⟩) 1 1) (fun h => h.set 60 r2), .go 7001]) (keep := [0, 1, 3, 9, 10, 11]) (by kernel_rfl) (All.cons (okT hc_0) (All.cons hc_1 (All.cons hc_2 (All.cons (CallT.mk hc_3) (All.cons (CallT.mk hc_4) (All.cons hc_5 (All.cons hc_6 (All.nil))))))))

theorem rr_TF_new (o0 o1 o : Option AAddr) (n m k c0 c1 c ver off i v q : Nat) (b0 b1 b r r2 : ABlk) (g qa qb qc qd bx wx by_ wy : Int) (u : Bool) (hc_0 : (i : Int) < (k : Int)) (hc_1 : aindexAddr env.D 22 (.slice o k c) (.int .i64 (i : Int)) = some (.ptr (some ⟨2, ver, off + i, 0, 4⟩))) (hc_2 : ABlk.elem? b ver (off + i) = some (.agg [.int .i64 qa, .int .i64 qb, .int .i64 qc, .int .i64 qd])) (hc_3 : FDoes Try.prog 46 [.slice o0 n c0, .int .i64 g, .int .i64 qa, .int .i64 qc] (AHeap.rows 37 [(0, b0), (1, b1), (2, b), (21, (.made ([.agg [.int .i64 qa, .int .i64 qb, .int .i64 qc, .int .i64 qd]]) 4 true))]) (.tuple [.int .i64 bx, .int .i64 wx, AVal.bool true]) (AHeap.rows 37 [(0, b0), (1, b1), (2, b), (21, (.made ([.agg [.int .i64 qa, .int .i64 qb, .int .i64 qc, .int .i64 qd]]) 4 true))])) (hc_4 : FDoes Try.prog 46 [.slice o1 m c1, .int .i64 g, .int .i64 qb, .int .i64 qd] (AHeap.rows 51 [(0, b0), (1, b1), (2, b), (21, (.made ([.agg [.int .i64 qa, .int .i64 qb, .int .i64 qc, .int .i64 qd]]) 4 true))]) (.tuple [.int .i64 by_, .int .i64 wy, AVal.bool false]) (AHeap.rows 51 [(0, b0), (1, b1), (2, b), (21, (.made ([.agg [.int .i64 qa, .int .i64 qb, .int .i64 qc, .int .i64 qd]]) 4 true))])) (hc_5 : abuiltin env Builtin.append { toList := [41, 41] } [.slice none 0 0, .slice (some ⟨59, 0, 0, 0, 4⟩) 1 1] 60 (AHeap.set (AHeap.rows 62 [(0, b0), (1, b1), (2, b), (21, (.made ([.agg [.int .i64 qa, .int .i64 qb, .int .i64 qc, .int .i64 qd]]) 4 true))]) 59 (.made [.agg [.int .i64 0, .int .i64 0, .int .i64 0, .int .i64 0]] 4 true)) = some (.slice (some ⟨60, 0, 0, 0, 4⟩) 1 1, (AHeap.rows 62 [(0, b0), (1, b1), (2, b), (21, (.made ([.agg [.int .i64 qa, .int .i64 qb, .int .i64 qc, .int .i64 qd]]) 4 true)), (59, .made [.agg [.int .i64 0, .int .i64 0, .int .i64 0, .int .i64 0]] 4 true), (60, r2)]))) (hc_6 : -9223372036854775808 ≤ (i : Int) + 1 ∧ (i : Int) + (1 : Int) ≤ 9223372036854775807) :
    Runs Try.prog 3 85 (loopAt Try.prog 20 0) [(0, .slice o0 n c0), (1, .slice o1 m c1), (3, .slice o k c), (9, .int .i64 g), (10, .slice none 0 0), (11, .int .i64 i)] (AHeap.rows 13 [(0, b0), (1, b1), (2, b)]) .normal [(0, .slice o0 n c0), (1, .slice o1 m c1), (3, .slice o k c), (9, .int .i64 g), (10, .slice (some ⟨60, 0, 0, 0, 4⟩) 1 1), (11, .int .i64 ((i : Int) + 1))] (AHeap.rows 65 [(0, b0), (1, b1), (2, b), (21, (.made ([.agg [.int .i64 qa, .int .i64 qb, .int .i64 qc, .int .i64 qd]]) 4 true)), (59, .made [.agg [.int .i64 0, .int .i64 0, .int .i64 0, .int .i64 0]] 4 true), (60, r2)]) :=
  ppath_runs env_ok mixed (hs := [.val 6003 (.bool true), .val 8002 (.ptr (some ⟨2, ver, off + i, 0, 4⟩)), .ld 8003 (.agg [.int .i64 qa, .int .i64 qb, .int .i64 qc, .int .i64 qd]), .val 9006 (.tuple [.int .i64 bx, .int .i64 wx, .bool true]), .val 10006 (.tuple [.int .i64 by_, .int .i64 wy, .bool false]), .act 12003 (.slice (some ⟨60, 0, 0, 0, 4⟩) 1 1) (fun h => h.set 60 r2), .go 7001]) (keep := [0, 1, 3, 9, 10, 11]) (by kernel_rfl) (All.cons (okT hc_0) (All.cons hc_1 (All.cons hc_2 (All.cons (CallT.mk hc_3) (All.cons (CallT.mk hc_4) (All.cons hc_5 (All.cons hc_6 (All.nil))))))))

theorem rr_F_new (o0 o1 o : Option AAddr) (n m k c0 c1 c ver off i v q : Nat) (b0 b1 b r r2 : ABlk) (g qa qb qc qd bx wx by_ wy : Int) (u : Bool) (hc_0 : (i : Int) < (k : Int)) (hc_1 : aindexAddr env.D 22 (.slice o k c) (.int .i64 (i : Int)) = some (.ptr (some ⟨2, ver, off + i, 0, 4⟩))) (hc_2 : ABlk.elem? b ver (off + i) = some (.agg [.int .i64 qa, .int .i64 qb, .int .i64 qc, .int .i64 qd])) (hc_3 : FDoes Try.prog 46 [.slice o0 n c0, .int .i64 g, .int .i64 qa, .int .i64 qc] (AHeap.rows 37 [(0, b0), (1, b1), (2, b), (21, (.made ([.agg [.int .i64 qa, .int .i64 qb, .int .i64 qc, .int .i64 qd]]) 4 true))]) (.tuple [.int .i64 bx, .int .i64 wx, AVal.bool false]) (AHeap.rows 37 [(0, b0), (1, b1), (2, b), (21, (.made ([.agg [.int .i64 qa, .int .i64 qb, .int .i64 qc, .int .i64 qd]]) 4 true))])) (hc_4 : FDoes Try.prog 46 [.slice o1 m c1, .int .i64 g, .int .i64 qb, .int .i64 qd] (AHeap.rows 51 [(0, b0), (1, b1), (2, b), (21, (.made ([.agg [.int .i64 qa, .int .i64 qb, .int .i64 qc, .int .i64 qd]]) 4 true))]) (.tuple [.int .i64 by_, .int .i64 wy, AVal.bool u]) (AHeap.rows 51 [(0, b0), (1, b1), (2, b), (21, (.made ([.agg [.int .i64 qa, .int .i64 qb, .int .i64 qc, .int .i64 qd]]) 4 true))])) (hc_5 : abuiltin env Builtin.append { toList := [41, 41] } [.slice none 0 0, .slice (some ⟨59, 0, 0, 0, 4⟩) 1 1] 60 (AHeap.set (AHeap.rows 62 [(0, b0), (1, b1), (2, b), (21, (.made ([.agg [.int .i64 qa, .int .i64 qb, .int .i64 qc, .int .i64 qd]]) 4 true))]) 59 (.made [.agg [.int .i64 0, .int .i64 0, .int .i64 0, .int .i64 0]] 4 true)) = some (.slice (some ⟨60, 0, 0, 0, 4⟩) 1 1, (AHeap.rows 62 [(0, b0), (1, b1), (2, b), (21, (.made ([.agg [.int .i64 qa, .int .i64 qb, .int .i64 qc, .int .i64 qd]]) 4 true)), (59, .made [.agg [.int .i64 0, .int .i64 0, .int .i64 0, .int .i64 0]] 4 true), (60, r2)]))) (hc_6 : -9223372036854775808 ≤ (i : Int) + 1 ∧ (i : Int) + (1 : Int) ≤ 9223372036854775807) :
    Runs Try.prog 3 85 (loopAt Try.prog 20 0) [(0, .slice o0 n c0), (1, .slice o1 m c1), (3, .slice o k c), (9, .int .i64 g), (10, .slice none 0 0), (11, .int .i64 i)] (AHeap.rows 13 [(0, b0), (1, b1), (2, b)]) .normal [(0, .slice o0 n c0), (1, .slice o1 m c1), (3, .slice o k c), (9, .int .i64 g), (10, .slice (some ⟨60, 0, 0, 0, 4⟩) 1 1), (11, .int .i64 ((i : Int) + 1))] (AHeap.rows 65 [(0, b0), (1, b1), (2, b), (21, (.made ([.agg [.int .i64 qa, .int .i64 qb, .int .i64 qc, .int .i64 qd]]) 4 true)), (59, .made [.agg [.int .i64 0, .int .i64 0, .int .i64 0, .int .i64 0]] 4 true), (60, r2)]) :=
  ppath_runs env_ok mixed (hs := [.val 6003 (.bool true), .val 8002 (.ptr (some ⟨2, ver, off + i, 0, 4⟩)), .ld 8003 (.agg [.int .i64 qa, .int .i64 qb, .int .i64 qc, .int .i64 qd]), .val 9006 (.tuple [.int .i64 bx, .int .i64 wx, .bool false]), .val 10006 (.tuple [.int .i64 by_, .int .i64 wy, .bool u]), .act 12003 (.slice (some ⟨60, 0, 0, 0, 4⟩) 1 1) (fun h => h.set 60 r2), .go 7001]) (keep := [0, 1, 3, 9, 10, 11]) (by kernel_rfl) (All.cons (okT hc_0) (All.cons hc_1 (All.cons hc_2 (All.cons (CallT.mk hc_3) (All.cons (CallT.mk hc_4) (All.cons hc_5 (All.cons hc_6 (All.nil))))))))

theorem rr_TT_grow (o0 o1 o : Option AAddr) (n m k c0 c1 c ver off i v q : Nat) (b0 b1 b r r2 : ABlk) (g qa qb qc qd bx wx by_ wy : Int) (u : Bool) (hc_0 : (i : Int) < (k : Int)) (hc_1 : aindexAddr env.D 22 (.slice o k c) (.int .i64 (i : Int)) = some (.ptr (some ⟨2, ver, off + i, 0, 4⟩))) (hc_2 : ABlk.elem? b ver (off + i) = some (.agg [.int .i64 qa, .int .i64 qb, .int .i64 qc, .int .i64 qd])) (hc_3 : FDoes Try.prog 46 [.slice o0 n c0, .int .i64 g, .int .i64 qa, .int .i64 qc] (AHeap.rows 85 [(0, b0), (1, b1), (2, b), (60, r), (69, (.made ([.agg [.int .i64 qa, .int .i64 qb, .int .i64 qc, .int .i64 qd]]) 4 true))]) (.tuple [.int .i64 bx, .int .i64 wx, AVal.bool true]) (AHeap.rows 85 [(0, b0), (1, b1), (2, b), (60, r), (69, (.made ([.agg [.int .i64 qa, .int .i64 qb, .int .i64 qc, .int .i64 qd]]) 4 true))])) (hc_4 : FDoes Try.prog 46 [.slice o1 m c1, .int .i64 g, .int .i64 qb, .int .i64 qd] (AHeap.rows 99 [(0, b0), (1, b1), (2, b), (60, r), (69, (.made ([.agg [.int .i64 qa, .int .i64 qb, .int .i64 qc, .int .i64 qd]]) 4 true))]) (.tuple [.int .i64 by_, .int .i64 wy, AVal.bool true]) (AHeap.rows 99 [(0, b0), (1, b1), (2, b), (60, r), (69, (.made ([.agg [.int .i64 qa, .int .i64 qb, .int .i64 qc, .int .i64 qd]]) 4 true))])) (hc_5 : abuiltin env Builtin.append { toList := [41, 41] } [.slice (some ⟨60, v, 0, 0, 4⟩) q q, .slice (some ⟨111, 0, 0, 0, 4⟩) 1 1] 112 (AHeap.set (AHeap.rows 114 [(0, b0), (1, b1), (2, b), (60, r), (69, (.made ([.agg [.int .i64 qa, .int .i64 qb, .int .i64 qc, .int .i64 qd]]) 4 true))]) 111 (.made [.agg [.int .i64 bx, .int .i64 by_, .int .i64 wx, .int .i64 wy]] 4 true)) = some (.slice (some ⟨60, v + 1, 0, 0, 4⟩) (q + 1) (q + 1), (AHeap.rows 114 [(0, b0), (1, b1), (2, b), (60, r2), (69, (.made ([.agg [.int .i64 qa, .int .i64 qb, .int .i64 qc, .int .i64 qd]]) 4 true)), (111, .made [.agg [.int .i64 bx, .int .i64 by_, .int .i64 wx, .int .i64 wy]] 4 true)]))) (hc_6 : -9223372036854775808 ≤ (i : Int) + 1 ∧ (i : Int) + (1 : Int) ≤ 9223372036854775807) :
    Runs Try.prog 3 85 (loopAt Try.prog 20 0) [(0, .slice o0 n c0), (1, .slice o1 m c1), (3, .slice o k c), (9, .int .i64 g), (10, .slice (some ⟨60, v, 0, 0, 4⟩) q q), (11, .int .i64 i)] (AHeap.rows 61 [(0, b0), (1, b1), (2, b), (60, r)]) .normal [(0, .slice o0 n c0), (1, .slice o1 m c1), (3, .slice o k c), (9, .int .i64 g), (10, .slice (some ⟨60, v + 1, 0, 0, 4⟩) (q + 1) (q + 1)), (11, .int .i64 ((i : Int) + 1))] (AHeap.rows 117 [(0, b0), (1, b1), (2, b), (60, r2), (69, (.made ([.agg [.int .i64 qa, .int .i64 qb, .int .i64 qc, .int .i64 qd]]) 4 true)), (111, .made [.agg [.int .i64 bx, .int .i64 by_, .int .i64 wx, .int .i64 wy]] 4 true)]) :=
  ppath_runs env_ok mixed (hs := [.val 6003 (.bool true), .val 8002 (.ptr (some ⟨2, ver, off + i, 0, 4⟩)), .ld 8003 (.agg [.int .i64 qa, .int .i64 qb, .int .i64 qc, .int .i64 qd]), .val 9006 (.tuple [.int .i64 bx, .int .i64 wx, .bool true]), .val 10006 (.tuple [.int .i64 by_, .int .i64 wy, .bool true]), .act 13007 (.slice (some ⟨60, v + 1, 0, 0, 4⟩) (q + 1) (q + 1)) (fun h => h.set 60 r2), .go 7001]) (keep := [0, 1, 3, 9, 10, 11]) (by kernel_rfl) (All.cons (okT hc_0) (All.cons hc_1 (All.cons hc_2 (All.cons (CallT.mk hc_3) (All.cons (CallT.mk hc_4) (All.cons hc_5 (All.cons hc_6 (All.nil))))))))

theorem rr_TF_grow (o0 o1 o : Option AAddr) (n m k c0 c1 c ver off i v q : Nat) (b0 b1 b r r2 : ABlk) (g qa qb qc qd bx wx by_ wy : Int) (u : Bool) (hc_0 : (i : Int) < (k : Int)) (hc_1 : aindexAddr env.D 22 (.slice o k c) (.int .i64 (i : Int)) = some (.ptr (some ⟨2, ver, off + i, 0, 4⟩))) (hc_2 : ABlk.elem? b ver (off + i) = some (.agg [.int .i64 qa, .int .i64 qb, .int .i64 qc, .int .i64 qd])) (hc_3 : FDoes Try.prog 46 [.slice o0 n c0, .int .i64 g, .int .i64 qa, .int .i64 qc] (AHeap.rows 85 [(0, b0), (1, b1), (2, b), (60, r), (69, (.made ([.agg [.int .i64 qa, .int .i64 qb, .int .i64 qc, .int .i64 qd]]) 4 true))]) (.tuple [.int .i64 bx, .int .i64 wx, AVal.bool true]) (AHeap.rows 85 [(0, b0), (1, b1), (2, b), (60, r), (69, (.made ([.agg [.int .i64 qa, .int .i64 qb, .int .i64 qc, .int .i64 qd]]) 4 true))])) (hc_4 : FDoes Try.prog 46 [.slice o1 m c1, .int .i64 g, .int .i64 qb, .int .i64 qd] (AHeap.rows 99 [(0, b0), (1, b1), (2, b), (60, r), (69, (.made ([.agg [.int .i64 qa, .int .i64 qb, .int .i64 qc, .int .i64 qd]]) 4 true))]) (.tuple [.int .i64 by_, .int .i64 wy, AVal.bool false]) (AHeap.rows 99 [(0, b0), (1, b1), (2, b), (60, r), (69, (.made ([.agg [.int .i64 qa, .int .i64 qb, .int .i64 qc, .int .i64 qd]]) 4 true))])) (hc_5 : abuiltin env Builtin.append { toList := [41, 41] } [.slice (some ⟨60, v, 0, 0, 4⟩) q q, .slice (some ⟨107, 0, 0, 0, 4⟩) 1 1] 108 (AHeap.set (AHeap.rows 110 [(0, b0), (1, b1), (2, b), (60, r), (69, (.made ([.agg [.int .i64 qa, .int .i64 qb, .int .i64 qc, .int .i64 qd]]) 4 true))]) 107 (.made [.agg [.int .i64 0, .int .i64 0, .int .i64 0, .int .i64 0]] 4 true)) = some (.slice (some ⟨60, v + 1, 0, 0, 4⟩) (q + 1) (q + 1), (AHeap.rows 110 [(0, b0), (1, b1), (2, b), (60, r2), (69, (.made ([.agg [.int .i64 qa, .int .i64 qb, .int .i64 qc, .int .i64 qd]]) 4 true)), (107, .made [.agg [.int .i64 0, .int .i64 0, .int .i64 0, .int .i64 0]] 4 true)]))) (hc_6 : -9223372036854775808 ≤ (i : Int) + 1 ∧ (i : Int) + (1 : Int) ≤ 9223372036854775807) :
    Runs Try.prog 3 85 (loopAt Try.prog 20 0) [(0, .slice o0 n c0), (1, .slice o1 m c1), (3, .slice o k c), (9, .int .i64 g), (10, .slice (some ⟨60, v, 0, 0, 4⟩) q q), (11, .int .i64 i)] (AHeap.rows 61 [(0, b0), (1, b1), (2, b), (60, r)]) .normal [(0, .slice o0 n c0), (1, .slice o1 m c1), (3, .slice o k c), (9, .int .i64 g), (10, .slice (some ⟨60, v + 1, 0, 0, 4⟩) (q + 1) (q + 1)), (11, .int .i64 ((i : Int) + 1))] (AHeap.rows 113 [(0, b0), (1, b1), (2, b), (60, r2), (69, (.made ([.agg [.int .i64 qa, .int .i64 qb, .int .i64 qc, .int .i64 qd]]) 4 true)), (107, .made [.agg [.int .i64 0, .int .i64 0, .int .i64 0, .int .i64 0]] 4 true)]) :=
  ppath_runs env_ok mixed (hs := [.val 6003 (.bool true), .val 8002 (.ptr (some ⟨2, ver, off + i, 0, 4⟩)), .ld 8003 (.agg [.int .i64 qa, .int .i64 qb, .int .i64 qc, .int .i64 qd]), .val 9006 (.tuple [.int .i64 bx, .int .i64 wx, .bool true]), .val 10006 (.tuple [.int .i64 by_, .int .i64 wy, .bool false]), .act 12003 (.slice (some ⟨60, v + 1, 0, 0, 4⟩) (q + 1) (q + 1)) (fun h => h.set 60 r2), .go 7001]) (keep := [0, 1, 3, 9, 10, 11]) (by kernel_rfl) (All.cons (okT hc_0) (All.cons hc_1 (All.cons hc_2 (All.cons (CallT.mk hc_3) (All.cons (CallT.mk hc_4) (All.cons hc_5 (All.cons hc_6 (All.nil))))))))

theorem rr_F_grow (o0 o1 o : Option AAddr) (n m k c0 c1 c ver off i v q : Nat) (b0 b1 b r r2 : ABlk) (g qa qb qc qd bx wx by_ wy : Int) (u : Bool) (hc_0 : (i : Int) < (k : Int)) (hc_1 : aindexAddr env.D 22 (.slice o k c) (.int .i64 (i : Int)) = some (.ptr (some ⟨2, ver, off + i, 0, 4⟩))) (hc_2 : ABlk.elem? b ver (off + i) = some (.agg [.int .i64 qa, .int .i64 qb, .int .i64 qc, .int .i64 qd])) (hc_3 : FDoes Try.prog 46 [.slice o0 n c0, .int .i64 g, .int .i64 qa, .int .i64 qc] (AHeap.rows 85 [(0, b0), (1, b1), (2, b), (60, r), (69, (.made ([.agg [.int .i64 qa, .int .i64 qb, .int .i64 qc, .int .i64 qd]]) 4 true))]) (.tuple [.int .i64 bx, .int .i64 wx, AVal.bool false]) (AHeap.rows 85 [(0, b0), (1, b1), (2, b), (60, r), (69, (.made ([.agg [.int .i64 qa, .int .i64 qb, .int .i64 qc, .int .i64 qd]]) 4 true))])) (hc_4 : FDoes Try.prog 46 [.slice o1 m c1, .int .i64 g, .int .i64 qb, .int .i64 qd] (AHeap.rows 99 [(0, b0), (1, b1), (2, b), (60, r), (69, (.made ([.agg [.int .i64 qa, .int .i64 qb, .int .i64 qc, .int .i64 qd]]) 4 true))]) (.tuple [.int .i64 by_, .int .i64 wy, AVal.bool u]) (AHeap.rows 99 [(0, b0), (1, b1), (2, b), (60, r), (69, (.made ([.agg [.int .i64 qa, .int .i64 qb, .int .i64 qc, .int .i64 qd]]) 4 true))])) (hc_5 : abuiltin env Builtin.append { toList := [41, 41] } [.slice (some ⟨60, v, 0, 0, 4⟩) q q, .slice (some ⟨107, 0, 0, 0, 4⟩) 1 1] 108 (AHeap.set (AHeap.rows 110 [(0, b0), (1, b1), (2, b), (60, r), (69, (.made ([.agg [.int .i64 qa, .int .i64 qb, .int .i64 qc, .int .i64 qd]]) 4 true))]) 107 (.made [.agg [.int .i64 0, .int .i64 0, .int .i64 0, .int .i64 0]] 4 true)) = some (.slice (some ⟨60, v + 1, 0, 0, 4⟩) (q + 1) (q + 1), (AHeap.rows 110 [(0, b0), (1, b1), (2, b), (60, r2), (69, (.made ([.agg [.int .i64 qa, .int .i64 qb, .int .i64 qc, .int .i64 qd]]) 4 true)), (107, .made [.agg [.int .i64 0, .int .i64 0, .int .i64 0, .int .i64 0]] 4 true)]))) (hc_6 : -9223372036854775808 ≤ (i : Int) + 1 ∧ (i : Int) + (1 : Int) ≤ 9223372036854775807) :
    Runs Try.prog 3 85 (loopAt Try.prog 20 0) [(0, .slice o0 n c0), (1, .slice o1 m c1), (3, .slice o k c), (9, .int .i64 g), (10, .slice (some ⟨60, v, 0, 0, 4⟩) q q), (11, .int .i64 i)] (AHeap.rows 61 [(0, b0), (1, b1), (2, b), (60, r)]) .normal [(0, .slice o0 n c0), (1, .slice o1 m c1), (3, .slice o k c), (9, .int .i64 g), (10, .slice (some ⟨60, v + 1, 0, 0, 4⟩) (q + 1) (q + 1)), (11, .int .i64 ((i : Int) + 1))] (AHeap.rows 113 [(0, b0), (1, b1), (2, b), (60, r2), (69, (.made ([.agg [.int .i64 qa, .int .i64 qb, .int .i64 qc, .int .i64 qd]]) 4 true)), (107, .made [.agg [.int .i64 0, .int .i64 0, .int .i64 0, .int .i64 0]] 4 true)]) :=
  ppath_runs env_ok mixed (hs := [.val 6003 (.bool true), .val 8002 (.ptr (some ⟨2, ver, off + i, 0, 4⟩)), .ld 8003 (.agg [.int .i64 qa, .int .i64 qb, .int .i64 qc, .int .i64 qd]), .val 9006 (.tuple [.int .i64 bx, .int .i64 wx, .bool false]), .val 10006 (.tuple [.int .i64 by_, .int .i64 wy, .bool u]), .act 12003 (.slice (some ⟨60, v + 1, 0, 0, 4⟩) (q + 1) (q + 1)) (fun h => h.set 60 r2), .go 7001]) (keep := [0, 1, 3, 9, 10, 11]) (by kernel_rfl) (All.cons (okT hc_0) (All.cons hc_1 (All.cons hc_2 (All.cons (CallT.mk hc_3) (All.cons (CallT.mk hc_4) (All.cons hc_5 (All.cons hc_6 (All.nil))))))))

theorem rr_end (o0 o1 o : Option AAddr) (n m k c0 c1 c ver off i v q : Nat) (b0 b1 b r r2 : ABlk) (g qa qb qc qd bx wx by_ wy : Int) (u : Bool) (sv : AVal) (hc_0 : ¬ ((i : Int) < (k : Int))) :
    Runs Try.prog 3 85 (loopAt Try.prog 20 0) [(0, .slice o0 n c0), (1, .slice o1 m c1), (3, .slice o k c), (9, .int .i64 g), (10, sv), (11, .int .i64 i)] (AHeap.rows 61 [(0, b0), (1, b1), (2, b), (60, r)]) (.exit 0) [(10, sv)] (AHeap.rows 65 [(0, b0), (1, b1), (2, b), (60, r)]) :=
  ppath_runs env_ok mixed (hs := [.val 6003 (.bool false)]) (keep := [10]) (by kernel_rfl) (All.cons (okF hc_0) (All.nil))

theorem rr_nil1 (o0 o1 o : Option AAddr) (n c0 m c1 k c : Nat) (b0 b1 b r0 r1 : ABlk) (l : List AVal) (gap : Int) (hc_0 : (n : Int) > 4096) :
    FDoes Try.prog 20 [.slice o0 n c0, .slice o1 m c1, .int .i64 gap, .slice o k c] (AHeap.of [b0, b1, b]) (.slice none 0 0) (AHeap.rows 18 [(0, b0), (1, b1), (2, b)]) :=
  pcall_does env_ok mixed (hs := [.val 1002 (.bool true)]) (rs := []) (by kernel_rfl) (All.cons (okT hc_0) (All.nil))

theorem rr_nil2 (o0 o1 o : Option AAddr) (n c0 m c1 k c : Nat) (b0 b1 b r0 r1 : ABlk) (l : List AVal) (gap : Int) (hc_0 : ¬ ((n : Int) > 4096)) (hc_1 : (m : Int) > 4096) :
    FDoes Try.prog 20 [.slice o0 n c0, .slice o1 m c1, .int .i64 gap, .slice o k c] (AHeap.of [b0, b1, b]) (.slice none 0 0) (AHeap.rows 18 [(0, b0), (1, b1), (2, b)]) :=
  pcall_does env_ok mixed (hs := [.val 1002 (.bool false), .val 1006 (.bool true)]) (rs := []) (by kernel_rfl) (All.cons (okF hc_0) (All.cons (okT hc_1) (All.nil)))

theorem rr_nil3 (o0 o1 o : Option AAddr) (n c0 m c1 k c : Nat) (b0 b1 b r0 r1 : ABlk) (l : List AVal) (gap : Int) (hc_0 : ¬ ((n : Int) > 4096)) (hc_1 : ¬ ((m : Int) > 4096)) (hc_2 : (k : Int) > 4096) :
    FDoes Try.prog 20 [.slice o0 n c0, .slice o1 m c1, .int .i64 gap, .slice o k c] (AHeap.of [b0, b1, b]) (.slice none 0 0) (AHeap.rows 18 [(0, b0), (1, b1), (2, b)]) :=
  pcall_does env_ok mixed (hs := [.val 1002 (.bool false), .val 1006 (.bool false), .val 1011 (.bool true)]) (rs := []) (by kernel_rfl) (All.cons (okF hc_0) (All.cons (okF hc_1) (All.cons (okT hc_2) (All.nil))))

theorem rr_call (o0 o1 o : Option AAddr) (n c0 m c1 k c : Nat) (b0 b1 b r : ABlk) (gap : Int) (sv : AVal) (hc_0 : ¬ ((n : Int) > 4096)) (hc_1 : ¬ ((m : Int) > 4096)) (hc_2 : ¬ ((k : Int) > 4096)) (hc_4 : Runs Try.prog 3 85 (.loop (loopAt Try.prog 20 0)) [(0, .slice o0 n c0), (1, .slice o1 m c1), (3, .slice o k c), (9, .int .i64 (sideZ gap)), (10, .slice none 0 0), (11, .int .i64 0)] (AHeap.rows 22 [(0, b0), (1, b1), (2, b)]) (.exit 0) [(10, sv)] (AHeap.rows 65 [(0, b0), (1, b1), (2, b), (60, r)])) :
    FDoes Try.prog 20 [.slice o0 n c0, .slice o1 m c1, .int .i64 gap, .slice o k c] (AHeap.of [b0, b1, b]) sv (AHeap.rows 67 [(0, b0), (1, b1), (2, b), (60, r)]) :=
  pcall_does env_ok mixed (hs := [.val 1002 (.bool false), .val 1006 (.bool false), .val 1011 (.bool false), .val 3001 (.int .i64 (sideZ gap)), .keep [0, 1, 3, 9, 10, 11], .loop [(10, sv)] (AHeap.rows 65 [(0, b0), (1, b1), (2, b), (60, r)]) (.exit 0)]) (rs := []) (by kernel_rfl) (All.cons (okF hc_0) (All.cons (okF hc_1) (All.cons (okF hc_2) (All.cons (show CallT Try.prog 26 [.int .i64 gap, .int .i64 0, .int .i64 4096] (AHeap.rows 20 [(0, b0), (1, b1), (2, b)]) (.int .i64 (sideZ gap)) (AHeap.rows 20 [(0, b0), (1, b1), (2, b)]) from ⟨(rside_does _ _)⟩) (All.cons hc_4 (All.nil))))))

end Go.Proofs.Ytcgcpmcjaeenlaa

namespace Go.Proofs.Ytcgcpmcjaeenlaa
open Go.Lift
set_option maxRecDepth 1000000
set_option linter.unusedSimpArgs false
set_option linter.unusedVariables false
set_option linter.unusedSectionVars false

/-- how many rectangles are told -/
def rlen (n m k : Nat) : Nat := if 4096 < n ∨ 4096 < m ∨ 4096 < k then 0 else k
theorem rlen_le (n m k : Nat) : rlen n m k ≤ k ∧ rlen n m k ≤ 4096 := by unfold rlen; split <;> omega

theorem rects_does {H : AHeap} {o0 o1 o : Option AAddr} {n c0 m c1 k c id0 id1 id2 v0 f0 v1 f1 ver off : Nat} {b0 b1 b : ABlk} {x y : Nat → Int} {w : Nat → Qd} (h0 : IntsAt H o0 n c0 id0 v0 f0 b0 x) (h1 : IntsAt H o1 m c1 id1 v1 f1 b1 y) (h2 : QdsAt H o k c id2 ver off b w)
    (hne : [id0, id1, id2].Nodup) (hw : ∀ j, j < k → (w j).Fits) (gap : Int) (hn : n ≤ 4096) (hm : m ≤ 4096) (hk : k ≤ 4096) :
    FDoes Try.prog 21 [.slice o0 n c0, .slice o1 m c1, .int .i64 gap, .slice o k c] H (.slice (some ⟨H.next, 0, 0, 0, 4⟩) k k) (H.upd [] [.made (qrows k fun j => rectZ x n y m (sideZ gap) (w j)) 4 true]) := by
  have s0 := h0.sl.at 0
  have s1 := h1.sl.at 1
  have s2 := h2.sl.at 2
  have l := rx_loop hn hm hk s2 h0.bare h1.bare h2.bare h2.el hw (x := x) (y := y) (sideZ_range gap) k 0 (by omega)
  rw [show (qrows k fun j => if j < 0 then rectZ x n y m (sideZ gap) (w j) else Qd0) = List.replicate k Qd0.val from (qrows_zero2 _ _).symm] at l
  have g1 := begins_does (H := AHeap.rows 23 [(0, b0), (1, b1), (2, b)]) (x := x) ⟨s0, by kernel_rfl, by rw [AHeap.rows_next]; omega, h0.bare, h0.el⟩ hn (sideZ_range gap)
  have g2 := begins_does (H := AHeap.rows 24 [(0, b0), (1, b1), (2, b), (23, IRow (n + 1) (atZ x (sideZ gap)))]) (x := y) ⟨s1, by kernel_rfl, by rw [AHeap.rows_next]; omega, h1.bare, h1.el⟩ hm (sideZ_range gap)
  rw [AHeap.rows_next] at g1 g2
  have kk := (rx_call _ _ _ n c0 m c1 k c b0 b1 b _ _ _ gap (by split <;> (try split) <;> omega) (g1.to (by kernel_rfl)) (g2.to (by kernel_rfl)) ⟨by omega, by omega, by omega, by omega⟩ (Runs.of_loops l)).new1 (bn := .made (qrows k fun j => rectZ x n y m (sideZ gap) (w j)) 4 true)
    (by simp [h0.bare, h1.bare, h2.bare]) (qrows_bare _ _) (by kernel_rfl) (by kernel_rfl) (by simp) (by simp [Clos, Clo, s0.clo, s1.clo, s2.clo]) (H := H) [id0, id1, id2] hne (by simp [h0.lt, h1.lt, h2.lt]) (by simp [h0.get, h1.get, h2.get])
  simpa [h0.sl.back (id' := 0) (r := toBig [id0, id1, id2] H.next) rfl, h1.sl.back (id' := 1) (r := toBig [id0, id1, id2] H.next) rfl, h2.sl.back (id' := 2) (r := toBig [id0, id1, id2] H.next) rfl, AVal.ren] using kk

theorem rects_any {H : AHeap} {o0 o1 o : Option AAddr} {n c0 m c1 k c id0 id1 id2 v0 f0 v1 f1 ver off : Nat} {b0 b1 b : ABlk} {x y : Nat → Int} {w : Nat → Qd} (h0 : IntsAt H o0 n c0 id0 v0 f0 b0 x) (h1 : IntsAt H o1 m c1 id1 v1 f1 b1 y) (h2 : QdsAt H o k c id2 ver off b w)
    (hne : [id0, id1, id2].Nodup) (hw : ∀ j, j < k → (w j).Fits) (gap : Int) {N : Nat} (hN : H.next = N) :
    ∃ (o' : Option AAddr) (c' : Nat), SlArg o' (rlen n m k) c' N 0 0 4 ∧ c' = rlen n m k ∧ FDoes Try.prog 21 [.slice o0 n c0, .slice o1 m c1, .int .i64 gap, .slice o k c] H (.slice o' (rlen n m k) c') (H.upd [] [.made (qrows (rlen n m k) fun j => rectZ x n y m (sideZ gap) (w j)) 4 true]) := by
  subst hN
  by_cases h : 4096 < n ∨ 4096 < m ∨ 4096 < k
  · have e : rlen n m k = 0 := by unfold rlen; rw [if_pos h]
    rw [e]
    have s0 := h0.sl.at 0
    have s1 := h1.sl.at 1
    have s2 := h2.sl.at 2
    have kk := (rx_nil (o0.map fun a => { a with id := 0 }) (o1.map fun a => { a with id := 1 }) (o.map fun a => { a with id := 2 }) n c0 m c1 k c b0 b1 b b0 b0 [] gap (by split <;> (try split) <;> omega)).pure (by simp [h0.bare, h1.bare, h2.bare]) (by kernel_rfl) ⟨fun r => rfl, trivial⟩ (by simp [Clos, Clo, s0.clo, s1.clo, s2.clo]) (H := H) [id0, id1, id2] hne (by simp [h0.lt, h1.lt, h2.lt]) (by simp [h0.get, h1.get, h2.get])
    have k2 : FDoes Try.prog 21 [.slice o0 n c0, .slice o1 m c1, .int .i64 gap, .slice o k c] H (.slice none 0 0) H := by
      simpa [h0.sl.back (id' := 0) (r := toBig [id0, id1, id2] H.next) rfl, h1.sl.back (id' := 1) (r := toBig [id0, id1, id2] H.next) rfl, h2.sl.back (id' := 2) (r := toBig [id0, id1, id2] H.next) rfl, AVal.ren] using kk
    exact ⟨none, 0, .inr ⟨rfl, rfl, rfl⟩, rfl, k2.pad1 _⟩
  · have e : rlen n m k = k := by unfold rlen; rw [if_neg h]
    rw [e]
    exact ⟨some ⟨H.next, 0, 0, 0, 4⟩, k, .inl rfl, rfl, rects_does h0 h1 h2 hne hw gap (by omega) (by omega) (by omega)⟩

/-! the document's -/
theorem rif (m : Int) : (if m > 1 then m else 1) = max 1 m := by split <;> omega
theorem rif0 (m : Int) : (if m > 0 then m else 0) = max 0 m := by split <;> omega

section
variable {n : Nat} (hn : n ≤ 4096) {o : Option AAddr} {c ver off : Nat} {b : ABlk} (hs : SlArg o n c 0 ver off 1) (hb : BareB b) {x : Nat → Int} (hel : ∀ j, j < n → b.elem? ver (off + j) = some (.int .i64 (x j))) {g : Int} (hg : 0 ≤ g ∧ g ≤ 4096) {p m : Int} (hp : Fit64 p) (hm : Fit64 m)
include hn hs hb hel hg hp hm

theorem rs_loop : ∀ (f i : Nat), i + f = n →
    Loops Try.prog 1 75 (loopAt Try.prog 46 0) [(0, .slice o n c), (1, .int .i64 g), (2, .int .i64 p), (3, .int .i64 m), (11, .int .i64 (atZ x g i)), (12, .int .i64 (rbZ x g p m i)), (13, .int .i64 (reZ x g p m i)), (14, .int .i64 i)] (AHeap.rows 8 [(0, b)]) (.exit 0)
      [(12, .int .i64 (rbZ x g p m n)), (13, .int .i64 (reZ x g p m n))] (AHeap.rows 12 [(0, b)])
  | 0, i, e => by
    obtain rfl : i = n := by omega
    exact Loops.last (by simp) (rs_end o i c 0 0 i b g p m _ _ _ 0 (by omega))
  | f + 1, i, e => by
    have hc : Clo (Ids [0]) (.slice o n c) := hs.clo (by simp [Ids])
    have hp1 : -9223372036854775808 ≤ p ∧ p ≤ 9223372036854775807 := hp
    have hm1 : -9223372036854775808 ≤ m ∧ m ≤ 9223372036854775807 := hm
    have r := atZ_range x hg i
    have r0 := atZ_range x hg p.toNat
    have sx := sideZ_range (x i)
    have ih := rs_loop f (i + 1) (by omega)
    have dr : ∀ (K : Nat) (u v : Int), Ent 1 75 [(0, .slice o n c), (1, .int .i64 g), (2, .int .i64 p), (3, .int .i64 m), (11, .int .i64 (atZ x g (i + 1))), (12, .int .i64 u), (13, .int .i64 v), (14, .int .i64 (i + 1 : Nat))] (AHeap.rows K [(0, b)])
        [(0, .slice o n c), (1, .int .i64 g), (2, .int .i64 p), (3, .int .i64 m), (11, .int .i64 (atZ x g (i + 1))), (12, .int .i64 u), (13, .int .i64 v), (14, .int .i64 (i + 1 : Nat))] (AHeap.rows 8 [(0, b)]) := fun K u v =>
      Ent.drop (by kernel_rfl) (by kernel_rfl) (by kernel_rfl) (by kernel_rfl) (by simp [All_cons, All_nil, Clo, hc]) (by simp only [List.map, All_cons, All_nil, and_true]; exact hb.clo _)
    have ea : atZ x g i + sideZ (x i) + g = atZ x g (i + 1) := by rw [atZ_succ]; omega
    by_cases hin : inZ p m i
    · obtain ⟨e1, e2⟩ := rb_in x hg hin
      have hi2 := hin
      unfold inZ at hi2
      rw [e1, e2] at ih
      by_cases h0 : 0 ≤ p
      · by_cases hb' : rbZ x g p m i < 0
        · rw [if_pos hb'] at ih
          have st := rs_i1 o n c ver off i b g p m (atZ x g i) (rbZ x g p m i) (reZ x g p m i) (x i) (by omega) (ix_intN hs (by omega)) (hel i (by omega)) (by omega) (by omega) (by omega) (by rw [rif]; omega) hb' (by omega) (by omega) (by omega) (by omega)
          rw [ea] at st
          exact Loops.round st (dr _ _ _) ih
        · rw [if_neg hb'] at ih
          have st := rs_i2 o n c ver off i b g p m (atZ x g i) (rbZ x g p m i) (reZ x g p m i) (x i) (by omega) (ix_intN hs (by omega)) (hel i (by omega)) (by omega) (by omega) (by omega) (by rw [rif]; omega) hb' (by omega) (by omega) (by omega) (by omega)
          rw [ea] at st
          exact Loops.round st (dr _ _ _) ih
      · by_cases hb' : rbZ x g p m i < 0
        · rw [if_pos hb'] at ih
          have st := rs_i3 o n c ver off i b g p m (atZ x g i) (rbZ x g p m i) (reZ x g p m i) (x i) (by omega) (ix_intN hs (by omega)) (hel i (by omega)) (by omega) (by omega) (by omega) (by rw [rif]; omega) (by rw [rif]; omega) hb' (by omega) (by omega) (by omega) (by omega)
          rw [ea] at st
          exact Loops.round st (dr _ _ _) ih
        · rw [if_neg hb'] at ih
          have st := rs_i4 o n c ver off i b g p m (atZ x g i) (rbZ x g p m i) (reZ x g p m i) (x i) (by omega) (ix_intN hs (by omega)) (hel i (by omega)) (by omega) (by omega) (by omega) (by rw [rif]; omega) (by rw [rif]; omega) hb' (by omega) (by omega) (by omega) (by omega)
          rw [ea] at st
          exact Loops.round st (dr _ _ _) ih
    · obtain ⟨e1, e2⟩ := rb_out x g hin
      have hi2 := hin
      unfold inZ at hi2
      rw [e1, e2] at ih
      by_cases h1 : (i : Int) ≥ p
      · by_cases h0 : 0 ≤ p
        · have st := rs_o2 o n c ver off i b g p m (atZ x g i) (rbZ x g p m i) (reZ x g p m i) (x i) (by omega) (ix_intN hs (by omega)) (hel i (by omega)) (by omega) (by omega) (by omega) (by rw [rif]; omega) (by omega) (by omega) (by omega) (by omega)
          rw [ea] at st
          exact Loops.round st (dr _ _ _) ih
        · have st := rs_o3 o n c ver off i b g p m (atZ x g i) (rbZ x g p m i) (reZ x g p m i) (x i) (by omega) (ix_intN hs (by omega)) (hel i (by omega)) (by omega) (by omega) (by omega) (by rw [rif]; omega) (by rw [rif]; omega) (by omega) (by omega) (by omega)
          rw [ea] at st
          exact Loops.round st (dr _ _ _) ih
      · have st := rs_o1 o n c ver off i b g p m (atZ x g i) (rbZ x g p m i) (reZ x g p m i) (x i) (by omega) (ix_intN hs (by omega)) (hel i (by omega)) (by omega) (by omega) (by omega) (by omega)
        rw [ea] at st
        exact Loops.round st (dr _ _ _) ih
end

theorem reZ_range (x : Nat → Int) {g : Int} (hg : 0 ≤ g ∧ g ≤ 4096) (p m : Int) (i : Nat) : -4096 ≤ reZ x g p m i ∧ reZ x g p m i ≤ 8192 * i ∧ -1 ≤ rbZ x g p m i ∧ rbZ x g p m i ≤ 8192 * i := by
  have a := atZ_range x hg (min i (p.toNat + (lenZ p m).toNat))
  have a0 := atZ_range x hg p.toNat
  unfold reZ rbZ
  by_cases h : seenZ p m i
  · rw [if_pos h, if_pos h]
    have := h.1
    omega
  · rw [if_neg h, if_neg h]; omega

theorem rstretch_does {H : AHeap} {o : Option AAddr} {n c id ver off : Nat} {b : ABlk} {x : Nat → Int} (h1 : IntsAt H o n c id ver off b x) (hn : n ≤ 4096) {g : Int} (hg : 0 ≤ g ∧ g ≤ 4096) (p m : Int) (hp : Fit64 p) (hm : Fit64 m) :
    FDoes Try.prog 46 [.slice o n c, .int .i64 g, .int .i64 p, .int .i64 m] H (.tuple [.int .i64 (begZ x g n p m), .int .i64 (sizZ x g n p m), .bool (decide (okZ n p m))]) H := by
  have s1 := h1.sl.at 0
  have l := rs_loop hn s1 h1.bare h1.el hg hp hm n 0 (by omega)
  have s0 : ¬ seenZ p m 0 := fun h => by have := h.1; omega
  have e0 : rbZ x g p m 0 = -1 := by unfold rbZ; rw [if_neg s0]
  have e1 : reZ x g p m 0 = 0 := by unfold reZ; rw [if_neg s0]
  rw [e0, e1] at l
  obtain ⟨f1, f2, f3⟩ := rb_end x hg n p m
  have rr := reZ_range x hg p m n
  have bt : ∀ (a b : Int) (t : Bool), Bare (.tuple [.int .i64 a, .int .i64 b, .bool t]) := fun a b t => ⟨fun r => by simp [AVal.ren, AVal.rens], by simp [Clo, Clos]⟩
  by_cases h : okZ n p m
  · have k := (rs_call_T _ n c b g p m _ _ (Runs.of_loops l) (by rw [rif0]; omega) (f3.2 h)).pure (by simp [h1.bare]) (by kernel_rfl) (bt _ _ _) (by simp [Clos, Clo, s1.clo]) (H := H) [id] (by simp) (by simp [h1.lt]) (by simp [h1.get])
    rw [rif0, f1, ← f1, f2, f1] at k
    rw [decide_eq_true h]
    simpa [h1.sl.back (id' := 0) (r := toBig [id] H.next) rfl, AVal.ren] using k
  · have k := (rs_call_F _ n c b g p m _ _ (Runs.of_loops l) (by rw [rif0]; omega) (fun q => h (f3.1 q))).pure (by simp [h1.bare]) (by kernel_rfl) (bt _ _ _) (by simp [Clos, Clo, s1.clo]) (H := H) [id] (by simp) (by simp [h1.lt]) (by simp [h1.get])
    rw [rif0, f1, ← f1, f2, f1] at k
    rw [decide_eq_false h]
    simpa [h1.sl.back (id' := 0) (r := toBig [id] H.next) rfl, AVal.ren] using k

end Go.Proofs.Ytcgcpmcjaeenlaa

namespace Go.Lift
noncomputable section
open Go.RowKit
set_option linter.unusedVariables false
set_option linter.unusedSimpArgs false

mutual
theorem AVal.ren_on {D : Nat → Prop} {r : Nat → Nat} (h : ∀ i, D i → r i = i) : ∀ {v : AVal}, Clo D v → v.ren r = v
  | .ptr (some a), k => by simp only [Clo] at k; simp only [AVal.ren, AAddr.ren, h _ k]
  | .slice (some a) _ _, k => by simp only [Clo] at k; simp only [AVal.ren, AAddr.ren, h _ k]
  | .func fn f c, k => by simp only [Clo] at k; simp only [AVal.ren, AVal.rens_on h k.1, AVal.rens_on h k.2]
  | .iface t v, k => by simp only [Clo] at k; simp only [AVal.ren, AVal.ren_on h k]
  | .agg cs, k => by simp only [Clo] at k; simp only [AVal.ren, AVal.rens_on h k]
  | .tuple vs, k => by simp only [Clo] at k; simp only [AVal.ren, AVal.rens_on h k]
  | .undef, _ => rfl
  | .bool _, _ => rfl
  | .int _ _, _ => rfl
  | .str _, _ => rfl
  | .ptr none, _ => rfl
  | .slice none _ _, _ => rfl
  | .nilFunc, _ => rfl
  | .nilIface, _ => rfl
theorem AVal.rens_on {D : Nat → Prop} {r : Nat → Nat} (h : ∀ i, D i → r i = i) : ∀ {l : List AVal}, Clos D l → AVal.rens r l = l
  | [], _ => rfl
  | a :: l, k => by simp only [Clos] at k; simp only [AVal.rens, AVal.ren_on h k.1, AVal.rens_on h k.2]
end

/-- a row that names none but these -/
def CloB (D : Nat → Prop) (b : ABlk) : Prop := ∀ e ∈ b.elems, Clo D e

theorem ABlk.ren_on {D : Nat → Prop} {r : Nat → Nat} (h : ∀ i, D i → r i = i) {b : ABlk} (k : CloB D b) : b.ren r = b := by
  unfold ABlk.ren
  have : b.elems.map (AVal.ren r) = b.elems := by
    conv => rhs; rw [← List.map_id b.elems]
    exact List.map_congr_left fun e he => AVal.ren_on h (k e he)
  rw [this]

/-- the rows at a path's end -/
theorem FDoes.closed {P : Program} {f : FuncId} {args : List AVal} {h' : AHeap} {v : AVal} {l l' : List ABlk} (k : FDoes P f args (AHeap.of l) v h') (hlen : l'.length = l.length) (hget : (List.range l'.length).map h'.get = l'.map some) (hv : Bare v)
    (hc : ∀ b ∈ l', CloB (fun i => i < l'.length) b) : FDoes P f args (AHeap.of l) v (AHeap.of l') := by
  have hfst : (idxd 0 l').map (·.1) = List.range l'.length := by rw [idxd_fst, List.range_eq_range']
  rw [AHeap.of_rows l']
  refine k.clean (fun i => i) v l'.length (idxd 0 l') ?_ (hv.1 _).symm ?_ ?_ ?_ ?_ (Nat.ble_eq.mpr ?_) (hv.clo _) ?_
  · have h1 : (idxd 0 l').map (fun p => h'.get p.1) = ((idxd 0 l').map (·.1)).map h'.get := by rw [List.map_map]; rfl
    have h2 : (idxd 0 l').map (fun p => some (p.2.ren fun i => i)) = ((idxd 0 l').map (·.2)).map some := by
      rw [List.map_map]; exact List.map_congr_left fun p _ => by rw [ABlk.ren_id]; rfl
    rw [h1, h2, hfst, idxd_snd, hget]
  · rw [List.all_eq_true]
    intro p hp
    have : p.1 ∈ (idxd 0 l').map (·.1) := List.mem_map.2 ⟨p, hp, rfl⟩
    rw [hfst] at this
    exact Nat.blt_eq.mpr (List.mem_range.1 this)
  · rw [hfst]; rw [List.map_id']; exact List.nodup_range
  · rw [List.all_eq_true, AHeap.of_next]
    intro i hi
    have hi := List.mem_range.1 hi
    rw [hfst, Bool.and_eq_true]
    exact ⟨by simp; omega, beq_true rfl⟩
  · rw [List.all_eq_true, AHeap.of_next]
    intro p hp
    have : p.1 ∈ (idxd 0 l').map (·.1) := List.mem_map.2 ⟨p, hp, rfl⟩
    rw [hfst] at this
    have hlt := List.mem_range.1 this
    rw [Bool.or_eq_true]
    exact .inl (Nat.blt_eq.mpr (by omega))
  · rw [AHeap.of_next]; omega
  · rw [hfst]
    have : ∀ (q : List (Nat × ABlk)), (∀ p ∈ q, CloB (fun i => i < l'.length) p.2) → All (q.map fun p => ∀ e ∈ p.2.elems, Clo (Ids (List.range l'.length)) e) := by
      intro q
      induction q with
      | nil => intro _; exact All.nil
      | cons p r ih =>
        intro hq
        exact All.cons (fun e he => Clo.mono (fun i hi => List.mem_range.2 hi) (hq p (by simp) e he)) (ih fun p hp => hq p (by simp [hp]))
    refine this _ fun p hp => hc p.2 ?_
    have : p.2 ∈ (idxd 0 l').map (·.2) := List.mem_map.2 ⟨p, hp, rfl⟩
    rwa [idxd_snd] at this

end
end Go.Lift

namespace Go.Lift
noncomputable section
open Go.RowKit
set_option linter.unusedVariables false
set_option linter.unusedSimpArgs false

theorem lookF_mem {F : Facts} {t : Nat} {v : AVal} (hv : lookF F t = some v) : (t, v) ∈ F := by
  induction F with
  | nil => cases hv
  | cons p r ih =>
    obtain ⟨k, u⟩ := p
    rw [lookF_cons] at hv
    split at hv
    · rename_i e; simp only [Option.some.injEq] at hv; subst e; subst hv; simp
    · exact List.mem_cons_of_mem _ (ih hv)

theorem lookF_map {F : Facts} {g : AVal → AVal} {t : Nat} {v : AVal} (hv : lookF F t = some v) : lookF (F.map fun p => (p.1, g p.2)) t = some (g v) := by
  induction F with
  | nil => cases hv
  | cons p r ih =>
    obtain ⟨k, u⟩ := p
    rw [List.map_cons, lookF_cons]
    rw [lookF_cons] at hv
    split at hv
    · rename_i e; simp only [Option.some.injEq] at hv; subst hv; rw [if_pos e]
    · rename_i e; rw [if_neg e]; exact ih hv

/-- rows are forgotten, or get other numbers: the row p.1 was the row r p.1 -/
theorem Ent.move {base n : Nat} {F F1 : Facts} {h : AHeap} {K : Nat} {l : List (Nat × ABlk)} (r : Nat → Nat) (hl : l.map (fun p => h.get (r p.1)) = l.map (fun p => some (p.2.ren r))) (hK : l.all (fun p => Nat.blt p.1 K) = true)
    (hr : ((l.map (·.1)).map r).Nodup) (hb : (List.range base).all (fun i => (l.map (·.1)).contains i && Nat.beq (r i) i) = true) (hnew : l.all (fun p => Nat.blt p.1 base || Nat.ble base (r p.1)) = true)
    (hFF : F = F1.map fun p => (p.1, p.2.ren r)) (hn : F1.all (fun p => Nat.blt p.1 n) = true) (hF : All (F1.map fun p => Clo (Ids (l.map (·.1))) p.2))
    (hc : All (l.map fun p => ∀ e ∈ p.2.elems, Clo (Ids (l.map (·.1))) e)) : Ent base n F h F1 (AHeap.rows K l) := by
  have hget : ∀ i b, (AHeap.rows K l).get i = some b → i < K ∧ h.get (r i) = some (b.ren r) := by
    intro i b k
    have hm := AHeap.rows_get k
    refine ⟨Nat.blt_eq.mp (List.all_eq_true.1 hK _ hm), ?_⟩
    obtain ⟨j, hj, e⟩ := List.mem_iff_getElem.1 hm
    have h1 := congrArg (fun (x : List (Option ABlk)) => x[j]?) hl
    simp only [List.getElem?_map, List.getElem?_eq_getElem hj, Option.map_some, e, Option.some.injEq] at h1
    exact h1
  have hmono : ∀ {v : AVal}, Clo (Ids (l.map (·.1))) v → Clo (In (AHeap.rows K l)) v := Clo.mono fun i hi => AHeap.rows_in hi
  subst hFF
  refine Ent.ren (r := r) ⟨fun i b k => ⟨by rw [AHeap.rows_next]; exact (hget i b k).1, (hget i b k).2⟩, ?_, ?_⟩ ?_ ?_ ?_ ?_
  · intro i j hi hj e
    have hi := AHeap.rows_in_of hi
    have hj := AHeap.rows_in_of hj
    obtain ⟨a, ha, rfl⟩ := List.mem_iff_getElem.1 hi
    obtain ⟨b, hb', rfl⟩ := List.mem_iff_getElem.1 hj
    have h1 : ((l.map (·.1)).map r)[a]'(by simpa using ha) = ((l.map (·.1)).map r)[b]'(by simpa using hb') := by simpa using e
    have := (List.getElem_inj hr).1 h1
    subst this; rfl
  · intro i b k e he
    have hm := AHeap.rows_get k
    exact hmono (hc _ (List.mem_map.2 ⟨_, hm, rfl⟩) e he)
  · intro t v hv
    have hm := lookF_mem hv
    exact ⟨Nat.blt_eq.mp (List.all_eq_true.1 hn _ hm), lookF_map hv, hmono (hF _ (List.mem_map.2 ⟨_, hm, rfl⟩))⟩
  · intro i hi _
    have := List.all_eq_true.1 hb i (List.mem_range.2 hi)
    simp only [Bool.and_eq_true] at this
    exact AHeap.rows_in (by simpa using this.1)
  · intro i hi _
    have := List.all_eq_true.1 hb i (List.mem_range.2 hi)
    simp only [Bool.and_eq_true] at this
    exact Nat.eq_of_beq_eq_true this.2
  · intro i hi hlt
    have hi := AHeap.rows_in_of hi
    obtain ⟨p, hm, rfl⟩ := List.mem_map.1 hi
    have := List.all_eq_true.1 hnew p hm
    simp only [Bool.or_eq_true] at this
    rcases this with h1 | h1
    · exact Nat.blt_eq.mp h1
    · have := Nat.le_of_ble_eq_true h1; omega

theorem AHeap.foldl_get_eq (l : List (Nat × ABlk)) : ∀ (h g : AHeap) (i : Nat), h.get i = g.get i → (l.foldl (fun h p => h.set p.1 p.2) h).get i = (l.foldl (fun h p => h.set p.1 p.2) g).get i := by
  induction l with
  | nil => intro h g i e; exact e
  | cons p r ih =>
    intro h g i e
    refine ih _ _ i ?_
    rw [AHeap.get_set, AHeap.get_set, e]

theorem AHeap.foldl_out (l : List (Nat × ABlk)) : ∀ (h : AHeap) (i : Nat), i ∉ l.map (·.1) → (l.foldl (fun h p => h.set p.1 p.2) h).get i = h.get i := by
  induction l with
  | nil => intro h i _; rfl
  | cons p r ih =>
    intro h i hi
    simp only [List.map_cons, List.mem_cons, not_or] at hi
    rw [List.foldl_cons, ih _ i hi.2, AHeap.get_set_ne _ _ (Ne.symm hi.1)]

/-- rows that nobody names -/
theorem Ent.more {base n : Nat} {F : Facts} {K K2 : Nat} {l l2 : List (Nat × ABlk)} (hK : Nat.ble K K2 = true) (h2 : l2.all (fun p => Nat.ble K p.1) = true) : Ent base n F (AHeap.rows K l) F (AHeap.rows K2 (l ++ l2)) := by
  refine Ent.pad (by rw [AHeap.rows_next, AHeap.rows_next]; exact Nat.le_of_ble_eq_true hK) fun i hi => ?_
  rw [AHeap.rows_next] at hi
  unfold AHeap.rows
  rw [List.foldl_append, AHeap.foldl_out l2 _ i fun hm => ?_]
  · exact AHeap.foldl_get_eq l _ _ i rfl
  · obtain ⟨p, hp, rfl⟩ := List.mem_map.1 hm
    have := Nat.le_of_ble_eq_true (List.all_eq_true.1 h2 p hp)
    omega

/-- a row of nothing -/
def noRow0 : ABlk := .made [] 1 true
end
end Go.Lift

namespace Go.Proofs.Ytcgcpmcjaeenlaa
open Go.Lift
set_option maxRecDepth 1000000
set_option linter.unusedSimpArgs false
set_option linter.unusedVariables false
set_option linter.unusedSectionVars false

theorem rstretch_T {H : AHeap} {o : Option AAddr} {n c id ver off : Nat} {b : ABlk} {x : Nat → Int} (h1 : IntsAt H o n c id ver off b x) (hn : n ≤ 4096) {g : Int} (hg : 0 ≤ g ∧ g ≤ 4096) {p m : Int} (hp : Fit64 p) (hm : Fit64 m) (h : okZ n p m) :
    FDoes Try.prog 46 [.slice o n c, .int .i64 g, .int .i64 p, .int .i64 m] H (.tuple [.int .i64 (begZ x g n p m), .int .i64 (sizZ x g n p m), .bool true]) H := by
  have := rstretch_does h1 hn hg p m hp hm
  rwa [decide_eq_true h] at this
theorem rstretch_F {H : AHeap} {o : Option AAddr} {n c id ver off : Nat} {b : ABlk} {x : Nat → Int} (h1 : IntsAt H o n c id ver off b x) (hn : n ≤ 4096) {g : Int} (hg : 0 ≤ g ∧ g ≤ 4096) {p m : Int} (hp : Fit64 p) (hm : Fit64 m) (h : ¬ okZ n p m) :
    FDoes Try.prog 46 [.slice o n c, .int .i64 g, .int .i64 p, .int .i64 m] H (.tuple [.int .i64 (begZ x g n p m), .int .i64 (sizZ x g n p m), .bool false]) H := by
  have := rstretch_does h1 hn hg p m hp hm
  rwa [decide_eq_false h] at this

section
variable {n m k : Nat} (hn : n ≤ 4096) (hm : m ≤ 4096) (hk : k ≤ 4096) {o0 o1 o : Option AAddr} {c0 c1 c v0 f0 v1 f1 ver off : Nat} {b0 b1 b : ABlk} (hs0 : SlArg o0 n c0 0 v0 f0 1) (hs1 : SlArg o1 m c1 1 v1 f1 1) (hs : SlArg o k c 2 ver off 4) (hb0 : BareB b0) (hb1 : BareB b1) (hb : BareB b) {w : Nat → Qd} (hel : ∀ j, j < k → b.elem? ver (off + j) = some (w j).val) (hw : ∀ j, j < k → (w j).Fits) {x y : Nat → Int}
  (hx : ∀ j, j < n → b0.elem? v0 (f0 + j) = some (.int .i64 (x j))) (hy : ∀ j, j < m → b1.elem? v1 (f1 + j) = some (.int .i64 (y j))) {g : Int} (hg : 0 ≤ g ∧ g ≤ 4096)
include hn hm hk hs0 hs1 hs hb0 hb1 hb hel hw hx hy hg

theorem rr_loop : ∀ (f v : Nat), 1 + v + f = k →
    Loops Try.prog 3 85 (loopAt Try.prog 20 0) [(0, .slice o0 n c0), (1, .slice o1 m c1), (3, .slice o k c), (9, .int .i64 g), (10, .slice (some ⟨60, v, 0, 0, 4⟩) (1 + v) (1 + v)), (11, .int .i64 (1 + v : Nat))]
      (AHeap.rows 61 [(0, b0), (1, b1), (2, b), (60, gRowQ (fun j => rectZ x n y m g (w j)) 1 v)]) (.exit 0)
      [(10, .slice (some ⟨60, k - 1, 0, 0, 4⟩) k k)] (AHeap.rows 65 [(0, b0), (1, b1), (2, b), (60, gRowQ (fun j => rectZ x n y m g (w j)) 1 (k - 1))])
  | 0, v, e => by
    obtain rfl : k = 1 + v := by omega
    rw [show 1 + v - 1 = v by omega]
    exact Loops.last (by simp) (rr_end o0 o1 o n m (1 + v) c0 c1 c 0 0 (1 + v) 0 0 b0 b1 b _ b g 0 0 0 0 0 0 0 0 false _ (by omega))
  | f + 1, v, e => by
    have hi : 1 + v < k := by omega
    have d0 : Clo (Ids [0, 1, 2, 60]) (.slice o0 n c0) := hs0.clo (by simp [Ids])
    have d1 : Clo (Ids [0, 1, 2, 60]) (.slice o1 m c1) := hs1.clo (by simp [Ids])
    have d2 : Clo (Ids [0, 1, 2, 60]) (.slice o k c) := hs.clo (by simp [Ids])
    have fw := hw _ hi
    have ih := rr_loop f (v + 1) (by omega)
    rw [show 1 + (v + 1) = 1 + v + 1 by omega] at ih
    have dr : ∀ {K : Nat} {l : List (Nat × ABlk)}, ([0, 1, 2, 60].map (AHeap.rows K l).get = [b0, b1, b, gRowQ (fun j => rectZ x n y m g (w j)) 1 (v + 1)].map some) → Ent 3 85 [(0, .slice o0 n c0), (1, .slice o1 m c1), (3, .slice o k c), (9, .int .i64 g), (10, .slice (some ⟨60, v + 1, 0, 0, 4⟩) (1 + v + 1) (1 + v + 1)), (11, .int .i64 (1 + v + 1 : Nat))] (AHeap.rows K l)
        [(0, .slice o0 n c0), (1, .slice o1 m c1), (3, .slice o k c), (9, .int .i64 g), (10, .slice (some ⟨60, v + 1, 0, 0, 4⟩) (1 + v + 1) (1 + v + 1)), (11, .int .i64 (1 + v + 1 : Nat))] (AHeap.rows 61 [(0, b0), (1, b1), (2, b), (60, gRowQ (fun j => rectZ x n y m g (w j)) 1 (v + 1))]) := fun hl =>
      Ent.drop hl (by kernel_rfl) (by kernel_rfl) (by kernel_rfl) (by simp [All_cons, All_nil, Clo, d0, d1, d2]; simp [Ids]) (by simp only [List.map, All_cons, All_nil, and_true]; exact ⟨hb0.clo _, hb1.clo _, hb.clo _, (gRowQ_bare _ _ _).clo _⟩)
    by_cases h1 : okZ n (w (1 + v)).a (w (1 + v)).c
    · by_cases h2 : okZ m (w (1 + v)).b (w (1 + v)).d
      · have er : rectZ x n y m g (w (1 + v)) = ⟨begZ x g n (w (1 + v)).a (w (1 + v)).c, begZ y g m (w (1 + v)).b (w (1 + v)).d, sizZ x g n (w (1 + v)).a (w (1 + v)).c, sizZ y g m (w (1 + v)).b (w (1 + v)).d⟩ := by unfold rectZ; rw [if_pos ⟨h1, h2⟩]
        have st := rr_TT_grow o0 o1 o n m k c0 c1 c ver off (1 + v) v (1 + v) b0 b1 b (gRowQ (fun j => rectZ x n y m g (w j)) 1 v) (gRowQ (fun j => rectZ x n y m g (w j)) 1 (v + 1)) g (w (1 + v)).a (w (1 + v)).b (w (1 + v)).c (w (1 + v)).d _ _ _ _ false (by omega) (ix_spS hs hi) (hel _ hi) (rstretch_T ⟨hs0, by kernel_rfl, by rw [AHeap.rows_next]; omega, hb0, hx⟩ hn hg fw.a fw.c h1) (rstretch_T ⟨hs1, by kernel_rfl, by rw [AHeap.rows_next]; omega, hb1, hy⟩ hm hg fw.b fw.d h2)
          ((app_quad slRect (f := fun j => rectZ x n y m g (w j)) (n1 := 1) (by omega) (by omega) _ er _ _ _ (by kernel_rfl) (by kernel_rfl)).trans (by kernel_rfl)) (by omega)
        exact Loops.step (st.post (dr (by kernel_rfl))) ih
      · have er : rectZ x n y m g (w (1 + v)) = Qd0 := by unfold rectZ; rw [if_neg (fun h => h2 h.2)]
        have st := rr_TF_grow o0 o1 o n m k c0 c1 c ver off (1 + v) v (1 + v) b0 b1 b (gRowQ (fun j => rectZ x n y m g (w j)) 1 v) (gRowQ (fun j => rectZ x n y m g (w j)) 1 (v + 1)) g (w (1 + v)).a (w (1 + v)).b (w (1 + v)).c (w (1 + v)).d _ _ _ _ false (by omega) (ix_spS hs hi) (hel _ hi) (rstretch_T ⟨hs0, by kernel_rfl, by rw [AHeap.rows_next]; omega, hb0, hx⟩ hn hg fw.a fw.c h1) (rstretch_F ⟨hs1, by kernel_rfl, by rw [AHeap.rows_next]; omega, hb1, hy⟩ hm hg fw.b fw.d h2)
          ((app_quad slRect (f := fun j => rectZ x n y m g (w j)) (n1 := 1) (by omega) (by omega) _ er _ _ _ (by kernel_rfl) (by kernel_rfl)).trans (by kernel_rfl)) (by omega)
        exact Loops.step (st.post (dr (by kernel_rfl))) ih
    · have er : rectZ x n y m g (w (1 + v)) = Qd0 := by unfold rectZ; rw [if_neg (fun h => h1 h.1)]
      have st := rr_F_grow o0 o1 o n m k c0 c1 c ver off (1 + v) v (1 + v) b0 b1 b (gRowQ (fun j => rectZ x n y m g (w j)) 1 v) (gRowQ (fun j => rectZ x n y m g (w j)) 1 (v + 1)) g (w (1 + v)).a (w (1 + v)).b (w (1 + v)).c (w (1 + v)).d _ _ _ _ _ (by omega) (ix_spS hs hi) (hel _ hi) (rstretch_F ⟨hs0, by kernel_rfl, by rw [AHeap.rows_next]; omega, hb0, hx⟩ hn hg fw.a fw.c h1) (rstretch_does ⟨hs1, by kernel_rfl, by rw [AHeap.rows_next]; omega, hb1, hy⟩ hm hg _ _ fw.b fw.d)
        ((app_quad slRect (f := fun j => rectZ x n y m g (w j)) (n1 := 1) (by omega) (by omega) _ er _ _ _ (by kernel_rfl) (by kernel_rfl)).trans (by kernel_rfl)) (by omega)
      exact Loops.step (st.post (dr (by kernel_rfl))) ih

theorem rr_loop0 (h0 : 0 < k) : Loops Try.prog 3 85 (loopAt Try.prog 20 0) [(0, .slice o0 n c0), (1, .slice o1 m c1), (3, .slice o k c), (9, .int .i64 g), (10, .slice none 0 0), (11, .int .i64 0)]
      (AHeap.rows 22 [(0, b0), (1, b1), (2, b)]) (.exit 0)
      [(10, .slice (some ⟨60, k - 1, 0, 0, 4⟩) k k)] (AHeap.rows 65 [(0, b0), (1, b1), (2, b), (60, gRowQ (fun j => rectZ x n y m g (w j)) 1 (k - 1))]) := by
  have e0 : Clo (Ids [0, 1, 2]) (.slice o0 n c0) := hs0.clo (by simp [Ids])
  have e1 : Clo (Ids [0, 1, 2]) (.slice o1 m c1) := hs1.clo (by simp [Ids])
  have e2 : Clo (Ids [0, 1, 2]) (.slice o k c) := hs.clo (by simp [Ids])
  have d0 : Clo (Ids [0, 1, 2, 60]) (.slice o0 n c0) := hs0.clo (by simp [Ids])
  have d1 : Clo (Ids [0, 1, 2, 60]) (.slice o1 m c1) := hs1.clo (by simp [Ids])
  have d2 : Clo (Ids [0, 1, 2, 60]) (.slice o k c) := hs.clo (by simp [Ids])
  have fw := hw _ h0
  have ih := rr_loop hn hm hk hs0 hs1 hs hb0 hb1 hb hel hw hx hy hg (k - 1) 0 (by omega)
  have pre : ∀ K, 3 ≤ K → K < 20 → Ent 3 85 [(0, .slice o0 n c0), (1, .slice o1 m c1), (3, .slice o k c), (9, .int .i64 g), (10, .slice none 0 0), (11, .int .i64 0)] (AHeap.rows 22 [(0, b0), (1, b1), (2, b)])
      [(0, .slice o0 n c0), (1, .slice o1 m c1), (3, .slice o k c), (9, .int .i64 g), (10, .slice none 0 0), (11, .int .i64 (0 : Nat))] (AHeap.rows K [(0, b0), (1, b1), (2, b)]) := fun K h3 h4 =>
    Ent.drop (by kernel_rfl) (by simp only [List.all_cons, List.all_nil, Bool.and_true, Bool.and_eq_true]; exact ⟨Nat.blt_eq.mpr (by omega), Nat.blt_eq.mpr (by omega), Nat.blt_eq.mpr (by omega)⟩) (by kernel_rfl) (by kernel_rfl) (by simp [All_cons, All_nil, Clo, e0, e1, e2]) (by simp only [List.map, All_cons, All_nil, and_true]; exact ⟨hb0.clo _, hb1.clo _, hb.clo _⟩)
  have dr : ∀ {K : Nat} {l : List (Nat × ABlk)}, ([0, 1, 2, 60].map (AHeap.rows K l).get = [b0, b1, b, gRowQ (fun j => rectZ x n y m g (w j)) 1 0].map some) → Ent 3 85 [(0, .slice o0 n c0), (1, .slice o1 m c1), (3, .slice o k c), (9, .int .i64 g), (10, .slice (some ⟨60, 0, 0, 0, 4⟩) 1 1), (11, .int .i64 (0 + 1 : Nat))] (AHeap.rows K l)
      [(0, .slice o0 n c0), (1, .slice o1 m c1), (3, .slice o k c), (9, .int .i64 g), (10, .slice (some ⟨60, 0, 0, 0, 4⟩) 1 1), (11, .int .i64 (0 + 1 : Nat))] (AHeap.rows 61 [(0, b0), (1, b1), (2, b), (60, gRowQ (fun j => rectZ x n y m g (w j)) 1 0)]) := fun hl =>
    Ent.drop hl (by kernel_rfl) (by kernel_rfl) (by kernel_rfl) (by simp [All_cons, All_nil, Clo, d0, d1, d2]; simp [Ids]) (by simp only [List.map, All_cons, All_nil, and_true]; exact ⟨hb0.clo _, hb1.clo _, hb.clo _, (gRowQ_bare _ _ _).clo _⟩)
  by_cases h1 : okZ n (w 0).a (w 0).c
  · by_cases h2 : okZ m (w 0).b (w 0).d
    · have er : rectZ x n y m g (w 0) = ⟨begZ x g n (w 0).a (w 0).c, begZ y g m (w 0).b (w 0).d, sizZ x g n (w 0).a (w 0).c, sizZ y g m (w 0).b (w 0).d⟩ := by unfold rectZ; rw [if_pos ⟨h1, h2⟩]
      have st := rr_TT_new o0 o1 o n m k c0 c1 c ver off 0 0 0 b0 b1 b b (gRowQ (fun j => rectZ x n y m g (w j)) 1 0) g (w 0).a (w 0).b (w 0).c (w 0).d _ _ _ _ false (by omega) (ix_spS hs h0) (hel _ h0) (rstretch_T ⟨hs0, by kernel_rfl, by rw [AHeap.rows_next]; omega, hb0, hx⟩ hn hg fw.a fw.c h1) (rstretch_T ⟨hs1, by kernel_rfl, by rw [AHeap.rows_next]; omega, hb1, hy⟩ hm hg fw.b fw.d h2)
        ((app_quad1 slRect (f := fun j => rectZ x n y m g (w j)) _ er _ _ (by kernel_rfl)).trans (by kernel_rfl)) (by omega)
      exact (Loops.step (st.post (dr (by kernel_rfl))) ih).pre (pre 9 (by omega) (by omega))
    · have er : rectZ x n y m g (w 0) = Qd0 := by unfold rectZ; rw [if_neg (fun h => h2 h.2)]
      have st := rr_TF_new o0 o1 o n m k c0 c1 c ver off 0 0 0 b0 b1 b b (gRowQ (fun j => rectZ x n y m g (w j)) 1 0) g (w 0).a (w 0).b (w 0).c (w 0).d _ _ _ _ false (by omega) (ix_spS hs h0) (hel _ h0) (rstretch_T ⟨hs0, by kernel_rfl, by rw [AHeap.rows_next]; omega, hb0, hx⟩ hn hg fw.a fw.c h1) (rstretch_F ⟨hs1, by kernel_rfl, by rw [AHeap.rows_next]; omega, hb1, hy⟩ hm hg fw.b fw.d h2)
        ((app_quad1 slRect (f := fun j => rectZ x n y m g (w j)) _ er _ _ (by kernel_rfl)).trans (by kernel_rfl)) (by omega)
      exact (Loops.step (st.post (dr (by kernel_rfl))) ih).pre (pre 13 (by omega) (by omega))
  · have er : rectZ x n y m g (w 0) = Qd0 := by unfold rectZ; rw [if_neg (fun h => h1 h.1)]
    have st := rr_F_new o0 o1 o n m k c0 c1 c ver off 0 0 0 b0 b1 b b (gRowQ (fun j => rectZ x n y m g (w j)) 1 0) g (w 0).a (w 0).b (w 0).c (w 0).d _ _ _ _ _ (by omega) (ix_spS hs h0) (hel _ h0) (rstretch_F ⟨hs0, by kernel_rfl, by rw [AHeap.rows_next]; omega, hb0, hx⟩ hn hg fw.a fw.c h1) (rstretch_does ⟨hs1, by kernel_rfl, by rw [AHeap.rows_next]; omega, hb1, hy⟩ hm hg _ _ fw.b fw.d)
      ((app_quad1 slRect (f := fun j => rectZ x n y m g (w j)) _ er _ _ (by kernel_rfl)).trans (by kernel_rfl)) (by omega)
    exact (Loops.step (st.post (dr (by kernel_rfl))) ih).pre (pre 13 (by omega) (by omega))
end

theorem rrects_any {H : AHeap} {o0 o1 o : Option AAddr} {n c0 m c1 k c id0 id1 id2 v0 f0 v1 f1 ver off : Nat} {b0 b1 b : ABlk} {x y : Nat → Int} {w : Nat → Qd} (h0 : IntsAt H o0 n c0 id0 v0 f0 b0 x) (h1 : IntsAt H o1 m c1 id1 v1 f1 b1 y) (h2 : QdsAt H o k c id2 ver off b w)
    (hne : [id0, id1, id2].Nodup) (hw : ∀ j, j < k → (w j).Fits) (gap : Int) {N : Nat} (hN : H.next = N) :
    ∃ (o' : Option AAddr) (c' : Nat), SlArg o' (rlen n m k) c' N (rlen n m k - 1) 0 4 ∧ FDoes Try.prog 20 [.slice o0 n c0, .slice o1 m c1, .int .i64 gap, .slice o k c] H (.slice o' (rlen n m k) c') (H.upd [] [gRowQ (fun j => rectZ x n y m (sideZ gap) (w j)) 1 (rlen n m k - 1)]) := by
  subst hN
  have s0 := h0.sl.at 0
  have s1 := h1.sl.at 1
  have s2 := h2.sl.at 2
  have nilp : ∀ {h' : AHeap}, FDoes Try.prog 20 [.slice (o0.map fun a => { a with id := 0 }) n c0, .slice (o1.map fun a => { a with id := 1 }) m c1, .int .i64 gap, .slice (o.map fun a => { a with id := 2 }) k c] (AHeap.of [b0, b1, b]) (.slice none 0 0) h' → (List.range 3).map h'.get = [b0, b1, b].map some →
      FDoes Try.prog 20 [.slice o0 n c0, .slice o1 m c1, .int .i64 gap, .slice o k c] H (.slice none 0 0) H := by
    intro h' q hq
    have kk := q.pure (by simp [h0.bare, h1.bare, h2.bare]) hq ⟨fun r => rfl, trivial⟩ (by simp [Clos, Clo, s0.clo, s1.clo, s2.clo]) (H := H) [id0, id1, id2] hne (by simp [h0.lt, h1.lt, h2.lt]) (by simp [h0.get, h1.get, h2.get])
    simpa [h0.sl.back (id' := 0) (r := toBig [id0, id1, id2] H.next) rfl, h1.sl.back (id' := 1) (r := toBig [id0, id1, id2] H.next) rfl, h2.sl.back (id' := 2) (r := toBig [id0, id1, id2] H.next) rfl, AVal.ren] using kk
  by_cases h : 4096 < n ∨ 4096 < m ∨ 4096 < k
  · have e : rlen n m k = 0 := by unfold rlen; rw [if_pos h]
    rw [e]
    refine ⟨none, 0, .inr ⟨rfl, rfl, rfl⟩, FDoes.pad1 ?_ _⟩
    by_cases q0 : (n : Int) > 4096
    · exact nilp (rr_nil1 _ _ _ n c0 m c1 k c b0 b1 b b0 b0 [] gap q0) (by kernel_rfl)
    · by_cases q1 : (m : Int) > 4096
      · exact nilp (rr_nil2 _ _ _ n c0 m c1 k c b0 b1 b b0 b0 [] gap q0 q1) (by kernel_rfl)
      · exact nilp (rr_nil3 _ _ _ n c0 m c1 k c b0 b1 b b0 b0 [] gap q0 q1 (by omega)) (by kernel_rfl)
  · have e : rlen n m k = k := by unfold rlen; rw [if_neg h]
    rw [e]
    by_cases hk : k = 0
    · subst hk
      have e0 : Clo (Ids [0, 1, 2]) (.slice (o0.map fun a => { a with id := 0 }) n c0) := s0.clo (by simp [Ids])
      have e1 : Clo (Ids [0, 1, 2]) (.slice (o1.map fun a => { a with id := 1 }) m c1) := s1.clo (by simp [Ids])
      have e2 : Clo (Ids [0, 1, 2]) (.slice (o.map fun a => { a with id := 2 }) 0 c) := s2.clo (by simp [Ids])
      have l : Loops Try.prog 3 85 (loopAt Try.prog 20 0) [(0, .slice (o0.map fun a => { a with id := 0 }) n c0), (1, .slice (o1.map fun a => { a with id := 1 }) m c1), (3, .slice (o.map fun a => { a with id := 2 }) 0 c), (9, .int .i64 (sideZ gap)), (10, .slice none 0 0), (11, .int .i64 (0 : Nat))]
          (AHeap.rows 61 [(0, b0), (1, b1), (2, b), (60, noRow0)]) (.exit 0) [(10, .slice none 0 0)] (AHeap.rows 65 [(0, b0), (1, b1), (2, b), (60, noRow0)]) :=
        Loops.last (by simp) (rr_end _ _ _ n m 0 c0 c1 c 0 0 0 0 0 b0 b1 b _ b (sideZ gap) 0 0 0 0 0 0 0 0 false _ (by omega))
      have pre : Ent 3 85 [(0, .slice (o0.map fun a => { a with id := 0 }) n c0), (1, .slice (o1.map fun a => { a with id := 1 }) m c1), (3, .slice (o.map fun a => { a with id := 2 }) 0 c), (9, .int .i64 (sideZ gap)), (10, .slice none 0 0), (11, .int .i64 (0 : Nat))] (AHeap.rows 22 [(0, b0), (1, b1), (2, b)])
          [(0, .slice (o0.map fun a => { a with id := 0 }) n c0), (1, .slice (o1.map fun a => { a with id := 1 }) m c1), (3, .slice (o.map fun a => { a with id := 2 }) 0 c), (9, .int .i64 (sideZ gap)), (10, .slice none 0 0), (11, .int .i64 (0 : Nat))] (AHeap.rows 61 [(0, b0), (1, b1), (2, b), (60, noRow0)]) := Ent.more (l2 := [(60, noRow0)]) (by kernel_rfl) (by kernel_rfl)
      refine ⟨none, 0, .inr ⟨rfl, rfl, rfl⟩, FDoes.pad1 ?_ _⟩
      exact nilp (rr_call _ _ _ n c0 m c1 0 c b0 b1 b _ gap _ (by omega) (by omega) (by omega) (Runs.of_loops (l.pre pre))) (by kernel_rfl)
    · have l := rr_loop0 (by omega) (by omega) (by omega) s0 s1 s2 h0.bare h1.bare h2.bare h2.el hw h0.el h1.el (sideZ_range gap) (by omega)
      have kk := (rr_call _ _ _ n c0 m c1 k c b0 b1 b _ gap _ (by omega) (by omega) (by omega) (Runs.of_loops l)).new1 (bn := gRowQ (fun j => rectZ x n y m (sideZ gap) (w j)) 1 (k - 1)) (by simp [h0.bare, h1.bare, h2.bare]) (gRowQ_bare _ _ _) (by kernel_rfl) (by kernel_rfl) (by simp) (by simp [Clos, Clo, s0.clo, s1.clo, s2.clo]) (H := H) [id0, id1, id2] hne (by simp [h0.lt, h1.lt, h2.lt]) (by simp [h0.get, h1.get, h2.get])
      refine ⟨some ⟨H.next, k - 1, 0, 0, 4⟩, k, .inl rfl, ?_⟩
      simpa [h0.sl.back (id' := 0) (r := toBig [id0, id1, id2] H.next) rfl, h1.sl.back (id' := 1) (r := toBig [id0, id1, id2] H.next) rfl, h2.sl.back (id' := 2) (r := toBig [id0, id1, id2] H.next) rfl, AVal.ren] using kk

end Go.Proofs.Ytcgcpmcjaeenlaa

namespace Go.Proofs.Ytcgcpmcjaeenlaa
open Go.Lift
set_option maxRecDepth 1000000
set_option linter.unusedSimpArgs false
set_option linter.unusedVariables false
set_option linter.unusedSectionVars false

theorem SameInts_step (o o2 : Option AAddr) (n c c2 ver off ver2 off2 : Nat) (b b2 : ABlk) (i : Nat) (x : Int) (hc_0 : (i : Int) < (n : Int)) (hc_1 : aindexAddr env.D 32 (.slice o n c) (.int .i64 (i : Int)) = some (.ptr (some ⟨0, ver, off + i, 0, 1⟩))) (hc_2 : ABlk.elem? b ver (off + i) = some (.int .i64 x)) (hc_3 : aindexAddr env.D 32 (.slice o2 n c2) (.int .i64 (i : Int)) = some (.ptr (some ⟨1, ver2, off2 + i, 0, 1⟩))) (hc_4 : ABlk.elem? b2 ver2 (off2 + i) = some (.int .i64 x)) (hc_5 : x = x) (hc_6 : -9223372036854775808 ≤ (i : Int) + 1 ∧ (i : Int) + (1 : Int) ≤ 9223372036854775807) :
    Runs Try.prog 2 26 (loopAt Try.prog 19 0) [(0, .slice o n c), (1, .slice o2 n c2), (5, .int .i64 i)] (AHeap.rows 9 [(0, b), (1, b2)]) .normal [(0, .slice o n c), (1, .slice o2 n c2), (5, .int .i64 ((i : Int) + 1))] (AHeap.rows 25 [(0, b), (1, b2)]) :=
  ppath_runs env_ok mixed (hs := [.val 4003 (.bool true), .val 6002 (.ptr (some ⟨0, ver, off + i, 0, 1⟩)), .ld 6003 (.int .i64 x), .val 6006 (.ptr (some ⟨1, ver2, off2 + i, 0, 1⟩)), .ld 6007 (.int .i64 x), .val 6008 (.bool false), .go 5001]) (keep := [0, 1, 5]) (by kernel_rfl) (All.cons (okT hc_0) (All.cons hc_1 (All.cons hc_2 (All.cons hc_3 (All.cons hc_4 (All.cons (neF hc_5) (All.cons hc_6 (All.nil))))))))

theorem SameInts_end (o o2 : Option AAddr) (n c c2 ver off ver2 off2 : Nat) (b b2 : ABlk) (i : Nat) (x : Int) (hc_0 : ¬ ((i : Int) < (n : Int))) :
    Runs Try.prog 2 26 (loopAt Try.prog 19 0) [(0, .slice o n c), (1, .slice o2 n c2), (5, .int .i64 i)] (AHeap.rows 9 [(0, b), (1, b2)]) (.exit 0) [] (AHeap.rows 13 [(0, b), (1, b2)]) :=
  ppath_runs env_ok mixed (hs := [.val 4003 (.bool false)]) (keep := []) (by kernel_rfl) (All.cons (okF hc_0) (All.nil))

theorem SameInts_call (o o2 : Option AAddr) (n c c2 : Nat) (b b2 : ABlk) (hc_0 : (n : Int) = (n : Int)) (hc_1 : Runs Try.prog 2 26 (.loop (loopAt Try.prog 19 0)) [(0, .slice o n c), (1, .slice o2 n c2), (5, .int .i64 0)] (AHeap.rows 9 [(0, b), (1, b2)]) (.exit 0) [] (AHeap.rows 13 [(0, b), (1, b2)])) :
    FDoes Try.prog 19 [.slice o n c, .slice o2 n c2] (AHeap.of [b, b2]) (AVal.bool true) (AHeap.rows 14 [(0, b), (1, b2)]) :=
  pcall_does env_ok mixed (hs := [.val 1004 (.bool false), .keep [0, 1, 5], .loop [] (AHeap.rows 13 [(0, b), (1, b2)]) (.exit 0)]) (rs := []) (by kernel_rfl) (All.cons (neF hc_0) (All.cons hc_1 (All.nil)))

theorem SameSpans_step (o o2 : Option AAddr) (n c c2 ver off ver2 off2 : Nat) (b b2 : ABlk) (i : Nat) (qa qb qc qd : Int) (hc_0 : (i : Int) < (n : Int)) (hc_1 : aindexAddr env.D 22 (.slice o n c) (.int .i64 (i : Int)) = some (.ptr (some ⟨0, ver, off + i, 0, 4⟩))) (hc_2 : ABlk.elem? b ver (off + i) = some (.agg [.int .i64 qa, .int .i64 qb, .int .i64 qc, .int .i64 qd])) (hc_3 : aindexAddr env.D 22 (.slice o2 n c2) (.int .i64 (i : Int)) = some (.ptr (some ⟨1, ver2, off2 + i, 0, 4⟩))) (hc_4 : ABlk.elem? b2 ver2 (off2 + i) = some (.agg [.int .i64 qa, .int .i64 qb, .int .i64 qc, .int .i64 qd])) (hc_5 : (!(qa == qa && (qb == qb && (qc == qc && (qd == qd && true))))) = false) (hc_6 : -9223372036854775808 ≤ (i : Int) + 1 ∧ (i : Int) + (1 : Int) ≤ 9223372036854775807) :
    Runs Try.prog 2 26 (loopAt Try.prog 14 0) [(0, .slice o n c), (1, .slice o2 n c2), (5, .int .i64 i)] (AHeap.rows 9 [(0, b), (1, b2)]) .normal [(0, .slice o n c), (1, .slice o2 n c2), (5, .int .i64 ((i : Int) + 1))] (AHeap.rows 25 [(0, b), (1, b2)]) :=
  ppath_runs env_ok mixed (hs := [.val 4003 (.bool true), .val 6002 (.ptr (some ⟨0, ver, off + i, 0, 4⟩)), .ld 6003 (.agg [.int .i64 qa, .int .i64 qb, .int .i64 qc, .int .i64 qd]), .val 6006 (.ptr (some ⟨1, ver2, off2 + i, 0, 4⟩)), .ld 6007 (.agg [.int .i64 qa, .int .i64 qb, .int .i64 qc, .int .i64 qd]), .val 6008 (.bool false), .go 5001]) (keep := [0, 1, 5]) (by kernel_rfl) (All.cons (okT hc_0) (All.cons hc_1 (All.cons hc_2 (All.cons hc_3 (All.cons hc_4 (All.cons (congrArg (fun q => some (AVal.bool q)) hc_5) (All.cons hc_6 (All.nil))))))))

theorem SameSpans_end (o o2 : Option AAddr) (n c c2 ver off ver2 off2 : Nat) (b b2 : ABlk) (i : Nat) (qa qb qc qd : Int) (hc_0 : ¬ ((i : Int) < (n : Int))) :
    Runs Try.prog 2 26 (loopAt Try.prog 14 0) [(0, .slice o n c), (1, .slice o2 n c2), (5, .int .i64 i)] (AHeap.rows 9 [(0, b), (1, b2)]) (.exit 0) [] (AHeap.rows 13 [(0, b), (1, b2)]) :=
  ppath_runs env_ok mixed (hs := [.val 4003 (.bool false)]) (keep := []) (by kernel_rfl) (All.cons (okF hc_0) (All.nil))

theorem SameSpans_call (o o2 : Option AAddr) (n c c2 : Nat) (b b2 : ABlk) (hc_0 : (n : Int) = (n : Int)) (hc_1 : Runs Try.prog 2 26 (.loop (loopAt Try.prog 14 0)) [(0, .slice o n c), (1, .slice o2 n c2), (5, .int .i64 0)] (AHeap.rows 9 [(0, b), (1, b2)]) (.exit 0) [] (AHeap.rows 13 [(0, b), (1, b2)])) :
    FDoes Try.prog 14 [.slice o n c, .slice o2 n c2] (AHeap.of [b, b2]) (AVal.bool true) (AHeap.rows 14 [(0, b), (1, b2)]) :=
  pcall_does env_ok mixed (hs := [.val 1004 (.bool false), .keep [0, 1, 5], .loop [] (AHeap.rows 13 [(0, b), (1, b2)]) (.exit 0)]) (rs := []) (by kernel_rfl) (All.cons (neF hc_0) (All.cons hc_1 (All.nil)))

theorem SameRects_step (o o2 : Option AAddr) (n c c2 ver off ver2 off2 : Nat) (b b2 : ABlk) (i : Nat) (qa qb qc qd : Int) (hc_0 : (i : Int) < (n : Int)) (hc_1 : aindexAddr env.D 41 (.slice o n c) (.int .i64 (i : Int)) = some (.ptr (some ⟨0, ver, off + i, 0, 4⟩))) (hc_2 : ABlk.elem? b ver (off + i) = some (.agg [.int .i64 qa, .int .i64 qb, .int .i64 qc, .int .i64 qd])) (hc_3 : aindexAddr env.D 41 (.slice o2 n c2) (.int .i64 (i : Int)) = some (.ptr (some ⟨1, ver2, off2 + i, 0, 4⟩))) (hc_4 : ABlk.elem? b2 ver2 (off2 + i) = some (.agg [.int .i64 qa, .int .i64 qb, .int .i64 qc, .int .i64 qd])) (hc_5 : (!(qa == qa && (qb == qb && (qc == qc && (qd == qd && true))))) = false) (hc_6 : -9223372036854775808 ≤ (i : Int) + 1 ∧ (i : Int) + (1 : Int) ≤ 9223372036854775807) :
    Runs Try.prog 2 26 (loopAt Try.prog 22 0) [(0, .slice o n c), (1, .slice o2 n c2), (5, .int .i64 i)] (AHeap.rows 9 [(0, b), (1, b2)]) .normal [(0, .slice o n c), (1, .slice o2 n c2), (5, .int .i64 ((i : Int) + 1))] (AHeap.rows 25 [(0, b), (1, b2)]) :=
  ppath_runs env_ok mixed (hs := [.val 4003 (.bool true), .val 6002 (.ptr (some ⟨0, ver, off + i, 0, 4⟩)), .ld 6003 (.agg [.int .i64 qa, .int .i64 qb, .int .i64 qc, .int .i64 qd]), .val 6006 (.ptr (some ⟨1, ver2, off2 + i, 0, 4⟩)), .ld 6007 (.agg [.int .i64 qa, .int .i64 qb, .int .i64 qc, .int .i64 qd]), .val 6008 (.bool false), .go 5001]) (keep := [0, 1, 5]) (by kernel_rfl) (All.cons (okT hc_0) (All.cons hc_1 (All.cons hc_2 (All.cons hc_3 (All.cons hc_4 (All.cons (congrArg (fun q => some (AVal.bool q)) hc_5) (All.cons hc_6 (All.nil))))))))

theorem SameRects_end (o o2 : Option AAddr) (n c c2 ver off ver2 off2 : Nat) (b b2 : ABlk) (i : Nat) (qa qb qc qd : Int) (hc_0 : ¬ ((i : Int) < (n : Int))) :
    Runs Try.prog 2 26 (loopAt Try.prog 22 0) [(0, .slice o n c), (1, .slice o2 n c2), (5, .int .i64 i)] (AHeap.rows 9 [(0, b), (1, b2)]) (.exit 0) [] (AHeap.rows 13 [(0, b), (1, b2)]) :=
  ppath_runs env_ok mixed (hs := [.val 4003 (.bool false)]) (keep := []) (by kernel_rfl) (All.cons (okF hc_0) (All.nil))

theorem SameRects_call (o o2 : Option AAddr) (n c c2 : Nat) (b b2 : ABlk) (hc_0 : (n : Int) = (n : Int)) (hc_1 : Runs Try.prog 2 26 (.loop (loopAt Try.prog 22 0)) [(0, .slice o n c), (1, .slice o2 n c2), (5, .int .i64 0)] (AHeap.rows 9 [(0, b), (1, b2)]) (.exit 0) [] (AHeap.rows 13 [(0, b), (1, b2)])) :
    FDoes Try.prog 22 [.slice o n c, .slice o2 n c2] (AHeap.of [b, b2]) (AVal.bool true) (AHeap.rows 14 [(0, b), (1, b2)]) :=
  pcall_does env_ok mixed (hs := [.val 1004 (.bool false), .keep [0, 1, 5], .loop [] (AHeap.rows 13 [(0, b), (1, b2)]) (.exit 0)]) (rs := []) (by kernel_rfl) (All.cons (neF hc_0) (All.cons hc_1 (All.nil)))

theorem markedQ_step (o : Option AAddr) (n c ver off : Nat) (b : ABlk) (i : Nat) (m : Int) (hc_0 : (i : Int) < (n : Int)) (hc_1 : aindexAddr env.D 22 (.slice o n c) (.int .i64 (i : Int)) = some (.ptr (some ⟨0, ver, off + i, 0, 4⟩))) (hc_2 : ABlk.elem? b ver (off + i) = some (.agg [.int .i64 m, .int .i64 0, .int .i64 0, .int .i64 0])) (hc_3 : (!(m == m && (0 == 0 && (0 == 0 && (0 == 0 && true))))) = false) (hc_4 : -9223372036854775808 ≤ (i : Int) + 1 ∧ (i : Int) + (1 : Int) ≤ 9223372036854775807) :
    Runs Try.prog 1 19 (loopAt Try.prog 15 0) [(0, .slice o n c), (1, .int .i64 m), (5, .int .i64 i)] (AHeap.rows 3 [(0, b)]) .normal [(0, .slice o n c), (1, .int .i64 m), (5, .int .i64 ((i : Int) + 1))] (AHeap.rows 17 [(0, b)]) :=
  ppath_runs env_ok mixed (hs := [.val 2003 (.bool true), .val 4002 (.ptr (some ⟨0, ver, off + i, 0, 4⟩)), .ld 4003 (.agg [.int .i64 m, .int .i64 0, .int .i64 0, .int .i64 0]), .val 4006 (.bool false), .go 3001]) (keep := [0, 1, 5]) (by kernel_rfl) (All.cons (okT hc_0) (All.cons hc_1 (All.cons hc_2 (All.cons (congrArg (fun q => some (AVal.bool q)) hc_3) (All.cons hc_4 (All.nil))))))

theorem markedQ_end (o : Option AAddr) (n c ver off : Nat) (b : ABlk) (i : Nat) (m : Int) (hc_0 : ¬ ((i : Int) < (n : Int))) :
    Runs Try.prog 1 19 (loopAt Try.prog 15 0) [(0, .slice o n c), (1, .int .i64 m), (5, .int .i64 i)] (AHeap.rows 3 [(0, b)]) (.exit 0) [] (AHeap.rows 7 [(0, b)]) :=
  ppath_runs env_ok mixed (hs := [.val 2003 (.bool false)]) (keep := []) (by kernel_rfl) (All.cons (okF hc_0) (All.nil))

theorem markedQ_call (o : Option AAddr) (n c : Nat) (b : ABlk) (m : Int) (hc_0 : Runs Try.prog 1 19 (.loop (loopAt Try.prog 15 0)) [(0, .slice o n c), (1, .int .i64 m), (5, .int .i64 0)] (AHeap.rows 3 [(0, b)]) (.exit 0) [] (AHeap.rows 7 [(0, b)])) :
    FDoes Try.prog 15 [.slice o n c, .int .i64 m] (AHeap.of [b]) (AVal.bool true) (AHeap.rows 8 [(0, b)]) :=
  pcall_does env_ok mixed (hs := [.keep [0, 1, 5], .loop [] (AHeap.rows 7 [(0, b)]) (.exit 0)]) (rs := []) (by kernel_rfl) (All.cons hc_0 (All.nil))

theorem rm_first0 (v q i : Nat) (b e r r2 : ABlk) (hc_0 : abuiltin env Builtin.append { toList := [22, 22] } [.slice (some ⟨2, 0, 0, 0, 4⟩) 0 0, .slice (some ⟨11, 0, 0, 0, 4⟩) 1 1] 12 (AHeap.set (AHeap.rows 14 [(0, b), (2, (.made ([]) 4 true))]) 11 (.made [.agg [.int .i64 (-77), .int .i64 0, .int .i64 0, .int .i64 0]] 4 true)) = some (.slice (some ⟨12, 0, 0, 0, 4⟩) 1 1, (AHeap.rows 14 [(0, b), (2, (.made ([]) 4 true)), (11, .made [.agg [.int .i64 (-77), .int .i64 0, .int .i64 0, .int .i64 0]] 4 true), (12, r)]))) :
    Runs Try.prog 1 17 (loopAt Try.prog 12 0) [(3, .slice (some ⟨2, 0, 0, 0, 4⟩) 0 0), (4, .int .i64 0)] (AHeap.rows 7 [(0, b), (2, .made [] 4 true)]) .normal [(3, .slice (some ⟨12, 0, 0, 0, 4⟩) 1 1), (4, .int .i64 1)] (AHeap.rows 17 [(0, b), (2, (.made ([]) 4 true)), (11, .made [.agg [.int .i64 (-77), .int .i64 0, .int .i64 0, .int .i64 0]] 4 true), (12, r)]) :=
  ppath_runs env_ok mixed (hs := [.act 5003 (.slice (some ⟨12, 0, 0, 0, 4⟩) 1 1) (fun h => h.set 12 r)]) (keep := [3, 4]) (by kernel_rfl) (All.cons hc_0 (All.nil))

theorem rm_step (v q i : Nat) (b e r r2 : ABlk) (hc_0 : (i : Int) < 9) (hc_1 : abuiltin env Builtin.append { toList := [22, 22] } [.slice (some ⟨12, v, 0, 0, 4⟩) q q, .slice (some ⟨17, 0, 0, 0, 4⟩) 1 1] 18 (AHeap.set (AHeap.rows 20 [(0, b), (12, r)]) 17 (.made [.agg [.int .i64 (-77), .int .i64 0, .int .i64 0, .int .i64 0]] 4 true)) = some (.slice (some ⟨12, v + 1, 0, 0, 4⟩) (q + 1) (q + 1), (AHeap.rows 20 [(0, b), (12, r2), (17, .made [.agg [.int .i64 (-77), .int .i64 0, .int .i64 0, .int .i64 0]] 4 true)]))) (hc_2 : -9223372036854775808 ≤ (i : Int) + 1 ∧ (i : Int) + (1 : Int) ≤ 9223372036854775807) :
    Runs Try.prog 1 17 (loopAt Try.prog 12 0) [(3, .slice (some ⟨12, v, 0, 0, 4⟩) q q), (4, .int .i64 i)] (AHeap.rows 13 [(0, b), (12, r)]) .normal [(3, .slice (some ⟨12, v + 1, 0, 0, 4⟩) (q + 1) (q + 1)), (4, .int .i64 ((i : Int) + 1))] (AHeap.rows 23 [(0, b), (12, r2), (17, .made [.agg [.int .i64 (-77), .int .i64 0, .int .i64 0, .int .i64 0]] 4 true)]) :=
  ppath_runs env_ok mixed (hs := [.val 3001 (.bool true), .act 5003 (.slice (some ⟨12, v + 1, 0, 0, 4⟩) (q + 1) (q + 1)) (fun h => h.set 12 r2), .go 4001]) (keep := [3, 4]) (by kernel_rfl) (All.cons (okT hc_0) (All.cons hc_1 (All.cons hc_2 (All.nil))))

theorem rm_end (v q i : Nat) (b e r r2 : ABlk) (hc_0 : ¬ ((i : Int) < 9)) :
    Runs Try.prog 1 17 (loopAt Try.prog 12 0) [(3, .slice (some ⟨12, v, 0, 0, 4⟩) q q), (4, .int .i64 i)] (AHeap.rows 13 [(0, b), (12, r)]) (.exit 0) [(3, .slice (some ⟨12, v, 0, 0, 4⟩) q q)] (AHeap.rows 15 [(0, b), (12, r)]) :=
  ppath_runs env_ok mixed (hs := [.val 3001 (.bool false)]) (keep := [3]) (by kernel_rfl) (All.cons (okF hc_0) (All.nil))

theorem rm_call0 (o : Option AAddr) (c v q : Nat) (b r : ABlk) (hc_0 : abuiltin env Builtin.append { toList := [22, 22] } [.slice (some ⟨2, 0, 0, 0, 4⟩) 0 0, .slice o 0 c] 4 (AHeap.set (AHeap.rows 6 [(0, b)]) 2 (.made (List.replicate 0 (.agg [.int .i64 0, .int .i64 0, .int .i64 0, .int .i64 0])) 4 true)) = some (.slice (some ⟨2, 0, 0, 0, 4⟩) 0 0, (AHeap.rows 6 [(0, b), (2, .made (List.replicate 0 (.agg [.int .i64 0, .int .i64 0, .int .i64 0, .int .i64 0])) 4 true)]))) (hc_1 : Runs Try.prog 1 17 (.loop (loopAt Try.prog 12 0)) [(3, .slice (some ⟨2, 0, 0, 0, 4⟩) 0 0), (4, .int .i64 0)] (AHeap.rows 7 [(0, b), (2, .made (List.replicate 0 (.agg [.int .i64 0, .int .i64 0, .int .i64 0, .int .i64 0])) 4 true)]) (.exit 0) [(3, .slice (some ⟨12, v, 0, 0, 4⟩) q q)] (AHeap.rows 15 [(0, b), (12, r)])) :
    FDoes Try.prog 12 [.slice o 0 c] (AHeap.of [b]) (.slice (some ⟨12, v, 0, 0, 4⟩) q q) (AHeap.rows 17 [(0, b), (12, r)]) :=
  pcall_does env_ok mixed (hs := [.act 1002 (.slice (some ⟨2, 0, 0, 0, 4⟩) 0 0) (fun h => h), .keep [3, 4], .loop [(3, .slice (some ⟨12, v, 0, 0, 4⟩) q q)] (AHeap.rows 15 [(0, b), (12, r)]) (.exit 0)]) (rs := []) (by kernel_rfl) (All.cons hc_0 (All.cons hc_1 (All.nil)))

theorem rm_call1 (o : Option AAddr) (n c v q : Nat) (b r r0 : ABlk) (hc_0 : abuiltin env Builtin.append { toList := [22, 22] } [.slice (some ⟨2, 0, 0, 0, 4⟩) 0 0, .slice o n c] 4 (AHeap.set (AHeap.rows 6 [(0, b)]) 2 (.made (List.replicate 0 (.agg [.int .i64 0, .int .i64 0, .int .i64 0, .int .i64 0])) 4 true)) = some (.slice (some ⟨4, 0, 0, 0, 4⟩) n n, (AHeap.rows 6 [(0, b), (2, .made (List.replicate 0 (.agg [.int .i64 0, .int .i64 0, .int .i64 0, .int .i64 0])) 4 true), (4, r0)]))) (hc_1 : Runs Try.prog 1 17 (.loop (loopAt Try.prog 12 0)) [(3, .slice (some ⟨4, 0, 0, 0, 4⟩) n n), (4, .int .i64 0)] (AHeap.rows 7 [(0, b), (2, .made (List.replicate 0 (.agg [.int .i64 0, .int .i64 0, .int .i64 0, .int .i64 0])) 4 true), (4, r0)]) (.exit 0) [(3, .slice (some ⟨12, v, 0, 0, 4⟩) q q)] (AHeap.rows 15 [(0, b), (12, r)])) :
    FDoes Try.prog 12 [.slice o n c] (AHeap.of [b]) (.slice (some ⟨12, v, 0, 0, 4⟩) q q) (AHeap.rows 17 [(0, b), (12, r)]) :=
  pcall_does env_ok mixed (hs := [.act 1002 (.slice (some ⟨4, 0, 0, 0, 4⟩) n n) (fun h => h.set 4 r0), .keep [3, 4], .loop [(3, .slice (some ⟨12, v, 0, 0, 4⟩) q q)] (AHeap.rows 15 [(0, b), (12, r)]) (.exit 0)]) (rs := []) (by kernel_rfl) (All.cons hc_0 (All.cons hc_1 (All.nil)))

end Go.Proofs.Ytcgcpmcjaeenlaa

namespace Go.Proofs.Ytcgcpmcjaeenlaa
open Go.Lift
set_option maxRecDepth 1000000
set_option linter.unusedSimpArgs false
set_option linter.unusedVariables false
set_option linter.unusedSectionVars false

theorem sameI_loop {o o2 : Option AAddr} {n c c2 ver off ver2 off2 : Nat} {b b2 : ABlk} (hs : SlArg o n c 0 ver off 1) (hs2 : SlArg o2 n c2 1 ver2 off2 1) (hb : BareB b) (hb2 : BareB b2) {x : Nat → Int} (hx : ∀ j, j < n → b.elem? ver (off + j) = some (.int .i64 (x j)))
    (hx2 : ∀ j, j < n → b2.elem? ver2 (off2 + j) = some (.int .i64 (x j))) (hn : n < 2 ^ 62) :
    ∀ (k i : Nat), i + k = n → Loops Try.prog 2 26 (loopAt Try.prog 19 0) [(0, .slice o n c), (1, .slice o2 n c2), (5, .int .i64 i)] (AHeap.rows 9 [(0, b), (1, b2)]) (.exit 0) [] (AHeap.rows 13 [(0, b), (1, b2)])
  | 0, i, e => by
    obtain rfl : i = n := by omega
    exact Loops.last (by simp) (SameInts_end o o2 i c c2 0 0 0 0 b b2 i 0 (by omega))
  | k + 1, i, e => by
    refine Loops.round (SameInts_step o o2 n c c2 ver off ver2 off2 b b2 i (x i) (by omega) (ix_intN hs (by omega)) (hx i (by omega)) (ix_intN hs2 (by omega)) (hx2 i (by omega)) rfl (by omega)) ?_ (sameI_loop hs hs2 hb hb2 hx hx2 hn k (i + 1) (by omega))
    have hc : Clo (Ids [0, 1]) (.slice o n c) := hs.clo (by simp [Ids])
    have hc2 : Clo (Ids [0, 1]) (.slice o2 n c2) := hs2.clo (by simp [Ids])
    exact Ent.drop (by kernel_rfl) (by kernel_rfl) (by kernel_rfl) (by kernel_rfl) (by simp [All_cons, All_nil, Clo, hc, hc2]) (by simp only [List.map, All_cons, All_nil, and_true]; exact ⟨hb.clo _, hb2.clo _⟩)

/-- lists of numbers that are alike -/
theorem sameI_does {H : AHeap} {o o2 : Option AAddr} {n c c2 id id2 ver off ver2 off2 : Nat} {b b2 : ABlk} {x : Nat → Int} (h1 : IntsAt H o n c id ver off b x) (h2 : IntsAt H o2 n c2 id2 ver2 off2 b2 x) (hne : id ≠ id2) (hn : n < 2 ^ 62) :
    FDoes Try.prog 19 [.slice o n c, .slice o2 n c2] H (.bool true) H := by
  have s1 := h1.sl.at 0
  have s2 := h2.sl.at 1
  have k := (SameInts_call _ _ n c c2 b b2 rfl (Runs.of_loops (sameI_loop s1 s2 h1.bare h2.bare h1.el h2.el hn n 0 (by omega)))).pure (by simp [h1.bare, h2.bare]) (by kernel_rfl) (Bare.bool _) (by simp [Clos, s1.clo, s2.clo]) (H := H) [id, id2] (by simp [hne]) (by simp [h1.lt, h2.lt]) (by simp [h1.get, h2.get])
  simpa [h1.sl.back (id' := 0) (r := toBig [id, id2] H.next) rfl, h2.sl.back (id' := 1) (r := toBig [id, id2] H.next) rfl] using k

theorem eqQ (q : Qd) : (!(q.a == q.a && (q.b == q.b && (q.c == q.c && (q.d == q.d && true))))) = false := by simp

theorem sameS_loop {o o2 : Option AAddr} {n c c2 ver off ver2 off2 : Nat} {b b2 : ABlk} (hs : SlArg o n c 0 ver off 4) (hs2 : SlArg o2 n c2 1 ver2 off2 4) (hb : BareB b) (hb2 : BareB b2) {x : Nat → Qd} (hx : ∀ j, j < n → b.elem? ver (off + j) = some (x j).val)
    (hx2 : ∀ j, j < n → b2.elem? ver2 (off2 + j) = some (x j).val) (hn : n < 2 ^ 62) :
    ∀ (k i : Nat), i + k = n → Loops Try.prog 2 26 (loopAt Try.prog 14 0) [(0, .slice o n c), (1, .slice o2 n c2), (5, .int .i64 i)] (AHeap.rows 9 [(0, b), (1, b2)]) (.exit 0) [] (AHeap.rows 13 [(0, b), (1, b2)])
  | 0, i, e => by
    obtain rfl : i = n := by omega
    exact Loops.last (by simp) (SameSpans_end o o2 i c c2 0 0 0 0 b b2 i 0 0 0 0 (by omega))
  | k + 1, i, e => by
    refine Loops.round (SameSpans_step o o2 n c c2 ver off ver2 off2 b b2 i (x i).a (x i).b (x i).c (x i).d (by omega) (ix_spS hs (by omega)) (hx i (by omega)) (ix_spS hs2 (by omega)) (hx2 i (by omega)) (eqQ (x i)) (by omega)) ?_ (sameS_loop hs hs2 hb hb2 hx hx2 hn k (i + 1) (by omega))
    have hc : Clo (Ids [0, 1]) (.slice o n c) := hs.clo (by simp [Ids])
    have hc2 : Clo (Ids [0, 1]) (.slice o2 n c2) := hs2.clo (by simp [Ids])
    exact Ent.drop (by kernel_rfl) (by kernel_rfl) (by kernel_rfl) (by kernel_rfl) (by simp [All_cons, All_nil, Clo, hc, hc2]) (by simp only [List.map, All_cons, All_nil, and_true]; exact ⟨hb.clo _, hb2.clo _⟩)
theorem sameS_does {H : AHeap} {o o2 : Option AAddr} {n c c2 id id2 ver off ver2 off2 : Nat} {b b2 : ABlk} {x : Nat → Qd} (h1 : QdsAt H o n c id ver off b x) (h2 : QdsAt H o2 n c2 id2 ver2 off2 b2 x) (hne : id ≠ id2) (hn : n < 2 ^ 62) :
    FDoes Try.prog 14 [.slice o n c, .slice o2 n c2] H (.bool true) H := by
  have s1 := h1.sl.at 0
  have s2 := h2.sl.at 1
  have k := (SameSpans_call _ _ n c c2 b b2 rfl (Runs.of_loops (sameS_loop s1 s2 h1.bare h2.bare h1.el h2.el hn n 0 (by omega)))).pure (by simp [h1.bare, h2.bare]) (by kernel_rfl) (Bare.bool _) (by simp [Clos, s1.clo, s2.clo]) (H := H) [id, id2] (by simp [hne]) (by simp [h1.lt, h2.lt]) (by simp [h1.get, h2.get])
  simpa [h1.sl.back (id' := 0) (r := toBig [id, id2] H.next) rfl, h2.sl.back (id' := 1) (r := toBig [id, id2] H.next) rfl] using k

theorem sameR_loop {o o2 : Option AAddr} {n c c2 ver off ver2 off2 : Nat} {b b2 : ABlk} (hs : SlArg o n c 0 ver off 4) (hs2 : SlArg o2 n c2 1 ver2 off2 4) (hb : BareB b) (hb2 : BareB b2) {x : Nat → Qd} (hx : ∀ j, j < n → b.elem? ver (off + j) = some (x j).val)
    (hx2 : ∀ j, j < n → b2.elem? ver2 (off2 + j) = some (x j).val) (hn : n < 2 ^ 62) :
    ∀ (k i : Nat), i + k = n → Loops Try.prog 2 26 (loopAt Try.prog 22 0) [(0, .slice o n c), (1, .slice o2 n c2), (5, .int .i64 i)] (AHeap.rows 9 [(0, b), (1, b2)]) (.exit 0) [] (AHeap.rows 13 [(0, b), (1, b2)])
  | 0, i, e => by
    obtain rfl : i = n := by omega
    exact Loops.last (by simp) (SameRects_end o o2 i c c2 0 0 0 0 b b2 i 0 0 0 0 (by omega))
  | k + 1, i, e => by
    refine Loops.round (SameRects_step o o2 n c c2 ver off ver2 off2 b b2 i (x i).a (x i).b (x i).c (x i).d (by omega) (ix_reS hs (by omega)) (hx i (by omega)) (ix_reS hs2 (by omega)) (hx2 i (by omega)) (eqQ (x i)) (by omega)) ?_ (sameR_loop hs hs2 hb hb2 hx hx2 hn k (i + 1) (by omega))
    have hc : Clo (Ids [0, 1]) (.slice o n c) := hs.clo (by simp [Ids])
    have hc2 : Clo (Ids [0, 1]) (.slice o2 n c2) := hs2.clo (by simp [Ids])
    exact Ent.drop (by kernel_rfl) (by kernel_rfl) (by kernel_rfl) (by kernel_rfl) (by simp [All_cons, All_nil, Clo, hc, hc2]) (by simp only [List.map, All_cons, All_nil, and_true]; exact ⟨hb.clo _, hb2.clo _⟩)
theorem sameR_does {H : AHeap} {o o2 : Option AAddr} {n c c2 id id2 ver off ver2 off2 : Nat} {b b2 : ABlk} {x : Nat → Qd} (h1 : QdsAt H o n c id ver off b x) (h2 : QdsAt H o2 n c2 id2 ver2 off2 b2 x) (hne : id ≠ id2) (hn : n < 2 ^ 62) :
    FDoes Try.prog 22 [.slice o n c, .slice o2 n c2] H (.bool true) H := by
  have s1 := h1.sl.at 0
  have s2 := h2.sl.at 1
  have k := (SameRects_call _ _ n c c2 b b2 rfl (Runs.of_loops (sameR_loop s1 s2 h1.bare h2.bare h1.el h2.el hn n 0 (by omega)))).pure (by simp [h1.bare, h2.bare]) (by kernel_rfl) (Bare.bool _) (by simp [Clos, s1.clo, s2.clo]) (H := H) [id, id2] (by simp [hne]) (by simp [h1.lt, h2.lt]) (by simp [h1.get, h2.get])
  simpa [h1.sl.back (id' := 0) (r := toBig [id, id2] H.next) rfl, h2.sl.back (id' := 1) (r := toBig [id, id2] H.next) rfl] using k

theorem markedQ_loop {o : Option AAddr} {n c ver off : Nat} {b : ABlk} (hs : SlArg o n c 0 ver off 4) (hb : BareB b) {m : Int} (hx : ∀ j, j < n → b.elem? ver (off + j) = some (Qd.val ⟨m, 0, 0, 0⟩)) (hn : n < 2 ^ 62) :
    ∀ (k i : Nat), i + k = n → Loops Try.prog 1 19 (loopAt Try.prog 15 0) [(0, .slice o n c), (1, .int .i64 m), (5, .int .i64 i)] (AHeap.rows 3 [(0, b)]) (.exit 0) [] (AHeap.rows 7 [(0, b)])
  | 0, i, e => by
    obtain rfl : i = n := by omega
    exact Loops.last (by simp) (markedQ_end o i c 0 0 b i m (by omega))
  | k + 1, i, e => by
    refine Loops.round (markedQ_step o n c ver off b i m (by omega) (ix_spS hs (by omega)) (hx i (by omega)) (by simp) (by omega)) ?_ (markedQ_loop hs hb hx hn k (i + 1) (by omega))
    have hc : Clo (Ids [0]) (.slice o n c) := hs.clo (by simp [Ids])
    exact Ent.drop (by kernel_rfl) (by kernel_rfl) (by kernel_rfl) (by kernel_rfl) (by simp [All_cons, All_nil, Clo, hc]) (by simp only [List.map, All_cons, All_nil, and_true]; exact hb.clo _)
theorem markedQ_does {H : AHeap} {o : Option AAddr} {n c id ver off : Nat} {b : ABlk} {m : Int} (h1 : QdsAt H o n c id ver off b fun _ => ⟨m, 0, 0, 0⟩) (hn : n < 2 ^ 62) : FDoes Try.prog 15 [.slice o n c, .int .i64 m] H (.bool true) H := by
  have s1 := h1.sl.at 0
  have k := (markedQ_call _ n c b m (Runs.of_loops (markedQ_loop s1 h1.bare h1.el hn n 0 (by omega)))).pure (by simp [h1.bare]) (by kernel_rfl) (Bare.bool _) (by simp [Clos, Clo, s1.clo]) (H := H) [id] (by simp) (by simp [h1.lt]) (by simp [h1.get])
  simpa [h1.sl.back (id' := 0) (r := toBig [id] H.next) rfl, AVal.ren] using k

/-! a list with marks behind it -/
def MarkQ (m : Int) : Qd := ⟨m, 0, 0, 0⟩
def roomyF (n : Nat) (x : Nat → Qd) (m : Int) (j : Nat) : Qd := if j < n then x j else MarkQ m

theorem rm_loop {b : ABlk} (hb : BareB b) {n1 : Nat} (h1 : 1 ≤ n1) {f : Nat → Qd} (hf : ∀ j, n1 ≤ j → f j = MarkQ (-77)) : ∀ (k i v : Nat), i + k = 9 → n1 + v + k ≤ 2 ^ 42 + 100 →
    Loops Try.prog 1 17 (loopAt Try.prog 12 0) [(3, .slice (some ⟨12, v, 0, 0, 4⟩) (n1 + v) (n1 + v)), (4, .int .i64 i)] (AHeap.rows 13 [(0, b), (12, gRowQ f n1 v)]) (.exit 0)
      [(3, .slice (some ⟨12, v + k, 0, 0, 4⟩) (n1 + (v + k)) (n1 + (v + k)))] (AHeap.rows 15 [(0, b), (12, gRowQ f n1 (v + k))])
  | 0, i, v, e, _ => by
    obtain rfl : i = 9 := by omega
    exact Loops.last (by simp) (rm_end v (n1 + v) 9 b b (gRowQ f n1 v) b (by omega))
  | k + 1, i, v, e, hv => by
    have ih := rm_loop hb h1 hf k (i + 1) (v + 1) (by omega) (by omega)
    rw [show v + 1 + k = v + (k + 1) by omega, show n1 + (v + 1) = n1 + v + 1 by omega] at ih
    refine Loops.step ((rm_step v (n1 + v) i b b (gRowQ f n1 v) (gRowQ f n1 (v + 1)) (by omega) ((app_quad slSpan h1 (by omega) (MarkQ (-77)) (hf _ (by omega)) _ _ _ (by kernel_rfl) (by kernel_rfl)).trans (by kernel_rfl)) (by omega)).post ?_) ih
    exact Ent.drop (by kernel_rfl) (by kernel_rfl) (by kernel_rfl) (by kernel_rfl) (by simp [All_cons, All_nil, Clo]; simp [Ids]) (by simp only [List.map, All_cons, All_nil, and_true]; exact ⟨hb.clo _, (gRowQ_bare _ _ _).clo _⟩)

def to12 (i : Nat) : Nat := if i = 12 then 4 else i

/-- a list with marks behind it: its row and its number of writes -/
theorem roomy_does {H : AHeap} {o : Option AAddr} {n c id ver off : Nat} {b : ABlk} {x : Nat → Qd} (h1 : QdsAt H o n c id ver off b x) (hn : n ≤ 2 ^ 42) :
    ∃ n1 v : Nat, n1 + v = n + 9 ∧ FDoes Try.prog 12 [.slice o n c] H (.slice (some ⟨H.next, v, 0, 0, 4⟩) (n + 9) (n + 9)) (H.upd [] [gRowQ (roomyF n x (-77)) n1 v]) := by
  have s1 := h1.sl.at 0
  have hx : ∀ {hp : AHeap}, hp.get 0 = some b → elemsOf 4 (.slice (o.map fun a => { a with id := 0 }) n c) hp = some (qrows n x) := fun hg => elemsOf_slice s1 hg h1.el
  by_cases h0 : n = 0
  · subst h0
    refine ⟨1, 8, rfl, ?_⟩
    have l := rm_loop h1.bare (n1 := 1) (by omega) (f := roomyF 0 x (-77)) (fun j hj => by unfold roomyF; rw [if_neg (by omega)]) 8 1 0 (by omega) (by omega)
    have st := rm_first0 0 0 0 b b (gRowQ (roomyF 0 x (-77)) 1 0) b ((app_copy slSpan (new := [(MarkQ (-77)).val]) (by kernel_rfl) (b := .made [] 4 true) (old := []) (by simp) (by simp) (by kernel_rfl) rfl (by simp) rfl (by kernel_rfl)).trans (by kernel_rfl))
    have l2 := Loops.step (st.post (Ent.drop (K := 13) (l := [(0, b), (12, gRowQ (roomyF 0 x (-77)) 1 0)]) (by kernel_rfl) (by kernel_rfl) (by kernel_rfl) (by kernel_rfl) (by simp [All_cons, All_nil, Clo]; simp [Ids]) (by simp only [List.map, All_cons, All_nil, and_true]; exact ⟨h1.bare.clo _, (gRowQ_bare _ _ _).clo _⟩))) l
    have k := (rm_call0 (o.map fun a => { a with id := 0 }) c _ _ b _ ((app_none slSpan ((hx (by kernel_rfl)).trans (by simp [qrows])) (b := .made [] 4 true) (o := some ⟨2, 0, 0, 0, 4⟩) (len := 0) (cap := 0) (by simp) (by simp) (fun a ha => by simp at ha; subst ha; exact ⟨by kernel_rfl, rfl⟩) (by simp) (by simp)).trans (by kernel_rfl)) (Runs.of_loops l2)).new1 (bn := gRowQ (roomyF 0 x (-77)) 1 8) (by simp [h1.bare]) (gRowQ_bare _ _ _) (by kernel_rfl) (by kernel_rfl) (by simp) (by simp [Clos, Clo, s1.clo]) (H := H) [id] (by simp) (by simp [h1.lt]) (by simp [h1.get])
    simpa [h1.sl.back (id' := 0) (r := toBig [id] H.next) rfl, AVal.ren] using k
  · refine ⟨n, 9, rfl, ?_⟩
    have l := rm_loop h1.bare (n1 := n) (by omega) (f := roomyF n x (-77)) (fun j hj => by unfold roomyF; rw [if_neg (by omega)]) 9 0 0 (by omega) (by omega)
    have er : gRowQ (roomyF n x (-77)) n 0 = .made (qrows n x) 4 false := by
      rw [← gRowQ_zero, qrows_congr (f := roomyF n x (-77)) (g := x) fun j hj => by unfold roomyF; rw [if_pos hj]]
    have pre : Ent 1 17 [(3, .slice (some ⟨4, 0, 0, 0, 4⟩) n n), (4, .int .i64 0)] (AHeap.rows 7 [(0, b), (2, .made [] 4 true), (4, gRowQ (roomyF n x (-77)) n 0)]) [(3, .slice (some ⟨12, 0, 0, 0, 4⟩) (n + 0) (n + 0)), (4, .int .i64 (0 : Nat))] (AHeap.rows 13 [(0, b), (12, gRowQ (roomyF n x (-77)) n 0)]) := by
      refine Ent.move to12 ?_ (by kernel_rfl) (by simp [to12]) (by kernel_rfl) (by kernel_rfl) ?_ (by kernel_rfl) (by simp only [List.map, All_cons, All_nil, and_true]; exact ⟨by simp [Clo, Ids], by simp [Clo]⟩) (by
        simp only [List.map, All_cons, All_nil, and_true]
        exact ⟨h1.bare.clo _, (gRowQ_bare _ _ _).clo _⟩)
      · simp only [List.map]
        rw [h1.bare.ren, (gRowQ_bare _ _ _).ren]
        kernel_rfl
      · rfl
    have k := (rm_call1 (o.map fun a => { a with id := 0 }) n c _ _ b _ (gRowQ (roomyF n x (-77)) n 0) ((app_copy slSpan (hx (by kernel_rfl)) (b := .made [] 4 true) (old := []) (a := ⟨2, 0, 0, 0, 4⟩) (len := 0) (cap := 0) (by simp; omega) (by simp; omega) (by kernel_rfl) rfl (by simp; omega) rfl (by kernel_rfl)).trans (by
      rw [er, List.nil_append, qrows_length, Nat.zero_add]; kernel_rfl)) (Runs.of_loops (l.pre pre))).new1 (bn := gRowQ (roomyF n x (-77)) n 9) (by simp [h1.bare]) (gRowQ_bare _ _ _) (by kernel_rfl) (by kernel_rfl) (by simp) (by simp [Clos, Clo, s1.clo]) (H := H) [id] (by simp) (by simp [h1.lt]) (by simp [h1.get])
    simpa [h1.sl.back (id' := 0) (r := toBig [id] H.next) rfl, AVal.ren] using k

end Go.Proofs.Ytcgcpmcjaeenlaa

namespace Go.Lift
noncomputable section
set_option linter.unusedVariables false
set_option linter.unusedSimpArgs false

section
variable {β : Type}

def fNat (n : Nat) (k : Nat → β) : β := Nat.rec (motive := fun _ => β) (k 0) (fun m _ => k (Nat.succ m)) n
theorem fNat_eq (n : Nat) (k : Nat → β) : fNat n k = k n := by cases n <;> rfl

def fInt (n : Int) (k : Int → β) : β :=
  match n with
  | .ofNat m => fNat m fun m => k (.ofNat m)
  | .negSucc m => fNat m fun m => k (.negSucc m)
theorem fInt_eq (n : Int) (k : Int → β) : fInt n k = k n := by cases n <;> simp [fInt, fNat_eq]

def fKind (d : IntKind) (k : IntKind → β) : β :=
  match d with
  | .i8 => k .i8 | .i16 => k .i16 | .i32 => k .i32 | .i64 => k .i64 | .u8 => k .u8 | .u16 => k .u16 | .u32 => k .u32 | .u64 => k .u64
theorem fKind_eq (d : IntKind) (k : IntKind → β) : fKind d k = k d := by cases d <;> rfl

def fBool (b : Bool) (k : Bool → β) : β :=
  match b with
  | true => k true
  | false => k false
theorem fBool_eq (b : Bool) (k : Bool → β) : fBool b k = k b := by cases b <;> rfl

def fAddr (a : AAddr) (k : AAddr → β) : β :=
  match a with
  | ⟨a, b, c, d, e⟩ => fNat a fun a => fNat b fun b => fNat c fun c => fNat d fun d => fNat e fun e => k ⟨a, b, c, d, e⟩
theorem fAddr_eq (a : AAddr) (k : AAddr → β) : fAddr a k = k a := by cases a; simp [fAddr, fNat_eq]

def fByte (b : UInt8) (k : UInt8 → β) : β :=
  match b with
  | ⟨⟨⟨n, h⟩⟩⟩ => fNat n fun m => k (UInt8.ofNat m)
theorem fByte_eq (b : UInt8) (k : UInt8 → β) : fByte b k = k b := by
  obtain ⟨⟨⟨n, h⟩⟩⟩ := b
  simp only [fByte, fNat_eq]
  congr 1
  apply UInt8.toNat_inj.1
  simp [UInt8.toNat, UInt8.ofNat]
  omega

def fBytes : List UInt8 → (List UInt8 → β) → β
  | [], k => k []
  | b :: r, k => fByte b fun b => fBytes r fun r => k (b :: r)
theorem fBytes_eq : ∀ (l : List UInt8) (k : List UInt8 → β), fBytes l k = k l
  | [], k => rfl
  | b :: r, k => by simp only [fBytes, fByte_eq, fBytes_eq r]

/-- a value without parts -/
def fS (v : AVal) (k : AVal → β) : β :=
  match v with
  | .undef => k .undef
  | .bool b => fBool b fun b => k (.bool b)
  | .int d n => fKind d fun d => fInt n fun n => k (.int d n)
  | .str s => fBytes s fun s => k (.str s)
  | .ptr none => k (.ptr none)
  | .ptr (some a) => fAddr a fun a => k (.ptr (some a))
  | .slice none n c => fNat n fun n => fNat c fun c => k (.slice none n c)
  | .slice (some a) n c => fAddr a fun a => fNat n fun n => fNat c fun c => k (.slice (some a) n c)
  | .nilFunc => k .nilFunc
  | .nilIface => k .nilIface
  | .func a b c => k (.func a b c)
  | .iface t v => k (.iface t v)
  | .agg l => k (.agg l)
  | .tuple l => k (.tuple l)
theorem fS_eq (v : AVal) (k : AVal → β) : fS v k = k v := by
  cases v with
  | ptr o => cases o <;> simp [fS, fAddr_eq]
  | slice o n c => cases o <;> simp [fS, fAddr_eq, fNat_eq]
  | _ => simp [fS, fBool_eq, fKind_eq, fInt_eq, fBytes_eq]

def fSs : List AVal → (List AVal → β) → β
  | [], k => k []
  | a :: r, k => fS a fun a => fSs r fun r => k (a :: r)
theorem fSs_eq : ∀ (l : List AVal) (k : List AVal → β), fSs l k = k l
  | [], k => rfl
  | a :: r, k => by simp only [fSs, fS_eq, fSs_eq r]

/-- parts of one layer -/
def fV1 (v : AVal) (k : AVal → β) : β :=
  match v with
  | .agg l => fSs l fun l => k (.agg l)
  | .iface t v => fNat t fun t => fS v fun v => k (.iface t v)
  | .func a b c => fSs b fun b => fSs c fun c => k (.func a b c)
  | .tuple l => fSs l fun l => k (.tuple l)
  | v => fS v k
theorem fV1_eq (v : AVal) (k : AVal → β) : fV1 v k = k v := by
  unfold fV1; split <;> simp [fS_eq, fSs_eq, fNat_eq]

def fV1s : List AVal → (List AVal → β) → β
  | [], k => k []
  | a :: r, k => fV1 a fun a => fV1s r fun r => k (a :: r)
theorem fV1s_eq : ∀ (l : List AVal) (k : List AVal → β), fV1s l k = k l
  | [], k => rfl
  | a :: r, k => by simp only [fV1s, fV1_eq, fV1s_eq r]

def fV (v : AVal) (k : AVal → β) : β :=
  match v with
  | .tuple l => fV1s l fun l => k (.tuple l)
  | .iface t v => fNat t fun t => fV1 v fun v => k (.iface t v)
  | v => fV1 v k
theorem fV_eq (v : AVal) (k : AVal → β) : fV v k = k v := by
  unfold fV; split <;> simp [fV1_eq, fV1s_eq, fNat_eq]

def fVs : List AVal → (List AVal → β) → β
  | [], k => k []
  | a :: r, k => fV a fun a => fVs r fun r => k (a :: r)
def fBlk (b : ABlk) (k : ABlk → β) : β :=
  match b with
  | ⟨l, es, ex, ro, v, m, f⟩ => fV1s l fun l => fNat es fun es => fBool ex fun ex => fBool ro fun ro => fNat v fun v => fNat m fun m => fNat f fun f => k ⟨l, es, ex, ro, v, m, f⟩
theorem fBlk_eq (b : ABlk) (k : ABlk → β) : fBlk b k = k b := by cases b; simp [fBlk, fV1s_eq, fNat_eq, fBool_eq]


/-! slots: a tree -/

def toL (n : Nat) (t : Trie AVal) : List AVal := (List.range n).map fun i => (t.get i).getD skipped

theorem toL_get (n : Nat) (t : Trie AVal) (i : Nat) : (toL n t)[i]? = if i < n then some ((t.get i).getD skipped) else none := by
  simp only [toL, List.getElem?_map]
  by_cases h : i < n
  · rw [List.getElem?_range h, if_pos h]; rfl
  · rw [List.getElem?_eq_none (by simpa using h), if_neg h]; rfl

def tget (n : Nat) (t : Trie AVal) (i : Nat) : Option AVal := cond (Nat.blt i n) (some (Option.rec (motive := fun _ => AVal) skipped (fun v => v) (t.get i))) none
theorem tget_eq (n : Nat) (t : Trie AVal) (i : Nat) : tget n t i = (toL n t)[i]? := by
  rw [toL_get]; unfold tget
  by_cases h : i < n
  · rw [show Nat.blt i n = true by simpa [Nat.blt_eq] using h, if_pos h]; cases t.get i <;> rfl
  · rw [show Nat.blt i n = false by cases hb : Nat.blt i n with | false => rfl | true => exact absurd (Nat.blt_eq.mp hb) h, if_neg h]; rfl

def agetT (n : Nat) (t : Trie AVal) (o : Operand) : AVal :=
  match o with
  | .tmp i => cond (Nat.blt i n) (Option.rec (motive := fun _ => AVal) skipped (fun v => v) (t.get i)) .undef
  | .const v => ofConst v
  | .global _ => .undef
  | .func f => .func (.func f) [] []
theorem agetT_eq (n : Nat) (t : Trie AVal) : agetT n t = agetOp (toL n t) := by
  funext o
  cases o with
  | tmp i =>
    have := tget_eq n t i
    simp only [agetOp, List.getD_eq_getElem?_getD, ← this]
    unfold tget
    show cond (Nat.blt i n) (Option.rec (motive := fun _ => AVal) skipped (fun v => v) (t.get i)) .undef = _
    cases Nat.blt i n <;> rfl
  | const v => rfl
  | global g => rfl
  | func f => rfl

theorem toL_set (n : Nat) (t : Trie AVal) (d : Nat) (v : AVal) : toL n (t.set d v) = (toL n t).set d v := by
  apply List.ext_getElem?
  intro i
  rw [toL_get, List.getElem?_set, toL_get]
  by_cases h : i < n
  · simp only [h, if_true, Trie.get_set]
    by_cases hd : d = i
    · subst hd; simp [toL, h]
    · simp [hd]
  · simp only [h, if_false]
    by_cases hd : d = i
    · subst hd; simp [toL, h]
    · simp [hd]

section
variable {α : Type}
def fSing (f : Nat) : Nat → α → (Trie α → β) → β :=
  Nat.rec (motive := fun _ => Nat → α → (Trie α → β) → β) (fun _ v c => c (.node (some v) .nil .nil))
    (fun _ ih k v c => cond (Nat.beq k 0) (c (.node (some v) .nil .nil)) (cond (Nat.beq (Nat.mod k 2) 1) (ih (Nat.div k 2) v fun u => c (.node none u .nil)) (ih (Nat.sub (Nat.div k 2) 1) v fun u => c (.node none .nil u)))) f
theorem fSing_eq : ∀ (f k : Nat) (v : α) (c : Trie α → β), fSing f k v c = c (Trie.sing f k v)
  | 0, k, v, c => rfl
  | f + 1, k, v, c => by
    show cond (Nat.beq k 0) (c (.node (some v) .nil .nil)) (cond (Nat.beq (k % 2) 1) (fSing f (k / 2) v fun u => c (.node none u .nil)) (fSing f (k / 2 - 1) v fun u => c (.node none .nil u))) =
      c (cond (Nat.beq k 0) (.node (some v) .nil .nil) (cond (Nat.beq (k % 2) 1) (.node none (Trie.sing f (k / 2) v) .nil) (.node none .nil (Trie.sing f (k / 2 - 1) v))))
    rw [fSing_eq f, fSing_eq f]
    cases Nat.beq k 0 <;> cases Nat.beq (k % 2) 1 <;> rfl

def fSetT (t : Trie α) : Nat → α → (Trie α → β) → β :=
  Trie.rec (motive := fun _ => Nat → α → (Trie α → β) → β) (fun k v c => fSing k k v c)
    (fun o l r sl sr k v c => cond (Nat.beq k 0) (c (.node (some v) l r)) (cond (Nat.beq (Nat.mod k 2) 1) (sl (Nat.div k 2) v fun u => c (.node o u r)) (sr (Nat.sub (Nat.div k 2) 1) v fun u => c (.node o l u)))) t
theorem fSetT_eq : ∀ (t : Trie α) (k : Nat) (v : α) (c : Trie α → β), fSetT t k v c = c (t.set k v)
  | .nil, k, v, c => fSing_eq k k v c
  | .node o l r, k, v, c => by
    show cond (Nat.beq k 0) (c (.node (some v) l r)) (cond (Nat.beq (k % 2) 1) (fSetT l (k / 2) v fun u => c (.node o u r)) (fSetT r (k / 2 - 1) v fun u => c (.node o l u))) =
      c (cond (Nat.beq k 0) (.node (some v) l r) (cond (Nat.beq (k % 2) 1) (.node o (l.set (k / 2) v) r) (.node o l (r.set (k / 2 - 1) v))))
    rw [fSetT_eq l, fSetT_eq r]
    cases Nat.beq k 0 <;> cases Nat.beq (k % 2) 1 <;> rfl

/-- the way down to a key, and what lies there, worked out -/
def fAt (f : α → (α → β) → β) (t : Trie α) : Nat → (Trie α → β) → β :=
  Trie.rec (motive := fun _ => Nat → (Trie α → β) → β) (fun _ c => c .nil)
    (fun o l r fl fr k c => cond (Nat.beq k 0) (Option.rec (motive := fun _ => β) (c (.node none l r)) (fun b => f b fun b => c (.node (some b) l r)) o) (cond (Nat.beq (Nat.mod k 2) 1) (fl (Nat.div k 2) fun u => c (.node o u r)) (fr (Nat.sub (Nat.div k 2) 1) fun u => c (.node o l u)))) t
theorem fAt_eq {f : α → (α → β) → β} (hf : ∀ a k, f a k = k a) : ∀ (t : Trie α) (k : Nat) (c : Trie α → β), fAt f t k c = c t
  | .nil, k, c => rfl
  | .node o l r, k, c => by
    show cond (Nat.beq k 0) (Option.rec (motive := fun _ => β) (c (.node none l r)) (fun b => f b fun b => c (.node (some b) l r)) o) (cond (Nat.beq (k % 2) 1) (fAt f l (k / 2) fun u => c (.node o u r)) (fAt f r (k / 2 - 1) fun u => c (.node o l u))) = _
    rw [fAt_eq hf l, fAt_eq hf r]
    cases o <;> cases Nat.beq k 0 <;> cases Nat.beq (k % 2) 1 <;> simp [hf]
end

def fPut (s : Trie AVal) (d : Option Tmp) (v : AVal) (k : Trie AVal → β) : β := Option.rec (motive := fun _ => β) (k s) (fun d => fSetT s d v k) d
theorem fPut_eq (n : Nat) (s : Trie AVal) (d : Option Tmp) (v : AVal) (k : Trie AVal → β) : fPut s d v k = k (Option.rec (motive := fun _ => Trie AVal) s (fun d => s.set d v) d) := by cases d <;> simp [fPut, fSetT_eq]
theorem toL_put (n : Nat) (s : Trie AVal) (d : Option Tmp) (v : AVal) : toL n (Option.rec (motive := fun _ => Trie AVal) s (fun d => s.set d v) d) = aput (toL n s) d v := by cases d <;> simp [aput, toL_set]

def fHeapTo (id : Nat) (h : AHeap) (k : AHeap → β) : β :=
  match h with
  | ⟨n, l⟩ => fAt fBlk l id fun l => k ⟨n, l⟩
theorem fHeapTo_eq (id : Nat) (h : AHeap) (k : AHeap → β) : fHeapTo id h k = k h := by cases h; simp [fHeapTo, fAt_eq fBlk_eq]

def fHeap (h : AHeap) (k : AHeap → β) : β :=
  match h with
  | ⟨n, l⟩ => fNat n fun n => k ⟨n, l⟩
theorem fHeap_eq (h : AHeap) (k : AHeap → β) : fHeap h k = k h := by cases h; simp [fHeap, fNat_eq]

/-- a part of memory worked out -/
inductive Turns where
  | no | at (id : Nat) | all

def fTurn (t : Turns) (h : AHeap) (k : AHeap → β) : β :=
  match t with
  | .no => k h
  | .at id => fHeapTo id h k
  | .all => fHeap h k
theorem fTurn_eq (t : Turns) (h : AHeap) (k : AHeap → β) : fTurn t h k = k h := by cases t <;> simp [fTurn, fHeapTo_eq, fHeap_eq]

/-- the head alone -/
def fW (v : AVal) (k : AVal → β) : β :=
  match v with
  | .undef => k .undef
  | .bool b => k (.bool b)
  | .int d n => k (.int d n)
  | .str s => k (.str s)
  | .ptr a => k (.ptr a)
  | .slice a n c => k (.slice a n c)
  | .nilFunc => k .nilFunc
  | .nilIface => k .nilIface
  | .func a b c => k (.func a b c)
  | .iface t v => k (.iface t v)
  | .agg l => k (.agg l)
  | .tuple l => k (.tuple l)
theorem fW_eq (v : AVal) (k : AVal → β) : fW v k = k v := by cases v <;> rfl

/-- is what it answers in some slot or row already, worked out? -/
def shallow (o : Op) : Bool :=
  match o with
  | .move (.tmp _) | .assign (.tmp _) | .pick _ (.tmp _) (.tmp _) | .extract _ _ | .load _ _ => true
  | .call c => match c.callee with | .value _ => true | _ => false
  | _ => false

def fRes (o : Op) (v : AVal) (k : AVal → β) : β := cond (shallow o) (fW v k) (fV v k)
theorem fRes_eq (o : Op) (v : AVal) (k : AVal → β) : fRes o v k = k v := by unfold fRes; cases shallow o <;> simp [fW_eq, fV_eq]
end

/-- which row an operation turns -/
def turnsOf (nid : Nat) (ρ : Operand → AVal) (o : Op) (v : AVal) : Turns :=
  match o with
  | .alloc _ | .box _ _ | .buildSlice _ _ _ | .makeSlice _ _ _ => .at nid
  | .store _ a _ => match ρ a with | .ptr (some a) => .at a.id | _ => .no
  | .call c =>
    match c.callee with
    | .value _ => .all
    | .builtin .append => match v with | .slice (some a) _ _ => .at a.id | _ => .no
    | _ => .no
  | _ => .no

section
variable {E : AEnv}

def wantedT (ops : Array Oper) (n : Nat) (s : Trie AVal) (o : Oper) : Option Bool :=
  match o.guard with
  | none => some true
  | some (j, want) =>
    match (ops[j]?).bind (·.dst) with
    | some d =>
      match tget n s d with
      | some (.bool b) => some (b == want)
      | some (.tuple []) => some false
      | _ => none
    | none => none
theorem wantedT_eq (ops : Array Oper) (n : Nat) (s : Trie AVal) (o : Oper) : wantedT ops n s o = awanted ops (toL n s) o := by
  unfold wantedT awanted
  simp only [tget_eq]
  rfl

structure FSt where
  slots : Trie AVal
  heap : AHeap

def FSt.to (n : Nat) (s : FSt) : ASt := ⟨toL n s.slots, s.heap⟩

/-- the operations of a region, one behind the other; 'draw': with the looks that a region asks that draws -/
def frun (E : AEnv) (call : ACall) (ops : Array Oper) (draw : Bool) (n n0 : Nat) (l : List Oper) : Nat → Trie AVal → AHeap → Option FSt :=
  List.rec (motive := fun _ => Nat → Trie AVal → AHeap → Option FSt) (fun _ s h => some ⟨s, h⟩)
    (fun o _ ih i s h =>
      match wantedT ops n s o with
      | some true =>
        match (cond draw (dop E call ops n0 i (agetT n s) h o.op) (aop E call (Nat.add n0 i) (agetT n s) h o.op)) with
        | some (v, h') => fRes o.op v fun v => fTurn (turnsOf (Nat.add n0 i) (agetT n s) o.op v) h' fun h' => fPut s o.dst v fun s' => ih (Nat.succ i) s' h'
        | none => none
      | some false => fPut s o.dst skipped fun s' => ih (Nat.succ i) s' h
      | none => none) l

theorem frun_cons (call : ACall) (ops : Array Oper) (draw : Bool) (n n0 i : Nat) (s : Trie AVal) (h : AHeap) (o : Oper) (r : List Oper) : frun E call ops draw n n0 (o :: r) i s h =
      match wantedT ops n s o with
      | some true =>
        match (cond draw (dop E call ops n0 i (agetT n s) h o.op) (aop E call (n0 + i) (agetT n s) h o.op)) with
        | some (v, h') => frun E call ops draw n n0 r (i + 1) (Option.rec (motive := fun _ => Trie AVal) s (fun d => s.set d v) o.dst) h'
        | none => none
      | some false => frun E call ops draw n n0 r (i + 1) (Option.rec (motive := fun _ => Trie AVal) s (fun d => s.set d skipped) o.dst) h
      | none => none := by
  show (match wantedT ops n s o with
      | some true =>
        match (cond draw (dop E call ops n0 i (agetT n s) h o.op) (aop E call (n0 + i) (agetT n s) h o.op)) with
        | some (v, h') => fRes o.op v fun v => fTurn (turnsOf (n0 + i) (agetT n s) o.op v) h' fun h' => fPut s o.dst v fun s' => frun E call ops draw n n0 r (i + 1) s' h'
        | none => none
      | some false => fPut s o.dst skipped fun s' => frun E call ops draw n n0 r (i + 1) s' h
      | none => none) = _
  simp only [fRes_eq, fTurn_eq, fPut_eq n]

theorem frun_arun {call : ACall} {ops : Array Oper} {n n0 : Nat} : ∀ (l : List Oper) (i : Nat) (s : Trie AVal) (h : AHeap), (∀ j, l[j]? = ops[i + j]?) →
    (frun E call ops false n n0 l i s h).map (FSt.to n) = arun E call ops n0 (List.range' i l.length) ⟨toL n s, h⟩
  | [], i, s, h, _ => rfl
  | o :: r, i, s, h, hl => by
    have ho : ops[i]? = some o := by have := hl 0; simpa using this.symm
    have hr : ∀ j, r[j]? = ops[i + 1 + j]? := fun j => by have := hl (j + 1); simp at this; rw [this]; congr 1; omega
    rw [frun_cons]
    simp only [List.length_cons, List.range'_succ, arun, astep, ho, wantedT_eq, agetT_eq, cond_false]
    cases hw : awanted ops (toL n s) o with
    | none => rfl
    | some b =>
      cases b with
      | true =>
        simp only
        cases ha : aop E call (n0 + i) (agetOp (toL n s)) h o.op with
        | none => rfl
        | some p =>
          obtain ⟨v, h'⟩ := p
          simp only
          rw [frun_arun r (i + 1) _ _ hr, toL_put]
      | false =>
        simp only
        rw [frun_arun r (i + 1) _ _ hr, toL_put]

theorem frun_drun {call : ACall} {ops : Array Oper} {n n0 : Nat} : ∀ (l : List Oper) (i : Nat) (s : Trie AVal) (h : AHeap), (∀ j, l[j]? = ops[i + j]?) →
    (frun E call ops true n n0 l i s h).map (FSt.to n) = drun E call ops n0 (List.range' i l.length) ⟨toL n s, h⟩
  | [], i, s, h, _ => rfl
  | o :: r, i, s, h, hl => by
    have ho : ops[i]? = some o := by have := hl 0; simpa using this.symm
    have hr : ∀ j, r[j]? = ops[i + 1 + j]? := fun j => by have := hl (j + 1); simp at this; rw [this]; congr 1; omega
    rw [frun_cons]
    simp only [List.length_cons, List.range'_succ, drun, dstep, ho, wantedT_eq, agetT_eq, cond_true]
    cases hw : awanted ops (toL n s) o with
    | none => rfl
    | some b =>
      cases b with
      | true =>
        simp only
        cases ha : dop E call ops n0 i (agetOp (toL n s)) h o.op with
        | none => rfl
        | some p =>
          obtain ⟨v, h'⟩ := p
          simp only
          rw [frun_drun r (i + 1) _ _ hr, toL_put]
      | false =>
        simp only
        rw [frun_drun r (i + 1) _ _ hr, toL_put]

def fregion (E : AEnv) (call : ACall) (ops : Array Oper) (draw : Bool) (n : Nat) (s : FSt) : Option FSt :=
  match s with
  | ⟨s, ⟨n0, l⟩⟩ => cond (!draw || drawOk ops) (fNat (Nat.add n0 ops.size) fun m => frun E call ops draw n n0 ops.toList 0 s ⟨m, l⟩) none

theorem fregion_eq (call : ACall) (ops : Array Oper) (draw : Bool) (n : Nat) (s : FSt) : (fregion E call ops draw n s).map (FSt.to n) = aregion E call ops draw (s.to n) := by
  obtain ⟨s, n0, l⟩ := s
  have hl : ∀ j : Nat, ops.toList[j]? = ops[0 + j]? := fun j => by simp
  have hr : List.range ops.size = List.range' 0 ops.toList.length := by rw [List.range_eq_range', Array.length_toList]
  unfold fregion aregion
  cases draw with
  | false => simp only [Bool.not_false, Bool.true_or, cond_true, fNat_eq, Bool.false_eq_true, if_false, frun_arun _ _ _ _ hl, hr, FSt.to, Nat.add_eq]
  | true =>
    cases hd : drawOk ops with
    | false => simp
    | true => simp only [Bool.not_true, Bool.false_or, hd, cond_true, if_true, fNat_eq, frun_drun _ _ _ _ hl, hr, FSt.to, Nat.add_eq]

def fexec (E : AEnv) (call : ACall) (n : Nat) (fuel : Nat) : Option Code → Code → FSt → Option (AExit × FSt) :=
  Nat.rec (motive := fun _ => Option Code → Code → FSt → Option (AExit × FSt)) (fun _ _ _ => none)
  (fun m ih b c s =>
  match b with
  | some body =>
    match ih none c s with
    | some (.goto l, s') =>
      match findLabel body l with
      | some rest => ih (some body) rest s'
      | none => some (.goto l, s')
    | r => r
  | none =>
    match c with
    | .skip => some (.normal, s)
    | .label _ => some (.normal, s)
    | .region _ ops draw =>
      match fregion E call ops draw n s with
      | some s' => some (.normal, s')
      | none => none
    | .seq a b =>
      match ih none a s with
      | some (.normal, s') => ih none b s'
      | r => r
    | .cond x a b =>
      match agetT n s.slots x with
      | .bool true => ih none a s
      | .bool false => ih none b s
      | _ => none
    | .block id c =>
      match ih none c s with
      | some (.exit j, s') => some (if j = id then .normal else .exit j, s')
      | r => r
    | .loop c =>
      match ih none c s with
      | some (.normal, s') => ih none (.loop c) s'
      | r => r
    | .scope c => ih (some c) c s
    | .goto l => some (.goto l, s)
    | .exit id => some (.exit id, s)
    | .ret => some (.ret, s)
    | _ => none) fuel

def toP (n : Nat) (p : AExit × FSt) : AExit × ASt := (p.1, p.2.to n)

theorem fexec_eq (call : ACall) (k : Nat) : ∀ (n : Nat) (b : Option Code) (c : Code) (s : FSt), (fexec E call k n b c s).map (toP k) = aexec E call n b c (s.to k) := by
  intro n
  induction n with
  | zero => intro b c s; rfl
  | succ n ih =>
    intro b c s
    cases b with
    | some body =>
      show Option.map (toP k) (match fexec E call k n none c s with
        | some (.goto l, s') =>
          match findLabel body l with
          | some rest => fexec E call k n (some body) rest s'
          | none => some (.goto l, s')
        | r => r) = _
      simp only [aexec, ← ih]
      cases hx : fexec E call k n none c s with
      | none => rfl
      | some p =>
        obtain ⟨e, s'⟩ := p
        cases e with
        | goto l =>
          simp only [Option.map_some, toP]
          cases hf : findLabel body l with
          | none => rfl
          | some rest => simp only [hf]; exact ih (some body) rest s'
        | _ => rfl
    | none =>
      cases c
      case region id ops draw =>
        show Option.map (toP k) (match fregion E call ops draw k s with
          | some s' => some (.normal, s')
          | none => none) = _
        simp only [aexec, ← fregion_eq]
        cases fregion E call ops draw k s <;> rfl
      case seq a b =>
        show Option.map (toP k) (match fexec E call k n none a s with
          | some (.normal, s') => fexec E call k n none b s'
          | r => r) = _
        simp only [aexec, ← ih]
        cases hx : fexec E call k n none a s with
        | none => rfl
        | some p => obtain ⟨e, s'⟩ := p; cases e <;> first | exact ih none b s' | rfl
      case cond x a b =>
        show Option.map (toP k) (match agetT k s.slots x with
          | .bool true => fexec E call k n none a s
          | .bool false => fexec E call k n none b s
          | _ => none) = _
        simp only [aexec, ← ih, agetT_eq]
        have he : agetOp (s.to k).slots x = agetOp (toL k s.slots) x := rfl
        rw [he]
        cases agetOp (toL k s.slots) x with
        | bool t => cases t <;> rfl
        | _ => rfl
      case block id c =>
        show Option.map (toP k) (match fexec E call k n none c s with
          | some (.exit j, s') => some (if j = id then .normal else .exit j, s')
          | r => r) = _
        simp only [aexec, ← ih]
        cases hx : fexec E call k n none c s with
        | none => rfl
        | some p => obtain ⟨e, s'⟩ := p; cases e <;> rfl
      case loop c =>
        show Option.map (toP k) (match fexec E call k n none c s with
          | some (.normal, s') => fexec E call k n none (.loop c) s'
          | r => r) = _
        simp only [aexec, ← ih]
        cases hx : fexec E call k n none c s with
        | none => rfl
        | some p => obtain ⟨e, s'⟩ := p; cases e <;> first | exact ih none (.loop c) s' | rfl
      case scope c => exact ih (some c) c s
      all_goals rfl

def fArgs : List AVal → Nat → Trie AVal → (Trie AVal → Option (AVal × AHeap)) → Option (AVal × AHeap)
  | [], _, t, k => k t
  | v :: r, i, t, k => fV v fun v => fSetT t i v fun t => fArgs r (Nat.succ i) t k

theorem fArgs_eq : ∀ (l : List AVal) (i : Nat) (t : Trie AVal) (k : Trie AVal → Option (AVal × AHeap)),
    ∃ t', fArgs l i t k = k t' ∧ ∀ j, t'.get j = if j < i then t.get j else if h : j - i < l.length then some l[j - i] else t.get j
  | [], i, t, k => ⟨t, rfl, fun j => by simp⟩
  | v :: r, i, t, k => by
    obtain ⟨t', h1, h2⟩ := fArgs_eq r (i + 1) (t.set i v) k
    refine ⟨t', by simp only [fArgs, fV_eq, fSetT_eq]; exact h1, fun j => ?_⟩
    rw [h2 j, Trie.get_set]
    by_cases hj : j < i
    · rw [if_pos (by omega), if_neg (by omega), if_pos hj]
    · rw [if_neg hj]
      by_cases he : i = j
      · subst he; rw [if_pos (by omega), if_pos rfl]; simp
      · rw [if_neg (by omega), if_neg he]
        by_cases hl : j - (i + 1) < r.length
        · rw [dif_pos hl, dif_pos (by simp; omega)]
          obtain ⟨m, hm⟩ : ∃ m, j - i = m + 1 := ⟨j - i - 1, by omega⟩
          have hm' : j - (i + 1) = m := by omega
          simp only [hm, hm', List.getElem_cons_succ]
        · rw [dif_neg hl, dif_neg (by simp; omega)]

theorem fArgs_toL {l : List AVal} {m : Nat} {t : Trie AVal} (h : ∀ j, t.get j = if j < 0 then (Trie.nil : Trie AVal).get j else if h : j - 0 < l.length then some l[j - 0] else (Trie.nil : Trie AVal).get j) :
    toL (l.length + (m - l.length)) t = l ++ List.replicate (m - l.length) skipped := by
  apply List.ext_getElem?
  intro i
  rw [toL_get, h i, if_neg (Nat.not_lt_zero i)]
  simp only [Nat.sub_zero, Trie.get_nil]
  by_cases hi : i < l.length
  · rw [if_pos (by omega), dif_pos hi, List.getElem?_append_left hi, List.getElem?_eq_getElem hi]; rfl
  · rw [dif_neg hi, List.getElem?_append_right (by omega), List.getElem?_replicate]
    by_cases hn : i < l.length + (m - l.length)
    · rw [if_pos hn, if_pos (by omega)]; rfl
    · rw [if_neg hn, if_neg (by omega)]

def fresults (D : Tys) (n : Nat) (rs : List ResultVar) (s : FSt) : Option (List AVal) :=
  match rs with
  | [] => some []
  | .tmp t :: r => (fresults D n r s).map fun l => agetT n s.slots (.tmp t) :: l
  | .cell a t :: r =>
    match agetT n s.slots (.tmp a) with
    | .ptr (some p) =>
      match aload D t p s.heap, fresults D n r s with
      | some v, some l => some (v :: l)
      | _, _ => none
    | _ => none
theorem fresults_eq (D : Tys) (n : Nat) (s : FSt) : ∀ (rs : List ResultVar), fresults D n rs s = aresults D rs (s.to n)
  | [] => rfl
  | .tmp t :: r => by simp only [fresults, aresults, fresults_eq D n s r, agetT_eq]; rfl
  | .cell a t :: r => by simp only [fresults, aresults, fresults_eq D n s r, agetT_eq]; rfl

def fOut (r : Option (AVal × AHeap)) : Option (AVal × AHeap) :=
  match r with
  | some (v, ⟨n, l⟩) => fNat n fun n => fV v fun v => some (v, ⟨n, l⟩)
  | none => none
theorem fOut_eq (r : Option (AVal × AHeap)) : fOut r = r := by
  cases r with
  | none => rfl
  | some p => obtain ⟨v, n, l⟩ := p; simp [fOut, fNat_eq, fV_eq]

def fcall (P : Program) (E : AEnv) (fuel : Nat) : ACall :=
  Nat.rec (motive := fun _ => ACall) (fun _ _ _ => none)
  (fun n ih f args h =>
    match E.prim f with
    | some g => g args h
    | none =>
    match P.funcs[f]? with
    | some fn =>
      match fn.body with
      | some c =>
        fNat (args.length + (fn.ntmps - args.length)) fun k => fArgs args 0 .nil fun sl =>
        match fexec E ih k n none c ⟨sl, h⟩ with
        | some (.exit _, _) => none
        | some (.goto _, _) => none
        | some (_, s) =>
          match fresults E.D k fn.results.toList s with
          | some l => fOut (some (aresult l, s.heap))
          | none => none
        | none => none
      | none => none
    | none => none) fuel

theorem fcall_eq (P : Program) (E : AEnv) : ∀ (n : Nat), fcall P E n = acall P E n := by
  intro n
  induction n with
  | zero => rfl
  | succ n ih =>
    funext f args h
    show (match E.prim f with
    | some g => g args h
    | none =>
    match P.funcs[f]? with
    | some fn =>
      match fn.body with
      | some c =>
        fNat (args.length + (fn.ntmps - args.length)) fun k => fArgs args 0 .nil fun sl =>
        match fexec E (fcall P E n) k n none c ⟨sl, h⟩ with
        | some (.exit _, _) => none
        | some (.goto _, _) => none
        | some (_, s) =>
          match fresults E.D k fn.results.toList s with
          | some l => fOut (some (aresult l, s.heap))
          | none => none
        | none => none
      | none => none
    | none => none) = _
    simp only [acall, ih, fNat_eq, fOut_eq]
    cases E.prim f with
    | some g => rfl
    | none =>
    simp only
    cases hf : P.funcs[f]? with
    | none => rfl
    | some fn =>
      simp only
      cases fn.body with
      | none => rfl
      | some c =>
        simp only
        obtain ⟨t, h1, h2⟩ := fArgs_eq args 0 .nil fun sl =>
          match fexec E (acall P E n) (args.length + (fn.ntmps - args.length)) n none c ⟨sl, h⟩ with
          | some (.exit _, _) => none
          | some (.goto _, _) => none
          | some (_, s) =>
            match fresults E.D (args.length + (fn.ntmps - args.length)) fn.results.toList s with
            | some l => some (aresult l, s.heap)
            | none => none
          | none => none
        rw [h1]
        have hs : (FSt.mk t h).to (args.length + (fn.ntmps - args.length)) = ⟨args ++ List.replicate (fn.ntmps - args.length) skipped, h⟩ := by
          simp only [FSt.to, fArgs_toL h2]
        have hx := fexec_eq (E := E) (acall P E n) (args.length + (fn.ntmps - args.length)) n none c ⟨t, h⟩
        rw [hs] at hx
        rw [← hx]
        cases hy : fexec E (acall P E n) (args.length + (fn.ntmps - args.length)) n none c ⟨t, h⟩ with
        | none => rfl
        | some p =>
          obtain ⟨e, s⟩ := p
          simp only [Option.map_some, toP]
          cases e with
          | exit id => rfl
          | goto l => rfl
          | normal => simp only [fresults_eq]; cases aresults E.D fn.results.toList (s.to (args.length + (fn.ntmps - args.length))) <;> rfl
          | ret => simp only [fresults_eq]; cases aresults E.D fn.results.toList (s.to (args.length + (fn.ntmps - args.length))) <;> rfl

theorem fcall_true {P : Program} {E : AEnv} {n : Nat} {f : FuncId} {args : List AVal} {h : AHeap} (k : saysTrue (fcall P E n f args h) = true) : ∃ h', acall P E n f args h = some (.bool true, h') := by
  rw [fcall_eq] at k; exact saysTrue_spec k
end
end
end Go.Lift

namespace Go.Proofs.Ytcgcpmcjaeenlaa
open Go.Lift
set_option maxRecDepth 1000000
theorem alive_run : saysTrue (fcall Try.prog env 300 16 [] ⟨0, .nil⟩) = true := by decide +kernel
theorem alive_does (H : AHeap) : FDoes Try.prog 16 [] H (.bool true) H := by
  obtain ⟨h', hc⟩ := fcall_true alive_run
  exact (FDoes.of_acall env_ok mixed hc).bare (by simp) (Bare.bool _) H
end Go.Proofs.Ytcgcpmcjaeenlaa
