/-
  Parts of the proof, one behind the other:
  The document's Flow: the walk of its loops.
  The document's Flow: its call.
  The document's Flow: its first loop.
  The document's Flow: its second loop.
  The document's Flow in every memory: what it answers.
  Lists that the statements of chapter 9 compare and lend: the walk.
  Lists that the statements of chapter 9 compare and lend: what comes of it.
  THE LIFT, PART R: the abstract machine once more, so written that the kernel runs it with every value worked out at once. What it answers the abstract machine answers.
  'frescolaw09.alive' answers true, wherever it is called (a closed run).
  frescolaw09.GridFlow: the walk.
-/
import Derived.Test.YtcgcpmcjaeenlaaKGridFlowD

namespace Go.Proofs.Ytcgcpmcjaeenlaa
open Go.Lift
set_option maxRecDepth 1000000
set_option linter.unusedSimpArgs false
set_option linter.unusedVariables false
set_option linter.unusedSectionVars false

theorem rl_a_no1 (o : Option AAddr) (n c ver off v q u p i C : Nat) (b rT rT2 ro ro2 : ABlk) (qa qb qc qd : Int) (hC : 1 ≤ C ∧ C ≤ 64) (hc_0 : (i : Int) < (n : Int)) (hc_1 : aindexAddr env.D 22 (.slice o n c) (.int .i64 (i : Int)) = some (.ptr (some ⟨0, ver, off + i, 0, 4⟩))) (hc_2 : ABlk.elem? b ver (off + i) = some (.agg [.int .i64 qa, .int .i64 qb, .int .i64 qc, .int .i64 qd])) (hc_5 : -9223372036854775808 ≤ (C : Int) - inZ2 qc 1 (C : Int) ∧ (C : Int) - inZ2 qc 1 (C : Int) ≤ 9223372036854775807) (hc_8 : abuiltin env Builtin.append { toList := [22, 22] } [.slice none 0 0, .slice (some ⟨51, 0, 0, 0, 4⟩) 1 1] 52 (AHeap.set (AHeap.rows 54 [(0, b), (9, (.made ([.agg [.slice none 0 0]]) 1 true)), (22, (.made ([.agg [.int .i64 (inZ2 qa (-1) ((C : Int) - inZ2 qc 1 (C : Int))), .int .i64 (inZ2 qb (-1) 4096), .int .i64 (inZ2 qc 1 (C : Int)), .int .i64 (inZ2 qd 1 4096)]]) 4 true))]) 51 (.made [.agg [.int .i64 (inZ2 qa (-1) ((C : Int) - inZ2 qc 1 (C : Int))), .int .i64 (inZ2 qb (-1) 4096), .int .i64 (inZ2 qc 1 (C : Int)), .int .i64 (inZ2 qd 1 4096)]] 4 true)) = some (.slice (some ⟨52, 0, 0, 0, 4⟩) 1 1, (AHeap.rows 54 [(0, b), (9, (.made ([.agg [.slice none 0 0]]) 1 true)), (22, (.made ([.agg [.int .i64 (inZ2 qa (-1) ((C : Int) - inZ2 qc 1 (C : Int))), .int .i64 (inZ2 qb (-1) 4096), .int .i64 (inZ2 qc 1 (C : Int)), .int .i64 (inZ2 qd 1 4096)]]) 4 true)), (51, .made [.agg [.int .i64 (inZ2 qa (-1) ((C : Int) - inZ2 qc 1 (C : Int))), .int .i64 (inZ2 qb (-1) 4096), .int .i64 (inZ2 qc 1 (C : Int)), .int .i64 (inZ2 qd 1 4096)]] 4 true), (52, ro2)]))) (hc_9 : ¬ (inZ2 qa (-1) ((C : Int) - inZ2 qc 1 (C : Int)) ≥ 0)) (hc_10 : -9223372036854775808 ≤ (i : Int) + 1 ∧ (i : Int) + (1 : Int) ≤ 9223372036854775807) :
    Runs Try.prog 1 133 (loopAt Try.prog 11 0) [(0, .slice o n c), (5, .int .i64 C), (6, .ptr (some ⟨9, 0, 0, 0, 1⟩)), (7, .slice none 0 0), (8, .int .i64 i)] (AHeap.rows 14 [(0, b), (9, .made [.agg [.slice none 0 0]] 1 true)]) .normal [(0, .slice o n c), (5, .int .i64 (C : Int)), (6, .ptr (some ⟨9, 0, 0, 0, 1⟩)), (7, .slice (some ⟨52, 0, 0, 0, 4⟩) 1 1), (8, .int .i64 ((i : Int) + 1))] (AHeap.rows 65 [(0, b), (9, (.made ([.agg [.slice none 0 0]]) 1 true)), (22, (.made ([.agg [.int .i64 (inZ2 qa (-1) ((C : Int) - inZ2 qc 1 (C : Int))), .int .i64 (inZ2 qb (-1) 4096), .int .i64 (inZ2 qc 1 (C : Int)), .int .i64 (inZ2 qd 1 4096)]]) 4 true)), (51, .made [.agg [.int .i64 (inZ2 qa (-1) ((C : Int) - inZ2 qc 1 (C : Int))), .int .i64 (inZ2 qb (-1) 4096), .int .i64 (inZ2 qc 1 (C : Int)), .int .i64 (inZ2 qd 1 4096)]] 4 true), (52, ro2)]) :=
  ppath_runs env_ok mixed (hs := [.val 7003 (.bool true), .val 9002 (.ptr (some ⟨0, ver, off + i, 0, 4⟩)), .ld 9003 (.agg [.int .i64 qa, .int .i64 qb, .int .i64 qc, .int .i64 qd]), .val 10003 (.int .i64 (inZ2 qc 1 C)), .val 11002 (.int .i64 (inZ2 qd 1 4096)), .go 12005, .val 12006 (.int .i64 (inZ2 qa (-1) (C - inZ2 qc 1 C))), .val 13002 (.int .i64 (inZ2 qb (-1) 4096)), .act 14003 (.slice (some ⟨52, 0, 0, 0, 4⟩) 1 1) (fun h => h.set 52 ro2), .val 15002 (.bool false), .go 8001]) (keep := [0, 5, 6, 7, 8]) (by kernel_rfl) (All.cons (okT hc_0) (All.cons hc_1 (All.cons hc_2 (All.cons (show CallT Try.prog 26 [.int .i64 qc, .int .i64 1, .int .i64 (C : Int)] (AHeap.rows 30 [(0, b), (9, (.made ([.agg [.slice none 0 0]]) 1 true)), (22, (.made ([.agg [.int .i64 qa, .int .i64 qb, .int .i64 qc, .int .i64 qd]]) 4 true))]) (.int .i64 (inZ2 qc 1 (C : Int))) (AHeap.rows 30 [(0, b), (9, (.made ([.agg [.slice none 0 0]]) 1 true)), (22, (.made ([.agg [.int .i64 qa, .int .i64 qb, .int .i64 qc, .int .i64 qd]]) 4 true))]) from ⟨(rwithin_does _ _ _ (by first | omega | (simp only [inZ2]; omega)) _)⟩) (All.cons (show CallT Try.prog 26 [.int .i64 qd, .int .i64 1, .int .i64 4096] (AHeap.rows 35 [(0, b), (9, (.made ([.agg [.slice none 0 0]]) 1 true)), (22, (.made ([.agg [.int .i64 qa, .int .i64 qb, .int .i64 (inZ2 qc 1 (C : Int)), .int .i64 qd]]) 4 true))]) (.int .i64 (inZ2 qd 1 4096)) (AHeap.rows 35 [(0, b), (9, (.made ([.agg [.slice none 0 0]]) 1 true)), (22, (.made ([.agg [.int .i64 qa, .int .i64 qb, .int .i64 (inZ2 qc 1 (C : Int)), .int .i64 qd]]) 4 true))]) from ⟨(rwithin_does _ _ _ (by first | omega | (simp only [inZ2]; omega)) _)⟩) (All.cons hc_5 (All.cons (show CallT Try.prog 26 [.int .i64 qa, .int .i64 (-1), .int .i64 ((C : Int) - inZ2 qc 1 (C : Int))] (AHeap.rows 44 [(0, b), (9, (.made ([.agg [.slice none 0 0]]) 1 true)), (22, (.made ([.agg [.int .i64 qa, .int .i64 qb, .int .i64 (inZ2 qc 1 (C : Int)), .int .i64 (inZ2 qd 1 4096)]]) 4 true))]) (.int .i64 (inZ2 qa (-1) ((C : Int) - inZ2 qc 1 (C : Int)))) (AHeap.rows 44 [(0, b), (9, (.made ([.agg [.slice none 0 0]]) 1 true)), (22, (.made ([.agg [.int .i64 qa, .int .i64 qb, .int .i64 (inZ2 qc 1 (C : Int)), .int .i64 (inZ2 qd 1 4096)]]) 4 true))]) from ⟨(rwithin_does _ _ _ (by first | omega | (simp only [inZ2]; omega)) _)⟩) (All.cons (show CallT Try.prog 26 [.int .i64 qb, .int .i64 (-1), .int .i64 4096] (AHeap.rows 49 [(0, b), (9, (.made ([.agg [.slice none 0 0]]) 1 true)), (22, (.made ([.agg [.int .i64 (inZ2 qa (-1) ((C : Int) - inZ2 qc 1 (C : Int))), .int .i64 qb, .int .i64 (inZ2 qc 1 (C : Int)), .int .i64 (inZ2 qd 1 4096)]]) 4 true))]) (.int .i64 (inZ2 qb (-1) 4096)) (AHeap.rows 49 [(0, b), (9, (.made ([.agg [.slice none 0 0]]) 1 true)), (22, (.made ([.agg [.int .i64 (inZ2 qa (-1) ((C : Int) - inZ2 qc 1 (C : Int))), .int .i64 qb, .int .i64 (inZ2 qc 1 (C : Int)), .int .i64 (inZ2 qd 1 4096)]]) 4 true))]) from ⟨(rwithin_does _ _ _ (by first | omega | (simp only [inZ2]; omega)) _)⟩) (All.cons hc_8 (All.cons (okF hc_9) (All.cons hc_10 (All.nil))))))))))))

theorem rl_a_no2 (o : Option AAddr) (n c ver off v q u p i C : Nat) (b rT rT2 ro ro2 : ABlk) (qa qb qc qd : Int) (hC : 1 ≤ C ∧ C ≤ 64) (hc_0 : (i : Int) < (n : Int)) (hc_1 : aindexAddr env.D 22 (.slice o n c) (.int .i64 (i : Int)) = some (.ptr (some ⟨0, ver, off + i, 0, 4⟩))) (hc_2 : ABlk.elem? b ver (off + i) = some (.agg [.int .i64 qa, .int .i64 qb, .int .i64 qc, .int .i64 qd])) (hc_5 : -9223372036854775808 ≤ (C : Int) - inZ2 qc 1 (C : Int) ∧ (C : Int) - inZ2 qc 1 (C : Int) ≤ 9223372036854775807) (hc_8 : abuiltin env Builtin.append { toList := [22, 22] } [.slice none 0 0, .slice (some ⟨51, 0, 0, 0, 4⟩) 1 1] 52 (AHeap.set (AHeap.rows 54 [(0, b), (9, (.made ([.agg [.slice none 0 0]]) 1 true)), (22, (.made ([.agg [.int .i64 (inZ2 qa (-1) ((C : Int) - inZ2 qc 1 (C : Int))), .int .i64 (inZ2 qb (-1) 4096), .int .i64 (inZ2 qc 1 (C : Int)), .int .i64 (inZ2 qd 1 4096)]]) 4 true))]) 51 (.made [.agg [.int .i64 (inZ2 qa (-1) ((C : Int) - inZ2 qc 1 (C : Int))), .int .i64 (inZ2 qb (-1) 4096), .int .i64 (inZ2 qc 1 (C : Int)), .int .i64 (inZ2 qd 1 4096)]] 4 true)) = some (.slice (some ⟨52, 0, 0, 0, 4⟩) 1 1, (AHeap.rows 54 [(0, b), (9, (.made ([.agg [.slice none 0 0]]) 1 true)), (22, (.made ([.agg [.int .i64 (inZ2 qa (-1) ((C : Int) - inZ2 qc 1 (C : Int))), .int .i64 (inZ2 qb (-1) 4096), .int .i64 (inZ2 qc 1 (C : Int)), .int .i64 (inZ2 qd 1 4096)]]) 4 true)), (51, .made [.agg [.int .i64 (inZ2 qa (-1) ((C : Int) - inZ2 qc 1 (C : Int))), .int .i64 (inZ2 qb (-1) 4096), .int .i64 (inZ2 qc 1 (C : Int)), .int .i64 (inZ2 qd 1 4096)]] 4 true), (52, ro2)]))) (hc_9 : inZ2 qa (-1) ((C : Int) - inZ2 qc 1 (C : Int)) ≥ 0) (hc_10 : ¬ (inZ2 qb (-1) 4096 ≥ 0)) (hc_11 : -9223372036854775808 ≤ (i : Int) + 1 ∧ (i : Int) + (1 : Int) ≤ 9223372036854775807) :
    Runs Try.prog 1 133 (loopAt Try.prog 11 0) [(0, .slice o n c), (5, .int .i64 C), (6, .ptr (some ⟨9, 0, 0, 0, 1⟩)), (7, .slice none 0 0), (8, .int .i64 i)] (AHeap.rows 14 [(0, b), (9, .made [.agg [.slice none 0 0]] 1 true)]) .normal [(0, .slice o n c), (5, .int .i64 (C : Int)), (6, .ptr (some ⟨9, 0, 0, 0, 1⟩)), (7, .slice (some ⟨52, 0, 0, 0, 4⟩) 1 1), (8, .int .i64 ((i : Int) + 1))] (AHeap.rows 65 [(0, b), (9, (.made ([.agg [.slice none 0 0]]) 1 true)), (22, (.made ([.agg [.int .i64 (inZ2 qa (-1) ((C : Int) - inZ2 qc 1 (C : Int))), .int .i64 (inZ2 qb (-1) 4096), .int .i64 (inZ2 qc 1 (C : Int)), .int .i64 (inZ2 qd 1 4096)]]) 4 true)), (51, .made [.agg [.int .i64 (inZ2 qa (-1) ((C : Int) - inZ2 qc 1 (C : Int))), .int .i64 (inZ2 qb (-1) 4096), .int .i64 (inZ2 qc 1 (C : Int)), .int .i64 (inZ2 qd 1 4096)]] 4 true), (52, ro2)]) :=
  ppath_runs env_ok mixed (hs := [.val 7003 (.bool true), .val 9002 (.ptr (some ⟨0, ver, off + i, 0, 4⟩)), .ld 9003 (.agg [.int .i64 qa, .int .i64 qb, .int .i64 qc, .int .i64 qd]), .val 10003 (.int .i64 (inZ2 qc 1 C)), .val 11002 (.int .i64 (inZ2 qd 1 4096)), .go 12005, .val 12006 (.int .i64 (inZ2 qa (-1) (C - inZ2 qc 1 C))), .val 13002 (.int .i64 (inZ2 qb (-1) 4096)), .act 14003 (.slice (some ⟨52, 0, 0, 0, 4⟩) 1 1) (fun h => h.set 52 ro2), .val 15002 (.bool true), .val 15006 (.bool false), .go 8001]) (keep := [0, 5, 6, 7, 8]) (by kernel_rfl) (All.cons (okT hc_0) (All.cons hc_1 (All.cons hc_2 (All.cons (show CallT Try.prog 26 [.int .i64 qc, .int .i64 1, .int .i64 (C : Int)] (AHeap.rows 30 [(0, b), (9, (.made ([.agg [.slice none 0 0]]) 1 true)), (22, (.made ([.agg [.int .i64 qa, .int .i64 qb, .int .i64 qc, .int .i64 qd]]) 4 true))]) (.int .i64 (inZ2 qc 1 (C : Int))) (AHeap.rows 30 [(0, b), (9, (.made ([.agg [.slice none 0 0]]) 1 true)), (22, (.made ([.agg [.int .i64 qa, .int .i64 qb, .int .i64 qc, .int .i64 qd]]) 4 true))]) from ⟨(rwithin_does _ _ _ (by first | omega | (simp only [inZ2]; omega)) _)⟩) (All.cons (show CallT Try.prog 26 [.int .i64 qd, .int .i64 1, .int .i64 4096] (AHeap.rows 35 [(0, b), (9, (.made ([.agg [.slice none 0 0]]) 1 true)), (22, (.made ([.agg [.int .i64 qa, .int .i64 qb, .int .i64 (inZ2 qc 1 (C : Int)), .int .i64 qd]]) 4 true))]) (.int .i64 (inZ2 qd 1 4096)) (AHeap.rows 35 [(0, b), (9, (.made ([.agg [.slice none 0 0]]) 1 true)), (22, (.made ([.agg [.int .i64 qa, .int .i64 qb, .int .i64 (inZ2 qc 1 (C : Int)), .int .i64 qd]]) 4 true))]) from ⟨(rwithin_does _ _ _ (by first | omega | (simp only [inZ2]; omega)) _)⟩) (All.cons hc_5 (All.cons (show CallT Try.prog 26 [.int .i64 qa, .int .i64 (-1), .int .i64 ((C : Int) - inZ2 qc 1 (C : Int))] (AHeap.rows 44 [(0, b), (9, (.made ([.agg [.slice none 0 0]]) 1 true)), (22, (.made ([.agg [.int .i64 qa, .int .i64 qb, .int .i64 (inZ2 qc 1 (C : Int)), .int .i64 (inZ2 qd 1 4096)]]) 4 true))]) (.int .i64 (inZ2 qa (-1) ((C : Int) - inZ2 qc 1 (C : Int)))) (AHeap.rows 44 [(0, b), (9, (.made ([.agg [.slice none 0 0]]) 1 true)), (22, (.made ([.agg [.int .i64 qa, .int .i64 qb, .int .i64 (inZ2 qc 1 (C : Int)), .int .i64 (inZ2 qd 1 4096)]]) 4 true))]) from ⟨(rwithin_does _ _ _ (by first | omega | (simp only [inZ2]; omega)) _)⟩) (All.cons (show CallT Try.prog 26 [.int .i64 qb, .int .i64 (-1), .int .i64 4096] (AHeap.rows 49 [(0, b), (9, (.made ([.agg [.slice none 0 0]]) 1 true)), (22, (.made ([.agg [.int .i64 (inZ2 qa (-1) ((C : Int) - inZ2 qc 1 (C : Int))), .int .i64 qb, .int .i64 (inZ2 qc 1 (C : Int)), .int .i64 (inZ2 qd 1 4096)]]) 4 true))]) (.int .i64 (inZ2 qb (-1) 4096)) (AHeap.rows 49 [(0, b), (9, (.made ([.agg [.slice none 0 0]]) 1 true)), (22, (.made ([.agg [.int .i64 (inZ2 qa (-1) ((C : Int) - inZ2 qc 1 (C : Int))), .int .i64 qb, .int .i64 (inZ2 qc 1 (C : Int)), .int .i64 (inZ2 qd 1 4096)]]) 4 true))]) from ⟨(rwithin_does _ _ _ (by first | omega | (simp only [inZ2]; omega)) _)⟩) (All.cons hc_8 (All.cons (okT hc_9) (All.cons (okF hc_10) (All.cons hc_11 (All.nil)))))))))))))

theorem rl_a_fix (o : Option AAddr) (n c ver off v q u p i C : Nat) (b rT rT2 ro ro2 : ABlk) (qa qb qc qd : Int) (hC : 1 ≤ C ∧ C ≤ 64) (hc_0 : (i : Int) < (n : Int)) (hc_1 : aindexAddr env.D 22 (.slice o n c) (.int .i64 (i : Int)) = some (.ptr (some ⟨0, ver, off + i, 0, 4⟩))) (hc_2 : ABlk.elem? b ver (off + i) = some (.agg [.int .i64 qa, .int .i64 qb, .int .i64 qc, .int .i64 qd])) (hc_5 : -9223372036854775808 ≤ (C : Int) - inZ2 qc 1 (C : Int) ∧ (C : Int) - inZ2 qc 1 (C : Int) ≤ 9223372036854775807) (hc_8 : abuiltin env Builtin.append { toList := [22, 22] } [.slice none 0 0, .slice (some ⟨51, 0, 0, 0, 4⟩) 1 1] 52 (AHeap.set (AHeap.rows 54 [(0, b), (9, (.made ([.agg [.slice none 0 0]]) 1 true)), (22, (.made ([.agg [.int .i64 (inZ2 qa (-1) ((C : Int) - inZ2 qc 1 (C : Int))), .int .i64 (inZ2 qb (-1) 4096), .int .i64 (inZ2 qc 1 (C : Int)), .int .i64 (inZ2 qd 1 4096)]]) 4 true))]) 51 (.made [.agg [.int .i64 (inZ2 qa (-1) ((C : Int) - inZ2 qc 1 (C : Int))), .int .i64 (inZ2 qb (-1) 4096), .int .i64 (inZ2 qc 1 (C : Int)), .int .i64 (inZ2 qd 1 4096)]] 4 true)) = some (.slice (some ⟨52, 0, 0, 0, 4⟩) 1 1, (AHeap.rows 54 [(0, b), (9, (.made ([.agg [.slice none 0 0]]) 1 true)), (22, (.made ([.agg [.int .i64 (inZ2 qa (-1) ((C : Int) - inZ2 qc 1 (C : Int))), .int .i64 (inZ2 qb (-1) 4096), .int .i64 (inZ2 qc 1 (C : Int)), .int .i64 (inZ2 qd 1 4096)]]) 4 true)), (51, .made [.agg [.int .i64 (inZ2 qa (-1) ((C : Int) - inZ2 qc 1 (C : Int))), .int .i64 (inZ2 qb (-1) 4096), .int .i64 (inZ2 qc 1 (C : Int)), .int .i64 (inZ2 qd 1 4096)]] 4 true), (52, ro2)]))) (hc_9 : inZ2 qa (-1) ((C : Int) - inZ2 qc 1 (C : Int)) ≥ 0) (hc_10 : inZ2 qb (-1) 4096 ≥ 0) (hc_11 : abuiltin env Builtin.append { toList := [22, 22] } [.slice none 0 0, .slice (some ⟨68, 0, 0, 0, 4⟩) 1 1] 69 (AHeap.set (AHeap.rows 73 [(0, b), (9, (.made ([.agg [.slice none 0 0]]) 1 true)), (22, (.made ([.agg [.int .i64 (inZ2 qa (-1) ((C : Int) - inZ2 qc 1 (C : Int))), .int .i64 (inZ2 qb (-1) 4096), .int .i64 (inZ2 qc 1 (C : Int)), .int .i64 (inZ2 qd 1 4096)]]) 4 true)), (51, .made [.agg [.int .i64 (inZ2 qa (-1) ((C : Int) - inZ2 qc 1 (C : Int))), .int .i64 (inZ2 qb (-1) 4096), .int .i64 (inZ2 qc 1 (C : Int)), .int .i64 (inZ2 qd 1 4096)]] 4 true), (52, ro2)]) 68 (.made [.agg [.int .i64 (inZ2 qa (-1) ((C : Int) - inZ2 qc 1 (C : Int))), .int .i64 (inZ2 qb (-1) 4096), .int .i64 (inZ2 qc 1 (C : Int)), .int .i64 (inZ2 qd 1 4096)]] 4 true)) = some (.slice (some ⟨69, 0, 0, 0, 4⟩) 1 1, (AHeap.rows 73 [(0, b), (9, (.made ([.agg [.slice none 0 0]]) 1 true)), (22, (.made ([.agg [.int .i64 (inZ2 qa (-1) ((C : Int) - inZ2 qc 1 (C : Int))), .int .i64 (inZ2 qb (-1) 4096), .int .i64 (inZ2 qc 1 (C : Int)), .int .i64 (inZ2 qd 1 4096)]]) 4 true)), (51, .made [.agg [.int .i64 (inZ2 qa (-1) ((C : Int) - inZ2 qc 1 (C : Int))), .int .i64 (inZ2 qb (-1) 4096), .int .i64 (inZ2 qc 1 (C : Int)), .int .i64 (inZ2 qd 1 4096)]] 4 true), (52, ro2), (68, .made [.agg [.int .i64 (inZ2 qa (-1) ((C : Int) - inZ2 qc 1 (C : Int))), .int .i64 (inZ2 qb (-1) 4096), .int .i64 (inZ2 qc 1 (C : Int)), .int .i64 (inZ2 qd 1 4096)]] 4 true), (69, rT2)]))) (hc_12 : -9223372036854775808 ≤ (i : Int) + 1 ∧ (i : Int) + (1 : Int) ≤ 9223372036854775807) :
    Runs Try.prog 1 133 (loopAt Try.prog 11 0) [(0, .slice o n c), (5, .int .i64 C), (6, .ptr (some ⟨9, 0, 0, 0, 1⟩)), (7, .slice none 0 0), (8, .int .i64 i)] (AHeap.rows 14 [(0, b), (9, .made [.agg [.slice none 0 0]] 1 true)]) .normal [(0, .slice o n c), (5, .int .i64 (C : Int)), (6, .ptr (some ⟨9, 0, 0, 0, 1⟩)), (7, .slice (some ⟨52, 0, 0, 0, 4⟩) 1 1), (8, .int .i64 ((i : Int) + 1))] (AHeap.rows 76 [(0, b), (9, (.made ([.agg [.slice (some ⟨69, 0, 0, 0, 4⟩) 1 1]]) 1 true)), (22, (.made ([.agg [.int .i64 (inZ2 qa (-1) ((C : Int) - inZ2 qc 1 (C : Int))), .int .i64 (inZ2 qb (-1) 4096), .int .i64 (inZ2 qc 1 (C : Int)), .int .i64 (inZ2 qd 1 4096)]]) 4 true)), (51, .made [.agg [.int .i64 (inZ2 qa (-1) ((C : Int) - inZ2 qc 1 (C : Int))), .int .i64 (inZ2 qb (-1) 4096), .int .i64 (inZ2 qc 1 (C : Int)), .int .i64 (inZ2 qd 1 4096)]] 4 true), (52, ro2), (68, .made [.agg [.int .i64 (inZ2 qa (-1) ((C : Int) - inZ2 qc 1 (C : Int))), .int .i64 (inZ2 qb (-1) 4096), .int .i64 (inZ2 qc 1 (C : Int)), .int .i64 (inZ2 qd 1 4096)]] 4 true), (69, rT2)]) :=
  ppath_runs env_ok mixed (hs := [.val 7003 (.bool true), .val 9002 (.ptr (some ⟨0, ver, off + i, 0, 4⟩)), .ld 9003 (.agg [.int .i64 qa, .int .i64 qb, .int .i64 qc, .int .i64 qd]), .val 10003 (.int .i64 (inZ2 qc 1 C)), .val 11002 (.int .i64 (inZ2 qd 1 4096)), .go 12005, .val 12006 (.int .i64 (inZ2 qa (-1) (C - inZ2 qc 1 C))), .val 13002 (.int .i64 (inZ2 qb (-1) 4096)), .act 14003 (.slice (some ⟨52, 0, 0, 0, 4⟩) 1 1) (fun h => h.set 52 ro2), .val 15002 (.bool true), .val 15006 (.bool true), .act 16007 (.slice (some ⟨69, 0, 0, 0, 4⟩) 1 1) (fun h => h.set 69 rT2), .go 8001]) (keep := [0, 5, 6, 7, 8]) (by kernel_rfl) (All.cons (okT hc_0) (All.cons hc_1 (All.cons hc_2 (All.cons (show CallT Try.prog 26 [.int .i64 qc, .int .i64 1, .int .i64 (C : Int)] (AHeap.rows 30 [(0, b), (9, (.made ([.agg [.slice none 0 0]]) 1 true)), (22, (.made ([.agg [.int .i64 qa, .int .i64 qb, .int .i64 qc, .int .i64 qd]]) 4 true))]) (.int .i64 (inZ2 qc 1 (C : Int))) (AHeap.rows 30 [(0, b), (9, (.made ([.agg [.slice none 0 0]]) 1 true)), (22, (.made ([.agg [.int .i64 qa, .int .i64 qb, .int .i64 qc, .int .i64 qd]]) 4 true))]) from ⟨(rwithin_does _ _ _ (by first | omega | (simp only [inZ2]; omega)) _)⟩) (All.cons (show CallT Try.prog 26 [.int .i64 qd, .int .i64 1, .int .i64 4096] (AHeap.rows 35 [(0, b), (9, (.made ([.agg [.slice none 0 0]]) 1 true)), (22, (.made ([.agg [.int .i64 qa, .int .i64 qb, .int .i64 (inZ2 qc 1 (C : Int)), .int .i64 qd]]) 4 true))]) (.int .i64 (inZ2 qd 1 4096)) (AHeap.rows 35 [(0, b), (9, (.made ([.agg [.slice none 0 0]]) 1 true)), (22, (.made ([.agg [.int .i64 qa, .int .i64 qb, .int .i64 (inZ2 qc 1 (C : Int)), .int .i64 qd]]) 4 true))]) from ⟨(rwithin_does _ _ _ (by first | omega | (simp only [inZ2]; omega)) _)⟩) (All.cons hc_5 (All.cons (show CallT Try.prog 26 [.int .i64 qa, .int .i64 (-1), .int .i64 ((C : Int) - inZ2 qc 1 (C : Int))] (AHeap.rows 44 [(0, b), (9, (.made ([.agg [.slice none 0 0]]) 1 true)), (22, (.made ([.agg [.int .i64 qa, .int .i64 qb, .int .i64 (inZ2 qc 1 (C : Int)), .int .i64 (inZ2 qd 1 4096)]]) 4 true))]) (.int .i64 (inZ2 qa (-1) ((C : Int) - inZ2 qc 1 (C : Int)))) (AHeap.rows 44 [(0, b), (9, (.made ([.agg [.slice none 0 0]]) 1 true)), (22, (.made ([.agg [.int .i64 qa, .int .i64 qb, .int .i64 (inZ2 qc 1 (C : Int)), .int .i64 (inZ2 qd 1 4096)]]) 4 true))]) from ⟨(rwithin_does _ _ _ (by first | omega | (simp only [inZ2]; omega)) _)⟩) (All.cons (show CallT Try.prog 26 [.int .i64 qb, .int .i64 (-1), .int .i64 4096] (AHeap.rows 49 [(0, b), (9, (.made ([.agg [.slice none 0 0]]) 1 true)), (22, (.made ([.agg [.int .i64 (inZ2 qa (-1) ((C : Int) - inZ2 qc 1 (C : Int))), .int .i64 qb, .int .i64 (inZ2 qc 1 (C : Int)), .int .i64 (inZ2 qd 1 4096)]]) 4 true))]) (.int .i64 (inZ2 qb (-1) 4096)) (AHeap.rows 49 [(0, b), (9, (.made ([.agg [.slice none 0 0]]) 1 true)), (22, (.made ([.agg [.int .i64 (inZ2 qa (-1) ((C : Int) - inZ2 qc 1 (C : Int))), .int .i64 qb, .int .i64 (inZ2 qc 1 (C : Int)), .int .i64 (inZ2 qd 1 4096)]]) 4 true))]) from ⟨(rwithin_does _ _ _ (by first | omega | (simp only [inZ2]; omega)) _)⟩) (All.cons hc_8 (All.cons (okT hc_9) (All.cons (okT hc_10) (All.cons hc_11 (All.cons hc_12 (All.nil))))))))))))))

theorem rl_b_no1 (o : Option AAddr) (n c ver off v q u p i C : Nat) (b rT rT2 ro ro2 : ABlk) (qa qb qc qd : Int) (hC : 1 ≤ C ∧ C ≤ 64) (sT : AVal) (hc_0 : (i : Int) < (n : Int)) (hc_1 : aindexAddr env.D 22 (.slice o n c) (.int .i64 (i : Int)) = some (.ptr (some ⟨0, ver, off + i, 0, 4⟩))) (hc_2 : ABlk.elem? b ver (off + i) = some (.agg [.int .i64 qa, .int .i64 qb, .int .i64 qc, .int .i64 qd])) (hc_5 : -9223372036854775808 ≤ (C : Int) - inZ2 qc 1 (C : Int) ∧ (C : Int) - inZ2 qc 1 (C : Int) ≤ 9223372036854775807) (hc_8 : abuiltin env Builtin.append { toList := [22, 22] } [.slice (some ⟨10, u, 0, 0, 4⟩) p p, .slice (some ⟨51, 0, 0, 0, 4⟩) 1 1] 52 (AHeap.set (AHeap.rows 54 [(0, b), (9, (.made ([.agg [sT]]) 1 true)), (10, ro), (11, rT), (22, (.made ([.agg [.int .i64 (inZ2 qa (-1) ((C : Int) - inZ2 qc 1 (C : Int))), .int .i64 (inZ2 qb (-1) 4096), .int .i64 (inZ2 qc 1 (C : Int)), .int .i64 (inZ2 qd 1 4096)]]) 4 true))]) 51 (.made [.agg [.int .i64 (inZ2 qa (-1) ((C : Int) - inZ2 qc 1 (C : Int))), .int .i64 (inZ2 qb (-1) 4096), .int .i64 (inZ2 qc 1 (C : Int)), .int .i64 (inZ2 qd 1 4096)]] 4 true)) = some (.slice (some ⟨10, u + 1, 0, 0, 4⟩) (p + 1) (p + 1), (AHeap.rows 54 [(0, b), (9, (.made ([.agg [sT]]) 1 true)), (10, ro2), (11, rT), (22, (.made ([.agg [.int .i64 (inZ2 qa (-1) ((C : Int) - inZ2 qc 1 (C : Int))), .int .i64 (inZ2 qb (-1) 4096), .int .i64 (inZ2 qc 1 (C : Int)), .int .i64 (inZ2 qd 1 4096)]]) 4 true)), (51, .made [.agg [.int .i64 (inZ2 qa (-1) ((C : Int) - inZ2 qc 1 (C : Int))), .int .i64 (inZ2 qb (-1) 4096), .int .i64 (inZ2 qc 1 (C : Int)), .int .i64 (inZ2 qd 1 4096)]] 4 true)]))) (hc_9 : ¬ (inZ2 qa (-1) ((C : Int) - inZ2 qc 1 (C : Int)) ≥ 0)) (hc_10 : -9223372036854775808 ≤ (i : Int) + 1 ∧ (i : Int) + (1 : Int) ≤ 9223372036854775807) :
    Runs Try.prog 1 133 (loopAt Try.prog 11 0) [(0, .slice o n c), (5, .int .i64 C), (6, .ptr (some ⟨9, 0, 0, 0, 1⟩)), (7, .slice (some ⟨10, u, 0, 0, 4⟩) p p), (8, .int .i64 i)] (AHeap.rows 14 [(0, b), (9, .made [.agg [sT]] 1 true), (10, ro), (11, rT)]) .normal [(0, .slice o n c), (5, .int .i64 (C : Int)), (6, .ptr (some ⟨9, 0, 0, 0, 1⟩)), (7, .slice (some ⟨10, u + 1, 0, 0, 4⟩) (p + 1) (p + 1)), (8, .int .i64 ((i : Int) + 1))] (AHeap.rows 65 [(0, b), (9, (.made ([.agg [sT]]) 1 true)), (10, ro2), (11, rT), (22, (.made ([.agg [.int .i64 (inZ2 qa (-1) ((C : Int) - inZ2 qc 1 (C : Int))), .int .i64 (inZ2 qb (-1) 4096), .int .i64 (inZ2 qc 1 (C : Int)), .int .i64 (inZ2 qd 1 4096)]]) 4 true)), (51, .made [.agg [.int .i64 (inZ2 qa (-1) ((C : Int) - inZ2 qc 1 (C : Int))), .int .i64 (inZ2 qb (-1) 4096), .int .i64 (inZ2 qc 1 (C : Int)), .int .i64 (inZ2 qd 1 4096)]] 4 true)]) :=
  ppath_runs env_ok mixed (hs := [.val 7003 (.bool true), .val 9002 (.ptr (some ⟨0, ver, off + i, 0, 4⟩)), .ld 9003 (.agg [.int .i64 qa, .int .i64 qb, .int .i64 qc, .int .i64 qd]), .val 10003 (.int .i64 (inZ2 qc 1 C)), .val 11002 (.int .i64 (inZ2 qd 1 4096)), .go 12005, .val 12006 (.int .i64 (inZ2 qa (-1) (C - inZ2 qc 1 C))), .val 13002 (.int .i64 (inZ2 qb (-1) 4096)), .act 14003 (.slice (some ⟨10, u + 1, 0, 0, 4⟩) (p + 1) (p + 1)) (fun h => h.set 10 ro2), .val 15002 (.bool false), .go 8001]) (keep := [0, 5, 6, 7, 8]) (by kernel_rfl) (All.cons (okT hc_0) (All.cons hc_1 (All.cons hc_2 (All.cons (show CallT Try.prog 26 [.int .i64 qc, .int .i64 1, .int .i64 (C : Int)] (AHeap.rows 30 [(0, b), (9, (.made ([.agg [sT]]) 1 true)), (10, ro), (11, rT), (22, (.made ([.agg [.int .i64 qa, .int .i64 qb, .int .i64 qc, .int .i64 qd]]) 4 true))]) (.int .i64 (inZ2 qc 1 (C : Int))) (AHeap.rows 30 [(0, b), (9, (.made ([.agg [sT]]) 1 true)), (10, ro), (11, rT), (22, (.made ([.agg [.int .i64 qa, .int .i64 qb, .int .i64 qc, .int .i64 qd]]) 4 true))]) from ⟨(rwithin_does _ _ _ (by first | omega | (simp only [inZ2]; omega)) _)⟩) (All.cons (show CallT Try.prog 26 [.int .i64 qd, .int .i64 1, .int .i64 4096] (AHeap.rows 35 [(0, b), (9, (.made ([.agg [sT]]) 1 true)), (10, ro), (11, rT), (22, (.made ([.agg [.int .i64 qa, .int .i64 qb, .int .i64 (inZ2 qc 1 (C : Int)), .int .i64 qd]]) 4 true))]) (.int .i64 (inZ2 qd 1 4096)) (AHeap.rows 35 [(0, b), (9, (.made ([.agg [sT]]) 1 true)), (10, ro), (11, rT), (22, (.made ([.agg [.int .i64 qa, .int .i64 qb, .int .i64 (inZ2 qc 1 (C : Int)), .int .i64 qd]]) 4 true))]) from ⟨(rwithin_does _ _ _ (by first | omega | (simp only [inZ2]; omega)) _)⟩) (All.cons hc_5 (All.cons (show CallT Try.prog 26 [.int .i64 qa, .int .i64 (-1), .int .i64 ((C : Int) - inZ2 qc 1 (C : Int))] (AHeap.rows 44 [(0, b), (9, (.made ([.agg [sT]]) 1 true)), (10, ro), (11, rT), (22, (.made ([.agg [.int .i64 qa, .int .i64 qb, .int .i64 (inZ2 qc 1 (C : Int)), .int .i64 (inZ2 qd 1 4096)]]) 4 true))]) (.int .i64 (inZ2 qa (-1) ((C : Int) - inZ2 qc 1 (C : Int)))) (AHeap.rows 44 [(0, b), (9, (.made ([.agg [sT]]) 1 true)), (10, ro), (11, rT), (22, (.made ([.agg [.int .i64 qa, .int .i64 qb, .int .i64 (inZ2 qc 1 (C : Int)), .int .i64 (inZ2 qd 1 4096)]]) 4 true))]) from ⟨(rwithin_does _ _ _ (by first | omega | (simp only [inZ2]; omega)) _)⟩) (All.cons (show CallT Try.prog 26 [.int .i64 qb, .int .i64 (-1), .int .i64 4096] (AHeap.rows 49 [(0, b), (9, (.made ([.agg [sT]]) 1 true)), (10, ro), (11, rT), (22, (.made ([.agg [.int .i64 (inZ2 qa (-1) ((C : Int) - inZ2 qc 1 (C : Int))), .int .i64 qb, .int .i64 (inZ2 qc 1 (C : Int)), .int .i64 (inZ2 qd 1 4096)]]) 4 true))]) (.int .i64 (inZ2 qb (-1) 4096)) (AHeap.rows 49 [(0, b), (9, (.made ([.agg [sT]]) 1 true)), (10, ro), (11, rT), (22, (.made ([.agg [.int .i64 (inZ2 qa (-1) ((C : Int) - inZ2 qc 1 (C : Int))), .int .i64 qb, .int .i64 (inZ2 qc 1 (C : Int)), .int .i64 (inZ2 qd 1 4096)]]) 4 true))]) from ⟨(rwithin_does _ _ _ (by first | omega | (simp only [inZ2]; omega)) _)⟩) (All.cons hc_8 (All.cons (okF hc_9) (All.cons hc_10 (All.nil))))))))))))

theorem rl_b_no2 (o : Option AAddr) (n c ver off v q u p i C : Nat) (b rT rT2 ro ro2 : ABlk) (qa qb qc qd : Int) (hC : 1 ≤ C ∧ C ≤ 64) (sT : AVal) (hc_0 : (i : Int) < (n : Int)) (hc_1 : aindexAddr env.D 22 (.slice o n c) (.int .i64 (i : Int)) = some (.ptr (some ⟨0, ver, off + i, 0, 4⟩))) (hc_2 : ABlk.elem? b ver (off + i) = some (.agg [.int .i64 qa, .int .i64 qb, .int .i64 qc, .int .i64 qd])) (hc_5 : -9223372036854775808 ≤ (C : Int) - inZ2 qc 1 (C : Int) ∧ (C : Int) - inZ2 qc 1 (C : Int) ≤ 9223372036854775807) (hc_8 : abuiltin env Builtin.append { toList := [22, 22] } [.slice (some ⟨10, u, 0, 0, 4⟩) p p, .slice (some ⟨51, 0, 0, 0, 4⟩) 1 1] 52 (AHeap.set (AHeap.rows 54 [(0, b), (9, (.made ([.agg [sT]]) 1 true)), (10, ro), (11, rT), (22, (.made ([.agg [.int .i64 (inZ2 qa (-1) ((C : Int) - inZ2 qc 1 (C : Int))), .int .i64 (inZ2 qb (-1) 4096), .int .i64 (inZ2 qc 1 (C : Int)), .int .i64 (inZ2 qd 1 4096)]]) 4 true))]) 51 (.made [.agg [.int .i64 (inZ2 qa (-1) ((C : Int) - inZ2 qc 1 (C : Int))), .int .i64 (inZ2 qb (-1) 4096), .int .i64 (inZ2 qc 1 (C : Int)), .int .i64 (inZ2 qd 1 4096)]] 4 true)) = some (.slice (some ⟨10, u + 1, 0, 0, 4⟩) (p + 1) (p + 1), (AHeap.rows 54 [(0, b), (9, (.made ([.agg [sT]]) 1 true)), (10, ro2), (11, rT), (22, (.made ([.agg [.int .i64 (inZ2 qa (-1) ((C : Int) - inZ2 qc 1 (C : Int))), .int .i64 (inZ2 qb (-1) 4096), .int .i64 (inZ2 qc 1 (C : Int)), .int .i64 (inZ2 qd 1 4096)]]) 4 true)), (51, .made [.agg [.int .i64 (inZ2 qa (-1) ((C : Int) - inZ2 qc 1 (C : Int))), .int .i64 (inZ2 qb (-1) 4096), .int .i64 (inZ2 qc 1 (C : Int)), .int .i64 (inZ2 qd 1 4096)]] 4 true)]))) (hc_9 : inZ2 qa (-1) ((C : Int) - inZ2 qc 1 (C : Int)) ≥ 0) (hc_10 : ¬ (inZ2 qb (-1) 4096 ≥ 0)) (hc_11 : -9223372036854775808 ≤ (i : Int) + 1 ∧ (i : Int) + (1 : Int) ≤ 9223372036854775807) :
    Runs Try.prog 1 133 (loopAt Try.prog 11 0) [(0, .slice o n c), (5, .int .i64 C), (6, .ptr (some ⟨9, 0, 0, 0, 1⟩)), (7, .slice (some ⟨10, u, 0, 0, 4⟩) p p), (8, .int .i64 i)] (AHeap.rows 14 [(0, b), (9, .made [.agg [sT]] 1 true), (10, ro), (11, rT)]) .normal [(0, .slice o n c), (5, .int .i64 (C : Int)), (6, .ptr (some ⟨9, 0, 0, 0, 1⟩)), (7, .slice (some ⟨10, u + 1, 0, 0, 4⟩) (p + 1) (p + 1)), (8, .int .i64 ((i : Int) + 1))] (AHeap.rows 65 [(0, b), (9, (.made ([.agg [sT]]) 1 true)), (10, ro2), (11, rT), (22, (.made ([.agg [.int .i64 (inZ2 qa (-1) ((C : Int) - inZ2 qc 1 (C : Int))), .int .i64 (inZ2 qb (-1) 4096), .int .i64 (inZ2 qc 1 (C : Int)), .int .i64 (inZ2 qd 1 4096)]]) 4 true)), (51, .made [.agg [.int .i64 (inZ2 qa (-1) ((C : Int) - inZ2 qc 1 (C : Int))), .int .i64 (inZ2 qb (-1) 4096), .int .i64 (inZ2 qc 1 (C : Int)), .int .i64 (inZ2 qd 1 4096)]] 4 true)]) :=
  ppath_runs env_ok mixed (hs := [.val 7003 (.bool true), .val 9002 (.ptr (some ⟨0, ver, off + i, 0, 4⟩)), .ld 9003 (.agg [.int .i64 qa, .int .i64 qb, .int .i64 qc, .int .i64 qd]), .val 10003 (.int .i64 (inZ2 qc 1 C)), .val 11002 (.int .i64 (inZ2 qd 1 4096)), .go 12005, .val 12006 (.int .i64 (inZ2 qa (-1) (C - inZ2 qc 1 C))), .val 13002 (.int .i64 (inZ2 qb (-1) 4096)), .act 14003 (.slice (some ⟨10, u + 1, 0, 0, 4⟩) (p + 1) (p + 1)) (fun h => h.set 10 ro2), .val 15002 (.bool true), .val 15006 (.bool false), .go 8001]) (keep := [0, 5, 6, 7, 8]) (by kernel_rfl) (All.cons (okT hc_0) (All.cons hc_1 (All.cons hc_2 (All.cons (show CallT Try.prog 26 [.int .i64 qc, .int .i64 1, .int .i64 (C : Int)] (AHeap.rows 30 [(0, b), (9, (.made ([.agg [sT]]) 1 true)), (10, ro), (11, rT), (22, (.made ([.agg [.int .i64 qa, .int .i64 qb, .int .i64 qc, .int .i64 qd]]) 4 true))]) (.int .i64 (inZ2 qc 1 (C : Int))) (AHeap.rows 30 [(0, b), (9, (.made ([.agg [sT]]) 1 true)), (10, ro), (11, rT), (22, (.made ([.agg [.int .i64 qa, .int .i64 qb, .int .i64 qc, .int .i64 qd]]) 4 true))]) from ⟨(rwithin_does _ _ _ (by first | omega | (simp only [inZ2]; omega)) _)⟩) (All.cons (show CallT Try.prog 26 [.int .i64 qd, .int .i64 1, .int .i64 4096] (AHeap.rows 35 [(0, b), (9, (.made ([.agg [sT]]) 1 true)), (10, ro), (11, rT), (22, (.made ([.agg [.int .i64 qa, .int .i64 qb, .int .i64 (inZ2 qc 1 (C : Int)), .int .i64 qd]]) 4 true))]) (.int .i64 (inZ2 qd 1 4096)) (AHeap.rows 35 [(0, b), (9, (.made ([.agg [sT]]) 1 true)), (10, ro), (11, rT), (22, (.made ([.agg [.int .i64 qa, .int .i64 qb, .int .i64 (inZ2 qc 1 (C : Int)), .int .i64 qd]]) 4 true))]) from ⟨(rwithin_does _ _ _ (by first | omega | (simp only [inZ2]; omega)) _)⟩) (All.cons hc_5 (All.cons (show CallT Try.prog 26 [.int .i64 qa, .int .i64 (-1), .int .i64 ((C : Int) - inZ2 qc 1 (C : Int))] (AHeap.rows 44 [(0, b), (9, (.made ([.agg [sT]]) 1 true)), (10, ro), (11, rT), (22, (.made ([.agg [.int .i64 qa, .int .i64 qb, .int .i64 (inZ2 qc 1 (C : Int)), .int .i64 (inZ2 qd 1 4096)]]) 4 true))]) (.int .i64 (inZ2 qa (-1) ((C : Int) - inZ2 qc 1 (C : Int)))) (AHeap.rows 44 [(0, b), (9, (.made ([.agg [sT]]) 1 true)), (10, ro), (11, rT), (22, (.made ([.agg [.int .i64 qa, .int .i64 qb, .int .i64 (inZ2 qc 1 (C : Int)), .int .i64 (inZ2 qd 1 4096)]]) 4 true))]) from ⟨(rwithin_does _ _ _ (by first | omega | (simp only [inZ2]; omega)) _)⟩) (All.cons (show CallT Try.prog 26 [.int .i64 qb, .int .i64 (-1), .int .i64 4096] (AHeap.rows 49 [(0, b), (9, (.made ([.agg [sT]]) 1 true)), (10, ro), (11, rT), (22, (.made ([.agg [.int .i64 (inZ2 qa (-1) ((C : Int) - inZ2 qc 1 (C : Int))), .int .i64 qb, .int .i64 (inZ2 qc 1 (C : Int)), .int .i64 (inZ2 qd 1 4096)]]) 4 true))]) (.int .i64 (inZ2 qb (-1) 4096)) (AHeap.rows 49 [(0, b), (9, (.made ([.agg [sT]]) 1 true)), (10, ro), (11, rT), (22, (.made ([.agg [.int .i64 (inZ2 qa (-1) ((C : Int) - inZ2 qc 1 (C : Int))), .int .i64 qb, .int .i64 (inZ2 qc 1 (C : Int)), .int .i64 (inZ2 qd 1 4096)]]) 4 true))]) from ⟨(rwithin_does _ _ _ (by first | omega | (simp only [inZ2]; omega)) _)⟩) (All.cons hc_8 (All.cons (okT hc_9) (All.cons (okF hc_10) (All.cons hc_11 (All.nil)))))))))))))

theorem rl_b_new (o : Option AAddr) (n c ver off v q u p i C : Nat) (b rT rT2 ro ro2 : ABlk) (qa qb qc qd : Int) (hC : 1 ≤ C ∧ C ≤ 64) (hc_0 : (i : Int) < (n : Int)) (hc_1 : aindexAddr env.D 22 (.slice o n c) (.int .i64 (i : Int)) = some (.ptr (some ⟨0, ver, off + i, 0, 4⟩))) (hc_2 : ABlk.elem? b ver (off + i) = some (.agg [.int .i64 qa, .int .i64 qb, .int .i64 qc, .int .i64 qd])) (hc_5 : -9223372036854775808 ≤ (C : Int) - inZ2 qc 1 (C : Int) ∧ (C : Int) - inZ2 qc 1 (C : Int) ≤ 9223372036854775807) (hc_8 : abuiltin env Builtin.append { toList := [22, 22] } [.slice (some ⟨10, u, 0, 0, 4⟩) p p, .slice (some ⟨51, 0, 0, 0, 4⟩) 1 1] 52 (AHeap.set (AHeap.rows 54 [(0, b), (9, (.made ([.agg [.slice none 0 0]]) 1 true)), (10, ro), (22, (.made ([.agg [.int .i64 (inZ2 qa (-1) ((C : Int) - inZ2 qc 1 (C : Int))), .int .i64 (inZ2 qb (-1) 4096), .int .i64 (inZ2 qc 1 (C : Int)), .int .i64 (inZ2 qd 1 4096)]]) 4 true))]) 51 (.made [.agg [.int .i64 (inZ2 qa (-1) ((C : Int) - inZ2 qc 1 (C : Int))), .int .i64 (inZ2 qb (-1) 4096), .int .i64 (inZ2 qc 1 (C : Int)), .int .i64 (inZ2 qd 1 4096)]] 4 true)) = some (.slice (some ⟨10, u + 1, 0, 0, 4⟩) (p + 1) (p + 1), (AHeap.rows 54 [(0, b), (9, (.made ([.agg [.slice none 0 0]]) 1 true)), (10, ro2), (22, (.made ([.agg [.int .i64 (inZ2 qa (-1) ((C : Int) - inZ2 qc 1 (C : Int))), .int .i64 (inZ2 qb (-1) 4096), .int .i64 (inZ2 qc 1 (C : Int)), .int .i64 (inZ2 qd 1 4096)]]) 4 true)), (51, .made [.agg [.int .i64 (inZ2 qa (-1) ((C : Int) - inZ2 qc 1 (C : Int))), .int .i64 (inZ2 qb (-1) 4096), .int .i64 (inZ2 qc 1 (C : Int)), .int .i64 (inZ2 qd 1 4096)]] 4 true)]))) (hc_9 : inZ2 qa (-1) ((C : Int) - inZ2 qc 1 (C : Int)) ≥ 0) (hc_10 : inZ2 qb (-1) 4096 ≥ 0) (hc_11 : abuiltin env Builtin.append { toList := [22, 22] } [.slice none 0 0, .slice (some ⟨68, 0, 0, 0, 4⟩) 1 1] 69 (AHeap.set (AHeap.rows 73 [(0, b), (9, (.made ([.agg [.slice none 0 0]]) 1 true)), (10, ro2), (22, (.made ([.agg [.int .i64 (inZ2 qa (-1) ((C : Int) - inZ2 qc 1 (C : Int))), .int .i64 (inZ2 qb (-1) 4096), .int .i64 (inZ2 qc 1 (C : Int)), .int .i64 (inZ2 qd 1 4096)]]) 4 true)), (51, .made [.agg [.int .i64 (inZ2 qa (-1) ((C : Int) - inZ2 qc 1 (C : Int))), .int .i64 (inZ2 qb (-1) 4096), .int .i64 (inZ2 qc 1 (C : Int)), .int .i64 (inZ2 qd 1 4096)]] 4 true)]) 68 (.made [.agg [.int .i64 (inZ2 qa (-1) ((C : Int) - inZ2 qc 1 (C : Int))), .int .i64 (inZ2 qb (-1) 4096), .int .i64 (inZ2 qc 1 (C : Int)), .int .i64 (inZ2 qd 1 4096)]] 4 true)) = some (.slice (some ⟨69, 0, 0, 0, 4⟩) 1 1, (AHeap.rows 73 [(0, b), (9, (.made ([.agg [.slice none 0 0]]) 1 true)), (10, ro2), (22, (.made ([.agg [.int .i64 (inZ2 qa (-1) ((C : Int) - inZ2 qc 1 (C : Int))), .int .i64 (inZ2 qb (-1) 4096), .int .i64 (inZ2 qc 1 (C : Int)), .int .i64 (inZ2 qd 1 4096)]]) 4 true)), (51, .made [.agg [.int .i64 (inZ2 qa (-1) ((C : Int) - inZ2 qc 1 (C : Int))), .int .i64 (inZ2 qb (-1) 4096), .int .i64 (inZ2 qc 1 (C : Int)), .int .i64 (inZ2 qd 1 4096)]] 4 true), (68, .made [.agg [.int .i64 (inZ2 qa (-1) ((C : Int) - inZ2 qc 1 (C : Int))), .int .i64 (inZ2 qb (-1) 4096), .int .i64 (inZ2 qc 1 (C : Int)), .int .i64 (inZ2 qd 1 4096)]] 4 true), (69, rT2)]))) (hc_12 : -9223372036854775808 ≤ (i : Int) + 1 ∧ (i : Int) + (1 : Int) ≤ 9223372036854775807) :
    Runs Try.prog 1 133 (loopAt Try.prog 11 0) [(0, .slice o n c), (5, .int .i64 C), (6, .ptr (some ⟨9, 0, 0, 0, 1⟩)), (7, .slice (some ⟨10, u, 0, 0, 4⟩) p p), (8, .int .i64 i)] (AHeap.rows 14 [(0, b), (9, .made [.agg [.slice none 0 0]] 1 true), (10, ro)]) .normal [(0, .slice o n c), (5, .int .i64 (C : Int)), (6, .ptr (some ⟨9, 0, 0, 0, 1⟩)), (7, .slice (some ⟨10, u + 1, 0, 0, 4⟩) (p + 1) (p + 1)), (8, .int .i64 ((i : Int) + 1))] (AHeap.rows 76 [(0, b), (9, (.made ([.agg [.slice (some ⟨69, 0, 0, 0, 4⟩) 1 1]]) 1 true)), (10, ro2), (22, (.made ([.agg [.int .i64 (inZ2 qa (-1) ((C : Int) - inZ2 qc 1 (C : Int))), .int .i64 (inZ2 qb (-1) 4096), .int .i64 (inZ2 qc 1 (C : Int)), .int .i64 (inZ2 qd 1 4096)]]) 4 true)), (51, .made [.agg [.int .i64 (inZ2 qa (-1) ((C : Int) - inZ2 qc 1 (C : Int))), .int .i64 (inZ2 qb (-1) 4096), .int .i64 (inZ2 qc 1 (C : Int)), .int .i64 (inZ2 qd 1 4096)]] 4 true), (68, .made [.agg [.int .i64 (inZ2 qa (-1) ((C : Int) - inZ2 qc 1 (C : Int))), .int .i64 (inZ2 qb (-1) 4096), .int .i64 (inZ2 qc 1 (C : Int)), .int .i64 (inZ2 qd 1 4096)]] 4 true), (69, rT2)]) :=
  ppath_runs env_ok mixed (hs := [.val 7003 (.bool true), .val 9002 (.ptr (some ⟨0, ver, off + i, 0, 4⟩)), .ld 9003 (.agg [.int .i64 qa, .int .i64 qb, .int .i64 qc, .int .i64 qd]), .val 10003 (.int .i64 (inZ2 qc 1 C)), .val 11002 (.int .i64 (inZ2 qd 1 4096)), .go 12005, .val 12006 (.int .i64 (inZ2 qa (-1) (C - inZ2 qc 1 C))), .val 13002 (.int .i64 (inZ2 qb (-1) 4096)), .act 14003 (.slice (some ⟨10, u + 1, 0, 0, 4⟩) (p + 1) (p + 1)) (fun h => h.set 10 ro2), .val 15002 (.bool true), .val 15006 (.bool true), .act 16007 (.slice (some ⟨69, 0, 0, 0, 4⟩) 1 1) (fun h => h.set 69 rT2), .go 8001]) (keep := [0, 5, 6, 7, 8]) (by kernel_rfl) (All.cons (okT hc_0) (All.cons hc_1 (All.cons hc_2 (All.cons (show CallT Try.prog 26 [.int .i64 qc, .int .i64 1, .int .i64 (C : Int)] (AHeap.rows 30 [(0, b), (9, (.made ([.agg [.slice none 0 0]]) 1 true)), (10, ro), (22, (.made ([.agg [.int .i64 qa, .int .i64 qb, .int .i64 qc, .int .i64 qd]]) 4 true))]) (.int .i64 (inZ2 qc 1 (C : Int))) (AHeap.rows 30 [(0, b), (9, (.made ([.agg [.slice none 0 0]]) 1 true)), (10, ro), (22, (.made ([.agg [.int .i64 qa, .int .i64 qb, .int .i64 qc, .int .i64 qd]]) 4 true))]) from ⟨(rwithin_does _ _ _ (by first | omega | (simp only [inZ2]; omega)) _)⟩) (All.cons (show CallT Try.prog 26 [.int .i64 qd, .int .i64 1, .int .i64 4096] (AHeap.rows 35 [(0, b), (9, (.made ([.agg [.slice none 0 0]]) 1 true)), (10, ro), (22, (.made ([.agg [.int .i64 qa, .int .i64 qb, .int .i64 (inZ2 qc 1 (C : Int)), .int .i64 qd]]) 4 true))]) (.int .i64 (inZ2 qd 1 4096)) (AHeap.rows 35 [(0, b), (9, (.made ([.agg [.slice none 0 0]]) 1 true)), (10, ro), (22, (.made ([.agg [.int .i64 qa, .int .i64 qb, .int .i64 (inZ2 qc 1 (C : Int)), .int .i64 qd]]) 4 true))]) from ⟨(rwithin_does _ _ _ (by first | omega | (simp only [inZ2]; omega)) _)⟩) (All.cons hc_5 (All.cons (show CallT Try.prog 26 [.int .i64 qa, .int .i64 (-1), .int .i64 ((C : Int) - inZ2 qc 1 (C : Int))] (AHeap.rows 44 [(0, b), (9, (.made ([.agg [.slice none 0 0]]) 1 true)), (10, ro), (22, (.made ([.agg [.int .i64 qa, .int .i64 qb, .int .i64 (inZ2 qc 1 (C : Int)), .int .i64 (inZ2 qd 1 4096)]]) 4 true))]) (.int .i64 (inZ2 qa (-1) ((C : Int) - inZ2 qc 1 (C : Int)))) (AHeap.rows 44 [(0, b), (9, (.made ([.agg [.slice none 0 0]]) 1 true)), (10, ro), (22, (.made ([.agg [.int .i64 qa, .int .i64 qb, .int .i64 (inZ2 qc 1 (C : Int)), .int .i64 (inZ2 qd 1 4096)]]) 4 true))]) from ⟨(rwithin_does _ _ _ (by first | omega | (simp only [inZ2]; omega)) _)⟩) (All.cons (show CallT Try.prog 26 [.int .i64 qb, .int .i64 (-1), .int .i64 4096] (AHeap.rows 49 [(0, b), (9, (.made ([.agg [.slice none 0 0]]) 1 true)), (10, ro), (22, (.made ([.agg [.int .i64 (inZ2 qa (-1) ((C : Int) - inZ2 qc 1 (C : Int))), .int .i64 qb, .int .i64 (inZ2 qc 1 (C : Int)), .int .i64 (inZ2 qd 1 4096)]]) 4 true))]) (.int .i64 (inZ2 qb (-1) 4096)) (AHeap.rows 49 [(0, b), (9, (.made ([.agg [.slice none 0 0]]) 1 true)), (10, ro), (22, (.made ([.agg [.int .i64 (inZ2 qa (-1) ((C : Int) - inZ2 qc 1 (C : Int))), .int .i64 qb, .int .i64 (inZ2 qc 1 (C : Int)), .int .i64 (inZ2 qd 1 4096)]]) 4 true))]) from ⟨(rwithin_does _ _ _ (by first | omega | (simp only [inZ2]; omega)) _)⟩) (All.cons hc_8 (All.cons (okT hc_9) (All.cons (okT hc_10) (All.cons hc_11 (All.cons hc_12 (All.nil))))))))))))))

theorem rl_b_grow (o : Option AAddr) (n c ver off v q u p i C : Nat) (b rT rT2 ro ro2 : ABlk) (qa qb qc qd : Int) (hC : 1 ≤ C ∧ C ≤ 64) (hc_0 : (i : Int) < (n : Int)) (hc_1 : aindexAddr env.D 22 (.slice o n c) (.int .i64 (i : Int)) = some (.ptr (some ⟨0, ver, off + i, 0, 4⟩))) (hc_2 : ABlk.elem? b ver (off + i) = some (.agg [.int .i64 qa, .int .i64 qb, .int .i64 qc, .int .i64 qd])) (hc_5 : -9223372036854775808 ≤ (C : Int) - inZ2 qc 1 (C : Int) ∧ (C : Int) - inZ2 qc 1 (C : Int) ≤ 9223372036854775807) (hc_8 : abuiltin env Builtin.append { toList := [22, 22] } [.slice (some ⟨10, u, 0, 0, 4⟩) p p, .slice (some ⟨51, 0, 0, 0, 4⟩) 1 1] 52 (AHeap.set (AHeap.rows 54 [(0, b), (9, (.made ([.agg [.slice (some ⟨11, v, 0, 0, 4⟩) q q]]) 1 true)), (10, ro), (11, rT), (22, (.made ([.agg [.int .i64 (inZ2 qa (-1) ((C : Int) - inZ2 qc 1 (C : Int))), .int .i64 (inZ2 qb (-1) 4096), .int .i64 (inZ2 qc 1 (C : Int)), .int .i64 (inZ2 qd 1 4096)]]) 4 true))]) 51 (.made [.agg [.int .i64 (inZ2 qa (-1) ((C : Int) - inZ2 qc 1 (C : Int))), .int .i64 (inZ2 qb (-1) 4096), .int .i64 (inZ2 qc 1 (C : Int)), .int .i64 (inZ2 qd 1 4096)]] 4 true)) = some (.slice (some ⟨10, u + 1, 0, 0, 4⟩) (p + 1) (p + 1), (AHeap.rows 54 [(0, b), (9, (.made ([.agg [.slice (some ⟨11, v, 0, 0, 4⟩) q q]]) 1 true)), (10, ro2), (11, rT), (22, (.made ([.agg [.int .i64 (inZ2 qa (-1) ((C : Int) - inZ2 qc 1 (C : Int))), .int .i64 (inZ2 qb (-1) 4096), .int .i64 (inZ2 qc 1 (C : Int)), .int .i64 (inZ2 qd 1 4096)]]) 4 true)), (51, .made [.agg [.int .i64 (inZ2 qa (-1) ((C : Int) - inZ2 qc 1 (C : Int))), .int .i64 (inZ2 qb (-1) 4096), .int .i64 (inZ2 qc 1 (C : Int)), .int .i64 (inZ2 qd 1 4096)]] 4 true)]))) (hc_9 : inZ2 qa (-1) ((C : Int) - inZ2 qc 1 (C : Int)) ≥ 0) (hc_10 : inZ2 qb (-1) 4096 ≥ 0) (hc_11 : abuiltin env Builtin.append { toList := [22, 22] } [.slice (some ⟨11, v, 0, 0, 4⟩) q q, .slice (some ⟨68, 0, 0, 0, 4⟩) 1 1] 69 (AHeap.set (AHeap.rows 73 [(0, b), (9, (.made ([.agg [.slice (some ⟨11, v, 0, 0, 4⟩) q q]]) 1 true)), (10, ro2), (11, rT), (22, (.made ([.agg [.int .i64 (inZ2 qa (-1) ((C : Int) - inZ2 qc 1 (C : Int))), .int .i64 (inZ2 qb (-1) 4096), .int .i64 (inZ2 qc 1 (C : Int)), .int .i64 (inZ2 qd 1 4096)]]) 4 true)), (51, .made [.agg [.int .i64 (inZ2 qa (-1) ((C : Int) - inZ2 qc 1 (C : Int))), .int .i64 (inZ2 qb (-1) 4096), .int .i64 (inZ2 qc 1 (C : Int)), .int .i64 (inZ2 qd 1 4096)]] 4 true)]) 68 (.made [.agg [.int .i64 (inZ2 qa (-1) ((C : Int) - inZ2 qc 1 (C : Int))), .int .i64 (inZ2 qb (-1) 4096), .int .i64 (inZ2 qc 1 (C : Int)), .int .i64 (inZ2 qd 1 4096)]] 4 true)) = some (.slice (some ⟨11, v + 1, 0, 0, 4⟩) (q + 1) (q + 1), (AHeap.rows 73 [(0, b), (9, (.made ([.agg [.slice (some ⟨11, v, 0, 0, 4⟩) q q]]) 1 true)), (10, ro2), (11, rT2), (22, (.made ([.agg [.int .i64 (inZ2 qa (-1) ((C : Int) - inZ2 qc 1 (C : Int))), .int .i64 (inZ2 qb (-1) 4096), .int .i64 (inZ2 qc 1 (C : Int)), .int .i64 (inZ2 qd 1 4096)]]) 4 true)), (51, .made [.agg [.int .i64 (inZ2 qa (-1) ((C : Int) - inZ2 qc 1 (C : Int))), .int .i64 (inZ2 qb (-1) 4096), .int .i64 (inZ2 qc 1 (C : Int)), .int .i64 (inZ2 qd 1 4096)]] 4 true), (68, .made [.agg [.int .i64 (inZ2 qa (-1) ((C : Int) - inZ2 qc 1 (C : Int))), .int .i64 (inZ2 qb (-1) 4096), .int .i64 (inZ2 qc 1 (C : Int)), .int .i64 (inZ2 qd 1 4096)]] 4 true)]))) (hc_12 : -9223372036854775808 ≤ (i : Int) + 1 ∧ (i : Int) + (1 : Int) ≤ 9223372036854775807) :
    Runs Try.prog 1 133 (loopAt Try.prog 11 0) [(0, .slice o n c), (5, .int .i64 C), (6, .ptr (some ⟨9, 0, 0, 0, 1⟩)), (7, .slice (some ⟨10, u, 0, 0, 4⟩) p p), (8, .int .i64 i)] (AHeap.rows 14 [(0, b), (9, .made [.agg [.slice (some ⟨11, v, 0, 0, 4⟩) q q]] 1 true), (10, ro), (11, rT)]) .normal [(0, .slice o n c), (5, .int .i64 (C : Int)), (6, .ptr (some ⟨9, 0, 0, 0, 1⟩)), (7, .slice (some ⟨10, u + 1, 0, 0, 4⟩) (p + 1) (p + 1)), (8, .int .i64 ((i : Int) + 1))] (AHeap.rows 76 [(0, b), (9, (.made ([.agg [.slice (some ⟨11, v + 1, 0, 0, 4⟩) (q + 1) (q + 1)]]) 1 true)), (10, ro2), (11, rT2), (22, (.made ([.agg [.int .i64 (inZ2 qa (-1) ((C : Int) - inZ2 qc 1 (C : Int))), .int .i64 (inZ2 qb (-1) 4096), .int .i64 (inZ2 qc 1 (C : Int)), .int .i64 (inZ2 qd 1 4096)]]) 4 true)), (51, .made [.agg [.int .i64 (inZ2 qa (-1) ((C : Int) - inZ2 qc 1 (C : Int))), .int .i64 (inZ2 qb (-1) 4096), .int .i64 (inZ2 qc 1 (C : Int)), .int .i64 (inZ2 qd 1 4096)]] 4 true), (68, .made [.agg [.int .i64 (inZ2 qa (-1) ((C : Int) - inZ2 qc 1 (C : Int))), .int .i64 (inZ2 qb (-1) 4096), .int .i64 (inZ2 qc 1 (C : Int)), .int .i64 (inZ2 qd 1 4096)]] 4 true)]) :=
  ppath_runs env_ok mixed (hs := [.val 7003 (.bool true), .val 9002 (.ptr (some ⟨0, ver, off + i, 0, 4⟩)), .ld 9003 (.agg [.int .i64 qa, .int .i64 qb, .int .i64 qc, .int .i64 qd]), .val 10003 (.int .i64 (inZ2 qc 1 C)), .val 11002 (.int .i64 (inZ2 qd 1 4096)), .go 12005, .val 12006 (.int .i64 (inZ2 qa (-1) (C - inZ2 qc 1 C))), .val 13002 (.int .i64 (inZ2 qb (-1) 4096)), .act 14003 (.slice (some ⟨10, u + 1, 0, 0, 4⟩) (p + 1) (p + 1)) (fun h => h.set 10 ro2), .val 15002 (.bool true), .val 15006 (.bool true), .act 16007 (.slice (some ⟨11, v + 1, 0, 0, 4⟩) (q + 1) (q + 1)) (fun h => h.set 11 rT2), .go 8001]) (keep := [0, 5, 6, 7, 8]) (by kernel_rfl) (All.cons (okT hc_0) (All.cons hc_1 (All.cons hc_2 (All.cons (show CallT Try.prog 26 [.int .i64 qc, .int .i64 1, .int .i64 (C : Int)] (AHeap.rows 30 [(0, b), (9, (.made ([.agg [.slice (some ⟨11, v, 0, 0, 4⟩) q q]]) 1 true)), (10, ro), (11, rT), (22, (.made ([.agg [.int .i64 qa, .int .i64 qb, .int .i64 qc, .int .i64 qd]]) 4 true))]) (.int .i64 (inZ2 qc 1 (C : Int))) (AHeap.rows 30 [(0, b), (9, (.made ([.agg [.slice (some ⟨11, v, 0, 0, 4⟩) q q]]) 1 true)), (10, ro), (11, rT), (22, (.made ([.agg [.int .i64 qa, .int .i64 qb, .int .i64 qc, .int .i64 qd]]) 4 true))]) from ⟨(rwithin_does _ _ _ (by first | omega | (simp only [inZ2]; omega)) _)⟩) (All.cons (show CallT Try.prog 26 [.int .i64 qd, .int .i64 1, .int .i64 4096] (AHeap.rows 35 [(0, b), (9, (.made ([.agg [.slice (some ⟨11, v, 0, 0, 4⟩) q q]]) 1 true)), (10, ro), (11, rT), (22, (.made ([.agg [.int .i64 qa, .int .i64 qb, .int .i64 (inZ2 qc 1 (C : Int)), .int .i64 qd]]) 4 true))]) (.int .i64 (inZ2 qd 1 4096)) (AHeap.rows 35 [(0, b), (9, (.made ([.agg [.slice (some ⟨11, v, 0, 0, 4⟩) q q]]) 1 true)), (10, ro), (11, rT), (22, (.made ([.agg [.int .i64 qa, .int .i64 qb, .int .i64 (inZ2 qc 1 (C : Int)), .int .i64 qd]]) 4 true))]) from ⟨(rwithin_does _ _ _ (by first | omega | (simp only [inZ2]; omega)) _)⟩) (All.cons hc_5 (All.cons (show CallT Try.prog 26 [.int .i64 qa, .int .i64 (-1), .int .i64 ((C : Int) - inZ2 qc 1 (C : Int))] (AHeap.rows 44 [(0, b), (9, (.made ([.agg [.slice (some ⟨11, v, 0, 0, 4⟩) q q]]) 1 true)), (10, ro), (11, rT), (22, (.made ([.agg [.int .i64 qa, .int .i64 qb, .int .i64 (inZ2 qc 1 (C : Int)), .int .i64 (inZ2 qd 1 4096)]]) 4 true))]) (.int .i64 (inZ2 qa (-1) ((C : Int) - inZ2 qc 1 (C : Int)))) (AHeap.rows 44 [(0, b), (9, (.made ([.agg [.slice (some ⟨11, v, 0, 0, 4⟩) q q]]) 1 true)), (10, ro), (11, rT), (22, (.made ([.agg [.int .i64 qa, .int .i64 qb, .int .i64 (inZ2 qc 1 (C : Int)), .int .i64 (inZ2 qd 1 4096)]]) 4 true))]) from ⟨(rwithin_does _ _ _ (by first | omega | (simp only [inZ2]; omega)) _)⟩) (All.cons (show CallT Try.prog 26 [.int .i64 qb, .int .i64 (-1), .int .i64 4096] (AHeap.rows 49 [(0, b), (9, (.made ([.agg [.slice (some ⟨11, v, 0, 0, 4⟩) q q]]) 1 true)), (10, ro), (11, rT), (22, (.made ([.agg [.int .i64 (inZ2 qa (-1) ((C : Int) - inZ2 qc 1 (C : Int))), .int .i64 qb, .int .i64 (inZ2 qc 1 (C : Int)), .int .i64 (inZ2 qd 1 4096)]]) 4 true))]) (.int .i64 (inZ2 qb (-1) 4096)) (AHeap.rows 49 [(0, b), (9, (.made ([.agg [.slice (some ⟨11, v, 0, 0, 4⟩) q q]]) 1 true)), (10, ro), (11, rT), (22, (.made ([.agg [.int .i64 (inZ2 qa (-1) ((C : Int) - inZ2 qc 1 (C : Int))), .int .i64 qb, .int .i64 (inZ2 qc 1 (C : Int)), .int .i64 (inZ2 qd 1 4096)]]) 4 true))]) from ⟨(rwithin_does _ _ _ (by first | omega | (simp only [inZ2]; omega)) _)⟩) (All.cons hc_8 (All.cons (okT hc_9) (All.cons (okT hc_10) (All.cons hc_11 (All.cons hc_12 (All.nil))))))))))))))

theorem rl_end (o : Option AAddr) (n c ver off v q u p i C : Nat) (b rT rT2 ro ro2 : ABlk) (qa qb qc qd : Int) (hC : 1 ≤ C ∧ C ≤ 64) (sT sO : AVal) (hc_0 : ¬ ((i : Int) < (n : Int))) :
    Runs Try.prog 1 133 (loopAt Try.prog 11 0) [(0, .slice o n c), (5, .int .i64 C), (6, .ptr (some ⟨9, 0, 0, 0, 1⟩)), (7, sO), (8, .int .i64 i)] (AHeap.rows 14 [(0, b), (9, .made [.agg [sT]] 1 true), (10, ro), (11, rT)]) (.exit 0) [(5, .int .i64 (C : Int)), (6, .ptr (some ⟨9, 0, 0, 0, 1⟩)), (7, sO)] (AHeap.rows 18 [(0, b), (9, (.made ([.agg [sT]]) 1 true)), (10, ro), (11, rT)]) :=
  ppath_runs env_ok mixed (hs := [.val 7003 (.bool false)]) (keep := [5, 6, 7]) (by kernel_rfl) (All.cons (okF hc_0) (All.nil))

theorem rx_fixed (n v q u mv fk i C : Nat) (b rT rT2 ro : ABlk) (l : List AVal) (y x sa sb sc sd ra rb rc rd : Int) (sT : AVal) (hc_0 : (i : Int) < (n : Int)) (hc_1 : aindexAddr env.D 22 (.slice (some ⟨10, u, 0, 0, 4⟩) n n) (.int .i64 (i : Int)) = some (.ptr (some ⟨10, u, 0 + i, 0, 4⟩))) (hc_2 : ABlk.elem? ⟨l, 4, false, false, u, mv, fk⟩ u (0 + i) = some (.agg [.int .i64 sa, .int .i64 sb, .int .i64 sc, .int .i64 sd])) (hc_3 : sa ≥ 0) (hc_4 : sb ≥ 0) (hc_5 : -9223372036854775808 ≤ (i : Int) + 1 ∧ (i : Int) + (1 : Int) ≤ 9223372036854775807) :
    Runs Try.prog 1 133 (loopAt Try.prog 11 1) [(5, .int .i64 C), (6, .ptr (some ⟨9, 0, 0, 0, 1⟩)), (7, .slice (some ⟨10, u, 0, 0, 4⟩) n n), (10, .int .i64 y), (11, .int .i64 x), (12, .int .i64 i)] (AHeap.rows 14 [(0, b), (9, .made [.agg [sT]] 1 true), (10, ⟨l, 4, false, false, u, mv, fk⟩), (11, rT)]) .normal [(5, .int .i64 (C : Int)), (6, .ptr (some ⟨9, 0, 0, 0, 1⟩)), (7, .slice (some ⟨10, u, 0, 0, 4⟩) n n), (10, .int .i64 y), (11, .int .i64 x), (12, .int .i64 ((i : Int) + 1))] (AHeap.rows 36 [(0, b), (9, (.made ([.agg [sT]]) 1 true)), (10, ⟨l, 4, false, false, u, mv, fk⟩), (11, rT), (22, (.made ([.agg [.int .i64 sa, .int .i64 sb, .int .i64 sc, .int .i64 sd]]) 4 true))]) :=
  ppath_runs env_ok mixed (hs := [.val 20003 (.bool true), .val 22002 (.ptr (some ⟨10, u, 0 + i, 0, 4⟩)), .ld 22003 (.agg [.int .i64 sa, .int .i64 sb, .int .i64 sc, .int .i64 sd]), .val 26002 (.bool true), .val 26006 (.bool true), .go 21001]) (keep := [5, 6, 7, 10, 11, 12]) (by kernel_rfl) (All.cons (okT hc_0) (All.cons hc_1 (All.cons hc_2 (All.cons (okT hc_3) (All.cons (okT hc_4) (All.cons hc_5 (All.nil)))))))

theorem rx_ac_new (n v q u mv fk i C : Nat) (b rT rT2 ro : ABlk) (l : List AVal) (y x sa sb sc sd ra rb rc rd : Int) (hc_0 : (i : Int) < (n : Int)) (hc_1 : aindexAddr env.D 22 (.slice (some ⟨10, u, 0, 0, 4⟩) n n) (.int .i64 (i : Int)) = some (.ptr (some ⟨10, u, 0 + i, 0, 4⟩))) (hc_2 : ABlk.elem? ⟨l, 4, false, false, u, mv, fk⟩ u (0 + i) = some (.agg [.int .i64 sa, .int .i64 sb, .int .i64 sc, .int .i64 sd])) (hc_3 : ¬ (sa ≥ 0)) (hc_4 : sb ≥ 0) (hc_5 : FDoes Try.prog 27 [.ptr (some ⟨9, 0, 0, 0, 1⟩), .agg [.int .i64 sa, .int .i64 sb, .int .i64 sc, .int .i64 sd], .int .i64 (C : Int)] (AHeap.rows 42 [(0, b), (9, (.made ([.agg [.slice none 0 0]]) 1 true)), (10, ⟨l, 4, false, false, u, mv, fk⟩), (22, (.made ([.agg [.int .i64 sa, .int .i64 sb, .int .i64 sc, .int .i64 sd]]) 4 true))]) (.agg [.int .i64 ra, .int .i64 rb, .int .i64 rc, .int .i64 rd]) (AHeap.rows 42 [(0, b), (9, (.made ([.agg [.slice none 0 0]]) 1 true)), (10, ⟨l, 4, false, false, u, mv, fk⟩), (22, (.made ([.agg [.int .i64 sa, .int .i64 sb, .int .i64 sc, .int .i64 sd]]) 4 true))])) (hc_6 : aindexAddr env.D 22 (.slice (some ⟨10, u, 0, 0, 4⟩) n n) (.int .i64 (i : Int)) = some (.ptr (some ⟨10, u, 0 + i, 0, 4⟩))) (hc_7 : u = u ∧ l[0 + i]? = some (.agg [.int .i64 sa, .int .i64 sb, .int .i64 sc, .int .i64 sd])) (hc_8 : abuiltin env Builtin.append { toList := [22, 22] } [.slice none 0 0, .slice (some ⟨53, 0, 0, 0, 4⟩) 1 1] 54 (AHeap.set (AHeap.rows 58 [(0, b), (9, (.made ([.agg [.slice none 0 0]]) 1 true)), (10, ⟨List.set l (0 + i) (.agg [.int .i64 ra, .int .i64 rb, .int .i64 rc, .int .i64 rd]), 4, false, false, u, u, fk⟩), (22, (.made ([.agg [.int .i64 ra, .int .i64 rb, .int .i64 rc, .int .i64 rd]]) 4 true))]) 53 (.made [.agg [.int .i64 ra, .int .i64 rb, .int .i64 rc, .int .i64 rd]] 4 true)) = some (.slice (some ⟨54, 0, 0, 0, 4⟩) 1 1, (AHeap.rows 58 [(0, b), (9, (.made ([.agg [.slice none 0 0]]) 1 true)), (10, ⟨List.set l (0 + i) (.agg [.int .i64 ra, .int .i64 rb, .int .i64 rc, .int .i64 rd]), 4, false, false, u, u, fk⟩), (22, (.made ([.agg [.int .i64 ra, .int .i64 rb, .int .i64 rc, .int .i64 rd]]) 4 true)), (53, .made [.agg [.int .i64 ra, .int .i64 rb, .int .i64 rc, .int .i64 rd]] 4 true), (54, rT2)]))) (hc_9 : -9223372036854775808 ≤ (i : Int) + 1 ∧ (i : Int) + (1 : Int) ≤ 9223372036854775807) :
    Runs Try.prog 1 133 (loopAt Try.prog 11 1) [(5, .int .i64 C), (6, .ptr (some ⟨9, 0, 0, 0, 1⟩)), (7, .slice (some ⟨10, u, 0, 0, 4⟩) n n), (10, .int .i64 y), (11, .int .i64 x), (12, .int .i64 i)] (AHeap.rows 14 [(0, b), (9, .made [.agg [.slice none 0 0]] 1 true), (10, ⟨l, 4, false, false, u, mv, fk⟩)]) .normal [(5, .int .i64 (C : Int)), (6, .ptr (some ⟨9, 0, 0, 0, 1⟩)), (7, .slice (some ⟨10, u, 0, 0, 4⟩) n n), (10, .int .i64 y), (11, .int .i64 x), (12, .int .i64 ((i : Int) + 1))] (AHeap.rows 61 [(0, b), (9, (.made ([.agg [.slice (some ⟨54, 0, 0, 0, 4⟩) 1 1]]) 1 true)), (10, ⟨List.set l (0 + i) (.agg [.int .i64 ra, .int .i64 rb, .int .i64 rc, .int .i64 rd]), 4, false, false, u, u, fk⟩), (22, (.made ([.agg [.int .i64 ra, .int .i64 rb, .int .i64 rc, .int .i64 rd]]) 4 true)), (53, .made [.agg [.int .i64 ra, .int .i64 rb, .int .i64 rc, .int .i64 rd]] 4 true), (54, rT2)]) :=
  ppath_runs env_ok mixed (hs := [.val 20003 (.bool true), .val 22002 (.ptr (some ⟨10, u, 0 + i, 0, 4⟩)), .ld 22003 (.agg [.int .i64 sa, .int .i64 sb, .int .i64 sc, .int .i64 sd]), .val 26002 (.bool false), .val 27002 (.bool true), .val 28003 (.agg [.int .i64 ra, .int .i64 rb, .int .i64 rc, .int .i64 rd]), .val 31003 (.ptr (some ⟨10, u, 0 + i, 0, 4⟩)), .st 31004 (.agg [.int .i64 sa, .int .i64 sb, .int .i64 sc, .int .i64 sd]), .act 32007 (.slice (some ⟨54, 0, 0, 0, 4⟩) 1 1) (fun h => h.set 54 rT2), .go 21001]) (keep := [5, 6, 7, 10, 11, 12]) (by kernel_rfl) (All.cons (okT hc_0) (All.cons hc_1 (All.cons hc_2 (All.cons (okF hc_3) (All.cons (okT hc_4) (All.cons (CallT.mk hc_5) (All.cons hc_6 (All.cons hc_7 (All.cons hc_8 (All.cons hc_9 (All.nil)))))))))))

theorem rx_ac_grow (n v q u mv fk i C : Nat) (b rT rT2 ro : ABlk) (l : List AVal) (y x sa sb sc sd ra rb rc rd : Int) (hc_0 : (i : Int) < (n : Int)) (hc_1 : aindexAddr env.D 22 (.slice (some ⟨10, u, 0, 0, 4⟩) n n) (.int .i64 (i : Int)) = some (.ptr (some ⟨10, u, 0 + i, 0, 4⟩))) (hc_2 : ABlk.elem? ⟨l, 4, false, false, u, mv, fk⟩ u (0 + i) = some (.agg [.int .i64 sa, .int .i64 sb, .int .i64 sc, .int .i64 sd])) (hc_3 : ¬ (sa ≥ 0)) (hc_4 : sb ≥ 0) (hc_5 : FDoes Try.prog 27 [.ptr (some ⟨9, 0, 0, 0, 1⟩), .agg [.int .i64 sa, .int .i64 sb, .int .i64 sc, .int .i64 sd], .int .i64 (C : Int)] (AHeap.rows 42 [(0, b), (9, (.made ([.agg [.slice (some ⟨11, v, 0, 0, 4⟩) q q]]) 1 true)), (10, ⟨l, 4, false, false, u, mv, fk⟩), (11, rT), (22, (.made ([.agg [.int .i64 sa, .int .i64 sb, .int .i64 sc, .int .i64 sd]]) 4 true))]) (.agg [.int .i64 ra, .int .i64 rb, .int .i64 rc, .int .i64 rd]) (AHeap.rows 42 [(0, b), (9, (.made ([.agg [.slice (some ⟨11, v, 0, 0, 4⟩) q q]]) 1 true)), (10, ⟨l, 4, false, false, u, mv, fk⟩), (11, rT), (22, (.made ([.agg [.int .i64 sa, .int .i64 sb, .int .i64 sc, .int .i64 sd]]) 4 true))])) (hc_6 : aindexAddr env.D 22 (.slice (some ⟨10, u, 0, 0, 4⟩) n n) (.int .i64 (i : Int)) = some (.ptr (some ⟨10, u, 0 + i, 0, 4⟩))) (hc_7 : u = u ∧ l[0 + i]? = some (.agg [.int .i64 sa, .int .i64 sb, .int .i64 sc, .int .i64 sd])) (hc_8 : abuiltin env Builtin.append { toList := [22, 22] } [.slice (some ⟨11, v, 0, 0, 4⟩) q q, .slice (some ⟨53, 0, 0, 0, 4⟩) 1 1] 54 (AHeap.set (AHeap.rows 58 [(0, b), (9, (.made ([.agg [.slice (some ⟨11, v, 0, 0, 4⟩) q q]]) 1 true)), (10, ⟨List.set l (0 + i) (.agg [.int .i64 ra, .int .i64 rb, .int .i64 rc, .int .i64 rd]), 4, false, false, u, u, fk⟩), (11, rT), (22, (.made ([.agg [.int .i64 ra, .int .i64 rb, .int .i64 rc, .int .i64 rd]]) 4 true))]) 53 (.made [.agg [.int .i64 ra, .int .i64 rb, .int .i64 rc, .int .i64 rd]] 4 true)) = some (.slice (some ⟨11, v + 1, 0, 0, 4⟩) (q + 1) (q + 1), (AHeap.rows 58 [(0, b), (9, (.made ([.agg [.slice (some ⟨11, v, 0, 0, 4⟩) q q]]) 1 true)), (10, ⟨List.set l (0 + i) (.agg [.int .i64 ra, .int .i64 rb, .int .i64 rc, .int .i64 rd]), 4, false, false, u, u, fk⟩), (11, rT2), (22, (.made ([.agg [.int .i64 ra, .int .i64 rb, .int .i64 rc, .int .i64 rd]]) 4 true)), (53, .made [.agg [.int .i64 ra, .int .i64 rb, .int .i64 rc, .int .i64 rd]] 4 true)]))) (hc_9 : -9223372036854775808 ≤ (i : Int) + 1 ∧ (i : Int) + (1 : Int) ≤ 9223372036854775807) :
    Runs Try.prog 1 133 (loopAt Try.prog 11 1) [(5, .int .i64 C), (6, .ptr (some ⟨9, 0, 0, 0, 1⟩)), (7, .slice (some ⟨10, u, 0, 0, 4⟩) n n), (10, .int .i64 y), (11, .int .i64 x), (12, .int .i64 i)] (AHeap.rows 14 [(0, b), (9, .made [.agg [.slice (some ⟨11, v, 0, 0, 4⟩) q q]] 1 true), (10, ⟨l, 4, false, false, u, mv, fk⟩), (11, rT)]) .normal [(5, .int .i64 (C : Int)), (6, .ptr (some ⟨9, 0, 0, 0, 1⟩)), (7, .slice (some ⟨10, u, 0, 0, 4⟩) n n), (10, .int .i64 y), (11, .int .i64 x), (12, .int .i64 ((i : Int) + 1))] (AHeap.rows 61 [(0, b), (9, (.made ([.agg [.slice (some ⟨11, v + 1, 0, 0, 4⟩) (q + 1) (q + 1)]]) 1 true)), (10, ⟨List.set l (0 + i) (.agg [.int .i64 ra, .int .i64 rb, .int .i64 rc, .int .i64 rd]), 4, false, false, u, u, fk⟩), (11, rT2), (22, (.made ([.agg [.int .i64 ra, .int .i64 rb, .int .i64 rc, .int .i64 rd]]) 4 true)), (53, .made [.agg [.int .i64 ra, .int .i64 rb, .int .i64 rc, .int .i64 rd]] 4 true)]) :=
  ppath_runs env_ok mixed (hs := [.val 20003 (.bool true), .val 22002 (.ptr (some ⟨10, u, 0 + i, 0, 4⟩)), .ld 22003 (.agg [.int .i64 sa, .int .i64 sb, .int .i64 sc, .int .i64 sd]), .val 26002 (.bool false), .val 27002 (.bool true), .val 28003 (.agg [.int .i64 ra, .int .i64 rb, .int .i64 rc, .int .i64 rd]), .val 31003 (.ptr (some ⟨10, u, 0 + i, 0, 4⟩)), .st 31004 (.agg [.int .i64 sa, .int .i64 sb, .int .i64 sc, .int .i64 sd]), .act 32007 (.slice (some ⟨11, v + 1, 0, 0, 4⟩) (q + 1) (q + 1)) (fun h => h.set 11 rT2), .go 21001]) (keep := [5, 6, 7, 10, 11, 12]) (by kernel_rfl) (All.cons (okT hc_0) (All.cons hc_1 (All.cons hc_2 (All.cons (okF hc_3) (All.cons (okT hc_4) (All.cons (CallT.mk hc_5) (All.cons hc_6 (All.cons hc_7 (All.cons hc_8 (All.cons hc_9 (All.nil)))))))))))

theorem rx_dn_new (n v q u mv fk i C : Nat) (b rT rT2 ro : ABlk) (l : List AVal) (y x sa sb sc sd ra rb rc rd : Int) (hc_0 : (i : Int) < (n : Int)) (hc_1 : aindexAddr env.D 22 (.slice (some ⟨10, u, 0, 0, 4⟩) n n) (.int .i64 (i : Int)) = some (.ptr (some ⟨10, u, 0 + i, 0, 4⟩))) (hc_2 : ABlk.elem? ⟨l, 4, false, false, u, mv, fk⟩ u (0 + i) = some (.agg [.int .i64 sa, .int .i64 sb, .int .i64 sc, .int .i64 sd])) (hc_3 : sa ≥ 0) (hc_4 : ¬ (sb ≥ 0)) (hc_5 : ¬ (sb ≥ 0)) (hc_6 : sa ≥ 0) (hc_7 : FDoes Try.prog 28 [.ptr (some ⟨9, 0, 0, 0, 1⟩), .agg [.int .i64 sa, .int .i64 sb, .int .i64 sc, .int .i64 sd]] (AHeap.rows 45 [(0, b), (9, (.made ([.agg [.slice none 0 0]]) 1 true)), (10, ⟨l, 4, false, false, u, mv, fk⟩), (22, (.made ([.agg [.int .i64 sa, .int .i64 sb, .int .i64 sc, .int .i64 sd]]) 4 true))]) (.agg [.int .i64 ra, .int .i64 rb, .int .i64 rc, .int .i64 rd]) (AHeap.rows 45 [(0, b), (9, (.made ([.agg [.slice none 0 0]]) 1 true)), (10, ⟨l, 4, false, false, u, mv, fk⟩), (22, (.made ([.agg [.int .i64 sa, .int .i64 sb, .int .i64 sc, .int .i64 sd]]) 4 true))])) (hc_8 : aindexAddr env.D 22 (.slice (some ⟨10, u, 0, 0, 4⟩) n n) (.int .i64 (i : Int)) = some (.ptr (some ⟨10, u, 0 + i, 0, 4⟩))) (hc_9 : u = u ∧ l[0 + i]? = some (.agg [.int .i64 sa, .int .i64 sb, .int .i64 sc, .int .i64 sd])) (hc_10 : abuiltin env Builtin.append { toList := [22, 22] } [.slice none 0 0, .slice (some ⟨56, 0, 0, 0, 4⟩) 1 1] 57 (AHeap.set (AHeap.rows 61 [(0, b), (9, (.made ([.agg [.slice none 0 0]]) 1 true)), (10, ⟨List.set l (0 + i) (.agg [.int .i64 ra, .int .i64 rb, .int .i64 rc, .int .i64 rd]), 4, false, false, u, u, fk⟩), (22, (.made ([.agg [.int .i64 ra, .int .i64 rb, .int .i64 rc, .int .i64 rd]]) 4 true))]) 56 (.made [.agg [.int .i64 ra, .int .i64 rb, .int .i64 rc, .int .i64 rd]] 4 true)) = some (.slice (some ⟨57, 0, 0, 0, 4⟩) 1 1, (AHeap.rows 61 [(0, b), (9, (.made ([.agg [.slice none 0 0]]) 1 true)), (10, ⟨List.set l (0 + i) (.agg [.int .i64 ra, .int .i64 rb, .int .i64 rc, .int .i64 rd]), 4, false, false, u, u, fk⟩), (22, (.made ([.agg [.int .i64 ra, .int .i64 rb, .int .i64 rc, .int .i64 rd]]) 4 true)), (56, .made [.agg [.int .i64 ra, .int .i64 rb, .int .i64 rc, .int .i64 rd]] 4 true), (57, rT2)]))) (hc_11 : -9223372036854775808 ≤ (i : Int) + 1 ∧ (i : Int) + (1 : Int) ≤ 9223372036854775807) :
    Runs Try.prog 1 133 (loopAt Try.prog 11 1) [(5, .int .i64 C), (6, .ptr (some ⟨9, 0, 0, 0, 1⟩)), (7, .slice (some ⟨10, u, 0, 0, 4⟩) n n), (10, .int .i64 y), (11, .int .i64 x), (12, .int .i64 i)] (AHeap.rows 14 [(0, b), (9, .made [.agg [.slice none 0 0]] 1 true), (10, ⟨l, 4, false, false, u, mv, fk⟩)]) .normal [(5, .int .i64 (C : Int)), (6, .ptr (some ⟨9, 0, 0, 0, 1⟩)), (7, .slice (some ⟨10, u, 0, 0, 4⟩) n n), (10, .int .i64 y), (11, .int .i64 x), (12, .int .i64 ((i : Int) + 1))] (AHeap.rows 64 [(0, b), (9, (.made ([.agg [.slice (some ⟨57, 0, 0, 0, 4⟩) 1 1]]) 1 true)), (10, ⟨List.set l (0 + i) (.agg [.int .i64 ra, .int .i64 rb, .int .i64 rc, .int .i64 rd]), 4, false, false, u, u, fk⟩), (22, (.made ([.agg [.int .i64 ra, .int .i64 rb, .int .i64 rc, .int .i64 rd]]) 4 true)), (56, .made [.agg [.int .i64 ra, .int .i64 rb, .int .i64 rc, .int .i64 rd]] 4 true), (57, rT2)]) :=
  ppath_runs env_ok mixed (hs := [.val 20003 (.bool true), .val 22002 (.ptr (some ⟨10, u, 0 + i, 0, 4⟩)), .ld 22003 (.agg [.int .i64 sa, .int .i64 sb, .int .i64 sc, .int .i64 sd]), .val 26002 (.bool true), .val 26006 (.bool false), .val 27002 (.bool false), .val 29002 (.bool true), .val 30002 (.agg [.int .i64 ra, .int .i64 rb, .int .i64 rc, .int .i64 rd]), .val 31003 (.ptr (some ⟨10, u, 0 + i, 0, 4⟩)), .st 31004 (.agg [.int .i64 sa, .int .i64 sb, .int .i64 sc, .int .i64 sd]), .act 32007 (.slice (some ⟨57, 0, 0, 0, 4⟩) 1 1) (fun h => h.set 57 rT2), .go 21001]) (keep := [5, 6, 7, 10, 11, 12]) (by kernel_rfl) (All.cons (okT hc_0) (All.cons hc_1 (All.cons hc_2 (All.cons (okT hc_3) (All.cons (okF hc_4) (All.cons (okF hc_5) (All.cons (okT hc_6) (All.cons (CallT.mk hc_7) (All.cons hc_8 (All.cons hc_9 (All.cons hc_10 (All.cons hc_11 (All.nil)))))))))))))

theorem rx_dn_grow (n v q u mv fk i C : Nat) (b rT rT2 ro : ABlk) (l : List AVal) (y x sa sb sc sd ra rb rc rd : Int) (hc_0 : (i : Int) < (n : Int)) (hc_1 : aindexAddr env.D 22 (.slice (some ⟨10, u, 0, 0, 4⟩) n n) (.int .i64 (i : Int)) = some (.ptr (some ⟨10, u, 0 + i, 0, 4⟩))) (hc_2 : ABlk.elem? ⟨l, 4, false, false, u, mv, fk⟩ u (0 + i) = some (.agg [.int .i64 sa, .int .i64 sb, .int .i64 sc, .int .i64 sd])) (hc_3 : sa ≥ 0) (hc_4 : ¬ (sb ≥ 0)) (hc_5 : ¬ (sb ≥ 0)) (hc_6 : sa ≥ 0) (hc_7 : FDoes Try.prog 28 [.ptr (some ⟨9, 0, 0, 0, 1⟩), .agg [.int .i64 sa, .int .i64 sb, .int .i64 sc, .int .i64 sd]] (AHeap.rows 45 [(0, b), (9, (.made ([.agg [.slice (some ⟨11, v, 0, 0, 4⟩) q q]]) 1 true)), (10, ⟨l, 4, false, false, u, mv, fk⟩), (11, rT), (22, (.made ([.agg [.int .i64 sa, .int .i64 sb, .int .i64 sc, .int .i64 sd]]) 4 true))]) (.agg [.int .i64 ra, .int .i64 rb, .int .i64 rc, .int .i64 rd]) (AHeap.rows 45 [(0, b), (9, (.made ([.agg [.slice (some ⟨11, v, 0, 0, 4⟩) q q]]) 1 true)), (10, ⟨l, 4, false, false, u, mv, fk⟩), (11, rT), (22, (.made ([.agg [.int .i64 sa, .int .i64 sb, .int .i64 sc, .int .i64 sd]]) 4 true))])) (hc_8 : aindexAddr env.D 22 (.slice (some ⟨10, u, 0, 0, 4⟩) n n) (.int .i64 (i : Int)) = some (.ptr (some ⟨10, u, 0 + i, 0, 4⟩))) (hc_9 : u = u ∧ l[0 + i]? = some (.agg [.int .i64 sa, .int .i64 sb, .int .i64 sc, .int .i64 sd])) (hc_10 : abuiltin env Builtin.append { toList := [22, 22] } [.slice (some ⟨11, v, 0, 0, 4⟩) q q, .slice (some ⟨56, 0, 0, 0, 4⟩) 1 1] 57 (AHeap.set (AHeap.rows 61 [(0, b), (9, (.made ([.agg [.slice (some ⟨11, v, 0, 0, 4⟩) q q]]) 1 true)), (10, ⟨List.set l (0 + i) (.agg [.int .i64 ra, .int .i64 rb, .int .i64 rc, .int .i64 rd]), 4, false, false, u, u, fk⟩), (11, rT), (22, (.made ([.agg [.int .i64 ra, .int .i64 rb, .int .i64 rc, .int .i64 rd]]) 4 true))]) 56 (.made [.agg [.int .i64 ra, .int .i64 rb, .int .i64 rc, .int .i64 rd]] 4 true)) = some (.slice (some ⟨11, v + 1, 0, 0, 4⟩) (q + 1) (q + 1), (AHeap.rows 61 [(0, b), (9, (.made ([.agg [.slice (some ⟨11, v, 0, 0, 4⟩) q q]]) 1 true)), (10, ⟨List.set l (0 + i) (.agg [.int .i64 ra, .int .i64 rb, .int .i64 rc, .int .i64 rd]), 4, false, false, u, u, fk⟩), (11, rT2), (22, (.made ([.agg [.int .i64 ra, .int .i64 rb, .int .i64 rc, .int .i64 rd]]) 4 true)), (56, .made [.agg [.int .i64 ra, .int .i64 rb, .int .i64 rc, .int .i64 rd]] 4 true)]))) (hc_11 : -9223372036854775808 ≤ (i : Int) + 1 ∧ (i : Int) + (1 : Int) ≤ 9223372036854775807) :
    Runs Try.prog 1 133 (loopAt Try.prog 11 1) [(5, .int .i64 C), (6, .ptr (some ⟨9, 0, 0, 0, 1⟩)), (7, .slice (some ⟨10, u, 0, 0, 4⟩) n n), (10, .int .i64 y), (11, .int .i64 x), (12, .int .i64 i)] (AHeap.rows 14 [(0, b), (9, .made [.agg [.slice (some ⟨11, v, 0, 0, 4⟩) q q]] 1 true), (10, ⟨l, 4, false, false, u, mv, fk⟩), (11, rT)]) .normal [(5, .int .i64 (C : Int)), (6, .ptr (some ⟨9, 0, 0, 0, 1⟩)), (7, .slice (some ⟨10, u, 0, 0, 4⟩) n n), (10, .int .i64 y), (11, .int .i64 x), (12, .int .i64 ((i : Int) + 1))] (AHeap.rows 64 [(0, b), (9, (.made ([.agg [.slice (some ⟨11, v + 1, 0, 0, 4⟩) (q + 1) (q + 1)]]) 1 true)), (10, ⟨List.set l (0 + i) (.agg [.int .i64 ra, .int .i64 rb, .int .i64 rc, .int .i64 rd]), 4, false, false, u, u, fk⟩), (11, rT2), (22, (.made ([.agg [.int .i64 ra, .int .i64 rb, .int .i64 rc, .int .i64 rd]]) 4 true)), (56, .made [.agg [.int .i64 ra, .int .i64 rb, .int .i64 rc, .int .i64 rd]] 4 true)]) :=
  ppath_runs env_ok mixed (hs := [.val 20003 (.bool true), .val 22002 (.ptr (some ⟨10, u, 0 + i, 0, 4⟩)), .ld 22003 (.agg [.int .i64 sa, .int .i64 sb, .int .i64 sc, .int .i64 sd]), .val 26002 (.bool true), .val 26006 (.bool false), .val 27002 (.bool false), .val 29002 (.bool true), .val 30002 (.agg [.int .i64 ra, .int .i64 rb, .int .i64 rc, .int .i64 rd]), .val 31003 (.ptr (some ⟨10, u, 0 + i, 0, 4⟩)), .st 31004 (.agg [.int .i64 sa, .int .i64 sb, .int .i64 sc, .int .i64 sd]), .act 32007 (.slice (some ⟨11, v + 1, 0, 0, 4⟩) (q + 1) (q + 1)) (fun h => h.set 11 rT2), .go 21001]) (keep := [5, 6, 7, 10, 11, 12]) (by kernel_rfl) (All.cons (okT hc_0) (All.cons hc_1 (All.cons hc_2 (All.cons (okT hc_3) (All.cons (okF hc_4) (All.cons (okF hc_5) (All.cons (okT hc_6) (All.cons (CallT.mk hc_7) (All.cons hc_8 (All.cons hc_9 (All.cons hc_10 (All.cons hc_11 (All.nil)))))))))))))

theorem rx_bh_new (n v q u mv fk i C : Nat) (b rT rT2 ro : ABlk) (l : List AVal) (y x sa sb sc sd ra rb rc rd : Int) (hc_0 : (i : Int) < (n : Int)) (hc_1 : aindexAddr env.D 22 (.slice (some ⟨10, u, 0, 0, 4⟩) n n) (.int .i64 (i : Int)) = some (.ptr (some ⟨10, u, 0 + i, 0, 4⟩))) (hc_2 : ABlk.elem? ⟨l, 4, false, false, u, mv, fk⟩ u (0 + i) = some (.agg [.int .i64 sa, .int .i64 sb, .int .i64 sc, .int .i64 sd])) (hc_3 : ¬ (sa ≥ 0)) (hc_4 : ¬ (sb ≥ 0)) (hc_5 : ¬ (sa ≥ 0)) (hc_6 : FDoes Try.prog 29 [.ptr (some ⟨9, 0, 0, 0, 1⟩), .agg [.int .i64 sa, .int .i64 sb, .int .i64 sc, .int .i64 sd], .int .i64 y, .int .i64 x, .int .i64 (C : Int)] (AHeap.rows 48 [(0, b), (9, (.made ([.agg [.slice none 0 0]]) 1 true)), (10, ⟨l, 4, false, false, u, mv, fk⟩), (22, (.made ([.agg [.int .i64 sa, .int .i64 sb, .int .i64 sc, .int .i64 sd]]) 4 true))]) (.agg [.int .i64 ra, .int .i64 rb, .int .i64 rc, .int .i64 rd]) (AHeap.rows 48 [(0, b), (9, (.made ([.agg [.slice none 0 0]]) 1 true)), (10, ⟨l, 4, false, false, u, mv, fk⟩), (22, (.made ([.agg [.int .i64 sa, .int .i64 sb, .int .i64 sc, .int .i64 sd]]) 4 true))])) (hc_7 : aindexAddr env.D 22 (.slice (some ⟨10, u, 0, 0, 4⟩) n n) (.int .i64 (i : Int)) = some (.ptr (some ⟨10, u, 0 + i, 0, 4⟩))) (hc_8 : u = u ∧ l[0 + i]? = some (.agg [.int .i64 sa, .int .i64 sb, .int .i64 sc, .int .i64 sd])) (hc_9 : abuiltin env Builtin.append { toList := [22, 22] } [.slice none 0 0, .slice (some ⟨65, 0, 0, 0, 4⟩) 1 1] 66 (AHeap.set (AHeap.rows 70 [(0, b), (9, (.made ([.agg [.slice none 0 0]]) 1 true)), (10, ⟨List.set l (0 + i) (.agg [.int .i64 ra, .int .i64 rb, .int .i64 rc, .int .i64 rd]), 4, false, false, u, u, fk⟩), (22, (.made ([.agg [.int .i64 ra, .int .i64 rb, .int .i64 rc, .int .i64 rd]]) 4 true))]) 65 (.made [.agg [.int .i64 ra, .int .i64 rb, .int .i64 rc, .int .i64 rd]] 4 true)) = some (.slice (some ⟨66, 0, 0, 0, 4⟩) 1 1, (AHeap.rows 70 [(0, b), (9, (.made ([.agg [.slice none 0 0]]) 1 true)), (10, ⟨List.set l (0 + i) (.agg [.int .i64 ra, .int .i64 rb, .int .i64 rc, .int .i64 rd]), 4, false, false, u, u, fk⟩), (22, (.made ([.agg [.int .i64 ra, .int .i64 rb, .int .i64 rc, .int .i64 rd]]) 4 true)), (65, .made [.agg [.int .i64 ra, .int .i64 rb, .int .i64 rc, .int .i64 rd]] 4 true), (66, rT2)]))) (hc_10 : -9223372036854775808 ≤ (i : Int) + 1 ∧ (i : Int) + (1 : Int) ≤ 9223372036854775807) :
    Runs Try.prog 1 133 (loopAt Try.prog 11 1) [(5, .int .i64 C), (6, .ptr (some ⟨9, 0, 0, 0, 1⟩)), (7, .slice (some ⟨10, u, 0, 0, 4⟩) n n), (10, .int .i64 y), (11, .int .i64 x), (12, .int .i64 i)] (AHeap.rows 14 [(0, b), (9, .made [.agg [.slice none 0 0]] 1 true), (10, ⟨l, 4, false, false, u, mv, fk⟩)]) .normal [(5, .int .i64 (C : Int)), (6, .ptr (some ⟨9, 0, 0, 0, 1⟩)), (7, .slice (some ⟨10, u, 0, 0, 4⟩) n n), (10, .int .i64 rb), (11, .int .i64 ra), (12, .int .i64 ((i : Int) + 1))] (AHeap.rows 73 [(0, b), (9, (.made ([.agg [.slice (some ⟨66, 0, 0, 0, 4⟩) 1 1]]) 1 true)), (10, ⟨List.set l (0 + i) (.agg [.int .i64 ra, .int .i64 rb, .int .i64 rc, .int .i64 rd]), 4, false, false, u, u, fk⟩), (22, (.made ([.agg [.int .i64 ra, .int .i64 rb, .int .i64 rc, .int .i64 rd]]) 4 true)), (65, .made [.agg [.int .i64 ra, .int .i64 rb, .int .i64 rc, .int .i64 rd]] 4 true), (66, rT2)]) :=
  ppath_runs env_ok mixed (hs := [.val 20003 (.bool true), .val 22002 (.ptr (some ⟨10, u, 0 + i, 0, 4⟩)), .ld 22003 (.agg [.int .i64 sa, .int .i64 sb, .int .i64 sc, .int .i64 sd]), .val 26002 (.bool false), .val 27002 (.bool false), .val 29002 (.bool false), .val 23005 (.agg [.int .i64 ra, .int .i64 rb, .int .i64 rc, .int .i64 rd]), .val 31003 (.ptr (some ⟨10, u, 0 + i, 0, 4⟩)), .st 31004 (.agg [.int .i64 sa, .int .i64 sb, .int .i64 sc, .int .i64 sd]), .act 32007 (.slice (some ⟨66, 0, 0, 0, 4⟩) 1 1) (fun h => h.set 66 rT2), .go 21001]) (keep := [5, 6, 7, 10, 11, 12]) (by kernel_rfl) (All.cons (okT hc_0) (All.cons hc_1 (All.cons hc_2 (All.cons (okF hc_3) (All.cons (okF hc_4) (All.cons (okF hc_5) (All.cons (CallT.mk hc_6) (All.cons hc_7 (All.cons hc_8 (All.cons hc_9 (All.cons hc_10 (All.nil))))))))))))

theorem rx_bh_grow (n v q u mv fk i C : Nat) (b rT rT2 ro : ABlk) (l : List AVal) (y x sa sb sc sd ra rb rc rd : Int) (hc_0 : (i : Int) < (n : Int)) (hc_1 : aindexAddr env.D 22 (.slice (some ⟨10, u, 0, 0, 4⟩) n n) (.int .i64 (i : Int)) = some (.ptr (some ⟨10, u, 0 + i, 0, 4⟩))) (hc_2 : ABlk.elem? ⟨l, 4, false, false, u, mv, fk⟩ u (0 + i) = some (.agg [.int .i64 sa, .int .i64 sb, .int .i64 sc, .int .i64 sd])) (hc_3 : ¬ (sa ≥ 0)) (hc_4 : ¬ (sb ≥ 0)) (hc_5 : ¬ (sa ≥ 0)) (hc_6 : FDoes Try.prog 29 [.ptr (some ⟨9, 0, 0, 0, 1⟩), .agg [.int .i64 sa, .int .i64 sb, .int .i64 sc, .int .i64 sd], .int .i64 y, .int .i64 x, .int .i64 (C : Int)] (AHeap.rows 48 [(0, b), (9, (.made ([.agg [.slice (some ⟨11, v, 0, 0, 4⟩) q q]]) 1 true)), (10, ⟨l, 4, false, false, u, mv, fk⟩), (11, rT), (22, (.made ([.agg [.int .i64 sa, .int .i64 sb, .int .i64 sc, .int .i64 sd]]) 4 true))]) (.agg [.int .i64 ra, .int .i64 rb, .int .i64 rc, .int .i64 rd]) (AHeap.rows 48 [(0, b), (9, (.made ([.agg [.slice (some ⟨11, v, 0, 0, 4⟩) q q]]) 1 true)), (10, ⟨l, 4, false, false, u, mv, fk⟩), (11, rT), (22, (.made ([.agg [.int .i64 sa, .int .i64 sb, .int .i64 sc, .int .i64 sd]]) 4 true))])) (hc_7 : aindexAddr env.D 22 (.slice (some ⟨10, u, 0, 0, 4⟩) n n) (.int .i64 (i : Int)) = some (.ptr (some ⟨10, u, 0 + i, 0, 4⟩))) (hc_8 : u = u ∧ l[0 + i]? = some (.agg [.int .i64 sa, .int .i64 sb, .int .i64 sc, .int .i64 sd])) (hc_9 : abuiltin env Builtin.append { toList := [22, 22] } [.slice (some ⟨11, v, 0, 0, 4⟩) q q, .slice (some ⟨65, 0, 0, 0, 4⟩) 1 1] 66 (AHeap.set (AHeap.rows 70 [(0, b), (9, (.made ([.agg [.slice (some ⟨11, v, 0, 0, 4⟩) q q]]) 1 true)), (10, ⟨List.set l (0 + i) (.agg [.int .i64 ra, .int .i64 rb, .int .i64 rc, .int .i64 rd]), 4, false, false, u, u, fk⟩), (11, rT), (22, (.made ([.agg [.int .i64 ra, .int .i64 rb, .int .i64 rc, .int .i64 rd]]) 4 true))]) 65 (.made [.agg [.int .i64 ra, .int .i64 rb, .int .i64 rc, .int .i64 rd]] 4 true)) = some (.slice (some ⟨11, v + 1, 0, 0, 4⟩) (q + 1) (q + 1), (AHeap.rows 70 [(0, b), (9, (.made ([.agg [.slice (some ⟨11, v, 0, 0, 4⟩) q q]]) 1 true)), (10, ⟨List.set l (0 + i) (.agg [.int .i64 ra, .int .i64 rb, .int .i64 rc, .int .i64 rd]), 4, false, false, u, u, fk⟩), (11, rT2), (22, (.made ([.agg [.int .i64 ra, .int .i64 rb, .int .i64 rc, .int .i64 rd]]) 4 true)), (65, .made [.agg [.int .i64 ra, .int .i64 rb, .int .i64 rc, .int .i64 rd]] 4 true)]))) (hc_10 : -9223372036854775808 ≤ (i : Int) + 1 ∧ (i : Int) + (1 : Int) ≤ 9223372036854775807) :
    Runs Try.prog 1 133 (loopAt Try.prog 11 1) [(5, .int .i64 C), (6, .ptr (some ⟨9, 0, 0, 0, 1⟩)), (7, .slice (some ⟨10, u, 0, 0, 4⟩) n n), (10, .int .i64 y), (11, .int .i64 x), (12, .int .i64 i)] (AHeap.rows 14 [(0, b), (9, .made [.agg [.slice (some ⟨11, v, 0, 0, 4⟩) q q]] 1 true), (10, ⟨l, 4, false, false, u, mv, fk⟩), (11, rT)]) .normal [(5, .int .i64 (C : Int)), (6, .ptr (some ⟨9, 0, 0, 0, 1⟩)), (7, .slice (some ⟨10, u, 0, 0, 4⟩) n n), (10, .int .i64 rb), (11, .int .i64 ra), (12, .int .i64 ((i : Int) + 1))] (AHeap.rows 73 [(0, b), (9, (.made ([.agg [.slice (some ⟨11, v + 1, 0, 0, 4⟩) (q + 1) (q + 1)]]) 1 true)), (10, ⟨List.set l (0 + i) (.agg [.int .i64 ra, .int .i64 rb, .int .i64 rc, .int .i64 rd]), 4, false, false, u, u, fk⟩), (11, rT2), (22, (.made ([.agg [.int .i64 ra, .int .i64 rb, .int .i64 rc, .int .i64 rd]]) 4 true)), (65, .made [.agg [.int .i64 ra, .int .i64 rb, .int .i64 rc, .int .i64 rd]] 4 true)]) :=
  ppath_runs env_ok mixed (hs := [.val 20003 (.bool true), .val 22002 (.ptr (some ⟨10, u, 0 + i, 0, 4⟩)), .ld 22003 (.agg [.int .i64 sa, .int .i64 sb, .int .i64 sc, .int .i64 sd]), .val 26002 (.bool false), .val 27002 (.bool false), .val 29002 (.bool false), .val 23005 (.agg [.int .i64 ra, .int .i64 rb, .int .i64 rc, .int .i64 rd]), .val 31003 (.ptr (some ⟨10, u, 0 + i, 0, 4⟩)), .st 31004 (.agg [.int .i64 sa, .int .i64 sb, .int .i64 sc, .int .i64 sd]), .act 32007 (.slice (some ⟨11, v + 1, 0, 0, 4⟩) (q + 1) (q + 1)) (fun h => h.set 11 rT2), .go 21001]) (keep := [5, 6, 7, 10, 11, 12]) (by kernel_rfl) (All.cons (okT hc_0) (All.cons hc_1 (All.cons hc_2 (All.cons (okF hc_3) (All.cons (okF hc_4) (All.cons (okF hc_5) (All.cons (CallT.mk hc_6) (All.cons hc_7 (All.cons hc_8 (All.cons hc_9 (All.cons hc_10 (All.nil))))))))))))

theorem rx_end (n v q u mv fk i C : Nat) (b rT rT2 ro : ABlk) (l : List AVal) (y x sa sb sc sd ra rb rc rd : Int) (sT sO : AVal) (hc_0 : ¬ ((i : Int) < (n : Int))) :
    Runs Try.prog 1 133 (loopAt Try.prog 11 1) [(5, .int .i64 C), (6, .ptr (some ⟨9, 0, 0, 0, 1⟩)), (7, .slice (some ⟨10, u, 0, 0, 4⟩) n n), (10, .int .i64 y), (11, .int .i64 x), (12, .int .i64 i)] (AHeap.rows 14 [(0, b), (9, .made [.agg [sT]] 1 true), (10, ⟨l, 4, false, false, u, mv, fk⟩), (11, rT)]) (.exit 2) [(7, .slice (some ⟨10, u, 0, 0, 4⟩) n n)] (AHeap.rows 18 [(0, b), (9, (.made ([.agg [sT]]) 1 true)), (10, ⟨l, 4, false, false, u, mv, fk⟩), (11, rT)]) :=
  ppath_runs env_ok mixed (hs := [.val 20003 (.bool false)]) (keep := [7]) (by kernel_rfl) (All.cons (okF hc_0) (All.nil))

theorem rx_nil (n v q u mv fk i C : Nat) (b rT rT2 ro : ABlk) (l : List AVal) (y x sa sb sc sd ra rb rc rd : Int) (sT : AVal)  :
    Runs Try.prog 1 133 (loopAt Try.prog 11 1) [(5, .int .i64 C), (6, .ptr (some ⟨9, 0, 0, 0, 1⟩)), (7, .slice none 0 0), (10, .int .i64 y), (11, .int .i64 x), (12, .int .i64 i)] (AHeap.rows 14 [(0, b), (9, .made [.agg [sT]] 1 true), (10, ro), (11, rT)]) (.exit 2) [(7, .slice none 0 0)] (AHeap.rows 18 [(0, b), (9, (.made ([.agg [sT]]) 1 true)), (10, ro), (11, rT)]) :=
  ppath_runs env_ok mixed (hs := [.val 20003 (.bool false)]) (keep := [7]) (by kernel_rfl) (All.cons (show some (AVal.bool false) = some (AVal.bool false) from congrArg (fun q => some (AVal.bool q)) (rfl)) (All.nil))

end Go.Proofs.Ytcgcpmcjaeenlaa

namespace Go.Proofs.Ytcgcpmcjaeenlaa
open Go.Lift
set_option maxRecDepth 1000000
set_option linter.unusedSimpArgs false
set_option linter.unusedVariables false
set_option linter.unusedSectionVars false

theorem rl_nil (o : Option AAddr) (n c C : Nat) (b rT ro ro2 : ABlk) (cols : Int) (sT sU : AVal) (hc_0 : (n : Int) > 4096) :
    FDoes Try.prog 11 [.slice o n c, .int .i64 cols] (AHeap.of [b]) (.slice none 0 0) (AHeap.rows 6 [(0, b)]) :=
  pcall_does env_ok mixed (hs := [.val 1002 (.bool true)]) (rs := []) (by kernel_rfl) (All.cons (okT hc_0) (All.nil))

theorem rl_call (o : Option AAddr) (n c C : Nat) (b rT ro ro2 : ABlk) (cols : Int) (sT sU : AVal) (hc_0 : ¬ ((n : Int) > 4096)) (hc_1 : FDoes Try.prog 26 [.int .i64 cols, .int .i64 1, .int .i64 64] (AHeap.rows 8 [(0, b)]) (.int .i64 (C : Int)) (AHeap.rows 8 [(0, b)])) (hc_2 : Runs Try.prog 1 133 (.loop (loopAt Try.prog 11 0)) [(0, .slice o n c), (5, .int .i64 (C : Int)), (6, .ptr (some ⟨9, 0, 0, 0, 1⟩)), (7, .slice none 0 0), (8, .int .i64 0)] (AHeap.rows 13 [(0, b), (9, .made [.agg [.slice none 0 0]] 1 true)]) (.exit 0) [(5, .int .i64 (C : Int)), (6, .ptr (some ⟨9, 0, 0, 0, 1⟩)), (7, sU)] (AHeap.rows 18 [(0, b), (9, (.made ([.agg [sT]]) 1 true)), (10, ro), (11, rT)])) (hc_3 : Runs Try.prog 1 133 (.loop (loopAt Try.prog 11 1)) [(5, .int .i64 (C : Int)), (6, .ptr (some ⟨9, 0, 0, 0, 1⟩)), (7, sU), (10, .int .i64 0), (11, .int .i64 0), (12, .int .i64 0)] (AHeap.rows 21 [(0, b), (9, (.made ([.agg [sT]]) 1 true)), (10, ro), (11, rT)]) (.exit 2) [(7, sU)] (AHeap.rows 18 [(0, b), (10, ro2)])) :
    FDoes Try.prog 11 [.slice o n c, .int .i64 cols] (AHeap.of [b]) sU (AHeap.rows 20 [(0, b), (10, ro2)]) :=
  pcall_does env_ok mixed (hs := [.val 1002 (.bool false), .val 3001 (.int .i64 C), .keep [0, 5, 6, 7, 8], .loop [(5, .int .i64 C), (6, .ptr (some ⟨9, 0, 0, 0, 1⟩)), (7, sU)] (AHeap.rows 18 [(0, b), (9, .made [.agg [sT]] 1 true), (10, ro), (11, rT)]) (.exit 0), .keep [5, 6, 7, 10, 11, 12], .loop [(7, sU)] (AHeap.rows 18 [(0, b), (10, ro2)]) (.exit 2)]) (rs := []) (by kernel_rfl) (All.cons (okF hc_0) (All.cons (CallT.mk hc_1) (All.cons hc_2 (All.cons hc_3 (All.nil)))))

end Go.Proofs.Ytcgcpmcjaeenlaa

namespace Go.Proofs.Ytcgcpmcjaeenlaa
open Go.Lift
set_option maxRecDepth 1000000
set_option linter.unusedSimpArgs false
set_option linter.unusedVariables false
set_option linter.unusedSectionVars false

def pSlN : Nat → Option AAddr
  | 0 => none
  | k + 1 => some ⟨11, k, 0, 0, 4⟩
def toRA (i : Nat) : Nat := if i = 10 then 52 else if i = 11 then 69 else i
def toRB (i : Nat) : Nat := if i = 10 then 52 else i
def toRC (N i : Nat) : Nat := if i = 11 then N else i
theorem pSl_clo {k : Nat} {D : Nat → Prop} (h : D 11) : Clo D (.slice (pSlN k) k k) := by
  cases k with
  | zero => simp [pSlN, Clo]
  | succ k => simpa [pSlN, Clo] using h
theorem tAppI {id : Nat} {T : List Qd} {k : Nat} (hk : T.length = k + 1) (hb : k ≤ 2 ^ 40) (r : Qd) (t K : Nat) (hp : AHeap) (hg : hp.get id = some (tRow T)) (hx : elemsOf 4 (.slice (some ⟨t, 0, 0, 0, 4⟩) 1 1) hp = some [r.val]) :
    abuiltin env .append #[22, 22] [.slice (some ⟨id, k, 0, 0, 4⟩) (k + 1) (k + 1), .slice (some ⟨t, 0, 0, 0, 4⟩) 1 1] K hp = some (.slice (some ⟨id, k + 1, 0, 0, 4⟩) (k + 1 + 1) (k + 1 + 1), hp.set id (tRow (T ++ [r]))) := by
  have e1 : tRow T = gRowQ (fun j => (T ++ [r]).getD j Qd0) 1 k := by
    unfold tRow
    rw [hk, show k + 1 - 1 = k by omega]
    exact gRowQ_congr fun j hj => by simp [List.getD_eq_getElem?_getD, List.getElem?_append_left (show j < T.length by omega)]
  have e2 : tRow (T ++ [r]) = gRowQ (fun j => (T ++ [r]).getD j Qd0) 1 (k + 1) := by
    unfold tRow
    rw [show (T ++ [r]).length - 1 = k + 1 by simp; omega]
  rw [e1] at hg
  have a := app_quad slSpan (f := fun j => (T ++ [r]).getD j Qd0) (n1 := 1) (v := k) (id := id) (by omega) (by omega) r (by simp [List.getD_eq_getElem?_getD, show 1 + k = T.length by omega]) t K hp hg hx
  rw [show 1 + k = k + 1 by omega] at a
  rw [e2]; exact a

/-- the memory of the loops -/
noncomputable def rtH (K : Nat) (b : ABlk) (T : List Qd) (k : Nat) (ro : ABlk) : AHeap := AHeap.rows K [(0, b), (9, plcRow (pSlN k) k k), (10, ro), (11, tRow T)]

section
variable {n C : Nat} (hn : n ≤ 4096) (hC : 1 ≤ C ∧ C ≤ 64) {o : Option AAddr} {c ver off : Nat} {b : ABlk} (hs : SlArg o n c 0 ver off 4) (hb : BareB b) {src : Nat → Qd} (hel : ∀ j, j < n → b.elem? ver (off + j) = some (src j).val)
include hn hC hs hb hel

theorem rl_loop : ∀ (f u : Nat) (T : List Qd), 1 + u + f = n → T = fixedL (fun j => normZ C (src j)) (1 + u) → T.length ≤ 1 + u →
    ∃ k u', (fixedL (fun j => normZ C (src j)) n).length = k ∧ 1 + u' = n ∧ Loops Try.prog 1 133 (loopAt Try.prog 11 0) [(0, .slice o n c), (5, .int .i64 C), (6, .ptr (some ⟨9, 0, 0, 0, 1⟩)), (7, .slice (some ⟨10, u, 0, 0, 4⟩) (1 + u) (1 + u)), (8, .int .i64 (1 + u : Nat))]
      (rtH 14 b T T.length (gRowQ (fun j => normZ C (src j)) 1 u)) (.exit 0) [(5, .int .i64 C), (6, .ptr (some ⟨9, 0, 0, 0, 1⟩)), (7, .slice (some ⟨10, u', 0, 0, 4⟩) n n)] (rtH 18 b (fixedL (fun j => normZ C (src j)) n) k (gRowQ (fun j => normZ C (src j)) 1 u'))
  | 0, u, T, e, hT, hl => by
    obtain rfl : 1 + u = n := by omega
    subst hT
    exact ⟨_, u, rfl, rfl, Loops.last (by simp) (rl_end o (1 + u) c 0 0 0 0 0 0 (1 + u) C b _ b _ b 0 0 0 0 hC (.slice (pSlN _) _ _) _ (by omega))⟩
  | f + 1, u, T, e, hT, hl => by
    have hi : 1 + u < n := by omega
    have dc : Clo (Ids [0, 9, 10, 11]) (.slice o n c) := hs.clo (by simp [Ids])
    have dc2 : Clo (Ids [0, 9, 10]) (.slice o n c) := hs.clo (by simp [Ids])
    have nz := normZ_ok (cols := C) (by omega) (src (1 + u))
    have c1 : ((1 + u : Nat) : Int) < n := by omega
    have c2 := ix_spS (k := .i64) hs hi
    have c3 := hel _ hi
    have c4 : -9223372036854775808 ≤ (C : Int) - inZ2 (src (1 + u)).c 1 C ∧ (C : Int) - inZ2 (src (1 + u)).c 1 C ≤ 9223372036854775807 := by unfold inZ2; omega
    have f5 : -9223372036854775808 ≤ ((1 + u : Nat) : Int) + 1 ∧ ((1 + u : Nat) : Int) + (1 : Int) ≤ 9223372036854775807 := by omega
    let w : Nat → Qd := fun j => normZ C (src j)
    have ap : ∀ (K : Nat) (hp : AHeap), hp.get 10 = some (gRowQ w 1 u) → elemsOf 4 (.slice (some ⟨51, 0, 0, 0, 4⟩) 1 1) hp = some [(w (1 + u)).val] → abuiltin env .append #[22, 22] [.slice (some ⟨10, u, 0, 0, 4⟩) (1 + u) (1 + u), .slice (some ⟨51, 0, 0, 0, 4⟩) 1 1] K hp = some (.slice (some ⟨10, u + 1, 0, 0, 4⟩) (1 + u + 1) (1 + u + 1), hp.set 10 (gRowQ w 1 (u + 1))) := fun K hp h1 h2 => app_quad slSpan (f := w) (by omega) (by omega) (w (1 + u)) rfl _ K hp h1 h2
    have back : ∀ {h0 : AHeap} (T2 : List Qd) (k2 : Nat), [h0.get 0, h0.get 9, h0.get 10, h0.get 11] = [some b, some (plcRow (pSlN k2) k2 k2), some (gRowQ w 1 (u + 1)), some (tRow T2)] →
        Ent 1 133 [(0, .slice o n c), (5, .int .i64 C), (6, .ptr (some ⟨9, 0, 0, 0, 1⟩)), (7, .slice (some ⟨10, u + 1, 0, 0, 4⟩) (1 + u + 1) (1 + u + 1)), (8, .int .i64 (((1 + u : Nat) : Int) + 1))] h0
          [(0, .slice o n c), (5, .int .i64 C), (6, .ptr (some ⟨9, 0, 0, 0, 1⟩)), (7, .slice (some ⟨10, u + 1, 0, 0, 4⟩) (1 + (u + 1)) (1 + (u + 1))), (8, .int .i64 (1 + (u + 1) : Nat))] (rtH 14 b T2 k2 (gRowQ w 1 (u + 1))) := fun T2 k2 e1 =>
      Ent.drop e1 (by kernel_rfl) (by kernel_rfl) (by kernel_rfl) (by simp [All_cons, All_nil, Clo, dc]; simp [Ids]) (by
        simp only [List.map, All_cons, All_nil, and_true]
        exact ⟨hb.clo _, plc_cloI (pSl_clo (by simp [Ids])), (gRowQ_bare _ _ _).clo _, (tRow_bare _).clo _⟩)
    by_cases ha : (normZ C (src (1 + u))).a ≥ 0
    · by_cases hbb : (normZ C (src (1 + u))).b ≥ 0
      · have fx : fixedZ (normZ C (src (1 + u))) = true := (fixedZ_iff _).2 ⟨ha, hbb⟩
        have eT : T ++ [normZ C (src (1 + u))] = fixedL (fun j => normZ C (src j)) (1 + (u + 1)) := by
          show _ = fixedL (fun j => normZ C (src j)) (1 + u + 1)
          simp only [fixedL, fx, if_true, hT]
        have el : (T ++ [normZ C (src (1 + u))]).length = T.length + 1 := by simp
        obtain ⟨k, u', hk, hu, ih⟩ := rl_loop f (u + 1) (T ++ [normZ C (src (1 + u))]) (by omega) eT (by omega)
        rw [el] at ih
        refine ⟨k, u', hk, hu, ?_⟩
        cases hc : T.length with
        | zero =>
          have : T = [] := List.eq_nil_of_length_eq_zero hc
          subst this
          have st := rl_b_new o n c ver off 0 0 u (1 + u) (1 + u) C b b (tRow [w (1 + u)]) (gRowQ w 1 u) (gRowQ w 1 (u + 1)) (src (1 + u)).a (src (1 + u)).b (src (1 + u)).c (src (1 + u)).d hC c1 c2 c3 c4 ((ap _ _ (by kernel_rfl) (by kernel_rfl)).trans (by kernel_rfl)) ha hbb ((tApp1 (w (1 + u)) _ _ _ (by kernel_rfl)).trans (by kernel_rfl)) f5
          have pre : Ent 1 133 [(0, .slice o n c), (5, .int .i64 C), (6, .ptr (some ⟨9, 0, 0, 0, 1⟩)), (7, .slice (some ⟨10, u, 0, 0, 4⟩) (1 + u) (1 + u)), (8, .int .i64 (1 + u : Nat))] (rtH 14 b [] 0 (gRowQ w 1 u))
              [(0, .slice o n c), (5, .int .i64 C), (6, .ptr (some ⟨9, 0, 0, 0, 1⟩)), (7, .slice (some ⟨10, u, 0, 0, 4⟩) (1 + u) (1 + u)), (8, .int .i64 (1 + u : Nat))] (AHeap.rows 14 [(0, b), (9, plcRow none 0 0), (10, gRowQ w 1 u)]) :=
            Ent.drop (by kernel_rfl) (by kernel_rfl) (by kernel_rfl) (by kernel_rfl) (by simp [All_cons, All_nil, Clo, dc2]; simp [Ids]) (by
              simp only [List.map, All_cons, All_nil, and_true]
              exact ⟨hb.clo _, plc_cloI (by simp [Clo]), (gRowQ_bare _ _ _).clo _⟩)
          refine Tri.pre (Loops.step (st.post ?_) ih) pre
          refine Ent.move (toRC 69) ?_ (by kernel_rfl) (by simp [toRC]) (by kernel_rfl) (by kernel_rfl) ?_ (by kernel_rfl) (by simp [All_cons, All_nil, Clo, dc]; simp [Ids]) (by
            simp only [List.map, All_cons, All_nil, and_true]
            exact ⟨hb.clo _, plc_cloI (pSl_clo (by simp [Ids])), (gRowQ_bare _ _ _).clo _, (tRow_bare _).clo _⟩)
          · simp only [List.map]
            rw [hb.ren, (gRowQ_bare _ _ _).ren, (tRow_bare _).ren]
            kernel_rfl
          · simp only [List.map, slFix2 hs (r := toRC 69) rfl]
            rfl
        | succ k0 =>
          rw [hc] at ih
          have st := rl_b_grow o n c ver off k0 (k0 + 1) u (1 + u) (1 + u) C b (tRow T) (tRow (T ++ [w (1 + u)])) (gRowQ w 1 u) (gRowQ w 1 (u + 1)) (src (1 + u)).a (src (1 + u)).b (src (1 + u)).c (src (1 + u)).d hC c1 c2 c3 c4 ((ap _ _ (by kernel_rfl) (by kernel_rfl)).trans (by kernel_rfl)) ha hbb ((tAppI hc (by omega) (w (1 + u)) _ _ _ (by kernel_rfl) (by kernel_rfl)).trans (by kernel_rfl)) f5
          exact Loops.step (st.post (i := back (T ++ [w (1 + u)]) (k0 + 1 + 1) (by kernel_rfl))) ih
      · have fx : ¬ fixedZ (normZ C (src (1 + u))) = true := fun h => hbb ((fixedZ_iff _).1 h).2
        have eT : T = fixedL (fun j => normZ C (src j)) (1 + (u + 1)) := by
          show _ = fixedL (fun j => normZ C (src j)) (1 + u + 1)
          simp only [fixedL, fx]; exact hT
        obtain ⟨k, u', hk, hu, ih⟩ := rl_loop f (u + 1) T (by omega) eT (by omega)
        have st := rl_b_no2 o n c ver off 0 0 u (1 + u) (1 + u) C b (tRow T) b (gRowQ w 1 u) (gRowQ w 1 (u + 1)) (src (1 + u)).a (src (1 + u)).b (src (1 + u)).c (src (1 + u)).d hC (.slice (pSlN T.length) T.length T.length) c1 c2 c3 c4 ((ap _ _ (by kernel_rfl) (by kernel_rfl)).trans (by kernel_rfl)) ha hbb f5
        exact ⟨k, u', hk, hu, Loops.step (st.post (i := back T T.length (by kernel_rfl))) ih⟩
    · have fx : ¬ fixedZ (normZ C (src (1 + u))) = true := fun h => ha ((fixedZ_iff _).1 h).1
      have eT : T = fixedL (fun j => normZ C (src j)) (1 + (u + 1)) := by
        show _ = fixedL (fun j => normZ C (src j)) (1 + u + 1)
        simp only [fixedL, fx]; exact hT
      obtain ⟨k, u', hk, hu, ih⟩ := rl_loop f (u + 1) T (by omega) eT (by omega)
      have st := rl_b_no1 o n c ver off 0 0 u (1 + u) (1 + u) C b (tRow T) b (gRowQ w 1 u) (gRowQ w 1 (u + 1)) (src (1 + u)).a (src (1 + u)).b (src (1 + u)).c (src (1 + u)).d hC (.slice (pSlN T.length) T.length T.length) c1 c2 c3 c4 ((ap _ _ (by kernel_rfl) (by kernel_rfl)).trans (by kernel_rfl)) ha f5
      exact ⟨k, u', hk, hu, Loops.step (st.post (i := back T T.length (by kernel_rfl))) ih⟩

theorem rl_start (h0 : 0 < n) : ∃ k u', (fixedL (fun j => normZ C (src j)) n).length = k ∧ 1 + u' = n ∧ Loops Try.prog 1 133 (loopAt Try.prog 11 0) [(0, .slice o n c), (5, .int .i64 C), (6, .ptr (some ⟨9, 0, 0, 0, 1⟩)), (7, .slice none 0 0), (8, .int .i64 (0 : Nat))]
      (AHeap.rows 14 [(0, b), (9, plcRow none 0 0)]) (.exit 0) [(5, .int .i64 C), (6, .ptr (some ⟨9, 0, 0, 0, 1⟩)), (7, .slice (some ⟨10, u', 0, 0, 4⟩) n n)] (rtH 18 b (fixedL (fun j => normZ C (src j)) n) k (gRowQ (fun j => normZ C (src j)) 1 u')) := by
  have dc : Clo (Ids [0, 9, 10, 11]) (.slice o n c) := hs.clo (by simp [Ids])
  have dc2 : Clo (Ids [0, 9, 10]) (.slice o n c) := hs.clo (by simp [Ids])
  have c1 : ((0 : Nat) : Int) < n := by omega
  have c2 := ix_spS (k := .i64) hs h0
  have c3 := hel _ h0
  have nz := normZ_ok (cols := C) (by omega) (src 0)
  have c4 : -9223372036854775808 ≤ (C : Int) - inZ2 (src 0).c 1 C ∧ (C : Int) - inZ2 (src 0).c 1 C ≤ 9223372036854775807 := by unfold inZ2; omega
  have f5 : -9223372036854775808 ≤ ((0 : Nat) : Int) + 1 ∧ ((0 : Nat) : Int) + (1 : Int) ≤ 9223372036854775807 := by omega
  let w : Nat → Qd := fun j => normZ C (src j)
  have ap : ∀ (K : Nat) (hp : AHeap), elemsOf 4 (.slice (some ⟨51, 0, 0, 0, 4⟩) 1 1) hp = some [(w 0).val] → abuiltin env .append #[22, 22] [.slice none 0 0, .slice (some ⟨51, 0, 0, 0, 4⟩) 1 1] K hp = some (.slice (some ⟨K, 0, 0, 0, 4⟩) 1 1, hp.set K (gRowQ w 1 0)) := fun K hp h2 => app_quad1 slSpan (f := w) (w 0) rfl _ hp h2
  have un : ¬ fixedZ (normZ C (src 0)) = true → ∀ {h0 : AHeap}, [h0.get 0, h0.get 9, h0.get 52] = [some b, some (plcRow none 0 0), some (gRowQ w 1 0)] →
      Ent 1 133 [(0, .slice o n c), (5, .int .i64 C), (6, .ptr (some ⟨9, 0, 0, 0, 1⟩)), (7, .slice (some ⟨52, 0, 0, 0, 4⟩) 1 1), (8, .int .i64 (((0 : Nat) : Int) + 1))] h0
        [(0, .slice o n c), (5, .int .i64 C), (6, .ptr (some ⟨9, 0, 0, 0, 1⟩)), (7, .slice (some ⟨10, 0, 0, 0, 4⟩) (1 + 0) (1 + 0)), (8, .int .i64 (1 + 0 : Nat))] (rtH 14 b [] 0 (gRowQ w 1 0)) := fun fx h0 e1 => by
    refine Ent.trans (Ent.move (K := 11) (l := [(0, b), (9, plcRow none 0 0), (10, gRowQ w 1 0)]) toRB ?_ (by kernel_rfl) (by simp [toRB]) (by kernel_rfl) (by kernel_rfl) ?_ (by kernel_rfl) (by simp [All_cons, All_nil, Clo, dc2]; simp [Ids]) (by
      simp only [List.map, All_cons, All_nil, and_true]
      exact ⟨hb.clo _, plc_cloI (by simp [Clo]), (gRowQ_bare _ _ _).clo _⟩)) (Ent.more (K2 := 14) (l2 := [(11, tRow [])]) (by kernel_rfl) (by kernel_rfl))
    · simp only [List.map]
      rw [hb.ren, (gRowQ_bare _ _ _).ren]
      exact e1
    · simp only [List.map, slFix2 hs (r := toRB) rfl]
      rfl
  by_cases ha : (normZ C (src 0)).a ≥ 0
  · by_cases hbb : (normZ C (src 0)).b ≥ 0
    · have fx : fixedZ (normZ C (src 0)) = true := (fixedZ_iff _).2 ⟨ha, hbb⟩
      obtain ⟨k, u', hk, hu, ih⟩ := rl_loop hn hC hs hb hel (n - 1) 0 [w 0] (by omega) (by show [w 0] = fixedL (fun j => normZ C (src j)) (0 + 1); simp only [fixedL, fx, if_true]; rfl) (by simp)
      refine ⟨k, u', hk, hu, Loops.step ((rl_a_fix o n c ver off 0 0 0 0 0 C b b (tRow [w 0]) b (gRowQ w 1 0) (src 0).a (src 0).b (src 0).c (src 0).d hC c1 c2 c3 c4 ((ap _ _ (by kernel_rfl)).trans (by kernel_rfl)) ha hbb ((tApp1 (w 0) _ _ _ (by kernel_rfl)).trans (by kernel_rfl)) f5).post ?_) ih⟩
      refine Ent.move toRA ?_ (by kernel_rfl) (by simp [toRA]) (by kernel_rfl) (by kernel_rfl) ?_ (by kernel_rfl) (by simp [All_cons, All_nil, Clo, dc]; simp [Ids]) (by
        simp only [List.map, All_cons, All_nil, and_true]
        exact ⟨hb.clo _, plc_cloI (pSl_clo (by simp [Ids])), (gRowQ_bare _ _ _).clo _, (tRow_bare _).clo _⟩)
      · simp only [List.map]
        rw [hb.ren, (gRowQ_bare _ _ _).ren, (tRow_bare _).ren]
        kernel_rfl
      · simp only [List.map, slFix2 hs (r := toRA) rfl]
        rfl
    · have fx : ¬ fixedZ (normZ C (src 0)) = true := fun h => hbb ((fixedZ_iff _).1 h).2
      obtain ⟨k, u', hk, hu, ih⟩ := rl_loop hn hC hs hb hel (n - 1) 0 [] (by omega) (by show [] = fixedL (fun j => normZ C (src j)) (0 + 1); simp only [fixedL, fx]; rfl) (by simp)
      exact ⟨k, u', hk, hu, Loops.step ((rl_a_no2 o n c ver off 0 0 0 0 0 C b b b b (gRowQ w 1 0) (src 0).a (src 0).b (src 0).c (src 0).d hC c1 c2 c3 c4 ((ap _ _ (by kernel_rfl)).trans (by kernel_rfl)) ha hbb f5).post (i := un fx (by kernel_rfl))) ih⟩
  · have fx : ¬ fixedZ (normZ C (src 0)) = true := fun h => ha ((fixedZ_iff _).1 h).1
    obtain ⟨k, u', hk, hu, ih⟩ := rl_loop hn hC hs hb hel (n - 1) 0 [] (by omega) (by show [] = fixedL (fun j => normZ C (src j)) (0 + 1); simp only [fixedL, fx]; rfl) (by simp)
    exact ⟨k, u', hk, hu, Loops.step ((rl_a_no1 o n c ver off 0 0 0 0 0 C b b b b (gRowQ w 1 0) (src 0).a (src 0).b (src 0).c (src 0).d hC c1 c2 c3 c4 ((ap _ _ (by kernel_rfl)).trans (by kernel_rfl)) ha f5).post (i := un fx (by kernel_rfl))) ih⟩
end

end Go.Proofs.Ytcgcpmcjaeenlaa

namespace Go.Proofs.Ytcgcpmcjaeenlaa
open Go.Lift
set_option maxRecDepth 1000000
set_option linter.unusedSimpArgs false
set_option linter.unusedVariables false
set_option linter.unusedSectionVars false

/-- a row that was appended to, and written -/
def wRow (l : List AVal) (u mv fk : Nat) : ABlk := { elems := l, es := 4, exact := false, ro := false, ver := u, minVer := mv, forkLen := fk }
theorem wRow_bare (n : Nat) (f : Nat → Qd) (u mv fk : Nat) : BareB (wRow (qrows n f) u mv fk) := fun e he => qrows_mem n f e he
theorem wRow_el {l : List AVal} {u mv fk j : Nat} (h : j < l.length) : (wRow l u mv fk).elem? u j = l[j]? := by
  simp [ABlk.elem?, ABlk.lim, wRow, h]

section
variable {n C : Nat} (hn : n ≤ 4096) (hC : 1 ≤ C ∧ C ≤ 64) {b : ABlk} (hb : BareB b) {w : Nat → Qd} (hw : ∀ j, j < n → NormZ C (w j)) (u fk : Nat)
include hn hC hb hw

theorem rx_mv {N : Nat} (hN : N = 54 ∨ N = 57 ∨ N = 66) (y x : Int) (i mv2 : Nat) (r : Qd) (g : Nat → Qd) {h0 : AHeap} (e : [h0.get 0, h0.get 9, h0.get 10, h0.get N] = [some b, some (plcRow (some ⟨N, 0, 0, 0, 4⟩) 1 1), some (wRow (qrows n g) u mv2 fk), some (tRow [r])]) :
    Ent 1 133 [(5, .int .i64 C), (6, .ptr (some ⟨9, 0, 0, 0, 1⟩)), (7, .slice (some ⟨10, u, 0, 0, 4⟩) n n), (10, .int .i64 y), (11, .int .i64 x), (12, .int .i64 i)] h0
      [(5, .int .i64 C), (6, .ptr (some ⟨9, 0, 0, 0, 1⟩)), (7, .slice (some ⟨10, u, 0, 0, 4⟩) n n), (10, .int .i64 y), (11, .int .i64 x), (12, .int .i64 i)] (rtH 14 b [r] 1 (wRow (qrows n g) u mv2 fk)) := by
  rcases hN with rfl | rfl | rfl
  · refine Ent.move (toRC 54) ?_ (by kernel_rfl) (by simp [toRC]) (by kernel_rfl) (by kernel_rfl) rfl (by kernel_rfl) (by simp [All_cons, All_nil, Clo]; simp [Ids]) (by
      simp only [List.map, All_cons, All_nil, and_true]
      exact ⟨hb.clo _, plc_cloI (pSl_clo (by simp [Ids])), (wRow_bare _ _ _ _ _).clo _, (tRow_bare _).clo _⟩)
    simp only [List.map]
    rw [hb.ren, (wRow_bare _ _ _ _ _).ren, (tRow_bare _).ren]
    exact e
  · refine Ent.move (toRC 57) ?_ (by kernel_rfl) (by simp [toRC]) (by kernel_rfl) (by kernel_rfl) rfl (by kernel_rfl) (by simp [All_cons, All_nil, Clo]; simp [Ids]) (by
      simp only [List.map, All_cons, All_nil, and_true]
      exact ⟨hb.clo _, plc_cloI (pSl_clo (by simp [Ids])), (wRow_bare _ _ _ _ _).clo _, (tRow_bare _).clo _⟩)
    simp only [List.map]
    rw [hb.ren, (wRow_bare _ _ _ _ _).ren, (tRow_bare _).ren]
    exact e
  · refine Ent.move (toRC 66) ?_ (by kernel_rfl) (by simp [toRC]) (by kernel_rfl) (by kernel_rfl) rfl (by kernel_rfl) (by simp [All_cons, All_nil, Clo]; simp [Ids]) (by
      simp only [List.map, All_cons, All_nil, and_true]
      exact ⟨hb.clo _, plc_cloI (pSl_clo (by simp [Ids])), (wRow_bare _ _ _ _ _).clo _, (tRow_bare _).clo _⟩)
    simp only [List.map]
    rw [hb.ren, (wRow_bare _ _ _ _ _).ren, (tRow_bare _).ren]
    exact e

theorem rx_loop : ∀ (f i mv : Nat) (out : Nat → Qd) (T : List Qd) (y x : Int), i + f = n → (∀ j, j < i → PlaceZ C (takenL w out n j) (curZ w out j) (w j) (out j)) → T = takenL w out n i → (y, x) = curZ w out i →
    ∃ out2 mv3, FlowZ C n w out2 ∧ Loops Try.prog 1 133 (loopAt Try.prog 11 1) [(5, .int .i64 C), (6, .ptr (some ⟨9, 0, 0, 0, 1⟩)), (7, .slice (some ⟨10, u, 0, 0, 4⟩) n n), (10, .int .i64 y), (11, .int .i64 x), (12, .int .i64 i)]
      (rtH 14 b T T.length (wRow (qrows n fun j => if j < i then out j else w j) u mv fk)) (.exit 2) [(7, .slice (some ⟨10, u, 0, 0, 4⟩) n n)] (AHeap.rows 18 [(0, b), (10, wRow (qrows n out2) u mv3 fk)])
  | 0, i, mv, out, T, y, x, e, hp, hT, hyx => by
    obtain rfl : i = n := by omega
    refine ⟨out, mv, hp, ?_⟩
    rw [show (qrows i fun j => if j < i then out j else w j) = qrows i out from qrows_congr fun j hj => by rw [if_pos hj]]
    refine (Loops.last (by simp) (rx_end i 0 0 u mv fk i C b (tRow T) b b _ y x 0 0 0 0 0 0 0 0 (.slice (pSlN T.length) T.length T.length) (.undef) (by omega))).post ?_
    exact Ent.drop (by kernel_rfl) (by kernel_rfl) (by kernel_rfl) (by kernel_rfl) (by simp [All_cons, All_nil, Clo, Ids]) (by
      simp only [List.map, All_cons, All_nil, and_true]
      exact ⟨hb.clo _, (wRow_bare _ _ _ _ _).clo _⟩)
  | f + 1, i, mv, out, T, y, x, e, hp, hT, hyx => by
    have hi : i < n := by omega
    obtain ⟨g1, g2, g3⟩ := prefix_good (m := i) (by omega) hw hp i (Nat.le_refl _)
    have g3x : 0 ≤ x ∧ x ≤ 2 ^ 40 := by
      have e3 : x = (curZ w out i).2 := by rw [← hyx]
      rw [e3]; omega
    rw [← hyx] at g2
    rw [← hT] at g1
    simp only at g2
    have nw := hw i hi
    have n1 := nw.a; have n2 := nw.b; have n3 := nw.c; have n4 := nw.d
    have sw := norm_small hC.2 nw
    have hM : 0 ≤ downM i ∧ downM i ≤ 2 ^ 39 := by unfold downM; omega
    have hlen : T.length ≤ 2 ^ 40 := by have := takenL_len w out n i; rw [← hT] at this; omega
    have c1 : (i : Int) < n := by omega
    have ixo : aindexAddr (AEnv.D env) 22 (AVal.slice (some ⟨10, u, 0, 0, 4⟩) n n) (AVal.int IntKind.i64 (i : Int)) = some (AVal.ptr (some ⟨10, u, 0 + i, 0, 4⟩)) := ix_spS (.inl rfl) hi
    have rg : (qrows n fun j => if j < i then out j else w j)[0 + i]? = some (w i).val := by rw [Nat.zero_add, qrows_get hi]; simp
    have c6 : (wRow (qrows n fun j => if j < i then out j else w j) u mv fk).elem? u (0 + i) = some (w i).val := by rw [wRow_el (by simp; omega)]; exact rg
    have f5 : -9223372036854775808 ≤ (i : Int) + 1 ∧ (i : Int) + (1 : Int) ≤ 9223372036854775807 := by omega
    have es : ∀ r : Qd, List.set (qrows n fun j => if j < i then out j else w j) (0 + i) (.agg [.int .i64 r.a, .int .i64 r.b, .int .i64 r.c, .int .i64 r.d]) = qrows n fun j => if j < i + 1 then (if j = i then r else out j) else w j := fun r => by
      rw [Nat.zero_add]; exact row_step
    have back : ∀ {h0 : AHeap} (T2 : List Qd) (k2 : Nat) (y2 x2 : Int) (mv2 : Nat) (g : Nat → Qd), [h0.get 0, h0.get 9, h0.get 10, h0.get 11] = [some b, some (plcRow (pSlN k2) k2 k2), some (wRow (qrows n g) u mv2 fk), some (tRow T2)] →
        Ent 1 133 [(5, .int .i64 C), (6, .ptr (some ⟨9, 0, 0, 0, 1⟩)), (7, .slice (some ⟨10, u, 0, 0, 4⟩) n n), (10, .int .i64 y2), (11, .int .i64 x2), (12, .int .i64 (i + 1 : Nat))] h0
          [(5, .int .i64 C), (6, .ptr (some ⟨9, 0, 0, 0, 1⟩)), (7, .slice (some ⟨10, u, 0, 0, 4⟩) n n), (10, .int .i64 y2), (11, .int .i64 x2), (12, .int .i64 (i + 1 : Nat))] (rtH 14 b T2 k2 (wRow (qrows n g) u mv2 fk)) := fun T2 k2 y2 x2 mv2 g e1 =>
      Ent.drop e1 (by kernel_rfl) (by kernel_rfl) (by kernel_rfl) (by simp [All_cons, All_nil, Clo]; simp [Ids]) (by
        simp only [List.map, All_cons, All_nil, and_true]
        exact ⟨hb.clo _, plc_cloI (pSl_clo (by simp [Ids])), (wRow_bare _ _ _ _ _).clo _, (tRow_bare _).clo _⟩)
    -- what is known once a place is found
    have nxt : ∀ r : Qd, PlaceZ C T (y, x) (w i) r → (∀ j, j < i + 1 → PlaceZ C (takenL w (fun j => if j = i then r else out j) n j) (curZ w (fun j => if j = i then r else out j) j) (w j) (if j = i then r else out j)) ∧ takenL w (fun j => if j = i then r else out j) n i = T ∧ curZ w (fun j => if j = i then r else out j) i = (y, x) := fun r hr => by
      have cg : ∀ j, j ≤ i → takenL w (fun j => if j = i then r else out j) n j = takenL w out n j ∧ curZ w (fun j => if j = i then r else out j) j = curZ w out j := fun j hj => takenL_congr fun k hk => by rw [if_neg (by omega)]
      refine ⟨fun j hj => ?_, by rw [(cg i (Nat.le_refl _)).1, hT], by rw [(cg i (Nat.le_refl _)).2, hyx]⟩
      by_cases c : j = i
      · subst c
        rw [(cg j (Nat.le_refl _)).1, (cg j (Nat.le_refl _)).2, if_pos rfl, ← hT, ← hyx]; exact hr
      · rw [(cg j (by omega)).1, (cg j (by omega)).2, if_neg c]; exact hp j (by omega)
    by_cases ha : (w i).a ≥ 0
    · by_cases hbb : (w i).b ≥ 0
      · -- it has its place
        have fx : fixedZ (w i) = true := (fixedZ_iff _).2 ⟨ha, hbb⟩
        obtain ⟨m1, m2, m3⟩ := nxt (w i) (by unfold PlaceZ; rw [if_pos fx])
        obtain ⟨o2, mv3, q1, l⟩ := rx_loop f (i + 1) mv (fun j => if j = i then w i else out j) T y x (by omega) m1 (by simp only [takenL, fx, if_true]; exact m2.symm) (by simp only [curZ]; rw [if_neg (by omega)]; exact m3.symm)
        rw [show (qrows n fun j => if j < i + 1 then (if j = i then w i else out j) else w j) = (qrows n fun j => if j < i then out j else w j) from qrows_congr fun j _ => by
          by_cases c : j = i
          · subst c; simp
          · by_cases c2 : j < i
            · rw [if_pos c2, if_pos (by omega), if_neg c]
            · rw [if_neg c2, if_neg (by omega)]] at l
        exact ⟨o2, mv3, q1, Loops.step ((rx_fixed n 0 0 u mv fk i C b (tRow T) b b _ y x (w i).a (w i).b (w i).c (w i).d 0 0 0 0 (.slice (pSlN T.length) T.length T.length) c1 ixo c6 ha hbb f5).post (i := back T T.length y x mv _ (by kernel_rfl))) l⟩
      · -- down
        have fx : ¬ fixedZ (w i) = true := fun h => hbb ((fixedZ_iff _).1 h).2
        have fin : ∀ r : Qd, DownZ T (w i) r → PlaceZ C T (y, x) (w i) r ∧ True := fun r hr => ⟨by unfold PlaceZ; rw [if_neg fx, if_neg hbb, if_pos (by omega)]; exact hr, trivial⟩
        have ih : ∀ r : Qd, DownZ T (w i) r → ∃ o2 mv3, FlowZ C n w o2 ∧ Loops Try.prog 1 133 (loopAt Try.prog 11 1) [(5, .int .i64 C), (6, .ptr (some ⟨9, 0, 0, 0, 1⟩)), (7, .slice (some ⟨10, u, 0, 0, 4⟩) n n), (10, .int .i64 y), (11, .int .i64 x), (12, .int .i64 (i + 1 : Nat))]
            (rtH 14 b (T ++ [r]) (T.length + 1) (wRow (qrows n fun j => if j < i + 1 then (if j = i then r else out j) else w j) u u fk)) (.exit 2) [(7, .slice (some ⟨10, u, 0, 0, 4⟩) n n)] (AHeap.rows 18 [(0, b), (10, wRow (qrows n o2) u mv3 fk)]) := fun r hr => by
          obtain ⟨m1, m2, m3⟩ := nxt r (fin r hr).1
          have := rx_loop f (i + 1) u (fun j => if j = i then r else out j) (T ++ [r]) y x (by omega) m1 (by simp only [takenL]; rw [if_neg fx, m2, if_pos trivial]) (by simp only [curZ]; rw [if_neg (by omega)]; exact m3.symm)
          rwa [show (T ++ [r]).length = T.length + 1 by simp] at this
        cases hc : T.length with
        | zero =>
          have t0 : T = [] := List.eq_nil_of_length_eq_zero hc
          have bd : PlacedAt (AHeap.rows 45 [(0, b), (9, plcRow none 0 0), (10, wRow (qrows n fun j => if j < i then out j else w j) u mv fk), (22, .made [(w i).val] 4 true)]) 9 0 none 0 0 0 b T := ⟨by kernel_rfl, by kernel_rfl, .inr ⟨rfl, rfl, rfl⟩, by decide, by rw [AHeap.rows_next]; omega, by rw [AHeap.rows_next]; omega, hb, hc, fun j t h => by rw [t0] at h; simp at h⟩
          obtain ⟨r, r1, r2⟩ := pdown_does bd g1 hC.2 hM (by omega) sw
          obtain ⟨o2, mv3, q1, l⟩ := ih r r1
          subst t0
          refine ⟨o2, mv3, q1, ?_⟩
          have st := rx_dn_new n 0 0 u mv fk i C b b (tRow [r]) b _ y x (w i).a (w i).b (w i).c (w i).d r.a r.b r.c r.d c1 ixo c6 ha hbb hbb ha r2 ixo ⟨rfl, rg⟩ ((tApp1 r _ _ _ (by kernel_rfl)).trans (by kernel_rfl)) f5
          rw [es r] at st
          have pre : Ent 1 133 [(5, .int .i64 C), (6, .ptr (some ⟨9, 0, 0, 0, 1⟩)), (7, .slice (some ⟨10, u, 0, 0, 4⟩) n n), (10, .int .i64 y), (11, .int .i64 x), (12, .int .i64 i)] (rtH 14 b [] 0 (wRow (qrows n fun j => if j < i then out j else w j) u mv fk))
              [(5, .int .i64 C), (6, .ptr (some ⟨9, 0, 0, 0, 1⟩)), (7, .slice (some ⟨10, u, 0, 0, 4⟩) n n), (10, .int .i64 y), (11, .int .i64 x), (12, .int .i64 i)] (AHeap.rows 14 [(0, b), (9, plcRow none 0 0), (10, wRow (qrows n fun j => if j < i then out j else w j) u mv fk)]) :=
            Ent.drop (by kernel_rfl) (by kernel_rfl) (by kernel_rfl) (by kernel_rfl) (by simp [All_cons, All_nil, Clo]; simp [Ids]) (by
              simp only [List.map, All_cons, All_nil, and_true]
              exact ⟨hb.clo _, plc_cloI (by simp [Clo]), (wRow_bare _ _ _ _ _).clo _⟩)
          exact Tri.pre (Loops.step (st.post (i := rx_mv hn hC hb hw u fk (N := 57) (by omega) y x (i + 1) u r _ (by kernel_rfl))) l) pre
        | succ k0 =>
          have bd : PlacedAt (AHeap.rows 45 [(0, b), (9, plcRow (some ⟨11, k0, 0, 0, 4⟩) (k0 + 1) (k0 + 1)), (10, wRow (qrows n fun j => if j < i then out j else w j) u mv fk), (11, tRow T), (22, .made [(w i).val] 4 true)]) 9 11 (some ⟨11, k0, 0, 0, 4⟩) (k0 + 1) (k0 + 1) k0 (tRow T) T := ⟨by kernel_rfl, by kernel_rfl, .inl rfl, by decide, by rw [AHeap.rows_next]; omega, by rw [AHeap.rows_next]; omega, tRow_bare _, hc, tRow_el hc⟩
          obtain ⟨r, r1, r2⟩ := pdown_does bd g1 hC.2 hM (by omega) sw
          obtain ⟨o2, mv3, q1, l⟩ := ih r r1
          rw [hc] at l
          refine ⟨o2, mv3, q1, ?_⟩
          have st := rx_dn_grow n k0 (k0 + 1) u mv fk i C b (tRow T) (tRow (T ++ [r])) b _ y x (w i).a (w i).b (w i).c (w i).d r.a r.b r.c r.d c1 ixo c6 ha hbb hbb ha r2 ixo ⟨rfl, rg⟩ ((tAppI hc (by omega) r _ _ _ (by kernel_rfl) (by kernel_rfl)).trans (by kernel_rfl)) f5
          rw [es r] at st
          exact Loops.step (st.post (i := back (T ++ [r]) (k0 + 1 + 1) y x u _ (by kernel_rfl))) l
    · by_cases hbb : (w i).b ≥ 0
      · -- across
        have fx : ¬ fixedZ (w i) = true := fun h => ha ((fixedZ_iff _).1 h).1
        have ih : ∀ r : Qd, AcrossZ T C (w i) r → ∃ o2 mv3, FlowZ C n w o2 ∧ Loops Try.prog 1 133 (loopAt Try.prog 11 1) [(5, .int .i64 C), (6, .ptr (some ⟨9, 0, 0, 0, 1⟩)), (7, .slice (some ⟨10, u, 0, 0, 4⟩) n n), (10, .int .i64 y), (11, .int .i64 x), (12, .int .i64 (i + 1 : Nat))]
            (rtH 14 b (T ++ [r]) (T.length + 1) (wRow (qrows n fun j => if j < i + 1 then (if j = i then r else out j) else w j) u u fk)) (.exit 2) [(7, .slice (some ⟨10, u, 0, 0, 4⟩) n n)] (AHeap.rows 18 [(0, b), (10, wRow (qrows n o2) u mv3 fk)]) := fun r hr => by
          obtain ⟨m1, m2, m3⟩ := nxt r (by unfold PlaceZ; rw [if_neg fx, if_pos (by omega)]; exact hr)
          have := rx_loop f (i + 1) u (fun j => if j = i then r else out j) (T ++ [r]) y x (by omega) m1 (by simp only [takenL]; rw [if_neg fx, m2, if_pos trivial]) (by simp only [curZ]; rw [if_neg (by omega)]; exact m3.symm)
          rwa [show (T ++ [r]).length = T.length + 1 by simp] at this
        cases hc : T.length with
        | zero =>
          have t0 : T = [] := List.eq_nil_of_length_eq_zero hc
          have bd : PlacedAt (AHeap.rows 42 [(0, b), (9, plcRow none 0 0), (10, wRow (qrows n fun j => if j < i then out j else w j) u mv fk), (22, .made [(w i).val] 4 true)]) 9 0 none 0 0 0 b T := ⟨by kernel_rfl, by kernel_rfl, .inr ⟨rfl, rfl, rfl⟩, by decide, by rw [AHeap.rows_next]; omega, by rw [AHeap.rows_next]; omega, hb, hc, fun j t h => by rw [t0] at h; simp at h⟩
          obtain ⟨r, r1, r2⟩ := pacross_does bd g1 hC.2 hM (by omega) sw n3.1
          obtain ⟨o2, mv3, q1, l⟩ := ih r r1
          subst t0
          refine ⟨o2, mv3, q1, ?_⟩
          have st := rx_ac_new n 0 0 u mv fk i C b b (tRow [r]) b _ y x (w i).a (w i).b (w i).c (w i).d r.a r.b r.c r.d c1 ixo c6 ha hbb r2 ixo ⟨rfl, rg⟩ ((tApp1 r _ _ _ (by kernel_rfl)).trans (by kernel_rfl)) f5
          rw [es r] at st
          have pre : Ent 1 133 [(5, .int .i64 C), (6, .ptr (some ⟨9, 0, 0, 0, 1⟩)), (7, .slice (some ⟨10, u, 0, 0, 4⟩) n n), (10, .int .i64 y), (11, .int .i64 x), (12, .int .i64 i)] (rtH 14 b [] 0 (wRow (qrows n fun j => if j < i then out j else w j) u mv fk))
              [(5, .int .i64 C), (6, .ptr (some ⟨9, 0, 0, 0, 1⟩)), (7, .slice (some ⟨10, u, 0, 0, 4⟩) n n), (10, .int .i64 y), (11, .int .i64 x), (12, .int .i64 i)] (AHeap.rows 14 [(0, b), (9, plcRow none 0 0), (10, wRow (qrows n fun j => if j < i then out j else w j) u mv fk)]) :=
            Ent.drop (by kernel_rfl) (by kernel_rfl) (by kernel_rfl) (by kernel_rfl) (by simp [All_cons, All_nil, Clo]; simp [Ids]) (by
              simp only [List.map, All_cons, All_nil, and_true]
              exact ⟨hb.clo _, plc_cloI (by simp [Clo]), (wRow_bare _ _ _ _ _).clo _⟩)
          exact Tri.pre (Loops.step (st.post (i := rx_mv hn hC hb hw u fk (N := 54) (by omega) y x (i + 1) u r _ (by kernel_rfl))) l) pre
        | succ k0 =>
          have bd : PlacedAt (AHeap.rows 42 [(0, b), (9, plcRow (some ⟨11, k0, 0, 0, 4⟩) (k0 + 1) (k0 + 1)), (10, wRow (qrows n fun j => if j < i then out j else w j) u mv fk), (11, tRow T), (22, .made [(w i).val] 4 true)]) 9 11 (some ⟨11, k0, 0, 0, 4⟩) (k0 + 1) (k0 + 1) k0 (tRow T) T := ⟨by kernel_rfl, by kernel_rfl, .inl rfl, by decide, by rw [AHeap.rows_next]; omega, by rw [AHeap.rows_next]; omega, tRow_bare _, hc, tRow_el hc⟩
          obtain ⟨r, r1, r2⟩ := pacross_does bd g1 hC.2 hM (by omega) sw n3.1
          obtain ⟨o2, mv3, q1, l⟩ := ih r r1
          rw [hc] at l
          refine ⟨o2, mv3, q1, ?_⟩
          have st := rx_ac_grow n k0 (k0 + 1) u mv fk i C b (tRow T) (tRow (T ++ [r])) b _ y x (w i).a (w i).b (w i).c (w i).d r.a r.b r.c r.d c1 ixo c6 ha hbb r2 ixo ⟨rfl, rg⟩ ((tAppI hc (by omega) r _ _ _ (by kernel_rfl) (by kernel_rfl)).trans (by kernel_rfl)) f5
          rw [es r] at st
          exact Loops.step (st.post (i := back (T ++ [r]) (k0 + 1 + 1) y x u _ (by kernel_rfl))) l
      · -- behind
        have fx : ¬ fixedZ (w i) = true := fun h => ha ((fixedZ_iff _).1 h).1
        have ih : ∀ r : Qd, BehindZ T C (w i) y x r → ∃ o2 mv3, FlowZ C n w o2 ∧ Loops Try.prog 1 133 (loopAt Try.prog 11 1) [(5, .int .i64 C), (6, .ptr (some ⟨9, 0, 0, 0, 1⟩)), (7, .slice (some ⟨10, u, 0, 0, 4⟩) n n), (10, .int .i64 r.b), (11, .int .i64 r.a), (12, .int .i64 (i + 1 : Nat))]
            (rtH 14 b (T ++ [r]) (T.length + 1) (wRow (qrows n fun j => if j < i + 1 then (if j = i then r else out j) else w j) u u fk)) (.exit 2) [(7, .slice (some ⟨10, u, 0, 0, 4⟩) n n)] (AHeap.rows 18 [(0, b), (10, wRow (qrows n o2) u mv3 fk)]) := fun r hr => by
          obtain ⟨m1, m2, m3⟩ := nxt r (by unfold PlaceZ; rw [if_neg fx, if_neg hbb, if_neg ha]; exact hr)
          have := rx_loop f (i + 1) u (fun j => if j = i then r else out j) (T ++ [r]) r.b r.a (by omega) m1 (by simp only [takenL]; rw [if_neg fx, m2, if_pos trivial]) (by simp only [curZ]; rw [if_pos ⟨by omega, by omega⟩, if_pos trivial])
          rwa [show (T ++ [r]).length = T.length + 1 by simp] at this
        cases hc : T.length with
        | zero =>
          have t0 : T = [] := List.eq_nil_of_length_eq_zero hc
          have bd : PlacedAt (AHeap.rows 48 [(0, b), (9, plcRow none 0 0), (10, wRow (qrows n fun j => if j < i then out j else w j) u mv fk), (22, .made [(w i).val] 4 true)]) 9 0 none 0 0 0 b T := ⟨by kernel_rfl, by kernel_rfl, .inr ⟨rfl, rfl, rfl⟩, by decide, by rw [AHeap.rows_next]; omega, by rw [AHeap.rows_next]; omega, hb, hc, fun j t h => by rw [t0] at h; simp at h⟩
          obtain ⟨r, r1, r2⟩ := pbehind_does bd g1 hC.2 hM (by omega) sw n3 g2 g3x
          obtain ⟨o2, mv3, q1, l⟩ := ih r r1
          subst t0
          refine ⟨o2, mv3, q1, ?_⟩
          have st := rx_bh_new n 0 0 u mv fk i C b b (tRow [r]) b _ y x (w i).a (w i).b (w i).c (w i).d r.a r.b r.c r.d c1 ixo c6 ha hbb ha r2 ixo ⟨rfl, rg⟩ ((tApp1 r _ _ _ (by kernel_rfl)).trans (by kernel_rfl)) f5
          rw [es r] at st
          have pre : Ent 1 133 [(5, .int .i64 C), (6, .ptr (some ⟨9, 0, 0, 0, 1⟩)), (7, .slice (some ⟨10, u, 0, 0, 4⟩) n n), (10, .int .i64 y), (11, .int .i64 x), (12, .int .i64 i)] (rtH 14 b [] 0 (wRow (qrows n fun j => if j < i then out j else w j) u mv fk))
              [(5, .int .i64 C), (6, .ptr (some ⟨9, 0, 0, 0, 1⟩)), (7, .slice (some ⟨10, u, 0, 0, 4⟩) n n), (10, .int .i64 y), (11, .int .i64 x), (12, .int .i64 i)] (AHeap.rows 14 [(0, b), (9, plcRow none 0 0), (10, wRow (qrows n fun j => if j < i then out j else w j) u mv fk)]) :=
            Ent.drop (by kernel_rfl) (by kernel_rfl) (by kernel_rfl) (by kernel_rfl) (by simp [All_cons, All_nil, Clo]; simp [Ids]) (by
              simp only [List.map, All_cons, All_nil, and_true]
              exact ⟨hb.clo _, plc_cloI (by simp [Clo]), (wRow_bare _ _ _ _ _).clo _⟩)
          exact Tri.pre (Loops.step (st.post (i := rx_mv hn hC hb hw u fk (N := 66) (by omega) r.b r.a (i + 1) u r _ (by kernel_rfl))) l) pre
        | succ k0 =>
          have bd : PlacedAt (AHeap.rows 48 [(0, b), (9, plcRow (some ⟨11, k0, 0, 0, 4⟩) (k0 + 1) (k0 + 1)), (10, wRow (qrows n fun j => if j < i then out j else w j) u mv fk), (11, tRow T), (22, .made [(w i).val] 4 true)]) 9 11 (some ⟨11, k0, 0, 0, 4⟩) (k0 + 1) (k0 + 1) k0 (tRow T) T := ⟨by kernel_rfl, by kernel_rfl, .inl rfl, by decide, by rw [AHeap.rows_next]; omega, by rw [AHeap.rows_next]; omega, tRow_bare _, hc, tRow_el hc⟩
          obtain ⟨r, r1, r2⟩ := pbehind_does bd g1 hC.2 hM (by omega) sw n3 g2 g3x
          obtain ⟨o2, mv3, q1, l⟩ := ih r r1
          rw [hc] at l
          refine ⟨o2, mv3, q1, ?_⟩
          have st := rx_bh_grow n k0 (k0 + 1) u mv fk i C b (tRow T) (tRow (T ++ [r])) b _ y x (w i).a (w i).b (w i).c (w i).d r.a r.b r.c r.d c1 ixo c6 ha hbb ha r2 ixo ⟨rfl, rg⟩ ((tAppI hc (by omega) r _ _ _ (by kernel_rfl) (by kernel_rfl)).trans (by kernel_rfl)) f5
          rw [es r] at st
          exact Loops.step (st.post (i := back (T ++ [r]) (k0 + 1 + 1) r.b r.a u _ (by kernel_rfl))) l
end

end Go.Proofs.Ytcgcpmcjaeenlaa

namespace Go.Proofs.Ytcgcpmcjaeenlaa
open Go.Lift
set_option maxRecDepth 1000000
set_option linter.unusedSimpArgs false
set_option linter.unusedVariables false
set_option linter.unusedSectionVars false

theorem rflow_any {H : AHeap} {o : Option AAddr} {n c id ver off : Nat} {b : ABlk} {src : Nat → Qd} (h : QdsAt H o n c id ver off b src) (cols : Int) {N : Nat} (hN : H.next = N) :
    ∃ (o' : Option AAddr) (c' v' : Nat) (b' : ABlk) (out : Nat → Qd), SlArg o' (flen n) c' N v' 0 4 ∧ c' = flen n ∧ BareB b' ∧ (∀ j, j < flen n → b'.elem? v' (0 + j) = some (out j).val) ∧ FlowsTo n src cols out ∧ FDoes Try.prog 11 [.slice o n c, .int .i64 cols] H (.slice o' (flen n) c') (H.upd [] [b']) := by
  subst hN
  unfold FlowsTo
  have s1 := h.sl.at 0
  have cr := colsZ_range cols
  obtain ⟨C, hC⟩ : ∃ C : Nat, (C : Int) = colsZ cols := ⟨(colsZ cols).toNat, by omega⟩
  rw [← hC]
  have hC2 : 1 ≤ C ∧ C ≤ 64 := by omega
  have wi := rwithin_does cols 1 64 (by omega) (AHeap.rows 8 [(0, b)])
  rw [show min (max cols 1) 64 = (C : Int) from hC.symm] at wi
  have nil : ∀ {h' : AHeap}, FDoes Try.prog 11 [.slice (o.map fun a => { a with id := 0 }) n c, .int .i64 cols] (AHeap.of [b]) (.slice none 0 0) h' → (List.range 1).map h'.get = [b].map some → FDoes Try.prog 11 [.slice o n c, .int .i64 cols] H (.slice none 0 0) H := fun k hk => by
    have kk := k.pure (by simp [h.bare]) hk ⟨fun r => rfl, trivial⟩ (by simp [Clos, Clo, s1.clo]) (H := H) [id] (by simp) (by simp [h.lt]) (by simp [h.get])
    simpa [h.sl.back (id' := 0) (r := toBig [id] H.next) rfl, AVal.ren] using kk
  by_cases hn : 4096 < n
  · have e : flen n = 0 := by unfold flen; rw [if_pos hn]
    rw [e]
    exact ⟨none, 0, 0, noRow0, fun _ => Qd0, .inr ⟨rfl, rfl, rfl⟩, rfl, noRow0_bare, fun j hj => by omega, fun i hi => by omega, (nil (rl_nil _ n c C b b b b cols .undef .undef (by omega)) (by kernel_rfl)).pad1 _⟩
  · have e : flen n = n := by unfold flen; rw [if_neg hn]
    rw [e]
    by_cases h0 : n = 0
    · subst h0
      have d0 : Clo (Ids [0, 9, 10, 11]) (.slice (o.map fun a => { a with id := 0 }) 0 c) := s1.clo (by simp [Ids])
      have l1 := Loops.last (by simp) (rl_end (o.map fun a => { a with id := 0 }) 0 c 0 0 0 0 0 0 0 C b noRow0 b noRow0 b 0 0 0 0 hC2 (.slice none 0 0) (.slice none 0 0) (by omega))
      have p1 : Ent 1 133 [(0, .slice (o.map fun a => { a with id := 0 }) 0 c), (5, .int .i64 C), (6, .ptr (some ⟨9, 0, 0, 0, 1⟩)), (7, .slice none 0 0), (8, .int .i64 (0 : Nat))] (AHeap.rows 10 [(0, b), (9, plcRow none 0 0)]) [(0, .slice (o.map fun a => { a with id := 0 }) 0 c), (5, .int .i64 C), (6, .ptr (some ⟨9, 0, 0, 0, 1⟩)), (7, .slice none 0 0), (8, .int .i64 (0 : Nat))] (AHeap.rows 14 [(0, b), (9, plcRow none 0 0), (10, noRow0), (11, noRow0)]) :=
        Ent.more (l2 := [(10, noRow0), (11, noRow0)]) (by kernel_rfl) (by kernel_rfl)
      have d1 : Clo (Ids [0, 9]) (.slice (o.map fun a => { a with id := 0 }) 0 c) := s1.clo (by simp [Ids])
      have p0 : Ent 1 133 [(0, .slice (o.map fun a => { a with id := 0 }) 0 c), (5, .int .i64 C), (6, .ptr (some ⟨9, 0, 0, 0, 1⟩)), (7, .slice none 0 0), (8, .int .i64 (0 : Nat))] (AHeap.rows 13 [(0, b), (9, plcRow none 0 0)]) [(0, .slice (o.map fun a => { a with id := 0 }) 0 c), (5, .int .i64 C), (6, .ptr (some ⟨9, 0, 0, 0, 1⟩)), (7, .slice none 0 0), (8, .int .i64 (0 : Nat))] (AHeap.rows 10 [(0, b), (9, plcRow none 0 0)]) :=
        Ent.drop (by kernel_rfl) (by kernel_rfl) (by kernel_rfl) (by kernel_rfl) (by simp [All_cons, All_nil, Clo, d1]; simp [Ids]) (by simp only [List.map, All_cons, All_nil, and_true]; exact ⟨h.bare.clo _, plc_cloI (by simp [Clo])⟩)
      have l2 := Loops.last (by simp) (rx_nil 0 0 0 0 0 0 0 C b noRow0 b noRow0 [] 0 0 0 0 0 0 0 0 0 0 (.slice none 0 0))
      have q1 : Ent 1 133 [(5, .int .i64 C), (6, .ptr (some ⟨9, 0, 0, 0, 1⟩)), (7, .slice none 0 0), (10, .int .i64 0), (11, .int .i64 0), (12, .int .i64 (0 : Nat))] (AHeap.rows 21 [(0, b), (9, plcRow none 0 0), (10, noRow0), (11, noRow0)]) [(5, .int .i64 C), (6, .ptr (some ⟨9, 0, 0, 0, 1⟩)), (7, .slice none 0 0), (10, .int .i64 0), (11, .int .i64 0), (12, .int .i64 (0 : Nat))] (AHeap.rows 14 [(0, b), (9, plcRow none 0 0), (10, noRow0), (11, noRow0)]) :=
        Ent.drop (by kernel_rfl) (by kernel_rfl) (by kernel_rfl) (by kernel_rfl) (by simp [All_cons, All_nil, Clo]; simp [Ids]) (by simp only [List.map, All_cons, All_nil, and_true]; exact ⟨h.bare.clo _, plc_cloI (by simp [Clo]), noRow0_bare.clo _, noRow0_bare.clo _⟩)
      have q2 : Ent 1 133 [(7, .slice none 0 0)] (AHeap.rows 18 [(0, b), (9, plcRow none 0 0), (10, noRow0), (11, noRow0)]) [(7, .slice none 0 0)] (AHeap.rows 18 [(0, b), (10, noRow0)]) :=
        Ent.drop (by kernel_rfl) (by kernel_rfl) (by kernel_rfl) (by kernel_rfl) (by simp [All_cons, All_nil, Clo]) (by simp only [List.map, All_cons, All_nil, and_true]; exact ⟨h.bare.clo _, noRow0_bare.clo _⟩)
      exact ⟨none, 0, 0, noRow0, fun _ => Qd0, .inr ⟨rfl, rfl, rfl⟩, rfl, noRow0_bare, fun j hj => by omega, fun i hi => by omega, (nil (rl_call _ 0 c C b noRow0 noRow0 noRow0 cols (.slice none 0 0) (.slice none 0 0) (by omega) wi (Runs.of_loops (l1.pre (p0.trans p1))) (Runs.of_loops ((l2.post q2).pre q1))) (by kernel_rfl)).pad1 _⟩
    · obtain ⟨k, u', hk, hu, l1⟩ := rl_start (by omega) hC2 s1 h.bare h.el (by omega : 0 < n)
      have d1 : Clo (Ids [0, 9]) (.slice (o.map fun a => { a with id := 0 }) n c) := s1.clo (by simp [Ids])
      have p0 : Ent 1 133 [(0, .slice (o.map fun a => { a with id := 0 }) n c), (5, .int .i64 C), (6, .ptr (some ⟨9, 0, 0, 0, 1⟩)), (7, .slice none 0 0), (8, .int .i64 (0 : Nat))] (AHeap.rows 13 [(0, b), (9, plcRow none 0 0)]) [(0, .slice (o.map fun a => { a with id := 0 }) n c), (5, .int .i64 C), (6, .ptr (some ⟨9, 0, 0, 0, 1⟩)), (7, .slice none 0 0), (8, .int .i64 (0 : Nat))] (AHeap.rows 14 [(0, b), (9, plcRow none 0 0)]) :=
        Ent.drop (by kernel_rfl) (by kernel_rfl) (by kernel_rfl) (by kernel_rfl) (by simp [All_cons, All_nil, Clo, d1]; simp [Ids]) (by simp only [List.map, All_cons, All_nil, and_true]; exact ⟨h.bare.clo _, plc_cloI (by simp [Clo])⟩)
      obtain ⟨out, mv3, fo, l2⟩ := rx_loop (n := n) (by omega) hC2 h.bare (w := fun j => normZ C (src j)) (fun j _ => normZ_ok (by omega) _) u' (if u' = 0 then 0 else 1) n 0 0 (fun _ => Qd0) (fixedL (fun j => normZ C (src j)) n) 0 0 (by omega) (fun j hj => by omega) rfl rfl
      rw [hk] at l2
      rw [show (qrows n fun j => if j < 0 then Qd0 else normZ C (src j)) = (qrows n fun j => normZ C (src j)) from qrows_congr fun j _ => by rw [if_neg (by omega)]] at l2
      have er : gRowQ (fun j => normZ C (src j)) 1 u' = wRow (qrows n fun j => normZ C (src j)) u' 0 (if u' = 0 then 0 else 1) := by unfold gRowQ wRow; rw [hu]
      rw [er] at l1
      have q1 : Ent 1 133 [(5, .int .i64 C), (6, .ptr (some ⟨9, 0, 0, 0, 1⟩)), (7, .slice (some ⟨10, u', 0, 0, 4⟩) n n), (10, .int .i64 0), (11, .int .i64 0), (12, .int .i64 (0 : Nat))] (rtH 21 b (fixedL (fun j => normZ C (src j)) n) k (wRow (qrows n fun j => normZ C (src j)) u' 0 (if u' = 0 then 0 else 1))) [(5, .int .i64 C), (6, .ptr (some ⟨9, 0, 0, 0, 1⟩)), (7, .slice (some ⟨10, u', 0, 0, 4⟩) n n), (10, .int .i64 0), (11, .int .i64 0), (12, .int .i64 (0 : Nat))] (rtH 14 b (fixedL (fun j => normZ C (src j)) n) k (wRow (qrows n fun j => normZ C (src j)) u' 0 (if u' = 0 then 0 else 1))) :=
        Ent.drop (by kernel_rfl) (by kernel_rfl) (by kernel_rfl) (by kernel_rfl) (by simp [All_cons, All_nil, Clo]; simp [Ids]) (by simp only [List.map, All_cons, All_nil, and_true]; exact ⟨h.bare.clo _, plc_cloI (pSl_clo (by simp [Ids])), (wRow_bare _ _ _ _ _).clo _, (tRow_bare _).clo _⟩)
      have kk := (rl_call _ n c C b (tRow (fixedL (fun j => normZ C (src j)) n)) _ _ cols (.slice (pSlN k) k k) (.slice (some ⟨10, u', 0, 0, 4⟩) n n) (by omega) wi (Runs.of_loops (l1.pre p0)) (Runs.of_loops (l2.pre q1))).new1 (bn := wRow (qrows n out) u' mv3 (if u' = 0 then 0 else 1))
        (by simp [h.bare]) (wRow_bare _ _ _ _ _) (by kernel_rfl) (by kernel_rfl) (by simp) (by simp [Clos, Clo, s1.clo]) (H := H) [id] (by simp) (by simp [h.lt]) (by simp [h.get])
      refine ⟨some ⟨H.next, u', 0, 0, 4⟩, n, u', wRow (qrows n out) u' mv3 (if u' = 0 then 0 else 1), out, .inl rfl, rfl, wRow_bare _ _ _ _ _, fun j hj => ?_, fo, ?_⟩
      · rw [wRow_el (by simp; omega), Nat.zero_add]; exact qrows_get hj
      · simpa [h.sl.back (id' := 0) (r := toBig [id] H.next) rfl, AVal.ren] using kk

end Go.Proofs.Ytcgcpmcjaeenlaa

namespace Go.Proofs.Ytcgcpmcjaeenlaa
open Go.Lift
set_option maxRecDepth 1000000
set_option linter.unusedSimpArgs false
set_option linter.unusedVariables false
set_option linter.unusedSectionVars false

theorem SameSpans_step (o o2 : Option AAddr) (n c c2 ver off ver2 off2 : Nat) (b b2 : ABlk) (i : Nat) (qa qb qc qd : Int) (hc_0 : (i : Int) < (n : Int)) (hc_1 : aindexAddr env.D 22 (.slice o n c) (.int .i64 (i : Int)) = some (.ptr (some ⟨0, ver, off + i, 0, 4⟩))) (hc_2 : ABlk.elem? b ver (off + i) = some (.agg [.int .i64 qa, .int .i64 qb, .int .i64 qc, .int .i64 qd])) (hc_3 : aindexAddr env.D 22 (.slice o2 n c2) (.int .i64 (i : Int)) = some (.ptr (some ⟨1, ver2, off2 + i, 0, 4⟩))) (hc_4 : ABlk.elem? b2 ver2 (off2 + i) = some (.agg [.int .i64 qa, .int .i64 qb, .int .i64 qc, .int .i64 qd])) (hc_5 : (!(qa == qa && (qb == qb && (qc == qc && (qd == qd && true))))) = false) (hc_6 : -9223372036854775808 ≤ (i : Int) + 1 ∧ (i : Int) + (1 : Int) ≤ 9223372036854775807) :
    Runs Try.prog 2 26 (loopAt Try.prog 14 0) [(0, .slice o n c), (1, .slice o2 n c2), (5, .int .i64 i)] (AHeap.rows 9 [(0, b), (1, b2)]) .normal [(0, .slice o n c), (1, .slice o2 n c2), (5, .int .i64 ((i : Int) + 1))] (AHeap.rows 25 [(0, b), (1, b2)]) :=
  ppath_runs env_ok mixed (hs := [.val 4003 (.bool true), .val 6002 (.ptr (some ⟨0, ver, off + i, 0, 4⟩)), .ld 6003 (.agg [.int .i64 qa, .int .i64 qb, .int .i64 qc, .int .i64 qd]), .val 6006 (.ptr (some ⟨1, ver2, off2 + i, 0, 4⟩)), .ld 6007 (.agg [.int .i64 qa, .int .i64 qb, .int .i64 qc, .int .i64 qd]), .val 6008 (.bool false), .go 5001]) (keep := [0, 1, 5]) (by kernel_rfl) (All.cons (okT hc_0) (All.cons hc_1 (All.cons hc_2 (All.cons hc_3 (All.cons hc_4 (All.cons (congrArg (fun q => some (AVal.bool q)) hc_5) (All.cons hc_6 (All.nil))))))))

theorem SameSpans_end (o o2 : Option AAddr) (n c c2 ver off ver2 off2 : Nat) (b b2 : ABlk) (i : Nat) (qa qb qc qd : Int) (hc_0 : ¬ ((i : Int) < (n : Int))) :
    Runs Try.prog 2 26 (loopAt Try.prog 14 0) [(0, .slice o n c), (1, .slice o2 n c2), (5, .int .i64 i)] (AHeap.rows 9 [(0, b), (1, b2)]) (.exit 0) [] (AHeap.rows 13 [(0, b), (1, b2)]) :=
  ppath_runs env_ok mixed (hs := [.val 4003 (.bool false)]) (keep := []) (by kernel_rfl) (All.cons (okF hc_0) (All.nil))

theorem SameSpans_call (o o2 : Option AAddr) (n c c2 : Nat) (b b2 : ABlk) (hc_0 : (n : Int) = (n : Int)) (hc_1 : Runs Try.prog 2 26 (.loop (loopAt Try.prog 14 0)) [(0, .slice o n c), (1, .slice o2 n c2), (5, .int .i64 0)] (AHeap.rows 9 [(0, b), (1, b2)]) (.exit 0) [] (AHeap.rows 13 [(0, b), (1, b2)])) :
    FDoes Try.prog 14 [.slice o n c, .slice o2 n c2] (AHeap.of [b, b2]) (AVal.bool true) (AHeap.rows 14 [(0, b), (1, b2)]) :=
  pcall_does env_ok mixed (hs := [.val 1004 (.bool false), .keep [0, 1, 5], .loop [] (AHeap.rows 13 [(0, b), (1, b2)]) (.exit 0)]) (rs := []) (by kernel_rfl) (All.cons (neF hc_0) (All.cons hc_1 (All.nil)))

theorem markedQ_step (o : Option AAddr) (n c ver off : Nat) (b : ABlk) (i : Nat) (m : Int) (hc_0 : (i : Int) < (n : Int)) (hc_1 : aindexAddr env.D 22 (.slice o n c) (.int .i64 (i : Int)) = some (.ptr (some ⟨0, ver, off + i, 0, 4⟩))) (hc_2 : ABlk.elem? b ver (off + i) = some (.agg [.int .i64 m, .int .i64 0, .int .i64 0, .int .i64 0])) (hc_3 : (!(m == m && (0 == 0 && (0 == 0 && (0 == 0 && true))))) = false) (hc_4 : -9223372036854775808 ≤ (i : Int) + 1 ∧ (i : Int) + (1 : Int) ≤ 9223372036854775807) :
    Runs Try.prog 1 19 (loopAt Try.prog 15 0) [(0, .slice o n c), (1, .int .i64 m), (5, .int .i64 i)] (AHeap.rows 3 [(0, b)]) .normal [(0, .slice o n c), (1, .int .i64 m), (5, .int .i64 ((i : Int) + 1))] (AHeap.rows 17 [(0, b)]) :=
  ppath_runs env_ok mixed (hs := [.val 2003 (.bool true), .val 4002 (.ptr (some ⟨0, ver, off + i, 0, 4⟩)), .ld 4003 (.agg [.int .i64 m, .int .i64 0, .int .i64 0, .int .i64 0]), .val 4006 (.bool false), .go 3001]) (keep := [0, 1, 5]) (by kernel_rfl) (All.cons (okT hc_0) (All.cons hc_1 (All.cons hc_2 (All.cons (congrArg (fun q => some (AVal.bool q)) hc_3) (All.cons hc_4 (All.nil))))))

theorem markedQ_end (o : Option AAddr) (n c ver off : Nat) (b : ABlk) (i : Nat) (m : Int) (hc_0 : ¬ ((i : Int) < (n : Int))) :
    Runs Try.prog 1 19 (loopAt Try.prog 15 0) [(0, .slice o n c), (1, .int .i64 m), (5, .int .i64 i)] (AHeap.rows 3 [(0, b)]) (.exit 0) [] (AHeap.rows 7 [(0, b)]) :=
  ppath_runs env_ok mixed (hs := [.val 2003 (.bool false)]) (keep := []) (by kernel_rfl) (All.cons (okF hc_0) (All.nil))

theorem markedQ_call (o : Option AAddr) (n c : Nat) (b : ABlk) (m : Int) (hc_0 : Runs Try.prog 1 19 (.loop (loopAt Try.prog 15 0)) [(0, .slice o n c), (1, .int .i64 m), (5, .int .i64 0)] (AHeap.rows 3 [(0, b)]) (.exit 0) [] (AHeap.rows 7 [(0, b)])) :
    FDoes Try.prog 15 [.slice o n c, .int .i64 m] (AHeap.of [b]) (AVal.bool true) (AHeap.rows 8 [(0, b)]) :=
  pcall_does env_ok mixed (hs := [.keep [0, 1, 5], .loop [] (AHeap.rows 7 [(0, b)]) (.exit 0)]) (rs := []) (by kernel_rfl) (All.cons hc_0 (All.nil))

theorem rm_first0 (v q i : Nat) (b e r r2 : ABlk) (hc_0 : abuiltin env Builtin.append { toList := [22, 22] } [.slice (some ⟨2, 0, 0, 0, 4⟩) 0 0, .slice (some ⟨11, 0, 0, 0, 4⟩) 1 1] 12 (AHeap.set (AHeap.rows 14 [(0, b), (2, (.made ([]) 4 true))]) 11 (.made [.agg [.int .i64 (-77), .int .i64 0, .int .i64 0, .int .i64 0]] 4 true)) = some (.slice (some ⟨12, 0, 0, 0, 4⟩) 1 1, (AHeap.rows 14 [(0, b), (2, (.made ([]) 4 true)), (11, .made [.agg [.int .i64 (-77), .int .i64 0, .int .i64 0, .int .i64 0]] 4 true), (12, r)]))) :
    Runs Try.prog 1 17 (loopAt Try.prog 12 0) [(3, .slice (some ⟨2, 0, 0, 0, 4⟩) 0 0), (4, .int .i64 0)] (AHeap.rows 7 [(0, b), (2, .made [] 4 true)]) .normal [(3, .slice (some ⟨12, 0, 0, 0, 4⟩) 1 1), (4, .int .i64 1)] (AHeap.rows 17 [(0, b), (2, (.made ([]) 4 true)), (11, .made [.agg [.int .i64 (-77), .int .i64 0, .int .i64 0, .int .i64 0]] 4 true), (12, r)]) :=
  ppath_runs env_ok mixed (hs := [.act 5003 (.slice (some ⟨12, 0, 0, 0, 4⟩) 1 1) (fun h => h.set 12 r)]) (keep := [3, 4]) (by kernel_rfl) (All.cons hc_0 (All.nil))

theorem rm_step (v q i : Nat) (b e r r2 : ABlk) (hc_0 : (i : Int) < 9) (hc_1 : abuiltin env Builtin.append { toList := [22, 22] } [.slice (some ⟨12, v, 0, 0, 4⟩) q q, .slice (some ⟨17, 0, 0, 0, 4⟩) 1 1] 18 (AHeap.set (AHeap.rows 20 [(0, b), (12, r)]) 17 (.made [.agg [.int .i64 (-77), .int .i64 0, .int .i64 0, .int .i64 0]] 4 true)) = some (.slice (some ⟨12, v + 1, 0, 0, 4⟩) (q + 1) (q + 1), (AHeap.rows 20 [(0, b), (12, r2), (17, .made [.agg [.int .i64 (-77), .int .i64 0, .int .i64 0, .int .i64 0]] 4 true)]))) (hc_2 : -9223372036854775808 ≤ (i : Int) + 1 ∧ (i : Int) + (1 : Int) ≤ 9223372036854775807) :
    Runs Try.prog 1 17 (loopAt Try.prog 12 0) [(3, .slice (some ⟨12, v, 0, 0, 4⟩) q q), (4, .int .i64 i)] (AHeap.rows 13 [(0, b), (12, r)]) .normal [(3, .slice (some ⟨12, v + 1, 0, 0, 4⟩) (q + 1) (q + 1)), (4, .int .i64 ((i : Int) + 1))] (AHeap.rows 23 [(0, b), (12, r2), (17, .made [.agg [.int .i64 (-77), .int .i64 0, .int .i64 0, .int .i64 0]] 4 true)]) :=
  ppath_runs env_ok mixed (hs := [.val 3001 (.bool true), .act 5003 (.slice (some ⟨12, v + 1, 0, 0, 4⟩) (q + 1) (q + 1)) (fun h => h.set 12 r2), .go 4001]) (keep := [3, 4]) (by kernel_rfl) (All.cons (okT hc_0) (All.cons hc_1 (All.cons hc_2 (All.nil))))

theorem rm_end (v q i : Nat) (b e r r2 : ABlk) (hc_0 : ¬ ((i : Int) < 9)) :
    Runs Try.prog 1 17 (loopAt Try.prog 12 0) [(3, .slice (some ⟨12, v, 0, 0, 4⟩) q q), (4, .int .i64 i)] (AHeap.rows 13 [(0, b), (12, r)]) (.exit 0) [(3, .slice (some ⟨12, v, 0, 0, 4⟩) q q)] (AHeap.rows 15 [(0, b), (12, r)]) :=
  ppath_runs env_ok mixed (hs := [.val 3001 (.bool false)]) (keep := [3]) (by kernel_rfl) (All.cons (okF hc_0) (All.nil))

theorem rm_call0 (o : Option AAddr) (c v q : Nat) (b r : ABlk) (hc_0 : abuiltin env Builtin.append { toList := [22, 22] } [.slice (some ⟨2, 0, 0, 0, 4⟩) 0 0, .slice o 0 c] 4 (AHeap.set (AHeap.rows 6 [(0, b)]) 2 (.made (List.replicate 0 (.agg [.int .i64 0, .int .i64 0, .int .i64 0, .int .i64 0])) 4 true)) = some (.slice (some ⟨2, 0, 0, 0, 4⟩) 0 0, (AHeap.rows 6 [(0, b), (2, .made (List.replicate 0 (.agg [.int .i64 0, .int .i64 0, .int .i64 0, .int .i64 0])) 4 true)]))) (hc_1 : Runs Try.prog 1 17 (.loop (loopAt Try.prog 12 0)) [(3, .slice (some ⟨2, 0, 0, 0, 4⟩) 0 0), (4, .int .i64 0)] (AHeap.rows 7 [(0, b), (2, .made (List.replicate 0 (.agg [.int .i64 0, .int .i64 0, .int .i64 0, .int .i64 0])) 4 true)]) (.exit 0) [(3, .slice (some ⟨12, v, 0, 0, 4⟩) q q)] (AHeap.rows 15 [(0, b), (12, r)])) :
    FDoes Try.prog 12 [.slice o 0 c] (AHeap.of [b]) (.slice (some ⟨12, v, 0, 0, 4⟩) q q) (AHeap.rows 17 [(0, b), (12, r)]) :=
  pcall_does env_ok mixed (hs := [.act 1002 (.slice (some ⟨2, 0, 0, 0, 4⟩) 0 0) (fun h => h), .keep [3, 4], .loop [(3, .slice (some ⟨12, v, 0, 0, 4⟩) q q)] (AHeap.rows 15 [(0, b), (12, r)]) (.exit 0)]) (rs := []) (by kernel_rfl) (All.cons hc_0 (All.cons hc_1 (All.nil)))

theorem rm_call1 (o : Option AAddr) (n c v q : Nat) (b r r0 : ABlk) (hc_0 : abuiltin env Builtin.append { toList := [22, 22] } [.slice (some ⟨2, 0, 0, 0, 4⟩) 0 0, .slice o n c] 4 (AHeap.set (AHeap.rows 6 [(0, b)]) 2 (.made (List.replicate 0 (.agg [.int .i64 0, .int .i64 0, .int .i64 0, .int .i64 0])) 4 true)) = some (.slice (some ⟨4, 0, 0, 0, 4⟩) n n, (AHeap.rows 6 [(0, b), (2, .made (List.replicate 0 (.agg [.int .i64 0, .int .i64 0, .int .i64 0, .int .i64 0])) 4 true), (4, r0)]))) (hc_1 : Runs Try.prog 1 17 (.loop (loopAt Try.prog 12 0)) [(3, .slice (some ⟨4, 0, 0, 0, 4⟩) n n), (4, .int .i64 0)] (AHeap.rows 7 [(0, b), (2, .made (List.replicate 0 (.agg [.int .i64 0, .int .i64 0, .int .i64 0, .int .i64 0])) 4 true), (4, r0)]) (.exit 0) [(3, .slice (some ⟨12, v, 0, 0, 4⟩) q q)] (AHeap.rows 15 [(0, b), (12, r)])) :
    FDoes Try.prog 12 [.slice o n c] (AHeap.of [b]) (.slice (some ⟨12, v, 0, 0, 4⟩) q q) (AHeap.rows 17 [(0, b), (12, r)]) :=
  pcall_does env_ok mixed (hs := [.act 1002 (.slice (some ⟨4, 0, 0, 0, 4⟩) n n) (fun h => h.set 4 r0), .keep [3, 4], .loop [(3, .slice (some ⟨12, v, 0, 0, 4⟩) q q)] (AHeap.rows 15 [(0, b), (12, r)]) (.exit 0)]) (rs := []) (by kernel_rfl) (All.cons hc_0 (All.cons hc_1 (All.nil)))

end Go.Proofs.Ytcgcpmcjaeenlaa

namespace Go.Proofs.Ytcgcpmcjaeenlaa
open Go.Lift
set_option maxRecDepth 1000000
set_option linter.unusedSimpArgs false
set_option linter.unusedVariables false
set_option linter.unusedSectionVars false

theorem eqQ (q : Qd) : (!(q.a == q.a && (q.b == q.b && (q.c == q.c && (q.d == q.d && true))))) = false := by simp

theorem sameS_loop {o o2 : Option AAddr} {n c c2 ver off ver2 off2 : Nat} {b b2 : ABlk} (hs : SlArg o n c 0 ver off 4) (hs2 : SlArg o2 n c2 1 ver2 off2 4) (hb : BareB b) (hb2 : BareB b2) {x : Nat → Qd} (hx : ∀ j, j < n → b.elem? ver (off + j) = some (x j).val)
    (hx2 : ∀ j, j < n → b2.elem? ver2 (off2 + j) = some (x j).val) (hn : n < 2 ^ 62) :
    ∀ (k i : Nat), i + k = n → Loops Try.prog 2 26 (loopAt Try.prog 14 0) [(0, .slice o n c), (1, .slice o2 n c2), (5, .int .i64 i)] (AHeap.rows 9 [(0, b), (1, b2)]) (.exit 0) [] (AHeap.rows 13 [(0, b), (1, b2)])
  | 0, i, e => by
    obtain rfl : i = n := by omega
    exact Loops.last (by simp) (SameSpans_end o o2 i c c2 0 0 0 0 b b2 i 0 0 0 0 (by omega))
  | k + 1, i, e => by
    refine Loops.round (SameSpans_step o o2 n c c2 ver off ver2 off2 b b2 i (x i).a (x i).b (x i).c (x i).d (by omega) (ix_spS hs (by omega)) (hx i (by omega)) (ix_spS hs2 (by omega)) (hx2 i (by omega)) (eqQ (x i)) (by omega)) ?_ (sameS_loop hs hs2 hb hb2 hx hx2 hn k (i + 1) (by omega))
    have hc : Clo (Ids [0, 1]) (.slice o n c) := hs.clo (by simp [Ids])
    have hc2 : Clo (Ids [0, 1]) (.slice o2 n c2) := hs2.clo (by simp [Ids])
    exact Ent.drop (by kernel_rfl) (by kernel_rfl) (by kernel_rfl) (by kernel_rfl) (by simp [All_cons, All_nil, Clo, hc, hc2]) (by simp only [List.map, All_cons, All_nil, and_true]; exact ⟨hb.clo _, hb2.clo _⟩)
theorem sameS_does {H : AHeap} {o o2 : Option AAddr} {n c c2 id id2 ver off ver2 off2 : Nat} {b b2 : ABlk} {x : Nat → Qd} (h1 : QdsAt H o n c id ver off b x) (h2 : QdsAt H o2 n c2 id2 ver2 off2 b2 x) (hne : id ≠ id2) (hn : n < 2 ^ 62) :
    FDoes Try.prog 14 [.slice o n c, .slice o2 n c2] H (.bool true) H := by
  have s1 := h1.sl.at 0
  have s2 := h2.sl.at 1
  have k := (SameSpans_call _ _ n c c2 b b2 rfl (Runs.of_loops (sameS_loop s1 s2 h1.bare h2.bare h1.el h2.el hn n 0 (by omega)))).pure (by simp [h1.bare, h2.bare]) (by kernel_rfl) (Bare.bool _) (by simp [Clos, s1.clo, s2.clo]) (H := H) [id, id2] (by simp [hne]) (by simp [h1.lt, h2.lt]) (by simp [h1.get, h2.get])
  simpa [h1.sl.back (id' := 0) (r := toBig [id, id2] H.next) rfl, h2.sl.back (id' := 1) (r := toBig [id, id2] H.next) rfl] using k

theorem markedQ_loop {o : Option AAddr} {n c ver off : Nat} {b : ABlk} (hs : SlArg o n c 0 ver off 4) (hb : BareB b) {m : Int} (hx : ∀ j, j < n → b.elem? ver (off + j) = some (Qd.val ⟨m, 0, 0, 0⟩)) (hn : n < 2 ^ 62) :
    ∀ (k i : Nat), i + k = n → Loops Try.prog 1 19 (loopAt Try.prog 15 0) [(0, .slice o n c), (1, .int .i64 m), (5, .int .i64 i)] (AHeap.rows 3 [(0, b)]) (.exit 0) [] (AHeap.rows 7 [(0, b)])
  | 0, i, e => by
    obtain rfl : i = n := by omega
    exact Loops.last (by simp) (markedQ_end o i c 0 0 b i m (by omega))
  | k + 1, i, e => by
    refine Loops.round (markedQ_step o n c ver off b i m (by omega) (ix_spS hs (by omega)) (hx i (by omega)) (by simp) (by omega)) ?_ (markedQ_loop hs hb hx hn k (i + 1) (by omega))
    have hc : Clo (Ids [0]) (.slice o n c) := hs.clo (by simp [Ids])
    exact Ent.drop (by kernel_rfl) (by kernel_rfl) (by kernel_rfl) (by kernel_rfl) (by simp [All_cons, All_nil, Clo, hc]) (by simp only [List.map, All_cons, All_nil, and_true]; exact hb.clo _)
theorem markedQ_does {H : AHeap} {o : Option AAddr} {n c id ver off : Nat} {b : ABlk} {m : Int} (h1 : QdsAt H o n c id ver off b fun _ => ⟨m, 0, 0, 0⟩) (hn : n < 2 ^ 62) : FDoes Try.prog 15 [.slice o n c, .int .i64 m] H (.bool true) H := by
  have s1 := h1.sl.at 0
  have k := (markedQ_call _ n c b m (Runs.of_loops (markedQ_loop s1 h1.bare h1.el hn n 0 (by omega)))).pure (by simp [h1.bare]) (by kernel_rfl) (Bare.bool _) (by simp [Clos, Clo, s1.clo]) (H := H) [id] (by simp) (by simp [h1.lt]) (by simp [h1.get])
  simpa [h1.sl.back (id' := 0) (r := toBig [id] H.next) rfl, AVal.ren] using k

/-! a list with marks behind it -/
def MarkQ (m : Int) : Qd := ⟨m, 0, 0, 0⟩
def roomyF (n : Nat) (x : Nat → Qd) (m : Int) (j : Nat) : Qd := if j < n then x j else MarkQ m

theorem rm_loop {b : ABlk} (hb : BareB b) {n1 : Nat} (h1 : 1 ≤ n1) {f : Nat → Qd} (hf : ∀ j, n1 ≤ j → f j = MarkQ (-77)) : ∀ (k i v : Nat), i + k = 9 → n1 + v + k ≤ 2 ^ 42 + 100 →
    Loops Try.prog 1 17 (loopAt Try.prog 12 0) [(3, .slice (some ⟨12, v, 0, 0, 4⟩) (n1 + v) (n1 + v)), (4, .int .i64 i)] (AHeap.rows 13 [(0, b), (12, gRowQ f n1 v)]) (.exit 0)
      [(3, .slice (some ⟨12, v + k, 0, 0, 4⟩) (n1 + (v + k)) (n1 + (v + k)))] (AHeap.rows 15 [(0, b), (12, gRowQ f n1 (v + k))])
  | 0, i, v, e, _ => by
    obtain rfl : i = 9 := by omega
    exact Loops.last (by simp) (rm_end v (n1 + v) 9 b b (gRowQ f n1 v) b (by omega))
  | k + 1, i, v, e, hv => by
    have ih := rm_loop hb h1 hf k (i + 1) (v + 1) (by omega) (by omega)
    rw [show v + 1 + k = v + (k + 1) by omega, show n1 + (v + 1) = n1 + v + 1 by omega] at ih
    refine Loops.step ((rm_step v (n1 + v) i b b (gRowQ f n1 v) (gRowQ f n1 (v + 1)) (by omega) ((app_quad slSpan h1 (by omega) (MarkQ (-77)) (hf _ (by omega)) _ _ _ (by kernel_rfl) (by kernel_rfl)).trans (by kernel_rfl)) (by omega)).post ?_) ih
    exact Ent.drop (by kernel_rfl) (by kernel_rfl) (by kernel_rfl) (by kernel_rfl) (by simp [All_cons, All_nil, Clo]; simp [Ids]) (by simp only [List.map, All_cons, All_nil, and_true]; exact ⟨hb.clo _, (gRowQ_bare _ _ _).clo _⟩)

def to12 (i : Nat) : Nat := if i = 12 then 4 else i

/-- a list with marks behind it: its row and its number of writes -/
theorem roomy_does {H : AHeap} {o : Option AAddr} {n c id ver off : Nat} {b : ABlk} {x : Nat → Qd} (h1 : QdsAt H o n c id ver off b x) (hn : n ≤ 2 ^ 42) :
    ∃ n1 v : Nat, n1 + v = n + 9 ∧ FDoes Try.prog 12 [.slice o n c] H (.slice (some ⟨H.next, v, 0, 0, 4⟩) (n + 9) (n + 9)) (H.upd [] [gRowQ (roomyF n x (-77)) n1 v]) := by
  have s1 := h1.sl.at 0
  have hx : ∀ {hp : AHeap}, hp.get 0 = some b → elemsOf 4 (.slice (o.map fun a => { a with id := 0 }) n c) hp = some (qrows n x) := fun hg => elemsOf_slice s1 hg h1.el
  by_cases h0 : n = 0
  · subst h0
    refine ⟨1, 8, rfl, ?_⟩
    have l := rm_loop h1.bare (n1 := 1) (by omega) (f := roomyF 0 x (-77)) (fun j hj => by unfold roomyF; rw [if_neg (by omega)]) 8 1 0 (by omega) (by omega)
    have st := rm_first0 0 0 0 b b (gRowQ (roomyF 0 x (-77)) 1 0) b ((app_copy slSpan (new := [(MarkQ (-77)).val]) (by kernel_rfl) (b := .made [] 4 true) (old := []) (by simp) (by simp) (by kernel_rfl) rfl (by simp) rfl (by kernel_rfl)).trans (by kernel_rfl))
    have l2 := Loops.step (st.post (Ent.drop (K := 13) (l := [(0, b), (12, gRowQ (roomyF 0 x (-77)) 1 0)]) (by kernel_rfl) (by kernel_rfl) (by kernel_rfl) (by kernel_rfl) (by simp [All_cons, All_nil, Clo]; simp [Ids]) (by simp only [List.map, All_cons, All_nil, and_true]; exact ⟨h1.bare.clo _, (gRowQ_bare _ _ _).clo _⟩))) l
    have k := (rm_call0 (o.map fun a => { a with id := 0 }) c _ _ b _ ((app_none slSpan ((hx (by kernel_rfl)).trans (by simp [qrows])) (b := .made [] 4 true) (o := some ⟨2, 0, 0, 0, 4⟩) (len := 0) (cap := 0) (by simp) (by simp) (fun a ha => by simp at ha; subst ha; exact ⟨by kernel_rfl, rfl⟩) (by simp) (by simp)).trans (by kernel_rfl)) (Runs.of_loops l2)).new1 (bn := gRowQ (roomyF 0 x (-77)) 1 8) (by simp [h1.bare]) (gRowQ_bare _ _ _) (by kernel_rfl) (by kernel_rfl) (by simp) (by simp [Clos, Clo, s1.clo]) (H := H) [id] (by simp) (by simp [h1.lt]) (by simp [h1.get])
    simpa [h1.sl.back (id' := 0) (r := toBig [id] H.next) rfl, AVal.ren] using k
  · refine ⟨n, 9, rfl, ?_⟩
    have l := rm_loop h1.bare (n1 := n) (by omega) (f := roomyF n x (-77)) (fun j hj => by unfold roomyF; rw [if_neg (by omega)]) 9 0 0 (by omega) (by omega)
    have er : gRowQ (roomyF n x (-77)) n 0 = .made (qrows n x) 4 false := by
      rw [← gRowQ_zero, qrows_congr (f := roomyF n x (-77)) (g := x) fun j hj => by unfold roomyF; rw [if_pos hj]]
    have pre : Ent 1 17 [(3, .slice (some ⟨4, 0, 0, 0, 4⟩) n n), (4, .int .i64 0)] (AHeap.rows 7 [(0, b), (2, .made [] 4 true), (4, gRowQ (roomyF n x (-77)) n 0)]) [(3, .slice (some ⟨12, 0, 0, 0, 4⟩) (n + 0) (n + 0)), (4, .int .i64 (0 : Nat))] (AHeap.rows 13 [(0, b), (12, gRowQ (roomyF n x (-77)) n 0)]) := by
      refine Ent.move to12 ?_ (by kernel_rfl) (by simp [to12]) (by kernel_rfl) (by kernel_rfl) ?_ (by kernel_rfl) (by simp only [List.map, All_cons, All_nil, and_true]; exact ⟨by simp [Clo, Ids], by simp [Clo]⟩) (by
        simp only [List.map, All_cons, All_nil, and_true]
        exact ⟨h1.bare.clo _, (gRowQ_bare _ _ _).clo _⟩)
      · simp only [List.map]
        rw [h1.bare.ren, (gRowQ_bare _ _ _).ren]
        kernel_rfl
      · rfl
    have k := (rm_call1 (o.map fun a => { a with id := 0 }) n c _ _ b _ (gRowQ (roomyF n x (-77)) n 0) ((app_copy slSpan (hx (by kernel_rfl)) (b := .made [] 4 true) (old := []) (a := ⟨2, 0, 0, 0, 4⟩) (len := 0) (cap := 0) (by simp; omega) (by simp; omega) (by kernel_rfl) rfl (by simp; omega) rfl (by kernel_rfl)).trans (by
      rw [er, List.nil_append, qrows_length, Nat.zero_add]; kernel_rfl)) (Runs.of_loops (l.pre pre))).new1 (bn := gRowQ (roomyF n x (-77)) n 9) (by simp [h1.bare]) (gRowQ_bare _ _ _) (by kernel_rfl) (by kernel_rfl) (by simp) (by simp [Clos, Clo, s1.clo]) (H := H) [id] (by simp) (by simp [h1.lt]) (by simp [h1.get])
    simpa [h1.sl.back (id' := 0) (r := toBig [id] H.next) rfl, AVal.ren] using k

end Go.Proofs.Ytcgcpmcjaeenlaa

namespace Go.Lift
noncomputable section
set_option linter.unusedVariables false
set_option linter.unusedSimpArgs false

section
variable {β : Type}

def fNat (n : Nat) (k : Nat → β) : β := Nat.rec (motive := fun _ => β) (k 0) (fun m _ => k (Nat.succ m)) n
theorem fNat_eq (n : Nat) (k : Nat → β) : fNat n k = k n := by cases n <;> rfl

def fInt (n : Int) (k : Int → β) : β :=
  match n with
  | .ofNat m => fNat m fun m => k (.ofNat m)
  | .negSucc m => fNat m fun m => k (.negSucc m)
theorem fInt_eq (n : Int) (k : Int → β) : fInt n k = k n := by cases n <;> simp [fInt, fNat_eq]

def fKind (d : IntKind) (k : IntKind → β) : β :=
  match d with
  | .i8 => k .i8 | .i16 => k .i16 | .i32 => k .i32 | .i64 => k .i64 | .u8 => k .u8 | .u16 => k .u16 | .u32 => k .u32 | .u64 => k .u64
theorem fKind_eq (d : IntKind) (k : IntKind → β) : fKind d k = k d := by cases d <;> rfl

def fBool (b : Bool) (k : Bool → β) : β :=
  match b with
  | true => k true
  | false => k false
theorem fBool_eq (b : Bool) (k : Bool → β) : fBool b k = k b := by cases b <;> rfl

def fAddr (a : AAddr) (k : AAddr → β) : β :=
  match a with
  | ⟨a, b, c, d, e⟩ => fNat a fun a => fNat b fun b => fNat c fun c => fNat d fun d => fNat e fun e => k ⟨a, b, c, d, e⟩
theorem fAddr_eq (a : AAddr) (k : AAddr → β) : fAddr a k = k a := by cases a; simp [fAddr, fNat_eq]

def fByte (b : UInt8) (k : UInt8 → β) : β :=
  match b with
  | ⟨⟨⟨n, h⟩⟩⟩ => fNat n fun m => k (UInt8.ofNat m)
theorem fByte_eq (b : UInt8) (k : UInt8 → β) : fByte b k = k b := by
  obtain ⟨⟨⟨n, h⟩⟩⟩ := b
  simp only [fByte, fNat_eq]
  congr 1
  apply UInt8.toNat_inj.1
  simp [UInt8.toNat, UInt8.ofNat]
  omega

def fBytes : List UInt8 → (List UInt8 → β) → β
  | [], k => k []
  | b :: r, k => fByte b fun b => fBytes r fun r => k (b :: r)
theorem fBytes_eq : ∀ (l : List UInt8) (k : List UInt8 → β), fBytes l k = k l
  | [], k => rfl
  | b :: r, k => by simp only [fBytes, fByte_eq, fBytes_eq r]

/-- a value without parts -/
def fS (v : AVal) (k : AVal → β) : β :=
  match v with
  | .undef => k .undef
  | .bool b => fBool b fun b => k (.bool b)
  | .int d n => fKind d fun d => fInt n fun n => k (.int d n)
  | .str s => fBytes s fun s => k (.str s)
  | .ptr none => k (.ptr none)
  | .ptr (some a) => fAddr a fun a => k (.ptr (some a))
  | .slice none n c => fNat n fun n => fNat c fun c => k (.slice none n c)
  | .slice (some a) n c => fAddr a fun a => fNat n fun n => fNat c fun c => k (.slice (some a) n c)
  | .nilFunc => k .nilFunc
  | .nilIface => k .nilIface
  | .func a b c => k (.func a b c)
  | .iface t v => k (.iface t v)
  | .agg l => k (.agg l)
  | .tuple l => k (.tuple l)
theorem fS_eq (v : AVal) (k : AVal → β) : fS v k = k v := by
  cases v with
  | ptr o => cases o <;> simp [fS, fAddr_eq]
  | slice o n c => cases o <;> simp [fS, fAddr_eq, fNat_eq]
  | _ => simp [fS, fBool_eq, fKind_eq, fInt_eq, fBytes_eq]

def fSs : List AVal → (List AVal → β) → β
  | [], k => k []
  | a :: r, k => fS a fun a => fSs r fun r => k (a :: r)
theorem fSs_eq : ∀ (l : List AVal) (k : List AVal → β), fSs l k = k l
  | [], k => rfl
  | a :: r, k => by simp only [fSs, fS_eq, fSs_eq r]

/-- parts of one layer -/
def fV1 (v : AVal) (k : AVal → β) : β :=
  match v with
  | .agg l => fSs l fun l => k (.agg l)
  | .iface t v => fNat t fun t => fS v fun v => k (.iface t v)
  | .func a b c => fSs b fun b => fSs c fun c => k (.func a b c)
  | .tuple l => fSs l fun l => k (.tuple l)
  | v => fS v k
theorem fV1_eq (v : AVal) (k : AVal → β) : fV1 v k = k v := by
  unfold fV1; split <;> simp [fS_eq, fSs_eq, fNat_eq]

def fV1s : List AVal → (List AVal → β) → β
  | [], k => k []
  | a :: r, k => fV1 a fun a => fV1s r fun r => k (a :: r)
theorem fV1s_eq : ∀ (l : List AVal) (k : List AVal → β), fV1s l k = k l
  | [], k => rfl
  | a :: r, k => by simp only [fV1s, fV1_eq, fV1s_eq r]

def fV (v : AVal) (k : AVal → β) : β :=
  match v with
  | .tuple l => fV1s l fun l => k (.tuple l)
  | .iface t v => fNat t fun t => fV1 v fun v => k (.iface t v)
  | v => fV1 v k
theorem fV_eq (v : AVal) (k : AVal → β) : fV v k = k v := by
  unfold fV; split <;> simp [fV1_eq, fV1s_eq, fNat_eq]

def fVs : List AVal → (List AVal → β) → β
  | [], k => k []
  | a :: r, k => fV a fun a => fVs r fun r => k (a :: r)
def fBlk (b : ABlk) (k : ABlk → β) : β :=
  match b with
  | ⟨l, es, ex, ro, v, m, f⟩ => fV1s l fun l => fNat es fun es => fBool ex fun ex => fBool ro fun ro => fNat v fun v => fNat m fun m => fNat f fun f => k ⟨l, es, ex, ro, v, m, f⟩
theorem fBlk_eq (b : ABlk) (k : ABlk → β) : fBlk b k = k b := by cases b; simp [fBlk, fV1s_eq, fNat_eq, fBool_eq]


/-! slots: a tree -/

def toL (n : Nat) (t : Trie AVal) : List AVal := (List.range n).map fun i => (t.get i).getD skipped

theorem toL_get (n : Nat) (t : Trie AVal) (i : Nat) : (toL n t)[i]? = if i < n then some ((t.get i).getD skipped) else none := by
  simp only [toL, List.getElem?_map]
  by_cases h : i < n
  · rw [List.getElem?_range h, if_pos h]; rfl
  · rw [List.getElem?_eq_none (by simpa using h), if_neg h]; rfl

def tget (n : Nat) (t : Trie AVal) (i : Nat) : Option AVal := cond (Nat.blt i n) (some (Option.rec (motive := fun _ => AVal) skipped (fun v => v) (t.get i))) none
theorem tget_eq (n : Nat) (t : Trie AVal) (i : Nat) : tget n t i = (toL n t)[i]? := by
  rw [toL_get]; unfold tget
  by_cases h : i < n
  · rw [show Nat.blt i n = true by simpa [Nat.blt_eq] using h, if_pos h]; cases t.get i <;> rfl
  · rw [show Nat.blt i n = false by cases hb : Nat.blt i n with | false => rfl | true => exact absurd (Nat.blt_eq.mp hb) h, if_neg h]; rfl

def agetT (n : Nat) (t : Trie AVal) (o : Operand) : AVal :=
  match o with
  | .tmp i => cond (Nat.blt i n) (Option.rec (motive := fun _ => AVal) skipped (fun v => v) (t.get i)) .undef
  | .const v => ofConst v
  | .global _ => .undef
  | .func f => .func (.func f) [] []
theorem agetT_eq (n : Nat) (t : Trie AVal) : agetT n t = agetOp (toL n t) := by
  funext o
  cases o with
  | tmp i =>
    have := tget_eq n t i
    simp only [agetOp, List.getD_eq_getElem?_getD, ← this]
    unfold tget
    show cond (Nat.blt i n) (Option.rec (motive := fun _ => AVal) skipped (fun v => v) (t.get i)) .undef = _
    cases Nat.blt i n <;> rfl
  | const v => rfl
  | global g => rfl
  | func f => rfl

theorem toL_set (n : Nat) (t : Trie AVal) (d : Nat) (v : AVal) : toL n (t.set d v) = (toL n t).set d v := by
  apply List.ext_getElem?
  intro i
  rw [toL_get, List.getElem?_set, toL_get]
  by_cases h : i < n
  · simp only [h, if_true, Trie.get_set]
    by_cases hd : d = i
    · subst hd; simp [toL, h]
    · simp [hd]
  · simp only [h, if_false]
    by_cases hd : d = i
    · subst hd; simp [toL, h]
    · simp [hd]

section
variable {α : Type}
def fSing (f : Nat) : Nat → α → (Trie α → β) → β :=
  Nat.rec (motive := fun _ => Nat → α → (Trie α → β) → β) (fun _ v c => c (.node (some v) .nil .nil))
    (fun _ ih k v c => cond (Nat.beq k 0) (c (.node (some v) .nil .nil)) (cond (Nat.beq (Nat.mod k 2) 1) (ih (Nat.div k 2) v fun u => c (.node none u .nil)) (ih (Nat.sub (Nat.div k 2) 1) v fun u => c (.node none .nil u)))) f
theorem fSing_eq : ∀ (f k : Nat) (v : α) (c : Trie α → β), fSing f k v c = c (Trie.sing f k v)
  | 0, k, v, c => rfl
  | f + 1, k, v, c => by
    show cond (Nat.beq k 0) (c (.node (some v) .nil .nil)) (cond (Nat.beq (k % 2) 1) (fSing f (k / 2) v fun u => c (.node none u .nil)) (fSing f (k / 2 - 1) v fun u => c (.node none .nil u))) =
      c (cond (Nat.beq k 0) (.node (some v) .nil .nil) (cond (Nat.beq (k % 2) 1) (.node none (Trie.sing f (k / 2) v) .nil) (.node none .nil (Trie.sing f (k / 2 - 1) v))))
    rw [fSing_eq f, fSing_eq f]
    cases Nat.beq k 0 <;> cases Nat.beq (k % 2) 1 <;> rfl

def fSetT (t : Trie α) : Nat → α → (Trie α → β) → β :=
  Trie.rec (motive := fun _ => Nat → α → (Trie α → β) → β) (fun k v c => fSing k k v c)
    (fun o l r sl sr k v c => cond (Nat.beq k 0) (c (.node (some v) l r)) (cond (Nat.beq (Nat.mod k 2) 1) (sl (Nat.div k 2) v fun u => c (.node o u r)) (sr (Nat.sub (Nat.div k 2) 1) v fun u => c (.node o l u)))) t
theorem fSetT_eq : ∀ (t : Trie α) (k : Nat) (v : α) (c : Trie α → β), fSetT t k v c = c (t.set k v)
  | .nil, k, v, c => fSing_eq k k v c
  | .node o l r, k, v, c => by
    show cond (Nat.beq k 0) (c (.node (some v) l r)) (cond (Nat.beq (k % 2) 1) (fSetT l (k / 2) v fun u => c (.node o u r)) (fSetT r (k / 2 - 1) v fun u => c (.node o l u))) =
      c (cond (Nat.beq k 0) (.node (some v) l r) (cond (Nat.beq (k % 2) 1) (.node o (l.set (k / 2) v) r) (.node o l (r.set (k / 2 - 1) v))))
    rw [fSetT_eq l, fSetT_eq r]
    cases Nat.beq k 0 <;> cases Nat.beq (k % 2) 1 <;> rfl

/-- the way down to a key, and what lies there, worked out -/
def fAt (f : α → (α → β) → β) (t : Trie α) : Nat → (Trie α → β) → β :=
  Trie.rec (motive := fun _ => Nat → (Trie α → β) → β) (fun _ c => c .nil)
    (fun o l r fl fr k c => cond (Nat.beq k 0) (Option.rec (motive := fun _ => β) (c (.node none l r)) (fun b => f b fun b => c (.node (some b) l r)) o) (cond (Nat.beq (Nat.mod k 2) 1) (fl (Nat.div k 2) fun u => c (.node o u r)) (fr (Nat.sub (Nat.div k 2) 1) fun u => c (.node o l u)))) t
theorem fAt_eq {f : α → (α → β) → β} (hf : ∀ a k, f a k = k a) : ∀ (t : Trie α) (k : Nat) (c : Trie α → β), fAt f t k c = c t
  | .nil, k, c => rfl
  | .node o l r, k, c => by
    show cond (Nat.beq k 0) (Option.rec (motive := fun _ => β) (c (.node none l r)) (fun b => f b fun b => c (.node (some b) l r)) o) (cond (Nat.beq (k % 2) 1) (fAt f l (k / 2) fun u => c (.node o u r)) (fAt f r (k / 2 - 1) fun u => c (.node o l u))) = _
    rw [fAt_eq hf l, fAt_eq hf r]
    cases o <;> cases Nat.beq k 0 <;> cases Nat.beq (k % 2) 1 <;> simp [hf]
end

def fPut (s : Trie AVal) (d : Option Tmp) (v : AVal) (k : Trie AVal → β) : β := Option.rec (motive := fun _ => β) (k s) (fun d => fSetT s d v k) d
theorem fPut_eq (n : Nat) (s : Trie AVal) (d : Option Tmp) (v : AVal) (k : Trie AVal → β) : fPut s d v k = k (Option.rec (motive := fun _ => Trie AVal) s (fun d => s.set d v) d) := by cases d <;> simp [fPut, fSetT_eq]
theorem toL_put (n : Nat) (s : Trie AVal) (d : Option Tmp) (v : AVal) : toL n (Option.rec (motive := fun _ => Trie AVal) s (fun d => s.set d v) d) = aput (toL n s) d v := by cases d <;> simp [aput, toL_set]

def fHeapTo (id : Nat) (h : AHeap) (k : AHeap → β) : β :=
  match h with
  | ⟨n, l⟩ => fAt fBlk l id fun l => k ⟨n, l⟩
theorem fHeapTo_eq (id : Nat) (h : AHeap) (k : AHeap → β) : fHeapTo id h k = k h := by cases h; simp [fHeapTo, fAt_eq fBlk_eq]

def fHeap (h : AHeap) (k : AHeap → β) : β :=
  match h with
  | ⟨n, l⟩ => fNat n fun n => k ⟨n, l⟩
theorem fHeap_eq (h : AHeap) (k : AHeap → β) : fHeap h k = k h := by cases h; simp [fHeap, fNat_eq]

/-- a part of memory worked out -/
inductive Turns where
  | no | at (id : Nat) | all

def fTurn (t : Turns) (h : AHeap) (k : AHeap → β) : β :=
  match t with
  | .no => k h
  | .at id => fHeapTo id h k
  | .all => fHeap h k
theorem fTurn_eq (t : Turns) (h : AHeap) (k : AHeap → β) : fTurn t h k = k h := by cases t <;> simp [fTurn, fHeapTo_eq, fHeap_eq]

/-- the head alone -/
def fW (v : AVal) (k : AVal → β) : β :=
  match v with
  | .undef => k .undef
  | .bool b => k (.bool b)
  | .int d n => k (.int d n)
  | .str s => k (.str s)
  | .ptr a => k (.ptr a)
  | .slice a n c => k (.slice a n c)
  | .nilFunc => k .nilFunc
  | .nilIface => k .nilIface
  | .func a b c => k (.func a b c)
  | .iface t v => k (.iface t v)
  | .agg l => k (.agg l)
  | .tuple l => k (.tuple l)
theorem fW_eq (v : AVal) (k : AVal → β) : fW v k = k v := by cases v <;> rfl

/-- is what it answers in some slot or row already, worked out? -/
def shallow (o : Op) : Bool :=
  match o with
  | .move (.tmp _) | .assign (.tmp _) | .pick _ (.tmp _) (.tmp _) | .extract _ _ | .load _ _ => true
  | .call c => match c.callee with | .value _ => true | _ => false
  | _ => false

def fRes (o : Op) (v : AVal) (k : AVal → β) : β := cond (shallow o) (fW v k) (fV v k)
theorem fRes_eq (o : Op) (v : AVal) (k : AVal → β) : fRes o v k = k v := by unfold fRes; cases shallow o <;> simp [fW_eq, fV_eq]
end

/-- which row an operation turns -/
def turnsOf (nid : Nat) (ρ : Operand → AVal) (o : Op) (v : AVal) : Turns :=
  match o with
  | .alloc _ | .box _ _ | .buildSlice _ _ _ | .makeSlice _ _ _ => .at nid
  | .store _ a _ => match ρ a with | .ptr (some a) => .at a.id | _ => .no
  | .call c =>
    match c.callee with
    | .value _ => .all
    | .builtin .append => match v with | .slice (some a) _ _ => .at a.id | _ => .no
    | _ => .no
  | _ => .no

section
variable {E : AEnv}

def wantedT (ops : Array Oper) (n : Nat) (s : Trie AVal) (o : Oper) : Option Bool :=
  match o.guard with
  | none => some true
  | some (j, want) =>
    match (ops[j]?).bind (·.dst) with
    | some d =>
      match tget n s d with
      | some (.bool b) => some (b == want)
      | some (.tuple []) => some false
      | _ => none
    | none => none
theorem wantedT_eq (ops : Array Oper) (n : Nat) (s : Trie AVal) (o : Oper) : wantedT ops n s o = awanted ops (toL n s) o := by
  unfold wantedT awanted
  simp only [tget_eq]
  rfl

structure FSt where
  slots : Trie AVal
  heap : AHeap

def FSt.to (n : Nat) (s : FSt) : ASt := ⟨toL n s.slots, s.heap⟩

/-- the operations of a region, one behind the other; 'draw': with the looks that a region asks that draws -/
def frun (E : AEnv) (call : ACall) (ops : Array Oper) (draw : Bool) (n n0 : Nat) (l : List Oper) : Nat → Trie AVal → AHeap → Option FSt :=
  List.rec (motive := fun _ => Nat → Trie AVal → AHeap → Option FSt) (fun _ s h => some ⟨s, h⟩)
    (fun o _ ih i s h =>
      match wantedT ops n s o with
      | some true =>
        match (cond draw (dop E call ops n0 i (agetT n s) h o.op) (aop E call (Nat.add n0 i) (agetT n s) h o.op)) with
        | some (v, h') => fRes o.op v fun v => fTurn (turnsOf (Nat.add n0 i) (agetT n s) o.op v) h' fun h' => fPut s o.dst v fun s' => ih (Nat.succ i) s' h'
        | none => none
      | some false => fPut s o.dst skipped fun s' => ih (Nat.succ i) s' h
      | none => none) l

theorem frun_cons (call : ACall) (ops : Array Oper) (draw : Bool) (n n0 i : Nat) (s : Trie AVal) (h : AHeap) (o : Oper) (r : List Oper) : frun E call ops draw n n0 (o :: r) i s h =
      match wantedT ops n s o with
      | some true =>
        match (cond draw (dop E call ops n0 i (agetT n s) h o.op) (aop E call (n0 + i) (agetT n s) h o.op)) with
        | some (v, h') => frun E call ops draw n n0 r (i + 1) (Option.rec (motive := fun _ => Trie AVal) s (fun d => s.set d v) o.dst) h'
        | none => none
      | some false => frun E call ops draw n n0 r (i + 1) (Option.rec (motive := fun _ => Trie AVal) s (fun d => s.set d skipped) o.dst) h
      | none => none := by
  show (match wantedT ops n s o with
      | some true =>
        match (cond draw (dop E call ops n0 i (agetT n s) h o.op) (aop E call (n0 + i) (agetT n s) h o.op)) with
        | some (v, h') => fRes o.op v fun v => fTurn (turnsOf (n0 + i) (agetT n s) o.op v) h' fun h' => fPut s o.dst v fun s' => frun E call ops draw n n0 r (i + 1) s' h'
        | none => none
      | some false => fPut s o.dst skipped fun s' => frun E call ops draw n n0 r (i + 1) s' h
      | none => none) = _
  simp only [fRes_eq, fTurn_eq, fPut_eq n]

theorem frun_arun {call : ACall} {ops : Array Oper} {n n0 : Nat} : ∀ (l : List Oper) (i : Nat) (s : Trie AVal) (h : AHeap), (∀ j, l[j]? = ops[i + j]?) →
    (frun E call ops false n n0 l i s h).map (FSt.to n) = arun E call ops n0 (List.range' i l.length) ⟨toL n s, h⟩
  | [], i, s, h, _ => rfl
  | o :: r, i, s, h, hl => by
    have ho : ops[i]? = some o := by have := hl 0; simpa using this.symm
    have hr : ∀ j, r[j]? = ops[i + 1 + j]? := fun j => by have := hl (j + 1); simp at this; rw [this]; congr 1; omega
    rw [frun_cons]
    simp only [List.length_cons, List.range'_succ, arun, astep, ho, wantedT_eq, agetT_eq, cond_false]
    cases hw : awanted ops (toL n s) o with
    | none => rfl
    | some b =>
      cases b with
      | true =>
        simp only
        cases ha : aop E call (n0 + i) (agetOp (toL n s)) h o.op with
        | none => rfl
        | some p =>
          obtain ⟨v, h'⟩ := p
          simp only
          rw [frun_arun r (i + 1) _ _ hr, toL_put]
      | false =>
        simp only
        rw [frun_arun r (i + 1) _ _ hr, toL_put]

theorem frun_drun {call : ACall} {ops : Array Oper} {n n0 : Nat} : ∀ (l : List Oper) (i : Nat) (s : Trie AVal) (h : AHeap), (∀ j, l[j]? = ops[i + j]?) →
    (frun E call ops true n n0 l i s h).map (FSt.to n) = drun E call ops n0 (List.range' i l.length) ⟨toL n s, h⟩
  | [], i, s, h, _ => rfl
  | o :: r, i, s, h, hl => by
    have ho : ops[i]? = some o := by have := hl 0; simpa using this.symm
    have hr : ∀ j, r[j]? = ops[i + 1 + j]? := fun j => by have := hl (j + 1); simp at this; rw [this]; congr 1; omega
    rw [frun_cons]
    simp only [List.length_cons, List.range'_succ, drun, dstep, ho, wantedT_eq, agetT_eq, cond_true]
    cases hw : awanted ops (toL n s) o with
    | none => rfl
    | some b =>
      cases b with
      | true =>
        simp only
        cases ha : dop E call ops n0 i (agetOp (toL n s)) h o.op with
        | none => rfl
        | some p =>
          obtain ⟨v, h'⟩ := p
          simp only
          rw [frun_drun r (i + 1) _ _ hr, toL_put]
      | false =>
        simp only
        rw [frun_drun r (i + 1) _ _ hr, toL_put]

def fregion (E : AEnv) (call : ACall) (ops : Array Oper) (draw : Bool) (n : Nat) (s : FSt) : Option FSt :=
  match s with
  | ⟨s, ⟨n0, l⟩⟩ => cond (!draw || drawOk ops) (fNat (Nat.add n0 ops.size) fun m => frun E call ops draw n n0 ops.toList 0 s ⟨m, l⟩) none

theorem fregion_eq (call : ACall) (ops : Array Oper) (draw : Bool) (n : Nat) (s : FSt) : (fregion E call ops draw n s).map (FSt.to n) = aregion E call ops draw (s.to n) := by
  obtain ⟨s, n0, l⟩ := s
  have hl : ∀ j : Nat, ops.toList[j]? = ops[0 + j]? := fun j => by simp
  have hr : List.range ops.size = List.range' 0 ops.toList.length := by rw [List.range_eq_range', Array.length_toList]
  unfold fregion aregion
  cases draw with
  | false => simp only [Bool.not_false, Bool.true_or, cond_true, fNat_eq, Bool.false_eq_true, if_false, frun_arun _ _ _ _ hl, hr, FSt.to, Nat.add_eq]
  | true =>
    cases hd : drawOk ops with
    | false => simp
    | true => simp only [Bool.not_true, Bool.false_or, hd, cond_true, if_true, fNat_eq, frun_drun _ _ _ _ hl, hr, FSt.to, Nat.add_eq]

def fexec (E : AEnv) (call : ACall) (n : Nat) (fuel : Nat) : Option Code → Code → FSt → Option (AExit × FSt) :=
  Nat.rec (motive := fun _ => Option Code → Code → FSt → Option (AExit × FSt)) (fun _ _ _ => none)
  (fun m ih b c s =>
  match b with
  | some body =>
    match ih none c s with
    | some (.goto l, s') =>
      match findLabel body l with
      | some rest => ih (some body) rest s'
      | none => some (.goto l, s')
    | r => r
  | none =>
    match c with
    | .skip => some (.normal, s)
    | .label _ => some (.normal, s)
    | .region _ ops draw =>
      match fregion E call ops draw n s with
      | some s' => some (.normal, s')
      | none => none
    | .seq a b =>
      match ih none a s with
      | some (.normal, s') => ih none b s'
      | r => r
    | .cond x a b =>
      match agetT n s.slots x with
      | .bool true => ih none a s
      | .bool false => ih none b s
      | _ => none
    | .block id c =>
      match ih none c s with
      | some (.exit j, s') => some (if j = id then .normal else .exit j, s')
      | r => r
    | .loop c =>
      match ih none c s with
      | some (.normal, s') => ih none (.loop c) s'
      | r => r
    | .scope c => ih (some c) c s
    | .goto l => some (.goto l, s)
    | .exit id => some (.exit id, s)
    | .ret => some (.ret, s)
    | _ => none) fuel

def toP (n : Nat) (p : AExit × FSt) : AExit × ASt := (p.1, p.2.to n)

theorem fexec_eq (call : ACall) (k : Nat) : ∀ (n : Nat) (b : Option Code) (c : Code) (s : FSt), (fexec E call k n b c s).map (toP k) = aexec E call n b c (s.to k) := by
  intro n
  induction n with
  | zero => intro b c s; rfl
  | succ n ih =>
    intro b c s
    cases b with
    | some body =>
      show Option.map (toP k) (match fexec E call k n none c s with
        | some (.goto l, s') =>
          match findLabel body l with
          | some rest => fexec E call k n (some body) rest s'
          | none => some (.goto l, s')
        | r => r) = _
      simp only [aexec, ← ih]
      cases hx : fexec E call k n none c s with
      | none => rfl
      | some p =>
        obtain ⟨e, s'⟩ := p
        cases e with
        | goto l =>
          simp only [Option.map_some, toP]
          cases hf : findLabel body l with
          | none => rfl
          | some rest => simp only [hf]; exact ih (some body) rest s'
        | _ => rfl
    | none =>
      cases c
      case region id ops draw =>
        show Option.map (toP k) (match fregion E call ops draw k s with
          | some s' => some (.normal, s')
          | none => none) = _
        simp only [aexec, ← fregion_eq]
        cases fregion E call ops draw k s <;> rfl
      case seq a b =>
        show Option.map (toP k) (match fexec E call k n none a s with
          | some (.normal, s') => fexec E call k n none b s'
          | r => r) = _
        simp only [aexec, ← ih]
        cases hx : fexec E call k n none a s with
        | none => rfl
        | some p => obtain ⟨e, s'⟩ := p; cases e <;> first | exact ih none b s' | rfl
      case cond x a b =>
        show Option.map (toP k) (match agetT k s.slots x with
          | .bool true => fexec E call k n none a s
          | .bool false => fexec E call k n none b s
          | _ => none) = _
        simp only [aexec, ← ih, agetT_eq]
        have he : agetOp (s.to k).slots x = agetOp (toL k s.slots) x := rfl
        rw [he]
        cases agetOp (toL k s.slots) x with
        | bool t => cases t <;> rfl
        | _ => rfl
      case block id c =>
        show Option.map (toP k) (match fexec E call k n none c s with
          | some (.exit j, s') => some (if j = id then .normal else .exit j, s')
          | r => r) = _
        simp only [aexec, ← ih]
        cases hx : fexec E call k n none c s with
        | none => rfl
        | some p => obtain ⟨e, s'⟩ := p; cases e <;> rfl
      case loop c =>
        show Option.map (toP k) (match fexec E call k n none c s with
          | some (.normal, s') => fexec E call k n none (.loop c) s'
          | r => r) = _
        simp only [aexec, ← ih]
        cases hx : fexec E call k n none c s with
        | none => rfl
        | some p => obtain ⟨e, s'⟩ := p; cases e <;> first | exact ih none (.loop c) s' | rfl
      case scope c => exact ih (some c) c s
      all_goals rfl

def fArgs : List AVal → Nat → Trie AVal → (Trie AVal → Option (AVal × AHeap)) → Option (AVal × AHeap)
  | [], _, t, k => k t
  | v :: r, i, t, k => fV v fun v => fSetT t i v fun t => fArgs r (Nat.succ i) t k

theorem fArgs_eq : ∀ (l : List AVal) (i : Nat) (t : Trie AVal) (k : Trie AVal → Option (AVal × AHeap)),
    ∃ t', fArgs l i t k = k t' ∧ ∀ j, t'.get j = if j < i then t.get j else if h : j - i < l.length then some l[j - i] else t.get j
  | [], i, t, k => ⟨t, rfl, fun j => by simp⟩
  | v :: r, i, t, k => by
    obtain ⟨t', h1, h2⟩ := fArgs_eq r (i + 1) (t.set i v) k
    refine ⟨t', by simp only [fArgs, fV_eq, fSetT_eq]; exact h1, fun j => ?_⟩
    rw [h2 j, Trie.get_set]
    by_cases hj : j < i
    · rw [if_pos (by omega), if_neg (by omega), if_pos hj]
    · rw [if_neg hj]
      by_cases he : i = j
      · subst he; rw [if_pos (by omega), if_pos rfl]; simp
      · rw [if_neg (by omega), if_neg he]
        by_cases hl : j - (i + 1) < r.length
        · rw [dif_pos hl, dif_pos (by simp; omega)]
          obtain ⟨m, hm⟩ : ∃ m, j - i = m + 1 := ⟨j - i - 1, by omega⟩
          have hm' : j - (i + 1) = m := by omega
          simp only [hm, hm', List.getElem_cons_succ]
        · rw [dif_neg hl, dif_neg (by simp; omega)]

theorem fArgs_toL {l : List AVal} {m : Nat} {t : Trie AVal} (h : ∀ j, t.get j = if j < 0 then (Trie.nil : Trie AVal).get j else if h : j - 0 < l.length then some l[j - 0] else (Trie.nil : Trie AVal).get j) :
    toL (l.length + (m - l.length)) t = l ++ List.replicate (m - l.length) skipped := by
  apply List.ext_getElem?
  intro i
  rw [toL_get, h i, if_neg (Nat.not_lt_zero i)]
  simp only [Nat.sub_zero, Trie.get_nil]
  by_cases hi : i < l.length
  · rw [if_pos (by omega), dif_pos hi, List.getElem?_append_left hi, List.getElem?_eq_getElem hi]; rfl
  · rw [dif_neg hi, List.getElem?_append_right (by omega), List.getElem?_replicate]
    by_cases hn : i < l.length + (m - l.length)
    · rw [if_pos hn, if_pos (by omega)]; rfl
    · rw [if_neg hn, if_neg (by omega)]

def fresults (D : Tys) (n : Nat) (rs : List ResultVar) (s : FSt) : Option (List AVal) :=
  match rs with
  | [] => some []
  | .tmp t :: r => (fresults D n r s).map fun l => agetT n s.slots (.tmp t) :: l
  | .cell a t :: r =>
    match agetT n s.slots (.tmp a) with
    | .ptr (some p) =>
      match aload D t p s.heap, fresults D n r s with
      | some v, some l => some (v :: l)
      | _, _ => none
    | _ => none
theorem fresults_eq (D : Tys) (n : Nat) (s : FSt) : ∀ (rs : List ResultVar), fresults D n rs s = aresults D rs (s.to n)
  | [] => rfl
  | .tmp t :: r => by simp only [fresults, aresults, fresults_eq D n s r, agetT_eq]; rfl
  | .cell a t :: r => by simp only [fresults, aresults, fresults_eq D n s r, agetT_eq]; rfl

def fOut (r : Option (AVal × AHeap)) : Option (AVal × AHeap) :=
  match r with
  | some (v, ⟨n, l⟩) => fNat n fun n => fV v fun v => some (v, ⟨n, l⟩)
  | none => none
theorem fOut_eq (r : Option (AVal × AHeap)) : fOut r = r := by
  cases r with
  | none => rfl
  | some p => obtain ⟨v, n, l⟩ := p; simp [fOut, fNat_eq, fV_eq]

def fcall (P : Program) (E : AEnv) (fuel : Nat) : ACall :=
  Nat.rec (motive := fun _ => ACall) (fun _ _ _ => none)
  (fun n ih f args h =>
    match E.prim f with
    | some g => g args h
    | none =>
    match P.funcs[f]? with
    | some fn =>
      match fn.body with
      | some c =>
        fNat (args.length + (fn.ntmps - args.length)) fun k => fArgs args 0 .nil fun sl =>
        match fexec E ih k n none c ⟨sl, h⟩ with
        | some (.exit _, _) => none
        | some (.goto _, _) => none
        | some (_, s) =>
          match fresults E.D k fn.results.toList s with
          | some l => fOut (some (aresult l, s.heap))
          | none => none
        | none => none
      | none => none
    | none => none) fuel

theorem fcall_eq (P : Program) (E : AEnv) : ∀ (n : Nat), fcall P E n = acall P E n := by
  intro n
  induction n with
  | zero => rfl
  | succ n ih =>
    funext f args h
    show (match E.prim f with
    | some g => g args h
    | none =>
    match P.funcs[f]? with
    | some fn =>
      match fn.body with
      | some c =>
        fNat (args.length + (fn.ntmps - args.length)) fun k => fArgs args 0 .nil fun sl =>
        match fexec E (fcall P E n) k n none c ⟨sl, h⟩ with
        | some (.exit _, _) => none
        | some (.goto _, _) => none
        | some (_, s) =>
          match fresults E.D k fn.results.toList s with
          | some l => fOut (some (aresult l, s.heap))
          | none => none
        | none => none
      | none => none
    | none => none) = _
    simp only [acall, ih, fNat_eq, fOut_eq]
    cases E.prim f with
    | some g => rfl
    | none =>
    simp only
    cases hf : P.funcs[f]? with
    | none => rfl
    | some fn =>
      simp only
      cases fn.body with
      | none => rfl
      | some c =>
        simp only
        obtain ⟨t, h1, h2⟩ := fArgs_eq args 0 .nil fun sl =>
          match fexec E (acall P E n) (args.length + (fn.ntmps - args.length)) n none c ⟨sl, h⟩ with
          | some (.exit _, _) => none
          | some (.goto _, _) => none
          | some (_, s) =>
            match fresults E.D (args.length + (fn.ntmps - args.length)) fn.results.toList s with
            | some l => some (aresult l, s.heap)
            | none => none
          | none => none
        rw [h1]
        have hs : (FSt.mk t h).to (args.length + (fn.ntmps - args.length)) = ⟨args ++ List.replicate (fn.ntmps - args.length) skipped, h⟩ := by
          simp only [FSt.to, fArgs_toL h2]
        have hx := fexec_eq (E := E) (acall P E n) (args.length + (fn.ntmps - args.length)) n none c ⟨t, h⟩
        rw [hs] at hx
        rw [← hx]
        cases hy : fexec E (acall P E n) (args.length + (fn.ntmps - args.length)) n none c ⟨t, h⟩ with
        | none => rfl
        | some p =>
          obtain ⟨e, s⟩ := p
          simp only [Option.map_some, toP]
          cases e with
          | exit id => rfl
          | goto l => rfl
          | normal => simp only [fresults_eq]; cases aresults E.D fn.results.toList (s.to (args.length + (fn.ntmps - args.length))) <;> rfl
          | ret => simp only [fresults_eq]; cases aresults E.D fn.results.toList (s.to (args.length + (fn.ntmps - args.length))) <;> rfl

theorem fcall_true {P : Program} {E : AEnv} {n : Nat} {f : FuncId} {args : List AVal} {h : AHeap} (k : saysTrue (fcall P E n f args h) = true) : ∃ h', acall P E n f args h = some (.bool true, h') := by
  rw [fcall_eq] at k; exact saysTrue_spec k
end
end
end Go.Lift

namespace Go.Proofs.Ytcgcpmcjaeenlaa
open Go.Lift
set_option maxRecDepth 1000000
theorem alive_run : saysTrue (fcall Try.prog env 300 16 [] ⟨0, .nil⟩) = true := by decide +kernel
theorem alive_does (H : AHeap) : FDoes Try.prog 16 [] H (.bool true) H := by
  obtain ⟨h', hc⟩ := fcall_true alive_run
  exact (FDoes.of_acall env_ok mixed hc).bare (by simp) (Bare.bool _) H
end Go.Proofs.Ytcgcpmcjaeenlaa

namespace Go.Proofs.Ytcgcpmcjaeenlaa
open Go.Lift
set_option maxRecDepth 1000000
set_option linter.unusedSimpArgs false
set_option linter.unusedVariables false
set_option linter.unusedSectionVars false

theorem gw_spoil (o ow oa ob : Option AAddr) (n c kw cw vl ca cb i v q : Nat) (b rw rl ra rb rx rx2 : ABlk) (l : List AVal) (cols qa qb qc qd : Int) (hc_0 : (i : Int) < (kw : Int)) (hc_1 : aindexAddr env.D 22 (.slice oa kw ca) (.int .i64 (i : Int)) = some (.ptr (some ⟨20, 0, 0 + i, 0, 4⟩))) (hc_2 : 0 = 0 ∧ l[0 + i]? = some (.agg [.int .i64 qa, .int .i64 qb, .int .i64 qc, .int .i64 qd])) (hc_3 : -9223372036854775808 ≤ (i : Int) + 1 ∧ (i : Int) + (1 : Int) ≤ 9223372036854775807) :
    Runs Try.prog 1 130 (loopAt Try.prog 3 0) [(0, .slice o n c), (1, .int .i64 cols), (5, .slice ow kw cw), (7, .slice (some ⟨10, vl, 0, 0, 4⟩) n (n + 9)), (8, .slice oa kw ca), (9, .slice ob kw cb), (10, .int .i64 i)] (AHeap.rows 100 [(0, b), (6, rw), (10, rl), (20, .made l 4 true), (25, rb)]) .normal [(0, .slice o n c), (1, .int .i64 cols), (5, .slice ow kw cw), (7, .slice (some ⟨10, vl, 0, 0, 4⟩) n (n + 9)), (8, .slice oa kw ca), (9, .slice ob kw cb), (10, .int .i64 ((i : Int) + 1))] (AHeap.rows 112 [(0, b), (6, rw), (10, rl), (20, (.made (List.set l (0 + i) (.agg [.int .i64 (-5), .int .i64 0, .int .i64 0, .int .i64 0])) 4 true)), (25, rb)]) :=
  ppath_runs env_ok mixed (hs := [.val 9003 (.bool true), .val 11003 (.ptr (some ⟨20, 0, 0 + i, 0, 4⟩)), .st 11004 (.agg [.int .i64 qa, .int .i64 qb, .int .i64 qc, .int .i64 qd]), .go 10001]) (keep := [0, 1, 5, 7, 8, 9, 10]) (by kernel_rfl) (All.cons (okT hc_0) (All.cons hc_1 (All.cons hc_2 (All.cons hc_3 (All.nil)))))

theorem gw_spoilEnd (o ow oa ob : Option AAddr) (n c kw cw vl ca cb i v q : Nat) (b rw rl ra rb rx rx2 : ABlk) (l : List AVal) (cols qa qb qc qd : Int) (hc_0 : ¬ ((i : Int) < (kw : Int))) :
    Runs Try.prog 1 130 (loopAt Try.prog 3 0) [(0, .slice o n c), (1, .int .i64 cols), (5, .slice ow kw cw), (7, .slice (some ⟨10, vl, 0, 0, 4⟩) n (n + 9)), (8, .slice oa kw ca), (9, .slice ob kw cb), (10, .int .i64 i)] (AHeap.rows 100 [(0, b), (6, rw), (10, rl), (20, .made l 4 true), (25, rb)]) (.exit 0) [(0, .slice o n c), (1, .int .i64 cols), (5, .slice ow kw cw), (7, .slice (some ⟨10, vl, 0, 0, 4⟩) n (n + 9)), (8, .slice oa kw ca), (9, .slice ob kw cb)] (AHeap.rows 104 [(0, b), (6, rw), (10, rl), (20, .made l 4 true), (25, rb)]) :=
  ppath_runs env_ok mixed (hs := [.val 9003 (.bool false)]) (keep := [0, 1, 5, 7, 8, 9]) (by kernel_rfl) (All.cons (okF hc_0) (All.nil))

theorem gw_grow1 (o ow oa ob : Option AAddr) (n c kw cw vl ca cb i v q : Nat) (b rw rl ra rb rx rx2 : ABlk) (l : List AVal) (cols qa qb qc qd : Int) (hc_0 : abuiltin env Builtin.append { toList := [22, 22] } [.slice oa kw ca, .slice (some ⟨59, 0, 0, 0, 4⟩) 1 1] 60 (AHeap.set (AHeap.rows 62 [(0, b), (6, rw), (10, rl), (20, ra), (25, rb)]) 59 (.made [.agg [.int .i64 (-5), .int .i64 0, .int .i64 0, .int .i64 0]] 4 true)) = some (.slice (some ⟨60, 0, 0, 0, 4⟩) (kw + 1) (kw + 1), (AHeap.rows 62 [(0, b), (6, rw), (10, rl), (20, ra), (25, rb), (59, .made [.agg [.int .i64 (-5), .int .i64 0, .int .i64 0, .int .i64 0]] 4 true), (60, rx)]))) :
    Runs Try.prog 1 130 (loopAt Try.prog 3 1) [(0, .slice o n c), (1, .int .i64 cols), (5, .slice ow kw cw), (7, .slice (some ⟨10, vl, 0, 0, 4⟩) n (n + 9)), (8, .slice oa kw ca), (9, .slice ob kw cb), (11, .slice oa kw ca), (12, .int .i64 0)] (AHeap.rows 55 [(0, b), (6, rw), (10, rl), (20, ra), (25, rb)]) .normal [(0, .slice o n c), (1, .int .i64 cols), (5, .slice ow kw cw), (7, .slice (some ⟨10, vl, 0, 0, 4⟩) n (n + 9)), (8, .slice oa kw ca), (9, .slice ob kw cb), (11, .slice (some ⟨60, 0, 0, 0, 4⟩) (kw + 1) (kw + 1)), (12, .int .i64 1)] (AHeap.rows 65 [(0, b), (6, rw), (10, rl), (20, ra), (25, rb), (59, .made [.agg [.int .i64 (-5), .int .i64 0, .int .i64 0, .int .i64 0]] 4 true), (60, rx)]) :=
  ppath_runs env_ok mixed (hs := [.act 16003 (.slice (some ⟨60, 0, 0, 0, 4⟩) (kw + 1) (kw + 1)) (fun h => h.set 60 rx)]) (keep := [0, 1, 5, 7, 8, 9, 11, 12]) (by kernel_rfl) (All.cons hc_0 (All.nil))

theorem gw_grow (o ow oa ob : Option AAddr) (n c kw cw vl ca cb i v q : Nat) (b rw rl ra rb rx rx2 : ABlk) (l : List AVal) (cols qa qb qc qd : Int) (hc_0 : (i : Int) < 70) (hc_1 : abuiltin env Builtin.append { toList := [22, 22] } [.slice (some ⟨60, v, 0, 0, 4⟩) q q, .slice (some ⟨104, 0, 0, 0, 4⟩) 1 1] 105 (AHeap.set (AHeap.rows 107 [(0, b), (6, rw), (10, rl), (20, ra), (25, rb), (60, rx)]) 104 (.made [.agg [.int .i64 (-5), .int .i64 0, .int .i64 0, .int .i64 0]] 4 true)) = some (.slice (some ⟨60, v + 1, 0, 0, 4⟩) (q + 1) (q + 1), (AHeap.rows 107 [(0, b), (6, rw), (10, rl), (20, ra), (25, rb), (60, rx2), (104, .made [.agg [.int .i64 (-5), .int .i64 0, .int .i64 0, .int .i64 0]] 4 true)]))) (hc_2 : -9223372036854775808 ≤ (i : Int) + 1 ∧ (i : Int) + (1 : Int) ≤ 9223372036854775807) :
    Runs Try.prog 1 130 (loopAt Try.prog 3 1) [(0, .slice o n c), (1, .int .i64 cols), (5, .slice ow kw cw), (7, .slice (some ⟨10, vl, 0, 0, 4⟩) n (n + 9)), (8, .slice oa kw ca), (9, .slice ob kw cb), (11, .slice (some ⟨60, v, 0, 0, 4⟩) q q), (12, .int .i64 i)] (AHeap.rows 100 [(0, b), (6, rw), (10, rl), (20, ra), (25, rb), (60, rx)]) .normal [(0, .slice o n c), (1, .int .i64 cols), (5, .slice ow kw cw), (7, .slice (some ⟨10, vl, 0, 0, 4⟩) n (n + 9)), (8, .slice oa kw ca), (9, .slice ob kw cb), (11, .slice (some ⟨60, v + 1, 0, 0, 4⟩) (q + 1) (q + 1)), (12, .int .i64 ((i : Int) + 1))] (AHeap.rows 110 [(0, b), (6, rw), (10, rl), (20, ra), (25, rb), (60, rx2), (104, .made [.agg [.int .i64 (-5), .int .i64 0, .int .i64 0, .int .i64 0]] 4 true)]) :=
  ppath_runs env_ok mixed (hs := [.val 14001 (.bool true), .act 16003 (.slice (some ⟨60, v + 1, 0, 0, 4⟩) (q + 1) (q + 1)) (fun h => h.set 60 rx2), .go 15001]) (keep := [0, 1, 5, 7, 8, 9, 11, 12]) (by kernel_rfl) (All.cons (okT hc_0) (All.cons hc_1 (All.cons hc_2 (All.nil))))

theorem gw_growEnd (o ow oa ob : Option AAddr) (n c kw cw vl ca cb i v q : Nat) (b rw rl ra rb rx rx2 : ABlk) (l : List AVal) (cols qa qb qc qd : Int) (hc_0 : ¬ ((i : Int) < 70)) :
    Runs Try.prog 1 130 (loopAt Try.prog 3 1) [(0, .slice o n c), (1, .int .i64 cols), (5, .slice ow kw cw), (7, .slice (some ⟨10, vl, 0, 0, 4⟩) n (n + 9)), (8, .slice oa kw ca), (9, .slice ob kw cb), (11, .slice (some ⟨60, v, 0, 0, 4⟩) q q), (12, .int .i64 i)] (AHeap.rows 100 [(0, b), (6, rw), (10, rl), (20, ra), (25, rb), (60, rx)]) (.exit 2) [(0, .slice o n c), (1, .int .i64 cols), (5, .slice ow kw cw), (7, .slice (some ⟨10, vl, 0, 0, 4⟩) n (n + 9)), (8, .slice oa kw ca), (9, .slice ob kw cb), (11, .slice (some ⟨60, v, 0, 0, 4⟩) q q)] (AHeap.rows 102 [(0, b), (6, rw), (10, rl), (20, ra), (25, rb), (60, rx)]) :=
  ppath_runs env_ok mixed (hs := [.val 14001 (.bool false)]) (keep := [0, 1, 5, 7, 8, 9, 11]) (by kernel_rfl) (All.cons (okF hc_0) (All.nil))

theorem gw_turn (o ow ob : Option AAddr) (n c kw cw vl cb i p ver off mv fk : Nat) (b rw rb : ABlk) (l : List AVal) (cols sa sb sc sd qa qb qc qd : Int) (hc_0 : (i : Int) < (n : Int)) (hc_1 : -9223372036854775808 ≤ (n : Int) - 1 ∧ (n : Int) - (1 : Int) ≤ 9223372036854775807) (hc_2 : -9223372036854775808 ≤ (n : Int) - 1 - (i : Int) ∧ (n : Int) - 1 - (i : Int) ≤ 9223372036854775807) (hc_3 : aindexAddr env.D 22 (.slice o n c) (.int .i64 ((n : Int) - 1 - (i : Int))) = some (.ptr (some ⟨0, ver, off + p, 0, 4⟩))) (hc_4 : ABlk.elem? b ver (off + p) = some (.agg [.int .i64 sa, .int .i64 sb, .int .i64 sc, .int .i64 sd])) (hc_5 : aindexAddr env.D 22 (.slice (some ⟨10, vl, 0, 0, 4⟩) n (n + 9)) (.int .i64 (i : Int)) = some (.ptr (some ⟨10, vl, 0 + i, 0, 4⟩))) (hc_6 : vl = vl ∧ l[0 + i]? = some (.agg [.int .i64 qa, .int .i64 qb, .int .i64 qc, .int .i64 qd])) (hc_7 : -9223372036854775808 ≤ (i : Int) + 1 ∧ (i : Int) + (1 : Int) ≤ 9223372036854775807) :
    Runs Try.prog 1 130 (loopAt Try.prog 3 2) [(0, .slice o n c), (1, .int .i64 cols), (5, .slice ow kw cw), (7, .slice (some ⟨10, vl, 0, 0, 4⟩) n (n + 9)), (9, .slice ob kw cb), (13, .bool true), (14, .int .i64 i)] (AHeap.rows 100 [(0, b), (6, rw), (10, ⟨l, 4, false, false, vl, mv, fk⟩), (25, rb)]) .normal [(0, .slice o n c), (1, .int .i64 cols), (5, .slice ow kw cw), (7, .slice (some ⟨10, vl, 0, 0, 4⟩) n (n + 9)), (9, .slice ob kw cb), (13, AVal.bool true), (14, .int .i64 ((i : Int) + 1))] (AHeap.rows 119 [(0, b), (6, rw), (10, ⟨List.set l (0 + i) (.agg [.int .i64 sa, .int .i64 sb, .int .i64 sc, .int .i64 sd]), 4, false, false, vl, vl, fk⟩), (25, rb)]) :=
  ppath_runs env_ok mixed (hs := [.val 19003 (.bool true), .go 21005, .go 21007, .val 21008 (.ptr (some ⟨0, ver, off + p, 0, 4⟩)), .ld 21009 (.agg [.int .i64 sa, .int .i64 sb, .int .i64 sc, .int .i64 sd]), .val 21010 (.ptr (some ⟨10, vl, 0 + i, 0, 4⟩)), .st 21011 (.agg [.int .i64 qa, .int .i64 qb, .int .i64 qc, .int .i64 qd]), .go 20001]) (keep := [0, 1, 5, 7, 9, 13, 14]) (by kernel_rfl) (All.cons (okT hc_0) (All.cons hc_1 (All.cons hc_2 (All.cons hc_3 (All.cons hc_4 (All.cons hc_5 (All.cons hc_6 (All.cons hc_7 (All.nil)))))))))

theorem gw_turnEnd (o ow ob : Option AAddr) (n c kw cw vl cb i p ver off mv fk : Nat) (b rw rb : ABlk) (l : List AVal) (cols sa sb sc sd qa qb qc qd : Int) (hc_0 : ¬ ((i : Int) < (n : Int))) :
    Runs Try.prog 1 130 (loopAt Try.prog 3 2) [(0, .slice o n c), (1, .int .i64 cols), (5, .slice ow kw cw), (7, .slice (some ⟨10, vl, 0, 0, 4⟩) n (n + 9)), (9, .slice ob kw cb), (13, .bool true), (14, .int .i64 i)] (AHeap.rows 100 [(0, b), (6, rw), (10, ⟨l, 4, false, false, vl, mv, fk⟩), (25, rb)]) (.exit 4) [(1, .int .i64 cols), (5, .slice ow kw cw), (7, .slice (some ⟨10, vl, 0, 0, 4⟩) n (n + 9)), (9, .slice ob kw cb), (13, AVal.bool true)] (AHeap.rows 104 [(0, b), (6, rw), (10, ⟨l, 4, false, false, vl, mv, fk⟩), (25, rb)]) :=
  ppath_runs env_ok mixed (hs := [.val 19003 (.bool false)]) (keep := [1, 5, 7, 9, 13]) (by kernel_rfl) (All.cons (okF hc_0) (All.nil))

theorem gw_call_0 (o ow oa ob oc od : Option AAddr) (n c kw cw vl ca cb cc cd vx : Nat) (b rw rl ra rb ra2 rx rl2 rt rc rd : ABlk) (cols : Int) (hc_0 : FDoes Try.prog 11 [.slice o 0 c, .int .i64 cols] (AHeap.rows 6 [(0, b)]) (.slice ow kw cw) (AHeap.rows 7 [(0, b), (6, rw)])) (hc_1 : FDoes Try.prog 12 [.slice o 0 c] (AHeap.rows 10 [(0, b), (6, rw)]) (.slice (some ⟨10, vl, 0, 0, 4⟩) 9 9) (AHeap.rows 11 [(0, b), (6, rw), (10, rl)])) (hc_2 : aslice env.D 22 (.slice (some ⟨10, vl, 0, 0, 4⟩) 9 9) none (some (.int .i64 0)) none = some (.slice (some ⟨10, vl, 0, 0, 4⟩) 0 9)) (hc_3 : FDoes Try.prog 13 [.slice (some ⟨10, vl, 0, 0, 4⟩) 0 9, .int .i64 cols] (AHeap.rows 20 [(0, b), (6, rw), (10, rl)]) (.slice oa kw ca) (AHeap.rows 21 [(0, b), (6, rw), (10, rl), (20, ra)])) (hc_4 : FDoes Try.prog 13 [.slice (some ⟨10, vl, 0, 0, 4⟩) 0 9, .int .i64 cols] (AHeap.rows 25 [(0, b), (6, rw), (10, rl), (20, ra)]) (.slice ob kw cb) (AHeap.rows 26 [(0, b), (6, rw), (10, rl), (20, ra), (25, rb)])) (hc_5 : FDoes Try.prog 14 [.slice oa kw ca, .slice ow kw cw] (AHeap.rows 50 [(0, b), (6, rw), (10, rl), (20, ra), (25, rb)]) (AVal.bool true) (AHeap.rows 50 [(0, b), (6, rw), (10, rl), (20, ra), (25, rb)])) (hc_6 : FDoes Try.prog 14 [.slice ob kw cb, .slice ow kw cw] (AHeap.rows 50 [(0, b), (6, rw), (10, rl), (20, ra), (25, rb)]) (AVal.bool true) (AHeap.rows 50 [(0, b), (6, rw), (10, rl), (20, ra), (25, rb)])) (hc_7 : FDoes Try.prog 14 [.slice (some ⟨10, vl, 0, 0, 4⟩) 0 9, .slice o 0 c] (AHeap.rows 50 [(0, b), (6, rw), (10, rl), (20, ra), (25, rb)]) (AVal.bool true) (AHeap.rows 50 [(0, b), (6, rw), (10, rl), (20, ra), (25, rb)])) (hc_8 : aslice env.D 22 (.slice (some ⟨10, vl, 0, 0, 4⟩) 9 9) (some (.int .i64 0)) none none = some (.slice (some ⟨10, vl, 0, 0, 4⟩) 9 9)) (hc_9 : FDoes Try.prog 15 [.slice (some ⟨10, vl, 0, 0, 4⟩) 9 9, .int .i64 (-77)] (AHeap.rows 50 [(0, b), (6, rw), (10, rl), (20, ra), (25, rb)]) (AVal.bool true) (AHeap.rows 50 [(0, b), (6, rw), (10, rl), (20, ra), (25, rb)])) (hc_13 : Runs Try.prog 1 130 (.loop (loopAt Try.prog 3 0)) [(0, .slice o 0 c), (1, .int .i64 cols), (5, .slice ow kw cw), (7, .slice (some ⟨10, vl, 0, 0, 4⟩) 0 9), (8, .slice oa kw ca), (9, .slice ob kw cb), (10, .int .i64 0)] (AHeap.rows 51 [(0, b), (6, rw), (10, rl), (20, ra), (25, rb)]) (.exit 0) [(0, .slice o 0 c), (1, .int .i64 cols), (5, .slice ow kw cw), (7, .slice (some ⟨10, vl, 0, 0, 4⟩) 0 9), (8, .slice oa kw ca), (9, .slice ob kw cb)] (AHeap.rows 102 [(0, b), (6, rw), (10, rl), (20, ra2), (25, rb)])) (hc_14 : Runs Try.prog 1 130 (.loop (loopAt Try.prog 3 1)) [(0, .slice o 0 c), (1, .int .i64 cols), (5, .slice ow kw cw), (7, .slice (some ⟨10, vl, 0, 0, 4⟩) 0 9), (8, .slice oa kw ca), (9, .slice ob kw cb), (11, .slice oa kw ca), (12, .int .i64 0)] (AHeap.rows 105 [(0, b), (6, rw), (10, rl), (20, ra2), (25, rb)]) (.exit 2) [(0, .slice o 0 c), (1, .int .i64 cols), (5, .slice ow kw cw), (7, .slice (some ⟨10, vl, 0, 0, 4⟩) 0 9), (8, .slice oa kw ca), (9, .slice ob kw cb), (11, .slice (some ⟨60, vx, 0, 0, 4⟩) (kw + 70) (kw + 70))] (AHeap.rows 102 [(0, b), (6, rw), (10, rl), (20, ra2), (25, rb), (60, rx)])) (hc_15 : FDoes Try.prog 15 [.slice (some ⟨60, vx, 0, 0, 4⟩) (kw + 70) (kw + 70), .int .i64 (-5)] (AHeap.rows 119 [(0, b), (6, rw), (10, rl), (20, ra2), (25, rb), (60, rx)]) (AVal.bool true) (AHeap.rows 119 [(0, b), (6, rw), (10, rl), (20, ra2), (25, rb), (60, rx)])) (hc_16 : FDoes Try.prog 15 [.slice oa kw ca, .int .i64 (-5)] (AHeap.rows 119 [(0, b), (6, rw), (10, rl), (20, ra2), (25, rb), (60, rx)]) (AVal.bool true) (AHeap.rows 119 [(0, b), (6, rw), (10, rl), (20, ra2), (25, rb), (60, rx)])) (hc_17 : FDoes Try.prog 14 [.slice ob kw cb, .slice ow kw cw] (AHeap.rows 119 [(0, b), (6, rw), (10, rl), (20, ra2), (25, rb), (60, rx)]) (AVal.bool true) (AHeap.rows 119 [(0, b), (6, rw), (10, rl), (20, ra2), (25, rb), (60, rx)])) (hc_18 : FDoes Try.prog 14 [.slice (some ⟨10, vl, 0, 0, 4⟩) 0 9, .slice o 0 c] (AHeap.rows 119 [(0, b), (6, rw), (10, rl), (20, ra2), (25, rb), (60, rx)]) (AVal.bool true) (AHeap.rows 119 [(0, b), (6, rw), (10, rl), (20, ra2), (25, rb), (60, rx)])) (hc_21 : Runs Try.prog 1 130 (.loop (loopAt Try.prog 3 2)) [(0, .slice o 0 c), (1, .int .i64 cols), (5, .slice ow kw cw), (7, .slice (some ⟨10, vl, 0, 0, 4⟩) 0 9), (9, .slice ob kw cb), (13, AVal.bool true), (14, .int .i64 0)] (AHeap.rows 120 [(0, b), (6, rw), (10, rl), (20, ra2), (25, rb), (60, rx)]) (.exit 4) [(1, .int .i64 cols), (5, .slice ow kw cw), (7, .slice (some ⟨10, vl, 0, 0, 4⟩) 0 9), (9, .slice ob kw cb), (13, AVal.bool true)] (AHeap.rows 62 [(0, b), (6, rw), (10, rl2), (25, rb)])) (hc_22 : abuiltin env Builtin.append { toList := [22, 22] } [.slice (some ⟨62, 0, 0, 0, 4⟩) 0 0, .slice (some ⟨10, vl, 0, 0, 4⟩) 0 9] 64 (AHeap.set (AHeap.rows 66 [(0, b), (6, rw), (10, rl2), (25, rb)]) 62 (.made (List.replicate 0 (.agg [.int .i64 0, .int .i64 0, .int .i64 0, .int .i64 0])) 4 true)) = some (.slice (some ⟨62, 0, 0, 0, 4⟩) 0 0, (AHeap.rows 66 [(0, b), (6, rw), (10, rl2), (25, rb), (62, .made (List.replicate 0 (.agg [.int .i64 0, .int .i64 0, .int .i64 0, .int .i64 0])) 4 true)]))) (hc_23 : FDoes Try.prog 13 [.slice (some ⟨10, vl, 0, 0, 4⟩) 0 9, .int .i64 cols] (AHeap.rows 70 [(0, b), (6, rw), (10, rl2), (25, rb), (62, .made (List.replicate 0 (.agg [.int .i64 0, .int .i64 0, .int .i64 0, .int .i64 0])) 4 true)]) (.slice oc kw cc) (AHeap.rows 71 [(0, b), (6, rw), (10, rl2), (25, rb), (62, .made (List.replicate 0 (.agg [.int .i64 0, .int .i64 0, .int .i64 0, .int .i64 0])) 4 true), (70, rc)])) (hc_24 : FDoes Try.prog 11 [.slice (some ⟨62, 0, 0, 0, 4⟩) 0 0, .int .i64 cols] (AHeap.rows 88 [(0, b), (6, rw), (10, rl2), (25, rb), (62, .made (List.replicate 0 (.agg [.int .i64 0, .int .i64 0, .int .i64 0, .int .i64 0])) 4 true), (70, rc)]) (.slice od kw cd) (AHeap.rows 89 [(0, b), (6, rw), (10, rl2), (25, rb), (62, .made (List.replicate 0 (.agg [.int .i64 0, .int .i64 0, .int .i64 0, .int .i64 0])) 4 true), (70, rc), (88, rd)])) (hc_25 : FDoes Try.prog 14 [.slice oc kw cc, .slice od kw cd] (AHeap.rows 89 [(0, b), (6, rw), (10, rl2), (25, rb), (62, .made (List.replicate 0 (.agg [.int .i64 0, .int .i64 0, .int .i64 0, .int .i64 0])) 4 true), (70, rc), (88, rd)]) (AVal.bool true) (AHeap.rows 89 [(0, b), (6, rw), (10, rl2), (25, rb), (62, .made (List.replicate 0 (.agg [.int .i64 0, .int .i64 0, .int .i64 0, .int .i64 0])) 4 true), (70, rc), (88, rd)])) (hc_26 : FDoes Try.prog 14 [.slice ob kw cb, .slice ow kw cw] (AHeap.rows 89 [(0, b), (6, rw), (10, rl2), (25, rb), (62, .made (List.replicate 0 (.agg [.int .i64 0, .int .i64 0, .int .i64 0, .int .i64 0])) 4 true), (70, rc), (88, rd)]) (AVal.bool true) (AHeap.rows 89 [(0, b), (6, rw), (10, rl2), (25, rb), (62, .made (List.replicate 0 (.agg [.int .i64 0, .int .i64 0, .int .i64 0, .int .i64 0])) 4 true), (70, rc), (88, rd)])) :
    FDoes Try.prog 3 [.slice o 0 c, .int .i64 cols] (AHeap.of [b]) (AVal.bool true) (AHeap.rows 89 [(0, b), (6, rw), (10, rl2), (25, rb), (62, .made (List.replicate 0 (.agg [.int .i64 0, .int .i64 0, .int .i64 0, .int .i64 0])) 4 true), (70, rc), (88, rd)]) :=
  pcall_does env_ok mixed (hs := [.act 1002 (.slice ow kw cw) (fun h => h.upd [] [rw]), .act 2001 (.slice (some ⟨10, vl, 0, 0, 4⟩) (0 + 9) (0 + 9)) (fun h => h.upd [] [rl]), .val 3003 (.slice (some ⟨10, vl, 0, 0, 4⟩) 0 (0 + 9)), .act 4002 (.slice oa kw ca) (fun h => h.upd [] [ra]), .act 5002 (.slice ob kw cb) (fun h => h.upd [] [rb]), .val 6002 (.bool true), .val 6007 (.bool true), .val 6013 (.bool true), .val 6020 (.slice (some ⟨10, vl, 0, 0, 4⟩) 9 9), .val 6021 (.bool true), .keep [0, 1, 5, 7, 8, 9, 10], .loop [(0, .slice o 0 c), (1, .int .i64 cols), (5, .slice ow kw cw), (7, .slice (some ⟨10, vl, 0, 0, 4⟩) 0 (0 + 9)), (8, .slice oa kw ca), (9, .slice ob kw cb)] (AHeap.rows 102 [(0, b), (6, rw), (10, rl), (20, ra2), (25, rb)]) (.exit 0), .keep [0, 1, 5, 7, 8, 9, 11, 12], .loop [(0, .slice o 0 c), (1, .int .i64 cols), (5, .slice ow kw cw), (7, .slice (some ⟨10, vl, 0, 0, 4⟩) 0 (0 + 9)), (8, .slice oa kw ca), (9, .slice ob kw cb), (11, .slice (some ⟨60, vx, 0, 0, 4⟩) (kw + 70) (kw + 70))] (AHeap.rows 102 [(0, b), (6, rw), (10, rl), (20, ra2), (25, rb), (60, rx)]) (.exit 2), .val 17001 (.bool true), .val 17004 (.bool true), .val 17009 (.bool true), .val 17014 (.bool true), .keep [0, 1, 5, 7, 9, 13, 14], .loop [(1, .int .i64 cols), (5, .slice ow kw cw), (7, .slice (some ⟨10, vl, 0, 0, 4⟩) 0 (0 + 9)), (9, .slice ob kw cb), (13, .bool true)] (AHeap.rows 62 [(0, b), (6, rw), (10, rl2), (25, rb)]) (.exit 4), .act 22002 (.slice (some ⟨62, 0, 0, 0, 4⟩) 0 0) (fun h => h), .act 23002 (.slice oc kw cc) (fun h => h.upd [] [rc]), .act 24005 (.slice od kw cd) (fun h => h.upd [] [rd]), .val 24006 (.bool true), .val 24011 (.bool true), .val 24014 (.bool true)]) (rs := []) (by kernel_rfl) (All.cons (CallT.mk hc_0) (All.cons (CallT.mk hc_1) (All.cons hc_2 (All.cons (CallT.mk hc_3) (All.cons (CallT.mk hc_4) (All.cons (CallT.mk hc_5) (All.cons (CallT.mk hc_6) (All.cons (CallT.mk hc_7) (All.cons hc_8 (All.cons (CallT.mk hc_9) (All.cons (show Agree [.slice oa kw ca, .slice ow kw cw] [.slice ob kw cb, .slice ow kw cw] (AHeap.rows 50 [(0, b), (6, rw), (10, rl), (20, ra), (25, rb)]) (AHeap.rows 50 [(0, b), (6, rw), (10, rl), (20, ra), (25, rb)]) (AVal.bool true) (AVal.bool true) (AHeap.rows 50 [(0, b), (6, rw), (10, rl), (20, ra), (25, rb)]) (AHeap.rows 50 [(0, b), (6, rw), (10, rl), (20, ra), (25, rb)]) from ⟨by intro hh hk; first | (simp at hh; done) | exact nxAbs hk (by decide) | (simp at hh; simp [hh]) | exact ⟨rfl, rfl⟩⟩) (All.cons (show Agree [.slice oa kw ca, .slice ow kw cw] [.slice (some ⟨10, vl, 0, 0, 4⟩) 0 9, .slice o 0 c] (AHeap.rows 50 [(0, b), (6, rw), (10, rl), (20, ra), (25, rb)]) (AHeap.rows 50 [(0, b), (6, rw), (10, rl), (20, ra), (25, rb)]) (AVal.bool true) (AVal.bool true) (AHeap.rows 50 [(0, b), (6, rw), (10, rl), (20, ra), (25, rb)]) (AHeap.rows 50 [(0, b), (6, rw), (10, rl), (20, ra), (25, rb)]) from ⟨by intro hh hk; first | (simp at hh; done) | exact nxAbs hk (by decide) | (simp at hh; simp [hh]) | exact ⟨rfl, rfl⟩⟩) (All.cons (show Agree [.slice ob kw cb, .slice ow kw cw] [.slice (some ⟨10, vl, 0, 0, 4⟩) 0 9, .slice o 0 c] (AHeap.rows 50 [(0, b), (6, rw), (10, rl), (20, ra), (25, rb)]) (AHeap.rows 50 [(0, b), (6, rw), (10, rl), (20, ra), (25, rb)]) (AVal.bool true) (AVal.bool true) (AHeap.rows 50 [(0, b), (6, rw), (10, rl), (20, ra), (25, rb)]) (AHeap.rows 50 [(0, b), (6, rw), (10, rl), (20, ra), (25, rb)]) from ⟨by intro hh hk; first | (simp at hh; done) | exact nxAbs hk (by decide) | (simp at hh; simp [hh]) | exact ⟨rfl, rfl⟩⟩) (All.cons hc_13 (All.cons hc_14 (All.cons (CallT.mk hc_15) (All.cons (CallT.mk hc_16) (All.cons (CallT.mk hc_17) (All.cons (CallT.mk hc_18) (All.cons (show Agree [.slice (some ⟨60, vx, 0, 0, 4⟩) (kw + 70) (kw + 70), .int .i64 (-5)] [.slice oa kw ca, .int .i64 (-5)] (AHeap.rows 119 [(0, b), (6, rw), (10, rl), (20, ra2), (25, rb), (60, rx)]) (AHeap.rows 119 [(0, b), (6, rw), (10, rl), (20, ra2), (25, rb), (60, rx)]) (AVal.bool true) (AVal.bool true) (AHeap.rows 119 [(0, b), (6, rw), (10, rl), (20, ra2), (25, rb), (60, rx)]) (AHeap.rows 119 [(0, b), (6, rw), (10, rl), (20, ra2), (25, rb), (60, rx)]) from ⟨by intro hh hk; first | (simp at hh; done) | exact nxAbs hk (by decide) | (simp at hh; simp [hh]) | exact ⟨rfl, rfl⟩⟩) (All.cons (show Agree [.slice ob kw cb, .slice ow kw cw] [.slice (some ⟨10, vl, 0, 0, 4⟩) 0 9, .slice o 0 c] (AHeap.rows 119 [(0, b), (6, rw), (10, rl), (20, ra2), (25, rb), (60, rx)]) (AHeap.rows 119 [(0, b), (6, rw), (10, rl), (20, ra2), (25, rb), (60, rx)]) (AVal.bool true) (AVal.bool true) (AHeap.rows 119 [(0, b), (6, rw), (10, rl), (20, ra2), (25, rb), (60, rx)]) (AHeap.rows 119 [(0, b), (6, rw), (10, rl), (20, ra2), (25, rb), (60, rx)]) from ⟨by intro hh hk; first | (simp at hh; done) | exact nxAbs hk (by decide) | (simp at hh; simp [hh]) | exact ⟨rfl, rfl⟩⟩) (All.cons hc_21 (All.cons hc_22 (All.cons (CallT.mk hc_23) (All.cons (CallT.mk hc_24) (All.cons (CallT.mk hc_25) (All.cons (CallT.mk hc_26) (All.cons (show CallT Try.prog 16 [] (AHeap.rows 89 [(0, b), (6, rw), (10, rl2), (25, rb), (62, .made (List.replicate 0 (.agg [.int .i64 0, .int .i64 0, .int .i64 0, .int .i64 0])) 4 true), (70, rc), (88, rd)]) (AVal.bool true) (AHeap.rows 89 [(0, b), (6, rw), (10, rl2), (25, rb), (62, .made (List.replicate 0 (.agg [.int .i64 0, .int .i64 0, .int .i64 0, .int .i64 0])) 4 true), (70, rc), (88, rd)]) from ⟨(alive_does _)⟩) (All.cons (show Agree [.slice oc kw cc, .slice od kw cd] [.slice ob kw cb, .slice ow kw cw] (AHeap.rows 89 [(0, b), (6, rw), (10, rl2), (25, rb), (62, .made (List.replicate 0 (.agg [.int .i64 0, .int .i64 0, .int .i64 0, .int .i64 0])) 4 true), (70, rc), (88, rd)]) (AHeap.rows 89 [(0, b), (6, rw), (10, rl2), (25, rb), (62, .made (List.replicate 0 (.agg [.int .i64 0, .int .i64 0, .int .i64 0, .int .i64 0])) 4 true), (70, rc), (88, rd)]) (AVal.bool true) (AVal.bool true) (AHeap.rows 89 [(0, b), (6, rw), (10, rl2), (25, rb), (62, .made (List.replicate 0 (.agg [.int .i64 0, .int .i64 0, .int .i64 0, .int .i64 0])) 4 true), (70, rc), (88, rd)]) (AHeap.rows 89 [(0, b), (6, rw), (10, rl2), (25, rb), (62, .made (List.replicate 0 (.agg [.int .i64 0, .int .i64 0, .int .i64 0, .int .i64 0])) 4 true), (70, rc), (88, rd)]) from ⟨by intro hh hk; first | (simp at hh; done) | exact nxAbs hk (by decide) | (simp at hh; simp [hh]) | exact ⟨rfl, rfl⟩⟩) (All.nil))))))))))))))))))))))))))))))

theorem gw_call_1 (o ow oa ob oc od : Option AAddr) (n c kw cw vl ca cb cc cd vx : Nat) (b rw rl ra rb ra2 rx rl2 rt rc rd : ABlk) (cols : Int) (hc_0 : FDoes Try.prog 11 [.slice o n c, .int .i64 cols] (AHeap.rows 6 [(0, b)]) (.slice ow kw cw) (AHeap.rows 7 [(0, b), (6, rw)])) (hc_1 : FDoes Try.prog 12 [.slice o n c] (AHeap.rows 10 [(0, b), (6, rw)]) (.slice (some ⟨10, vl, 0, 0, 4⟩) (n + 9) (n + 9)) (AHeap.rows 11 [(0, b), (6, rw), (10, rl)])) (hc_2 : aslice env.D 22 (.slice (some ⟨10, vl, 0, 0, 4⟩) (n + 9) (n + 9)) none (some (.int .i64 (n : Int))) none = some (.slice (some ⟨10, vl, 0, 0, 4⟩) n (n + 9))) (hc_3 : FDoes Try.prog 13 [.slice (some ⟨10, vl, 0, 0, 4⟩) n (n + 9), .int .i64 cols] (AHeap.rows 20 [(0, b), (6, rw), (10, rl)]) (.slice oa kw ca) (AHeap.rows 21 [(0, b), (6, rw), (10, rl), (20, ra)])) (hc_4 : FDoes Try.prog 13 [.slice (some ⟨10, vl, 0, 0, 4⟩) n (n + 9), .int .i64 cols] (AHeap.rows 25 [(0, b), (6, rw), (10, rl), (20, ra)]) (.slice ob kw cb) (AHeap.rows 26 [(0, b), (6, rw), (10, rl), (20, ra), (25, rb)])) (hc_5 : FDoes Try.prog 14 [.slice oa kw ca, .slice ow kw cw] (AHeap.rows 50 [(0, b), (6, rw), (10, rl), (20, ra), (25, rb)]) (AVal.bool true) (AHeap.rows 50 [(0, b), (6, rw), (10, rl), (20, ra), (25, rb)])) (hc_6 : FDoes Try.prog 14 [.slice ob kw cb, .slice ow kw cw] (AHeap.rows 50 [(0, b), (6, rw), (10, rl), (20, ra), (25, rb)]) (AVal.bool true) (AHeap.rows 50 [(0, b), (6, rw), (10, rl), (20, ra), (25, rb)])) (hc_7 : FDoes Try.prog 14 [.slice (some ⟨10, vl, 0, 0, 4⟩) n (n + 9), .slice o n c] (AHeap.rows 50 [(0, b), (6, rw), (10, rl), (20, ra), (25, rb)]) (AVal.bool true) (AHeap.rows 50 [(0, b), (6, rw), (10, rl), (20, ra), (25, rb)])) (hc_8 : aslice env.D 22 (.slice (some ⟨10, vl, 0, 0, 4⟩) (n + 9) (n + 9)) (some (.int .i64 (n : Int))) none none = some (.slice (some ⟨10, vl, n, 0, 4⟩) 9 9)) (hc_9 : FDoes Try.prog 15 [.slice (some ⟨10, vl, n, 0, 4⟩) 9 9, .int .i64 (-77)] (AHeap.rows 50 [(0, b), (6, rw), (10, rl), (20, ra), (25, rb)]) (AVal.bool true) (AHeap.rows 50 [(0, b), (6, rw), (10, rl), (20, ra), (25, rb)])) (hc_13 : Runs Try.prog 1 130 (.loop (loopAt Try.prog 3 0)) [(0, .slice o n c), (1, .int .i64 cols), (5, .slice ow kw cw), (7, .slice (some ⟨10, vl, 0, 0, 4⟩) n (n + 9)), (8, .slice oa kw ca), (9, .slice ob kw cb), (10, .int .i64 0)] (AHeap.rows 51 [(0, b), (6, rw), (10, rl), (20, ra), (25, rb)]) (.exit 0) [(0, .slice o n c), (1, .int .i64 cols), (5, .slice ow kw cw), (7, .slice (some ⟨10, vl, 0, 0, 4⟩) n (n + 9)), (8, .slice oa kw ca), (9, .slice ob kw cb)] (AHeap.rows 102 [(0, b), (6, rw), (10, rl), (20, ra2), (25, rb)])) (hc_14 : Runs Try.prog 1 130 (.loop (loopAt Try.prog 3 1)) [(0, .slice o n c), (1, .int .i64 cols), (5, .slice ow kw cw), (7, .slice (some ⟨10, vl, 0, 0, 4⟩) n (n + 9)), (8, .slice oa kw ca), (9, .slice ob kw cb), (11, .slice oa kw ca), (12, .int .i64 0)] (AHeap.rows 105 [(0, b), (6, rw), (10, rl), (20, ra2), (25, rb)]) (.exit 2) [(0, .slice o n c), (1, .int .i64 cols), (5, .slice ow kw cw), (7, .slice (some ⟨10, vl, 0, 0, 4⟩) n (n + 9)), (8, .slice oa kw ca), (9, .slice ob kw cb), (11, .slice (some ⟨60, vx, 0, 0, 4⟩) (kw + 70) (kw + 70))] (AHeap.rows 102 [(0, b), (6, rw), (10, rl), (20, ra2), (25, rb), (60, rx)])) (hc_15 : FDoes Try.prog 15 [.slice (some ⟨60, vx, 0, 0, 4⟩) (kw + 70) (kw + 70), .int .i64 (-5)] (AHeap.rows 119 [(0, b), (6, rw), (10, rl), (20, ra2), (25, rb), (60, rx)]) (AVal.bool true) (AHeap.rows 119 [(0, b), (6, rw), (10, rl), (20, ra2), (25, rb), (60, rx)])) (hc_16 : FDoes Try.prog 15 [.slice oa kw ca, .int .i64 (-5)] (AHeap.rows 119 [(0, b), (6, rw), (10, rl), (20, ra2), (25, rb), (60, rx)]) (AVal.bool true) (AHeap.rows 119 [(0, b), (6, rw), (10, rl), (20, ra2), (25, rb), (60, rx)])) (hc_17 : FDoes Try.prog 14 [.slice ob kw cb, .slice ow kw cw] (AHeap.rows 119 [(0, b), (6, rw), (10, rl), (20, ra2), (25, rb), (60, rx)]) (AVal.bool true) (AHeap.rows 119 [(0, b), (6, rw), (10, rl), (20, ra2), (25, rb), (60, rx)])) (hc_18 : FDoes Try.prog 14 [.slice (some ⟨10, vl, 0, 0, 4⟩) n (n + 9), .slice o n c] (AHeap.rows 119 [(0, b), (6, rw), (10, rl), (20, ra2), (25, rb), (60, rx)]) (AVal.bool true) (AHeap.rows 119 [(0, b), (6, rw), (10, rl), (20, ra2), (25, rb), (60, rx)])) (hc_21 : Runs Try.prog 1 130 (.loop (loopAt Try.prog 3 2)) [(0, .slice o n c), (1, .int .i64 cols), (5, .slice ow kw cw), (7, .slice (some ⟨10, vl, 0, 0, 4⟩) n (n + 9)), (9, .slice ob kw cb), (13, AVal.bool true), (14, .int .i64 0)] (AHeap.rows 120 [(0, b), (6, rw), (10, rl), (20, ra2), (25, rb), (60, rx)]) (.exit 4) [(1, .int .i64 cols), (5, .slice ow kw cw), (7, .slice (some ⟨10, vl, 0, 0, 4⟩) n (n + 9)), (9, .slice ob kw cb), (13, AVal.bool true)] (AHeap.rows 62 [(0, b), (6, rw), (10, rl2), (25, rb)])) (hc_22 : abuiltin env Builtin.append { toList := [22, 22] } [.slice (some ⟨62, 0, 0, 0, 4⟩) 0 0, .slice (some ⟨10, vl, 0, 0, 4⟩) n (n + 9)] 64 (AHeap.set (AHeap.rows 66 [(0, b), (6, rw), (10, rl2), (25, rb)]) 62 (.made (List.replicate 0 (.agg [.int .i64 0, .int .i64 0, .int .i64 0, .int .i64 0])) 4 true)) = some (.slice (some ⟨64, 0, 0, 0, 4⟩) n n, (AHeap.rows 66 [(0, b), (6, rw), (10, rl2), (25, rb), (62, .made (List.replicate 0 (.agg [.int .i64 0, .int .i64 0, .int .i64 0, .int .i64 0])) 4 true), (64, rt)]))) (hc_23 : FDoes Try.prog 13 [.slice (some ⟨10, vl, 0, 0, 4⟩) n (n + 9), .int .i64 cols] (AHeap.rows 70 [(0, b), (6, rw), (10, rl2), (25, rb), (62, .made (List.replicate 0 (.agg [.int .i64 0, .int .i64 0, .int .i64 0, .int .i64 0])) 4 true), (64, rt)]) (.slice oc kw cc) (AHeap.rows 71 [(0, b), (6, rw), (10, rl2), (25, rb), (62, .made (List.replicate 0 (.agg [.int .i64 0, .int .i64 0, .int .i64 0, .int .i64 0])) 4 true), (64, rt), (70, rc)])) (hc_24 : FDoes Try.prog 11 [.slice (some ⟨64, 0, 0, 0, 4⟩) n n, .int .i64 cols] (AHeap.rows 88 [(0, b), (6, rw), (10, rl2), (25, rb), (62, .made (List.replicate 0 (.agg [.int .i64 0, .int .i64 0, .int .i64 0, .int .i64 0])) 4 true), (64, rt), (70, rc)]) (.slice od kw cd) (AHeap.rows 89 [(0, b), (6, rw), (10, rl2), (25, rb), (62, .made (List.replicate 0 (.agg [.int .i64 0, .int .i64 0, .int .i64 0, .int .i64 0])) 4 true), (64, rt), (70, rc), (88, rd)])) (hc_25 : FDoes Try.prog 14 [.slice oc kw cc, .slice od kw cd] (AHeap.rows 89 [(0, b), (6, rw), (10, rl2), (25, rb), (62, .made (List.replicate 0 (.agg [.int .i64 0, .int .i64 0, .int .i64 0, .int .i64 0])) 4 true), (64, rt), (70, rc), (88, rd)]) (AVal.bool true) (AHeap.rows 89 [(0, b), (6, rw), (10, rl2), (25, rb), (62, .made (List.replicate 0 (.agg [.int .i64 0, .int .i64 0, .int .i64 0, .int .i64 0])) 4 true), (64, rt), (70, rc), (88, rd)])) (hc_26 : FDoes Try.prog 14 [.slice ob kw cb, .slice ow kw cw] (AHeap.rows 89 [(0, b), (6, rw), (10, rl2), (25, rb), (62, .made (List.replicate 0 (.agg [.int .i64 0, .int .i64 0, .int .i64 0, .int .i64 0])) 4 true), (64, rt), (70, rc), (88, rd)]) (AVal.bool true) (AHeap.rows 89 [(0, b), (6, rw), (10, rl2), (25, rb), (62, .made (List.replicate 0 (.agg [.int .i64 0, .int .i64 0, .int .i64 0, .int .i64 0])) 4 true), (64, rt), (70, rc), (88, rd)])) :
    FDoes Try.prog 3 [.slice o n c, .int .i64 cols] (AHeap.of [b]) (AVal.bool true) (AHeap.rows 89 [(0, b), (6, rw), (10, rl2), (25, rb), (62, .made (List.replicate 0 (.agg [.int .i64 0, .int .i64 0, .int .i64 0, .int .i64 0])) 4 true), (64, rt), (70, rc), (88, rd)]) :=
  pcall_does env_ok mixed (hs := [.act 1002 (.slice ow kw cw) (fun h => h.upd [] [rw]), .act 2001 (.slice (some ⟨10, vl, 0, 0, 4⟩) (n + 9) (n + 9)) (fun h => h.upd [] [rl]), .val 3003 (.slice (some ⟨10, vl, 0, 0, 4⟩) n (n + 9)), .act 4002 (.slice oa kw ca) (fun h => h.upd [] [ra]), .act 5002 (.slice ob kw cb) (fun h => h.upd [] [rb]), .val 6002 (.bool true), .val 6007 (.bool true), .val 6013 (.bool true), .val 6020 (.slice (some ⟨10, vl, n, 0, 4⟩) 9 9), .val 6021 (.bool true), .keep [0, 1, 5, 7, 8, 9, 10], .loop [(0, .slice o n c), (1, .int .i64 cols), (5, .slice ow kw cw), (7, .slice (some ⟨10, vl, 0, 0, 4⟩) n (n + 9)), (8, .slice oa kw ca), (9, .slice ob kw cb)] (AHeap.rows 102 [(0, b), (6, rw), (10, rl), (20, ra2), (25, rb)]) (.exit 0), .keep [0, 1, 5, 7, 8, 9, 11, 12], .loop [(0, .slice o n c), (1, .int .i64 cols), (5, .slice ow kw cw), (7, .slice (some ⟨10, vl, 0, 0, 4⟩) n (n + 9)), (8, .slice oa kw ca), (9, .slice ob kw cb), (11, .slice (some ⟨60, vx, 0, 0, 4⟩) (kw + 70) (kw + 70))] (AHeap.rows 102 [(0, b), (6, rw), (10, rl), (20, ra2), (25, rb), (60, rx)]) (.exit 2), .val 17001 (.bool true), .val 17004 (.bool true), .val 17009 (.bool true), .val 17014 (.bool true), .keep [0, 1, 5, 7, 9, 13, 14], .loop [(1, .int .i64 cols), (5, .slice ow kw cw), (7, .slice (some ⟨10, vl, 0, 0, 4⟩) n (n + 9)), (9, .slice ob kw cb), (13, .bool true)] (AHeap.rows 62 [(0, b), (6, rw), (10, rl2), (25, rb)]) (.exit 4), .act 22002 (.slice (some ⟨64, 0, 0, 0, 4⟩) n n) (fun h => h.set 64 rt), .act 23002 (.slice oc kw cc) (fun h => h.upd [] [rc]), .act 24005 (.slice od kw cd) (fun h => h.upd [] [rd]), .val 24006 (.bool true), .val 24011 (.bool true), .val 24014 (.bool true)]) (rs := []) (by kernel_rfl) (All.cons (CallT.mk hc_0) (All.cons (CallT.mk hc_1) (All.cons hc_2 (All.cons (CallT.mk hc_3) (All.cons (CallT.mk hc_4) (All.cons (CallT.mk hc_5) (All.cons (CallT.mk hc_6) (All.cons (CallT.mk hc_7) (All.cons hc_8 (All.cons (CallT.mk hc_9) (All.cons (show Agree [.slice oa kw ca, .slice ow kw cw] [.slice ob kw cb, .slice ow kw cw] (AHeap.rows 50 [(0, b), (6, rw), (10, rl), (20, ra), (25, rb)]) (AHeap.rows 50 [(0, b), (6, rw), (10, rl), (20, ra), (25, rb)]) (AVal.bool true) (AVal.bool true) (AHeap.rows 50 [(0, b), (6, rw), (10, rl), (20, ra), (25, rb)]) (AHeap.rows 50 [(0, b), (6, rw), (10, rl), (20, ra), (25, rb)]) from ⟨by intro hh hk; first | (simp at hh; done) | exact nxAbs hk (by decide) | (simp at hh; simp [hh]) | exact ⟨rfl, rfl⟩⟩) (All.cons (show Agree [.slice oa kw ca, .slice ow kw cw] [.slice (some ⟨10, vl, 0, 0, 4⟩) n (n + 9), .slice o n c] (AHeap.rows 50 [(0, b), (6, rw), (10, rl), (20, ra), (25, rb)]) (AHeap.rows 50 [(0, b), (6, rw), (10, rl), (20, ra), (25, rb)]) (AVal.bool true) (AVal.bool true) (AHeap.rows 50 [(0, b), (6, rw), (10, rl), (20, ra), (25, rb)]) (AHeap.rows 50 [(0, b), (6, rw), (10, rl), (20, ra), (25, rb)]) from ⟨by intro hh hk; first | (simp at hh; done) | exact nxAbs hk (by decide) | (simp at hh; simp [hh]) | exact ⟨rfl, rfl⟩⟩) (All.cons (show Agree [.slice ob kw cb, .slice ow kw cw] [.slice (some ⟨10, vl, 0, 0, 4⟩) n (n + 9), .slice o n c] (AHeap.rows 50 [(0, b), (6, rw), (10, rl), (20, ra), (25, rb)]) (AHeap.rows 50 [(0, b), (6, rw), (10, rl), (20, ra), (25, rb)]) (AVal.bool true) (AVal.bool true) (AHeap.rows 50 [(0, b), (6, rw), (10, rl), (20, ra), (25, rb)]) (AHeap.rows 50 [(0, b), (6, rw), (10, rl), (20, ra), (25, rb)]) from ⟨by intro hh hk; first | (simp at hh; done) | exact nxAbs hk (by decide) | (simp at hh; simp [hh]) | exact ⟨rfl, rfl⟩⟩) (All.cons hc_13 (All.cons hc_14 (All.cons (CallT.mk hc_15) (All.cons (CallT.mk hc_16) (All.cons (CallT.mk hc_17) (All.cons (CallT.mk hc_18) (All.cons (show Agree [.slice (some ⟨60, vx, 0, 0, 4⟩) (kw + 70) (kw + 70), .int .i64 (-5)] [.slice oa kw ca, .int .i64 (-5)] (AHeap.rows 119 [(0, b), (6, rw), (10, rl), (20, ra2), (25, rb), (60, rx)]) (AHeap.rows 119 [(0, b), (6, rw), (10, rl), (20, ra2), (25, rb), (60, rx)]) (AVal.bool true) (AVal.bool true) (AHeap.rows 119 [(0, b), (6, rw), (10, rl), (20, ra2), (25, rb), (60, rx)]) (AHeap.rows 119 [(0, b), (6, rw), (10, rl), (20, ra2), (25, rb), (60, rx)]) from ⟨by intro hh hk; first | (simp at hh; done) | exact nxAbs hk (by decide) | (simp at hh; simp [hh]) | exact ⟨rfl, rfl⟩⟩) (All.cons (show Agree [.slice ob kw cb, .slice ow kw cw] [.slice (some ⟨10, vl, 0, 0, 4⟩) n (n + 9), .slice o n c] (AHeap.rows 119 [(0, b), (6, rw), (10, rl), (20, ra2), (25, rb), (60, rx)]) (AHeap.rows 119 [(0, b), (6, rw), (10, rl), (20, ra2), (25, rb), (60, rx)]) (AVal.bool true) (AVal.bool true) (AHeap.rows 119 [(0, b), (6, rw), (10, rl), (20, ra2), (25, rb), (60, rx)]) (AHeap.rows 119 [(0, b), (6, rw), (10, rl), (20, ra2), (25, rb), (60, rx)]) from ⟨by intro hh hk; first | (simp at hh; done) | exact nxAbs hk (by decide) | (simp at hh; simp [hh]) | exact ⟨rfl, rfl⟩⟩) (All.cons hc_21 (All.cons hc_22 (All.cons (CallT.mk hc_23) (All.cons (CallT.mk hc_24) (All.cons (CallT.mk hc_25) (All.cons (CallT.mk hc_26) (All.cons (show CallT Try.prog 16 [] (AHeap.rows 89 [(0, b), (6, rw), (10, rl2), (25, rb), (62, .made (List.replicate 0 (.agg [.int .i64 0, .int .i64 0, .int .i64 0, .int .i64 0])) 4 true), (64, rt), (70, rc), (88, rd)]) (AVal.bool true) (AHeap.rows 89 [(0, b), (6, rw), (10, rl2), (25, rb), (62, .made (List.replicate 0 (.agg [.int .i64 0, .int .i64 0, .int .i64 0, .int .i64 0])) 4 true), (64, rt), (70, rc), (88, rd)]) from ⟨(alive_does _)⟩) (All.cons (show Agree [.slice oc kw cc, .slice od kw cd] [.slice ob kw cb, .slice ow kw cw] (AHeap.rows 89 [(0, b), (6, rw), (10, rl2), (25, rb), (62, .made (List.replicate 0 (.agg [.int .i64 0, .int .i64 0, .int .i64 0, .int .i64 0])) 4 true), (64, rt), (70, rc), (88, rd)]) (AHeap.rows 89 [(0, b), (6, rw), (10, rl2), (25, rb), (62, .made (List.replicate 0 (.agg [.int .i64 0, .int .i64 0, .int .i64 0, .int .i64 0])) 4 true), (64, rt), (70, rc), (88, rd)]) (AVal.bool true) (AVal.bool true) (AHeap.rows 89 [(0, b), (6, rw), (10, rl2), (25, rb), (62, .made (List.replicate 0 (.agg [.int .i64 0, .int .i64 0, .int .i64 0, .int .i64 0])) 4 true), (64, rt), (70, rc), (88, rd)]) (AHeap.rows 89 [(0, b), (6, rw), (10, rl2), (25, rb), (62, .made (List.replicate 0 (.agg [.int .i64 0, .int .i64 0, .int .i64 0, .int .i64 0])) 4 true), (64, rt), (70, rc), (88, rd)]) from ⟨by intro hh hk; first | (simp at hh; done) | exact nxAbs hk (by decide) | (simp at hh; simp [hh]) | exact ⟨rfl, rfl⟩⟩) (All.nil))))))))))))))))))))))))))))))

end Go.Proofs.Ytcgcpmcjaeenlaa
