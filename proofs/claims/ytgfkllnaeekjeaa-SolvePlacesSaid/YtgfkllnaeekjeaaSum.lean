/-
  SUMS: what solve.sum answers, for every slice.
-/
import Derived.Test.YtgfkllnaeekjeaaTypes
namespace Go.Proofs.Ytgfkllnaeekjeaa
open Go.Lift
set_option maxRecDepth 1000000
set_option linter.unusedSimpArgs false
set_option linter.unusedVariables false

theorem sum_step (o : Option AAddr) (n c ver off : Nat) (b : ABlk) (i : Nat) (x acc : Int) (c0 : (↑i : Int) < (↑n : Int)) (c1 : aindexAddr (AEnv.D env) 27 (AVal.slice o n c) (AVal.int IntKind.i64 (↑i : Int)) = some (AVal.ptr (some ⟨0, ver, off + i, 0, 1⟩))) (c2 : ABlk.elem? b ver (off + i) = some (AVal.int IntKind.i64 x)) (c3 : -9223372036854775808 ≤ acc + x ∧ acc + x ≤ 9223372036854775807) (c4 : -9223372036854775808 ≤ (↑i : Int) + 1 ∧ (↑i : Int) + 1 ≤ 9223372036854775807) :
    Runs Try.prog 1 17 (loopAt Try.prog 40 0) [(6, .slice o n c), (7, .int .i64 n), (8, .int .i64 i), (3, .int .i64 acc)] (AHeap.rows 6 [(0, b)]) AExit.normal [(6, AVal.slice o n c), (7, AVal.int IntKind.i64 (↑n : Int)), (8, AVal.int IntKind.i64 ((↑i : Int) + 1)), (3, AVal.int IntKind.i64 (acc + x))] (AHeap.rows 16 [(0, b)]) :=
  ppath_runs env_ok mixed (hs := [.val 3000 (.bool true), .val 4000 (.ptr (some ⟨0, ver, off + i, 0, 1⟩)), .ld 4001 (.int .i64 x), .go 5002, .go 6000]) (keep := [6, 7, 8, 3]) (by kernel_rfl) (All.cons (okT c0) (All.cons (c1) (All.cons (c2) (All.cons (c3) (All.cons (c4) (All.nil))))))

theorem sum_end (o : Option AAddr) (n c : Nat) (b : ABlk) (i : Nat) (acc : Int) (c0 : ¬ ((↑i : Int) < (↑n : Int))) :
    Runs Try.prog 1 17 (loopAt Try.prog 40 0) [(6, .slice o n c), (7, .int .i64 n), (8, .int .i64 i), (3, .int .i64 acc)] (AHeap.rows 6 [(0, b)]) (AExit.exit 0) [(3, AVal.int IntKind.i64 acc)] (AHeap.rows 7 [(0, b)]) :=
  ppath_runs env_ok mixed (hs := [.val 3000 (.bool false)]) (keep := [3]) (by kernel_rfl) (All.cons (okF c0) (All.nil))

theorem sum_call (o : Option AAddr) (n c : Nat) (b : ABlk) (r : Int) (c0 : Runs Try.prog 1 17 (Code.loop (loopAt Try.prog 40 0)) [(6, AVal.slice o n c), (7, AVal.int IntKind.i64 (↑n : Int)), (8, AVal.int IntKind.i64 (0)), (3, AVal.int IntKind.i64 (0))] (AHeap.rows 6 [(0, b)]) (AExit.exit 0) [(3, AVal.int IntKind.i64 r)] (AHeap.rows 7 [(0, b)])) :
    FDoes Try.prog 40 [.slice o n c] (AHeap.of [b]) (AVal.int IntKind.i64 r) (AHeap.rows 9 [(0, b)]) :=
  pcall_does env_ok mixed (hs := [.keep [6, 7, 8, 3], .loop [(3, .int .i64 r)] (AHeap.rows 7 [(0, b)]) (.exit 0)]) (rs := []) (by kernel_rfl) (All.cons (c0) (All.nil))

theorem sum_loop {o : Option AAddr} {n c ver off : Nat} {b : ABlk} (hs : SlArg o n c 0 ver off 1) (hb : BareB b) {x : Nat → Int} (hx : ∀ j, j < n → b.elem? ver (off + j) = some (.int .i64 (x j))) (hf : ∀ j, j ≤ n → Fit64 (sumTo x j)) (hn : n < 2 ^ 62) :
    ∀ (k i : Nat), i + k = n → Loops Try.prog 1 17 (loopAt Try.prog 40 0) [(6, .slice o n c), (7, .int .i64 n), (8, .int .i64 i), (3, .int .i64 (sumTo x i))] (AHeap.rows 6 [(0, b)]) (.exit 0) [(3, .int .i64 (sumTo x n))] (AHeap.rows 7 [(0, b)])
  | 0, i, e => by
    obtain rfl : i = n := by omega
    exact Loops.last (by simp) (sum_end o i c b i _ (by omega))
  | k + 1, i, e => by
    refine Loops.round (sum_step o n c ver off b i (x i) _ (by omega) (ix_intN hs (by omega)) (hx i (by omega)) (hf (i + 1) (by omega)) (by omega)) ?_ (sum_loop hs hb hx hf hn k (i + 1) (by omega))
    have hc : Clo (Ids [0]) (.slice o n c) := hs.clo (by simp [Ids])
    exact Ent.drop (by kernel_rfl) (by kernel_rfl) (by kernel_rfl) (by kernel_rfl) (by simp [All_cons, All_nil, Clo, hc]) (by simp [All_cons, All_nil, Ids]; exact hb.clo _)

theorem sum_small {o : Option AAddr} {n c ver off : Nat} {b : ABlk} (hs : SlArg o n c 0 ver off 1) (hb : BareB b) {x : Nat → Int} (hx : ∀ j, j < n → b.elem? ver (off + j) = some (.int .i64 (x j))) (hf : ∀ j, j ≤ n → Fit64 (sumTo x j)) (hn : n < 2 ^ 62) :
    FDoes Try.prog 40 [.slice o n c] (AHeap.of [b]) (.int .i64 (sumTo x n)) (AHeap.rows 9 [(0, b)]) :=
  sum_call o n c b _ (Runs.of_loops (sum_loop hs hb hx hf hn n 0 (by omega)))

theorem sum_does {o : Option AAddr} {n c id ver off : Nat} {b : ABlk} (hs : SlArg o n c id ver off 1) (hb : BareB b) {x : Nat → Int} (hx : ∀ j, j < n → b.elem? ver (off + j) = some (.int .i64 (x j))) (hf : ∀ j, j ≤ n → Fit64 (sumTo x j)) (hn : n < 2 ^ 62)
    {H : AHeap} (hid : H.get id = some b) (hlt : id < H.next) : FDoes Try.prog 40 [.slice o n c] H (.int .i64 (sumTo x n)) H := by
  have k := (sum_small (hs.at 0) hb hx hf hn).pure (by simp [hb]) (by kernel_rfl) (Bare.int _ _) (by simp [Clos, (hs.at 0).clo]) (H := H) [id] (by simp) (by simp [hlt]) (by simp [hid])
  simpa [hs.back (id' := 0) (r := toBig [id] H.next) rfl] using k

end Go.Proofs.Ytgfkllnaeekjeaa
