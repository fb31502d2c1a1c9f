/-
  'frescolaw08.SolveWithin' answers true, for every list of sizes, extent, gap and way.
-/
import Derived.Test.YtgfkllnaeekjeaaPlaces
import Derived.Test.YtgfkllnaeekjeaaWorks
namespace Go.Proofs.Ytgfkllnaeekjeaa
open Go.Lift
set_option maxRecDepth 1000000
set_option linter.unusedSimpArgs false
set_option linter.unusedVariables false

theorem lside_p (n : Int)  :
    FDoes Try.prog 29 [.int .i64 n] (⟨0, .nil⟩) (AVal.int IntKind.i64 (if 4096 < if 0 > n then 0 else n then 4096 else if 0 > n then 0 else n)) (AHeap.rows 5 []) :=
  pcall_does env_ok mixed (hs := []) (rs := []) (by kernel_rfl) (All.nil)

theorem lside_does (n : Int) (H : AHeap) : FDoes Try.prog 29 [.int .i64 n] H (.int .i64 (sideZ n)) H := by
  have h := (lside_p n).bare (by simp [Bare, AVal.ren, Clo]) (Bare.int _ _) H
  have e : (if 4096 < if 0 > n then 0 else n then 4096 else if 0 > n then 0 else n) = sideZ n := by unfold sideZ; split <;> split <;> omega
  rwa [e] at h

theorem wi_many (o : Option AAddr) (n c : Nat) (extent gap how : Int) (b : ABlk) (c1 : FDoes Try.prog 24 [AVal.slice o n c, AVal.int IntKind.i64 extent, AVal.int IntKind.i64 gap, AVal.int IntKind.i8 how] (AHeap.rows 10 [(0, b)]) (AVal.slice none 0 0) (AHeap.rows 10 [(0, b)])) (c2 : (↑n : Int) > 4096) :
    FDoes Try.prog 10 [.slice o n c, .int .i64 extent, .int .i64 gap, .int .i8 how] (AHeap.of [b]) (AVal.bool true) (AHeap.rows 17 [(0, b)]) :=
  pcall_does env_ok mixed (hs := [.val 1000 (.bool true), .val 3004 (.slice none 0 0), .val 4002 (.bool true), .val 5002 (.bool true)]) (rs := []) (by kernel_rfl) (All.cons (show CallT Try.prog 21 [] (AHeap.rows 4 [(0, b)]) (AVal.bool true) (AHeap.rows 4 [(0, b)]) from ⟨(works_does _)⟩) (All.cons (show CallT Try.prog 24 [AVal.slice o n c, AVal.int IntKind.i64 extent, AVal.int IntKind.i64 gap, AVal.int IntKind.i8 how] (AHeap.rows 10 [(0, b)]) (AVal.slice none 0 0) (AHeap.rows 10 [(0, b)]) from ⟨c1⟩) (All.cons (okT c2) (All.cons (show some (AVal.bool true) = some (AVal.bool true) from congrArg (fun q => some (AVal.bool q)) (rfl)) (All.nil)))))

theorem wi_call (o : Option AAddr) (n c : Nat) (extent gap how used : Int) (b : ABlk) (out : List AVal) (c1 : FDoes Try.prog 24 [AVal.slice o n c, AVal.int IntKind.i64 extent, AVal.int IntKind.i64 gap, AVal.int IntKind.i8 how] (AHeap.rows 10 [(0, b)]) (AVal.slice (some ⟨10, 0, 0, 0, 1⟩) n n) (AHeap.rows 11 [(0, b), (10, ABlk.made out 1 true)])) (c2 : ¬ ((↑n : Int) > 4096)) (c3 : (↑n : Int) = (↑n : Int)) (c7 : -9223372036854775808 ≤ (↑n : Int) - 1 ∧ (↑n : Int) - 1 ≤ 9223372036854775807) (c8 : -9223372036854775808 ≤ sideZ gap * ((↑n : Int) - 1) ∧ sideZ gap * ((↑n : Int) - 1) ≤ 9223372036854775807) (c9 : Runs Try.prog 1 127 (Code.loop (loopAt Try.prog 10 0)) [(0, AVal.slice o n c), (9, AVal.slice (some ⟨10, 0, 0, 0, 1⟩) n n), (10, AVal.int IntKind.i64 (sideZ extent)), (11, AVal.int IntKind.i64 (sideZ gap)), (12, AVal.int IntKind.i64 (sideZ gap * ((↑n : Int) - 1))), (44, AVal.int IntKind.i64 (↑n : Int)), (45, AVal.int IntKind.i64 (0))] (AHeap.rows 34 [(0, b), (10, ABlk.made out 1 true)]) (AExit.exit 0) [(0, AVal.slice o n c), (9, AVal.slice (some ⟨10, 0, 0, 0, 1⟩) n n), (10, AVal.int IntKind.i64 (sideZ extent)), (11, AVal.int IntKind.i64 (sideZ gap)), (12, AVal.int IntKind.i64 used)] (AHeap.rows 35 [(0, b), (10, (ABlk.made (out) 1 true))])) (c10 : Runs Try.prog 1 127 (Code.loop (loopAt Try.prog 10 1)) [(0, AVal.slice o n c), (9, AVal.slice (some ⟨10, 0, 0, 0, 1⟩) n n), (10, AVal.int IntKind.i64 (sideZ extent)), (11, AVal.int IntKind.i64 (sideZ gap)), (12, AVal.int IntKind.i64 used), (57, AVal.int IntKind.i64 (↑n : Int)), (58, AVal.int IntKind.i64 (0))] (AHeap.rows 38 [(0, b), (10, (ABlk.made (out) 1 true))]) (AExit.exit 2) [] (AHeap.rows 39 [(0, b), (10, (ABlk.made (out) 1 true))])) :
    FDoes Try.prog 10 [.slice o n c, .int .i64 extent, .int .i64 gap, .int .i8 how] (AHeap.of [b]) (AVal.bool true) (AHeap.rows 40 [(0, b), (10, (ABlk.made (out) 1 true))]) :=
  pcall_does env_ok mixed (hs := [.val 1000 (.bool true), .act 3004 (.slice (some ⟨10, 0, 0, 0, 1⟩) n n) (fun h => h.upd [] [.made out 1 true]), .val 4002 (.bool false), .val 6004 (.bool false), .val 8001 (.int .i64 (sideZ extent)), .val 8003 (.int .i64 (sideZ gap)), .go 9003, .go 9004, .keep [0, 9, 10, 11, 12, 44, 45], .loop [(0, .slice o n c), (9, .slice (some ⟨10, 0, 0, 0, 1⟩) n n), (10, .int .i64 (sideZ extent)), (11, .int .i64 (sideZ gap)), (12, .int .i64 used)] (AHeap.rows 35 [(0, b), (10, .made out 1 true)]) (.exit 0), .keep [0, 9, 10, 11, 12, 57, 58], .loop [] (AHeap.rows 39 [(0, b), (10, .made out 1 true)]) (.exit 2)]) (rs := []) (by kernel_rfl) (All.cons (show CallT Try.prog 21 [] (AHeap.rows 4 [(0, b)]) (AVal.bool true) (AHeap.rows 4 [(0, b)]) from ⟨(works_does _)⟩) (All.cons (show CallT Try.prog 24 [AVal.slice o n c, AVal.int IntKind.i64 extent, AVal.int IntKind.i64 gap, AVal.int IntKind.i8 how] (AHeap.rows 10 [(0, b)]) (AVal.slice (some ⟨10, 0, 0, 0, 1⟩) n n) (AHeap.rows 11 [(0, b), (10, ABlk.made out 1 true)]) from ⟨c1⟩) (All.cons (okF c2) (All.cons (neF c3) (All.cons (show CallT Try.prog 29 [AVal.int IntKind.i64 extent] (AHeap.rows 25 [(0, b), (10, ABlk.made out 1 true)]) (AVal.int IntKind.i64 (sideZ extent)) (AHeap.rows 25 [(0, b), (10, ABlk.made out 1 true)]) from ⟨(lside_does _ _)⟩) (All.cons (show CallT Try.prog 29 [AVal.int IntKind.i64 gap] (AHeap.rows 25 [(0, b), (10, ABlk.made out 1 true)]) (AVal.int IntKind.i64 (sideZ gap)) (AHeap.rows 25 [(0, b), (10, ABlk.made out 1 true)]) from ⟨(lside_does _ _)⟩) (All.cons (show Agree [AVal.int IntKind.i64 extent] [AVal.int IntKind.i64 gap] (AHeap.rows 25 [(0, b), (10, ABlk.made out 1 true)]) (AHeap.rows 25 [(0, b), (10, ABlk.made out 1 true)]) (AVal.int IntKind.i64 (sideZ extent)) (AVal.int IntKind.i64 (sideZ gap)) (AHeap.rows 25 [(0, b), (10, ABlk.made out 1 true)]) (AHeap.rows 25 [(0, b), (10, ABlk.made out 1 true)]) from ⟨by intro hh _; first | (simp at hh; done) | (simp at hh; simp [hh]) | exact ⟨rfl, rfl⟩⟩) (All.cons (c7) (All.cons (c8) (All.cons (c9) (All.cons (c10) (All.nil))))))))))))

theorem wi_none (o : Option AAddr) (c : Nat) (extent gap how used : Int) (b : ABlk) (c1 : FDoes Try.prog 24 [AVal.slice o 0 c, AVal.int IntKind.i64 extent, AVal.int IntKind.i64 gap, AVal.int IntKind.i8 how] (AHeap.rows 10 [(0, b)]) (AVal.slice none 0 0) (AHeap.rows 10 [(0, b)])) (c7 : -9223372036854775808 ≤ -1 ∧ -1 ≤ 9223372036854775807) (c8 : -9223372036854775808 ≤ sideZ gap * ((↑0 : Int) - 1) ∧ sideZ gap * ((↑0 : Int) - 1) ≤ 9223372036854775807) (c9 : Runs Try.prog 1 127 (Code.loop (loopAt Try.prog 10 0)) [(0, AVal.slice o 0 c), (9, AVal.slice none 0 0), (10, AVal.int IntKind.i64 (sideZ extent)), (11, AVal.int IntKind.i64 (sideZ gap)), (12, AVal.int IntKind.i64 (sideZ gap * ((↑0 : Int) - 1))), (44, AVal.int IntKind.i64 (0)), (45, AVal.int IntKind.i64 (0))] (AHeap.rows 33 [(0, b)]) (AExit.exit 0) [(0, AVal.slice o 0 c), (9, AVal.slice none 0 0), (10, AVal.int IntKind.i64 (sideZ extent)), (11, AVal.int IntKind.i64 (sideZ gap)), (12, AVal.int IntKind.i64 used)] (AHeap.rows 34 [(0, b)])) (c10 : Runs Try.prog 1 127 (Code.loop (loopAt Try.prog 10 1)) [(0, AVal.slice o 0 c), (9, AVal.slice none 0 0), (10, AVal.int IntKind.i64 (sideZ extent)), (11, AVal.int IntKind.i64 (sideZ gap)), (12, AVal.int IntKind.i64 used), (57, AVal.int IntKind.i64 (0)), (58, AVal.int IntKind.i64 (0))] (AHeap.rows 37 [(0, b)]) (AExit.exit 2) [] (AHeap.rows 38 [(0, b)])) :
    FDoes Try.prog 10 [.slice o 0 c, .int .i64 extent, .int .i64 gap, .int .i8 how] (AHeap.of [b]) (AVal.bool true) (AHeap.rows 39 [(0, b)]) :=
  pcall_does env_ok mixed (hs := [.val 1000 (.bool true), .val 3004 (.slice none 0 0), .val 4002 (.bool false), .val 6004 (.bool false), .val 8001 (.int .i64 (sideZ extent)), .val 8003 (.int .i64 (sideZ gap)), .go 9003, .go 9004, .keep [0, 9, 10, 11, 12, 44, 45], .loop [(0, .slice o 0 c), (9, .slice none 0 0), (10, .int .i64 (sideZ extent)), (11, .int .i64 (sideZ gap)), (12, .int .i64 used)] (AHeap.rows 34 [(0, b)]) (.exit 0), .keep [0, 9, 10, 11, 12, 57, 58], .loop [] (AHeap.rows 38 [(0, b)]) (.exit 2)]) (rs := []) (by kernel_rfl) (All.cons (show CallT Try.prog 21 [] (AHeap.rows 4 [(0, b)]) (AVal.bool true) (AHeap.rows 4 [(0, b)]) from ⟨(works_does _)⟩) (All.cons (show CallT Try.prog 24 [AVal.slice o 0 c, AVal.int IntKind.i64 extent, AVal.int IntKind.i64 gap, AVal.int IntKind.i8 how] (AHeap.rows 10 [(0, b)]) (AVal.slice none 0 0) (AHeap.rows 10 [(0, b)]) from ⟨c1⟩) (All.cons (show some (AVal.bool false) = some (AVal.bool false) from congrArg (fun q => some (AVal.bool q)) (rfl)) (All.cons (show some (AVal.bool false) = some (AVal.bool false) from congrArg (fun q => some (AVal.bool q)) (rfl)) (All.cons (show CallT Try.prog 29 [AVal.int IntKind.i64 extent] (AHeap.rows 24 [(0, b)]) (AVal.int IntKind.i64 (sideZ extent)) (AHeap.rows 24 [(0, b)]) from ⟨(lside_does _ _)⟩) (All.cons (show CallT Try.prog 29 [AVal.int IntKind.i64 gap] (AHeap.rows 24 [(0, b)]) (AVal.int IntKind.i64 (sideZ gap)) (AHeap.rows 24 [(0, b)]) from ⟨(lside_does _ _)⟩) (All.cons (show Agree [AVal.int IntKind.i64 extent] [AVal.int IntKind.i64 gap] (AHeap.rows 24 [(0, b)]) (AHeap.rows 24 [(0, b)]) (AVal.int IntKind.i64 (sideZ extent)) (AVal.int IntKind.i64 (sideZ gap)) (AHeap.rows 24 [(0, b)]) (AHeap.rows 24 [(0, b)]) from ⟨by intro hh _; first | (simp at hh; done) | (simp at hh; simp [hh]) | exact ⟨rfl, rfl⟩⟩) (All.cons (c7) (All.cons (c8) (All.cons (c9) (All.cons (c10) (All.nil))))))))))))

theorem wi_usedEnd (o : Option AAddr) (n c : Nat) (v9 : AVal) (b : ABlk) (e g used : Int) (i : Nat) (c0 : ¬ ((↑i : Int) < (↑n : Int))) :
    Runs Try.prog 1 127 (loopAt Try.prog 10 0) [(0, .slice o n c), (9, v9), (10, .int .i64 e), (11, .int .i64 g), (12, .int .i64 used), (44, .int .i64 n), (45, .int .i64 i)] (AHeap.rows 33 [(0, b)]) (AExit.exit 0) [(0, AVal.slice o n c), (9, v9), (10, AVal.int IntKind.i64 e), (11, AVal.int IntKind.i64 g), (12, AVal.int IntKind.i64 used)] (AHeap.rows 34 [(0, b)]) :=
  ppath_runs env_ok mixed (hs := [.val 11000 (.bool false)]) (keep := [0, 9, 10, 11, 12]) (by kernel_rfl) (All.cons (okF c0) (All.nil))

theorem wi_end (o : Option AAddr) (n c : Nat) (v9 : AVal) (b : ABlk) (e g used : Int) (i : Nat) (c0 : ¬ ((↑i : Int) < (↑n : Int))) :
    Runs Try.prog 1 127 (loopAt Try.prog 10 1) [(0, .slice o n c), (9, v9), (10, .int .i64 e), (11, .int .i64 g), (12, .int .i64 used), (57, .int .i64 n), (58, .int .i64 i)] (AHeap.rows 37 [(0, b)]) (AExit.exit 2) [] (AHeap.rows 38 [(0, b)]) :=
  ppath_runs env_ok mixed (hs := [.val 16000 (.bool false)]) (keep := []) (by kernel_rfl) (All.cons (okF c0) (All.nil))

theorem wi_usedEndR (o : Option AAddr) (n c : Nat) (v9 : AVal) (b : ABlk) (e g used : Int) (i : Nat) (out : List AVal) (c0 : ¬ ((↑i : Int) < (↑n : Int))) :
    Runs Try.prog 1 127 (loopAt Try.prog 10 0) [(0, .slice o n c), (9, v9), (10, .int .i64 e), (11, .int .i64 g), (12, .int .i64 used), (44, .int .i64 n), (45, .int .i64 i)] (AHeap.rows 34 [(0, b), (10, .made out 1 true)]) (AExit.exit 0) [(0, AVal.slice o n c), (9, v9), (10, AVal.int IntKind.i64 e), (11, AVal.int IntKind.i64 g), (12, AVal.int IntKind.i64 used)] (AHeap.rows 35 [(0, b), (10, (ABlk.made (out) 1 true))]) :=
  ppath_runs env_ok mixed (hs := [.val 11000 (.bool false)]) (keep := [0, 9, 10, 11, 12]) (by kernel_rfl) (All.cons (okF c0) (All.nil))

theorem wi_endR (o : Option AAddr) (n c : Nat) (v9 : AVal) (b : ABlk) (e g used : Int) (i : Nat) (out : List AVal) (c0 : ¬ ((↑i : Int) < (↑n : Int))) :
    Runs Try.prog 1 127 (loopAt Try.prog 10 1) [(0, .slice o n c), (9, v9), (10, .int .i64 e), (11, .int .i64 g), (12, .int .i64 used), (57, .int .i64 n), (58, .int .i64 i)] (AHeap.rows 38 [(0, b), (10, .made out 1 true)]) (AExit.exit 2) [] (AHeap.rows 39 [(0, b), (10, (ABlk.made (out) 1 true))]) :=
  ppath_runs env_ok mixed (hs := [.val 16000 (.bool false)]) (keep := []) (by kernel_rfl) (All.cons (okF c0) (All.nil))

theorem wi_used (o : Option AAddr) (n c ver off : Nat) (v9 : AVal) (b : ABlk) (e g used : Int) (i : Nat) (x : Int) (out : List AVal) (c0 : (↑i : Int) < (↑n : Int)) (c1 : aindexAddr (AEnv.D env) 27 (AVal.slice o n c) (AVal.int IntKind.i64 (↑i : Int)) = some (AVal.ptr (some ⟨0, ver, off + i, 0, 1⟩))) (c2 : ABlk.elem? b ver (off + i) = some (AVal.int IntKind.i64 x)) (c4 : -9223372036854775808 ≤ used + sideZ x ∧ used + sideZ x ≤ 9223372036854775807) (c5 : -9223372036854775808 ≤ (↑i : Int) + 1 ∧ (↑i : Int) + 1 ≤ 9223372036854775807) :
    Runs Try.prog 1 127 (loopAt Try.prog 10 0) [(0, .slice o n c), (9, v9), (10, .int .i64 e), (11, .int .i64 g), (12, .int .i64 used), (44, .int .i64 n), (45, .int .i64 i)] (AHeap.rows 34 [(0, b), (10, .made out 1 true)]) AExit.normal [(0, AVal.slice o n c), (9, v9), (10, AVal.int IntKind.i64 e), (11, AVal.int IntKind.i64 g), (12, AVal.int IntKind.i64 (used + sideZ x)), (44, AVal.int IntKind.i64 (↑n : Int)), (45, AVal.int IntKind.i64 ((↑i : Int) + 1))] (AHeap.rows 47 [(0, b), (10, (ABlk.made (out) 1 true))]) :=
  ppath_runs env_ok mixed (hs := [.val 11000 (.bool true), .val 13003 (.ptr (some ⟨0, ver, off + i, 0, 1⟩)), .ld 13004 (.int .i64 x), .val 13005 (.int .i64 (sideZ x)), .go 13006, .go 14000]) (keep := [0, 9, 10, 11, 12, 44, 45]) (by kernel_rfl) (All.cons (okT c0) (All.cons (c1) (All.cons (c2) (All.cons (show CallT Try.prog 29 [AVal.int IntKind.i64 x] (AHeap.rows 45 [(0, b), (10, (ABlk.made (out) 1 true))]) (AVal.int IntKind.i64 (sideZ x)) (AHeap.rows 45 [(0, b), (10, (ABlk.made (out) 1 true))]) from ⟨(lside_does _ _)⟩) (All.cons (c4) (All.cons (c5) (All.nil)))))))

theorem wi_step1a (o : Option AAddr) (n c ver off : Nat) (b : ABlk) (e g used : Int) (i : Nat) (x y x1 y1 : Int) (out : List AVal) (c0 : (↑i : Int) < (↑n : Int)) (c1 : aindexAddr (AEnv.D env) 27 (AVal.slice o n c) (AVal.int IntKind.i64 (↑i : Int)) = some (AVal.ptr (some ⟨0, ver, off + i, 0, 1⟩))) (c2 : ABlk.elem? b ver (off + i) = some (AVal.int IntKind.i64 x)) (c4 : 0 ≤ (↑i : Int) ∧ (↑i : Int) < (↑n : Int) ∧ 1 = 1) (c5 : ABlk.elem? (ABlk.made (out) 1 true) 0 (0 + Int.toNat (↑i : Int)) = some (AVal.int IntKind.i64 y)) (c6 : ¬ (y < 0)) (c7 : sideZ x ≤ e) (c8 : 0 ≤ (↑i : Int) ∧ (↑i : Int) < (↑n : Int) ∧ 1 = 1) (c9 : ABlk.elem? (ABlk.made (out) 1 true) 0 (0 + Int.toNat (↑i : Int)) = some (AVal.int IntKind.i64 y)) (c10 : -9223372036854775808 ≤ y + sideZ x ∧ y + sideZ x ≤ 9223372036854775807) (c11 : ¬ (y + sideZ x > e)) (c12 : ¬ (sideZ x > e)) (c13 : used ≤ e) (c14 : (↑i : Int) > 0) (c15 : 0 ≤ (↑i : Int) ∧ (↑i : Int) < (↑n : Int) ∧ 1 = 1) (c16 : ABlk.elem? (ABlk.made (out) 1 true) 0 (0 + Int.toNat (↑i : Int)) = some (AVal.int IntKind.i64 y)) (c17 : -9223372036854775808 ≤ (↑i : Int) - 1 ∧ (↑i : Int) - 1 ≤ 9223372036854775807) (c18 : 0 ≤ (↑i : Int) - 1 ∧ (↑i : Int) - 1 < (↑n : Int) ∧ 1 = 1) (c19 : ABlk.elem? (ABlk.made (out) 1 true) 0 (0 + Int.toNat ((↑i : Int) - 1)) = some (AVal.int IntKind.i64 y1)) (c20 : -9223372036854775808 ≤ (↑i : Int) - 1 ∧ (↑i : Int) - 1 ≤ 9223372036854775807) (c21 : aindexAddr (AEnv.D env) 27 (AVal.slice o n c) (AVal.int IntKind.i64 ((↑i : Int) - 1)) = some (AVal.ptr (some ⟨0, ver, off + Int.toNat ((↑i : Int) - 1), 0, 1⟩))) (c22 : ABlk.elem? b ver (off + Int.toNat ((↑i : Int) - 1)) = some (AVal.int IntKind.i64 x1)) (c25 : -9223372036854775808 ≤ y1 + sideZ x1 ∧ y1 + sideZ x1 ≤ 9223372036854775807) (c26 : -9223372036854775808 ≤ y1 + sideZ x1 + g ∧ y1 + sideZ x1 + g ≤ 9223372036854775807) (c27 : ¬ (y < y1 + sideZ x1 + g)) (c28 : -9223372036854775808 ≤ (↑i : Int) + 1 ∧ (↑i : Int) + 1 ≤ 9223372036854775807) :
    Runs Try.prog 1 127 (loopAt Try.prog 10 1) [(0, .slice o n c), (9, .slice (some ⟨10, 0, 0, 0, 1⟩) n n), (10, .int .i64 e), (11, .int .i64 g), (12, .int .i64 used), (57, .int .i64 n), (58, .int .i64 i)] (AHeap.rows 38 [(0, b), (10, .made out 1 true)]) AExit.normal [(0, AVal.slice o n c), (9, AVal.slice (some ⟨10, 0, 0, 0, 1⟩) n n), (10, AVal.int IntKind.i64 e), (11, AVal.int IntKind.i64 g), (12, AVal.int IntKind.i64 used), (57, AVal.int IntKind.i64 (↑n : Int)), (58, AVal.int IntKind.i64 ((↑i : Int) + 1))] (AHeap.rows 109 [(0, b), (10, (ABlk.made (out) 1 true))]) :=
  ppath_runs env_ok mixed (hs := [.val 16000 (.bool true), .val 18002 (.ptr (some ⟨0, ver, off + i, 0, 1⟩)), .ld 18003 (.int .i64 x), .val 18004 (.int .i64 (sideZ x)), .go 19002, .ld 19003 (.int .i64 y), .val 19004 (.bool false), .val 19008 (.bool true), .go 19012, .ld 19013 (.int .i64 y), .go 19015, .val 19017 (.bool false), .val 19023 (.bool false), .val 21002 (.bool true), .val 21005 (.bool true), .go 21010, .ld 21011 (.int .i64 y), .go 21014, .go 21015, .ld 21016 (.int .i64 y1), .go 21019, .val 21020 (.ptr (some ⟨0, ver, off + ((i : Int) - 1).toNat, 0, 1⟩)), .ld 21021 (.int .i64 x1), .val 21022 (.int .i64 (sideZ x1)), .go 21023, .go 21025, .val 21026 (.bool false), .go 23000]) (keep := [0, 9, 10, 11, 12, 57, 58]) (by kernel_rfl) (All.cons (okT c0) (All.cons (c1) (All.cons (c2) (All.cons (show CallT Try.prog 29 [AVal.int IntKind.i64 x] (AHeap.rows 47 [(0, b), (10, (ABlk.made (out) 1 true))]) (AVal.int IntKind.i64 (sideZ x)) (AHeap.rows 47 [(0, b), (10, (ABlk.made (out) 1 true))]) from ⟨(lside_does _ _)⟩) (All.cons (c4) (All.cons (c5) (All.cons (okF c6) (All.cons (okT c7) (All.cons (c8) (All.cons (c9) (All.cons (c10) (All.cons (okF c11) (All.cons (okF c12) (All.cons (okT c13) (All.cons (okT c14) (All.cons (c15) (All.cons (c16) (All.cons (c17) (All.cons (c18) (All.cons (c19) (All.cons (c20) (All.cons (c21) (All.cons (c22) (All.cons (show CallT Try.prog 29 [AVal.int IntKind.i64 x1] (AHeap.rows 107 [(0, b), (10, (ABlk.made (out) 1 true))]) (AVal.int IntKind.i64 (sideZ x1)) (AHeap.rows 107 [(0, b), (10, (ABlk.made (out) 1 true))]) from ⟨(lside_does _ _)⟩) (All.cons (show sameOld 107 (AHeap.rows 107 [(0, b), (10, (ABlk.made (out) 1 true))]) (AHeap.rows 107 [(0, b), (10, (ABlk.made (out) 1 true))]) = true from sameOld_refl _ _) (All.cons (c25) (All.cons (c26) (All.cons (okF c27) (All.cons (c28) (All.nil))))))))))))))))))))))))))))))

theorem wi_step1b (o : Option AAddr) (n c ver off : Nat) (b : ABlk) (e g used : Int) (i : Nat) (x y : Int) (out : List AVal) (c0 : (↑i : Int) < (↑n : Int)) (c1 : aindexAddr (AEnv.D env) 27 (AVal.slice o n c) (AVal.int IntKind.i64 (↑i : Int)) = some (AVal.ptr (some ⟨0, ver, off + i, 0, 1⟩))) (c2 : ABlk.elem? b ver (off + i) = some (AVal.int IntKind.i64 x)) (c4 : 0 ≤ (↑i : Int) ∧ (↑i : Int) < (↑n : Int) ∧ 1 = 1) (c5 : ABlk.elem? (ABlk.made (out) 1 true) 0 (0 + Int.toNat (↑i : Int)) = some (AVal.int IntKind.i64 y)) (c6 : ¬ (y < 0)) (c7 : sideZ x ≤ e) (c8 : 0 ≤ (↑i : Int) ∧ (↑i : Int) < (↑n : Int) ∧ 1 = 1) (c9 : ABlk.elem? (ABlk.made (out) 1 true) 0 (0 + Int.toNat (↑i : Int)) = some (AVal.int IntKind.i64 y)) (c10 : -9223372036854775808 ≤ y + sideZ x ∧ y + sideZ x ≤ 9223372036854775807) (c11 : ¬ (y + sideZ x > e)) (c12 : ¬ (sideZ x > e)) (c13 : used ≤ e) (c14 : ¬ ((↑i : Int) > 0)) (c15 : -9223372036854775808 ≤ (↑i : Int) + 1 ∧ (↑i : Int) + 1 ≤ 9223372036854775807) :
    Runs Try.prog 1 127 (loopAt Try.prog 10 1) [(0, .slice o n c), (9, .slice (some ⟨10, 0, 0, 0, 1⟩) n n), (10, .int .i64 e), (11, .int .i64 g), (12, .int .i64 used), (57, .int .i64 n), (58, .int .i64 i)] (AHeap.rows 38 [(0, b), (10, .made out 1 true)]) AExit.normal [(0, AVal.slice o n c), (9, AVal.slice (some ⟨10, 0, 0, 0, 1⟩) n n), (10, AVal.int IntKind.i64 e), (11, AVal.int IntKind.i64 g), (12, AVal.int IntKind.i64 used), (57, AVal.int IntKind.i64 (↑n : Int)), (58, AVal.int IntKind.i64 ((↑i : Int) + 1))] (AHeap.rows 109 [(0, b), (10, (ABlk.made (out) 1 true))]) :=
  ppath_runs env_ok mixed (hs := [.val 16000 (.bool true), .val 18002 (.ptr (some ⟨0, ver, off + i, 0, 1⟩)), .ld 18003 (.int .i64 x), .val 18004 (.int .i64 (sideZ x)), .go 19002, .ld 19003 (.int .i64 y), .val 19004 (.bool false), .val 19008 (.bool true), .go 19012, .ld 19013 (.int .i64 y), .go 19015, .val 19017 (.bool false), .val 19023 (.bool false), .val 21002 (.bool true), .val 21005 (.bool false), .go 23000]) (keep := [0, 9, 10, 11, 12, 57, 58]) (by kernel_rfl) (All.cons (okT c0) (All.cons (c1) (All.cons (c2) (All.cons (show CallT Try.prog 29 [AVal.int IntKind.i64 x] (AHeap.rows 47 [(0, b), (10, (ABlk.made (out) 1 true))]) (AVal.int IntKind.i64 (sideZ x)) (AHeap.rows 47 [(0, b), (10, (ABlk.made (out) 1 true))]) from ⟨(lside_does _ _)⟩) (All.cons (c4) (All.cons (c5) (All.cons (okF c6) (All.cons (okT c7) (All.cons (c8) (All.cons (c9) (All.cons (c10) (All.cons (okF c11) (All.cons (okF c12) (All.cons (okT c13) (All.cons (okF c14) (All.cons (c15) (All.nil)))))))))))))))))

theorem wi_step1c (o : Option AAddr) (n c ver off : Nat) (b : ABlk) (e g used : Int) (i : Nat) (x y : Int) (out : List AVal) (c0 : (↑i : Int) < (↑n : Int)) (c1 : aindexAddr (AEnv.D env) 27 (AVal.slice o n c) (AVal.int IntKind.i64 (↑i : Int)) = some (AVal.ptr (some ⟨0, ver, off + i, 0, 1⟩))) (c2 : ABlk.elem? b ver (off + i) = some (AVal.int IntKind.i64 x)) (c4 : 0 ≤ (↑i : Int) ∧ (↑i : Int) < (↑n : Int) ∧ 1 = 1) (c5 : ABlk.elem? (ABlk.made (out) 1 true) 0 (0 + Int.toNat (↑i : Int)) = some (AVal.int IntKind.i64 y)) (c6 : ¬ (y < 0)) (c7 : sideZ x ≤ e) (c8 : 0 ≤ (↑i : Int) ∧ (↑i : Int) < (↑n : Int) ∧ 1 = 1) (c9 : ABlk.elem? (ABlk.made (out) 1 true) 0 (0 + Int.toNat (↑i : Int)) = some (AVal.int IntKind.i64 y)) (c10 : -9223372036854775808 ≤ y + sideZ x ∧ y + sideZ x ≤ 9223372036854775807) (c11 : ¬ (y + sideZ x > e)) (c12 : ¬ (sideZ x > e)) (c13 : ¬ (used ≤ e)) (c14 : -9223372036854775808 ≤ (↑i : Int) + 1 ∧ (↑i : Int) + 1 ≤ 9223372036854775807) :
    Runs Try.prog 1 127 (loopAt Try.prog 10 1) [(0, .slice o n c), (9, .slice (some ⟨10, 0, 0, 0, 1⟩) n n), (10, .int .i64 e), (11, .int .i64 g), (12, .int .i64 used), (57, .int .i64 n), (58, .int .i64 i)] (AHeap.rows 38 [(0, b), (10, .made out 1 true)]) AExit.normal [(0, AVal.slice o n c), (9, AVal.slice (some ⟨10, 0, 0, 0, 1⟩) n n), (10, AVal.int IntKind.i64 e), (11, AVal.int IntKind.i64 g), (12, AVal.int IntKind.i64 used), (57, AVal.int IntKind.i64 (↑n : Int)), (58, AVal.int IntKind.i64 ((↑i : Int) + 1))] (AHeap.rows 109 [(0, b), (10, (ABlk.made (out) 1 true))]) :=
  ppath_runs env_ok mixed (hs := [.val 16000 (.bool true), .val 18002 (.ptr (some ⟨0, ver, off + i, 0, 1⟩)), .ld 18003 (.int .i64 x), .val 18004 (.int .i64 (sideZ x)), .go 19002, .ld 19003 (.int .i64 y), .val 19004 (.bool false), .val 19008 (.bool true), .go 19012, .ld 19013 (.int .i64 y), .go 19015, .val 19017 (.bool false), .val 19023 (.bool false), .val 21002 (.bool false), .go 23000]) (keep := [0, 9, 10, 11, 12, 57, 58]) (by kernel_rfl) (All.cons (okT c0) (All.cons (c1) (All.cons (c2) (All.cons (show CallT Try.prog 29 [AVal.int IntKind.i64 x] (AHeap.rows 47 [(0, b), (10, (ABlk.made (out) 1 true))]) (AVal.int IntKind.i64 (sideZ x)) (AHeap.rows 47 [(0, b), (10, (ABlk.made (out) 1 true))]) from ⟨(lside_does _ _)⟩) (All.cons (c4) (All.cons (c5) (All.cons (okF c6) (All.cons (okT c7) (All.cons (c8) (All.cons (c9) (All.cons (c10) (All.cons (okF c11) (All.cons (okF c12) (All.cons (okF c13) (All.cons (c14) (All.nil))))))))))))))))

theorem wi_step2a (o : Option AAddr) (n c ver off : Nat) (b : ABlk) (e g used : Int) (i : Nat) (x y x1 y1 : Int) (out : List AVal) (c0 : (↑i : Int) < (↑n : Int)) (c1 : aindexAddr (AEnv.D env) 27 (AVal.slice o n c) (AVal.int IntKind.i64 (↑i : Int)) = some (AVal.ptr (some ⟨0, ver, off + i, 0, 1⟩))) (c2 : ABlk.elem? b ver (off + i) = some (AVal.int IntKind.i64 x)) (c4 : 0 ≤ (↑i : Int) ∧ (↑i : Int) < (↑n : Int) ∧ 1 = 1) (c5 : ABlk.elem? (ABlk.made (out) 1 true) 0 (0 + Int.toNat (↑i : Int)) = some (AVal.int IntKind.i64 y)) (c6 : ¬ (y < 0)) (c7 : ¬ (sideZ x ≤ e)) (c8 : sideZ x > e) (c9 : 0 ≤ (↑i : Int) ∧ (↑i : Int) < (↑n : Int) ∧ 1 = 1) (c10 : ABlk.elem? (ABlk.made (out) 1 true) 0 (0 + Int.toNat (↑i : Int)) = some (AVal.int IntKind.i64 y)) (c11 : y = 0) (c12 : used ≤ e) (c13 : (↑i : Int) > 0) (c14 : 0 ≤ (↑i : Int) ∧ (↑i : Int) < (↑n : Int) ∧ 1 = 1) (c15 : ABlk.elem? (ABlk.made (out) 1 true) 0 (0 + Int.toNat (↑i : Int)) = some (AVal.int IntKind.i64 y)) (c16 : -9223372036854775808 ≤ (↑i : Int) - 1 ∧ (↑i : Int) - 1 ≤ 9223372036854775807) (c17 : 0 ≤ (↑i : Int) - 1 ∧ (↑i : Int) - 1 < (↑n : Int) ∧ 1 = 1) (c18 : ABlk.elem? (ABlk.made (out) 1 true) 0 (0 + Int.toNat ((↑i : Int) - 1)) = some (AVal.int IntKind.i64 y1)) (c19 : -9223372036854775808 ≤ (↑i : Int) - 1 ∧ (↑i : Int) - 1 ≤ 9223372036854775807) (c20 : aindexAddr (AEnv.D env) 27 (AVal.slice o n c) (AVal.int IntKind.i64 ((↑i : Int) - 1)) = some (AVal.ptr (some ⟨0, ver, off + Int.toNat ((↑i : Int) - 1), 0, 1⟩))) (c21 : ABlk.elem? b ver (off + Int.toNat ((↑i : Int) - 1)) = some (AVal.int IntKind.i64 x1)) (c24 : -9223372036854775808 ≤ y1 + sideZ x1 ∧ y1 + sideZ x1 ≤ 9223372036854775807) (c25 : -9223372036854775808 ≤ y1 + sideZ x1 + g ∧ y1 + sideZ x1 + g ≤ 9223372036854775807) (c26 : ¬ (y < y1 + sideZ x1 + g)) (c27 : -9223372036854775808 ≤ (↑i : Int) + 1 ∧ (↑i : Int) + 1 ≤ 9223372036854775807) :
    Runs Try.prog 1 127 (loopAt Try.prog 10 1) [(0, .slice o n c), (9, .slice (some ⟨10, 0, 0, 0, 1⟩) n n), (10, .int .i64 e), (11, .int .i64 g), (12, .int .i64 used), (57, .int .i64 n), (58, .int .i64 i)] (AHeap.rows 38 [(0, b), (10, .made out 1 true)]) AExit.normal [(0, AVal.slice o n c), (9, AVal.slice (some ⟨10, 0, 0, 0, 1⟩) n n), (10, AVal.int IntKind.i64 e), (11, AVal.int IntKind.i64 g), (12, AVal.int IntKind.i64 used), (57, AVal.int IntKind.i64 (↑n : Int)), (58, AVal.int IntKind.i64 ((↑i : Int) + 1))] (AHeap.rows 109 [(0, b), (10, (ABlk.made (out) 1 true))]) :=
  ppath_runs env_ok mixed (hs := [.val 16000 (.bool true), .val 18002 (.ptr (some ⟨0, ver, off + i, 0, 1⟩)), .ld 18003 (.int .i64 x), .val 18004 (.int .i64 (sideZ x)), .go 19002, .ld 19003 (.int .i64 y), .val 19004 (.bool false), .val 19008 (.bool false), .val 19023 (.bool true), .go 19027, .ld 19028 (.int .i64 y), .val 19029 (.bool false), .val 21002 (.bool true), .val 21005 (.bool true), .go 21010, .ld 21011 (.int .i64 y), .go 21014, .go 21015, .ld 21016 (.int .i64 y1), .go 21019, .val 21020 (.ptr (some ⟨0, ver, off + ((i : Int) - 1).toNat, 0, 1⟩)), .ld 21021 (.int .i64 x1), .val 21022 (.int .i64 (sideZ x1)), .go 21023, .go 21025, .val 21026 (.bool false), .go 23000]) (keep := [0, 9, 10, 11, 12, 57, 58]) (by kernel_rfl) (All.cons (okT c0) (All.cons (c1) (All.cons (c2) (All.cons (show CallT Try.prog 29 [AVal.int IntKind.i64 x] (AHeap.rows 47 [(0, b), (10, (ABlk.made (out) 1 true))]) (AVal.int IntKind.i64 (sideZ x)) (AHeap.rows 47 [(0, b), (10, (ABlk.made (out) 1 true))]) from ⟨(lside_does _ _)⟩) (All.cons (c4) (All.cons (c5) (All.cons (okF c6) (All.cons (okF c7) (All.cons (okT c8) (All.cons (c9) (All.cons (c10) (All.cons (neF c11) (All.cons (okT c12) (All.cons (okT c13) (All.cons (c14) (All.cons (c15) (All.cons (c16) (All.cons (c17) (All.cons (c18) (All.cons (c19) (All.cons (c20) (All.cons (c21) (All.cons (show CallT Try.prog 29 [AVal.int IntKind.i64 x1] (AHeap.rows 107 [(0, b), (10, (ABlk.made (out) 1 true))]) (AVal.int IntKind.i64 (sideZ x1)) (AHeap.rows 107 [(0, b), (10, (ABlk.made (out) 1 true))]) from ⟨(lside_does _ _)⟩) (All.cons (show sameOld 107 (AHeap.rows 107 [(0, b), (10, (ABlk.made (out) 1 true))]) (AHeap.rows 107 [(0, b), (10, (ABlk.made (out) 1 true))]) = true from sameOld_refl _ _) (All.cons (c24) (All.cons (c25) (All.cons (okF c26) (All.cons (c27) (All.nil)))))))))))))))))))))))))))))

theorem wi_step2b (o : Option AAddr) (n c ver off : Nat) (b : ABlk) (e g used : Int) (i : Nat) (x y : Int) (out : List AVal) (c0 : (↑i : Int) < (↑n : Int)) (c1 : aindexAddr (AEnv.D env) 27 (AVal.slice o n c) (AVal.int IntKind.i64 (↑i : Int)) = some (AVal.ptr (some ⟨0, ver, off + i, 0, 1⟩))) (c2 : ABlk.elem? b ver (off + i) = some (AVal.int IntKind.i64 x)) (c4 : 0 ≤ (↑i : Int) ∧ (↑i : Int) < (↑n : Int) ∧ 1 = 1) (c5 : ABlk.elem? (ABlk.made (out) 1 true) 0 (0 + Int.toNat (↑i : Int)) = some (AVal.int IntKind.i64 y)) (c6 : ¬ (y < 0)) (c7 : ¬ (sideZ x ≤ e)) (c8 : sideZ x > e) (c9 : 0 ≤ (↑i : Int) ∧ (↑i : Int) < (↑n : Int) ∧ 1 = 1) (c10 : ABlk.elem? (ABlk.made (out) 1 true) 0 (0 + Int.toNat (↑i : Int)) = some (AVal.int IntKind.i64 y)) (c11 : y = 0) (c12 : used ≤ e) (c13 : ¬ ((↑i : Int) > 0)) (c14 : -9223372036854775808 ≤ (↑i : Int) + 1 ∧ (↑i : Int) + 1 ≤ 9223372036854775807) :
    Runs Try.prog 1 127 (loopAt Try.prog 10 1) [(0, .slice o n c), (9, .slice (some ⟨10, 0, 0, 0, 1⟩) n n), (10, .int .i64 e), (11, .int .i64 g), (12, .int .i64 used), (57, .int .i64 n), (58, .int .i64 i)] (AHeap.rows 38 [(0, b), (10, .made out 1 true)]) AExit.normal [(0, AVal.slice o n c), (9, AVal.slice (some ⟨10, 0, 0, 0, 1⟩) n n), (10, AVal.int IntKind.i64 e), (11, AVal.int IntKind.i64 g), (12, AVal.int IntKind.i64 used), (57, AVal.int IntKind.i64 (↑n : Int)), (58, AVal.int IntKind.i64 ((↑i : Int) + 1))] (AHeap.rows 109 [(0, b), (10, (ABlk.made (out) 1 true))]) :=
  ppath_runs env_ok mixed (hs := [.val 16000 (.bool true), .val 18002 (.ptr (some ⟨0, ver, off + i, 0, 1⟩)), .ld 18003 (.int .i64 x), .val 18004 (.int .i64 (sideZ x)), .go 19002, .ld 19003 (.int .i64 y), .val 19004 (.bool false), .val 19008 (.bool false), .val 19023 (.bool true), .go 19027, .ld 19028 (.int .i64 y), .val 19029 (.bool false), .val 21002 (.bool true), .val 21005 (.bool false), .go 23000]) (keep := [0, 9, 10, 11, 12, 57, 58]) (by kernel_rfl) (All.cons (okT c0) (All.cons (c1) (All.cons (c2) (All.cons (show CallT Try.prog 29 [AVal.int IntKind.i64 x] (AHeap.rows 47 [(0, b), (10, (ABlk.made (out) 1 true))]) (AVal.int IntKind.i64 (sideZ x)) (AHeap.rows 47 [(0, b), (10, (ABlk.made (out) 1 true))]) from ⟨(lside_does _ _)⟩) (All.cons (c4) (All.cons (c5) (All.cons (okF c6) (All.cons (okF c7) (All.cons (okT c8) (All.cons (c9) (All.cons (c10) (All.cons (neF c11) (All.cons (okT c12) (All.cons (okF c13) (All.cons (c14) (All.nil))))))))))))))))

theorem wi_step2c (o : Option AAddr) (n c ver off : Nat) (b : ABlk) (e g used : Int) (i : Nat) (x y : Int) (out : List AVal) (c0 : (↑i : Int) < (↑n : Int)) (c1 : aindexAddr (AEnv.D env) 27 (AVal.slice o n c) (AVal.int IntKind.i64 (↑i : Int)) = some (AVal.ptr (some ⟨0, ver, off + i, 0, 1⟩))) (c2 : ABlk.elem? b ver (off + i) = some (AVal.int IntKind.i64 x)) (c4 : 0 ≤ (↑i : Int) ∧ (↑i : Int) < (↑n : Int) ∧ 1 = 1) (c5 : ABlk.elem? (ABlk.made (out) 1 true) 0 (0 + Int.toNat (↑i : Int)) = some (AVal.int IntKind.i64 y)) (c6 : ¬ (y < 0)) (c7 : ¬ (sideZ x ≤ e)) (c8 : sideZ x > e) (c9 : 0 ≤ (↑i : Int) ∧ (↑i : Int) < (↑n : Int) ∧ 1 = 1) (c10 : ABlk.elem? (ABlk.made (out) 1 true) 0 (0 + Int.toNat (↑i : Int)) = some (AVal.int IntKind.i64 y)) (c11 : y = 0) (c12 : ¬ (used ≤ e)) (c13 : -9223372036854775808 ≤ (↑i : Int) + 1 ∧ (↑i : Int) + 1 ≤ 9223372036854775807) :
    Runs Try.prog 1 127 (loopAt Try.prog 10 1) [(0, .slice o n c), (9, .slice (some ⟨10, 0, 0, 0, 1⟩) n n), (10, .int .i64 e), (11, .int .i64 g), (12, .int .i64 used), (57, .int .i64 n), (58, .int .i64 i)] (AHeap.rows 38 [(0, b), (10, .made out 1 true)]) AExit.normal [(0, AVal.slice o n c), (9, AVal.slice (some ⟨10, 0, 0, 0, 1⟩) n n), (10, AVal.int IntKind.i64 e), (11, AVal.int IntKind.i64 g), (12, AVal.int IntKind.i64 used), (57, AVal.int IntKind.i64 (↑n : Int)), (58, AVal.int IntKind.i64 ((↑i : Int) + 1))] (AHeap.rows 109 [(0, b), (10, (ABlk.made (out) 1 true))]) :=
  ppath_runs env_ok mixed (hs := [.val 16000 (.bool true), .val 18002 (.ptr (some ⟨0, ver, off + i, 0, 1⟩)), .ld 18003 (.int .i64 x), .val 18004 (.int .i64 (sideZ x)), .go 19002, .ld 19003 (.int .i64 y), .val 19004 (.bool false), .val 19008 (.bool false), .val 19023 (.bool true), .go 19027, .ld 19028 (.int .i64 y), .val 19029 (.bool false), .val 21002 (.bool false), .go 23000]) (keep := [0, 9, 10, 11, 12, 57, 58]) (by kernel_rfl) (All.cons (okT c0) (All.cons (c1) (All.cons (c2) (All.cons (show CallT Try.prog 29 [AVal.int IntKind.i64 x] (AHeap.rows 47 [(0, b), (10, (ABlk.made (out) 1 true))]) (AVal.int IntKind.i64 (sideZ x)) (AHeap.rows 47 [(0, b), (10, (ABlk.made (out) 1 true))]) from ⟨(lside_does _ _)⟩) (All.cons (c4) (All.cons (c5) (All.cons (okF c6) (All.cons (okF c7) (All.cons (okT c8) (All.cons (c9) (All.cons (c10) (All.cons (neF c11) (All.cons (okF c12) (All.cons (c13) (All.nil)))))))))))))))

/-! what lies where -/

theorem aheadZ_eq (x : Nat → Int) (gap : Int) : ∀ i : Nat, aheadZ x gap i = sumTo (fun j => sideZ (x j)) i + sideZ gap * i
  | 0 => by simp [aheadZ, sumTo]
  | i + 1 => by
    have h := aheadZ_eq x gap i
    unfold aheadZ at h ⊢
    simp only [sumTo, h]
    push_cast
    rw [Int.mul_add]
    omega

theorem sumTo_mono {f : Nat → Int} (h : ∀ j, 0 ≤ f j) {i : Nat} : ∀ {n : Nat}, i ≤ n → sumTo f i ≤ sumTo f n
  | 0, k => by obtain rfl : i = 0 := by omega
               omega
  | n + 1, k => by
    by_cases e : i = n + 1
    · subst e; omega
    · have := sumTo_mono h (i := i) (n := n) (by omega)
      have := h n
      simp only [sumTo]; omega

theorem wayZ_le {free : Int} (h0 : 0 ≤ free) {n : Nat} (how : Int) {i : Nat} (hi : i < n) : wayZ free n how i ≤ free := by
  unfold wayZ
  split
  · omega
  split
  · exact (tdiv_range h0 (Int.le_refl _) (by omega)).2
  split
  · rw [Int.tdiv_eq_ediv_of_nonneg (Int.mul_nonneg h0 (by omega))]
    refine Int.ediv_le_of_le_mul (by omega) (Int.mul_le_mul_of_nonneg_left (by omega) h0)
  split
  · rw [Int.tdiv_eq_ediv_of_nonneg (Int.mul_nonneg h0 (by omega))]
    refine Int.ediv_le_of_le_mul (by omega) (Int.mul_le_mul_of_nonneg_left (by omega) h0)
  · exact h0

theorem wayZ_mono {free : Int} (h0 : 0 ≤ free) {n : Nat} (how : Int) {i j : Nat} (hij : i ≤ j) (hj : j < n) : wayZ free n how i ≤ wayZ free n how j := by
  unfold wayZ
  split
  · omega
  split
  · omega
  split
  · rw [Int.tdiv_eq_ediv_of_nonneg (Int.mul_nonneg h0 (by omega)), Int.tdiv_eq_ediv_of_nonneg (Int.mul_nonneg h0 (by omega))]
    exact Int.ediv_le_ediv (by omega) (Int.mul_le_mul_of_nonneg_left (by omega) h0)
  split
  · rw [Int.tdiv_eq_ediv_of_nonneg (Int.mul_nonneg h0 (by omega)), Int.tdiv_eq_ediv_of_nonneg (Int.mul_nonneg h0 (by omega))]
    exact Int.ediv_le_ediv (by omega) (Int.mul_le_mul_of_nonneg_left (by omega) h0)
  · omega

/-- where all fit, thing i begins where it would, and the way on -/
theorem place_fits (x : Nat → Int) (extent gap how : Int) {n i : Nat} (hi : i < n) (hn : n ≤ 4096) (hu : usedZ x gap n ≤ sideZ extent) : placeZ x extent gap how n i = aheadZ x gap i + wayZ (freeZ x extent gap n) n how i ∧ 0 ≤ wayZ (freeZ x extent gap n) n how i := by
  have hf := freeZ_range x extent gap (n := n) (by omega) hn
  have w1 := wayZ_le hf.1 how hi
  have w0 := (wayZ_range hf.1 hf.2 how hi hn).1
  have hm := sumTo_mono (f := fun j => sideZ (x j)) (fun j => (sideZ_range (x j)).1) (i := i + 1) (n := n) (by omega)
  have hg : sideZ gap * i ≤ sideZ gap * ((n : Int) - 1) := Int.mul_le_mul_of_nonneg_left (by omega) (sideZ_range gap).1
  have hg0 : 0 ≤ sideZ gap * i := Int.mul_nonneg (sideZ_range gap).1 (by omega)
  have h0 := (sumTo_range (f := fun j => sideZ (x j)) (fun j => sideZ_range (x j)) i).1
  simp only [sumTo] at hm
  have e := aheadZ_eq x gap i
  refine ⟨?_, w0⟩
  unfold placeZ
  have : freeZ x extent gap n = sideZ extent - usedZ x gap n := by unfold freeZ; omega
  unfold usedZ at hu this
  omega

theorem place_next (x : Nat → Int) (extent gap how : Int) {n i : Nat} (hi : i + 1 < n) (hn : n ≤ 4096) (hu : usedZ x gap n ≤ sideZ extent) : placeZ x extent gap how n i + sideZ (x i) + sideZ gap ≤ placeZ x extent gap how n (i + 1) := by
  have h1 := place_fits x extent gap how (i := i) (by omega) hn hu
  have h2 := place_fits x extent gap how hi hn hu
  have hf := freeZ_range x extent gap (n := n) (by omega) hn
  have hw := wayZ_mono hf.1 how (show i ≤ i + 1 by omega) hi
  rw [h1.1, h2.1]
  have : aheadZ x gap (i + 1) = aheadZ x gap i + (sideZ (x i) + sideZ gap) := rfl
  omega

theorem wi_used_loop {o : Option AAddr} {n c ver off : Nat} {b : ABlk} (hs : SlArg o n c 0 ver off 1) (hb : BareB b) {x : Nat → Int} (hx : ∀ j, j < n → b.elem? ver (off + j) = some (.int .i64 (x j))) (hn : n ≤ 4096) (v9 : AVal) (hv : Clo (Ids [0, 10]) v9) (extent gap u : Int) (hu : 0 ≤ u ∧ u ≤ 16777216) (out : List AVal) (ho : ∀ e ∈ out, Bare e) :
    ∀ (k i : Nat), i + k = n → Loops Try.prog 1 127 (loopAt Try.prog 10 0) [(0, .slice o n c), (9, v9), (10, .int .i64 (sideZ extent)), (11, .int .i64 (sideZ gap)), (12, .int .i64 (u + sumTo (fun j => sideZ (x j)) i)), (44, .int .i64 n), (45, .int .i64 i)] (AHeap.rows 34 [(0, b), (10, .made out 1 true)])
      (.exit 0) [(0, .slice o n c), (9, v9), (10, .int .i64 (sideZ extent)), (11, .int .i64 (sideZ gap)), (12, .int .i64 (u + sumTo (fun j => sideZ (x j)) n))] (AHeap.rows 35 [(0, b), (10, .made out 1 true)])
  | 0, i, hi => by
    obtain rfl : i = n := by omega
    exact Loops.last (by simp) (wi_usedEndR o i c v9 b _ _ _ i out (by omega))
  | k + 1, i, hi => by
    have hr := sumTo_range (f := fun j => sideZ (x j)) (fun j => sideZ_range (x j)) i
    have hxi := sideZ_range (x i)
    have hc : Clo (Ids [0, 10]) (.slice o n c) := hs.clo (by simp [Ids])
    have ih := wi_used_loop hs hb hx hn v9 hv extent gap u hu out ho k (i + 1) (by omega)
    rw [show u + sumTo (fun j => sideZ (x j)) (i + 1) = u + sumTo (fun j => sideZ (x j)) i + sideZ (x i) by simp only [sumTo]; omega] at ih
    refine Loops.round (wi_used o n c ver off v9 b _ _ _ i (x i) out (by omega) (ix_intN hs (by omega)) (hx i (by omega)) (by omega) (by omega)) ?_ ih
    exact Ent.drop (by kernel_rfl) (by kernel_rfl) (by kernel_rfl) (by kernel_rfl) (by simp [All_cons, All_nil, Clo, hc, hv]) (by simp only [List.map, All_cons, All_nil, and_true]; exact ⟨hb.clo _, fun e he => (ho e he).clo _⟩)

theorem wi_loop {o : Option AAddr} {n c ver off : Nat} {b : ABlk} (hs : SlArg o n c 0 ver off 1) (hb : BareB b) {x : Nat → Int} (hx : ∀ j, j < n → b.elem? ver (off + j) = some (.int .i64 (x j))) (hn : n ≤ 4096) (extent gap how : Int) :
    ∀ (k i : Nat), i + k = n → Loops Try.prog 1 127 (loopAt Try.prog 10 1) [(0, .slice o n c), (9, .slice (some ⟨10, 0, 0, 0, 1⟩) n n), (10, .int .i64 (sideZ extent)), (11, .int .i64 (sideZ gap)), (12, .int .i64 (usedZ x gap n)), (57, .int .i64 n), (58, .int .i64 i)] (AHeap.rows 38 [(0, b), (10, .made (ints n (placeZ x extent gap how n)) 1 true)])
      (.exit 2) [] (AHeap.rows 39 [(0, b), (10, .made (ints n (placeZ x extent gap how n)) 1 true)])
  | 0, i, hi => by
    obtain rfl : i = n := by omega
    exact Loops.last (by simp) (wi_endR o i c _ b _ _ _ i _ (by omega))
  | k + 1, i, hi => by
    have hxi := sideZ_range (x i)
    have hg := sideZ_range gap
    have he := sideZ_range extent
    have hur := usedZ_range x gap (n := n) (by omega) hn
    have hc : Clo (Ids [0, 10]) (.slice o n c) := hs.clo (by simp [Ids])
    have hp0 : 0 ≤ placeZ x extent gap how n i ∧ placeZ x extent gap how n i ≤ 4096 := by unfold placeZ; omega
    have hg1 : (ABlk.made (ints n (placeZ x extent gap how n)) 1 true).elem? 0 (0 + Int.toNat (i : Int)) = some (.int .i64 (placeZ x extent gap how n i)) := by
      rw [show 0 + Int.toNat (i : Int) = i by simp]; exact elem_made (ints_get (by omega))
    have dr : ∀ K l, (AHeap.rows K l) = (AHeap.rows K l) := fun _ _ => rfl
    have step : Runs Try.prog 1 127 (loopAt Try.prog 10 1) [(0, .slice o n c), (9, .slice (some ⟨10, 0, 0, 0, 1⟩) n n), (10, .int .i64 (sideZ extent)), (11, .int .i64 (sideZ gap)), (12, .int .i64 (usedZ x gap n)), (57, .int .i64 n), (58, .int .i64 i)] (AHeap.rows 38 [(0, b), (10, .made (ints n (placeZ x extent gap how n)) 1 true)])
        .normal [(0, .slice o n c), (9, .slice (some ⟨10, 0, 0, 0, 1⟩) n n), (10, .int .i64 (sideZ extent)), (11, .int .i64 (sideZ gap)), (12, .int .i64 (usedZ x gap n)), (57, .int .i64 n), (58, .int .i64 ((i + 1 : Nat) : Int))] (AHeap.rows 38 [(0, b), (10, .made (ints n (placeZ x extent gap how n)) 1 true)]) := by
      have dp : ∀ K, (List.map (fun p => (AHeap.rows K [(0, b), (10, ABlk.made (ints n (placeZ x extent gap how n)) 1 true)]).get p.1) [(0, b), (10, ABlk.made (ints n (placeZ x extent gap how n)) 1 true)]) = List.map (fun p => some p.2) [(0, b), (10, ABlk.made (ints n (placeZ x extent gap how n)) 1 true)] := fun K => by kernel_rfl
      have fin : ∀ K, Ent 1 127 [(0, .slice o n c), (9, .slice (some ⟨10, 0, 0, 0, 1⟩) n n), (10, .int .i64 (sideZ extent)), (11, .int .i64 (sideZ gap)), (12, .int .i64 (usedZ x gap n)), (57, .int .i64 n), (58, .int .i64 ((i + 1 : Nat) : Int))] (AHeap.rows K [(0, b), (10, .made (ints n (placeZ x extent gap how n)) 1 true)]) [(0, .slice o n c), (9, .slice (some ⟨10, 0, 0, 0, 1⟩) n n), (10, .int .i64 (sideZ extent)), (11, .int .i64 (sideZ gap)), (12, .int .i64 (usedZ x gap n)), (57, .int .i64 n), (58, .int .i64 ((i + 1 : Nat) : Int))] (AHeap.rows 38 [(0, b), (10, .made (ints n (placeZ x extent gap how n)) 1 true)]) := fun K =>
        Ent.drop (dp K) (by kernel_rfl) (by kernel_rfl) (by kernel_rfl) (by simp [All_cons, All_nil, Clo, hc]; simp [Ids]) (by simp only [List.map, All_cons, All_nil, and_true]; exact ⟨hb.clo _, fun e he => (ints_bare _ _ e he).clo _⟩)
      by_cases c1 : sideZ (x i) ≤ sideZ extent
      · have q1 : placeZ x extent gap how n i + sideZ (x i) ≤ sideZ extent := by unfold placeZ; omega
        by_cases c2 : usedZ x gap n ≤ sideZ extent
        · by_cases c3 : 0 < i
          · obtain ⟨j, rfl⟩ : ∃ j, i = j + 1 := ⟨i - 1, by omega⟩
            have hpn := place_next x extent gap how (i := j) (n := n) (by omega) hn c2
            have hxj := sideZ_range (x j)
            have hpj : 0 ≤ placeZ x extent gap how n j ∧ placeZ x extent gap how n j ≤ 4096 := by unfold placeZ; omega
            have ej : Int.toNat (((j + 1 : Nat) : Int) - 1) = j := by omega
            exact (wi_step1a o n c ver off b _ _ _ (j + 1) (x (j + 1)) _ (x j) (placeZ x extent gap how n j) _ (by omega) (ix_intN hs (by omega)) (hx _ (by omega)) (by omega) hg1 (by omega) c1 (by omega) hg1 (by omega) (by omega) (by omega) c2 (by omega) (by omega) hg1 (by omega) (by omega)
              (by rw [ej, Nat.zero_add]; exact elem_made (ints_get (by omega))) (by omega) (ix_int hs (by omega) (by omega)) (by rw [ej]; exact hx j (by omega)) (by omega) (by omega) (by omega) (by omega)).post (fin _)
          · exact (wi_step1b o n c ver off b _ _ _ i (x i) _ _ (by omega) (ix_intN hs (by omega)) (hx i (by omega)) (by omega) hg1 (by omega) c1 (by omega) hg1 (by omega) (by omega) (by omega) c2 (by omega) (by omega)).post (fin _)
        · exact (wi_step1c o n c ver off b _ _ _ i (x i) _ _ (by omega) (ix_intN hs (by omega)) (hx i (by omega)) (by omega) hg1 (by omega) c1 (by omega) hg1 (by omega) (by omega) (by omega) c2 (by omega)).post (fin _)
      · have q1 : placeZ x extent gap how n i = 0 := by unfold placeZ; omega
        by_cases c2 : usedZ x gap n ≤ sideZ extent
        · by_cases c3 : 0 < i
          · obtain ⟨j, rfl⟩ : ∃ j, i = j + 1 := ⟨i - 1, by omega⟩
            have hpn := place_next x extent gap how (i := j) (n := n) (by omega) hn c2
            have hxj := sideZ_range (x j)
            have hpj : 0 ≤ placeZ x extent gap how n j ∧ placeZ x extent gap how n j ≤ 4096 := by unfold placeZ; omega
            have ej : Int.toNat (((j + 1 : Nat) : Int) - 1) = j := by omega
            exact (wi_step2a o n c ver off b _ _ _ (j + 1) (x (j + 1)) _ (x j) (placeZ x extent gap how n j) _ (by omega) (ix_intN hs (by omega)) (hx _ (by omega)) (by omega) hg1 (by omega) c1 (by omega) (by omega) hg1 q1 c2 (by omega) (by omega) hg1 (by omega) (by omega)
              (by rw [ej, Nat.zero_add]; exact elem_made (ints_get (by omega))) (by omega) (ix_int hs (by omega) (by omega)) (by rw [ej]; exact hx j (by omega)) (by omega) (by omega) (by omega) (by omega)).post (fin _)
          · exact (wi_step2b o n c ver off b _ _ _ i (x i) _ _ (by omega) (ix_intN hs (by omega)) (hx i (by omega)) (by omega) hg1 (by omega) c1 (by omega) (by omega) hg1 q1 c2 (by omega) (by omega)).post (fin _)
        · exact (wi_step2c o n c ver off b _ _ _ i (x i) _ _ (by omega) (ix_intN hs (by omega)) (hx i (by omega)) (by omega) hg1 (by omega) c1 (by omega) (by omega) hg1 q1 c2 (by omega)).post (fin _)
    exact Loops.step step (wi_loop hs hb hx hn extent gap how k (i + 1) (by omega))

/-- the law -/
theorem within_law {o : Option AAddr} {n c ver off : Nat} {b : ABlk} (hs : SlArg o n c 0 ver off 1) (hb : BareB b) {x : Nat → Int} (hx : ∀ j, j < n → b.elem? ver (off + j) = some (.int .i64 (x j))) (extent gap how : Int) (hh : -128 ≤ how ∧ how ≤ 127) :
    ∃ h', FDoes Try.prog 10 [.slice o n c, .int .i64 extent, .int .i64 gap, .int .i8 how] (AHeap.of [b]) (.bool true) h' := by
  have g := sideZ_range gap
  by_cases c1 : 4096 < n
  · exact ⟨_, wi_many o n c extent gap how b (places_nil hs hb (.inr c1) extent gap how (by kernel_rfl) (by rw [AHeap.rows_next]; omega)) (by omega)⟩
  by_cases c2 : n = 0
  · subst c2
    refine ⟨_, wi_none o c extent gap how (sideZ gap * (0 - 1)) b (places_nil hs hb (.inl rfl) extent gap how (by kernel_rfl) (by rw [AHeap.rows_next]; omega)) (by omega) (by omega) ?_ ?_⟩
    · exact Runs.of_loops (Loops.last (by simp) (wi_usedEnd o 0 c _ b _ _ _ 0 (by omega)))
    · exact Runs.of_loops (Loops.last (by simp) (wi_end o 0 c _ b _ _ _ 0 (by omega)))
  · have hu := mul_range (b := (n : Int) - 1) (B := 4096) g.1 g.2 (by omega) (by omega)
    have hp := places_does hs hb hx (by omega) (by omega) extent gap how hh (H := AHeap.rows 10 [(0, b)]) (by kernel_rfl) (by rw [AHeap.rows_next]; omega)
    refine ⟨_, wi_call o n c extent gap how (usedZ x gap n) b (ints n (placeZ x extent gap how n)) hp (by omega) (by omega) (by omega) (by omega) ?_ ?_⟩
    · have l := wi_used_loop hs hb hx (by omega) (.slice (some ⟨10, 0, 0, 0, 1⟩) n n) (by simp [Clo, Ids]) extent gap (sideZ gap * ((n : Int) - 1)) (by omega) (ints n (placeZ x extent gap how n)) (ints_bare _ _) n 0 (by omega)
      simp only [sumTo, Int.add_zero] at l
      exact Runs.of_loops l
    · exact Runs.of_loops (wi_loop hs hb hx (by omega) extent gap how n 0 (by omega))

end Go.Proofs.Ytgfkllnaeekjeaa
