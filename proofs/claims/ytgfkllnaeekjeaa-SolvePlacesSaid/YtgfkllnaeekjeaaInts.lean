/-
  LISTS OF NUMBERS that the statements lend, keep, compare and write full.
-/
import Derived.Test.YtgfkllnaeekjeaaSum
namespace Go.Proofs.Ytgfkllnaeekjeaa
open Go.Lift
set_option maxRecDepth 1000000
set_option linter.unusedSimpArgs false
set_option linter.unusedVariables false

theorem slInt : SlTy env.D 27 3 1 8 := ⟨⟨⟨.slice 3, 1, 24, some (.slice none 0 0)⟩, ⟨.int .i64, 1, 8, some (.int .i64 0)⟩, by kernel_rfl, rfl, by kernel_rfl, rfl, rfl, by omega, by kernel_rfl⟩⟩

/-- numbers that can be read -/
structure IntsAt (H : AHeap) (o : Option AAddr) (n c id ver off : Nat) (b : ABlk) (x : Nat → Int) : Prop where
  sl : SlArg o n c id ver off 1
  get : H.get id = some b
  lt : id < H.next
  bare : BareB b
  el : ∀ j, j < n → b.elem? ver (off + j) = some (.int .i64 (x j))

theorem same_step (o o2 : Option AAddr) (n c c2 ver off ver2 off2 : Nat) (b b2 : ABlk) (i : Nat) (x : Int) (hc_0 : (↑i : Int) < (↑n : Int)) (hc_1 : aindexAddr (AEnv.D env) 27 (AVal.slice o n c) (AVal.int IntKind.i64 (↑i : Int)) = some (AVal.ptr (some ⟨0, ver, off + i, 0, 1⟩))) (hc_2 : ABlk.elem? b ver (off + i) = some (AVal.int IntKind.i64 x)) (hc_3 : aindexAddr (AEnv.D env) 27 (AVal.slice o2 n c2) (AVal.int IntKind.i64 (↑i : Int)) = some (AVal.ptr (some ⟨1, ver2, off2 + i, 0, 1⟩))) (hc_4 : ABlk.elem? b2 ver2 (off2 + i) = some (AVal.int IntKind.i64 x)) (hc_5 : x = x) (hc_6 : -9223372036854775808 ≤ (↑i : Int) + 1 ∧ (↑i : Int) + 1 ≤ 9223372036854775807) :
    Runs Try.prog 2 26 (loopAt Try.prog 17 0) [(0, .slice o n c), (1, .slice o2 n c2), (12, .int .i64 n), (13, .int .i64 i)] (AHeap.rows 11 [(0, b), (1, b2)]) AExit.normal [(0, AVal.slice o n c), (1, AVal.slice o2 n c2), (12, AVal.int IntKind.i64 (↑n : Int)), (13, AVal.int IntKind.i64 ((↑i : Int) + 1))] (AHeap.rows 25 [(0, b), (1, b2)]) :=
  ppath_runs env_ok mixed (hs := [.val 4000 (.bool true), .val 6002 (.ptr (some ⟨0, ver, off + i, 0, 1⟩)), .ld 6003 (.int .i64 x), .val 6006 (.ptr (some ⟨1, ver2, off2 + i, 0, 1⟩)), .ld 6007 (.int .i64 x), .val 6008 (.bool false), .go 8000]) (keep := [0, 1, 12, 13]) (by kernel_rfl) (All.cons (okT hc_0) (All.cons (hc_1) (All.cons (hc_2) (All.cons (hc_3) (All.cons (hc_4) (All.cons (neF hc_5) (All.cons (hc_6) (All.nil))))))))

theorem same_end (o o2 : Option AAddr) (n c c2 : Nat) (b b2 : ABlk) (i : Nat) (hc_0 : ¬ ((↑i : Int) < (↑n : Int))) :
    Runs Try.prog 2 26 (loopAt Try.prog 17 0) [(0, .slice o n c), (1, .slice o2 n c2), (12, .int .i64 n), (13, .int .i64 i)] (AHeap.rows 11 [(0, b), (1, b2)]) (AExit.exit 0) [] (AHeap.rows 12 [(0, b), (1, b2)]) :=
  ppath_runs env_ok mixed (hs := [.val 4000 (.bool false)]) (keep := []) (by kernel_rfl) (All.cons (okF hc_0) (All.nil))

theorem same_call (o o2 : Option AAddr) (n c c2 : Nat) (b b2 : ABlk) (hc_0 : (↑n : Int) = (↑n : Int)) (hc_1 : Runs Try.prog 2 26 (Code.loop (loopAt Try.prog 17 0)) [(0, AVal.slice o n c), (1, AVal.slice o2 n c2), (12, AVal.int IntKind.i64 (↑n : Int)), (13, AVal.int IntKind.i64 (0))] (AHeap.rows 11 [(0, b), (1, b2)]) (AExit.exit 0) [] (AHeap.rows 12 [(0, b), (1, b2)])) :
    FDoes Try.prog 17 [.slice o n c, .slice o2 n c2] (AHeap.of [b, b2]) (AVal.bool true) (AHeap.rows 13 [(0, b), (1, b2)]) :=
  pcall_does env_ok mixed (hs := [.val 1004 (.bool false), .keep [0, 1, 12, 13], .loop [] (AHeap.rows 12 [(0, b), (1, b2)]) (.exit 0)]) (rs := []) (by kernel_rfl) (All.cons (neF hc_0) (All.cons (hc_1) (All.nil)))

theorem same_loop {o o2 : Option AAddr} {n c c2 ver off ver2 off2 : Nat} {b b2 : ABlk} (hs : SlArg o n c 0 ver off 1) (hs2 : SlArg o2 n c2 1 ver2 off2 1) (hb : BareB b) (hb2 : BareB b2) {x : Nat → Int} (hx : ∀ j, j < n → b.elem? ver (off + j) = some (.int .i64 (x j)))
    (hx2 : ∀ j, j < n → b2.elem? ver2 (off2 + j) = some (.int .i64 (x j))) (hn : n < 2 ^ 62) :
    ∀ (k i : Nat), i + k = n → Loops Try.prog 2 26 (loopAt Try.prog 17 0) [(0, .slice o n c), (1, .slice o2 n c2), (12, .int .i64 n), (13, .int .i64 i)] (AHeap.rows 11 [(0, b), (1, b2)]) (.exit 0) [] (AHeap.rows 12 [(0, b), (1, b2)])
  | 0, i, e => by
    obtain rfl : i = n := by omega
    exact Loops.last (by simp) (same_end o o2 i c c2 b b2 i (by omega))
  | k + 1, i, e => by
    refine Loops.round (same_step o o2 n c c2 ver off ver2 off2 b b2 i (x i) (by omega) (ix_intN hs (by omega)) (hx i (by omega)) (ix_intN hs2 (by omega)) (hx2 i (by omega)) (by simp) (by omega)) ?_ (same_loop hs hs2 hb hb2 hx hx2 hn k (i + 1) (by omega))
    have hc : Clo (Ids [0, 1]) (.slice o n c) := hs.clo (by simp [Ids])
    have hc2 : Clo (Ids [0, 1]) (.slice o2 n c2) := hs2.clo (by simp [Ids])
    exact Ent.drop (by kernel_rfl) (by kernel_rfl) (by kernel_rfl) (by kernel_rfl) (by simp [All_cons, All_nil, Clo, hc, hc2]) (by simp only [List.map, All_cons, All_nil, and_true]; exact ⟨hb.clo _, hb2.clo _⟩)

/-- alike -/
theorem same_does {H : AHeap} {o o2 : Option AAddr} {n c c2 id id2 ver off ver2 off2 : Nat} {b b2 : ABlk} {x : Nat → Int} (h1 : IntsAt H o n c id ver off b x) (h2 : IntsAt H o2 n c2 id2 ver2 off2 b2 x) (hne : id ≠ id2) (hn : n < 2 ^ 62) :
    FDoes Try.prog 17 [.slice o n c, .slice o2 n c2] H (.bool true) H := by
  have s1 := h1.sl.at 0
  have s2 := h2.sl.at 1
  have k := (same_call _ _ n c c2 b b2 (by omega) (Runs.of_loops (same_loop s1 s2 h1.bare h2.bare h1.el h2.el hn n 0 (by omega)))).pure (by simp [h1.bare, h2.bare]) (by kernel_rfl) (Bare.bool _) (by simp [Clos, s1.clo, s2.clo]) (H := H) [id, id2] (by simp [hne]) (by simp [h1.lt, h2.lt]) (by simp [h1.get, h2.get])
  simpa [h1.sl.back (id' := 0) (r := toBig [id, id2] H.next) rfl, h2.sl.back (id' := 1) (r := toBig [id, id2] H.next) rfl] using k

theorem marked_step (o : Option AAddr) (n c ver off : Nat) (b : ABlk) (i : Nat) (m : Int) (hc_0 : (↑i : Int) < (↑n : Int)) (hc_1 : aindexAddr (AEnv.D env) 27 (AVal.slice o n c) (AVal.int IntKind.i64 (↑i : Int)) = some (AVal.ptr (some ⟨0, ver, off + i, 0, 1⟩))) (hc_2 : ABlk.elem? b ver (off + i) = some (AVal.int IntKind.i64 m)) (hc_3 : m = m) (hc_4 : -9223372036854775808 ≤ (↑i : Int) + 1 ∧ (↑i : Int) + 1 ≤ 9223372036854775807) :
    Runs Try.prog 1 18 (loopAt Try.prog 45 0) [(0, .slice o n c), (1, .int .i64 m), (7, .int .i64 n), (8, .int .i64 i)] (AHeap.rows 5 [(0, b)]) AExit.normal [(0, AVal.slice o n c), (1, AVal.int IntKind.i64 m), (7, AVal.int IntKind.i64 (↑n : Int)), (8, AVal.int IntKind.i64 ((↑i : Int) + 1))] (AHeap.rows 16 [(0, b)]) :=
  ppath_runs env_ok mixed (hs := [.val 2000 (.bool true), .val 4002 (.ptr (some ⟨0, ver, off + i, 0, 1⟩)), .ld 4003 (.int .i64 m), .val 4005 (.bool false), .go 6000]) (keep := [0, 1, 7, 8]) (by kernel_rfl) (All.cons (okT hc_0) (All.cons (hc_1) (All.cons (hc_2) (All.cons (neF hc_3) (All.cons (hc_4) (All.nil))))))

theorem marked_end (o : Option AAddr) (n c : Nat) (b : ABlk) (i : Nat) (m : Int) (hc_0 : ¬ ((↑i : Int) < (↑n : Int))) :
    Runs Try.prog 1 18 (loopAt Try.prog 45 0) [(0, .slice o n c), (1, .int .i64 m), (7, .int .i64 n), (8, .int .i64 i)] (AHeap.rows 5 [(0, b)]) (AExit.exit 0) [] (AHeap.rows 6 [(0, b)]) :=
  ppath_runs env_ok mixed (hs := [.val 2000 (.bool false)]) (keep := []) (by kernel_rfl) (All.cons (okF hc_0) (All.nil))

theorem marked_call (o : Option AAddr) (n c : Nat) (b : ABlk) (m : Int) (hc_0 : Runs Try.prog 1 18 (Code.loop (loopAt Try.prog 45 0)) [(0, AVal.slice o n c), (1, AVal.int IntKind.i64 m), (7, AVal.int IntKind.i64 (↑n : Int)), (8, AVal.int IntKind.i64 (0))] (AHeap.rows 5 [(0, b)]) (AExit.exit 0) [] (AHeap.rows 6 [(0, b)])) :
    FDoes Try.prog 45 [.slice o n c, .int .i64 m] (AHeap.of [b]) (AVal.bool true) (AHeap.rows 7 [(0, b)]) :=
  pcall_does env_ok mixed (hs := [.keep [0, 1, 7, 8], .loop [] (AHeap.rows 6 [(0, b)]) (.exit 0)]) (rs := []) (by kernel_rfl) (All.cons (hc_0) (All.nil))

theorem marked_loop {o : Option AAddr} {n c ver off : Nat} {b : ABlk} (hs : SlArg o n c 0 ver off 1) (hb : BareB b) {m : Int} (hx : ∀ j, j < n → b.elem? ver (off + j) = some (.int .i64 m)) (hn : n < 2 ^ 62) :
    ∀ (k i : Nat), i + k = n → Loops Try.prog 1 18 (loopAt Try.prog 45 0) [(0, .slice o n c), (1, .int .i64 m), (7, .int .i64 n), (8, .int .i64 i)] (AHeap.rows 5 [(0, b)]) (.exit 0) [] (AHeap.rows 6 [(0, b)])
  | 0, i, e => by
    obtain rfl : i = n := by omega
    exact Loops.last (by simp) (marked_end o i c b i m (by omega))
  | k + 1, i, e => by
    refine Loops.round (marked_step o n c ver off b i m (by omega) (ix_intN hs (by omega)) (hx i (by omega)) (by simp) (by omega)) ?_ (marked_loop hs hb hx hn k (i + 1) (by omega))
    have hc : Clo (Ids [0]) (.slice o n c) := hs.clo (by simp [Ids])
    exact Ent.drop (by kernel_rfl) (by kernel_rfl) (by kernel_rfl) (by kernel_rfl) (by simp [All_cons, All_nil, Clo, hc]) (by simp only [List.map, All_cons, All_nil, and_true]; exact hb.clo _)

theorem marked_does {H : AHeap} {o : Option AAddr} {n c id ver off : Nat} {b : ABlk} {m : Int} (h1 : IntsAt H o n c id ver off b fun _ => m) (hn : n < 2 ^ 62) : FDoes Try.prog 45 [.slice o n c, .int .i64 m] H (.bool true) H := by
  have s1 := h1.sl.at 0
  have k := (marked_call _ n c b m (Runs.of_loops (marked_loop s1 h1.bare h1.el hn n 0 (by omega)))).pure (by simp [h1.bare]) (by kernel_rfl) (Bare.bool _) (by simp [Clos, Clo, s1.clo]) (H := H) [id] (by simp) (by simp [h1.lt]) (by simp [h1.get])
  simpa [h1.sl.back (id' := 0) (r := toBig [id] H.next) rfl, AVal.ren] using k

theorem spoil_step (o : Option AAddr) (n c : Nat) (l : List AVal) (i : Nat) (m old : Int) (hc_0 : (↑i : Int) < (↑n : Int)) (hc_1 : aindexAddr (AEnv.D env) 27 (AVal.slice o n c) (AVal.int IntKind.i64 (↑i : Int)) = some (AVal.ptr (some ⟨0, 0, 0 + i, 0, 1⟩))) (hc_2 : 0 = 0 ∧ l[0 + i]? = some (AVal.int IntKind.i64 old)) (hc_3 : -9223372036854775808 ≤ (↑i : Int) + 1 ∧ (↑i : Int) + 1 ≤ 9223372036854775807) :
    Runs Try.prog 1 15 (loopAt Try.prog 43 0) [(0, .slice o n c), (1, .int .i64 m), (6, .int .i64 n), (7, .int .i64 i)] (AHeap.rows 4 [(0, .made l 1 true)]) AExit.normal [(0, AVal.slice o n c), (1, AVal.int IntKind.i64 m), (6, AVal.int IntKind.i64 (↑n : Int)), (7, AVal.int IntKind.i64 ((↑i : Int) + 1))] (AHeap.rows 14 [(0, (ABlk.made (List.set l (0 + i) (AVal.int IntKind.i64 m)) 1 true))]) :=
  ppath_runs env_ok mixed (hs := [.val 1000 (.bool true), .val 3003 (.ptr (some ⟨0, 0, 0 + i, 0, 1⟩)), .st 3004 (.int .i64 old), .go 4000]) (keep := [0, 1, 6, 7]) (by kernel_rfl) (All.cons (okT hc_0) (All.cons (hc_1) (All.cons (hc_2) (All.cons (hc_3) (All.nil)))))

theorem spoil_end (o : Option AAddr) (n c : Nat) (l : List AVal) (i : Nat) (m : Int) (hc_0 : ¬ ((↑i : Int) < (↑n : Int))) :
    Runs Try.prog 1 15 (loopAt Try.prog 43 0) [(0, .slice o n c), (1, .int .i64 m), (6, .int .i64 n), (7, .int .i64 i)] (AHeap.rows 4 [(0, .made l 1 true)]) (AExit.exit 0) [] (AHeap.rows 5 [(0, (ABlk.made (l) 1 true))]) :=
  ppath_runs env_ok mixed (hs := [.val 1000 (.bool false)]) (keep := []) (by kernel_rfl) (All.cons (okF hc_0) (All.nil))

theorem spoil_call (o : Option AAddr) (n c : Nat) (l l2 : List AVal) (m : Int) (hc_0 : Runs Try.prog 1 15 (Code.loop (loopAt Try.prog 43 0)) [(0, AVal.slice o n c), (1, AVal.int IntKind.i64 m), (6, AVal.int IntKind.i64 (↑n : Int)), (7, AVal.int IntKind.i64 (0))] (AHeap.rows 4 [(0, ABlk.made l 1 true)]) (AExit.exit 0) [] (AHeap.rows 5 [(0, (ABlk.made (l2) 1 true))])) :
    FDoes Try.prog 43 [.slice o n c, .int .i64 m] (AHeap.of [.made l 1 true]) (AVal.tuple []) (AHeap.rows 5 [(0, (ABlk.made (l2) 1 true))]) :=
  pcall_does env_ok mixed (hs := [.keep [0, 1, 6, 7], .loop [] (AHeap.rows 5 [(0, .made l2 1 true)]) (.exit 0)]) (rs := []) (by kernel_rfl) (All.cons (hc_0) (All.nil))

theorem spoil_loop {o : Option AAddr} {n c N : Nat} (hs : SlArg o n c 0 0 0 1) {x : Nat → Int} {m : Int} (hN : n ≤ N) (hn : n < 2 ^ 62) :
    ∀ (k i : Nat), i + k = n → Loops Try.prog 1 15 (loopAt Try.prog 43 0) [(0, .slice o n c), (1, .int .i64 m), (6, .int .i64 n), (7, .int .i64 i)] (AHeap.rows 4 [(0, .made (ints N fun j => if j < i then m else x j) 1 true)]) (.exit 0) []
      (AHeap.rows 5 [(0, .made (ints N fun j => if j < n then m else x j) 1 true)])
  | 0, i, e => by
    obtain rfl : i = n := by omega
    exact Loops.last (by simp) (spoil_end o i c _ i m (by omega))
  | k + 1, i, e => by
    have st := spoil_step o n c (ints N fun j => if j < i then m else x j) i m (x i) (by omega) (ix_intN hs (by omega)) ⟨rfl, by rw [Nat.zero_add, ints_get (by omega)]; simp⟩ (by omega)
    rw [Nat.zero_add, ints_step (y := fun _ => m) (z := x) (i := i)] at st
    refine Loops.round st ?_ (spoil_loop hs hN hn k (i + 1) (by omega))
    have hc : Clo (Ids [0]) (.slice o n c) := hs.clo (by simp [Ids])
    exact Ent.drop (by kernel_rfl) (by kernel_rfl) (by kernel_rfl) (by kernel_rfl) (by simp [All_cons, All_nil, Clo, hc]) (by simp only [List.map, All_cons, All_nil, and_true]; exact fun e he => (ints_bare _ _ e he).clo _)

theorem spoil_does {H : AHeap} {o : Option AAddr} {n c id N : Nat} {x : Nat → Int} {m : Int} (hs : SlArg o n c id 0 0 1) (hg : H.get id = some (.made (ints N x) 1 true)) (hlt : id < H.next) (hN : n ≤ N) (hn : n < 2 ^ 62) :
    FDoes Try.prog 43 [.slice o n c, .int .i64 m] H (.tuple []) (H.upd [id] [.made (ints N fun j => if j < n then m else x j) 1 true]) := by
  have s1 := hs.at 0
  have l := spoil_loop (m := m) (x := x) s1 hN hn n 0 (by omega)
  rw [show (ints N fun j => if j < 0 then m else x j) = ints N x from ints_congr fun j _ => by simp] at l
  have k := (spoil_call _ n c _ _ m (Runs.of_loops l)).fin [] [.made (ints N fun j => if j < n then m else x j) 1 true] (.tuple []) (by simp [BareB, ABlk.made]; exact ints_bare _ _) rfl (by kernel_rfl) rfl (by simp [Clo, Clos]) rfl (by simp)
  have k2 := k.upW (by simp [BareB, ABlk.made]; exact ints_bare _ _) (by simp [BareB, ABlk.made]; exact ints_bare _ _) (by simp) (by simp [Clos, Clo, s1.clo]) (H := H) [id] (by simp) (by simp [hlt]) (by simp [hg])
  simpa [hs.back (id' := 0) (r := toBig [id] H.next) rfl, AVal.ren, AVal.rens] using k2

end Go.Proofs.Ytgfkllnaeekjeaa
