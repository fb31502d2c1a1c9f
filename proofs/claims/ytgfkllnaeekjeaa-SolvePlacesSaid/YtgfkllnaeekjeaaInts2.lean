/-
  LISTS OF NUMBERS that the statements lend, keep, grow and hold apart.
-/
import Derived.Test.YtgfkllnaeekjeaaInts
namespace Go.Proofs.Ytgfkllnaeekjeaa
open Go.Lift
set_option maxRecDepth 1000000
set_option linter.unusedSimpArgs false
set_option linter.unusedVariables false

theorem grown_first (o : Option AAddr) (n c : Nat) (b r : ABlk) (m : Int) (hc_0 : abuiltin env Builtin.append { toList := [27, 27] } [AVal.slice o n c, AVal.slice (some ⟨6, 0, 0, 0, 1⟩) 1 1] 7 (AHeap.set (AHeap.rows 9 [(0, b)]) 6 (ABlk.made [AVal.int IntKind.i64 m] 1 true)) = some (AVal.slice (some ⟨7, 0, 0, 0, 1⟩) (n + 1) (n + 1), (AHeap.rows 9 [(0, b), (6, ABlk.made [AVal.int IntKind.i64 m] 1 true), (7, r)]))) :
    Runs Try.prog 1 13 (loopAt Try.prog 44 0) [(0, .slice o n c), (1, .int .i64 m), (5, .int .i64 0)] (AHeap.rows 3 [(0, b)]) AExit.normal [(0, AVal.slice (some ⟨7, 0, 0, 0, 1⟩) (n + 1) (n + 1)), (1, AVal.int IntKind.i64 m), (5, AVal.int IntKind.i64 (1))] (AHeap.rows 11 [(0, b), (6, ABlk.made [AVal.int IntKind.i64 m] 1 true), (7, r)]) :=
  ppath_runs env_ok mixed (hs := [.act 3003 (.slice (some ⟨7, 0, 0, 0, 1⟩) (n + 1) (n + 1)) (fun h => h.set 7 r)]) (keep := [0, 1, 5]) (by kernel_rfl) (All.cons (hc_0) (All.nil))

theorem grown_step (v w : Nat) (b r r2 : ABlk) (m : Int) (i : Nat) (hc_0 : (↑i : Int) < 70) (hc_1 : abuiltin env Builtin.append { toList := [27, 27] } [AVal.slice (some ⟨7, v, 0, 0, 1⟩) w w, AVal.slice (some ⟨13, 0, 0, 0, 1⟩) 1 1] 14 (AHeap.set (AHeap.rows 16 [(0, b), (7, r)]) 13 (ABlk.made [AVal.int IntKind.i64 m] 1 true)) = some (AVal.slice (some { id := 7, ver := v + 1, idx := 0, fld := 0, es := 1 }) (w + 1) (w + 1), (AHeap.rows 16 [(0, b), (7, r2), (13, ABlk.made [AVal.int IntKind.i64 m] 1 true)]))) (hc_2 : -9223372036854775808 ≤ (↑i : Int) + 1 ∧ (↑i : Int) + (1 : Int) ≤ 9223372036854775807) :
    Runs Try.prog 1 13 (loopAt Try.prog 44 0) [(0, .slice (some ⟨7, v, 0, 0, 1⟩) w w), (1, .int .i64 m), (5, .int .i64 i)] (AHeap.rows 10 [(0, b), (7, r)]) AExit.normal [(0, AVal.slice (some { id := 7, ver := v + 1, idx := 0, fld := 0, es := 1 }) (w + 1) (w + 1)), (1, AVal.int IntKind.i64 m), (5, AVal.int IntKind.i64 ((↑i : Int) + 1))] (AHeap.rows 18 [(0, b), (7, r2), (13, ABlk.made [AVal.int IntKind.i64 m] 1 true)]) :=
  ppath_runs env_ok mixed (hs := [.val 2000 (.bool true), .act 3003 (.slice (some ⟨7, v + 1, 0, 0, 1⟩) (w + 1) (w + 1)) (fun h => h.set 7 r2), .go 4000]) (keep := [0, 1, 5]) (by kernel_rfl) (All.cons (okT hc_0) (All.cons (hc_1) (All.cons (hc_2) (All.nil))))

theorem grown_end (v w : Nat) (b r : ABlk) (m : Int)  :
    Runs Try.prog 1 13 (loopAt Try.prog 44 0) [(0, .slice (some ⟨7, v, 0, 0, 1⟩) w w), (1, .int .i64 m), (5, .int .i64 70)] (AHeap.rows 10 [(0, b), (7, r)]) (AExit.exit 0) [(0, AVal.slice (some ⟨7, v, 0, 0, 1⟩) w w)] (AHeap.rows 11 [(0, b), (7, r)]) :=
  ppath_runs env_ok mixed (hs := []) (keep := [0]) (by kernel_rfl) (All.nil)

theorem grown_call (o : Option AAddr) (n c : Nat) (b r : ABlk) (m : Int) (hc_0 : Runs Try.prog 1 13 (Code.loop (loopAt Try.prog 44 0)) [(0, AVal.slice o n c), (1, AVal.int IntKind.i64 m), (5, AVal.int IntKind.i64 (0))] (AHeap.rows 3 [(0, b)]) (AExit.exit 0) [(0, AVal.slice (some ⟨7, 69, 0, 0, 1⟩) (n + 70) (n + 70))] (AHeap.rows 11 [(0, b), (7, r)])) :
    FDoes Try.prog 44 [.slice o n c, .int .i64 m] (AHeap.of [b]) (AVal.slice (some ⟨7, 69, 0, 0, 1⟩) (n + 70) (n + 70)) (AHeap.rows 13 [(0, b), (7, r)]) :=
  pcall_does env_ok mixed (hs := [.keep [0, 1, 5], .loop [(0, .slice (some ⟨7, 69, 0, 0, 1⟩) (n + 70) (n + 70))] (AHeap.rows 11 [(0, b), (7, r)]) (.exit 0)]) (rs := []) (by kernel_rfl) (All.cons (hc_0) (All.nil))

theorem lent_call (o : Option AAddr) (n c : Nat) (b : ABlk) (r r2 : ABlk) (hc_0 : -9223372036854775808 ≤ (↑n : Int) + 70 ∧ (↑n : Int) + (70 : Int) ≤ 9223372036854775807) (hc_1 : (0 : Int) ≤ 0 ∧ 0 ≤ (↑n : Int) + 70 ∧ (↑n : Int) + (70 : Int) < 4611686018427387904 ∧ (↑8 : Int) * ((↑n : Int) + 70) ≤ 281474976710656) (hc_2 : abuiltin env Builtin.append { toList := [27, 27] } [AVal.slice (some ⟨5, 0, 0, 0, 1⟩) 0 (n + 70), AVal.slice o n c] 9 (AHeap.rows 11 [(0, b), (5, ABlk.made (List.replicate (n + 70) (AVal.int IntKind.i64 (0))) 1 true)]) = some (AVal.slice (some ⟨5, 0, 0, 0, 1⟩) n (n + 70), (AHeap.rows 11 [(0, b), (5, r)]))) (hc_3 : Runs Try.prog 1 21 (Code.loop (loopAt Try.prog 23 0)) [(0, AVal.slice o n c), (3, AVal.slice (some ⟨5, 0, 0, 0, 1⟩) n (n + 70)), (11, AVal.int IntKind.i64 (0))] (AHeap.rows 12 [(0, b), (5, r)]) (AExit.exit 0) [(0, AVal.slice o n c), (3, AVal.slice (some ⟨5, 0, 0, 0, 1⟩) (n + 70) (n + 70))] (AHeap.rows 13 [(0, b), (5, r2)])) (hc_4 : aslice (AEnv.D env) 27 (AVal.slice (some ⟨5, 0, 0, 0, 1⟩) (n + 70) (n + 70)) none (some (AVal.int IntKind.i64 (↑n : Int))) none = some (AVal.slice (some ⟨5, 0, 0, 0, 1⟩) n (n + 70))) :
    FDoes Try.prog 23 [.slice o n c] (AHeap.of [b]) (AVal.slice (some ⟨5, 0, 0, 0, 1⟩) n (n + 70)) (AHeap.rows 18 [(0, b), (5, r2)]) :=
  pcall_does env_ok mixed (hs := [.go 1002, .go 1003, .act 2002 (.slice (some ⟨5, 0, 0, 0, 1⟩) n (n + 70)) (fun h => h.set 5 r), .keep [0, 3, 11], .loop [(0, .slice o n c), (3, .slice (some ⟨5, 0, 0, 0, 1⟩) (n + 70) (n + 70))] (AHeap.rows 13 [(0, b), (5, r2)]) (.exit 0), .val 7003 (.slice (some ⟨5, 0, 0, 0, 1⟩) n (n + 70))]) (rs := []) (by kernel_rfl) (All.cons (hc_0) (All.cons (hc_1) (All.cons (hc_2) (All.cons (hc_3) (All.cons (hc_4) (All.nil))))))

theorem lent_step (o : Option AAddr) (n c w : Nat) (b r r2 : ABlk) (i : Nat) (hc_0 : (↑i : Int) < 70) (hc_1 : abuiltin env Builtin.append { toList := [27, 27] } [AVal.slice (some ⟨5, 0, 0, 0, 1⟩) w (n + 70), AVal.slice (some ⟨14, 0, 0, 0, 1⟩) 1 1] 15 (AHeap.set (AHeap.rows 17 [(0, b), (5, r)]) 14 (ABlk.made [AVal.int IntKind.i64 (-77)] 1 true)) = some (AVal.slice (some ⟨5, 0, 0, 0, 1⟩) (w + 1) (n + 70), (AHeap.rows 17 [(0, b), (5, r2), (14, ABlk.made [AVal.int IntKind.i64 (-77)] 1 true)]))) (hc_2 : -9223372036854775808 ≤ (↑i : Int) + 1 ∧ (↑i : Int) + (1 : Int) ≤ 9223372036854775807) :
    Runs Try.prog 1 21 (loopAt Try.prog 23 0) [(0, .slice o n c), (3, .slice (some ⟨5, 0, 0, 0, 1⟩) w (n + 70)), (11, .int .i64 i)] (AHeap.rows 12 [(0, b), (5, r)]) AExit.normal [(0, AVal.slice o n c), (3, AVal.slice (some ⟨5, 0, 0, 0, 1⟩) (w + 1) (n + 70)), (11, AVal.int IntKind.i64 ((↑i : Int) + 1))] (AHeap.rows 19 [(0, b), (5, r2), (14, ABlk.made [AVal.int IntKind.i64 (-77)] 1 true)]) :=
  ppath_runs env_ok mixed (hs := [.val 4000 (.bool true), .act 5002 (.slice (some ⟨5, 0, 0, 0, 1⟩) (w + 1) (n + 70)) (fun h => h.set 5 r2), .go 6000]) (keep := [0, 3, 11]) (by kernel_rfl) (All.cons (okT hc_0) (All.cons (hc_1) (All.cons (hc_2) (All.nil))))

theorem lent_end (o : Option AAddr) (n c w : Nat) (b r : ABlk)  :
    Runs Try.prog 1 21 (loopAt Try.prog 23 0) [(0, .slice o n c), (3, .slice (some ⟨5, 0, 0, 0, 1⟩) w (n + 70)), (11, .int .i64 70)] (AHeap.rows 12 [(0, b), (5, r)]) (AExit.exit 0) [(0, AVal.slice o n c), (3, AVal.slice (some ⟨5, 0, 0, 0, 1⟩) w (n + 70))] (AHeap.rows 13 [(0, b), (5, r)]) :=
  ppath_runs env_ok mixed (hs := []) (keep := [0, 3]) (by kernel_rfl) (All.nil)

/-- a row that was appended to, one by one -/
def gRow (f : Nat → Int) (n1 v : Nat) : ABlk := { elems := ints (n1 + v) f, es := 1, exact := false, ro := false, ver := v, minVer := 0, forkLen := if v = 0 then 0 else n1 }

theorem gRow_zero (f : Nat → Int) (n1 : Nat) : ABlk.made (ints n1 f) 1 false = gRow f n1 0 := rfl
theorem gRow_grow (f : Nat → Int) (n1 v : Nat) : (gRow f n1 v).grow [.int .i64 (f (n1 + v))] = gRow f n1 (v + 1) := by
  unfold ABlk.grow gRow
  simp only [ints_length]
  rw [ints_snoc, show n1 + v + 1 = n1 + (v + 1) by omega]
  by_cases h : v = 0
  · subst h; simp
  · rw [if_neg (by omega), if_neg h, if_neg (by omega)]
    rw [show min n1 (n1 + v) = n1 by omega]
theorem gRow_bare (f : Nat → Int) (n1 v : Nat) : BareB (gRow f n1 v) := fun e he => ints_bare _ _ e he
theorem gRow_el {f : Nat → Int} {n1 v j : Nat} (hj : j < n1 + v) : (gRow f n1 v).elem? v (0 + j) = some (.int .i64 (f j)) := by
  simp only [ABlk.elem?, ABlk.lim, gRow, if_true, ints_length, Nat.zero_add]
  rw [if_pos hj, ints_get hj]

theorem grown_loop {b : ABlk} (hb : BareB b) {n1 : Nat} (h1 : 1 ≤ n1) (hn : n1 < 2 ^ 40) {f : Nat → Int} {m : Int} (hf : ∀ j, n1 ≤ j → f j = m) :
    ∀ (k v : Nat), v + k = 69 → Loops Try.prog 1 13 (loopAt Try.prog 44 0) [(0, .slice (some ⟨7, v, 0, 0, 1⟩) (n1 + v) (n1 + v)), (1, .int .i64 m), (5, .int .i64 (v + 1 : Nat))] (AHeap.rows 10 [(0, b), (7, gRow f n1 v)])
      (.exit 0) [(0, .slice (some ⟨7, 69, 0, 0, 1⟩) (n1 + 69) (n1 + 69))] (AHeap.rows 11 [(0, b), (7, gRow f n1 69)])
  | 0, v, e => by
    obtain rfl : v = 69 := by omega
    exact Loops.last (by simp) (grown_end 69 (n1 + 69) b (gRow f n1 69) m)
  | k + 1, v, e => by
    refine Loops.round (grown_step v (n1 + v) b (gRow f n1 v) (gRow f n1 (v + 1)) m (v + 1) (by omega) ?_ (by omega)) ?_ (grown_loop hb h1 hn hf k (v + 1) (by omega))
    · refine (app_grow slInt (new := [.int .i64 m]) (by kernel_rfl) (by simp) (b := gRow f n1 v) (by simp; omega) (by simp; omega) (by kernel_rfl) rfl (by simp) rfl rfl rfl (by simp [gRow])).trans ?_
      rw [← gRow_grow, hf (n1 + v) (by omega)]
      kernel_rfl
    · exact Ent.drop (by kernel_rfl) (by kernel_rfl) (by kernel_rfl) (by kernel_rfl) (by simp [All_cons, All_nil, Clo, Ids]) (by simp only [List.map, All_cons, All_nil, and_true]; exact ⟨hb.clo _, (gRow_bare _ _ _).clo _⟩)

/-- many marks behind a list -/
theorem grown_does {H : AHeap} {o : Option AAddr} {n c id ver off : Nat} {b : ABlk} {x : Nat → Int} (h1 : IntsAt H o n c id ver off b x) (hex : b.exact = true) (hc : c ≤ n) (hn : n < 2 ^ 30) (m : Int) :
    FDoes Try.prog 44 [.slice o n c, .int .i64 m] H (.slice (some ⟨H.next, 69, 0, 0, 1⟩) (n + 70) (n + 70)) (H.upd [] [gRow (fun j => if j < n then x j else m) (n + 1) 69]) := by
  have s1 := h1.sl.at 0
  have hf : ∀ j, n + 1 ≤ j → (fun j => if j < n then x j else m) j = m := fun j hj => by simp; omega
  have l := grown_loop h1.bare (n1 := n + 1) (by omega) (by omega) hf 69 0 (by omega)
  have hfirst : Runs Try.prog 1 13 (loopAt Try.prog 44 0) [(0, .slice (o.map fun a => { a with id := 0 }) n c), (1, .int .i64 m), (5, .int .i64 0)] (AHeap.rows 3 [(0, b)]) .normal
      [(0, .slice (some ⟨7, 0, 0, 0, 1⟩) (n + 1) (n + 1)), (1, .int .i64 m), (5, .int .i64 1)] (AHeap.rows 10 [(0, b), (7, gRow (fun j => if j < n then x j else m) (n + 1) 0)]) := by
    refine (grown_first _ n c b (gRow (fun j => if j < n then x j else m) (n + 1) 0) m ?_).post ?_
    · have hold : ints n (fun j => if j < n then x j else m) ++ [.int .i64 m] = ints (n + 1) (fun j => if j < n then x j else m) := by
        rw [← ints_snoc]; simp
      rcases s1 with hs | ⟨hs, rfl, rfl⟩
      · rw [hs]
        have hold2 : elemsOf 1 (.slice (some ⟨0, ver, off, 0, 1⟩) n c) (AHeap.set (AHeap.rows 9 [(0, b)]) 6 (ABlk.made [AVal.int IntKind.i64 m] 1 true)) = some (ints n fun j => if j < n then x j else m) := by
          rw [elemsOf_slice (.inl rfl) (by kernel_rfl) h1.el]
          exact congrArg some (List.map_congr_left fun j hj => by simp [List.mem_range.1 hj])
        refine (app_copy slInt (new := [.int .i64 m]) (by kernel_rfl) (b := b) (by simp; omega) (by simp; omega) (by kernel_rfl) rfl (by simp; omega) hex hold2).trans ?_
        rw [hold]
        kernel_rfl
      · rw [hs]
        refine (app_new slInt (new := [.int .i64 m]) (by kernel_rfl) (by simp) (by simp) (by simp)).trans ?_
        have : [AVal.int .i64 m] = ints 1 (fun j => if j < 0 then x j else m) := by simp [ints]
        rw [this]
        show some _ = some _
        kernel_rfl
    · exact Ent.drop (by kernel_rfl) (by kernel_rfl) (by kernel_rfl) (by kernel_rfl) (by simp [All_cons, All_nil, Clo, Ids]) (by simp only [List.map, All_cons, All_nil, and_true]; exact ⟨h1.bare.clo _, (gRow_bare _ _ _).clo _⟩)
  have k := (grown_call _ n c b _ m (Runs.of_loops (Loops.step hfirst l))).new1 (bn := gRow (fun j => if j < n then x j else m) (n + 1) 69) (by simp [h1.bare]) (gRow_bare _ _ _) (by kernel_rfl) (by kernel_rfl) (by simp) (by simp [Clos, Clo, s1.clo]) (H := H) [id] (by simp) (by simp [h1.lt]) (by simp [h1.get])
  simpa [h1.sl.back (id' := 0) (r := toBig [id] H.next) rfl, AVal.ren] using k

end Go.Proofs.Ytgfkllnaeekjeaa
