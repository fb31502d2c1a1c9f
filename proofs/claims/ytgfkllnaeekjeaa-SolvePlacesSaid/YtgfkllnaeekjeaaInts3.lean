/-
  LISTS OF NUMBERS that the statements lend and hold apart, part 2.
-/
import Derived.Test.YtgfkllnaeekjeaaInts2
namespace Go.Proofs.Ytgfkllnaeekjeaa
open Go.Lift
set_option maxRecDepth 1000000
set_option linter.unusedSimpArgs false
set_option linter.unusedVariables false

/-! writing many -/
theorem putAll_length : ∀ (vs l : List AVal) (i : Nat), (putAll l i vs).length = l.length
  | [], l, i => rfl
  | v :: vs, l, i => by simp [putAll, putAll_length vs]

theorem putAll_get : ∀ (vs l : List AVal) (i j : Nat), (putAll l i vs)[j]? = if i ≤ j ∧ j < i + vs.length ∧ j < l.length then vs[j - i]? else l[j]?
  | [], l, i, j => by simp only [putAll, List.length_nil]; rw [if_neg (by omega)]
  | v :: vs, l, i, j => by
    simp only [putAll]
    rw [putAll_get vs, List.length_set, List.length_cons]
    by_cases c : j = i
    · subst c
      rw [if_neg (by omega)]
      by_cases c2 : j < l.length
      · rw [if_pos ⟨by omega, by omega, c2⟩, List.getElem?_set_self c2]; simp
      · rw [if_neg (by omega), List.getElem?_eq_none (by simp; omega), List.getElem?_eq_none (by omega)]
    · rw [List.getElem?_set_ne (Ne.symm c)]
      by_cases c2 : i + 1 ≤ j ∧ j < i + 1 + vs.length ∧ j < l.length
      · rw [if_pos c2, if_pos ⟨by omega, by omega, c2.2.2⟩, show j - i = (j - (i + 1)) + 1 by omega]; simp
      · rw [if_neg c2, if_neg (by omega)]

theorem putAll_ints {N i m : Nat} {f g : Nat → Int} (h : i + m ≤ N) : putAll (ints N f) i (ints m g) = ints N (fun j => if i ≤ j ∧ j < i + m then g (j - i) else f j) := by
  apply List.ext_getElem?
  intro j
  rw [putAll_get, ints_length, ints_length]
  by_cases hj : j < N
  · rw [show (ints N fun j => if i ≤ j ∧ j < i + m then g (j - i) else f j)[j]? = _ from ints_get hj]
    by_cases c : i ≤ j ∧ j < i + m
    · rw [if_pos ⟨c.1, c.2, hj⟩, ints_get (by omega)]; simp only [if_pos c]
    · rw [if_neg (by omega), ints_get hj]; simp only [if_neg c]
  · rw [if_neg (by omega), List.getElem?_eq_none (by simp; omega), List.getElem?_eq_none (by simp; omega)]

theorem put_made (l vs : List AVal) (i es : Nat) (ex : Bool) : (ABlk.made l es ex).put i vs = .made (putAll l i vs) es ex := rfl

theorem lent_loop {o : Option AAddr} {n c ver off : Nat} (hs : SlArg o n c 0 ver off 1) {b : ABlk} (hb : BareB b) (hn : n ≤ 2 ^ 44) {x : Nat → Int} :
    ∀ (k i : Nat), i + k = 70 → Loops Try.prog 1 21 (loopAt Try.prog 23 0) [(0, .slice o n c), (3, .slice (some ⟨5, 0, 0, 0, 1⟩) (n + i) (n + 70)), (11, .int .i64 i)]
      (AHeap.rows 12 [(0, b), (5, .made (ints (n + 70) fun j => if j < n then x j else if j < n + i then -77 else 0) 1 true)])
      (.exit 0) [(0, .slice o n c), (3, .slice (some ⟨5, 0, 0, 0, 1⟩) (n + 70) (n + 70))] (AHeap.rows 13 [(0, b), (5, .made (ints (n + 70) fun j => if j < n then x j else -77) 1 true)])
  | 0, i, e => by
    obtain rfl : i = 70 := by omega
    rw [show (ints (n + 70) fun j => if j < n then x j else if j < n + 70 then -77 else 0) = (ints (n + 70) fun j => if j < n then x j else -77) from ints_congr fun j hj => by rw [if_pos hj]]
    exact Loops.last (by simp) (lent_end o n c (n + 70) b _)
  | k + 1, i, e => by
    have hc : Clo (Ids [0, 5]) (.slice o n c) := hs.clo (by simp [Ids])
    have hp : (ABlk.made (ints (n + 70) fun j => if j < n then x j else if j < n + i then -77 else 0) 1 true).put (0 + (n + i)) [.int .i64 (-77)] = .made (ints (n + 70) fun j => if j < n then x j else if j < n + (i + 1) then -77 else 0) 1 true := by
      rw [put_made, show [AVal.int .i64 (-77)] = ints 1 (fun _ => -77) by simp [ints], putAll_ints (by omega)]
      congr 1
      refine ints_congr fun j hj => ?_
      split <;> split <;> (try split) <;> (try split) <;> first | rfl | omega
    refine Loops.round (lent_step o n c (n + i) b _ (.made (ints (n + 70) fun j => if j < n then x j else if j < n + (i + 1) then -77 else 0) 1 true) i (by omega) ?_ (by omega)) ?_ (lent_loop hs hb hn k (i + 1) (by omega))
    · refine (app_put slInt (new := [.int .i64 (-77)]) (by kernel_rfl) (by simp) (b := .made (ints (n + 70) fun j => if j < n then x j else if j < n + i then -77 else 0) 1 true) (by simp; omega) (by simp; omega) (by kernel_rfl) rfl (by simp; omega) rfl rfl (by simp [ABlk.made]; omega)).trans ?_
      rw [hp]
      show some _ = some _
      kernel_rfl
    · exact Ent.drop (by kernel_rfl) (by kernel_rfl) (by kernel_rfl) (by kernel_rfl) (by simp [All_cons, All_nil, Clo, hc]; simp [Ids]) (by simp only [List.map, All_cons, All_nil, and_true]; exact ⟨hb.clo _, fun e he => (ints_bare _ _ e he).clo _⟩)

/-- lent numbers -/
theorem lent_does {H : AHeap} {o : Option AAddr} {n c id ver off : Nat} {b : ABlk} {x : Nat → Int} (h1 : IntsAt H o n c id ver off b x) (hn : n ≤ 2 ^ 44) :
    FDoes Try.prog 23 [.slice o n c] H (.slice (some ⟨H.next, 0, 0, 0, 1⟩) n (n + 70)) (H.upd [] [.made (ints (n + 70) fun j => if j < n then x j else -77) 1 true]) := by
  have s1 := h1.sl.at 0
  have l := lent_loop s1 h1.bare hn (x := x) 70 0 (by omega)
  rw [show (ints (n + 70) fun j => if j < n then x j else if j < n + 0 then -77 else 0) = (ints (n + 70) fun j => if j < n then x j else 0) from ints_congr fun j hj => by by_cases h : j < n <;> simp [h]] at l
  have hx : elemsOf 1 (.slice (o.map fun a => { a with id := 0 }) n c) (AHeap.rows 11 [(0, b), (5, ABlk.made (List.replicate (n + 70) (AVal.int IntKind.i64 0)) 1 true)]) = some (ints n x) := elemsOf_slice s1 (by kernel_rfl) h1.el
  have hp : (ABlk.made (List.replicate (n + 70) (AVal.int IntKind.i64 0)) 1 true).put (0 + 0) (ints n x) = .made (ints (n + 70) fun j => if j < n then x j else 0) 1 true := by
    rw [put_made, ints_zero, putAll_ints (by omega)]
    congr 1
    refine ints_congr fun j hj => ?_
    simp
  have k := (lent_call _ n c b (.made (ints (n + 70) fun j => if j < n then x j else 0) 1 true) (.made (ints (n + 70) fun j => if j < n then x j else -77) 1 true) (by omega) (by omega) (by
      by_cases h0 : n = 0
      · subst h0
        refine (app_none slInt (hx.trans (by simp [ints])) (by simp) (by simp) (b := ABlk.made (List.replicate (0 + 70) (AVal.int IntKind.i64 0)) 1 true) (fun a ha => by simp at ha; subst ha; exact ⟨by kernel_rfl, rfl⟩) (by simp) (by simp)).trans ?_
        rw [show (ints (0 + 70) fun j => if j < 0 then x j else 0) = List.replicate (0 + 70) (AVal.int IntKind.i64 0) by rw [ints_zero]; exact ints_congr fun j _ => by simp]
      · refine (app_put slInt hx (by intro h; have := congrArg List.length h; simp at this; omega) (b := ABlk.made (List.replicate (n + 70) (AVal.int IntKind.i64 0)) 1 true) (by simp; omega) (by simp; omega) (by kernel_rfl) rfl (by simp) rfl rfl (by simp [ABlk.made])).trans ?_
        rw [hp, ints_length, Nat.zero_add]
        show some _ = some _
        kernel_rfl) (Runs.of_loops l) (aslice_to (d := ⟨.slice 3, 1, 24, some (.slice none 0 0)⟩) (xd := ⟨.int .i64, 1, 8, some (.int .i64 0)⟩) (by kernel_rfl) rfl (by kernel_rfl) rfl (by omega))).new1 (bn := .made (ints (n + 70) fun j => if j < n then x j else -77) 1 true) (by simp [h1.bare]) (fun e he => ints_bare _ _ e he) (by kernel_rfl) (by kernel_rfl) (by simp) (by simp [Clos, Clo, s1.clo]) (H := H) [id] (by simp) (by simp [h1.lt]) (by simp [h1.get])
  simpa [h1.sl.back (id' := 0) (r := toBig [id] H.next) rfl, AVal.ren] using k

theorem kept_in (o : Option AAddr) (n c ver off : Nat) (b : ABlk) (l : List AVal) (i : Nat) (x : Int) (hc_0 : (↑i : Int) < (↑(n + 70) : Int)) (hc_1 : (↑i : Int) < (↑n : Int)) (hc_2 : 0 ≤ (↑i : Int) ∧ (↑i : Int) < (↑(n + 70) : Int) ∧ 1 = 1) (hc_3 : ABlk.elem? (ABlk.made (l) 1 true) 0 (0 + Int.toNat (↑i : Int)) = some (AVal.int IntKind.i64 x)) (hc_4 : aindexAddr (AEnv.D env) 27 (AVal.slice o n c) (AVal.int IntKind.i64 (↑i : Int)) = some (AVal.ptr (some ⟨0, ver, off + i, 0, 1⟩))) (hc_5 : ABlk.elem? b ver (off + i) = some (AVal.int IntKind.i64 x)) (hc_6 : x = x) (hc_7 : ¬ ((↑i : Int) ≥ (↑n : Int))) (hc_8 : -9223372036854775808 ≤ (↑i : Int) + 1 ∧ (↑i : Int) + (1 : Int) ≤ 9223372036854775807) :
    Runs Try.prog 2 46 (loopAt Try.prog 25 0) [(1, .slice o n c), (5, .slice (some ⟨1, 0, 0, 0, 1⟩) (n + 70) (n + 70)), (13, .int .i64 (n + 70 : Nat)), (14, .int .i64 i)] (AHeap.rows 12 [(0, b), (1, .made l 1 true)]) AExit.normal [(1, AVal.slice o n c), (5, AVal.slice (some ⟨1, 0, 0, 0, 1⟩) (n + 70) (n + 70)), (13, AVal.int IntKind.i64 (↑(n + 70) : Int)), (14, AVal.int IntKind.i64 ((↑i : Int) + 1))] (AHeap.rows 45 [(0, b), (1, (ABlk.made (l) 1 true))]) :=
  ppath_runs env_ok mixed (hs := [.val 3000 (.bool true), .val 5003 (.bool true), .go 5007, .ld 5008 (.int .i64 x), .val 5011 (.ptr (some ⟨0, ver, off + i, 0, 1⟩)), .ld 5012 (.int .i64 x), .val 5013 (.bool false), .val 5019 (.bool false), .go 7000]) (keep := [1, 5, 13, 14]) (by kernel_rfl) (All.cons (okT hc_0) (All.cons (okT hc_1) (All.cons (hc_2) (All.cons (hc_3) (All.cons (hc_4) (All.cons (hc_5) (All.cons (neF hc_6) (All.cons (okF hc_7) (All.cons (hc_8) (All.nil))))))))))

theorem kept_out (o : Option AAddr) (n c : Nat) (b : ABlk) (l : List AVal) (i : Nat) (hc_0 : (↑i : Int) < (↑(n + 70) : Int)) (hc_1 : ¬ ((↑i : Int) < (↑n : Int))) (hc_2 : (↑i : Int) ≥ (↑n : Int)) (hc_3 : 0 ≤ (↑i : Int) ∧ (↑i : Int) < (↑(n + 70) : Int) ∧ 1 = 1) (hc_4 : ABlk.elem? (ABlk.made (l) 1 true) 0 (0 + Int.toNat (↑i : Int)) = some (AVal.int IntKind.i64 (-77))) (hc_6 : -9223372036854775808 ≤ (↑i : Int) + 1 ∧ (↑i : Int) + (1 : Int) ≤ 9223372036854775807) :
    Runs Try.prog 2 46 (loopAt Try.prog 25 0) [(1, .slice o n c), (5, .slice (some ⟨1, 0, 0, 0, 1⟩) (n + 70) (n + 70)), (13, .int .i64 (n + 70 : Nat)), (14, .int .i64 i)] (AHeap.rows 12 [(0, b), (1, .made l 1 true)]) AExit.normal [(1, AVal.slice o n c), (5, AVal.slice (some ⟨1, 0, 0, 0, 1⟩) (n + 70) (n + 70)), (13, AVal.int IntKind.i64 (↑(n + 70) : Int)), (14, AVal.int IntKind.i64 ((↑i : Int) + 1))] (AHeap.rows 45 [(0, b), (1, (ABlk.made (l) 1 true))]) :=
  ppath_runs env_ok mixed (hs := [.val 3000 (.bool true), .val 5003 (.bool false), .val 5019 (.bool true), .go 5023, .ld 5024 (.int .i64 (-77)), .val 5025 (.bool false), .go 7000]) (keep := [1, 5, 13, 14]) (by kernel_rfl) (All.cons (okT hc_0) (All.cons (okF hc_1) (All.cons (okT hc_2) (All.cons (hc_3) (All.cons (hc_4) (All.cons (show some (AVal.bool false) = some (AVal.bool false) from congrArg (fun q => some (AVal.bool q)) (rfl)) (All.cons (hc_6) (All.nil))))))))

theorem kept_end (o : Option AAddr) (n c : Nat) (b : ABlk) (l : List AVal) (i : Nat) (hc_0 : ¬ ((↑i : Int) < (↑(n + 70) : Int))) :
    Runs Try.prog 2 46 (loopAt Try.prog 25 0) [(1, .slice o n c), (5, .slice (some ⟨1, 0, 0, 0, 1⟩) (n + 70) (n + 70)), (13, .int .i64 (n + 70 : Nat)), (14, .int .i64 i)] (AHeap.rows 12 [(0, b), (1, .made l 1 true)]) (AExit.exit 0) [] (AHeap.rows 13 [(0, b), (1, (ABlk.made (l) 1 true))]) :=
  ppath_runs env_ok mixed (hs := [.val 3000 (.bool false)]) (keep := []) (by kernel_rfl) (All.cons (okF hc_0) (All.nil))

theorem kept_call (o : Option AAddr) (n c : Nat) (b : ABlk) (l : List AVal) (hc_0 : -9223372036854775808 ≤ (↑n : Int) + 70 ∧ (↑n : Int) + (70 : Int) ≤ 9223372036854775807) (hc_1 : aslice (AEnv.D env) 27 (AVal.slice (some ⟨1, 0, 0, 0, 1⟩) n (n + 70)) none (some (AVal.int IntKind.i64 ((↑n : Int) + 70))) none = some (AVal.slice (some ⟨1, 0, 0, 0, 1⟩) (n + 70) (n + 70))) (hc_2 : Runs Try.prog 2 46 (Code.loop (loopAt Try.prog 25 0)) [(1, AVal.slice o n c), (5, AVal.slice (some ⟨1, 0, 0, 0, 1⟩) (n + 70) (n + 70)), (13, AVal.int IntKind.i64 (↑(n + 70) : Int)), (14, AVal.int IntKind.i64 (0))] (AHeap.rows 12 [(0, b), (1, ABlk.made l 1 true)]) (AExit.exit 0) [] (AHeap.rows 13 [(0, b), (1, (ABlk.made (l) 1 true))])) :
    FDoes Try.prog 25 [.slice (some ⟨1, 0, 0, 0, 1⟩) n (n + 70), .slice o n c] (AHeap.of [b, .made l 1 true]) (AVal.bool true) (AHeap.rows 14 [(0, b), (1, (ABlk.made (l) 1 true))]) :=
  pcall_does env_ok mixed (hs := [.go 1003, .val 1004 (.slice (some ⟨1, 0, 0, 0, 1⟩) (n + 70) (n + 70)), .keep [1, 5, 13, 14], .loop [] (AHeap.rows 13 [(0, b), (1, .made l 1 true)]) (.exit 0)]) (rs := []) (by kernel_rfl) (All.cons (hc_0) (All.cons (hc_1) (All.cons (hc_2) (All.nil))))


theorem kept_loop {o : Option AAddr} {n c ver off : Nat} {b : ABlk} (hs : SlArg o n c 0 ver off 1) (hb : BareB b) {x : Nat → Int} (hx : ∀ j, j < n → b.elem? ver (off + j) = some (.int .i64 (x j))) (hn : n ≤ 2 ^ 44) :
    ∀ (k i : Nat), i + k = n + 70 → Loops Try.prog 2 46 (loopAt Try.prog 25 0) [(1, .slice o n c), (5, .slice (some ⟨1, 0, 0, 0, 1⟩) (n + 70) (n + 70)), (13, .int .i64 (n + 70 : Nat)), (14, .int .i64 i)]
      (AHeap.rows 12 [(0, b), (1, .made (ints (n + 70) fun j => if j < n then x j else -77) 1 true)]) (.exit 0) [] (AHeap.rows 13 [(0, b), (1, .made (ints (n + 70) fun j => if j < n then x j else -77) 1 true)])
  | 0, i, e => by
    obtain rfl : i = n + 70 := by omega
    exact Loops.last (by simp) (kept_end o n c b _ (n + 70) (by omega))
  | k + 1, i, e => by
    have hc : Clo (Ids [0, 1]) (.slice o n c) := hs.clo (by simp [Ids])
    have hel : (ABlk.made (ints (n + 70) fun j => if j < n then x j else -77) 1 true).elem? 0 (0 + Int.toNat (i : Int)) = some (.int .i64 (if i < n then x i else -77)) := by
      rw [show 0 + Int.toNat (i : Int) = i by simp]; exact elem_made (ints_get (by omega))
    have dr : ∀ K, Ent 2 46 [(1, .slice o n c), (5, .slice (some ⟨1, 0, 0, 0, 1⟩) (n + 70) (n + 70)), (13, .int .i64 (n + 70 : Nat)), (14, .int .i64 (i + 1 : Nat))] (AHeap.rows K [(0, b), (1, .made (ints (n + 70) fun j => if j < n then x j else -77) 1 true)])
        [(1, .slice o n c), (5, .slice (some ⟨1, 0, 0, 0, 1⟩) (n + 70) (n + 70)), (13, .int .i64 (n + 70 : Nat)), (14, .int .i64 (i + 1 : Nat))] (AHeap.rows 12 [(0, b), (1, .made (ints (n + 70) fun j => if j < n then x j else -77) 1 true)]) := fun K =>
      Ent.drop (by kernel_rfl) (by kernel_rfl) (by kernel_rfl) (by kernel_rfl) (by simp [All_cons, All_nil, Clo, hc]; simp [Ids]) (by simp only [List.map, All_cons, All_nil, and_true]; exact ⟨hb.clo _, fun e he => (ints_bare _ _ e he).clo _⟩)
    by_cases h : i < n
    · rw [if_pos h] at hel
      exact Loops.round (kept_in o n c ver off b _ i (x i) (by omega) (by omega) ⟨by omega, by omega, rfl⟩ hel (ix_intN hs h) (hx i h) rfl (by omega) (by omega)) (dr _) (kept_loop hs hb hx hn k (i + 1) (by omega))
    · rw [if_neg h] at hel
      exact Loops.round (kept_out o n c b _ i (by omega) (by omega) (by omega) ⟨by omega, by omega, rfl⟩ hel (by omega)) (dr _) (kept_loop hs hb hx hn k (i + 1) (by omega))

/-- lent numbers that were not touched -/
theorem kept_does {H : AHeap} {o : Option AAddr} {n c id id2 ver off : Nat} {b : ABlk} {x : Nat → Int} (h1 : IntsAt H o n c id ver off b x) (hg : H.get id2 = some (.made (ints (n + 70) fun j => if j < n then x j else -77) 1 true)) (hlt : id2 < H.next) (hne : id ≠ id2) (hn : n ≤ 2 ^ 44) :
    FDoes Try.prog 25 [.slice (some ⟨id2, 0, 0, 0, 1⟩) n (n + 70), .slice o n c] H (.bool true) H := by
  have s1 := h1.sl.at 0
  have k := (kept_call _ n c b _ (by omega) (aslice_to (d := ⟨.slice 3, 1, 24, some (.slice none 0 0)⟩) (xd := ⟨.int .i64, 1, 8, some (.int .i64 0)⟩) (m := n + 70) (by kernel_rfl) rfl (by kernel_rfl) rfl (by omega)) (Runs.of_loops (kept_loop s1 h1.bare h1.el hn (n + 70) 0 (by omega)))).pure
    (by simp [h1.bare, BareB, ABlk.made]; exact ⟨h1.bare, ints_bare _ _⟩) (by kernel_rfl) (Bare.bool _) (by simp [Clos, Clo, s1.clo]) (H := H) [id, id2] (by simp [hne]) (by simp [h1.lt, hlt]) (by simp [h1.get, hg])
  simpa [h1.sl.back (id' := 0) (r := toBig [id, id2] H.next) rfl, AVal.ren, AAddr.ren, toBig] using k

end Go.Proofs.Ytgfkllnaeekjeaa
