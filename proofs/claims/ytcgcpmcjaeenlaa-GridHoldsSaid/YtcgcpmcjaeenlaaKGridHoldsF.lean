/-
  Parts of the proof, one behind the other:
  The contract of grid.Tracks where items are auto or fixed and all of it fits.
  grid.board.across and down: what they answer.
  grid.board.strip: the walk.
  grid.board.strip: what it answers.
  grid.board.behind: the walk.
  grid.board.behind: what it answers.
  grid.Flow: the walk of its loops.
  grid.Flow: its call.
  grid.Flow: what it answers.
  grid.Flow: its second loop, and what it answers in every memory.
  grid.Flow in every memory: what it answers.
  SPANS THAT SAY NOTHING OF THEIR PLACE (plain law), and rows of pairs of numbers.
  round and ends of the statements of chapter 9: the walk.
  round and ends of the statements of chapter 9, told.
  'frescolaw09.alive' answers true, wherever it is called (a closed run).
  The law GridHolds: the walk.
  The law frescolaw09.GridHolds.
  The law frescolaw09.GridHolds, all of it.
-/
import Derived.Test.YtcgcpmcjaeenlaaKGridHoldsE

namespace Go.Proofs.Ytcgcpmcjaeenlaa
open Go.Lift
set_option maxRecDepth 1000000
set_option linter.unusedSimpArgs false
set_option linter.unusedVariables false
set_option linter.unusedSectionVars false

theorem app_itS1 {o : Option AAddr} {n c id ver off : Nat} (hs : SlArg o n c id ver off 5) (hne : ¬ n = 0) (hn : n ≤ 2 ^ 40) {b : ABlk} {x : Nat → It} (hx : ∀ j, j < n → b.elem? ver (off + j) = some (x j).val) {r0 N : Nat} {hp : AHeap} (hg : hp.get id = some b) (hr : hp.get r0 = some (.made [] 5 true)) :
    abuiltin env .append #[30, 30] [.slice (some ⟨r0, 0, 0, 0, 5⟩) 0 0, .slice o n c] N hp = some (.slice (some ⟨N, 0, 0, 0, 5⟩) n n, hp.set N (.made (frows n x) 5 false)) := by
  have he : elemsOf 5 (.slice o n c) hp = some (frows n x) := elemsOf_slice hs hg hx
  refine (app_copy slIt9 he (b := .made [] 5 true) (old := []) (a := ⟨r0, 0, 0, 0, 5⟩) (len := 0) (cap := 0) (by simp; omega) (by simp; omega) hr rfl (by simp; omega) rfl (by simp [elemsOf, hr])).trans ?_
  rw [List.nil_append, frows_length, Nat.zero_add]
  rfl
theorem app_itS0 {o : Option AAddr} {c id ver off : Nat} (hs : SlArg o 0 c id ver off 5) {b : ABlk} {r0 N : Nat} {hp : AHeap} (hg : hp.get id = some b) (hr : hp.get r0 = some (.made [] 5 true)) :
    abuiltin env .append #[30, 30] [.slice (some ⟨r0, 0, 0, 0, 5⟩) 0 0, .slice o 0 c] N hp = some (.slice (some ⟨r0, 0, 0, 0, 5⟩) 0 0, hp) := by
  have he : elemsOf 5 (.slice o 0 c) hp = some [] := elemsOf_slice (f := fun _ => It00.val) hs hg (fun j hj => by omega)
  exact app_none slIt9 he (b := .made [] 5 true) (o := some ⟨r0, 0, 0, 0, 5⟩) (len := 0) (cap := 0) (by simp) (by simp) (fun a ha => by simp at ha; subst ha; exact ⟨hr, rfl⟩) (by simp) (by simp)

theorem sideZ_side (x : Int) : sideZ (sideZ x) = sideZ x := by unfold sideZ; omega
theorem trw_of (t : Tr) (r : List Tr) : (t :: r).map Tr.val = trw (r.length + 1) (fun j => (t :: r)[j]?.getD t) fun k => k := by
  apply List.ext_getElem (by simp)
  intro j h1 h2
  simp only [trw, List.getElem_map, List.getElem_range]
  rw [List.getElem?_eq_getElem (by simpa using h1)]; rfl
theorem nrow_weak (t : Tr) (r : List Tr) : Weaker (nrow t r) (TRow r.length (if r.length = 0 then 0 else 1) (trw (r.length + 1) (fun j => (t :: r)[j]?.getD t) fun k => k)) :=
  ⟨(trw_of t r).symm, rfl, rfl, rfl, rfl, rfl, Nat.zero_le _⟩
def lessT (w : Nat → Tr) (p q : Nat) : Bool := decide ((w p).b < (w q).b)
theorem lessT_weak (w : Nat → Tr) : Weak (lessT w) := ⟨fun p q h => by simp [lessT] at *; omega, fun p q r h1 h2 => by simp [lessT] at *; omega⟩

section
variable {n c v0 off k ck vn offn : Nat} {o on : Option AAddr} {b0 bn : ABlk} {it : Nat → It} {y : Nat → Tr} (hn : n ≤ 4096) (hk : k ≤ 4096) (hb0 : BareB b0) (hbn : BareB bn) (s0 : SlArg o n c 0 v0 off 5) (hel0 : ∀ j, j < n → b0.elem? v0 (off + j) = some (it j).val) (hok : ∀ j, j < n → ItOk (it j)) (sn : SlArg on k ck 1 vn offn 3) (hye : ∀ j, j < k → bn.elem? vn (offn + j) = some (y j).val) (ext gap : Int)
  {M B : Int} (hM : 0 ≤ M ∧ M ≤ 4096) (hyM : ∀ j, (y j).c ≤ M) (hB : HInv n it (fun j => has0 (it j)) (fun j => has0 (it j)) B) (hfit : B + M * k + M * k ≤ 4096) (hfit2 : B + M * k + M * k ≤ sideZ ext - sideZ gap * ((n : Int) - 1))
include hn hk hb0 hbn s0 hel0 hok sn hye hM hyM hB hfit hfit2

/-- what Tracks answers -/
def TkDone (n : Nat) (it : Nat → It) (y : Nat → Tr) (k : Nat) (gap : Int) (hf : Nat → Int) : Prop :=
  ∃ (w : Nat → Tr) (σ : Nat → Nat), (∀ j, (h : j < (nst n it (fun j => has0 (it j)) y k).2.length) → w j = (nst n it (fun j => has0 (it j)) y k).2[j]) ∧ Same (fun j => j) σ 0 (nst n it (fun j => has0 (it j)) y k).2.length ∧ hf = sst it (sideZ gap) (fun i => w (σ i)) (nst n it (fun j => has0 (it j)) y k).1 (nst n it (fun j => has0 (it j)) y k).2.length

theorem tk_fin {hf : Nat → Int} (hd : TkDone n it y k gap hf) : HInv n it (fun j => has0 (it j)) hf (B + M * k + M * k) := by
  obtain ⟨w, σ, d1, d2, rfl⟩ := hd
  obtain ⟨q1, q2, q3⟩ := holds_law (sideZ_range gap).1 (M := M) hM.1 hM.2 hyM hB d1 d2
  have : M * ((nst n it (fun j => has0 (it j)) y k).2.length : Int) ≤ M * (k : Int) := Int.mul_le_mul_of_nonneg_left (by omega) hM.1
  exact ⟨q1.lo, q1.fix, by have := q1.sum; omega, q1.nn⟩

theorem tk_sizes {hf : Nat → Int} (hd : TkDone n it y k gap hf) : ∃ o' c', SlArg o' n c' 66 0 0 1 ∧ c' = n ∧ FDoes Try.prog 45 [.slice (some ⟨11, 0, 0, 0, 5⟩) n n, .int .i64 (sideZ ext), .int .i64 (sideZ gap)] (tkH 66 b0 bn (.made (frows n fun j => fixI (hf j) (it j).mn) 5 false) n hf []) (.slice o' n c') (tkH 67 b0 bn (.made (frows n fun j => fixI (hf j) (it j).mn) 5 false) n hf [(66, .made (ints n hf) 1 true)]) := by
  have iv := tk_fin hn hk hb0 hbn s0 hel0 hok sn hye ext gap hM hyM hB hfit hfit2 hd
  obtain ⟨o', c', q1, q2, q3⟩ := szf_does (H := tkH 66 b0 bn (.made (frows n fun j => fixI (hf j) (it j).mn) 5 false) n hf []) (o := some ⟨11, 0, 0, 0, 5⟩) (n := n) (c := n) (id := 11) (ver := 0) (off := 0) (b := .made (frows n fun j => fixI (hf j) (it j).mn) 5 false) (.inl rfl) (by kernel_rfl) (Nat.le_of_ble_eq_true (by kernel_rfl)) (frows_bare _ _ _) hn (x := hf) (mn := fun j => (it j).mn) (fun j hj => by
    have := iv.le j hj
    have lo := iv.lo j hj
    rcases hok j hj with ⟨k0, k1, k2, k3, k4, k5⟩ | ⟨k0, k1, k2, k3, k4, k5⟩
    · simp only [has0] at lo; rw [if_pos k0] at lo; exact ⟨by omega, k4, lo⟩
    · exact ⟨by omega, by omega, by omega⟩) (fun j hj => by rw [Nat.zero_add]; exact elem_made (frows_get hj)) (sideZ ext) (sideZ gap) (by rw [sideZ_side, sideZ_side]; have := iv.sum; omega) (N := 66) (by kernel_rfl)
  exact ⟨o', c', q1, q2, q3.to (by kernel_rfl)⟩

/-- the parts behind the wide needs -/
theorem tk_l3 {hf : Nat → Int} (hd : TkDone n it y k gap hf) (l : List (Nat × ABlk)) (hl : (tkH 127 b0 bn (.made (frows n it) 5 false) n hf l).get 0 = some b0 ∧ (tkH 127 b0 bn (.made (frows n it) 5 false) n hf l).get 1 = some bn ∧ (tkH 127 b0 bn (.made (frows n it) 5 false) n hf l).get 11 = some (.made (frows n it) 5 false) ∧ (tkH 127 b0 bn (.made (frows n it) 5 false) n hf l).get 15 = some (.made (ints n hf) 1 true)) :
    Runs Try.prog 2 182 (.loop (loopAt Try.prog 18 3)) [(0, .slice (some ⟨11, 0, 0, 0, 5⟩) n n), (2, .int .i64 ext), (3, .int .i64 (sideZ gap)), (9, .slice (some ⟨15, 0, 0, 0, 1⟩) n n), (153, .slice (some ⟨11, 0, 0, 0, 5⟩) n n), (154, .int .i64 n), (155, .int .i64 0)] (tkH 127 b0 bn (.made (frows n it) 5 false) n hf l) (.exit 7) [(0, .slice (some ⟨11, 0, 0, 0, 5⟩) n n), (2, .int .i64 ext), (3, .int .i64 (sideZ gap))] (tkH 60 b0 bn (.made (frows n fun j => fixI (hf j) (it j).mn) 5 false) n hf []) := by
  have iv := tk_fin hn hk hb0 hbn s0 hel0 hok sn hye ext gap hM hyM hB hfit hfit2 hd
  have l3 := tk_loop3 hn hb0 hbn hok (h := hf) (fun j hj => by have := iv.le j hj; omega) (fun j hj e => by rw [iv.fix j hj e]; simp only [has0]; rw [if_neg (by omega)]) ext (sideZ gap) n 0 (by omega)
  rw [show (frows n fun j => if j < 0 then fixI (hf j) (it j).mn else it j) = frows n it from frows_congr fun j hj => by rw [if_neg (by omega)]] at l3
  obtain ⟨g0, g1, g11, g15⟩ := hl
  refine Runs.of_loops (l3.pre ?_)
  exact Ent.drop (by simp only [List.map_cons, List.map_nil]; rw [g0, g1, g11, g15]) (by kernel_rfl) (by kernel_rfl) (by kernel_rfl) (by simp [All_cons, All_nil, Clo] <;> simp [Ids]) (by simp only [List.map, All_cons, All_nil, and_true]; exact ⟨hb0.clo _, hbn.clo _, (frows_bare _ _ _).clo _, fun e he => (ints_bare _ _ e he).clo _⟩)

theorem tk_l0 (hne : ¬ n = 0) : Runs Try.prog 2 182 (Code.loop (loopAt Try.prog 18 0)) [(0, .slice (some ⟨11, 0, 0, 0, 5⟩) n n), (1, .slice on k ck), (2, .int .i64 ext), (3, .int .i64 (sideZ gap)), (9, .slice (some ⟨15, 0, 0, 0, 1⟩) n n), (30, .slice (some ⟨11, 0, 0, 0, 5⟩) n n), (31, .int .i64 n), (32, .int .i64 0)] (AHeap.rows 20 [(0, b0), (1, bn), (9, .made [] 5 true), (11, .made (frows n it) 5 false), (15, .made (List.replicate n (.int .i64 0)) 1 true)]) (.exit 0) [(0, .slice (some ⟨11, 0, 0, 0, 5⟩) n n), (1, .slice on k ck), (2, .int .i64 ext), (3, .int .i64 (sideZ gap)), (9, .slice (some ⟨15, 0, 0, 0, 1⟩) n n)] (tkH 34 b0 bn (.made (frows n it) 5 false) n (fun j => has0 (it j)) []) := by
  have d4 : Clo (Ids [0, 1, 11, 15]) (.slice on k ck) := sn.clo (by simp [Ids])
  have l0 := tk_loop0 hn hk hb0 hbn (frows_bare n it false) (fun j hj => by rw [Nat.zero_add]; exact elem_made (frows_get hj)) hok sn hye ext (sideZ gap) n 0 (by omega)
  unfold tkH at l0 ⊢
  rw [← ints_zeroZ n fun j => has0 (it j)] at l0
  refine Runs.of_loops (l0.pre ?_)
  exact Ent.drop (by kernel_rfl) (by kernel_rfl) (by kernel_rfl) (by kernel_rfl) (by simp [All_cons, All_nil, Clo, d4] <;> simp [Ids]) (by simp only [List.map, All_cons, All_nil, and_true]; exact ⟨hb0.clo _, hbn.clo _, (frows_bare _ _ _).clo _, fun e he => by obtain ⟨_, rfl⟩ := List.mem_replicate.1 he; exact (Bare.int _ _).clo _⟩)

theorem tk_l1 : Loops Try.prog 2 182 (loopAt Try.prog 18 1) [(0, .slice (some ⟨11, 0, 0, 0, 5⟩) n n), (2, .int .i64 ext), (3, .int .i64 (sideZ gap)), (9, .slice (some ⟨15, 0, 0, 0, 1⟩) n n), (12, .slice none 0 0), (61, .slice on k ck), (62, .int .i64 k), (63, .int .i64 0)] (tkH 38 b0 bn (.made (frows n it) 5 false) n (fun j => has0 (it j)) []) (.exit 3) [(0, .slice (some ⟨11, 0, 0, 0, 5⟩) n n), (2, .int .i64 ext), (3, .int .i64 (sideZ gap)), (9, .slice (some ⟨15, 0, 0, 0, 1⟩) n n), (12, wv (nst n it (fun j => has0 (it j)) y k).2)] (tkH 110 b0 bn (.made (frows n it) 5 false) n (nst n it (fun j => has0 (it j)) y k).1 (wr (nst n it (fun j => has0 (it j)) y k).2)) := by
  have d4 : Clo (Ids [0, 1, 11, 15]) (.slice on k ck) := sn.clo (by simp [Ids])
  have l1 := tk_loop1 hn hk hb0 hbn (frows_bare n it false) (fun j hj => by rw [Nat.zero_add]; exact elem_made (frows_get hj)) hok sn hye ext (sideZ gap) (fun j => has0 (it j)) k 0 (by omega)
  rw [show nst n it (fun j => has0 (it j)) y 0 = (fun j => has0 (it j), []) from rfl] at l1
  simp only [wv, wk, wr] at l1
  refine l1.pre ?_
  exact Ent.drop (by kernel_rfl) (by kernel_rfl) (by kernel_rfl) (by kernel_rfl) (by simp [All_cons, All_nil, Clo, d4] <;> simp [Ids]) (by simp only [List.map, All_cons, All_nil, and_true]; exact ⟨hb0.clo _, hbn.clo _, (frows_bare _ _ _).clo _, fun e he => (ints_bare _ _ e he).clo _⟩)

theorem tk_small (hne : ¬ n = 0) : ∃ hf o' c', TkDone n it y k gap hf ∧ SlArg o' n c' 66 0 0 1 ∧ c' = n ∧ ∃ ri l, FDoes Try.prog 18 [.slice o n c, .slice on k ck, .int .i64 ext, .int .i64 gap] (AHeap.of [b0, bn]) (.slice o' n c') (tkH 67 b0 bn ri n l [(66, .made (ints n hf) 1 true)]) := by
  have l1 := tk_l1 hn hk hb0 hbn s0 hel0 hok sn hye ext gap hM hyM hB hfit hfit2
  have iv1 := nst_inv (sideZ_range gap).1 (M := M) hM.1 hM.2 hyM hB k
  have l0 := tk_l0 hn hk hb0 hbn s0 hel0 hok sn hye ext gap hM hyM hB hfit hfit2 hne
  have ap := fun (K : Nat) (hp : AHeap) (h1 : hp.get 0 = some b0) (h2 : hp.get 9 = some (.made [] 5 true)) => app_itS1 s0 hne (by omega) hel0 (N := K) (hp := hp) h1 h2
  cases hws : (nst n it (fun j => has0 (it j)) y k).2 with
  | nil =>
    have hd : TkDone n it y k gap (nst n it (fun j => has0 (it j)) y k).1 := ⟨fun _ => ⟨0, 0, 0⟩, fun j => j, fun j h => by rw [hws] at h; exact absurd h (Nat.not_lt_zero _), Same.refl _ _ _, by rw [hws]; rfl⟩
    obtain ⟨o', c', q1, q2, q3⟩ := tk_sizes hn hk hb0 hbn s0 hel0 hok sn hye ext gap hM hyM hB hfit hfit2 hd
    have l3 := tk_l3 hn hk hb0 hbn s0 hel0 hok sn hye ext gap hM hyM hB hfit hfit2 hd [] ⟨by kernel_rfl, by kernel_rfl, by kernel_rfl, by kernel_rfl⟩
    rw [hws] at l1
    generalize (nst n it (fun j => has0 (it j)) y k).1 = h1 at *
    have l2 := Loops.last (by simp) (tk_sN n 0 0 0 0 0 b0 bn (.made (frows n it) 5 false) b0 (ints n h1) [] ext (sideZ gap) 0)
    refine ⟨h1, o', c', hd, q1, q2, .made (frows n fun j => fixI (h1 j) (it j).mn) 5 false, h1, ?_⟩
    exact tk_callN o on n c k ck 0 0 b0 bn (.made (frows n it) 5 false) b0 b0 (.made (ints n h1) 1 true) (ints n fun j => has0 (it j)) (ints n h1) (ints n h1) (frows n fun j => fixI (h1 j) (it j).mn) o' c' ext gap (by omega) (gside_does _ _) ((ap 11 _ (by kernel_rfl) (by kernel_rfl)).trans (by kernel_rfl)) (by omega) l0 (Runs.of_loops l1) (sortN_does _)
      (Runs.of_loops ((l2.post (Ent.drop (by kernel_rfl) (by kernel_rfl) (by kernel_rfl) (by kernel_rfl) (by simp [All_cons, All_nil, Clo] <;> simp [Ids]) (by simp only [List.map, All_cons, All_nil, and_true]; exact ⟨hb0.clo _, hbn.clo _, (frows_bare _ _ _).clo _, fun e he => (ints_bare _ _ e he).clo _⟩))).pre (Ent.drop (by kernel_rfl) (by kernel_rfl) (by kernel_rfl) (by kernel_rfl) (by simp [All_cons, All_nil, Clo] <;> simp [Ids]) (by simp only [List.map, All_cons, All_nil, and_true]; exact ⟨hb0.clo _, hbn.clo _, (frows_bare _ _ _).clo _, fun e he => (ints_bare _ _ e he).clo _⟩)))) l3 (gside_does _ _) q3
  | cons t r =>
    have hwl : (nst n it (fun j => has0 (it j)) y k).2.length = r.length + 1 := by rw [hws]; rfl
    have hN : r.length + 1 ≤ k := by rw [← hwl]; exact iv1.2.2.1
    have hw : ∀ j, (h : j < (nst n it (fun j => has0 (it j)) y k).2.length) → (fun j => (t :: r)[j]?.getD t) j = (nst n it (fun j => has0 (it j)) y k).2[j] := fun j h => by
      have e : (t :: r)[j]? = some (nst n it (fun j => has0 (it j)) y k).2[j] := by rw [← hws]; exact List.getElem?_eq_getElem h
      simp only [e]; rfl
    have wide : ∀ j, j < r.length + 1 → WideOk n M ((t :: r)[j]?.getD t) := fun j hj => by
      have e := hw j (by omega)
      simp only at e
      rw [e]; exact iv1.2.1 _ (List.getElem_mem _)
    obtain ⟨σ, σ1, σ2, σ3⟩ := q_sort_does (fun j => (t :: r)[j]?.getD t) r.length (if r.length = 0 then 0 else 1) (N := r.length + 1) (by omega) (b1 := b0) (b2 := bn) (hb0.clo _) (hbn.clo _) (g := 43) (cs := []) (by simp [Clos]) (lessT_weak fun j => (t :: r)[j]?.getD t) (fun K π p q hK hp hq => ⟨((t :: r)[p]?.getD t).b - ((t :: r)[q]?.getD t).b, by simp only [lessT, decide_eq_true_eq]; omega, cmp_does (x := (t :: r)[p]?.getD t) (y := (t :: r)[q]?.getD t) (by have h1 := wide p hp; have h2 := wide q hq; unfold WideOk at h1 h2; omega) _⟩) (π := fun j => j) (fun k h => h) (fun i j h _ => h)
    have hd : TkDone n it y k gap (sst it (sideZ gap) (fun i => (t :: r)[σ i]?.getD t) (nst n it (fun j => has0 (it j)) y k).1 (r.length + 1)) := ⟨fun j => (t :: r)[j]?.getD t, σ, hw, by rw [hwl]; exact σ1, by rw [hwl]⟩
    have hwσ : ∀ i, i < r.length + 1 → WideOk n M ((t :: r)[σ i]?.getD t) := fun i hi => by
      obtain ⟨j, _, hj, e⟩ := σ1.from (Nat.zero_le i) hi
      rw [e]; exact wide j hj
    obtain ⟨o', c', q1, q2, q3⟩ := tk_sizes hn hk hb0 hbn s0 hel0 hok sn hye ext gap hM hyM hB hfit hfit2 hd
    have bT : ∀ π : Nat → Nat, BareB (TRow r.length (if r.length = 0 then 0 else 1) (trw (r.length + 1) (fun j => (t :: r)[j]?.getD t) fun k => π k)) := fun π => trw_bare _ _ _ _ _
    have l3 := tk_l3 hn hk hb0 hbn s0 hel0 hok sn hye ext gap hM hyM hB hfit hfit2 hd [(91, TRow r.length (if r.length = 0 then 0 else 1) (trw (r.length + 1) (fun j => (t :: r)[j]?.getD t) fun k => σ k))] ⟨by kernel_rfl, by kernel_rfl, by kernel_rfl, by kernel_rfl⟩
    have hmk : M * ((r.length + 1 : Nat) : Int) ≤ M * (k : Int) := Int.mul_le_mul_of_nonneg_left (by omega) hM.1
    have l2 := tk_loop2 hn hb0 hbn (frows_bare n it false) (fun j hj => by rw [Nat.zero_add]; exact elem_made (frows_get hj)) hok (h0 := fun j => has0 (it j)) (fun j _ => rfl) ext (g := sideZ gap) (sideZ_range gap) hM (vv := r.length) (q := r.length + 1) (bT σ) (w := fun i => (t :: r)[σ i]?.getD t) iv1.1 (by omega) (by omega) hwσ (fun i hi => by rw [Nat.zero_add]; exact q_trw_el hi) (r.length + 1) 0 (by omega)
    rw [hws] at l1
    generalize (nst n it (fun j => has0 (it j)) y k).1 = h1 at *
    generalize sst it (sideZ gap) (fun i => (t :: r)[σ i]?.getD t) h1 (r.length + 1) = hf at *
    simp only [wv, wr] at l1
    have l1w := l1.post (Ent.weakRows [(0, b0), (1, bn), (11, .made (frows n it) 5 false), (15, .made (ints n h1) 1 true)] [] (nrow_weak t r))
    have srt := σ3.upW (by simp only [List.mem_cons, List.not_mem_nil, or_false, forall_eq_or_imp, forall_eq]; exact ⟨bT _, hb0, hbn⟩) (by simp only [List.mem_cons, List.not_mem_nil, or_false, forall_eq_or_imp, forall_eq]; exact ⟨bT _, hb0, hbn⟩) (by simp) (by simp [Clos, Clo]) (H := AHeap.rows 112 [(0, b0), (1, bn), (11, .made (frows n it) 5 false), (15, .made (ints n h1) 1 true), (91, TRow r.length (if r.length = 0 then 0 else 1) (trw (r.length + 1) (fun j => (t :: r)[j]?.getD t) fun k => k))]) [91, 0, 1] (by simp) (by simp [AHeap.rows_next]) (by kernel_rfl)
    refine ⟨hf, o', c', hd, q1, q2, .made (frows n fun j => fixI (hf j) (it j).mn) 5 false, hf, ?_⟩
    exact tk_callG o on n c k ck (r.length + 1) r.length b0 bn (.made (frows n it) 5 false) (TRow r.length (if r.length = 0 then 0 else 1) (trw (r.length + 1) (fun j => (t :: r)[j]?.getD t) fun k => k)) (TRow r.length (if r.length = 0 then 0 else 1) (trw (r.length + 1) (fun j => (t :: r)[j]?.getD t) fun k => σ k)) (.made (ints n hf) 1 true) (ints n fun j => has0 (it j)) (ints n h1) (ints n hf) (frows n fun j => fixI (hf j) (it j).mn) o' c' ext gap (by omega) (gside_does _ _) ((ap 11 _ (by kernel_rfl) (by kernel_rfl)).trans (by kernel_rfl)) (by omega) l0 (Runs.of_loops l1w) (srt.to (by kernel_rfl))
      (Runs.of_loops (l2.pre (Ent.drop (by kernel_rfl) (by kernel_rfl) (by kernel_rfl) (by kernel_rfl) (by simp [All_cons, All_nil, Clo] <;> simp [Ids]) (by simp only [List.map, All_cons, All_nil, and_true]; exact ⟨hb0.clo _, hbn.clo _, (frows_bare _ _ _).clo _, fun e he => (ints_bare _ _ e he).clo _, (bT _).clo _⟩)))) l3 (gside_does _ _) q3
end

theorem nst_zero {it : Nat → It} {h0 : Nat → Int} {y : Nat → Tr} : ∀ i, nst 0 it h0 y i = (h0, [])
  | 0 => rfl
  | i + 1 => by rw [nst, nst_zero i, nstep, if_neg (by unfold okN; omega)]
def to9 (i : Nat) : Nat := if i = 11 then 9 else i

section
variable {c v0 off k ck vn offn : Nat} {o on : Option AAddr} {b0 bn : ABlk} {it : Nat → It} {y : Nat → Tr} (hk : k ≤ 4096) (hb0 : BareB b0) (hbn : BareB bn) (s0 : SlArg o 0 c 0 v0 off 5) (sn : SlArg on k ck 1 vn offn 3) (hye : ∀ j, j < k → bn.elem? vn (offn + j) = some (y j).val) (ext gap : Int)
include hk hb0 hbn s0 sn hye

theorem tk_smallZ : ∃ hf o' c', TkDone 0 it y k gap hf ∧ SlArg o' 0 c' 66 0 0 1 ∧ c' = 0 ∧ ∃ ri l, FDoes Try.prog 18 [.slice o 0 c, .slice on k ck, .int .i64 ext, .int .i64 gap] (AHeap.of [b0, bn]) (.slice o' 0 c') (tkH 67 b0 bn ri 0 l [(66, .made (ints 0 hf) 1 true)]) := by
  have d4 : Clo (Ids [0, 1, 11, 15]) (.slice on k ck) := sn.clo (by simp [Ids])
  have bi : BareB (.made [] 5 true) := fun e he => absurd he List.not_mem_nil
  have hd : TkDone 0 it y k gap (fun j => has0 (it j)) := ⟨fun _ => ⟨0, 0, 0⟩, fun j => j, fun j h => by rw [nst_zero] at h; exact absurd h (Nat.not_lt_zero _), by rw [nst_zero]; exact Same.refl _ _ _, by rw [nst_zero]; rfl⟩
  have hel : ∀ j, j < 0 → (ABlk.made [] 5 true).elem? 0 (0 + j) = some (it j).val := fun j hj => by omega
  have hok : ∀ j, j < 0 → ItOk (it j) := fun j hj => by omega
  have l0 := tk_loop0 (n := 0) (Nat.zero_le _) hk hb0 hbn bi hel hok sn hye ext (sideZ gap) 0 0 rfl
  have l1 := tk_loop1 (n := 0) (Nat.zero_le _) hk hb0 hbn bi hel hok sn hye ext (sideZ gap) (fun j => has0 (it j)) k 0 (by omega)
  rw [nst_zero, nst_zero] at l1
  simp only [wv, wk, wr] at l1
  have l2 := Loops.last (by simp) (tk_sN 0 0 0 0 0 0 b0 bn (.made [] 5 true) b0 (ints 0 fun j => has0 (it j)) [] ext (sideZ gap) 0)
  have l3 := Loops.last (by simp) (tk_feZ 0 0 b0 bn (.made [] 5 true) [] (ints 0 fun j => has0 (it j)) ext (sideZ gap) 0 0 0 0 0 (by omega))
  obtain ⟨o', c', q1, q2, q3⟩ := szf_does (H := tkH 66 b0 bn (.made [] 5 true) 0 (fun j => has0 (it j)) []) (o := some ⟨11, 0, 0, 0, 5⟩) (n := 0) (c := 0) (id := 11) (ver := 0) (off := 0) (b := .made [] 5 true) (.inl rfl) (by kernel_rfl) (Nat.le_of_ble_eq_true (by kernel_rfl)) bi (Nat.zero_le _) (x := fun j => has0 (it j)) (mn := fun j => (it j).mn) (fun j hj => by omega) (fun j hj => by omega) (sideZ ext) (sideZ gap) (by have h1 := sideZ_range (sideZ ext); have h2 := sideZ_range (sideZ gap); simp [sumTo]; omega) (N := 66) (by kernel_rfl)
  refine ⟨fun j => has0 (it j), o', c', hd, q1, q2, .made [] 5 true, fun j => has0 (it j), ?_⟩
  refine tk_callZ o on 0 c k ck 0 0 b0 bn (.made [] 5 true) b0 b0 (.made (ints 0 fun j => has0 (it j)) 1 true) (ints 0 fun j => has0 (it j)) (ints 0 fun j => has0 (it j)) (ints 0 fun j => has0 (it j)) [] o' c' ext gap (gside_does _ _) ((app_itS0 s0 (b := b0) (hp := ((AHeap.rows 13 [(0, b0), (1, bn)]).set 9 (.made [] 5 true))) (r0 := 9) (N := 11) (by kernel_rfl) (by kernel_rfl)).trans (by kernel_rfl)) (by decide) (Runs.of_loops (l0.pre ?_)) (Runs.of_loops (l1.pre (Ent.drop (by kernel_rfl) (by kernel_rfl) (by kernel_rfl) (by kernel_rfl) (by simp [All_cons, All_nil, Clo, d4] <;> simp [Ids]) (by simp only [List.map, All_cons, All_nil, and_true]; exact ⟨hb0.clo _, hbn.clo _, fun e he => absurd he List.not_mem_nil, fun e he => (ints_bare _ _ e he).clo _⟩)))) (sortN_does _)
      (Runs.of_loops ((l2.post (Ent.drop (by kernel_rfl) (by kernel_rfl) (by kernel_rfl) (by kernel_rfl) (by simp [All_cons, All_nil, Clo] <;> simp [Ids]) (by simp only [List.map, All_cons, All_nil, and_true]; exact ⟨hb0.clo _, hbn.clo _, fun e he => absurd he List.not_mem_nil, fun e he => (ints_bare _ _ e he).clo _⟩))).pre (Ent.drop (by kernel_rfl) (by kernel_rfl) (by kernel_rfl) (by kernel_rfl) (by simp [All_cons, All_nil, Clo] <;> simp [Ids]) (by simp only [List.map, All_cons, All_nil, and_true]; exact ⟨hb0.clo _, hbn.clo _, fun e he => absurd he List.not_mem_nil, fun e he => (ints_bare _ _ e he).clo _⟩)))) (Runs.of_loops ((l3.post (Ent.drop (by kernel_rfl) (by kernel_rfl) (by kernel_rfl) (by kernel_rfl) (by simp [All_cons, All_nil, Clo] <;> simp [Ids]) (by simp only [List.map, All_cons, All_nil, and_true]; exact ⟨hb0.clo _, hbn.clo _, fun e he => absurd he List.not_mem_nil, fun e he => (ints_bare _ _ e he).clo _⟩))).pre (Ent.drop (by kernel_rfl) (by kernel_rfl) (by kernel_rfl) (by kernel_rfl) (by simp [All_cons, All_nil, Clo] <;> simp [Ids]) (by simp only [List.map, All_cons, All_nil, and_true]; exact ⟨hb0.clo _, hbn.clo _, fun e he => absurd he List.not_mem_nil, fun e he => (ints_bare _ _ e he).clo _⟩)))) (gside_does _ _) (q3.to (by kernel_rfl))
  refine Ent.move to9 ?_ (by kernel_rfl) (by simp [to9]) (by kernel_rfl) (by kernel_rfl) ?_ (by kernel_rfl) (by simp [All_cons, All_nil, Clo, d4] <;> simp [Ids]) (by simp only [List.map, All_cons, All_nil, and_true]; exact ⟨hb0.clo _, hbn.clo _, fun e he => absurd he List.not_mem_nil, fun e he => (ints_bare _ _ e he).clo _⟩)
  · simp only [List.map]
    rw [hb0.ren, hbn.ren]
    kernel_rfl
  · rcases sn with rfl | ⟨rfl, rfl, _⟩
    · kernel_rfl
    · kernel_rfl
end

/-- grid.Tracks where items are auto or fixed and all of it fits -/
theorem tracks_does {H : AHeap} {n c id1 v0 off k ck id2 vn offn : Nat} {o on : Option AAddr} {b0 bn : ABlk} {it : Nat → It} {y : Nat → Tr} (hn : n ≤ 4096) (hk : k ≤ 4096) (hb0 : BareB b0) (hbn : BareB bn) (s0 : SlArg o n c id1 v0 off 5) (hel0 : ∀ j, j < n → b0.elem? v0 (off + j) = some (it j).val) (hok : ∀ j, j < n → ItOk (it j)) (sn : SlArg on k ck id2 vn offn 3) (hye : ∀ j, j < k → bn.elem? vn (offn + j) = some (y j).val) (ext gap : Int)
    {M B : Int} (hM : 0 ≤ M ∧ M ≤ 4096) (hyM : ∀ j, (y j).c ≤ M) (hB : HInv n it (fun j => has0 (it j)) (fun j => has0 (it j)) B) (hfit : B + M * k + M * k ≤ 4096) (hfit2 : B + M * k + M * k ≤ sideZ ext - sideZ gap * ((n : Int) - 1))
    (g1 : H.get id1 = some b0) (g2 : H.get id2 = some bn) (l1 : id1 < H.next) (l2 : id2 < H.next) (hne : id1 ≠ id2) {N : Nat} (hN : H.next = N) :
    ∃ hf o' c', TkDone n it y k gap hf ∧ SlArg o' n c' N 0 0 1 ∧ c' = n ∧ FDoes Try.prog 18 [.slice o n c, .slice on k ck, .int .i64 ext, .int .i64 gap] H (.slice o' n c') (H.upd [] [.made (ints n hf) 1 true]) := by
  subst hN
  have key : ∃ hf o' c', TkDone n it y k gap hf ∧ SlArg o' n c' 66 0 0 1 ∧ c' = n ∧ ∃ ri l, FDoes Try.prog 18 [.slice (o.map fun a => { a with id := 0 }) n c, .slice (on.map fun a => { a with id := 1 }) k ck, .int .i64 ext, .int .i64 gap] (AHeap.of [b0, bn]) (.slice o' n c') (tkH 67 b0 bn ri n l [(66, .made (ints n hf) 1 true)]) := by
    by_cases h0 : n = 0
    · subst h0; exact tk_smallZ hk hb0 hbn (s0.at 0) (sn.at 1) hye ext gap
    · exact tk_small hn hk hb0 hbn (s0.at 0) hel0 hok (sn.at 1) hye ext gap hM hyM hB hfit hfit2 h0
  obtain ⟨hf, o', c', hd, q1, q2, ri, l, q3⟩ := key
  have bb : ∀ b ∈ [b0, bn], BareB b := by simp; exact ⟨hb0, hbn⟩
  rcases q1 with rfl | ⟨rfl, rfl, rfl⟩
  · refine ⟨hf, some ⟨H.next, 0, 0, 0, 1⟩, c', hd, .inl rfl, q2, ?_⟩
    have kk := q3.new1 (bn := .made (ints n hf) 1 true) bb (fun e he => ints_bare _ _ e he) (by kernel_rfl) (by kernel_rfl) (by simp) (by simp [Clos, Clo, (s0.at 0).clo, (sn.at 1).clo]) (H := H) [id1, id2] (by simp [hne]) (by simp [l1, l2]) (by simp [g1, g2])
    simpa [s0.back (id' := 0) (r := toBig [id1, id2] H.next) rfl, sn.back (id' := 1) (r := toBig [id1, id2] H.next) rfl, AVal.ren] using kk
  · refine ⟨hf, none, 0, hd, .inr ⟨rfl, rfl, rfl⟩, rfl, ?_⟩
    have kk := q3.pure bb (by kernel_rfl) ⟨fun r => rfl, trivial⟩ (by simp [Clos, Clo, (s0.at 0).clo, (sn.at 1).clo]) (H := H) [id1, id2] (by simp [hne]) (by simp [l1, l2]) (by simp [g1, g2])
    refine FDoes.pad1 ?_ _
    simpa [s0.back (id' := 0) (r := toBig [id1, id2] H.next) rfl, sn.back (id' := 1) (r := toBig [id1, id2] H.next) rfl, AVal.ren] using kk

end Go.Proofs.Ytcgcpmcjaeenlaa

namespace Go.Proofs.Ytcgcpmcjaeenlaa
open Go.Lift
set_option maxRecDepth 1000000
set_option linter.unusedSimpArgs false
set_option linter.unusedVariables false
set_option linter.unusedSectionVars false

/-- the four rows of a method of the board -/
noncomputable def h4 (K C : Nat) (o : Option AAddr) (n c : Nat) (bT : ABlk) (s t : Qd) : AHeap := AHeap.rows K [(0, brdRow C o n c), (1, bT), (2, .made [s.val] 4 true), (3, .made [t.val] 4 true)]

section
variable {C n c v : Nat} {o : Option AAddr} (hs : SlArg o n c 1 v 0 4) {bT : ABlk} (hb : BareB bT) {T : List Qd} (hl : T.length = n) (hel : ElT bT v T) {M : Int} (hT : GoodT C M T) (hC : C ≤ 64) (hM : 0 ≤ M ∧ M ≤ 2 ^ 39) (hn : n ≤ 2 ^ 40)
include hs hb hl hel hT hC hM hn

def AcEnds (C n c : Nat) (o : Option AAddr) (bT : ABlk) (T : List Qd) (s : Qd) (x : Int) : Prop :=
  (∃ r, AcrossZ T C s r ∧ Loops Try.prog 2 35 (loopAt Try.prog 31 0) [(0, .ptr (some ⟨0, 0, 0, 0, 2⟩)), (3, .ptr (some ⟨2, 0, 0, 0, 4⟩)), (4, .ptr (some ⟨3, 0, 0, 0, 4⟩))] (h4 6 C o n c bT (s.col x) Qd0) .ret [(4, .ptr (some ⟨3, 0, 0, 0, 4⟩))] (AHeap.rows 16 [(0, brdRow C o n c), (1, bT), (3, .made [r.val] 4 true)])) ∨
  (AcrossZ T C s (s.col 0) ∧ ∃ x', Loops Try.prog 2 35 (loopAt Try.prog 31 0) [(0, .ptr (some ⟨0, 0, 0, 0, 2⟩)), (3, .ptr (some ⟨2, 0, 0, 0, 4⟩)), (4, .ptr (some ⟨3, 0, 0, 0, 4⟩))] (h4 6 C o n c bT (s.col x) Qd0) (.exit 0) [(3, .ptr (some ⟨2, 0, 0, 0, 4⟩)), (4, .ptr (some ⟨3, 0, 0, 0, 4⟩))] (h4 16 C o n c bT (s.col x') Qd0))

def DnIn (C n c : Nat) (o : Option AAddr) (bT : ABlk) (T : List Qd) (M : Int) (s : Qd) (y0 y : Int) (m : Bool) (i : Nat) : Prop :=
  ∃ y2 m2, (0 ≤ y2 ∧ y2 ≤ M) ∧ (∀ y', 0 ≤ y' → y' < y2 → ¬ FreeZ T (s.row y')) ∧ (m2 = false → FreeZ T (s.row y2)) ∧ (m2 = true → y0 < y2) ∧
    Loops Try.prog 2 65 (loopAt Try.prog 32 1) [(0, .ptr (some ⟨0, 0, 0, 0, 2⟩)), (3, .ptr (some ⟨2, 0, 0, 0, 4⟩)), (4, .ptr (some ⟨3, 0, 0, 0, 4⟩)), (5, .bool m), (13, .slice o n c), (14, .int .i64 n), (15, .int .i64 i)] (h4 15 C o n c bT (s.row y) Qd0)
      (.exit 2) [(0, .ptr (some ⟨0, 0, 0, 0, 2⟩)), (3, .ptr (some ⟨2, 0, 0, 0, 4⟩)), (4, .ptr (some ⟨3, 0, 0, 0, 4⟩)), (5, .bool m2)] (h4 16 C o n c bT (s.row y2) Qd0)

def DnEnds (C n c : Nat) (o : Option AAddr) (bT : ABlk) (T : List Qd) (s : Qd) (y : Int) (m : Bool) : Prop :=
  ∃ r, DownZ T s r ∧ Loops Try.prog 2 65 (loopAt Try.prog 32 0) [(0, .ptr (some ⟨0, 0, 0, 0, 2⟩)), (3, .ptr (some ⟨2, 0, 0, 0, 4⟩)), (4, .ptr (some ⟨3, 0, 0, 0, 4⟩)), (5, .bool m)] (h4 7 C o n c bT (s.row y) Qd0)
    (.exit 0) [(3, .ptr (some ⟨2, 0, 0, 0, 4⟩)), (4, .ptr (some ⟨3, 0, 0, 0, 4⟩))] (h4 8 C o n c bT r Qd0)

end

end Go.Proofs.Ytcgcpmcjaeenlaa

namespace Go.Proofs.Ytcgcpmcjaeenlaa
open Go.Lift
set_option maxRecDepth 1000000
set_option linter.unusedSimpArgs false
set_option linter.unusedVariables false
set_option linter.unusedSectionVars false

end Go.Proofs.Ytcgcpmcjaeenlaa

namespace Go.Proofs.Ytcgcpmcjaeenlaa
open Go.Lift
set_option maxRecDepth 1000000
set_option linter.unusedSimpArgs false
set_option linter.unusedVariables false
set_option linter.unusedSectionVars false

/-- a row of truths -/
def bools (n : Nat) (f : Nat → Bool) : List AVal := (List.range n).map fun j => .bool (f j)
/-- what the first i of them take of some rows -/
structure StripZ (T : List Qd) (C : Nat) (y d none : Int) (i : Nat) (tk : Nat → Bool) (e : Int) : Prop where
  tk : ∀ x : Nat, x < C → (tk x = true ↔ ∃ j t, j < i ∧ T[j]? = some t ∧ OvlZ t y d ∧ t.a ≤ x ∧ (x : Int) < t.a + t.c)
  e : (e = none ∧ ∀ j t, j < i → T[j]? = some t → ¬ OvlZ t y d) ∨ ((∃ j t, j < i ∧ T[j]? = some t ∧ OvlZ t y d ∧ e = t.b + t.d) ∧ ∀ j t, j < i → T[j]? = some t → OvlZ t y d → e ≤ t.b + t.d)

theorem StripZ.zero (T : List Qd) (C : Nat) (y d none : Int) : StripZ T C y d none 0 (fun _ => false) none :=
  ⟨fun x _ => ⟨fun h => (by cases h), fun ⟨j, _, h, _⟩ => by omega⟩, .inl ⟨rfl, fun j _ h => by omega⟩⟩

theorem StripZ.out {T : List Qd} {C : Nat} {y d none e : Int} {i : Nat} {tk : Nat → Bool} (h : StripZ T C y d none i tk e) {t : Qd} (ht : T[i]? = some t) (ho : ¬ OvlZ t y d) : StripZ T C y d none (i + 1) tk e := by
  have no : ∀ j u, j < i + 1 → T[j]? = some u → OvlZ u y d → j < i := fun j u hj hu hv => by
    by_cases c : j = i
    · subst c; rw [ht] at hu; cases hu; exact absurd hv ho
    · omega
  refine ⟨fun x hx => (h.tk x hx).trans ⟨fun ⟨j, u, a1, a2, a3⟩ => ⟨j, u, by omega, a2, a3⟩, fun ⟨j, u, a1, a2, a3⟩ => ⟨j, u, no j u a1 a2 a3.1, a2, a3⟩⟩, ?_⟩
  rcases h.e with ⟨a, b⟩ | ⟨⟨j, u, a1, a2, a3⟩, b⟩
  · exact .inl ⟨a, fun j u hj hu hv => b j u (no j u hj hu hv) hu hv⟩
  · exact .inr ⟨⟨j, u, by omega, a2, a3⟩, fun j u hj hu hv => b j u (no j u hj hu hv) hu hv⟩

theorem StripZ.all {T : List Qd} {C : Nat} {y d none e : Int} {tk : Nat → Bool} (h : StripZ T C y d none T.length tk e) : (∀ x : Nat, x < C → (tk x = true ↔ TkZ T y d x)) ∧ EndZ T y d e none := by
  have mem : ∀ t, t ∈ T → ∃ j, j < T.length ∧ T[j]? = some t := fun t ht => by
    obtain ⟨j, hj, e1⟩ := List.mem_iff_getElem.1 ht
    exact ⟨j, hj, by rw [List.getElem?_eq_getElem hj, e1]⟩
  refine ⟨fun x hx => (h.tk x hx).trans ⟨fun ⟨j, t, a1, a2, a3⟩ => ⟨t, List.mem_of_getElem? a2, a3⟩, fun ⟨t, a1, a3⟩ => ?_⟩, ?_⟩
  · obtain ⟨j, hj, e1⟩ := mem t a1
    exact ⟨j, t, hj, e1, a3⟩
  · rcases h.e with ⟨a, b⟩ | ⟨⟨j, t, a1, a2, a3, a4⟩, b⟩
    · exact .inl ⟨a, fun t ht ho => by obtain ⟨j, hj, e1⟩ := mem t ht; exact b j t hj e1 ho⟩
    · exact .inr ⟨⟨t, List.mem_of_getElem? a2, a3, a4⟩, fun t ht ho => by obtain ⟨j, hj, e1⟩ := mem t ht; exact b j t hj e1 ho⟩

section
variable {C n c v : Nat} {o : Option AAddr} (hs : SlArg o n c 1 v 0 4) {bT : ABlk} (hb : BareB bT) {T : List Qd} (hl : T.length = n) (hel : ElT bT v T) {M : Int} (hT : GoodT C M T) (hC : C ≤ 64) (hM : 0 ≤ M ∧ M ≤ 2 ^ 39) (hn : n ≤ 2 ^ 40)
include hs hb hl hel hT hC hM hn

end

end Go.Proofs.Ytcgcpmcjaeenlaa

namespace Go.Proofs.Ytcgcpmcjaeenlaa
open Go.Lift
set_option maxRecDepth 1000000
set_option linter.unusedSimpArgs false
set_option linter.unusedVariables false
set_option linter.unusedSectionVars false

end Go.Proofs.Ytcgcpmcjaeenlaa

namespace Go.Proofs.Ytcgcpmcjaeenlaa
open Go.Lift
set_option maxRecDepth 1000000
set_option linter.unusedSimpArgs false
set_option linter.unusedVariables false
set_option linter.unusedSectionVars false

section
variable {C n c v : Nat} {o : Option AAddr} (hs : SlArg o n c 1 v 0 4) {bT : ABlk} (hb : BareB bT) {T : List Qd} (hl : T.length = n) (hel : ElT bT v T) {M : Int} (hT : GoodT C M T) (hC : C ≤ 64) (hM : 0 ≤ M ∧ M ≤ 2 ^ 39) (hn : n ≤ 2 ^ 40)
include hs hb hl hel hT hC hM hn

def BiEnds (C n c : Nat) (o : Option AAddr) (bT : ABlk) (s : Qd) (tk : Nat → Bool) (y x0 e x i : Int) : Prop :=
  ((∀ i' : Int, 0 ≤ i' → i' < s.c → tk (x + i').toNat = false) ∧ Loops Try.prog 2 55 (loopAt Try.prog 33 2) [(0, .ptr (some ⟨0, 0, 0, 0, 2⟩)), (2, .int .i64 y), (3, .int .i64 x0), (5, .ptr (some ⟨2, 0, 0, 0, 4⟩)), (8, .ptr (some ⟨3, 0, 0, 0, 4⟩)), (9, .slice (some ⟨36, 0, 0, 0, 1⟩) C C), (10, .int .i64 e), (11, .int .i64 x), (34, .int .i64 s.c), (35, .int .i64 i)]
      (AHeap.rows 40 [(0, brdRow C o n c), (1, bT), (2, .made [s.val] 4 true), (3, .made [Qd0.val] 4 true), (36, .made (bools C tk) 1 true)]) (.exit 4)
      [(0, .ptr (some ⟨0, 0, 0, 0, 2⟩)), (2, .int .i64 y), (3, .int .i64 x0), (5, .ptr (some ⟨2, 0, 0, 0, 4⟩)), (8, .ptr (some ⟨3, 0, 0, 0, 4⟩)), (11, .int .i64 x)] (AHeap.rows 60 [(0, brdRow C o n c), (1, bT), (2, .made [s.val] 4 true), (3, .made [Qd0.val] 4 true)])) ∨
  ((∃ i' : Int, 0 ≤ i' ∧ i' < s.c ∧ tk (x + i').toNat = true) ∧ Loops Try.prog 2 55 (loopAt Try.prog 33 2) [(0, .ptr (some ⟨0, 0, 0, 0, 2⟩)), (2, .int .i64 y), (3, .int .i64 x0), (5, .ptr (some ⟨2, 0, 0, 0, 4⟩)), (8, .ptr (some ⟨3, 0, 0, 0, 4⟩)), (9, .slice (some ⟨36, 0, 0, 0, 1⟩) C C), (10, .int .i64 e), (11, .int .i64 x), (34, .int .i64 s.c), (35, .int .i64 i)]
      (AHeap.rows 40 [(0, brdRow C o n c), (1, bT), (2, .made [s.val] 4 true), (3, .made [Qd0.val] 4 true), (36, .made (bools C tk) 1 true)]) (.exit 3)
      [(0, .ptr (some ⟨0, 0, 0, 0, 2⟩)), (2, .int .i64 y), (3, .int .i64 x0), (5, .ptr (some ⟨2, 0, 0, 0, 4⟩)), (8, .ptr (some ⟨3, 0, 0, 0, 4⟩)), (9, .slice (some ⟨36, 0, 0, 0, 1⟩) C C), (10, .int .i64 e), (11, .int .i64 x)] (AHeap.rows 60 [(0, brdRow C o n c), (1, bT), (2, .made [s.val] 4 true), (3, .made [Qd0.val] 4 true), (36, .made (bools C tk) 1 true)]))

def BcEnds (C n c : Nat) (o : Option AAddr) (bT : ABlk) (T : List Qd) (s : Qd) (tk : Nat → Bool) (y x0 e x : Int) : Prop :=
  (∃ x', x ≤ x' ∧ x' + s.c ≤ C ∧ FreeZ T (s.at x' y) ∧ (∀ x'', x ≤ x'' → x'' < x' → ¬ FreeZ T (s.at x'' y)) ∧ Loops Try.prog 2 55 (loopAt Try.prog 33 1) [(0, .ptr (some ⟨0, 0, 0, 0, 2⟩)), (2, .int .i64 y), (3, .int .i64 x0), (5, .ptr (some ⟨2, 0, 0, 0, 4⟩)), (8, .ptr (some ⟨3, 0, 0, 0, 4⟩)), (9, .slice (some ⟨36, 0, 0, 0, 1⟩) C C), (10, .int .i64 e), (11, .int .i64 x)]
      (AHeap.rows 40 [(0, brdRow C o n c), (1, bT), (2, .made [s.val] 4 true), (3, .made [Qd0.val] 4 true), (36, .made (bools C tk) 1 true)]) (.exit 0)
      [(5, .ptr (some ⟨2, 0, 0, 0, 4⟩)), (8, .ptr (some ⟨3, 0, 0, 0, 4⟩))] (AHeap.rows 50 [(0, brdRow C o n c), (1, bT), (2, .made [(s.at x' y).val] 4 true), (3, .made [Qd0.val] 4 true)])) ∨
  ((∀ x'', x ≤ x'' → x'' + s.c ≤ C → ¬ FreeZ T (s.at x'' y)) ∧ Loops Try.prog 2 55 (loopAt Try.prog 33 1) [(0, .ptr (some ⟨0, 0, 0, 0, 2⟩)), (2, .int .i64 y), (3, .int .i64 x0), (5, .ptr (some ⟨2, 0, 0, 0, 4⟩)), (8, .ptr (some ⟨3, 0, 0, 0, 4⟩)), (9, .slice (some ⟨36, 0, 0, 0, 1⟩) C C), (10, .int .i64 e), (11, .int .i64 x)]
      (AHeap.rows 40 [(0, brdRow C o n c), (1, bT), (2, .made [s.val] 4 true), (3, .made [Qd0.val] 4 true), (36, .made (bools C tk) 1 true)]) (.exit 2)
      [(0, .ptr (some ⟨0, 0, 0, 0, 2⟩)), (2, .int .i64 y), (3, .int .i64 x0), (5, .ptr (some ⟨2, 0, 0, 0, 4⟩)), (8, .ptr (some ⟨3, 0, 0, 0, 4⟩)), (10, .int .i64 e)] (AHeap.rows 50 [(0, brdRow C o n c), (1, bT), (2, .made [s.val] 4 true), (3, .made [Qd0.val] 4 true)]))

def BhEnds (C n c : Nat) (o : Option AAddr) (bT : ABlk) (T : List Qd) (s : Qd) (y0 x0 y x : Int) : Prop :=
  ∃ r, BehindZ T C s y0 x0 r ∧ Loops Try.prog 2 55 (loopAt Try.prog 33 0) [(0, .ptr (some ⟨0, 0, 0, 0, 2⟩)), (2, .int .i64 y), (3, .int .i64 x), (5, .ptr (some ⟨2, 0, 0, 0, 4⟩)), (8, .ptr (some ⟨3, 0, 0, 0, 4⟩))] (AHeap.rows 26 [(0, brdRow C o n c), (1, bT), (2, .made [s.val] 4 true), (3, .made [Qd0.val] 4 true)])
    (.exit 0) [(5, .ptr (some ⟨2, 0, 0, 0, 4⟩)), (8, .ptr (some ⟨3, 0, 0, 0, 4⟩))] (AHeap.rows 50 [(0, brdRow C o n c), (1, bT), (2, .made [r.val] 4 true), (3, .made [Qd0.val] 4 true)])

end

end Go.Proofs.Ytcgcpmcjaeenlaa

namespace Go.Proofs.Ytcgcpmcjaeenlaa
open Go.Lift
set_option maxRecDepth 1000000
set_option linter.unusedSimpArgs false
set_option linter.unusedVariables false
set_option linter.unusedSectionVars false

end Go.Proofs.Ytcgcpmcjaeenlaa

namespace Go.Proofs.Ytcgcpmcjaeenlaa
open Go.Lift
set_option maxRecDepth 1000000
set_option linter.unusedSimpArgs false
set_option linter.unusedVariables false
set_option linter.unusedSectionVars false

end Go.Proofs.Ytcgcpmcjaeenlaa

namespace Go.Proofs.Ytcgcpmcjaeenlaa
open Go.Lift
set_option maxRecDepth 1000000
set_option linter.unusedSimpArgs false
set_option linter.unusedVariables false
set_option linter.unusedSectionVars false

def tSlN : Nat → Option AAddr
  | 0 => none
  | k + 1 => some ⟨13, k, 0, 0, 4⟩
def tRow (T : List Qd) : ABlk := gRowQ (fun j => T.getD j Qd0) 1 (T.length - 1)
def to13 (N i : Nat) : Nat := if i = 13 then N else i
/-- the memory of grid.Flow's loops -/
noncomputable def stH (K : Nat) (b : ABlk) (C : Nat) (T : List Qd) (k : Nat) (l : List AVal) : AHeap := AHeap.rows K [(0, b), (8, brdRow C (tSlN k) k k), (12, .made l 4 true), (13, tRow T)]

section
variable {n C : Nat} (hn : n ≤ 4096) (hC : 1 ≤ C ∧ C ≤ 64) {o : Option AAddr} {c ver off : Nat} {b : ABlk} (hs : SlArg o n c 0 ver off 4) (hb : BareB b) {src : Nat → Qd} (hel : ∀ j, j < n → b.elem? ver (off + j) = some (src j).val)
include hn hC hs hb hel

end

end Go.Proofs.Ytcgcpmcjaeenlaa

namespace Go.Proofs.Ytcgcpmcjaeenlaa
open Go.Lift
set_option maxRecDepth 1000000
set_option linter.unusedSimpArgs false
set_option linter.unusedVariables false
set_option linter.unusedSectionVars false

section
variable {n C : Nat} (hn : n ≤ 4096) (hC : 1 ≤ C ∧ C ≤ 64) {b : ABlk} (hb : BareB b) {w : Nat → Qd} (hw : ∀ j, j < n → NormZ C (w j))
include hn hC hb hw

end

end Go.Proofs.Ytcgcpmcjaeenlaa

namespace Go.Proofs.Ytcgcpmcjaeenlaa
open Go.Lift
set_option maxRecDepth 1000000
set_option linter.unusedSimpArgs false
set_option linter.unusedVariables false
set_option linter.unusedSectionVars false

/-- how many spans are told -/
def flen (n : Nat) : Nat := if 4096 < n then 0 else n
/-- what grid.Flow tells of a list -/
def FlowsTo (n : Nat) (src : Nat → Qd) (cols : Int) (out : Nat → Qd) : Prop := FlowZ (colsZ cols) (flen n) (fun j => normZ (colsZ cols) (src j)) out

end Go.Proofs.Ytcgcpmcjaeenlaa

namespace Go.Proofs.Ytcgcpmcjaeenlaa
open Go.Lift
set_option maxRecDepth 1000000
set_option linter.unusedSimpArgs false
set_option linter.unusedVariables false
set_option linter.unusedSectionVars false

/-! rows of pairs -/

structure Pr2 where
  a : Int
  b : Int

def Pr2.val (t : Pr2) : AVal := .agg [.int .i64 t.a, .int .i64 t.b]
structure Pr2.Fits (t : Pr2) : Prop where
  a : Fit64 t.a
  b : Fit64 t.b

def AnyW (C : Int) (n : Nat) (w : Nat → Qd) : Prop := ∀ j, j < n → NormZ C (w j) ∧ (w j).a = -1 ∧ (w j).b = -1

theorem FlowZ.lies {cols : Int} {n : Nat} {w out : Nat → Qd} (hw : ∀ j, j < n → NormZ cols (w j)) (h : FlowZ cols n w out) {i : Nat} (hi : i < n) : 0 ≤ (out i).a ∧ (out i).a + (out i).c ≤ cols ∧ 0 ≤ (out i).b ∧ (out i).c = (w i).c ∧ (out i).d = (w i).d ∧ (out i).b + (out i).d ≤ downM i + 4097 := by
  obtain ⟨g1, g2, g3⟩ := FlowZ.good hw h i (by omega)
  have := place_good g1 (show 8192 ≤ downM i by unfold downM; omega) g2 (hw i hi) (h i hi)
  exact ⟨this.1, this.2.1, this.2.2.1, this.2.2.2.1, this.2.2.2.2.1, this.2.2.2.2.2.1⟩

end Go.Proofs.Ytcgcpmcjaeenlaa

namespace Go.Proofs.Ytcgcpmcjaeenlaa
open Go.Lift
set_option maxRecDepth 1000000
set_option linter.unusedSimpArgs false
set_option linter.unusedVariables false
set_option linter.unusedSectionVars false

theorem lround_neg (k n : Int) (hc_0 : n ≠ 0) (hc_1 : Int.tmod k n < 0) (hc_2 : -9223372036854775808 ≤ Int.tmod k n + n ∧ Int.tmod k n + n ≤ 9223372036854775807) :
    FDoes Try.prog 24 [.int .i64 k, .int .i64 n] (⟨0, .nil⟩) (.int .i64 (Int.tmod k n + n)) (AHeap.rows 13 []) :=
  pcall_does env_ok mixed (hs := [.go 1002, .val 2001 (.bool true), .go 3002]) (rs := []) (by kernel_rfl) (All.cons hc_0 (All.cons (okT hc_1) (All.cons hc_2 (All.nil))))

theorem lround_pos (k n : Int) (hc_0 : n ≠ 0) (hc_1 : ¬ (Int.tmod k n < 0)) :
    FDoes Try.prog 24 [.int .i64 k, .int .i64 n] (⟨0, .nil⟩) (.int .i64 (Int.tmod k n)) (AHeap.rows 9 []) :=
  pcall_does env_ok mixed (hs := [.go 1002, .val 2001 (.bool false)]) (rs := []) (by kernel_rfl) (All.cons hc_0 (All.cons (okF hc_1) (All.nil)))

end Go.Proofs.Ytcgcpmcjaeenlaa

namespace Go.Proofs.Ytcgcpmcjaeenlaa
open Go.Lift
set_option maxRecDepth 1000000
set_option linter.unusedSimpArgs false
set_option linter.unusedVariables false
set_option linter.unusedSectionVars false

/-- a number as one from 0 to n - 1 -/
def roundZ (k n : Int) : Int := if Int.tmod k n < 0 then Int.tmod k n + n else Int.tmod k n
theorem tmod_range (k : Int) {n : Int} (h : 0 < n) : -n < Int.tmod k n ∧ Int.tmod k n < n := by
  refine ⟨?_, Int.tmod_lt_of_pos k h⟩
  have := Int.tmod_lt_of_pos (-k) h
  rw [Int.neg_tmod] at this
  omega
theorem roundZ_range (k : Int) {n : Int} (h : 0 < n) : 0 ≤ roundZ k n ∧ roundZ k n < n := by
  have := tmod_range k h
  unfold roundZ; split <;> omega
theorem lround_does (k n : Int) (h : 0 < n ∧ n ≤ 4096) (H : AHeap) : FDoes Try.prog 24 [.int .i64 k, .int .i64 n] H (.int .i64 (roundZ k n)) H := by
  have t := tmod_range k h.1
  have hb : ∀ a, a ∈ [AVal.int .i64 k, AVal.int .i64 n] → Bare a := by simp [Bare.int]
  unfold roundZ
  by_cases c : Int.tmod k n < 0
  · rw [if_pos c]
    exact (lround_neg k n (by omega) c (by omega)).bare hb (Bare.int _ _) H
  · rw [if_neg c]
    exact (lround_pos k n (by omega) c).bare hb (Bare.int _ _) H

/-- where the last one of i tracks ends -/
def endZ (x : Nat → Int) (g : Int) (i : Nat) : Int := if i = 0 then 0 else atZ x g i - g
section
variable {n : Nat} (hn : n ≤ 4096) {o : Option AAddr} {c ver off : Nat} {b : ABlk} (hs : SlArg o n c 0 ver off 1) (hb : BareB b) {x : Nat → Int} (hel : ∀ j, j < n → b.elem? ver (off + j) = some (.int .i64 (x j))) {g : Int} (hg : 0 ≤ g ∧ g ≤ 4096)
include hn hs hb hel hg
end

end Go.Proofs.Ytcgcpmcjaeenlaa

namespace Go.Proofs.Ytcgcpmcjaeenlaa
open Go.Lift
set_option maxRecDepth 1000000
theorem alive_run : saysTrue (fcall Try.prog env 300 16 [] ⟨0, .nil⟩) = true := by decide +kernel
theorem alive_does (H : AHeap) : FDoes Try.prog 16 [] H (.bool true) H := by
  obtain ⟨h', hc⟩ := fcall_true alive_run
  exact (FDoes.of_acall env_ok mixed hc).bare (by simp) (Bare.bool _) H
end Go.Proofs.Ytcgcpmcjaeenlaa

namespace Go.Proofs.Ytcgcpmcjaeenlaa
open Go.Lift
set_option maxRecDepth 1000000
set_option linter.unusedSimpArgs false
set_option linter.unusedVariables false
set_option linter.unusedSectionVars false

theorem la_min (os on : Option AAddr) (n ns cs k ck vs offs i : Nat) (b0 b1 : ABlk) (li : List AVal) (g sv kk tk tn td tm tx : Int) (hc_0 : (i : Int) < (n : Int)) (hc_1 : (i : Int) < (ns : Int)) (hc_2 : aindexAddr env.D 32 (.slice os ns cs) (.int .i64 (i : Int)) = some (.ptr (some ⟨0, vs, offs + i, 0, 1⟩))) (hc_3 : ABlk.elem? b0 vs (offs + i) = some (.int .i64 sv)) (hc_4 : FDoes Try.prog 24 [.int .i64 sv, .int .i64 40] (AHeap.rows 35 [(0, b0), (1, b1), (10, .made li 5 true)]) (.int .i64 kk) (AHeap.rows 35 [(0, b0), (1, b1), (10, .made li 5 true)])) (hc_5 : (10 : Int) ≠ 0 ∧ -9223372036854775808 ≤ Int.tdiv kk 10 ∧ Int.tdiv kk (10 : Int) ≤ 9223372036854775807) (hc_6 : Int.tdiv kk 10 = 0) (hc_7 : aindexAddr env.D 30 (.slice (some ⟨10, 0, 0, 0, 5⟩) n n) (.int .i64 (i : Int)) = some (.ptr (some ⟨10, 0, 0 + i, 0, 5⟩))) (hc_8 : 0 = 0 ∧ li[0 + i]? = some (.agg [.int .i8 tk, .int .i64 tn, .int .i64 td, .int .i64 tm, .int .i64 tx])) (hc_9 : -9223372036854775808 ≤ (i : Int) + 1 ∧ (i : Int) + (1 : Int) ≤ 9223372036854775807) :
    Runs Try.prog 2 239 (loopAt Try.prog 8 0) [(1, .slice os ns cs), (2, .slice on k ck), (9, .int .i64 n), (10, .int .i64 g), (11, .slice (some ⟨10, 0, 0, 0, 5⟩) n n), (12, .int .i64 i)] (AHeap.rows 20 [(0, b0), (1, b1), (10, .made li 5 true)]) .normal [(1, .slice os ns cs), (2, .slice on k ck), (9, .int .i64 (n : Int)), (10, .int .i64 g), (11, .slice (some ⟨10, 0, 0, 0, 5⟩) n n), (12, .int .i64 ((i : Int) + 1))] (AHeap.rows 48 [(0, b0), (1, b1), (10, (.made (List.set li (0 + i) (.agg [.int .i8 tk, .int .i64 tn, .int .i64 td, .int .i64 kk, .int .i64 tx])) 5 true))]) :=
  ppath_runs env_ok mixed (hs := [.val 5002 (.bool true), .val 5007 (.bool true), .val 7002 (.ptr (some ⟨0, vs, offs + i, 0, 1⟩)), .ld 7003 (.int .i64 sv), .val 7004 (.int .i64 kk), .go 8001, .val 9000 (.bool true), .val 10003 (.ptr (some ⟨10, 0, 0 + i, 0, 5⟩)), .st 10005 (.agg [.int .i8 tk, .int .i64 tn, .int .i64 td, .int .i64 tm, .int .i64 tx]), .go 6001]) (keep := [1, 2, 9, 10, 11, 12]) (by kernel_rfl) (All.cons (okT hc_0) (All.cons (okT hc_1) (All.cons hc_2 (All.cons hc_3 (All.cons (CallT.mk hc_4) (All.cons hc_5 (All.cons (eqT hc_6) (All.cons hc_7 (All.cons hc_8 (All.cons hc_9 (All.nil)))))))))))

theorem la_fix (os on : Option AAddr) (n ns cs k ck vs offs i : Nat) (b0 b1 : ABlk) (li : List AVal) (g sv kk tk tn td tm tx : Int) (hc_0 : (i : Int) < (n : Int)) (hc_1 : (i : Int) < (ns : Int)) (hc_2 : aindexAddr env.D 32 (.slice os ns cs) (.int .i64 (i : Int)) = some (.ptr (some ⟨0, vs, offs + i, 0, 1⟩))) (hc_3 : ABlk.elem? b0 vs (offs + i) = some (.int .i64 sv)) (hc_4 : FDoes Try.prog 24 [.int .i64 sv, .int .i64 40] (AHeap.rows 35 [(0, b0), (1, b1), (10, .made li 5 true)]) (.int .i64 kk) (AHeap.rows 35 [(0, b0), (1, b1), (10, .made li 5 true)])) (hc_5 : (10 : Int) ≠ 0 ∧ -9223372036854775808 ≤ Int.tdiv kk 10 ∧ Int.tdiv kk (10 : Int) ≤ 9223372036854775807) (hc_6 : ¬ (Int.tdiv kk 10 = 0)) (hc_7 : Int.tdiv kk 10 = 1) (hc_8 : (10 : Int) ≠ 0) (hc_9 : aindexAddr env.D 30 (.slice (some ⟨10, 0, 0, 0, 5⟩) n n) (.int .i64 (i : Int)) = some (.ptr (some ⟨10, 0, 0 + i, 0, 5⟩))) (hc_10 : 0 = 0 ∧ li[0 + i]? = some (.agg [.int .i8 tk, .int .i64 tn, .int .i64 td, .int .i64 tm, .int .i64 tx])) (hc_11 : -9223372036854775808 ≤ (i : Int) + 1 ∧ (i : Int) + (1 : Int) ≤ 9223372036854775807) :
    Runs Try.prog 2 239 (loopAt Try.prog 8 0) [(1, .slice os ns cs), (2, .slice on k ck), (9, .int .i64 n), (10, .int .i64 g), (11, .slice (some ⟨10, 0, 0, 0, 5⟩) n n), (12, .int .i64 i)] (AHeap.rows 20 [(0, b0), (1, b1), (10, .made li 5 true)]) .normal [(1, .slice os ns cs), (2, .slice on k ck), (9, .int .i64 (n : Int)), (10, .int .i64 g), (11, .slice (some ⟨10, 0, 0, 0, 5⟩) n n), (12, .int .i64 ((i : Int) + 1))] (AHeap.rows 51 [(0, b0), (1, b1), (10, (.made (List.set li (0 + i) (.agg [.int .i8 (1), .int .i64 (Int.tmod kk 10), .int .i64 0, .int .i64 0, .int .i64 0])) 5 true))]) :=
  ppath_runs env_ok mixed (hs := [.val 5002 (.bool true), .val 5007 (.bool true), .val 7002 (.ptr (some ⟨0, vs, offs + i, 0, 1⟩)), .ld 7003 (.int .i64 sv), .val 7004 (.int .i64 kk), .go 8001, .val 9000 (.bool false), .val 11000 (.bool true), .go 12003, .val 12005 (.ptr (some ⟨10, 0, 0 + i, 0, 5⟩)), .st 12006 (.agg [.int .i8 tk, .int .i64 tn, .int .i64 td, .int .i64 tm, .int .i64 tx]), .go 6001]) (keep := [1, 2, 9, 10, 11, 12]) (by kernel_rfl) (All.cons (okT hc_0) (All.cons (okT hc_1) (All.cons hc_2 (All.cons hc_3 (All.cons (CallT.mk hc_4) (All.cons hc_5 (All.cons (eqF hc_6) (All.cons (eqT hc_7) (All.cons hc_8 (All.cons hc_9 (All.cons hc_10 (All.cons hc_11 (All.nil)))))))))))))

theorem la_auto (os on : Option AAddr) (n ns cs k ck vs offs i : Nat) (b0 b1 : ABlk) (li : List AVal) (g sv kk tk tn td tm tx : Int) (hc_0 : (i : Int) < (n : Int)) (hc_1 : (i : Int) < (ns : Int)) (hc_2 : aindexAddr env.D 32 (.slice os ns cs) (.int .i64 (i : Int)) = some (.ptr (some ⟨0, vs, offs + i, 0, 1⟩))) (hc_3 : ABlk.elem? b0 vs (offs + i) = some (.int .i64 sv)) (hc_4 : FDoes Try.prog 24 [.int .i64 sv, .int .i64 40] (AHeap.rows 35 [(0, b0), (1, b1), (10, .made li 5 true)]) (.int .i64 kk) (AHeap.rows 35 [(0, b0), (1, b1), (10, .made li 5 true)])) (hc_5 : (10 : Int) ≠ 0 ∧ -9223372036854775808 ≤ Int.tdiv kk 10 ∧ Int.tdiv kk (10 : Int) ≤ 9223372036854775807) (hc_6 : ¬ (Int.tdiv kk 10 = 0)) (hc_7 : ¬ (Int.tdiv kk 10 = 1)) (hc_8 : -9223372036854775808 ≤ (i : Int) + 1 ∧ (i : Int) + (1 : Int) ≤ 9223372036854775807) :
    Runs Try.prog 2 239 (loopAt Try.prog 8 0) [(1, .slice os ns cs), (2, .slice on k ck), (9, .int .i64 n), (10, .int .i64 g), (11, .slice (some ⟨10, 0, 0, 0, 5⟩) n n), (12, .int .i64 i)] (AHeap.rows 20 [(0, b0), (1, b1), (10, .made li 5 true)]) .normal [(1, .slice os ns cs), (2, .slice on k ck), (9, .int .i64 (n : Int)), (10, .int .i64 g), (11, .slice (some ⟨10, 0, 0, 0, 5⟩) n n), (12, .int .i64 ((i : Int) + 1))] (AHeap.rows 44 [(0, b0), (1, b1), (10, .made li 5 true)]) :=
  ppath_runs env_ok mixed (hs := [.val 5002 (.bool true), .val 5007 (.bool true), .val 7002 (.ptr (some ⟨0, vs, offs + i, 0, 1⟩)), .ld 7003 (.int .i64 sv), .val 7004 (.int .i64 kk), .go 8001, .val 9000 (.bool false), .val 11000 (.bool false), .go 6001]) (keep := [1, 2, 9, 10, 11, 12]) (by kernel_rfl) (All.cons (okT hc_0) (All.cons (okT hc_1) (All.cons hc_2 (All.cons hc_3 (All.cons (CallT.mk hc_4) (All.cons hc_5 (All.cons (eqF hc_6) (All.cons (eqF hc_7) (All.cons hc_8 (All.nil))))))))))

theorem la_e1 (os on : Option AAddr) (n ns cs k ck vs offs i : Nat) (b0 b1 : ABlk) (li : List AVal) (g sv kk tk tn td tm tx : Int) (hc_0 : ¬ ((i : Int) < (n : Int))) :
    Runs Try.prog 2 239 (loopAt Try.prog 8 0) [(1, .slice os ns cs), (2, .slice on k ck), (9, .int .i64 n), (10, .int .i64 g), (11, .slice (some ⟨10, 0, 0, 0, 5⟩) n n), (12, .int .i64 i)] (AHeap.rows 20 [(0, b0), (1, b1), (10, .made li 5 true)]) (.exit 0) [(2, .slice on k ck), (9, .int .i64 (n : Int)), (10, .int .i64 g), (11, .slice (some ⟨10, 0, 0, 0, 5⟩) n n)] (AHeap.rows 29 [(0, b0), (1, b1), (10, .made li 5 true)]) :=
  ppath_runs env_ok mixed (hs := [.val 5002 (.bool false)]) (keep := [2, 9, 10, 11]) (by kernel_rfl) (All.cons (okF hc_0) (All.nil))

theorem la_e2 (os on : Option AAddr) (n ns cs k ck vs offs i : Nat) (b0 b1 : ABlk) (li : List AVal) (g sv kk tk tn td tm tx : Int) (hc_0 : (i : Int) < (n : Int)) (hc_1 : ¬ ((i : Int) < (ns : Int))) :
    Runs Try.prog 2 239 (loopAt Try.prog 8 0) [(1, .slice os ns cs), (2, .slice on k ck), (9, .int .i64 n), (10, .int .i64 g), (11, .slice (some ⟨10, 0, 0, 0, 5⟩) n n), (12, .int .i64 i)] (AHeap.rows 20 [(0, b0), (1, b1), (10, .made li 5 true)]) (.exit 0) [(2, .slice on k ck), (9, .int .i64 (n : Int)), (10, .int .i64 g), (11, .slice (some ⟨10, 0, 0, 0, 5⟩) n n)] (AHeap.rows 29 [(0, b0), (1, b1), (10, .made li 5 true)]) :=
  ppath_runs env_ok mixed (hs := [.val 5002 (.bool true), .val 5007 (.bool false)]) (keep := [2, 9, 10, 11]) (by kernel_rfl) (All.cons (okT hc_0) (All.cons (okF hc_1) (All.nil)))

theorem lb_sN (on : Option AAddr) (n k ck vn offn i q vv : Nat) (b0 b1 ri rw rw2 : ABlk) (g na nb nc rc : Int) (hc_0 : (i : Int) < (k : Int)) (hc_1 : (i : Int) < 60) (hc_2 : aindexAddr env.D 31 (.slice on k ck) (.int .i64 (i : Int)) = some (.ptr (some ⟨1, vn, offn + i, 0, 3⟩))) (hc_3 : ABlk.elem? b1 vn (offn + i) = some (.agg [.int .i64 na, .int .i64 nb, .int .i64 nc])) (hc_4 : aindexAddr env.D 31 (.slice on k ck) (.int .i64 (i : Int)) = some (.ptr (some ⟨1, vn, offn + i, 0, 3⟩))) (hc_5 : ABlk.elem? b1 vn (offn + i) = some (.agg [.int .i64 na, .int .i64 nb, .int .i64 nc])) (hc_6 : aindexAddr env.D 31 (.slice on k ck) (.int .i64 (i : Int)) = some (.ptr (some ⟨1, vn, offn + i, 0, 3⟩))) (hc_7 : ABlk.elem? b1 vn (offn + i) = some (.agg [.int .i64 na, .int .i64 nb, .int .i64 nc])) (hc_8 : FDoes Try.prog 24 [.int .i64 nc, .int .i64 31] (AHeap.rows 69 [(0, b0), (1, b1), (10, ri)]) (.int .i64 rc) (AHeap.rows 69 [(0, b0), (1, b1), (10, ri)])) (hc_10 : abuiltin env Builtin.append { toList := [31, 31] } [.slice none 0 0, .slice (some ⟨66, 0, 0, 0, 3⟩) 1 1] 67 (AHeap.set (AHeap.rows 69 [(0, b0), (1, b1), (10, ri)]) 66 (.made [.agg [.int .i64 na, .int .i64 nb, .int .i64 rc]] 3 true)) = some (.slice (some ⟨67, 0, 0, 0, 3⟩) 1 1, (AHeap.rows 69 [(0, b0), (1, b1), (10, ri), (66, .made [.agg [.int .i64 na, .int .i64 nb, .int .i64 rc]] 3 true), (67, rw2)]))) (hc_11 : -9223372036854775808 ≤ (i : Int) + 1 ∧ (i : Int) + (1 : Int) ≤ 9223372036854775807) :
    Runs Try.prog 2 239 (loopAt Try.prog 8 1) [(2, .slice on k ck), (9, .int .i64 n), (10, .int .i64 g), (11, .slice (some ⟨10, 0, 0, 0, 5⟩) n n), (14, .slice none 0 0), (15, .int .i64 i)] (AHeap.rows 40 [(0, b0), (1, b1), (10, ri)]) .normal [(2, .slice on k ck), (9, .int .i64 (n : Int)), (10, .int .i64 g), (11, .slice (some ⟨10, 0, 0, 0, 5⟩) n n), (14, .slice (some ⟨67, 0, 0, 0, 3⟩) 1 1), (15, .int .i64 ((i : Int) + 1))] (AHeap.rows 72 [(0, b0), (1, b1), (10, ri), (66, .made [.agg [.int .i64 na, .int .i64 nb, .int .i64 rc]] 3 true), (67, rw2)]) :=
  ppath_runs env_ok mixed (hs := [.val 15003 (.bool true), .val 15006 (.bool true), .val 17003 (.ptr (some ⟨1, vn, offn + i, 0, 3⟩)), .ld 17005 (.agg [.int .i64 na, .int .i64 nb, .int .i64 nc]), .val 17008 (.ptr (some ⟨1, vn, offn + i, 0, 3⟩)), .ld 17010 (.agg [.int .i64 na, .int .i64 nb, .int .i64 nc]), .val 17013 (.ptr (some ⟨1, vn, offn + i, 0, 3⟩)), .ld 17015 (.agg [.int .i64 na, .int .i64 nb, .int .i64 nc]), .val 17016 (.int .i64 rc), .act 17019 (.slice (some ⟨67, 0, 0, 0, 3⟩) 1 1) (fun h => h.set 67 rw2), .go 16001]) (keep := [2, 9, 10, 11, 14, 15]) (by kernel_rfl) (All.cons (okT hc_0) (All.cons (okT hc_1) (All.cons hc_2 (All.cons hc_3 (All.cons hc_4 (All.cons hc_5 (All.cons hc_6 (All.cons hc_7 (All.cons (CallT.mk hc_8) (All.cons (show sameOld 69 (AHeap.rows 69 [(0, b0), (1, b1), (10, ri)]) (AHeap.rows 69 [(0, b0), (1, b1), (10, ri)]) = true from sameOld_refl _ _) (All.cons hc_10 (All.cons hc_11 (All.nil)))))))))))))

theorem lb_eN (on : Option AAddr) (n k ck vn offn i q vv : Nat) (b0 b1 ri rw rw2 : ABlk) (g na nb nc rc : Int) (hc_0 : ¬ ((i : Int) < (k : Int))) :
    Runs Try.prog 2 239 (loopAt Try.prog 8 1) [(2, .slice on k ck), (9, .int .i64 n), (10, .int .i64 g), (11, .slice (some ⟨10, 0, 0, 0, 5⟩) n n), (14, .slice none 0 0), (15, .int .i64 i)] (AHeap.rows 40 [(0, b0), (1, b1), (10, ri)]) (.exit 3) [(9, .int .i64 (n : Int)), (10, .int .i64 g), (11, .slice (some ⟨10, 0, 0, 0, 5⟩) n n), (14, .slice none 0 0)] (AHeap.rows 48 [(0, b0), (1, b1), (10, ri)]) :=
  ppath_runs env_ok mixed (hs := [.val 15003 (.bool false)]) (keep := [9, 10, 11, 14]) (by kernel_rfl) (All.cons (okF hc_0) (All.nil))

theorem lb_sG (on : Option AAddr) (n k ck vn offn i q vv : Nat) (b0 b1 ri rw rw2 : ABlk) (g na nb nc rc : Int) (hc_0 : (i : Int) < (k : Int)) (hc_1 : (i : Int) < 60) (hc_2 : aindexAddr env.D 31 (.slice on k ck) (.int .i64 (i : Int)) = some (.ptr (some ⟨1, vn, offn + i, 0, 3⟩))) (hc_3 : ABlk.elem? b1 vn (offn + i) = some (.agg [.int .i64 na, .int .i64 nb, .int .i64 nc])) (hc_4 : aindexAddr env.D 31 (.slice on k ck) (.int .i64 (i : Int)) = some (.ptr (some ⟨1, vn, offn + i, 0, 3⟩))) (hc_5 : ABlk.elem? b1 vn (offn + i) = some (.agg [.int .i64 na, .int .i64 nb, .int .i64 nc])) (hc_6 : aindexAddr env.D 31 (.slice on k ck) (.int .i64 (i : Int)) = some (.ptr (some ⟨1, vn, offn + i, 0, 3⟩))) (hc_7 : ABlk.elem? b1 vn (offn + i) = some (.agg [.int .i64 na, .int .i64 nb, .int .i64 nc])) (hc_8 : FDoes Try.prog 24 [.int .i64 nc, .int .i64 31] (AHeap.rows 109 [(0, b0), (1, b1), (10, ri), (67, rw)]) (.int .i64 rc) (AHeap.rows 109 [(0, b0), (1, b1), (10, ri), (67, rw)])) (hc_10 : abuiltin env Builtin.append { toList := [31, 31] } [.slice (some ⟨67, vv, 0, 0, 3⟩) q q, .slice (some ⟨106, 0, 0, 0, 3⟩) 1 1] 107 (AHeap.set (AHeap.rows 109 [(0, b0), (1, b1), (10, ri), (67, rw)]) 106 (.made [.agg [.int .i64 na, .int .i64 nb, .int .i64 rc]] 3 true)) = some (.slice (some ⟨67, vv + 1, 0, 0, 3⟩) (q + 1) (q + 1), (AHeap.rows 109 [(0, b0), (1, b1), (10, ri), (67, rw2), (106, .made [.agg [.int .i64 na, .int .i64 nb, .int .i64 rc]] 3 true)]))) (hc_11 : -9223372036854775808 ≤ (i : Int) + 1 ∧ (i : Int) + (1 : Int) ≤ 9223372036854775807) :
    Runs Try.prog 2 239 (loopAt Try.prog 8 1) [(2, .slice on k ck), (9, .int .i64 n), (10, .int .i64 g), (11, .slice (some ⟨10, 0, 0, 0, 5⟩) n n), (14, .slice (some ⟨67, vv, 0, 0, 3⟩) q q), (15, .int .i64 i)] (AHeap.rows 80 [(0, b0), (1, b1), (10, ri), (67, rw)]) .normal [(2, .slice on k ck), (9, .int .i64 (n : Int)), (10, .int .i64 g), (11, .slice (some ⟨10, 0, 0, 0, 5⟩) n n), (14, .slice (some ⟨67, vv + 1, 0, 0, 3⟩) (q + 1) (q + 1)), (15, .int .i64 ((i : Int) + 1))] (AHeap.rows 112 [(0, b0), (1, b1), (10, ri), (67, rw2), (106, .made [.agg [.int .i64 na, .int .i64 nb, .int .i64 rc]] 3 true)]) :=
  ppath_runs env_ok mixed (hs := [.val 15003 (.bool true), .val 15006 (.bool true), .val 17003 (.ptr (some ⟨1, vn, offn + i, 0, 3⟩)), .ld 17005 (.agg [.int .i64 na, .int .i64 nb, .int .i64 nc]), .val 17008 (.ptr (some ⟨1, vn, offn + i, 0, 3⟩)), .ld 17010 (.agg [.int .i64 na, .int .i64 nb, .int .i64 nc]), .val 17013 (.ptr (some ⟨1, vn, offn + i, 0, 3⟩)), .ld 17015 (.agg [.int .i64 na, .int .i64 nb, .int .i64 nc]), .val 17016 (.int .i64 rc), .act 17019 (.slice (some ⟨67, vv + 1, 0, 0, 3⟩) (q + 1) (q + 1)) (fun h => h.set 67 rw2), .go 16001]) (keep := [2, 9, 10, 11, 14, 15]) (by kernel_rfl) (All.cons (okT hc_0) (All.cons (okT hc_1) (All.cons hc_2 (All.cons hc_3 (All.cons hc_4 (All.cons hc_5 (All.cons hc_6 (All.cons hc_7 (All.cons (CallT.mk hc_8) (All.cons (show sameOld 109 (AHeap.rows 109 [(0, b0), (1, b1), (10, ri), (67, rw)]) (AHeap.rows 109 [(0, b0), (1, b1), (10, ri), (67, rw)]) = true from sameOld_refl _ _) (All.cons hc_10 (All.cons hc_11 (All.nil)))))))))))))

theorem lb_eG (on : Option AAddr) (n k ck vn offn i q vv : Nat) (b0 b1 ri rw rw2 : ABlk) (g na nb nc rc : Int) (hc_0 : ¬ ((i : Int) < (k : Int))) :
    Runs Try.prog 2 239 (loopAt Try.prog 8 1) [(2, .slice on k ck), (9, .int .i64 n), (10, .int .i64 g), (11, .slice (some ⟨10, 0, 0, 0, 5⟩) n n), (14, .slice (some ⟨67, vv, 0, 0, 3⟩) q q), (15, .int .i64 i)] (AHeap.rows 80 [(0, b0), (1, b1), (10, ri), (67, rw)]) (.exit 3) [(9, .int .i64 (n : Int)), (10, .int .i64 g), (11, .slice (some ⟨10, 0, 0, 0, 5⟩) n n), (14, .slice (some ⟨67, vv, 0, 0, 3⟩) q q)] (AHeap.rows 88 [(0, b0), (1, b1), (10, ri), (67, rw)]) :=
  ppath_runs env_ok mixed (hs := [.val 15003 (.bool false)]) (keep := [9, 10, 11, 14]) (by kernel_rfl) (All.cons (okF hc_0) (All.nil))

theorem lb_fG (on : Option AAddr) (n k ck vn offn i q vv : Nat) (b0 b1 ri rw rw2 : ABlk) (g na nb nc rc : Int) (hc_0 : (i : Int) < (k : Int)) (hc_1 : ¬ ((i : Int) < 60)) :
    Runs Try.prog 2 239 (loopAt Try.prog 8 1) [(2, .slice on k ck), (9, .int .i64 n), (10, .int .i64 g), (11, .slice (some ⟨10, 0, 0, 0, 5⟩) n n), (14, .slice (some ⟨67, vv, 0, 0, 3⟩) q q), (15, .int .i64 i)] (AHeap.rows 80 [(0, b0), (1, b1), (10, ri), (67, rw)]) (.exit 3) [(9, .int .i64 (n : Int)), (10, .int .i64 g), (11, .slice (some ⟨10, 0, 0, 0, 5⟩) n n), (14, .slice (some ⟨67, vv, 0, 0, 3⟩) q q)] (AHeap.rows 88 [(0, b0), (1, b1), (10, ri), (67, rw)]) :=
  ppath_runs env_ok mixed (hs := [.val 15003 (.bool true), .val 15006 (.bool false)]) (keep := [9, 10, 11, 14]) (by kernel_rfl) (All.cons (okT hc_0) (All.cons (okF hc_1) (All.nil)))

theorem lc_0 (ol oo : Option AAddr) (n kl cl co vl i : Nat) (b0 b1 ri rl ro : ABlk) (g x tn td tm tx : Int) (hc_0 : (i : Int) < (n : Int)) (hc_1 : aindexAddr env.D 32 (.slice oo n co) (.int .i64 (i : Int)) = some (.ptr (some ⟨80, 0, 0 + i, 0, 1⟩))) (hc_2 : ABlk.elem? ro 0 (0 + i) = some (.int .i64 x)) (hc_3 : aindexAddr env.D 30 (.slice (some ⟨10, 0, 0, 0, 5⟩) n n) (.int .i64 (i : Int)) = some (.ptr (some ⟨10, 0, 0 + i, 0, 5⟩))) (hc_4 : ABlk.elem? ri 0 (0 + i) = some (.agg [.int .i8 (0), .int .i64 tn, .int .i64 td, .int .i64 tm, .int .i64 tx])) (hc_5 : ¬ (x < tm)) (hc_6 : aindexAddr env.D 30 (.slice (some ⟨10, 0, 0, 0, 5⟩) n n) (.int .i64 (i : Int)) = some (.ptr (some ⟨10, 0, 0 + i, 0, 5⟩))) (hc_7 : ABlk.elem? ri 0 (0 + i) = some (.agg [.int .i8 (0), .int .i64 tn, .int .i64 td, .int .i64 tm, .int .i64 tx])) (hc_9 : -9223372036854775808 ≤ (i : Int) + 1 ∧ (i : Int) + (1 : Int) ≤ 9223372036854775807) :
    Runs Try.prog 2 239 (loopAt Try.prog 8 2) [(9, .int .i64 n), (10, .int .i64 g), (11, .slice (some ⟨10, 0, 0, 0, 5⟩) n n), (14, .slice ol kl cl), (16, .slice oo n co), (17, .int .i64 i)] (AHeap.rows 90 [(0, b0), (1, b1), (10, ri), (67, rl), (80, ro)]) .normal [(9, .int .i64 (n : Int)), (10, .int .i64 g), (11, .slice (some ⟨10, 0, 0, 0, 5⟩) n n), (14, .slice ol kl cl), (16, .slice oo n co), (17, .int .i64 ((i : Int) + 1))] (AHeap.rows 126 [(0, b0), (1, b1), (10, ri), (67, rl), (80, ro)]) :=
  ppath_runs env_ok mixed (hs := [.val 22002 (.bool true), .val 24002 (.ptr (some ⟨80, 0, 0 + i, 0, 1⟩)), .ld 24003 (.int .i64 x), .val 24006 (.ptr (some ⟨10, 0, 0 + i, 0, 5⟩)), .ld 24008 (.agg [.int .i8 0, .int .i64 tn, .int .i64 td, .int .i64 tm, .int .i64 tx]), .val 24009 (.bool false), .val 24013 (.ptr (some ⟨10, 0, 0 + i, 0, 5⟩)), .ld 24015 (.agg [.int .i8 0, .int .i64 tn, .int .i64 td, .int .i64 tm, .int .i64 tx]), .val 24016 (.bool false), .go 23001]) (keep := [9, 10, 11, 14, 16, 17]) (by kernel_rfl) (All.cons (okT hc_0) (All.cons hc_1 (All.cons hc_2 (All.cons hc_3 (All.cons hc_4 (All.cons (okF hc_5) (All.cons hc_6 (All.cons hc_7 (All.cons (show some (AVal.bool false) = some (AVal.bool false) from congrArg (fun q => some (AVal.bool q)) (rfl)) (All.cons hc_9 (All.nil)))))))))))

theorem lc_1 (ol oo : Option AAddr) (n kl cl co vl i : Nat) (b0 b1 ri rl ro : ABlk) (g x tn td tm tx : Int) (hc_0 : (i : Int) < (n : Int)) (hc_1 : aindexAddr env.D 32 (.slice oo n co) (.int .i64 (i : Int)) = some (.ptr (some ⟨80, 0, 0 + i, 0, 1⟩))) (hc_2 : ABlk.elem? ro 0 (0 + i) = some (.int .i64 x)) (hc_3 : aindexAddr env.D 30 (.slice (some ⟨10, 0, 0, 0, 5⟩) n n) (.int .i64 (i : Int)) = some (.ptr (some ⟨10, 0, 0 + i, 0, 5⟩))) (hc_4 : ABlk.elem? ri 0 (0 + i) = some (.agg [.int .i8 (1), .int .i64 tn, .int .i64 td, .int .i64 tm, .int .i64 tx])) (hc_5 : ¬ (x < tm)) (hc_6 : aindexAddr env.D 30 (.slice (some ⟨10, 0, 0, 0, 5⟩) n n) (.int .i64 (i : Int)) = some (.ptr (some ⟨10, 0, 0 + i, 0, 5⟩))) (hc_7 : ABlk.elem? ri 0 (0 + i) = some (.agg [.int .i8 (1), .int .i64 tn, .int .i64 td, .int .i64 tm, .int .i64 tx])) (hc_9 : aindexAddr env.D 32 (.slice oo n co) (.int .i64 (i : Int)) = some (.ptr (some ⟨80, 0, 0 + i, 0, 1⟩))) (hc_10 : ABlk.elem? ro 0 (0 + i) = some (.int .i64 x)) (hc_11 : aindexAddr env.D 30 (.slice (some ⟨10, 0, 0, 0, 5⟩) n n) (.int .i64 (i : Int)) = some (.ptr (some ⟨10, 0, 0 + i, 0, 5⟩))) (hc_12 : ABlk.elem? ri 0 (0 + i) = some (.agg [.int .i8 (1), .int .i64 tn, .int .i64 td, .int .i64 tm, .int .i64 tx])) (hc_13 : x = tn) (hc_14 : -9223372036854775808 ≤ (i : Int) + 1 ∧ (i : Int) + (1 : Int) ≤ 9223372036854775807) :
    Runs Try.prog 2 239 (loopAt Try.prog 8 2) [(9, .int .i64 n), (10, .int .i64 g), (11, .slice (some ⟨10, 0, 0, 0, 5⟩) n n), (14, .slice ol kl cl), (16, .slice oo n co), (17, .int .i64 i)] (AHeap.rows 90 [(0, b0), (1, b1), (10, ri), (67, rl), (80, ro)]) .normal [(9, .int .i64 (n : Int)), (10, .int .i64 g), (11, .slice (some ⟨10, 0, 0, 0, 5⟩) n n), (14, .slice ol kl cl), (16, .slice oo n co), (17, .int .i64 ((i : Int) + 1))] (AHeap.rows 126 [(0, b0), (1, b1), (10, ri), (67, rl), (80, ro)]) :=
  ppath_runs env_ok mixed (hs := [.val 22002 (.bool true), .val 24002 (.ptr (some ⟨80, 0, 0 + i, 0, 1⟩)), .ld 24003 (.int .i64 x), .val 24006 (.ptr (some ⟨10, 0, 0 + i, 0, 5⟩)), .ld 24008 (.agg [.int .i8 1, .int .i64 tn, .int .i64 td, .int .i64 tm, .int .i64 tx]), .val 24009 (.bool false), .val 24013 (.ptr (some ⟨10, 0, 0 + i, 0, 5⟩)), .ld 24015 (.agg [.int .i8 1, .int .i64 tn, .int .i64 td, .int .i64 tm, .int .i64 tx]), .val 24016 (.bool true), .val 24020 (.ptr (some ⟨80, 0, 0 + i, 0, 1⟩)), .ld 24021 (.int .i64 x), .val 24024 (.ptr (some ⟨10, 0, 0 + i, 0, 5⟩)), .ld 24026 (.agg [.int .i8 1, .int .i64 tn, .int .i64 td, .int .i64 tm, .int .i64 tx]), .val 24027 (.bool false), .go 23001]) (keep := [9, 10, 11, 14, 16, 17]) (by kernel_rfl) (All.cons (okT hc_0) (All.cons hc_1 (All.cons hc_2 (All.cons hc_3 (All.cons hc_4 (All.cons (okF hc_5) (All.cons hc_6 (All.cons hc_7 (All.cons (show some (AVal.bool true) = some (AVal.bool true) from congrArg (fun q => some (AVal.bool q)) (rfl)) (All.cons hc_9 (All.cons hc_10 (All.cons hc_11 (All.cons hc_12 (All.cons (neF hc_13) (All.cons hc_14 (All.nil))))))))))))))))

theorem lc_e (ol oo : Option AAddr) (n kl cl co vl i : Nat) (b0 b1 ri rl ro : ABlk) (g x tn td tm tx : Int) (hc_0 : ¬ ((i : Int) < (n : Int))) :
    Runs Try.prog 2 239 (loopAt Try.prog 8 2) [(9, .int .i64 n), (10, .int .i64 g), (11, .slice (some ⟨10, 0, 0, 0, 5⟩) n n), (14, .slice ol kl cl), (16, .slice oo n co), (17, .int .i64 i)] (AHeap.rows 90 [(0, b0), (1, b1), (10, ri), (67, rl), (80, ro)]) (.exit 5) [(9, .int .i64 (n : Int)), (10, .int .i64 g), (11, .slice (some ⟨10, 0, 0, 0, 5⟩) n n), (14, .slice ol kl cl), (16, .slice oo n co)] (AHeap.rows 93 [(0, b0), (1, b1), (10, ri), (67, rl), (80, ro)]) :=
  ppath_runs env_ok mixed (hs := [.val 22002 (.bool false)]) (keep := [9, 10, 11, 14, 16]) (by kernel_rfl) (All.cons (okF hc_0) (All.nil))

theorem le_t (ol oo : Option AAddr) (n kl cl co vl i j : Nat) (b0 b1 ri rl ro : ABlk) (g s e x tn td tm tx : Int) (hc_0 : (j : Int) < e) (hc_1 : aindexAddr env.D 32 (.slice oo n co) (.int .i64 (j : Int)) = some (.ptr (some ⟨80, 0, 0 + j, 0, 1⟩))) (hc_2 : ABlk.elem? ro 0 (0 + j) = some (.int .i64 x)) (hc_3 : -9223372036854775808 ≤ s + x ∧ s + x ≤ 9223372036854775807) (hc_4 : -9223372036854775808 ≤ (j : Int) + 1 ∧ (j : Int) + (1 : Int) ≤ 9223372036854775807) :
    Runs Try.prog 2 239 (loopAt Try.prog 8 4) [(9, .int .i64 n), (10, .int .i64 g), (11, .slice (some ⟨10, 0, 0, 0, 5⟩) n n), (14, .slice ol kl cl), (16, .slice oo n co), (18, .int .i64 i), (19, .int .i64 s), (20, .bool true), (21, .int .i64 e), (22, .int .i64 j)] (AHeap.rows 100 [(0, b0), (1, b1), (10, ri), (67, rl), (80, ro)]) .normal [(9, .int .i64 (n : Int)), (10, .int .i64 g), (11, .slice (some ⟨10, 0, 0, 0, 5⟩) n n), (14, .slice ol kl cl), (16, .slice oo n co), (18, .int .i64 (i : Int)), (19, .int .i64 (s + x)), (20, AVal.bool true), (21, .int .i64 e), (22, .int .i64 ((j : Int) + 1))] (AHeap.rows 123 [(0, b0), (1, b1), (10, ri), (67, rl), (80, ro)]) :=
  ppath_runs env_ok mixed (hs := [.val 36002 (.bool true), .val 38003 (.ptr (some ⟨80, 0, 0 + j, 0, 1⟩)), .ld 38004 (.int .i64 x), .go 38005, .go 37001]) (keep := [9, 10, 11, 14, 16, 18, 19, 20, 21, 22]) (by kernel_rfl) (All.cons (okT hc_0) (All.cons hc_1 (All.cons hc_2 (All.cons hc_3 (All.cons hc_4 (All.nil))))))

theorem le_0 (ol oo : Option AAddr) (n kl cl co vl i j : Nat) (b0 b1 ri rl ro : ABlk) (g s e x tn td tm tx : Int) (hc_0 : (j : Int) < e) (hc_1 : aindexAddr env.D 32 (.slice oo n co) (.int .i64 (j : Int)) = some (.ptr (some ⟨80, 0, 0 + j, 0, 1⟩))) (hc_2 : ABlk.elem? ro 0 (0 + j) = some (.int .i64 x)) (hc_3 : -9223372036854775808 ≤ s + x ∧ s + x ≤ 9223372036854775807) (hc_4 : aindexAddr env.D 30 (.slice (some ⟨10, 0, 0, 0, 5⟩) n n) (.int .i64 (j : Int)) = some (.ptr (some ⟨10, 0, 0 + j, 0, 5⟩))) (hc_5 : ABlk.elem? ri 0 (0 + j) = some (.agg [.int .i8 (0), .int .i64 tn, .int .i64 td, .int .i64 tm, .int .i64 tx])) (hc_7 : -9223372036854775808 ≤ (j : Int) + 1 ∧ (j : Int) + (1 : Int) ≤ 9223372036854775807) :
    Runs Try.prog 2 239 (loopAt Try.prog 8 4) [(9, .int .i64 n), (10, .int .i64 g), (11, .slice (some ⟨10, 0, 0, 0, 5⟩) n n), (14, .slice ol kl cl), (16, .slice oo n co), (18, .int .i64 i), (19, .int .i64 s), (20, .bool false), (21, .int .i64 e), (22, .int .i64 j)] (AHeap.rows 100 [(0, b0), (1, b1), (10, ri), (67, rl), (80, ro)]) .normal [(9, .int .i64 (n : Int)), (10, .int .i64 g), (11, .slice (some ⟨10, 0, 0, 0, 5⟩) n n), (14, .slice ol kl cl), (16, .slice oo n co), (18, .int .i64 (i : Int)), (19, .int .i64 (s + x)), (20, AVal.bool true), (21, .int .i64 e), (22, .int .i64 ((j : Int) + 1))] (AHeap.rows 123 [(0, b0), (1, b1), (10, ri), (67, rl), (80, ro)]) :=
  ppath_runs env_ok mixed (hs := [.val 36002 (.bool true), .val 38003 (.ptr (some ⟨80, 0, 0 + j, 0, 1⟩)), .ld 38004 (.int .i64 x), .go 38005, .val 39004 (.ptr (some ⟨10, 0, 0 + j, 0, 5⟩)), .ld 39006 (.agg [.int .i8 0, .int .i64 tn, .int .i64 td, .int .i64 tm, .int .i64 tx]), .val 39007 (.bool true), .go 37001]) (keep := [9, 10, 11, 14, 16, 18, 19, 20, 21, 22]) (by kernel_rfl) (All.cons (okT hc_0) (All.cons hc_1 (All.cons hc_2 (All.cons hc_3 (All.cons hc_4 (All.cons hc_5 (All.cons (show some (AVal.bool true) = some (AVal.bool true) from congrArg (fun q => some (AVal.bool q)) (rfl)) (All.cons hc_7 (All.nil)))))))))

theorem le_1 (ol oo : Option AAddr) (n kl cl co vl i j : Nat) (b0 b1 ri rl ro : ABlk) (g s e x tn td tm tx : Int) (hc_0 : (j : Int) < e) (hc_1 : aindexAddr env.D 32 (.slice oo n co) (.int .i64 (j : Int)) = some (.ptr (some ⟨80, 0, 0 + j, 0, 1⟩))) (hc_2 : ABlk.elem? ro 0 (0 + j) = some (.int .i64 x)) (hc_3 : -9223372036854775808 ≤ s + x ∧ s + x ≤ 9223372036854775807) (hc_4 : aindexAddr env.D 30 (.slice (some ⟨10, 0, 0, 0, 5⟩) n n) (.int .i64 (j : Int)) = some (.ptr (some ⟨10, 0, 0 + j, 0, 5⟩))) (hc_5 : ABlk.elem? ri 0 (0 + j) = some (.agg [.int .i8 (1), .int .i64 tn, .int .i64 td, .int .i64 tm, .int .i64 tx])) (hc_7 : -9223372036854775808 ≤ (j : Int) + 1 ∧ (j : Int) + (1 : Int) ≤ 9223372036854775807) :
    Runs Try.prog 2 239 (loopAt Try.prog 8 4) [(9, .int .i64 n), (10, .int .i64 g), (11, .slice (some ⟨10, 0, 0, 0, 5⟩) n n), (14, .slice ol kl cl), (16, .slice oo n co), (18, .int .i64 i), (19, .int .i64 s), (20, .bool false), (21, .int .i64 e), (22, .int .i64 j)] (AHeap.rows 100 [(0, b0), (1, b1), (10, ri), (67, rl), (80, ro)]) .normal [(9, .int .i64 (n : Int)), (10, .int .i64 g), (11, .slice (some ⟨10, 0, 0, 0, 5⟩) n n), (14, .slice ol kl cl), (16, .slice oo n co), (18, .int .i64 (i : Int)), (19, .int .i64 (s + x)), (20, AVal.bool false), (21, .int .i64 e), (22, .int .i64 ((j : Int) + 1))] (AHeap.rows 123 [(0, b0), (1, b1), (10, ri), (67, rl), (80, ro)]) :=
  ppath_runs env_ok mixed (hs := [.val 36002 (.bool true), .val 38003 (.ptr (some ⟨80, 0, 0 + j, 0, 1⟩)), .ld 38004 (.int .i64 x), .go 38005, .val 39004 (.ptr (some ⟨10, 0, 0 + j, 0, 5⟩)), .ld 39006 (.agg [.int .i8 1, .int .i64 tn, .int .i64 td, .int .i64 tm, .int .i64 tx]), .val 39007 (.bool false), .go 37001]) (keep := [9, 10, 11, 14, 16, 18, 19, 20, 21, 22]) (by kernel_rfl) (All.cons (okT hc_0) (All.cons hc_1 (All.cons hc_2 (All.cons hc_3 (All.cons hc_4 (All.cons hc_5 (All.cons (show some (AVal.bool false) = some (AVal.bool false) from congrArg (fun q => some (AVal.bool q)) (rfl)) (All.cons hc_7 (All.nil)))))))))

theorem le_et (ol oo : Option AAddr) (n kl cl co vl i j : Nat) (b0 b1 ri rl ro : ABlk) (g s e x tn td tm tx : Int) (hc_0 : ¬ ((j : Int) < e)) :
    Runs Try.prog 2 239 (loopAt Try.prog 8 4) [(9, .int .i64 n), (10, .int .i64 g), (11, .slice (some ⟨10, 0, 0, 0, 5⟩) n n), (14, .slice ol kl cl), (16, .slice oo n co), (18, .int .i64 i), (19, .int .i64 s), (20, .bool true), (21, .int .i64 e), (22, .int .i64 j)] (AHeap.rows 100 [(0, b0), (1, b1), (10, ri), (67, rl), (80, ro)]) (.exit 9) [(9, .int .i64 (n : Int)), (10, .int .i64 g), (11, .slice (some ⟨10, 0, 0, 0, 5⟩) n n), (14, .slice ol kl cl), (16, .slice oo n co), (18, .int .i64 (i : Int)), (19, .int .i64 s), (20, AVal.bool true), (21, .int .i64 e)] (AHeap.rows 103 [(0, b0), (1, b1), (10, ri), (67, rl), (80, ro)]) :=
  ppath_runs env_ok mixed (hs := [.val 36002 (.bool false)]) (keep := [9, 10, 11, 14, 16, 18, 19, 20, 21]) (by kernel_rfl) (All.cons (okF hc_0) (All.nil))

theorem le_ef (ol oo : Option AAddr) (n kl cl co vl i j : Nat) (b0 b1 ri rl ro : ABlk) (g s e x tn td tm tx : Int) (hc_0 : ¬ ((j : Int) < e)) :
    Runs Try.prog 2 239 (loopAt Try.prog 8 4) [(9, .int .i64 n), (10, .int .i64 g), (11, .slice (some ⟨10, 0, 0, 0, 5⟩) n n), (14, .slice ol kl cl), (16, .slice oo n co), (18, .int .i64 i), (19, .int .i64 s), (20, .bool false), (21, .int .i64 e), (22, .int .i64 j)] (AHeap.rows 100 [(0, b0), (1, b1), (10, ri), (67, rl), (80, ro)]) (.exit 9) [(9, .int .i64 (n : Int)), (10, .int .i64 g), (11, .slice (some ⟨10, 0, 0, 0, 5⟩) n n), (14, .slice ol kl cl), (16, .slice oo n co), (18, .int .i64 (i : Int)), (19, .int .i64 s), (20, AVal.bool false), (21, .int .i64 e)] (AHeap.rows 103 [(0, b0), (1, b1), (10, ri), (67, rl), (80, ro)]) :=
  ppath_runs env_ok mixed (hs := [.val 36002 (.bool false)]) (keep := [9, 10, 11, 14, 16, 18, 19, 20, 21]) (by kernel_rfl) (All.cons (okF hc_0) (All.nil))

theorem ld_s1 (ol oo : Option AAddr) (n kl cl co vl i : Nat) (b0 b1 ri rl ro : ABlk) (g s e na nb nc : Int) (hc_0 : (i : Int) < (kl : Int)) (hc_1 : aindexAddr env.D 31 (.slice ol kl cl) (.int .i64 (i : Int)) = some (.ptr (some ⟨67, vl, 0 + i, 0, 3⟩))) (hc_2 : ABlk.elem? rl vl (0 + i) = some (.agg [.int .i64 na, .int .i64 nb, .int .i64 nc])) (hc_3 : na < 0) (hc_4 : -9223372036854775808 ≤ (i : Int) + 1 ∧ (i : Int) + (1 : Int) ≤ 9223372036854775807) :
    Runs Try.prog 2 239 (loopAt Try.prog 8 3) [(9, .int .i64 n), (10, .int .i64 g), (11, .slice (some ⟨10, 0, 0, 0, 5⟩) n n), (14, .slice ol kl cl), (16, .slice oo n co), (18, .int .i64 i)] (AHeap.rows 95 [(0, b0), (1, b1), (10, ri), (67, rl), (80, ro)]) .normal [(9, .int .i64 (n : Int)), (10, .int .i64 g), (11, .slice (some ⟨10, 0, 0, 0, 5⟩) n n), (14, .slice ol kl cl), (16, .slice oo n co), (18, .int .i64 ((i : Int) + 1))] (AHeap.rows 125 [(0, b0), (1, b1), (10, ri), (67, rl), (80, ro)]) :=
  ppath_runs env_ok mixed (hs := [.val 27003 (.bool true), .val 29002 (.ptr (some ⟨67, vl, 0 + i, 0, 3⟩)), .ld 29004 (.agg [.int .i64 na, .int .i64 nb, .int .i64 nc]), .val 29005 (.bool true), .go 28001]) (keep := [9, 10, 11, 14, 16, 18]) (by kernel_rfl) (All.cons (okT hc_0) (All.cons hc_1 (All.cons hc_2 (All.cons (okT hc_3) (All.cons hc_4 (All.nil))))))

theorem ld_s2 (ol oo : Option AAddr) (n kl cl co vl i : Nat) (b0 b1 ri rl ro : ABlk) (g s e na nb nc : Int) (hc_0 : (i : Int) < (kl : Int)) (hc_1 : aindexAddr env.D 31 (.slice ol kl cl) (.int .i64 (i : Int)) = some (.ptr (some ⟨67, vl, 0 + i, 0, 3⟩))) (hc_2 : ABlk.elem? rl vl (0 + i) = some (.agg [.int .i64 na, .int .i64 nb, .int .i64 nc])) (hc_3 : ¬ (na < 0)) (hc_4 : aindexAddr env.D 31 (.slice ol kl cl) (.int .i64 (i : Int)) = some (.ptr (some ⟨67, vl, 0 + i, 0, 3⟩))) (hc_5 : ABlk.elem? rl vl (0 + i) = some (.agg [.int .i64 na, .int .i64 nb, .int .i64 nc])) (hc_6 : na ≥ (n : Int)) (hc_7 : -9223372036854775808 ≤ (i : Int) + 1 ∧ (i : Int) + (1 : Int) ≤ 9223372036854775807) :
    Runs Try.prog 2 239 (loopAt Try.prog 8 3) [(9, .int .i64 n), (10, .int .i64 g), (11, .slice (some ⟨10, 0, 0, 0, 5⟩) n n), (14, .slice ol kl cl), (16, .slice oo n co), (18, .int .i64 i)] (AHeap.rows 95 [(0, b0), (1, b1), (10, ri), (67, rl), (80, ro)]) .normal [(9, .int .i64 (n : Int)), (10, .int .i64 g), (11, .slice (some ⟨10, 0, 0, 0, 5⟩) n n), (14, .slice ol kl cl), (16, .slice oo n co), (18, .int .i64 ((i : Int) + 1))] (AHeap.rows 125 [(0, b0), (1, b1), (10, ri), (67, rl), (80, ro)]) :=
  ppath_runs env_ok mixed (hs := [.val 27003 (.bool true), .val 29002 (.ptr (some ⟨67, vl, 0 + i, 0, 3⟩)), .ld 29004 (.agg [.int .i64 na, .int .i64 nb, .int .i64 nc]), .val 29005 (.bool false), .val 29009 (.ptr (some ⟨67, vl, 0 + i, 0, 3⟩)), .ld 29011 (.agg [.int .i64 na, .int .i64 nb, .int .i64 nc]), .val 29013 (.bool true), .go 28001]) (keep := [9, 10, 11, 14, 16, 18]) (by kernel_rfl) (All.cons (okT hc_0) (All.cons hc_1 (All.cons hc_2 (All.cons (okF hc_3) (All.cons hc_4 (All.cons hc_5 (All.cons (okT hc_6) (All.cons hc_7 (All.nil)))))))))

theorem ld_s3 (ol oo : Option AAddr) (n kl cl co vl i : Nat) (b0 b1 ri rl ro : ABlk) (g s e na nb nc : Int) (hc_0 : (i : Int) < (kl : Int)) (hc_1 : aindexAddr env.D 31 (.slice ol kl cl) (.int .i64 (i : Int)) = some (.ptr (some ⟨67, vl, 0 + i, 0, 3⟩))) (hc_2 : ABlk.elem? rl vl (0 + i) = some (.agg [.int .i64 na, .int .i64 nb, .int .i64 nc])) (hc_3 : ¬ (na < 0)) (hc_4 : aindexAddr env.D 31 (.slice ol kl cl) (.int .i64 (i : Int)) = some (.ptr (some ⟨67, vl, 0 + i, 0, 3⟩))) (hc_5 : ABlk.elem? rl vl (0 + i) = some (.agg [.int .i64 na, .int .i64 nb, .int .i64 nc])) (hc_6 : ¬ (na ≥ (n : Int))) (hc_7 : aindexAddr env.D 31 (.slice ol kl cl) (.int .i64 (i : Int)) = some (.ptr (some ⟨67, vl, 0 + i, 0, 3⟩))) (hc_8 : ABlk.elem? rl vl (0 + i) = some (.agg [.int .i64 na, .int .i64 nb, .int .i64 nc])) (hc_9 : nb < 1) (hc_10 : -9223372036854775808 ≤ (i : Int) + 1 ∧ (i : Int) + (1 : Int) ≤ 9223372036854775807) :
    Runs Try.prog 2 239 (loopAt Try.prog 8 3) [(9, .int .i64 n), (10, .int .i64 g), (11, .slice (some ⟨10, 0, 0, 0, 5⟩) n n), (14, .slice ol kl cl), (16, .slice oo n co), (18, .int .i64 i)] (AHeap.rows 95 [(0, b0), (1, b1), (10, ri), (67, rl), (80, ro)]) .normal [(9, .int .i64 (n : Int)), (10, .int .i64 g), (11, .slice (some ⟨10, 0, 0, 0, 5⟩) n n), (14, .slice ol kl cl), (16, .slice oo n co), (18, .int .i64 ((i : Int) + 1))] (AHeap.rows 125 [(0, b0), (1, b1), (10, ri), (67, rl), (80, ro)]) :=
  ppath_runs env_ok mixed (hs := [.val 27003 (.bool true), .val 29002 (.ptr (some ⟨67, vl, 0 + i, 0, 3⟩)), .ld 29004 (.agg [.int .i64 na, .int .i64 nb, .int .i64 nc]), .val 29005 (.bool false), .val 29009 (.ptr (some ⟨67, vl, 0 + i, 0, 3⟩)), .ld 29011 (.agg [.int .i64 na, .int .i64 nb, .int .i64 nc]), .val 29013 (.bool false), .val 29018 (.ptr (some ⟨67, vl, 0 + i, 0, 3⟩)), .ld 29020 (.agg [.int .i64 na, .int .i64 nb, .int .i64 nc]), .val 29021 (.bool true), .go 28001]) (keep := [9, 10, 11, 14, 16, 18]) (by kernel_rfl) (All.cons (okT hc_0) (All.cons hc_1 (All.cons hc_2 (All.cons (okF hc_3) (All.cons hc_4 (All.cons hc_5 (All.cons (okF hc_6) (All.cons hc_7 (All.cons hc_8 (All.cons (okT hc_9) (All.cons hc_10 (All.nil))))))))))))

theorem ld_e (ol oo : Option AAddr) (n kl cl co vl i : Nat) (b0 b1 ri rl ro : ABlk) (g s e na nb nc : Int) (hc_0 : ¬ ((i : Int) < (kl : Int))) :
    Runs Try.prog 2 239 (loopAt Try.prog 8 3) [(9, .int .i64 n), (10, .int .i64 g), (11, .slice (some ⟨10, 0, 0, 0, 5⟩) n n), (14, .slice ol kl cl), (16, .slice oo n co), (18, .int .i64 i)] (AHeap.rows 95 [(0, b0), (1, b1), (10, ri), (67, rl), (80, ro)]) (.exit 7) [] (AHeap.rows 99 [(0, b0), (1, b1), (10, ri), (67, rl), (80, ro)]) :=
  ppath_runs env_ok mixed (hs := [.val 27003 (.bool false)]) (keep := []) (by kernel_rfl) (All.cons (okF hc_0) (All.nil))

theorem ld_Tt (ol oo : Option AAddr) (n kl cl co vl i : Nat) (b0 b1 ri rl ro : ABlk) (g s e na nb nc : Int) (hc_0 : (i : Int) < (kl : Int)) (hc_1 : aindexAddr env.D 31 (.slice ol kl cl) (.int .i64 (i : Int)) = some (.ptr (some ⟨67, vl, 0 + i, 0, 3⟩))) (hc_2 : ABlk.elem? rl vl (0 + i) = some (.agg [.int .i64 na, .int .i64 nb, .int .i64 nc])) (hc_3 : ¬ (na < 0)) (hc_4 : aindexAddr env.D 31 (.slice ol kl cl) (.int .i64 (i : Int)) = some (.ptr (some ⟨67, vl, 0 + i, 0, 3⟩))) (hc_5 : ABlk.elem? rl vl (0 + i) = some (.agg [.int .i64 na, .int .i64 nb, .int .i64 nc])) (hc_6 : ¬ (na ≥ (n : Int))) (hc_7 : aindexAddr env.D 31 (.slice ol kl cl) (.int .i64 (i : Int)) = some (.ptr (some ⟨67, vl, 0 + i, 0, 3⟩))) (hc_8 : ABlk.elem? rl vl (0 + i) = some (.agg [.int .i64 na, .int .i64 nb, .int .i64 nc])) (hc_9 : ¬ (nb < 1)) (hc_10 : aindexAddr env.D 31 (.slice ol kl cl) (.int .i64 (i : Int)) = some (.ptr (some ⟨67, vl, 0 + i, 0, 3⟩))) (hc_11 : ABlk.elem? rl vl (0 + i) = some (.agg [.int .i64 na, .int .i64 nb, .int .i64 nc])) (hc_12 : aindexAddr env.D 31 (.slice ol kl cl) (.int .i64 (i : Int)) = some (.ptr (some ⟨67, vl, 0 + i, 0, 3⟩))) (hc_13 : ABlk.elem? rl vl (0 + i) = some (.agg [.int .i64 na, .int .i64 nb, .int .i64 nc])) (hc_14 : -9223372036854775808 ≤ (n : Int) - na ∧ (n : Int) - na ≤ 9223372036854775807) (hc_15 : nb < (n : Int) - na) (hc_16 : aindexAddr env.D 31 (.slice ol kl cl) (.int .i64 (i : Int)) = some (.ptr (some ⟨67, vl, 0 + i, 0, 3⟩))) (hc_17 : ABlk.elem? rl vl (0 + i) = some (.agg [.int .i64 na, .int .i64 nb, .int .i64 nc])) (hc_18 : aindexAddr env.D 31 (.slice ol kl cl) (.int .i64 (i : Int)) = some (.ptr (some ⟨67, vl, 0 + i, 0, 3⟩))) (hc_19 : ABlk.elem? rl vl (0 + i) = some (.agg [.int .i64 na, .int .i64 nb, .int .i64 nc])) (hc_20 : -9223372036854775808 ≤ na + nb ∧ na + nb ≤ 9223372036854775807) (hc_21 : aindexAddr env.D 31 (.slice ol kl cl) (.int .i64 (i : Int)) = some (.ptr (some ⟨67, vl, 0 + i, 0, 3⟩))) (hc_22 : ABlk.elem? rl vl (0 + i) = some (.agg [.int .i64 na, .int .i64 nb, .int .i64 nc])) (hc_23 : Runs Try.prog 2 239 (.loop (loopAt Try.prog 8 4)) [(9, .int .i64 (n : Int)), (10, .int .i64 g), (11, .slice (some ⟨10, 0, 0, 0, 5⟩) n n), (14, .slice ol kl cl), (16, .slice oo n co), (18, .int .i64 (i : Int)), (19, .int .i64 0), (20, AVal.bool false), (21, .int .i64 (na + nb)), (22, .int .i64 na)] (AHeap.rows 157 [(0, b0), (1, b1), (10, ri), (67, rl), (80, ro)]) (.exit 9) [(9, .int .i64 (n : Int)), (10, .int .i64 g), (11, .slice (some ⟨10, 0, 0, 0, 5⟩) n n), (14, .slice ol kl cl), (16, .slice oo n co), (18, .int .i64 (i : Int)), (19, .int .i64 s), (20, AVal.bool true), (21, .int .i64 (na + nb))] (AHeap.rows 104 [(0, b0), (1, b1), (10, ri), (67, rl), (80, ro)])) (hc_24 : aindexAddr env.D 31 (.slice ol kl cl) (.int .i64 (i : Int)) = some (.ptr (some ⟨67, vl, 0 + i, 0, 3⟩))) (hc_25 : ABlk.elem? rl vl (0 + i) = some (.agg [.int .i64 na, .int .i64 nb, .int .i64 nc])) (hc_26 : -9223372036854775808 ≤ na + nb - na ∧ na + nb - na ≤ 9223372036854775807) (hc_27 : -9223372036854775808 ≤ na + nb - na - 1 ∧ na + nb - na - (1 : Int) ≤ 9223372036854775807) (hc_28 : -9223372036854775808 ≤ g * (na + nb - na - 1) ∧ g * (na + nb - na - 1) ≤ 9223372036854775807) (hc_29 : -9223372036854775808 ≤ s + g * (na + nb - na - 1) ∧ s + g * (na + nb - na - 1) ≤ 9223372036854775807) (hc_30 : aindexAddr env.D 31 (.slice ol kl cl) (.int .i64 (i : Int)) = some (.ptr (some ⟨67, vl, 0 + i, 0, 3⟩))) (hc_31 : ABlk.elem? rl vl (0 + i) = some (.agg [.int .i64 na, .int .i64 nb, .int .i64 nc])) (hc_32 : ¬ (s + g * (na + nb - na - 1) < nc)) (hc_33 : -9223372036854775808 ≤ (i : Int) + 1 ∧ (i : Int) + (1 : Int) ≤ 9223372036854775807) :
    Runs Try.prog 2 239 (loopAt Try.prog 8 3) [(9, .int .i64 n), (10, .int .i64 g), (11, .slice (some ⟨10, 0, 0, 0, 5⟩) n n), (14, .slice ol kl cl), (16, .slice oo n co), (18, .int .i64 i)] (AHeap.rows 95 [(0, b0), (1, b1), (10, ri), (67, rl), (80, ro)]) .normal [(9, .int .i64 (n : Int)), (10, .int .i64 g), (11, .slice (some ⟨10, 0, 0, 0, 5⟩) n n), (14, .slice ol kl cl), (16, .slice oo n co), (18, .int .i64 ((i : Int) + 1))] (AHeap.rows 128 [(0, b0), (1, b1), (10, ri), (67, rl), (80, ro)]) :=
  ppath_runs env_ok mixed (hs := [.val 27003 (.bool true), .val 29002 (.ptr (some ⟨67, vl, 0 + i, 0, 3⟩)), .ld 29004 (.agg [.int .i64 na, .int .i64 nb, .int .i64 nc]), .val 29005 (.bool false), .val 29009 (.ptr (some ⟨67, vl, 0 + i, 0, 3⟩)), .ld 29011 (.agg [.int .i64 na, .int .i64 nb, .int .i64 nc]), .val 29013 (.bool false), .val 29018 (.ptr (some ⟨67, vl, 0 + i, 0, 3⟩)), .ld 29020 (.agg [.int .i64 na, .int .i64 nb, .int .i64 nc]), .val 29021 (.bool false), .val 33002 (.ptr (some ⟨67, vl, 0 + i, 0, 3⟩)), .ld 33004 (.agg [.int .i64 na, .int .i64 nb, .int .i64 nc]), .val 33008 (.ptr (some ⟨67, vl, 0 + i, 0, 3⟩)), .ld 33010 (.agg [.int .i64 na, .int .i64 nb, .int .i64 nc]), .go 33011, .val 33012 (.bool true), .val 34002 (.ptr (some ⟨67, vl, 0 + i, 0, 3⟩)), .ld 34004 (.agg [.int .i64 na, .int .i64 nb, .int .i64 nc]), .val 34007 (.ptr (some ⟨67, vl, 0 + i, 0, 3⟩)), .ld 34009 (.agg [.int .i64 na, .int .i64 nb, .int .i64 nc]), .go 34010, .val 35002 (.ptr (some ⟨67, vl, 0 + i, 0, 3⟩)), .ld 35004 (.agg [.int .i64 na, .int .i64 nb, .int .i64 nc]), .keep [9, 10, 11, 14, 16, 18, 19, 20, 21, 22], .loop [(9, .int .i64 n), (10, .int .i64 g), (11, .slice (some ⟨10, 0, 0, 0, 5⟩) n n), (14, .slice ol kl cl), (16, .slice oo n co), (18, .int .i64 i), (19, .int .i64 s), (20, .bool true), (21, .int .i64 (na + nb))] (AHeap.rows 104 [(0, b0), (1, b1), (10, ri), (67, rl), (80, ro)]) (.exit 9), .val 40007 (.ptr (some ⟨67, vl, 0 + i, 0, 3⟩)), .ld 40009 (.agg [.int .i64 na, .int .i64 nb, .int .i64 nc]), .go 40010, .go 40011, .go 40012, .go 40013, .val 40016 (.ptr (some ⟨67, vl, 0 + i, 0, 3⟩)), .ld 40018 (.agg [.int .i64 na, .int .i64 nb, .int .i64 nc]), .val 40019 (.bool false), .go 28001]) (keep := [9, 10, 11, 14, 16, 18]) (by kernel_rfl) (All.cons (okT hc_0) (All.cons hc_1 (All.cons hc_2 (All.cons (okF hc_3) (All.cons hc_4 (All.cons hc_5 (All.cons (okF hc_6) (All.cons hc_7 (All.cons hc_8 (All.cons (okF hc_9) (All.cons hc_10 (All.cons hc_11 (All.cons hc_12 (All.cons hc_13 (All.cons hc_14 (All.cons (okT hc_15) (All.cons hc_16 (All.cons hc_17 (All.cons hc_18 (All.cons hc_19 (All.cons hc_20 (All.cons hc_21 (All.cons hc_22 (All.cons hc_23 (All.cons hc_24 (All.cons hc_25 (All.cons hc_26 (All.cons hc_27 (All.cons hc_28 (All.cons hc_29 (All.cons hc_30 (All.cons hc_31 (All.cons (okF hc_32) (All.cons hc_33 (All.nil)))))))))))))))))))))))))))))))))))

theorem ld_Tf (ol oo : Option AAddr) (n kl cl co vl i : Nat) (b0 b1 ri rl ro : ABlk) (g s e na nb nc : Int) (hc_0 : (i : Int) < (kl : Int)) (hc_1 : aindexAddr env.D 31 (.slice ol kl cl) (.int .i64 (i : Int)) = some (.ptr (some ⟨67, vl, 0 + i, 0, 3⟩))) (hc_2 : ABlk.elem? rl vl (0 + i) = some (.agg [.int .i64 na, .int .i64 nb, .int .i64 nc])) (hc_3 : ¬ (na < 0)) (hc_4 : aindexAddr env.D 31 (.slice ol kl cl) (.int .i64 (i : Int)) = some (.ptr (some ⟨67, vl, 0 + i, 0, 3⟩))) (hc_5 : ABlk.elem? rl vl (0 + i) = some (.agg [.int .i64 na, .int .i64 nb, .int .i64 nc])) (hc_6 : ¬ (na ≥ (n : Int))) (hc_7 : aindexAddr env.D 31 (.slice ol kl cl) (.int .i64 (i : Int)) = some (.ptr (some ⟨67, vl, 0 + i, 0, 3⟩))) (hc_8 : ABlk.elem? rl vl (0 + i) = some (.agg [.int .i64 na, .int .i64 nb, .int .i64 nc])) (hc_9 : ¬ (nb < 1)) (hc_10 : aindexAddr env.D 31 (.slice ol kl cl) (.int .i64 (i : Int)) = some (.ptr (some ⟨67, vl, 0 + i, 0, 3⟩))) (hc_11 : ABlk.elem? rl vl (0 + i) = some (.agg [.int .i64 na, .int .i64 nb, .int .i64 nc])) (hc_12 : aindexAddr env.D 31 (.slice ol kl cl) (.int .i64 (i : Int)) = some (.ptr (some ⟨67, vl, 0 + i, 0, 3⟩))) (hc_13 : ABlk.elem? rl vl (0 + i) = some (.agg [.int .i64 na, .int .i64 nb, .int .i64 nc])) (hc_14 : -9223372036854775808 ≤ (n : Int) - na ∧ (n : Int) - na ≤ 9223372036854775807) (hc_15 : nb < (n : Int) - na) (hc_16 : aindexAddr env.D 31 (.slice ol kl cl) (.int .i64 (i : Int)) = some (.ptr (some ⟨67, vl, 0 + i, 0, 3⟩))) (hc_17 : ABlk.elem? rl vl (0 + i) = some (.agg [.int .i64 na, .int .i64 nb, .int .i64 nc])) (hc_18 : aindexAddr env.D 31 (.slice ol kl cl) (.int .i64 (i : Int)) = some (.ptr (some ⟨67, vl, 0 + i, 0, 3⟩))) (hc_19 : ABlk.elem? rl vl (0 + i) = some (.agg [.int .i64 na, .int .i64 nb, .int .i64 nc])) (hc_20 : -9223372036854775808 ≤ na + nb ∧ na + nb ≤ 9223372036854775807) (hc_21 : aindexAddr env.D 31 (.slice ol kl cl) (.int .i64 (i : Int)) = some (.ptr (some ⟨67, vl, 0 + i, 0, 3⟩))) (hc_22 : ABlk.elem? rl vl (0 + i) = some (.agg [.int .i64 na, .int .i64 nb, .int .i64 nc])) (hc_23 : Runs Try.prog 2 239 (.loop (loopAt Try.prog 8 4)) [(9, .int .i64 (n : Int)), (10, .int .i64 g), (11, .slice (some ⟨10, 0, 0, 0, 5⟩) n n), (14, .slice ol kl cl), (16, .slice oo n co), (18, .int .i64 (i : Int)), (19, .int .i64 0), (20, AVal.bool false), (21, .int .i64 (na + nb)), (22, .int .i64 na)] (AHeap.rows 157 [(0, b0), (1, b1), (10, ri), (67, rl), (80, ro)]) (.exit 9) [(9, .int .i64 (n : Int)), (10, .int .i64 g), (11, .slice (some ⟨10, 0, 0, 0, 5⟩) n n), (14, .slice ol kl cl), (16, .slice oo n co), (18, .int .i64 (i : Int)), (19, .int .i64 s), (20, AVal.bool false), (21, .int .i64 (na + nb))] (AHeap.rows 104 [(0, b0), (1, b1), (10, ri), (67, rl), (80, ro)])) (hc_24 : -9223372036854775808 ≤ (i : Int) + 1 ∧ (i : Int) + (1 : Int) ≤ 9223372036854775807) :
    Runs Try.prog 2 239 (loopAt Try.prog 8 3) [(9, .int .i64 n), (10, .int .i64 g), (11, .slice (some ⟨10, 0, 0, 0, 5⟩) n n), (14, .slice ol kl cl), (16, .slice oo n co), (18, .int .i64 i)] (AHeap.rows 95 [(0, b0), (1, b1), (10, ri), (67, rl), (80, ro)]) .normal [(9, .int .i64 (n : Int)), (10, .int .i64 g), (11, .slice (some ⟨10, 0, 0, 0, 5⟩) n n), (14, .slice ol kl cl), (16, .slice oo n co), (18, .int .i64 ((i : Int) + 1))] (AHeap.rows 128 [(0, b0), (1, b1), (10, ri), (67, rl), (80, ro)]) :=
  ppath_runs env_ok mixed (hs := [.val 27003 (.bool true), .val 29002 (.ptr (some ⟨67, vl, 0 + i, 0, 3⟩)), .ld 29004 (.agg [.int .i64 na, .int .i64 nb, .int .i64 nc]), .val 29005 (.bool false), .val 29009 (.ptr (some ⟨67, vl, 0 + i, 0, 3⟩)), .ld 29011 (.agg [.int .i64 na, .int .i64 nb, .int .i64 nc]), .val 29013 (.bool false), .val 29018 (.ptr (some ⟨67, vl, 0 + i, 0, 3⟩)), .ld 29020 (.agg [.int .i64 na, .int .i64 nb, .int .i64 nc]), .val 29021 (.bool false), .val 33002 (.ptr (some ⟨67, vl, 0 + i, 0, 3⟩)), .ld 33004 (.agg [.int .i64 na, .int .i64 nb, .int .i64 nc]), .val 33008 (.ptr (some ⟨67, vl, 0 + i, 0, 3⟩)), .ld 33010 (.agg [.int .i64 na, .int .i64 nb, .int .i64 nc]), .go 33011, .val 33012 (.bool true), .val 34002 (.ptr (some ⟨67, vl, 0 + i, 0, 3⟩)), .ld 34004 (.agg [.int .i64 na, .int .i64 nb, .int .i64 nc]), .val 34007 (.ptr (some ⟨67, vl, 0 + i, 0, 3⟩)), .ld 34009 (.agg [.int .i64 na, .int .i64 nb, .int .i64 nc]), .go 34010, .val 35002 (.ptr (some ⟨67, vl, 0 + i, 0, 3⟩)), .ld 35004 (.agg [.int .i64 na, .int .i64 nb, .int .i64 nc]), .keep [9, 10, 11, 14, 16, 18, 19, 20, 21, 22], .loop [(9, .int .i64 n), (10, .int .i64 g), (11, .slice (some ⟨10, 0, 0, 0, 5⟩) n n), (14, .slice ol kl cl), (16, .slice oo n co), (18, .int .i64 i), (19, .int .i64 s), (20, .bool false), (21, .int .i64 (na + nb))] (AHeap.rows 104 [(0, b0), (1, b1), (10, ri), (67, rl), (80, ro)]) (.exit 9), .go 28001]) (keep := [9, 10, 11, 14, 16, 18]) (by kernel_rfl) (All.cons (okT hc_0) (All.cons hc_1 (All.cons hc_2 (All.cons (okF hc_3) (All.cons hc_4 (All.cons hc_5 (All.cons (okF hc_6) (All.cons hc_7 (All.cons hc_8 (All.cons (okF hc_9) (All.cons hc_10 (All.cons hc_11 (All.cons hc_12 (All.cons hc_13 (All.cons hc_14 (All.cons (okT hc_15) (All.cons hc_16 (All.cons hc_17 (All.cons hc_18 (All.cons hc_19 (All.cons hc_20 (All.cons hc_21 (All.cons hc_22 (All.cons hc_23 (All.cons hc_24 (All.nil))))))))))))))))))))))))))

theorem ld_Ft (ol oo : Option AAddr) (n kl cl co vl i : Nat) (b0 b1 ri rl ro : ABlk) (g s e na nb nc : Int) (hc_0 : (i : Int) < (kl : Int)) (hc_1 : aindexAddr env.D 31 (.slice ol kl cl) (.int .i64 (i : Int)) = some (.ptr (some ⟨67, vl, 0 + i, 0, 3⟩))) (hc_2 : ABlk.elem? rl vl (0 + i) = some (.agg [.int .i64 na, .int .i64 nb, .int .i64 nc])) (hc_3 : ¬ (na < 0)) (hc_4 : aindexAddr env.D 31 (.slice ol kl cl) (.int .i64 (i : Int)) = some (.ptr (some ⟨67, vl, 0 + i, 0, 3⟩))) (hc_5 : ABlk.elem? rl vl (0 + i) = some (.agg [.int .i64 na, .int .i64 nb, .int .i64 nc])) (hc_6 : ¬ (na ≥ (n : Int))) (hc_7 : aindexAddr env.D 31 (.slice ol kl cl) (.int .i64 (i : Int)) = some (.ptr (some ⟨67, vl, 0 + i, 0, 3⟩))) (hc_8 : ABlk.elem? rl vl (0 + i) = some (.agg [.int .i64 na, .int .i64 nb, .int .i64 nc])) (hc_9 : ¬ (nb < 1)) (hc_10 : aindexAddr env.D 31 (.slice ol kl cl) (.int .i64 (i : Int)) = some (.ptr (some ⟨67, vl, 0 + i, 0, 3⟩))) (hc_11 : ABlk.elem? rl vl (0 + i) = some (.agg [.int .i64 na, .int .i64 nb, .int .i64 nc])) (hc_12 : aindexAddr env.D 31 (.slice ol kl cl) (.int .i64 (i : Int)) = some (.ptr (some ⟨67, vl, 0 + i, 0, 3⟩))) (hc_13 : ABlk.elem? rl vl (0 + i) = some (.agg [.int .i64 na, .int .i64 nb, .int .i64 nc])) (hc_14 : -9223372036854775808 ≤ (n : Int) - na ∧ (n : Int) - na ≤ 9223372036854775807) (hc_15 : ¬ (nb < (n : Int) - na)) (hc_16 : aindexAddr env.D 31 (.slice ol kl cl) (.int .i64 (i : Int)) = some (.ptr (some ⟨67, vl, 0 + i, 0, 3⟩))) (hc_17 : ABlk.elem? rl vl (0 + i) = some (.agg [.int .i64 na, .int .i64 nb, .int .i64 nc])) (hc_18 : Runs Try.prog 2 239 (.loop (loopAt Try.prog 8 4)) [(9, .int .i64 (n : Int)), (10, .int .i64 g), (11, .slice (some ⟨10, 0, 0, 0, 5⟩) n n), (14, .slice ol kl cl), (16, .slice oo n co), (18, .int .i64 (i : Int)), (19, .int .i64 0), (20, AVal.bool false), (21, .int .i64 (n : Int)), (22, .int .i64 na)] (AHeap.rows 145 [(0, b0), (1, b1), (10, ri), (67, rl), (80, ro)]) (.exit 9) [(9, .int .i64 (n : Int)), (10, .int .i64 g), (11, .slice (some ⟨10, 0, 0, 0, 5⟩) n n), (14, .slice ol kl cl), (16, .slice oo n co), (18, .int .i64 (i : Int)), (19, .int .i64 s), (20, AVal.bool true), (21, .int .i64 (n : Int))] (AHeap.rows 104 [(0, b0), (1, b1), (10, ri), (67, rl), (80, ro)])) (hc_19 : aindexAddr env.D 31 (.slice ol kl cl) (.int .i64 (i : Int)) = some (.ptr (some ⟨67, vl, 0 + i, 0, 3⟩))) (hc_20 : ABlk.elem? rl vl (0 + i) = some (.agg [.int .i64 na, .int .i64 nb, .int .i64 nc])) (hc_21 : -9223372036854775808 ≤ (n : Int) - na ∧ (n : Int) - na ≤ 9223372036854775807) (hc_22 : -9223372036854775808 ≤ (n : Int) - na - 1 ∧ (n : Int) - na - (1 : Int) ≤ 9223372036854775807) (hc_23 : -9223372036854775808 ≤ g * ((n : Int) - na - 1) ∧ g * ((n : Int) - na - 1) ≤ 9223372036854775807) (hc_24 : -9223372036854775808 ≤ s + g * ((n : Int) - na - 1) ∧ s + g * ((n : Int) - na - 1) ≤ 9223372036854775807) (hc_25 : aindexAddr env.D 31 (.slice ol kl cl) (.int .i64 (i : Int)) = some (.ptr (some ⟨67, vl, 0 + i, 0, 3⟩))) (hc_26 : ABlk.elem? rl vl (0 + i) = some (.agg [.int .i64 na, .int .i64 nb, .int .i64 nc])) (hc_27 : ¬ (s + g * ((n : Int) - na - 1) < nc)) (hc_28 : -9223372036854775808 ≤ (i : Int) + 1 ∧ (i : Int) + (1 : Int) ≤ 9223372036854775807) :
    Runs Try.prog 2 239 (loopAt Try.prog 8 3) [(9, .int .i64 n), (10, .int .i64 g), (11, .slice (some ⟨10, 0, 0, 0, 5⟩) n n), (14, .slice ol kl cl), (16, .slice oo n co), (18, .int .i64 i)] (AHeap.rows 95 [(0, b0), (1, b1), (10, ri), (67, rl), (80, ro)]) .normal [(9, .int .i64 (n : Int)), (10, .int .i64 g), (11, .slice (some ⟨10, 0, 0, 0, 5⟩) n n), (14, .slice ol kl cl), (16, .slice oo n co), (18, .int .i64 ((i : Int) + 1))] (AHeap.rows 128 [(0, b0), (1, b1), (10, ri), (67, rl), (80, ro)]) :=
  ppath_runs env_ok mixed (hs := [.val 27003 (.bool true), .val 29002 (.ptr (some ⟨67, vl, 0 + i, 0, 3⟩)), .ld 29004 (.agg [.int .i64 na, .int .i64 nb, .int .i64 nc]), .val 29005 (.bool false), .val 29009 (.ptr (some ⟨67, vl, 0 + i, 0, 3⟩)), .ld 29011 (.agg [.int .i64 na, .int .i64 nb, .int .i64 nc]), .val 29013 (.bool false), .val 29018 (.ptr (some ⟨67, vl, 0 + i, 0, 3⟩)), .ld 29020 (.agg [.int .i64 na, .int .i64 nb, .int .i64 nc]), .val 29021 (.bool false), .val 33002 (.ptr (some ⟨67, vl, 0 + i, 0, 3⟩)), .ld 33004 (.agg [.int .i64 na, .int .i64 nb, .int .i64 nc]), .val 33008 (.ptr (some ⟨67, vl, 0 + i, 0, 3⟩)), .ld 33010 (.agg [.int .i64 na, .int .i64 nb, .int .i64 nc]), .go 33011, .val 33012 (.bool false), .val 35002 (.ptr (some ⟨67, vl, 0 + i, 0, 3⟩)), .ld 35004 (.agg [.int .i64 na, .int .i64 nb, .int .i64 nc]), .keep [9, 10, 11, 14, 16, 18, 19, 20, 21, 22], .loop [(9, .int .i64 n), (10, .int .i64 g), (11, .slice (some ⟨10, 0, 0, 0, 5⟩) n n), (14, .slice ol kl cl), (16, .slice oo n co), (18, .int .i64 i), (19, .int .i64 s), (20, .bool true), (21, .int .i64 n)] (AHeap.rows 104 [(0, b0), (1, b1), (10, ri), (67, rl), (80, ro)]) (.exit 9), .val 40007 (.ptr (some ⟨67, vl, 0 + i, 0, 3⟩)), .ld 40009 (.agg [.int .i64 na, .int .i64 nb, .int .i64 nc]), .go 40010, .go 40011, .go 40012, .go 40013, .val 40016 (.ptr (some ⟨67, vl, 0 + i, 0, 3⟩)), .ld 40018 (.agg [.int .i64 na, .int .i64 nb, .int .i64 nc]), .val 40019 (.bool false), .go 28001]) (keep := [9, 10, 11, 14, 16, 18]) (by kernel_rfl) (All.cons (okT hc_0) (All.cons hc_1 (All.cons hc_2 (All.cons (okF hc_3) (All.cons hc_4 (All.cons hc_5 (All.cons (okF hc_6) (All.cons hc_7 (All.cons hc_8 (All.cons (okF hc_9) (All.cons hc_10 (All.cons hc_11 (All.cons hc_12 (All.cons hc_13 (All.cons hc_14 (All.cons (okF hc_15) (All.cons hc_16 (All.cons hc_17 (All.cons hc_18 (All.cons hc_19 (All.cons hc_20 (All.cons hc_21 (All.cons hc_22 (All.cons hc_23 (All.cons hc_24 (All.cons hc_25 (All.cons hc_26 (All.cons (okF hc_27) (All.cons hc_28 (All.nil))))))))))))))))))))))))))))))

theorem ld_Ff (ol oo : Option AAddr) (n kl cl co vl i : Nat) (b0 b1 ri rl ro : ABlk) (g s e na nb nc : Int) (hc_0 : (i : Int) < (kl : Int)) (hc_1 : aindexAddr env.D 31 (.slice ol kl cl) (.int .i64 (i : Int)) = some (.ptr (some ⟨67, vl, 0 + i, 0, 3⟩))) (hc_2 : ABlk.elem? rl vl (0 + i) = some (.agg [.int .i64 na, .int .i64 nb, .int .i64 nc])) (hc_3 : ¬ (na < 0)) (hc_4 : aindexAddr env.D 31 (.slice ol kl cl) (.int .i64 (i : Int)) = some (.ptr (some ⟨67, vl, 0 + i, 0, 3⟩))) (hc_5 : ABlk.elem? rl vl (0 + i) = some (.agg [.int .i64 na, .int .i64 nb, .int .i64 nc])) (hc_6 : ¬ (na ≥ (n : Int))) (hc_7 : aindexAddr env.D 31 (.slice ol kl cl) (.int .i64 (i : Int)) = some (.ptr (some ⟨67, vl, 0 + i, 0, 3⟩))) (hc_8 : ABlk.elem? rl vl (0 + i) = some (.agg [.int .i64 na, .int .i64 nb, .int .i64 nc])) (hc_9 : ¬ (nb < 1)) (hc_10 : aindexAddr env.D 31 (.slice ol kl cl) (.int .i64 (i : Int)) = some (.ptr (some ⟨67, vl, 0 + i, 0, 3⟩))) (hc_11 : ABlk.elem? rl vl (0 + i) = some (.agg [.int .i64 na, .int .i64 nb, .int .i64 nc])) (hc_12 : aindexAddr env.D 31 (.slice ol kl cl) (.int .i64 (i : Int)) = some (.ptr (some ⟨67, vl, 0 + i, 0, 3⟩))) (hc_13 : ABlk.elem? rl vl (0 + i) = some (.agg [.int .i64 na, .int .i64 nb, .int .i64 nc])) (hc_14 : -9223372036854775808 ≤ (n : Int) - na ∧ (n : Int) - na ≤ 9223372036854775807) (hc_15 : ¬ (nb < (n : Int) - na)) (hc_16 : aindexAddr env.D 31 (.slice ol kl cl) (.int .i64 (i : Int)) = some (.ptr (some ⟨67, vl, 0 + i, 0, 3⟩))) (hc_17 : ABlk.elem? rl vl (0 + i) = some (.agg [.int .i64 na, .int .i64 nb, .int .i64 nc])) (hc_18 : Runs Try.prog 2 239 (.loop (loopAt Try.prog 8 4)) [(9, .int .i64 (n : Int)), (10, .int .i64 g), (11, .slice (some ⟨10, 0, 0, 0, 5⟩) n n), (14, .slice ol kl cl), (16, .slice oo n co), (18, .int .i64 (i : Int)), (19, .int .i64 0), (20, AVal.bool false), (21, .int .i64 (n : Int)), (22, .int .i64 na)] (AHeap.rows 145 [(0, b0), (1, b1), (10, ri), (67, rl), (80, ro)]) (.exit 9) [(9, .int .i64 (n : Int)), (10, .int .i64 g), (11, .slice (some ⟨10, 0, 0, 0, 5⟩) n n), (14, .slice ol kl cl), (16, .slice oo n co), (18, .int .i64 (i : Int)), (19, .int .i64 s), (20, AVal.bool false), (21, .int .i64 (n : Int))] (AHeap.rows 104 [(0, b0), (1, b1), (10, ri), (67, rl), (80, ro)])) (hc_19 : -9223372036854775808 ≤ (i : Int) + 1 ∧ (i : Int) + (1 : Int) ≤ 9223372036854775807) :
    Runs Try.prog 2 239 (loopAt Try.prog 8 3) [(9, .int .i64 n), (10, .int .i64 g), (11, .slice (some ⟨10, 0, 0, 0, 5⟩) n n), (14, .slice ol kl cl), (16, .slice oo n co), (18, .int .i64 i)] (AHeap.rows 95 [(0, b0), (1, b1), (10, ri), (67, rl), (80, ro)]) .normal [(9, .int .i64 (n : Int)), (10, .int .i64 g), (11, .slice (some ⟨10, 0, 0, 0, 5⟩) n n), (14, .slice ol kl cl), (16, .slice oo n co), (18, .int .i64 ((i : Int) + 1))] (AHeap.rows 128 [(0, b0), (1, b1), (10, ri), (67, rl), (80, ro)]) :=
  ppath_runs env_ok mixed (hs := [.val 27003 (.bool true), .val 29002 (.ptr (some ⟨67, vl, 0 + i, 0, 3⟩)), .ld 29004 (.agg [.int .i64 na, .int .i64 nb, .int .i64 nc]), .val 29005 (.bool false), .val 29009 (.ptr (some ⟨67, vl, 0 + i, 0, 3⟩)), .ld 29011 (.agg [.int .i64 na, .int .i64 nb, .int .i64 nc]), .val 29013 (.bool false), .val 29018 (.ptr (some ⟨67, vl, 0 + i, 0, 3⟩)), .ld 29020 (.agg [.int .i64 na, .int .i64 nb, .int .i64 nc]), .val 29021 (.bool false), .val 33002 (.ptr (some ⟨67, vl, 0 + i, 0, 3⟩)), .ld 33004 (.agg [.int .i64 na, .int .i64 nb, .int .i64 nc]), .val 33008 (.ptr (some ⟨67, vl, 0 + i, 0, 3⟩)), .ld 33010 (.agg [.int .i64 na, .int .i64 nb, .int .i64 nc]), .go 33011, .val 33012 (.bool false), .val 35002 (.ptr (some ⟨67, vl, 0 + i, 0, 3⟩)), .ld 35004 (.agg [.int .i64 na, .int .i64 nb, .int .i64 nc]), .keep [9, 10, 11, 14, 16, 18, 19, 20, 21, 22], .loop [(9, .int .i64 n), (10, .int .i64 g), (11, .slice (some ⟨10, 0, 0, 0, 5⟩) n n), (14, .slice ol kl cl), (16, .slice oo n co), (18, .int .i64 i), (19, .int .i64 s), (20, .bool false), (21, .int .i64 n)] (AHeap.rows 104 [(0, b0), (1, b1), (10, ri), (67, rl), (80, ro)]) (.exit 9), .go 28001]) (keep := [9, 10, 11, 14, 16, 18]) (by kernel_rfl) (All.cons (okT hc_0) (All.cons hc_1 (All.cons hc_2 (All.cons (okF hc_3) (All.cons hc_4 (All.cons hc_5 (All.cons (okF hc_6) (All.cons hc_7 (All.cons hc_8 (All.cons (okF hc_9) (All.cons hc_10 (All.cons hc_11 (All.cons hc_12 (All.cons hc_13 (All.cons hc_14 (All.cons (okF hc_15) (All.cons hc_16 (All.cons hc_17 (All.cons hc_18 (All.cons hc_19 (All.nil)))))))))))))))))))))

theorem lh_call (os on ol oo : Option AAddr) (n ns cs k ck kl cl co : Nat) (b0 b1 rl ro : ABlk) (li : List AVal) (tracks gap g : Int) (hc_0 : FDoes Try.prog 24 [.int .i64 tracks, .int .i64 41] (AHeap.rows 6 [(0, b0), (1, b1)]) (.int .i64 (n : Int)) (AHeap.rows 6 [(0, b0), (1, b1)])) (hc_1 : FDoes Try.prog 24 [.int .i64 gap, .int .i64 4] (AHeap.rows 9 [(0, b0), (1, b1)]) (.int .i64 g) (AHeap.rows 9 [(0, b0), (1, b1)])) (hc_2 : 0 ≤ (n : Int) ∧ (n : Int) ≤ (n : Int) ∧ (n : Int) < 4611686018427387904 ∧ (40 : Int) * (n : Int) ≤ 281474976710656) (hc_3 : Runs Try.prog 2 239 (.loop (loopAt Try.prog 8 0)) [(1, .slice os ns cs), (2, .slice on k ck), (9, .int .i64 (n : Int)), (10, .int .i64 g), (11, .slice (some ⟨10, 0, 0, 0, 5⟩) n n), (12, .int .i64 0)] (AHeap.rows 13 [(0, b0), (1, b1), (10, .made (List.replicate n (.agg [.int .i8 (0), .int .i64 0, .int .i64 0, .int .i64 0, .int .i64 0])) 5 true)]) (.exit 0) [(2, .slice on k ck), (9, .int .i64 (n : Int)), (10, .int .i64 g), (11, .slice (some ⟨10, 0, 0, 0, 5⟩) n n)] (AHeap.rows 24 [(0, b0), (1, b1), (10, .made li 5 true)])) (hc_4 : Runs Try.prog 2 239 (.loop (loopAt Try.prog 8 1)) [(2, .slice on k ck), (9, .int .i64 (n : Int)), (10, .int .i64 g), (11, .slice (some ⟨10, 0, 0, 0, 5⟩) n n), (14, .slice none 0 0), (15, .int .i64 0)] (AHeap.rows 26 [(0, b0), (1, b1), (10, .made li 5 true)]) (.exit 3) [(9, .int .i64 (n : Int)), (10, .int .i64 g), (11, .slice (some ⟨10, 0, 0, 0, 5⟩) n n), (14, .slice ol kl cl)] (AHeap.rows 75 [(0, b0), (1, b1), (10, .made li 5 true), (67, rl)])) (hc_5 : FDoes Try.prog 18 [.slice (some ⟨10, 0, 0, 0, 5⟩) n n, .slice ol kl cl, .int .i64 4096, .int .i64 g] (AHeap.rows 80 [(0, b0), (1, b1), (10, .made li 5 true), (67, rl)]) (.slice oo n co) (AHeap.rows 81 [(0, b0), (1, b1), (10, .made li 5 true), (67, rl), (80, ro)])) (hc_6 : (n : Int) = (n : Int)) (hc_7 : FDoes Try.prog 16 [] (AHeap.rows 89 [(0, b0), (1, b1), (10, .made li 5 true), (67, rl), (80, ro)]) (AVal.bool true) (AHeap.rows 89 [(0, b0), (1, b1), (10, .made li 5 true), (67, rl), (80, ro)])) (hc_8 : Runs Try.prog 2 239 (.loop (loopAt Try.prog 8 2)) [(9, .int .i64 (n : Int)), (10, .int .i64 g), (11, .slice (some ⟨10, 0, 0, 0, 5⟩) n n), (14, .slice ol kl cl), (16, .slice oo n co), (17, .int .i64 0)] (AHeap.rows 90 [(0, b0), (1, b1), (10, .made li 5 true), (67, rl), (80, ro)]) (.exit 5) [(9, .int .i64 (n : Int)), (10, .int .i64 g), (11, .slice (some ⟨10, 0, 0, 0, 5⟩) n n), (14, .slice ol kl cl), (16, .slice oo n co)] (AHeap.rows 94 [(0, b0), (1, b1), (10, .made li 5 true), (67, rl), (80, ro)])) (hc_9 : Runs Try.prog 2 239 (.loop (loopAt Try.prog 8 3)) [(9, .int .i64 (n : Int)), (10, .int .i64 g), (11, .slice (some ⟨10, 0, 0, 0, 5⟩) n n), (14, .slice ol kl cl), (16, .slice oo n co), (18, .int .i64 0)] (AHeap.rows 95 [(0, b0), (1, b1), (10, .made li 5 true), (67, rl), (80, ro)]) (.exit 7) [] (AHeap.rows 110 [(0, b0), (1, b1), (10, .made li 5 true), (67, rl), (80, ro)])) :
    FDoes Try.prog 8 [.int .i64 tracks, .slice os ns cs, .slice on k ck, .int .i64 gap] (AHeap.of [b0, b1]) (AVal.bool true) (AHeap.rows 111 [(0, b0), (1, b1), (10, .made li 5 true), (67, rl), (80, ro)]) :=
  pcall_does env_ok mixed (hs := [.val 1001 (.int .i64 n), .val 2001 (.int .i64 g), .go 3001, .keep [1, 2, 9, 10, 11, 12], .loop [(2, .slice on k ck), (9, .int .i64 n), (10, .int .i64 g), (11, .slice (some ⟨10, 0, 0, 0, 5⟩) n n)] (AHeap.rows 24 [(0, b0), (1, b1), (10, .made li 5 true)]) (.exit 0), .keep [2, 9, 10, 11, 14, 15], .loop [(9, .int .i64 n), (10, .int .i64 g), (11, .slice (some ⟨10, 0, 0, 0, 5⟩) n n), (14, .slice ol kl cl)] (AHeap.rows 75 [(0, b0), (1, b1), (10, .made li 5 true), (67, rl)]) (.exit 3), .act 18003 (.slice oo n co) (fun h => h.upd [] [ro]), .val 19003 (.bool false), .val 19005 (.bool true), .keep [9, 10, 11, 14, 16, 17], .loop [(9, .int .i64 n), (10, .int .i64 g), (11, .slice (some ⟨10, 0, 0, 0, 5⟩) n n), (14, .slice ol kl cl), (16, .slice oo n co)] (AHeap.rows 94 [(0, b0), (1, b1), (10, .made li 5 true), (67, rl), (80, ro)]) (.exit 5), .keep [9, 10, 11, 14, 16, 18], .loop [] (AHeap.rows 110 [(0, b0), (1, b1), (10, .made li 5 true), (67, rl), (80, ro)]) (.exit 7)]) (rs := []) (by kernel_rfl) (All.cons (CallT.mk hc_0) (All.cons (CallT.mk hc_1) (All.cons hc_2 (All.cons hc_3 (All.cons hc_4 (All.cons (CallT.mk hc_5) (All.cons (neF hc_6) (All.cons (CallT.mk hc_7) (All.cons hc_8 (All.cons hc_9 (All.nil)))))))))))

end Go.Proofs.Ytcgcpmcjaeenlaa

namespace Go.Proofs.Ytcgcpmcjaeenlaa
open Go.Lift
set_option maxRecDepth 1000000
set_option linter.unusedSimpArgs false
set_option linter.unusedVariables false
set_option linter.unusedSectionVars false

def needKinds : List TK := [.int .i64, .int .i64, .int .i64]
structure Tr.Fits (t : Tr) : Prop where
  a : Fit64 t.a
  b : Fit64 t.b
  c : Fit64 t.c
theorem tr_cells (v : Nat → Value) (h : ∀ j, j < 3 → ∃ k, needKinds[j]? = some k ∧ CellIs k (v j)) : ∃ t : Tr, (List.range 3).map (fun j => ofScalar (v j)) = [.int .i64 t.a, .int .i64 t.b, .int .i64 t.c] ∧ t.Fits := by
  have g : ∀ j k, j < 3 → needKinds[j]? = some k → CellIs k (v j) := by
    intro j k hj hk
    obtain ⟨k', h1, h2⟩ := h j hj
    rw [hk] at h1; simp only [Option.some.injEq] at h1; subst h1; exact h2
  have h0 := (g 0 _ (by omega) rfl).int
  have h1 := (g 1 _ (by omega) rfl).int
  have h2 := (g 2 _ (by omega) rfl).int
  refine ⟨⟨numA (ofScalar (v 0)), numA (ofScalar (v 1)), numA (ofScalar (v 2))⟩, ?_, wf_fit h0.2, wf_fit h1.2, wf_fit h2.2⟩
  show [ofScalar (v 0), ofScalar (v 1), ofScalar (v 2)] = _
  rw [← h0.1, ← h1.1, ← h2.1]
theorem needs_of {W : World} {x : Addr} {len : Nat} {b : ABlk} (hx : ∀ i, i < len → b.elem? 0 (0 + i) = some (elemAt W x true 3 i)) (he : ∀ i j, i < len → j < 3 → ∃ k, needKinds[j]? = some k ∧ CellIs k (cellAt W x (i * 3 + j))) :
    ∃ src : Nat → Tr, (∀ i, i < len → b.elem? 0 (0 + i) = some (src i).val) ∧ ∀ i, i < len → (src i).Fits := by
  have h : ∀ i, ∃ t : Tr, i < len → elemAt W x true 3 i = t.val ∧ t.Fits := by
    intro i
    by_cases c : i < len
    · obtain ⟨t, h1, h2⟩ := tr_cells (fun j => cellAt W x (i * 3 + j)) (fun j hj => he i j c hj)
      refine ⟨t, fun _ => ⟨?_, h2⟩⟩
      show AVal.agg _ = AVal.agg _
      rw [h1]
    · exact ⟨⟨0, 0, 0⟩, fun h => absurd h c⟩
  refine ⟨fun i => Classical.choose (h i), fun i hi => ?_, fun i hi => (Classical.choose_spec (h i) hi).2⟩
  rw [hx i hi, (Classical.choose_spec (h i) hi).1]

/-- the item that a number stands for -/
def itZ (kk : Int) : It := if Int.tdiv kk 10 = 0 then ⟨0, 0, 0, kk, 0⟩ else if Int.tdiv kk 10 = 1 then ⟨1, Int.tmod kk 10, 0, 0, 0⟩ else It00
def itS (s : Nat → Int) (ns j : Nat) : It := if j < ns then itZ (roundZ (s j) 40) else It00
theorem itZ_ok {kk : Int} (h : 0 ≤ kk ∧ kk < 40) : ItOk (itZ kk) ∧ 0 ≤ has0 (itZ kk) ∧ has0 (itZ kk) ≤ 9 := by
  have e1 : Int.tdiv kk 10 = kk / 10 := Int.tdiv_eq_ediv_of_nonneg h.1
  have e2 : Int.tmod kk 10 = kk % 10 := Int.tmod_eq_emod_of_nonneg h.1
  unfold itZ
  rw [e1, e2]
  split
  · exact ⟨.inl ⟨rfl, rfl, rfl, rfl, h.1, by show kk ≤ 4096; omega⟩, by show 0 ≤ kk ∧ kk ≤ 9; omega⟩
  · split
    · exact ⟨.inr ⟨rfl, by show 0 ≤ kk % 10; omega, by show kk % 10 ≤ 4096; omega, rfl, rfl, rfl⟩, by show 0 ≤ kk % 10 ∧ kk % 10 ≤ 9; omega⟩
    · exact ⟨.inl ⟨rfl, rfl, rfl, rfl, by decide, by decide⟩, by decide, by decide⟩
theorem itS_ok (s : Nat → Int) (ns j : Nat) : ItOk (itS s ns j) ∧ 0 ≤ has0 (itS s ns j) ∧ has0 (itS s ns j) ≤ 9 := by
  unfold itS
  split
  · exact itZ_ok (roundZ_range _ (by decide))
  · exact ⟨.inl ⟨rfl, rfl, rfl, rfl, by decide, by decide⟩, by decide, by decide⟩

/-- a row of needs by their numbers, appended to one by one -/
def gT (f : Nat → Tr) (v : Nat) : ABlk := { elems := trw (1 + v) f fun k => k, es := 3, exact := false, ro := false, ver := v, minVer := 0, forkLen := if v = 0 then 0 else 1 }
theorem trw_snoc (N : Nat) (f : Nat → Tr) : trw N f (fun k => k) ++ [(f N).val] = trw (N + 1) f fun k => k := by simp [trw, List.range_succ]
theorem gT_grow (f : Nat → Tr) (v : Nat) : (gT f v).grow [(f (1 + v)).val] = gT f (v + 1) := by
  unfold ABlk.grow gT
  simp only [trw_length]
  rw [trw_snoc, show 1 + v + 1 = 1 + (v + 1) by omega]
  by_cases h : v = 0
  · subst h; simp
  · rw [if_neg (by omega), if_neg h, if_neg (by omega)]
    rw [show min 1 (1 + v) = 1 by omega]
theorem gT_bare (f : Nat → Tr) (v : Nat) : BareB (gT f v) := fun e he => trw_mem he
theorem gT_el {f : Nat → Tr} {v j : Nat} (hj : j < 1 + v) : (gT f v).elem? v (0 + j) = some (f j).val := by
  simp only [ABlk.elem?, ABlk.lim, gT, if_true, trw_length, Nat.zero_add]
  rw [if_pos hj, trw_get hj]
theorem app_gT1 {f : Nat → Tr} (x : Tr) (hx1 : f 0 = x) (t : Nat) (hp : AHeap) (hx : elemsOf 3 (.slice (some ⟨t, 0, 0, 0, 3⟩) 1 1) hp = some [x.val]) :
    abuiltin env .append #[31, 31] [.slice none 0 0, .slice (some ⟨t, 0, 0, 0, 3⟩) 1 1] 67 hp = some (.slice (some ⟨67, 0, 0, 0, 3⟩) 1 1, hp.set 67 (gT f 0)) := by
  refine (app_new slNeed hx (by simp) (by simp) (by simp)).trans ?_
  have e : gT f 0 = .made [x.val] 3 false := by rw [← hx1]; rfl
  rw [e]; rfl
theorem app_gT {f : Nat → Tr} {v : Nat} (hv : v ≤ 2 ^ 40) (x : Tr) (hx1 : f (1 + v) = x) (t K : Nat) (hp : AHeap) (hg : hp.get 67 = some (gT f v)) (hx : elemsOf 3 (.slice (some ⟨t, 0, 0, 0, 3⟩) 1 1) hp = some [x.val]) :
    abuiltin env .append #[31, 31] [.slice (some ⟨67, v, 0, 0, 3⟩) (1 + v) (1 + v), .slice (some ⟨t, 0, 0, 0, 3⟩) 1 1] K hp = some (.slice (some ⟨67, v + 1, 0, 0, 3⟩) (1 + v + 1) (1 + v + 1), hp.set 67 (gT f (v + 1))) := by
  refine (app_grow slNeed hx (by simp) (b := gT f v) (by simp; omega) (by simp; omega) hg rfl (by simp) rfl rfl rfl (by simp [gT])).trans ?_
  rw [← hx1, gT_grow]; rfl

section
variable {n ns cs k ck vs offs vn offn : Nat} {os on : Option AAddr} {b0 b1 : ABlk} {s : Nat → Int} {y : Nat → Tr} (hn : n ≤ 4096) (hb0 : BareB b0) (hb1 : BareB b1) (ss : SlArg os ns cs 0 vs offs 1) (hs : ∀ j, j < ns → b0.elem? vs (offs + j) = some (.int .i64 (s j))) (sn : SlArg on k ck 1 vn offn 3) (hy : ∀ j, j < k → b1.elem? vn (offn + j) = some (y j).val) (hns : ns ≤ 2 ^ 60) (hk : k ≤ 2 ^ 60) (g : Int)
include hn hb0 hb1 ss hs sn hy hns hk

theorem la_loop : ∀ (f i : Nat), i + f = n → i ≤ ns → Loops Try.prog 2 239 (loopAt Try.prog 8 0) [(1, .slice os ns cs), (2, .slice on k ck), (9, .int .i64 n), (10, .int .i64 g), (11, .slice (some ⟨10, 0, 0, 0, 5⟩) n n), (12, .int .i64 i)] (AHeap.rows 20 [(0, b0), (1, b1), (10, .made (frows n fun j => if j < i then itS s ns j else It00) 5 true)]) (.exit 0) [(2, .slice on k ck), (9, .int .i64 n), (10, .int .i64 g), (11, .slice (some ⟨10, 0, 0, 0, 5⟩) n n)] (AHeap.rows 24 [(0, b0), (1, b1), (10, .made (frows n fun j => itS s ns j) 5 true)])
  | 0, i, e, hi => by
    obtain rfl : i = n := by omega
    have d1 : Clo (Ids [0, 1, 10]) (.slice on k ck) := sn.clo (by simp [Ids])
    have ee : (frows i fun j => if j < i then itS s ns j else It00) = frows i fun j => itS s ns j := frows_congr fun j hj => by rw [if_pos hj]
    rw [ee]
    refine (Loops.last (by simp) (la_e1 os on i ns cs k ck vs offs i b0 b1 (frows i fun j => itS s ns j) g 0 0 0 0 0 0 0 (by omega))).post ?_
    exact Ent.drop (by kernel_rfl) (by kernel_rfl) (by kernel_rfl) (by kernel_rfl) (by simp [All_cons, All_nil, Clo, d1] <;> simp [Ids]) (by simp only [List.map, All_cons, All_nil, and_true]; exact ⟨hb0.clo _, hb1.clo _, (frows_bare _ _ _).clo _⟩)
  | f + 1, i, e, hi => by
    have hin : i < n := by omega
    have d1 : Clo (Ids [0, 1, 10]) (.slice on k ck) := sn.clo (by simp [Ids])
    have d2 : Clo (Ids [0, 1, 10]) (.slice os ns cs) := ss.clo (by simp [Ids])
    by_cases c : i < ns
    · have ih := la_loop f (i + 1) (by omega) c
      have e0 := frows_step (n := n) (y := fun j => itS s ns j) (z := fun _ => It00) (i := i)
      have rr := roundZ_range (s i) (n := 40) (by decide)
      have t1 : Int.tdiv (roundZ (s i) 40) 10 = roundZ (s i) 40 / 10 := Int.tdiv_eq_ediv_of_nonneg rr.1
      have eI : itS s ns i = itZ (roundZ (s i) 40) := if_pos c
      have hg0 : (frows n fun j => if j < i then itS s ns j else It00)[0 + i]? = some It00.val := by rw [Nat.zero_add, frows_get hin, if_neg (by omega)]
      have hix := ix_intN (k := .i64) ss c
      have hrd := fun H => lround_does (s i) 40 (by decide) H
      have hfit : (10 : Int) ≠ 0 ∧ -9223372036854775808 ≤ Int.tdiv (roundZ (s i) 40) 10 ∧ Int.tdiv (roundZ (s i) 40) (10 : Int) ≤ 9223372036854775807 := by rw [t1]; omega
      by_cases c0 : Int.tdiv (roundZ (s i) 40) 10 = 0
      · have ev : (AVal.agg [.int .i8 0, .int .i64 0, .int .i64 0, .int .i64 (roundZ (s i) 40), .int .i64 0]) = (itS s ns i).val := by rw [eI]; unfold itZ; rw [if_pos c0]; rfl
        have st := la_min os on n ns cs k ck vs offs i b0 b1 (frows n fun j => if j < i then itS s ns j else It00) g (s i) (roundZ (s i) 40) 0 0 0 0 0 (by omega) (by omega) hix (hs i c) (hrd _) hfit c0 (ix_itS (.inl rfl) hin) ⟨rfl, hg0⟩ (by omega)
        rw [ev, Nat.zero_add, e0] at st
        refine Loops.round st ?_ ih
        exact Ent.drop (by kernel_rfl) (by kernel_rfl) (by kernel_rfl) (by kernel_rfl) (by simp [All_cons, All_nil, Clo, d1, d2] <;> simp [Ids]) (by simp only [List.map, All_cons, All_nil, and_true]; exact ⟨hb0.clo _, hb1.clo _, (frows_bare _ _ _).clo _⟩)
      · by_cases c1 : Int.tdiv (roundZ (s i) 40) 10 = 1
        · have ev : (AVal.agg [.int .i8 1, .int .i64 (Int.tmod (roundZ (s i) 40) 10), .int .i64 0, .int .i64 0, .int .i64 0]) = (itS s ns i).val := by rw [eI]; unfold itZ; rw [if_neg c0, if_pos c1]; rfl
          have st := la_fix os on n ns cs k ck vs offs i b0 b1 (frows n fun j => if j < i then itS s ns j else It00) g (s i) (roundZ (s i) 40) 0 0 0 0 0 (by omega) (by omega) hix (hs i c) (hrd _) hfit c0 c1 (by decide) (ix_itS (.inl rfl) hin) ⟨rfl, hg0⟩ (by omega)
          rw [ev, Nat.zero_add, e0] at st
          refine Loops.round st ?_ ih
          exact Ent.drop (by kernel_rfl) (by kernel_rfl) (by kernel_rfl) (by kernel_rfl) (by simp [All_cons, All_nil, Clo, d1, d2] <;> simp [Ids]) (by simp only [List.map, All_cons, All_nil, and_true]; exact ⟨hb0.clo _, hb1.clo _, (frows_bare _ _ _).clo _⟩)
        · have er : (frows n fun j => if j < i then itS s ns j else It00) = frows n fun j => if j < i + 1 then itS s ns j else It00 := frows_congr fun j hj => by
            by_cases c3 : j < i
            · rw [if_pos c3, if_pos (by omega)]
            · by_cases c2 : j = i
              · subst c2; rw [if_neg (by omega), if_pos (by omega), eI]; unfold itZ; rw [if_neg c0, if_neg c1]
              · rw [if_neg c3, if_neg (by omega)]
          have st := la_auto os on n ns cs k ck vs offs i b0 b1 (frows n fun j => if j < i then itS s ns j else It00) g (s i) (roundZ (s i) 40) 0 0 0 0 0 (by omega) (by omega) hix (hs i c) (hrd _) hfit c0 c1 (by omega)
          rw [← er] at ih
          refine Loops.round st ?_ ih
          exact Ent.drop (by kernel_rfl) (by kernel_rfl) (by kernel_rfl) (by kernel_rfl) (by simp [All_cons, All_nil, Clo, d1, d2] <;> simp [Ids]) (by simp only [List.map, All_cons, All_nil, and_true]; exact ⟨hb0.clo _, hb1.clo _, (frows_bare _ _ _).clo _⟩)
    · have ee : (frows n fun j => if j < i then itS s ns j else It00) = frows n fun j => itS s ns j := frows_congr fun j hj => by
        split
        · rfl
        · unfold itS; rw [if_neg (by omega)]
      rw [ee]
      refine (Loops.last (by simp) (la_e2 os on n ns cs k ck vs offs i b0 b1 (frows n fun j => itS s ns j) g 0 0 0 0 0 0 0 (by omega) (by omega))).post ?_
      exact Ent.drop (by kernel_rfl) (by kernel_rfl) (by kernel_rfl) (by kernel_rfl) (by simp [All_cons, All_nil, Clo, d1] <;> simp [Ids]) (by simp only [List.map, All_cons, All_nil, and_true]; exact ⟨hb0.clo _, hb1.clo _, (frows_bare _ _ _).clo _⟩)

def cutY (y : Nat → Tr) (j : Nat) : Tr := ⟨(y j).a, (y j).b, roundZ (y j).c 31⟩

theorem lb_loopG {ri : ABlk} (hri : BareB ri) : ∀ (f v : Nat), 1 + v + f = min k 60 → Loops Try.prog 2 239 (loopAt Try.prog 8 1) [(2, .slice on k ck), (9, .int .i64 n), (10, .int .i64 g), (11, .slice (some ⟨10, 0, 0, 0, 5⟩) n n), (14, .slice (some ⟨67, v, 0, 0, 3⟩) (1 + v) (1 + v)), (15, .int .i64 (1 + v : Nat))] (AHeap.rows 80 [(0, b0), (1, b1), (10, ri), (67, gT (cutY y) v)]) (.exit 3) [(9, .int .i64 n), (10, .int .i64 g), (11, .slice (some ⟨10, 0, 0, 0, 5⟩) n n), (14, .slice (some ⟨67, min k 60 - 1, 0, 0, 3⟩) (min k 60) (min k 60))] (AHeap.rows 75 [(0, b0), (1, b1), (10, ri), (67, gT (cutY y) (min k 60 - 1))])
  | 0, v, e => by
    rw [show min k 60 - 1 = v by omega, ← show 1 + v = min k 60 by omega]
    by_cases c : 1 + v < k
    · refine (Loops.last (by simp) (lb_fG on n k ck vn offn (1 + v) (1 + v) v b0 b1 ri (gT (cutY y) v) b0 g 0 0 0 0 (by omega) (by omega))).post ?_
      exact Ent.drop (by kernel_rfl) (by kernel_rfl) (by kernel_rfl) (by kernel_rfl) (by simp [All_cons, All_nil, Clo] <;> simp [Ids]) (by simp only [List.map, All_cons, All_nil, and_true]; exact ⟨hb0.clo _, hb1.clo _, hri.clo _, (gT_bare _ _).clo _⟩)
    · refine (Loops.last (by simp) (lb_eG on n k ck vn offn (1 + v) (1 + v) v b0 b1 ri (gT (cutY y) v) b0 g 0 0 0 0 (by omega))).post ?_
      exact Ent.drop (by kernel_rfl) (by kernel_rfl) (by kernel_rfl) (by kernel_rfl) (by simp [All_cons, All_nil, Clo] <;> simp [Ids]) (by simp only [List.map, All_cons, All_nil, and_true]; exact ⟨hb0.clo _, hb1.clo _, hri.clo _, (gT_bare _ _).clo _⟩)
  | f + 1, v, e => by
    have hv : 1 + v < k := by omega
    have d1 : Clo (Ids [0, 1, 10, 67]) (.slice on k ck) := sn.clo (by simp [Ids])
    have hx := ix_neS (k := .i64) sn hv
    have he := hy (1 + v) hv
    have ih := lb_loopG hri f (v + 1) (by omega)
    have st := lb_sG on n k ck vn offn (1 + v) (1 + v) v b0 b1 ri (gT (cutY y) v) (gT (cutY y) (v + 1)) g (y (1 + v)).a (y (1 + v)).b (y (1 + v)).c (roundZ (y (1 + v)).c 31) (by omega) (by omega) hx he hx he hx he (lround_does _ 31 (by decide) _) ((app_gT (f := cutY y) (by omega) (cutY y (1 + v)) rfl _ _ _ (by kernel_rfl) (by kernel_rfl)).trans (by kernel_rfl)) (by omega)
    rw [show 1 + (v + 1) = 1 + v + 1 by omega] at ih
    refine Loops.round st ?_ ih
    exact Ent.drop (by kernel_rfl) (by kernel_rfl) (by kernel_rfl) (by kernel_rfl) (by simp [All_cons, All_nil, Clo, d1] <;> simp [Ids]) (by simp only [List.map, All_cons, All_nil, and_true]; exact ⟨hb0.clo _, hb1.clo _, hri.clo _, (gT_bare _ _).clo _⟩)

theorem lb_loop {ri : ABlk} (hri : BareB ri) : ∃ ol vl rl, SlArg ol (min k 60) (min k 60) 67 vl 0 3 ∧ BareB rl ∧ (∀ j, j < min k 60 → rl.elem? vl (0 + j) = some (cutY y j).val) ∧ Loops Try.prog 2 239 (loopAt Try.prog 8 1) [(2, .slice on k ck), (9, .int .i64 n), (10, .int .i64 g), (11, .slice (some ⟨10, 0, 0, 0, 5⟩) n n), (14, .slice none 0 0), (15, .int .i64 (0 : Nat))] (AHeap.rows 40 [(0, b0), (1, b1), (10, ri)]) (.exit 3) [(9, .int .i64 n), (10, .int .i64 g), (11, .slice (some ⟨10, 0, 0, 0, 5⟩) n n), (14, .slice ol (min k 60) (min k 60))] (AHeap.rows 75 [(0, b0), (1, b1), (10, ri), (67, rl)]) := by
  by_cases c : k = 0
  · refine ⟨none, 0, noRow0, .inr ⟨rfl, by omega, by omega⟩, noRow0_bare, fun j hj => by omega, ?_⟩
    rw [show min k 60 = 0 by omega]
    have q := Loops.last (by simp) (lb_eN on n k ck vn offn 0 0 0 b0 b1 ri b0 b0 g 0 0 0 0 (by omega))
    refine q.post (Ent.trans (Ent.drop (K := 50) (l := [(0, b0), (1, b1), (10, ri)]) (by kernel_rfl) (by kernel_rfl) (by kernel_rfl) (by kernel_rfl) (by simp [All_cons, All_nil, Clo] <;> simp [Ids]) (by simp only [List.map, All_cons, All_nil, and_true]; exact ⟨hb0.clo _, hb1.clo _, hri.clo _⟩)) ?_)
    exact Ent.more (l2 := [(67, noRow0)]) (by decide) (by decide)
  · have d1 : Clo (Ids [0, 1, 10, 67]) (.slice on k ck) := sn.clo (by simp [Ids])
    have hx := ix_neS (k := .i64) (i := 0) sn (by omega)
    have he := hy 0 (by omega)
    refine ⟨some ⟨67, min k 60 - 1, 0, 0, 3⟩, min k 60 - 1, gT (cutY y) (min k 60 - 1), .inl rfl, gT_bare _ _, fun j hj => gT_el (by omega), ?_⟩
    have ih := lb_loopG hn hb0 hb1 ss hs sn hy hns hk g hri (min k 60 - 1) 0 (by omega)
    have st := lb_sN on n k ck vn offn 0 0 0 b0 b1 ri b0 (gT (cutY y) 0) g (y 0).a (y 0).b (y 0).c (roundZ (y 0).c 31) (by omega) (by omega) hx he hx he hx he (lround_does _ 31 (by decide) _) ((app_gT1 (f := cutY y) (cutY y 0) rfl _ _ (by kernel_rfl)).trans (by kernel_rfl)) (by omega)
    refine Loops.round st ?_ ih
    exact Ent.drop (by kernel_rfl) (by kernel_rfl) (by kernel_rfl) (by kernel_rfl) (by simp [All_cons, All_nil, Clo, d1] <;> simp [Ids]) (by simp only [List.map, All_cons, All_nil, and_true]; exact ⟨hb0.clo _, hb1.clo _, hri.clo _, (gT_bare _ _).clo _⟩)
end

noncomputable def lhH (K : Nat) (b0 b1 rl : ABlk) (n : Nat) (it : Nat → It) (hf : Nat → Int) : AHeap := AHeap.rows K [(0, b0), (1, b1), (10, .made (frows n it) 5 true), (67, rl), (80, .made (ints n hf) 1 true)]
/-- whether one of so many is auto -/
def auB (it : Nat → It) (a p : Nat) : Bool := (List.range p).any fun q => (it (a + q)).k == 0
theorem auB_succ (it : Nat → It) (a p : Nat) : auB it a (p + 1) = (auB it a p || (it (a + p)).k == 0) := by unfold auB; rw [List.range_succ, List.any_append]; simp
theorem auB_true {it : Nat → It} {a p : Nat} (h : auB it a p = true) : ∃ j, a ≤ j ∧ j < a + p ∧ (it j).k = 0 := by
  unfold auB at h
  obtain ⟨q, h1, h2⟩ := List.any_eq_true.1 h
  exact ⟨a + q, by omega, by have := List.mem_range.1 h1; omega, by simpa using h2⟩

section
variable {n kl cl co vl : Nat} {ol oo : Option AAddr} {b0 b1 rl : ABlk} {it : Nat → It} {hf : Nat → Int} {z : Nat → Tr} (hn : n ≤ 4096) (hb0 : BareB b0) (hb1 : BareB b1) (hrl : BareB rl) (sl : SlArg ol kl cl 67 vl 0 3) (so : SlArg oo n co 80 0 0 1) (hz : ∀ j, j < kl → rl.elem? vl (0 + j) = some (z j).val) (hok : ∀ j, j < n → ItOk (it j)) (hkl : kl ≤ 60) (g : Int)
  (hlo : ∀ j, j < n → has0 (it j) ≤ hf j) (hfx : ∀ j, j < n → (it j).k = 1 → hf j = has0 (it j)) (hup : ∀ j, j < n → 0 ≤ hf j ∧ hf j ≤ 4096)
include hn hb0 hb1 hrl sl so hz hok hkl hlo hfx hup

theorem lc_loop : ∀ (f i : Nat), i + f = n → Loops Try.prog 2 239 (loopAt Try.prog 8 2) [(9, .int .i64 n), (10, .int .i64 g), (11, .slice (some ⟨10, 0, 0, 0, 5⟩) n n), (14, .slice ol kl cl), (16, .slice oo n co), (17, .int .i64 i)] (lhH 90 b0 b1 rl n it hf) (.exit 5) [(9, .int .i64 n), (10, .int .i64 g), (11, .slice (some ⟨10, 0, 0, 0, 5⟩) n n), (14, .slice ol kl cl), (16, .slice oo n co)] (lhH 94 b0 b1 rl n it hf)
  | 0, i, e => by
    obtain rfl : i = n := by omega
    have d1 : Clo (Ids [0, 1, 10, 67, 80]) (.slice ol kl cl) := sl.clo (by simp [Ids])
    have d2 : Clo (Ids [0, 1, 10, 67, 80]) (.slice oo i co) := so.clo (by simp [Ids])
    refine (Loops.last (by simp) (lc_e ol oo i kl cl co vl i b0 b1 (.made (frows i it) 5 true) rl (.made (ints i hf) 1 true) g 0 0 0 0 0 (by omega))).post ?_
    exact Ent.drop (by kernel_rfl) (by kernel_rfl) (by kernel_rfl) (by kernel_rfl) (by simp [All_cons, All_nil, Clo, d1, d2] <;> simp [Ids]) (by simp only [List.map, All_cons, All_nil, and_true]; exact ⟨hb0.clo _, hb1.clo _, (frows_bare _ _ _).clo _, hrl.clo _, fun e he => (ints_bare _ _ e he).clo _⟩)
  | f + 1, i, e => by
    have hi : i < n := by omega
    have d1 : Clo (Ids [0, 1, 10, 67, 80]) (.slice ol kl cl) := sl.clo (by simp [Ids])
    have d2 : Clo (Ids [0, 1, 10, 67, 80]) (.slice oo n co) := so.clo (by simp [Ids])
    have ih := lc_loop f (i + 1) (by omega)
    have hxo := ix_intN (k := .i64) so hi
    have hxi : aindexAddr env.D 30 (.slice (some ⟨10, 0, 0, 0, 5⟩) n n) (.int .i64 i) = some (.ptr (some ⟨10, 0, 0 + i, 0, 5⟩)) := ix_itS (.inl rfl) hi
    have hgo : (ABlk.made (ints n hf) 1 true).elem? 0 (0 + i) = some (.int .i64 (hf i)) := by rw [Nat.zero_add]; exact elem_made (ints_get hi)
    have hgi : (ABlk.made (frows n it) 5 true).elem? 0 (0 + i) = some (it i).val := by rw [Nat.zero_add]; exact elem_made (frows_get hi)
    have h1 := hlo i hi
    have h2 := hup i hi
    rcases hok i hi with ⟨k0, k1, k2, k3, k4, k5⟩ | ⟨k0, k1, k2, k3, k4, k5⟩
    · have ev : (it i).val = .agg [.int .i8 0, .int .i64 (it i).n, .int .i64 (it i).d, .int .i64 (it i).mn, .int .i64 (it i).mx] := by unfold It.val It.cells; rw [k0]
      rw [ev] at hgi
      rw [has0, if_pos k0] at h1
      have st := lc_0 ol oo n kl cl co vl i b0 b1 (.made (frows n it) 5 true) rl (.made (ints n hf) 1 true) g (hf i) (it i).n (it i).d (it i).mn (it i).mx (by omega) hxo hgo hxi hgi (by omega) hxi hgi (by omega)
      refine Loops.round st ?_ ih
      exact Ent.drop (by kernel_rfl) (by kernel_rfl) (by kernel_rfl) (by kernel_rfl) (by simp [All_cons, All_nil, Clo, d1, d2] <;> simp [Ids]) (by simp only [List.map, All_cons, All_nil, and_true]; exact ⟨hb0.clo _, hb1.clo _, (frows_bare _ _ _).clo _, hrl.clo _, fun e he => (ints_bare _ _ e he).clo _⟩)
    · have ev : (it i).val = .agg [.int .i8 1, .int .i64 (it i).n, .int .i64 (it i).d, .int .i64 (it i).mn, .int .i64 (it i).mx] := by unfold It.val It.cells; rw [k0]
      rw [ev] at hgi
      have h3 := hfx i hi k0
      rw [has0, if_neg (by omega)] at h3
      have st := lc_1 ol oo n kl cl co vl i b0 b1 (.made (frows n it) 5 true) rl (.made (ints n hf) 1 true) g (hf i) (it i).n (it i).d (it i).mn (it i).mx (by omega) hxo hgo hxi hgi (by omega) hxi hgi hxo hgo hxi hgi h3 (by omega)
      refine Loops.round st ?_ ih
      exact Ent.drop (by kernel_rfl) (by kernel_rfl) (by kernel_rfl) (by kernel_rfl) (by simp [All_cons, All_nil, Clo, d1, d2] <;> simp [Ids]) (by simp only [List.map, All_cons, All_nil, and_true]; exact ⟨hb0.clo _, hb1.clo _, (frows_bare _ _ _).clo _, hrl.clo _, fun e he => (ints_bare _ _ e he).clo _⟩)

theorem le_sum {a m : Nat} (ham : a + m ≤ n) : ∀ p, p ≤ m → 0 ≤ sumTo (fun q => hf (a + q)) p ∧ sumTo (fun q => hf (a + q)) p ≤ 4096 * p
  | 0, _ => by simp [sumTo]
  | p + 1, hp => by
    have := le_sum ham p (by omega)
    have := hup (a + p) (by omega)
    simp only [sumTo]; push_cast; omega

theorem le_loop {i a m : Nat} {e : Int} (ham : a + m ≤ n) (hee : e = ((a + m : Nat) : Int)) : ∀ (f p : Nat), p + f = m → Loops Try.prog 2 239 (loopAt Try.prog 8 4) [(9, .int .i64 n), (10, .int .i64 g), (11, .slice (some ⟨10, 0, 0, 0, 5⟩) n n), (14, .slice ol kl cl), (16, .slice oo n co), (18, .int .i64 i), (19, .int .i64 (sumTo (fun q => hf (a + q)) p)), (20, .bool (auB it a p)), (21, .int .i64 e), (22, .int .i64 (a + p : Nat))] (lhH 100 b0 b1 rl n it hf) (.exit 9) [(9, .int .i64 n), (10, .int .i64 g), (11, .slice (some ⟨10, 0, 0, 0, 5⟩) n n), (14, .slice ol kl cl), (16, .slice oo n co), (18, .int .i64 i), (19, .int .i64 (sumTo (fun q => hf (a + q)) m)), (20, .bool (auB it a m)), (21, .int .i64 e)] (lhH 104 b0 b1 rl n it hf)
  | 0, p, ep => by
    obtain rfl : p = m := by omega
    have d1 : Clo (Ids [0, 1, 10, 67, 80]) (.slice ol kl cl) := sl.clo (by simp [Ids])
    have d2 : Clo (Ids [0, 1, 10, 67, 80]) (.slice oo n co) := so.clo (by simp [Ids])
    cases auB it a p with
    | true =>
      refine (Loops.last (by simp) (le_et ol oo n kl cl co vl i (a + p) b0 b1 (.made (frows n it) 5 true) rl (.made (ints n hf) 1 true) g (sumTo (fun q => hf (a + q)) p) e 0 0 0 0 0 (by omega))).post ?_
      exact Ent.drop (by kernel_rfl) (by kernel_rfl) (by kernel_rfl) (by kernel_rfl) (by simp [All_cons, All_nil, Clo, d1, d2] <;> simp [Ids]) (by simp only [List.map, All_cons, All_nil, and_true]; exact ⟨hb0.clo _, hb1.clo _, (frows_bare _ _ _).clo _, hrl.clo _, fun e he => (ints_bare _ _ e he).clo _⟩)
    | false =>
      refine (Loops.last (by simp) (le_ef ol oo n kl cl co vl i (a + p) b0 b1 (.made (frows n it) 5 true) rl (.made (ints n hf) 1 true) g (sumTo (fun q => hf (a + q)) p) e 0 0 0 0 0 (by omega))).post ?_
      exact Ent.drop (by kernel_rfl) (by kernel_rfl) (by kernel_rfl) (by kernel_rfl) (by simp [All_cons, All_nil, Clo, d1, d2] <;> simp [Ids]) (by simp only [List.map, All_cons, All_nil, and_true]; exact ⟨hb0.clo _, hb1.clo _, (frows_bare _ _ _).clo _, hrl.clo _, fun e he => (ints_bare _ _ e he).clo _⟩)
  | f + 1, p, ep => by
    have hp : a + p < n := by omega
    have d1 : Clo (Ids [0, 1, 10, 67, 80]) (.slice ol kl cl) := sl.clo (by simp [Ids])
    have d2 : Clo (Ids [0, 1, 10, 67, 80]) (.slice oo n co) := so.clo (by simp [Ids])
    have ih := le_loop (i := i) ham hee f (p + 1) (by omega)
    have es : sumTo (fun q => hf (a + q)) (p + 1) = sumTo (fun q => hf (a + q)) p + hf (a + p) := rfl
    rw [auB_succ, es] at ih
    have sm := le_sum hn hb0 hb1 hrl sl so hz hok hkl hlo hfx hup ham p (by omega)
    have sm2 := hup (a + p) hp
    have hxo := ix_intN (k := .i64) so hp
    have hxi : aindexAddr env.D 30 (.slice (some ⟨10, 0, 0, 0, 5⟩) n n) (.int .i64 (a + p : Nat)) = some (.ptr (some ⟨10, 0, 0 + (a + p), 0, 5⟩)) := ix_itS (.inl rfl) hp
    have hgo : (ABlk.made (ints n hf) 1 true).elem? 0 (0 + (a + p)) = some (.int .i64 (hf (a + p))) := by rw [Nat.zero_add]; exact elem_made (ints_get hp)
    have hgi : (ABlk.made (frows n it) 5 true).elem? 0 (0 + (a + p)) = some (it (a + p)).val := by rw [Nat.zero_add]; exact elem_made (frows_get hp)
    rw [show a + (p + 1) = a + p + 1 by omega] at ih
    cases hau : auB it a p with
    | true =>
      rw [hau, Bool.true_or] at ih
      have st := le_t ol oo n kl cl co vl i (a + p) b0 b1 (.made (frows n it) 5 true) rl (.made (ints n hf) 1 true) g (sumTo (fun q => hf (a + q)) p) e (hf (a + p)) 0 0 0 0 (by omega) hxo hgo (by omega) (by omega)
      refine Loops.round st ?_ ih
      exact Ent.drop (by kernel_rfl) (by kernel_rfl) (by kernel_rfl) (by kernel_rfl) (by simp [All_cons, All_nil, Clo, d1, d2] <;> simp [Ids]) (by simp only [List.map, All_cons, All_nil, and_true]; exact ⟨hb0.clo _, hb1.clo _, (frows_bare _ _ _).clo _, hrl.clo _, fun e he => (ints_bare _ _ e he).clo _⟩)
    | false =>
      rw [hau, Bool.false_or] at ih
      rcases hok (a + p) hp with ⟨k0, k1, k2, k3, k4, k5⟩ | ⟨k0, k1, k2, k3, k4, k5⟩
      · have ev : (it (a + p)).val = .agg [.int .i8 0, .int .i64 (it (a + p)).n, .int .i64 (it (a + p)).d, .int .i64 (it (a + p)).mn, .int .i64 (it (a + p)).mx] := by unfold It.val It.cells; rw [k0]
        rw [ev] at hgi
        rw [k0] at ih
        have st := le_0 ol oo n kl cl co vl i (a + p) b0 b1 (.made (frows n it) 5 true) rl (.made (ints n hf) 1 true) g (sumTo (fun q => hf (a + q)) p) e (hf (a + p)) (it (a + p)).n (it (a + p)).d (it (a + p)).mn (it (a + p)).mx (by omega) hxo hgo (by omega) hxi hgi (by omega)
        refine Loops.round st ?_ ih
        exact Ent.drop (by kernel_rfl) (by kernel_rfl) (by kernel_rfl) (by kernel_rfl) (by simp [All_cons, All_nil, Clo, d1, d2] <;> simp [Ids]) (by simp only [List.map, All_cons, All_nil, and_true]; exact ⟨hb0.clo _, hb1.clo _, (frows_bare _ _ _).clo _, hrl.clo _, fun e he => (ints_bare _ _ e he).clo _⟩)
      · have ev : (it (a + p)).val = .agg [.int .i8 1, .int .i64 (it (a + p)).n, .int .i64 (it (a + p)).d, .int .i64 (it (a + p)).mn, .int .i64 (it (a + p)).mx] := by unfold It.val It.cells; rw [k0]
        rw [ev] at hgi
        rw [k0] at ih
        have st := le_1 ol oo n kl cl co vl i (a + p) b0 b1 (.made (frows n it) 5 true) rl (.made (ints n hf) 1 true) g (sumTo (fun q => hf (a + q)) p) e (hf (a + p)) (it (a + p)).n (it (a + p)).d (it (a + p)).mn (it (a + p)).mx (by omega) hxo hgo (by omega) hxi hgi (by omega)
        refine Loops.round st ?_ ih
        exact Ent.drop (by kernel_rfl) (by kernel_rfl) (by kernel_rfl) (by kernel_rfl) (by simp [All_cons, All_nil, Clo, d1, d2] <;> simp [Ids]) (by simp only [List.map, All_cons, All_nil, and_true]; exact ⟨hb0.clo _, hb1.clo _, (frows_bare _ _ _).clo _, hrl.clo _, fun e he => (ints_bare _ _ e he).clo _⟩)

theorem ld_loop (hg : 0 ≤ g ∧ g ≤ 4096) (hzf : ∀ j, j < kl → (z j).Fits ∧ 0 ≤ (z j).c ∧ (z j).c ≤ 4096) (hcov : ∀ j, j < kl → okN n (z j) → Cov it g hf (cutT n (z j))) : ∀ (f i : Nat), i + f = kl → Loops Try.prog 2 239 (loopAt Try.prog 8 3) [(9, .int .i64 n), (10, .int .i64 g), (11, .slice (some ⟨10, 0, 0, 0, 5⟩) n n), (14, .slice ol kl cl), (16, .slice oo n co), (18, .int .i64 i)] (lhH 95 b0 b1 rl n it hf) (.exit 7) [] (lhH 110 b0 b1 rl n it hf)
  | 0, i, e => by
    obtain rfl : i = kl := by omega
    refine (Loops.last (by simp) (ld_e ol oo n i cl co vl i b0 b1 (.made (frows n it) 5 true) rl (.made (ints n hf) 1 true) g 0 0 0 0 0 (by omega))).post ?_
    exact Ent.drop (by kernel_rfl) (by kernel_rfl) (by kernel_rfl) (by kernel_rfl) (by simp [All_cons, All_nil, Clo] <;> simp [Ids]) (by simp only [List.map, All_cons, All_nil, and_true]; exact ⟨hb0.clo _, hb1.clo _, (frows_bare _ _ _).clo _, hrl.clo _, fun e he => (ints_bare _ _ e he).clo _⟩)
  | f + 1, i, e => by
    have hi : i < kl := by omega
    have d1 : Clo (Ids [0, 1, 10, 67, 80]) (.slice ol kl cl) := sl.clo (by simp [Ids])
    have d2 : Clo (Ids [0, 1, 10, 67, 80]) (.slice oo n co) := so.clo (by simp [Ids])
    have ih := ld_loop hg hzf hcov f (i + 1) (by omega)
    have hx := ix_neS (k := .i64) sl hi
    have he := hz i hi
    obtain ⟨⟨⟨fa1, fa2⟩, ⟨fb1, fb2⟩, ⟨fc1, fc2⟩⟩, hc1, hc2⟩ := hzf i hi
    by_cases c1 : (z i).a < 0
    · have st := ld_s1 ol oo n kl cl co vl i b0 b1 (.made (frows n it) 5 true) rl (.made (ints n hf) 1 true) g 0 0 (z i).a (z i).b (z i).c (by omega) hx he c1 (by omega)
      refine Loops.round st ?_ ih
      exact Ent.drop (by kernel_rfl) (by kernel_rfl) (by kernel_rfl) (by kernel_rfl) (by simp [All_cons, All_nil, Clo, d1, d2] <;> simp [Ids]) (by simp only [List.map, All_cons, All_nil, and_true]; exact ⟨hb0.clo _, hb1.clo _, (frows_bare _ _ _).clo _, hrl.clo _, fun e he => (ints_bare _ _ e he).clo _⟩)
    by_cases c2 : (z i).a ≥ n
    · have st := ld_s2 ol oo n kl cl co vl i b0 b1 (.made (frows n it) 5 true) rl (.made (ints n hf) 1 true) g 0 0 (z i).a (z i).b (z i).c (by omega) hx he c1 hx he c2 (by omega)
      refine Loops.round st ?_ ih
      exact Ent.drop (by kernel_rfl) (by kernel_rfl) (by kernel_rfl) (by kernel_rfl) (by simp [All_cons, All_nil, Clo, d1, d2] <;> simp [Ids]) (by simp only [List.map, All_cons, All_nil, and_true]; exact ⟨hb0.clo _, hb1.clo _, (frows_bare _ _ _).clo _, hrl.clo _, fun e he => (ints_bare _ _ e he).clo _⟩)
    by_cases c3 : (z i).b < 1
    · have st := ld_s3 ol oo n kl cl co vl i b0 b1 (.made (frows n it) 5 true) rl (.made (ints n hf) 1 true) g 0 0 (z i).a (z i).b (z i).c (by omega) hx he c1 hx he c2 hx he c3 (by omega)
      refine Loops.round st ?_ ih
      exact Ent.drop (by kernel_rfl) (by kernel_rfl) (by kernel_rfl) (by kernel_rfl) (by simp [All_cons, All_nil, Clo, d1, d2] <;> simp [Ids]) (by simp only [List.map, All_cons, All_nil, and_true]; exact ⟨hb0.clo _, hb1.clo _, (frows_bare _ _ _).clo _, hrl.clo _, fun e he => (ints_bare _ _ e he).clo _⟩)
    obtain ⟨a, ha⟩ : ∃ a : Nat, (z i).a = (a : Int) := ⟨(z i).a.toNat, by omega⟩
    obtain ⟨m, hm⟩ : ∃ m : Nat, min (z i).b ((n : Int) - (z i).a) = (m : Int) := ⟨(min (z i).b ((n : Int) - (z i).a)).toNat, by omega⟩
    have ham : a + m ≤ n := by omega
    have hcv : Cov it g hf (cutT n (z i)) := hcov i hi ⟨by omega, by omega, by omega⟩
    have sm := le_sum hn hb0 hb1 hrl sl so hz hok hkl hlo hfx hup ham m (Nat.le_refl _)
    have g0 : 0 ≤ g * ((m : Int) - 1) := Int.mul_nonneg hg.1 (by omega)
    have g1 : g * ((m : Int) - 1) ≤ 4096 * ((m : Int) - 1) := Int.mul_le_mul_of_nonneg_right hg.2 (by omega)
    have hle : auB it a m = true → ¬ (sumTo (fun q => hf (a + q)) m + g * ((m : Int) - 1) < (z i).c) := fun hau => by
      have := hcv (by
        obtain ⟨j, j1, j2, j3⟩ := auB_true hau
        refine ⟨j, ?_, ?_, j3⟩
        · simp only [cutT]; omega
        · simp only [cutT]; omega)
      simp only [cutT] at this
      rw [hm, show (z i).a.toNat = a by omega, show ((m : Int)).toNat = m by omega] at this
      have : sideZ (z i).c = (z i).c := by unfold sideZ; omega
      omega
    by_cases c4 : (z i).b < (n : Int) - (z i).a
    · have hmb : (z i).b = (m : Int) := by omega
      have lp := le_loop hn hb0 hb1 hrl sl so hz hok hkl g hlo hfx hup (i := i) (a := a) (m := m) (e := (z i).a + (z i).b) ham (by omega) m 0 (by omega)
      rw [show (((a + 0 : Nat) : Nat) : Int) = (z i).a by omega] at lp
      have ex : (z i).a + (z i).b - (z i).a - 1 = (m : Int) - 1 := by omega
      cases hau : auB it a m with
      | true =>
        have st := ld_Tt ol oo n kl cl co vl i b0 b1 (.made (frows n it) 5 true) rl (.made (ints n hf) 1 true) g (sumTo (fun q => hf (a + q)) m) 0 (z i).a (z i).b (z i).c (by omega) hx he c1 hx he c2 hx he c3 hx he hx he (by omega) c4 hx he hx he (by omega) hx he (by rw [hau] at lp; exact Runs.of_loops (lp.pre (Ent.drop (by kernel_rfl) (by kernel_rfl) (by kernel_rfl) (by kernel_rfl) (by simp [All_cons, All_nil, Clo, d1, d2] <;> simp [Ids]) (by simp only [List.map, All_cons, All_nil, and_true]; exact ⟨hb0.clo _, hb1.clo _, (frows_bare _ _ _).clo _, hrl.clo _, fun e he => (ints_bare _ _ e he).clo _⟩)))) hx he (by omega) (by omega) (by rw [ex]; omega) (by rw [ex]; omega) hx he (by rw [ex]; exact hle hau) (by omega)
        refine Loops.round st ?_ ih
        exact Ent.drop (by kernel_rfl) (by kernel_rfl) (by kernel_rfl) (by kernel_rfl) (by simp [All_cons, All_nil, Clo, d1, d2] <;> simp [Ids]) (by simp only [List.map, All_cons, All_nil, and_true]; exact ⟨hb0.clo _, hb1.clo _, (frows_bare _ _ _).clo _, hrl.clo _, fun e he => (ints_bare _ _ e he).clo _⟩)
      | false =>
        have st := ld_Tf ol oo n kl cl co vl i b0 b1 (.made (frows n it) 5 true) rl (.made (ints n hf) 1 true) g (sumTo (fun q => hf (a + q)) m) 0 (z i).a (z i).b (z i).c (by omega) hx he c1 hx he c2 hx he c3 hx he hx he (by omega) c4 hx he hx he (by omega) hx he (by rw [hau] at lp; exact Runs.of_loops (lp.pre (Ent.drop (by kernel_rfl) (by kernel_rfl) (by kernel_rfl) (by kernel_rfl) (by simp [All_cons, All_nil, Clo, d1, d2] <;> simp [Ids]) (by simp only [List.map, All_cons, All_nil, and_true]; exact ⟨hb0.clo _, hb1.clo _, (frows_bare _ _ _).clo _, hrl.clo _, fun e he => (ints_bare _ _ e he).clo _⟩)))) (by omega)
        refine Loops.round st ?_ ih
        exact Ent.drop (by kernel_rfl) (by kernel_rfl) (by kernel_rfl) (by kernel_rfl) (by simp [All_cons, All_nil, Clo, d1, d2] <;> simp [Ids]) (by simp only [List.map, All_cons, All_nil, and_true]; exact ⟨hb0.clo _, hb1.clo _, (frows_bare _ _ _).clo _, hrl.clo _, fun e he => (ints_bare _ _ e he).clo _⟩)
    · have hmb : (n : Int) - (z i).a = (m : Int) := by omega
      have lp := le_loop hn hb0 hb1 hrl sl so hz hok hkl g hlo hfx hup (i := i) (a := a) (m := m) (e := (n : Int)) ham (by omega) m 0 (by omega)
      rw [show (((a + 0 : Nat) : Nat) : Int) = (z i).a by omega] at lp
      have ex : (n : Int) - (z i).a - 1 = (m : Int) - 1 := by omega
      cases hau : auB it a m with
      | true =>
        have st := ld_Ft ol oo n kl cl co vl i b0 b1 (.made (frows n it) 5 true) rl (.made (ints n hf) 1 true) g (sumTo (fun q => hf (a + q)) m) 0 (z i).a (z i).b (z i).c (by omega) hx he c1 hx he c2 hx he c3 hx he hx he (by omega) c4 hx he (by rw [hau] at lp; exact Runs.of_loops (lp.pre (Ent.drop (by kernel_rfl) (by kernel_rfl) (by kernel_rfl) (by kernel_rfl) (by simp [All_cons, All_nil, Clo, d1, d2] <;> simp [Ids]) (by simp only [List.map, All_cons, All_nil, and_true]; exact ⟨hb0.clo _, hb1.clo _, (frows_bare _ _ _).clo _, hrl.clo _, fun e he => (ints_bare _ _ e he).clo _⟩)))) hx he (by omega) (by omega) (by rw [ex]; omega) (by rw [ex]; omega) hx he (by rw [ex]; exact hle hau) (by omega)
        refine Loops.round st ?_ ih
        exact Ent.drop (by kernel_rfl) (by kernel_rfl) (by kernel_rfl) (by kernel_rfl) (by simp [All_cons, All_nil, Clo, d1, d2] <;> simp [Ids]) (by simp only [List.map, All_cons, All_nil, and_true]; exact ⟨hb0.clo _, hb1.clo _, (frows_bare _ _ _).clo _, hrl.clo _, fun e he => (ints_bare _ _ e he).clo _⟩)
      | false =>
        have st := ld_Ff ol oo n kl cl co vl i b0 b1 (.made (frows n it) 5 true) rl (.made (ints n hf) 1 true) g (sumTo (fun q => hf (a + q)) m) 0 (z i).a (z i).b (z i).c (by omega) hx he c1 hx he c2 hx he c3 hx he hx he (by omega) c4 hx he (by rw [hau] at lp; exact Runs.of_loops (lp.pre (Ent.drop (by kernel_rfl) (by kernel_rfl) (by kernel_rfl) (by kernel_rfl) (by simp [All_cons, All_nil, Clo, d1, d2] <;> simp [Ids]) (by simp only [List.map, All_cons, All_nil, and_true]; exact ⟨hb0.clo _, hb1.clo _, (frows_bare _ _ _).clo _, hrl.clo _, fun e he => (ints_bare _ _ e he).clo _⟩)))) (by omega)
        refine Loops.round st ?_ ih
        exact Ent.drop (by kernel_rfl) (by kernel_rfl) (by kernel_rfl) (by kernel_rfl) (by simp [All_cons, All_nil, Clo, d1, d2] <;> simp [Ids]) (by simp only [List.map, All_cons, All_nil, and_true]; exact ⟨hb0.clo _, hb1.clo _, (frows_bare _ _ _).clo _, hrl.clo _, fun e he => (ints_bare _ _ e he).clo _⟩)
end

end Go.Proofs.Ytcgcpmcjaeenlaa

namespace Go.Proofs.Ytcgcpmcjaeenlaa
open Go.Lift
set_option maxRecDepth 1000000
set_option linter.unusedSimpArgs false
set_option linter.unusedVariables false

theorem has0_sum {it : Nat → It} (h : ∀ j, 0 ≤ has0 (it j) ∧ has0 (it j) ≤ 9) : ∀ n : Nat, sumTo (fun j => has0 (it j)) n ≤ 9 * n
  | 0 => by simp [sumTo]
  | n + 1 => by have := has0_sum h n; have := h n; simp only [sumTo]; push_cast; omega

theorem gholds_law {os on : Option AAddr} {ns cs k ck vs offs vn offn : Nat} {b0 b1 : ABlk} {s : Nat → Int} {y : Nat → Tr} (ss : SlArg os ns cs 0 vs offs 1) (sn : SlArg on k ck 1 vn offn 3) (hb0 : BareB b0) (hb1 : BareB b1) (hs : ∀ j, j < ns → b0.elem? vs (offs + j) = some (.int .i64 (s j))) (hy : ∀ j, j < k → b1.elem? vn (offn + j) = some (y j).val) (hyf : ∀ j, j < k → (y j).Fits) (hns : ns ≤ 2 ^ 60) (hk : k ≤ 2 ^ 60) (tracks gap : Int) :
    ∃ h', FDoes Try.prog 8 [.int .i64 tracks, .slice os ns cs, .slice on k ck, .int .i64 gap] (AHeap.of [b0, b1]) (.bool true) h' := by
  have rt := roundZ_range tracks (n := 41) (by decide)
  have rg := roundZ_range gap (n := 4) (by decide)
  obtain ⟨n, hn⟩ : ∃ n : Nat, roundZ tracks 41 = (n : Int) := ⟨(roundZ tracks 41).toNat, by omega⟩
  generalize hge : roundZ gap 4 = g at *
  have hn40 : n ≤ 40 := by omega
  have hok := fun j => itS_ok s ns j
  have l0 := la_loop (n := n) (by omega) hb0 hb1 ss hs sn hy hns hk g n 0 (by omega) (Nat.zero_le _)
  rw [← frows_zero n fun j => itS s ns j] at l0
  obtain ⟨ol, vl, rl, sl, hrl, hz, l1⟩ := lb_loop (n := n) (by omega) hb0 hb1 ss hs sn hy hns hk g (frows_bare n (fun j => itS s ns j) true)
  have rc := fun j => roundZ_range (y j).c (n := 31) (by decide)
  have hM : ∀ j, (cutY y j).c ≤ 30 := fun j => by have := rc j; simp only [cutY]; omega
  have hsg : sideZ g = g := by unfold sideZ; omega
  have hB : HInv n (itS s ns) (fun j => has0 (itS s ns j)) (fun j => has0 (itS s ns j)) 360 := ⟨fun j hj => Int.le_refl _, fun j hj _ => rfl, by have := has0_sum (fun j => (hok j).2) n; omega, fun j hj => (hok j).2.1⟩
  have g0 : g * ((n : Int) - 1) ≤ 117 := by
    by_cases c : n = 0
    · subst c; omega
    · have h1 : g * ((n : Int) - 1) ≤ 3 * ((n : Int) - 1) := Int.mul_le_mul_of_nonneg_right (by omega) (by omega)
      omega
  have hk60 : min k 60 ≤ 60 := Nat.min_le_right _ _
  obtain ⟨hf, o', c', hd, q1, q2, q3⟩ := tracks_does (H := AHeap.rows 80 [(0, b0), (1, b1), (10, .made (frows n (itS s ns)) 5 true), (67, rl)]) (n := n) (c := n) (id1 := 10) (v0 := 0) (off := 0) (k := min k 60) (ck := min k 60) (id2 := 67) (vn := vl) (offn := 0) (o := some ⟨10, 0, 0, 0, 5⟩) (on := ol) (b0 := .made (frows n (itS s ns)) 5 true) (bn := rl) (it := itS s ns) (y := cutY y) (by omega) (by omega) (frows_bare _ _ _) hrl (.inl rfl) (fun j hj => by rw [Nat.zero_add]; exact elem_made (frows_get hj)) (fun j _ => (hok j).1) sl hz 4096 g (M := 30) (B := 360) (by decide) hM hB (by omega) (by rw [hsg, show sideZ 4096 = 4096 by decide]; omega) (by kernel_rfl) (by kernel_rfl) (Nat.le_of_ble_eq_true (by kernel_rfl)) (Nat.le_of_ble_eq_true (by kernel_rfl)) (by decide) (N := 80) (by kernel_rfl)
  obtain ⟨w, σ, d1, d2, e⟩ := hd
  obtain ⟨p1, p2, p3⟩ := holds_law (n := n) (it := itS s ns) (h0 := fun j => has0 (itS s ns j)) (g := sideZ g) (sideZ_range g).1 (y := cutY y) (M := 30) (B := 360) (k := min k 60) (by decide) (by decide) hM hB d1 d2
  rw [← e, hsg] at p3
  rw [← e] at p1
  have hup : ∀ j, j < n → 0 ≤ hf j ∧ hf j ≤ 4096 := fun j hj => by have := p1.le j hj; omega
  have l2 := lc_loop (n := n) (kl := min k 60) (cl := min k 60) (co := c') (by omega) hb0 hb1 hrl sl q1 hz (fun j _ => (hok j).1) hk60 g p1.lo p1.fix hup n 0 (by omega)
  have l3 := ld_loop (n := n) (kl := min k 60) (cl := min k 60) (co := c') (by omega) hb0 hb1 hrl sl q1 hz (fun j _ => (hok j).1) hk60 g p1.lo p1.fix hup (by omega) (fun j hj => by
    have f := hyf j (by omega)
    have := rc j
    exact ⟨⟨f.a, f.b, by show Fit64 (roundZ (y j).c 31); exact ⟨by omega, by omega⟩⟩, by show 0 ≤ roundZ (y j).c 31; omega, by show roundZ (y j).c 31 ≤ 4096; omega⟩) p3 (min k 60) 0 (by omega)
  have z0 : Clo (Ids [0, 1, 10]) (.slice on k ck) := sn.clo (by simp [Ids])
  have z1 : Clo (Ids [0, 1, 10]) (.slice os ns cs) := ss.clo (by simp [Ids])
  have z2 : Clo (Ids [0, 1, 10, 67, 80]) (.slice ol (min k 60) (min k 60)) := sl.clo (by simp [Ids])
  have z3 : Clo (Ids [0, 1, 10, 67, 80]) (.slice o' n c') := q1.clo (by simp [Ids])
  refine ⟨_, lh_call os on ol o' n ns cs k ck (min k 60) (min k 60) c' b0 b1 rl (.made (ints n hf) 1 true) (frows n fun j => itS s ns j) tracks gap g (by rw [← hn]; exact lround_does _ 41 (by decide) _) (by rw [← hge]; exact lround_does _ 4 (by decide) _) (by omega) (Runs.of_loops (l0.pre ?_)) (Runs.of_loops (l1.pre ?_)) (q3.to (by kernel_rfl)) rfl (alive_does _) (Runs.of_loops (l2.pre ?_)) (Runs.of_loops (l3.pre ?_))⟩
  · exact Ent.drop (by kernel_rfl) (by kernel_rfl) (by kernel_rfl) (by kernel_rfl) (by simp [All_cons, All_nil, Clo, z0, z1] <;> simp [Ids]) (by simp only [List.map, All_cons, All_nil, and_true]; exact ⟨hb0.clo _, hb1.clo _, fun e he => by obtain ⟨_, rfl⟩ := List.mem_replicate.1 he; exact (It.bare It00).clo _⟩)
  · exact Ent.drop (by kernel_rfl) (by kernel_rfl) (by kernel_rfl) (by kernel_rfl) (by simp [All_cons, All_nil, Clo, z0] <;> simp [Ids]) (by simp only [List.map, All_cons, All_nil, and_true]; exact ⟨hb0.clo _, hb1.clo _, (frows_bare _ _ _).clo _⟩)
  · exact Ent.drop (by kernel_rfl) (by kernel_rfl) (by kernel_rfl) (by kernel_rfl) (by simp [All_cons, All_nil, Clo, z2, z3] <;> simp [Ids]) (by simp only [List.map, All_cons, All_nil, and_true]; exact ⟨hb0.clo _, hb1.clo _, (frows_bare _ _ _).clo _, hrl.clo _, fun e he => (ints_bare _ _ e he).clo _⟩)
  · exact Ent.drop (by kernel_rfl) (by kernel_rfl) (by kernel_rfl) (by kernel_rfl) (by simp [All_cons, All_nil, Clo, z2, z3] <;> simp [Ids]) (by simp only [List.map, All_cons, All_nil, and_true]; exact ⟨hb0.clo _, hb1.clo _, (frows_bare _ _ _).clo _, hrl.clo _, fun e he => (ints_bare _ _ e he).clo _⟩)
end Go.Proofs.Ytcgcpmcjaeenlaa
