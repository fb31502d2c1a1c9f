/-
  Parts of the proof, one behind the other:
  solve.Sizes: the contract.
  What Sizes answers, plain: sums, bounds, order, more room.
  THE LIFT, PART R: the abstract machine once more, so written that the kernel runs it with every value worked out at once. What it answers the abstract machine answers.
  'frescolaw08.works' answers true, wherever it is called (a closed run).
  'frescolaw08.SolveMore': the walk.
  'frescolaw08.SolveMore' answers true.
  'frescolaw08.SolveOrder': the walk.
  'frescolaw08.SolveOrder' answers true, for every list of items, extent and gap.
-/
import Derived.Test.YtgfkllnaeekjeaaKSolveOrderF

namespace Go.Proofs.Ytgfkllnaeekjeaa
open Go.Lift
set_option maxRecDepth 1000000
set_option linter.unusedSimpArgs false
set_option linter.unusedVariables false
set_option linter.unusedSectionVars false

/-- a share, by the greatest rests -/
def ShareZ (n : Nat) (t : Int) (w z : Nat → Int) : Prop :=
  (sumTo w n = 0 ∧ ∀ j, z j = 0) ∨ (0 < sumTo w n ∧ ∃ k : Nat, (k : Int) = t - sumTo (shareQ t w n) n ∧ k ≤ n ∧ Tops n (shareQ t w n) (shareR t w n) k z)

theorem share_all {n : Nat} (hn : n ≤ 2 ^ 14) {t : Int} (ht : 0 ≤ t ∧ t ≤ 2 ^ 36) {w : Nat → Int} (hw : ∀ j, j < n → 0 ≤ w j ∧ w j ≤ 2 ^ 25) :
    ∃ s, ShareZ n t w s ∧ FDoes Try.prog 41 [.int .i64 t, .slice (some ⟨0, 0, 0, 0, 1⟩) n n] (AHeap.of [IRow n w]) (.slice (some ⟨1, 0, 0, 0, 1⟩) n n) (AHeap.of [IRow n w, IRow n s]) := by
  have h0 : 0 ≤ sumTo w n := sumTo_ge0 fun j hj => (hw j hj).1
  by_cases ha : sumTo w n = 0
  · exact ⟨fun _ => 0, .inl ⟨ha, fun _ => rfl⟩, share_zero hn ht hw ha⟩
  · have ha : 0 < sumTo w n := by omega
    obtain ⟨σ, s1, s2, s3⟩ := share_does hn ht hw ha
    obtain ⟨k1, k2⟩ := share_left (t := t) ha
    refine ⟨_, .inr ⟨ha, (t - sumTo (shareQ t w n) n).toNat, by omega, by omega, ?_⟩, s3⟩
    rw [topF_topP]
    refine tops_of s1 s2 ha (fun j _ => ⟨Int.emod_nonneg _ (by omega), Int.emod_lt_of_pos _ ha⟩) (by omega) ?_ _
    rw [show (((t - sumTo (shareQ t w n) n).toNat : Nat) : Int) = t - sumTo (shareQ t w n) n by omega, sumTo_sumL (shareQ t w n)]
    exact share_rests (l := List.range n) (x := fun j => t * w j) (w := sumTo w n) (t := t) ha (by rw [sumL_mul, ← sumTo_sumL])

/-- the room that the items share -/
def roomZ (n : Nat) (extent gap : Int) : Int := max 0 (sideZ extent - sideZ gap * ((n : Int) - 1))
theorem roomZ_range {n : Nat} (h : 1 ≤ n) (extent gap : Int) : 0 ≤ roomZ n extent gap ∧ roomZ n extent gap ≤ 4096 := by
  have h1 := sideZ_range extent
  have h2 := sideZ_range gap
  have : 0 ≤ sideZ gap * ((n : Int) - 1) := Int.mul_nonneg h2.1 (by omega)
  unfold roomZ; omega

/-- what Sizes answers -/
structure SizesZ (eff : Nat → It) (N : Nat) (room : Int) (z : Nat → Int) : Prop where
  cases : (room < sumTo (fun j => (eff j).mn) N ∧ ShareZ N room (fun j => (eff j).mn) z) ∨
    (sumTo (fun j => (eff j).mn) N ≤ room ∧ room < sumTo (fun j => wantZ room (eff j)) N ∧ ∃ s, ShareZ N (sumTo (fun j => wantZ room (eff j)) N - room) (fun j => wantZ room (eff j) - (eff j).mn) s ∧ ∀ j, j < N → z j = wantZ room (eff j) - s j) ∨
    (sumTo (fun j => (eff j).mn) N ≤ room ∧ sumTo (fun j => wantZ room (eff j)) N ≤ room ∧
      ((bndAt eff N = true ∧ mostAt eff N ≤ restAt eff (fun j => wantZ room (eff j)) room N ∧ ∀ j, j < N → z j = if j ∈ opn eff N then (eff j).mx else wantZ room (eff j)) ∨
        (¬ (bndAt eff N = true ∧ mostAt eff N ≤ restAt eff (fun j => wantZ room (eff j)) room N) ∧ FInv (fpOf eff) (opn eff N) (restAt eff (fun j => wantZ room (eff j)) room N) (weightAt eff N) ∧
          Fills (fpOf eff) (opn eff N) (restAt eff (fun j => wantZ room (eff j)) room N) (weightAt eff N) (fun j => wantZ room (eff j)) z)))

theorem sumTo_le_one {f : Nat → Int} : ∀ {n : Nat}, (∀ j, j < n → 0 ≤ f j) → ∀ j, j < n → f j ≤ sumTo f n
  | 0, _, j, h => by omega
  | n + 1, h, j, hj => by
    have h0 := sumTo_ge0 (f := f) (n := n) fun i hi => h i (by omega)
    have h1 := h n (by omega)
    simp only [sumTo]
    by_cases c : j = n
    · subst c; omega
    · have := sumTo_le_one (n := n) (fun i hi => h i (by omega)) j (by omega); omega

theorem fill_inv {eff : Nat → It} (heff : ∀ j, RightIt (eff j)) {N : Nat} {room : Int} (hr : 0 ≤ room ∧ room ≤ 4096) (hsum : sumTo (fun j => wantZ room (eff j)) N ≤ room)
    (hno : ¬ (bndAt eff N = true ∧ mostAt eff N ≤ restAt eff (fun j => wantZ room (eff j)) room N)) : FInv (fpOf eff) (opn eff N) (restAt eff (fun j => wantZ room (eff j)) room N) (weightAt eff N) := by
  have hf : ∀ j ∈ opn eff N, FillIt (eff j) := fun j hj => (heff j).fill (opn_mem.1 hj).2
  have hw0 : ∀ j, 0 ≤ wantZ room (eff j) := fun j => by have := wantZ_range (heff j) hr; have := (heff j).mn; omega
  have hrest : restAt eff (fun j => wantZ room (eff j)) room N ≤ room := by
    have : 0 ≤ sumL (fun j => wantZ room (eff j)) ((List.range N).filter fun j => !isF eff j) := sumL_ge0 fun j _ => hw0 j
    unfold restAt; omega
  refine ⟨⟨fun i hi => (hf i hi).n.1, fun i hi => (hf i hi).mn.1, fun i hi => (hf i hi).bd.1⟩, opn_nodup _ _, rfl, ?_, ?_⟩
  · rw [sumTo_sumL, sumL_filter _ (isF eff)] at hsum
    have e : sumL (fun j => wantZ room (eff j)) ((List.range N).filter (isF eff)) = sumL (fpOf eff).mn (opn eff N) := sumL_congr fun j hj => by
      have hk : (eff j).k = 3 := (opn_mem.1 (show j ∈ opn eff N from hj)).2
      show wantZ room (eff j) = (eff j).mn
      unfold wantZ
      rw [if_neg (by omega), if_pos hk]
    unfold restAt
    omega
  · have hb0 : ∀ i ∈ opn eff N, 0 ≤ (fpOf eff).bd i := fun i hi => (hf i hi).bd.2.1
    cases hb : bndAt eff N with
    | true =>
      have h1 : ¬ mostAt eff N ≤ restAt eff (fun j => wantZ room (eff j)) room N := fun h => hno ⟨hb, h⟩
      have e : mostAt eff N = sumL (fpOf eff).bd (opn eff N) := sumL_congr fun j hj => by
        have := List.all_eq_true.1 hb j hj
        simp only [decide_eq_true_eq] at this
        show _ = boundZ (eff j).mx
        unfold boundZ; rw [if_pos this]
      omega
    | false =>
      have : ∃ j ∈ opn eff N, ¬ 0 < (eff j).mx := by
        unfold bndAt at hb
        rw [List.all_eq_false] at hb
        obtain ⟨j, hj, h⟩ := hb
        exact ⟨j, hj, by simpa using h⟩
      obtain ⟨j, hj, h⟩ := this
      have h2 := sumL_mem_le hb0 j hj
      have : (fpOf eff).bd j = 8192 := by
        show boundZ (eff j).mx = 8192
        unfold boundZ; rw [if_neg h]
      omega

section
variable {N : Nat} (hN : N ≤ 4096) (h1 : 1 ≤ N) {o : Option AAddr} {c ver off : Nat} {b : ABlk} (hs : SlArg o N c 0 ver off 5) (hb : BareB b) {src : Nat → It} (hel : ∀ j, j < N → b.elem? ver (off + j) = some (src j).val)
include hN h1 hs hb hel

theorem sub_loop (w s : Nat → Int) (hw : ∀ j, j < N → 0 ≤ w j ∧ w j ≤ 2 ^ 40) (hs2 : ∀ j, j < N → 0 ≤ s j ∧ s j ≤ 2 ^ 40) : ∀ (f i : Nat), i + f = N →
    Loops Try.prog 1 142 (loopAt Try.prog 16 1) [(11, .slice (some ⟨27, 0, 0, 0, 1⟩) N N), (121, .slice (some ⟨57, 0, 0, 0, 1⟩) N N), (122, .int .i64 N), (123, .int .i64 i)]
      (AHeap.rows 90 [(0, b), (27, .made (ints N fun j => if j < i then w j - s j else w j) 1 true), (57, .made (ints N s) 1 true)]) (.exit 3) [(11, .slice (some ⟨27, 0, 0, 0, 1⟩) N N)]
      (AHeap.rows 91 [(0, b), (27, .made (ints N fun j => if j < N then w j - s j else w j) 1 true), (57, .made (ints N s) 1 true)])
  | 0, i, e => by
    obtain rfl : i = N := by omega
    exact Loops.last (by simp) (sz_subEnd i i b _ _ (by omega))
  | f + 1, i, e => by
    have hi : i < N := by omega
    have hwi := hw i hi
    have hsi := hs2 i hi
    have st := sz_sub N i b (ints N fun j => if j < i then w j - s j else w j) (ints N s) (s i) (w i) (w i) (by omega) (ixR hi) (elem_made (ints_get hi)) (ixR hi) (elem_made (by rw [ints_get hi]; simp)) (by omega) (ixR hi) ⟨rfl, by rw [ints_get hi]; simp⟩ (by omega)
    rw [ints_step (y := fun j => w j - s j) (z := w)] at st
    refine Loops.round st ?_ (sub_loop w s hw hs2 f (i + 1) (by omega))
    exact Ent.drop (by kernel_rfl) (by kernel_rfl) (by kernel_rfl) (by kernel_rfl) (by simp [All_cons, All_nil, Clo]; simp [Ids]) (by
      simp only [List.map, All_cons, All_nil, and_true]
      exact ⟨hb.clo _, (irow_bare _ _).clo _, (irow_bare _ _).clo _⟩)

theorem sizes_small (extent gap : Int) : ∃ (z : Nat → Int) (j : Nat) (h' : AHeap), SizesZ (fun j => effI (src j)) N (roomZ N extent gap) z ∧ 1 ≤ j ∧ h'.get 0 = some b ∧ h'.get j = some (IRow N z) ∧
    FDoes Try.prog 16 [.slice o N c, .int .i64 extent, .int .i64 gap] (AHeap.of [b]) (.slice (some ⟨j, 0, 0, 0, 1⟩) N N) h' := by
  have se := sideZ_range extent
  have sg := sideZ_range gap
  have pg := mul_range (b := (N : Int) - 1) (B := 4096) sg.1 sg.2 (by omega) (by omega)
  have hr := roomZ_range h1 extent gap
  have er : (if sideZ extent - sideZ gap * ((N : Int) - 1) > 0 then sideZ extent - sideZ gap * ((N : Int) - 1) else 0) = roomZ N extent gap := by unfold roomZ; split <;> omega
  have heff : ∀ j, RightIt (effI (src j)) := fun j => effI_right _
  have l := sz_loop hN hs hb hel hr N 0 (by omega)
  have hc : Clo (Ids [0, 22, 25, 27, 29]) (.slice o N c) := hs.clo (by simp [Ids])
  have pre : Ent 1 142 [(8, .int .i64 (roomZ N extent gap)), (9, .slice (some ⟨22, 0, 0, 0, 5⟩) N N), (10, .slice (some ⟨25, 0, 0, 0, 1⟩) N N), (11, .slice (some ⟨27, 0, 0, 0, 1⟩) N N), (12, .slice (some ⟨29, 0, 0, 0, 1⟩) N N), (43, .slice o N c), (44, .int .i64 N), (45, .int .i64 (0 : Nat))]
      (HS 36 N b (fun j => if j < 0 then effI (src j) else It0) (fun j => if j < 0 then (effI (src j)).mn else 0) (fun j => if j < 0 then wantZ (roomZ N extent gap) (effI (src j)) else 0) (fun j => if j < 0 then wantZ (roomZ N extent gap) (effI (src j)) - (effI (src j)).mn else 0))
      [(8, .int .i64 (roomZ N extent gap)), (9, .slice (some ⟨22, 0, 0, 0, 5⟩) N N), (10, .slice (some ⟨25, 0, 0, 0, 1⟩) N N), (11, .slice (some ⟨27, 0, 0, 0, 1⟩) N N), (12, .slice (some ⟨29, 0, 0, 0, 1⟩) N N), (43, .slice o N c), (44, .int .i64 N), (45, .int .i64 (0 : Nat))]
      (HS 40 N b (fun j => if j < 0 then effI (src j) else It0) (fun j => if j < 0 then (effI (src j)).mn else 0) (fun j => if j < 0 then wantZ (roomZ N extent gap) (effI (src j)) else 0) (fun j => if j < 0 then wantZ (roomZ N extent gap) (effI (src j)) - (effI (src j)).mn else 0)) :=
    Ent.drop (by kernel_rfl) (by kernel_rfl) (by kernel_rfl) (by kernel_rfl) (by simp only [List.map, All_cons, All_nil, and_true]; exact ⟨by simp [Clo], by simp [Clo, Ids], by simp [Clo, Ids], by simp [Clo, Ids], by simp [Clo, Ids], hc, by simp [Clo], by simp [Clo]⟩) (by
      simp only [List.map, All_cons, All_nil, and_true]
      exact ⟨hb.clo _, (irows_bare _ _).clo _, (irow_bare _ _).clo _, (irow_bare _ _).clo _, (irow_bare _ _).clo _⟩)
  have l := Runs.of_loops (Tri.pre l pre)
  have z0 : ∀ f : Nat → Int, IRow N (fun j => if j < 0 then f j else 0) = .made (List.replicate N (.int .i64 0)) 1 true := fun f => by rw [ints_zero]; show ABlk.made _ _ _ = _; rw [ints_congr (f := fun j => if j < 0 then f j else 0) (g := fun _ => 0) fun j _ => by simp]
  have zN : ∀ f : Nat → Int, IRow N (fun j => if j < N then f j else 0) = IRow N f := fun f => by show ABlk.made _ _ _ = _; rw [ints_congr fun j hj => by rw [if_pos hj]]
  have i0 : (ABlk.made (irows N fun j => if j < 0 then effI (src j) else It0) 5 true) = .made (List.replicate N It0.val) 5 true := by rw [irows_zero, irows_congr (f := fun j => if j < 0 then effI (src j) else It0) (g := fun _ => It0) fun j _ => by simp]
  have iN : (ABlk.made (irows N fun j => if j < N then effI (src j) else It0) 5 true) = .made (irows N fun j => effI (src j)) 5 true := by rw [irows_congr (f := fun j => if j < N then effI (src j) else It0) (g := fun j => effI (src j)) fun j hj => by simp [hj]]
  rw [zN, zN, zN, iN] at l
  unfold HS at l
  rw [z0, z0, z0, i0] at l
  generalize hroom : roomZ N extent gap = room at *
  generalize hE : (fun j => effI (src j)) = eff at *
  have heff' : ∀ j, RightIt (eff j) := fun j => by rw [← hE]; exact effI_right _
  have e1 : ∀ j, effI (src j) = eff j := fun j => by rw [← hE]
  simp only [e1] at l
  have hmn : ∀ j, j < N → 0 ≤ (eff j).mn ∧ (eff j).mn ≤ 2 ^ 25 := fun j _ => by have := (heff' j).mn; omega
  have hwt : ∀ j, (eff j).mn ≤ wantZ room (eff j) ∧ wantZ room (eff j) ≤ 2 ^ 22 := fun j => wantZ_range (heff' j) hr
  have sfit : ∀ f : Nat → Int, (∀ j, j < N → 0 ≤ f j ∧ f j ≤ 2 ^ 25) → ∀ j, j ≤ N → Fit64 (sumTo f j) := by
    intro f hf j hj
    have h1 : 0 ≤ sumTo f j := sumTo_ge0 fun i hi => (hf i (by omega)).1
    have h2 : sumTo f j ≤ j * 2 ^ 25 := sumTo_up fun i hi => (hf i (by omega)).2
    unfold Fit64; omega
  have hw25 : ∀ j, j < N → 0 ≤ wantZ room (eff j) ∧ wantZ room (eff j) ≤ 2 ^ 25 := fun j hj => by have := hmn j hj; have := hwt j; omega
  have ho25 : ∀ j, j < N → 0 ≤ wantZ room (eff j) - (eff j).mn ∧ wantZ room (eff j) - (eff j).mn ≤ 2 ^ 25 := fun j hj => by have := hmn j hj; have := hwt j; omega
  have sw : sumTo (fun j => wantZ room (eff j)) N ≤ N * 2 ^ 22 := sumTo_up fun j hj => (hwt j).2
  have sw0 : 0 ≤ sumTo (fun j => wantZ room (eff j)) N := sumTo_ge0 fun j hj => (hw25 j hj).1
  have smm := fun (K : Nat) (hk : (AHeap.rows K [(0, b), (22, .made (irows N eff) 5 true), (25, IRow N fun j => (eff j).mn), (27, IRow N fun j => wantZ room (eff j)), (29, IRow N fun j => wantZ room (eff j) - (eff j).mn)]).get 25 = some (IRow N fun j => (eff j).mn)) (hK : 25 < K) =>
    sum_does (o := some ⟨25, 0, 0, 0, 1⟩) (n := N) (c := N) (.inl rfl) (irow_bare N fun j => (eff j).mn) (x := fun j => (eff j).mn) (fun j hj => by rw [Nat.zero_add]; exact ints_el hj) (sfit _ hmn) (by omega) (H := AHeap.rows K [(0, b), (22, .made (irows N eff) 5 true), (25, IRow N fun j => (eff j).mn), (27, IRow N fun j => wantZ room (eff j)), (29, IRow N fun j => wantZ room (eff j) - (eff j).mn)]) hk (by rw [AHeap.rows_next]; exact hK)
  have smw := fun (K : Nat) (hk : (AHeap.rows K [(0, b), (22, .made (irows N eff) 5 true), (25, IRow N fun j => (eff j).mn), (27, IRow N fun j => wantZ room (eff j)), (29, IRow N fun j => wantZ room (eff j) - (eff j).mn)]).get 27 = some (IRow N fun j => wantZ room (eff j))) (hK : 27 < K) =>
    sum_does (o := some ⟨27, 0, 0, 0, 1⟩) (n := N) (c := N) (.inl rfl) (irow_bare N fun j => wantZ room (eff j)) (x := fun j => wantZ room (eff j)) (fun j hj => by rw [Nat.zero_add]; exact ints_el hj) (sfit _ hw25) (by omega) (H := AHeap.rows K [(0, b), (22, .made (irows N eff) 5 true), (25, IRow N fun j => (eff j).mn), (27, IRow N fun j => wantZ room (eff j)), (29, IRow N fun j => wantZ room (eff j) - (eff j).mn)]) hk (by rw [AHeap.rows_next]; exact hK)
  have sm0 : 0 ≤ sumTo (fun j => (eff j).mn) N := sumTo_ge0 fun j hj => (hmn j hj).1
  by_cases c1 : sumTo (fun j => (eff j).mn) N > room
  · obtain ⟨s, sh1, sh2⟩ := share_all (n := N) (by omega) (t := room) (by omega) hmn
    have u := sh2.upN (l := [IRow N fun j => (eff j).mn]) (l2 := [IRow N s]) (by simp; exact irow_bare _ _) (by simp; exact irow_bare _ _) (by simp [Clos, Clo]) (H := AHeap.rows 49 [(0, b), (22, .made (irows N eff) 5 true), (25, IRow N fun j => (eff j).mn), (27, IRow N fun j => wantZ room (eff j)), (29, IRow N fun j => wantZ room (eff j) - (eff j).mn)]) [25] (by simp) (by rw [AHeap.rows_next]; simp) (by kernel_rfl)
    exact ⟨s, 49, _, ⟨.inl ⟨c1, sh1⟩⟩, by omega, by kernel_rfl, by kernel_rfl,
      sz_least N c o b (irows N eff) _ _ _ [] (ints N s) extent gap room (sumTo (fun j => (eff j).mn) N) 0 (by omega) (by omega) (side_does _ _) (side_does _ _) (by omega) (by omega) (by omega) (by omega) (by omega) (by omega) (by omega) (by rw [er]; exact l) (smm 45 (by kernel_rfl) (by omega)) c1 (u.to (by kernel_rfl))⟩
  · by_cases c2 : sumTo (fun j => wantZ room (eff j)) N - room > 0
    · obtain ⟨s, sh1, sh2⟩ := share_all (n := N) (by omega) (t := sumTo (fun j => wantZ room (eff j)) N - room) (by omega) ho25
      have u := sh2.upN (l := [IRow N fun j => wantZ room (eff j) - (eff j).mn]) (l2 := [IRow N s]) (by simp; exact irow_bare _ _) (by simp; exact irow_bare _ _) (by simp [Clos, Clo]) (H := AHeap.rows 57 [(0, b), (22, .made (irows N eff) 5 true), (25, IRow N fun j => (eff j).mn), (27, IRow N fun j => wantZ room (eff j)), (29, IRow N fun j => wantZ room (eff j) - (eff j).mn)]) [29] (by simp) (by rw [AHeap.rows_next]; simp) (by kernel_rfl)
      have hsr : ∀ j, j < N → 0 ≤ s j ∧ s j ≤ 2 ^ 40 := by
        intro j hj
        rcases sh1 with ⟨_, h⟩ | ⟨ha, k, hk, hkn, tops⟩
        · rw [h j]; omega
        · have hq : 0 ≤ shareQ (sumTo (fun j => wantZ room (eff j)) N - room) (fun j => wantZ room (eff j) - (eff j).mn) N j := Int.ediv_nonneg (Int.mul_nonneg (by omega) (ho25 j hj).1) (by omega)
          have hq2 : shareQ (sumTo (fun j => wantZ room (eff j)) N - room) (fun j => wantZ room (eff j) - (eff j).mn) N j ≤ sumTo (fun j => wantZ room (eff j)) N - room := by
            have h3 : wantZ room (eff j) - (eff j).mn ≤ sumTo (fun j => wantZ room (eff j) - (eff j).mn) N := sumTo_le_one (f := fun j => wantZ room (eff j) - (eff j).mn) (fun i hi => (ho25 i hi).1) j hj
            have h4 : (sumTo (fun j => wantZ room (eff j)) N - room) * (wantZ room (eff j) - (eff j).mn) ≤ (sumTo (fun j => wantZ room (eff j)) N - room) * sumTo (fun j => wantZ room (eff j) - (eff j).mn) N := Int.mul_le_mul_of_nonneg_left h3 (by omega)
            have h5 := Int.ediv_le_ediv ha h4
            rwa [Int.mul_ediv_cancel _ (by omega)] at h5
          rcases tops.one j hj with e | ⟨e, _⟩ <;> omega
      have sl := sub_loop hN h1 hs hb hel (fun j => wantZ room (eff j)) s (fun j hj => by have := hw25 j hj; omega) hsr N 0 (by omega)
      have pre2 : Ent 1 142 [(11, .slice (some ⟨27, 0, 0, 0, 1⟩) N N), (121, .slice (some ⟨57, 0, 0, 0, 1⟩) N N), (122, .int .i64 N), (123, .int .i64 (0 : Nat))] (AHeap.rows 58 [(0, b), (22, .made (irows N eff) 5 true), (25, IRow N fun j => (eff j).mn), (27, .made (ints N fun j => if j < 0 then wantZ room (eff j) - s j else wantZ room (eff j)) 1 true), (29, IRow N fun j => wantZ room (eff j) - (eff j).mn), (57, .made (ints N s) 1 true)])
          [(11, .slice (some ⟨27, 0, 0, 0, 1⟩) N N), (121, .slice (some ⟨57, 0, 0, 0, 1⟩) N N), (122, .int .i64 N), (123, .int .i64 (0 : Nat))] (AHeap.rows 90 [(0, b), (27, .made (ints N fun j => if j < 0 then wantZ room (eff j) - s j else wantZ room (eff j)) 1 true), (57, .made (ints N s) 1 true)]) :=
        Ent.drop (by kernel_rfl) (by kernel_rfl) (by kernel_rfl) (by kernel_rfl) (by simp [All_cons, All_nil, Clo]; simp [Ids]) (by
          simp only [List.map, All_cons, All_nil, and_true]
          exact ⟨hb.clo _, (irow_bare _ _).clo _, (irow_bare _ _).clo _⟩)
      have sl := Runs.of_loops (Tri.pre sl pre2)
      rw [show (ints N fun j => if j < 0 then wantZ room (eff j) - s j else wantZ room (eff j)) = ints N fun j => wantZ room (eff j) from ints_congr fun j _ => by simp,
        show (ints N fun j => if j < N then wantZ room (eff j) - s j else wantZ room (eff j)) = ints N fun j => wantZ room (eff j) - s j from ints_congr fun j hj => by rw [if_pos hj]] at sl
      exact ⟨fun j => wantZ room (eff j) - s j, 27, _, ⟨.inr (.inl ⟨by omega, by omega, s, sh1, fun j _ => rfl⟩)⟩, by omega, by kernel_rfl, by kernel_rfl,
        sz_wants N c o b (irows N eff) _ _ _ (ints N fun j => wantZ room (eff j) - s j) (ints N s) extent gap room (sumTo (fun j => (eff j).mn) N) (sumTo (fun j => wantZ room (eff j)) N) (by omega) (by omega) (side_does _ _) (side_does _ _) (by omega) (by omega) (by omega) (by omega) (by omega) (by omega) (by omega) (by rw [er]; exact l) (smm 45 (by kernel_rfl) (by omega)) c1
          (smw 50 (by kernel_rfl) (by omega)) (by omega) c2 (u.to (by kernel_rfl)) sl⟩
    · have hy : ∀ j, j < N → 0 ≤ wantZ room (eff j) ∧ wantZ room (eff j) ≤ 4096 := fun j hj => by
        have := sumTo_le_one (f := fun j => wantZ room (eff j)) (fun i hi => (hw25 i hi).1) j hj
        have := hw25 j hj
        omega
      have hF : ∀ j, j < N → (eff j).k = 3 → FillIt (eff j) := fun j _ hk => (heff' j).fill hk
      have fin : ∀ (z : Nat → Int), FDoes Try.prog 42 (fillArgs N room) (AHeap.of [.made (irows N eff) 5 true, IRow N fun j => wantZ room (eff j)]) (.tuple []) (AHeap.of [.made (irows N eff) 5 true, IRow N z]) →
          ∃ h', h'.get 0 = some b ∧ h'.get 27 = some (IRow N z) ∧ FDoes Try.prog 16 [.slice o N c, .int .i64 extent, .int .i64 gap] (AHeap.of [b]) (.slice (some ⟨27, 0, 0, 0, 1⟩) N N) h' := by
        intro z k
        have u := k.upW (by simp; exact ⟨irows_bare _ _, irow_bare _ _⟩) (by simp; exact ⟨irows_bare _ _, irow_bare _ _⟩) (by simp) (by simp [Clos, Clo]) (H := AHeap.rows 56 [(0, b), (22, .made (irows N eff) 5 true), (25, IRow N fun j => (eff j).mn), (27, IRow N fun j => wantZ room (eff j)), (29, IRow N fun j => wantZ room (eff j) - (eff j).mn)]) [22, 27] (by simp) (by rw [AHeap.rows_next]; simp) (by kernel_rfl)
        exact ⟨_, by kernel_rfl, by kernel_rfl, sz_fills N c o b (irows N eff) _ _ _ (ints N z) [] extent gap room (sumTo (fun j => (eff j).mn) N) (sumTo (fun j => wantZ room (eff j)) N) (by omega) (by omega) (side_does _ _) (side_does _ _) (by omega) (by omega) (by omega) (by omega) (by omega) (by omega) (by omega) (by rw [er]; exact l) (smm 45 (by kernel_rfl) (by omega)) c1
          (smw 50 (by kernel_rfl) (by omega)) (by omega) c2 (u.to (by kernel_rfl))⟩
      by_cases c3 : bndAt eff N = true ∧ mostAt eff N ≤ restAt eff (fun j => wantZ room (eff j)) room N
      · obtain ⟨h', g0, g27, k⟩ := fin _ (fill_most (by omega) hF hy hr c3.1 c3.2)
        exact ⟨_, 27, h', ⟨.inr (.inr ⟨by omega, by omega, .inl ⟨c3.1, c3.2, fun j _ => rfl⟩⟩)⟩, by omega, g0, g27, k⟩
      · have inv := fill_inv heff' hr (N := N) (by omega) c3
        obtain ⟨z, hz, k⟩ := fill_more (by omega) hF hy hr c3 inv
        obtain ⟨h', g0, g27, k⟩ := fin z k
        exact ⟨z, 27, h', ⟨.inr (.inr ⟨by omega, by omega, .inr ⟨c3, inv, hz⟩⟩)⟩, by omega, g0, g27, k⟩
end

/-- Sizes, in every memory -/
theorem sizes_does {H : AHeap} {o : Option AAddr} {n c id ver off : Nat} {b : ABlk} {src : Nat → It} (hi : ItemsAt H o n c id ver off b src) (h1 : 1 ≤ n) (hn : n ≤ 4096) (extent gap : Int) :
    ∃ z, SizesZ (fun j => effI (src j)) n (roomZ n extent gap) z ∧ FDoes Try.prog 16 [.slice o n c, .int .i64 extent, .int .i64 gap] H (.slice (some ⟨H.next, 0, 0, 0, 1⟩) n n) (H.upd [] [IRow n z]) := by
  have s0 := hi.sl.at 0
  obtain ⟨z, j, h', hz, hj, g0, gj, k⟩ := sizes_small hn h1 s0 hi.bare hi.el extent gap
  refine ⟨z, hz, ?_⟩
  have := k.new1 (bn := IRow n z) (by simp [hi.bare]) (irow_bare _ _) (by simp [List.range_succ, g0]) gj (by simpa using hj) (by simp [Clos, Clo, s0.clo]) (H := H) [id] (by simp) (by simp [hi.lt]) (by simp [hi.get])
  simpa [hi.sl.back (id' := 0) (r := toBig [id] H.next) rfl, AVal.ren] using this

theorem sizes_nil {H : AHeap} {o : Option AAddr} {n c id ver off : Nat} {b : ABlk} {src : Nat → It} (hi : ItemsAt H o n c id ver off b src) (hn : n = 0 ∨ 4096 < n) (extent gap : Int) :
    FDoes Try.prog 16 [.slice o n c, .int .i64 extent, .int .i64 gap] H (.slice none 0 0) H := by
  have s0 := hi.sl.at 0
  have fin : ∀ (h' : AHeap), FDoes Try.prog 16 [.slice (o.map fun a => { a with id := 0 }) n c, .int .i64 extent, .int .i64 gap] (AHeap.of [b]) (.slice none 0 0) h' → h'.get 0 = some b → FDoes Try.prog 16 [.slice o n c, .int .i64 extent, .int .i64 gap] H (.slice none 0 0) H := by
    intro h' k g0
    have := k.pure (by simp [hi.bare]) (by simp [List.range_succ, g0]) ⟨fun _ => rfl, by simp [Clo]⟩ (by simp [Clos, Clo, s0.clo]) (H := H) [id] (by simp) (by simp [hi.lt]) (by simp [hi.get])
    simpa [hi.sl.back (id' := 0) (r := toBig [id] H.next) rfl, AVal.ren] using this
  by_cases c0 : n = 0
  · exact fin _ (sz_nil1 n c _ b extent gap (by omega)) (by kernel_rfl)
  · exact fin _ (sz_nil2 n c _ b extent gap (by omega) (by omega)) (by kernel_rfl)
end Go.Proofs.Ytgfkllnaeekjeaa

namespace Go.Proofs.Ytgfkllnaeekjeaa
open Go.Lift
set_option maxRecDepth 1000000
set_option linter.unusedSimpArgs false
set_option linter.unusedVariables false
set_option linter.unusedSectionVars false

theorem share_law {n : Nat} {t : Int} {w z : Nat → Int} (hw : ∀ j, j < n → 0 ≤ w j) (ht : 0 ≤ t) (hle : t ≤ sumTo w n) (h : ShareZ n t w z) : sumTo z n = t ∧ (∀ j, j < n → 0 ≤ z j ∧ z j ≤ w j) ∧ (∀ i k, i < n → k < n → w i = w k → z i ≤ z k + 1) := by
  rcases h with ⟨h0, hz⟩ | ⟨ha, k, hk, _, tp⟩
  · refine ⟨?_, fun j hj => by rw [hz]; have := hw j hj; omega, fun i k _ _ _ => by rw [hz, hz]; omega⟩
    have : sumTo z n = sumTo (fun _ => 0) n := sumTo_same fun j _ => hz j
    rw [this, sumTo_sumL, sumL_const]; omega
  · have q : ∀ j, j < n → 0 ≤ shareQ t w n j ∧ shareQ t w n j ≤ w j ∧ (0 < shareR t w n j → shareQ t w n j < w j) := by
      intro j hj
      have h1 := hw j hj
      have h2 : t * w j ≤ sumTo w n * w j := Int.mul_le_mul_of_nonneg_right hle h1
      have h3 := Int.ediv_le_ediv ha h2
      rw [Int.mul_ediv_cancel_left _ (by omega)] at h3
      refine ⟨Int.ediv_nonneg (Int.mul_nonneg ht h1) (by omega), h3, fun hr => ?_⟩
      rcases Int.lt_or_le (shareQ t w n j) (w j) with c | c
      · exact c
      · exfalso
        have e := Int.mul_ediv_add_emod (t * w j) (sumTo w n)
        have : t * w j / sumTo w n = w j := Int.le_antisymm h3 c
        rw [this] at e
        have : t * w j % sumTo w n = shareR t w n j := rfl
        omega
    refine ⟨?_, ?_, ?_⟩
    · have := tp.sum
      rw [← sumTo_sumL, ← sumTo_sumL] at this
      omega
    · intro j hj
      obtain ⟨q1, q2, q3⟩ := q j hj
      rcases tp.one j hj with e | ⟨e, e2⟩
      · omega
      · have := q3 e2; omega
    · intro i k' hi hk' e
      have e1 : shareQ t w n i = shareQ t w n k' := by unfold shareQ; rw [e]
      rcases tp.one i hi with a | ⟨a, _⟩ <;> rcases tp.one k' hk' with b | ⟨b, _⟩ <;> omega

theorem intoZ_top {mn mx x : Int} (h : 0 < mx) (hm : mn ≤ mx) : intoZ mn mx x ≤ mx := by
  unfold intoZ; rw [if_pos h]; omega

theorem wantZ_top {t : It} (h : RightIt t) (room : Int) (hmx : 0 < t.mx) : wantZ room t ≤ t.mx := by
  have h2 := h.mx
  unfold wantZ
  split
  · exact intoZ_top hmx (by omega)
  · split
    · omega
    · exact intoZ_top hmx (by omega)

theorem sumTo_mono {f g : Nat → Int} : ∀ {n : Nat}, (∀ j, j < n → f j ≤ g j) → sumTo f n ≤ sumTo g n
  | 0, _ => by simp [sumTo]
  | n + 1, h => by
    simp only [sumTo]
    have := sumTo_mono (n := n) fun j hj => h j (by omega)
    have := h n (by omega)
    omega
theorem sumTo_sub (f g : Nat → Int) : ∀ n, sumTo (fun j => f j - g j) n = sumTo f n - sumTo g n
  | 0 => by simp [sumTo]
  | n + 1 => by simp only [sumTo]; rw [sumTo_sub f g n]; omega

/-- what those that are no fills want, together -/
def otherW (eff : Nat → It) (room : Int) (N : Nat) : Int := sumL (fun j => wantZ room (eff j)) ((List.range N).filter fun j => !isF eff j)

section
variable {eff : Nat → It} (heff : ∀ j, RightIt (eff j)) {N : Nat} {room : Int} (hr : 0 ≤ room ∧ room ≤ 4096) {z : Nat → Int} (h : SizesZ eff N room z)
include heff hr

theorem wants_split : sumTo (fun j => wantZ room (eff j)) N = sumL (fun j => (eff j).mn) (opn eff N) + otherW eff room N := by
  rw [sumTo_sumL, sumL_filter _ (isF eff)]
  congr 1
  exact sumL_congr fun j hj => by
    have hk : (eff j).k = 3 := (opn_mem.1 (show j ∈ opn eff N from hj)).2
    show wantZ room (eff j) = (eff j).mn
    unfold wantZ
    rw [if_neg (by omega), if_pos hk]

theorem least_wants : sumTo (fun j => (eff j).mn) N ≤ sumTo (fun j => wantZ room (eff j)) N := sumTo_mono fun j _ => (wantZ_range (heff j) hr).1

include h

/-- the sum: the room, or what all want with the fills at their greatest -/
theorem sizes_sum : (sumTo z N = room ∨ (bndAt eff N = true ∧ sumTo z N = mostAt eff N + otherW eff room N ∧ sumTo z N ≤ room ∧ (∀ j, j < N → z j = if j ∈ opn eff N then (eff j).mx else wantZ room (eff j)) ∧ sumTo (fun j => (eff j).mn) N ≤ room)) ∧
    (bndAt eff N = true → sumTo z N ≤ mostAt eff N + otherW eff room N) ∧ (room < sumTo (fun j => (eff j).mn) N → sumTo z N = room) := by
  have hmn : ∀ j, j < N → 0 ≤ (eff j).mn := fun j _ => (heff j).mn.1
  have hov : ∀ j, j < N → 0 ≤ wantZ room (eff j) - (eff j).mn := fun j _ => by have := (wantZ_range (heff j) hr).1; omega
  have mm : bndAt eff N = true → sumL (fun j => (eff j).mn) (opn eff N) ≤ mostAt eff N := fun hb => sumL_le fun j hj => by
    have h1 := List.all_eq_true.1 hb j hj
    simp only [decide_eq_true_eq] at h1
    have := (heff j).mx
    omega
  have ws := wants_split heff hr (N := N)
  have lw := least_wants heff hr (N := N)
  rcases h.cases with ⟨c, sh⟩ | ⟨c1, c2, s, sh, hz⟩ | ⟨c1, c2, ⟨b1, b2, hz⟩ | ⟨b1, inv, fl⟩⟩
  · have := (share_law hmn hr.1 (by omega) sh).1
    exact ⟨.inl this, fun hb => by have := mm hb; omega, fun _ => this⟩
  · have e := sumTo_sub (fun j => wantZ room (eff j)) (fun j => (eff j).mn) N
    have := (share_law hov (by omega) (by rw [e]; omega) sh).1
    have e2 : sumTo z N = sumTo (fun j => wantZ room (eff j) - s j) N := sumTo_same hz
    rw [sumTo_sub] at e2
    exact ⟨.inl (by omega), fun hb => by have := mm hb; omega, fun _ => by omega⟩
  · have e : sumTo z N = mostAt eff N + otherW eff room N := by
      rw [sumTo_sumL, sumL_filter _ (isF eff)]
      congr 1
      · exact sumL_congr fun j hj => by
          have hj' : j ∈ opn eff N := hj
          rw [hz j (opn_mem.1 hj').1, if_pos hj']
      · exact sumL_congr fun j hj => by
          have h1 := List.mem_filter.1 hj
          rw [hz j (List.mem_range.1 h1.1), if_neg fun hj' => by
            have := (opn_mem.1 hj').2
            simp [isF, this] at h1]
    unfold restAt at b2
    exact ⟨.inr ⟨b1, e, by rw [e]; show _ + sumL _ _ ≤ _; omega, hz, c1⟩, fun _ => by omega, fun _ => by omega⟩
  · have fl1 := (fl.law inv).1
    have e : sumTo z N = restAt eff (fun j => wantZ room (eff j)) room N + otherW eff room N := by
      rw [sumTo_sumL, sumL_filter _ (isF eff)]
      congr 1
      exact sumL_congr fun j hj => fl.out j fun hj' => by
        have h1 := List.mem_filter.1 hj
        have := (opn_mem.1 hj').2
        simp [isF, this] at h1
    have e2 : sumTo z N = room := by
      rw [e]; unfold restAt otherW; omega
    refine ⟨.inl e2, fun hb => ?_, fun _ => e2⟩
    have : ¬ mostAt eff N ≤ restAt eff (fun j => wantZ room (eff j)) room N := fun k => b1 ⟨hb, k⟩
    omega

/-- each is within its bounds -/
theorem sizes_one : ∀ j, j < N → 0 ≤ z j ∧ (0 < (eff j).mx → z j ≤ (eff j).mx) ∧ (sumTo (fun j => (eff j).mn) N ≤ room → (eff j).mn ≤ z j) ∧ (room < sumTo (fun j => (eff j).mn) N → z j ≤ (eff j).mn) := by
  intro j hj
  have hmn : ∀ j, j < N → 0 ≤ (eff j).mn := fun j _ => (heff j).mn.1
  have hov : ∀ j, j < N → 0 ≤ wantZ room (eff j) - (eff j).mn := fun j _ => by have := (wantZ_range (heff j) hr).1; omega
  have m0 := hmn j hj
  have w0 := (wantZ_range (heff j) hr).1
  have mx0 := (heff j).mx
  have wt := wantZ_top (heff j) room
  rcases h.cases with ⟨c, sh⟩ | ⟨c1, c2, s, sh, hz⟩ | ⟨c1, c2, ⟨b1, b2, hz⟩ | ⟨b1, inv, fl⟩⟩
  · have := (share_law hmn hr.1 (by omega) sh).2.1 j hj
    exact ⟨this.1, fun _ => by omega, fun _ => by omega, fun _ => this.2⟩
  · have e := sumTo_sub (fun j => wantZ room (eff j)) (fun j => (eff j).mn) N
    have := (share_law hov (by omega) (by rw [e]; omega) sh).2.1 j hj
    have := hz j hj
    exact ⟨by omega, fun hm => by have := wt hm; omega, fun _ => by omega, fun _ => by omega⟩
  · have e := hz j hj
    by_cases c : j ∈ opn eff N
    · rw [if_pos c] at e
      have h1 := List.all_eq_true.1 b1 j c
      simp only [decide_eq_true_eq] at h1
      exact ⟨by omega, fun _ => by omega, fun _ => by omega, fun _ => by omega⟩
    · rw [if_neg c] at e
      exact ⟨by omega, fun hm => by have := wt hm; omega, fun _ => by omega, fun _ => by omega⟩
  · by_cases c : j ∈ opn eff N
    · have := (fl.law inv).2.1 j c
      have : (eff j).mn ≤ z j ∧ z j ≤ boundZ (eff j).mx := this
      refine ⟨by omega, fun hm => ?_, fun _ => by omega, fun _ => by omega⟩
      have e : boundZ (eff j).mx = (eff j).mx := by unfold boundZ; rw [if_pos hm]
      omega
    · have e : z j = wantZ room (eff j) := fl.out j c
      exact ⟨by omega, fun hm => by have := wt hm; omega, fun _ => by omega, fun _ => by omega⟩

/-- alike is alike, but for 1 -/
theorem sizes_order {i k : Nat} (hi : i < N) (hk : k < N) (hmn : (eff i).mn = (eff k).mn)
    (ha : eff i = eff k ∨ ((eff i).k = 3 ∧ (eff k).k = 3 ∧ (eff i).mx = (eff k).mx ∧ (eff k).n ≤ (eff i).n)) : z k ≤ z i + 1 := by
  have hm0 : ∀ j, j < N → 0 ≤ (eff j).mn := fun j _ => (heff j).mn.1
  have hov : ∀ j, j < N → 0 ≤ wantZ room (eff j) - (eff j).mn := fun j _ => by have := (wantZ_range (heff j) hr).1; omega
  have hfw : ∀ j, (eff j).k = 3 → wantZ room (eff j) = (eff j).mn := fun j h => by unfold wantZ; rw [if_neg (by omega), if_pos h]
  have hwt : wantZ room (eff i) = wantZ room (eff k) := by
    rcases ha with e | ⟨e1, e2, e3, e4⟩
    · rw [e]
    · rw [hfw _ e1, hfw _ e2, hmn]
  rcases h.cases with ⟨c, sh⟩ | ⟨c1, c2, s, sh, hz⟩ | ⟨c1, c2, ⟨b1, b2, hz⟩ | ⟨b1, inv, fl⟩⟩
  · exact (share_law hm0 hr.1 (by omega) sh).2.2 k i hk hi hmn.symm
  · have e := sumTo_sub (fun j => wantZ room (eff j)) (fun j => (eff j).mn) N
    have := (share_law hov (by omega) (by rw [e]; omega) sh).2.2 i k hi hk (by rw [hwt, hmn])
    have e1 := hz i hi
    have e2 := hz k hk
    omega
  · have e1 := hz i hi
    have e2 := hz k hk
    have hkk : (eff i).k = (eff k).k := by rcases ha with e | ⟨e1, e2, _⟩; rw [e]; rw [e1, e2]
    by_cases c : i ∈ opn eff N
    · have c' : k ∈ opn eff N := opn_mem.2 ⟨hk, by rw [← hkk]; exact (opn_mem.1 c).2⟩
      rw [if_pos c] at e1
      rw [if_pos c'] at e2
      have : (eff i).mx = (eff k).mx := by rcases ha with e | ⟨_, _, e, _⟩; rw [e]; exact e
      omega
    · have c' : k ∉ opn eff N := fun h => c (opn_mem.2 ⟨hi, by rw [hkk]; exact (opn_mem.1 h).2⟩)
      rw [if_neg c] at e1
      rw [if_neg c'] at e2
      omega
  · have hkk : (eff i).k = (eff k).k := by rcases ha with e | ⟨e1, e2, _⟩; rw [e]; rw [e1, e2]
    by_cases c : i ∈ opn eff N
    · have c' : k ∈ opn eff N := opn_mem.2 ⟨hk, by rw [← hkk]; exact (opn_mem.1 c).2⟩
      refine (fl.law inv).2.2 i c k c' hmn ?_ ?_
      · show boundZ (eff i).mx = boundZ (eff k).mx
        rcases ha with e | ⟨_, _, e, _⟩ <;> rw [e]
      · show (eff k).n ≤ (eff i).n
        rcases ha with e | ⟨_, _, _, e⟩
        · rw [e]; exact Int.le_refl _
        · exact e
    · have c' : k ∉ opn eff N := fun h => c (opn_mem.2 ⟨hi, by rw [hkk]; exact (opn_mem.1 h).2⟩)
      have e1 := fl.out i c
      have e2 := fl.out k c'
      have e1 : z i = wantZ room (eff i) := e1
      have e2 : z k = wantZ room (eff k) := e2
      omega
end

end Go.Proofs.Ytgfkllnaeekjeaa

namespace Go.Lift
noncomputable section
set_option linter.unusedVariables false
set_option linter.unusedSimpArgs false

section
variable {β : Type}

def fNat (n : Nat) (k : Nat → β) : β := Nat.rec (motive := fun _ => β) (k 0) (fun m _ => k (Nat.succ m)) n
theorem fNat_eq (n : Nat) (k : Nat → β) : fNat n k = k n := by cases n <;> rfl

def fInt (n : Int) (k : Int → β) : β :=
  match n with
  | .ofNat m => fNat m fun m => k (.ofNat m)
  | .negSucc m => fNat m fun m => k (.negSucc m)
theorem fInt_eq (n : Int) (k : Int → β) : fInt n k = k n := by cases n <;> simp [fInt, fNat_eq]

def fKind (d : IntKind) (k : IntKind → β) : β :=
  match d with
  | .i8 => k .i8 | .i16 => k .i16 | .i32 => k .i32 | .i64 => k .i64 | .u8 => k .u8 | .u16 => k .u16 | .u32 => k .u32 | .u64 => k .u64
theorem fKind_eq (d : IntKind) (k : IntKind → β) : fKind d k = k d := by cases d <;> rfl

def fBool (b : Bool) (k : Bool → β) : β :=
  match b with
  | true => k true
  | false => k false
theorem fBool_eq (b : Bool) (k : Bool → β) : fBool b k = k b := by cases b <;> rfl

def fAddr (a : AAddr) (k : AAddr → β) : β :=
  match a with
  | ⟨a, b, c, d, e⟩ => fNat a fun a => fNat b fun b => fNat c fun c => fNat d fun d => fNat e fun e => k ⟨a, b, c, d, e⟩
theorem fAddr_eq (a : AAddr) (k : AAddr → β) : fAddr a k = k a := by cases a; simp [fAddr, fNat_eq]

def fByte (b : UInt8) (k : UInt8 → β) : β :=
  match b with
  | ⟨⟨⟨n, h⟩⟩⟩ => fNat n fun m => k (UInt8.ofNat m)
theorem fByte_eq (b : UInt8) (k : UInt8 → β) : fByte b k = k b := by
  obtain ⟨⟨⟨n, h⟩⟩⟩ := b
  simp only [fByte, fNat_eq]
  congr 1
  apply UInt8.toNat_inj.1
  simp [UInt8.toNat, UInt8.ofNat]
  omega

def fBytes : List UInt8 → (List UInt8 → β) → β
  | [], k => k []
  | b :: r, k => fByte b fun b => fBytes r fun r => k (b :: r)
theorem fBytes_eq : ∀ (l : List UInt8) (k : List UInt8 → β), fBytes l k = k l
  | [], k => rfl
  | b :: r, k => by simp only [fBytes, fByte_eq, fBytes_eq r]

/-- a value without parts -/
def fS (v : AVal) (k : AVal → β) : β :=
  match v with
  | .undef => k .undef
  | .bool b => fBool b fun b => k (.bool b)
  | .int d n => fKind d fun d => fInt n fun n => k (.int d n)
  | .str s => fBytes s fun s => k (.str s)
  | .ptr none => k (.ptr none)
  | .ptr (some a) => fAddr a fun a => k (.ptr (some a))
  | .slice none n c => fNat n fun n => fNat c fun c => k (.slice none n c)
  | .slice (some a) n c => fAddr a fun a => fNat n fun n => fNat c fun c => k (.slice (some a) n c)
  | .nilFunc => k .nilFunc
  | .nilIface => k .nilIface
  | .func a b c => k (.func a b c)
  | .iface t v => k (.iface t v)
  | .agg l => k (.agg l)
  | .tuple l => k (.tuple l)
theorem fS_eq (v : AVal) (k : AVal → β) : fS v k = k v := by
  cases v with
  | ptr o => cases o <;> simp [fS, fAddr_eq]
  | slice o n c => cases o <;> simp [fS, fAddr_eq, fNat_eq]
  | _ => simp [fS, fBool_eq, fKind_eq, fInt_eq, fBytes_eq]

def fSs : List AVal → (List AVal → β) → β
  | [], k => k []
  | a :: r, k => fS a fun a => fSs r fun r => k (a :: r)
theorem fSs_eq : ∀ (l : List AVal) (k : List AVal → β), fSs l k = k l
  | [], k => rfl
  | a :: r, k => by simp only [fSs, fS_eq, fSs_eq r]

/-- parts of one layer -/
def fV1 (v : AVal) (k : AVal → β) : β :=
  match v with
  | .agg l => fSs l fun l => k (.agg l)
  | .iface t v => fNat t fun t => fS v fun v => k (.iface t v)
  | .func a b c => fSs b fun b => fSs c fun c => k (.func a b c)
  | .tuple l => fSs l fun l => k (.tuple l)
  | v => fS v k
theorem fV1_eq (v : AVal) (k : AVal → β) : fV1 v k = k v := by
  unfold fV1; split <;> simp [fS_eq, fSs_eq, fNat_eq]

def fV1s : List AVal → (List AVal → β) → β
  | [], k => k []
  | a :: r, k => fV1 a fun a => fV1s r fun r => k (a :: r)
theorem fV1s_eq : ∀ (l : List AVal) (k : List AVal → β), fV1s l k = k l
  | [], k => rfl
  | a :: r, k => by simp only [fV1s, fV1_eq, fV1s_eq r]

def fV (v : AVal) (k : AVal → β) : β :=
  match v with
  | .tuple l => fV1s l fun l => k (.tuple l)
  | .iface t v => fNat t fun t => fV1 v fun v => k (.iface t v)
  | v => fV1 v k
theorem fV_eq (v : AVal) (k : AVal → β) : fV v k = k v := by
  unfold fV; split <;> simp [fV1_eq, fV1s_eq, fNat_eq]

def fVs : List AVal → (List AVal → β) → β
  | [], k => k []
  | a :: r, k => fV a fun a => fVs r fun r => k (a :: r)
def fBlk (b : ABlk) (k : ABlk → β) : β :=
  match b with
  | ⟨l, es, ex, ro, v, m, f⟩ => fV1s l fun l => fNat es fun es => fBool ex fun ex => fBool ro fun ro => fNat v fun v => fNat m fun m => fNat f fun f => k ⟨l, es, ex, ro, v, m, f⟩
theorem fBlk_eq (b : ABlk) (k : ABlk → β) : fBlk b k = k b := by cases b; simp [fBlk, fV1s_eq, fNat_eq, fBool_eq]


/-! slots: a tree -/

def toL (n : Nat) (t : Trie AVal) : List AVal := (List.range n).map fun i => (t.get i).getD skipped

theorem toL_get (n : Nat) (t : Trie AVal) (i : Nat) : (toL n t)[i]? = if i < n then some ((t.get i).getD skipped) else none := by
  simp only [toL, List.getElem?_map]
  by_cases h : i < n
  · rw [List.getElem?_range h, if_pos h]; rfl
  · rw [List.getElem?_eq_none (by simpa using h), if_neg h]; rfl

def tget (n : Nat) (t : Trie AVal) (i : Nat) : Option AVal := cond (Nat.blt i n) (some (Option.rec (motive := fun _ => AVal) skipped (fun v => v) (t.get i))) none
theorem tget_eq (n : Nat) (t : Trie AVal) (i : Nat) : tget n t i = (toL n t)[i]? := by
  rw [toL_get]; unfold tget
  by_cases h : i < n
  · rw [show Nat.blt i n = true by simpa [Nat.blt_eq] using h, if_pos h]; cases t.get i <;> rfl
  · rw [show Nat.blt i n = false by cases hb : Nat.blt i n with | false => rfl | true => exact absurd (Nat.blt_eq.mp hb) h, if_neg h]; rfl

def agetT (n : Nat) (t : Trie AVal) (o : Operand) : AVal :=
  match o with
  | .tmp i => cond (Nat.blt i n) (Option.rec (motive := fun _ => AVal) skipped (fun v => v) (t.get i)) .undef
  | .const v => ofConst v
  | .global _ => .undef
  | .func f => .func (.func f) [] []
theorem agetT_eq (n : Nat) (t : Trie AVal) : agetT n t = agetOp (toL n t) := by
  funext o
  cases o with
  | tmp i =>
    have := tget_eq n t i
    simp only [agetOp, List.getD_eq_getElem?_getD, ← this]
    unfold tget
    show cond (Nat.blt i n) (Option.rec (motive := fun _ => AVal) skipped (fun v => v) (t.get i)) .undef = _
    cases Nat.blt i n <;> rfl
  | const v => rfl
  | global g => rfl
  | func f => rfl

theorem toL_set (n : Nat) (t : Trie AVal) (d : Nat) (v : AVal) : toL n (t.set d v) = (toL n t).set d v := by
  apply List.ext_getElem?
  intro i
  rw [toL_get, List.getElem?_set, toL_get]
  by_cases h : i < n
  · simp only [h, if_true, Trie.get_set]
    by_cases hd : d = i
    · subst hd; simp [toL, h]
    · simp [hd]
  · simp only [h, if_false]
    by_cases hd : d = i
    · subst hd; simp [toL, h]
    · simp [hd]

section
variable {α : Type}
def fSing (f : Nat) : Nat → α → (Trie α → β) → β :=
  Nat.rec (motive := fun _ => Nat → α → (Trie α → β) → β) (fun _ v c => c (.node (some v) .nil .nil))
    (fun _ ih k v c => cond (Nat.beq k 0) (c (.node (some v) .nil .nil)) (cond (Nat.beq (Nat.mod k 2) 1) (ih (Nat.div k 2) v fun u => c (.node none u .nil)) (ih (Nat.sub (Nat.div k 2) 1) v fun u => c (.node none .nil u)))) f
theorem fSing_eq : ∀ (f k : Nat) (v : α) (c : Trie α → β), fSing f k v c = c (Trie.sing f k v)
  | 0, k, v, c => rfl
  | f + 1, k, v, c => by
    show cond (Nat.beq k 0) (c (.node (some v) .nil .nil)) (cond (Nat.beq (k % 2) 1) (fSing f (k / 2) v fun u => c (.node none u .nil)) (fSing f (k / 2 - 1) v fun u => c (.node none .nil u))) =
      c (cond (Nat.beq k 0) (.node (some v) .nil .nil) (cond (Nat.beq (k % 2) 1) (.node none (Trie.sing f (k / 2) v) .nil) (.node none .nil (Trie.sing f (k / 2 - 1) v))))
    rw [fSing_eq f, fSing_eq f]
    cases Nat.beq k 0 <;> cases Nat.beq (k % 2) 1 <;> rfl

def fSetT (t : Trie α) : Nat → α → (Trie α → β) → β :=
  Trie.rec (motive := fun _ => Nat → α → (Trie α → β) → β) (fun k v c => fSing k k v c)
    (fun o l r sl sr k v c => cond (Nat.beq k 0) (c (.node (some v) l r)) (cond (Nat.beq (Nat.mod k 2) 1) (sl (Nat.div k 2) v fun u => c (.node o u r)) (sr (Nat.sub (Nat.div k 2) 1) v fun u => c (.node o l u)))) t
theorem fSetT_eq : ∀ (t : Trie α) (k : Nat) (v : α) (c : Trie α → β), fSetT t k v c = c (t.set k v)
  | .nil, k, v, c => fSing_eq k k v c
  | .node o l r, k, v, c => by
    show cond (Nat.beq k 0) (c (.node (some v) l r)) (cond (Nat.beq (k % 2) 1) (fSetT l (k / 2) v fun u => c (.node o u r)) (fSetT r (k / 2 - 1) v fun u => c (.node o l u))) =
      c (cond (Nat.beq k 0) (.node (some v) l r) (cond (Nat.beq (k % 2) 1) (.node o (l.set (k / 2) v) r) (.node o l (r.set (k / 2 - 1) v))))
    rw [fSetT_eq l, fSetT_eq r]
    cases Nat.beq k 0 <;> cases Nat.beq (k % 2) 1 <;> rfl

/-- the way down to a key, and what lies there, worked out -/
def fAt (f : α → (α → β) → β) (t : Trie α) : Nat → (Trie α → β) → β :=
  Trie.rec (motive := fun _ => Nat → (Trie α → β) → β) (fun _ c => c .nil)
    (fun o l r fl fr k c => cond (Nat.beq k 0) (Option.rec (motive := fun _ => β) (c (.node none l r)) (fun b => f b fun b => c (.node (some b) l r)) o) (cond (Nat.beq (Nat.mod k 2) 1) (fl (Nat.div k 2) fun u => c (.node o u r)) (fr (Nat.sub (Nat.div k 2) 1) fun u => c (.node o l u)))) t
theorem fAt_eq {f : α → (α → β) → β} (hf : ∀ a k, f a k = k a) : ∀ (t : Trie α) (k : Nat) (c : Trie α → β), fAt f t k c = c t
  | .nil, k, c => rfl
  | .node o l r, k, c => by
    show cond (Nat.beq k 0) (Option.rec (motive := fun _ => β) (c (.node none l r)) (fun b => f b fun b => c (.node (some b) l r)) o) (cond (Nat.beq (k % 2) 1) (fAt f l (k / 2) fun u => c (.node o u r)) (fAt f r (k / 2 - 1) fun u => c (.node o l u))) = _
    rw [fAt_eq hf l, fAt_eq hf r]
    cases o <;> cases Nat.beq k 0 <;> cases Nat.beq (k % 2) 1 <;> simp [hf]
end

def fPut (s : Trie AVal) (d : Option Tmp) (v : AVal) (k : Trie AVal → β) : β := Option.rec (motive := fun _ => β) (k s) (fun d => fSetT s d v k) d
theorem fPut_eq (n : Nat) (s : Trie AVal) (d : Option Tmp) (v : AVal) (k : Trie AVal → β) : fPut s d v k = k (Option.rec (motive := fun _ => Trie AVal) s (fun d => s.set d v) d) := by cases d <;> simp [fPut, fSetT_eq]
theorem toL_put (n : Nat) (s : Trie AVal) (d : Option Tmp) (v : AVal) : toL n (Option.rec (motive := fun _ => Trie AVal) s (fun d => s.set d v) d) = aput (toL n s) d v := by cases d <;> simp [aput, toL_set]

def fHeapTo (id : Nat) (h : AHeap) (k : AHeap → β) : β :=
  match h with
  | ⟨n, l⟩ => fAt fBlk l id fun l => k ⟨n, l⟩
theorem fHeapTo_eq (id : Nat) (h : AHeap) (k : AHeap → β) : fHeapTo id h k = k h := by cases h; simp [fHeapTo, fAt_eq fBlk_eq]

def fHeap (h : AHeap) (k : AHeap → β) : β :=
  match h with
  | ⟨n, l⟩ => fNat n fun n => k ⟨n, l⟩
theorem fHeap_eq (h : AHeap) (k : AHeap → β) : fHeap h k = k h := by cases h; simp [fHeap, fNat_eq]

/-- a part of memory worked out -/
inductive Turns where
  | no | at (id : Nat) | all

def fTurn (t : Turns) (h : AHeap) (k : AHeap → β) : β :=
  match t with
  | .no => k h
  | .at id => fHeapTo id h k
  | .all => fHeap h k
theorem fTurn_eq (t : Turns) (h : AHeap) (k : AHeap → β) : fTurn t h k = k h := by cases t <;> simp [fTurn, fHeapTo_eq, fHeap_eq]

/-- the head alone -/
def fW (v : AVal) (k : AVal → β) : β :=
  match v with
  | .undef => k .undef
  | .bool b => k (.bool b)
  | .int d n => k (.int d n)
  | .str s => k (.str s)
  | .ptr a => k (.ptr a)
  | .slice a n c => k (.slice a n c)
  | .nilFunc => k .nilFunc
  | .nilIface => k .nilIface
  | .func a b c => k (.func a b c)
  | .iface t v => k (.iface t v)
  | .agg l => k (.agg l)
  | .tuple l => k (.tuple l)
theorem fW_eq (v : AVal) (k : AVal → β) : fW v k = k v := by cases v <;> rfl

/-- is what it answers in some slot or row already, worked out? -/
def shallow (o : Op) : Bool :=
  match o with
  | .move (.tmp _) | .assign (.tmp _) | .pick _ (.tmp _) (.tmp _) | .extract _ _ | .load _ _ => true
  | .call c => match c.callee with | .value _ => true | _ => false
  | _ => false

def fRes (o : Op) (v : AVal) (k : AVal → β) : β := cond (shallow o) (fW v k) (fV v k)
theorem fRes_eq (o : Op) (v : AVal) (k : AVal → β) : fRes o v k = k v := by unfold fRes; cases shallow o <;> simp [fW_eq, fV_eq]
end

/-- which row an operation turns -/
def turnsOf (nid : Nat) (ρ : Operand → AVal) (o : Op) (v : AVal) : Turns :=
  match o with
  | .alloc _ | .box _ _ | .buildSlice _ _ _ | .makeSlice _ _ _ => .at nid
  | .store _ a _ => match ρ a with | .ptr (some a) => .at a.id | _ => .no
  | .call c =>
    match c.callee with
    | .value _ => .all
    | .builtin .append => match v with | .slice (some a) _ _ => .at a.id | _ => .no
    | _ => .no
  | _ => .no

section
variable {E : AEnv}

def wantedT (ops : Array Oper) (n : Nat) (s : Trie AVal) (o : Oper) : Option Bool :=
  match o.guard with
  | none => some true
  | some (j, want) =>
    match (ops[j]?).bind (·.dst) with
    | some d =>
      match tget n s d with
      | some (.bool b) => some (b == want)
      | some (.tuple []) => some false
      | _ => none
    | none => none
theorem wantedT_eq (ops : Array Oper) (n : Nat) (s : Trie AVal) (o : Oper) : wantedT ops n s o = awanted ops (toL n s) o := by
  unfold wantedT awanted
  simp only [tget_eq]
  rfl

structure FSt where
  slots : Trie AVal
  heap : AHeap

def FSt.to (n : Nat) (s : FSt) : ASt := ⟨toL n s.slots, s.heap⟩

/-- the operations of a region, one behind the other; 'draw': with the looks that a region asks that draws -/
def frun (E : AEnv) (call : ACall) (ops : Array Oper) (draw : Bool) (n n0 : Nat) (l : List Oper) : Nat → Trie AVal → AHeap → Option FSt :=
  List.rec (motive := fun _ => Nat → Trie AVal → AHeap → Option FSt) (fun _ s h => some ⟨s, h⟩)
    (fun o _ ih i s h =>
      match wantedT ops n s o with
      | some true =>
        match (cond draw (dop E call ops n0 i (agetT n s) h o.op) (aop E call (Nat.add n0 i) (agetT n s) h o.op)) with
        | some (v, h') => fRes o.op v fun v => fTurn (turnsOf (Nat.add n0 i) (agetT n s) o.op v) h' fun h' => fPut s o.dst v fun s' => ih (Nat.succ i) s' h'
        | none => none
      | some false => fPut s o.dst skipped fun s' => ih (Nat.succ i) s' h
      | none => none) l

theorem frun_cons (call : ACall) (ops : Array Oper) (draw : Bool) (n n0 i : Nat) (s : Trie AVal) (h : AHeap) (o : Oper) (r : List Oper) : frun E call ops draw n n0 (o :: r) i s h =
      match wantedT ops n s o with
      | some true =>
        match (cond draw (dop E call ops n0 i (agetT n s) h o.op) (aop E call (n0 + i) (agetT n s) h o.op)) with
        | some (v, h') => frun E call ops draw n n0 r (i + 1) (Option.rec (motive := fun _ => Trie AVal) s (fun d => s.set d v) o.dst) h'
        | none => none
      | some false => frun E call ops draw n n0 r (i + 1) (Option.rec (motive := fun _ => Trie AVal) s (fun d => s.set d skipped) o.dst) h
      | none => none := by
  show (match wantedT ops n s o with
      | some true =>
        match (cond draw (dop E call ops n0 i (agetT n s) h o.op) (aop E call (n0 + i) (agetT n s) h o.op)) with
        | some (v, h') => fRes o.op v fun v => fTurn (turnsOf (n0 + i) (agetT n s) o.op v) h' fun h' => fPut s o.dst v fun s' => frun E call ops draw n n0 r (i + 1) s' h'
        | none => none
      | some false => fPut s o.dst skipped fun s' => frun E call ops draw n n0 r (i + 1) s' h
      | none => none) = _
  simp only [fRes_eq, fTurn_eq, fPut_eq n]

theorem frun_arun {call : ACall} {ops : Array Oper} {n n0 : Nat} : ∀ (l : List Oper) (i : Nat) (s : Trie AVal) (h : AHeap), (∀ j, l[j]? = ops[i + j]?) →
    (frun E call ops false n n0 l i s h).map (FSt.to n) = arun E call ops n0 (List.range' i l.length) ⟨toL n s, h⟩
  | [], i, s, h, _ => rfl
  | o :: r, i, s, h, hl => by
    have ho : ops[i]? = some o := by have := hl 0; simpa using this.symm
    have hr : ∀ j, r[j]? = ops[i + 1 + j]? := fun j => by have := hl (j + 1); simp at this; rw [this]; congr 1; omega
    rw [frun_cons]
    simp only [List.length_cons, List.range'_succ, arun, astep, ho, wantedT_eq, agetT_eq, cond_false]
    cases hw : awanted ops (toL n s) o with
    | none => rfl
    | some b =>
      cases b with
      | true =>
        simp only
        cases ha : aop E call (n0 + i) (agetOp (toL n s)) h o.op with
        | none => rfl
        | some p =>
          obtain ⟨v, h'⟩ := p
          simp only
          rw [frun_arun r (i + 1) _ _ hr, toL_put]
      | false =>
        simp only
        rw [frun_arun r (i + 1) _ _ hr, toL_put]

theorem frun_drun {call : ACall} {ops : Array Oper} {n n0 : Nat} : ∀ (l : List Oper) (i : Nat) (s : Trie AVal) (h : AHeap), (∀ j, l[j]? = ops[i + j]?) →
    (frun E call ops true n n0 l i s h).map (FSt.to n) = drun E call ops n0 (List.range' i l.length) ⟨toL n s, h⟩
  | [], i, s, h, _ => rfl
  | o :: r, i, s, h, hl => by
    have ho : ops[i]? = some o := by have := hl 0; simpa using this.symm
    have hr : ∀ j, r[j]? = ops[i + 1 + j]? := fun j => by have := hl (j + 1); simp at this; rw [this]; congr 1; omega
    rw [frun_cons]
    simp only [List.length_cons, List.range'_succ, drun, dstep, ho, wantedT_eq, agetT_eq, cond_true]
    cases hw : awanted ops (toL n s) o with
    | none => rfl
    | some b =>
      cases b with
      | true =>
        simp only
        cases ha : dop E call ops n0 i (agetOp (toL n s)) h o.op with
        | none => rfl
        | some p =>
          obtain ⟨v, h'⟩ := p
          simp only
          rw [frun_drun r (i + 1) _ _ hr, toL_put]
      | false =>
        simp only
        rw [frun_drun r (i + 1) _ _ hr, toL_put]

def fregion (E : AEnv) (call : ACall) (ops : Array Oper) (draw : Bool) (n : Nat) (s : FSt) : Option FSt :=
  match s with
  | ⟨s, ⟨n0, l⟩⟩ => cond (!draw || drawOk ops) (fNat (Nat.add n0 ops.size) fun m => frun E call ops draw n n0 ops.toList 0 s ⟨m, l⟩) none

theorem fregion_eq (call : ACall) (ops : Array Oper) (draw : Bool) (n : Nat) (s : FSt) : (fregion E call ops draw n s).map (FSt.to n) = aregion E call ops draw (s.to n) := by
  obtain ⟨s, n0, l⟩ := s
  have hl : ∀ j : Nat, ops.toList[j]? = ops[0 + j]? := fun j => by simp
  have hr : List.range ops.size = List.range' 0 ops.toList.length := by rw [List.range_eq_range', Array.length_toList]
  unfold fregion aregion
  cases draw with
  | false => simp only [Bool.not_false, Bool.true_or, cond_true, fNat_eq, Bool.false_eq_true, if_false, frun_arun _ _ _ _ hl, hr, FSt.to, Nat.add_eq]
  | true =>
    cases hd : drawOk ops with
    | false => simp
    | true => simp only [Bool.not_true, Bool.false_or, hd, cond_true, if_true, fNat_eq, frun_drun _ _ _ _ hl, hr, FSt.to, Nat.add_eq]

def fexec (E : AEnv) (call : ACall) (n : Nat) (fuel : Nat) : Option Code → Code → FSt → Option (AExit × FSt) :=
  Nat.rec (motive := fun _ => Option Code → Code → FSt → Option (AExit × FSt)) (fun _ _ _ => none)
  (fun m ih b c s =>
  match b with
  | some body =>
    match ih none c s with
    | some (.goto l, s') =>
      match findLabel body l with
      | some rest => ih (some body) rest s'
      | none => some (.goto l, s')
    | r => r
  | none =>
    match c with
    | .skip => some (.normal, s)
    | .label _ => some (.normal, s)
    | .region _ ops draw =>
      match fregion E call ops draw n s with
      | some s' => some (.normal, s')
      | none => none
    | .seq a b =>
      match ih none a s with
      | some (.normal, s') => ih none b s'
      | r => r
    | .cond x a b =>
      match agetT n s.slots x with
      | .bool true => ih none a s
      | .bool false => ih none b s
      | _ => none
    | .block id c =>
      match ih none c s with
      | some (.exit j, s') => some (if j = id then .normal else .exit j, s')
      | r => r
    | .loop c =>
      match ih none c s with
      | some (.normal, s') => ih none (.loop c) s'
      | r => r
    | .scope c => ih (some c) c s
    | .goto l => some (.goto l, s)
    | .exit id => some (.exit id, s)
    | .ret => some (.ret, s)
    | _ => none) fuel

def toP (n : Nat) (p : AExit × FSt) : AExit × ASt := (p.1, p.2.to n)

theorem fexec_eq (call : ACall) (k : Nat) : ∀ (n : Nat) (b : Option Code) (c : Code) (s : FSt), (fexec E call k n b c s).map (toP k) = aexec E call n b c (s.to k) := by
  intro n
  induction n with
  | zero => intro b c s; rfl
  | succ n ih =>
    intro b c s
    cases b with
    | some body =>
      show Option.map (toP k) (match fexec E call k n none c s with
        | some (.goto l, s') =>
          match findLabel body l with
          | some rest => fexec E call k n (some body) rest s'
          | none => some (.goto l, s')
        | r => r) = _
      simp only [aexec, ← ih]
      cases hx : fexec E call k n none c s with
      | none => rfl
      | some p =>
        obtain ⟨e, s'⟩ := p
        cases e with
        | goto l =>
          simp only [Option.map_some, toP]
          cases hf : findLabel body l with
          | none => rfl
          | some rest => simp only [hf]; exact ih (some body) rest s'
        | _ => rfl
    | none =>
      cases c
      case region id ops draw =>
        show Option.map (toP k) (match fregion E call ops draw k s with
          | some s' => some (.normal, s')
          | none => none) = _
        simp only [aexec, ← fregion_eq]
        cases fregion E call ops draw k s <;> rfl
      case seq a b =>
        show Option.map (toP k) (match fexec E call k n none a s with
          | some (.normal, s') => fexec E call k n none b s'
          | r => r) = _
        simp only [aexec, ← ih]
        cases hx : fexec E call k n none a s with
        | none => rfl
        | some p => obtain ⟨e, s'⟩ := p; cases e <;> first | exact ih none b s' | rfl
      case cond x a b =>
        show Option.map (toP k) (match agetT k s.slots x with
          | .bool true => fexec E call k n none a s
          | .bool false => fexec E call k n none b s
          | _ => none) = _
        simp only [aexec, ← ih, agetT_eq]
        have he : agetOp (s.to k).slots x = agetOp (toL k s.slots) x := rfl
        rw [he]
        cases agetOp (toL k s.slots) x with
        | bool t => cases t <;> rfl
        | _ => rfl
      case block id c =>
        show Option.map (toP k) (match fexec E call k n none c s with
          | some (.exit j, s') => some (if j = id then .normal else .exit j, s')
          | r => r) = _
        simp only [aexec, ← ih]
        cases hx : fexec E call k n none c s with
        | none => rfl
        | some p => obtain ⟨e, s'⟩ := p; cases e <;> rfl
      case loop c =>
        show Option.map (toP k) (match fexec E call k n none c s with
          | some (.normal, s') => fexec E call k n none (.loop c) s'
          | r => r) = _
        simp only [aexec, ← ih]
        cases hx : fexec E call k n none c s with
        | none => rfl
        | some p => obtain ⟨e, s'⟩ := p; cases e <;> first | exact ih none (.loop c) s' | rfl
      case scope c => exact ih (some c) c s
      all_goals rfl

def fArgs : List AVal → Nat → Trie AVal → (Trie AVal → Option (AVal × AHeap)) → Option (AVal × AHeap)
  | [], _, t, k => k t
  | v :: r, i, t, k => fV v fun v => fSetT t i v fun t => fArgs r (Nat.succ i) t k

theorem fArgs_eq : ∀ (l : List AVal) (i : Nat) (t : Trie AVal) (k : Trie AVal → Option (AVal × AHeap)),
    ∃ t', fArgs l i t k = k t' ∧ ∀ j, t'.get j = if j < i then t.get j else if h : j - i < l.length then some l[j - i] else t.get j
  | [], i, t, k => ⟨t, rfl, fun j => by simp⟩
  | v :: r, i, t, k => by
    obtain ⟨t', h1, h2⟩ := fArgs_eq r (i + 1) (t.set i v) k
    refine ⟨t', by simp only [fArgs, fV_eq, fSetT_eq]; exact h1, fun j => ?_⟩
    rw [h2 j, Trie.get_set]
    by_cases hj : j < i
    · rw [if_pos (by omega), if_neg (by omega), if_pos hj]
    · rw [if_neg hj]
      by_cases he : i = j
      · subst he; rw [if_pos (by omega), if_pos rfl]; simp
      · rw [if_neg (by omega), if_neg he]
        by_cases hl : j - (i + 1) < r.length
        · rw [dif_pos hl, dif_pos (by simp; omega)]
          obtain ⟨m, hm⟩ : ∃ m, j - i = m + 1 := ⟨j - i - 1, by omega⟩
          have hm' : j - (i + 1) = m := by omega
          simp only [hm, hm', List.getElem_cons_succ]
        · rw [dif_neg hl, dif_neg (by simp; omega)]

theorem fArgs_toL {l : List AVal} {m : Nat} {t : Trie AVal} (h : ∀ j, t.get j = if j < 0 then (Trie.nil : Trie AVal).get j else if h : j - 0 < l.length then some l[j - 0] else (Trie.nil : Trie AVal).get j) :
    toL (l.length + (m - l.length)) t = l ++ List.replicate (m - l.length) skipped := by
  apply List.ext_getElem?
  intro i
  rw [toL_get, h i, if_neg (Nat.not_lt_zero i)]
  simp only [Nat.sub_zero, Trie.get_nil]
  by_cases hi : i < l.length
  · rw [if_pos (by omega), dif_pos hi, List.getElem?_append_left hi, List.getElem?_eq_getElem hi]; rfl
  · rw [dif_neg hi, List.getElem?_append_right (by omega), List.getElem?_replicate]
    by_cases hn : i < l.length + (m - l.length)
    · rw [if_pos hn, if_pos (by omega)]; rfl
    · rw [if_neg hn, if_neg (by omega)]

def fresults (D : Tys) (n : Nat) (rs : List ResultVar) (s : FSt) : Option (List AVal) :=
  match rs with
  | [] => some []
  | .tmp t :: r => (fresults D n r s).map fun l => agetT n s.slots (.tmp t) :: l
  | .cell a t :: r =>
    match agetT n s.slots (.tmp a) with
    | .ptr (some p) =>
      match aload D t p s.heap, fresults D n r s with
      | some v, some l => some (v :: l)
      | _, _ => none
    | _ => none
theorem fresults_eq (D : Tys) (n : Nat) (s : FSt) : ∀ (rs : List ResultVar), fresults D n rs s = aresults D rs (s.to n)
  | [] => rfl
  | .tmp t :: r => by simp only [fresults, aresults, fresults_eq D n s r, agetT_eq]; rfl
  | .cell a t :: r => by simp only [fresults, aresults, fresults_eq D n s r, agetT_eq]; rfl

def fOut (r : Option (AVal × AHeap)) : Option (AVal × AHeap) :=
  match r with
  | some (v, ⟨n, l⟩) => fNat n fun n => fV v fun v => some (v, ⟨n, l⟩)
  | none => none
theorem fOut_eq (r : Option (AVal × AHeap)) : fOut r = r := by
  cases r with
  | none => rfl
  | some p => obtain ⟨v, n, l⟩ := p; simp [fOut, fNat_eq, fV_eq]

def fcall (P : Program) (E : AEnv) (fuel : Nat) : ACall :=
  Nat.rec (motive := fun _ => ACall) (fun _ _ _ => none)
  (fun n ih f args h =>
    match E.prim f with
    | some g => g args h
    | none =>
    match P.funcs[f]? with
    | some fn =>
      match fn.body with
      | some c =>
        fNat (args.length + (fn.ntmps - args.length)) fun k => fArgs args 0 .nil fun sl =>
        match fexec E ih k n none c ⟨sl, h⟩ with
        | some (.exit _, _) => none
        | some (.goto _, _) => none
        | some (_, s) =>
          match fresults E.D k fn.results.toList s with
          | some l => fOut (some (aresult l, s.heap))
          | none => none
        | none => none
      | none => none
    | none => none) fuel

theorem fcall_eq (P : Program) (E : AEnv) : ∀ (n : Nat), fcall P E n = acall P E n := by
  intro n
  induction n with
  | zero => rfl
  | succ n ih =>
    funext f args h
    show (match E.prim f with
    | some g => g args h
    | none =>
    match P.funcs[f]? with
    | some fn =>
      match fn.body with
      | some c =>
        fNat (args.length + (fn.ntmps - args.length)) fun k => fArgs args 0 .nil fun sl =>
        match fexec E (fcall P E n) k n none c ⟨sl, h⟩ with
        | some (.exit _, _) => none
        | some (.goto _, _) => none
        | some (_, s) =>
          match fresults E.D k fn.results.toList s with
          | some l => fOut (some (aresult l, s.heap))
          | none => none
        | none => none
      | none => none
    | none => none) = _
    simp only [acall, ih, fNat_eq, fOut_eq]
    cases E.prim f with
    | some g => rfl
    | none =>
    simp only
    cases hf : P.funcs[f]? with
    | none => rfl
    | some fn =>
      simp only
      cases fn.body with
      | none => rfl
      | some c =>
        simp only
        obtain ⟨t, h1, h2⟩ := fArgs_eq args 0 .nil fun sl =>
          match fexec E (acall P E n) (args.length + (fn.ntmps - args.length)) n none c ⟨sl, h⟩ with
          | some (.exit _, _) => none
          | some (.goto _, _) => none
          | some (_, s) =>
            match fresults E.D (args.length + (fn.ntmps - args.length)) fn.results.toList s with
            | some l => some (aresult l, s.heap)
            | none => none
          | none => none
        rw [h1]
        have hs : (FSt.mk t h).to (args.length + (fn.ntmps - args.length)) = ⟨args ++ List.replicate (fn.ntmps - args.length) skipped, h⟩ := by
          simp only [FSt.to, fArgs_toL h2]
        have hx := fexec_eq (E := E) (acall P E n) (args.length + (fn.ntmps - args.length)) n none c ⟨t, h⟩
        rw [hs] at hx
        rw [← hx]
        cases hy : fexec E (acall P E n) (args.length + (fn.ntmps - args.length)) n none c ⟨t, h⟩ with
        | none => rfl
        | some p =>
          obtain ⟨e, s⟩ := p
          simp only [Option.map_some, toP]
          cases e with
          | exit id => rfl
          | goto l => rfl
          | normal => simp only [fresults_eq]; cases aresults E.D fn.results.toList (s.to (args.length + (fn.ntmps - args.length))) <;> rfl
          | ret => simp only [fresults_eq]; cases aresults E.D fn.results.toList (s.to (args.length + (fn.ntmps - args.length))) <;> rfl

theorem fcall_true {P : Program} {E : AEnv} {n : Nat} {f : FuncId} {args : List AVal} {h : AHeap} (k : saysTrue (fcall P E n f args h) = true) : ∃ h', acall P E n f args h = some (.bool true, h') := by
  rw [fcall_eq] at k; exact saysTrue_spec k
end
end
end Go.Lift

namespace Go.Proofs.Ytgfkllnaeekjeaa
open Go.Lift
set_option maxRecDepth 1000000
theorem works_run : saysTrue (fcall Try.prog env 300 21 [] ⟨0, .nil⟩) = true := by decide +kernel
theorem works_does (H : AHeap) : FDoes Try.prog 21 [] H (.bool true) H := by
  obtain ⟨h', hc⟩ := fcall_true works_run
  exact (FDoes.of_acall env_ok mixed hc).bare (by simp) (Bare.bool _) H
end Go.Proofs.Ytgfkllnaeekjeaa

namespace Go.Proofs.Ytgfkllnaeekjeaa
open Go.Lift
set_option maxRecDepth 1000000
set_option linter.unusedSimpArgs false
set_option linter.unusedVariables false
set_option linter.unusedSectionVars false

/-- how many sizes come of so many items -/
def szLen (n : Nat) : Nat := if n = 0 ∨ 4096 < n then 0 else n
theorem sizes_any {H : AHeap} {o : Option AAddr} {n c id ver off : Nat} {b : ABlk} {src : Nat → It} (hi : ItemsAt H o n c id ver off b src) (extent gap : Int) {K : Nat} (hK : H.next = K) :
    ∃ oa ca z, SlArg oa (szLen n) ca K 0 0 1 ∧ (1 ≤ n → n ≤ 4096 → SizesZ (fun j => effI (src j)) n (roomZ n extent gap) z) ∧ FDoes Try.prog 16 [.slice o n c, .int .i64 extent, .int .i64 gap] H (.slice oa (szLen n) ca) (H.upd [] [IRow (szLen n) z]) := by
  by_cases h : n = 0 ∨ 4096 < n
  · have e : szLen n = 0 := if_pos h
    rw [e]
    exact ⟨none, 0, fun _ => 0, .inr ⟨rfl, rfl, rfl⟩, fun _ _ => by omega, (sizes_nil hi h extent gap).pad1 _⟩
  · have e : szLen n = n := if_neg h
    rw [e]
    obtain ⟨z, hz, k⟩ := sizes_does hi (by omega) (by omega) extent gap
    subst hK
    exact ⟨_, _, z, .inl rfl, fun _ _ => hz, k⟩

end Go.Proofs.Ytgfkllnaeekjeaa

namespace Go.Proofs.Ytgfkllnaeekjeaa
open Go.Lift
set_option maxRecDepth 1000000
set_option linter.unusedSimpArgs false
set_option linter.unusedVariables false
set_option linter.unusedSectionVars false

theorem items_of {W : World} {x : Addr} {len : Nat} {b : ABlk} (hx : ∀ i, i < len → b.elem? 0 (0 + i) = some (elemAt W x true 5 i)) (he : ∀ i j, i < len → j < 5 → ∃ k, itKinds[j]? = some k ∧ CellIs k (cellAt W x (i * 5 + j))) :
    ∃ src : Nat → It, (∀ i, i < len → b.elem? 0 (0 + i) = some (src i).val) ∧ ∀ i, i < len → (src i).Fits := by
  have h : ∀ i, ∃ t : It, i < len → elemAt W x true 5 i = t.val ∧ t.Fits := by
    intro i
    by_cases c : i < len
    · obtain ⟨t, h1, h2⟩ := it_cells (fun j => cellAt W x (i * 5 + j)) (fun j hj => he i j c hj)
      refine ⟨t, fun _ => ⟨?_, h2⟩⟩
      show AVal.agg _ = AVal.agg _
      rw [h1]
    · exact ⟨It0, fun h => absurd h c⟩
  refine ⟨fun i => Classical.choose (h i), fun i hi => ?_, fun i hi => (Classical.choose_spec (h i) hi).2⟩
  rw [hx i hi, (Classical.choose_spec (h i) hi).1]

/-- the sizes fit into numbers -/
theorem sizes_range {eff : Nat → It} (heff : ∀ j, RightIt (eff j)) {N : Nat} {room : Int} (hr : 0 ≤ room ∧ room ≤ 4096) {z : Nat → Int} (h : SizesZ eff N room z) : (∀ j, j < N → 0 ≤ z j ∧ z j ≤ 4096) ∧ ∀ j, j ≤ N → 0 ≤ sumTo z j ∧ sumTo z j ≤ 4096 := by
  have h1 := sizes_one heff hr h
  have h2 : sumTo z N ≤ 4096 := by
    rcases (sizes_sum heff hr h).1 with e | ⟨_, _, e, _⟩ <;> omega
  have up : ∀ m, m ≤ N → sumTo z (N - m) ≤ sumTo z N := by
    intro m
    induction m with
    | zero => intro _; simp
    | succ m ih =>
      intro hm
      have := ih (by omega)
      have h3 := (h1 (N - (m + 1)) (by omega)).1
      have e : sumTo z (N - m) = sumTo z (N - (m + 1)) + z (N - (m + 1)) := by
        rw [show N - m = N - (m + 1) + 1 by omega]; rfl
      omega
  refine ⟨fun j hj => ⟨(h1 j hj).1, ?_⟩, fun j hj => ⟨sumTo_ge0 fun i hi => (h1 i (by omega)).1, ?_⟩⟩
  · have := sumTo_le_one (fun i hi => (h1 i hi).1) j hj; omega
  · have := up (N - j) (by omega)
    rw [show N - (N - j) = j by omega] at this; omega

theorem ixA {o : Option AAddr} {n c id i : Nat} (h : SlArg o n c id 0 0 1) (hi : i < n) : aindexAddr env.D 27 (.slice o n c) (.int .i64 (i : Int)) = some (.ptr (some ⟨id, 0, i, 0, 1⟩)) := by
  have := ix_intN h (k := .i64) hi
  rwa [Nat.zero_add] at this

end Go.Proofs.Ytgfkllnaeekjeaa

namespace Go.Proofs.Ytgfkllnaeekjeaa
open Go.Lift
set_option maxRecDepth 1000000
set_option linter.unusedSimpArgs false
set_option linter.unusedVariables false
set_option linter.unusedSectionVars false

theorem or_TK (N c ca ver off i j : Nat) (o oa : Option AAddr) (b : ABlk) (z : List AVal) (k1 n1 d1 mn1 mx1 k2 n2 d2 mn2 mx2 x y : Int) (hc_0 : (j : Int) < (N : Int)) (hc_1 : aindexAddr (AEnv.D env) 26 (.slice o N c) (.int .i64 (i : Int)) = some (.ptr (some ⟨0, ver, off + i, 0, 5⟩))) (hc_2 : ABlk.elem? b ver (off + i) = some (.agg [.int .i8 k1, .int .i64 n1, .int .i64 d1, .int .i64 mn1, .int .i64 mx1])) (hc_3 : aindexAddr (AEnv.D env) 26 (.slice o N c) (.int .i64 (j : Int)) = some (.ptr (some ⟨0, ver, off + j, 0, 5⟩))) (hc_4 : ABlk.elem? b ver (off + j) = some (.agg [.int .i8 k2, .int .i64 n2, .int .i64 d2, .int .i64 mn2, .int .i64 mx2])) (hc_5 : (k1 == k2 && (n1 == n2 && (d1 == d2 && (mn1 == mn2 && (mx1 == mx2 && true))))) = true) (hc_6 : aindexAddr (AEnv.D env) 27 (.slice oa N ca) (.int .i64 (i : Int)) = some (.ptr (some ⟨9, 0, i, 0, 1⟩))) (hc_7 : ABlk.elem? (.made z 1 true) 0 i = some (.int .i64 x)) (hc_8 : aindexAddr (AEnv.D env) 27 (.slice oa N ca) (.int .i64 (j : Int)) = some (.ptr (some ⟨9, 0, j, 0, 1⟩))) (hc_9 : ABlk.elem? (.made z 1 true) 0 j = some (.int .i64 y)) (hc_10 : -9223372036854775808 ≤ x - y ∧ x - y ≤ 9223372036854775807) (hc_11 : ¬ (x - y > 1)) (hc_12 : ¬ (k1 = 3)) (hc_13 : -9223372036854775808 ≤ (j : Int) + 1 ∧ (j : Int) + (1 : Int) ≤ 9223372036854775807) :
    Runs Try.prog 1 117 (loopAt Try.prog 8 1) [(0, .slice o N c), (7, .slice oa N ca), (8, .int .i64 i), (33, .int .i64 N), (34, .int .i64 i), (38, .int .i64 N), (39, .int .i64 j)] (AHeap.rows 40 [(0, b), (9, .made z 1 true)]) .normal [(0, .slice o N c), (7, .slice oa N ca), (8, .int .i64 (i : Int)), (33, .int .i64 (N : Int)), (34, .int .i64 (i : Int)), (38, .int .i64 (N : Int)), (39, .int .i64 ((j : Int) + 1))] (AHeap.rows 123 [(0, b), (9, .made z 1 true), (51, (.made ([.agg [.int .i8 k1, .int .i64 n1, .int .i64 d1, .int .i64 mn1, .int .i64 mx1]]) 5 true)), (52, (.made ([.agg [.int .i8 k2, .int .i64 n2, .int .i64 d2, .int .i64 mn2, .int .i64 mx2]]) 5 true))]) :=
  ppath_runs env_ok mixed (hs := [.val 10000 (.bool true), .val 12002 (.ptr (some ⟨0, ver, off + i, 0, 5⟩)), .ld 12003 (.agg [.int .i8 k1, .int .i64 n1, .int .i64 d1, .int .i64 mn1, .int .i64 mx1]), .val 12006 (.ptr (some ⟨0, ver, off + j, 0, 5⟩)), .ld 12007 (.agg [.int .i8 k2, .int .i64 n2, .int .i64 d2, .int .i64 mn2, .int .i64 mx2]), .val 13002 (.bool true), .val 13006 (.ptr (some ⟨9, 0, i, 0, 1⟩)), .ld 13007 (.int .i64 x), .val 13010 (.ptr (some ⟨9, 0, j, 0, 1⟩)), .ld 13011 (.int .i64 y), .go 13012, .val 13013 (.bool false), .val 15002 (.bool false), .go 18000]) (keep := [0, 7, 8, 33, 34, 38, 39]) (by kernel_rfl) (All.cons (okT hc_0) (All.cons hc_1 (All.cons hc_2 (All.cons hc_3 (All.cons hc_4 (All.cons (congrArg (fun q => some (AVal.bool q)) hc_5) (All.cons hc_6 (All.cons hc_7 (All.cons hc_8 (All.cons hc_9 (All.cons hc_10 (All.cons (okF hc_11) (All.cons (eqF hc_12) (All.cons hc_13 (All.nil)))))))))))))))

theorem or_TL (N c ca ver off i j : Nat) (o oa : Option AAddr) (b : ABlk) (z : List AVal) (k1 n1 d1 mn1 mx1 k2 n2 d2 mn2 mx2 x y : Int) (hc_0 : (j : Int) < (N : Int)) (hc_1 : aindexAddr (AEnv.D env) 26 (.slice o N c) (.int .i64 (i : Int)) = some (.ptr (some ⟨0, ver, off + i, 0, 5⟩))) (hc_2 : ABlk.elem? b ver (off + i) = some (.agg [.int .i8 k1, .int .i64 n1, .int .i64 d1, .int .i64 mn1, .int .i64 mx1])) (hc_3 : aindexAddr (AEnv.D env) 26 (.slice o N c) (.int .i64 (j : Int)) = some (.ptr (some ⟨0, ver, off + j, 0, 5⟩))) (hc_4 : ABlk.elem? b ver (off + j) = some (.agg [.int .i8 k2, .int .i64 n2, .int .i64 d2, .int .i64 mn2, .int .i64 mx2])) (hc_5 : (k1 == k2 && (n1 == n2 && (d1 == d2 && (mn1 == mn2 && (mx1 == mx2 && true))))) = true) (hc_6 : aindexAddr (AEnv.D env) 27 (.slice oa N ca) (.int .i64 (i : Int)) = some (.ptr (some ⟨9, 0, i, 0, 1⟩))) (hc_7 : ABlk.elem? (.made z 1 true) 0 i = some (.int .i64 x)) (hc_8 : aindexAddr (AEnv.D env) 27 (.slice oa N ca) (.int .i64 (j : Int)) = some (.ptr (some ⟨9, 0, j, 0, 1⟩))) (hc_9 : ABlk.elem? (.made z 1 true) 0 j = some (.int .i64 y)) (hc_10 : -9223372036854775808 ≤ x - y ∧ x - y ≤ 9223372036854775807) (hc_11 : ¬ (x - y > 1)) (hc_12 : k1 = 3) (hc_13 : ¬ (k2 = 3)) (hc_14 : -9223372036854775808 ≤ (j : Int) + 1 ∧ (j : Int) + (1 : Int) ≤ 9223372036854775807) :
    Runs Try.prog 1 117 (loopAt Try.prog 8 1) [(0, .slice o N c), (7, .slice oa N ca), (8, .int .i64 i), (33, .int .i64 N), (34, .int .i64 i), (38, .int .i64 N), (39, .int .i64 j)] (AHeap.rows 40 [(0, b), (9, .made z 1 true)]) .normal [(0, .slice o N c), (7, .slice oa N ca), (8, .int .i64 (i : Int)), (33, .int .i64 (N : Int)), (34, .int .i64 (i : Int)), (38, .int .i64 (N : Int)), (39, .int .i64 ((j : Int) + 1))] (AHeap.rows 123 [(0, b), (9, .made z 1 true), (51, (.made ([.agg [.int .i8 k1, .int .i64 n1, .int .i64 d1, .int .i64 mn1, .int .i64 mx1]]) 5 true)), (52, (.made ([.agg [.int .i8 k2, .int .i64 n2, .int .i64 d2, .int .i64 mn2, .int .i64 mx2]]) 5 true))]) :=
  ppath_runs env_ok mixed (hs := [.val 10000 (.bool true), .val 12002 (.ptr (some ⟨0, ver, off + i, 0, 5⟩)), .ld 12003 (.agg [.int .i8 k1, .int .i64 n1, .int .i64 d1, .int .i64 mn1, .int .i64 mx1]), .val 12006 (.ptr (some ⟨0, ver, off + j, 0, 5⟩)), .ld 12007 (.agg [.int .i8 k2, .int .i64 n2, .int .i64 d2, .int .i64 mn2, .int .i64 mx2]), .val 13002 (.bool true), .val 13006 (.ptr (some ⟨9, 0, i, 0, 1⟩)), .ld 13007 (.int .i64 x), .val 13010 (.ptr (some ⟨9, 0, j, 0, 1⟩)), .ld 13011 (.int .i64 y), .go 13012, .val 13013 (.bool false), .val 15002 (.bool true), .val 15006 (.bool false), .go 18000]) (keep := [0, 7, 8, 33, 34, 38, 39]) (by kernel_rfl) (All.cons (okT hc_0) (All.cons hc_1 (All.cons hc_2 (All.cons hc_3 (All.cons hc_4 (All.cons (congrArg (fun q => some (AVal.bool q)) hc_5) (All.cons hc_6 (All.cons hc_7 (All.cons hc_8 (All.cons hc_9 (All.cons hc_10 (All.cons (okF hc_11) (All.cons (eqT hc_12) (All.cons (eqF hc_13) (All.cons hc_14 (All.nil))))))))))))))))

theorem or_TM (N c ca ver off i j : Nat) (o oa : Option AAddr) (b : ABlk) (z : List AVal) (k1 n1 d1 mn1 mx1 k2 n2 d2 mn2 mx2 x y : Int) (hc_0 : (j : Int) < (N : Int)) (hc_1 : aindexAddr (AEnv.D env) 26 (.slice o N c) (.int .i64 (i : Int)) = some (.ptr (some ⟨0, ver, off + i, 0, 5⟩))) (hc_2 : ABlk.elem? b ver (off + i) = some (.agg [.int .i8 k1, .int .i64 n1, .int .i64 d1, .int .i64 mn1, .int .i64 mx1])) (hc_3 : aindexAddr (AEnv.D env) 26 (.slice o N c) (.int .i64 (j : Int)) = some (.ptr (some ⟨0, ver, off + j, 0, 5⟩))) (hc_4 : ABlk.elem? b ver (off + j) = some (.agg [.int .i8 k2, .int .i64 n2, .int .i64 d2, .int .i64 mn2, .int .i64 mx2])) (hc_5 : (k1 == k2 && (n1 == n2 && (d1 == d2 && (mn1 == mn2 && (mx1 == mx2 && true))))) = true) (hc_6 : aindexAddr (AEnv.D env) 27 (.slice oa N ca) (.int .i64 (i : Int)) = some (.ptr (some ⟨9, 0, i, 0, 1⟩))) (hc_7 : ABlk.elem? (.made z 1 true) 0 i = some (.int .i64 x)) (hc_8 : aindexAddr (AEnv.D env) 27 (.slice oa N ca) (.int .i64 (j : Int)) = some (.ptr (some ⟨9, 0, j, 0, 1⟩))) (hc_9 : ABlk.elem? (.made z 1 true) 0 j = some (.int .i64 y)) (hc_10 : -9223372036854775808 ≤ x - y ∧ x - y ≤ 9223372036854775807) (hc_11 : ¬ (x - y > 1)) (hc_12 : k1 = 3) (hc_13 : k2 = 3) (hc_14 : FDoes Try.prog 12 [.agg [.int .i8 k1, .int .i64 n1, .int .i64 d1, .int .i64 mn1, .int .i64 mx1]] (AHeap.rows 87 [(0, b), (9, .made z 1 true), (51, (.made ([.agg [.int .i8 k1, .int .i64 n1, .int .i64 d1, .int .i64 mn1, .int .i64 mx1]]) 5 true)), (52, (.made ([.agg [.int .i8 k2, .int .i64 n2, .int .i64 d2, .int .i64 mn2, .int .i64 mx2]]) 5 true))]) (AVal.bool false) (AHeap.rows 87 [(0, b), (9, .made z 1 true), (51, (.made ([.agg [.int .i8 k1, .int .i64 n1, .int .i64 d1, .int .i64 mn1, .int .i64 mx1]]) 5 true)), (52, (.made ([.agg [.int .i8 k2, .int .i64 n2, .int .i64 d2, .int .i64 mn2, .int .i64 mx2]]) 5 true))])) (hc_15 : -9223372036854775808 ≤ (j : Int) + 1 ∧ (j : Int) + (1 : Int) ≤ 9223372036854775807) :
    Runs Try.prog 1 117 (loopAt Try.prog 8 1) [(0, .slice o N c), (7, .slice oa N ca), (8, .int .i64 i), (33, .int .i64 N), (34, .int .i64 i), (38, .int .i64 N), (39, .int .i64 j)] (AHeap.rows 40 [(0, b), (9, .made z 1 true)]) .normal [(0, .slice o N c), (7, .slice oa N ca), (8, .int .i64 (i : Int)), (33, .int .i64 (N : Int)), (34, .int .i64 (i : Int)), (38, .int .i64 (N : Int)), (39, .int .i64 ((j : Int) + 1))] (AHeap.rows 123 [(0, b), (9, .made z 1 true), (51, (.made ([.agg [.int .i8 k1, .int .i64 n1, .int .i64 d1, .int .i64 mn1, .int .i64 mx1]]) 5 true)), (52, (.made ([.agg [.int .i8 k2, .int .i64 n2, .int .i64 d2, .int .i64 mn2, .int .i64 mx2]]) 5 true))]) :=
  ppath_runs env_ok mixed (hs := [.val 10000 (.bool true), .val 12002 (.ptr (some ⟨0, ver, off + i, 0, 5⟩)), .ld 12003 (.agg [.int .i8 k1, .int .i64 n1, .int .i64 d1, .int .i64 mn1, .int .i64 mx1]), .val 12006 (.ptr (some ⟨0, ver, off + j, 0, 5⟩)), .ld 12007 (.agg [.int .i8 k2, .int .i64 n2, .int .i64 d2, .int .i64 mn2, .int .i64 mx2]), .val 13002 (.bool true), .val 13006 (.ptr (some ⟨9, 0, i, 0, 1⟩)), .ld 13007 (.int .i64 x), .val 13010 (.ptr (some ⟨9, 0, j, 0, 1⟩)), .ld 13011 (.int .i64 y), .go 13012, .val 13013 (.bool false), .val 15002 (.bool true), .val 15006 (.bool true), .val 15010 (.bool false), .go 18000]) (keep := [0, 7, 8, 33, 34, 38, 39]) (by kernel_rfl) (All.cons (okT hc_0) (All.cons hc_1 (All.cons hc_2 (All.cons hc_3 (All.cons hc_4 (All.cons (congrArg (fun q => some (AVal.bool q)) hc_5) (All.cons hc_6 (All.cons hc_7 (All.cons hc_8 (All.cons hc_9 (All.cons hc_10 (All.cons (okF hc_11) (All.cons (eqT hc_12) (All.cons (eqT hc_13) (All.cons (CallT.mk hc_14) (All.cons hc_15 (All.nil)))))))))))))))))

theorem or_TN (N c ca ver off i j : Nat) (o oa : Option AAddr) (b : ABlk) (z : List AVal) (k1 n1 d1 mn1 mx1 k2 n2 d2 mn2 mx2 x y : Int) (hc_0 : (j : Int) < (N : Int)) (hc_1 : aindexAddr (AEnv.D env) 26 (.slice o N c) (.int .i64 (i : Int)) = some (.ptr (some ⟨0, ver, off + i, 0, 5⟩))) (hc_2 : ABlk.elem? b ver (off + i) = some (.agg [.int .i8 k1, .int .i64 n1, .int .i64 d1, .int .i64 mn1, .int .i64 mx1])) (hc_3 : aindexAddr (AEnv.D env) 26 (.slice o N c) (.int .i64 (j : Int)) = some (.ptr (some ⟨0, ver, off + j, 0, 5⟩))) (hc_4 : ABlk.elem? b ver (off + j) = some (.agg [.int .i8 k2, .int .i64 n2, .int .i64 d2, .int .i64 mn2, .int .i64 mx2])) (hc_5 : (k1 == k2 && (n1 == n2 && (d1 == d2 && (mn1 == mn2 && (mx1 == mx2 && true))))) = true) (hc_6 : aindexAddr (AEnv.D env) 27 (.slice oa N ca) (.int .i64 (i : Int)) = some (.ptr (some ⟨9, 0, i, 0, 1⟩))) (hc_7 : ABlk.elem? (.made z 1 true) 0 i = some (.int .i64 x)) (hc_8 : aindexAddr (AEnv.D env) 27 (.slice oa N ca) (.int .i64 (j : Int)) = some (.ptr (some ⟨9, 0, j, 0, 1⟩))) (hc_9 : ABlk.elem? (.made z 1 true) 0 j = some (.int .i64 y)) (hc_10 : -9223372036854775808 ≤ x - y ∧ x - y ≤ 9223372036854775807) (hc_11 : ¬ (x - y > 1)) (hc_12 : k1 = 3) (hc_13 : k2 = 3) (hc_14 : FDoes Try.prog 12 [.agg [.int .i8 k1, .int .i64 n1, .int .i64 d1, .int .i64 mn1, .int .i64 mx1]] (AHeap.rows 87 [(0, b), (9, .made z 1 true), (51, (.made ([.agg [.int .i8 k1, .int .i64 n1, .int .i64 d1, .int .i64 mn1, .int .i64 mx1]]) 5 true)), (52, (.made ([.agg [.int .i8 k2, .int .i64 n2, .int .i64 d2, .int .i64 mn2, .int .i64 mx2]]) 5 true))]) (AVal.bool true) (AHeap.rows 87 [(0, b), (9, .made z 1 true), (51, (.made ([.agg [.int .i8 k1, .int .i64 n1, .int .i64 d1, .int .i64 mn1, .int .i64 mx1]]) 5 true)), (52, (.made ([.agg [.int .i8 k2, .int .i64 n2, .int .i64 d2, .int .i64 mn2, .int .i64 mx2]]) 5 true))])) (hc_15 : FDoes Try.prog 12 [.agg [.int .i8 k2, .int .i64 n2, .int .i64 d2, .int .i64 mn2, .int .i64 mx2]] (AHeap.rows 87 [(0, b), (9, .made z 1 true), (51, (.made ([.agg [.int .i8 k1, .int .i64 n1, .int .i64 d1, .int .i64 mn1, .int .i64 mx1]]) 5 true)), (52, (.made ([.agg [.int .i8 k2, .int .i64 n2, .int .i64 d2, .int .i64 mn2, .int .i64 mx2]]) 5 true))]) (AVal.bool false) (AHeap.rows 87 [(0, b), (9, .made z 1 true), (51, (.made ([.agg [.int .i8 k1, .int .i64 n1, .int .i64 d1, .int .i64 mn1, .int .i64 mx1]]) 5 true)), (52, (.made ([.agg [.int .i8 k2, .int .i64 n2, .int .i64 d2, .int .i64 mn2, .int .i64 mx2]]) 5 true))])) (hc_16 : Agree [.agg [.int .i8 k1, .int .i64 n1, .int .i64 d1, .int .i64 mn1, .int .i64 mx1]] [.agg [.int .i8 k2, .int .i64 n2, .int .i64 d2, .int .i64 mn2, .int .i64 mx2]] (AHeap.rows 87 [(0, b), (9, .made z 1 true), (51, (.made ([.agg [.int .i8 k1, .int .i64 n1, .int .i64 d1, .int .i64 mn1, .int .i64 mx1]]) 5 true)), (52, (.made ([.agg [.int .i8 k2, .int .i64 n2, .int .i64 d2, .int .i64 mn2, .int .i64 mx2]]) 5 true))]) (AHeap.rows 87 [(0, b), (9, .made z 1 true), (51, (.made ([.agg [.int .i8 k1, .int .i64 n1, .int .i64 d1, .int .i64 mn1, .int .i64 mx1]]) 5 true)), (52, (.made ([.agg [.int .i8 k2, .int .i64 n2, .int .i64 d2, .int .i64 mn2, .int .i64 mx2]]) 5 true))]) (AVal.bool true) (AVal.bool false) (AHeap.rows 87 [(0, b), (9, .made z 1 true), (51, (.made ([.agg [.int .i8 k1, .int .i64 n1, .int .i64 d1, .int .i64 mn1, .int .i64 mx1]]) 5 true)), (52, (.made ([.agg [.int .i8 k2, .int .i64 n2, .int .i64 d2, .int .i64 mn2, .int .i64 mx2]]) 5 true))]) (AHeap.rows 87 [(0, b), (9, .made z 1 true), (51, (.made ([.agg [.int .i8 k1, .int .i64 n1, .int .i64 d1, .int .i64 mn1, .int .i64 mx1]]) 5 true)), (52, (.made ([.agg [.int .i8 k2, .int .i64 n2, .int .i64 d2, .int .i64 mn2, .int .i64 mx2]]) 5 true))])) (hc_17 : -9223372036854775808 ≤ (j : Int) + 1 ∧ (j : Int) + (1 : Int) ≤ 9223372036854775807) :
    Runs Try.prog 1 117 (loopAt Try.prog 8 1) [(0, .slice o N c), (7, .slice oa N ca), (8, .int .i64 i), (33, .int .i64 N), (34, .int .i64 i), (38, .int .i64 N), (39, .int .i64 j)] (AHeap.rows 40 [(0, b), (9, .made z 1 true)]) .normal [(0, .slice o N c), (7, .slice oa N ca), (8, .int .i64 (i : Int)), (33, .int .i64 (N : Int)), (34, .int .i64 (i : Int)), (38, .int .i64 (N : Int)), (39, .int .i64 ((j : Int) + 1))] (AHeap.rows 123 [(0, b), (9, .made z 1 true), (51, (.made ([.agg [.int .i8 k1, .int .i64 n1, .int .i64 d1, .int .i64 mn1, .int .i64 mx1]]) 5 true)), (52, (.made ([.agg [.int .i8 k2, .int .i64 n2, .int .i64 d2, .int .i64 mn2, .int .i64 mx2]]) 5 true))]) :=
  ppath_runs env_ok mixed (hs := [.val 10000 (.bool true), .val 12002 (.ptr (some ⟨0, ver, off + i, 0, 5⟩)), .ld 12003 (.agg [.int .i8 k1, .int .i64 n1, .int .i64 d1, .int .i64 mn1, .int .i64 mx1]), .val 12006 (.ptr (some ⟨0, ver, off + j, 0, 5⟩)), .ld 12007 (.agg [.int .i8 k2, .int .i64 n2, .int .i64 d2, .int .i64 mn2, .int .i64 mx2]), .val 13002 (.bool true), .val 13006 (.ptr (some ⟨9, 0, i, 0, 1⟩)), .ld 13007 (.int .i64 x), .val 13010 (.ptr (some ⟨9, 0, j, 0, 1⟩)), .ld 13011 (.int .i64 y), .go 13012, .val 13013 (.bool false), .val 15002 (.bool true), .val 15006 (.bool true), .val 15010 (.bool true), .val 15014 (.bool false), .go 18000]) (keep := [0, 7, 8, 33, 34, 38, 39]) (by kernel_rfl) (All.cons (okT hc_0) (All.cons hc_1 (All.cons hc_2 (All.cons hc_3 (All.cons hc_4 (All.cons (congrArg (fun q => some (AVal.bool q)) hc_5) (All.cons hc_6 (All.cons hc_7 (All.cons hc_8 (All.cons hc_9 (All.cons hc_10 (All.cons (okF hc_11) (All.cons (eqT hc_12) (All.cons (eqT hc_13) (All.cons (CallT.mk hc_14) (All.cons (CallT.mk hc_15) (All.cons hc_16 (All.cons hc_17 (All.nil)))))))))))))))))))

theorem or_TO (N c ca ver off i j : Nat) (o oa : Option AAddr) (b : ABlk) (z : List AVal) (k1 n1 d1 mn1 mx1 k2 n2 d2 mn2 mx2 x y : Int) (hc_0 : (j : Int) < (N : Int)) (hc_1 : aindexAddr (AEnv.D env) 26 (.slice o N c) (.int .i64 (i : Int)) = some (.ptr (some ⟨0, ver, off + i, 0, 5⟩))) (hc_2 : ABlk.elem? b ver (off + i) = some (.agg [.int .i8 k1, .int .i64 n1, .int .i64 d1, .int .i64 mn1, .int .i64 mx1])) (hc_3 : aindexAddr (AEnv.D env) 26 (.slice o N c) (.int .i64 (j : Int)) = some (.ptr (some ⟨0, ver, off + j, 0, 5⟩))) (hc_4 : ABlk.elem? b ver (off + j) = some (.agg [.int .i8 k2, .int .i64 n2, .int .i64 d2, .int .i64 mn2, .int .i64 mx2])) (hc_5 : (k1 == k2 && (n1 == n2 && (d1 == d2 && (mn1 == mn2 && (mx1 == mx2 && true))))) = true) (hc_6 : aindexAddr (AEnv.D env) 27 (.slice oa N ca) (.int .i64 (i : Int)) = some (.ptr (some ⟨9, 0, i, 0, 1⟩))) (hc_7 : ABlk.elem? (.made z 1 true) 0 i = some (.int .i64 x)) (hc_8 : aindexAddr (AEnv.D env) 27 (.slice oa N ca) (.int .i64 (j : Int)) = some (.ptr (some ⟨9, 0, j, 0, 1⟩))) (hc_9 : ABlk.elem? (.made z 1 true) 0 j = some (.int .i64 y)) (hc_10 : -9223372036854775808 ≤ x - y ∧ x - y ≤ 9223372036854775807) (hc_11 : ¬ (x - y > 1)) (hc_12 : k1 = 3) (hc_13 : k2 = 3) (hc_14 : FDoes Try.prog 12 [.agg [.int .i8 k1, .int .i64 n1, .int .i64 d1, .int .i64 mn1, .int .i64 mx1]] (AHeap.rows 87 [(0, b), (9, .made z 1 true), (51, (.made ([.agg [.int .i8 k1, .int .i64 n1, .int .i64 d1, .int .i64 mn1, .int .i64 mx1]]) 5 true)), (52, (.made ([.agg [.int .i8 k2, .int .i64 n2, .int .i64 d2, .int .i64 mn2, .int .i64 mx2]]) 5 true))]) (AVal.bool true) (AHeap.rows 87 [(0, b), (9, .made z 1 true), (51, (.made ([.agg [.int .i8 k1, .int .i64 n1, .int .i64 d1, .int .i64 mn1, .int .i64 mx1]]) 5 true)), (52, (.made ([.agg [.int .i8 k2, .int .i64 n2, .int .i64 d2, .int .i64 mn2, .int .i64 mx2]]) 5 true))])) (hc_15 : FDoes Try.prog 12 [.agg [.int .i8 k2, .int .i64 n2, .int .i64 d2, .int .i64 mn2, .int .i64 mx2]] (AHeap.rows 87 [(0, b), (9, .made z 1 true), (51, (.made ([.agg [.int .i8 k1, .int .i64 n1, .int .i64 d1, .int .i64 mn1, .int .i64 mx1]]) 5 true)), (52, (.made ([.agg [.int .i8 k2, .int .i64 n2, .int .i64 d2, .int .i64 mn2, .int .i64 mx2]]) 5 true))]) (AVal.bool true) (AHeap.rows 87 [(0, b), (9, .made z 1 true), (51, (.made ([.agg [.int .i8 k1, .int .i64 n1, .int .i64 d1, .int .i64 mn1, .int .i64 mx1]]) 5 true)), (52, (.made ([.agg [.int .i8 k2, .int .i64 n2, .int .i64 d2, .int .i64 mn2, .int .i64 mx2]]) 5 true))])) (hc_17 : ¬ (mn1 = mn2)) (hc_18 : -9223372036854775808 ≤ (j : Int) + 1 ∧ (j : Int) + (1 : Int) ≤ 9223372036854775807) :
    Runs Try.prog 1 117 (loopAt Try.prog 8 1) [(0, .slice o N c), (7, .slice oa N ca), (8, .int .i64 i), (33, .int .i64 N), (34, .int .i64 i), (38, .int .i64 N), (39, .int .i64 j)] (AHeap.rows 40 [(0, b), (9, .made z 1 true)]) .normal [(0, .slice o N c), (7, .slice oa N ca), (8, .int .i64 (i : Int)), (33, .int .i64 (N : Int)), (34, .int .i64 (i : Int)), (38, .int .i64 (N : Int)), (39, .int .i64 ((j : Int) + 1))] (AHeap.rows 123 [(0, b), (9, .made z 1 true), (51, (.made ([.agg [.int .i8 k1, .int .i64 n1, .int .i64 d1, .int .i64 mn1, .int .i64 mx1]]) 5 true)), (52, (.made ([.agg [.int .i8 k2, .int .i64 n2, .int .i64 d2, .int .i64 mn2, .int .i64 mx2]]) 5 true))]) :=
  ppath_runs env_ok mixed (hs := [.val 10000 (.bool true), .val 12002 (.ptr (some ⟨0, ver, off + i, 0, 5⟩)), .ld 12003 (.agg [.int .i8 k1, .int .i64 n1, .int .i64 d1, .int .i64 mn1, .int .i64 mx1]), .val 12006 (.ptr (some ⟨0, ver, off + j, 0, 5⟩)), .ld 12007 (.agg [.int .i8 k2, .int .i64 n2, .int .i64 d2, .int .i64 mn2, .int .i64 mx2]), .val 13002 (.bool true), .val 13006 (.ptr (some ⟨9, 0, i, 0, 1⟩)), .ld 13007 (.int .i64 x), .val 13010 (.ptr (some ⟨9, 0, j, 0, 1⟩)), .ld 13011 (.int .i64 y), .go 13012, .val 13013 (.bool false), .val 15002 (.bool true), .val 15006 (.bool true), .val 15010 (.bool true), .val 15014 (.bool true), .val 16006 (.bool false), .go 18000]) (keep := [0, 7, 8, 33, 34, 38, 39]) (by kernel_rfl) (All.cons (okT hc_0) (All.cons hc_1 (All.cons hc_2 (All.cons hc_3 (All.cons hc_4 (All.cons (congrArg (fun q => some (AVal.bool q)) hc_5) (All.cons hc_6 (All.cons hc_7 (All.cons hc_8 (All.cons hc_9 (All.cons hc_10 (All.cons (okF hc_11) (All.cons (eqT hc_12) (All.cons (eqT hc_13) (All.cons (CallT.mk hc_14) (All.cons (CallT.mk hc_15) (All.cons (show Agree [.agg [.int .i8 k1, .int .i64 n1, .int .i64 d1, .int .i64 mn1, .int .i64 mx1]] [.agg [.int .i8 k2, .int .i64 n2, .int .i64 d2, .int .i64 mn2, .int .i64 mx2]] (AHeap.rows 87 [(0, b), (9, .made z 1 true), (51, (.made ([.agg [.int .i8 k1, .int .i64 n1, .int .i64 d1, .int .i64 mn1, .int .i64 mx1]]) 5 true)), (52, (.made ([.agg [.int .i8 k2, .int .i64 n2, .int .i64 d2, .int .i64 mn2, .int .i64 mx2]]) 5 true))]) (AHeap.rows 87 [(0, b), (9, .made z 1 true), (51, (.made ([.agg [.int .i8 k1, .int .i64 n1, .int .i64 d1, .int .i64 mn1, .int .i64 mx1]]) 5 true)), (52, (.made ([.agg [.int .i8 k2, .int .i64 n2, .int .i64 d2, .int .i64 mn2, .int .i64 mx2]]) 5 true))]) (AVal.bool true) (AVal.bool true) (AHeap.rows 87 [(0, b), (9, .made z 1 true), (51, (.made ([.agg [.int .i8 k1, .int .i64 n1, .int .i64 d1, .int .i64 mn1, .int .i64 mx1]]) 5 true)), (52, (.made ([.agg [.int .i8 k2, .int .i64 n2, .int .i64 d2, .int .i64 mn2, .int .i64 mx2]]) 5 true))]) (AHeap.rows 87 [(0, b), (9, .made z 1 true), (51, (.made ([.agg [.int .i8 k1, .int .i64 n1, .int .i64 d1, .int .i64 mn1, .int .i64 mx1]]) 5 true)), (52, (.made ([.agg [.int .i8 k2, .int .i64 n2, .int .i64 d2, .int .i64 mn2, .int .i64 mx2]]) 5 true))]) from ⟨by intro hh _; first | (simp at hh; done) | (simp at hh; simp [hh]) | exact ⟨rfl, rfl⟩⟩) (All.cons (eqF hc_17) (All.cons hc_18 (All.nil))))))))))))))))))))

theorem or_TP (N c ca ver off i j : Nat) (o oa : Option AAddr) (b : ABlk) (z : List AVal) (k1 n1 d1 mn1 mx1 k2 n2 d2 mn2 mx2 x y : Int) (hc_0 : (j : Int) < (N : Int)) (hc_1 : aindexAddr (AEnv.D env) 26 (.slice o N c) (.int .i64 (i : Int)) = some (.ptr (some ⟨0, ver, off + i, 0, 5⟩))) (hc_2 : ABlk.elem? b ver (off + i) = some (.agg [.int .i8 k1, .int .i64 n1, .int .i64 d1, .int .i64 mn1, .int .i64 mx1])) (hc_3 : aindexAddr (AEnv.D env) 26 (.slice o N c) (.int .i64 (j : Int)) = some (.ptr (some ⟨0, ver, off + j, 0, 5⟩))) (hc_4 : ABlk.elem? b ver (off + j) = some (.agg [.int .i8 k2, .int .i64 n2, .int .i64 d2, .int .i64 mn2, .int .i64 mx2])) (hc_5 : (k1 == k2 && (n1 == n2 && (d1 == d2 && (mn1 == mn2 && (mx1 == mx2 && true))))) = true) (hc_6 : aindexAddr (AEnv.D env) 27 (.slice oa N ca) (.int .i64 (i : Int)) = some (.ptr (some ⟨9, 0, i, 0, 1⟩))) (hc_7 : ABlk.elem? (.made z 1 true) 0 i = some (.int .i64 x)) (hc_8 : aindexAddr (AEnv.D env) 27 (.slice oa N ca) (.int .i64 (j : Int)) = some (.ptr (some ⟨9, 0, j, 0, 1⟩))) (hc_9 : ABlk.elem? (.made z 1 true) 0 j = some (.int .i64 y)) (hc_10 : -9223372036854775808 ≤ x - y ∧ x - y ≤ 9223372036854775807) (hc_11 : ¬ (x - y > 1)) (hc_12 : k1 = 3) (hc_13 : k2 = 3) (hc_14 : FDoes Try.prog 12 [.agg [.int .i8 k1, .int .i64 n1, .int .i64 d1, .int .i64 mn1, .int .i64 mx1]] (AHeap.rows 87 [(0, b), (9, .made z 1 true), (51, (.made ([.agg [.int .i8 k1, .int .i64 n1, .int .i64 d1, .int .i64 mn1, .int .i64 mx1]]) 5 true)), (52, (.made ([.agg [.int .i8 k2, .int .i64 n2, .int .i64 d2, .int .i64 mn2, .int .i64 mx2]]) 5 true))]) (AVal.bool true) (AHeap.rows 87 [(0, b), (9, .made z 1 true), (51, (.made ([.agg [.int .i8 k1, .int .i64 n1, .int .i64 d1, .int .i64 mn1, .int .i64 mx1]]) 5 true)), (52, (.made ([.agg [.int .i8 k2, .int .i64 n2, .int .i64 d2, .int .i64 mn2, .int .i64 mx2]]) 5 true))])) (hc_15 : FDoes Try.prog 12 [.agg [.int .i8 k2, .int .i64 n2, .int .i64 d2, .int .i64 mn2, .int .i64 mx2]] (AHeap.rows 87 [(0, b), (9, .made z 1 true), (51, (.made ([.agg [.int .i8 k1, .int .i64 n1, .int .i64 d1, .int .i64 mn1, .int .i64 mx1]]) 5 true)), (52, (.made ([.agg [.int .i8 k2, .int .i64 n2, .int .i64 d2, .int .i64 mn2, .int .i64 mx2]]) 5 true))]) (AVal.bool true) (AHeap.rows 87 [(0, b), (9, .made z 1 true), (51, (.made ([.agg [.int .i8 k1, .int .i64 n1, .int .i64 d1, .int .i64 mn1, .int .i64 mx1]]) 5 true)), (52, (.made ([.agg [.int .i8 k2, .int .i64 n2, .int .i64 d2, .int .i64 mn2, .int .i64 mx2]]) 5 true))])) (hc_17 : mn1 = mn2) (hc_18 : ¬ (mx1 = mx2)) (hc_19 : -9223372036854775808 ≤ (j : Int) + 1 ∧ (j : Int) + (1 : Int) ≤ 9223372036854775807) :
    Runs Try.prog 1 117 (loopAt Try.prog 8 1) [(0, .slice o N c), (7, .slice oa N ca), (8, .int .i64 i), (33, .int .i64 N), (34, .int .i64 i), (38, .int .i64 N), (39, .int .i64 j)] (AHeap.rows 40 [(0, b), (9, .made z 1 true)]) .normal [(0, .slice o N c), (7, .slice oa N ca), (8, .int .i64 (i : Int)), (33, .int .i64 (N : Int)), (34, .int .i64 (i : Int)), (38, .int .i64 (N : Int)), (39, .int .i64 ((j : Int) + 1))] (AHeap.rows 123 [(0, b), (9, .made z 1 true), (51, (.made ([.agg [.int .i8 k1, .int .i64 n1, .int .i64 d1, .int .i64 mn1, .int .i64 mx1]]) 5 true)), (52, (.made ([.agg [.int .i8 k2, .int .i64 n2, .int .i64 d2, .int .i64 mn2, .int .i64 mx2]]) 5 true))]) :=
  ppath_runs env_ok mixed (hs := [.val 10000 (.bool true), .val 12002 (.ptr (some ⟨0, ver, off + i, 0, 5⟩)), .ld 12003 (.agg [.int .i8 k1, .int .i64 n1, .int .i64 d1, .int .i64 mn1, .int .i64 mx1]), .val 12006 (.ptr (some ⟨0, ver, off + j, 0, 5⟩)), .ld 12007 (.agg [.int .i8 k2, .int .i64 n2, .int .i64 d2, .int .i64 mn2, .int .i64 mx2]), .val 13002 (.bool true), .val 13006 (.ptr (some ⟨9, 0, i, 0, 1⟩)), .ld 13007 (.int .i64 x), .val 13010 (.ptr (some ⟨9, 0, j, 0, 1⟩)), .ld 13011 (.int .i64 y), .go 13012, .val 13013 (.bool false), .val 15002 (.bool true), .val 15006 (.bool true), .val 15010 (.bool true), .val 15014 (.bool true), .val 16006 (.bool true), .val 16013 (.bool false), .go 18000]) (keep := [0, 7, 8, 33, 34, 38, 39]) (by kernel_rfl) (All.cons (okT hc_0) (All.cons hc_1 (All.cons hc_2 (All.cons hc_3 (All.cons hc_4 (All.cons (congrArg (fun q => some (AVal.bool q)) hc_5) (All.cons hc_6 (All.cons hc_7 (All.cons hc_8 (All.cons hc_9 (All.cons hc_10 (All.cons (okF hc_11) (All.cons (eqT hc_12) (All.cons (eqT hc_13) (All.cons (CallT.mk hc_14) (All.cons (CallT.mk hc_15) (All.cons (show Agree [.agg [.int .i8 k1, .int .i64 n1, .int .i64 d1, .int .i64 mn1, .int .i64 mx1]] [.agg [.int .i8 k2, .int .i64 n2, .int .i64 d2, .int .i64 mn2, .int .i64 mx2]] (AHeap.rows 87 [(0, b), (9, .made z 1 true), (51, (.made ([.agg [.int .i8 k1, .int .i64 n1, .int .i64 d1, .int .i64 mn1, .int .i64 mx1]]) 5 true)), (52, (.made ([.agg [.int .i8 k2, .int .i64 n2, .int .i64 d2, .int .i64 mn2, .int .i64 mx2]]) 5 true))]) (AHeap.rows 87 [(0, b), (9, .made z 1 true), (51, (.made ([.agg [.int .i8 k1, .int .i64 n1, .int .i64 d1, .int .i64 mn1, .int .i64 mx1]]) 5 true)), (52, (.made ([.agg [.int .i8 k2, .int .i64 n2, .int .i64 d2, .int .i64 mn2, .int .i64 mx2]]) 5 true))]) (AVal.bool true) (AVal.bool true) (AHeap.rows 87 [(0, b), (9, .made z 1 true), (51, (.made ([.agg [.int .i8 k1, .int .i64 n1, .int .i64 d1, .int .i64 mn1, .int .i64 mx1]]) 5 true)), (52, (.made ([.agg [.int .i8 k2, .int .i64 n2, .int .i64 d2, .int .i64 mn2, .int .i64 mx2]]) 5 true))]) (AHeap.rows 87 [(0, b), (9, .made z 1 true), (51, (.made ([.agg [.int .i8 k1, .int .i64 n1, .int .i64 d1, .int .i64 mn1, .int .i64 mx1]]) 5 true)), (52, (.made ([.agg [.int .i8 k2, .int .i64 n2, .int .i64 d2, .int .i64 mn2, .int .i64 mx2]]) 5 true))]) from ⟨by intro hh _; first | (simp at hh; done) | (simp at hh; simp [hh]) | exact ⟨rfl, rfl⟩⟩) (All.cons (eqT hc_17) (All.cons (eqF hc_18) (All.cons hc_19 (All.nil)))))))))))))))))))))

theorem or_TQ (N c ca ver off i j : Nat) (o oa : Option AAddr) (b : ABlk) (z : List AVal) (k1 n1 d1 mn1 mx1 k2 n2 d2 mn2 mx2 x y : Int) (hc_0 : (j : Int) < (N : Int)) (hc_1 : aindexAddr (AEnv.D env) 26 (.slice o N c) (.int .i64 (i : Int)) = some (.ptr (some ⟨0, ver, off + i, 0, 5⟩))) (hc_2 : ABlk.elem? b ver (off + i) = some (.agg [.int .i8 k1, .int .i64 n1, .int .i64 d1, .int .i64 mn1, .int .i64 mx1])) (hc_3 : aindexAddr (AEnv.D env) 26 (.slice o N c) (.int .i64 (j : Int)) = some (.ptr (some ⟨0, ver, off + j, 0, 5⟩))) (hc_4 : ABlk.elem? b ver (off + j) = some (.agg [.int .i8 k2, .int .i64 n2, .int .i64 d2, .int .i64 mn2, .int .i64 mx2])) (hc_5 : (k1 == k2 && (n1 == n2 && (d1 == d2 && (mn1 == mn2 && (mx1 == mx2 && true))))) = true) (hc_6 : aindexAddr (AEnv.D env) 27 (.slice oa N ca) (.int .i64 (i : Int)) = some (.ptr (some ⟨9, 0, i, 0, 1⟩))) (hc_7 : ABlk.elem? (.made z 1 true) 0 i = some (.int .i64 x)) (hc_8 : aindexAddr (AEnv.D env) 27 (.slice oa N ca) (.int .i64 (j : Int)) = some (.ptr (some ⟨9, 0, j, 0, 1⟩))) (hc_9 : ABlk.elem? (.made z 1 true) 0 j = some (.int .i64 y)) (hc_10 : -9223372036854775808 ≤ x - y ∧ x - y ≤ 9223372036854775807) (hc_11 : ¬ (x - y > 1)) (hc_12 : k1 = 3) (hc_13 : k2 = 3) (hc_14 : FDoes Try.prog 12 [.agg [.int .i8 k1, .int .i64 n1, .int .i64 d1, .int .i64 mn1, .int .i64 mx1]] (AHeap.rows 87 [(0, b), (9, .made z 1 true), (51, (.made ([.agg [.int .i8 k1, .int .i64 n1, .int .i64 d1, .int .i64 mn1, .int .i64 mx1]]) 5 true)), (52, (.made ([.agg [.int .i8 k2, .int .i64 n2, .int .i64 d2, .int .i64 mn2, .int .i64 mx2]]) 5 true))]) (AVal.bool true) (AHeap.rows 87 [(0, b), (9, .made z 1 true), (51, (.made ([.agg [.int .i8 k1, .int .i64 n1, .int .i64 d1, .int .i64 mn1, .int .i64 mx1]]) 5 true)), (52, (.made ([.agg [.int .i8 k2, .int .i64 n2, .int .i64 d2, .int .i64 mn2, .int .i64 mx2]]) 5 true))])) (hc_15 : FDoes Try.prog 12 [.agg [.int .i8 k2, .int .i64 n2, .int .i64 d2, .int .i64 mn2, .int .i64 mx2]] (AHeap.rows 87 [(0, b), (9, .made z 1 true), (51, (.made ([.agg [.int .i8 k1, .int .i64 n1, .int .i64 d1, .int .i64 mn1, .int .i64 mx1]]) 5 true)), (52, (.made ([.agg [.int .i8 k2, .int .i64 n2, .int .i64 d2, .int .i64 mn2, .int .i64 mx2]]) 5 true))]) (AVal.bool true) (AHeap.rows 87 [(0, b), (9, .made z 1 true), (51, (.made ([.agg [.int .i8 k1, .int .i64 n1, .int .i64 d1, .int .i64 mn1, .int .i64 mx1]]) 5 true)), (52, (.made ([.agg [.int .i8 k2, .int .i64 n2, .int .i64 d2, .int .i64 mn2, .int .i64 mx2]]) 5 true))])) (hc_17 : mn1 = mn2) (hc_18 : mx1 = mx2) (hc_19 : ¬ (n1 ≥ n2)) (hc_20 : -9223372036854775808 ≤ (j : Int) + 1 ∧ (j : Int) + (1 : Int) ≤ 9223372036854775807) :
    Runs Try.prog 1 117 (loopAt Try.prog 8 1) [(0, .slice o N c), (7, .slice oa N ca), (8, .int .i64 i), (33, .int .i64 N), (34, .int .i64 i), (38, .int .i64 N), (39, .int .i64 j)] (AHeap.rows 40 [(0, b), (9, .made z 1 true)]) .normal [(0, .slice o N c), (7, .slice oa N ca), (8, .int .i64 (i : Int)), (33, .int .i64 (N : Int)), (34, .int .i64 (i : Int)), (38, .int .i64 (N : Int)), (39, .int .i64 ((j : Int) + 1))] (AHeap.rows 123 [(0, b), (9, .made z 1 true), (51, (.made ([.agg [.int .i8 k1, .int .i64 n1, .int .i64 d1, .int .i64 mn1, .int .i64 mx1]]) 5 true)), (52, (.made ([.agg [.int .i8 k2, .int .i64 n2, .int .i64 d2, .int .i64 mn2, .int .i64 mx2]]) 5 true))]) :=
  ppath_runs env_ok mixed (hs := [.val 10000 (.bool true), .val 12002 (.ptr (some ⟨0, ver, off + i, 0, 5⟩)), .ld 12003 (.agg [.int .i8 k1, .int .i64 n1, .int .i64 d1, .int .i64 mn1, .int .i64 mx1]), .val 12006 (.ptr (some ⟨0, ver, off + j, 0, 5⟩)), .ld 12007 (.agg [.int .i8 k2, .int .i64 n2, .int .i64 d2, .int .i64 mn2, .int .i64 mx2]), .val 13002 (.bool true), .val 13006 (.ptr (some ⟨9, 0, i, 0, 1⟩)), .ld 13007 (.int .i64 x), .val 13010 (.ptr (some ⟨9, 0, j, 0, 1⟩)), .ld 13011 (.int .i64 y), .go 13012, .val 13013 (.bool false), .val 15002 (.bool true), .val 15006 (.bool true), .val 15010 (.bool true), .val 15014 (.bool true), .val 16006 (.bool true), .val 16013 (.bool true), .val 16020 (.bool false), .go 18000]) (keep := [0, 7, 8, 33, 34, 38, 39]) (by kernel_rfl) (All.cons (okT hc_0) (All.cons hc_1 (All.cons hc_2 (All.cons hc_3 (All.cons hc_4 (All.cons (congrArg (fun q => some (AVal.bool q)) hc_5) (All.cons hc_6 (All.cons hc_7 (All.cons hc_8 (All.cons hc_9 (All.cons hc_10 (All.cons (okF hc_11) (All.cons (eqT hc_12) (All.cons (eqT hc_13) (All.cons (CallT.mk hc_14) (All.cons (CallT.mk hc_15) (All.cons (show Agree [.agg [.int .i8 k1, .int .i64 n1, .int .i64 d1, .int .i64 mn1, .int .i64 mx1]] [.agg [.int .i8 k2, .int .i64 n2, .int .i64 d2, .int .i64 mn2, .int .i64 mx2]] (AHeap.rows 87 [(0, b), (9, .made z 1 true), (51, (.made ([.agg [.int .i8 k1, .int .i64 n1, .int .i64 d1, .int .i64 mn1, .int .i64 mx1]]) 5 true)), (52, (.made ([.agg [.int .i8 k2, .int .i64 n2, .int .i64 d2, .int .i64 mn2, .int .i64 mx2]]) 5 true))]) (AHeap.rows 87 [(0, b), (9, .made z 1 true), (51, (.made ([.agg [.int .i8 k1, .int .i64 n1, .int .i64 d1, .int .i64 mn1, .int .i64 mx1]]) 5 true)), (52, (.made ([.agg [.int .i8 k2, .int .i64 n2, .int .i64 d2, .int .i64 mn2, .int .i64 mx2]]) 5 true))]) (AVal.bool true) (AVal.bool true) (AHeap.rows 87 [(0, b), (9, .made z 1 true), (51, (.made ([.agg [.int .i8 k1, .int .i64 n1, .int .i64 d1, .int .i64 mn1, .int .i64 mx1]]) 5 true)), (52, (.made ([.agg [.int .i8 k2, .int .i64 n2, .int .i64 d2, .int .i64 mn2, .int .i64 mx2]]) 5 true))]) (AHeap.rows 87 [(0, b), (9, .made z 1 true), (51, (.made ([.agg [.int .i8 k1, .int .i64 n1, .int .i64 d1, .int .i64 mn1, .int .i64 mx1]]) 5 true)), (52, (.made ([.agg [.int .i8 k2, .int .i64 n2, .int .i64 d2, .int .i64 mn2, .int .i64 mx2]]) 5 true))]) from ⟨by intro hh _; first | (simp at hh; done) | (simp at hh; simp [hh]) | exact ⟨rfl, rfl⟩⟩) (All.cons (eqT hc_17) (All.cons (eqT hc_18) (All.cons (okF hc_19) (All.cons hc_20 (All.nil))))))))))))))))))))))

theorem or_TR (N c ca ver off i j : Nat) (o oa : Option AAddr) (b : ABlk) (z : List AVal) (k1 n1 d1 mn1 mx1 k2 n2 d2 mn2 mx2 x y : Int) (hc_0 : (j : Int) < (N : Int)) (hc_1 : aindexAddr (AEnv.D env) 26 (.slice o N c) (.int .i64 (i : Int)) = some (.ptr (some ⟨0, ver, off + i, 0, 5⟩))) (hc_2 : ABlk.elem? b ver (off + i) = some (.agg [.int .i8 k1, .int .i64 n1, .int .i64 d1, .int .i64 mn1, .int .i64 mx1])) (hc_3 : aindexAddr (AEnv.D env) 26 (.slice o N c) (.int .i64 (j : Int)) = some (.ptr (some ⟨0, ver, off + j, 0, 5⟩))) (hc_4 : ABlk.elem? b ver (off + j) = some (.agg [.int .i8 k2, .int .i64 n2, .int .i64 d2, .int .i64 mn2, .int .i64 mx2])) (hc_5 : (k1 == k2 && (n1 == n2 && (d1 == d2 && (mn1 == mn2 && (mx1 == mx2 && true))))) = true) (hc_6 : aindexAddr (AEnv.D env) 27 (.slice oa N ca) (.int .i64 (i : Int)) = some (.ptr (some ⟨9, 0, i, 0, 1⟩))) (hc_7 : ABlk.elem? (.made z 1 true) 0 i = some (.int .i64 x)) (hc_8 : aindexAddr (AEnv.D env) 27 (.slice oa N ca) (.int .i64 (j : Int)) = some (.ptr (some ⟨9, 0, j, 0, 1⟩))) (hc_9 : ABlk.elem? (.made z 1 true) 0 j = some (.int .i64 y)) (hc_10 : -9223372036854775808 ≤ x - y ∧ x - y ≤ 9223372036854775807) (hc_11 : ¬ (x - y > 1)) (hc_12 : k1 = 3) (hc_13 : k2 = 3) (hc_14 : FDoes Try.prog 12 [.agg [.int .i8 k1, .int .i64 n1, .int .i64 d1, .int .i64 mn1, .int .i64 mx1]] (AHeap.rows 87 [(0, b), (9, .made z 1 true), (51, (.made ([.agg [.int .i8 k1, .int .i64 n1, .int .i64 d1, .int .i64 mn1, .int .i64 mx1]]) 5 true)), (52, (.made ([.agg [.int .i8 k2, .int .i64 n2, .int .i64 d2, .int .i64 mn2, .int .i64 mx2]]) 5 true))]) (AVal.bool true) (AHeap.rows 87 [(0, b), (9, .made z 1 true), (51, (.made ([.agg [.int .i8 k1, .int .i64 n1, .int .i64 d1, .int .i64 mn1, .int .i64 mx1]]) 5 true)), (52, (.made ([.agg [.int .i8 k2, .int .i64 n2, .int .i64 d2, .int .i64 mn2, .int .i64 mx2]]) 5 true))])) (hc_15 : FDoes Try.prog 12 [.agg [.int .i8 k2, .int .i64 n2, .int .i64 d2, .int .i64 mn2, .int .i64 mx2]] (AHeap.rows 87 [(0, b), (9, .made z 1 true), (51, (.made ([.agg [.int .i8 k1, .int .i64 n1, .int .i64 d1, .int .i64 mn1, .int .i64 mx1]]) 5 true)), (52, (.made ([.agg [.int .i8 k2, .int .i64 n2, .int .i64 d2, .int .i64 mn2, .int .i64 mx2]]) 5 true))]) (AVal.bool true) (AHeap.rows 87 [(0, b), (9, .made z 1 true), (51, (.made ([.agg [.int .i8 k1, .int .i64 n1, .int .i64 d1, .int .i64 mn1, .int .i64 mx1]]) 5 true)), (52, (.made ([.agg [.int .i8 k2, .int .i64 n2, .int .i64 d2, .int .i64 mn2, .int .i64 mx2]]) 5 true))])) (hc_17 : mn1 = mn2) (hc_18 : mx1 = mx2) (hc_19 : n1 ≥ n2) (hc_20 : aindexAddr (AEnv.D env) 27 (.slice oa N ca) (.int .i64 (j : Int)) = some (.ptr (some ⟨9, 0, j, 0, 1⟩))) (hc_21 : ABlk.elem? (.made z 1 true) 0 j = some (.int .i64 y)) (hc_22 : aindexAddr (AEnv.D env) 27 (.slice oa N ca) (.int .i64 (i : Int)) = some (.ptr (some ⟨9, 0, i, 0, 1⟩))) (hc_23 : ABlk.elem? (.made z 1 true) 0 i = some (.int .i64 x)) (hc_24 : -9223372036854775808 ≤ y - x ∧ y - x ≤ 9223372036854775807) (hc_25 : ¬ (y - x > 1)) (hc_26 : -9223372036854775808 ≤ (j : Int) + 1 ∧ (j : Int) + (1 : Int) ≤ 9223372036854775807) :
    Runs Try.prog 1 117 (loopAt Try.prog 8 1) [(0, .slice o N c), (7, .slice oa N ca), (8, .int .i64 i), (33, .int .i64 N), (34, .int .i64 i), (38, .int .i64 N), (39, .int .i64 j)] (AHeap.rows 40 [(0, b), (9, .made z 1 true)]) .normal [(0, .slice o N c), (7, .slice oa N ca), (8, .int .i64 (i : Int)), (33, .int .i64 (N : Int)), (34, .int .i64 (i : Int)), (38, .int .i64 (N : Int)), (39, .int .i64 ((j : Int) + 1))] (AHeap.rows 123 [(0, b), (9, .made z 1 true), (51, (.made ([.agg [.int .i8 k1, .int .i64 n1, .int .i64 d1, .int .i64 mn1, .int .i64 mx1]]) 5 true)), (52, (.made ([.agg [.int .i8 k2, .int .i64 n2, .int .i64 d2, .int .i64 mn2, .int .i64 mx2]]) 5 true))]) :=
  ppath_runs env_ok mixed (hs := [.val 10000 (.bool true), .val 12002 (.ptr (some ⟨0, ver, off + i, 0, 5⟩)), .ld 12003 (.agg [.int .i8 k1, .int .i64 n1, .int .i64 d1, .int .i64 mn1, .int .i64 mx1]), .val 12006 (.ptr (some ⟨0, ver, off + j, 0, 5⟩)), .ld 12007 (.agg [.int .i8 k2, .int .i64 n2, .int .i64 d2, .int .i64 mn2, .int .i64 mx2]), .val 13002 (.bool true), .val 13006 (.ptr (some ⟨9, 0, i, 0, 1⟩)), .ld 13007 (.int .i64 x), .val 13010 (.ptr (some ⟨9, 0, j, 0, 1⟩)), .ld 13011 (.int .i64 y), .go 13012, .val 13013 (.bool false), .val 15002 (.bool true), .val 15006 (.bool true), .val 15010 (.bool true), .val 15014 (.bool true), .val 16006 (.bool true), .val 16013 (.bool true), .val 16020 (.bool true), .val 16025 (.ptr (some ⟨9, 0, j, 0, 1⟩)), .ld 16026 (.int .i64 y), .val 16029 (.ptr (some ⟨9, 0, i, 0, 1⟩)), .ld 16030 (.int .i64 x), .go 16031, .val 16032 (.bool false), .go 18000]) (keep := [0, 7, 8, 33, 34, 38, 39]) (by kernel_rfl) (All.cons (okT hc_0) (All.cons hc_1 (All.cons hc_2 (All.cons hc_3 (All.cons hc_4 (All.cons (congrArg (fun q => some (AVal.bool q)) hc_5) (All.cons hc_6 (All.cons hc_7 (All.cons hc_8 (All.cons hc_9 (All.cons hc_10 (All.cons (okF hc_11) (All.cons (eqT hc_12) (All.cons (eqT hc_13) (All.cons (CallT.mk hc_14) (All.cons (CallT.mk hc_15) (All.cons (show Agree [.agg [.int .i8 k1, .int .i64 n1, .int .i64 d1, .int .i64 mn1, .int .i64 mx1]] [.agg [.int .i8 k2, .int .i64 n2, .int .i64 d2, .int .i64 mn2, .int .i64 mx2]] (AHeap.rows 87 [(0, b), (9, .made z 1 true), (51, (.made ([.agg [.int .i8 k1, .int .i64 n1, .int .i64 d1, .int .i64 mn1, .int .i64 mx1]]) 5 true)), (52, (.made ([.agg [.int .i8 k2, .int .i64 n2, .int .i64 d2, .int .i64 mn2, .int .i64 mx2]]) 5 true))]) (AHeap.rows 87 [(0, b), (9, .made z 1 true), (51, (.made ([.agg [.int .i8 k1, .int .i64 n1, .int .i64 d1, .int .i64 mn1, .int .i64 mx1]]) 5 true)), (52, (.made ([.agg [.int .i8 k2, .int .i64 n2, .int .i64 d2, .int .i64 mn2, .int .i64 mx2]]) 5 true))]) (AVal.bool true) (AVal.bool true) (AHeap.rows 87 [(0, b), (9, .made z 1 true), (51, (.made ([.agg [.int .i8 k1, .int .i64 n1, .int .i64 d1, .int .i64 mn1, .int .i64 mx1]]) 5 true)), (52, (.made ([.agg [.int .i8 k2, .int .i64 n2, .int .i64 d2, .int .i64 mn2, .int .i64 mx2]]) 5 true))]) (AHeap.rows 87 [(0, b), (9, .made z 1 true), (51, (.made ([.agg [.int .i8 k1, .int .i64 n1, .int .i64 d1, .int .i64 mn1, .int .i64 mx1]]) 5 true)), (52, (.made ([.agg [.int .i8 k2, .int .i64 n2, .int .i64 d2, .int .i64 mn2, .int .i64 mx2]]) 5 true))]) from ⟨by intro hh _; first | (simp at hh; done) | (simp at hh; simp [hh]) | exact ⟨rfl, rfl⟩⟩) (All.cons (eqT hc_17) (All.cons (eqT hc_18) (All.cons (okT hc_19) (All.cons hc_20 (All.cons hc_21 (All.cons hc_22 (All.cons hc_23 (All.cons hc_24 (All.cons (okF hc_25) (All.cons hc_26 (All.nil))))))))))))))))))))))))))))

theorem or_FK (N c ca ver off i j : Nat) (o oa : Option AAddr) (b : ABlk) (z : List AVal) (k1 n1 d1 mn1 mx1 k2 n2 d2 mn2 mx2 x y : Int) (hc_0 : (j : Int) < (N : Int)) (hc_1 : aindexAddr (AEnv.D env) 26 (.slice o N c) (.int .i64 (i : Int)) = some (.ptr (some ⟨0, ver, off + i, 0, 5⟩))) (hc_2 : ABlk.elem? b ver (off + i) = some (.agg [.int .i8 k1, .int .i64 n1, .int .i64 d1, .int .i64 mn1, .int .i64 mx1])) (hc_3 : aindexAddr (AEnv.D env) 26 (.slice o N c) (.int .i64 (j : Int)) = some (.ptr (some ⟨0, ver, off + j, 0, 5⟩))) (hc_4 : ABlk.elem? b ver (off + j) = some (.agg [.int .i8 k2, .int .i64 n2, .int .i64 d2, .int .i64 mn2, .int .i64 mx2])) (hc_5 : (k1 == k2 && (n1 == n2 && (d1 == d2 && (mn1 == mn2 && (mx1 == mx2 && true))))) = false) (hc_6 : ¬ (k1 = 3)) (hc_7 : -9223372036854775808 ≤ (j : Int) + 1 ∧ (j : Int) + (1 : Int) ≤ 9223372036854775807) :
    Runs Try.prog 1 117 (loopAt Try.prog 8 1) [(0, .slice o N c), (7, .slice oa N ca), (8, .int .i64 i), (33, .int .i64 N), (34, .int .i64 i), (38, .int .i64 N), (39, .int .i64 j)] (AHeap.rows 40 [(0, b), (9, .made z 1 true)]) .normal [(0, .slice o N c), (7, .slice oa N ca), (8, .int .i64 (i : Int)), (33, .int .i64 (N : Int)), (34, .int .i64 (i : Int)), (38, .int .i64 (N : Int)), (39, .int .i64 ((j : Int) + 1))] (AHeap.rows 123 [(0, b), (9, .made z 1 true), (51, (.made ([.agg [.int .i8 k1, .int .i64 n1, .int .i64 d1, .int .i64 mn1, .int .i64 mx1]]) 5 true)), (52, (.made ([.agg [.int .i8 k2, .int .i64 n2, .int .i64 d2, .int .i64 mn2, .int .i64 mx2]]) 5 true))]) :=
  ppath_runs env_ok mixed (hs := [.val 10000 (.bool true), .val 12002 (.ptr (some ⟨0, ver, off + i, 0, 5⟩)), .ld 12003 (.agg [.int .i8 k1, .int .i64 n1, .int .i64 d1, .int .i64 mn1, .int .i64 mx1]), .val 12006 (.ptr (some ⟨0, ver, off + j, 0, 5⟩)), .ld 12007 (.agg [.int .i8 k2, .int .i64 n2, .int .i64 d2, .int .i64 mn2, .int .i64 mx2]), .val 13002 (.bool false), .val 15002 (.bool false), .go 18000]) (keep := [0, 7, 8, 33, 34, 38, 39]) (by kernel_rfl) (All.cons (okT hc_0) (All.cons hc_1 (All.cons hc_2 (All.cons hc_3 (All.cons hc_4 (All.cons (congrArg (fun q => some (AVal.bool q)) hc_5) (All.cons (eqF hc_6) (All.cons hc_7 (All.nil)))))))))

theorem or_FL (N c ca ver off i j : Nat) (o oa : Option AAddr) (b : ABlk) (z : List AVal) (k1 n1 d1 mn1 mx1 k2 n2 d2 mn2 mx2 x y : Int) (hc_0 : (j : Int) < (N : Int)) (hc_1 : aindexAddr (AEnv.D env) 26 (.slice o N c) (.int .i64 (i : Int)) = some (.ptr (some ⟨0, ver, off + i, 0, 5⟩))) (hc_2 : ABlk.elem? b ver (off + i) = some (.agg [.int .i8 k1, .int .i64 n1, .int .i64 d1, .int .i64 mn1, .int .i64 mx1])) (hc_3 : aindexAddr (AEnv.D env) 26 (.slice o N c) (.int .i64 (j : Int)) = some (.ptr (some ⟨0, ver, off + j, 0, 5⟩))) (hc_4 : ABlk.elem? b ver (off + j) = some (.agg [.int .i8 k2, .int .i64 n2, .int .i64 d2, .int .i64 mn2, .int .i64 mx2])) (hc_5 : (k1 == k2 && (n1 == n2 && (d1 == d2 && (mn1 == mn2 && (mx1 == mx2 && true))))) = false) (hc_6 : k1 = 3) (hc_7 : ¬ (k2 = 3)) (hc_8 : -9223372036854775808 ≤ (j : Int) + 1 ∧ (j : Int) + (1 : Int) ≤ 9223372036854775807) :
    Runs Try.prog 1 117 (loopAt Try.prog 8 1) [(0, .slice o N c), (7, .slice oa N ca), (8, .int .i64 i), (33, .int .i64 N), (34, .int .i64 i), (38, .int .i64 N), (39, .int .i64 j)] (AHeap.rows 40 [(0, b), (9, .made z 1 true)]) .normal [(0, .slice o N c), (7, .slice oa N ca), (8, .int .i64 (i : Int)), (33, .int .i64 (N : Int)), (34, .int .i64 (i : Int)), (38, .int .i64 (N : Int)), (39, .int .i64 ((j : Int) + 1))] (AHeap.rows 123 [(0, b), (9, .made z 1 true), (51, (.made ([.agg [.int .i8 k1, .int .i64 n1, .int .i64 d1, .int .i64 mn1, .int .i64 mx1]]) 5 true)), (52, (.made ([.agg [.int .i8 k2, .int .i64 n2, .int .i64 d2, .int .i64 mn2, .int .i64 mx2]]) 5 true))]) :=
  ppath_runs env_ok mixed (hs := [.val 10000 (.bool true), .val 12002 (.ptr (some ⟨0, ver, off + i, 0, 5⟩)), .ld 12003 (.agg [.int .i8 k1, .int .i64 n1, .int .i64 d1, .int .i64 mn1, .int .i64 mx1]), .val 12006 (.ptr (some ⟨0, ver, off + j, 0, 5⟩)), .ld 12007 (.agg [.int .i8 k2, .int .i64 n2, .int .i64 d2, .int .i64 mn2, .int .i64 mx2]), .val 13002 (.bool false), .val 15002 (.bool true), .val 15006 (.bool false), .go 18000]) (keep := [0, 7, 8, 33, 34, 38, 39]) (by kernel_rfl) (All.cons (okT hc_0) (All.cons hc_1 (All.cons hc_2 (All.cons hc_3 (All.cons hc_4 (All.cons (congrArg (fun q => some (AVal.bool q)) hc_5) (All.cons (eqT hc_6) (All.cons (eqF hc_7) (All.cons hc_8 (All.nil))))))))))

theorem or_FM (N c ca ver off i j : Nat) (o oa : Option AAddr) (b : ABlk) (z : List AVal) (k1 n1 d1 mn1 mx1 k2 n2 d2 mn2 mx2 x y : Int) (hc_0 : (j : Int) < (N : Int)) (hc_1 : aindexAddr (AEnv.D env) 26 (.slice o N c) (.int .i64 (i : Int)) = some (.ptr (some ⟨0, ver, off + i, 0, 5⟩))) (hc_2 : ABlk.elem? b ver (off + i) = some (.agg [.int .i8 k1, .int .i64 n1, .int .i64 d1, .int .i64 mn1, .int .i64 mx1])) (hc_3 : aindexAddr (AEnv.D env) 26 (.slice o N c) (.int .i64 (j : Int)) = some (.ptr (some ⟨0, ver, off + j, 0, 5⟩))) (hc_4 : ABlk.elem? b ver (off + j) = some (.agg [.int .i8 k2, .int .i64 n2, .int .i64 d2, .int .i64 mn2, .int .i64 mx2])) (hc_5 : (k1 == k2 && (n1 == n2 && (d1 == d2 && (mn1 == mn2 && (mx1 == mx2 && true))))) = false) (hc_6 : k1 = 3) (hc_7 : k2 = 3) (hc_8 : FDoes Try.prog 12 [.agg [.int .i8 k1, .int .i64 n1, .int .i64 d1, .int .i64 mn1, .int .i64 mx1]] (AHeap.rows 87 [(0, b), (9, .made z 1 true), (51, (.made ([.agg [.int .i8 k1, .int .i64 n1, .int .i64 d1, .int .i64 mn1, .int .i64 mx1]]) 5 true)), (52, (.made ([.agg [.int .i8 k2, .int .i64 n2, .int .i64 d2, .int .i64 mn2, .int .i64 mx2]]) 5 true))]) (AVal.bool false) (AHeap.rows 87 [(0, b), (9, .made z 1 true), (51, (.made ([.agg [.int .i8 k1, .int .i64 n1, .int .i64 d1, .int .i64 mn1, .int .i64 mx1]]) 5 true)), (52, (.made ([.agg [.int .i8 k2, .int .i64 n2, .int .i64 d2, .int .i64 mn2, .int .i64 mx2]]) 5 true))])) (hc_9 : -9223372036854775808 ≤ (j : Int) + 1 ∧ (j : Int) + (1 : Int) ≤ 9223372036854775807) :
    Runs Try.prog 1 117 (loopAt Try.prog 8 1) [(0, .slice o N c), (7, .slice oa N ca), (8, .int .i64 i), (33, .int .i64 N), (34, .int .i64 i), (38, .int .i64 N), (39, .int .i64 j)] (AHeap.rows 40 [(0, b), (9, .made z 1 true)]) .normal [(0, .slice o N c), (7, .slice oa N ca), (8, .int .i64 (i : Int)), (33, .int .i64 (N : Int)), (34, .int .i64 (i : Int)), (38, .int .i64 (N : Int)), (39, .int .i64 ((j : Int) + 1))] (AHeap.rows 123 [(0, b), (9, .made z 1 true), (51, (.made ([.agg [.int .i8 k1, .int .i64 n1, .int .i64 d1, .int .i64 mn1, .int .i64 mx1]]) 5 true)), (52, (.made ([.agg [.int .i8 k2, .int .i64 n2, .int .i64 d2, .int .i64 mn2, .int .i64 mx2]]) 5 true))]) :=
  ppath_runs env_ok mixed (hs := [.val 10000 (.bool true), .val 12002 (.ptr (some ⟨0, ver, off + i, 0, 5⟩)), .ld 12003 (.agg [.int .i8 k1, .int .i64 n1, .int .i64 d1, .int .i64 mn1, .int .i64 mx1]), .val 12006 (.ptr (some ⟨0, ver, off + j, 0, 5⟩)), .ld 12007 (.agg [.int .i8 k2, .int .i64 n2, .int .i64 d2, .int .i64 mn2, .int .i64 mx2]), .val 13002 (.bool false), .val 15002 (.bool true), .val 15006 (.bool true), .val 15010 (.bool false), .go 18000]) (keep := [0, 7, 8, 33, 34, 38, 39]) (by kernel_rfl) (All.cons (okT hc_0) (All.cons hc_1 (All.cons hc_2 (All.cons hc_3 (All.cons hc_4 (All.cons (congrArg (fun q => some (AVal.bool q)) hc_5) (All.cons (eqT hc_6) (All.cons (eqT hc_7) (All.cons (CallT.mk hc_8) (All.cons hc_9 (All.nil)))))))))))

theorem or_FN (N c ca ver off i j : Nat) (o oa : Option AAddr) (b : ABlk) (z : List AVal) (k1 n1 d1 mn1 mx1 k2 n2 d2 mn2 mx2 x y : Int) (hc_0 : (j : Int) < (N : Int)) (hc_1 : aindexAddr (AEnv.D env) 26 (.slice o N c) (.int .i64 (i : Int)) = some (.ptr (some ⟨0, ver, off + i, 0, 5⟩))) (hc_2 : ABlk.elem? b ver (off + i) = some (.agg [.int .i8 k1, .int .i64 n1, .int .i64 d1, .int .i64 mn1, .int .i64 mx1])) (hc_3 : aindexAddr (AEnv.D env) 26 (.slice o N c) (.int .i64 (j : Int)) = some (.ptr (some ⟨0, ver, off + j, 0, 5⟩))) (hc_4 : ABlk.elem? b ver (off + j) = some (.agg [.int .i8 k2, .int .i64 n2, .int .i64 d2, .int .i64 mn2, .int .i64 mx2])) (hc_5 : (k1 == k2 && (n1 == n2 && (d1 == d2 && (mn1 == mn2 && (mx1 == mx2 && true))))) = false) (hc_6 : k1 = 3) (hc_7 : k2 = 3) (hc_8 : FDoes Try.prog 12 [.agg [.int .i8 k1, .int .i64 n1, .int .i64 d1, .int .i64 mn1, .int .i64 mx1]] (AHeap.rows 87 [(0, b), (9, .made z 1 true), (51, (.made ([.agg [.int .i8 k1, .int .i64 n1, .int .i64 d1, .int .i64 mn1, .int .i64 mx1]]) 5 true)), (52, (.made ([.agg [.int .i8 k2, .int .i64 n2, .int .i64 d2, .int .i64 mn2, .int .i64 mx2]]) 5 true))]) (AVal.bool true) (AHeap.rows 87 [(0, b), (9, .made z 1 true), (51, (.made ([.agg [.int .i8 k1, .int .i64 n1, .int .i64 d1, .int .i64 mn1, .int .i64 mx1]]) 5 true)), (52, (.made ([.agg [.int .i8 k2, .int .i64 n2, .int .i64 d2, .int .i64 mn2, .int .i64 mx2]]) 5 true))])) (hc_9 : FDoes Try.prog 12 [.agg [.int .i8 k2, .int .i64 n2, .int .i64 d2, .int .i64 mn2, .int .i64 mx2]] (AHeap.rows 87 [(0, b), (9, .made z 1 true), (51, (.made ([.agg [.int .i8 k1, .int .i64 n1, .int .i64 d1, .int .i64 mn1, .int .i64 mx1]]) 5 true)), (52, (.made ([.agg [.int .i8 k2, .int .i64 n2, .int .i64 d2, .int .i64 mn2, .int .i64 mx2]]) 5 true))]) (AVal.bool false) (AHeap.rows 87 [(0, b), (9, .made z 1 true), (51, (.made ([.agg [.int .i8 k1, .int .i64 n1, .int .i64 d1, .int .i64 mn1, .int .i64 mx1]]) 5 true)), (52, (.made ([.agg [.int .i8 k2, .int .i64 n2, .int .i64 d2, .int .i64 mn2, .int .i64 mx2]]) 5 true))])) (hc_10 : Agree [.agg [.int .i8 k1, .int .i64 n1, .int .i64 d1, .int .i64 mn1, .int .i64 mx1]] [.agg [.int .i8 k2, .int .i64 n2, .int .i64 d2, .int .i64 mn2, .int .i64 mx2]] (AHeap.rows 87 [(0, b), (9, .made z 1 true), (51, (.made ([.agg [.int .i8 k1, .int .i64 n1, .int .i64 d1, .int .i64 mn1, .int .i64 mx1]]) 5 true)), (52, (.made ([.agg [.int .i8 k2, .int .i64 n2, .int .i64 d2, .int .i64 mn2, .int .i64 mx2]]) 5 true))]) (AHeap.rows 87 [(0, b), (9, .made z 1 true), (51, (.made ([.agg [.int .i8 k1, .int .i64 n1, .int .i64 d1, .int .i64 mn1, .int .i64 mx1]]) 5 true)), (52, (.made ([.agg [.int .i8 k2, .int .i64 n2, .int .i64 d2, .int .i64 mn2, .int .i64 mx2]]) 5 true))]) (AVal.bool true) (AVal.bool false) (AHeap.rows 87 [(0, b), (9, .made z 1 true), (51, (.made ([.agg [.int .i8 k1, .int .i64 n1, .int .i64 d1, .int .i64 mn1, .int .i64 mx1]]) 5 true)), (52, (.made ([.agg [.int .i8 k2, .int .i64 n2, .int .i64 d2, .int .i64 mn2, .int .i64 mx2]]) 5 true))]) (AHeap.rows 87 [(0, b), (9, .made z 1 true), (51, (.made ([.agg [.int .i8 k1, .int .i64 n1, .int .i64 d1, .int .i64 mn1, .int .i64 mx1]]) 5 true)), (52, (.made ([.agg [.int .i8 k2, .int .i64 n2, .int .i64 d2, .int .i64 mn2, .int .i64 mx2]]) 5 true))])) (hc_11 : -9223372036854775808 ≤ (j : Int) + 1 ∧ (j : Int) + (1 : Int) ≤ 9223372036854775807) :
    Runs Try.prog 1 117 (loopAt Try.prog 8 1) [(0, .slice o N c), (7, .slice oa N ca), (8, .int .i64 i), (33, .int .i64 N), (34, .int .i64 i), (38, .int .i64 N), (39, .int .i64 j)] (AHeap.rows 40 [(0, b), (9, .made z 1 true)]) .normal [(0, .slice o N c), (7, .slice oa N ca), (8, .int .i64 (i : Int)), (33, .int .i64 (N : Int)), (34, .int .i64 (i : Int)), (38, .int .i64 (N : Int)), (39, .int .i64 ((j : Int) + 1))] (AHeap.rows 123 [(0, b), (9, .made z 1 true), (51, (.made ([.agg [.int .i8 k1, .int .i64 n1, .int .i64 d1, .int .i64 mn1, .int .i64 mx1]]) 5 true)), (52, (.made ([.agg [.int .i8 k2, .int .i64 n2, .int .i64 d2, .int .i64 mn2, .int .i64 mx2]]) 5 true))]) :=
  ppath_runs env_ok mixed (hs := [.val 10000 (.bool true), .val 12002 (.ptr (some ⟨0, ver, off + i, 0, 5⟩)), .ld 12003 (.agg [.int .i8 k1, .int .i64 n1, .int .i64 d1, .int .i64 mn1, .int .i64 mx1]), .val 12006 (.ptr (some ⟨0, ver, off + j, 0, 5⟩)), .ld 12007 (.agg [.int .i8 k2, .int .i64 n2, .int .i64 d2, .int .i64 mn2, .int .i64 mx2]), .val 13002 (.bool false), .val 15002 (.bool true), .val 15006 (.bool true), .val 15010 (.bool true), .val 15014 (.bool false), .go 18000]) (keep := [0, 7, 8, 33, 34, 38, 39]) (by kernel_rfl) (All.cons (okT hc_0) (All.cons hc_1 (All.cons hc_2 (All.cons hc_3 (All.cons hc_4 (All.cons (congrArg (fun q => some (AVal.bool q)) hc_5) (All.cons (eqT hc_6) (All.cons (eqT hc_7) (All.cons (CallT.mk hc_8) (All.cons (CallT.mk hc_9) (All.cons hc_10 (All.cons hc_11 (All.nil)))))))))))))

theorem or_FO (N c ca ver off i j : Nat) (o oa : Option AAddr) (b : ABlk) (z : List AVal) (k1 n1 d1 mn1 mx1 k2 n2 d2 mn2 mx2 x y : Int) (hc_0 : (j : Int) < (N : Int)) (hc_1 : aindexAddr (AEnv.D env) 26 (.slice o N c) (.int .i64 (i : Int)) = some (.ptr (some ⟨0, ver, off + i, 0, 5⟩))) (hc_2 : ABlk.elem? b ver (off + i) = some (.agg [.int .i8 k1, .int .i64 n1, .int .i64 d1, .int .i64 mn1, .int .i64 mx1])) (hc_3 : aindexAddr (AEnv.D env) 26 (.slice o N c) (.int .i64 (j : Int)) = some (.ptr (some ⟨0, ver, off + j, 0, 5⟩))) (hc_4 : ABlk.elem? b ver (off + j) = some (.agg [.int .i8 k2, .int .i64 n2, .int .i64 d2, .int .i64 mn2, .int .i64 mx2])) (hc_5 : (k1 == k2 && (n1 == n2 && (d1 == d2 && (mn1 == mn2 && (mx1 == mx2 && true))))) = false) (hc_6 : k1 = 3) (hc_7 : k2 = 3) (hc_8 : FDoes Try.prog 12 [.agg [.int .i8 k1, .int .i64 n1, .int .i64 d1, .int .i64 mn1, .int .i64 mx1]] (AHeap.rows 87 [(0, b), (9, .made z 1 true), (51, (.made ([.agg [.int .i8 k1, .int .i64 n1, .int .i64 d1, .int .i64 mn1, .int .i64 mx1]]) 5 true)), (52, (.made ([.agg [.int .i8 k2, .int .i64 n2, .int .i64 d2, .int .i64 mn2, .int .i64 mx2]]) 5 true))]) (AVal.bool true) (AHeap.rows 87 [(0, b), (9, .made z 1 true), (51, (.made ([.agg [.int .i8 k1, .int .i64 n1, .int .i64 d1, .int .i64 mn1, .int .i64 mx1]]) 5 true)), (52, (.made ([.agg [.int .i8 k2, .int .i64 n2, .int .i64 d2, .int .i64 mn2, .int .i64 mx2]]) 5 true))])) (hc_9 : FDoes Try.prog 12 [.agg [.int .i8 k2, .int .i64 n2, .int .i64 d2, .int .i64 mn2, .int .i64 mx2]] (AHeap.rows 87 [(0, b), (9, .made z 1 true), (51, (.made ([.agg [.int .i8 k1, .int .i64 n1, .int .i64 d1, .int .i64 mn1, .int .i64 mx1]]) 5 true)), (52, (.made ([.agg [.int .i8 k2, .int .i64 n2, .int .i64 d2, .int .i64 mn2, .int .i64 mx2]]) 5 true))]) (AVal.bool true) (AHeap.rows 87 [(0, b), (9, .made z 1 true), (51, (.made ([.agg [.int .i8 k1, .int .i64 n1, .int .i64 d1, .int .i64 mn1, .int .i64 mx1]]) 5 true)), (52, (.made ([.agg [.int .i8 k2, .int .i64 n2, .int .i64 d2, .int .i64 mn2, .int .i64 mx2]]) 5 true))])) (hc_11 : ¬ (mn1 = mn2)) (hc_12 : -9223372036854775808 ≤ (j : Int) + 1 ∧ (j : Int) + (1 : Int) ≤ 9223372036854775807) :
    Runs Try.prog 1 117 (loopAt Try.prog 8 1) [(0, .slice o N c), (7, .slice oa N ca), (8, .int .i64 i), (33, .int .i64 N), (34, .int .i64 i), (38, .int .i64 N), (39, .int .i64 j)] (AHeap.rows 40 [(0, b), (9, .made z 1 true)]) .normal [(0, .slice o N c), (7, .slice oa N ca), (8, .int .i64 (i : Int)), (33, .int .i64 (N : Int)), (34, .int .i64 (i : Int)), (38, .int .i64 (N : Int)), (39, .int .i64 ((j : Int) + 1))] (AHeap.rows 123 [(0, b), (9, .made z 1 true), (51, (.made ([.agg [.int .i8 k1, .int .i64 n1, .int .i64 d1, .int .i64 mn1, .int .i64 mx1]]) 5 true)), (52, (.made ([.agg [.int .i8 k2, .int .i64 n2, .int .i64 d2, .int .i64 mn2, .int .i64 mx2]]) 5 true))]) :=
  ppath_runs env_ok mixed (hs := [.val 10000 (.bool true), .val 12002 (.ptr (some ⟨0, ver, off + i, 0, 5⟩)), .ld 12003 (.agg [.int .i8 k1, .int .i64 n1, .int .i64 d1, .int .i64 mn1, .int .i64 mx1]), .val 12006 (.ptr (some ⟨0, ver, off + j, 0, 5⟩)), .ld 12007 (.agg [.int .i8 k2, .int .i64 n2, .int .i64 d2, .int .i64 mn2, .int .i64 mx2]), .val 13002 (.bool false), .val 15002 (.bool true), .val 15006 (.bool true), .val 15010 (.bool true), .val 15014 (.bool true), .val 16006 (.bool false), .go 18000]) (keep := [0, 7, 8, 33, 34, 38, 39]) (by kernel_rfl) (All.cons (okT hc_0) (All.cons hc_1 (All.cons hc_2 (All.cons hc_3 (All.cons hc_4 (All.cons (congrArg (fun q => some (AVal.bool q)) hc_5) (All.cons (eqT hc_6) (All.cons (eqT hc_7) (All.cons (CallT.mk hc_8) (All.cons (CallT.mk hc_9) (All.cons (show Agree [.agg [.int .i8 k1, .int .i64 n1, .int .i64 d1, .int .i64 mn1, .int .i64 mx1]] [.agg [.int .i8 k2, .int .i64 n2, .int .i64 d2, .int .i64 mn2, .int .i64 mx2]] (AHeap.rows 87 [(0, b), (9, .made z 1 true), (51, (.made ([.agg [.int .i8 k1, .int .i64 n1, .int .i64 d1, .int .i64 mn1, .int .i64 mx1]]) 5 true)), (52, (.made ([.agg [.int .i8 k2, .int .i64 n2, .int .i64 d2, .int .i64 mn2, .int .i64 mx2]]) 5 true))]) (AHeap.rows 87 [(0, b), (9, .made z 1 true), (51, (.made ([.agg [.int .i8 k1, .int .i64 n1, .int .i64 d1, .int .i64 mn1, .int .i64 mx1]]) 5 true)), (52, (.made ([.agg [.int .i8 k2, .int .i64 n2, .int .i64 d2, .int .i64 mn2, .int .i64 mx2]]) 5 true))]) (AVal.bool true) (AVal.bool true) (AHeap.rows 87 [(0, b), (9, .made z 1 true), (51, (.made ([.agg [.int .i8 k1, .int .i64 n1, .int .i64 d1, .int .i64 mn1, .int .i64 mx1]]) 5 true)), (52, (.made ([.agg [.int .i8 k2, .int .i64 n2, .int .i64 d2, .int .i64 mn2, .int .i64 mx2]]) 5 true))]) (AHeap.rows 87 [(0, b), (9, .made z 1 true), (51, (.made ([.agg [.int .i8 k1, .int .i64 n1, .int .i64 d1, .int .i64 mn1, .int .i64 mx1]]) 5 true)), (52, (.made ([.agg [.int .i8 k2, .int .i64 n2, .int .i64 d2, .int .i64 mn2, .int .i64 mx2]]) 5 true))]) from ⟨by intro hh _; first | (simp at hh; done) | (simp at hh; simp [hh]) | exact ⟨rfl, rfl⟩⟩) (All.cons (eqF hc_11) (All.cons hc_12 (All.nil))))))))))))))

theorem or_FP (N c ca ver off i j : Nat) (o oa : Option AAddr) (b : ABlk) (z : List AVal) (k1 n1 d1 mn1 mx1 k2 n2 d2 mn2 mx2 x y : Int) (hc_0 : (j : Int) < (N : Int)) (hc_1 : aindexAddr (AEnv.D env) 26 (.slice o N c) (.int .i64 (i : Int)) = some (.ptr (some ⟨0, ver, off + i, 0, 5⟩))) (hc_2 : ABlk.elem? b ver (off + i) = some (.agg [.int .i8 k1, .int .i64 n1, .int .i64 d1, .int .i64 mn1, .int .i64 mx1])) (hc_3 : aindexAddr (AEnv.D env) 26 (.slice o N c) (.int .i64 (j : Int)) = some (.ptr (some ⟨0, ver, off + j, 0, 5⟩))) (hc_4 : ABlk.elem? b ver (off + j) = some (.agg [.int .i8 k2, .int .i64 n2, .int .i64 d2, .int .i64 mn2, .int .i64 mx2])) (hc_5 : (k1 == k2 && (n1 == n2 && (d1 == d2 && (mn1 == mn2 && (mx1 == mx2 && true))))) = false) (hc_6 : k1 = 3) (hc_7 : k2 = 3) (hc_8 : FDoes Try.prog 12 [.agg [.int .i8 k1, .int .i64 n1, .int .i64 d1, .int .i64 mn1, .int .i64 mx1]] (AHeap.rows 87 [(0, b), (9, .made z 1 true), (51, (.made ([.agg [.int .i8 k1, .int .i64 n1, .int .i64 d1, .int .i64 mn1, .int .i64 mx1]]) 5 true)), (52, (.made ([.agg [.int .i8 k2, .int .i64 n2, .int .i64 d2, .int .i64 mn2, .int .i64 mx2]]) 5 true))]) (AVal.bool true) (AHeap.rows 87 [(0, b), (9, .made z 1 true), (51, (.made ([.agg [.int .i8 k1, .int .i64 n1, .int .i64 d1, .int .i64 mn1, .int .i64 mx1]]) 5 true)), (52, (.made ([.agg [.int .i8 k2, .int .i64 n2, .int .i64 d2, .int .i64 mn2, .int .i64 mx2]]) 5 true))])) (hc_9 : FDoes Try.prog 12 [.agg [.int .i8 k2, .int .i64 n2, .int .i64 d2, .int .i64 mn2, .int .i64 mx2]] (AHeap.rows 87 [(0, b), (9, .made z 1 true), (51, (.made ([.agg [.int .i8 k1, .int .i64 n1, .int .i64 d1, .int .i64 mn1, .int .i64 mx1]]) 5 true)), (52, (.made ([.agg [.int .i8 k2, .int .i64 n2, .int .i64 d2, .int .i64 mn2, .int .i64 mx2]]) 5 true))]) (AVal.bool true) (AHeap.rows 87 [(0, b), (9, .made z 1 true), (51, (.made ([.agg [.int .i8 k1, .int .i64 n1, .int .i64 d1, .int .i64 mn1, .int .i64 mx1]]) 5 true)), (52, (.made ([.agg [.int .i8 k2, .int .i64 n2, .int .i64 d2, .int .i64 mn2, .int .i64 mx2]]) 5 true))])) (hc_11 : mn1 = mn2) (hc_12 : ¬ (mx1 = mx2)) (hc_13 : -9223372036854775808 ≤ (j : Int) + 1 ∧ (j : Int) + (1 : Int) ≤ 9223372036854775807) :
    Runs Try.prog 1 117 (loopAt Try.prog 8 1) [(0, .slice o N c), (7, .slice oa N ca), (8, .int .i64 i), (33, .int .i64 N), (34, .int .i64 i), (38, .int .i64 N), (39, .int .i64 j)] (AHeap.rows 40 [(0, b), (9, .made z 1 true)]) .normal [(0, .slice o N c), (7, .slice oa N ca), (8, .int .i64 (i : Int)), (33, .int .i64 (N : Int)), (34, .int .i64 (i : Int)), (38, .int .i64 (N : Int)), (39, .int .i64 ((j : Int) + 1))] (AHeap.rows 123 [(0, b), (9, .made z 1 true), (51, (.made ([.agg [.int .i8 k1, .int .i64 n1, .int .i64 d1, .int .i64 mn1, .int .i64 mx1]]) 5 true)), (52, (.made ([.agg [.int .i8 k2, .int .i64 n2, .int .i64 d2, .int .i64 mn2, .int .i64 mx2]]) 5 true))]) :=
  ppath_runs env_ok mixed (hs := [.val 10000 (.bool true), .val 12002 (.ptr (some ⟨0, ver, off + i, 0, 5⟩)), .ld 12003 (.agg [.int .i8 k1, .int .i64 n1, .int .i64 d1, .int .i64 mn1, .int .i64 mx1]), .val 12006 (.ptr (some ⟨0, ver, off + j, 0, 5⟩)), .ld 12007 (.agg [.int .i8 k2, .int .i64 n2, .int .i64 d2, .int .i64 mn2, .int .i64 mx2]), .val 13002 (.bool false), .val 15002 (.bool true), .val 15006 (.bool true), .val 15010 (.bool true), .val 15014 (.bool true), .val 16006 (.bool true), .val 16013 (.bool false), .go 18000]) (keep := [0, 7, 8, 33, 34, 38, 39]) (by kernel_rfl) (All.cons (okT hc_0) (All.cons hc_1 (All.cons hc_2 (All.cons hc_3 (All.cons hc_4 (All.cons (congrArg (fun q => some (AVal.bool q)) hc_5) (All.cons (eqT hc_6) (All.cons (eqT hc_7) (All.cons (CallT.mk hc_8) (All.cons (CallT.mk hc_9) (All.cons (show Agree [.agg [.int .i8 k1, .int .i64 n1, .int .i64 d1, .int .i64 mn1, .int .i64 mx1]] [.agg [.int .i8 k2, .int .i64 n2, .int .i64 d2, .int .i64 mn2, .int .i64 mx2]] (AHeap.rows 87 [(0, b), (9, .made z 1 true), (51, (.made ([.agg [.int .i8 k1, .int .i64 n1, .int .i64 d1, .int .i64 mn1, .int .i64 mx1]]) 5 true)), (52, (.made ([.agg [.int .i8 k2, .int .i64 n2, .int .i64 d2, .int .i64 mn2, .int .i64 mx2]]) 5 true))]) (AHeap.rows 87 [(0, b), (9, .made z 1 true), (51, (.made ([.agg [.int .i8 k1, .int .i64 n1, .int .i64 d1, .int .i64 mn1, .int .i64 mx1]]) 5 true)), (52, (.made ([.agg [.int .i8 k2, .int .i64 n2, .int .i64 d2, .int .i64 mn2, .int .i64 mx2]]) 5 true))]) (AVal.bool true) (AVal.bool true) (AHeap.rows 87 [(0, b), (9, .made z 1 true), (51, (.made ([.agg [.int .i8 k1, .int .i64 n1, .int .i64 d1, .int .i64 mn1, .int .i64 mx1]]) 5 true)), (52, (.made ([.agg [.int .i8 k2, .int .i64 n2, .int .i64 d2, .int .i64 mn2, .int .i64 mx2]]) 5 true))]) (AHeap.rows 87 [(0, b), (9, .made z 1 true), (51, (.made ([.agg [.int .i8 k1, .int .i64 n1, .int .i64 d1, .int .i64 mn1, .int .i64 mx1]]) 5 true)), (52, (.made ([.agg [.int .i8 k2, .int .i64 n2, .int .i64 d2, .int .i64 mn2, .int .i64 mx2]]) 5 true))]) from ⟨by intro hh _; first | (simp at hh; done) | (simp at hh; simp [hh]) | exact ⟨rfl, rfl⟩⟩) (All.cons (eqT hc_11) (All.cons (eqF hc_12) (All.cons hc_13 (All.nil)))))))))))))))

theorem or_FQ (N c ca ver off i j : Nat) (o oa : Option AAddr) (b : ABlk) (z : List AVal) (k1 n1 d1 mn1 mx1 k2 n2 d2 mn2 mx2 x y : Int) (hc_0 : (j : Int) < (N : Int)) (hc_1 : aindexAddr (AEnv.D env) 26 (.slice o N c) (.int .i64 (i : Int)) = some (.ptr (some ⟨0, ver, off + i, 0, 5⟩))) (hc_2 : ABlk.elem? b ver (off + i) = some (.agg [.int .i8 k1, .int .i64 n1, .int .i64 d1, .int .i64 mn1, .int .i64 mx1])) (hc_3 : aindexAddr (AEnv.D env) 26 (.slice o N c) (.int .i64 (j : Int)) = some (.ptr (some ⟨0, ver, off + j, 0, 5⟩))) (hc_4 : ABlk.elem? b ver (off + j) = some (.agg [.int .i8 k2, .int .i64 n2, .int .i64 d2, .int .i64 mn2, .int .i64 mx2])) (hc_5 : (k1 == k2 && (n1 == n2 && (d1 == d2 && (mn1 == mn2 && (mx1 == mx2 && true))))) = false) (hc_6 : k1 = 3) (hc_7 : k2 = 3) (hc_8 : FDoes Try.prog 12 [.agg [.int .i8 k1, .int .i64 n1, .int .i64 d1, .int .i64 mn1, .int .i64 mx1]] (AHeap.rows 87 [(0, b), (9, .made z 1 true), (51, (.made ([.agg [.int .i8 k1, .int .i64 n1, .int .i64 d1, .int .i64 mn1, .int .i64 mx1]]) 5 true)), (52, (.made ([.agg [.int .i8 k2, .int .i64 n2, .int .i64 d2, .int .i64 mn2, .int .i64 mx2]]) 5 true))]) (AVal.bool true) (AHeap.rows 87 [(0, b), (9, .made z 1 true), (51, (.made ([.agg [.int .i8 k1, .int .i64 n1, .int .i64 d1, .int .i64 mn1, .int .i64 mx1]]) 5 true)), (52, (.made ([.agg [.int .i8 k2, .int .i64 n2, .int .i64 d2, .int .i64 mn2, .int .i64 mx2]]) 5 true))])) (hc_9 : FDoes Try.prog 12 [.agg [.int .i8 k2, .int .i64 n2, .int .i64 d2, .int .i64 mn2, .int .i64 mx2]] (AHeap.rows 87 [(0, b), (9, .made z 1 true), (51, (.made ([.agg [.int .i8 k1, .int .i64 n1, .int .i64 d1, .int .i64 mn1, .int .i64 mx1]]) 5 true)), (52, (.made ([.agg [.int .i8 k2, .int .i64 n2, .int .i64 d2, .int .i64 mn2, .int .i64 mx2]]) 5 true))]) (AVal.bool true) (AHeap.rows 87 [(0, b), (9, .made z 1 true), (51, (.made ([.agg [.int .i8 k1, .int .i64 n1, .int .i64 d1, .int .i64 mn1, .int .i64 mx1]]) 5 true)), (52, (.made ([.agg [.int .i8 k2, .int .i64 n2, .int .i64 d2, .int .i64 mn2, .int .i64 mx2]]) 5 true))])) (hc_11 : mn1 = mn2) (hc_12 : mx1 = mx2) (hc_13 : ¬ (n1 ≥ n2)) (hc_14 : -9223372036854775808 ≤ (j : Int) + 1 ∧ (j : Int) + (1 : Int) ≤ 9223372036854775807) :
    Runs Try.prog 1 117 (loopAt Try.prog 8 1) [(0, .slice o N c), (7, .slice oa N ca), (8, .int .i64 i), (33, .int .i64 N), (34, .int .i64 i), (38, .int .i64 N), (39, .int .i64 j)] (AHeap.rows 40 [(0, b), (9, .made z 1 true)]) .normal [(0, .slice o N c), (7, .slice oa N ca), (8, .int .i64 (i : Int)), (33, .int .i64 (N : Int)), (34, .int .i64 (i : Int)), (38, .int .i64 (N : Int)), (39, .int .i64 ((j : Int) + 1))] (AHeap.rows 123 [(0, b), (9, .made z 1 true), (51, (.made ([.agg [.int .i8 k1, .int .i64 n1, .int .i64 d1, .int .i64 mn1, .int .i64 mx1]]) 5 true)), (52, (.made ([.agg [.int .i8 k2, .int .i64 n2, .int .i64 d2, .int .i64 mn2, .int .i64 mx2]]) 5 true))]) :=
  ppath_runs env_ok mixed (hs := [.val 10000 (.bool true), .val 12002 (.ptr (some ⟨0, ver, off + i, 0, 5⟩)), .ld 12003 (.agg [.int .i8 k1, .int .i64 n1, .int .i64 d1, .int .i64 mn1, .int .i64 mx1]), .val 12006 (.ptr (some ⟨0, ver, off + j, 0, 5⟩)), .ld 12007 (.agg [.int .i8 k2, .int .i64 n2, .int .i64 d2, .int .i64 mn2, .int .i64 mx2]), .val 13002 (.bool false), .val 15002 (.bool true), .val 15006 (.bool true), .val 15010 (.bool true), .val 15014 (.bool true), .val 16006 (.bool true), .val 16013 (.bool true), .val 16020 (.bool false), .go 18000]) (keep := [0, 7, 8, 33, 34, 38, 39]) (by kernel_rfl) (All.cons (okT hc_0) (All.cons hc_1 (All.cons hc_2 (All.cons hc_3 (All.cons hc_4 (All.cons (congrArg (fun q => some (AVal.bool q)) hc_5) (All.cons (eqT hc_6) (All.cons (eqT hc_7) (All.cons (CallT.mk hc_8) (All.cons (CallT.mk hc_9) (All.cons (show Agree [.agg [.int .i8 k1, .int .i64 n1, .int .i64 d1, .int .i64 mn1, .int .i64 mx1]] [.agg [.int .i8 k2, .int .i64 n2, .int .i64 d2, .int .i64 mn2, .int .i64 mx2]] (AHeap.rows 87 [(0, b), (9, .made z 1 true), (51, (.made ([.agg [.int .i8 k1, .int .i64 n1, .int .i64 d1, .int .i64 mn1, .int .i64 mx1]]) 5 true)), (52, (.made ([.agg [.int .i8 k2, .int .i64 n2, .int .i64 d2, .int .i64 mn2, .int .i64 mx2]]) 5 true))]) (AHeap.rows 87 [(0, b), (9, .made z 1 true), (51, (.made ([.agg [.int .i8 k1, .int .i64 n1, .int .i64 d1, .int .i64 mn1, .int .i64 mx1]]) 5 true)), (52, (.made ([.agg [.int .i8 k2, .int .i64 n2, .int .i64 d2, .int .i64 mn2, .int .i64 mx2]]) 5 true))]) (AVal.bool true) (AVal.bool true) (AHeap.rows 87 [(0, b), (9, .made z 1 true), (51, (.made ([.agg [.int .i8 k1, .int .i64 n1, .int .i64 d1, .int .i64 mn1, .int .i64 mx1]]) 5 true)), (52, (.made ([.agg [.int .i8 k2, .int .i64 n2, .int .i64 d2, .int .i64 mn2, .int .i64 mx2]]) 5 true))]) (AHeap.rows 87 [(0, b), (9, .made z 1 true), (51, (.made ([.agg [.int .i8 k1, .int .i64 n1, .int .i64 d1, .int .i64 mn1, .int .i64 mx1]]) 5 true)), (52, (.made ([.agg [.int .i8 k2, .int .i64 n2, .int .i64 d2, .int .i64 mn2, .int .i64 mx2]]) 5 true))]) from ⟨by intro hh _; first | (simp at hh; done) | (simp at hh; simp [hh]) | exact ⟨rfl, rfl⟩⟩) (All.cons (eqT hc_11) (All.cons (eqT hc_12) (All.cons (okF hc_13) (All.cons hc_14 (All.nil))))))))))))))))

theorem or_FR (N c ca ver off i j : Nat) (o oa : Option AAddr) (b : ABlk) (z : List AVal) (k1 n1 d1 mn1 mx1 k2 n2 d2 mn2 mx2 x y : Int) (hc_0 : (j : Int) < (N : Int)) (hc_1 : aindexAddr (AEnv.D env) 26 (.slice o N c) (.int .i64 (i : Int)) = some (.ptr (some ⟨0, ver, off + i, 0, 5⟩))) (hc_2 : ABlk.elem? b ver (off + i) = some (.agg [.int .i8 k1, .int .i64 n1, .int .i64 d1, .int .i64 mn1, .int .i64 mx1])) (hc_3 : aindexAddr (AEnv.D env) 26 (.slice o N c) (.int .i64 (j : Int)) = some (.ptr (some ⟨0, ver, off + j, 0, 5⟩))) (hc_4 : ABlk.elem? b ver (off + j) = some (.agg [.int .i8 k2, .int .i64 n2, .int .i64 d2, .int .i64 mn2, .int .i64 mx2])) (hc_5 : (k1 == k2 && (n1 == n2 && (d1 == d2 && (mn1 == mn2 && (mx1 == mx2 && true))))) = false) (hc_6 : k1 = 3) (hc_7 : k2 = 3) (hc_8 : FDoes Try.prog 12 [.agg [.int .i8 k1, .int .i64 n1, .int .i64 d1, .int .i64 mn1, .int .i64 mx1]] (AHeap.rows 87 [(0, b), (9, .made z 1 true), (51, (.made ([.agg [.int .i8 k1, .int .i64 n1, .int .i64 d1, .int .i64 mn1, .int .i64 mx1]]) 5 true)), (52, (.made ([.agg [.int .i8 k2, .int .i64 n2, .int .i64 d2, .int .i64 mn2, .int .i64 mx2]]) 5 true))]) (AVal.bool true) (AHeap.rows 87 [(0, b), (9, .made z 1 true), (51, (.made ([.agg [.int .i8 k1, .int .i64 n1, .int .i64 d1, .int .i64 mn1, .int .i64 mx1]]) 5 true)), (52, (.made ([.agg [.int .i8 k2, .int .i64 n2, .int .i64 d2, .int .i64 mn2, .int .i64 mx2]]) 5 true))])) (hc_9 : FDoes Try.prog 12 [.agg [.int .i8 k2, .int .i64 n2, .int .i64 d2, .int .i64 mn2, .int .i64 mx2]] (AHeap.rows 87 [(0, b), (9, .made z 1 true), (51, (.made ([.agg [.int .i8 k1, .int .i64 n1, .int .i64 d1, .int .i64 mn1, .int .i64 mx1]]) 5 true)), (52, (.made ([.agg [.int .i8 k2, .int .i64 n2, .int .i64 d2, .int .i64 mn2, .int .i64 mx2]]) 5 true))]) (AVal.bool true) (AHeap.rows 87 [(0, b), (9, .made z 1 true), (51, (.made ([.agg [.int .i8 k1, .int .i64 n1, .int .i64 d1, .int .i64 mn1, .int .i64 mx1]]) 5 true)), (52, (.made ([.agg [.int .i8 k2, .int .i64 n2, .int .i64 d2, .int .i64 mn2, .int .i64 mx2]]) 5 true))])) (hc_11 : mn1 = mn2) (hc_12 : mx1 = mx2) (hc_13 : n1 ≥ n2) (hc_14 : aindexAddr (AEnv.D env) 27 (.slice oa N ca) (.int .i64 (j : Int)) = some (.ptr (some ⟨9, 0, j, 0, 1⟩))) (hc_15 : ABlk.elem? (.made z 1 true) 0 j = some (.int .i64 y)) (hc_16 : aindexAddr (AEnv.D env) 27 (.slice oa N ca) (.int .i64 (i : Int)) = some (.ptr (some ⟨9, 0, i, 0, 1⟩))) (hc_17 : ABlk.elem? (.made z 1 true) 0 i = some (.int .i64 x)) (hc_18 : -9223372036854775808 ≤ y - x ∧ y - x ≤ 9223372036854775807) (hc_19 : ¬ (y - x > 1)) (hc_20 : -9223372036854775808 ≤ (j : Int) + 1 ∧ (j : Int) + (1 : Int) ≤ 9223372036854775807) :
    Runs Try.prog 1 117 (loopAt Try.prog 8 1) [(0, .slice o N c), (7, .slice oa N ca), (8, .int .i64 i), (33, .int .i64 N), (34, .int .i64 i), (38, .int .i64 N), (39, .int .i64 j)] (AHeap.rows 40 [(0, b), (9, .made z 1 true)]) .normal [(0, .slice o N c), (7, .slice oa N ca), (8, .int .i64 (i : Int)), (33, .int .i64 (N : Int)), (34, .int .i64 (i : Int)), (38, .int .i64 (N : Int)), (39, .int .i64 ((j : Int) + 1))] (AHeap.rows 123 [(0, b), (9, .made z 1 true), (51, (.made ([.agg [.int .i8 k1, .int .i64 n1, .int .i64 d1, .int .i64 mn1, .int .i64 mx1]]) 5 true)), (52, (.made ([.agg [.int .i8 k2, .int .i64 n2, .int .i64 d2, .int .i64 mn2, .int .i64 mx2]]) 5 true))]) :=
  ppath_runs env_ok mixed (hs := [.val 10000 (.bool true), .val 12002 (.ptr (some ⟨0, ver, off + i, 0, 5⟩)), .ld 12003 (.agg [.int .i8 k1, .int .i64 n1, .int .i64 d1, .int .i64 mn1, .int .i64 mx1]), .val 12006 (.ptr (some ⟨0, ver, off + j, 0, 5⟩)), .ld 12007 (.agg [.int .i8 k2, .int .i64 n2, .int .i64 d2, .int .i64 mn2, .int .i64 mx2]), .val 13002 (.bool false), .val 15002 (.bool true), .val 15006 (.bool true), .val 15010 (.bool true), .val 15014 (.bool true), .val 16006 (.bool true), .val 16013 (.bool true), .val 16020 (.bool true), .val 16025 (.ptr (some ⟨9, 0, j, 0, 1⟩)), .ld 16026 (.int .i64 y), .val 16029 (.ptr (some ⟨9, 0, i, 0, 1⟩)), .ld 16030 (.int .i64 x), .go 16031, .val 16032 (.bool false), .go 18000]) (keep := [0, 7, 8, 33, 34, 38, 39]) (by kernel_rfl) (All.cons (okT hc_0) (All.cons hc_1 (All.cons hc_2 (All.cons hc_3 (All.cons hc_4 (All.cons (congrArg (fun q => some (AVal.bool q)) hc_5) (All.cons (eqT hc_6) (All.cons (eqT hc_7) (All.cons (CallT.mk hc_8) (All.cons (CallT.mk hc_9) (All.cons (show Agree [.agg [.int .i8 k1, .int .i64 n1, .int .i64 d1, .int .i64 mn1, .int .i64 mx1]] [.agg [.int .i8 k2, .int .i64 n2, .int .i64 d2, .int .i64 mn2, .int .i64 mx2]] (AHeap.rows 87 [(0, b), (9, .made z 1 true), (51, (.made ([.agg [.int .i8 k1, .int .i64 n1, .int .i64 d1, .int .i64 mn1, .int .i64 mx1]]) 5 true)), (52, (.made ([.agg [.int .i8 k2, .int .i64 n2, .int .i64 d2, .int .i64 mn2, .int .i64 mx2]]) 5 true))]) (AHeap.rows 87 [(0, b), (9, .made z 1 true), (51, (.made ([.agg [.int .i8 k1, .int .i64 n1, .int .i64 d1, .int .i64 mn1, .int .i64 mx1]]) 5 true)), (52, (.made ([.agg [.int .i8 k2, .int .i64 n2, .int .i64 d2, .int .i64 mn2, .int .i64 mx2]]) 5 true))]) (AVal.bool true) (AVal.bool true) (AHeap.rows 87 [(0, b), (9, .made z 1 true), (51, (.made ([.agg [.int .i8 k1, .int .i64 n1, .int .i64 d1, .int .i64 mn1, .int .i64 mx1]]) 5 true)), (52, (.made ([.agg [.int .i8 k2, .int .i64 n2, .int .i64 d2, .int .i64 mn2, .int .i64 mx2]]) 5 true))]) (AHeap.rows 87 [(0, b), (9, .made z 1 true), (51, (.made ([.agg [.int .i8 k1, .int .i64 n1, .int .i64 d1, .int .i64 mn1, .int .i64 mx1]]) 5 true)), (52, (.made ([.agg [.int .i8 k2, .int .i64 n2, .int .i64 d2, .int .i64 mn2, .int .i64 mx2]]) 5 true))]) from ⟨by intro hh _; first | (simp at hh; done) | (simp at hh; simp [hh]) | exact ⟨rfl, rfl⟩⟩) (All.cons (eqT hc_11) (All.cons (eqT hc_12) (All.cons (okT hc_13) (All.cons hc_14 (All.cons hc_15 (All.cons hc_16 (All.cons hc_17 (All.cons hc_18 (All.cons (okF hc_19) (All.cons hc_20 (All.nil))))))))))))))))))))))

theorem or_end (N c ca i j : Nat) (o oa : Option AAddr) (b : ABlk) (z : List AVal) (hc_0 : ¬ ((j : Int) < (N : Int))) :
    Runs Try.prog 1 117 (loopAt Try.prog 8 1) [(0, .slice o N c), (7, .slice oa N ca), (8, .int .i64 i), (33, .int .i64 N), (34, .int .i64 i), (38, .int .i64 N), (39, .int .i64 j)] (AHeap.rows 40 [(0, b), (9, .made z 1 true)]) (.exit 2) [(0, .slice o N c), (7, .slice oa N ca), (33, .int .i64 (N : Int)), (34, .int .i64 (i : Int))] (AHeap.rows 41 [(0, b), (9, .made z 1 true)]) :=
  ppath_runs env_ok mixed (hs := [.val 10000 (.bool false)]) (keep := [0, 7, 33, 34]) (by kernel_rfl) (All.cons (okF hc_0) (All.nil))

theorem or_row (N c ca i : Nat) (o oa : Option AAddr) (b : ABlk) (z : List AVal) (hc_0 : (i : Int) < (N : Int)) (hc_1 : Runs Try.prog 1 117 (.loop (loopAt Try.prog 8 1)) [(0, .slice o N c), (7, .slice oa N ca), (8, .int .i64 (i : Int)), (33, .int .i64 (N : Int)), (34, .int .i64 (i : Int)), (38, .int .i64 (N : Int)), (39, .int .i64 0)] (AHeap.rows 36 [(0, b), (9, .made z 1 true)]) (.exit 2) [(0, .slice o N c), (7, .slice oa N ca), (33, .int .i64 (N : Int)), (34, .int .i64 (i : Int))] (AHeap.rows 41 [(0, b), (9, .made z 1 true)])) (hc_2 : -9223372036854775808 ≤ (i : Int) + 1 ∧ (i : Int) + (1 : Int) ≤ 9223372036854775807) :
    Runs Try.prog 1 117 (loopAt Try.prog 8 0) [(0, .slice o N c), (7, .slice oa N ca), (33, .int .i64 N), (34, .int .i64 i)] (AHeap.rows 30 [(0, b), (9, .made z 1 true)]) .normal [(0, .slice o N c), (7, .slice oa N ca), (33, .int .i64 (N : Int)), (34, .int .i64 ((i : Int) + 1))] (AHeap.rows 43 [(0, b), (9, .made z 1 true)]) :=
  ppath_runs env_ok mixed (hs := [.val 7000 (.bool true), .keep [0, 7, 8, 33, 34, 38, 39], .loop [(0, .slice o N c), (7, .slice oa N ca), (33, .int .i64 N), (34, .int .i64 i)] (AHeap.rows 41 [(0, b), (9, .made z 1 true)]) (.exit 2), .go 19000]) (keep := [0, 7, 33, 34]) (by kernel_rfl) (All.cons (okT hc_0) (All.cons hc_1 (All.cons hc_2 (All.nil))))

theorem or_rowEnd (N c ca i : Nat) (o oa : Option AAddr) (b : ABlk) (z : List AVal) (hc_0 : ¬ ((i : Int) < (N : Int))) :
    Runs Try.prog 1 117 (loopAt Try.prog 8 0) [(0, .slice o N c), (7, .slice oa N ca), (33, .int .i64 N), (34, .int .i64 i)] (AHeap.rows 30 [(0, b), (9, .made z 1 true)]) (.exit 0) [] (AHeap.rows 31 [(0, b), (9, .made z 1 true)]) :=
  ppath_runs env_ok mixed (hs := [.val 7000 (.bool false)]) (keep := []) (by kernel_rfl) (All.cons (okF hc_0) (All.nil))

theorem order_big (N c m ca : Nat) (o oa : Option AAddr) (b : ABlk) (z : List AVal) (extent gap : Int) (hc_0 : FDoes Try.prog 21 [] (AHeap.rows 4 [(0, b)]) (AVal.bool true) (AHeap.rows 4 [(0, b)])) (hc_1 : FDoes Try.prog 16 [.slice o N c, .int .i64 extent, .int .i64 gap] (AHeap.rows 9 [(0, b)]) (.slice oa m ca) (AHeap.rows 10 [(0, b), (9, .made z 1 true)])) (hc_2 : (N : Int) > 300) (hc_3 : (N : Int) > 300) :
    FDoes Try.prog 8 [.slice o N c, .int .i64 extent, .int .i64 gap] (AHeap.of [b]) (AVal.bool true) (AHeap.rows 24 [(0, b), (9, .made z 1 true)]) :=
  pcall_does env_ok mixed (hs := [.val 1000 (.bool true), .act 3003 (.slice oa m ca) (fun h => h.upd [] [.made z 1 true]), .val 4002 (.bool true), .val 5002 (.bool true)]) (rs := []) (by kernel_rfl) (All.cons (CallT.mk hc_0) (All.cons (CallT.mk hc_1) (All.cons (okT hc_2) (All.cons (okT hc_3) (All.nil)))))

theorem order_all (N c m ca : Nat) (o oa : Option AAddr) (b : ABlk) (z : List AVal) (extent gap : Int) (hc_0 : FDoes Try.prog 21 [] (AHeap.rows 4 [(0, b)]) (AVal.bool true) (AHeap.rows 4 [(0, b)])) (hc_1 : FDoes Try.prog 16 [.slice o N c, .int .i64 extent, .int .i64 gap] (AHeap.rows 9 [(0, b)]) (.slice oa m ca) (AHeap.rows 10 [(0, b), (9, .made z 1 true)])) (hc_2 : ¬ ((N : Int) > 300)) (hc_3 : (m : Int) = (N : Int)) (hc_4 : Runs Try.prog 1 117 (.loop (loopAt Try.prog 8 0)) [(0, .slice o N c), (7, .slice oa m ca), (33, .int .i64 (N : Int)), (34, .int .i64 0)] (AHeap.rows 23 [(0, b), (9, .made z 1 true)]) (.exit 0) [] (AHeap.rows 31 [(0, b), (9, .made z 1 true)])) :
    FDoes Try.prog 8 [.slice o N c, .int .i64 extent, .int .i64 gap] (AHeap.of [b]) (AVal.bool true) (AHeap.rows 32 [(0, b), (9, .made z 1 true)]) :=
  pcall_does env_ok mixed (hs := [.val 1000 (.bool true), .act 3003 (.slice oa m ca) (fun h => h.upd [] [.made z 1 true]), .val 4002 (.bool false), .val 4008 (.bool false), .keep [0, 7, 33, 34], .loop [] (AHeap.rows 31 [(0, b), (9, .made z 1 true)]) (.exit 0)]) (rs := []) (by kernel_rfl) (All.cons (CallT.mk hc_0) (All.cons (CallT.mk hc_1) (All.cons (okF hc_2) (All.cons (neF hc_3) (All.cons hc_4 (All.nil))))))

end Go.Proofs.Ytgfkllnaeekjeaa

namespace Go.Proofs.Ytgfkllnaeekjeaa
open Go.Lift
set_option maxRecDepth 1000000
set_option linter.unusedSimpArgs false
set_option linter.unusedVariables false
set_option linter.unusedSectionVars false

abbrev FO1 (n c ca : Nat) (o oa : Option AAddr) (i j : Nat) : Facts := [(0, .slice o n c), (7, .slice oa n ca), (8, .int .i64 i), (33, .int .i64 n), (34, .int .i64 i), (38, .int .i64 n), (39, .int .i64 j)]
abbrev FO0 (n c ca : Nat) (o oa : Option AAddr) (i : Nat) : Facts := [(0, .slice o n c), (7, .slice oa n ca), (33, .int .i64 n), (34, .int .i64 i)]
noncomputable abbrev HO (K : Nat) (b : ABlk) (n : Nat) (z : Nat → Int) : AHeap := AHeap.rows K [(0, b), (9, IRow n z)]

def eqIt (a b : It) : Bool := (a.k == b.k && (a.n == b.n && (a.d == b.d && (a.mn == b.mn && (a.mx == b.mx && true)))))
theorem eqIt_iff (a b : It) : eqIt a b = true ↔ a = b := by
  cases a; cases b
  simp [eqIt]

theorem rt (t : It) (h : t.right = true) (H : AHeap) : FDoes Try.prog 12 [.agg [.int .i8 t.k, .int .i64 t.n, .int .i64 t.d, .int .i64 t.mn, .int .i64 t.mx]] H (.bool true) H := by
  have k := right_does t.k t.n t.d t.mn t.mx H
  rwa [show rightB t.k t.n t.d t.mn t.mx = true from h] at k
theorem rf (t : It) (h : t.right = false) (H : AHeap) : FDoes Try.prog 12 [.agg [.int .i8 t.k, .int .i64 t.n, .int .i64 t.d, .int .i64 t.mn, .int .i64 t.mx]] H (.bool false) H := by
  have k := right_does t.k t.n t.d t.mn t.mx H
  rwa [show rightB t.k t.n t.d t.mn t.mx = false from h] at k

theorem noAg {s t : It} (h1 : s.right = true) (h2 : ¬ t.right = true) {H : AHeap} : Agree [.agg [.int .i8 s.k, .int .i64 s.n, .int .i64 s.d, .int .i64 s.mn, .int .i64 s.mx]] [.agg [.int .i8 t.k, .int .i64 t.n, .int .i64 t.d, .int .i64 t.mn, .int .i64 t.mx]] H H (.bool true) (.bool false) H H :=
  ⟨by
    intro hh _
    exfalso
    simp at hh
    obtain ⟨a1, a2, a3, a4, a5⟩ := hh
    apply h2
    unfold It.right at h1 ⊢
    rw [← a1, ← a2, ← a3, ← a4, ← a5]; exact h1⟩

section
variable {n : Nat} (hn : n ≤ 4096) {o oa : Option AAddr} {c ca ver off : Nat} {b : ABlk} (hs : SlArg o n c 0 ver off 5) (ha : SlArg oa n ca 9 0 0 1) (hb : BareB b) {src : Nat → It} (hel : ∀ j, j < n → b.elem? ver (off + j) = some (src j).val) {z : Nat → Int}
  (hz : ∀ j, j < n → 0 ≤ z j ∧ z j ≤ 4096) (hsame : ∀ i j, i < n → j < n → src i = src j → z i ≤ z j + 1)
  (hfill : ∀ i j, i < n → j < n → (src i).k = 3 → (src j).k = 3 → (src i).right = true → (src j).right = true → (src i).mn = (src j).mn → (src i).mx = (src j).mx → (src i).n ≥ (src j).n → z j ≤ z i + 1)
include hn hs ha hb hel hz hsame hfill

theorem or_drop (F : Facts) (K K2 : Nat) (l : List (Nat × ABlk)) (hF : F.all (fun p => Nat.blt p.1 117) = true) (hc : All (F.map fun p => Clo (Ids [0, 9]) p.2)) (hK2 : [0, 9].all (fun i => Nat.blt i K2) = true)
    (hk : [(0, b), (9, IRow n z)].map (fun p => (AHeap.rows K l).get p.1) = [(0, b), (9, IRow n z)].map (fun p => some p.2)) : Ent 1 117 F (AHeap.rows K l) F (HO K2 b n z) :=
  Ent.drop hk hK2 (by kernel_rfl) hF hc (by simp only [List.map, All_cons, All_nil, and_true]; exact ⟨hb.clo _, (irow_bare _ _).clo _⟩)

theorem or_loop1 {i : Nat} (hi : i < n) : ∀ (f j : Nat), j + f = n →
    Loops Try.prog 1 117 (loopAt Try.prog 8 1) (FO1 n c ca o oa i j) (HO 40 b n z) (.exit 2) (FO0 n c ca o oa i) (HO 41 b n z)
  | 0, j, e => by
    obtain rfl : j = n := by omega
    exact Loops.last (by simp) (or_end j c ca i j o oa b _ (by omega))
  | f + 1, j, e => by
    have hj : j < n := by omega
    have ih := or_loop1 hi f (j + 1) (by omega)
    have hc1 : Clo (Ids [0, 9]) (.slice o n c) := hs.clo (by simp [Ids])
    have hc2 : Clo (Ids [0, 9]) (.slice oa n ca) := ha.clo (by simp [Ids])
    have ixi := ix_itS hs (k := .i64) hi
    have ixj := ix_itS hs (k := .i64) hj
    have eli := hel i hi
    have elj := hel j hj
    have zxi := ixA ha hi
    have zxj := ixA ha hj
    have rzi : (ABlk.made (ints n z) 1 true).elem? 0 i = some (.int .i64 (z i)) := elem_made (ints_get hi)
    have rzj : (ABlk.made (ints n z) 1 true).elem? 0 j = some (.int .i64 (z j)) := elem_made (ints_get hj)
    have zi := hz i hi
    have zj := hz j hj
    have dr := fun (K : Nat) (x y : ABlk) (hk : [(0, b), (9, IRow n z)].map (fun p => (AHeap.rows K [(0, b), (9, IRow n z), (51, x), (52, y)]).get p.1) = [(0, b), (9, IRow n z)].map (fun p => some p.2)) =>
      or_drop hn hs ha hb hel hz hsame hfill (FO1 n c ca o oa i (j + 1)) K 40 [(0, b), (9, IRow n z), (51, x), (52, y)] (by kernel_rfl) (by simp only [List.map, All_cons, All_nil, and_true]; exact ⟨hc1, hc2, by simp [Clo], by simp [Clo], by simp [Clo], by simp [Clo], by simp [Clo]⟩) (by kernel_rfl) hk
    cases hE : eqIt (src i) (src j) with
    | true =>
      have heq := hsame i j hi hj ((eqIt_iff _ _).1 hE)
      unfold eqIt at hE
      by_cases k1 : (src i).k = 3
      · skip
        by_cases k2 : (src j).k = 3
        · skip
          by_cases r1 : (src i).right = true
          · skip
            by_cases r2 : (src j).right = true
            · skip
              by_cases m1 : (src i).mn = (src j).mn
              · skip
                by_cases m2 : (src i).mx = (src j).mx
                · skip
                  by_cases g1 : (src i).n ≥ (src j).n
                  · skip
                    have hf := hfill i j hi hj k1 k2 r1 r2 m1 m2 g1
                    exact Loops.step ((or_TR n c ca ver off i j o oa b (ints n z) (src i).k (src i).n (src i).d (src i).mn (src i).mx (src j).k (src j).n (src j).d (src j).mn (src j).mx (z i) (z j) (by omega) ixi eli ixj elj hE zxi rzi zxj rzj (by omega) (by have := heq; omega) k1 k2 (rt (src i) r1 _) (rt (src j) r2 _) m1 m2 g1 zxj rzj zxi rzi (by omega) (by omega) (by omega)).post (dr _ _ _ (by kernel_rfl))) ih
                  · exact Loops.step ((or_TQ n c ca ver off i j o oa b (ints n z) (src i).k (src i).n (src i).d (src i).mn (src i).mx (src j).k (src j).n (src j).d (src j).mn (src j).mx (z i) (z j) (by omega) ixi eli ixj elj hE zxi rzi zxj rzj (by omega) (by have := heq; omega) k1 k2 (rt (src i) r1 _) (rt (src j) r2 _) m1 m2 g1 (by omega)).post (dr _ _ _ (by kernel_rfl))) ih
                · exact Loops.step ((or_TP n c ca ver off i j o oa b (ints n z) (src i).k (src i).n (src i).d (src i).mn (src i).mx (src j).k (src j).n (src j).d (src j).mn (src j).mx (z i) (z j) (by omega) ixi eli ixj elj hE zxi rzi zxj rzj (by omega) (by have := heq; omega) k1 k2 (rt (src i) r1 _) (rt (src j) r2 _) m1 m2 (by omega)).post (dr _ _ _ (by kernel_rfl))) ih
              · exact Loops.step ((or_TO n c ca ver off i j o oa b (ints n z) (src i).k (src i).n (src i).d (src i).mn (src i).mx (src j).k (src j).n (src j).d (src j).mn (src j).mx (z i) (z j) (by omega) ixi eli ixj elj hE zxi rzi zxj rzj (by omega) (by have := heq; omega) k1 k2 (rt (src i) r1 _) (rt (src j) r2 _) m1 (by omega)).post (dr _ _ _ (by kernel_rfl))) ih
            · exact Loops.step ((or_TN n c ca ver off i j o oa b (ints n z) (src i).k (src i).n (src i).d (src i).mn (src i).mx (src j).k (src j).n (src j).d (src j).mn (src j).mx (z i) (z j) (by omega) ixi eli ixj elj hE zxi rzi zxj rzj (by omega) (by have := heq; omega) k1 k2 (rt (src i) r1 _) (rf (src j) (by simpa using r2) _) (noAg r1 r2) (by omega)).post (dr _ _ _ (by kernel_rfl))) ih
          · exact Loops.step ((or_TM n c ca ver off i j o oa b (ints n z) (src i).k (src i).n (src i).d (src i).mn (src i).mx (src j).k (src j).n (src j).d (src j).mn (src j).mx (z i) (z j) (by omega) ixi eli ixj elj hE zxi rzi zxj rzj (by omega) (by have := heq; omega) k1 k2 (rf (src i) (by simpa using r1) _) (by omega)).post (dr _ _ _ (by kernel_rfl))) ih
        · exact Loops.step ((or_TL n c ca ver off i j o oa b (ints n z) (src i).k (src i).n (src i).d (src i).mn (src i).mx (src j).k (src j).n (src j).d (src j).mn (src j).mx (z i) (z j) (by omega) ixi eli ixj elj hE zxi rzi zxj rzj (by omega) (by have := heq; omega) k1 k2 (by omega)).post (dr _ _ _ (by kernel_rfl))) ih
      · exact Loops.step ((or_TK n c ca ver off i j o oa b (ints n z) (src i).k (src i).n (src i).d (src i).mn (src i).mx (src j).k (src j).n (src j).d (src j).mn (src j).mx (z i) (z j) (by omega) ixi eli ixj elj hE zxi rzi zxj rzj (by omega) (by have := heq; omega) k1 (by omega)).post (dr _ _ _ (by kernel_rfl))) ih
    | false =>
      unfold eqIt at hE
      by_cases k1 : (src i).k = 3
      · skip
        by_cases k2 : (src j).k = 3
        · skip
          by_cases r1 : (src i).right = true
          · skip
            by_cases r2 : (src j).right = true
            · skip
              by_cases m1 : (src i).mn = (src j).mn
              · skip
                by_cases m2 : (src i).mx = (src j).mx
                · skip
                  by_cases g1 : (src i).n ≥ (src j).n
                  · skip
                    have hf := hfill i j hi hj k1 k2 r1 r2 m1 m2 g1
                    exact Loops.step ((or_FR n c ca ver off i j o oa b (ints n z) (src i).k (src i).n (src i).d (src i).mn (src i).mx (src j).k (src j).n (src j).d (src j).mn (src j).mx (z i) (z j) (by omega) ixi eli ixj elj hE k1 k2 (rt (src i) r1 _) (rt (src j) r2 _) m1 m2 g1 zxj rzj zxi rzi (by omega) (by omega) (by omega)).post (dr _ _ _ (by kernel_rfl))) ih
                  · exact Loops.step ((or_FQ n c ca ver off i j o oa b (ints n z) (src i).k (src i).n (src i).d (src i).mn (src i).mx (src j).k (src j).n (src j).d (src j).mn (src j).mx (z i) (z j) (by omega) ixi eli ixj elj hE k1 k2 (rt (src i) r1 _) (rt (src j) r2 _) m1 m2 g1 (by omega)).post (dr _ _ _ (by kernel_rfl))) ih
                · exact Loops.step ((or_FP n c ca ver off i j o oa b (ints n z) (src i).k (src i).n (src i).d (src i).mn (src i).mx (src j).k (src j).n (src j).d (src j).mn (src j).mx (z i) (z j) (by omega) ixi eli ixj elj hE k1 k2 (rt (src i) r1 _) (rt (src j) r2 _) m1 m2 (by omega)).post (dr _ _ _ (by kernel_rfl))) ih
              · exact Loops.step ((or_FO n c ca ver off i j o oa b (ints n z) (src i).k (src i).n (src i).d (src i).mn (src i).mx (src j).k (src j).n (src j).d (src j).mn (src j).mx (z i) (z j) (by omega) ixi eli ixj elj hE k1 k2 (rt (src i) r1 _) (rt (src j) r2 _) m1 (by omega)).post (dr _ _ _ (by kernel_rfl))) ih
            · exact Loops.step ((or_FN n c ca ver off i j o oa b (ints n z) (src i).k (src i).n (src i).d (src i).mn (src i).mx (src j).k (src j).n (src j).d (src j).mn (src j).mx (z i) (z j) (by omega) ixi eli ixj elj hE k1 k2 (rt (src i) r1 _) (rf (src j) (by simpa using r2) _) (noAg r1 r2) (by omega)).post (dr _ _ _ (by kernel_rfl))) ih
          · exact Loops.step ((or_FM n c ca ver off i j o oa b (ints n z) (src i).k (src i).n (src i).d (src i).mn (src i).mx (src j).k (src j).n (src j).d (src j).mn (src j).mx (z i) (z j) (by omega) ixi eli ixj elj hE k1 k2 (rf (src i) (by simpa using r1) _) (by omega)).post (dr _ _ _ (by kernel_rfl))) ih
        · exact Loops.step ((or_FL n c ca ver off i j o oa b (ints n z) (src i).k (src i).n (src i).d (src i).mn (src i).mx (src j).k (src j).n (src j).d (src j).mn (src j).mx (z i) (z j) (by omega) ixi eli ixj elj hE k1 k2 (by omega)).post (dr _ _ _ (by kernel_rfl))) ih
      · exact Loops.step ((or_FK n c ca ver off i j o oa b (ints n z) (src i).k (src i).n (src i).d (src i).mn (src i).mx (src j).k (src j).n (src j).d (src j).mn (src j).mx (z i) (z j) (by omega) ixi eli ixj elj hE k1 (by omega)).post (dr _ _ _ (by kernel_rfl))) ih

theorem or_loop0 : ∀ (f i : Nat), i + f = n →
    Loops Try.prog 1 117 (loopAt Try.prog 8 0) (FO0 n c ca o oa i) (HO 30 b n z) (.exit 0) [] (HO 31 b n z)
  | 0, i, e => by
    obtain rfl : i = n := by omega
    exact Loops.last (by simp) (or_rowEnd i c ca i o oa b _ (by omega))
  | f + 1, i, e => by
    have hi : i < n := by omega
    have ih := or_loop0 f (i + 1) (by omega)
    have hc1 : Clo (Ids [0, 9]) (.slice o n c) := hs.clo (by simp [Ids])
    have hc2 : Clo (Ids [0, 9]) (.slice oa n ca) := ha.clo (by simp [Ids])
    have l1 := or_loop1 hn hs ha hb hel hz hsame hfill hi n 0 (by omega)
    have pre := fun (K : Nat) (hk : [(0, b), (9, IRow n z)].map (fun p => (AHeap.rows K [(0, b), (9, IRow n z)]).get p.1) = [(0, b), (9, IRow n z)].map (fun p => some p.2)) =>
      or_drop hn hs ha hb hel hz hsame hfill (FO1 n c ca o oa i 0) K 40 [(0, b), (9, IRow n z)] (by kernel_rfl) (by simp only [List.map, All_cons, All_nil, and_true]; exact ⟨hc1, hc2, by simp [Clo], by simp [Clo], by simp [Clo], by simp [Clo], by simp [Clo]⟩) (by kernel_rfl) hk
    have dr := fun (K : Nat) (hk : [(0, b), (9, IRow n z)].map (fun p => (AHeap.rows K [(0, b), (9, IRow n z)]).get p.1) = [(0, b), (9, IRow n z)].map (fun p => some p.2)) =>
      or_drop hn hs ha hb hel hz hsame hfill (FO0 n c ca o oa (i + 1)) K 30 [(0, b), (9, IRow n z)] (by kernel_rfl) (by simp only [List.map, All_cons, All_nil, and_true]; exact ⟨hc1, hc2, by simp [Clo], by simp [Clo]⟩) (by kernel_rfl) hk
    exact Loops.step ((or_row n c ca i o oa b (ints n z) (by omega) (Runs.of_loops (Tri.pre l1 (pre _ (by kernel_rfl)))) (by omega)).post (dr _ (by kernel_rfl))) ih
end

theorem order_law {o : Option AAddr} {n c ver off : Nat} {b : ABlk} (hs : SlArg o n c 0 ver off 5) (hb : BareB b) {src : Nat → It} (hel : ∀ j, j < n → b.elem? ver (off + j) = some (src j).val) (extent gap : Int) :
    ∃ h', FDoes Try.prog 8 [.slice o n c, .int .i64 extent, .int .i64 gap] (AHeap.of [b]) (.bool true) h' := by
  obtain ⟨oa, ca, z, sa, hz, fa⟩ := sizes_any (H := AHeap.rows 9 [(0, b)]) ⟨hs, by kernel_rfl, by rw [AHeap.rows_next]; omega, hb, hel⟩ extent gap (K := 9) (by rw [AHeap.rows_next])
  have heff : ∀ j, RightIt (effI (src j)) := fun j => effI_right _
  by_cases h : 300 < n
  · exact ⟨_, order_big n c (szLen n) ca o oa b (ints (szLen n) z) extent gap (works_does _) (fa.to (by kernel_rfl)) (by omega) (by omega)⟩
  · have hn : n ≤ 4096 := by omega
    have e : szLen n = n := by unfold szLen; split <;> omega
    rw [e] at sa fa
    have key : (∀ j, j < n → 0 ≤ z j ∧ z j ≤ 4096) ∧ (∀ i j, i < n → j < n → src i = src j → z i ≤ z j + 1) ∧
        (∀ i j, i < n → j < n → (src i).k = 3 → (src j).k = 3 → (src i).right = true → (src j).right = true → (src i).mn = (src j).mn → (src i).mx = (src j).mx → (src i).n ≥ (src j).n → z j ≤ z i + 1) := by
      by_cases h0 : n = 0
      · exact ⟨fun j hj => by omega, fun i j hi _ _ => by omega, fun i j hi _ _ _ _ _ _ _ _ => by omega⟩
      · have h1 := hz (by omega) hn
        have hr := roomZ_range (n := n) (by omega) extent gap
        refine ⟨(sizes_range heff hr h1).1, fun i j hi hj e => ?_, fun i j hi hj k1 k2 r1 r2 m1 m2 g1 => ?_⟩
        · exact sizes_order heff hr h1 hj hi (by rw [e]) (.inl (by rw [e]))
        · have e1 : effI (src i) = src i := by unfold effI; rw [if_pos r1]
          have e2 : effI (src j) = src j := by unfold effI; rw [if_pos r2]
          exact sizes_order heff hr h1 hi hj (by rw [e1, e2]; exact m1) (.inr (by rw [e1, e2]; exact ⟨k1, k2, m2, g1⟩))
    obtain ⟨k1, k2, k3⟩ := key
    have l0 := or_loop0 hn hs sa hb hel k1 k2 k3 n 0 (by omega)
    have hc1 : Clo (Ids [0, 9]) (.slice o n c) := hs.clo (by simp [Ids])
    have hc2 : Clo (Ids [0, 9]) (.slice oa n ca) := sa.clo (by simp [Ids])
    have pre := fun (K : Nat) (hk : [(0, b), (9, IRow n z)].map (fun p => (AHeap.rows K [(0, b), (9, IRow n z)]).get p.1) = [(0, b), (9, IRow n z)].map (fun p => some p.2)) =>
      or_drop hn hs sa hb hel k1 k2 k3 (FO0 n c ca o oa 0) K 30 [(0, b), (9, IRow n z)] (by kernel_rfl) (by simp only [List.map, All_cons, All_nil, and_true]; exact ⟨hc1, hc2, by simp [Clo], by simp [Clo]⟩) (by kernel_rfl) hk
    exact ⟨_, order_all n c n ca o oa b (ints n z) extent gap (works_does _) (fa.to (by kernel_rfl)) (by omega) rfl (Runs.of_loops (Tri.pre l0 (pre _ (by kernel_rfl))))⟩
end Go.Proofs.Ytgfkllnaeekjeaa
