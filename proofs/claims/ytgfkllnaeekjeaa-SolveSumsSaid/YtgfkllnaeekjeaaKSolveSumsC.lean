/-
  Parts of the proof, one behind the other:
  SORTING, the walk: symMerge, its searches and the cases of one thing.
-/
import Derived.Test.YtgfkllnaeekjeaaKSolveSumsB

namespace Go.Proofs.Ytgfkllnaeekjeaa
open Go.Lift
set_option maxRecDepth 1000000
set_option linter.unusedSimpArgs false
set_option linter.unusedVariables false
set_option linter.unusedSectionVars false

theorem fdiv2 (i j : Nat) : Int.fdiv ((i : Int) + (j : Int)) (2 ^ 1) = (((i + j) / 2 : Nat) : Int) := by
  rw [Int.fdiv_eq_ediv_of_nonneg _ (by decide)]
  omega

/-- two neighbours change places in the row -/
theorem swap1_row {N : Nat} (π : Nat → Nat) {k : Nat} : ((ints N fun j => (π j : Int)).set k (.int .i64 (π (k + 1) : Int))).set (k + 1) (.int .i64 (π k : Int)) = ints N fun j => (swap1 π k j : Int) := by
  rw [ints_set, ints_set]
  refine ints_congr fun j hj => ?_
  unfold swap1
  by_cases e2 : j = k + 1
  · rw [if_pos e2, if_neg (by omega), if_pos e2]
  · rw [if_neg e2]
    by_cases e1 : j = k
    · rw [if_pos e1, if_pos e1]
    · rw [if_neg e1, if_neg e1, if_neg e2]
theorem swap1_row' {N : Nat} (π : Nat → Nat) {k : Nat} : ((ints N fun j => (π j : Int)).set (k + 1) (.int .i64 (π k : Int))).set k (.int .i64 (π (k + 1) : Int)) = ints N fun j => (swap1 π k j : Int) := by
  rw [ints_set, ints_set]
  refine ints_congr fun j hj => ?_
  unfold swap1
  by_cases e1 : j = k
  · rw [if_pos e1, if_pos e1]
  · rw [if_neg e1, if_neg e1]
    by_cases e2 : j = k + 1
    · rw [if_pos e2, if_pos e2]
    · rw [if_neg e2, if_neg e2]

section
variable {N : Nat} (hN : N < 2 ^ 44) {b1 b2 : ABlk} (c1 : CloB (fun i => i < 3) b1) (c2 : CloB (fun i => i < 3) b2) {g : FuncId} {cs : List AVal} (hcs : Clos (fun i => i < 3) cs) {less : Nat → Nat → Bool} (hw : Weak less) (hcmp : CmpOk N g cs b1 b2 less)
include hN c1 c2 hcs hw hcmp

/-! ## the case of one thing ahead -/
theorem sm0_loop {a b : Nat} (π : Nat → Nat) (hπ : InN N π) (hab : a < b) (hb : b ≤ N) : ∀ (fuel i j : Nat), j - i ≤ fuel → a + 1 ≤ i → i ≤ j → j ≤ b → (i = a + 1 ∨ less (π (i - 1)) (π a) = true) → (j = b ∨ less (π j) (π a) = false) →
    ∃ k, a + 1 ≤ k ∧ k ≤ b ∧ (k = a + 1 ∨ less (π (k - 1)) (π a) = true) ∧ (k = b ∨ less (π k) (π a) = false) ∧
    Loops Try.prog 3 220 (loopAt Try.prog 64 0) [(0, .slice (some ⟨0, 0, 0, 0, 1⟩) N N), (1, .int .i64 a), (4, .func (.func g) [] cs), (10, .int .i64 i), (11, .int .i64 j)] (SH 11 N π b1 b2)
      (.exit 0) [(0, .slice (some ⟨0, 0, 0, 0, 1⟩) N N), (1, .int .i64 a), (10, .int .i64 k)] (SH 14 N π b1 b2)
  | fuel, i, j, hf, h1, h2, h3, hl, hr => by
    by_cases hij : i = j
    · subst hij
      exact ⟨i, h1, h3, hl, hr, Loops.last (by simp) (sm0_end N g cs _ b1 b2 a i i (by omega))⟩
    · match fuel, hf with
      | 0, hf => omega
      | fuel + 1, hf =>
        have hh : i ≤ (i + j) / 2 ∧ (i + j) / 2 < j := by omega
        generalize hhd : (i + j) / 2 = h at hh
        have hd : Int.fdiv ((i : Int) + (j : Int)) (2 ^ 1) = (h : Int) := by rw [fdiv2, hhd]
        obtain ⟨c, hc, hfd⟩ := hcmp 32 π (π h) (π a) (by omega) (hπ h (by omega)) (hπ a (by omega))
        by_cases hls : less (π h) (π a) = true
        · obtain ⟨k, k1, k2, k3, k4, k5⟩ := sm0_loop π hπ hab hb fuel (h + 1) j (by omega) (by omega) (by omega) h3 (.inr (by rw [show h + 1 - 1 = h by omega]; exact hls)) hr
          refine ⟨k, k1, k2, k3, k4, ?_⟩
          have s := sm0_t N g cs (ints N fun k => (π k : Int)) b1 b2 a i j h (π h : Int) (π a : Int) c (by omega) (by omega) (by omega) (by rw [hd]; omega) (ixS hd (by omega)) (ints_el (by omega)) (ixS rfl (by omega)) (ints_el (by omega)) hfd (hc.2 hls) (by rw [hd]; omega)
          rw [hd] at s
          exact Loops.round s (SDrop c1 c2 (by omega) (by kernel_rfl) (by simp [All_cons, All_nil, Clo, Clos, clos3 hcs]; simp [Ids])) k5
        · have hls : less (π h) (π a) = false := by simpa using hls
          obtain ⟨k, k1, k2, k3, k4, k5⟩ := sm0_loop π hπ hab hb fuel i h (by omega) h1 (by omega) (by omega) hl (.inr hls)
          refine ⟨k, k1, k2, k3, k4, ?_⟩
          have s := sm0_f N g cs (ints N fun k => (π k : Int)) b1 b2 a i j h (π h : Int) (π a : Int) c (by omega) (by omega) (by omega) (by rw [hd]; omega) (ixS hd (by omega)) (ints_el (by omega)) (ixS rfl (by omega)) (ints_el (by omega)) hfd (fun h => by have := hc.1 h; rw [hls] at this; cases this)
          rw [hd] at s
          exact Loops.round s (SDrop c1 c2 (by omega) (by kernel_rfl) (by simp [All_cons, All_nil, Clo, Clos, clos3 hcs]; simp [Ids])) k5

theorem sm1_loop {a i : Nat} (π : Nat → Nat) (hi : i ≤ N) : ∀ (f k : Nat), k + 1 + f = i → a ≤ k →
    Loops Try.prog 3 220 (loopAt Try.prog 64 1) [(0, .slice (some ⟨0, 0, 0, 0, 1⟩) N N), (10, .int .i64 i), (13, .int .i64 k)] (SH 16 N (rotF π a (a + 1) (k + 1)) b1 b2) (.exit 2) [] (SH 20 N (rotF π a (a + 1) i) b1 b2)
  | 0, k, e, h => by
    obtain rfl : i = k + 1 := by omega
    exact Loops.last (by simp) (sm1_end N 0 [] _ b1 b2 (k + 1) k (by omega) (by omega))
  | f + 1, k, e, h => by
    have s := sm1_step N 0 [] (ints N fun j => (rotF π a (a + 1) (k + 1) j : Int)) b1 b2 i k (rotF π a (a + 1) (k + 1) k : Int) (rotF π a (a + 1) (k + 1) (k + 1) : Int) _ _ (by omega) (by omega) (by omega) (by omega) (ixS (by omega) (by omega)) (ints_el (by omega)) (ixS rfl (by omega)) (ints_el (by omega)) (ixS rfl (by omega)) ⟨rfl, ints_get (by omega)⟩ (ixS (by omega) (by omega)) ⟨rfl, ints_set_get (by omega)⟩ (by omega)
    rw [swap1_row, rot1_step π h] at s
    exact Loops.round s (SDrop c1 c2 (by omega) (by kernel_rfl) (by simp [All_cons, All_nil, Clo]; simp [Ids])) (sm1_loop π hi f (k + 1) (by omega) (by omega))

/-! ## the case of one thing behind -/
theorem sm2_loop {a m : Nat} (π : Nat → Nat) (hπ : InN N π) (ham : a < m) (hm : m < N) : ∀ (fuel i j : Nat), j - i ≤ fuel → a ≤ i → i ≤ j → j ≤ m → (i = a ∨ less (π m) (π (i - 1)) = false) → (j = m ∨ less (π m) (π j) = true) →
    ∃ k, a ≤ k ∧ k ≤ m ∧ (k = a ∨ less (π m) (π (k - 1)) = false) ∧ (k = m ∨ less (π m) (π k) = true) ∧
    Loops Try.prog 3 220 (loopAt Try.prog 64 2) [(0, .slice (some ⟨0, 0, 0, 0, 1⟩) N N), (2, .int .i64 m), (4, .func (.func g) [] cs), (14, .int .i64 i), (15, .int .i64 j)] (SH 15 N π b1 b2)
      (.exit 4) [(0, .slice (some ⟨0, 0, 0, 0, 1⟩) N N), (2, .int .i64 m), (14, .int .i64 k)] (SH 18 N π b1 b2)
  | fuel, i, j, hf, h1, h2, h3, hl, hr => by
    by_cases hij : i = j
    · subst hij
      exact ⟨i, h1, h3, hl, hr, Loops.last (by simp) (sm2_end N g cs _ b1 b2 m i i (by omega))⟩
    · match fuel, hf with
      | 0, hf => omega
      | fuel + 1, hf =>
        have hh : i ≤ (i + j) / 2 ∧ (i + j) / 2 < j := by omega
        generalize hhd : (i + j) / 2 = h at hh
        have hd : Int.fdiv ((i : Int) + (j : Int)) (2 ^ 1) = (h : Int) := by rw [fdiv2, hhd]
        obtain ⟨c, hc, hfd⟩ := hcmp 37 π (π m) (π h) (by omega) (hπ m (by omega)) (hπ h (by omega))
        by_cases hls : less (π m) (π h) = true
        · obtain ⟨k, k1, k2, k3, k4, k5⟩ := sm2_loop π hπ ham hm fuel i h (by omega) h1 (by omega) (by omega) hl (.inr hls)
          refine ⟨k, k1, k2, k3, k4, ?_⟩
          have s := sm2_t N g cs (ints N fun k => (π k : Int)) b1 b2 m i j h (π m : Int) (π h : Int) c (by omega) (by omega) (by omega) (by rw [hd]; omega) (ixS rfl (by omega)) (ints_el (by omega)) (ixS hd (by omega)) (ints_el (by omega)) hfd (hc.2 hls)
          rw [hd] at s
          exact Loops.round s (SDrop c1 c2 (by omega) (by kernel_rfl) (by simp [All_cons, All_nil, Clo, Clos, clos3 hcs]; simp [Ids])) k5
        · have hls : less (π m) (π h) = false := by simpa using hls
          obtain ⟨k, k1, k2, k3, k4, k5⟩ := sm2_loop π hπ ham hm fuel (h + 1) j (by omega) (by omega) (by omega) h3 (.inr (by rw [show h + 1 - 1 = h by omega]; exact hls)) hr
          refine ⟨k, k1, k2, k3, k4, ?_⟩
          have s := sm2_f N g cs (ints N fun k => (π k : Int)) b1 b2 m i j h (π m : Int) (π h : Int) c (by omega) (by omega) (by omega) (by rw [hd]; omega) (ixS rfl (by omega)) (ints_el (by omega)) (ixS hd (by omega)) (ints_el (by omega)) hfd (fun h => by have := hc.1 h; rw [hls] at this; cases this) (by rw [hd]; omega)
          rw [hd] at s
          exact Loops.round s (SDrop c1 c2 (by omega) (by kernel_rfl) (by simp [All_cons, All_nil, Clo, Clos, clos3 hcs]; simp [Ids])) k5

theorem sm3_loop {m i : Nat} (π : Nat → Nat) (hm : m < N) : ∀ (f k : Nat), i + f = k → k ≤ m →
    Loops Try.prog 3 220 (loopAt Try.prog 64 3) [(0, .slice (some ⟨0, 0, 0, 0, 1⟩) N N), (14, .int .i64 i), (17, .int .i64 k)] (SH 20 N (rotF π k m (m + 1)) b1 b2) (.exit 6) [] (SH 23 N (rotF π i m (m + 1)) b1 b2)
  | 0, k, e, h => by
    obtain rfl : i = k := by omega
    exact Loops.last (by simp) (sm3_end N 0 [] _ b1 b2 i i (by omega))
  | f + 1, k, e, h => by
    obtain ⟨k', rfl⟩ : ∃ k', k = k' + 1 := ⟨k - 1, by omega⟩
    have s := sm3_step N 0 [] (ints N fun j => (rotF π (k' + 1) m (m + 1) j : Int)) b1 b2 i (k' + 1) (rotF π (k' + 1) m (m + 1) (k' + 1) : Int) (rotF π (k' + 1) m (m + 1) k' : Int) _ _ (by omega) (by omega) (by omega) (ixS (by omega) (by omega)) (ints_el (by omega)) (ixS rfl (by omega)) (ints_el (by omega)) (ixS rfl (by omega)) ⟨rfl, ints_get (by omega)⟩ (ixS (by omega) (by omega)) ⟨rfl, ints_set_get (by omega)⟩ (by omega)
    have r := rotL_step π h (by omega)
    rw [show k' + 1 - 1 = k' by omega] at r s
    rw [swap1_row', r, show ((k' + 1 : Nat) : Int) - 1 = (k' : Int) by omega] at s
    exact Loops.round s (SDrop c1 c2 (by omega) (by kernel_rfl) (by simp [All_cons, All_nil, Clo]; simp [Ids])) (sm3_loop π hm f k' (by omega) (by omega))

/-- one thing ahead -/
theorem sm_one {a m b : Nat} (π : Nat → Nat) (hπ : InN N π) (hm : m = a + 1) (hmb : m < b) (hb : b ≤ N) (hp : Parts less π a m b) :
    ∃ σ, Same π σ a b ∧ Srt less σ a b ∧ ∀ K, 3 ≤ K → FDoes Try.prog 64 [.slice (some ⟨0, 0, 0, 0, 1⟩) N N, .int .i64 a, .int .i64 m, .int .i64 b, .func (.func g) [] cs] (SH K N π b1 b2) (.tuple []) (SH K N σ b1 b2) := by
  subst hm
  obtain ⟨k, k1, k2, k3, k4, k5⟩ := sm0_loop hN c1 c2 hcs hw hcmp π hπ (by omega : a < b) hb (b - (a + 1)) (a + 1) b (by omega) (by omega) (by omega) (by omega) (.inl rfl) (.inl rfl)
  have l := sm1_loop hN c1 c2 hcs hw hcmp (a := a) (i := k) π (by omega) (k - (a + 1)) a (by omega) (by omega)
  rw [rot1_zero] at l
  refine ⟨_, (rotF_same π (by omega) (by omega)).wide (Nat.le_refl a) k2 (by omega), merge_one hw hp k1 k2 k3 k4, fun K hK => ?_⟩
  exact (smc_one N g cs _ b1 b2 a (a + 1) b k _ _ (by omega) (by omega) (Runs.of_loops k5) (Runs.of_loops l)).all3 (by kernel_rfl) ⟨fun _ => rfl, by simp [Clo, Clos]⟩ (srow_clo _ _ _) (srow_clo _ _ _) c1 c2 (by simp [Clos, Clo, hcs]) hK

/-- one thing behind -/
theorem sm_last {a m b : Nat} (π : Nat → Nat) (hπ : InN N π) (ham : a < m) (ham2 : m ≠ a + 1) (hbm : b = m + 1) (hb : b ≤ N) (hp : Parts less π a m b) :
    ∃ σ, Same π σ a b ∧ Srt less σ a b ∧ ∀ K, 3 ≤ K → FDoes Try.prog 64 [.slice (some ⟨0, 0, 0, 0, 1⟩) N N, .int .i64 a, .int .i64 m, .int .i64 b, .func (.func g) [] cs] (SH K N π b1 b2) (.tuple []) (SH K N σ b1 b2) := by
  subst hbm
  obtain ⟨k, k1, k2, k3, k4, k5⟩ := sm2_loop hN c1 c2 hcs hw hcmp π hπ ham (by omega) (m - a) a m (by omega) (by omega) (by omega) (by omega) (.inl rfl) (.inl rfl)
  have l := sm3_loop hN c1 c2 hcs hw hcmp (i := k) π (by omega : m < N) (m - k) m (by omega) (by omega)
  rw [rotL_zero] at l
  refine ⟨_, (rotF_same π k2 (by omega)).wide k1 (Nat.le_refl _) (by omega), merge_last hw hp k1 k2 k3 k4, fun K hK => ?_⟩
  exact (smc_last N g cs _ b1 b2 a m (m + 1) k _ _ (by omega) (by omega) (by omega) (by omega) (Runs.of_loops k5) (Runs.of_loops l)).all3 (by kernel_rfl) ⟨fun _ => rfl, by simp [Clo, Clos]⟩ (srow_clo _ _ _) (srow_clo _ _ _) c1 c2 (by simp [Clos, Clo, hcs]) hK

end
end Go.Proofs.Ytgfkllnaeekjeaa
