/-
  Parts of the proof, one behind the other:
  SORTING, the walk: symMerge.
  SORTING, the walk: symMerge puts two stretches in order.
  SORTING, the walk: slices.stableCmpFunc.
  SORTING, the walk: slices.SortStableFunc sorts, and keeps what is alike in its order.
  SORTING, the walk: slices.SortStableFunc.
  THE LIFT, PART X: at a loop's head or end rows get other numbers; rows that nobody names are added.
  A ROW OF WHICH LESS IS KNOWN: what lay there in earlier versions.
  WHERE TRACKS LIE: the numbers, without the program.
  A number brought into a stretch: the walk.
  grid.Tracks where items are auto or fixed: the walk.
  Tracks that are as large as what is in them hold all of it: plain law.
  THE LIFT, PART R: the abstract machine once more, so written that the kernel runs it with every value worked out at once. What it answers the abstract machine answers.
  grid.Tracks where items are auto or fixed: what it does.
-/
import Derived.Test.YtcgcpmcjaeenlaaKGridHoldsD

namespace Go.Proofs.Ytcgcpmcjaeenlaa
open Go.Lift
set_option maxRecDepth 1000000
set_option linter.unusedSimpArgs false
set_option linter.unusedVariables false
set_option linter.unusedSectionVars false

section
variable (tw : Nat → Tr) (vv ff : Nat) {N : Nat} (hN : N < 2 ^ 44) {b1 b2 : ABlk} (c1 : CloB (fun i => i < 3) b1) (c2 : CloB (fun i => i < 3) b2) {g : FuncId} {cs : List AVal} (hcs : Clos (fun i => i < 3) cs) {less : Nat → Nat → Bool} (hw : Weak less) (hcmp : QCmpOk tw vv ff N g cs b1 b2 less)
include tw vv ff hN c1 c2 hcs hw hcmp

theorem q_sm4_loop {a m b d n p s0 r0 : Nat} (π : Nat → Nat) (hπ : InN N π) (hp : ∀ h, s0 ≤ h → h < r0 → h ≤ p ∧ p - h < N ∧ h < N) (hpN : p < 2 ^ 50) (hr0 : r0 ≤ N) : ∀ (fuel i j : Nat), j - i ≤ fuel → s0 ≤ i → i ≤ j → j ≤ r0 → (i = s0 ∨ less (π (p - (i - 1))) (π (i - 1)) = false) → (j = r0 ∨ less (π (p - j)) (π j) = true) →
    ∃ k, s0 ≤ k ∧ k ≤ r0 ∧ (k = s0 ∨ less (π (p - (k - 1))) (π (k - 1)) = false) ∧ (k = r0 ∨ less (π (p - k)) (π k) = true) ∧
    Loops Try.prog 3 220 (loopAt Try.prog 73 4) [(0, .slice (some ⟨0, vv, 0, 0, 3⟩) N N), (1, .int .i64 a), (2, .int .i64 m), (3, .int .i64 b), (4, .func (.func g) [] cs), (18, .int .i64 d), (19, .int .i64 n), (20, .int .i64 i), (21, .int .i64 j), (22, .int .i64 p)] (QSH tw vv ff 36 N π b1 b2)
      (.exit 8) [(0, .slice (some ⟨0, vv, 0, 0, 3⟩) N N), (1, .int .i64 a), (2, .int .i64 m), (3, .int .i64 b), (4, .func (.func g) [] cs), (18, .int .i64 d), (19, .int .i64 n), (20, .int .i64 k)] (QSH tw vv ff 39 N π b1 b2)
  | fuel, i, j, hf, h1, h2, h3, hl, hr => by
    by_cases hij : i = j
    · subst hij
      exact ⟨i, h1, h3, hl, hr, Loops.last (by simp) (qsm4_end vv ff N g cs _ b1 b2 a m b d n i i p (by omega))⟩
    · match fuel, hf with
      | 0, hf => omega
      | fuel + 1, hf =>
        have hh : i ≤ (i + j) / 2 ∧ (i + j) / 2 < j := by omega
        generalize hhd : (i + j) / 2 = h at hh
        have hd : Int.fdiv ((i : Int) + (j : Int)) (2 ^ 1) = (h : Int) := by rw [fdiv2, hhd]
        obtain ⟨p1, p2, p3⟩ := hp h (by omega) (by omega)
        obtain ⟨c, hc, hfd⟩ := hcmp 60 π (π (p - h)) (π h) (by omega) (hπ (p - h) p2) (hπ h p3)
        by_cases hls : less (π (p - h)) (π h) = true
        · obtain ⟨k, k1, k2, k3, k4, k5⟩ := q_sm4_loop π hπ hp hpN hr0 fuel i h (by omega) h1 (by omega) (by omega) hl (.inr hls)
          refine ⟨k, k1, k2, k3, k4, ?_⟩
          have s := qsm4_t vv ff N g cs (trw N tw fun k => π k) b1 b2 a m b d n i j p h (tw (π (p - h))).a (tw (π (p - h))).b (tw (π (p - h))).c (tw (π h)).a (tw (π h)).b (tw (π h)).c c (by omega) (by omega) (by omega) (by rw [hd]; omega) (by rw [hd]; omega) (q_ixS (by rw [hd]; omega) p2) (q_trw_el p2) (q_ixS hd p3) (q_trw_el p3) hfd (hc.2 hls)
          rw [hd] at s
          exact Loops.round s (QSDrop c1 c2 (by omega) (by kernel_rfl) (by simp [All_cons, All_nil, Clo, Clos, clos3 hcs]; simp [Ids])) k5
        · have hls : less (π (p - h)) (π h) = false := by simpa using hls
          obtain ⟨k, k1, k2, k3, k4, k5⟩ := q_sm4_loop π hπ hp hpN hr0 fuel (h + 1) j (by omega) (by omega) (by omega) h3 (.inr (by rw [show h + 1 - 1 = h by omega]; exact hls)) hr
          refine ⟨k, k1, k2, k3, k4, ?_⟩
          have s := qsm4_f vv ff N g cs (trw N tw fun k => π k) b1 b2 a m b d n i j p h (tw (π (p - h))).a (tw (π (p - h))).b (tw (π (p - h))).c (tw (π h)).a (tw (π h)).b (tw (π h)).c c (by omega) (by omega) (by omega) (by rw [hd]; omega) (by rw [hd]; omega) (q_ixS (by rw [hd]; omega) p2) (q_trw_el p2) (q_ixS hd p3) (q_trw_el p3) hfd (fun h => by have := hc.1 h; rw [hls] at this; cases this) (by rw [hd]; omega)
          rw [hd] at s
          exact Loops.round s (QSDrop c1 c2 (by omega) (by kernel_rfl) (by simp [All_cons, All_nil, Clo, Clos, clos3 hcs]; simp [Ids])) k5
end

/-- what a merge does -/
def QSmDo (tw : Nat → Tr) (vv ff N : Nat) (b1 b2 : ABlk) (g : FuncId) (cs : List AVal) (π σ : Nat → Nat) (a m b : Nat) : Prop :=
  ∀ (K : Nat) (ea em eb : Int), 3 ≤ K → ea = a → em = m → eb = b → FDoes Try.prog 73 [.slice (some ⟨0, vv, 0, 0, 3⟩) N N, .int .i64 ea, .int .i64 em, .int .i64 eb, .func (.func g) [] cs] (QSH tw vv ff K N π b1 b2) (.tuple []) (QSH tw vv ff K N σ b1 b2)

def QRotDo (tw : Nat → Tr) (vv ff N : Nat) (b1 b2 : ABlk) (g : FuncId) (cs : List AVal) (π σ : Nat → Nat) (a m b : Nat) : Prop :=
  ∀ (K : Nat) (ea em eb : Int), 3 ≤ K → ea = a → em = m → eb = b → FDoes Try.prog 78 [.slice (some ⟨0, vv, 0, 0, 3⟩) N N, .int .i64 ea, .int .i64 em, .int .i64 eb, .func (.func g) [] cs] (QSH tw vv ff K N π b1 b2) (.tuple []) (QSH tw vv ff K N σ b1 b2)

section
variable (tw : Nat → Tr) (vv ff : Nat) {N : Nat} (hN : N < 2 ^ 44) {b1 b2 : ABlk} (c1 : CloB (fun i => i < 3) b1) (c2 : CloB (fun i => i < 3) b2) {g : FuncId} {cs : List AVal} (hcs : Clos (fun i => i < 3) cs)
include tw vv ff hN c1 c2 hcs
theorem q_smc_allT {a m b k mid e : Nat} (π ρ σ τ : Nat → Nat) (hmid : mid = (a + b) / 2) (he : e = mid + m - k) (hk : k ≤ mid + m) (ham : a < m) (ha1 : m ≠ a + 1) (hmb : m < b) (hb1 : b ≠ m + 1) (hb : b ≤ N) (ht : mid < m)
    (hloop : Runs Try.prog 3 220 (.loop (loopAt Try.prog 73 4)) [(0, .slice (some ⟨0, vv, 0, 0, 3⟩) N N), (1, .int .i64 a), (2, .int .i64 m), (3, .int .i64 b), (4, .func (.func g) [] cs), (18, .int .i64 (Int.fdiv ((a : Int) + (b : Int)) (2 ^ 1))), (19, .int .i64 (Int.fdiv ((a : Int) + (b : Int)) (2 ^ 1) + (m : Int))), (20, .int .i64 (Int.fdiv ((a : Int) + (b : Int)) (2 ^ 1) + (m : Int) - (b : Int))), (21, .int .i64 (Int.fdiv ((a : Int) + (b : Int)) (2 ^ 1))), (22, .int .i64 (Int.fdiv ((a : Int) + (b : Int)) (2 ^ 1) + (m : Int) - 1))] (QSH tw vv ff 36 N π b1 b2)
      (.exit 8) [(0, .slice (some ⟨0, vv, 0, 0, 3⟩) N N), (1, .int .i64 a), (2, .int .i64 m), (3, .int .i64 b), (4, .func (.func g) [] cs), (18, .int .i64 (Int.fdiv ((a : Int) + (b : Int)) (2 ^ 1))), (19, .int .i64 (Int.fdiv ((a : Int) + (b : Int)) (2 ^ 1) + (m : Int))), (20, .int .i64 k)] (QSH tw vv ff 39 N π b1 b2))
    (hr : (k < m ∧ m < e ∧ QRotDo tw vv ff N b1 b2 g cs π ρ k m e) ∨ (k < m ∧ ¬ m < e ∧ π = ρ) ∨ (¬ k < m ∧ π = ρ))
    (hl : (a < k ∧ k < mid ∧ QSmDo tw vv ff N b1 b2 g cs ρ σ a k mid) ∨ (a < k ∧ ¬ k < mid ∧ ρ = σ) ∨ (¬ a < k ∧ ρ = σ))
    (hd : (mid < e ∧ e < b ∧ QSmDo tw vv ff N b1 b2 g cs σ τ mid e b) ∨ (mid < e ∧ ¬ e < b ∧ σ = τ) ∨ (¬ mid < e ∧ σ = τ)) {K : Nat} (hK : 3 ≤ K) :
    FDoes Try.prog 73 [.slice (some ⟨0, vv, 0, 0, 3⟩) N N, .int .i64 a, .int .i64 m, .int .i64 b, .func (.func g) [] cs] (QSH tw vv ff K N π b1 b2) (.tuple []) (QSH tw vv ff K N τ b1 b2) := by
  have hd2 : Int.fdiv ((a : Int) + (b : Int)) (2 ^ 1) = (mid : Int) := by rw [fdiv2, hmid]
  rcases hr with ⟨r1, r2, hr⟩ | ⟨r1, r2, hr⟩ | ⟨r1, hr⟩ <;> rcases hl with ⟨l1, l2, hl⟩ | ⟨l1, l2, hl⟩ | ⟨l1, hl⟩ <;> rcases hd with ⟨d1, d2, hd⟩ | ⟨d1, d2, hd⟩ | ⟨d1, hd⟩
  · exact (qsmc_T_TT_TT_TT vv ff N g cs (trw N tw fun j => π j) b1 b2 a m b k (trw N tw fun j => ρ j) (trw N tw fun j => σ j) (trw N tw fun j => τ j) (by omega) (by omega) (by omega) (by omega) (by omega) (by omega) (by omega) (by omega) (by omega) (by omega) (by omega) hloop (by omega) (by omega) (by omega) (hr _ _ _ _ (by omega) rfl rfl (by omega)) (by omega) (by omega) (hl _ _ _ _ (by omega) rfl rfl hd2) (by omega) (by omega) (hd _ _ _ _ (by omega) hd2 (by omega) rfl)).all3 (by kernel_rfl) ⟨fun _ => rfl, by simp [Clo, Clos]⟩ (q_srow_clo _ _ _ _ _ _) (q_srow_clo _ _ _ _ _ _) c1 c2 (by simp [Clos, Clo, hcs]) hK
  · subst hd; exact (qsmc_T_TT_TT_TF vv ff N g cs (trw N tw fun j => π j) b1 b2 a m b k (trw N tw fun j => ρ j) (trw N tw fun j => σ j) (trw N tw fun j => σ j) (by omega) (by omega) (by omega) (by omega) (by omega) (by omega) (by omega) (by omega) (by omega) (by omega) (by omega) hloop (by omega) (by omega) (by omega) (hr _ _ _ _ (by omega) rfl rfl (by omega)) (by omega) (by omega) (hl _ _ _ _ (by omega) rfl rfl hd2) (by omega) (by omega)).all3 (by kernel_rfl) ⟨fun _ => rfl, by simp [Clo, Clos]⟩ (q_srow_clo _ _ _ _ _ _) (q_srow_clo _ _ _ _ _ _) c1 c2 (by simp [Clos, Clo, hcs]) hK
  · subst hd; exact (qsmc_T_TT_TT_F vv ff N g cs (trw N tw fun j => π j) b1 b2 a m b k (trw N tw fun j => ρ j) (trw N tw fun j => σ j) (trw N tw fun j => σ j) (by omega) (by omega) (by omega) (by omega) (by omega) (by omega) (by omega) (by omega) (by omega) (by omega) (by omega) hloop (by omega) (by omega) (by omega) (hr _ _ _ _ (by omega) rfl rfl (by omega)) (by omega) (by omega) (hl _ _ _ _ (by omega) rfl rfl hd2) (by omega)).all3 (by kernel_rfl) ⟨fun _ => rfl, by simp [Clo, Clos]⟩ (q_srow_clo _ _ _ _ _ _) (q_srow_clo _ _ _ _ _ _) c1 c2 (by simp [Clos, Clo, hcs]) hK
  · subst hl; exact (qsmc_T_TT_TF_TT vv ff N g cs (trw N tw fun j => π j) b1 b2 a m b k (trw N tw fun j => ρ j) (trw N tw fun j => ρ j) (trw N tw fun j => τ j) (by omega) (by omega) (by omega) (by omega) (by omega) (by omega) (by omega) (by omega) (by omega) (by omega) (by omega) hloop (by omega) (by omega) (by omega) (hr _ _ _ _ (by omega) rfl rfl (by omega)) (by omega) (by omega) (by omega) (by omega) (hd _ _ _ _ (by omega) hd2 (by omega) rfl)).all3 (by kernel_rfl) ⟨fun _ => rfl, by simp [Clo, Clos]⟩ (q_srow_clo _ _ _ _ _ _) (q_srow_clo _ _ _ _ _ _) c1 c2 (by simp [Clos, Clo, hcs]) hK
  · subst hd; subst hl; exact (qsmc_T_TT_TF_TF vv ff N g cs (trw N tw fun j => π j) b1 b2 a m b k (trw N tw fun j => ρ j) (trw N tw fun j => ρ j) (trw N tw fun j => ρ j) (by omega) (by omega) (by omega) (by omega) (by omega) (by omega) (by omega) (by omega) (by omega) (by omega) (by omega) hloop (by omega) (by omega) (by omega) (hr _ _ _ _ (by omega) rfl rfl (by omega)) (by omega) (by omega) (by omega) (by omega)).all3 (by kernel_rfl) ⟨fun _ => rfl, by simp [Clo, Clos]⟩ (q_srow_clo _ _ _ _ _ _) (q_srow_clo _ _ _ _ _ _) c1 c2 (by simp [Clos, Clo, hcs]) hK
  · subst hd; subst hl; exact (qsmc_T_TT_TF_F vv ff N g cs (trw N tw fun j => π j) b1 b2 a m b k (trw N tw fun j => ρ j) (trw N tw fun j => ρ j) (trw N tw fun j => ρ j) (by omega) (by omega) (by omega) (by omega) (by omega) (by omega) (by omega) (by omega) (by omega) (by omega) (by omega) hloop (by omega) (by omega) (by omega) (hr _ _ _ _ (by omega) rfl rfl (by omega)) (by omega) (by omega) (by omega)).all3 (by kernel_rfl) ⟨fun _ => rfl, by simp [Clo, Clos]⟩ (q_srow_clo _ _ _ _ _ _) (q_srow_clo _ _ _ _ _ _) c1 c2 (by simp [Clos, Clo, hcs]) hK
  · subst hl; exact (qsmc_T_TT_F_TT vv ff N g cs (trw N tw fun j => π j) b1 b2 a m b k (trw N tw fun j => ρ j) (trw N tw fun j => ρ j) (trw N tw fun j => τ j) (by omega) (by omega) (by omega) (by omega) (by omega) (by omega) (by omega) (by omega) (by omega) (by omega) (by omega) hloop (by omega) (by omega) (by omega) (hr _ _ _ _ (by omega) rfl rfl (by omega)) (by omega) (by omega) (by omega) (hd _ _ _ _ (by omega) hd2 (by omega) rfl)).all3 (by kernel_rfl) ⟨fun _ => rfl, by simp [Clo, Clos]⟩ (q_srow_clo _ _ _ _ _ _) (q_srow_clo _ _ _ _ _ _) c1 c2 (by simp [Clos, Clo, hcs]) hK
  · subst hd; subst hl; exact (qsmc_T_TT_F_TF vv ff N g cs (trw N tw fun j => π j) b1 b2 a m b k (trw N tw fun j => ρ j) (trw N tw fun j => ρ j) (trw N tw fun j => ρ j) (by omega) (by omega) (by omega) (by omega) (by omega) (by omega) (by omega) (by omega) (by omega) (by omega) (by omega) hloop (by omega) (by omega) (by omega) (hr _ _ _ _ (by omega) rfl rfl (by omega)) (by omega) (by omega) (by omega)).all3 (by kernel_rfl) ⟨fun _ => rfl, by simp [Clo, Clos]⟩ (q_srow_clo _ _ _ _ _ _) (q_srow_clo _ _ _ _ _ _) c1 c2 (by simp [Clos, Clo, hcs]) hK
  · subst hd; subst hl; exact (qsmc_T_TT_F_F vv ff N g cs (trw N tw fun j => π j) b1 b2 a m b k (trw N tw fun j => ρ j) (trw N tw fun j => ρ j) (trw N tw fun j => ρ j) (by omega) (by omega) (by omega) (by omega) (by omega) (by omega) (by omega) (by omega) (by omega) (by omega) (by omega) hloop (by omega) (by omega) (by omega) (hr _ _ _ _ (by omega) rfl rfl (by omega)) (by omega) (by omega)).all3 (by kernel_rfl) ⟨fun _ => rfl, by simp [Clo, Clos]⟩ (q_srow_clo _ _ _ _ _ _) (q_srow_clo _ _ _ _ _ _) c1 c2 (by simp [Clos, Clo, hcs]) hK
  · subst hr; exact (qsmc_T_TF_TT_TT vv ff N g cs (trw N tw fun j => π j) b1 b2 a m b k (trw N tw fun j => π j) (trw N tw fun j => σ j) (trw N tw fun j => τ j) (by omega) (by omega) (by omega) (by omega) (by omega) (by omega) (by omega) (by omega) (by omega) (by omega) (by omega) hloop (by omega) (by omega) (by omega) (by omega) (by omega) (hl _ _ _ _ (by omega) rfl rfl hd2) (by omega) (by omega) (hd _ _ _ _ (by omega) hd2 (by omega) rfl)).all3 (by kernel_rfl) ⟨fun _ => rfl, by simp [Clo, Clos]⟩ (q_srow_clo _ _ _ _ _ _) (q_srow_clo _ _ _ _ _ _) c1 c2 (by simp [Clos, Clo, hcs]) hK
  · subst hd; subst hr; exact (qsmc_T_TF_TT_TF vv ff N g cs (trw N tw fun j => π j) b1 b2 a m b k (trw N tw fun j => π j) (trw N tw fun j => σ j) (trw N tw fun j => σ j) (by omega) (by omega) (by omega) (by omega) (by omega) (by omega) (by omega) (by omega) (by omega) (by omega) (by omega) hloop (by omega) (by omega) (by omega) (by omega) (by omega) (hl _ _ _ _ (by omega) rfl rfl hd2) (by omega) (by omega)).all3 (by kernel_rfl) ⟨fun _ => rfl, by simp [Clo, Clos]⟩ (q_srow_clo _ _ _ _ _ _) (q_srow_clo _ _ _ _ _ _) c1 c2 (by simp [Clos, Clo, hcs]) hK
  · subst hd; subst hr; exact (qsmc_T_TF_TT_F vv ff N g cs (trw N tw fun j => π j) b1 b2 a m b k (trw N tw fun j => π j) (trw N tw fun j => σ j) (trw N tw fun j => σ j) (by omega) (by omega) (by omega) (by omega) (by omega) (by omega) (by omega) (by omega) (by omega) (by omega) (by omega) hloop (by omega) (by omega) (by omega) (by omega) (by omega) (hl _ _ _ _ (by omega) rfl rfl hd2) (by omega)).all3 (by kernel_rfl) ⟨fun _ => rfl, by simp [Clo, Clos]⟩ (q_srow_clo _ _ _ _ _ _) (q_srow_clo _ _ _ _ _ _) c1 c2 (by simp [Clos, Clo, hcs]) hK
  · subst hl; subst hr; exact (qsmc_T_TF_TF_TT vv ff N g cs (trw N tw fun j => π j) b1 b2 a m b k (trw N tw fun j => π j) (trw N tw fun j => π j) (trw N tw fun j => τ j) (by omega) (by omega) (by omega) (by omega) (by omega) (by omega) (by omega) (by omega) (by omega) (by omega) (by omega) hloop (by omega) (by omega) (by omega) (by omega) (by omega) (by omega) (by omega) (hd _ _ _ _ (by omega) hd2 (by omega) rfl)).all3 (by kernel_rfl) ⟨fun _ => rfl, by simp [Clo, Clos]⟩ (q_srow_clo _ _ _ _ _ _) (q_srow_clo _ _ _ _ _ _) c1 c2 (by simp [Clos, Clo, hcs]) hK
  · subst hd; subst hl; subst hr; exact (qsmc_T_TF_TF_TF vv ff N g cs (trw N tw fun j => π j) b1 b2 a m b k (trw N tw fun j => π j) (trw N tw fun j => π j) (trw N tw fun j => π j) (by omega) (by omega) (by omega) (by omega) (by omega) (by omega) (by omega) (by omega) (by omega) (by omega) (by omega) hloop (by omega) (by omega) (by omega) (by omega) (by omega) (by omega) (by omega)).all3 (by kernel_rfl) ⟨fun _ => rfl, by simp [Clo, Clos]⟩ (q_srow_clo _ _ _ _ _ _) (q_srow_clo _ _ _ _ _ _) c1 c2 (by simp [Clos, Clo, hcs]) hK
  · subst hd; subst hl; subst hr; exact (qsmc_T_TF_TF_F vv ff N g cs (trw N tw fun j => π j) b1 b2 a m b k (trw N tw fun j => π j) (trw N tw fun j => π j) (trw N tw fun j => π j) (by omega) (by omega) (by omega) (by omega) (by omega) (by omega) (by omega) (by omega) (by omega) (by omega) (by omega) hloop (by omega) (by omega) (by omega) (by omega) (by omega) (by omega)).all3 (by kernel_rfl) ⟨fun _ => rfl, by simp [Clo, Clos]⟩ (q_srow_clo _ _ _ _ _ _) (q_srow_clo _ _ _ _ _ _) c1 c2 (by simp [Clos, Clo, hcs]) hK
  · subst hl; subst hr; exact (qsmc_T_TF_F_TT vv ff N g cs (trw N tw fun j => π j) b1 b2 a m b k (trw N tw fun j => π j) (trw N tw fun j => π j) (trw N tw fun j => τ j) (by omega) (by omega) (by omega) (by omega) (by omega) (by omega) (by omega) (by omega) (by omega) (by omega) (by omega) hloop (by omega) (by omega) (by omega) (by omega) (by omega) (by omega) (hd _ _ _ _ (by omega) hd2 (by omega) rfl)).all3 (by kernel_rfl) ⟨fun _ => rfl, by simp [Clo, Clos]⟩ (q_srow_clo _ _ _ _ _ _) (q_srow_clo _ _ _ _ _ _) c1 c2 (by simp [Clos, Clo, hcs]) hK
  · subst hd; subst hl; subst hr; exact (qsmc_T_TF_F_TF vv ff N g cs (trw N tw fun j => π j) b1 b2 a m b k (trw N tw fun j => π j) (trw N tw fun j => π j) (trw N tw fun j => π j) (by omega) (by omega) (by omega) (by omega) (by omega) (by omega) (by omega) (by omega) (by omega) (by omega) (by omega) hloop (by omega) (by omega) (by omega) (by omega) (by omega) (by omega)).all3 (by kernel_rfl) ⟨fun _ => rfl, by simp [Clo, Clos]⟩ (q_srow_clo _ _ _ _ _ _) (q_srow_clo _ _ _ _ _ _) c1 c2 (by simp [Clos, Clo, hcs]) hK
  · subst hd; subst hl; subst hr; exact (qsmc_T_TF_F_F vv ff N g cs (trw N tw fun j => π j) b1 b2 a m b k (trw N tw fun j => π j) (trw N tw fun j => π j) (trw N tw fun j => π j) (by omega) (by omega) (by omega) (by omega) (by omega) (by omega) (by omega) (by omega) (by omega) (by omega) (by omega) hloop (by omega) (by omega) (by omega) (by omega) (by omega)).all3 (by kernel_rfl) ⟨fun _ => rfl, by simp [Clo, Clos]⟩ (q_srow_clo _ _ _ _ _ _) (q_srow_clo _ _ _ _ _ _) c1 c2 (by simp [Clos, Clo, hcs]) hK
  · subst hr; exact (qsmc_T_F_TT_TT vv ff N g cs (trw N tw fun j => π j) b1 b2 a m b k (trw N tw fun j => π j) (trw N tw fun j => σ j) (trw N tw fun j => τ j) (by omega) (by omega) (by omega) (by omega) (by omega) (by omega) (by omega) (by omega) (by omega) (by omega) (by omega) hloop (by omega) (by omega) (by omega) (by omega) (hl _ _ _ _ (by omega) rfl rfl hd2) (by omega) (by omega) (hd _ _ _ _ (by omega) hd2 (by omega) rfl)).all3 (by kernel_rfl) ⟨fun _ => rfl, by simp [Clo, Clos]⟩ (q_srow_clo _ _ _ _ _ _) (q_srow_clo _ _ _ _ _ _) c1 c2 (by simp [Clos, Clo, hcs]) hK
  · subst hd; subst hr; exact (qsmc_T_F_TT_TF vv ff N g cs (trw N tw fun j => π j) b1 b2 a m b k (trw N tw fun j => π j) (trw N tw fun j => σ j) (trw N tw fun j => σ j) (by omega) (by omega) (by omega) (by omega) (by omega) (by omega) (by omega) (by omega) (by omega) (by omega) (by omega) hloop (by omega) (by omega) (by omega) (by omega) (hl _ _ _ _ (by omega) rfl rfl hd2) (by omega) (by omega)).all3 (by kernel_rfl) ⟨fun _ => rfl, by simp [Clo, Clos]⟩ (q_srow_clo _ _ _ _ _ _) (q_srow_clo _ _ _ _ _ _) c1 c2 (by simp [Clos, Clo, hcs]) hK
  · subst hd; subst hr; exact (qsmc_T_F_TT_F vv ff N g cs (trw N tw fun j => π j) b1 b2 a m b k (trw N tw fun j => π j) (trw N tw fun j => σ j) (trw N tw fun j => σ j) (by omega) (by omega) (by omega) (by omega) (by omega) (by omega) (by omega) (by omega) (by omega) (by omega) (by omega) hloop (by omega) (by omega) (by omega) (by omega) (hl _ _ _ _ (by omega) rfl rfl hd2) (by omega)).all3 (by kernel_rfl) ⟨fun _ => rfl, by simp [Clo, Clos]⟩ (q_srow_clo _ _ _ _ _ _) (q_srow_clo _ _ _ _ _ _) c1 c2 (by simp [Clos, Clo, hcs]) hK
  · subst hl; subst hr; exact (qsmc_T_F_TF_TT vv ff N g cs (trw N tw fun j => π j) b1 b2 a m b k (trw N tw fun j => π j) (trw N tw fun j => π j) (trw N tw fun j => τ j) (by omega) (by omega) (by omega) (by omega) (by omega) (by omega) (by omega) (by omega) (by omega) (by omega) (by omega) hloop (by omega) (by omega) (by omega) (by omega) (by omega) (by omega) (hd _ _ _ _ (by omega) hd2 (by omega) rfl)).all3 (by kernel_rfl) ⟨fun _ => rfl, by simp [Clo, Clos]⟩ (q_srow_clo _ _ _ _ _ _) (q_srow_clo _ _ _ _ _ _) c1 c2 (by simp [Clos, Clo, hcs]) hK
  · subst hd; subst hl; subst hr; exact (qsmc_T_F_TF_TF vv ff N g cs (trw N tw fun j => π j) b1 b2 a m b k (trw N tw fun j => π j) (trw N tw fun j => π j) (trw N tw fun j => π j) (by omega) (by omega) (by omega) (by omega) (by omega) (by omega) (by omega) (by omega) (by omega) (by omega) (by omega) hloop (by omega) (by omega) (by omega) (by omega) (by omega) (by omega)).all3 (by kernel_rfl) ⟨fun _ => rfl, by simp [Clo, Clos]⟩ (q_srow_clo _ _ _ _ _ _) (q_srow_clo _ _ _ _ _ _) c1 c2 (by simp [Clos, Clo, hcs]) hK
  · subst hd; subst hl; subst hr; exact (qsmc_T_F_TF_F vv ff N g cs (trw N tw fun j => π j) b1 b2 a m b k (trw N tw fun j => π j) (trw N tw fun j => π j) (trw N tw fun j => π j) (by omega) (by omega) (by omega) (by omega) (by omega) (by omega) (by omega) (by omega) (by omega) (by omega) (by omega) hloop (by omega) (by omega) (by omega) (by omega) (by omega)).all3 (by kernel_rfl) ⟨fun _ => rfl, by simp [Clo, Clos]⟩ (q_srow_clo _ _ _ _ _ _) (q_srow_clo _ _ _ _ _ _) c1 c2 (by simp [Clos, Clo, hcs]) hK
  · subst hl; subst hr; exact (qsmc_T_F_F_TT vv ff N g cs (trw N tw fun j => π j) b1 b2 a m b k (trw N tw fun j => π j) (trw N tw fun j => π j) (trw N tw fun j => τ j) (by omega) (by omega) (by omega) (by omega) (by omega) (by omega) (by omega) (by omega) (by omega) (by omega) (by omega) hloop (by omega) (by omega) (by omega) (by omega) (by omega) (hd _ _ _ _ (by omega) hd2 (by omega) rfl)).all3 (by kernel_rfl) ⟨fun _ => rfl, by simp [Clo, Clos]⟩ (q_srow_clo _ _ _ _ _ _) (q_srow_clo _ _ _ _ _ _) c1 c2 (by simp [Clos, Clo, hcs]) hK
  · subst hd; subst hl; subst hr; exact (qsmc_T_F_F_TF vv ff N g cs (trw N tw fun j => π j) b1 b2 a m b k (trw N tw fun j => π j) (trw N tw fun j => π j) (trw N tw fun j => π j) (by omega) (by omega) (by omega) (by omega) (by omega) (by omega) (by omega) (by omega) (by omega) (by omega) (by omega) hloop (by omega) (by omega) (by omega) (by omega) (by omega)).all3 (by kernel_rfl) ⟨fun _ => rfl, by simp [Clo, Clos]⟩ (q_srow_clo _ _ _ _ _ _) (q_srow_clo _ _ _ _ _ _) c1 c2 (by simp [Clos, Clo, hcs]) hK
  · subst hd; subst hl; subst hr; exact (qsmc_T_F_F_F vv ff N g cs (trw N tw fun j => π j) b1 b2 a m b k (trw N tw fun j => π j) (trw N tw fun j => π j) (trw N tw fun j => π j) (by omega) (by omega) (by omega) (by omega) (by omega) (by omega) (by omega) (by omega) (by omega) (by omega) (by omega) hloop (by omega) (by omega) (by omega) (by omega)).all3 (by kernel_rfl) ⟨fun _ => rfl, by simp [Clo, Clos]⟩ (q_srow_clo _ _ _ _ _ _) (q_srow_clo _ _ _ _ _ _) c1 c2 (by simp [Clos, Clo, hcs]) hK

theorem q_smc_allF {a m b k mid e : Nat} (π ρ σ τ : Nat → Nat) (hmid : mid = (a + b) / 2) (he : e = mid + m - k) (hk : k ≤ mid + m) (ham : a < m) (ha1 : m ≠ a + 1) (hmb : m < b) (hb1 : b ≠ m + 1) (hb : b ≤ N) (ht : ¬ mid < m)
    (hloop : Runs Try.prog 3 220 (.loop (loopAt Try.prog 73 4)) [(0, .slice (some ⟨0, vv, 0, 0, 3⟩) N N), (1, .int .i64 a), (2, .int .i64 m), (3, .int .i64 b), (4, .func (.func g) [] cs), (18, .int .i64 (Int.fdiv ((a : Int) + (b : Int)) (2 ^ 1))), (19, .int .i64 (Int.fdiv ((a : Int) + (b : Int)) (2 ^ 1) + (m : Int))), (20, .int .i64 a), (21, .int .i64 m), (22, .int .i64 (Int.fdiv ((a : Int) + (b : Int)) (2 ^ 1) + (m : Int) - 1))] (QSH tw vv ff 34 N π b1 b2)
      (.exit 8) [(0, .slice (some ⟨0, vv, 0, 0, 3⟩) N N), (1, .int .i64 a), (2, .int .i64 m), (3, .int .i64 b), (4, .func (.func g) [] cs), (18, .int .i64 (Int.fdiv ((a : Int) + (b : Int)) (2 ^ 1))), (19, .int .i64 (Int.fdiv ((a : Int) + (b : Int)) (2 ^ 1) + (m : Int))), (20, .int .i64 k)] (QSH tw vv ff 39 N π b1 b2))
    (hr : (k < m ∧ m < e ∧ QRotDo tw vv ff N b1 b2 g cs π ρ k m e) ∨ (k < m ∧ ¬ m < e ∧ π = ρ) ∨ (¬ k < m ∧ π = ρ))
    (hl : (a < k ∧ k < mid ∧ QSmDo tw vv ff N b1 b2 g cs ρ σ a k mid) ∨ (a < k ∧ ¬ k < mid ∧ ρ = σ) ∨ (¬ a < k ∧ ρ = σ))
    (hd : (mid < e ∧ e < b ∧ QSmDo tw vv ff N b1 b2 g cs σ τ mid e b) ∨ (mid < e ∧ ¬ e < b ∧ σ = τ) ∨ (¬ mid < e ∧ σ = τ)) {K : Nat} (hK : 3 ≤ K) :
    FDoes Try.prog 73 [.slice (some ⟨0, vv, 0, 0, 3⟩) N N, .int .i64 a, .int .i64 m, .int .i64 b, .func (.func g) [] cs] (QSH tw vv ff K N π b1 b2) (.tuple []) (QSH tw vv ff K N τ b1 b2) := by
  have hd2 : Int.fdiv ((a : Int) + (b : Int)) (2 ^ 1) = (mid : Int) := by rw [fdiv2, hmid]
  rcases hr with ⟨r1, r2, hr⟩ | ⟨r1, r2, hr⟩ | ⟨r1, hr⟩ <;> rcases hl with ⟨l1, l2, hl⟩ | ⟨l1, l2, hl⟩ | ⟨l1, hl⟩ <;> rcases hd with ⟨d1, d2, hd⟩ | ⟨d1, d2, hd⟩ | ⟨d1, hd⟩
  · exact (qsmc_F_TT_TT_TT vv ff N g cs (trw N tw fun j => π j) b1 b2 a m b k (trw N tw fun j => ρ j) (trw N tw fun j => σ j) (trw N tw fun j => τ j) (by omega) (by omega) (by omega) (by omega) (by omega) (by omega) (by omega) (by omega) (by omega) (by omega) hloop (by omega) (by omega) (by omega) (hr _ _ _ _ (by omega) rfl rfl (by omega)) (by omega) (by omega) (hl _ _ _ _ (by omega) rfl rfl hd2) (by omega) (by omega) (hd _ _ _ _ (by omega) hd2 (by omega) rfl)).all3 (by kernel_rfl) ⟨fun _ => rfl, by simp [Clo, Clos]⟩ (q_srow_clo _ _ _ _ _ _) (q_srow_clo _ _ _ _ _ _) c1 c2 (by simp [Clos, Clo, hcs]) hK
  · subst hd; exact (qsmc_F_TT_TT_TF vv ff N g cs (trw N tw fun j => π j) b1 b2 a m b k (trw N tw fun j => ρ j) (trw N tw fun j => σ j) (trw N tw fun j => σ j) (by omega) (by omega) (by omega) (by omega) (by omega) (by omega) (by omega) (by omega) (by omega) (by omega) hloop (by omega) (by omega) (by omega) (hr _ _ _ _ (by omega) rfl rfl (by omega)) (by omega) (by omega) (hl _ _ _ _ (by omega) rfl rfl hd2) (by omega) (by omega)).all3 (by kernel_rfl) ⟨fun _ => rfl, by simp [Clo, Clos]⟩ (q_srow_clo _ _ _ _ _ _) (q_srow_clo _ _ _ _ _ _) c1 c2 (by simp [Clos, Clo, hcs]) hK
  · subst hd; exact (qsmc_F_TT_TT_F vv ff N g cs (trw N tw fun j => π j) b1 b2 a m b k (trw N tw fun j => ρ j) (trw N tw fun j => σ j) (trw N tw fun j => σ j) (by omega) (by omega) (by omega) (by omega) (by omega) (by omega) (by omega) (by omega) (by omega) (by omega) hloop (by omega) (by omega) (by omega) (hr _ _ _ _ (by omega) rfl rfl (by omega)) (by omega) (by omega) (hl _ _ _ _ (by omega) rfl rfl hd2) (by omega)).all3 (by kernel_rfl) ⟨fun _ => rfl, by simp [Clo, Clos]⟩ (q_srow_clo _ _ _ _ _ _) (q_srow_clo _ _ _ _ _ _) c1 c2 (by simp [Clos, Clo, hcs]) hK
  · subst hl; exact (qsmc_F_TT_TF_TT vv ff N g cs (trw N tw fun j => π j) b1 b2 a m b k (trw N tw fun j => ρ j) (trw N tw fun j => ρ j) (trw N tw fun j => τ j) (by omega) (by omega) (by omega) (by omega) (by omega) (by omega) (by omega) (by omega) (by omega) (by omega) hloop (by omega) (by omega) (by omega) (hr _ _ _ _ (by omega) rfl rfl (by omega)) (by omega) (by omega) (by omega) (by omega) (hd _ _ _ _ (by omega) hd2 (by omega) rfl)).all3 (by kernel_rfl) ⟨fun _ => rfl, by simp [Clo, Clos]⟩ (q_srow_clo _ _ _ _ _ _) (q_srow_clo _ _ _ _ _ _) c1 c2 (by simp [Clos, Clo, hcs]) hK
  · subst hd; subst hl; exact (qsmc_F_TT_TF_TF vv ff N g cs (trw N tw fun j => π j) b1 b2 a m b k (trw N tw fun j => ρ j) (trw N tw fun j => ρ j) (trw N tw fun j => ρ j) (by omega) (by omega) (by omega) (by omega) (by omega) (by omega) (by omega) (by omega) (by omega) (by omega) hloop (by omega) (by omega) (by omega) (hr _ _ _ _ (by omega) rfl rfl (by omega)) (by omega) (by omega) (by omega) (by omega)).all3 (by kernel_rfl) ⟨fun _ => rfl, by simp [Clo, Clos]⟩ (q_srow_clo _ _ _ _ _ _) (q_srow_clo _ _ _ _ _ _) c1 c2 (by simp [Clos, Clo, hcs]) hK
  · subst hd; subst hl; exact (qsmc_F_TT_TF_F vv ff N g cs (trw N tw fun j => π j) b1 b2 a m b k (trw N tw fun j => ρ j) (trw N tw fun j => ρ j) (trw N tw fun j => ρ j) (by omega) (by omega) (by omega) (by omega) (by omega) (by omega) (by omega) (by omega) (by omega) (by omega) hloop (by omega) (by omega) (by omega) (hr _ _ _ _ (by omega) rfl rfl (by omega)) (by omega) (by omega) (by omega)).all3 (by kernel_rfl) ⟨fun _ => rfl, by simp [Clo, Clos]⟩ (q_srow_clo _ _ _ _ _ _) (q_srow_clo _ _ _ _ _ _) c1 c2 (by simp [Clos, Clo, hcs]) hK
  · subst hl; exact (qsmc_F_TT_F_TT vv ff N g cs (trw N tw fun j => π j) b1 b2 a m b k (trw N tw fun j => ρ j) (trw N tw fun j => ρ j) (trw N tw fun j => τ j) (by omega) (by omega) (by omega) (by omega) (by omega) (by omega) (by omega) (by omega) (by omega) (by omega) hloop (by omega) (by omega) (by omega) (hr _ _ _ _ (by omega) rfl rfl (by omega)) (by omega) (by omega) (by omega) (hd _ _ _ _ (by omega) hd2 (by omega) rfl)).all3 (by kernel_rfl) ⟨fun _ => rfl, by simp [Clo, Clos]⟩ (q_srow_clo _ _ _ _ _ _) (q_srow_clo _ _ _ _ _ _) c1 c2 (by simp [Clos, Clo, hcs]) hK
  · subst hd; subst hl; exact (qsmc_F_TT_F_TF vv ff N g cs (trw N tw fun j => π j) b1 b2 a m b k (trw N tw fun j => ρ j) (trw N tw fun j => ρ j) (trw N tw fun j => ρ j) (by omega) (by omega) (by omega) (by omega) (by omega) (by omega) (by omega) (by omega) (by omega) (by omega) hloop (by omega) (by omega) (by omega) (hr _ _ _ _ (by omega) rfl rfl (by omega)) (by omega) (by omega) (by omega)).all3 (by kernel_rfl) ⟨fun _ => rfl, by simp [Clo, Clos]⟩ (q_srow_clo _ _ _ _ _ _) (q_srow_clo _ _ _ _ _ _) c1 c2 (by simp [Clos, Clo, hcs]) hK
  · subst hd; subst hl; exact (qsmc_F_TT_F_F vv ff N g cs (trw N tw fun j => π j) b1 b2 a m b k (trw N tw fun j => ρ j) (trw N tw fun j => ρ j) (trw N tw fun j => ρ j) (by omega) (by omega) (by omega) (by omega) (by omega) (by omega) (by omega) (by omega) (by omega) (by omega) hloop (by omega) (by omega) (by omega) (hr _ _ _ _ (by omega) rfl rfl (by omega)) (by omega) (by omega)).all3 (by kernel_rfl) ⟨fun _ => rfl, by simp [Clo, Clos]⟩ (q_srow_clo _ _ _ _ _ _) (q_srow_clo _ _ _ _ _ _) c1 c2 (by simp [Clos, Clo, hcs]) hK
  · subst hr; exact (qsmc_F_TF_TT_TT vv ff N g cs (trw N tw fun j => π j) b1 b2 a m b k (trw N tw fun j => π j) (trw N tw fun j => σ j) (trw N tw fun j => τ j) (by omega) (by omega) (by omega) (by omega) (by omega) (by omega) (by omega) (by omega) (by omega) (by omega) hloop (by omega) (by omega) (by omega) (by omega) (by omega) (hl _ _ _ _ (by omega) rfl rfl hd2) (by omega) (by omega) (hd _ _ _ _ (by omega) hd2 (by omega) rfl)).all3 (by kernel_rfl) ⟨fun _ => rfl, by simp [Clo, Clos]⟩ (q_srow_clo _ _ _ _ _ _) (q_srow_clo _ _ _ _ _ _) c1 c2 (by simp [Clos, Clo, hcs]) hK
  · subst hd; subst hr; exact (qsmc_F_TF_TT_TF vv ff N g cs (trw N tw fun j => π j) b1 b2 a m b k (trw N tw fun j => π j) (trw N tw fun j => σ j) (trw N tw fun j => σ j) (by omega) (by omega) (by omega) (by omega) (by omega) (by omega) (by omega) (by omega) (by omega) (by omega) hloop (by omega) (by omega) (by omega) (by omega) (by omega) (hl _ _ _ _ (by omega) rfl rfl hd2) (by omega) (by omega)).all3 (by kernel_rfl) ⟨fun _ => rfl, by simp [Clo, Clos]⟩ (q_srow_clo _ _ _ _ _ _) (q_srow_clo _ _ _ _ _ _) c1 c2 (by simp [Clos, Clo, hcs]) hK
  · subst hd; subst hr; exact (qsmc_F_TF_TT_F vv ff N g cs (trw N tw fun j => π j) b1 b2 a m b k (trw N tw fun j => π j) (trw N tw fun j => σ j) (trw N tw fun j => σ j) (by omega) (by omega) (by omega) (by omega) (by omega) (by omega) (by omega) (by omega) (by omega) (by omega) hloop (by omega) (by omega) (by omega) (by omega) (by omega) (hl _ _ _ _ (by omega) rfl rfl hd2) (by omega)).all3 (by kernel_rfl) ⟨fun _ => rfl, by simp [Clo, Clos]⟩ (q_srow_clo _ _ _ _ _ _) (q_srow_clo _ _ _ _ _ _) c1 c2 (by simp [Clos, Clo, hcs]) hK
  · subst hl; subst hr; exact (qsmc_F_TF_TF_TT vv ff N g cs (trw N tw fun j => π j) b1 b2 a m b k (trw N tw fun j => π j) (trw N tw fun j => π j) (trw N tw fun j => τ j) (by omega) (by omega) (by omega) (by omega) (by omega) (by omega) (by omega) (by omega) (by omega) (by omega) hloop (by omega) (by omega) (by omega) (by omega) (by omega) (by omega) (by omega) (hd _ _ _ _ (by omega) hd2 (by omega) rfl)).all3 (by kernel_rfl) ⟨fun _ => rfl, by simp [Clo, Clos]⟩ (q_srow_clo _ _ _ _ _ _) (q_srow_clo _ _ _ _ _ _) c1 c2 (by simp [Clos, Clo, hcs]) hK
  · subst hd; subst hl; subst hr; exact (qsmc_F_TF_TF_TF vv ff N g cs (trw N tw fun j => π j) b1 b2 a m b k (trw N tw fun j => π j) (trw N tw fun j => π j) (trw N tw fun j => π j) (by omega) (by omega) (by omega) (by omega) (by omega) (by omega) (by omega) (by omega) (by omega) (by omega) hloop (by omega) (by omega) (by omega) (by omega) (by omega) (by omega) (by omega)).all3 (by kernel_rfl) ⟨fun _ => rfl, by simp [Clo, Clos]⟩ (q_srow_clo _ _ _ _ _ _) (q_srow_clo _ _ _ _ _ _) c1 c2 (by simp [Clos, Clo, hcs]) hK
  · subst hd; subst hl; subst hr; exact (qsmc_F_TF_TF_F vv ff N g cs (trw N tw fun j => π j) b1 b2 a m b k (trw N tw fun j => π j) (trw N tw fun j => π j) (trw N tw fun j => π j) (by omega) (by omega) (by omega) (by omega) (by omega) (by omega) (by omega) (by omega) (by omega) (by omega) hloop (by omega) (by omega) (by omega) (by omega) (by omega) (by omega)).all3 (by kernel_rfl) ⟨fun _ => rfl, by simp [Clo, Clos]⟩ (q_srow_clo _ _ _ _ _ _) (q_srow_clo _ _ _ _ _ _) c1 c2 (by simp [Clos, Clo, hcs]) hK
  · subst hl; subst hr; exact (qsmc_F_TF_F_TT vv ff N g cs (trw N tw fun j => π j) b1 b2 a m b k (trw N tw fun j => π j) (trw N tw fun j => π j) (trw N tw fun j => τ j) (by omega) (by omega) (by omega) (by omega) (by omega) (by omega) (by omega) (by omega) (by omega) (by omega) hloop (by omega) (by omega) (by omega) (by omega) (by omega) (by omega) (hd _ _ _ _ (by omega) hd2 (by omega) rfl)).all3 (by kernel_rfl) ⟨fun _ => rfl, by simp [Clo, Clos]⟩ (q_srow_clo _ _ _ _ _ _) (q_srow_clo _ _ _ _ _ _) c1 c2 (by simp [Clos, Clo, hcs]) hK
  · subst hd; subst hl; subst hr; exact (qsmc_F_TF_F_TF vv ff N g cs (trw N tw fun j => π j) b1 b2 a m b k (trw N tw fun j => π j) (trw N tw fun j => π j) (trw N tw fun j => π j) (by omega) (by omega) (by omega) (by omega) (by omega) (by omega) (by omega) (by omega) (by omega) (by omega) hloop (by omega) (by omega) (by omega) (by omega) (by omega) (by omega)).all3 (by kernel_rfl) ⟨fun _ => rfl, by simp [Clo, Clos]⟩ (q_srow_clo _ _ _ _ _ _) (q_srow_clo _ _ _ _ _ _) c1 c2 (by simp [Clos, Clo, hcs]) hK
  · subst hd; subst hl; subst hr; exact (qsmc_F_TF_F_F vv ff N g cs (trw N tw fun j => π j) b1 b2 a m b k (trw N tw fun j => π j) (trw N tw fun j => π j) (trw N tw fun j => π j) (by omega) (by omega) (by omega) (by omega) (by omega) (by omega) (by omega) (by omega) (by omega) (by omega) hloop (by omega) (by omega) (by omega) (by omega) (by omega)).all3 (by kernel_rfl) ⟨fun _ => rfl, by simp [Clo, Clos]⟩ (q_srow_clo _ _ _ _ _ _) (q_srow_clo _ _ _ _ _ _) c1 c2 (by simp [Clos, Clo, hcs]) hK
  · subst hr; exact (qsmc_F_F_TT_TT vv ff N g cs (trw N tw fun j => π j) b1 b2 a m b k (trw N tw fun j => π j) (trw N tw fun j => σ j) (trw N tw fun j => τ j) (by omega) (by omega) (by omega) (by omega) (by omega) (by omega) (by omega) (by omega) (by omega) (by omega) hloop (by omega) (by omega) (by omega) (by omega) (hl _ _ _ _ (by omega) rfl rfl hd2) (by omega) (by omega) (hd _ _ _ _ (by omega) hd2 (by omega) rfl)).all3 (by kernel_rfl) ⟨fun _ => rfl, by simp [Clo, Clos]⟩ (q_srow_clo _ _ _ _ _ _) (q_srow_clo _ _ _ _ _ _) c1 c2 (by simp [Clos, Clo, hcs]) hK
  · subst hd; subst hr; exact (qsmc_F_F_TT_TF vv ff N g cs (trw N tw fun j => π j) b1 b2 a m b k (trw N tw fun j => π j) (trw N tw fun j => σ j) (trw N tw fun j => σ j) (by omega) (by omega) (by omega) (by omega) (by omega) (by omega) (by omega) (by omega) (by omega) (by omega) hloop (by omega) (by omega) (by omega) (by omega) (hl _ _ _ _ (by omega) rfl rfl hd2) (by omega) (by omega)).all3 (by kernel_rfl) ⟨fun _ => rfl, by simp [Clo, Clos]⟩ (q_srow_clo _ _ _ _ _ _) (q_srow_clo _ _ _ _ _ _) c1 c2 (by simp [Clos, Clo, hcs]) hK
  · subst hd; subst hr; exact (qsmc_F_F_TT_F vv ff N g cs (trw N tw fun j => π j) b1 b2 a m b k (trw N tw fun j => π j) (trw N tw fun j => σ j) (trw N tw fun j => σ j) (by omega) (by omega) (by omega) (by omega) (by omega) (by omega) (by omega) (by omega) (by omega) (by omega) hloop (by omega) (by omega) (by omega) (by omega) (hl _ _ _ _ (by omega) rfl rfl hd2) (by omega)).all3 (by kernel_rfl) ⟨fun _ => rfl, by simp [Clo, Clos]⟩ (q_srow_clo _ _ _ _ _ _) (q_srow_clo _ _ _ _ _ _) c1 c2 (by simp [Clos, Clo, hcs]) hK
  · subst hl; subst hr; exact (qsmc_F_F_TF_TT vv ff N g cs (trw N tw fun j => π j) b1 b2 a m b k (trw N tw fun j => π j) (trw N tw fun j => π j) (trw N tw fun j => τ j) (by omega) (by omega) (by omega) (by omega) (by omega) (by omega) (by omega) (by omega) (by omega) (by omega) hloop (by omega) (by omega) (by omega) (by omega) (by omega) (by omega) (hd _ _ _ _ (by omega) hd2 (by omega) rfl)).all3 (by kernel_rfl) ⟨fun _ => rfl, by simp [Clo, Clos]⟩ (q_srow_clo _ _ _ _ _ _) (q_srow_clo _ _ _ _ _ _) c1 c2 (by simp [Clos, Clo, hcs]) hK
  · subst hd; subst hl; subst hr; exact (qsmc_F_F_TF_TF vv ff N g cs (trw N tw fun j => π j) b1 b2 a m b k (trw N tw fun j => π j) (trw N tw fun j => π j) (trw N tw fun j => π j) (by omega) (by omega) (by omega) (by omega) (by omega) (by omega) (by omega) (by omega) (by omega) (by omega) hloop (by omega) (by omega) (by omega) (by omega) (by omega) (by omega)).all3 (by kernel_rfl) ⟨fun _ => rfl, by simp [Clo, Clos]⟩ (q_srow_clo _ _ _ _ _ _) (q_srow_clo _ _ _ _ _ _) c1 c2 (by simp [Clos, Clo, hcs]) hK
  · subst hd; subst hl; subst hr; exact (qsmc_F_F_TF_F vv ff N g cs (trw N tw fun j => π j) b1 b2 a m b k (trw N tw fun j => π j) (trw N tw fun j => π j) (trw N tw fun j => π j) (by omega) (by omega) (by omega) (by omega) (by omega) (by omega) (by omega) (by omega) (by omega) (by omega) hloop (by omega) (by omega) (by omega) (by omega) (by omega)).all3 (by kernel_rfl) ⟨fun _ => rfl, by simp [Clo, Clos]⟩ (q_srow_clo _ _ _ _ _ _) (q_srow_clo _ _ _ _ _ _) c1 c2 (by simp [Clos, Clo, hcs]) hK
  · subst hl; subst hr; exact (qsmc_F_F_F_TT vv ff N g cs (trw N tw fun j => π j) b1 b2 a m b k (trw N tw fun j => π j) (trw N tw fun j => π j) (trw N tw fun j => τ j) (by omega) (by omega) (by omega) (by omega) (by omega) (by omega) (by omega) (by omega) (by omega) (by omega) hloop (by omega) (by omega) (by omega) (by omega) (by omega) (hd _ _ _ _ (by omega) hd2 (by omega) rfl)).all3 (by kernel_rfl) ⟨fun _ => rfl, by simp [Clo, Clos]⟩ (q_srow_clo _ _ _ _ _ _) (q_srow_clo _ _ _ _ _ _) c1 c2 (by simp [Clos, Clo, hcs]) hK
  · subst hd; subst hl; subst hr; exact (qsmc_F_F_F_TF vv ff N g cs (trw N tw fun j => π j) b1 b2 a m b k (trw N tw fun j => π j) (trw N tw fun j => π j) (trw N tw fun j => π j) (by omega) (by omega) (by omega) (by omega) (by omega) (by omega) (by omega) (by omega) (by omega) (by omega) hloop (by omega) (by omega) (by omega) (by omega) (by omega)).all3 (by kernel_rfl) ⟨fun _ => rfl, by simp [Clo, Clos]⟩ (q_srow_clo _ _ _ _ _ _) (q_srow_clo _ _ _ _ _ _) c1 c2 (by simp [Clos, Clo, hcs]) hK
  · subst hd; subst hl; subst hr; exact (qsmc_F_F_F_F vv ff N g cs (trw N tw fun j => π j) b1 b2 a m b k (trw N tw fun j => π j) (trw N tw fun j => π j) (trw N tw fun j => π j) (by omega) (by omega) (by omega) (by omega) (by omega) (by omega) (by omega) (by omega) (by omega) (by omega) hloop (by omega) (by omega) (by omega) (by omega)).all3 (by kernel_rfl) ⟨fun _ => rfl, by simp [Clo, Clos]⟩ (q_srow_clo _ _ _ _ _ _) (q_srow_clo _ _ _ _ _ _) c1 c2 (by simp [Clos, Clo, hcs]) hK
end
end Go.Proofs.Ytcgcpmcjaeenlaa

namespace Go.Proofs.Ytcgcpmcjaeenlaa
open Go.Lift
set_option maxRecDepth 1000000
set_option linter.unusedSimpArgs false
set_option linter.unusedVariables false
set_option linter.unusedSectionVars false

theorem rotF_id1 (π : Nat → Nat) {m b : Nat} (h : m ≤ b) : rotF π m m b = π := by
  funext k
  unfold rotF
  by_cases c : m ≤ k ∧ k < m + (b - m)
  · rw [if_pos c]; congr 1; omega
  · rw [if_neg c, if_neg (by omega)]
theorem rotF_id2 (π : Nat → Nat) {a m : Nat} (h : a ≤ m) : rotF π a m m = π := by
  funext k
  unfold rotF
  rw [if_neg (by omega)]
  by_cases c : a + (m - m) ≤ k ∧ k < m
  · rw [if_pos c]; congr 1; omega
  · rw [if_neg c]

theorem Parts.congr {less : Nat → Nat → Bool} {π σ : Nat → Nat} {a m b : Nat} (h : Parts less π a m b) (ham : a ≤ m) (hmb : m ≤ b) (e : ∀ k, a ≤ k → k < b → σ k = π k) : Parts less σ a m b :=
  ⟨fun i j h1 h2 h3 => by rw [e i (by omega) (by omega), e j (by omega) (by omega)]; exact h.one i j h1 h2 h3,
   fun i j h1 h2 h3 => by rw [e i (by omega) (by omega), e j (by omega) (by omega)]; exact h.two i j h1 h2 h3,
   fun i j h1 h2 h3 h4 => by rw [e i (by omega) (by omega), e j (by omega) (by omega)]; exact h.cross i j h1 h2 h3 h4⟩

section
variable (tw : Nat → Tr) (vv ff : Nat) {N : Nat} (hN : N < 2 ^ 44) {b1 b2 : ABlk} (c1 : CloB (fun i => i < 3) b1) (c2 : CloB (fun i => i < 3) b2) {g : FuncId} {cs : List AVal} (hcs : Clos (fun i => i < 3) cs) {less : Nat → Nat → Bool} (hw : Weak less) (hcmp : QCmpOk tw vv ff N g cs b1 b2 less)
include tw vv ff hN c1 c2 hcs hw hcmp

theorem q_sm_does : ∀ (f a m b : Nat) (π : Nat → Nat), b - a ≤ f → InN N π → a < m → m < b → b ≤ N → Parts less π a m b →
    ∃ σ, Same π σ a b ∧ Srt less σ a b ∧ QSmDo tw vv ff N b1 b2 g cs π σ a m b
  | 0, a, m, b, π, hf, hπ, ham, hmb, hb, hp => by omega
  | f + 1, a, m, b, π, hf, hπ, ham, hmb, hb, hp => by
    by_cases e1 : m = a + 1
    · obtain ⟨σ, s1, s2, s3⟩ := q_sm_one tw vv ff hN c1 c2 hcs hw hcmp π hπ e1 hmb hb hp
      exact ⟨σ, s1, s2, fun K ea em eb hK h1 h2 h3 => by subst h1 h2 h3; exact s3 K hK⟩
    by_cases e2 : b = m + 1
    · obtain ⟨σ, s1, s2, s3⟩ := q_sm_last tw vv ff hN c1 c2 hcs hw hcmp π hπ ham e1 e2 hb hp
      exact ⟨σ, s1, s2, fun K ea em eb hK h1 h2 h3 => by subst h1 h2 h3; exact s3 K hK⟩
    obtain ⟨mid, hmid⟩ : ∃ mid, mid = (a + b) / 2 := ⟨_, rfl⟩
    obtain ⟨k, k1, k2, k3, k4, k5⟩ := q_sm4_loop tw vv ff hN c1 c2 hcs hw hcmp (a := a) (m := m) (b := b) (d := mid) (n := mid + m) (p := mid + m - 1) (s0 := if mid < m then mid + m - b else a) (r0 := if mid < m then mid else m) π hπ
      (fun h h1 h2 => by split at h1 <;> split at h2 <;> omega) (by omega) (by split <;> omega) b (if mid < m then mid + m - b else a) (if mid < m then mid else m) (by split <;> omega) (by omega) (by split <;> omega) (by omega) (.inl rfl) (.inl rfl)
    obtain ⟨P1, P2, hX⟩ := merge_split hw hp ham hmb hmid k1 k2 k3 k4
    have bd : a ≤ k ∧ k ≤ m ∧ k ≤ mid ∧ m ≤ mid + m - k ∧ mid + m - k ≤ b := by split at k1 <;> split at k2 <;> omega
    obtain ⟨e, he⟩ : ∃ e, e = mid + m - k := ⟨_, rfl⟩
    rw [← he] at P1 P2 hX bd
    obtain ⟨ρ, hρ⟩ : ∃ ρ, ρ = rotF π k m e := ⟨_, rfl⟩
    rw [← hρ] at P1 P2 hX
    have hs1 : Same π ρ k e := by rw [hρ]; exact rotF_same π (by omega) (by omega)
    have hρN : InN N ρ := hπ.same hs1 (by omega)
    have hr : (k < m ∧ m < e ∧ QRotDo tw vv ff N b1 b2 g cs π ρ k m e) ∨ (k < m ∧ ¬ m < e ∧ π = ρ) ∨ (¬ k < m ∧ π = ρ) := by
      by_cases q1 : k < m
      · by_cases q2 : m < e
        · exact .inl ⟨q1, q2, fun K ea em eb hK h1 h2 h3 => by rw [hρ]; exact q_rot_does tw vv ff hN c1 c2 hcs π q1 q2 (by omega) h1 h2 h3 hK⟩
        · exact .inr (.inl ⟨q1, q2, by rw [hρ, show e = m by omega, rotF_id2 π (by omega)]⟩)
      · exact .inr (.inr ⟨q1, by rw [hρ, show k = m by omega, rotF_id1 π (by omega)]⟩)
    have hl : ∃ σ, Same ρ σ a mid ∧ Srt less σ a mid ∧ ((a < k ∧ k < mid ∧ QSmDo tw vv ff N b1 b2 g cs ρ σ a k mid) ∨ (a < k ∧ ¬ k < mid ∧ ρ = σ) ∨ (¬ a < k ∧ ρ = σ)) := by
      by_cases q1 : a < k
      · by_cases q2 : k < mid
        · obtain ⟨σ, r1, r2, r3⟩ := q_sm_does f a k mid ρ (by omega) hρN q1 q2 (by omega) P1
          exact ⟨σ, r1, r2, .inl ⟨q1, q2, r3⟩⟩
        · refine ⟨ρ, Same.refl _ _ _, ?_, .inr (.inl ⟨q1, q2, rfl⟩)⟩
          have := P1.one
          rwa [show k = mid by omega] at this
      · refine ⟨ρ, Same.refl _ _ _, ?_, .inr (.inr ⟨q1, rfl⟩)⟩
        have := P1.two
        rwa [show k = a by omega] at this
    obtain ⟨σ, l1, l2, l3⟩ := hl
    have hσN : InN N σ := hρN.same l1 (by omega)
    have P3 : Parts less σ mid e b := Parts.congr P2 (by omega) (by omega) fun k h1 h2 => l1.out k (.inr h1)
    have hd : ∃ τ, Same σ τ mid b ∧ Srt less τ mid b ∧ ((mid < e ∧ e < b ∧ QSmDo tw vv ff N b1 b2 g cs σ τ mid e b) ∨ (mid < e ∧ ¬ e < b ∧ σ = τ) ∨ (¬ mid < e ∧ σ = τ)) := by
      by_cases q1 : mid < e
      · by_cases q2 : e < b
        · obtain ⟨τ, r1, r2, r3⟩ := q_sm_does f mid e b σ (by omega) hσN q1 q2 hb P3
          exact ⟨τ, r1, r2, .inl ⟨q1, q2, r3⟩⟩
        · refine ⟨σ, Same.refl _ _ _, ?_, .inr (.inl ⟨q1, q2, rfl⟩)⟩
          have := P3.one
          rwa [show e = b by omega] at this
      · refine ⟨σ, Same.refl _ _ _, ?_, .inr (.inr ⟨q1, rfl⟩)⟩
        have := P3.two
        rwa [show e = mid by omega] at this
    obtain ⟨τ, d1, d2, d3⟩ := hd
    refine ⟨τ, (hs1.wide (by omega) (by omega) (by omega)).trans ((l1.wide (Nat.le_refl _) (by omega) (by omega)).trans (d1.wide (by omega) (Nat.le_refl _) (by omega))), merge_join (by omega) (by omega) l1 l2 d1 d2 hX, fun K ea em eb hK h1 h2 h3 => ?_⟩
    subst h1 h2 h3
    have e18 : (mid : Int) = Int.fdiv ((a : Int) + (b : Int)) (2 ^ 1) := by rw [fdiv2, hmid]
    have e19 : ((mid + m : Nat) : Int) = (mid : Int) + (m : Int) := by omega
    have e22 : ((mid + m - 1 : Nat) : Int) = (mid : Int) + (m : Int) - 1 := by omega
    by_cases ht : mid < m
    · have e20 : ((if mid < m then mid + m - b else a : Nat) : Int) = (mid : Int) + (m : Int) - (b : Int) := by rw [if_pos ht]; omega
      have e21 : ((if mid < m then mid else m : Nat) : Int) = (mid : Int) := by rw [if_pos ht]
      have r := Runs.of_loops k5
      rw [e19, e20, e21, e22, e18] at r
      exact q_smc_allT tw vv ff hN c1 c2 hcs π ρ σ τ hmid he (by omega) ham e1 hmb e2 hb ht r hr l3 d3 hK
    · have e20 : ((if mid < m then mid + m - b else a : Nat) : Int) = (a : Int) := by rw [if_neg ht]
      have e21 : ((if mid < m then mid else m : Nat) : Int) = (m : Int) := by rw [if_neg ht]
      have r := Runs.of_loops (Tri.pre k5 (QSDrop (K := 34) (K' := 36) c1 c2 (by omega) (by kernel_rfl) (by simp [All_cons, All_nil, Clo, Clos, clos3 hcs]; simp [Ids])))
      rw [e19, e20, e21, e22, e18] at r
      exact q_smc_allF tw vv ff hN c1 c2 hcs π ρ σ τ hmid he (by omega) ham e1 hmb e2 hb ht r hr l3 d3 hK
end
end Go.Proofs.Ytcgcpmcjaeenlaa

namespace Go.Proofs.Ytcgcpmcjaeenlaa
open Go.Lift
set_option maxRecDepth 1000000
set_option linter.unusedSimpArgs false
set_option linter.unusedVariables false

theorem qst0_step (vv ff N : Nat) (g : FuncId) (cs : List AVal) (l : List AVal) (b1 b2 : ABlk) (n s a b : Nat) (l1 : List AVal) (hc_0 : (b : Int) ≤ (n : Int)) (hc_1 : FDoes Try.prog 72 [.slice (some ⟨0, vv, 0, 0, 3⟩) N N, .int .i64 (a : Int), .int .i64 (b : Int), .func (.func g) [] cs] (AHeap.rows 16 [(0, ⟨l, 3, false, false, vv, vv, ff⟩), (1, b1), (2, b2)]) (.tuple []) (AHeap.rows 16 [(0, ⟨l1, 3, false, false, vv, vv, ff⟩), (1, b1), (2, b2)])) (hc_2 : -9223372036854775808 ≤ (b : Int) + (s : Int) ∧ (b : Int) + (s : Int) ≤ 9223372036854775807) :
    Runs Try.prog 3 63 (loopAt Try.prog 61 0) [(0, .slice (some ⟨0, vv, 0, 0, 3⟩) N N), (1, .int .i64 n), (2, .func (.func g) [] cs), (6, .int .i64 s), (7, .int .i64 a), (8, .int .i64 b)] (AHeap.rows 8 [(0, ⟨l, 3, false, false, vv, vv, ff⟩), (1, b1), (2, b2)]) .normal [(0, .slice (some ⟨0, vv, 0, 0, 3⟩) N N), (1, .int .i64 (n : Int)), (2, .func (.func g) [] cs), (6, .int .i64 (s : Int)), (7, .int .i64 (b : Int)), (8, .int .i64 ((b : Int) + (s : Int)))] (AHeap.rows 22 [(0, ⟨l1, 3, false, false, vv, vv, ff⟩), (1, b1), (2, b2)]) :=
  ppath_runs env_ok mixed (hs := [.val 2002 (.bool true), .act 3004 (.tuple []) (fun h => h.upd [0] [⟨l1, 3, false, false, vv, vv, ff⟩]), .go 5002]) (keep := [0, 1, 2, 6, 7, 8]) (by kernel_rfl) (All.cons (okT hc_0) (All.cons (CallT.mk hc_1) (All.cons hc_2 (All.nil))))

theorem qst0_end (vv ff N : Nat) (g : FuncId) (cs : List AVal) (l : List AVal) (b1 b2 : ABlk) (n s a b : Nat) (hc_0 : ¬ ((b : Int) ≤ (n : Int))) :
    Runs Try.prog 3 63 (loopAt Try.prog 61 0) [(0, .slice (some ⟨0, vv, 0, 0, 3⟩) N N), (1, .int .i64 n), (2, .func (.func g) [] cs), (6, .int .i64 s), (7, .int .i64 a), (8, .int .i64 b)] (AHeap.rows 8 [(0, ⟨l, 3, false, false, vv, vv, ff⟩), (1, b1), (2, b2)]) (.exit 0) [(0, .slice (some ⟨0, vv, 0, 0, 3⟩) N N), (1, .int .i64 (n : Int)), (2, .func (.func g) [] cs), (6, .int .i64 (s : Int)), (7, .int .i64 (a : Int))] (AHeap.rows 11 [(0, ⟨l, 3, false, false, vv, vv, ff⟩), (1, b1), (2, b2)]) :=
  ppath_runs env_ok mixed (hs := [.val 2002 (.bool false)]) (keep := [0, 1, 2, 6, 7]) (by kernel_rfl) (All.cons (okF hc_0) (All.nil))

theorem qst2_step (vv ff N : Nat) (g : FuncId) (cs : List AVal) (l : List AVal) (b1 b2 : ABlk) (n s a b : Nat) (l1 : List AVal) (hc_0 : (b : Int) ≤ (n : Int)) (hc_1 : -9223372036854775808 ≤ (a : Int) + (s : Int) ∧ (a : Int) + (s : Int) ≤ 9223372036854775807) (hc_2 : FDoes Try.prog 73 [.slice (some ⟨0, vv, 0, 0, 3⟩) N N, .int .i64 (a : Int), .int .i64 ((a : Int) + (s : Int)), .int .i64 (b : Int), .func (.func g) [] cs] (AHeap.rows 23 [(0, ⟨l, 3, false, false, vv, vv, ff⟩), (1, b1), (2, b2)]) (.tuple []) (AHeap.rows 23 [(0, ⟨l1, 3, false, false, vv, vv, ff⟩), (1, b1), (2, b2)])) (hc_3 : -9223372036854775808 ≤ 2 * (s : Int) ∧ 2 * (s : Int) ≤ 9223372036854775807) (hc_4 : -9223372036854775808 ≤ (b : Int) + 2 * (s : Int) ∧ (b : Int) + 2 * (s : Int) ≤ 9223372036854775807) :
    Runs Try.prog 3 63 (loopAt Try.prog 61 2) [(0, .slice (some ⟨0, vv, 0, 0, 3⟩) N N), (1, .int .i64 n), (2, .func (.func g) [] cs), (6, .int .i64 s), (7, .int .i64 a), (8, .int .i64 b)] (AHeap.rows 12 [(0, ⟨l, 3, false, false, vv, vv, ff⟩), (1, b1), (2, b2)]) .normal [(0, .slice (some ⟨0, vv, 0, 0, 3⟩) N N), (1, .int .i64 (n : Int)), (2, .func (.func g) [] cs), (6, .int .i64 (s : Int)), (7, .int .i64 (b : Int)), (8, .int .i64 ((b : Int) + 2 * (s : Int)))] (AHeap.rows 30 [(0, ⟨l1, 3, false, false, vv, vv, ff⟩), (1, b1), (2, b2)]) :=
  ppath_runs env_ok mixed (hs := [.val 9002 (.bool true), .go 10004, .act 10007 (.tuple []) (fun h => h.upd [0] [⟨l1, 3, false, false, vv, vv, ff⟩]), .go 12002, .go 12003]) (keep := [0, 1, 2, 6, 7, 8]) (by kernel_rfl) (All.cons (okT hc_0) (All.cons hc_1 (All.cons (CallT.mk hc_2) (All.cons hc_3 (All.cons hc_4 (All.nil))))))

theorem qst2_end (vv ff N : Nat) (g : FuncId) (cs : List AVal) (l : List AVal) (b1 b2 : ABlk) (n s a b : Nat) (hc_0 : ¬ ((b : Int) ≤ (n : Int))) :
    Runs Try.prog 3 63 (loopAt Try.prog 61 2) [(0, .slice (some ⟨0, vv, 0, 0, 3⟩) N N), (1, .int .i64 n), (2, .func (.func g) [] cs), (6, .int .i64 s), (7, .int .i64 a), (8, .int .i64 b)] (AHeap.rows 12 [(0, ⟨l, 3, false, false, vv, vv, ff⟩), (1, b1), (2, b2)]) (.exit 4) [(0, .slice (some ⟨0, vv, 0, 0, 3⟩) N N), (1, .int .i64 (n : Int)), (2, .func (.func g) [] cs), (6, .int .i64 (s : Int)), (7, .int .i64 (a : Int))] (AHeap.rows 15 [(0, ⟨l, 3, false, false, vv, vv, ff⟩), (1, b1), (2, b2)]) :=
  ppath_runs env_ok mixed (hs := [.val 9002 (.bool false)]) (keep := [0, 1, 2, 6, 7]) (by kernel_rfl) (All.cons (okF hc_0) (All.nil))

theorem qst1_T (vv ff N : Nat) (g : FuncId) (cs : List AVal) (l : List AVal) (b1 b2 : ABlk) (n s k : Nat) (l1 l2 : List AVal) (hc_0 : (s : Int) < (n : Int)) (hc_1 : -9223372036854775808 ≤ 2 * (s : Int) ∧ 2 * (s : Int) ≤ 9223372036854775807) (hc_2 : Runs Try.prog 3 63 (.loop (loopAt Try.prog 61 2)) [(0, .slice (some ⟨0, vv, 0, 0, 3⟩) N N), (1, .int .i64 (n : Int)), (2, .func (.func g) [] cs), (6, .int .i64 (s : Int)), (7, .int .i64 0), (8, .int .i64 (2 * (s : Int)))] (AHeap.rows 17 [(0, ⟨l, 3, false, false, vv, vv, ff⟩), (1, b1), (2, b2)]) (.exit 4) [(0, .slice (some ⟨0, vv, 0, 0, 3⟩) N N), (1, .int .i64 (n : Int)), (2, .func (.func g) [] cs), (6, .int .i64 (s : Int)), (7, .int .i64 (k : Int))] (AHeap.rows 15 [(0, ⟨l1, 3, false, false, vv, vv, ff⟩), (1, b1), (2, b2)])) (hc_3 : -9223372036854775808 ≤ (k : Int) + (s : Int) ∧ (k : Int) + (s : Int) ≤ 9223372036854775807) (hc_4 : (k : Int) + (s : Int) < (n : Int)) (hc_5 : FDoes Try.prog 73 [.slice (some ⟨0, vv, 0, 0, 3⟩) N N, .int .i64 (k : Int), .int .i64 ((k : Int) + (s : Int)), .int .i64 (n : Int), .func (.func g) [] cs] (AHeap.rows 28 [(0, ⟨l1, 3, false, false, vv, vv, ff⟩), (1, b1), (2, b2)]) (.tuple []) (AHeap.rows 28 [(0, ⟨l2, 3, false, false, vv, vv, ff⟩), (1, b1), (2, b2)])) (hc_6 : -9223372036854775808 ≤ (s : Int) * 2 ∧ (s : Int) * (2 : Int) ≤ 9223372036854775807) :
    Runs Try.prog 3 63 (loopAt Try.prog 61 1) [(0, .slice (some ⟨0, vv, 0, 0, 3⟩) N N), (1, .int .i64 n), (2, .func (.func g) [] cs), (6, .int .i64 s)] (AHeap.rows 10 [(0, ⟨l, 3, false, false, vv, vv, ff⟩), (1, b1), (2, b2)]) .normal [(0, .slice (some ⟨0, vv, 0, 0, 3⟩) N N), (1, .int .i64 (n : Int)), (2, .func (.func g) [] cs), (6, .int .i64 ((s : Int) * 2))] (AHeap.rows 31 [(0, ⟨l2, 3, false, false, vv, vv, ff⟩), (1, b1), (2, b2)]) :=
  ppath_runs env_ok mixed (hs := [.val 7002 (.bool true), .go 8001, .keep [0, 1, 2, 6, 7, 8], .loop [(0, .slice (some ⟨0, vv, 0, 0, 3⟩) N N), (1, .int .i64 n), (2, .func (.func g) [] cs), (6, .int .i64 s), (7, .int .i64 k)] (AHeap.rows 15 [(0, ⟨l1, 3, false, false, vv, vv, ff⟩), (1, b1), (2, b2)]) (.exit 4), .go 13002, .val 14002 (.bool true), .act 15005 (.tuple []) (fun h => h.upd [0] [⟨l2, 3, false, false, vv, vv, ff⟩]), .go 16001]) (keep := [0, 1, 2, 6]) (by kernel_rfl) (All.cons (okT hc_0) (All.cons hc_1 (All.cons hc_2 (All.cons hc_3 (All.cons (okT hc_4) (All.cons (CallT.mk hc_5) (All.cons hc_6 (All.nil))))))))

theorem qst1_F (vv ff N : Nat) (g : FuncId) (cs : List AVal) (l : List AVal) (b1 b2 : ABlk) (n s k : Nat) (l1 l2 : List AVal) (hc_0 : (s : Int) < (n : Int)) (hc_1 : -9223372036854775808 ≤ 2 * (s : Int) ∧ 2 * (s : Int) ≤ 9223372036854775807) (hc_2 : Runs Try.prog 3 63 (.loop (loopAt Try.prog 61 2)) [(0, .slice (some ⟨0, vv, 0, 0, 3⟩) N N), (1, .int .i64 (n : Int)), (2, .func (.func g) [] cs), (6, .int .i64 (s : Int)), (7, .int .i64 0), (8, .int .i64 (2 * (s : Int)))] (AHeap.rows 17 [(0, ⟨l, 3, false, false, vv, vv, ff⟩), (1, b1), (2, b2)]) (.exit 4) [(0, .slice (some ⟨0, vv, 0, 0, 3⟩) N N), (1, .int .i64 (n : Int)), (2, .func (.func g) [] cs), (6, .int .i64 (s : Int)), (7, .int .i64 (k : Int))] (AHeap.rows 15 [(0, ⟨l1, 3, false, false, vv, vv, ff⟩), (1, b1), (2, b2)])) (hc_3 : -9223372036854775808 ≤ (k : Int) + (s : Int) ∧ (k : Int) + (s : Int) ≤ 9223372036854775807) (hc_4 : ¬ ((k : Int) + (s : Int) < (n : Int))) (hc_5 : -9223372036854775808 ≤ (s : Int) * 2 ∧ (s : Int) * (2 : Int) ≤ 9223372036854775807) :
    Runs Try.prog 3 63 (loopAt Try.prog 61 1) [(0, .slice (some ⟨0, vv, 0, 0, 3⟩) N N), (1, .int .i64 n), (2, .func (.func g) [] cs), (6, .int .i64 s)] (AHeap.rows 10 [(0, ⟨l, 3, false, false, vv, vv, ff⟩), (1, b1), (2, b2)]) .normal [(0, .slice (some ⟨0, vv, 0, 0, 3⟩) N N), (1, .int .i64 (n : Int)), (2, .func (.func g) [] cs), (6, .int .i64 ((s : Int) * 2))] (AHeap.rows 25 [(0, ⟨l1, 3, false, false, vv, vv, ff⟩), (1, b1), (2, b2)]) :=
  ppath_runs env_ok mixed (hs := [.val 7002 (.bool true), .go 8001, .keep [0, 1, 2, 6, 7, 8], .loop [(0, .slice (some ⟨0, vv, 0, 0, 3⟩) N N), (1, .int .i64 n), (2, .func (.func g) [] cs), (6, .int .i64 s), (7, .int .i64 k)] (AHeap.rows 15 [(0, ⟨l1, 3, false, false, vv, vv, ff⟩), (1, b1), (2, b2)]) (.exit 4), .go 13002, .val 14002 (.bool false), .go 16001]) (keep := [0, 1, 2, 6]) (by kernel_rfl) (All.cons (okT hc_0) (All.cons hc_1 (All.cons hc_2 (All.cons hc_3 (All.cons (okF hc_4) (All.cons hc_5 (All.nil)))))))

theorem qst1_end (vv ff N : Nat) (g : FuncId) (cs : List AVal) (l : List AVal) (b1 b2 : ABlk) (n s : Nat) (hc_0 : ¬ ((s : Int) < (n : Int))) :
    Runs Try.prog 3 63 (loopAt Try.prog 61 1) [(0, .slice (some ⟨0, vv, 0, 0, 3⟩) N N), (1, .int .i64 n), (2, .func (.func g) [] cs), (6, .int .i64 s)] (AHeap.rows 10 [(0, ⟨l, 3, false, false, vv, vv, ff⟩), (1, b1), (2, b2)]) (.exit 2) [] (AHeap.rows 13 [(0, ⟨l, 3, false, false, vv, vv, ff⟩), (1, b1), (2, b2)]) :=
  ppath_runs env_ok mixed (hs := [.val 7002 (.bool false)]) (keep := []) (by kernel_rfl) (All.cons (okF hc_0) (All.nil))

theorem qst_call (vv ff N : Nat) (g : FuncId) (cs : List AVal) (l : List AVal) (b1 b2 : ABlk) (n k : Nat) (l1 l2 l3 : List AVal) (hc_0 : Runs Try.prog 3 63 (.loop (loopAt Try.prog 61 0)) [(0, .slice (some ⟨0, vv, 0, 0, 3⟩) N N), (1, .int .i64 (n : Int)), (2, .func (.func g) [] cs), (6, .int .i64 20), (7, .int .i64 0), (8, .int .i64 20)] (AHeap.rows 7 [(0, ⟨l, 3, false, false, vv, vv, ff⟩), (1, b1), (2, b2)]) (.exit 0) [(0, .slice (some ⟨0, vv, 0, 0, 3⟩) N N), (1, .int .i64 (n : Int)), (2, .func (.func g) [] cs), (6, .int .i64 20), (7, .int .i64 (k : Int))] (AHeap.rows 11 [(0, ⟨l1, 3, false, false, vv, vv, ff⟩), (1, b1), (2, b2)])) (hc_1 : FDoes Try.prog 72 [.slice (some ⟨0, vv, 0, 0, 3⟩) N N, .int .i64 (k : Int), .int .i64 (n : Int), .func (.func g) [] cs] (AHeap.rows 16 [(0, ⟨l1, 3, false, false, vv, vv, ff⟩), (1, b1), (2, b2)]) (.tuple []) (AHeap.rows 16 [(0, ⟨l2, 3, false, false, vv, vv, ff⟩), (1, b1), (2, b2)])) (hc_2 : Runs Try.prog 3 63 (.loop (loopAt Try.prog 61 1)) [(0, .slice (some ⟨0, vv, 0, 0, 3⟩) N N), (1, .int .i64 (n : Int)), (2, .func (.func g) [] cs), (6, .int .i64 20)] (AHeap.rows 16 [(0, ⟨l2, 3, false, false, vv, vv, ff⟩), (1, b1), (2, b2)]) (.exit 2) [] (AHeap.rows 13 [(0, ⟨l3, 3, false, false, vv, vv, ff⟩), (1, b1), (2, b2)])) :
    FDoes Try.prog 61 [.slice (some ⟨0, vv, 0, 0, 3⟩) N N, .int .i64 n, .func (.func g) [] cs] (AHeap.of [⟨l, 3, false, false, vv, vv, ff⟩, b1, b2]) (.tuple []) (AHeap.rows 13 [(0, ⟨l3, 3, false, false, vv, vv, ff⟩), (1, b1), (2, b2)]) :=
  pcall_does env_ok mixed (hs := [.keep [0, 1, 2, 6, 7, 8], .loop [(0, .slice (some ⟨0, vv, 0, 0, 3⟩) N N), (1, .int .i64 n), (2, .func (.func g) [] cs), (6, .int .i64 20), (7, .int .i64 k)] (AHeap.rows 11 [(0, ⟨l1, 3, false, false, vv, vv, ff⟩), (1, b1), (2, b2)]) (.exit 0), .act 6004 (.tuple []) (fun h => h.upd [0] [⟨l2, 3, false, false, vv, vv, ff⟩]), .keep [0, 1, 2, 6], .loop [] (AHeap.rows 13 [(0, ⟨l3, 3, false, false, vv, vv, ff⟩), (1, b1), (2, b2)]) (.exit 2)]) (rs := []) (by kernel_rfl) (All.cons hc_0 (All.cons (CallT.mk hc_1) (All.cons hc_2 (All.nil))))

theorem qss_call (vv ff N : Nat) (g : FuncId) (cs : List AVal) (l : List AVal) (b1 b2 : ABlk) (l1 : List AVal) (hc_0 : FDoes Try.prog 61 [.slice (some ⟨0, vv, 0, 0, 3⟩) N N, .int .i64 (N : Int), .func (.func g) [] cs] (AHeap.rows 8 [(0, ⟨l, 3, false, false, vv, vv, ff⟩), (1, b1), (2, b2)]) (.tuple []) (AHeap.rows 8 [(0, ⟨l1, 3, false, false, vv, vv, ff⟩), (1, b1), (2, b2)])) :
    FDoes Try.prog 42 [.slice (some ⟨0, vv, 0, 0, 3⟩) N N, .func (.func g) [] cs] (AHeap.of [⟨l, 3, false, false, vv, vv, ff⟩, b1, b2]) (.tuple []) (AHeap.rows 8 [(0, ⟨l1, 3, false, false, vv, vv, ff⟩), (1, b1), (2, b2)]) :=
  pcall_does env_ok mixed (hs := [.act 4 (.tuple []) (fun h => h.upd [0] [⟨l1, 3, false, false, vv, vv, ff⟩])]) (rs := []) (by kernel_rfl) (All.cons (CallT.mk hc_0) (All.nil))

end Go.Proofs.Ytcgcpmcjaeenlaa

namespace Go.Proofs.Ytcgcpmcjaeenlaa
open Go.Lift
set_option maxRecDepth 1000000
set_option linter.unusedSimpArgs false
set_option linter.unusedVariables false
set_option linter.unusedSectionVars false

/-- a stretch in order, of what stood in it -/
def Cell (less : Nat → Nat → Bool) (π ρ : Nat → Nat) (lo hi : Nat) : Prop := Srt less ρ lo hi ∧ ∀ j, lo ≤ j → j < hi → ∃ i, lo ≤ i ∧ i < hi ∧ ρ j = π i

theorem Cell.congr {less : Nat → Nat → Bool} {π ρ σ : Nat → Nat} {lo hi : Nat} (h : Cell less π ρ lo hi) (e : ∀ k, lo ≤ k → k < hi → σ k = ρ k) : Cell less π σ lo hi :=
  ⟨fun i j h1 h2 h3 => by rw [e i h1 (by omega), e j (by omega) h3]; exact h.1 i j h1 h2 h3, fun j h1 h2 => by rw [e j h1 h2]; exact h.2 j h1 h2⟩

theorem Cell.parts {less : Nat → Nat → Bool} {π ρ : Nat → Nat} {a m b N : Nat} (h : Cell less π ρ a m) (k : Cell less π ρ m b) (hb : b ≤ N) (hinc : ∀ i j, i < j → j < N → π i < π j) : Parts less ρ a m b :=
  ⟨h.1, k.1, fun i j h1 h2 h3 h4 => by
    obtain ⟨x, x1, x2, x3⟩ := h.2 i h1 h2
    obtain ⟨y, y1, y2, y3⟩ := k.2 j h3 h4
    rw [x3, y3]; exact hinc x y (by omega) (by omega)⟩

theorem Cell.merge {less : Nat → Nat → Bool} {π ρ σ : Nat → Nat} {a m b : Nat} (h : Cell less π ρ a m) (k : Cell less π ρ m b) (ham : a ≤ m) (hmb : m ≤ b) (s : Same ρ σ a b) (t : Srt less σ a b) : Cell less π σ a b :=
  ⟨t, fun j h1 h2 => by
    obtain ⟨x, x1, x2, x3⟩ := s.from h1 h2
    by_cases c : x < m
    · obtain ⟨y, y1, y2, y3⟩ := h.2 x x1 c
      exact ⟨y, y1, by omega, by rw [x3, y3]⟩
    · obtain ⟨y, y1, y2, y3⟩ := k.2 x (by omega) x2
      exact ⟨y, by omega, y2, by rw [x3, y3]⟩⟩

section
variable (tw : Nat → Tr) (vv ff : Nat) {N : Nat} (hN : N < 2 ^ 44) {b1 b2 : ABlk} (c1 : CloB (fun i => i < 3) b1) (c2 : CloB (fun i => i < 3) b2) {g : FuncId} {cs : List AVal} (hcs : Clos (fun i => i < 3) cs) {less : Nat → Nat → Bool} (hw : Weak less) (hcmp : QCmpOk tw vv ff N g cs b1 b2 less)
  {π : Nat → Nat} (hπ : InN N π) (hinc : ∀ i j, i < j → j < N → π i < π j)
include tw vv ff hN c1 c2 hcs hw hcmp hπ hinc

/-- blocks of 20 -/
theorem q_st0_loop : ∀ (f a : Nat) (ρ : Nat → Nat), N - a ≤ f → a ≤ N → 20 ∣ a → Same π ρ 0 a → (∀ lo, 20 ∣ lo → lo < a → Cell less π ρ lo (lo + 20)) →
    ∃ k σ, k ≤ N ∧ N < k + 20 ∧ 20 ∣ k ∧ Same π σ 0 k ∧ (∀ lo, 20 ∣ lo → lo < k → Cell less π σ lo (lo + 20)) ∧
    Loops Try.prog 3 63 (loopAt Try.prog 61 0) [(0, .slice (some ⟨0, vv, 0, 0, 3⟩) N N), (1, .int .i64 N), (2, .func (.func g) [] cs), (6, .int .i64 (20 : Nat)), (7, .int .i64 a), (8, .int .i64 (a + 20 : Nat))] (QSH tw vv ff 8 N ρ b1 b2)
      (.exit 0) [(0, .slice (some ⟨0, vv, 0, 0, 3⟩) N N), (1, .int .i64 N), (2, .func (.func g) [] cs), (6, .int .i64 (20 : Nat)), (7, .int .i64 k)] (QSH tw vv ff 11 N σ b1 b2)
  | f, a, ρ, hf, ha, h20, hs, hc => by
    by_cases hb : a + 20 ≤ N
    · match f, hf with
      | 0, hf => omega
      | f + 1, hf =>
        have hρ : InN N ρ := hπ.same hs ha
        have hout : ∀ k, a ≤ k → ρ k = π k := fun k hk => hs.out k (.inr hk)
        obtain ⟨σ, s1, s2, s3⟩ := q_ins_does tw vv ff hN c1 c2 hcs hw hcmp (a := a) (b := a + 20) ρ hρ (by omega) hb (fun i j h1 h2 h3 => by rw [hout i h1, hout j (by omega)]; exact hinc i j h2 (by omega)) rfl rfl
        have hs' : Same π σ 0 (a + 20) := (hs.wide (Nat.le_refl _) (by omega) (by omega)).trans (s1.wide (by omega) (Nat.le_refl _) (by omega))
        have hc' : ∀ lo, 20 ∣ lo → lo < a + 20 → Cell less π σ lo (lo + 20) := by
          intro lo hd hlt
          by_cases c : lo < a
          · exact (hc lo hd c).congr fun k h1 h2 => s1.out k (.inl (by omega))
          · obtain rfl : lo = a := by omega
            refine ⟨s2, fun j h1 h2 => ?_⟩
            obtain ⟨x, x1, x2, x3⟩ := s1.from h1 h2
            exact ⟨x, x1, x2, by rw [x3, hout x x1]⟩
        obtain ⟨k, τ, k1, k2, k3, k4, k5, k6⟩ := q_st0_loop f (a + 20) σ (by omega) hb (by omega) hs' hc'
        refine ⟨k, τ, k1, k2, k3, k4, k5, ?_⟩
        have s := qst0_step vv ff N g cs (trw N tw fun k => ρ k) b1 b2 N 20 a (a + 20) (trw N tw fun k => σ k) (by omega) (s3 16 (by omega)) (by omega)
        rw [show ((a + 20 : Nat) : Int) + ((20 : Nat) : Int) = ((a + 20 + 20 : Nat) : Int) by omega] at s
        exact Loops.round s (QSDrop c1 c2 (by omega) (by kernel_rfl) (by simp [All_cons, All_nil, Clo, Clos, clos3 hcs]; simp [Ids])) k6
    · exact ⟨a, ρ, ha, by omega, h20, hs, hc, Loops.last (by simp) (qst0_end vv ff N g cs _ b1 b2 N 20 a (a + 20) (by omega))⟩

/-- pairs of blocks -/
theorem q_st2_loop {s : Nat} (hs0 : 0 < s) (hsN : s < N) : ∀ (f a : Nat) (ρ : Nat → Nat), N - a ≤ f → a ≤ N → 2 * s ∣ a → Same π ρ 0 N → (∀ lo, 2 * s ∣ lo → lo < a → Cell less π ρ lo (lo + 2 * s)) → (∀ lo, s ∣ lo → a ≤ lo → lo < N → Cell less π ρ lo (min (lo + s) N)) →
    ∃ k σ, k ≤ N ∧ N < k + 2 * s ∧ 2 * s ∣ k ∧ Same π σ 0 N ∧ (∀ lo, 2 * s ∣ lo → lo < k → Cell less π σ lo (lo + 2 * s)) ∧ (∀ lo, s ∣ lo → k ≤ lo → lo < N → Cell less π σ lo (min (lo + s) N)) ∧
    Loops Try.prog 3 63 (loopAt Try.prog 61 2) [(0, .slice (some ⟨0, vv, 0, 0, 3⟩) N N), (1, .int .i64 N), (2, .func (.func g) [] cs), (6, .int .i64 s), (7, .int .i64 a), (8, .int .i64 (a + 2 * s : Nat))] (QSH tw vv ff 12 N ρ b1 b2)
      (.exit 4) [(0, .slice (some ⟨0, vv, 0, 0, 3⟩) N N), (1, .int .i64 N), (2, .func (.func g) [] cs), (6, .int .i64 s), (7, .int .i64 k)] (QSH tw vv ff 15 N σ b1 b2)
  | f, a, ρ, hf, ha, hd, hs, hc, hr => by
    by_cases hb : a + 2 * s ≤ N
    · match f, hf with
      | 0, hf => omega
      | f + 1, hf =>
        have hρ : InN N ρ := hπ.same hs (Nat.le_refl _)
        have hsa : s ∣ a := Nat.dvd_trans ⟨2, by omega⟩ hd
        have q1 := hr a hsa (Nat.le_refl _) (by omega)
        have q2 := hr (a + s) (Nat.dvd_add hsa (Nat.dvd_refl s)) (by omega) (by omega)
        rw [show min (a + s) N = a + s by omega] at q1
        rw [show min (a + s + s) N = a + 2 * s by omega] at q2
        obtain ⟨σ, s1, s2, s3⟩ := q_sm_does tw vv ff hN c1 c2 hcs hw hcmp (a + 2 * s - a) a (a + s) (a + 2 * s) ρ (Nat.le_refl _) hρ (by omega) (by omega) hb (q1.parts q2 hb hinc)
        have hcell := q1.merge q2 (by omega) (by omega) s1 s2
        have hs' : Same π σ 0 N := hs.trans (s1.wide (by omega) hb (by omega))
        have hc' : ∀ lo, 2 * s ∣ lo → lo < a + 2 * s → Cell less π σ lo (lo + 2 * s) := by
          intro lo hdl hlt
          by_cases c : lo < a
          · have : 2 * s ≤ a - lo := Nat.le_of_dvd (by omega) (Nat.dvd_sub hd hdl)
            exact (hc lo hdl c).congr fun k h1 h2 => s1.out k (.inl (by omega))
          · by_cases c2 : lo = a
            · subst c2; exact hcell
            · have : 2 * s ≤ lo - a := Nat.le_of_dvd (by omega) (Nat.dvd_sub hdl hd)
              omega
        have hr' : ∀ lo, s ∣ lo → a + 2 * s ≤ lo → lo < N → Cell less π σ lo (min (lo + s) N) := fun lo h1 h2 h3 => (hr lo h1 (by omega) h3).congr fun k h4 h5 => s1.out k (.inr (by omega))
        obtain ⟨k, τ, k1, k2, k3, k4, k5, k6, k7⟩ := q_st2_loop hs0 hsN f (a + 2 * s) σ (by omega) hb (Nat.dvd_add hd (Nat.dvd_refl _)) hs' hc' hr'
        refine ⟨k, τ, k1, k2, k3, k4, k5, k6, ?_⟩
        have st := qst2_step vv ff N g cs (trw N tw fun k => ρ k) b1 b2 N s a (a + 2 * s) (trw N tw fun k => σ k) (by omega) (by omega) (s3 23 _ _ _ (by omega) rfl (by omega) rfl) (by omega) (by omega)
        rw [show ((a + 2 * s : Nat) : Int) + 2 * (s : Int) = ((a + 2 * s + 2 * s : Nat) : Int) by omega] at st
        exact Loops.round st (QSDrop c1 c2 (by omega) (by kernel_rfl) (by simp [All_cons, All_nil, Clo, Clos, clos3 hcs]; simp [Ids])) k7
    · exact ⟨a, ρ, ha, by omega, hd, hs, hc, hr, Loops.last (by simp) (qst2_end vv ff N g cs _ b1 b2 N s a (a + 2 * s) (by omega))⟩

/-- ever greater blocks -/
theorem q_st1_loop : ∀ (f s : Nat) (ρ : Nat → Nat), N - s ≤ f → 0 < s → s < 2 ^ 46 → Same π ρ 0 N → (∀ lo, s ∣ lo → lo < N → Cell less π ρ lo (min (lo + s) N)) →
    ∃ σ, Same π σ 0 N ∧ Srt less σ 0 N ∧
    Loops Try.prog 3 63 (loopAt Try.prog 61 1) [(0, .slice (some ⟨0, vv, 0, 0, 3⟩) N N), (1, .int .i64 N), (2, .func (.func g) [] cs), (6, .int .i64 s)] (QSH tw vv ff 10 N ρ b1 b2) (.exit 2) [] (QSH tw vv ff 13 N σ b1 b2)
  | f, s, ρ, hf, hs0, hsb, hs, hc => by
    by_cases hsN : s < N
    · match f, hf with
      | 0, hf => omega
      | f + 1, hf =>
        obtain ⟨k, σ, k1, k2, k3, k4, k5, k6, k7⟩ := q_st2_loop tw vv ff hN c1 c2 hcs hw hcmp hπ hinc hs0 hsN N 0 ρ (by omega) (by omega) ⟨0, rfl⟩ hs (fun lo _ h => by omega) (fun lo h1 _ h2 => hc lo h1 h2)
        have r := Runs.of_loops (Tri.pre k7 (QSDrop (K := 17) (K' := 12) c1 c2 (by omega) (by kernel_rfl) (by simp [All_cons, All_nil, Clo, Clos, clos3 hcs]; simp [Ids])))
        rw [show ((0 + 2 * s : Nat) : Int) = 2 * (s : Int) by omega] at r
        have hsk : s ∣ k := Nat.dvd_trans ⟨2, by omega⟩ k3
        have fin : ∀ τ, (∀ j, j < k → τ j = σ j) → (k < N → Cell less π τ k N) → ∀ lo, s * 2 ∣ lo → lo < N → Cell less π τ lo (min (lo + s * 2) N) := by
          intro τ e1 e2 lo hd hlt
          rw [Nat.mul_comm] at hd
          by_cases c : lo < k
          · have : 2 * s ≤ k - lo := Nat.le_of_dvd (by omega) (Nat.dvd_sub k3 hd)
            rw [show min (lo + s * 2) N = lo + 2 * s by omega]
            exact (k5 lo hd c).congr fun j h1 h2 => e1 j (by omega)
          · by_cases c2 : lo = k
            · subst c2
              rw [show min (lo + s * 2) N = N by omega]
              exact e2 hlt
            · have : 2 * s ≤ lo - k := Nat.le_of_dvd (by omega) (Nat.dvd_sub hd k3)
              omega
        by_cases hk : k + s < N
        · have hσ : InN N σ := hπ.same k4 (Nat.le_refl _)
          have q1 := k6 k hsk (Nat.le_refl _) (by omega)
          have q2 := k6 (k + s) (Nat.dvd_add hsk (Nat.dvd_refl s)) (by omega) (by omega)
          rw [show min (k + s) N = k + s by omega] at q1
          rw [show min (k + s + s) N = N by omega] at q2
          obtain ⟨τ, t1, t2, t3⟩ := q_sm_does tw vv ff hN c1 c2 hcs hw hcmp (N - k) k (k + s) N σ (Nat.le_refl _) hσ (by omega) (by omega) (Nat.le_refl _) (q1.parts q2 (Nat.le_refl _) hinc)
          obtain ⟨υ, u1, u2, u3⟩ := q_st1_loop f (s * 2) τ (by omega) (by omega) (by omega) (k4.trans (t1.wide (by omega) (Nat.le_refl _) (by omega))) (fin τ (fun j hj => t1.out j (.inl hj)) fun _ => q1.merge q2 (by omega) (by omega) t1 t2)
          refine ⟨υ, u1, u2, ?_⟩
          have st := qst1_T vv ff N g cs (trw N tw fun k => ρ k) b1 b2 N s k (trw N tw fun k => σ k) (trw N tw fun k => τ k) (by omega) (by omega) r (by omega) (by omega) (t3 28 _ _ _ (by omega) rfl (by omega) rfl) (by omega)
          rw [show (s : Int) * 2 = ((s * 2 : Nat) : Int) by omega] at st
          exact Loops.round st (QSDrop c1 c2 (by omega) (by kernel_rfl) (by simp [All_cons, All_nil, Clo, Clos, clos3 hcs]; simp [Ids])) u3
        · obtain ⟨υ, u1, u2, u3⟩ := q_st1_loop f (s * 2) σ (by omega) (by omega) (by omega) k4 (fin σ (fun j hj => rfl) fun h => by
            have q1 := k6 k hsk (Nat.le_refl _) h
            rwa [show min (k + s) N = N by omega] at q1)
          refine ⟨υ, u1, u2, ?_⟩
          have st := qst1_F vv ff N g cs (trw N tw fun k => ρ k) b1 b2 N s k (trw N tw fun k => σ k) (trw N tw fun k => σ k) (by omega) (by omega) r (by omega) (by omega) (by omega)
          rw [show (s : Int) * 2 = ((s * 2 : Nat) : Int) by omega] at st
          exact Loops.round st (QSDrop c1 c2 (by omega) (by kernel_rfl) (by simp [All_cons, All_nil, Clo, Clos, clos3 hcs]; simp [Ids])) u3
    · refine ⟨ρ, hs, ?_, Loops.last (by simp) (qst1_end vv ff N g cs _ b1 b2 N s (by omega))⟩
      by_cases h0 : N = 0
      · intro i j h1 h2 h3; omega
      · have := (hc 0 ⟨0, rfl⟩ (by omega)).1
        rwa [show min (0 + s) N = N by omega] at this
end
end Go.Proofs.Ytcgcpmcjaeenlaa

namespace Go.Proofs.Ytcgcpmcjaeenlaa
open Go.Lift
set_option maxRecDepth 1000000
set_option linter.unusedSimpArgs false
set_option linter.unusedVariables false
set_option linter.unusedSectionVars false

section
variable (tw : Nat → Tr) (vv ff : Nat) {N : Nat} (hN : N < 2 ^ 44) {b1 b2 : ABlk} (c1 : CloB (fun i => i < 3) b1) (c2 : CloB (fun i => i < 3) b2) {g : FuncId} {cs : List AVal} (hcs : Clos (fun i => i < 3) cs) {less : Nat → Nat → Bool} (hw : Weak less) (hcmp : QCmpOk tw vv ff N g cs b1 b2 less)
  {π : Nat → Nat} (hπ : InN N π) (hinc : ∀ i j, i < j → j < N → π i < π j)
include tw vv ff hN c1 c2 hcs hw hcmp hπ hinc

theorem q_st_does : ∃ σ, Same π σ 0 N ∧ Srt less σ 0 N ∧ ∀ K, 3 ≤ K → FDoes Try.prog 61 [.slice (some ⟨0, vv, 0, 0, 3⟩) N N, .int .i64 N, .func (.func g) [] cs] (QSH tw vv ff K N π b1 b2) (.tuple []) (QSH tw vv ff K N σ b1 b2) := by
  obtain ⟨k, ρ, k1, k2, k3, k4, k5, k6⟩ := q_st0_loop tw vv ff hN c1 c2 hcs hw hcmp hπ hinc N 0 π (by omega) (by omega) ⟨0, rfl⟩ (Same.refl _ _ _) (fun lo _ h => by omega)
  have r0 := Runs.of_loops (Tri.pre k6 (QSDrop (K := 7) (K' := 8) c1 c2 (by omega) (by kernel_rfl) (by simp [All_cons, All_nil, Clo, Clos, clos3 hcs]; simp [Ids])))
  have hρ : InN N ρ := hπ.same k4 k1
  have hout : ∀ j, k ≤ j → ρ j = π j := fun j hj => k4.out j (.inr hj)
  obtain ⟨σ, s1, s2, s3⟩ := q_ins_does tw vv ff hN c1 c2 hcs hw hcmp (a := k) (b := N) ρ hρ k1 (Nat.le_refl _) (fun i j h1 h2 h3 => by rw [hout i h1, hout j (by omega)]; exact hinc i j h2 h3) rfl rfl
  have hs' : Same π σ 0 N := (k4.wide (Nat.le_refl _) k1 (by omega)).trans (s1.wide (by omega) (Nat.le_refl _) (by omega))
  have hc' : ∀ lo, 20 ∣ lo → lo < N → Cell less π σ lo (min (lo + 20) N) := by
    intro lo hd hlt
    by_cases c : lo < k
    · rw [show min (lo + 20) N = lo + 20 by omega]
      exact (k5 lo hd c).congr fun j h1 h2 => s1.out j (.inl (by omega))
    · obtain rfl : lo = k := by omega
      rw [show min (lo + 20) N = N by omega]
      refine ⟨s2, fun j h1 h2 => ?_⟩
      obtain ⟨x, x1, x2, x3⟩ := s1.from h1 h2
      exact ⟨x, x1, x2, by rw [x3, hout x x1]⟩
  obtain ⟨τ, t1, t2, t3⟩ := q_st1_loop tw vv ff hN c1 c2 hcs hw hcmp hπ hinc N 20 σ (by omega) (by omega) (by omega) hs' hc'
  have r1 := Runs.of_loops (Tri.pre t3 (QSDrop (K := 16) (K' := 10) c1 c2 (by omega) (by kernel_rfl) (by simp [All_cons, All_nil, Clo, Clos, clos3 hcs]; simp [Ids])))
  refine ⟨τ, t1, t2, fun K hK => ?_⟩
  exact (qst_call vv ff N g cs _ b1 b2 N k _ (trw N tw fun j => σ j) _ r0 (s3 16 (by omega)) r1).all3 (by kernel_rfl) ⟨fun _ => rfl, by simp [Clo, Clos]⟩ (q_srow_clo _ _ _ _ _ _) (q_srow_clo _ _ _ _ _ _) c1 c2 (by simp [Clos, Clo, hcs]) hK

/-- slices.SortStableFunc -/
theorem q_sort_does : ∃ σ, Same π σ 0 N ∧ Srt less σ 0 N ∧ FDoes Try.prog 42 [.slice (some ⟨0, vv, 0, 0, 3⟩) N N, .func (.func g) [] cs] (AHeap.of [QSRow tw vv ff N π, b1, b2]) (.tuple []) (AHeap.of [QSRow tw vv ff N σ, b1, b2]) := by
  obtain ⟨τ, t1, t2, t3⟩ := q_st_does tw vv ff hN c1 c2 hcs hw hcmp hπ hinc
  refine ⟨τ, t1, t2, ?_⟩
  have k := qss_call vv ff N g cs _ b1 b2 _ (t3 8 (by omega))
  exact k.closed (l' := [QSRow tw vv ff N τ, b1, b2]) rfl (by kernel_rfl) ⟨fun _ => rfl, by simp [Clo, Clos]⟩ (by simp; exact ⟨q_srow_clo _ _ _ _ _ _, c1, c2⟩)
end
end Go.Proofs.Ytcgcpmcjaeenlaa

namespace Go.Lift
noncomputable section
open Go.RowKit
set_option linter.unusedVariables false
set_option linter.unusedSimpArgs false

theorem lookF_mem {F : Facts} {t : Nat} {v : AVal} (hv : lookF F t = some v) : (t, v) ∈ F := by
  induction F with
  | nil => cases hv
  | cons p r ih =>
    obtain ⟨k, u⟩ := p
    rw [lookF_cons] at hv
    split at hv
    · rename_i e; simp only [Option.some.injEq] at hv; subst e; subst hv; simp
    · exact List.mem_cons_of_mem _ (ih hv)

theorem lookF_map {F : Facts} {g : AVal → AVal} {t : Nat} {v : AVal} (hv : lookF F t = some v) : lookF (F.map fun p => (p.1, g p.2)) t = some (g v) := by
  induction F with
  | nil => cases hv
  | cons p r ih =>
    obtain ⟨k, u⟩ := p
    rw [List.map_cons, lookF_cons]
    rw [lookF_cons] at hv
    split at hv
    · rename_i e; simp only [Option.some.injEq] at hv; subst hv; rw [if_pos e]
    · rename_i e; rw [if_neg e]; exact ih hv

/-- rows are forgotten, or get other numbers: the row p.1 was the row r p.1 -/
theorem Ent.move {base n : Nat} {F F1 : Facts} {h : AHeap} {K : Nat} {l : List (Nat × ABlk)} (r : Nat → Nat) (hl : l.map (fun p => h.get (r p.1)) = l.map (fun p => some (p.2.ren r))) (hK : l.all (fun p => Nat.blt p.1 K) = true)
    (hr : ((l.map (·.1)).map r).Nodup) (hb : (List.range base).all (fun i => (l.map (·.1)).contains i && Nat.beq (r i) i) = true) (hnew : l.all (fun p => Nat.blt p.1 base || Nat.ble base (r p.1)) = true)
    (hFF : F = F1.map fun p => (p.1, p.2.ren r)) (hn : F1.all (fun p => Nat.blt p.1 n) = true) (hF : All (F1.map fun p => Clo (Ids (l.map (·.1))) p.2))
    (hc : All (l.map fun p => ∀ e ∈ p.2.elems, Clo (Ids (l.map (·.1))) e)) : Ent base n F h F1 (AHeap.rows K l) := by
  have hget : ∀ i b, (AHeap.rows K l).get i = some b → i < K ∧ h.get (r i) = some (b.ren r) := by
    intro i b k
    have hm := AHeap.rows_get k
    refine ⟨Nat.blt_eq.mp (List.all_eq_true.1 hK _ hm), ?_⟩
    obtain ⟨j, hj, e⟩ := List.mem_iff_getElem.1 hm
    have h1 := congrArg (fun (x : List (Option ABlk)) => x[j]?) hl
    simp only [List.getElem?_map, List.getElem?_eq_getElem hj, Option.map_some, e, Option.some.injEq] at h1
    exact h1
  have hmono : ∀ {v : AVal}, Clo (Ids (l.map (·.1))) v → Clo (In (AHeap.rows K l)) v := Clo.mono fun i hi => AHeap.rows_in hi
  subst hFF
  refine Ent.ren (r := r) ⟨fun i b k => ⟨by rw [AHeap.rows_next]; exact (hget i b k).1, (hget i b k).2⟩, ?_, ?_⟩ ?_ ?_ ?_ ?_
  · intro i j hi hj e
    have hi := AHeap.rows_in_of hi
    have hj := AHeap.rows_in_of hj
    obtain ⟨a, ha, rfl⟩ := List.mem_iff_getElem.1 hi
    obtain ⟨b, hb', rfl⟩ := List.mem_iff_getElem.1 hj
    have h1 : ((l.map (·.1)).map r)[a]'(by simpa using ha) = ((l.map (·.1)).map r)[b]'(by simpa using hb') := by simpa using e
    have := (List.getElem_inj hr).1 h1
    subst this; rfl
  · intro i b k e he
    have hm := AHeap.rows_get k
    exact hmono (hc _ (List.mem_map.2 ⟨_, hm, rfl⟩) e he)
  · intro t v hv
    have hm := lookF_mem hv
    exact ⟨Nat.blt_eq.mp (List.all_eq_true.1 hn _ hm), lookF_map hv, hmono (hF _ (List.mem_map.2 ⟨_, hm, rfl⟩))⟩
  · intro i hi _
    have := List.all_eq_true.1 hb i (List.mem_range.2 hi)
    simp only [Bool.and_eq_true] at this
    exact AHeap.rows_in (by simpa using this.1)
  · intro i hi _
    have := List.all_eq_true.1 hb i (List.mem_range.2 hi)
    simp only [Bool.and_eq_true] at this
    exact Nat.eq_of_beq_eq_true this.2
  · intro i hi hlt
    have hi := AHeap.rows_in_of hi
    obtain ⟨p, hm, rfl⟩ := List.mem_map.1 hi
    have := List.all_eq_true.1 hnew p hm
    simp only [Bool.or_eq_true] at this
    rcases this with h1 | h1
    · exact Nat.blt_eq.mp h1
    · have := Nat.le_of_ble_eq_true h1; omega

theorem AHeap.foldl_get_eq (l : List (Nat × ABlk)) : ∀ (h g : AHeap) (i : Nat), h.get i = g.get i → (l.foldl (fun h p => h.set p.1 p.2) h).get i = (l.foldl (fun h p => h.set p.1 p.2) g).get i := by
  induction l with
  | nil => intro h g i e; exact e
  | cons p r ih =>
    intro h g i e
    refine ih _ _ i ?_
    rw [AHeap.get_set, AHeap.get_set, e]

theorem AHeap.foldl_out (l : List (Nat × ABlk)) : ∀ (h : AHeap) (i : Nat), i ∉ l.map (·.1) → (l.foldl (fun h p => h.set p.1 p.2) h).get i = h.get i := by
  induction l with
  | nil => intro h i _; rfl
  | cons p r ih =>
    intro h i hi
    simp only [List.map_cons, List.mem_cons, not_or] at hi
    rw [List.foldl_cons, ih _ i hi.2, AHeap.get_set_ne _ _ (Ne.symm hi.1)]

/-- rows that nobody names -/
theorem Ent.more {base n : Nat} {F : Facts} {K K2 : Nat} {l l2 : List (Nat × ABlk)} (hK : Nat.ble K K2 = true) (h2 : l2.all (fun p => Nat.ble K p.1) = true) : Ent base n F (AHeap.rows K l) F (AHeap.rows K2 (l ++ l2)) := by
  refine Ent.pad (by rw [AHeap.rows_next, AHeap.rows_next]; exact Nat.le_of_ble_eq_true hK) fun i hi => ?_
  rw [AHeap.rows_next] at hi
  unfold AHeap.rows
  rw [List.foldl_append, AHeap.foldl_out l2 _ i fun hm => ?_]
  · exact AHeap.foldl_get_eq l _ _ i rfl
  · obtain ⟨p, hp, rfl⟩ := List.mem_map.1 hm
    have := Nat.le_of_ble_eq_true (List.all_eq_true.1 h2 p hp)
    omega

/-- a row of nothing -/
def noRow0 : ABlk := .made [] 1 true
theorem noRow0_bare : BareB noRow0 := by intro e he; cases he
end
end Go.Lift

namespace Go.Lift
set_option linter.unusedSimpArgs false
set_option linter.unusedVariables false

/-- less is known of earlier versions -/
structure Weaker (b b2 : ABlk) : Prop where
  elems : b2.elems = b.elems
  es : b2.es = b.es
  exact : b2.exact = b.exact
  ro : b2.ro = b.ro
  ver : b2.ver = b.ver
  fork : b2.forkLen = b.forkLen
  min : b.minVer ≤ b2.minVer

theorem Weaker.lim {b b2 : ABlk} (h : Weaker b b2) {v i : Nat} (hi : i < b2.lim v) : i < b.lim v := by
  have h1 := h.min
  unfold ABlk.lim at hi ⊢
  rw [h.ver, h.elems, h.fork] at hi
  split at hi
  · rw [if_pos ‹_›]; exact hi
  · rw [if_neg ‹_›]
    split at hi
    · rw [if_pos ⟨by omega, by omega⟩]; exact hi
    · omega

def WeakO (o o2 : Option ABlk) : Prop := o2 = o ∨ ∃ b b2, o = some b ∧ o2 = some b2 ∧ Weaker b b2

theorem HRel.weak {φ : Map} {N0 : Nat → Prop} {h h2 : AHeap} {w : World} (r : HRel φ N0 h w) (hn : h2.next = h.next) (hg : ∀ i, WeakO (h.get i) (h2.get i)) : HRel φ N0 h2 w := by
  refine ⟨fun i v p hp => ?_, r.apart, r.same⟩
  obtain ⟨g1, b, g2, g3, g4, g5, g6, g7, g8⟩ := r.dom i v p hp
  rcases hg i with e | ⟨b', b2, e1, e2, e3⟩
  · exact ⟨by omega, b, by rw [e]; exact g2, g3, g4, g5, g6, g7, g8⟩
  · rw [g2] at e1; cases e1
    exact ⟨by omega, b2, e2, by rw [e3.ver]; exact g3, by rw [e3.es]; exact g4, by rw [e3.exact]; exact g5, by rw [e3.ro]; exact g6, g7,
      ⟨g8.blk, g8.base, g8.cells, g8.free, fun i e hlo hi he => g8.cont i e hlo (e3.lim hi) (by rw [← e3.elems]; exact he)⟩⟩

theorem Ent.weakH {base n : Nat} {F : Facts} {h h2 : AHeap} (hn : h2.next = h.next) (hg : ∀ i, WeakO (h.get i) (h2.get i)) : Ent base n F h F h2 :=
  fun S w0 φ0 φ a w h0 hk ⟨s, hl, hF, r⟩ => ⟨φ, hk, s, hl, hF, r.slots, r.heap.weak hn hg, r.below, r.defers⟩

theorem weak_fold : ∀ (l2 : List (Nat × ABlk)) (h h2 : AHeap), (∀ i, WeakO (h.get i) (h2.get i)) → ∀ i, WeakO ((l2.foldl (fun g p => g.set p.1 p.2) h).get i) ((l2.foldl (fun g p => g.set p.1 p.2) h2).get i)
  | [], h, h2, hg, i => hg i
  | p :: r, h, h2, hg, i => by
    refine weak_fold r (h.set p.1 p.2) (h2.set p.1 p.2) (fun j => ?_) i
    rw [AHeap.get_set, AHeap.get_set]
    by_cases e : p.1 = j
    · rw [if_pos e, if_pos e]; exact .inl rfl
    · rw [if_neg e, if_neg e]; exact hg j

theorem Ent.weakRows {base n : Nat} {F : Facts} {K : Nat} (l1 : List (Nat × ABlk)) {i : Nat} {b b2 : ABlk} (l2 : List (Nat × ABlk)) (hw : Weaker b b2) : Ent base n F (AHeap.rows K (l1 ++ (i, b) :: l2)) F (AHeap.rows K (l1 ++ (i, b2) :: l2)) := by
  refine Ent.weakH (by rw [AHeap.rows_next, AHeap.rows_next]) fun j => ?_
  unfold AHeap.rows
  rw [List.foldl_append, List.foldl_append, List.foldl_cons, List.foldl_cons]
  refine weak_fold l2 _ _ (fun k => ?_) j
  rw [AHeap.get_set, AHeap.get_set]
  by_cases e : i = k
  · rw [if_pos e, if_pos e]; exact .inr ⟨b, b2, rfl, rfl, hw⟩
  · rw [if_neg e, if_neg e]; exact .inl rfl

end Go.Lift

namespace Go.Proofs.Ytcgcpmcjaeenlaa
open Go.Lift
set_option maxRecDepth 1000000
set_option linter.unusedSimpArgs false
set_option linter.unusedVariables false

/-- where track i begins -/
def atZ (x : Nat → Int) (g : Int) (i : Nat) : Int := sumTo (fun j => sideZ (x j) + g) i
/-- how many tracks from the first one that is there -/
def lenZ (p m : Int) : Int := if p < 0 then max m 1 + p else max m 1
def okZ (n : Nat) (p m : Int) : Prop := p.toNat < n ∧ 1 ≤ lenZ p m
instance (n : Nat) (p m : Int) : Decidable (okZ n p m) := inferInstanceAs (Decidable (_ ∧ _))
def hiZ (n : Nat) (p m : Int) : Nat := min n (p.toNat + (lenZ p m).toNat)
def begZ (x : Nat → Int) (g : Int) (n : Nat) (p m : Int) : Int := if okZ n p m then atZ x g p.toNat else 0
def sizZ (x : Nat → Int) (g : Int) (n : Nat) (p m : Int) : Int := if okZ n p m then atZ x g (hiZ n p m) - g - atZ x g p.toNat else 0

/-- what the document's loop holds ahead of track i -/
def seenZ (p m : Int) (i : Nat) : Prop := p.toNat < i ∧ 1 ≤ lenZ p m
instance (p m : Int) (i : Nat) : Decidable (seenZ p m i) := inferInstanceAs (Decidable (_ ∧ _))
def rbZ (x : Nat → Int) (g p m : Int) (i : Nat) : Int := if seenZ p m i then atZ x g p.toNat else -1
def reZ (x : Nat → Int) (g p m : Int) (i : Nat) : Int := if seenZ p m i then atZ x g (min i (p.toNat + (lenZ p m).toNat)) - g else 0
def inZ (p m : Int) (i : Nat) : Prop := p ≤ i ∧ (0 ≤ p ∧ (i : Int) - p < max 1 m ∨ p < 0 ∧ (i : Int) < max 1 m + p)

/-- where a span lies -/
def rectZ (x : Nat → Int) (n : Nat) (y : Nat → Int) (m : Nat) (g : Int) (s : Qd) : Qd :=
  if okZ n s.a s.c ∧ okZ m s.b s.d then ⟨begZ x g n s.a s.c, begZ y g m s.b s.d, sizZ x g n s.a s.c, sizZ y g m s.b s.d⟩ else Qd0

end Go.Proofs.Ytcgcpmcjaeenlaa

namespace Go.Proofs.Ytcgcpmcjaeenlaa
open Go.Lift
set_option maxRecDepth 1000000
set_option linter.unusedSimpArgs false
set_option linter.unusedVariables false
set_option linter.unusedSectionVars false

theorem gwithin_p (n lo hi : Int)  :
    FDoes Try.prog 30 [.int .i64 n, .int .i64 lo, .int .i64 hi] (⟨0, .nil⟩) (.int .i64 (if hi < if lo > n then lo else n then hi else if lo > n then lo else n)) (AHeap.rows 7 []) :=
  pcall_does env_ok mixed (hs := []) (rs := []) (by kernel_rfl) (All.nil)

theorem gwithin_does (n lo hi : Int) (H : AHeap) : FDoes Try.prog 30 [.int .i64 n, .int .i64 lo, .int .i64 hi] H (.int .i64 (min (max n lo) hi)) H := by
  have h := (gwithin_p n lo hi).bare (by simp [Bare, AVal.ren, Clo]) (Bare.int _ _) H
  have e : (if hi < if lo > n then lo else n then hi else if lo > n then lo else n) = min (max n lo) hi := by split <;> split <;> omega
  rwa [e] at h
theorem gside_does (n : Int) (H : AHeap) : FDoes Try.prog 30 [.int .i64 n, .int .i64 0, .int .i64 4096] H (.int .i64 (sideZ n)) H := gwithin_does n 0 4096 H
end Go.Proofs.Ytcgcpmcjaeenlaa

namespace Go.Proofs.Ytcgcpmcjaeenlaa
open Go.Lift
set_option maxRecDepth 1000000
set_option linter.unusedSimpArgs false
set_option linter.unusedVariables false
set_option linter.unusedSectionVars false

theorem tk_i0 (o on : Option AAddr) (n c k ck i q vv : Nat) (b0 bn ri rw rw2 : ABlk) (li lh : List AVal) (ext g tn td tm tx hv pv : Int) (a m : Nat) (sz : Int) (bh : ABlk) (hc_0 : (i : Int) < (n : Int)) (hc_1 : aindexAddr env.D 30 (.slice (some ⟨11, 0, 0, 0, 5⟩) n n) (.int .i64 (i : Int)) = some (.ptr (some ⟨11, 0, 0 + i, 0, 5⟩))) (hc_2 : ABlk.elem? ri 0 (0 + i) = some (.agg [.int .i8 (0), .int .i64 tn, .int .i64 td, .int .i64 tm, .int .i64 tx])) (hc_3 : FDoes Try.prog 40 [.agg [.int .i8 (0), .int .i64 tn, .int .i64 td, .int .i64 tm, .int .i64 tx]] (AHeap.rows 40 [(0, b0), (1, bn), (11, ri), (15, .made lh 1 true), (34, (.made ([.agg [.int .i8 (0), .int .i64 tn, .int .i64 td, .int .i64 tm, .int .i64 tx]]) 5 true))]) (AVal.bool true) (AHeap.rows 40 [(0, b0), (1, bn), (11, ri), (15, .made lh 1 true), (34, (.made ([.agg [.int .i8 (0), .int .i64 tn, .int .i64 td, .int .i64 tm, .int .i64 tx]]) 5 true))])) (hc_5 : aindexAddr env.D 32 (.slice (some ⟨15, 0, 0, 0, 1⟩) n n) (.int .i64 (i : Int)) = some (.ptr (some ⟨15, 0, 0 + i, 0, 1⟩))) (hc_6 : 0 = 0 ∧ lh[0 + i]? = some (.int .i64 pv)) (hc_7 : -9223372036854775808 ≤ (i : Int) + 1 ∧ (i : Int) + (1 : Int) ≤ 9223372036854775807) :
    Runs Try.prog 2 182 (loopAt Try.prog 18 0) [(0, .slice (some ⟨11, 0, 0, 0, 5⟩) n n), (1, .slice on k ck), (2, .int .i64 ext), (3, .int .i64 g), (9, .slice (some ⟨15, 0, 0, 0, 1⟩) n n), (30, .slice (some ⟨11, 0, 0, 0, 5⟩) n n), (31, .int .i64 n), (32, .int .i64 i)] (AHeap.rows 30 [(0, b0), (1, bn), (11, ri), (15, .made lh 1 true)]) .normal [(0, .slice (some ⟨11, 0, 0, 0, 5⟩) n n), (1, .slice on k ck), (2, .int .i64 ext), (3, .int .i64 g), (9, .slice (some ⟨15, 0, 0, 0, 1⟩) n n), (30, .slice (some ⟨11, 0, 0, 0, 5⟩) n n), (31, .int .i64 (n : Int)), (32, .int .i64 ((i : Int) + 1))] (AHeap.rows 52 [(0, b0), (1, bn), (11, ri), (15, (.made (List.set lh (0 + i) (.int .i64 tm)) 1 true)), (34, (.made ([.agg [.int .i8 (0), .int .i64 tn, .int .i64 td, .int .i64 tm, .int .i64 tx]]) 5 true))]) :=
  ppath_runs env_ok mixed (hs := [.val 7000 (.bool true), .val 8001 (.ptr (some ⟨11, 0, 0 + i, 0, 5⟩)), .ld 8002 (.agg [.int .i8 0, .int .i64 tn, .int .i64 td, .int .i64 tm, .int .i64 tx]), .val 9001 (.bool true), .val 13000 (.bool false), .val 12004 (.ptr (some ⟨15, 0, 0 + i, 0, 1⟩)), .st 12005 (.int .i64 pv), .go 15000]) (keep := [0, 1, 2, 3, 9, 30, 31, 32]) (by kernel_rfl) (All.cons (okT hc_0) (All.cons hc_1 (All.cons hc_2 (All.cons (CallT.mk hc_3) (All.cons (show some (AVal.bool false) = some (AVal.bool false) from congrArg (fun q => some (AVal.bool q)) (rfl)) (All.cons hc_5 (All.cons hc_6 (All.cons hc_7 (All.nil)))))))))

theorem tk_i1 (o on : Option AAddr) (n c k ck i q vv : Nat) (b0 bn ri rw rw2 : ABlk) (li lh : List AVal) (ext g tn td tm tx hv pv : Int) (a m : Nat) (sz : Int) (bh : ABlk) (hc_0 : (i : Int) < (n : Int)) (hc_1 : aindexAddr env.D 30 (.slice (some ⟨11, 0, 0, 0, 5⟩) n n) (.int .i64 (i : Int)) = some (.ptr (some ⟨11, 0, 0 + i, 0, 5⟩))) (hc_2 : ABlk.elem? ri 0 (0 + i) = some (.agg [.int .i8 (1), .int .i64 tn, .int .i64 td, .int .i64 tm, .int .i64 tx])) (hc_3 : FDoes Try.prog 40 [.agg [.int .i8 (1), .int .i64 tn, .int .i64 td, .int .i64 tm, .int .i64 tx]] (AHeap.rows 40 [(0, b0), (1, bn), (11, ri), (15, .made lh 1 true), (34, (.made ([.agg [.int .i8 (1), .int .i64 tn, .int .i64 td, .int .i64 tm, .int .i64 tx]]) 5 true))]) (AVal.bool true) (AHeap.rows 40 [(0, b0), (1, bn), (11, ri), (15, .made lh 1 true), (34, (.made ([.agg [.int .i8 (1), .int .i64 tn, .int .i64 td, .int .i64 tm, .int .i64 tx]]) 5 true))])) (hc_5 : FDoes Try.prog 41 [.int .i64 tn, .agg [.int .i8 (1), .int .i64 tn, .int .i64 td, .int .i64 tm, .int .i64 tx]] (AHeap.rows 52 [(0, b0), (1, bn), (11, ri), (15, .made lh 1 true), (34, (.made ([.agg [.int .i8 (1), .int .i64 tn, .int .i64 td, .int .i64 tm, .int .i64 tx]]) 5 true))]) (.int .i64 tn) (AHeap.rows 52 [(0, b0), (1, bn), (11, ri), (15, .made lh 1 true), (34, (.made ([.agg [.int .i8 (1), .int .i64 tn, .int .i64 td, .int .i64 tm, .int .i64 tx]]) 5 true))])) (hc_6 : aindexAddr env.D 32 (.slice (some ⟨15, 0, 0, 0, 1⟩) n n) (.int .i64 (i : Int)) = some (.ptr (some ⟨15, 0, 0 + i, 0, 1⟩))) (hc_7 : 0 = 0 ∧ lh[0 + i]? = some (.int .i64 pv)) (hc_8 : -9223372036854775808 ≤ (i : Int) + 1 ∧ (i : Int) + (1 : Int) ≤ 9223372036854775807) :
    Runs Try.prog 2 182 (loopAt Try.prog 18 0) [(0, .slice (some ⟨11, 0, 0, 0, 5⟩) n n), (1, .slice on k ck), (2, .int .i64 ext), (3, .int .i64 g), (9, .slice (some ⟨15, 0, 0, 0, 1⟩) n n), (30, .slice (some ⟨11, 0, 0, 0, 5⟩) n n), (31, .int .i64 n), (32, .int .i64 i)] (AHeap.rows 30 [(0, b0), (1, bn), (11, ri), (15, .made lh 1 true)]) .normal [(0, .slice (some ⟨11, 0, 0, 0, 5⟩) n n), (1, .slice on k ck), (2, .int .i64 ext), (3, .int .i64 g), (9, .slice (some ⟨15, 0, 0, 0, 1⟩) n n), (30, .slice (some ⟨11, 0, 0, 0, 5⟩) n n), (31, .int .i64 (n : Int)), (32, .int .i64 ((i : Int) + 1))] (AHeap.rows 54 [(0, b0), (1, bn), (11, ri), (15, (.made (List.set lh (0 + i) (.int .i64 tn)) 1 true)), (34, (.made ([.agg [.int .i8 (1), .int .i64 tn, .int .i64 td, .int .i64 tm, .int .i64 tx]]) 5 true))]) :=
  ppath_runs env_ok mixed (hs := [.val 7000 (.bool true), .val 8001 (.ptr (some ⟨11, 0, 0 + i, 0, 5⟩)), .ld 8002 (.agg [.int .i8 1, .int .i64 tn, .int .i64 td, .int .i64 tm, .int .i64 tx]), .val 9001 (.bool true), .val 13000 (.bool true), .val 14005 (.int .i64 tn), .val 14006 (.ptr (some ⟨15, 0, 0 + i, 0, 1⟩)), .st 14007 (.int .i64 pv), .go 15000]) (keep := [0, 1, 2, 3, 9, 30, 31, 32]) (by kernel_rfl) (All.cons (okT hc_0) (All.cons hc_1 (All.cons hc_2 (All.cons (CallT.mk hc_3) (All.cons (show some (AVal.bool true) = some (AVal.bool true) from congrArg (fun q => some (AVal.bool q)) (rfl)) (All.cons (CallT.mk hc_5) (All.cons hc_6 (All.cons hc_7 (All.cons hc_8 (All.nil))))))))))

theorem tk_ie (o on : Option AAddr) (n c k ck i q vv : Nat) (b0 bn ri rw rw2 : ABlk) (li lh : List AVal) (ext g tn td tm tx hv pv : Int) (a m : Nat) (sz : Int) (bh : ABlk) (hc_0 : ¬ ((i : Int) < (n : Int))) :
    Runs Try.prog 2 182 (loopAt Try.prog 18 0) [(0, .slice (some ⟨11, 0, 0, 0, 5⟩) n n), (1, .slice on k ck), (2, .int .i64 ext), (3, .int .i64 g), (9, .slice (some ⟨15, 0, 0, 0, 1⟩) n n), (30, .slice (some ⟨11, 0, 0, 0, 5⟩) n n), (31, .int .i64 n), (32, .int .i64 i)] (AHeap.rows 30 [(0, b0), (1, bn), (11, ri), (15, .made lh 1 true)]) (.exit 0) [(0, .slice (some ⟨11, 0, 0, 0, 5⟩) n n), (1, .slice on k ck), (2, .int .i64 ext), (3, .int .i64 g), (9, .slice (some ⟨15, 0, 0, 0, 1⟩) n n)] (AHeap.rows 31 [(0, b0), (1, bn), (11, ri), (15, .made lh 1 true)]) :=
  ppath_runs env_ok mixed (hs := [.val 7000 (.bool false)]) (keep := [0, 1, 2, 3, 9]) (by kernel_rfl) (All.cons (okF hc_0) (All.nil))

theorem tk_s1N (on : Option AAddr) (n k ck vn offn i q vv a : Nat) (b0 bn ri rw rw2 : ABlk) (lh : List AVal) (ext g na nb nc tn td tm tx hv : Int) (hc_0 : (i : Int) < (k : Int)) (hc_1 : aindexAddr env.D 31 (.slice on k ck) (.int .i64 (i : Int)) = some (.ptr (some ⟨1, vn, offn + i, 0, 3⟩))) (hc_2 : ABlk.elem? bn vn (offn + i) = some (.agg [.int .i64 na, .int .i64 nb, .int .i64 nc])) (hc_3 : na < 0) (hc_4 : -9223372036854775808 ≤ (i : Int) + 1 ∧ (i : Int) + (1 : Int) ≤ 9223372036854775807) :
    Runs Try.prog 2 182 (loopAt Try.prog 18 1) [(0, .slice (some ⟨11, 0, 0, 0, 5⟩) n n), (2, .int .i64 ext), (3, .int .i64 g), (9, .slice (some ⟨15, 0, 0, 0, 1⟩) n n), (12, .slice none 0 0), (61, .slice on k ck), (62, .int .i64 k), (63, .int .i64 i)] (AHeap.rows 50 [(0, b0), (1, bn), (11, ri), (15, .made lh 1 true)]) .normal [(0, .slice (some ⟨11, 0, 0, 0, 5⟩) n n), (2, .int .i64 ext), (3, .int .i64 g), (9, .slice (some ⟨15, 0, 0, 0, 1⟩) n n), (12, .slice none 0 0), (61, .slice on k ck), (62, .int .i64 (k : Int)), (63, .int .i64 ((i : Int) + 1))] (AHeap.rows 72 [(0, b0), (1, bn), (11, ri), (15, .made lh 1 true), (53, (.made ([.agg [.int .i64 na, .int .i64 nb, .int .i64 nc]]) 3 true))]) :=
  ppath_runs env_ok mixed (hs := [.val 18000 (.bool true), .val 19000 (.ptr (some ⟨1, vn, offn + i, 0, 3⟩)), .ld 19001 (.agg [.int .i64 na, .int .i64 nb, .int .i64 nc]), .val 20002 (.bool true), .go 27000]) (keep := [0, 2, 3, 9, 12, 61, 62, 63]) (by kernel_rfl) (All.cons (okT hc_0) (All.cons hc_1 (All.cons hc_2 (All.cons (okT hc_3) (All.cons hc_4 (All.nil))))))

theorem tk_s2N (on : Option AAddr) (n k ck vn offn i q vv a : Nat) (b0 bn ri rw rw2 : ABlk) (lh : List AVal) (ext g na nb nc tn td tm tx hv : Int) (hc_0 : (i : Int) < (k : Int)) (hc_1 : aindexAddr env.D 31 (.slice on k ck) (.int .i64 (i : Int)) = some (.ptr (some ⟨1, vn, offn + i, 0, 3⟩))) (hc_2 : ABlk.elem? bn vn (offn + i) = some (.agg [.int .i64 na, .int .i64 nb, .int .i64 nc])) (hc_3 : ¬ (na < 0)) (hc_4 : na ≥ (n : Int)) (hc_5 : -9223372036854775808 ≤ (i : Int) + 1 ∧ (i : Int) + (1 : Int) ≤ 9223372036854775807) :
    Runs Try.prog 2 182 (loopAt Try.prog 18 1) [(0, .slice (some ⟨11, 0, 0, 0, 5⟩) n n), (2, .int .i64 ext), (3, .int .i64 g), (9, .slice (some ⟨15, 0, 0, 0, 1⟩) n n), (12, .slice none 0 0), (61, .slice on k ck), (62, .int .i64 k), (63, .int .i64 i)] (AHeap.rows 50 [(0, b0), (1, bn), (11, ri), (15, .made lh 1 true)]) .normal [(0, .slice (some ⟨11, 0, 0, 0, 5⟩) n n), (2, .int .i64 ext), (3, .int .i64 g), (9, .slice (some ⟨15, 0, 0, 0, 1⟩) n n), (12, .slice none 0 0), (61, .slice on k ck), (62, .int .i64 (k : Int)), (63, .int .i64 ((i : Int) + 1))] (AHeap.rows 72 [(0, b0), (1, bn), (11, ri), (15, .made lh 1 true), (53, (.made ([.agg [.int .i64 na, .int .i64 nb, .int .i64 nc]]) 3 true))]) :=
  ppath_runs env_ok mixed (hs := [.val 18000 (.bool true), .val 19000 (.ptr (some ⟨1, vn, offn + i, 0, 3⟩)), .ld 19001 (.agg [.int .i64 na, .int .i64 nb, .int .i64 nc]), .val 20002 (.bool false), .val 20008 (.bool true), .go 27000]) (keep := [0, 2, 3, 9, 12, 61, 62, 63]) (by kernel_rfl) (All.cons (okT hc_0) (All.cons hc_1 (All.cons hc_2 (All.cons (okF hc_3) (All.cons (okT hc_4) (All.cons hc_5 (All.nil)))))))

theorem tk_s3N (on : Option AAddr) (n k ck vn offn i q vv a : Nat) (b0 bn ri rw rw2 : ABlk) (lh : List AVal) (ext g na nb nc tn td tm tx hv : Int) (hc_0 : (i : Int) < (k : Int)) (hc_1 : aindexAddr env.D 31 (.slice on k ck) (.int .i64 (i : Int)) = some (.ptr (some ⟨1, vn, offn + i, 0, 3⟩))) (hc_2 : ABlk.elem? bn vn (offn + i) = some (.agg [.int .i64 na, .int .i64 nb, .int .i64 nc])) (hc_3 : ¬ (na < 0)) (hc_4 : ¬ (na ≥ (n : Int))) (hc_5 : nb < 1) (hc_6 : -9223372036854775808 ≤ (i : Int) + 1 ∧ (i : Int) + (1 : Int) ≤ 9223372036854775807) :
    Runs Try.prog 2 182 (loopAt Try.prog 18 1) [(0, .slice (some ⟨11, 0, 0, 0, 5⟩) n n), (2, .int .i64 ext), (3, .int .i64 g), (9, .slice (some ⟨15, 0, 0, 0, 1⟩) n n), (12, .slice none 0 0), (61, .slice on k ck), (62, .int .i64 k), (63, .int .i64 i)] (AHeap.rows 50 [(0, b0), (1, bn), (11, ri), (15, .made lh 1 true)]) .normal [(0, .slice (some ⟨11, 0, 0, 0, 5⟩) n n), (2, .int .i64 ext), (3, .int .i64 g), (9, .slice (some ⟨15, 0, 0, 0, 1⟩) n n), (12, .slice none 0 0), (61, .slice on k ck), (62, .int .i64 (k : Int)), (63, .int .i64 ((i : Int) + 1))] (AHeap.rows 72 [(0, b0), (1, bn), (11, ri), (15, .made lh 1 true), (53, (.made ([.agg [.int .i64 na, .int .i64 nb, .int .i64 nc]]) 3 true))]) :=
  ppath_runs env_ok mixed (hs := [.val 18000 (.bool true), .val 19000 (.ptr (some ⟨1, vn, offn + i, 0, 3⟩)), .ld 19001 (.agg [.int .i64 na, .int .i64 nb, .int .i64 nc]), .val 20002 (.bool false), .val 20008 (.bool false), .val 20013 (.bool true), .go 27000]) (keep := [0, 2, 3, 9, 12, 61, 62, 63]) (by kernel_rfl) (All.cons (okT hc_0) (All.cons hc_1 (All.cons hc_2 (All.cons (okF hc_3) (All.cons (okF hc_4) (All.cons (okT hc_5) (All.cons hc_6 (All.nil))))))))

theorem tk_wN (on : Option AAddr) (n k ck vn offn i q vv a : Nat) (b0 bn ri rw rw2 : ABlk) (lh : List AVal) (ext g na nb nc tn td tm tx hv : Int) (hc_0 : (i : Int) < (k : Int)) (hc_1 : aindexAddr env.D 31 (.slice on k ck) (.int .i64 (i : Int)) = some (.ptr (some ⟨1, vn, offn + i, 0, 3⟩))) (hc_2 : ABlk.elem? bn vn (offn + i) = some (.agg [.int .i64 na, .int .i64 nb, .int .i64 nc])) (hc_3 : ¬ (na < 0)) (hc_4 : ¬ (na ≥ (n : Int))) (hc_5 : ¬ (nb < 1)) (hc_6 : -9223372036854775808 ≤ (n : Int) - na ∧ (n : Int) - na ≤ 9223372036854775807) (hc_7 : FDoes Try.prog 30 [.int .i64 nc, .int .i64 0, .int .i64 4096] (AHeap.rows 85 [(0, b0), (1, bn), (11, ri), (15, .made lh 1 true), (53, (.made ([.agg [.int .i64 na, .int .i64 (if (n : Int) - na < nb then (n : Int) - na else nb), .int .i64 nc]]) 3 true))]) (.int .i64 (sideZ nc)) (AHeap.rows 85 [(0, b0), (1, bn), (11, ri), (15, .made lh 1 true), (53, (.made ([.agg [.int .i64 na, .int .i64 (if (n : Int) - na < nb then (n : Int) - na else nb), .int .i64 nc]]) 3 true))])) (hc_8 : (if (n : Int) - na < nb then (n : Int) - na else nb) > 1) (hc_9 : abuiltin env Builtin.append { toList := [31, 31] } [.slice none 0 0, .slice (some ⟨90, 0, 0, 0, 3⟩) 1 1] 91 (AHeap.set (AHeap.rows 93 [(0, b0), (1, bn), (11, ri), (15, .made lh 1 true), (53, (.made ([.agg [.int .i64 na, .int .i64 (if (n : Int) - na < nb then (n : Int) - na else nb), .int .i64 (sideZ nc)]]) 3 true))]) 90 (.made [.agg [.int .i64 na, .int .i64 (if (n : Int) - na < nb then (n : Int) - na else nb), .int .i64 (sideZ nc)]] 3 true)) = some (.slice (some ⟨91, 0, 0, 0, 3⟩) 1 1, (AHeap.rows 93 [(0, b0), (1, bn), (11, ri), (15, .made lh 1 true), (53, (.made ([.agg [.int .i64 na, .int .i64 (if (n : Int) - na < nb then (n : Int) - na else nb), .int .i64 (sideZ nc)]]) 3 true)), (90, .made [.agg [.int .i64 na, .int .i64 (if (n : Int) - na < nb then (n : Int) - na else nb), .int .i64 (sideZ nc)]] 3 true), (91, rw2)]))) (hc_10 : -9223372036854775808 ≤ (i : Int) + 1 ∧ (i : Int) + (1 : Int) ≤ 9223372036854775807) :
    Runs Try.prog 2 182 (loopAt Try.prog 18 1) [(0, .slice (some ⟨11, 0, 0, 0, 5⟩) n n), (2, .int .i64 ext), (3, .int .i64 g), (9, .slice (some ⟨15, 0, 0, 0, 1⟩) n n), (12, .slice none 0 0), (61, .slice on k ck), (62, .int .i64 k), (63, .int .i64 i)] (AHeap.rows 50 [(0, b0), (1, bn), (11, ri), (15, .made lh 1 true)]) .normal [(0, .slice (some ⟨11, 0, 0, 0, 5⟩) n n), (2, .int .i64 ext), (3, .int .i64 g), (9, .slice (some ⟨15, 0, 0, 0, 1⟩) n n), (12, .slice (some ⟨91, 0, 0, 0, 3⟩) 1 1), (61, .slice on k ck), (62, .int .i64 (k : Int)), (63, .int .i64 ((i : Int) + 1))] (AHeap.rows 95 [(0, b0), (1, bn), (11, ri), (15, .made lh 1 true), (53, (.made ([.agg [.int .i64 na, .int .i64 (if (n : Int) - na < nb then (n : Int) - na else nb), .int .i64 (sideZ nc)]]) 3 true)), (90, .made [.agg [.int .i64 na, .int .i64 (if (n : Int) - na < nb then (n : Int) - na else nb), .int .i64 (sideZ nc)]] 3 true), (91, rw2)]) :=
  ppath_runs env_ok mixed (hs := [.val 18000 (.bool true), .val 19000 (.ptr (some ⟨1, vn, offn + i, 0, 3⟩)), .ld 19001 (.agg [.int .i64 na, .int .i64 nb, .int .i64 nc]), .val 20002 (.bool false), .val 20008 (.bool false), .val 20013 (.bool false), .go 21006, .val 22002 (.int .i64 (sideZ nc)), .val 23002 (.bool true), .act 24003 (.slice (some ⟨91, 0, 0, 0, 3⟩) 1 1) (fun h => h.set 91 rw2), .go 27000]) (keep := [0, 2, 3, 9, 12, 61, 62, 63]) (by kernel_rfl) (All.cons (okT hc_0) (All.cons hc_1 (All.cons hc_2 (All.cons (okF hc_3) (All.cons (okF hc_4) (All.cons (okF hc_5) (All.cons hc_6 (All.cons (CallT.mk hc_7) (All.cons (okT hc_8) (All.cons hc_9 (All.cons hc_10 (All.nil))))))))))))

theorem tk_n0N (on : Option AAddr) (n k ck vn offn i q vv a : Nat) (b0 bn ri rw rw2 : ABlk) (lh : List AVal) (ext g na nb nc tn td tm tx hv : Int) (hc_0 : (i : Int) < (k : Int)) (hc_1 : aindexAddr env.D 31 (.slice on k ck) (.int .i64 (i : Int)) = some (.ptr (some ⟨1, vn, offn + i, 0, 3⟩))) (hc_2 : ABlk.elem? bn vn (offn + i) = some (.agg [.int .i64 na, .int .i64 nb, .int .i64 nc])) (hc_3 : ¬ (na < 0)) (hc_4 : ¬ (na ≥ (n : Int))) (hc_5 : ¬ (nb < 1)) (hc_6 : -9223372036854775808 ≤ (n : Int) - na ∧ (n : Int) - na ≤ 9223372036854775807) (hc_7 : FDoes Try.prog 30 [.int .i64 nc, .int .i64 0, .int .i64 4096] (AHeap.rows 85 [(0, b0), (1, bn), (11, ri), (15, .made lh 1 true), (53, (.made ([.agg [.int .i64 na, .int .i64 (if (n : Int) - na < nb then (n : Int) - na else nb), .int .i64 nc]]) 3 true))]) (.int .i64 (sideZ nc)) (AHeap.rows 85 [(0, b0), (1, bn), (11, ri), (15, .made lh 1 true), (53, (.made ([.agg [.int .i64 na, .int .i64 (if (n : Int) - na < nb then (n : Int) - na else nb), .int .i64 nc]]) 3 true))])) (hc_8 : ¬ ((if (n : Int) - na < nb then (n : Int) - na else nb) > 1)) (hc_9 : aindexAddr env.D 30 (.slice (some ⟨11, 0, 0, 0, 5⟩) n n) (.int .i64 na) = some (.ptr (some ⟨11, 0, 0 + a, 0, 5⟩))) (hc_10 : ABlk.elem? ri 0 (0 + a) = some (.agg [.int .i8 (0), .int .i64 tn, .int .i64 td, .int .i64 tm, .int .i64 tx])) (hc_12 : aindexAddr env.D 32 (.slice (some ⟨15, 0, 0, 0, 1⟩) n n) (.int .i64 na) = some (.ptr (some ⟨15, 0, 0 + a, 0, 1⟩))) (hc_13 : ABlk.elem? (.made lh 1 true) 0 (0 + a) = some (.int .i64 hv)) (hc_14 : aindexAddr env.D 32 (.slice (some ⟨15, 0, 0, 0, 1⟩) n n) (.int .i64 na) = some (.ptr (some ⟨15, 0, 0 + a, 0, 1⟩))) (hc_15 : 0 = 0 ∧ lh[0 + a]? = some (.int .i64 hv)) (hc_16 : -9223372036854775808 ≤ (i : Int) + 1 ∧ (i : Int) + (1 : Int) ≤ 9223372036854775807) :
    Runs Try.prog 2 182 (loopAt Try.prog 18 1) [(0, .slice (some ⟨11, 0, 0, 0, 5⟩) n n), (2, .int .i64 ext), (3, .int .i64 g), (9, .slice (some ⟨15, 0, 0, 0, 1⟩) n n), (12, .slice none 0 0), (61, .slice on k ck), (62, .int .i64 k), (63, .int .i64 i)] (AHeap.rows 50 [(0, b0), (1, bn), (11, ri), (15, .made lh 1 true)]) .normal [(0, .slice (some ⟨11, 0, 0, 0, 5⟩) n n), (2, .int .i64 ext), (3, .int .i64 g), (9, .slice (some ⟨15, 0, 0, 0, 1⟩) n n), (12, .slice none 0 0), (61, .slice on k ck), (62, .int .i64 (k : Int)), (63, .int .i64 ((i : Int) + 1))] (AHeap.rows 110 [(0, b0), (1, bn), (11, ri), (15, (.made (List.set lh (0 + a) (.int .i64 (if sideZ nc > hv then sideZ nc else hv))) 1 true)), (53, (.made ([.agg [.int .i64 na, .int .i64 (if (n : Int) - na < nb then (n : Int) - na else nb), .int .i64 (sideZ nc)]]) 3 true))]) :=
  ppath_runs env_ok mixed (hs := [.val 18000 (.bool true), .val 19000 (.ptr (some ⟨1, vn, offn + i, 0, 3⟩)), .ld 19001 (.agg [.int .i64 na, .int .i64 nb, .int .i64 nc]), .val 20002 (.bool false), .val 20008 (.bool false), .val 20013 (.bool false), .go 21006, .val 22002 (.int .i64 (sideZ nc)), .val 23002 (.bool false), .val 25003 (.ptr (some ⟨11, 0, 0 + a, 0, 5⟩)), .ld 25005 (.agg [.int .i8 0, .int .i64 tn, .int .i64 td, .int .i64 tm, .int .i64 tx]), .val 25006 (.bool true), .val 26006 (.ptr (some ⟨15, 0, 0 + a, 0, 1⟩)), .ld 26007 (.int .i64 hv), .val 26011 (.ptr (some ⟨15, 0, 0 + a, 0, 1⟩)), .st 26012 (.int .i64 hv), .go 27000]) (keep := [0, 2, 3, 9, 12, 61, 62, 63]) (by kernel_rfl) (All.cons (okT hc_0) (All.cons hc_1 (All.cons hc_2 (All.cons (okF hc_3) (All.cons (okF hc_4) (All.cons (okF hc_5) (All.cons hc_6 (All.cons (CallT.mk hc_7) (All.cons (okF hc_8) (All.cons hc_9 (All.cons hc_10 (All.cons (show some (AVal.bool true) = some (AVal.bool true) from congrArg (fun q => some (AVal.bool q)) (rfl)) (All.cons hc_12 (All.cons hc_13 (All.cons hc_14 (All.cons hc_15 (All.cons hc_16 (All.nil))))))))))))))))))

theorem tk_n1N (on : Option AAddr) (n k ck vn offn i q vv a : Nat) (b0 bn ri rw rw2 : ABlk) (lh : List AVal) (ext g na nb nc tn td tm tx hv : Int) (hc_0 : (i : Int) < (k : Int)) (hc_1 : aindexAddr env.D 31 (.slice on k ck) (.int .i64 (i : Int)) = some (.ptr (some ⟨1, vn, offn + i, 0, 3⟩))) (hc_2 : ABlk.elem? bn vn (offn + i) = some (.agg [.int .i64 na, .int .i64 nb, .int .i64 nc])) (hc_3 : ¬ (na < 0)) (hc_4 : ¬ (na ≥ (n : Int))) (hc_5 : ¬ (nb < 1)) (hc_6 : -9223372036854775808 ≤ (n : Int) - na ∧ (n : Int) - na ≤ 9223372036854775807) (hc_7 : FDoes Try.prog 30 [.int .i64 nc, .int .i64 0, .int .i64 4096] (AHeap.rows 85 [(0, b0), (1, bn), (11, ri), (15, .made lh 1 true), (53, (.made ([.agg [.int .i64 na, .int .i64 (if (n : Int) - na < nb then (n : Int) - na else nb), .int .i64 nc]]) 3 true))]) (.int .i64 (sideZ nc)) (AHeap.rows 85 [(0, b0), (1, bn), (11, ri), (15, .made lh 1 true), (53, (.made ([.agg [.int .i64 na, .int .i64 (if (n : Int) - na < nb then (n : Int) - na else nb), .int .i64 nc]]) 3 true))])) (hc_8 : ¬ ((if (n : Int) - na < nb then (n : Int) - na else nb) > 1)) (hc_9 : aindexAddr env.D 30 (.slice (some ⟨11, 0, 0, 0, 5⟩) n n) (.int .i64 na) = some (.ptr (some ⟨11, 0, 0 + a, 0, 5⟩))) (hc_10 : ABlk.elem? ri 0 (0 + a) = some (.agg [.int .i8 (1), .int .i64 tn, .int .i64 td, .int .i64 tm, .int .i64 tx])) (hc_12 : -9223372036854775808 ≤ (i : Int) + 1 ∧ (i : Int) + (1 : Int) ≤ 9223372036854775807) :
    Runs Try.prog 2 182 (loopAt Try.prog 18 1) [(0, .slice (some ⟨11, 0, 0, 0, 5⟩) n n), (2, .int .i64 ext), (3, .int .i64 g), (9, .slice (some ⟨15, 0, 0, 0, 1⟩) n n), (12, .slice none 0 0), (61, .slice on k ck), (62, .int .i64 k), (63, .int .i64 i)] (AHeap.rows 50 [(0, b0), (1, bn), (11, ri), (15, .made lh 1 true)]) .normal [(0, .slice (some ⟨11, 0, 0, 0, 5⟩) n n), (2, .int .i64 ext), (3, .int .i64 g), (9, .slice (some ⟨15, 0, 0, 0, 1⟩) n n), (12, .slice none 0 0), (61, .slice on k ck), (62, .int .i64 (k : Int)), (63, .int .i64 ((i : Int) + 1))] (AHeap.rows 97 [(0, b0), (1, bn), (11, ri), (15, .made lh 1 true), (53, (.made ([.agg [.int .i64 na, .int .i64 (if (n : Int) - na < nb then (n : Int) - na else nb), .int .i64 (sideZ nc)]]) 3 true))]) :=
  ppath_runs env_ok mixed (hs := [.val 18000 (.bool true), .val 19000 (.ptr (some ⟨1, vn, offn + i, 0, 3⟩)), .ld 19001 (.agg [.int .i64 na, .int .i64 nb, .int .i64 nc]), .val 20002 (.bool false), .val 20008 (.bool false), .val 20013 (.bool false), .go 21006, .val 22002 (.int .i64 (sideZ nc)), .val 23002 (.bool false), .val 25003 (.ptr (some ⟨11, 0, 0 + a, 0, 5⟩)), .ld 25005 (.agg [.int .i8 1, .int .i64 tn, .int .i64 td, .int .i64 tm, .int .i64 tx]), .val 25006 (.bool false), .go 27000]) (keep := [0, 2, 3, 9, 12, 61, 62, 63]) (by kernel_rfl) (All.cons (okT hc_0) (All.cons hc_1 (All.cons hc_2 (All.cons (okF hc_3) (All.cons (okF hc_4) (All.cons (okF hc_5) (All.cons hc_6 (All.cons (CallT.mk hc_7) (All.cons (okF hc_8) (All.cons hc_9 (All.cons hc_10 (All.cons (show some (AVal.bool false) = some (AVal.bool false) from congrArg (fun q => some (AVal.bool q)) (rfl)) (All.cons hc_12 (All.nil))))))))))))))

theorem tk_e1N (on : Option AAddr) (n k ck vn offn i q vv a : Nat) (b0 bn ri rw rw2 : ABlk) (lh : List AVal) (ext g na nb nc tn td tm tx hv : Int) (hc_0 : ¬ ((i : Int) < (k : Int))) :
    Runs Try.prog 2 182 (loopAt Try.prog 18 1) [(0, .slice (some ⟨11, 0, 0, 0, 5⟩) n n), (2, .int .i64 ext), (3, .int .i64 g), (9, .slice (some ⟨15, 0, 0, 0, 1⟩) n n), (12, .slice none 0 0), (61, .slice on k ck), (62, .int .i64 k), (63, .int .i64 i)] (AHeap.rows 50 [(0, b0), (1, bn), (11, ri), (15, .made lh 1 true)]) (.exit 3) [(0, .slice (some ⟨11, 0, 0, 0, 5⟩) n n), (2, .int .i64 ext), (3, .int .i64 g), (9, .slice (some ⟨15, 0, 0, 0, 1⟩) n n), (12, .slice none 0 0)] (AHeap.rows 51 [(0, b0), (1, bn), (11, ri), (15, .made lh 1 true)]) :=
  ppath_runs env_ok mixed (hs := [.val 18000 (.bool false)]) (keep := [0, 2, 3, 9, 12]) (by kernel_rfl) (All.cons (okF hc_0) (All.nil))

theorem tk_s1G (on : Option AAddr) (n k ck vn offn i q vv a : Nat) (b0 bn ri rw rw2 : ABlk) (lh : List AVal) (ext g na nb nc tn td tm tx hv : Int) (hc_0 : (i : Int) < (k : Int)) (hc_1 : aindexAddr env.D 31 (.slice on k ck) (.int .i64 (i : Int)) = some (.ptr (some ⟨1, vn, offn + i, 0, 3⟩))) (hc_2 : ABlk.elem? bn vn (offn + i) = some (.agg [.int .i64 na, .int .i64 nb, .int .i64 nc])) (hc_3 : na < 0) (hc_4 : -9223372036854775808 ≤ (i : Int) + 1 ∧ (i : Int) + (1 : Int) ≤ 9223372036854775807) :
    Runs Try.prog 2 182 (loopAt Try.prog 18 1) [(0, .slice (some ⟨11, 0, 0, 0, 5⟩) n n), (2, .int .i64 ext), (3, .int .i64 g), (9, .slice (some ⟨15, 0, 0, 0, 1⟩) n n), (12, .slice (some ⟨91, vv, 0, 0, 3⟩) q q), (61, .slice on k ck), (62, .int .i64 k), (63, .int .i64 i)] (AHeap.rows 100 [(0, b0), (1, bn), (11, ri), (15, .made lh 1 true), (91, rw)]) .normal [(0, .slice (some ⟨11, 0, 0, 0, 5⟩) n n), (2, .int .i64 ext), (3, .int .i64 g), (9, .slice (some ⟨15, 0, 0, 0, 1⟩) n n), (12, .slice (some ⟨91, vv, 0, 0, 3⟩) q q), (61, .slice on k ck), (62, .int .i64 (k : Int)), (63, .int .i64 ((i : Int) + 1))] (AHeap.rows 122 [(0, b0), (1, bn), (11, ri), (15, .made lh 1 true), (91, rw), (103, (.made ([.agg [.int .i64 na, .int .i64 nb, .int .i64 nc]]) 3 true))]) :=
  ppath_runs env_ok mixed (hs := [.val 18000 (.bool true), .val 19000 (.ptr (some ⟨1, vn, offn + i, 0, 3⟩)), .ld 19001 (.agg [.int .i64 na, .int .i64 nb, .int .i64 nc]), .val 20002 (.bool true), .go 27000]) (keep := [0, 2, 3, 9, 12, 61, 62, 63]) (by kernel_rfl) (All.cons (okT hc_0) (All.cons hc_1 (All.cons hc_2 (All.cons (okT hc_3) (All.cons hc_4 (All.nil))))))

theorem tk_s2G (on : Option AAddr) (n k ck vn offn i q vv a : Nat) (b0 bn ri rw rw2 : ABlk) (lh : List AVal) (ext g na nb nc tn td tm tx hv : Int) (hc_0 : (i : Int) < (k : Int)) (hc_1 : aindexAddr env.D 31 (.slice on k ck) (.int .i64 (i : Int)) = some (.ptr (some ⟨1, vn, offn + i, 0, 3⟩))) (hc_2 : ABlk.elem? bn vn (offn + i) = some (.agg [.int .i64 na, .int .i64 nb, .int .i64 nc])) (hc_3 : ¬ (na < 0)) (hc_4 : na ≥ (n : Int)) (hc_5 : -9223372036854775808 ≤ (i : Int) + 1 ∧ (i : Int) + (1 : Int) ≤ 9223372036854775807) :
    Runs Try.prog 2 182 (loopAt Try.prog 18 1) [(0, .slice (some ⟨11, 0, 0, 0, 5⟩) n n), (2, .int .i64 ext), (3, .int .i64 g), (9, .slice (some ⟨15, 0, 0, 0, 1⟩) n n), (12, .slice (some ⟨91, vv, 0, 0, 3⟩) q q), (61, .slice on k ck), (62, .int .i64 k), (63, .int .i64 i)] (AHeap.rows 100 [(0, b0), (1, bn), (11, ri), (15, .made lh 1 true), (91, rw)]) .normal [(0, .slice (some ⟨11, 0, 0, 0, 5⟩) n n), (2, .int .i64 ext), (3, .int .i64 g), (9, .slice (some ⟨15, 0, 0, 0, 1⟩) n n), (12, .slice (some ⟨91, vv, 0, 0, 3⟩) q q), (61, .slice on k ck), (62, .int .i64 (k : Int)), (63, .int .i64 ((i : Int) + 1))] (AHeap.rows 122 [(0, b0), (1, bn), (11, ri), (15, .made lh 1 true), (91, rw), (103, (.made ([.agg [.int .i64 na, .int .i64 nb, .int .i64 nc]]) 3 true))]) :=
  ppath_runs env_ok mixed (hs := [.val 18000 (.bool true), .val 19000 (.ptr (some ⟨1, vn, offn + i, 0, 3⟩)), .ld 19001 (.agg [.int .i64 na, .int .i64 nb, .int .i64 nc]), .val 20002 (.bool false), .val 20008 (.bool true), .go 27000]) (keep := [0, 2, 3, 9, 12, 61, 62, 63]) (by kernel_rfl) (All.cons (okT hc_0) (All.cons hc_1 (All.cons hc_2 (All.cons (okF hc_3) (All.cons (okT hc_4) (All.cons hc_5 (All.nil)))))))

theorem tk_s3G (on : Option AAddr) (n k ck vn offn i q vv a : Nat) (b0 bn ri rw rw2 : ABlk) (lh : List AVal) (ext g na nb nc tn td tm tx hv : Int) (hc_0 : (i : Int) < (k : Int)) (hc_1 : aindexAddr env.D 31 (.slice on k ck) (.int .i64 (i : Int)) = some (.ptr (some ⟨1, vn, offn + i, 0, 3⟩))) (hc_2 : ABlk.elem? bn vn (offn + i) = some (.agg [.int .i64 na, .int .i64 nb, .int .i64 nc])) (hc_3 : ¬ (na < 0)) (hc_4 : ¬ (na ≥ (n : Int))) (hc_5 : nb < 1) (hc_6 : -9223372036854775808 ≤ (i : Int) + 1 ∧ (i : Int) + (1 : Int) ≤ 9223372036854775807) :
    Runs Try.prog 2 182 (loopAt Try.prog 18 1) [(0, .slice (some ⟨11, 0, 0, 0, 5⟩) n n), (2, .int .i64 ext), (3, .int .i64 g), (9, .slice (some ⟨15, 0, 0, 0, 1⟩) n n), (12, .slice (some ⟨91, vv, 0, 0, 3⟩) q q), (61, .slice on k ck), (62, .int .i64 k), (63, .int .i64 i)] (AHeap.rows 100 [(0, b0), (1, bn), (11, ri), (15, .made lh 1 true), (91, rw)]) .normal [(0, .slice (some ⟨11, 0, 0, 0, 5⟩) n n), (2, .int .i64 ext), (3, .int .i64 g), (9, .slice (some ⟨15, 0, 0, 0, 1⟩) n n), (12, .slice (some ⟨91, vv, 0, 0, 3⟩) q q), (61, .slice on k ck), (62, .int .i64 (k : Int)), (63, .int .i64 ((i : Int) + 1))] (AHeap.rows 122 [(0, b0), (1, bn), (11, ri), (15, .made lh 1 true), (91, rw), (103, (.made ([.agg [.int .i64 na, .int .i64 nb, .int .i64 nc]]) 3 true))]) :=
  ppath_runs env_ok mixed (hs := [.val 18000 (.bool true), .val 19000 (.ptr (some ⟨1, vn, offn + i, 0, 3⟩)), .ld 19001 (.agg [.int .i64 na, .int .i64 nb, .int .i64 nc]), .val 20002 (.bool false), .val 20008 (.bool false), .val 20013 (.bool true), .go 27000]) (keep := [0, 2, 3, 9, 12, 61, 62, 63]) (by kernel_rfl) (All.cons (okT hc_0) (All.cons hc_1 (All.cons hc_2 (All.cons (okF hc_3) (All.cons (okF hc_4) (All.cons (okT hc_5) (All.cons hc_6 (All.nil))))))))

theorem tk_wG (on : Option AAddr) (n k ck vn offn i q vv a : Nat) (b0 bn ri rw rw2 : ABlk) (lh : List AVal) (ext g na nb nc tn td tm tx hv : Int) (hc_0 : (i : Int) < (k : Int)) (hc_1 : aindexAddr env.D 31 (.slice on k ck) (.int .i64 (i : Int)) = some (.ptr (some ⟨1, vn, offn + i, 0, 3⟩))) (hc_2 : ABlk.elem? bn vn (offn + i) = some (.agg [.int .i64 na, .int .i64 nb, .int .i64 nc])) (hc_3 : ¬ (na < 0)) (hc_4 : ¬ (na ≥ (n : Int))) (hc_5 : ¬ (nb < 1)) (hc_6 : -9223372036854775808 ≤ (n : Int) - na ∧ (n : Int) - na ≤ 9223372036854775807) (hc_7 : FDoes Try.prog 30 [.int .i64 nc, .int .i64 0, .int .i64 4096] (AHeap.rows 135 [(0, b0), (1, bn), (11, ri), (15, .made lh 1 true), (91, rw), (103, (.made ([.agg [.int .i64 na, .int .i64 (if (n : Int) - na < nb then (n : Int) - na else nb), .int .i64 nc]]) 3 true))]) (.int .i64 (sideZ nc)) (AHeap.rows 135 [(0, b0), (1, bn), (11, ri), (15, .made lh 1 true), (91, rw), (103, (.made ([.agg [.int .i64 na, .int .i64 (if (n : Int) - na < nb then (n : Int) - na else nb), .int .i64 nc]]) 3 true))])) (hc_8 : (if (n : Int) - na < nb then (n : Int) - na else nb) > 1) (hc_9 : abuiltin env Builtin.append { toList := [31, 31] } [.slice (some ⟨91, vv, 0, 0, 3⟩) q q, .slice (some ⟨140, 0, 0, 0, 3⟩) 1 1] 141 (AHeap.set (AHeap.rows 143 [(0, b0), (1, bn), (11, ri), (15, .made lh 1 true), (91, rw), (103, (.made ([.agg [.int .i64 na, .int .i64 (if (n : Int) - na < nb then (n : Int) - na else nb), .int .i64 (sideZ nc)]]) 3 true))]) 140 (.made [.agg [.int .i64 na, .int .i64 (if (n : Int) - na < nb then (n : Int) - na else nb), .int .i64 (sideZ nc)]] 3 true)) = some (.slice (some ⟨91, vv + 1, 0, 0, 3⟩) (q + 1) (q + 1), (AHeap.rows 143 [(0, b0), (1, bn), (11, ri), (15, .made lh 1 true), (91, rw2), (103, (.made ([.agg [.int .i64 na, .int .i64 (if (n : Int) - na < nb then (n : Int) - na else nb), .int .i64 (sideZ nc)]]) 3 true)), (140, .made [.agg [.int .i64 na, .int .i64 (if (n : Int) - na < nb then (n : Int) - na else nb), .int .i64 (sideZ nc)]] 3 true)]))) (hc_10 : -9223372036854775808 ≤ (i : Int) + 1 ∧ (i : Int) + (1 : Int) ≤ 9223372036854775807) :
    Runs Try.prog 2 182 (loopAt Try.prog 18 1) [(0, .slice (some ⟨11, 0, 0, 0, 5⟩) n n), (2, .int .i64 ext), (3, .int .i64 g), (9, .slice (some ⟨15, 0, 0, 0, 1⟩) n n), (12, .slice (some ⟨91, vv, 0, 0, 3⟩) q q), (61, .slice on k ck), (62, .int .i64 k), (63, .int .i64 i)] (AHeap.rows 100 [(0, b0), (1, bn), (11, ri), (15, .made lh 1 true), (91, rw)]) .normal [(0, .slice (some ⟨11, 0, 0, 0, 5⟩) n n), (2, .int .i64 ext), (3, .int .i64 g), (9, .slice (some ⟨15, 0, 0, 0, 1⟩) n n), (12, .slice (some ⟨91, vv + 1, 0, 0, 3⟩) (q + 1) (q + 1)), (61, .slice on k ck), (62, .int .i64 (k : Int)), (63, .int .i64 ((i : Int) + 1))] (AHeap.rows 145 [(0, b0), (1, bn), (11, ri), (15, .made lh 1 true), (91, rw2), (103, (.made ([.agg [.int .i64 na, .int .i64 (if (n : Int) - na < nb then (n : Int) - na else nb), .int .i64 (sideZ nc)]]) 3 true)), (140, .made [.agg [.int .i64 na, .int .i64 (if (n : Int) - na < nb then (n : Int) - na else nb), .int .i64 (sideZ nc)]] 3 true)]) :=
  ppath_runs env_ok mixed (hs := [.val 18000 (.bool true), .val 19000 (.ptr (some ⟨1, vn, offn + i, 0, 3⟩)), .ld 19001 (.agg [.int .i64 na, .int .i64 nb, .int .i64 nc]), .val 20002 (.bool false), .val 20008 (.bool false), .val 20013 (.bool false), .go 21006, .val 22002 (.int .i64 (sideZ nc)), .val 23002 (.bool true), .act 24003 (.slice (some ⟨91, vv + 1, 0, 0, 3⟩) (q + 1) (q + 1)) (fun h => h.set 91 rw2), .go 27000]) (keep := [0, 2, 3, 9, 12, 61, 62, 63]) (by kernel_rfl) (All.cons (okT hc_0) (All.cons hc_1 (All.cons hc_2 (All.cons (okF hc_3) (All.cons (okF hc_4) (All.cons (okF hc_5) (All.cons hc_6 (All.cons (CallT.mk hc_7) (All.cons (okT hc_8) (All.cons hc_9 (All.cons hc_10 (All.nil))))))))))))

theorem tk_n0G (on : Option AAddr) (n k ck vn offn i q vv a : Nat) (b0 bn ri rw rw2 : ABlk) (lh : List AVal) (ext g na nb nc tn td tm tx hv : Int) (hc_0 : (i : Int) < (k : Int)) (hc_1 : aindexAddr env.D 31 (.slice on k ck) (.int .i64 (i : Int)) = some (.ptr (some ⟨1, vn, offn + i, 0, 3⟩))) (hc_2 : ABlk.elem? bn vn (offn + i) = some (.agg [.int .i64 na, .int .i64 nb, .int .i64 nc])) (hc_3 : ¬ (na < 0)) (hc_4 : ¬ (na ≥ (n : Int))) (hc_5 : ¬ (nb < 1)) (hc_6 : -9223372036854775808 ≤ (n : Int) - na ∧ (n : Int) - na ≤ 9223372036854775807) (hc_7 : FDoes Try.prog 30 [.int .i64 nc, .int .i64 0, .int .i64 4096] (AHeap.rows 135 [(0, b0), (1, bn), (11, ri), (15, .made lh 1 true), (91, rw), (103, (.made ([.agg [.int .i64 na, .int .i64 (if (n : Int) - na < nb then (n : Int) - na else nb), .int .i64 nc]]) 3 true))]) (.int .i64 (sideZ nc)) (AHeap.rows 135 [(0, b0), (1, bn), (11, ri), (15, .made lh 1 true), (91, rw), (103, (.made ([.agg [.int .i64 na, .int .i64 (if (n : Int) - na < nb then (n : Int) - na else nb), .int .i64 nc]]) 3 true))])) (hc_8 : ¬ ((if (n : Int) - na < nb then (n : Int) - na else nb) > 1)) (hc_9 : aindexAddr env.D 30 (.slice (some ⟨11, 0, 0, 0, 5⟩) n n) (.int .i64 na) = some (.ptr (some ⟨11, 0, 0 + a, 0, 5⟩))) (hc_10 : ABlk.elem? ri 0 (0 + a) = some (.agg [.int .i8 (0), .int .i64 tn, .int .i64 td, .int .i64 tm, .int .i64 tx])) (hc_12 : aindexAddr env.D 32 (.slice (some ⟨15, 0, 0, 0, 1⟩) n n) (.int .i64 na) = some (.ptr (some ⟨15, 0, 0 + a, 0, 1⟩))) (hc_13 : ABlk.elem? (.made lh 1 true) 0 (0 + a) = some (.int .i64 hv)) (hc_14 : aindexAddr env.D 32 (.slice (some ⟨15, 0, 0, 0, 1⟩) n n) (.int .i64 na) = some (.ptr (some ⟨15, 0, 0 + a, 0, 1⟩))) (hc_15 : 0 = 0 ∧ lh[0 + a]? = some (.int .i64 hv)) (hc_16 : -9223372036854775808 ≤ (i : Int) + 1 ∧ (i : Int) + (1 : Int) ≤ 9223372036854775807) :
    Runs Try.prog 2 182 (loopAt Try.prog 18 1) [(0, .slice (some ⟨11, 0, 0, 0, 5⟩) n n), (2, .int .i64 ext), (3, .int .i64 g), (9, .slice (some ⟨15, 0, 0, 0, 1⟩) n n), (12, .slice (some ⟨91, vv, 0, 0, 3⟩) q q), (61, .slice on k ck), (62, .int .i64 k), (63, .int .i64 i)] (AHeap.rows 100 [(0, b0), (1, bn), (11, ri), (15, .made lh 1 true), (91, rw)]) .normal [(0, .slice (some ⟨11, 0, 0, 0, 5⟩) n n), (2, .int .i64 ext), (3, .int .i64 g), (9, .slice (some ⟨15, 0, 0, 0, 1⟩) n n), (12, .slice (some ⟨91, vv, 0, 0, 3⟩) q q), (61, .slice on k ck), (62, .int .i64 (k : Int)), (63, .int .i64 ((i : Int) + 1))] (AHeap.rows 160 [(0, b0), (1, bn), (11, ri), (15, (.made (List.set lh (0 + a) (.int .i64 (if sideZ nc > hv then sideZ nc else hv))) 1 true)), (91, rw), (103, (.made ([.agg [.int .i64 na, .int .i64 (if (n : Int) - na < nb then (n : Int) - na else nb), .int .i64 (sideZ nc)]]) 3 true))]) :=
  ppath_runs env_ok mixed (hs := [.val 18000 (.bool true), .val 19000 (.ptr (some ⟨1, vn, offn + i, 0, 3⟩)), .ld 19001 (.agg [.int .i64 na, .int .i64 nb, .int .i64 nc]), .val 20002 (.bool false), .val 20008 (.bool false), .val 20013 (.bool false), .go 21006, .val 22002 (.int .i64 (sideZ nc)), .val 23002 (.bool false), .val 25003 (.ptr (some ⟨11, 0, 0 + a, 0, 5⟩)), .ld 25005 (.agg [.int .i8 0, .int .i64 tn, .int .i64 td, .int .i64 tm, .int .i64 tx]), .val 25006 (.bool true), .val 26006 (.ptr (some ⟨15, 0, 0 + a, 0, 1⟩)), .ld 26007 (.int .i64 hv), .val 26011 (.ptr (some ⟨15, 0, 0 + a, 0, 1⟩)), .st 26012 (.int .i64 hv), .go 27000]) (keep := [0, 2, 3, 9, 12, 61, 62, 63]) (by kernel_rfl) (All.cons (okT hc_0) (All.cons hc_1 (All.cons hc_2 (All.cons (okF hc_3) (All.cons (okF hc_4) (All.cons (okF hc_5) (All.cons hc_6 (All.cons (CallT.mk hc_7) (All.cons (okF hc_8) (All.cons hc_9 (All.cons hc_10 (All.cons (show some (AVal.bool true) = some (AVal.bool true) from congrArg (fun q => some (AVal.bool q)) (rfl)) (All.cons hc_12 (All.cons hc_13 (All.cons hc_14 (All.cons hc_15 (All.cons hc_16 (All.nil))))))))))))))))))

theorem tk_n1G (on : Option AAddr) (n k ck vn offn i q vv a : Nat) (b0 bn ri rw rw2 : ABlk) (lh : List AVal) (ext g na nb nc tn td tm tx hv : Int) (hc_0 : (i : Int) < (k : Int)) (hc_1 : aindexAddr env.D 31 (.slice on k ck) (.int .i64 (i : Int)) = some (.ptr (some ⟨1, vn, offn + i, 0, 3⟩))) (hc_2 : ABlk.elem? bn vn (offn + i) = some (.agg [.int .i64 na, .int .i64 nb, .int .i64 nc])) (hc_3 : ¬ (na < 0)) (hc_4 : ¬ (na ≥ (n : Int))) (hc_5 : ¬ (nb < 1)) (hc_6 : -9223372036854775808 ≤ (n : Int) - na ∧ (n : Int) - na ≤ 9223372036854775807) (hc_7 : FDoes Try.prog 30 [.int .i64 nc, .int .i64 0, .int .i64 4096] (AHeap.rows 135 [(0, b0), (1, bn), (11, ri), (15, .made lh 1 true), (91, rw), (103, (.made ([.agg [.int .i64 na, .int .i64 (if (n : Int) - na < nb then (n : Int) - na else nb), .int .i64 nc]]) 3 true))]) (.int .i64 (sideZ nc)) (AHeap.rows 135 [(0, b0), (1, bn), (11, ri), (15, .made lh 1 true), (91, rw), (103, (.made ([.agg [.int .i64 na, .int .i64 (if (n : Int) - na < nb then (n : Int) - na else nb), .int .i64 nc]]) 3 true))])) (hc_8 : ¬ ((if (n : Int) - na < nb then (n : Int) - na else nb) > 1)) (hc_9 : aindexAddr env.D 30 (.slice (some ⟨11, 0, 0, 0, 5⟩) n n) (.int .i64 na) = some (.ptr (some ⟨11, 0, 0 + a, 0, 5⟩))) (hc_10 : ABlk.elem? ri 0 (0 + a) = some (.agg [.int .i8 (1), .int .i64 tn, .int .i64 td, .int .i64 tm, .int .i64 tx])) (hc_12 : -9223372036854775808 ≤ (i : Int) + 1 ∧ (i : Int) + (1 : Int) ≤ 9223372036854775807) :
    Runs Try.prog 2 182 (loopAt Try.prog 18 1) [(0, .slice (some ⟨11, 0, 0, 0, 5⟩) n n), (2, .int .i64 ext), (3, .int .i64 g), (9, .slice (some ⟨15, 0, 0, 0, 1⟩) n n), (12, .slice (some ⟨91, vv, 0, 0, 3⟩) q q), (61, .slice on k ck), (62, .int .i64 k), (63, .int .i64 i)] (AHeap.rows 100 [(0, b0), (1, bn), (11, ri), (15, .made lh 1 true), (91, rw)]) .normal [(0, .slice (some ⟨11, 0, 0, 0, 5⟩) n n), (2, .int .i64 ext), (3, .int .i64 g), (9, .slice (some ⟨15, 0, 0, 0, 1⟩) n n), (12, .slice (some ⟨91, vv, 0, 0, 3⟩) q q), (61, .slice on k ck), (62, .int .i64 (k : Int)), (63, .int .i64 ((i : Int) + 1))] (AHeap.rows 147 [(0, b0), (1, bn), (11, ri), (15, .made lh 1 true), (91, rw), (103, (.made ([.agg [.int .i64 na, .int .i64 (if (n : Int) - na < nb then (n : Int) - na else nb), .int .i64 (sideZ nc)]]) 3 true))]) :=
  ppath_runs env_ok mixed (hs := [.val 18000 (.bool true), .val 19000 (.ptr (some ⟨1, vn, offn + i, 0, 3⟩)), .ld 19001 (.agg [.int .i64 na, .int .i64 nb, .int .i64 nc]), .val 20002 (.bool false), .val 20008 (.bool false), .val 20013 (.bool false), .go 21006, .val 22002 (.int .i64 (sideZ nc)), .val 23002 (.bool false), .val 25003 (.ptr (some ⟨11, 0, 0 + a, 0, 5⟩)), .ld 25005 (.agg [.int .i8 1, .int .i64 tn, .int .i64 td, .int .i64 tm, .int .i64 tx]), .val 25006 (.bool false), .go 27000]) (keep := [0, 2, 3, 9, 12, 61, 62, 63]) (by kernel_rfl) (All.cons (okT hc_0) (All.cons hc_1 (All.cons hc_2 (All.cons (okF hc_3) (All.cons (okF hc_4) (All.cons (okF hc_5) (All.cons hc_6 (All.cons (CallT.mk hc_7) (All.cons (okF hc_8) (All.cons hc_9 (All.cons hc_10 (All.cons (show some (AVal.bool false) = some (AVal.bool false) from congrArg (fun q => some (AVal.bool q)) (rfl)) (All.cons hc_12 (All.nil))))))))))))))

theorem tk_e1G (on : Option AAddr) (n k ck vn offn i q vv a : Nat) (b0 bn ri rw rw2 : ABlk) (lh : List AVal) (ext g na nb nc tn td tm tx hv : Int) (hc_0 : ¬ ((i : Int) < (k : Int))) :
    Runs Try.prog 2 182 (loopAt Try.prog 18 1) [(0, .slice (some ⟨11, 0, 0, 0, 5⟩) n n), (2, .int .i64 ext), (3, .int .i64 g), (9, .slice (some ⟨15, 0, 0, 0, 1⟩) n n), (12, .slice (some ⟨91, vv, 0, 0, 3⟩) q q), (61, .slice on k ck), (62, .int .i64 k), (63, .int .i64 i)] (AHeap.rows 100 [(0, b0), (1, bn), (11, ri), (15, .made lh 1 true), (91, rw)]) (.exit 3) [(0, .slice (some ⟨11, 0, 0, 0, 5⟩) n n), (2, .int .i64 ext), (3, .int .i64 g), (9, .slice (some ⟨15, 0, 0, 0, 1⟩) n n), (12, .slice (some ⟨91, vv, 0, 0, 3⟩) q q)] (AHeap.rows 101 [(0, b0), (1, bn), (11, ri), (15, .made lh 1 true), (91, rw)]) :=
  ppath_runs env_ok mixed (hs := [.val 18000 (.bool false)]) (keep := [0, 2, 3, 9, 12]) (by kernel_rfl) (All.cons (okF hc_0) (All.nil))

theorem tk_sp (n i q vv a m : Nat) (b0 bn ri rw : ABlk) (lh lh2 : List AVal) (ext g c : Int) (hc_0 : (i : Int) < (q : Int)) (hc_1 : aindexAddr env.D 31 (.slice (some ⟨91, vv, 0, 0, 3⟩) q q) (.int .i64 (i : Int)) = some (.ptr (some ⟨91, vv, 0 + i, 0, 3⟩))) (hc_2 : ABlk.elem? rw vv (0 + i) = some (.agg [.int .i64 (a : Int), .int .i64 (m : Int), .int .i64 c])) (hc_3 : -9223372036854775808 ≤ (a : Int) + (m : Int) ∧ (a : Int) + (m : Int) ≤ 9223372036854775807) (hc_4 : aslice env.D 30 (.slice (some ⟨11, 0, 0, 0, 5⟩) n n) (some (.int .i64 (a : Int))) (some (.int .i64 ((a : Int) + (m : Int)))) none = some (.slice (some ⟨11, 0, a, 0, 5⟩) m (n - a))) (hc_5 : -9223372036854775808 ≤ (a : Int) + (m : Int) ∧ (a : Int) + (m : Int) ≤ 9223372036854775807) (hc_6 : aslice env.D 32 (.slice (some ⟨15, 0, 0, 0, 1⟩) n n) (some (.int .i64 (a : Int))) (some (.int .i64 ((a : Int) + (m : Int)))) none = some (.slice (some ⟨15, 0, a, 0, 1⟩) m (n - a))) (hc_7 : FDoes Try.prog 44 [.slice (some ⟨11, 0, a, 0, 5⟩) m (n - a), .slice (some ⟨15, 0, a, 0, 1⟩) m (n - a), .int .i64 c, .int .i64 g] (AHeap.rows 147 [(0, b0), (1, bn), (11, ri), (15, .made lh 1 true), (91, rw), (123, (.made ([.agg [.int .i64 (a : Int), .int .i64 (m : Int), .int .i64 c]]) 3 true))]) (.tuple []) (AHeap.rows 147 [(0, b0), (1, bn), (11, ri), (15, .made lh2 1 true), (91, rw), (123, (.made ([.agg [.int .i64 (a : Int), .int .i64 (m : Int), .int .i64 c]]) 3 true))])) (hc_8 : -9223372036854775808 ≤ (i : Int) + 1 ∧ (i : Int) + (1 : Int) ≤ 9223372036854775807) :
    Runs Try.prog 2 182 (loopAt Try.prog 18 2) [(0, .slice (some ⟨11, 0, 0, 0, 5⟩) n n), (2, .int .i64 ext), (3, .int .i64 g), (9, .slice (some ⟨15, 0, 0, 0, 1⟩) n n), (124, .slice (some ⟨91, vv, 0, 0, 3⟩) q q), (125, .int .i64 q), (126, .int .i64 i)] (AHeap.rows 120 [(0, b0), (1, bn), (11, ri), (15, .made lh 1 true), (91, rw)]) .normal [(0, .slice (some ⟨11, 0, 0, 0, 5⟩) n n), (2, .int .i64 ext), (3, .int .i64 g), (9, .slice (some ⟨15, 0, 0, 0, 1⟩) n n), (124, .slice (some ⟨91, vv, 0, 0, 3⟩) q q), (125, .int .i64 (q : Int)), (126, .int .i64 ((i : Int) + 1))] (AHeap.rows 149 [(0, b0), (1, bn), (11, ri), (15, .made lh2 1 true), (91, rw), (123, (.made ([.agg [.int .i64 (a : Int), .int .i64 (m : Int), .int .i64 c]]) 3 true))]) :=
  ppath_runs env_ok mixed (hs := [.val 30000 (.bool true), .val 31000 (.ptr (some ⟨91, vv, 0 + i, 0, 3⟩)), .ld 31001 (.agg [.int .i64 a, .int .i64 m, .int .i64 c]), .go 32007, .val 32008 (.slice (some ⟨11, 0, a, 0, 5⟩) m (n - a)), .go 32016, .val 32017 (.slice (some ⟨15, 0, a, 0, 1⟩) m (n - a)), .act 32021 (.tuple []) (fun h => h.upd [11, 15] [ri, .made lh2 1 true]), .go 33000]) (keep := [0, 2, 3, 9, 124, 125, 126]) (by kernel_rfl) (All.cons (okT hc_0) (All.cons hc_1 (All.cons hc_2 (All.cons hc_3 (All.cons hc_4 (All.cons hc_5 (All.cons hc_6 (All.cons (CallT.mk hc_7) (All.cons hc_8 (All.nil))))))))))

theorem tk_se (n i q vv a m : Nat) (b0 bn ri rw : ABlk) (lh lh2 : List AVal) (ext g c : Int) (hc_0 : ¬ ((i : Int) < (q : Int))) :
    Runs Try.prog 2 182 (loopAt Try.prog 18 2) [(0, .slice (some ⟨11, 0, 0, 0, 5⟩) n n), (2, .int .i64 ext), (3, .int .i64 g), (9, .slice (some ⟨15, 0, 0, 0, 1⟩) n n), (124, .slice (some ⟨91, vv, 0, 0, 3⟩) q q), (125, .int .i64 q), (126, .int .i64 i)] (AHeap.rows 120 [(0, b0), (1, bn), (11, ri), (15, .made lh 1 true), (91, rw)]) (.exit 5) [(0, .slice (some ⟨11, 0, 0, 0, 5⟩) n n), (2, .int .i64 ext), (3, .int .i64 g), (9, .slice (some ⟨15, 0, 0, 0, 1⟩) n n)] (AHeap.rows 121 [(0, b0), (1, bn), (11, ri), (15, .made lh 1 true), (91, rw)]) :=
  ppath_runs env_ok mixed (hs := [.val 30000 (.bool false)]) (keep := [0, 2, 3, 9]) (by kernel_rfl) (All.cons (okF hc_0) (All.nil))

theorem tk_sN (n i q vv a m : Nat) (b0 bn ri rw : ABlk) (lh lh2 : List AVal) (ext g c : Int)  :
    Runs Try.prog 2 182 (loopAt Try.prog 18 2) [(0, .slice (some ⟨11, 0, 0, 0, 5⟩) n n), (2, .int .i64 ext), (3, .int .i64 g), (9, .slice (some ⟨15, 0, 0, 0, 1⟩) n n), (124, .slice none 0 0), (125, .int .i64 0), (126, .int .i64 0)] (AHeap.rows 120 [(0, b0), (1, bn), (11, ri), (15, .made lh 1 true)]) (.exit 5) [(0, .slice (some ⟨11, 0, 0, 0, 5⟩) n n), (2, .int .i64 ext), (3, .int .i64 g), (9, .slice (some ⟨15, 0, 0, 0, 1⟩) n n)] (AHeap.rows 121 [(0, b0), (1, bn), (11, ri), (15, .made lh 1 true)]) :=
  ppath_runs env_ok mixed (hs := []) (keep := [0, 2, 3, 9]) (by kernel_rfl) (All.nil)

theorem tk_f0 (n i : Nat) (b0 bn : ABlk) (li lh : List AVal) (ext g tn td tm tx hv : Int) (hc_0 : (i : Int) < (n : Int)) (hc_1 : aindexAddr env.D 30 (.slice (some ⟨11, 0, 0, 0, 5⟩) n n) (.int .i64 (i : Int)) = some (.ptr (some ⟨11, 0, 0 + i, 0, 5⟩))) (hc_2 : ABlk.elem? (.made li 5 false) 0 (0 + i) = some (.agg [.int .i8 (0), .int .i64 tn, .int .i64 td, .int .i64 tm, .int .i64 tx])) (hc_4 : aindexAddr env.D 32 (.slice (some ⟨15, 0, 0, 0, 1⟩) n n) (.int .i64 (i : Int)) = some (.ptr (some ⟨15, 0, 0 + i, 0, 1⟩))) (hc_5 : ABlk.elem? (.made lh 1 true) 0 (0 + i) = some (.int .i64 hv)) (hc_6 : aindexAddr env.D 30 (.slice (some ⟨11, 0, 0, 0, 5⟩) n n) (.int .i64 (i : Int)) = some (.ptr (some ⟨11, 0, 0 + i, 0, 5⟩))) (hc_7 : 0 = 0 ∧ li[0 + i]? = some (.agg [.int .i8 (0), .int .i64 tn, .int .i64 td, .int .i64 tm, .int .i64 tx])) (hc_8 : -9223372036854775808 ≤ (i : Int) + 1 ∧ (i : Int) + (1 : Int) ≤ 9223372036854775807) :
    Runs Try.prog 2 182 (loopAt Try.prog 18 3) [(0, .slice (some ⟨11, 0, 0, 0, 5⟩) n n), (2, .int .i64 ext), (3, .int .i64 g), (9, .slice (some ⟨15, 0, 0, 0, 1⟩) n n), (153, .slice (some ⟨11, 0, 0, 0, 5⟩) n n), (154, .int .i64 n), (155, .int .i64 i)] (AHeap.rows 40 [(0, b0), (1, bn), (11, .made li 5 false), (15, .made lh 1 true)]) .normal [(0, .slice (some ⟨11, 0, 0, 0, 5⟩) n n), (2, .int .i64 ext), (3, .int .i64 g), (9, .slice (some ⟨15, 0, 0, 0, 1⟩) n n), (153, .slice (some ⟨11, 0, 0, 0, 5⟩) n n), (154, .int .i64 (n : Int)), (155, .int .i64 ((i : Int) + 1))] (AHeap.rows 66 [(0, b0), (1, bn), (11, (.made (List.set li (0 + i) (.agg [.int .i8 (1), .int .i64 (if 4096 < hv then 4096 else hv), .int .i64 0, .int .i64 tm, .int .i64 tx])) 5 false)), (15, .made lh 1 true), (44, (.made ([.agg [.int .i8 (0), .int .i64 tn, .int .i64 td, .int .i64 tm, .int .i64 tx]]) 5 true))]) :=
  ppath_runs env_ok mixed (hs := [.val 35000 (.bool true), .val 36001 (.ptr (some ⟨11, 0, 0 + i, 0, 5⟩)), .ld 36002 (.agg [.int .i8 0, .int .i64 tn, .int .i64 td, .int .i64 tm, .int .i64 tx]), .val 37002 (.bool true), .val 38004 (.ptr (some ⟨15, 0, 0 + i, 0, 1⟩)), .ld 38005 (.int .i64 hv), .val 38012 (.ptr (some ⟨11, 0, 0 + i, 0, 5⟩)), .st 38013 (.agg [.int .i8 0, .int .i64 tn, .int .i64 td, .int .i64 tm, .int .i64 tx]), .go 39000]) (keep := [0, 2, 3, 9, 153, 154, 155]) (by kernel_rfl) (All.cons (okT hc_0) (All.cons hc_1 (All.cons hc_2 (All.cons (show some (AVal.bool true) = some (AVal.bool true) from congrArg (fun q => some (AVal.bool q)) (rfl)) (All.cons hc_4 (All.cons hc_5 (All.cons hc_6 (All.cons hc_7 (All.cons hc_8 (All.nil))))))))))

theorem tk_f1 (n i : Nat) (b0 bn : ABlk) (li lh : List AVal) (ext g tn td tm tx hv : Int) (hc_0 : (i : Int) < (n : Int)) (hc_1 : aindexAddr env.D 30 (.slice (some ⟨11, 0, 0, 0, 5⟩) n n) (.int .i64 (i : Int)) = some (.ptr (some ⟨11, 0, 0 + i, 0, 5⟩))) (hc_2 : ABlk.elem? (.made li 5 false) 0 (0 + i) = some (.agg [.int .i8 (1), .int .i64 tn, .int .i64 td, .int .i64 tm, .int .i64 tx])) (hc_4 : -9223372036854775808 ≤ (i : Int) + 1 ∧ (i : Int) + (1 : Int) ≤ 9223372036854775807) :
    Runs Try.prog 2 182 (loopAt Try.prog 18 3) [(0, .slice (some ⟨11, 0, 0, 0, 5⟩) n n), (2, .int .i64 ext), (3, .int .i64 g), (9, .slice (some ⟨15, 0, 0, 0, 1⟩) n n), (153, .slice (some ⟨11, 0, 0, 0, 5⟩) n n), (154, .int .i64 n), (155, .int .i64 i)] (AHeap.rows 40 [(0, b0), (1, bn), (11, .made li 5 false), (15, .made lh 1 true)]) .normal [(0, .slice (some ⟨11, 0, 0, 0, 5⟩) n n), (2, .int .i64 ext), (3, .int .i64 g), (9, .slice (some ⟨15, 0, 0, 0, 1⟩) n n), (153, .slice (some ⟨11, 0, 0, 0, 5⟩) n n), (154, .int .i64 (n : Int)), (155, .int .i64 ((i : Int) + 1))] (AHeap.rows 52 [(0, b0), (1, bn), (11, .made li 5 false), (15, .made lh 1 true), (44, (.made ([.agg [.int .i8 (1), .int .i64 tn, .int .i64 td, .int .i64 tm, .int .i64 tx]]) 5 true))]) :=
  ppath_runs env_ok mixed (hs := [.val 35000 (.bool true), .val 36001 (.ptr (some ⟨11, 0, 0 + i, 0, 5⟩)), .ld 36002 (.agg [.int .i8 1, .int .i64 tn, .int .i64 td, .int .i64 tm, .int .i64 tx]), .val 37002 (.bool false), .go 39000]) (keep := [0, 2, 3, 9, 153, 154, 155]) (by kernel_rfl) (All.cons (okT hc_0) (All.cons hc_1 (All.cons hc_2 (All.cons (show some (AVal.bool false) = some (AVal.bool false) from congrArg (fun q => some (AVal.bool q)) (rfl)) (All.cons hc_4 (All.nil))))))

theorem tk_fe (n i : Nat) (b0 bn : ABlk) (li lh : List AVal) (ext g tn td tm tx hv : Int) (hc_0 : ¬ ((i : Int) < (n : Int))) :
    Runs Try.prog 2 182 (loopAt Try.prog 18 3) [(0, .slice (some ⟨11, 0, 0, 0, 5⟩) n n), (2, .int .i64 ext), (3, .int .i64 g), (9, .slice (some ⟨15, 0, 0, 0, 1⟩) n n), (153, .slice (some ⟨11, 0, 0, 0, 5⟩) n n), (154, .int .i64 n), (155, .int .i64 i)] (AHeap.rows 40 [(0, b0), (1, bn), (11, .made li 5 false), (15, .made lh 1 true)]) (.exit 7) [(0, .slice (some ⟨11, 0, 0, 0, 5⟩) n n), (2, .int .i64 ext), (3, .int .i64 g)] (AHeap.rows 41 [(0, b0), (1, bn), (11, .made li 5 false), (15, .made lh 1 true)]) :=
  ppath_runs env_ok mixed (hs := [.val 35000 (.bool false)]) (keep := [0, 2, 3]) (by kernel_rfl) (All.cons (okF hc_0) (All.nil))

theorem tk_feZ (n i : Nat) (b0 bn ri : ABlk) (li lh : List AVal) (ext g tn td tm tx hv : Int) (hc_0 : ¬ ((i : Int) < (n : Int))) :
    Runs Try.prog 2 182 (loopAt Try.prog 18 3) [(0, .slice (some ⟨11, 0, 0, 0, 5⟩) n n), (2, .int .i64 ext), (3, .int .i64 g), (9, .slice (some ⟨15, 0, 0, 0, 1⟩) n n), (153, .slice (some ⟨11, 0, 0, 0, 5⟩) n n), (154, .int .i64 n), (155, .int .i64 i)] (AHeap.rows 40 [(0, b0), (1, bn), (11, ri), (15, .made lh 1 true)]) (.exit 7) [(0, .slice (some ⟨11, 0, 0, 0, 5⟩) n n), (2, .int .i64 ext), (3, .int .i64 g)] (AHeap.rows 41 [(0, b0), (1, bn), (11, ri), (15, .made lh 1 true)]) :=
  ppath_runs env_ok mixed (hs := [.val 35000 (.bool false)]) (keep := [0, 2, 3]) (by kernel_rfl) (All.cons (okF hc_0) (All.nil))

theorem tk_callN (o on : Option AAddr) (n c k ck q vv : Nat) (b0 bn ri rw rw2 ro : ABlk) (l0 l1 l2 : List AVal) (l3 : List AVal) (oo : Option AAddr) (co : Nat) (ext gap : Int) (hc_0 : ¬ ((n : Int) > 4096)) (hc_1 : FDoes Try.prog 30 [.int .i64 gap, .int .i64 0, .int .i64 4096] (AHeap.rows 9 [(0, b0), (1, bn)]) (.int .i64 (sideZ gap)) (AHeap.rows 9 [(0, b0), (1, bn)])) (hc_2 : abuiltin env Builtin.append { toList := [30, 30] } [.slice (some ⟨9, 0, 0, 0, 5⟩) 0 0, .slice o n c] 11 (AHeap.set (AHeap.rows 13 [(0, b0), (1, bn)]) 9 (.made (List.replicate 0 (.agg [.int .i8 (0), .int .i64 0, .int .i64 0, .int .i64 0, .int .i64 0])) 5 true)) = some (.slice (some ⟨11, 0, 0, 0, 5⟩) n n, (AHeap.rows 13 [(0, b0), (1, bn), (9, .made (List.replicate 0 (.agg [.int .i8 (0), .int .i64 0, .int .i64 0, .int .i64 0, .int .i64 0])) 5 true), (11, ri)]))) (hc_3 : 0 ≤ (n : Int) ∧ (n : Int) ≤ (n : Int) ∧ (n : Int) < 4611686018427387904 ∧ (8 : Int) * (n : Int) ≤ 281474976710656) (hc_4 : Runs Try.prog 2 182 (.loop (loopAt Try.prog 18 0)) [(0, .slice (some ⟨11, 0, 0, 0, 5⟩) n n), (1, .slice on k ck), (2, .int .i64 ext), (3, .int .i64 (sideZ gap)), (9, .slice (some ⟨15, 0, 0, 0, 1⟩) n n), (30, .slice (some ⟨11, 0, 0, 0, 5⟩) n n), (31, .int .i64 (n : Int)), (32, .int .i64 0)] (AHeap.rows 20 [(0, b0), (1, bn), (9, .made (List.replicate 0 (.agg [.int .i8 (0), .int .i64 0, .int .i64 0, .int .i64 0, .int .i64 0])) 5 true), (11, ri), (15, .made (List.replicate n (.int .i64 0)) 1 true)]) (.exit 0) [(0, .slice (some ⟨11, 0, 0, 0, 5⟩) n n), (1, .slice on k ck), (2, .int .i64 ext), (3, .int .i64 (sideZ gap)), (9, .slice (some ⟨15, 0, 0, 0, 1⟩) n n)] (AHeap.rows 34 [(0, b0), (1, bn), (11, ri), (15, .made l0 1 true)])) (hc_5 : Runs Try.prog 2 182 (.loop (loopAt Try.prog 18 1)) [(0, .slice (some ⟨11, 0, 0, 0, 5⟩) n n), (2, .int .i64 ext), (3, .int .i64 (sideZ gap)), (9, .slice (some ⟨15, 0, 0, 0, 1⟩) n n), (12, .slice none 0 0), (61, .slice on k ck), (62, .int .i64 (k : Int)), (63, .int .i64 0)] (AHeap.rows 38 [(0, b0), (1, bn), (11, ri), (15, .made l0 1 true)]) (.exit 3) [(0, .slice (some ⟨11, 0, 0, 0, 5⟩) n n), (2, .int .i64 ext), (3, .int .i64 (sideZ gap)), (9, .slice (some ⟨15, 0, 0, 0, 1⟩) n n), (12, .slice none 0 0)] (AHeap.rows 110 [(0, b0), (1, bn), (11, ri), (15, .made l1 1 true)])) (hc_6 : FDoes Try.prog 42 [.slice none 0 0, AVal.func (Fn.func 43) [] []] (AHeap.rows 112 [(0, b0), (1, bn), (11, ri), (15, .made l1 1 true)]) (.tuple []) (AHeap.rows 112 [(0, b0), (1, bn), (11, ri), (15, .made l1 1 true)])) (hc_7 : Runs Try.prog 2 182 (.loop (loopAt Try.prog 18 2)) [(0, .slice (some ⟨11, 0, 0, 0, 5⟩) n n), (2, .int .i64 ext), (3, .int .i64 (sideZ gap)), (9, .slice (some ⟨15, 0, 0, 0, 1⟩) n n), (124, .slice none 0 0), (125, .int .i64 0), (126, .int .i64 0)] (AHeap.rows 115 [(0, b0), (1, bn), (11, ri), (15, .made l1 1 true)]) (.exit 5) [(0, .slice (some ⟨11, 0, 0, 0, 5⟩) n n), (2, .int .i64 ext), (3, .int .i64 (sideZ gap)), (9, .slice (some ⟨15, 0, 0, 0, 1⟩) n n)] (AHeap.rows 124 [(0, b0), (1, bn), (11, ri), (15, .made l2 1 true)])) (hc_8 : Runs Try.prog 2 182 (.loop (loopAt Try.prog 18 3)) [(0, .slice (some ⟨11, 0, 0, 0, 5⟩) n n), (2, .int .i64 ext), (3, .int .i64 (sideZ gap)), (9, .slice (some ⟨15, 0, 0, 0, 1⟩) n n), (153, .slice (some ⟨11, 0, 0, 0, 5⟩) n n), (154, .int .i64 (n : Int)), (155, .int .i64 0)] (AHeap.rows 127 [(0, b0), (1, bn), (11, ri), (15, .made l2 1 true)]) (.exit 7) [(0, .slice (some ⟨11, 0, 0, 0, 5⟩) n n), (2, .int .i64 ext), (3, .int .i64 (sideZ gap))] (AHeap.rows 60 [(0, b0), (1, bn), (11, .made l3 5 false), (15, .made l2 1 true)])) (hc_9 : FDoes Try.prog 30 [.int .i64 ext, .int .i64 0, .int .i64 4096] (AHeap.rows 66 [(0, b0), (1, bn), (11, .made l3 5 false), (15, .made l2 1 true)]) (.int .i64 (sideZ ext)) (AHeap.rows 66 [(0, b0), (1, bn), (11, .made l3 5 false), (15, .made l2 1 true)])) (hc_10 : FDoes Try.prog 45 [.slice (some ⟨11, 0, 0, 0, 5⟩) n n, .int .i64 (sideZ ext), .int .i64 (sideZ gap)] (AHeap.rows 66 [(0, b0), (1, bn), (11, .made l3 5 false), (15, .made l2 1 true)]) (.slice oo n co) (AHeap.rows 67 [(0, b0), (1, bn), (11, .made l3 5 false), (15, .made l2 1 true), (66, ro)])) :
    FDoes Try.prog 18 [.slice o n c, .slice on k ck, .int .i64 ext, .int .i64 gap] (AHeap.of [b0, bn]) (.slice oo n co) (AHeap.rows 67 [(0, b0), (1, bn), (11, .made l3 5 false), (15, .made l2 1 true), (66, ro)]) :=
  pcall_does env_ok mixed (hs := [.val 1002 (.bool false), .val 3001 (.int .i64 (sideZ gap)), .act 4002 (.slice (some ⟨11, 0, 0, 0, 5⟩) n n) (fun h => h.set 11 ri), .go 5002, .keep [0, 1, 2, 3, 9, 30, 31, 32], .loop [(0, .slice (some ⟨11, 0, 0, 0, 5⟩) n n), (1, .slice on k ck), (2, .int .i64 ext), (3, .int .i64 (sideZ gap)), (9, .slice (some ⟨15, 0, 0, 0, 1⟩) n n)] (AHeap.rows 34 [(0, b0), (1, bn), (11, ri), (15, .made l0 1 true)]) (.exit 0), .keep [0, 2, 3, 9, 12, 61, 62, 63], .loop [(0, .slice (some ⟨11, 0, 0, 0, 5⟩) n n), (2, .int .i64 ext), (3, .int .i64 (sideZ gap)), (9, .slice (some ⟨15, 0, 0, 0, 1⟩) n n), (12, .slice none 0 0)] (AHeap.rows 110 [(0, b0), (1, bn), (11, ri), (15, .made l1 1 true)]) (.exit 3), .act 28001 (.tuple []) (fun h => h), .keep [0, 2, 3, 9, 124, 125, 126], .loop [(0, .slice (some ⟨11, 0, 0, 0, 5⟩) n n), (2, .int .i64 ext), (3, .int .i64 (sideZ gap)), (9, .slice (some ⟨15, 0, 0, 0, 1⟩) n n)] (AHeap.rows 124 [(0, b0), (1, bn), (11, ri), (15, .made l2 1 true)]) (.exit 5), .keep [0, 2, 3, 9, 153, 154, 155], .loop [(0, .slice (some ⟨11, 0, 0, 0, 5⟩) n n), (2, .int .i64 ext), (3, .int .i64 (sideZ gap))] (AHeap.rows 60 [(0, b0), (1, bn), (11, .made l3 5 false), (15, .made l2 1 true)]) (.exit 7), .val 40002 (.int .i64 (sideZ ext)), .act 40004 (.slice oo n co) (fun h => h.upd [] [ro])]) (rs := []) (by kernel_rfl) (All.cons (okF hc_0) (All.cons (CallT.mk hc_1) (All.cons hc_2 (All.cons hc_3 (All.cons hc_4 (All.cons hc_5 (All.cons (CallT.mk hc_6) (All.cons hc_7 (All.cons hc_8 (All.cons (CallT.mk hc_9) (All.cons (CallT.mk hc_10) (All.nil))))))))))))

theorem tk_callG (o on : Option AAddr) (n c k ck q vv : Nat) (b0 bn ri rw rw2 ro : ABlk) (l0 l1 l2 : List AVal) (l3 : List AVal) (oo : Option AAddr) (co : Nat) (ext gap : Int) (hc_0 : ¬ ((n : Int) > 4096)) (hc_1 : FDoes Try.prog 30 [.int .i64 gap, .int .i64 0, .int .i64 4096] (AHeap.rows 9 [(0, b0), (1, bn)]) (.int .i64 (sideZ gap)) (AHeap.rows 9 [(0, b0), (1, bn)])) (hc_2 : abuiltin env Builtin.append { toList := [30, 30] } [.slice (some ⟨9, 0, 0, 0, 5⟩) 0 0, .slice o n c] 11 (AHeap.set (AHeap.rows 13 [(0, b0), (1, bn)]) 9 (.made (List.replicate 0 (.agg [.int .i8 (0), .int .i64 0, .int .i64 0, .int .i64 0, .int .i64 0])) 5 true)) = some (.slice (some ⟨11, 0, 0, 0, 5⟩) n n, (AHeap.rows 13 [(0, b0), (1, bn), (9, .made (List.replicate 0 (.agg [.int .i8 (0), .int .i64 0, .int .i64 0, .int .i64 0, .int .i64 0])) 5 true), (11, ri)]))) (hc_3 : 0 ≤ (n : Int) ∧ (n : Int) ≤ (n : Int) ∧ (n : Int) < 4611686018427387904 ∧ (8 : Int) * (n : Int) ≤ 281474976710656) (hc_4 : Runs Try.prog 2 182 (.loop (loopAt Try.prog 18 0)) [(0, .slice (some ⟨11, 0, 0, 0, 5⟩) n n), (1, .slice on k ck), (2, .int .i64 ext), (3, .int .i64 (sideZ gap)), (9, .slice (some ⟨15, 0, 0, 0, 1⟩) n n), (30, .slice (some ⟨11, 0, 0, 0, 5⟩) n n), (31, .int .i64 (n : Int)), (32, .int .i64 0)] (AHeap.rows 20 [(0, b0), (1, bn), (9, .made (List.replicate 0 (.agg [.int .i8 (0), .int .i64 0, .int .i64 0, .int .i64 0, .int .i64 0])) 5 true), (11, ri), (15, .made (List.replicate n (.int .i64 0)) 1 true)]) (.exit 0) [(0, .slice (some ⟨11, 0, 0, 0, 5⟩) n n), (1, .slice on k ck), (2, .int .i64 ext), (3, .int .i64 (sideZ gap)), (9, .slice (some ⟨15, 0, 0, 0, 1⟩) n n)] (AHeap.rows 34 [(0, b0), (1, bn), (11, ri), (15, .made l0 1 true)])) (hc_5 : Runs Try.prog 2 182 (.loop (loopAt Try.prog 18 1)) [(0, .slice (some ⟨11, 0, 0, 0, 5⟩) n n), (2, .int .i64 ext), (3, .int .i64 (sideZ gap)), (9, .slice (some ⟨15, 0, 0, 0, 1⟩) n n), (12, .slice none 0 0), (61, .slice on k ck), (62, .int .i64 (k : Int)), (63, .int .i64 0)] (AHeap.rows 38 [(0, b0), (1, bn), (11, ri), (15, .made l0 1 true)]) (.exit 3) [(0, .slice (some ⟨11, 0, 0, 0, 5⟩) n n), (2, .int .i64 ext), (3, .int .i64 (sideZ gap)), (9, .slice (some ⟨15, 0, 0, 0, 1⟩) n n), (12, .slice (some ⟨91, vv, 0, 0, 3⟩) q q)] (AHeap.rows 110 [(0, b0), (1, bn), (11, ri), (15, .made l1 1 true), (91, rw)])) (hc_6 : FDoes Try.prog 42 [.slice (some ⟨91, vv, 0, 0, 3⟩) q q, AVal.func (Fn.func 43) [] []] (AHeap.rows 112 [(0, b0), (1, bn), (11, ri), (15, .made l1 1 true), (91, rw)]) (.tuple []) (AHeap.rows 112 [(0, b0), (1, bn), (11, ri), (15, .made l1 1 true), (91, rw2)])) (hc_7 : Runs Try.prog 2 182 (.loop (loopAt Try.prog 18 2)) [(0, .slice (some ⟨11, 0, 0, 0, 5⟩) n n), (2, .int .i64 ext), (3, .int .i64 (sideZ gap)), (9, .slice (some ⟨15, 0, 0, 0, 1⟩) n n), (124, .slice (some ⟨91, vv, 0, 0, 3⟩) q q), (125, .int .i64 (q : Int)), (126, .int .i64 0)] (AHeap.rows 115 [(0, b0), (1, bn), (11, ri), (15, .made l1 1 true), (91, rw2)]) (.exit 5) [(0, .slice (some ⟨11, 0, 0, 0, 5⟩) n n), (2, .int .i64 ext), (3, .int .i64 (sideZ gap)), (9, .slice (some ⟨15, 0, 0, 0, 1⟩) n n)] (AHeap.rows 124 [(0, b0), (1, bn), (11, ri), (15, .made l2 1 true), (91, rw2)])) (hc_8 : Runs Try.prog 2 182 (.loop (loopAt Try.prog 18 3)) [(0, .slice (some ⟨11, 0, 0, 0, 5⟩) n n), (2, .int .i64 ext), (3, .int .i64 (sideZ gap)), (9, .slice (some ⟨15, 0, 0, 0, 1⟩) n n), (153, .slice (some ⟨11, 0, 0, 0, 5⟩) n n), (154, .int .i64 (n : Int)), (155, .int .i64 0)] (AHeap.rows 127 [(0, b0), (1, bn), (11, ri), (15, .made l2 1 true), (91, rw2)]) (.exit 7) [(0, .slice (some ⟨11, 0, 0, 0, 5⟩) n n), (2, .int .i64 ext), (3, .int .i64 (sideZ gap))] (AHeap.rows 60 [(0, b0), (1, bn), (11, .made l3 5 false), (15, .made l2 1 true)])) (hc_9 : FDoes Try.prog 30 [.int .i64 ext, .int .i64 0, .int .i64 4096] (AHeap.rows 66 [(0, b0), (1, bn), (11, .made l3 5 false), (15, .made l2 1 true)]) (.int .i64 (sideZ ext)) (AHeap.rows 66 [(0, b0), (1, bn), (11, .made l3 5 false), (15, .made l2 1 true)])) (hc_10 : FDoes Try.prog 45 [.slice (some ⟨11, 0, 0, 0, 5⟩) n n, .int .i64 (sideZ ext), .int .i64 (sideZ gap)] (AHeap.rows 66 [(0, b0), (1, bn), (11, .made l3 5 false), (15, .made l2 1 true)]) (.slice oo n co) (AHeap.rows 67 [(0, b0), (1, bn), (11, .made l3 5 false), (15, .made l2 1 true), (66, ro)])) :
    FDoes Try.prog 18 [.slice o n c, .slice on k ck, .int .i64 ext, .int .i64 gap] (AHeap.of [b0, bn]) (.slice oo n co) (AHeap.rows 67 [(0, b0), (1, bn), (11, .made l3 5 false), (15, .made l2 1 true), (66, ro)]) :=
  pcall_does env_ok mixed (hs := [.val 1002 (.bool false), .val 3001 (.int .i64 (sideZ gap)), .act 4002 (.slice (some ⟨11, 0, 0, 0, 5⟩) n n) (fun h => h.set 11 ri), .go 5002, .keep [0, 1, 2, 3, 9, 30, 31, 32], .loop [(0, .slice (some ⟨11, 0, 0, 0, 5⟩) n n), (1, .slice on k ck), (2, .int .i64 ext), (3, .int .i64 (sideZ gap)), (9, .slice (some ⟨15, 0, 0, 0, 1⟩) n n)] (AHeap.rows 34 [(0, b0), (1, bn), (11, ri), (15, .made l0 1 true)]) (.exit 0), .keep [0, 2, 3, 9, 12, 61, 62, 63], .loop [(0, .slice (some ⟨11, 0, 0, 0, 5⟩) n n), (2, .int .i64 ext), (3, .int .i64 (sideZ gap)), (9, .slice (some ⟨15, 0, 0, 0, 1⟩) n n), (12, .slice (some ⟨91, vv, 0, 0, 3⟩) q q)] (AHeap.rows 110 [(0, b0), (1, bn), (11, ri), (15, .made l1 1 true), (91, rw)]) (.exit 3), .act 28001 (.tuple []) (fun h => h.upd [91] [rw2]), .keep [0, 2, 3, 9, 124, 125, 126], .loop [(0, .slice (some ⟨11, 0, 0, 0, 5⟩) n n), (2, .int .i64 ext), (3, .int .i64 (sideZ gap)), (9, .slice (some ⟨15, 0, 0, 0, 1⟩) n n)] (AHeap.rows 124 [(0, b0), (1, bn), (11, ri), (15, .made l2 1 true), (91, rw2)]) (.exit 5), .keep [0, 2, 3, 9, 153, 154, 155], .loop [(0, .slice (some ⟨11, 0, 0, 0, 5⟩) n n), (2, .int .i64 ext), (3, .int .i64 (sideZ gap))] (AHeap.rows 60 [(0, b0), (1, bn), (11, .made l3 5 false), (15, .made l2 1 true)]) (.exit 7), .val 40002 (.int .i64 (sideZ ext)), .act 40004 (.slice oo n co) (fun h => h.upd [] [ro])]) (rs := []) (by kernel_rfl) (All.cons (okF hc_0) (All.cons (CallT.mk hc_1) (All.cons hc_2 (All.cons hc_3 (All.cons hc_4 (All.cons hc_5 (All.cons (CallT.mk hc_6) (All.cons hc_7 (All.cons hc_8 (All.cons (CallT.mk hc_9) (All.cons (CallT.mk hc_10) (All.nil))))))))))))

theorem tk_callZ (o on : Option AAddr) (n c k ck q vv : Nat) (b0 bn ri rw rw2 ro : ABlk) (l0 l1 l2 : List AVal) (l3 : List AVal) (oo : Option AAddr) (co : Nat) (ext gap : Int) (hc_1 : FDoes Try.prog 30 [.int .i64 gap, .int .i64 0, .int .i64 4096] (AHeap.rows 9 [(0, b0), (1, bn)]) (.int .i64 (sideZ gap)) (AHeap.rows 9 [(0, b0), (1, bn)])) (hc_2 : abuiltin env Builtin.append { toList := [30, 30] } [.slice (some ⟨9, 0, 0, 0, 5⟩) 0 0, .slice o 0 c] 11 (AHeap.set (AHeap.rows 13 [(0, b0), (1, bn)]) 9 (.made (List.replicate 0 (.agg [.int .i8 (0), .int .i64 0, .int .i64 0, .int .i64 0, .int .i64 0])) 5 true)) = some (.slice (some ⟨9, 0, 0, 0, 5⟩) 0 0, (AHeap.rows 13 [(0, b0), (1, bn), (9, .made (List.replicate 0 (.agg [.int .i8 (0), .int .i64 0, .int .i64 0, .int .i64 0, .int .i64 0])) 5 true)]))) (hc_3 : (0 : Int) ≤ 0 ∧ (0 : Int) ≤ 0 ∧ (0 : Int) < 4611686018427387904 ∧ (0 : Int) ≤ 281474976710656) (hc_4 : Runs Try.prog 2 182 (.loop (loopAt Try.prog 18 0)) [(0, .slice (some ⟨9, 0, 0, 0, 5⟩) 0 0), (1, .slice on k ck), (2, .int .i64 ext), (3, .int .i64 (sideZ gap)), (9, .slice (some ⟨15, 0, 0, 0, 1⟩) 0 0), (30, .slice (some ⟨9, 0, 0, 0, 5⟩) 0 0), (31, .int .i64 0), (32, .int .i64 0)] (AHeap.rows 20 [(0, b0), (1, bn), (9, .made (List.replicate 0 (.agg [.int .i8 (0), .int .i64 0, .int .i64 0, .int .i64 0, .int .i64 0])) 5 true), (15, .made (List.replicate 0 (.int .i64 0)) 1 true)]) (.exit 0) [(0, .slice (some ⟨11, 0, 0, 0, 5⟩) 0 0), (1, .slice on k ck), (2, .int .i64 ext), (3, .int .i64 (sideZ gap)), (9, .slice (some ⟨15, 0, 0, 0, 1⟩) 0 0)] (AHeap.rows 34 [(0, b0), (1, bn), (11, ri), (15, .made l0 1 true)])) (hc_5 : Runs Try.prog 2 182 (.loop (loopAt Try.prog 18 1)) [(0, .slice (some ⟨11, 0, 0, 0, 5⟩) 0 0), (2, .int .i64 ext), (3, .int .i64 (sideZ gap)), (9, .slice (some ⟨15, 0, 0, 0, 1⟩) 0 0), (12, .slice none 0 0), (61, .slice on k ck), (62, .int .i64 (k : Int)), (63, .int .i64 0)] (AHeap.rows 38 [(0, b0), (1, bn), (11, ri), (15, .made l0 1 true)]) (.exit 3) [(0, .slice (some ⟨11, 0, 0, 0, 5⟩) 0 0), (2, .int .i64 ext), (3, .int .i64 (sideZ gap)), (9, .slice (some ⟨15, 0, 0, 0, 1⟩) 0 0), (12, .slice none 0 0)] (AHeap.rows 110 [(0, b0), (1, bn), (11, ri), (15, .made l1 1 true)])) (hc_6 : FDoes Try.prog 42 [.slice none 0 0, AVal.func (Fn.func 43) [] []] (AHeap.rows 112 [(0, b0), (1, bn), (11, ri), (15, .made l1 1 true)]) (.tuple []) (AHeap.rows 112 [(0, b0), (1, bn), (11, ri), (15, .made l1 1 true)])) (hc_7 : Runs Try.prog 2 182 (.loop (loopAt Try.prog 18 2)) [(0, .slice (some ⟨11, 0, 0, 0, 5⟩) 0 0), (2, .int .i64 ext), (3, .int .i64 (sideZ gap)), (9, .slice (some ⟨15, 0, 0, 0, 1⟩) 0 0), (124, .slice none 0 0), (125, .int .i64 0), (126, .int .i64 0)] (AHeap.rows 115 [(0, b0), (1, bn), (11, ri), (15, .made l1 1 true)]) (.exit 5) [(0, .slice (some ⟨11, 0, 0, 0, 5⟩) 0 0), (2, .int .i64 ext), (3, .int .i64 (sideZ gap)), (9, .slice (some ⟨15, 0, 0, 0, 1⟩) 0 0)] (AHeap.rows 124 [(0, b0), (1, bn), (11, ri), (15, .made l2 1 true)])) (hc_8 : Runs Try.prog 2 182 (.loop (loopAt Try.prog 18 3)) [(0, .slice (some ⟨11, 0, 0, 0, 5⟩) 0 0), (2, .int .i64 ext), (3, .int .i64 (sideZ gap)), (9, .slice (some ⟨15, 0, 0, 0, 1⟩) 0 0), (153, .slice (some ⟨11, 0, 0, 0, 5⟩) 0 0), (154, .int .i64 0), (155, .int .i64 0)] (AHeap.rows 127 [(0, b0), (1, bn), (11, ri), (15, .made l2 1 true)]) (.exit 7) [(0, .slice (some ⟨11, 0, 0, 0, 5⟩) 0 0), (2, .int .i64 ext), (3, .int .i64 (sideZ gap))] (AHeap.rows 60 [(0, b0), (1, bn), (11, ri), (15, .made l2 1 true)])) (hc_9 : FDoes Try.prog 30 [.int .i64 ext, .int .i64 0, .int .i64 4096] (AHeap.rows 66 [(0, b0), (1, bn), (11, ri), (15, .made l2 1 true)]) (.int .i64 (sideZ ext)) (AHeap.rows 66 [(0, b0), (1, bn), (11, ri), (15, .made l2 1 true)])) (hc_10 : FDoes Try.prog 45 [.slice (some ⟨11, 0, 0, 0, 5⟩) 0 0, .int .i64 (sideZ ext), .int .i64 (sideZ gap)] (AHeap.rows 66 [(0, b0), (1, bn), (11, ri), (15, .made l2 1 true)]) (.slice oo 0 co) (AHeap.rows 67 [(0, b0), (1, bn), (11, ri), (15, .made l2 1 true), (66, ro)])) :
    FDoes Try.prog 18 [.slice o 0 c, .slice on k ck, .int .i64 ext, .int .i64 gap] (AHeap.of [b0, bn]) (.slice oo 0 co) (AHeap.rows 67 [(0, b0), (1, bn), (11, ri), (15, .made l2 1 true), (66, ro)]) :=
  pcall_does env_ok mixed (hs := [.val 1002 (.bool false), .val 3001 (.int .i64 (sideZ gap)), .act 4002 (.slice (some ⟨9, 0, 0, 0, 5⟩) 0 0) (fun h => h), .go 5002, .keep [0, 1, 2, 3, 9, 30, 31, 32], .loop [(0, .slice (some ⟨11, 0, 0, 0, 5⟩) 0 0), (1, .slice on k ck), (2, .int .i64 ext), (3, .int .i64 (sideZ gap)), (9, .slice (some ⟨15, 0, 0, 0, 1⟩) 0 0)] (AHeap.rows 34 [(0, b0), (1, bn), (11, ri), (15, .made l0 1 true)]) (.exit 0), .keep [0, 2, 3, 9, 12, 61, 62, 63], .loop [(0, .slice (some ⟨11, 0, 0, 0, 5⟩) 0 0), (2, .int .i64 ext), (3, .int .i64 (sideZ gap)), (9, .slice (some ⟨15, 0, 0, 0, 1⟩) 0 0), (12, .slice none 0 0)] (AHeap.rows 110 [(0, b0), (1, bn), (11, ri), (15, .made l1 1 true)]) (.exit 3), .act 28001 (.tuple []) (fun h => h), .keep [0, 2, 3, 9, 124, 125, 126], .loop [(0, .slice (some ⟨11, 0, 0, 0, 5⟩) 0 0), (2, .int .i64 ext), (3, .int .i64 (sideZ gap)), (9, .slice (some ⟨15, 0, 0, 0, 1⟩) 0 0)] (AHeap.rows 124 [(0, b0), (1, bn), (11, ri), (15, .made l2 1 true)]) (.exit 5), .keep [0, 2, 3, 9, 153, 154, 155], .loop [(0, .slice (some ⟨11, 0, 0, 0, 5⟩) 0 0), (2, .int .i64 ext), (3, .int .i64 (sideZ gap))] (AHeap.rows 60 [(0, b0), (1, bn), (11, ri), (15, .made l2 1 true)]) (.exit 7), .val 40002 (.int .i64 (sideZ ext)), .act 40004 (.slice oo 0 co) (fun h => h.upd [] [ro])]) (rs := []) (by kernel_rfl) (All.cons (show some (AVal.bool false) = some (AVal.bool false) from congrArg (fun q => some (AVal.bool q)) (rfl)) (All.cons (CallT.mk hc_1) (All.cons hc_2 (All.cons hc_3 (All.cons hc_4 (All.cons hc_5 (All.cons (CallT.mk hc_6) (All.cons hc_7 (All.cons hc_8 (All.cons (CallT.mk hc_9) (All.cons (CallT.mk hc_10) (All.nil))))))))))))

theorem tk_cmp (a1 b1 c1 a2 b2 c2 : Int) (hc_0 : -9223372036854775808 ≤ b1 - b2 ∧ b1 - b2 ≤ 9223372036854775807) :
    FDoes Try.prog 43 [.agg [.int .i64 a1, .int .i64 b1, .int .i64 c1], .agg [.int .i64 a2, .int .i64 b2, .int .i64 c2]] (⟨0, .nil⟩) (.int .i64 (b1 - b2)) (AHeap.rows 9 [(0, .made [.agg [.int .i64 a1, .int .i64 b1, .int .i64 c1]] 3 true), (1, .made [.agg [.int .i64 a2, .int .i64 b2, .int .i64 c2]] 3 true)]) :=
  pcall_does env_ok mixed (hs := [.go 1004]) (rs := []) (by kernel_rfl) (All.cons hc_0 (All.nil))

end Go.Proofs.Ytcgcpmcjaeenlaa

namespace Go.Proofs.Ytcgcpmcjaeenlaa
open Go.Lift
set_option linter.unusedSimpArgs false
set_option linter.unusedVariables false
set_option linter.unusedSectionVars false

/-- a need for tracks there are -/
def okN (n : Nat) (t : Tr) : Prop := 0 ≤ t.a ∧ t.a < n ∧ 1 ≤ t.b
instance (n : Nat) (t : Tr) : Decidable (okN n t) := by unfold okN; infer_instance
/-- a need within the tracks -/
def cutT (n : Nat) (t : Tr) : Tr := ⟨t.a, min t.b ((n : Int) - t.a), sideZ t.c⟩
def upT (h : Nat → Int) (a : Nat) (c : Int) : Nat → Int := fun k => if k = a then max (h k) c else h k
def nstep (n : Nat) (it : Nat → It) (s : (Nat → Int) × List Tr) (t : Tr) : (Nat → Int) × List Tr :=
  if okN n t then
    if 1 < (cutT n t).b then (s.1, s.2 ++ [cutT n t])
    else if (it t.a.toNat).k = 0 then (upT s.1 t.a.toNat (sideZ t.c), s.2) else s
  else s
def nst (n : Nat) (it : Nat → It) (h0 : Nat → Int) (y : Nat → Tr) : Nat → (Nat → Int) × List Tr
  | 0 => (h0, [])
  | i + 1 => nstep n it (nst n it h0 y i) (y i)
noncomputable def sst (it : Nat → It) (g : Int) (w : Nat → Tr) (h : Nat → Int) : Nat → Nat → Int
  | 0 => h
  | i + 1 => sprZ it (sst it g w h i) (w i).a.toNat (w i).a.toNat (w i).b.toNat (w i).c g

structure HInv (n : Nat) (it : Nat → It) (h0 h : Nat → Int) (B : Int) : Prop where
  lo : ∀ j, j < n → h0 j ≤ h j
  fix : ∀ j, j < n → (it j).k = 1 → h j = h0 j
  sum : sumTo h n ≤ B
  nn : ∀ j, j < n → 0 ≤ h0 j

theorem HInv.le {n : Nat} {it : Nat → It} {h0 h : Nat → Int} {B : Int} (i : HInv n it h0 h B) : ∀ j, j < n → 0 ≤ h j ∧ h j ≤ B := by
  have key : ∀ m, m ≤ n → 0 ≤ sumTo h m ∧ ∀ j, j < m → h j ≤ sumTo h m := by
    intro m
    induction m with
    | zero => intro _; exact ⟨Int.le_refl _, fun j hj => by omega⟩
    | succ m ih =>
      intro hm
      have q := ih (by omega)
      have l := i.lo m (by omega); have nn := i.nn m (by omega)
      simp only [sumTo]
      refine ⟨by omega, fun j hj => ?_⟩
      by_cases e : j = m
      · subst e; omega
      · have := q.2 j (by omega); omega
  intro j hj
  have l := i.lo j hj; have nn := i.nn j hj
  have := (key n (Nat.le_refl _)).2 j hj; have := i.sum
  exact ⟨by omega, by omega⟩

/-- what a need within the tracks has -/
def Cov (it : Nat → It) (g : Int) (h : Nat → Int) (t : Tr) : Prop :=
  (∃ j, t.a.toNat ≤ j ∧ j < t.a.toNat + t.b.toNat ∧ (it j).k = 0) → t.c ≤ sumTo (fun j => h (t.a.toNat + j)) t.b.toNat + g * (t.b - 1)
theorem Cov.mono {it : Nat → It} {g : Int} {h h2 : Nat → Int} {t : Tr} (q : Cov it g h t) (hh : ∀ k, h k ≤ h2 k) : Cov it g h2 t := fun e => by
  have := q e
  have := szf_mono (n := t.b.toNat) (x := fun j => h (t.a.toNat + j)) (y := fun j => h2 (t.a.toNat + j)) (fun j _ => hh _) _ (Nat.le_refl _)
  omega

theorem upT_sum (h : Nat → Int) (a : Nat) (c : Int) (hc : 0 ≤ c) : ∀ n, (∀ j, j < n → 0 ≤ h j) → sumTo (upT h a c) n ≤ sumTo h n + if a < n then c else 0
  | 0, _ => by simp [sumTo]
  | n + 1, hn => by
    have := upT_sum h a c hc n fun j hj => hn j (by omega)
    have h0 := hn n (by omega)
    simp only [sumTo, upT] at this ⊢
    by_cases e : n = a
    · subst e; rw [if_pos rfl, if_pos (by omega)]; rw [if_neg (by omega)] at this; omega
    · rw [if_neg e]
      by_cases l : a < n
      · rw [if_pos l] at this; rw [if_pos (by omega)]; omega
      · rw [if_neg l] at this; rw [if_neg (by omega)]; omega

theorem giveZ_off (off : Nat) : ∀ (l : List Nat) (L : Int) (h : Nat → Int), giveZ off l L h = giveZ 0 (l.map fun j => off + j) L h
  | [], L, h => rfl
  | j :: r, L, h => by
    rw [List.map_cons, giveZ, giveZ]
    split
    · rfl
    · rw [giveZ_off off r, List.length_map]
      simp only [Nat.zero_add]

theorem spr_sum {n : Nat} {it : Nat → It} {h : Nat → Int} {a m : Nat} {c g : Int} (hm : a + m ≤ n) (hc : 0 ≤ c) (hg : 0 ≤ g) (hm1 : 1 ≤ m) (hh : ∀ j, j < n → 0 ≤ h j) : sumTo (sprZ it h a a m c g) n ≤ sumTo h n + c := by
  unfold sprZ
  rw [giveZ_off]
  have e := giveZ_sum (off := 0) (m := n) ((auL (fun j => isAuto it (a + j)) m).map fun j => a + j) (lackZ h a m c g) h (fun j hj => by
    obtain ⟨i, hi, rfl⟩ := List.mem_map.1 hj
    have := (auL_mem.1 hi).1; omega)
  simp only [Nat.zero_add] at e
  rw [e]
  have s0 : 0 ≤ sumTo (fun j => h (a + j)) m := by
    have : ∀ k, k ≤ m → 0 ≤ sumTo (fun j => h (a + j)) k := by
      intro k
      induction k with
      | zero => intro _; exact Int.le_refl _
      | succ k ih => intro hk; have := ih (by omega); have := hh (a + k) (by omega); simp only [sumTo]; omega
    exact this m (Nat.le_refl _)
  have g0 : 0 ≤ g * ((m : Int) - 1) := Int.mul_nonneg hg (by omega)
  unfold lackZ
  show sumTo h n + _ ≤ _
  split <;> omega

theorem spr_cov {it : Nat → It} {h : Nat → Int} {t : Tr} {g : Int} (ha : 0 ≤ t.a) (hb : 1 ≤ t.b) : Cov it g (sprZ it h t.a.toNat t.a.toNat t.b.toNat t.c g) t := by
  rintro ⟨j, j1, j2, j3⟩
  have hne : auL (fun j => isAuto it (t.a.toNat + j)) t.b.toNat ≠ [] := by
    have : j - t.a.toNat ∈ auL (fun j => isAuto it (t.a.toNat + j)) t.b.toNat := auL_mem.2 ⟨by omega, by rw [show t.a.toNat + (j - t.a.toNat) = j by omega]; simp [isAuto, j3]⟩
    intro e; rw [e] at this; exact absurd this (List.not_mem_nil)
  unfold sprZ
  rw [giveZ_sum _ _ _ fun k hk => (auL_mem.1 hk).1, if_neg hne]
  unfold lackZ
  rw [show ((t.b.toNat : Nat) : Int) = t.b by omega]
  omega

section
variable {n : Nat} {it : Nat → It} {h0 : Nat → Int} {g : Int} (hg : 0 ≤ g)
include hg

theorem spr_inv {h : Nat → Int} {B : Int} (i : HInv n it h0 h B) {t : Tr} (ha : 0 ≤ t.a) (hb : 1 ≤ t.b) (hab : t.a + t.b ≤ n) (hc : 0 ≤ t.c) : HInv n it h0 (sprZ it h t.a.toNat t.a.toNat t.b.toNat t.c g) (B + t.c) := by
  refine ⟨fun j hj => Int.le_trans (i.lo j hj) (giveZ_mono _ _ _ _ _), fun j hj hk => ?_, ?_, i.nn⟩
  · rw [← i.fix j hj hk]
    unfold sprZ
    refine giveZ_out _ _ _ _ _ fun k hk2 e => ?_
    have := (auL_mem.1 hk2).2
    simp only [isAuto, ← e, hk] at this
    exact absurd this (by decide)
  · have := spr_sum (it := it) (h := h) (c := t.c) (g := g) (a := t.a.toNat) (m := t.b.toNat) (n := n) (by omega) hc hg (by omega) fun j hj => (i.le j hj).1
    have := i.sum; omega

/-- the wide needs within the tracks -/
def WideOk (n : Nat) (M : Int) (t : Tr) : Prop := 0 ≤ t.a ∧ 2 ≤ t.b ∧ t.a + t.b ≤ n ∧ 0 ≤ t.c ∧ t.c ≤ M

theorem nst_inv {y : Nat → Tr} {M B : Int} (hM : 0 ≤ M) (hM2 : M ≤ 4096) (hy : ∀ j, (y j).c ≤ M) (hB : HInv n it h0 h0 B) : ∀ i, HInv n it h0 (nst n it h0 y i).1 (B + M * i) ∧ (∀ t ∈ (nst n it h0 y i).2, WideOk n M t) ∧ (nst n it h0 y i).2.length ≤ i ∧ ∀ j, j < i → okN n (y j) → cutT n (y j) ∈ (nst n it h0 y i).2 ∨ Cov it g (nst n it h0 y i).1 (cutT n (y j))
  | 0 => by
    simp only [nst]
    refine ⟨by simpa using hB, by simp, by simp, fun j hj => by omega⟩
  | i + 1 => by
    obtain ⟨q1, q2, q3, q4⟩ := nst_inv hM hM2 hy hB i
    have hs : 0 ≤ sideZ (y i).c ∧ sideZ (y i).c ≤ M := by have := hy i; unfold sideZ; omega
    have hmul : M * ((i + 1 : Nat) : Int) = M * i + M := by push_cast; rw [Int.mul_add]; omega
    have more : HInv n it h0 (nst n it h0 y i).1 (B + M * (i + 1 : Nat)) := ⟨q1.lo, q1.fix, by have := q1.sum; omega, q1.nn⟩
    simp only [nst, nstep]
    by_cases ok : okN n (y i)
    · rw [if_pos ok]
      have ok2 := ok
      unfold okN at ok2
      by_cases w : 1 < (cutT n (y i)).b
      · rw [if_pos w]
        refine ⟨more, fun t ht => ?_, by simp; omega, fun j hj oj => ?_⟩
        · rcases List.mem_append.1 ht with ht | ht
          · exact q2 t ht
          · rw [List.mem_singleton.1 ht]
            simp only [cutT] at w
            refine ⟨ok2.1, ?_, ?_, hs.1, hs.2⟩
            · simp only [cutT]; omega
            · simp only [cutT]; omega
        · by_cases e : j = i
          · subst e; exact .inl (by simp)
          · rcases q4 j (by omega) oj with h | h
            · exact .inl (List.mem_append_left _ h)
            · exact .inr h
      · rw [if_neg w]
        have hb1 : (cutT n (y i)).b = 1 := by simp only [cutT] at w ⊢; omega
        by_cases k0 : (it (y i).a.toNat).k = 0
        · rw [if_pos k0]
          have up : ∀ k, (nst n it h0 y i).1 k ≤ upT (nst n it h0 y i).1 (y i).a.toNat (sideZ (y i).c) k := fun k => by unfold upT; split <;> omega
          refine ⟨⟨fun j hj => Int.le_trans (q1.lo j hj) (up j), fun j hj hk => ?_, ?_, q1.nn⟩, q2, Nat.le_succ_of_le q3, fun j hj oj => ?_⟩
          · simp only [upT]
            rw [if_neg (fun e => by rw [e, k0] at hk; exact absurd hk (by decide))]; exact q1.fix j hj hk
          · have u := upT_sum (nst n it h0 y i).1 (y i).a.toNat (sideZ (y i).c) hs.1 n fun j hj => (q1.le j hj).1
            have := q1.sum
            show sumTo (upT (nst n it h0 y i).1 (y i).a.toNat (sideZ (y i).c)) n ≤ _
            split at u <;> omega
          · by_cases e : j = i
            · subst e
              refine .inr fun _ => ?_
              rw [hb1]
              show sideZ (y j).c ≤ sumTo (fun k => upT (nst n it h0 y j).1 (y j).a.toNat (sideZ (y j).c) ((y j).a.toNat + k)) 1 + g * (1 - 1)
              simp only [sumTo, upT, Nat.add_zero, if_true]
              omega
            · rcases q4 j (by omega) oj with h | h
              · exact .inl h
              · exact .inr (h.mono up)
        · rw [if_neg k0]
          refine ⟨more, q2, by omega, fun j hj oj => ?_⟩
          by_cases e : j = i
          · subst e
            refine .inr fun ⟨k, k1, k2, k3⟩ => ?_
            rw [hb1] at k2
            have : k = (y j).a.toNat := by simp only [cutT] at k1 k2; omega
            rw [this] at k3; exact absurd k3 k0
          · exact q4 j (by omega) oj
    · rw [if_neg ok]
      refine ⟨more, q2, by omega, fun j hj oj => ?_⟩
      by_cases e : j = i
      · subst e; exact absurd oj ok
      · exact q4 j (by omega) oj

theorem sst_inv {w : Nat → Tr} {M B : Int} {h : Nat → Int} (hB : HInv n it h0 h B) : ∀ i, (∀ j, j < i → WideOk n M (w j)) → HInv n it h0 (sst it g w h i) (B + M * i) ∧ (∀ k, h k ≤ sst it g w h i k) ∧ ∀ j, j < i → Cov it g (sst it g w h i) (w j)
  | 0, _ => by
    simp only [sst]
    exact ⟨by simpa using hB, fun k => Int.le_refl _, fun j hj => by omega⟩
  | i + 1, hw => by
    obtain ⟨q1, q2, q3⟩ := sst_inv hB i fun j hj => hw j (by omega)
    obtain ⟨w1, w2, w3, w4, w5⟩ := hw i (by omega)
    have hmul : M * ((i + 1 : Nat) : Int) = M * i + M := by push_cast; rw [Int.mul_add]; omega
    have s := spr_inv hg q1 w1 (by omega) w3 w4
    simp only [sst]
    have up : ∀ k, sst it g w h i k ≤ sprZ it (sst it g w h i) (w i).a.toNat (w i).a.toNat (w i).b.toNat (w i).c g k := fun k => giveZ_mono _ _ _ _ _
    refine ⟨⟨s.lo, s.fix, by have := s.sum; omega, s.nn⟩, fun k => Int.le_trans (q2 k) (up k), fun j hj => ?_⟩
    by_cases e : j = i
    · subst e; exact spr_cov w1 (by omega)
    · exact (q3 j (by omega)).mono up

/-- all of it -/
theorem holds_law {y : Nat → Tr} {M B : Int} {k : Nat} (hM : 0 ≤ M) (hM2 : M ≤ 4096) (hy : ∀ j, (y j).c ≤ M) (hB : HInv n it h0 h0 B) {w : Nat → Tr} {σ : Nat → Nat} (hw : ∀ j, (h : j < (nst n it h0 y k).2.length) → w j = (nst n it h0 y k).2[j]) (hσ : Same (fun j => j) σ 0 (nst n it h0 y k).2.length) :
    HInv n it h0 (sst it g (fun i => w (σ i)) (nst n it h0 y k).1 (nst n it h0 y k).2.length) (B + M * k + M * (nst n it h0 y k).2.length) ∧ (nst n it h0 y k).2.length ≤ k ∧ ∀ j, j < k → okN n (y j) → Cov it g (sst it g (fun i => w (σ i)) (nst n it h0 y k).1 (nst n it h0 y k).2.length) (cutT n (y j)) := by
  obtain ⟨q1, q2, q3, q4⟩ := nst_inv hg hM hM2 hy hB k
  have hws : ∀ j, j < (nst n it h0 y k).2.length → WideOk n M (w (σ j)) := fun j hj => by
    obtain ⟨i, _, hi, e⟩ := hσ.from (Nat.zero_le j) hj
    rw [e, hw i hi]
    exact q2 _ (List.getElem_mem _)
  obtain ⟨s1, s2, s3⟩ := sst_inv hg (w := fun i => w (σ i)) (M := M) q1 (nst n it h0 y k).2.length hws
  refine ⟨s1, q3, fun j hj oj => ?_⟩
  rcases q4 j hj oj with h | h
  · obtain ⟨i, hi, e⟩ := List.getElem_of_mem h
    have hs2 : Same σ (fun j => j) 0 (nst n it h0 y k).2.length := ⟨fun i hi => (hσ.out i hi).symm, hσ.perm.symm⟩
    obtain ⟨p, _, hp, ep⟩ := hs2.from (Nat.zero_le i) hi
    have := s3 p hp
    rw [← ep] at this
    rw [← e, ← hw i hi]; exact this
  · exact h.mono s2
end
end Go.Proofs.Ytcgcpmcjaeenlaa

namespace Go.Lift
noncomputable section
set_option linter.unusedVariables false
set_option linter.unusedSimpArgs false

section
variable {β : Type}

def fNat (n : Nat) (k : Nat → β) : β := Nat.rec (motive := fun _ => β) (k 0) (fun m _ => k (Nat.succ m)) n
theorem fNat_eq (n : Nat) (k : Nat → β) : fNat n k = k n := by cases n <;> rfl

def fInt (n : Int) (k : Int → β) : β :=
  match n with
  | .ofNat m => fNat m fun m => k (.ofNat m)
  | .negSucc m => fNat m fun m => k (.negSucc m)
theorem fInt_eq (n : Int) (k : Int → β) : fInt n k = k n := by cases n <;> simp [fInt, fNat_eq]

def fKind (d : IntKind) (k : IntKind → β) : β :=
  match d with
  | .i8 => k .i8 | .i16 => k .i16 | .i32 => k .i32 | .i64 => k .i64 | .u8 => k .u8 | .u16 => k .u16 | .u32 => k .u32 | .u64 => k .u64
theorem fKind_eq (d : IntKind) (k : IntKind → β) : fKind d k = k d := by cases d <;> rfl

def fBool (b : Bool) (k : Bool → β) : β :=
  match b with
  | true => k true
  | false => k false
theorem fBool_eq (b : Bool) (k : Bool → β) : fBool b k = k b := by cases b <;> rfl

def fAddr (a : AAddr) (k : AAddr → β) : β :=
  match a with
  | ⟨a, b, c, d, e⟩ => fNat a fun a => fNat b fun b => fNat c fun c => fNat d fun d => fNat e fun e => k ⟨a, b, c, d, e⟩
theorem fAddr_eq (a : AAddr) (k : AAddr → β) : fAddr a k = k a := by cases a; simp [fAddr, fNat_eq]

def fByte (b : UInt8) (k : UInt8 → β) : β :=
  match b with
  | ⟨⟨⟨n, h⟩⟩⟩ => fNat n fun m => k (UInt8.ofNat m)
theorem fByte_eq (b : UInt8) (k : UInt8 → β) : fByte b k = k b := by
  obtain ⟨⟨⟨n, h⟩⟩⟩ := b
  simp only [fByte, fNat_eq]
  congr 1
  apply UInt8.toNat_inj.1
  simp [UInt8.toNat, UInt8.ofNat]
  omega

def fBytes : List UInt8 → (List UInt8 → β) → β
  | [], k => k []
  | b :: r, k => fByte b fun b => fBytes r fun r => k (b :: r)
theorem fBytes_eq : ∀ (l : List UInt8) (k : List UInt8 → β), fBytes l k = k l
  | [], k => rfl
  | b :: r, k => by simp only [fBytes, fByte_eq, fBytes_eq r]

/-- a value without parts -/
def fS (v : AVal) (k : AVal → β) : β :=
  match v with
  | .undef => k .undef
  | .bool b => fBool b fun b => k (.bool b)
  | .int d n => fKind d fun d => fInt n fun n => k (.int d n)
  | .str s => fBytes s fun s => k (.str s)
  | .ptr none => k (.ptr none)
  | .ptr (some a) => fAddr a fun a => k (.ptr (some a))
  | .slice none n c => fNat n fun n => fNat c fun c => k (.slice none n c)
  | .slice (some a) n c => fAddr a fun a => fNat n fun n => fNat c fun c => k (.slice (some a) n c)
  | .nilFunc => k .nilFunc
  | .nilIface => k .nilIface
  | .func a b c => k (.func a b c)
  | .iface t v => k (.iface t v)
  | .agg l => k (.agg l)
  | .tuple l => k (.tuple l)
theorem fS_eq (v : AVal) (k : AVal → β) : fS v k = k v := by
  cases v with
  | ptr o => cases o <;> simp [fS, fAddr_eq]
  | slice o n c => cases o <;> simp [fS, fAddr_eq, fNat_eq]
  | _ => simp [fS, fBool_eq, fKind_eq, fInt_eq, fBytes_eq]

def fSs : List AVal → (List AVal → β) → β
  | [], k => k []
  | a :: r, k => fS a fun a => fSs r fun r => k (a :: r)
theorem fSs_eq : ∀ (l : List AVal) (k : List AVal → β), fSs l k = k l
  | [], k => rfl
  | a :: r, k => by simp only [fSs, fS_eq, fSs_eq r]

/-- parts of one layer -/
def fV1 (v : AVal) (k : AVal → β) : β :=
  match v with
  | .agg l => fSs l fun l => k (.agg l)
  | .iface t v => fNat t fun t => fS v fun v => k (.iface t v)
  | .func a b c => fSs b fun b => fSs c fun c => k (.func a b c)
  | .tuple l => fSs l fun l => k (.tuple l)
  | v => fS v k
theorem fV1_eq (v : AVal) (k : AVal → β) : fV1 v k = k v := by
  unfold fV1; split <;> simp [fS_eq, fSs_eq, fNat_eq]

def fV1s : List AVal → (List AVal → β) → β
  | [], k => k []
  | a :: r, k => fV1 a fun a => fV1s r fun r => k (a :: r)
theorem fV1s_eq : ∀ (l : List AVal) (k : List AVal → β), fV1s l k = k l
  | [], k => rfl
  | a :: r, k => by simp only [fV1s, fV1_eq, fV1s_eq r]

def fV (v : AVal) (k : AVal → β) : β :=
  match v with
  | .tuple l => fV1s l fun l => k (.tuple l)
  | .iface t v => fNat t fun t => fV1 v fun v => k (.iface t v)
  | v => fV1 v k
theorem fV_eq (v : AVal) (k : AVal → β) : fV v k = k v := by
  unfold fV; split <;> simp [fV1_eq, fV1s_eq, fNat_eq]

def fVs : List AVal → (List AVal → β) → β
  | [], k => k []
  | a :: r, k => fV a fun a => fVs r fun r => k (a :: r)
def fBlk (b : ABlk) (k : ABlk → β) : β :=
  match b with
  | ⟨l, es, ex, ro, v, m, f⟩ => fV1s l fun l => fNat es fun es => fBool ex fun ex => fBool ro fun ro => fNat v fun v => fNat m fun m => fNat f fun f => k ⟨l, es, ex, ro, v, m, f⟩
theorem fBlk_eq (b : ABlk) (k : ABlk → β) : fBlk b k = k b := by cases b; simp [fBlk, fV1s_eq, fNat_eq, fBool_eq]


/-! slots: a tree -/

def toL (n : Nat) (t : Trie AVal) : List AVal := (List.range n).map fun i => (t.get i).getD skipped

theorem toL_get (n : Nat) (t : Trie AVal) (i : Nat) : (toL n t)[i]? = if i < n then some ((t.get i).getD skipped) else none := by
  simp only [toL, List.getElem?_map]
  by_cases h : i < n
  · rw [List.getElem?_range h, if_pos h]; rfl
  · rw [List.getElem?_eq_none (by simpa using h), if_neg h]; rfl

def tget (n : Nat) (t : Trie AVal) (i : Nat) : Option AVal := cond (Nat.blt i n) (some (Option.rec (motive := fun _ => AVal) skipped (fun v => v) (t.get i))) none
theorem tget_eq (n : Nat) (t : Trie AVal) (i : Nat) : tget n t i = (toL n t)[i]? := by
  rw [toL_get]; unfold tget
  by_cases h : i < n
  · rw [show Nat.blt i n = true by simpa [Nat.blt_eq] using h, if_pos h]; cases t.get i <;> rfl
  · rw [show Nat.blt i n = false by cases hb : Nat.blt i n with | false => rfl | true => exact absurd (Nat.blt_eq.mp hb) h, if_neg h]; rfl

def agetT (n : Nat) (t : Trie AVal) (o : Operand) : AVal :=
  match o with
  | .tmp i => cond (Nat.blt i n) (Option.rec (motive := fun _ => AVal) skipped (fun v => v) (t.get i)) .undef
  | .const v => ofConst v
  | .global _ => .undef
  | .func f => .func (.func f) [] []
theorem agetT_eq (n : Nat) (t : Trie AVal) : agetT n t = agetOp (toL n t) := by
  funext o
  cases o with
  | tmp i =>
    have := tget_eq n t i
    simp only [agetOp, List.getD_eq_getElem?_getD, ← this]
    unfold tget
    show cond (Nat.blt i n) (Option.rec (motive := fun _ => AVal) skipped (fun v => v) (t.get i)) .undef = _
    cases Nat.blt i n <;> rfl
  | const v => rfl
  | global g => rfl
  | func f => rfl

theorem toL_set (n : Nat) (t : Trie AVal) (d : Nat) (v : AVal) : toL n (t.set d v) = (toL n t).set d v := by
  apply List.ext_getElem?
  intro i
  rw [toL_get, List.getElem?_set, toL_get]
  by_cases h : i < n
  · simp only [h, if_true, Trie.get_set]
    by_cases hd : d = i
    · subst hd; simp [toL, h]
    · simp [hd]
  · simp only [h, if_false]
    by_cases hd : d = i
    · subst hd; simp [toL, h]
    · simp [hd]

section
variable {α : Type}
def fSing (f : Nat) : Nat → α → (Trie α → β) → β :=
  Nat.rec (motive := fun _ => Nat → α → (Trie α → β) → β) (fun _ v c => c (.node (some v) .nil .nil))
    (fun _ ih k v c => cond (Nat.beq k 0) (c (.node (some v) .nil .nil)) (cond (Nat.beq (Nat.mod k 2) 1) (ih (Nat.div k 2) v fun u => c (.node none u .nil)) (ih (Nat.sub (Nat.div k 2) 1) v fun u => c (.node none .nil u)))) f
theorem fSing_eq : ∀ (f k : Nat) (v : α) (c : Trie α → β), fSing f k v c = c (Trie.sing f k v)
  | 0, k, v, c => rfl
  | f + 1, k, v, c => by
    show cond (Nat.beq k 0) (c (.node (some v) .nil .nil)) (cond (Nat.beq (k % 2) 1) (fSing f (k / 2) v fun u => c (.node none u .nil)) (fSing f (k / 2 - 1) v fun u => c (.node none .nil u))) =
      c (cond (Nat.beq k 0) (.node (some v) .nil .nil) (cond (Nat.beq (k % 2) 1) (.node none (Trie.sing f (k / 2) v) .nil) (.node none .nil (Trie.sing f (k / 2 - 1) v))))
    rw [fSing_eq f, fSing_eq f]
    cases Nat.beq k 0 <;> cases Nat.beq (k % 2) 1 <;> rfl

def fSetT (t : Trie α) : Nat → α → (Trie α → β) → β :=
  Trie.rec (motive := fun _ => Nat → α → (Trie α → β) → β) (fun k v c => fSing k k v c)
    (fun o l r sl sr k v c => cond (Nat.beq k 0) (c (.node (some v) l r)) (cond (Nat.beq (Nat.mod k 2) 1) (sl (Nat.div k 2) v fun u => c (.node o u r)) (sr (Nat.sub (Nat.div k 2) 1) v fun u => c (.node o l u)))) t
theorem fSetT_eq : ∀ (t : Trie α) (k : Nat) (v : α) (c : Trie α → β), fSetT t k v c = c (t.set k v)
  | .nil, k, v, c => fSing_eq k k v c
  | .node o l r, k, v, c => by
    show cond (Nat.beq k 0) (c (.node (some v) l r)) (cond (Nat.beq (k % 2) 1) (fSetT l (k / 2) v fun u => c (.node o u r)) (fSetT r (k / 2 - 1) v fun u => c (.node o l u))) =
      c (cond (Nat.beq k 0) (.node (some v) l r) (cond (Nat.beq (k % 2) 1) (.node o (l.set (k / 2) v) r) (.node o l (r.set (k / 2 - 1) v))))
    rw [fSetT_eq l, fSetT_eq r]
    cases Nat.beq k 0 <;> cases Nat.beq (k % 2) 1 <;> rfl

/-- the way down to a key, and what lies there, worked out -/
def fAt (f : α → (α → β) → β) (t : Trie α) : Nat → (Trie α → β) → β :=
  Trie.rec (motive := fun _ => Nat → (Trie α → β) → β) (fun _ c => c .nil)
    (fun o l r fl fr k c => cond (Nat.beq k 0) (Option.rec (motive := fun _ => β) (c (.node none l r)) (fun b => f b fun b => c (.node (some b) l r)) o) (cond (Nat.beq (Nat.mod k 2) 1) (fl (Nat.div k 2) fun u => c (.node o u r)) (fr (Nat.sub (Nat.div k 2) 1) fun u => c (.node o l u)))) t
theorem fAt_eq {f : α → (α → β) → β} (hf : ∀ a k, f a k = k a) : ∀ (t : Trie α) (k : Nat) (c : Trie α → β), fAt f t k c = c t
  | .nil, k, c => rfl
  | .node o l r, k, c => by
    show cond (Nat.beq k 0) (Option.rec (motive := fun _ => β) (c (.node none l r)) (fun b => f b fun b => c (.node (some b) l r)) o) (cond (Nat.beq (k % 2) 1) (fAt f l (k / 2) fun u => c (.node o u r)) (fAt f r (k / 2 - 1) fun u => c (.node o l u))) = _
    rw [fAt_eq hf l, fAt_eq hf r]
    cases o <;> cases Nat.beq k 0 <;> cases Nat.beq (k % 2) 1 <;> simp [hf]
end

def fPut (s : Trie AVal) (d : Option Tmp) (v : AVal) (k : Trie AVal → β) : β := Option.rec (motive := fun _ => β) (k s) (fun d => fSetT s d v k) d
theorem fPut_eq (n : Nat) (s : Trie AVal) (d : Option Tmp) (v : AVal) (k : Trie AVal → β) : fPut s d v k = k (Option.rec (motive := fun _ => Trie AVal) s (fun d => s.set d v) d) := by cases d <;> simp [fPut, fSetT_eq]
theorem toL_put (n : Nat) (s : Trie AVal) (d : Option Tmp) (v : AVal) : toL n (Option.rec (motive := fun _ => Trie AVal) s (fun d => s.set d v) d) = aput (toL n s) d v := by cases d <;> simp [aput, toL_set]

def fHeapTo (id : Nat) (h : AHeap) (k : AHeap → β) : β :=
  match h with
  | ⟨n, l⟩ => fAt fBlk l id fun l => k ⟨n, l⟩
theorem fHeapTo_eq (id : Nat) (h : AHeap) (k : AHeap → β) : fHeapTo id h k = k h := by cases h; simp [fHeapTo, fAt_eq fBlk_eq]

def fHeap (h : AHeap) (k : AHeap → β) : β :=
  match h with
  | ⟨n, l⟩ => fNat n fun n => k ⟨n, l⟩
theorem fHeap_eq (h : AHeap) (k : AHeap → β) : fHeap h k = k h := by cases h; simp [fHeap, fNat_eq]

/-- a part of memory worked out -/
inductive Turns where
  | no | at (id : Nat) | all

def fTurn (t : Turns) (h : AHeap) (k : AHeap → β) : β :=
  match t with
  | .no => k h
  | .at id => fHeapTo id h k
  | .all => fHeap h k
theorem fTurn_eq (t : Turns) (h : AHeap) (k : AHeap → β) : fTurn t h k = k h := by cases t <;> simp [fTurn, fHeapTo_eq, fHeap_eq]

/-- the head alone -/
def fW (v : AVal) (k : AVal → β) : β :=
  match v with
  | .undef => k .undef
  | .bool b => k (.bool b)
  | .int d n => k (.int d n)
  | .str s => k (.str s)
  | .ptr a => k (.ptr a)
  | .slice a n c => k (.slice a n c)
  | .nilFunc => k .nilFunc
  | .nilIface => k .nilIface
  | .func a b c => k (.func a b c)
  | .iface t v => k (.iface t v)
  | .agg l => k (.agg l)
  | .tuple l => k (.tuple l)
theorem fW_eq (v : AVal) (k : AVal → β) : fW v k = k v := by cases v <;> rfl

/-- is what it answers in some slot or row already, worked out? -/
def shallow (o : Op) : Bool :=
  match o with
  | .move (.tmp _) | .assign (.tmp _) | .pick _ (.tmp _) (.tmp _) | .extract _ _ | .load _ _ => true
  | .call c => match c.callee with | .value _ => true | _ => false
  | _ => false

def fRes (o : Op) (v : AVal) (k : AVal → β) : β := cond (shallow o) (fW v k) (fV v k)
theorem fRes_eq (o : Op) (v : AVal) (k : AVal → β) : fRes o v k = k v := by unfold fRes; cases shallow o <;> simp [fW_eq, fV_eq]
end

/-- which row an operation turns -/
def turnsOf (nid : Nat) (ρ : Operand → AVal) (o : Op) (v : AVal) : Turns :=
  match o with
  | .alloc _ | .box _ _ | .buildSlice _ _ _ | .makeSlice _ _ _ => .at nid
  | .store _ a _ => match ρ a with | .ptr (some a) => .at a.id | _ => .no
  | .call c =>
    match c.callee with
    | .value _ => .all
    | .builtin .append => match v with | .slice (some a) _ _ => .at a.id | _ => .no
    | _ => .no
  | _ => .no

section
variable {E : AEnv}

def wantedT (ops : Array Oper) (n : Nat) (s : Trie AVal) (o : Oper) : Option Bool :=
  match o.guard with
  | none => some true
  | some (j, want) =>
    match (ops[j]?).bind (·.dst) with
    | some d =>
      match tget n s d with
      | some (.bool b) => some (b == want)
      | some (.tuple []) => some false
      | _ => none
    | none => none
theorem wantedT_eq (ops : Array Oper) (n : Nat) (s : Trie AVal) (o : Oper) : wantedT ops n s o = awanted ops (toL n s) o := by
  unfold wantedT awanted
  simp only [tget_eq]
  rfl

structure FSt where
  slots : Trie AVal
  heap : AHeap

def FSt.to (n : Nat) (s : FSt) : ASt := ⟨toL n s.slots, s.heap⟩

/-- the operations of a region, one behind the other; 'draw': with the looks that a region asks that draws -/
def frun (E : AEnv) (call : ACall) (ops : Array Oper) (draw : Bool) (n n0 : Nat) (l : List Oper) : Nat → Trie AVal → AHeap → Option FSt :=
  List.rec (motive := fun _ => Nat → Trie AVal → AHeap → Option FSt) (fun _ s h => some ⟨s, h⟩)
    (fun o _ ih i s h =>
      match wantedT ops n s o with
      | some true =>
        match (cond draw (dop E call ops n0 i (agetT n s) h o.op) (aop E call (Nat.add n0 i) (agetT n s) h o.op)) with
        | some (v, h') => fRes o.op v fun v => fTurn (turnsOf (Nat.add n0 i) (agetT n s) o.op v) h' fun h' => fPut s o.dst v fun s' => ih (Nat.succ i) s' h'
        | none => none
      | some false => fPut s o.dst skipped fun s' => ih (Nat.succ i) s' h
      | none => none) l

theorem frun_cons (call : ACall) (ops : Array Oper) (draw : Bool) (n n0 i : Nat) (s : Trie AVal) (h : AHeap) (o : Oper) (r : List Oper) : frun E call ops draw n n0 (o :: r) i s h =
      match wantedT ops n s o with
      | some true =>
        match (cond draw (dop E call ops n0 i (agetT n s) h o.op) (aop E call (n0 + i) (agetT n s) h o.op)) with
        | some (v, h') => frun E call ops draw n n0 r (i + 1) (Option.rec (motive := fun _ => Trie AVal) s (fun d => s.set d v) o.dst) h'
        | none => none
      | some false => frun E call ops draw n n0 r (i + 1) (Option.rec (motive := fun _ => Trie AVal) s (fun d => s.set d skipped) o.dst) h
      | none => none := by
  show (match wantedT ops n s o with
      | some true =>
        match (cond draw (dop E call ops n0 i (agetT n s) h o.op) (aop E call (n0 + i) (agetT n s) h o.op)) with
        | some (v, h') => fRes o.op v fun v => fTurn (turnsOf (n0 + i) (agetT n s) o.op v) h' fun h' => fPut s o.dst v fun s' => frun E call ops draw n n0 r (i + 1) s' h'
        | none => none
      | some false => fPut s o.dst skipped fun s' => frun E call ops draw n n0 r (i + 1) s' h
      | none => none) = _
  simp only [fRes_eq, fTurn_eq, fPut_eq n]

theorem frun_arun {call : ACall} {ops : Array Oper} {n n0 : Nat} : ∀ (l : List Oper) (i : Nat) (s : Trie AVal) (h : AHeap), (∀ j, l[j]? = ops[i + j]?) →
    (frun E call ops false n n0 l i s h).map (FSt.to n) = arun E call ops n0 (List.range' i l.length) ⟨toL n s, h⟩
  | [], i, s, h, _ => rfl
  | o :: r, i, s, h, hl => by
    have ho : ops[i]? = some o := by have := hl 0; simpa using this.symm
    have hr : ∀ j, r[j]? = ops[i + 1 + j]? := fun j => by have := hl (j + 1); simp at this; rw [this]; congr 1; omega
    rw [frun_cons]
    simp only [List.length_cons, List.range'_succ, arun, astep, ho, wantedT_eq, agetT_eq, cond_false]
    cases hw : awanted ops (toL n s) o with
    | none => rfl
    | some b =>
      cases b with
      | true =>
        simp only
        cases ha : aop E call (n0 + i) (agetOp (toL n s)) h o.op with
        | none => rfl
        | some p =>
          obtain ⟨v, h'⟩ := p
          simp only
          rw [frun_arun r (i + 1) _ _ hr, toL_put]
      | false =>
        simp only
        rw [frun_arun r (i + 1) _ _ hr, toL_put]

theorem frun_drun {call : ACall} {ops : Array Oper} {n n0 : Nat} : ∀ (l : List Oper) (i : Nat) (s : Trie AVal) (h : AHeap), (∀ j, l[j]? = ops[i + j]?) →
    (frun E call ops true n n0 l i s h).map (FSt.to n) = drun E call ops n0 (List.range' i l.length) ⟨toL n s, h⟩
  | [], i, s, h, _ => rfl
  | o :: r, i, s, h, hl => by
    have ho : ops[i]? = some o := by have := hl 0; simpa using this.symm
    have hr : ∀ j, r[j]? = ops[i + 1 + j]? := fun j => by have := hl (j + 1); simp at this; rw [this]; congr 1; omega
    rw [frun_cons]
    simp only [List.length_cons, List.range'_succ, drun, dstep, ho, wantedT_eq, agetT_eq, cond_true]
    cases hw : awanted ops (toL n s) o with
    | none => rfl
    | some b =>
      cases b with
      | true =>
        simp only
        cases ha : dop E call ops n0 i (agetOp (toL n s)) h o.op with
        | none => rfl
        | some p =>
          obtain ⟨v, h'⟩ := p
          simp only
          rw [frun_drun r (i + 1) _ _ hr, toL_put]
      | false =>
        simp only
        rw [frun_drun r (i + 1) _ _ hr, toL_put]

def fregion (E : AEnv) (call : ACall) (ops : Array Oper) (draw : Bool) (n : Nat) (s : FSt) : Option FSt :=
  match s with
  | ⟨s, ⟨n0, l⟩⟩ => cond (!draw || drawOk ops) (fNat (Nat.add n0 ops.size) fun m => frun E call ops draw n n0 ops.toList 0 s ⟨m, l⟩) none

theorem fregion_eq (call : ACall) (ops : Array Oper) (draw : Bool) (n : Nat) (s : FSt) : (fregion E call ops draw n s).map (FSt.to n) = aregion E call ops draw (s.to n) := by
  obtain ⟨s, n0, l⟩ := s
  have hl : ∀ j : Nat, ops.toList[j]? = ops[0 + j]? := fun j => by simp
  have hr : List.range ops.size = List.range' 0 ops.toList.length := by rw [List.range_eq_range', Array.length_toList]
  unfold fregion aregion
  cases draw with
  | false => simp only [Bool.not_false, Bool.true_or, cond_true, fNat_eq, Bool.false_eq_true, if_false, frun_arun _ _ _ _ hl, hr, FSt.to, Nat.add_eq]
  | true =>
    cases hd : drawOk ops with
    | false => simp
    | true => simp only [Bool.not_true, Bool.false_or, hd, cond_true, if_true, fNat_eq, frun_drun _ _ _ _ hl, hr, FSt.to, Nat.add_eq]

def fexec (E : AEnv) (call : ACall) (n : Nat) (fuel : Nat) : Option Code → Code → FSt → Option (AExit × FSt) :=
  Nat.rec (motive := fun _ => Option Code → Code → FSt → Option (AExit × FSt)) (fun _ _ _ => none)
  (fun m ih b c s =>
  match b with
  | some body =>
    match ih none c s with
    | some (.goto l, s') =>
      match findLabel body l with
      | some rest => ih (some body) rest s'
      | none => some (.goto l, s')
    | r => r
  | none =>
    match c with
    | .skip => some (.normal, s)
    | .label _ => some (.normal, s)
    | .region _ ops draw =>
      match fregion E call ops draw n s with
      | some s' => some (.normal, s')
      | none => none
    | .seq a b =>
      match ih none a s with
      | some (.normal, s') => ih none b s'
      | r => r
    | .cond x a b =>
      match agetT n s.slots x with
      | .bool true => ih none a s
      | .bool false => ih none b s
      | _ => none
    | .block id c =>
      match ih none c s with
      | some (.exit j, s') => some (if j = id then .normal else .exit j, s')
      | r => r
    | .loop c =>
      match ih none c s with
      | some (.normal, s') => ih none (.loop c) s'
      | r => r
    | .scope c => ih (some c) c s
    | .goto l => some (.goto l, s)
    | .exit id => some (.exit id, s)
    | .ret => some (.ret, s)
    | _ => none) fuel

def toP (n : Nat) (p : AExit × FSt) : AExit × ASt := (p.1, p.2.to n)

theorem fexec_eq (call : ACall) (k : Nat) : ∀ (n : Nat) (b : Option Code) (c : Code) (s : FSt), (fexec E call k n b c s).map (toP k) = aexec E call n b c (s.to k) := by
  intro n
  induction n with
  | zero => intro b c s; rfl
  | succ n ih =>
    intro b c s
    cases b with
    | some body =>
      show Option.map (toP k) (match fexec E call k n none c s with
        | some (.goto l, s') =>
          match findLabel body l with
          | some rest => fexec E call k n (some body) rest s'
          | none => some (.goto l, s')
        | r => r) = _
      simp only [aexec, ← ih]
      cases hx : fexec E call k n none c s with
      | none => rfl
      | some p =>
        obtain ⟨e, s'⟩ := p
        cases e with
        | goto l =>
          simp only [Option.map_some, toP]
          cases hf : findLabel body l with
          | none => rfl
          | some rest => simp only [hf]; exact ih (some body) rest s'
        | _ => rfl
    | none =>
      cases c
      case region id ops draw =>
        show Option.map (toP k) (match fregion E call ops draw k s with
          | some s' => some (.normal, s')
          | none => none) = _
        simp only [aexec, ← fregion_eq]
        cases fregion E call ops draw k s <;> rfl
      case seq a b =>
        show Option.map (toP k) (match fexec E call k n none a s with
          | some (.normal, s') => fexec E call k n none b s'
          | r => r) = _
        simp only [aexec, ← ih]
        cases hx : fexec E call k n none a s with
        | none => rfl
        | some p => obtain ⟨e, s'⟩ := p; cases e <;> first | exact ih none b s' | rfl
      case cond x a b =>
        show Option.map (toP k) (match agetT k s.slots x with
          | .bool true => fexec E call k n none a s
          | .bool false => fexec E call k n none b s
          | _ => none) = _
        simp only [aexec, ← ih, agetT_eq]
        have he : agetOp (s.to k).slots x = agetOp (toL k s.slots) x := rfl
        rw [he]
        cases agetOp (toL k s.slots) x with
        | bool t => cases t <;> rfl
        | _ => rfl
      case block id c =>
        show Option.map (toP k) (match fexec E call k n none c s with
          | some (.exit j, s') => some (if j = id then .normal else .exit j, s')
          | r => r) = _
        simp only [aexec, ← ih]
        cases hx : fexec E call k n none c s with
        | none => rfl
        | some p => obtain ⟨e, s'⟩ := p; cases e <;> rfl
      case loop c =>
        show Option.map (toP k) (match fexec E call k n none c s with
          | some (.normal, s') => fexec E call k n none (.loop c) s'
          | r => r) = _
        simp only [aexec, ← ih]
        cases hx : fexec E call k n none c s with
        | none => rfl
        | some p => obtain ⟨e, s'⟩ := p; cases e <;> first | exact ih none (.loop c) s' | rfl
      case scope c => exact ih (some c) c s
      all_goals rfl

def fArgs : List AVal → Nat → Trie AVal → (Trie AVal → Option (AVal × AHeap)) → Option (AVal × AHeap)
  | [], _, t, k => k t
  | v :: r, i, t, k => fV v fun v => fSetT t i v fun t => fArgs r (Nat.succ i) t k

theorem fArgs_eq : ∀ (l : List AVal) (i : Nat) (t : Trie AVal) (k : Trie AVal → Option (AVal × AHeap)),
    ∃ t', fArgs l i t k = k t' ∧ ∀ j, t'.get j = if j < i then t.get j else if h : j - i < l.length then some l[j - i] else t.get j
  | [], i, t, k => ⟨t, rfl, fun j => by simp⟩
  | v :: r, i, t, k => by
    obtain ⟨t', h1, h2⟩ := fArgs_eq r (i + 1) (t.set i v) k
    refine ⟨t', by simp only [fArgs, fV_eq, fSetT_eq]; exact h1, fun j => ?_⟩
    rw [h2 j, Trie.get_set]
    by_cases hj : j < i
    · rw [if_pos (by omega), if_neg (by omega), if_pos hj]
    · rw [if_neg hj]
      by_cases he : i = j
      · subst he; rw [if_pos (by omega), if_pos rfl]; simp
      · rw [if_neg (by omega), if_neg he]
        by_cases hl : j - (i + 1) < r.length
        · rw [dif_pos hl, dif_pos (by simp; omega)]
          obtain ⟨m, hm⟩ : ∃ m, j - i = m + 1 := ⟨j - i - 1, by omega⟩
          have hm' : j - (i + 1) = m := by omega
          simp only [hm, hm', List.getElem_cons_succ]
        · rw [dif_neg hl, dif_neg (by simp; omega)]

theorem fArgs_toL {l : List AVal} {m : Nat} {t : Trie AVal} (h : ∀ j, t.get j = if j < 0 then (Trie.nil : Trie AVal).get j else if h : j - 0 < l.length then some l[j - 0] else (Trie.nil : Trie AVal).get j) :
    toL (l.length + (m - l.length)) t = l ++ List.replicate (m - l.length) skipped := by
  apply List.ext_getElem?
  intro i
  rw [toL_get, h i, if_neg (Nat.not_lt_zero i)]
  simp only [Nat.sub_zero, Trie.get_nil]
  by_cases hi : i < l.length
  · rw [if_pos (by omega), dif_pos hi, List.getElem?_append_left hi, List.getElem?_eq_getElem hi]; rfl
  · rw [dif_neg hi, List.getElem?_append_right (by omega), List.getElem?_replicate]
    by_cases hn : i < l.length + (m - l.length)
    · rw [if_pos hn, if_pos (by omega)]; rfl
    · rw [if_neg hn, if_neg (by omega)]

def fresults (D : Tys) (n : Nat) (rs : List ResultVar) (s : FSt) : Option (List AVal) :=
  match rs with
  | [] => some []
  | .tmp t :: r => (fresults D n r s).map fun l => agetT n s.slots (.tmp t) :: l
  | .cell a t :: r =>
    match agetT n s.slots (.tmp a) with
    | .ptr (some p) =>
      match aload D t p s.heap, fresults D n r s with
      | some v, some l => some (v :: l)
      | _, _ => none
    | _ => none
theorem fresults_eq (D : Tys) (n : Nat) (s : FSt) : ∀ (rs : List ResultVar), fresults D n rs s = aresults D rs (s.to n)
  | [] => rfl
  | .tmp t :: r => by simp only [fresults, aresults, fresults_eq D n s r, agetT_eq]; rfl
  | .cell a t :: r => by simp only [fresults, aresults, fresults_eq D n s r, agetT_eq]; rfl

def fOut (r : Option (AVal × AHeap)) : Option (AVal × AHeap) :=
  match r with
  | some (v, ⟨n, l⟩) => fNat n fun n => fV v fun v => some (v, ⟨n, l⟩)
  | none => none
theorem fOut_eq (r : Option (AVal × AHeap)) : fOut r = r := by
  cases r with
  | none => rfl
  | some p => obtain ⟨v, n, l⟩ := p; simp [fOut, fNat_eq, fV_eq]

def fcall (P : Program) (E : AEnv) (fuel : Nat) : ACall :=
  Nat.rec (motive := fun _ => ACall) (fun _ _ _ => none)
  (fun n ih f args h =>
    match E.prim f with
    | some g => g args h
    | none =>
    match P.funcs[f]? with
    | some fn =>
      match fn.body with
      | some c =>
        fNat (args.length + (fn.ntmps - args.length)) fun k => fArgs args 0 .nil fun sl =>
        match fexec E ih k n none c ⟨sl, h⟩ with
        | some (.exit _, _) => none
        | some (.goto _, _) => none
        | some (_, s) =>
          match fresults E.D k fn.results.toList s with
          | some l => fOut (some (aresult l, s.heap))
          | none => none
        | none => none
      | none => none
    | none => none) fuel

theorem fcall_eq (P : Program) (E : AEnv) : ∀ (n : Nat), fcall P E n = acall P E n := by
  intro n
  induction n with
  | zero => rfl
  | succ n ih =>
    funext f args h
    show (match E.prim f with
    | some g => g args h
    | none =>
    match P.funcs[f]? with
    | some fn =>
      match fn.body with
      | some c =>
        fNat (args.length + (fn.ntmps - args.length)) fun k => fArgs args 0 .nil fun sl =>
        match fexec E (fcall P E n) k n none c ⟨sl, h⟩ with
        | some (.exit _, _) => none
        | some (.goto _, _) => none
        | some (_, s) =>
          match fresults E.D k fn.results.toList s with
          | some l => fOut (some (aresult l, s.heap))
          | none => none
        | none => none
      | none => none
    | none => none) = _
    simp only [acall, ih, fNat_eq, fOut_eq]
    cases E.prim f with
    | some g => rfl
    | none =>
    simp only
    cases hf : P.funcs[f]? with
    | none => rfl
    | some fn =>
      simp only
      cases fn.body with
      | none => rfl
      | some c =>
        simp only
        obtain ⟨t, h1, h2⟩ := fArgs_eq args 0 .nil fun sl =>
          match fexec E (acall P E n) (args.length + (fn.ntmps - args.length)) n none c ⟨sl, h⟩ with
          | some (.exit _, _) => none
          | some (.goto _, _) => none
          | some (_, s) =>
            match fresults E.D (args.length + (fn.ntmps - args.length)) fn.results.toList s with
            | some l => some (aresult l, s.heap)
            | none => none
          | none => none
        rw [h1]
        have hs : (FSt.mk t h).to (args.length + (fn.ntmps - args.length)) = ⟨args ++ List.replicate (fn.ntmps - args.length) skipped, h⟩ := by
          simp only [FSt.to, fArgs_toL h2]
        have hx := fexec_eq (E := E) (acall P E n) (args.length + (fn.ntmps - args.length)) n none c ⟨t, h⟩
        rw [hs] at hx
        rw [← hx]
        cases hy : fexec E (acall P E n) (args.length + (fn.ntmps - args.length)) n none c ⟨t, h⟩ with
        | none => rfl
        | some p =>
          obtain ⟨e, s⟩ := p
          simp only [Option.map_some, toP]
          cases e with
          | exit id => rfl
          | goto l => rfl
          | normal => simp only [fresults_eq]; cases aresults E.D fn.results.toList (s.to (args.length + (fn.ntmps - args.length))) <;> rfl
          | ret => simp only [fresults_eq]; cases aresults E.D fn.results.toList (s.to (args.length + (fn.ntmps - args.length))) <;> rfl

theorem fcall_true {P : Program} {E : AEnv} {n : Nat} {f : FuncId} {args : List AVal} {h : AHeap} (k : saysTrue (fcall P E n f args h) = true) : ∃ h', acall P E n f args h = some (.bool true, h') := by
  rw [fcall_eq] at k; exact saysTrue_spec k
end
end
end Go.Lift

namespace Go.Proofs.Ytcgcpmcjaeenlaa
open Go.Lift
set_option maxRecDepth 1000000
set_option linter.unusedSimpArgs false
set_option linter.unusedVariables false
set_option linter.unusedSectionVars false

/-- an item that is auto with a least size, or fixed -/
def ItOk (t : It) : Prop := (t.k = 0 ∧ t.n = 0 ∧ t.d = 0 ∧ t.mx = 0 ∧ 0 ≤ t.mn ∧ t.mn ≤ 4096) ∨ (t.k = 1 ∧ 0 ≤ t.n ∧ t.n ≤ 4096 ∧ t.d = 0 ∧ t.mn = 0 ∧ t.mx = 0)
def has0 (t : It) : Int := if t.k = 0 then t.mn else t.n
theorem right_ok {t : It} (h : ItOk t) (H : AHeap) : FDoes Try.prog 40 [t.val] H (.bool true) H := by
  obtain ⟨k, n, d, mn, mx⟩ := t
  unfold ItOk at h
  simp only at h
  rcases h with ⟨rfl, rfl, rfl, rfl, h1, h2⟩ | ⟨rfl, h1, h2, rfl, rfl, rfl⟩
  · exact (right_does_21 0 0 0 mn 0 (by omega) (by omega) rfl rfl rfl rfl).bare (by simp [It.bare]; exact It.bare ⟨0, 0, 0, mn, 0⟩) (Bare.bool _) H
  · exact (right_does_24 1 n 0 0 0 (by omega) (by omega) rfl (by omega) rfl (by omega) (by omega) rfl).bare (by simp [It.bare]; exact It.bare ⟨1, n, 0, 0, 0⟩) (Bare.bool _) H

theorem aslice_mid {D : Tys} {t e : Nat} {d xd : TyD} (hd : D t = some d) (hk : d.kind = .slice e) (hx : D e = some xd) {id ver n a m es : Nat} (hes : es = xd.size) {k : IntKind} (hm : a + m ≤ n) :
    aslice D t (.slice (some ⟨id, ver, 0, 0, es⟩) n n) (some (.int k a)) (some (.int k ((a : Int) + (m : Int)))) none = some (.slice (some ⟨id, ver, a, 0, es⟩) m (n - a)) := by
  simp only [aslice, hd, hk, hx, abound]
  rw [if_pos ⟨by omega, by omega⟩]
  simp only
  rw [if_pos ⟨by omega, by omega⟩]
  simp [hes]
  omega

/-- a row of needs, appended to one by one -/
def nrow (t : Tr) (r : List Tr) : ABlk := { elems := (t :: r).map Tr.val, es := 3, exact := false, ro := false, ver := r.length, minVer := 0, forkLen := if r.length = 0 then 0 else 1 }
theorem nrow_grow (t x : Tr) (r : List Tr) : (nrow t r).grow [x.val] = nrow t (r ++ [x]) := by
  unfold ABlk.grow nrow
  simp only [List.map_cons, List.map_append, List.length_append, List.length_cons, List.length_nil, List.cons_append, List.map_nil, List.length_map, Nat.zero_add]
  by_cases h : r.length = 0
  · rw [h]; simp
  · rw [if_neg (by omega), if_neg h, if_neg (by omega)]
    rw [show min 1 (r.length + 1) = 1 by omega]
theorem nrow_bare (t : Tr) (r : List Tr) : BareB (nrow t r) := fun e he => by
  obtain ⟨x, _, rfl⟩ := List.mem_map.1 he; exact x.bare

/-- the wide needs, as a slice and its row -/
def wv : List Tr → AVal
  | [] => .slice none 0 0
  | _ :: r => .slice (some ⟨91, r.length, 0, 0, 3⟩) (r.length + 1) (r.length + 1)
def wr : List Tr → List (Nat × ABlk)
  | [] => []
  | t :: r => [(91, nrow t r)]
def wk : List Tr → Nat
  | [] => 50
  | _ :: _ => 100

theorem app_needN (x : Tr) (t : Nat) (hp : AHeap) (hx : elemsOf 3 (.slice (some ⟨t, 0, 0, 0, 3⟩) 1 1) hp = some [x.val]) :
    abuiltin env .append #[31, 31] [.slice none 0 0, .slice (some ⟨t, 0, 0, 0, 3⟩) 1 1] 91 hp = some (.slice (some ⟨91, 0, 0, 0, 3⟩) 1 1, hp.set 91 (nrow x [])) := by
  refine (app_new slNeed hx (by simp) (by simp) (by simp)).trans ?_
  rfl
theorem app_needG (x w : Tr) (r : List Tr) (hr : r.length ≤ 2 ^ 40) (t K : Nat) (hp : AHeap) (hg : hp.get 91 = some (nrow w r)) (hx : elemsOf 3 (.slice (some ⟨t, 0, 0, 0, 3⟩) 1 1) hp = some [x.val]) :
    abuiltin env .append #[31, 31] [.slice (some ⟨91, r.length, 0, 0, 3⟩) (r.length + 1) (r.length + 1), .slice (some ⟨t, 0, 0, 0, 3⟩) 1 1] K hp = some (.slice (some ⟨91, r.length + 1, 0, 0, 3⟩) (r.length + 1 + 1) (r.length + 1 + 1), hp.set 91 (nrow w (r ++ [x]))) := by
  refine (app_grow slNeed hx (by simp) (b := nrow w r) (by simp; omega) (by simp; omega) hg rfl (by simp) rfl rfl rfl (by simp [nrow])).trans ?_
  rw [nrow_grow]; rfl

noncomputable def tkH (K : Nat) (b0 bn ri : ABlk) (n : Nat) (h : Nat → Int) (l : List (Nat × ABlk)) : AHeap := AHeap.rows K ((0, b0) :: (1, bn) :: (11, ri) :: (15, .made (ints n h) 1 true) :: l)

section
variable {n k ck vn offn : Nat} {on : Option AAddr} {b0 bn ri : ABlk} {it : Nat → It} {y : Nat → Tr} (hn : n ≤ 4096) (hk : k ≤ 4096) (hb0 : BareB b0) (hbn : BareB bn) (hri : BareB ri) (hel : ∀ j, j < n → ri.elem? 0 (0 + j) = some (it j).val) (hok : ∀ j, j < n → ItOk (it j)) (sn : SlArg on k ck 1 vn offn 3) (hye : ∀ j, j < k → bn.elem? vn (offn + j) = some (y j).val) (ext g : Int)
include hn hk hb0 hbn hri hel hok sn hye

theorem tk_loop0 : ∀ (f i : Nat), i + f = n → Loops Try.prog 2 182 (loopAt Try.prog 18 0) [(0, .slice (some ⟨11, 0, 0, 0, 5⟩) n n), (1, .slice on k ck), (2, .int .i64 ext), (3, .int .i64 g), (9, .slice (some ⟨15, 0, 0, 0, 1⟩) n n), (30, .slice (some ⟨11, 0, 0, 0, 5⟩) n n), (31, .int .i64 n), (32, .int .i64 i)] (tkH 30 b0 bn ri n (fun j => if j < i then has0 (it j) else 0) []) (.exit 0) [(0, .slice (some ⟨11, 0, 0, 0, 5⟩) n n), (1, .slice on k ck), (2, .int .i64 ext), (3, .int .i64 g), (9, .slice (some ⟨15, 0, 0, 0, 1⟩) n n)] (tkH 34 b0 bn ri n (fun j => has0 (it j)) [])
  | 0, i, e => by
    obtain rfl : i = n := by omega
    have d4 : Clo (Ids [0, 1, 11, 15]) (.slice on k ck) := sn.clo (by simp [Ids])
    have ee : (ints i fun j => if j < i then has0 (it j) else 0) = ints i fun j => has0 (it j) := ints_congr fun j hj => by rw [if_pos hj]
    unfold tkH
    rw [ee]
    refine (Loops.last (by simp) (tk_ie none on i 0 k ck i 0 0 b0 bn ri b0 b0 [] (ints i fun j => has0 (it j)) ext g 0 0 0 0 0 0 0 0 0 b0 (by omega))).post ?_
    exact Ent.drop (by kernel_rfl) (by kernel_rfl) (by kernel_rfl) (by kernel_rfl) (by simp [All_cons, All_nil, Clo, d4] <;> simp [Ids]) (by simp only [List.map, All_cons, All_nil, and_true]; exact ⟨hb0.clo _, hbn.clo _, hri.clo _, fun e he => (ints_bare _ _ e he).clo _⟩)
  | f + 1, i, e => by
    have hi : i < n := by omega
    have d4 : Clo (Ids [0, 1, 11, 15]) (.slice on k ck) := sn.clo (by simp [Ids])
    have ih := tk_loop0 f (i + 1) (by omega)
    have e0 := ints_stepZ (n := n) (y := fun j => has0 (it j)) (z := fun _ => 0) (i := i)
    have hx := hel i hi
    have hr := right_ok (hok i hi)
    rcases hok i hi with ⟨k0, k1, k2, k3, k4, k5⟩ | ⟨k0, k1, k2, k3, k4, k5⟩
    · have ev : (it i).val = .agg [.int .i8 0, .int .i64 (it i).n, .int .i64 (it i).d, .int .i64 (it i).mn, .int .i64 (it i).mx] := by unfold It.val It.cells; rw [k0]
      rw [ev] at hx hr
      have eh : has0 (it i) = (it i).mn := if_pos k0
      have st := tk_i0 none on n 0 k ck i 0 0 b0 bn ri b0 b0 [] (ints n fun j => if j < i then has0 (it j) else 0) ext g (it i).n (it i).d (it i).mn (it i).mx 0 0 0 0 0 b0 (by omega) (ix_itS (.inl rfl) hi) hx (hr _) (ix_intN (.inl rfl) hi) ⟨rfl, by rw [Nat.zero_add, ints_get hi, if_neg (by omega)]⟩ (by omega)
      rw [← eh, Nat.zero_add, e0] at st
      refine Loops.round st ?_ ih
      exact Ent.drop (by kernel_rfl) (by kernel_rfl) (by kernel_rfl) (by kernel_rfl) (by simp [All_cons, All_nil, Clo, d4] <;> simp [Ids]) (by simp only [List.map, All_cons, All_nil, and_true]; exact ⟨hb0.clo _, hbn.clo _, hri.clo _, fun e he => (ints_bare _ _ e he).clo _⟩)
    · have ev : (it i).val = .agg [.int .i8 1, .int .i64 (it i).n, .int .i64 (it i).d, .int .i64 (it i).mn, .int .i64 (it i).mx] := by unfold It.val It.cells; rw [k0]
      rw [ev] at hx hr
      have eh : has0 (it i) = (it i).n := if_neg (by omega)
      have st := tk_i1 none on n 0 k ck i 0 0 b0 bn ri b0 b0 [] (ints n fun j => if j < i then has0 (it j) else 0) ext g (it i).n (it i).d (it i).mn (it i).mx 0 0 0 0 0 b0 (by omega) (ix_itS (.inl rfl) hi) hx (hr _) (by rw [k5]; exact brought_does (by omega) _ _ _ _) (ix_intN (.inl rfl) hi) ⟨rfl, by rw [Nat.zero_add, ints_get hi, if_neg (by omega)]⟩ (by omega)
      rw [← eh, Nat.zero_add, e0] at st
      refine Loops.round st ?_ ih
      exact Ent.drop (by kernel_rfl) (by kernel_rfl) (by kernel_rfl) (by kernel_rfl) (by simp [All_cons, All_nil, Clo, d4] <;> simp [Ids]) (by simp only [List.map, All_cons, All_nil, and_true]; exact ⟨hb0.clo _, hbn.clo _, hri.clo _, fun e he => (ints_bare _ _ e he).clo _⟩)

theorem tk_step1 {i : Nat} (hi : i < k) (h : Nat → Int) (ws : List Tr) (hl : ws.length ≤ 4096) : Runs Try.prog 2 182 (loopAt Try.prog 18 1) [(0, .slice (some ⟨11, 0, 0, 0, 5⟩) n n), (2, .int .i64 ext), (3, .int .i64 g), (9, .slice (some ⟨15, 0, 0, 0, 1⟩) n n), (12, wv ws), (61, .slice on k ck), (62, .int .i64 k), (63, .int .i64 i)] (tkH (wk ws) b0 bn ri n h (wr ws)) .normal [(0, .slice (some ⟨11, 0, 0, 0, 5⟩) n n), (2, .int .i64 ext), (3, .int .i64 g), (9, .slice (some ⟨15, 0, 0, 0, 1⟩) n n), (12, wv (nstep n it (h, ws) (y i)).2), (61, .slice on k ck), (62, .int .i64 k), (63, .int .i64 (i + 1 : Nat))] (tkH (wk (nstep n it (h, ws) (y i)).2) b0 bn ri n (nstep n it (h, ws) (y i)).1 (wr (nstep n it (h, ws) (y i)).2)) := by
  have d4 : Clo (Ids [0, 1, 11, 15]) (.slice on k ck) := sn.clo (by simp [Ids])
  have d5 : Clo (Ids [0, 1, 11, 15, 91]) (.slice on k ck) := sn.clo (by simp [Ids])
  have hx := ix_neS (k := .i64) sn hi
  have he := hye i hi
  have hmin : (if (n : Int) - (y i).a < (y i).b then (n : Int) - (y i).a else (y i).b) = min (y i).b ((n : Int) - (y i).a) := by split <;> omega
  unfold nstep
  simp only
  by_cases ok : okN n (y i)
  · rw [if_pos ok]
    have ok2 := ok
    unfold okN at ok2
    by_cases w : 1 < (cutT n (y i)).b
    · rw [if_pos w]
      have w2 : (if (n : Int) - (y i).a < (y i).b then (n : Int) - (y i).a else (y i).b) > 1 := by rw [hmin]; exact w
      cases ws with
      | nil =>
        have st := tk_wN on n k ck vn offn i 0 0 0 b0 bn ri b0 (nrow (cutT n (y i)) []) (ints n h) ext g (y i).a (y i).b (y i).c 0 0 0 0 0 (by omega) hx he (by omega) (by omega) (by omega) (by omega) (gside_does _ _) w2 (by rw [hmin]; exact (app_needN (cutT n (y i)) _ _ (by kernel_rfl)).trans (by kernel_rfl)) (by omega)
        refine st.post ?_
        simp only [List.nil_append, List.cons_append, wv, wr, wk, List.length_append, List.length_cons, List.length_nil, Nat.zero_add]
        exact Ent.drop (by kernel_rfl) (by kernel_rfl) (by kernel_rfl) (by kernel_rfl) (by simp [All_cons, All_nil, Clo, d5] <;> simp [Ids]) (by simp only [List.map, All_cons, All_nil, and_true]; exact ⟨hb0.clo _, hbn.clo _, hri.clo _, fun e he => (ints_bare _ _ e he).clo _, (nrow_bare _ _).clo _⟩)
      | cons t r =>
        have st := tk_wG on n k ck vn offn i (r.length + 1) r.length 0 b0 bn ri (nrow t r) (nrow t (r ++ [cutT n (y i)])) (ints n h) ext g (y i).a (y i).b (y i).c 0 0 0 0 0 (by omega) hx he (by omega) (by omega) (by omega) (by omega) (gside_does _ _) w2 (by rw [hmin]; exact (app_needG (cutT n (y i)) t r (by simp only [List.length_cons] at hl; omega) _ _ _ (by kernel_rfl) (by kernel_rfl)).trans (by kernel_rfl)) (by omega)
        refine st.post ?_
        simp only [List.nil_append, List.cons_append, wv, wr, wk, List.length_append, List.length_cons, List.length_nil, Nat.zero_add]
        exact Ent.drop (by kernel_rfl) (by kernel_rfl) (by kernel_rfl) (by kernel_rfl) (by simp [All_cons, All_nil, Clo, d5] <;> simp [Ids]) (by simp only [List.map, All_cons, All_nil, and_true]; exact ⟨hb0.clo _, hbn.clo _, hri.clo _, fun e he => (ints_bare _ _ e he).clo _, (nrow_bare _ _).clo _⟩)
    · rw [if_neg w]
      have w2 : ¬ ((if (n : Int) - (y i).a < (y i).b then (n : Int) - (y i).a else (y i).b) > 1) := by rw [hmin]; exact w
      obtain ⟨a, ha⟩ : ∃ a : Nat, (y i).a = (a : Int) := ⟨(y i).a.toNat, by omega⟩
      have hta : (y i).a.toNat = a := by omega
      have han : a < n := by omega
      have hxi : aindexAddr env.D 30 (.slice (some ⟨11, 0, 0, 0, 5⟩) n n) (.int .i64 (y i).a) = some (.ptr (some ⟨11, 0, 0 + a, 0, 5⟩)) := by rw [ha]; exact ix_itS (.inl rfl) han
      have hxh : aindexAddr env.D 32 (.slice (some ⟨15, 0, 0, 0, 1⟩) n n) (.int .i64 (y i).a) = some (.ptr (some ⟨15, 0, 0 + a, 0, 1⟩)) := by rw [ha]; exact ix_intN (.inl rfl) han
      have hxe := hel a han
      have hget : (ints n h)[0 + a]? = some (.int .i64 (h a)) := by rw [Nat.zero_add]; exact ints_get han
      rw [hta]
      by_cases k0 : (it a).k = 0
      · rw [if_pos k0]
        have ev : (it a).val = .agg [.int .i8 0, .int .i64 (it a).n, .int .i64 (it a).d, .int .i64 (it a).mn, .int .i64 (it a).mx] := by unfold It.val It.cells; rw [k0]
        rw [ev] at hxe
        have es : (ints n h).set a (.int .i64 (if sideZ (y i).c > h a then sideZ (y i).c else h a)) = ints n (upT h a (sideZ (y i).c)) := by
          rw [ints_set]; exact ints_congr fun j hj => by
            unfold upT
            by_cases e : j = a
            · subst e; rw [if_pos rfl, if_pos rfl]; split <;> omega
            · rw [if_neg e, if_neg e]
        cases ws with
        | nil =>
          have st := tk_n0N on n k ck vn offn i 0 0 a b0 bn ri b0 b0 (ints n h) ext g (y i).a (y i).b (y i).c (it a).n (it a).d (it a).mn (it a).mx (h a) (by omega) hx he (by omega) (by omega) (by omega) (by omega) (gside_does _ _) w2 hxi hxe hxh (elem_made hget) hxh ⟨rfl, hget⟩ (by omega)
          rw [Nat.zero_add, es] at st
          refine st.post ?_
          simp only [List.nil_append, List.cons_append, wv, wr, wk, List.length_append, List.length_cons, List.length_nil, Nat.zero_add]
          exact Ent.drop (by kernel_rfl) (by kernel_rfl) (by kernel_rfl) (by kernel_rfl) (by simp [All_cons, All_nil, Clo, d4] <;> simp [Ids]) (by simp only [List.map, All_cons, All_nil, and_true]; exact ⟨hb0.clo _, hbn.clo _, hri.clo _, fun e he => (ints_bare _ _ e he).clo _⟩)
        | cons t r =>
          have st := tk_n0G on n k ck vn offn i (r.length + 1) r.length a b0 bn ri (nrow t r) b0 (ints n h) ext g (y i).a (y i).b (y i).c (it a).n (it a).d (it a).mn (it a).mx (h a) (by omega) hx he (by omega) (by omega) (by omega) (by omega) (gside_does _ _) w2 hxi hxe hxh (elem_made hget) hxh ⟨rfl, hget⟩ (by omega)
          rw [Nat.zero_add, es] at st
          refine st.post ?_
          simp only [List.nil_append, List.cons_append, wv, wr, wk, List.length_append, List.length_cons, List.length_nil, Nat.zero_add]
          exact Ent.drop (by kernel_rfl) (by kernel_rfl) (by kernel_rfl) (by kernel_rfl) (by simp [All_cons, All_nil, Clo, d5] <;> simp [Ids]) (by simp only [List.map, All_cons, All_nil, and_true]; exact ⟨hb0.clo _, hbn.clo _, hri.clo _, fun e he => (ints_bare _ _ e he).clo _, (nrow_bare _ _).clo _⟩)
      · rw [if_neg k0]
        have k1 : (it a).k = 1 := by rcases hok a han with q | q; exact absurd q.1 k0; exact q.1
        have ev : (it a).val = .agg [.int .i8 1, .int .i64 (it a).n, .int .i64 (it a).d, .int .i64 (it a).mn, .int .i64 (it a).mx] := by unfold It.val It.cells; rw [k1]
        rw [ev] at hxe
        cases ws with
        | nil =>
          have st := tk_n1N on n k ck vn offn i 0 0 a b0 bn ri b0 b0 (ints n h) ext g (y i).a (y i).b (y i).c (it a).n (it a).d (it a).mn (it a).mx (h a) (by omega) hx he (by omega) (by omega) (by omega) (by omega) (gside_does _ _) w2 hxi hxe (by omega)
          refine st.post ?_
          simp only [List.nil_append, List.cons_append, wv, wr, wk, List.length_append, List.length_cons, List.length_nil, Nat.zero_add]
          exact Ent.drop (by kernel_rfl) (by kernel_rfl) (by kernel_rfl) (by kernel_rfl) (by simp [All_cons, All_nil, Clo, d4] <;> simp [Ids]) (by simp only [List.map, All_cons, All_nil, and_true]; exact ⟨hb0.clo _, hbn.clo _, hri.clo _, fun e he => (ints_bare _ _ e he).clo _⟩)
        | cons t r =>
          have st := tk_n1G on n k ck vn offn i (r.length + 1) r.length a b0 bn ri (nrow t r) b0 (ints n h) ext g (y i).a (y i).b (y i).c (it a).n (it a).d (it a).mn (it a).mx (h a) (by omega) hx he (by omega) (by omega) (by omega) (by omega) (gside_does _ _) w2 hxi hxe (by omega)
          refine st.post ?_
          simp only [List.nil_append, List.cons_append, wv, wr, wk, List.length_append, List.length_cons, List.length_nil, Nat.zero_add]
          exact Ent.drop (by kernel_rfl) (by kernel_rfl) (by kernel_rfl) (by kernel_rfl) (by simp [All_cons, All_nil, Clo, d5] <;> simp [Ids]) (by simp only [List.map, All_cons, All_nil, and_true]; exact ⟨hb0.clo _, hbn.clo _, hri.clo _, fun e he => (ints_bare _ _ e he).clo _, (nrow_bare _ _).clo _⟩)
  · rw [if_neg ok]
    have c3 : (y i).a < 0 ∨ (¬ (y i).a < 0 ∧ (y i).a ≥ n) ∨ (¬ (y i).a < 0 ∧ ¬ (y i).a ≥ n ∧ (y i).b < 1) := by unfold okN at ok; omega
    cases ws with
    | nil =>
      rcases c3 with c | ⟨c, c2⟩ | ⟨c, c2, c3⟩
      · have st := tk_s1N on n k ck vn offn i 0 0 0 b0 bn ri b0 b0 (ints n h) ext g (y i).a (y i).b (y i).c 0 0 0 0 0 (by omega) hx he c (by omega)
        refine st.post ?_
        simp only [List.nil_append, List.cons_append, wv, wr, wk, List.length_append, List.length_cons, List.length_nil, Nat.zero_add]
        exact Ent.drop (by kernel_rfl) (by kernel_rfl) (by kernel_rfl) (by kernel_rfl) (by simp [All_cons, All_nil, Clo, d4] <;> simp [Ids]) (by simp only [List.map, All_cons, All_nil, and_true]; exact ⟨hb0.clo _, hbn.clo _, hri.clo _, fun e he => (ints_bare _ _ e he).clo _⟩)
      · have st := tk_s2N on n k ck vn offn i 0 0 0 b0 bn ri b0 b0 (ints n h) ext g (y i).a (y i).b (y i).c 0 0 0 0 0 (by omega) hx he c c2 (by omega)
        refine st.post ?_
        simp only [List.nil_append, List.cons_append, wv, wr, wk, List.length_append, List.length_cons, List.length_nil, Nat.zero_add]
        exact Ent.drop (by kernel_rfl) (by kernel_rfl) (by kernel_rfl) (by kernel_rfl) (by simp [All_cons, All_nil, Clo, d4] <;> simp [Ids]) (by simp only [List.map, All_cons, All_nil, and_true]; exact ⟨hb0.clo _, hbn.clo _, hri.clo _, fun e he => (ints_bare _ _ e he).clo _⟩)
      · have st := tk_s3N on n k ck vn offn i 0 0 0 b0 bn ri b0 b0 (ints n h) ext g (y i).a (y i).b (y i).c 0 0 0 0 0 (by omega) hx he c c2 c3 (by omega)
        refine st.post ?_
        simp only [List.nil_append, List.cons_append, wv, wr, wk, List.length_append, List.length_cons, List.length_nil, Nat.zero_add]
        exact Ent.drop (by kernel_rfl) (by kernel_rfl) (by kernel_rfl) (by kernel_rfl) (by simp [All_cons, All_nil, Clo, d4] <;> simp [Ids]) (by simp only [List.map, All_cons, All_nil, and_true]; exact ⟨hb0.clo _, hbn.clo _, hri.clo _, fun e he => (ints_bare _ _ e he).clo _⟩)
    | cons t r =>
      rcases c3 with c | ⟨c, c2⟩ | ⟨c, c2, c3⟩
      · have st := tk_s1G on n k ck vn offn i (r.length + 1) r.length 0 b0 bn ri (nrow t r) b0 (ints n h) ext g (y i).a (y i).b (y i).c 0 0 0 0 0 (by omega) hx he c (by omega)
        refine st.post ?_
        simp only [List.nil_append, List.cons_append, wv, wr, wk, List.length_append, List.length_cons, List.length_nil, Nat.zero_add]
        exact Ent.drop (by kernel_rfl) (by kernel_rfl) (by kernel_rfl) (by kernel_rfl) (by simp [All_cons, All_nil, Clo, d5] <;> simp [Ids]) (by simp only [List.map, All_cons, All_nil, and_true]; exact ⟨hb0.clo _, hbn.clo _, hri.clo _, fun e he => (ints_bare _ _ e he).clo _, (nrow_bare _ _).clo _⟩)
      · have st := tk_s2G on n k ck vn offn i (r.length + 1) r.length 0 b0 bn ri (nrow t r) b0 (ints n h) ext g (y i).a (y i).b (y i).c 0 0 0 0 0 (by omega) hx he c c2 (by omega)
        refine st.post ?_
        simp only [List.nil_append, List.cons_append, wv, wr, wk, List.length_append, List.length_cons, List.length_nil, Nat.zero_add]
        exact Ent.drop (by kernel_rfl) (by kernel_rfl) (by kernel_rfl) (by kernel_rfl) (by simp [All_cons, All_nil, Clo, d5] <;> simp [Ids]) (by simp only [List.map, All_cons, All_nil, and_true]; exact ⟨hb0.clo _, hbn.clo _, hri.clo _, fun e he => (ints_bare _ _ e he).clo _, (nrow_bare _ _).clo _⟩)
      · have st := tk_s3G on n k ck vn offn i (r.length + 1) r.length 0 b0 bn ri (nrow t r) b0 (ints n h) ext g (y i).a (y i).b (y i).c 0 0 0 0 0 (by omega) hx he c c2 c3 (by omega)
        refine st.post ?_
        simp only [List.nil_append, List.cons_append, wv, wr, wk, List.length_append, List.length_cons, List.length_nil, Nat.zero_add]
        exact Ent.drop (by kernel_rfl) (by kernel_rfl) (by kernel_rfl) (by kernel_rfl) (by simp [All_cons, All_nil, Clo, d5] <;> simp [Ids]) (by simp only [List.map, All_cons, All_nil, and_true]; exact ⟨hb0.clo _, hbn.clo _, hri.clo _, fun e he => (ints_bare _ _ e he).clo _, (nrow_bare _ _).clo _⟩)

theorem nst_len (h0 : Nat → Int) : ∀ i, (nst n it h0 y i).2.length ≤ i
  | 0 => Nat.le_refl _
  | i + 1 => by
    have := nst_len h0 i
    simp only [nst, nstep]
    split
    · split
      · simp; omega
      · split
        · exact Nat.le_succ_of_le this
        · exact Nat.le_succ_of_le this
    · omega
theorem tk_loop1 (h0 : Nat → Int) : ∀ (f i : Nat), i + f = k → Loops Try.prog 2 182 (loopAt Try.prog 18 1) [(0, .slice (some ⟨11, 0, 0, 0, 5⟩) n n), (2, .int .i64 ext), (3, .int .i64 g), (9, .slice (some ⟨15, 0, 0, 0, 1⟩) n n), (12, wv (nst n it h0 y i).2), (61, .slice on k ck), (62, .int .i64 k), (63, .int .i64 i)] (tkH (wk (nst n it h0 y i).2) b0 bn ri n (nst n it h0 y i).1 (wr (nst n it h0 y i).2)) (.exit 3) [(0, .slice (some ⟨11, 0, 0, 0, 5⟩) n n), (2, .int .i64 ext), (3, .int .i64 g), (9, .slice (some ⟨15, 0, 0, 0, 1⟩) n n), (12, wv (nst n it h0 y k).2)] (tkH 110 b0 bn ri n (nst n it h0 y k).1 (wr (nst n it h0 y k).2))
  | 0, i, e => by
    obtain rfl : i = k := by omega
    have d4 : Clo (Ids [0, 1, 11, 15]) (.slice on i ck) := sn.clo (by simp [Ids])
    have d5 : Clo (Ids [0, 1, 11, 15, 91]) (.slice on i ck) := sn.clo (by simp [Ids])
    generalize nst n it h0 y i = s
    obtain ⟨h, ws⟩ := s
    cases ws with
    | nil =>
      refine (Loops.last (by simp) (tk_e1N on n i ck vn offn i 0 0 0 b0 bn ri b0 b0 (ints n h) ext g 0 0 0 0 0 0 0 0 (by omega))).post ?_
      simp only [List.nil_append, List.cons_append, wv, wr, wk, List.length_append, List.length_cons, List.length_nil, Nat.zero_add]
      exact Ent.drop (by kernel_rfl) (by kernel_rfl) (by kernel_rfl) (by kernel_rfl) (by simp [All_cons, All_nil, Clo, d4] <;> simp [Ids]) (by simp only [List.map, All_cons, All_nil, and_true]; exact ⟨hb0.clo _, hbn.clo _, hri.clo _, fun e he => (ints_bare _ _ e he).clo _⟩)
    | cons t r =>
      refine (Loops.last (by simp) (tk_e1G on n i ck vn offn i (r.length + 1) r.length 0 b0 bn ri (nrow t r) b0 (ints n h) ext g 0 0 0 0 0 0 0 0 (by omega))).post ?_
      simp only [List.nil_append, List.cons_append, wv, wr, wk, List.length_append, List.length_cons, List.length_nil, Nat.zero_add]
      exact Ent.drop (by kernel_rfl) (by kernel_rfl) (by kernel_rfl) (by kernel_rfl) (by simp [All_cons, All_nil, Clo, d5] <;> simp [Ids]) (by simp only [List.map, All_cons, All_nil, and_true]; exact ⟨hb0.clo _, hbn.clo _, hri.clo _, fun e he => (ints_bare _ _ e he).clo _, (nrow_bare _ _).clo _⟩)
  | f + 1, i, e => by
    have ih := tk_loop1 h0 f (i + 1) (by omega)
    have := nst_len hn hk hb0 hbn hri hel hok sn hye h0 i
    exact Loops.step (tk_step1 hn hk hb0 hbn hri hel hok sn hye ext g (by omega) (nst n it h0 y i).1 (nst n it h0 y i).2 (by omega)) ih
end

section
variable {n : Nat} {b0 bn ri : ABlk} {it : Nat → It} {h0 : Nat → Int} (hn : n ≤ 4096) (hb0 : BareB b0) (hbn : BareB bn) (hri : BareB ri) (hel : ∀ j, j < n → ri.elem? 0 (0 + j) = some (it j).val) (hok : ∀ j, j < n → ItOk (it j)) (eh0 : ∀ j, j < n → h0 j = has0 (it j)) (ext : Int) {g M B : Int} (hg : 0 ≤ g ∧ g ≤ 4096) (hM : 0 ≤ M ∧ M ≤ 4096)
include hn hb0 hbn hri hel hok eh0 hg hM

theorem tk_loop2 {vv q : Nat} {rw_ : ABlk} (hrw : BareB rw_) {w : Nat → Tr} {h : Nat → Int} (hi0 : HInv n it h0 h B) (hB : B + M * q ≤ 2 ^ 30) (hq : q ≤ 4096) (hw : ∀ i, i < q → WideOk n M (w i)) (hwe : ∀ i, i < q → rw_.elem? vv (0 + i) = some (w i).val) : ∀ (f i : Nat), i + f = q →
    Loops Try.prog 2 182 (loopAt Try.prog 18 2) [(0, .slice (some ⟨11, 0, 0, 0, 5⟩) n n), (2, .int .i64 ext), (3, .int .i64 g), (9, .slice (some ⟨15, 0, 0, 0, 1⟩) n n), (124, .slice (some ⟨91, vv, 0, 0, 3⟩) q q), (125, .int .i64 q), (126, .int .i64 i)] (tkH 120 b0 bn ri n (sst it g w h i) [(91, rw_)]) (.exit 5) [(0, .slice (some ⟨11, 0, 0, 0, 5⟩) n n), (2, .int .i64 ext), (3, .int .i64 g), (9, .slice (some ⟨15, 0, 0, 0, 1⟩) n n)] (tkH 124 b0 bn ri n (sst it g w h q) [(91, rw_)])
  | 0, i, e => by
    obtain rfl : i = q := by omega
    refine (Loops.last (by simp) (tk_se n i i vv 0 0 b0 bn ri rw_ (ints n (sst it g w h i)) [] ext g 0 (by omega))).post ?_
    exact Ent.drop (by kernel_rfl) (by kernel_rfl) (by kernel_rfl) (by kernel_rfl) (by simp [All_cons, All_nil, Clo] <;> simp [Ids]) (by simp only [List.map, All_cons, All_nil, and_true]; exact ⟨hb0.clo _, hbn.clo _, hri.clo _, fun e he => (ints_bare _ _ e he).clo _, hrw.clo _⟩)
  | f + 1, i, e => by
    have hi : i < q := by omega
    have inv := (sst_inv hg.1 (M := M) hi0 i fun j hj => hw j (by omega)).1
    obtain ⟨w1, w2, w3, w4, w5⟩ := hw i hi
    have we := hwe i hi
    obtain ⟨a, ha⟩ : ∃ a : Nat, (w i).a = (a : Int) := ⟨(w i).a.toNat, by omega⟩
    obtain ⟨m, hm⟩ : ∃ m : Nat, (w i).b = (m : Int) := ⟨(w i).b.toNat, by omega⟩
    have hta : (w i).a.toNat = a := by omega
    have htm : (w i).b.toNat = m := by omega
    have ev : (w i).val = .agg [.int .i64 a, .int .i64 m, .int .i64 (w i).c] := by unfold Tr.val; rw [ha, hm]
    rw [ev] at we
    have hmi : M * (i : Int) ≤ M * (q : Int) := Int.mul_le_mul_of_nonneg_left (by omega) hM.1
    have spr : Spr (fun j => it (a + j)) (fun j => sst it g w h i (a + j)) m := ⟨fun j hj => by
      have l := inv.le (a + j) (by omega)
      have lo := inv.lo (a + j) (by omega)
      have e0 := eh0 (a + j) (by omega)
      rcases hok (a + j) (by omega) with ⟨k0, k1, k2, k3, k4, k5⟩ | ⟨k0, k1, k2, k3, k4, k5⟩
      · rw [e0, has0, if_pos k0] at lo
        exact ⟨.inl k0, k3, lo, l.1, by omega⟩
      · exact ⟨.inr k0, k5, by show (it (a + j)).mn ≤ _; rw [k4]; exact l.1, l.1, by omega⟩⟩
    have asl1 : aslice env.D 30 (.slice (some ⟨11, 0, 0, 0, 5⟩) n n) (some (.int .i64 a)) (some (.int .i64 ((a : Int) + (m : Int)))) none = some (.slice (some ⟨11, 0, a, 0, 5⟩) m (n - a)) := by
      obtain ⟨d, xd, t1, t2, t3, t4, t5, t6, t7⟩ := slIt9.ty
      exact aslice_mid t1 t2 t3 t4.symm (by omega)
    have asl2 : aslice env.D 32 (.slice (some ⟨15, 0, 0, 0, 1⟩) n n) (some (.int .i64 a)) (some (.int .i64 ((a : Int) + (m : Int)))) none = some (.slice (some ⟨15, 0, a, 0, 1⟩) m (n - a)) := by
      obtain ⟨d, xd, t1, t2, t3, t4, t5, t6, t7⟩ := slInt.ty
      exact aslice_mid t1 t2 t3 t4.symm (by omega)
    have sp : FDoes Try.prog 44 [.slice (some ⟨11, 0, a, 0, 5⟩) m (n - a), .slice (some ⟨15, 0, a, 0, 1⟩) m (n - a), .int .i64 (w i).c, .int .i64 g] (tkH 147 b0 bn ri n (sst it g w h i) [(91, rw_), (123, .made [.agg [.int .i64 a, .int .i64 m, .int .i64 (w i).c]] 3 true)]) (.tuple []) ((tkH 147 b0 bn ri n (sst it g w h i) [(91, rw_), (123, .made [.agg [.int .i64 a, .int .i64 m, .int .i64 (w i).c]] 3 true)]).upd [11, 15] [ri, .made (ints n (sst it g w h (i + 1))) 1 true]) := by
      have q := spread_does (H := tkH 147 b0 bn ri n (sst it g w h i) [(91, rw_), (123, .made [.agg [.int .i64 a, .int .i64 m, .int .i64 (w i).c]] 3 true)]) (oi := some ⟨11, 0, a, 0, 5⟩) (oh := some ⟨15, 0, a, 0, 1⟩) (m := m) (ci := n - a) (ch := n - a) (ii := 11) (ih := 15) (offi := a) (offh := a) (N := n) (bi := ri) (it := it) (h := sst it g w h i) (by omega) (.inl rfl) (.inl rfl) hri (by omega) hn (fun j hj => by have := hel (a + j) (by omega); rwa [Nat.zero_add] at this) spr (fun k hk => by have := inv.le k hk; omega) (size := (w i).c) (gap := g) (by omega) hg (by omega) (by kernel_rfl) (by kernel_rfl) (Nat.le_of_ble_eq_true (by kernel_rfl)) (Nat.le_of_ble_eq_true (by kernel_rfl)) (by decide)
      have e : sst it g w h (i + 1) = sprZ it (sst it g w h i) a a m (w i).c g := by simp only [sst]; rw [hta, htm]
      rw [e]; exact q
    have st := tk_sp n i q vv a m b0 bn ri rw_ (ints n (sst it g w h i)) (ints n (sst it g w h (i + 1))) ext g (w i).c (by omega) (ix_neS (.inl rfl) hi) we (by omega) asl1 (by omega) asl2 (sp.to (by kernel_rfl)) (by omega)
    refine Loops.round st ?_ (tk_loop2 hrw hi0 hB hq hw hwe f (i + 1) (by omega))
    exact Ent.drop (by kernel_rfl) (by kernel_rfl) (by kernel_rfl) (by kernel_rfl) (by simp [All_cons, All_nil, Clo] <;> simp [Ids]) (by simp only [List.map, All_cons, All_nil, and_true]; exact ⟨hb0.clo _, hbn.clo _, hri.clo _, fun e he => (ints_bare _ _ e he).clo _, hrw.clo _⟩)
end
section
variable {n : Nat} {b0 bn : ABlk} {it : Nat → It} {h : Nat → Int} (hn : n ≤ 4096) (hb0 : BareB b0) (hbn : BareB bn) (hok : ∀ j, j < n → ItOk (it j)) (hh : ∀ j, j < n → 0 ≤ h j ∧ h j ≤ 4096) (hfix : ∀ j, j < n → (it j).k = 1 → h j = (it j).n) (ext g : Int)
include hn hb0 hbn hok hh hfix

theorem tk_loop3 : ∀ (f i : Nat), i + f = n → Loops Try.prog 2 182 (loopAt Try.prog 18 3) [(0, .slice (some ⟨11, 0, 0, 0, 5⟩) n n), (2, .int .i64 ext), (3, .int .i64 g), (9, .slice (some ⟨15, 0, 0, 0, 1⟩) n n), (153, .slice (some ⟨11, 0, 0, 0, 5⟩) n n), (154, .int .i64 n), (155, .int .i64 i)] (tkH 40 b0 bn (.made (frows n fun j => if j < i then fixI (h j) (it j).mn else it j) 5 false) n h []) (.exit 7) [(0, .slice (some ⟨11, 0, 0, 0, 5⟩) n n), (2, .int .i64 ext), (3, .int .i64 g)] (tkH 60 b0 bn (.made (frows n fun j => fixI (h j) (it j).mn) 5 false) n h [])
  | 0, i, e => by
    obtain rfl : i = n := by omega
    have ee : (frows i fun j => if j < i then fixI (h j) (it j).mn else it j) = frows i fun j => fixI (h j) (it j).mn := frows_congr fun j hj => by rw [if_pos hj]
    unfold tkH
    rw [ee]
    refine (Loops.last (by simp) (tk_fe i i b0 bn (frows i fun j => fixI (h j) (it j).mn) (ints i h) ext g 0 0 0 0 0 (by omega))).post ?_
    exact Ent.drop (by kernel_rfl) (by kernel_rfl) (by kernel_rfl) (by kernel_rfl) (by simp [All_cons, All_nil, Clo] <;> simp [Ids]) (by simp only [List.map, All_cons, All_nil, and_true]; exact ⟨hb0.clo _, hbn.clo _, (frows_bare _ _ _).clo _, fun e he => (ints_bare _ _ e he).clo _⟩)
  | f + 1, i, e => by
    have hi : i < n := by omega
    have ih := tk_loop3 f (i + 1) (by omega)
    have e0 := frows_step (n := n) (y := fun j => fixI (h j) (it j).mn) (z := it) (i := i)
    have hg0 : (frows n fun j => if j < i then fixI (h j) (it j).mn else it j)[0 + i]? = some (it i).val := by rw [Nat.zero_add, frows_get hi, if_neg (by omega)]
    have hgh : (ints n h)[0 + i]? = some (.int .i64 (h i)) := by rw [Nat.zero_add]; exact ints_get hi
    have hhi := hh i hi
    rcases hok i hi with ⟨k0, k1, k2, k3, k4, k5⟩ | ⟨k0, k1, k2, k3, k4, k5⟩
    · have ev : (it i).val = .agg [.int .i8 0, .int .i64 (it i).n, .int .i64 (it i).d, .int .i64 (it i).mn, .int .i64 (it i).mx] := by unfold It.val It.cells; rw [k0]
      rw [ev] at hg0
      have st := tk_f0 n i b0 bn (frows n fun j => if j < i then fixI (h j) (it j).mn else it j) (ints n h) ext g (it i).n (it i).d (it i).mn (it i).mx (h i) (by omega) (ix_itS (.inl rfl) hi) (elem_made hg0) (ix_intN (.inl rfl) hi) (elem_made hgh) (ix_itS (.inl rfl) hi) ⟨rfl, hg0⟩ (by omega)
      have en : (AVal.agg [.int .i8 1, .int .i64 (if 4096 < h i then 4096 else h i), .int .i64 0, .int .i64 (it i).mn, .int .i64 (it i).mx]) = (fixI (h i) (it i).mn).val := by rw [if_neg (by omega), k3]; rfl
      rw [en, Nat.zero_add, e0] at st
      refine Loops.round st ?_ ih
      exact Ent.drop (by kernel_rfl) (by kernel_rfl) (by kernel_rfl) (by kernel_rfl) (by simp [All_cons, All_nil, Clo] <;> simp [Ids]) (by simp only [List.map, All_cons, All_nil, and_true]; exact ⟨hb0.clo _, hbn.clo _, (frows_bare _ _ _).clo _, fun e he => (ints_bare _ _ e he).clo _⟩)
    · have ev : (it i).val = .agg [.int .i8 1, .int .i64 (it i).n, .int .i64 (it i).d, .int .i64 (it i).mn, .int .i64 (it i).mx] := by unfold It.val It.cells; rw [k0]
      rw [ev] at hg0
      have es : it i = fixI (h i) (it i).mn := by
        rw [hfix i hi k0]
        unfold fixI
        generalize it i = t at *
        obtain ⟨k, n, d, mn, mx⟩ := t
        simp only at k0 k3 k5 ⊢
        rw [k0, k3, k5]
      have er : (frows n fun j => if j < i then fixI (h j) (it j).mn else it j) = frows n fun j => if j < i + 1 then fixI (h j) (it j).mn else it j := frows_congr fun j hj => by
        by_cases c : j < i
        · rw [if_pos c, if_pos (by omega)]
        · by_cases c2 : j = i
          · subst c2; rw [if_neg (by omega), if_pos (by omega)]; exact es
          · rw [if_neg c, if_neg (by omega)]
      have st := tk_f1 n i b0 bn (frows n fun j => if j < i then fixI (h j) (it j).mn else it j) (ints n h) ext g (it i).n (it i).d (it i).mn (it i).mx (h i) (by omega) (ix_itS (.inl rfl) hi) (elem_made hg0) (by omega)
      rw [← er] at ih
      refine Loops.round st ?_ ih
      exact Ent.drop (by kernel_rfl) (by kernel_rfl) (by kernel_rfl) (by kernel_rfl) (by simp [All_cons, All_nil, Clo] <;> simp [Ids]) (by simp only [List.map, All_cons, All_nil, and_true]; exact ⟨hb0.clo _, hbn.clo _, (frows_bare _ _ _).clo _, fun e he => (ints_bare _ _ e he).clo _⟩)
end

def saysUnit : Option (AVal × AHeap) → Bool
  | some (.tuple [], _) => true
  | _ => false
theorem saysUnit_spec {o : Option (AVal × AHeap)} (h : saysUnit o = true) : ∃ h', o = some (.tuple [], h') := by
  unfold saysUnit at h
  split at h
  · exact ⟨_, rfl⟩
  · cases h
theorem sortN_run : saysUnit (fcall Try.prog env 300 42 [.slice none 0 0, .func (.func 43) [] []] ⟨0, .nil⟩) = true := by decide +kernel
theorem sortN_does (H : AHeap) : FDoes Try.prog 42 [.slice none 0 0, .func (.func 43) [] []] H (.tuple []) H := by
  obtain ⟨h', hc⟩ := saysUnit_spec sortN_run
  rw [fcall_eq] at hc
  exact (FDoes.of_acall env_ok mixed hc).bare (by simp [Bare, AVal.ren, AVal.rens, Clo, Clos]) ⟨fun _ => rfl, by simp [Clo, Clos]⟩ H
theorem cmp_does {x y : Tr} (h : -9223372036854775808 ≤ x.b - y.b ∧ x.b - y.b ≤ 9223372036854775807) (H : AHeap) : FDoes Try.prog 43 [x.val, y.val] H (.int .i64 (x.b - y.b)) H :=
  (tk_cmp x.a x.b x.c y.a y.b y.c h).bare (by simp; exact ⟨x.bare, y.bare⟩) (Bare.int _ _) H

end Go.Proofs.Ytcgcpmcjaeenlaa
