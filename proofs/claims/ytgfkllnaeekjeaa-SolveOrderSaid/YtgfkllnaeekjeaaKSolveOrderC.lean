/-
  Parts of the proof, one behind the other:
  SORTING, the walk: insertion.
  SORTING, the walk: slices.symMergeCmpFunc.
  SORTING, the walk: symMerge, its searches and the cases of one thing.
-/
import Derived.Test.YtgfkllnaeekjeaaKSolveOrderB

namespace Go.Proofs.Ytgfkllnaeekjeaa
open Go.Lift
set_option maxRecDepth 1000000
set_option linter.unusedSimpArgs false
set_option linter.unusedVariables false
set_option linter.unusedSectionVars false

/-- the function that compares, called while it is sorted -/
def CmpOk (N : Nat) (g : FuncId) (cs : List AVal) (b1 b2 : ABlk) (less : Nat → Nat → Bool) : Prop :=
  ∀ (K : Nat) (π : Nat → Nat) (p q : Nat), 3 ≤ K → p < N → q < N → ∃ c : Int, (c < 0 ↔ less p q = true) ∧ FDoes Try.prog g (.int .i64 p :: .int .i64 q :: cs) (SH K N π b1 b2) (.int .i64 c) (SH K N π b1 b2)

/-- numbers of what there is -/
def InN (N : Nat) (π : Nat → Nat) : Prop := ∀ k, k < N → π k < N
theorem InN.same {N : Nat} {π ρ : Nat → Nat} {a b : Nat} (h : InN N π) (k : Same π ρ a b) (hb : b ≤ N) : InN N ρ := by
  intro j hj
  by_cases c : a ≤ j ∧ j < b
  · obtain ⟨i, h1, h2, h3⟩ := k.from c.1 c.2
    rw [h3]; exact h i (by omega)
  · rw [k.out j (by omega)]; exact h j hj

section
variable {N : Nat} (hN : N < 2 ^ 44) {b1 b2 : ABlk} (c1 : CloB (fun i => i < 3) b1) (c2 : CloB (fun i => i < 3) b2) {g : FuncId} {cs : List AVal} (hcs : Clos (fun i => i < 3) cs) {less : Nat → Nat → Bool} (hw : Weak less) (hcmp : CmpOk N g cs b1 b2 less)
include hN c1 c2 hcs hw hcmp

theorem ins_in {a b i : Nat} (ρ : Nat → Nat) (hρ : InN N ρ) (hai : a ≤ i) (hi : i < N) : ∀ (j : Nat), a ≤ j → j ≤ i → (∀ k, j ≤ k → k < i → less (ρ i) (ρ k) = true) →
    ∃ j', a ≤ j' ∧ j' ≤ i ∧ (∀ k, j' ≤ k → k < i → less (ρ i) (ρ k) = true) ∧ (j' = a ∨ less (ρ i) (ρ (j' - 1)) = false) ∧
    Loops Try.prog 3 53 (loopAt Try.prog 63 1) [(0, .slice (some ⟨0, 0, 0, 0, 1⟩) N N), (1, .int .i64 a), (2, .int .i64 b), (3, .func (.func g) [] cs), (8, .int .i64 i), (9, .int .i64 j)] (SH 11 N (insAt ρ j i) b1 b2)
      (.exit 2) [(0, .slice (some ⟨0, 0, 0, 0, 1⟩) N N), (1, .int .i64 a), (2, .int .i64 b), (3, .func (.func g) [] cs), (8, .int .i64 i)] (SH 28 N (insAt ρ j' i) b1 b2)
  | 0, h1, h2, h3 => by
    obtain rfl : a = 0 := by omega
    exact ⟨0, by omega, by omega, h3, .inl rfl, Loops.last (by simp) (ins_in_a N g cs _ b1 b2 0 b i 0 (by omega))⟩
  | j + 1, h1, h2, h3 => by
    by_cases ha : a = j + 1
    · subst ha
      exact ⟨j + 1, by omega, h2, h3, .inl rfl, Loops.last (by simp) (ins_in_a N g cs _ b1 b2 (j + 1) b i (j + 1) (by omega))⟩
    · have ex : insAt ρ (j + 1) i (j + 1) = ρ i := by unfold insAt; rw [if_pos rfl]
      have ey : insAt ρ (j + 1) i j = ρ j := by unfold insAt; rw [if_neg (by omega), if_neg (by omega)]
      have hix : aindexAddr env.D 27 (.slice (some ⟨0, 0, 0, 0, 1⟩) N N) (.int .i64 ((j + 1 : Nat) : Int)) = some (.ptr (some ⟨0, 0, j + 1, 0, 1⟩)) := ixS rfl (by omega)
      have hiy : aindexAddr env.D 27 (.slice (some ⟨0, 0, 0, 0, 1⟩) N N) (.int .i64 (((j + 1 : Nat) : Int) - 1)) = some (.ptr (some ⟨0, 0, j + 1 - 1, 0, 1⟩)) := ixS (by omega) (by omega)
      have hex : (ABlk.made (ints N fun k => (insAt ρ (j + 1) i k : Int)) 1 true).elem? 0 (j + 1) = some (.int .i64 (ρ i : Int)) := by rw [ints_el (by omega), ex]
      have hey : (ABlk.made (ints N fun k => (insAt ρ (j + 1) i k : Int)) 1 true).elem? 0 (j + 1 - 1) = some (.int .i64 (ρ j : Int)) := by rw [ints_el (by omega), show j + 1 - 1 = j by omega, ey]
      obtain ⟨c, hc, hf⟩ := hcmp 28 (insAt ρ (j + 1) i) (ρ i) (ρ j) (by omega) (hρ i hi) (hρ j (by omega))
      by_cases hl : less (ρ i) (ρ j) = true
      · obtain ⟨j', q1, q2, q3, q4, q5⟩ := ins_in ρ hρ hai hi j (by omega) (by omega) (fun k hk hki => by
          by_cases e : k = j
          · subst e; exact hl
          · exact h3 k (by omega) hki)
        refine ⟨j', q1, q2, q3, q4, ?_⟩
        have s := ins_in_step N g cs (ints N fun k => (insAt ρ (j + 1) i k : Int)) b1 b2 a b i (j + 1) (ρ i : Int) (ρ j : Int) c _ _ (by omega) hix hex (by omega) hiy hey hf (hc.2 hl) (by omega) (by omega) hiy hey hix hex hix ⟨rfl, ints_get (by omega)⟩ hiy ⟨rfl, ints_set_get (by omega)⟩ (by omega)
        have e : ((ints N fun k => (insAt ρ (j + 1) i k : Int)).set (j + 1) (.int .i64 (ρ j : Int))).set (j + 1 - 1) (.int .i64 (ρ i : Int)) = ints N fun k => (insAt ρ j i k : Int) := by
          rw [ints_set, ints_set]
          refine ints_congr fun k hk => ?_
          have h := congrFun (insAt_step ρ (j := j + 1) (i := i) (by omega) (by omega)) k
          rw [show j + 1 - 1 = j by omega] at h ⊢
          rw [← h]
          unfold swap1
          rw [ex, ey]
          by_cases e1 : k = j
          · rw [if_pos e1, if_pos e1]
          · rw [if_neg e1, if_neg e1]
            by_cases e2 : k = j + 1
            · rw [if_pos e2, if_pos e2]
            · rw [if_neg e2, if_neg e2]
        rw [e, show ((j + 1 : Nat) : Int) - 1 = (j : Int) by omega] at s
        exact Loops.round s (SDrop c1 c2 (by omega) (by kernel_rfl) (by simp [All_cons, All_nil, Clo, Clos, clos3 hcs]; simp [Ids])) q5
      · have hl : less (ρ i) (ρ j) = false := by simpa using hl
        refine ⟨j + 1, by omega, h2, h3, .inr (by rw [show j + 1 - 1 = j by omega]; exact hl), ?_⟩
        have s := ins_in_out N g cs (ints N fun k => (insAt ρ (j + 1) i k : Int)) b1 b2 a b i (j + 1) (ρ i : Int) (ρ j : Int) c (by omega) hix hex (by omega) hiy hey hf (fun h => by have := hc.1 h; rw [hl] at this; cases this)
        exact Loops.last (by simp) s

theorem ins_out {a b : Nat} (π : Nat → Nat) (hπ : InN N π) (hab : a < b) (hb : b ≤ N) (hinc : ∀ i j, a ≤ i → i < j → j < b → π i < π j) : ∀ (fuel i : Nat) (ρ : Nat → Nat), i + fuel = b → a < i → Same π ρ a i → Srt less ρ a i →
    ∃ σ, Same π σ a b ∧ Srt less σ a b ∧ Loops Try.prog 3 53 (loopAt Try.prog 63 0) [(0, .slice (some ⟨0, 0, 0, 0, 1⟩) N N), (1, .int .i64 a), (2, .int .i64 b), (3, .func (.func g) [] cs), (8, .int .i64 i)] (SH 6 N ρ b1 b2) (.exit 0) [] (SH 9 N σ b1 b2)
  | 0, i, ρ, e, h1, h2, h3 => by
    obtain rfl : i = b := by omega
    exact ⟨ρ, h2, h3, Loops.last (by simp) (ins_end N g cs _ b1 b2 a i i (by omega))⟩
  | fuel + 1, i, ρ, e, h1, h2, h3 => by
    have hρ : InN N ρ := hπ.same h2 (by omega)
    obtain ⟨j, q1, q2, q3, q4, q5⟩ := ins_in hN c1 c2 hcs hw hcmp (a := a) (b := b) ρ hρ (by omega) (by omega : i < N) i (by omega) (by omega) (fun k _ _ => by omega)
    rw [insAt_self] at q5
    have hi : ρ i = π i := h2.out i (by omega)
    have hlt : ∀ k, a ≤ k → k < i → ρ k < ρ i := by
      intro k hk hki
      obtain ⟨m, m1, m2, m3⟩ := h2.from hk hki
      rw [m3, hi]; exact hinc m i m1 m2 (by omega)
    have hs := ins_done hw h3 hlt q1 q2 q3 q4
    have hsame : Same π (insAt ρ j i) a (i + 1) := (h2.wide (by omega) (by omega) (by omega)).trans (by
      rw [insAt_rot ρ q2]
      exact (rotF_same ρ q2 (by omega)).wide (by omega) (by omega) (by omega))
    obtain ⟨σ, r1, r2, r3⟩ := ins_out π hπ hab hb hinc fuel (i + 1) (insAt ρ j i) (by omega) (by omega) hsame hs
    refine ⟨σ, r1, r2, ?_⟩
    have s := ins_step N g cs (ints N fun k => (ρ k : Int)) b1 b2 a b i (ints N fun k => (insAt ρ j i k : Int)) (by omega) (Runs.of_loops q5) (by omega)
    exact Loops.round s (SDrop c1 c2 (by omega) (by kernel_rfl) (by simp [All_cons, All_nil, Clo, Clos, clos3 hcs]; simp [Ids])) r3

/-- a block put in order -/
theorem ins_does {a b : Nat} (π : Nat → Nat) (hπ : InN N π) (hab : a ≤ b) (hb : b ≤ N) (hinc : ∀ i j, a ≤ i → i < j → j < b → π i < π j) {ea eb : Int} (ha : ea = a) (hb' : eb = b) :
    ∃ σ, Same π σ a b ∧ Srt less σ a b ∧ ∀ K, 3 ≤ K → FDoes Try.prog 63 [.slice (some ⟨0, 0, 0, 0, 1⟩) N N, .int .i64 ea, .int .i64 eb, .func (.func g) [] cs] (SH K N π b1 b2) (.tuple []) (SH K N σ b1 b2) := by
  subst ha hb'
  have fin : ∀ σ, Loops Try.prog 3 53 (loopAt Try.prog 63 0) [(0, .slice (some ⟨0, 0, 0, 0, 1⟩) N N), (1, .int .i64 a), (2, .int .i64 b), (3, .func (.func g) [] cs), (8, .int .i64 (a + 1 : Nat))] (SH 6 N π b1 b2) (.exit 0) [] (SH 9 N σ b1 b2) →
      ∀ K, 3 ≤ K → FDoes Try.prog 63 [.slice (some ⟨0, 0, 0, 0, 1⟩) N N, .int .i64 a, .int .i64 b, .func (.func g) [] cs] (SH K N π b1 b2) (.tuple []) (SH K N σ b1 b2) := by
    intro σ l K hK
    exact (ins_call N g cs _ b1 b2 a b _ (by omega) (Runs.of_loops l)).all3 (by kernel_rfl) ⟨fun _ => rfl, by simp [Clo, Clos]⟩ (srow_clo _ _ _) (srow_clo _ _ _) c1 c2 (by simp [Clos, Clo, hcs]) hK
  by_cases h : a < b
  · obtain ⟨σ, r1, r2, r3⟩ := ins_out hN c1 c2 hcs hw hcmp π hπ h hb hinc (b - (a + 1)) (a + 1) π (by omega) (by omega) (Same.refl _ _ _) (fun i j h1 h2 h3 => by omega)
    exact ⟨σ, r1, r2, fin σ r3⟩
  · obtain rfl : a = b := by omega
    exact ⟨π, Same.refl _ _ _, fun i j h1 h2 h3 => by omega, fin π (Loops.last (by simp) (ins_end N g cs _ b1 b2 a a (a + 1) (by omega)))⟩
end
end Go.Proofs.Ytgfkllnaeekjeaa

namespace Go.Proofs.Ytgfkllnaeekjeaa
open Go.Lift
set_option maxRecDepth 1000000
set_option linter.unusedSimpArgs false
set_option linter.unusedVariables false

theorem sm0_t (N : Nat) (g : FuncId) (cs : List AVal) (l : List AVal) (b1 b2 : ABlk) (a i j h : Nat) (x y c : Int) (hc_0 : (i : Int) < (j : Int)) (hc_1 : -9223372036854775808 ≤ (i : Int) + (j : Int) ∧ (i : Int) + (j : Int) ≤ 9223372036854775807) (hc_2 : 0 ≤ (i : Int) + (j : Int) ∧ (i : Int) + (j : Int) ≤ 18446744073709551615) (hc_3 : -9223372036854775808 ≤ Int.fdiv ((i : Int) + (j : Int)) (2 ^ 1) ∧ Int.fdiv ((i : Int) + (j : Int)) (2 ^ 1) ≤ 9223372036854775807) (hc_4 : aindexAddr (AEnv.D env) 27 (.slice (some ⟨0, 0, 0, 0, 1⟩) N N) (.int .i64 (Int.fdiv ((i : Int) + (j : Int)) (2 ^ 1))) = some (.ptr (some ⟨0, 0, h, 0, 1⟩))) (hc_5 : ABlk.elem? (.made l 1 true) 0 h = some (.int .i64 x)) (hc_6 : aindexAddr (AEnv.D env) 27 (.slice (some ⟨0, 0, 0, 0, 1⟩) N N) (.int .i64 (a : Int)) = some (.ptr (some ⟨0, 0, a, 0, 1⟩))) (hc_7 : ABlk.elem? (.made l 1 true) 0 a = some (.int .i64 y)) (hc_8 : FDoes Try.prog g (.int .i64 x :: .int .i64 y :: cs) (AHeap.rows 32 [(0, .made l 1 true), (1, b1), (2, b2)]) (.int .i64 c) (AHeap.rows 32 [(0, .made l 1 true), (1, b1), (2, b2)])) (hc_9 : c < 0) (hc_10 : -9223372036854775808 ≤ Int.fdiv ((i : Int) + (j : Int)) (2 ^ 1) + 1 ∧ Int.fdiv ((i : Int) + (j : Int)) (2 ^ 1) + (1 : Int) ≤ 9223372036854775807) :
    Runs Try.prog 3 220 (loopAt Try.prog 64 0) [(0, .slice (some ⟨0, 0, 0, 0, 1⟩) N N), (1, .int .i64 a), (4, .func (.func g) [] cs), (10, .int .i64 i), (11, .int .i64 j)] (AHeap.rows 11 [(0, .made l 1 true), (1, b1), (2, b2)]) .normal [(0, .slice (some ⟨0, 0, 0, 0, 1⟩) N N), (1, .int .i64 (a : Int)), (4, .func (.func g) [] cs), (10, .int .i64 (Int.fdiv ((i : Int) + (j : Int)) (2 ^ 1) + 1)), (11, .int .i64 (j : Int))] (AHeap.rows 35 [(0, .made l 1 true), (1, b1), (2, b2)]) :=
  ppath_runs env_ok mixed (hs := [.val 3002 (.bool true), .go 4002, .go 4003, .go 4005, .val 5003 (.ptr (some ⟨0, 0, h, 0, 1⟩)), .ld 5004 (.int .i64 x), .val 5007 (.ptr (some ⟨0, 0, a, 0, 1⟩)), .ld 5008 (.int .i64 y), .val 5009 (.int .i64 c), .val 5010 (.bool true), .go 6001]) (keep := [0, 1, 4, 10, 11]) (by kernel_rfl) (All.cons (okT hc_0) (All.cons hc_1 (All.cons hc_2 (All.cons hc_3 (All.cons hc_4 (All.cons hc_5 (All.cons hc_6 (All.cons hc_7 (All.cons (CallT.mk hc_8) (All.cons (okT hc_9) (All.cons hc_10 (All.nil))))))))))))

theorem sm0_f (N : Nat) (g : FuncId) (cs : List AVal) (l : List AVal) (b1 b2 : ABlk) (a i j h : Nat) (x y c : Int) (hc_0 : (i : Int) < (j : Int)) (hc_1 : -9223372036854775808 ≤ (i : Int) + (j : Int) ∧ (i : Int) + (j : Int) ≤ 9223372036854775807) (hc_2 : 0 ≤ (i : Int) + (j : Int) ∧ (i : Int) + (j : Int) ≤ 18446744073709551615) (hc_3 : -9223372036854775808 ≤ Int.fdiv ((i : Int) + (j : Int)) (2 ^ 1) ∧ Int.fdiv ((i : Int) + (j : Int)) (2 ^ 1) ≤ 9223372036854775807) (hc_4 : aindexAddr (AEnv.D env) 27 (.slice (some ⟨0, 0, 0, 0, 1⟩) N N) (.int .i64 (Int.fdiv ((i : Int) + (j : Int)) (2 ^ 1))) = some (.ptr (some ⟨0, 0, h, 0, 1⟩))) (hc_5 : ABlk.elem? (.made l 1 true) 0 h = some (.int .i64 x)) (hc_6 : aindexAddr (AEnv.D env) 27 (.slice (some ⟨0, 0, 0, 0, 1⟩) N N) (.int .i64 (a : Int)) = some (.ptr (some ⟨0, 0, a, 0, 1⟩))) (hc_7 : ABlk.elem? (.made l 1 true) 0 a = some (.int .i64 y)) (hc_8 : FDoes Try.prog g (.int .i64 x :: .int .i64 y :: cs) (AHeap.rows 32 [(0, .made l 1 true), (1, b1), (2, b2)]) (.int .i64 c) (AHeap.rows 32 [(0, .made l 1 true), (1, b1), (2, b2)])) (hc_9 : ¬ (c < 0)) :
    Runs Try.prog 3 220 (loopAt Try.prog 64 0) [(0, .slice (some ⟨0, 0, 0, 0, 1⟩) N N), (1, .int .i64 a), (4, .func (.func g) [] cs), (10, .int .i64 i), (11, .int .i64 j)] (AHeap.rows 11 [(0, .made l 1 true), (1, b1), (2, b2)]) .normal [(0, .slice (some ⟨0, 0, 0, 0, 1⟩) N N), (1, .int .i64 (a : Int)), (4, .func (.func g) [] cs), (10, .int .i64 (i : Int)), (11, .int .i64 (Int.fdiv ((i : Int) + (j : Int)) (2 ^ 1)))] (AHeap.rows 34 [(0, .made l 1 true), (1, b1), (2, b2)]) :=
  ppath_runs env_ok mixed (hs := [.val 3002 (.bool true), .go 4002, .go 4003, .go 4005, .val 5003 (.ptr (some ⟨0, 0, h, 0, 1⟩)), .ld 5004 (.int .i64 x), .val 5007 (.ptr (some ⟨0, 0, a, 0, 1⟩)), .ld 5008 (.int .i64 y), .val 5009 (.int .i64 c), .val 5010 (.bool false)]) (keep := [0, 1, 4, 10, 11]) (by kernel_rfl) (All.cons (okT hc_0) (All.cons hc_1 (All.cons hc_2 (All.cons hc_3 (All.cons hc_4 (All.cons hc_5 (All.cons hc_6 (All.cons hc_7 (All.cons (CallT.mk hc_8) (All.cons (okF hc_9) (All.nil)))))))))))

theorem sm0_end (N : Nat) (g : FuncId) (cs : List AVal) (l : List AVal) (b1 b2 : ABlk) (a i j : Nat) (hc_0 : ¬ ((i : Int) < (j : Int))) :
    Runs Try.prog 3 220 (loopAt Try.prog 64 0) [(0, .slice (some ⟨0, 0, 0, 0, 1⟩) N N), (1, .int .i64 a), (4, .func (.func g) [] cs), (10, .int .i64 i), (11, .int .i64 j)] (AHeap.rows 11 [(0, .made l 1 true), (1, b1), (2, b2)]) (.exit 0) [(0, .slice (some ⟨0, 0, 0, 0, 1⟩) N N), (1, .int .i64 (a : Int)), (10, .int .i64 (i : Int))] (AHeap.rows 14 [(0, .made l 1 true), (1, b1), (2, b2)]) :=
  ppath_runs env_ok mixed (hs := [.val 3002 (.bool false)]) (keep := [0, 1, 10]) (by kernel_rfl) (All.cons (okF hc_0) (All.nil))

theorem sm1_step (N : Nat) (g : FuncId) (cs : List AVal) (l : List AVal) (b1 b2 : ABlk) (i k : Nat) (x y u v : Int) (hc_0 : -9223372036854775808 ≤ (i : Int) - 1 ∧ (i : Int) - (1 : Int) ≤ 9223372036854775807) (hc_1 : (k : Int) < (i : Int) - 1) (hc_2 : -9223372036854775808 ≤ (k : Int) + 1 ∧ (k : Int) + (1 : Int) ≤ 9223372036854775807) (hc_3 : -9223372036854775808 ≤ (k : Int) + 1 ∧ (k : Int) + (1 : Int) ≤ 9223372036854775807) (hc_4 : aindexAddr (AEnv.D env) 27 (.slice (some ⟨0, 0, 0, 0, 1⟩) N N) (.int .i64 ((k : Int) + 1)) = some (.ptr (some ⟨0, 0, k + 1, 0, 1⟩))) (hc_5 : ABlk.elem? (.made l 1 true) 0 (k + 1) = some (.int .i64 y)) (hc_6 : aindexAddr (AEnv.D env) 27 (.slice (some ⟨0, 0, 0, 0, 1⟩) N N) (.int .i64 (k : Int)) = some (.ptr (some ⟨0, 0, k, 0, 1⟩))) (hc_7 : ABlk.elem? (.made l 1 true) 0 k = some (.int .i64 x)) (hc_8 : aindexAddr (AEnv.D env) 27 (.slice (some ⟨0, 0, 0, 0, 1⟩) N N) (.int .i64 (k : Int)) = some (.ptr (some ⟨0, 0, k, 0, 1⟩))) (hc_9 : 0 = 0 ∧ l[k]? = some (.int .i64 u)) (hc_10 : aindexAddr (AEnv.D env) 27 (.slice (some ⟨0, 0, 0, 0, 1⟩) N N) (.int .i64 ((k : Int) + 1)) = some (.ptr (some ⟨0, 0, k + 1, 0, 1⟩))) (hc_11 : 0 = 0 ∧ (List.set l k (.int .i64 y))[k + 1]? = some (.int .i64 v)) (hc_12 : -9223372036854775808 ≤ (k : Int) + 1 ∧ (k : Int) + (1 : Int) ≤ 9223372036854775807) :
    Runs Try.prog 3 220 (loopAt Try.prog 64 1) [(0, .slice (some ⟨0, 0, 0, 0, 1⟩) N N), (10, .int .i64 i), (13, .int .i64 k)] (AHeap.rows 16 [(0, .made l 1 true), (1, b1), (2, b2)]) .normal [(0, .slice (some ⟨0, 0, 0, 0, 1⟩) N N), (10, .int .i64 (i : Int)), (13, .int .i64 ((k : Int) + 1))] (AHeap.rows 41 [(0, (.made (List.set (List.set l k (.int .i64 y)) (k + 1) (.int .i64 x)) 1 true)), (1, b1), (2, b2)]) :=
  ppath_runs env_ok mixed (hs := [.go 9002, .val 9003 (.bool true), .go 11004, .go 11007, .val 11008 (.ptr (some ⟨0, 0, k + 1, 0, 1⟩)), .ld 11009 (.int .i64 y), .val 11012 (.ptr (some ⟨0, 0, k, 0, 1⟩)), .ld 11013 (.int .i64 x), .val 11014 (.ptr (some ⟨0, 0, k, 0, 1⟩)), .st 11015 (.int .i64 u), .val 11016 (.ptr (some ⟨0, 0, k + 1, 0, 1⟩)), .st 11017 (.int .i64 v), .go 10001]) (keep := [0, 10, 13]) (by kernel_rfl) (All.cons hc_0 (All.cons (okT hc_1) (All.cons hc_2 (All.cons hc_3 (All.cons hc_4 (All.cons hc_5 (All.cons hc_6 (All.cons hc_7 (All.cons hc_8 (All.cons hc_9 (All.cons hc_10 (All.cons hc_11 (All.cons hc_12 (All.nil))))))))))))))

theorem sm1_end (N : Nat) (g : FuncId) (cs : List AVal) (l : List AVal) (b1 b2 : ABlk) (i k : Nat) (hc_0 : -9223372036854775808 ≤ (i : Int) - 1 ∧ (i : Int) - (1 : Int) ≤ 9223372036854775807) (hc_1 : ¬ ((k : Int) < (i : Int) - 1)) :
    Runs Try.prog 3 220 (loopAt Try.prog 64 1) [(0, .slice (some ⟨0, 0, 0, 0, 1⟩) N N), (10, .int .i64 i), (13, .int .i64 k)] (AHeap.rows 16 [(0, .made l 1 true), (1, b1), (2, b2)]) (.exit 2) [] (AHeap.rows 20 [(0, .made l 1 true), (1, b1), (2, b2)]) :=
  ppath_runs env_ok mixed (hs := [.go 9002, .val 9003 (.bool false)]) (keep := []) (by kernel_rfl) (All.cons hc_0 (All.cons (okF hc_1) (All.nil)))

theorem sm2_t (N : Nat) (g : FuncId) (cs : List AVal) (l : List AVal) (b1 b2 : ABlk) (m i j h : Nat) (x y c : Int) (hc_0 : (i : Int) < (j : Int)) (hc_1 : -9223372036854775808 ≤ (i : Int) + (j : Int) ∧ (i : Int) + (j : Int) ≤ 9223372036854775807) (hc_2 : 0 ≤ (i : Int) + (j : Int) ∧ (i : Int) + (j : Int) ≤ 18446744073709551615) (hc_3 : -9223372036854775808 ≤ Int.fdiv ((i : Int) + (j : Int)) (2 ^ 1) ∧ Int.fdiv ((i : Int) + (j : Int)) (2 ^ 1) ≤ 9223372036854775807) (hc_4 : aindexAddr (AEnv.D env) 27 (.slice (some ⟨0, 0, 0, 0, 1⟩) N N) (.int .i64 (m : Int)) = some (.ptr (some ⟨0, 0, m, 0, 1⟩))) (hc_5 : ABlk.elem? (.made l 1 true) 0 m = some (.int .i64 x)) (hc_6 : aindexAddr (AEnv.D env) 27 (.slice (some ⟨0, 0, 0, 0, 1⟩) N N) (.int .i64 (Int.fdiv ((i : Int) + (j : Int)) (2 ^ 1))) = some (.ptr (some ⟨0, 0, h, 0, 1⟩))) (hc_7 : ABlk.elem? (.made l 1 true) 0 h = some (.int .i64 y)) (hc_8 : FDoes Try.prog g (.int .i64 x :: .int .i64 y :: cs) (AHeap.rows 37 [(0, .made l 1 true), (1, b1), (2, b2)]) (.int .i64 c) (AHeap.rows 37 [(0, .made l 1 true), (1, b1), (2, b2)])) (hc_9 : c < 0) :
    Runs Try.prog 3 220 (loopAt Try.prog 64 2) [(0, .slice (some ⟨0, 0, 0, 0, 1⟩) N N), (2, .int .i64 m), (4, .func (.func g) [] cs), (14, .int .i64 i), (15, .int .i64 j)] (AHeap.rows 15 [(0, .made l 1 true), (1, b1), (2, b2)]) .normal [(0, .slice (some ⟨0, 0, 0, 0, 1⟩) N N), (2, .int .i64 (m : Int)), (4, .func (.func g) [] cs), (14, .int .i64 (i : Int)), (15, .int .i64 (Int.fdiv ((i : Int) + (j : Int)) (2 ^ 1)))] (AHeap.rows 39 [(0, .made l 1 true), (1, b1), (2, b2)]) :=
  ppath_runs env_ok mixed (hs := [.val 15002 (.bool true), .go 16002, .go 16003, .go 16005, .val 17003 (.ptr (some ⟨0, 0, m, 0, 1⟩)), .ld 17004 (.int .i64 x), .val 17007 (.ptr (some ⟨0, 0, h, 0, 1⟩)), .ld 17008 (.int .i64 y), .val 17009 (.int .i64 c), .val 17010 (.bool true)]) (keep := [0, 2, 4, 14, 15]) (by kernel_rfl) (All.cons (okT hc_0) (All.cons hc_1 (All.cons hc_2 (All.cons hc_3 (All.cons hc_4 (All.cons hc_5 (All.cons hc_6 (All.cons hc_7 (All.cons (CallT.mk hc_8) (All.cons (okT hc_9) (All.nil)))))))))))

theorem sm2_f (N : Nat) (g : FuncId) (cs : List AVal) (l : List AVal) (b1 b2 : ABlk) (m i j h : Nat) (x y c : Int) (hc_0 : (i : Int) < (j : Int)) (hc_1 : -9223372036854775808 ≤ (i : Int) + (j : Int) ∧ (i : Int) + (j : Int) ≤ 9223372036854775807) (hc_2 : 0 ≤ (i : Int) + (j : Int) ∧ (i : Int) + (j : Int) ≤ 18446744073709551615) (hc_3 : -9223372036854775808 ≤ Int.fdiv ((i : Int) + (j : Int)) (2 ^ 1) ∧ Int.fdiv ((i : Int) + (j : Int)) (2 ^ 1) ≤ 9223372036854775807) (hc_4 : aindexAddr (AEnv.D env) 27 (.slice (some ⟨0, 0, 0, 0, 1⟩) N N) (.int .i64 (m : Int)) = some (.ptr (some ⟨0, 0, m, 0, 1⟩))) (hc_5 : ABlk.elem? (.made l 1 true) 0 m = some (.int .i64 x)) (hc_6 : aindexAddr (AEnv.D env) 27 (.slice (some ⟨0, 0, 0, 0, 1⟩) N N) (.int .i64 (Int.fdiv ((i : Int) + (j : Int)) (2 ^ 1))) = some (.ptr (some ⟨0, 0, h, 0, 1⟩))) (hc_7 : ABlk.elem? (.made l 1 true) 0 h = some (.int .i64 y)) (hc_8 : FDoes Try.prog g (.int .i64 x :: .int .i64 y :: cs) (AHeap.rows 37 [(0, .made l 1 true), (1, b1), (2, b2)]) (.int .i64 c) (AHeap.rows 37 [(0, .made l 1 true), (1, b1), (2, b2)])) (hc_9 : ¬ (c < 0)) (hc_10 : -9223372036854775808 ≤ Int.fdiv ((i : Int) + (j : Int)) (2 ^ 1) + 1 ∧ Int.fdiv ((i : Int) + (j : Int)) (2 ^ 1) + (1 : Int) ≤ 9223372036854775807) :
    Runs Try.prog 3 220 (loopAt Try.prog 64 2) [(0, .slice (some ⟨0, 0, 0, 0, 1⟩) N N), (2, .int .i64 m), (4, .func (.func g) [] cs), (14, .int .i64 i), (15, .int .i64 j)] (AHeap.rows 15 [(0, .made l 1 true), (1, b1), (2, b2)]) .normal [(0, .slice (some ⟨0, 0, 0, 0, 1⟩) N N), (2, .int .i64 (m : Int)), (4, .func (.func g) [] cs), (14, .int .i64 (Int.fdiv ((i : Int) + (j : Int)) (2 ^ 1) + 1)), (15, .int .i64 (j : Int))] (AHeap.rows 40 [(0, .made l 1 true), (1, b1), (2, b2)]) :=
  ppath_runs env_ok mixed (hs := [.val 15002 (.bool true), .go 16002, .go 16003, .go 16005, .val 17003 (.ptr (some ⟨0, 0, m, 0, 1⟩)), .ld 17004 (.int .i64 x), .val 17007 (.ptr (some ⟨0, 0, h, 0, 1⟩)), .ld 17008 (.int .i64 y), .val 17009 (.int .i64 c), .val 17010 (.bool false), .go 18001]) (keep := [0, 2, 4, 14, 15]) (by kernel_rfl) (All.cons (okT hc_0) (All.cons hc_1 (All.cons hc_2 (All.cons hc_3 (All.cons hc_4 (All.cons hc_5 (All.cons hc_6 (All.cons hc_7 (All.cons (CallT.mk hc_8) (All.cons (okF hc_9) (All.cons hc_10 (All.nil))))))))))))

theorem sm2_end (N : Nat) (g : FuncId) (cs : List AVal) (l : List AVal) (b1 b2 : ABlk) (m i j : Nat) (hc_0 : ¬ ((i : Int) < (j : Int))) :
    Runs Try.prog 3 220 (loopAt Try.prog 64 2) [(0, .slice (some ⟨0, 0, 0, 0, 1⟩) N N), (2, .int .i64 m), (4, .func (.func g) [] cs), (14, .int .i64 i), (15, .int .i64 j)] (AHeap.rows 15 [(0, .made l 1 true), (1, b1), (2, b2)]) (.exit 4) [(0, .slice (some ⟨0, 0, 0, 0, 1⟩) N N), (2, .int .i64 (m : Int)), (14, .int .i64 (i : Int))] (AHeap.rows 18 [(0, .made l 1 true), (1, b1), (2, b2)]) :=
  ppath_runs env_ok mixed (hs := [.val 15002 (.bool false)]) (keep := [0, 2, 14]) (by kernel_rfl) (All.cons (okF hc_0) (All.nil))

theorem sm3_step (N : Nat) (g : FuncId) (cs : List AVal) (l : List AVal) (b1 b2 : ABlk) (i k : Nat) (x y u v : Int) (hc_0 : (k : Int) > (i : Int)) (hc_1 : -9223372036854775808 ≤ (k : Int) - 1 ∧ (k : Int) - (1 : Int) ≤ 9223372036854775807) (hc_2 : -9223372036854775808 ≤ (k : Int) - 1 ∧ (k : Int) - (1 : Int) ≤ 9223372036854775807) (hc_3 : aindexAddr (AEnv.D env) 27 (.slice (some ⟨0, 0, 0, 0, 1⟩) N N) (.int .i64 ((k : Int) - 1)) = some (.ptr (some ⟨0, 0, k - 1, 0, 1⟩))) (hc_4 : ABlk.elem? (.made l 1 true) 0 (k - 1) = some (.int .i64 y)) (hc_5 : aindexAddr (AEnv.D env) 27 (.slice (some ⟨0, 0, 0, 0, 1⟩) N N) (.int .i64 (k : Int)) = some (.ptr (some ⟨0, 0, k, 0, 1⟩))) (hc_6 : ABlk.elem? (.made l 1 true) 0 k = some (.int .i64 x)) (hc_7 : aindexAddr (AEnv.D env) 27 (.slice (some ⟨0, 0, 0, 0, 1⟩) N N) (.int .i64 (k : Int)) = some (.ptr (some ⟨0, 0, k, 0, 1⟩))) (hc_8 : 0 = 0 ∧ l[k]? = some (.int .i64 u)) (hc_9 : aindexAddr (AEnv.D env) 27 (.slice (some ⟨0, 0, 0, 0, 1⟩) N N) (.int .i64 ((k : Int) - 1)) = some (.ptr (some ⟨0, 0, k - 1, 0, 1⟩))) (hc_10 : 0 = 0 ∧ (List.set l k (.int .i64 y))[k - 1]? = some (.int .i64 v)) (hc_11 : -9223372036854775808 ≤ (k : Int) - 1 ∧ (k : Int) - (1 : Int) ≤ 9223372036854775807) :
    Runs Try.prog 3 220 (loopAt Try.prog 64 3) [(0, .slice (some ⟨0, 0, 0, 0, 1⟩) N N), (14, .int .i64 i), (17, .int .i64 k)] (AHeap.rows 20 [(0, .made l 1 true), (1, b1), (2, b2)]) .normal [(0, .slice (some ⟨0, 0, 0, 0, 1⟩) N N), (14, .int .i64 (i : Int)), (17, .int .i64 ((k : Int) - 1))] (AHeap.rows 44 [(0, (.made (List.set (List.set l k (.int .i64 y)) (k - 1) (.int .i64 x)) 1 true)), (1, b1), (2, b2)]) :=
  ppath_runs env_ok mixed (hs := [.val 21002 (.bool true), .go 23004, .go 23007, .val 23008 (.ptr (some ⟨0, 0, k - 1, 0, 1⟩)), .ld 23009 (.int .i64 y), .val 23012 (.ptr (some ⟨0, 0, k, 0, 1⟩)), .ld 23013 (.int .i64 x), .val 23014 (.ptr (some ⟨0, 0, k, 0, 1⟩)), .st 23015 (.int .i64 u), .val 23016 (.ptr (some ⟨0, 0, k - 1, 0, 1⟩)), .st 23017 (.int .i64 v), .go 22001]) (keep := [0, 14, 17]) (by kernel_rfl) (All.cons (okT hc_0) (All.cons hc_1 (All.cons hc_2 (All.cons hc_3 (All.cons hc_4 (All.cons hc_5 (All.cons hc_6 (All.cons hc_7 (All.cons hc_8 (All.cons hc_9 (All.cons hc_10 (All.cons hc_11 (All.nil)))))))))))))

theorem sm3_end (N : Nat) (g : FuncId) (cs : List AVal) (l : List AVal) (b1 b2 : ABlk) (i k : Nat) (hc_0 : ¬ ((k : Int) > (i : Int))) :
    Runs Try.prog 3 220 (loopAt Try.prog 64 3) [(0, .slice (some ⟨0, 0, 0, 0, 1⟩) N N), (14, .int .i64 i), (17, .int .i64 k)] (AHeap.rows 20 [(0, .made l 1 true), (1, b1), (2, b2)]) (.exit 6) [] (AHeap.rows 23 [(0, .made l 1 true), (1, b1), (2, b2)]) :=
  ppath_runs env_ok mixed (hs := [.val 21002 (.bool false)]) (keep := []) (by kernel_rfl) (All.cons (okF hc_0) (All.nil))

theorem sm4_t (N : Nat) (g : FuncId) (cs : List AVal) (l : List AVal) (b1 b2 : ABlk) (a m b d n i j p h : Nat) (x y c : Int) (hc_0 : (i : Int) < (j : Int)) (hc_1 : -9223372036854775808 ≤ (i : Int) + (j : Int) ∧ (i : Int) + (j : Int) ≤ 9223372036854775807) (hc_2 : 0 ≤ (i : Int) + (j : Int) ∧ (i : Int) + (j : Int) ≤ 18446744073709551615) (hc_3 : -9223372036854775808 ≤ Int.fdiv ((i : Int) + (j : Int)) (2 ^ 1) ∧ Int.fdiv ((i : Int) + (j : Int)) (2 ^ 1) ≤ 9223372036854775807) (hc_4 : -9223372036854775808 ≤ (p : Int) - Int.fdiv ((i : Int) + (j : Int)) (2 ^ 1) ∧ (p : Int) - Int.fdiv ((i : Int) + (j : Int)) (2 ^ 1) ≤ 9223372036854775807) (hc_5 : aindexAddr (AEnv.D env) 27 (.slice (some ⟨0, 0, 0, 0, 1⟩) N N) (.int .i64 ((p : Int) - Int.fdiv ((i : Int) + (j : Int)) (2 ^ 1))) = some (.ptr (some ⟨0, 0, p - h, 0, 1⟩))) (hc_6 : ABlk.elem? (.made l 1 true) 0 (p - h) = some (.int .i64 x)) (hc_7 : aindexAddr (AEnv.D env) 27 (.slice (some ⟨0, 0, 0, 0, 1⟩) N N) (.int .i64 (Int.fdiv ((i : Int) + (j : Int)) (2 ^ 1))) = some (.ptr (some ⟨0, 0, h, 0, 1⟩))) (hc_8 : ABlk.elem? (.made l 1 true) 0 h = some (.int .i64 y)) (hc_9 : FDoes Try.prog g (.int .i64 x :: .int .i64 y :: cs) (AHeap.rows 60 [(0, .made l 1 true), (1, b1), (2, b2)]) (.int .i64 c) (AHeap.rows 60 [(0, .made l 1 true), (1, b1), (2, b2)])) (hc_10 : c < 0) :
    Runs Try.prog 3 220 (loopAt Try.prog 64 4) [(0, .slice (some ⟨0, 0, 0, 0, 1⟩) N N), (1, .int .i64 a), (2, .int .i64 m), (3, .int .i64 b), (4, .func (.func g) [] cs), (18, .int .i64 d), (19, .int .i64 n), (20, .int .i64 i), (21, .int .i64 j), (22, .int .i64 p)] (AHeap.rows 36 [(0, .made l 1 true), (1, b1), (2, b2)]) .normal [(0, .slice (some ⟨0, 0, 0, 0, 1⟩) N N), (1, .int .i64 (a : Int)), (2, .int .i64 (m : Int)), (3, .int .i64 (b : Int)), (4, .func (.func g) [] cs), (18, .int .i64 (d : Int)), (19, .int .i64 (n : Int)), (20, .int .i64 (i : Int)), (21, .int .i64 (Int.fdiv ((i : Int) + (j : Int)) (2 ^ 1))), (22, .int .i64 (p : Int))] (AHeap.rows 62 [(0, .made l 1 true), (1, b1), (2, b2)]) :=
  ppath_runs env_ok mixed (hs := [.val 33002 (.bool true), .go 34002, .go 34003, .go 34005, .go 35004, .val 35005 (.ptr (some ⟨0, 0, p - h, 0, 1⟩)), .ld 35006 (.int .i64 x), .val 35009 (.ptr (some ⟨0, 0, h, 0, 1⟩)), .ld 35010 (.int .i64 y), .val 35011 (.int .i64 c), .val 35012 (.bool true)]) (keep := [0, 1, 2, 3, 4, 18, 19, 20, 21, 22]) (by kernel_rfl) (All.cons (okT hc_0) (All.cons hc_1 (All.cons hc_2 (All.cons hc_3 (All.cons hc_4 (All.cons hc_5 (All.cons hc_6 (All.cons hc_7 (All.cons hc_8 (All.cons (CallT.mk hc_9) (All.cons (okT hc_10) (All.nil))))))))))))

theorem sm4_f (N : Nat) (g : FuncId) (cs : List AVal) (l : List AVal) (b1 b2 : ABlk) (a m b d n i j p h : Nat) (x y c : Int) (hc_0 : (i : Int) < (j : Int)) (hc_1 : -9223372036854775808 ≤ (i : Int) + (j : Int) ∧ (i : Int) + (j : Int) ≤ 9223372036854775807) (hc_2 : 0 ≤ (i : Int) + (j : Int) ∧ (i : Int) + (j : Int) ≤ 18446744073709551615) (hc_3 : -9223372036854775808 ≤ Int.fdiv ((i : Int) + (j : Int)) (2 ^ 1) ∧ Int.fdiv ((i : Int) + (j : Int)) (2 ^ 1) ≤ 9223372036854775807) (hc_4 : -9223372036854775808 ≤ (p : Int) - Int.fdiv ((i : Int) + (j : Int)) (2 ^ 1) ∧ (p : Int) - Int.fdiv ((i : Int) + (j : Int)) (2 ^ 1) ≤ 9223372036854775807) (hc_5 : aindexAddr (AEnv.D env) 27 (.slice (some ⟨0, 0, 0, 0, 1⟩) N N) (.int .i64 ((p : Int) - Int.fdiv ((i : Int) + (j : Int)) (2 ^ 1))) = some (.ptr (some ⟨0, 0, p - h, 0, 1⟩))) (hc_6 : ABlk.elem? (.made l 1 true) 0 (p - h) = some (.int .i64 x)) (hc_7 : aindexAddr (AEnv.D env) 27 (.slice (some ⟨0, 0, 0, 0, 1⟩) N N) (.int .i64 (Int.fdiv ((i : Int) + (j : Int)) (2 ^ 1))) = some (.ptr (some ⟨0, 0, h, 0, 1⟩))) (hc_8 : ABlk.elem? (.made l 1 true) 0 h = some (.int .i64 y)) (hc_9 : FDoes Try.prog g (.int .i64 x :: .int .i64 y :: cs) (AHeap.rows 60 [(0, .made l 1 true), (1, b1), (2, b2)]) (.int .i64 c) (AHeap.rows 60 [(0, .made l 1 true), (1, b1), (2, b2)])) (hc_10 : ¬ (c < 0)) (hc_11 : -9223372036854775808 ≤ Int.fdiv ((i : Int) + (j : Int)) (2 ^ 1) + 1 ∧ Int.fdiv ((i : Int) + (j : Int)) (2 ^ 1) + (1 : Int) ≤ 9223372036854775807) :
    Runs Try.prog 3 220 (loopAt Try.prog 64 4) [(0, .slice (some ⟨0, 0, 0, 0, 1⟩) N N), (1, .int .i64 a), (2, .int .i64 m), (3, .int .i64 b), (4, .func (.func g) [] cs), (18, .int .i64 d), (19, .int .i64 n), (20, .int .i64 i), (21, .int .i64 j), (22, .int .i64 p)] (AHeap.rows 36 [(0, .made l 1 true), (1, b1), (2, b2)]) .normal [(0, .slice (some ⟨0, 0, 0, 0, 1⟩) N N), (1, .int .i64 (a : Int)), (2, .int .i64 (m : Int)), (3, .int .i64 (b : Int)), (4, .func (.func g) [] cs), (18, .int .i64 (d : Int)), (19, .int .i64 (n : Int)), (20, .int .i64 (Int.fdiv ((i : Int) + (j : Int)) (2 ^ 1) + 1)), (21, .int .i64 (j : Int)), (22, .int .i64 (p : Int))] (AHeap.rows 63 [(0, .made l 1 true), (1, b1), (2, b2)]) :=
  ppath_runs env_ok mixed (hs := [.val 33002 (.bool true), .go 34002, .go 34003, .go 34005, .go 35004, .val 35005 (.ptr (some ⟨0, 0, p - h, 0, 1⟩)), .ld 35006 (.int .i64 x), .val 35009 (.ptr (some ⟨0, 0, h, 0, 1⟩)), .ld 35010 (.int .i64 y), .val 35011 (.int .i64 c), .val 35012 (.bool false), .go 36001]) (keep := [0, 1, 2, 3, 4, 18, 19, 20, 21, 22]) (by kernel_rfl) (All.cons (okT hc_0) (All.cons hc_1 (All.cons hc_2 (All.cons hc_3 (All.cons hc_4 (All.cons hc_5 (All.cons hc_6 (All.cons hc_7 (All.cons hc_8 (All.cons (CallT.mk hc_9) (All.cons (okF hc_10) (All.cons hc_11 (All.nil)))))))))))))

theorem sm4_end (N : Nat) (g : FuncId) (cs : List AVal) (l : List AVal) (b1 b2 : ABlk) (a m b d n i j p : Nat) (hc_0 : ¬ ((i : Int) < (j : Int))) :
    Runs Try.prog 3 220 (loopAt Try.prog 64 4) [(0, .slice (some ⟨0, 0, 0, 0, 1⟩) N N), (1, .int .i64 a), (2, .int .i64 m), (3, .int .i64 b), (4, .func (.func g) [] cs), (18, .int .i64 d), (19, .int .i64 n), (20, .int .i64 i), (21, .int .i64 j), (22, .int .i64 p)] (AHeap.rows 36 [(0, .made l 1 true), (1, b1), (2, b2)]) (.exit 8) [(0, .slice (some ⟨0, 0, 0, 0, 1⟩) N N), (1, .int .i64 (a : Int)), (2, .int .i64 (m : Int)), (3, .int .i64 (b : Int)), (4, .func (.func g) [] cs), (18, .int .i64 (d : Int)), (19, .int .i64 (n : Int)), (20, .int .i64 (i : Int))] (AHeap.rows 39 [(0, .made l 1 true), (1, b1), (2, b2)]) :=
  ppath_runs env_ok mixed (hs := [.val 33002 (.bool false)]) (keep := [0, 1, 2, 3, 4, 18, 19, 20]) (by kernel_rfl) (All.cons (okF hc_0) (All.nil))

theorem smc_one (N : Nat) (g : FuncId) (cs : List AVal) (l : List AVal) (b1 b2 : ABlk) (a m b i : Nat) (l1 l2 : List AVal) (hc_0 : -9223372036854775808 ≤ (m : Int) - (a : Int) ∧ (m : Int) - (a : Int) ≤ 9223372036854775807) (hc_1 : (m : Int) - (a : Int) = 1) (hc_2 : Runs Try.prog 3 220 (.loop (loopAt Try.prog 64 0)) [(0, .slice (some ⟨0, 0, 0, 0, 1⟩) N N), (1, .int .i64 (a : Int)), (4, .func (.func g) [] cs), (10, .int .i64 (m : Int)), (11, .int .i64 (b : Int))] (AHeap.rows 11 [(0, .made l 1 true), (1, b1), (2, b2)]) (.exit 0) [(0, .slice (some ⟨0, 0, 0, 0, 1⟩) N N), (1, .int .i64 (a : Int)), (10, .int .i64 (i : Int))] (AHeap.rows 14 [(0, .made l1 1 true), (1, b1), (2, b2)])) (hc_3 : Runs Try.prog 3 220 (.loop (loopAt Try.prog 64 1)) [(0, .slice (some ⟨0, 0, 0, 0, 1⟩) N N), (10, .int .i64 (i : Int)), (13, .int .i64 (a : Int))] (AHeap.rows 16 [(0, .made l1 1 true), (1, b1), (2, b2)]) (.exit 2) [] (AHeap.rows 20 [(0, .made l2 1 true), (1, b1), (2, b2)])) :
    FDoes Try.prog 64 [.slice (some ⟨0, 0, 0, 0, 1⟩) N N, .int .i64 a, .int .i64 m, .int .i64 b, .func (.func g) [] cs] (AHeap.of [.made l 1 true, b1, b2]) (.tuple []) (AHeap.rows 20 [(0, .made l2 1 true), (1, b1), (2, b2)]) :=
  pcall_does env_ok mixed (hs := [.go 2, .val 3 (.bool true), .keep [0, 1, 4, 10, 11], .loop [(0, .slice (some ⟨0, 0, 0, 0, 1⟩) N N), (1, .int .i64 a), (10, .int .i64 i)] (AHeap.rows 14 [(0, .made l1 1 true), (1, b1), (2, b2)]) (.exit 0), .keep [0, 10, 13], .loop [] (AHeap.rows 20 [(0, .made l2 1 true), (1, b1), (2, b2)]) (.exit 2)]) (rs := []) (by kernel_rfl) (All.cons hc_0 (All.cons (eqT hc_1) (All.cons hc_2 (All.cons hc_3 (All.nil)))))

theorem smc_last (N : Nat) (g : FuncId) (cs : List AVal) (l : List AVal) (b1 b2 : ABlk) (a m b i : Nat) (l1 l2 : List AVal) (hc_0 : -9223372036854775808 ≤ (m : Int) - (a : Int) ∧ (m : Int) - (a : Int) ≤ 9223372036854775807) (hc_1 : ¬ ((m : Int) - (a : Int) = 1)) (hc_2 : -9223372036854775808 ≤ (b : Int) - (m : Int) ∧ (b : Int) - (m : Int) ≤ 9223372036854775807) (hc_3 : (b : Int) - (m : Int) = 1) (hc_4 : Runs Try.prog 3 220 (.loop (loopAt Try.prog 64 2)) [(0, .slice (some ⟨0, 0, 0, 0, 1⟩) N N), (2, .int .i64 (m : Int)), (4, .func (.func g) [] cs), (14, .int .i64 (a : Int)), (15, .int .i64 (m : Int))] (AHeap.rows 15 [(0, .made l 1 true), (1, b1), (2, b2)]) (.exit 4) [(0, .slice (some ⟨0, 0, 0, 0, 1⟩) N N), (2, .int .i64 (m : Int)), (14, .int .i64 (i : Int))] (AHeap.rows 18 [(0, .made l1 1 true), (1, b1), (2, b2)])) (hc_5 : Runs Try.prog 3 220 (.loop (loopAt Try.prog 64 3)) [(0, .slice (some ⟨0, 0, 0, 0, 1⟩) N N), (14, .int .i64 (i : Int)), (17, .int .i64 (m : Int))] (AHeap.rows 20 [(0, .made l1 1 true), (1, b1), (2, b2)]) (.exit 6) [] (AHeap.rows 23 [(0, .made l2 1 true), (1, b1), (2, b2)])) :
    FDoes Try.prog 64 [.slice (some ⟨0, 0, 0, 0, 1⟩) N N, .int .i64 a, .int .i64 m, .int .i64 b, .func (.func g) [] cs] (AHeap.of [.made l 1 true, b1, b2]) (.tuple []) (AHeap.rows 23 [(0, .made l2 1 true), (1, b1), (2, b2)]) :=
  pcall_does env_ok mixed (hs := [.go 2, .val 3 (.bool false), .go 12002, .val 12003 (.bool true), .keep [0, 2, 4, 14, 15], .loop [(0, .slice (some ⟨0, 0, 0, 0, 1⟩) N N), (2, .int .i64 m), (14, .int .i64 i)] (AHeap.rows 18 [(0, .made l1 1 true), (1, b1), (2, b2)]) (.exit 4), .keep [0, 14, 17], .loop [] (AHeap.rows 23 [(0, .made l2 1 true), (1, b1), (2, b2)]) (.exit 6)]) (rs := []) (by kernel_rfl) (All.cons hc_0 (All.cons (eqF hc_1) (All.cons hc_2 (All.cons (eqT hc_3) (All.cons hc_4 (All.cons hc_5 (All.nil)))))))

end Go.Proofs.Ytgfkllnaeekjeaa

namespace Go.Proofs.Ytgfkllnaeekjeaa
open Go.Lift
set_option maxRecDepth 1000000
set_option linter.unusedSimpArgs false
set_option linter.unusedVariables false
set_option linter.unusedSectionVars false

theorem fdiv2 (i j : Nat) : Int.fdiv ((i : Int) + (j : Int)) (2 ^ 1) = (((i + j) / 2 : Nat) : Int) := by
  rw [Int.fdiv_eq_ediv_of_nonneg _ (by decide)]
  omega

/-- two neighbours change places in the row -/
theorem swap1_row {N : Nat} (π : Nat → Nat) {k : Nat} : ((ints N fun j => (π j : Int)).set k (.int .i64 (π (k + 1) : Int))).set (k + 1) (.int .i64 (π k : Int)) = ints N fun j => (swap1 π k j : Int) := by
  rw [ints_set, ints_set]
  refine ints_congr fun j hj => ?_
  unfold swap1
  by_cases e2 : j = k + 1
  · rw [if_pos e2, if_neg (by omega), if_pos e2]
  · rw [if_neg e2]
    by_cases e1 : j = k
    · rw [if_pos e1, if_pos e1]
    · rw [if_neg e1, if_neg e1, if_neg e2]
theorem swap1_row' {N : Nat} (π : Nat → Nat) {k : Nat} : ((ints N fun j => (π j : Int)).set (k + 1) (.int .i64 (π k : Int))).set k (.int .i64 (π (k + 1) : Int)) = ints N fun j => (swap1 π k j : Int) := by
  rw [ints_set, ints_set]
  refine ints_congr fun j hj => ?_
  unfold swap1
  by_cases e1 : j = k
  · rw [if_pos e1, if_pos e1]
  · rw [if_neg e1, if_neg e1]
    by_cases e2 : j = k + 1
    · rw [if_pos e2, if_pos e2]
    · rw [if_neg e2, if_neg e2]

section
variable {N : Nat} (hN : N < 2 ^ 44) {b1 b2 : ABlk} (c1 : CloB (fun i => i < 3) b1) (c2 : CloB (fun i => i < 3) b2) {g : FuncId} {cs : List AVal} (hcs : Clos (fun i => i < 3) cs) {less : Nat → Nat → Bool} (hw : Weak less) (hcmp : CmpOk N g cs b1 b2 less)
include hN c1 c2 hcs hw hcmp

/-! ## the case of one thing ahead -/
theorem sm0_loop {a b : Nat} (π : Nat → Nat) (hπ : InN N π) (hab : a < b) (hb : b ≤ N) : ∀ (fuel i j : Nat), j - i ≤ fuel → a + 1 ≤ i → i ≤ j → j ≤ b → (i = a + 1 ∨ less (π (i - 1)) (π a) = true) → (j = b ∨ less (π j) (π a) = false) →
    ∃ k, a + 1 ≤ k ∧ k ≤ b ∧ (k = a + 1 ∨ less (π (k - 1)) (π a) = true) ∧ (k = b ∨ less (π k) (π a) = false) ∧
    Loops Try.prog 3 220 (loopAt Try.prog 64 0) [(0, .slice (some ⟨0, 0, 0, 0, 1⟩) N N), (1, .int .i64 a), (4, .func (.func g) [] cs), (10, .int .i64 i), (11, .int .i64 j)] (SH 11 N π b1 b2)
      (.exit 0) [(0, .slice (some ⟨0, 0, 0, 0, 1⟩) N N), (1, .int .i64 a), (10, .int .i64 k)] (SH 14 N π b1 b2)
  | fuel, i, j, hf, h1, h2, h3, hl, hr => by
    by_cases hij : i = j
    · subst hij
      exact ⟨i, h1, h3, hl, hr, Loops.last (by simp) (sm0_end N g cs _ b1 b2 a i i (by omega))⟩
    · match fuel, hf with
      | 0, hf => omega
      | fuel + 1, hf =>
        have hh : i ≤ (i + j) / 2 ∧ (i + j) / 2 < j := by omega
        generalize hhd : (i + j) / 2 = h at hh
        have hd : Int.fdiv ((i : Int) + (j : Int)) (2 ^ 1) = (h : Int) := by rw [fdiv2, hhd]
        obtain ⟨c, hc, hfd⟩ := hcmp 32 π (π h) (π a) (by omega) (hπ h (by omega)) (hπ a (by omega))
        by_cases hls : less (π h) (π a) = true
        · obtain ⟨k, k1, k2, k3, k4, k5⟩ := sm0_loop π hπ hab hb fuel (h + 1) j (by omega) (by omega) (by omega) h3 (.inr (by rw [show h + 1 - 1 = h by omega]; exact hls)) hr
          refine ⟨k, k1, k2, k3, k4, ?_⟩
          have s := sm0_t N g cs (ints N fun k => (π k : Int)) b1 b2 a i j h (π h : Int) (π a : Int) c (by omega) (by omega) (by omega) (by rw [hd]; omega) (ixS hd (by omega)) (ints_el (by omega)) (ixS rfl (by omega)) (ints_el (by omega)) hfd (hc.2 hls) (by rw [hd]; omega)
          rw [hd] at s
          exact Loops.round s (SDrop c1 c2 (by omega) (by kernel_rfl) (by simp [All_cons, All_nil, Clo, Clos, clos3 hcs]; simp [Ids])) k5
        · have hls : less (π h) (π a) = false := by simpa using hls
          obtain ⟨k, k1, k2, k3, k4, k5⟩ := sm0_loop π hπ hab hb fuel i h (by omega) h1 (by omega) (by omega) hl (.inr hls)
          refine ⟨k, k1, k2, k3, k4, ?_⟩
          have s := sm0_f N g cs (ints N fun k => (π k : Int)) b1 b2 a i j h (π h : Int) (π a : Int) c (by omega) (by omega) (by omega) (by rw [hd]; omega) (ixS hd (by omega)) (ints_el (by omega)) (ixS rfl (by omega)) (ints_el (by omega)) hfd (fun h => by have := hc.1 h; rw [hls] at this; cases this)
          rw [hd] at s
          exact Loops.round s (SDrop c1 c2 (by omega) (by kernel_rfl) (by simp [All_cons, All_nil, Clo, Clos, clos3 hcs]; simp [Ids])) k5

theorem sm1_loop {a i : Nat} (π : Nat → Nat) (hi : i ≤ N) : ∀ (f k : Nat), k + 1 + f = i → a ≤ k →
    Loops Try.prog 3 220 (loopAt Try.prog 64 1) [(0, .slice (some ⟨0, 0, 0, 0, 1⟩) N N), (10, .int .i64 i), (13, .int .i64 k)] (SH 16 N (rotF π a (a + 1) (k + 1)) b1 b2) (.exit 2) [] (SH 20 N (rotF π a (a + 1) i) b1 b2)
  | 0, k, e, h => by
    obtain rfl : i = k + 1 := by omega
    exact Loops.last (by simp) (sm1_end N 0 [] _ b1 b2 (k + 1) k (by omega) (by omega))
  | f + 1, k, e, h => by
    have s := sm1_step N 0 [] (ints N fun j => (rotF π a (a + 1) (k + 1) j : Int)) b1 b2 i k (rotF π a (a + 1) (k + 1) k : Int) (rotF π a (a + 1) (k + 1) (k + 1) : Int) _ _ (by omega) (by omega) (by omega) (by omega) (ixS (by omega) (by omega)) (ints_el (by omega)) (ixS rfl (by omega)) (ints_el (by omega)) (ixS rfl (by omega)) ⟨rfl, ints_get (by omega)⟩ (ixS (by omega) (by omega)) ⟨rfl, ints_set_get (by omega)⟩ (by omega)
    rw [swap1_row, rot1_step π h] at s
    exact Loops.round s (SDrop c1 c2 (by omega) (by kernel_rfl) (by simp [All_cons, All_nil, Clo]; simp [Ids])) (sm1_loop π hi f (k + 1) (by omega) (by omega))

/-! ## the case of one thing behind -/
theorem sm2_loop {a m : Nat} (π : Nat → Nat) (hπ : InN N π) (ham : a < m) (hm : m < N) : ∀ (fuel i j : Nat), j - i ≤ fuel → a ≤ i → i ≤ j → j ≤ m → (i = a ∨ less (π m) (π (i - 1)) = false) → (j = m ∨ less (π m) (π j) = true) →
    ∃ k, a ≤ k ∧ k ≤ m ∧ (k = a ∨ less (π m) (π (k - 1)) = false) ∧ (k = m ∨ less (π m) (π k) = true) ∧
    Loops Try.prog 3 220 (loopAt Try.prog 64 2) [(0, .slice (some ⟨0, 0, 0, 0, 1⟩) N N), (2, .int .i64 m), (4, .func (.func g) [] cs), (14, .int .i64 i), (15, .int .i64 j)] (SH 15 N π b1 b2)
      (.exit 4) [(0, .slice (some ⟨0, 0, 0, 0, 1⟩) N N), (2, .int .i64 m), (14, .int .i64 k)] (SH 18 N π b1 b2)
  | fuel, i, j, hf, h1, h2, h3, hl, hr => by
    by_cases hij : i = j
    · subst hij
      exact ⟨i, h1, h3, hl, hr, Loops.last (by simp) (sm2_end N g cs _ b1 b2 m i i (by omega))⟩
    · match fuel, hf with
      | 0, hf => omega
      | fuel + 1, hf =>
        have hh : i ≤ (i + j) / 2 ∧ (i + j) / 2 < j := by omega
        generalize hhd : (i + j) / 2 = h at hh
        have hd : Int.fdiv ((i : Int) + (j : Int)) (2 ^ 1) = (h : Int) := by rw [fdiv2, hhd]
        obtain ⟨c, hc, hfd⟩ := hcmp 37 π (π m) (π h) (by omega) (hπ m (by omega)) (hπ h (by omega))
        by_cases hls : less (π m) (π h) = true
        · obtain ⟨k, k1, k2, k3, k4, k5⟩ := sm2_loop π hπ ham hm fuel i h (by omega) h1 (by omega) (by omega) hl (.inr hls)
          refine ⟨k, k1, k2, k3, k4, ?_⟩
          have s := sm2_t N g cs (ints N fun k => (π k : Int)) b1 b2 m i j h (π m : Int) (π h : Int) c (by omega) (by omega) (by omega) (by rw [hd]; omega) (ixS rfl (by omega)) (ints_el (by omega)) (ixS hd (by omega)) (ints_el (by omega)) hfd (hc.2 hls)
          rw [hd] at s
          exact Loops.round s (SDrop c1 c2 (by omega) (by kernel_rfl) (by simp [All_cons, All_nil, Clo, Clos, clos3 hcs]; simp [Ids])) k5
        · have hls : less (π m) (π h) = false := by simpa using hls
          obtain ⟨k, k1, k2, k3, k4, k5⟩ := sm2_loop π hπ ham hm fuel (h + 1) j (by omega) (by omega) (by omega) h3 (.inr (by rw [show h + 1 - 1 = h by omega]; exact hls)) hr
          refine ⟨k, k1, k2, k3, k4, ?_⟩
          have s := sm2_f N g cs (ints N fun k => (π k : Int)) b1 b2 m i j h (π m : Int) (π h : Int) c (by omega) (by omega) (by omega) (by rw [hd]; omega) (ixS rfl (by omega)) (ints_el (by omega)) (ixS hd (by omega)) (ints_el (by omega)) hfd (fun h => by have := hc.1 h; rw [hls] at this; cases this) (by rw [hd]; omega)
          rw [hd] at s
          exact Loops.round s (SDrop c1 c2 (by omega) (by kernel_rfl) (by simp [All_cons, All_nil, Clo, Clos, clos3 hcs]; simp [Ids])) k5

theorem sm3_loop {m i : Nat} (π : Nat → Nat) (hm : m < N) : ∀ (f k : Nat), i + f = k → k ≤ m →
    Loops Try.prog 3 220 (loopAt Try.prog 64 3) [(0, .slice (some ⟨0, 0, 0, 0, 1⟩) N N), (14, .int .i64 i), (17, .int .i64 k)] (SH 20 N (rotF π k m (m + 1)) b1 b2) (.exit 6) [] (SH 23 N (rotF π i m (m + 1)) b1 b2)
  | 0, k, e, h => by
    obtain rfl : i = k := by omega
    exact Loops.last (by simp) (sm3_end N 0 [] _ b1 b2 i i (by omega))
  | f + 1, k, e, h => by
    obtain ⟨k', rfl⟩ : ∃ k', k = k' + 1 := ⟨k - 1, by omega⟩
    have s := sm3_step N 0 [] (ints N fun j => (rotF π (k' + 1) m (m + 1) j : Int)) b1 b2 i (k' + 1) (rotF π (k' + 1) m (m + 1) (k' + 1) : Int) (rotF π (k' + 1) m (m + 1) k' : Int) _ _ (by omega) (by omega) (by omega) (ixS (by omega) (by omega)) (ints_el (by omega)) (ixS rfl (by omega)) (ints_el (by omega)) (ixS rfl (by omega)) ⟨rfl, ints_get (by omega)⟩ (ixS (by omega) (by omega)) ⟨rfl, ints_set_get (by omega)⟩ (by omega)
    have r := rotL_step π h (by omega)
    rw [show k' + 1 - 1 = k' by omega] at r s
    rw [swap1_row', r, show ((k' + 1 : Nat) : Int) - 1 = (k' : Int) by omega] at s
    exact Loops.round s (SDrop c1 c2 (by omega) (by kernel_rfl) (by simp [All_cons, All_nil, Clo]; simp [Ids])) (sm3_loop π hm f k' (by omega) (by omega))

/-- one thing ahead -/
theorem sm_one {a m b : Nat} (π : Nat → Nat) (hπ : InN N π) (hm : m = a + 1) (hmb : m < b) (hb : b ≤ N) (hp : Parts less π a m b) :
    ∃ σ, Same π σ a b ∧ Srt less σ a b ∧ ∀ K, 3 ≤ K → FDoes Try.prog 64 [.slice (some ⟨0, 0, 0, 0, 1⟩) N N, .int .i64 a, .int .i64 m, .int .i64 b, .func (.func g) [] cs] (SH K N π b1 b2) (.tuple []) (SH K N σ b1 b2) := by
  subst hm
  obtain ⟨k, k1, k2, k3, k4, k5⟩ := sm0_loop hN c1 c2 hcs hw hcmp π hπ (by omega : a < b) hb (b - (a + 1)) (a + 1) b (by omega) (by omega) (by omega) (by omega) (.inl rfl) (.inl rfl)
  have l := sm1_loop hN c1 c2 hcs hw hcmp (a := a) (i := k) π (by omega) (k - (a + 1)) a (by omega) (by omega)
  rw [rot1_zero] at l
  refine ⟨_, (rotF_same π (by omega) (by omega)).wide (Nat.le_refl a) k2 (by omega), merge_one hw hp k1 k2 k3 k4, fun K hK => ?_⟩
  exact (smc_one N g cs _ b1 b2 a (a + 1) b k _ _ (by omega) (by omega) (Runs.of_loops k5) (Runs.of_loops l)).all3 (by kernel_rfl) ⟨fun _ => rfl, by simp [Clo, Clos]⟩ (srow_clo _ _ _) (srow_clo _ _ _) c1 c2 (by simp [Clos, Clo, hcs]) hK

/-- one thing behind -/
theorem sm_last {a m b : Nat} (π : Nat → Nat) (hπ : InN N π) (ham : a < m) (ham2 : m ≠ a + 1) (hbm : b = m + 1) (hb : b ≤ N) (hp : Parts less π a m b) :
    ∃ σ, Same π σ a b ∧ Srt less σ a b ∧ ∀ K, 3 ≤ K → FDoes Try.prog 64 [.slice (some ⟨0, 0, 0, 0, 1⟩) N N, .int .i64 a, .int .i64 m, .int .i64 b, .func (.func g) [] cs] (SH K N π b1 b2) (.tuple []) (SH K N σ b1 b2) := by
  subst hbm
  obtain ⟨k, k1, k2, k3, k4, k5⟩ := sm2_loop hN c1 c2 hcs hw hcmp π hπ ham (by omega) (m - a) a m (by omega) (by omega) (by omega) (by omega) (.inl rfl) (.inl rfl)
  have l := sm3_loop hN c1 c2 hcs hw hcmp (i := k) π (by omega : m < N) (m - k) m (by omega) (by omega)
  rw [rotL_zero] at l
  refine ⟨_, (rotF_same π k2 (by omega)).wide k1 (Nat.le_refl _) (by omega), merge_last hw hp k1 k2 k3 k4, fun K hK => ?_⟩
  exact (smc_last N g cs _ b1 b2 a m (m + 1) k _ _ (by omega) (by omega) (by omega) (by omega) (Runs.of_loops k5) (Runs.of_loops l)).all3 (by kernel_rfl) ⟨fun _ => rfl, by simp [Clo, Clos]⟩ (srow_clo _ _ _) (srow_clo _ _ _) c1 c2 (by simp [Clos, Clo, hcs]) hK

end
end Go.Proofs.Ytgfkllnaeekjeaa
