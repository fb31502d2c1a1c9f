/-
  THE LIFT, PART P: a closed run, taken as a function whose answer is known, wherever it is called.
-/
import Derived.Test.YtgfkllnaeekjeaaLiftN
namespace Go.Lift
noncomputable section
open Go.RowKit
set_option linter.unusedVariables false
section
variable {P : Program} {E : AEnv}

theorem Alike.of_below {w w' : World} (k : Below w.heap.size w w') : Alike w w' where
  size := k.size
  cell a ha := by simp only [World.cell?, k.block a.block ha]
  frozen a ha := by simp only [World.frozen?, k.block a.block ha]

/-- it answers true, and no memory that was there is touched -/
def saysYes : APrim
  | [], h => some (.bool true, h)
  | _, _ => none

theorem prim_closed (hE : EnvOk P E) (hmix : P.follows .mixedOrders = true) {n : Nat} {f : FuncId} (hrun : ∃ h', acall P E n f [] ⟨0, .nil⟩ = some (.bool true, h')) : PrimOk P f saysYes := by
  obtain ⟨h1, hrun⟩ := hrun
  intro N0 w0 hN args h v h' hg φ w args' hH hB hA
  cases args with
  | cons a r => simp [saysYes] at hg
  | nil =>
    simp only [saysYes, Option.some.injEq, Prod.mk.injEq] at hg
    obtain ⟨rfl, rfl⟩ := hg
    have hA0 : VRels noMap [] args'.toList := by
      cases hx : args'.toList with
      | nil => simp [VRels]
      | cons a r => rw [hx] at hA; simp [VRels] at hA
    have hs := acall_sound hE (N0 := fun k => k < w.heap.size) (w0 := w) (fun _ h => h) hmix n f [] ⟨0, .nil⟩ _ _ hrun noMap w args' (HRel.empty _ _ _) (Safe.refl _ _) hA0
    refine ⟨hs.1, hs.2.mono fun e w' ⟨v', φ', k1, k2, k4, k5, k6, k7⟩ => ?_⟩
    refine ⟨v', φ, k1, Keep.refl _ _, ?_, hH.alike (Alike.of_below k6.below), hB.trans (k6.less fun i hi => Nat.lt_of_lt_of_le (hN i hi) hB.size), Nat.le_refl _⟩
    simp only [VRel] at k4 ⊢; exact k4
end
end
end Go.Lift
