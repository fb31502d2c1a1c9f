/-
  ITEMS: as values, and as they came in.
-/
import Derived.Test.YtgfkllnaeekjeaaFlat
import Derived.Test.YtgfkllnaeekjeaaTypes
namespace Go.Proofs.Ytgfkllnaeekjeaa
open Go.Lift
set_option maxRecDepth 1000000

structure It where
  k : Int
  n : Int
  d : Int
  mn : Int
  mx : Int

def It.cells (t : It) : List AVal := [.int .i8 t.k, .int .i64 t.n, .int .i64 t.d, .int .i64 t.mn, .int .i64 t.mx]
def It.val (t : It) : AVal := .agg t.cells
structure It.Fits (t : It) : Prop where
  k : -128 ≤ t.k ∧ t.k ≤ 127
  n : Fit64 t.n
  d : Fit64 t.d
  mn : Fit64 t.mn
  mx : Fit64 t.mx

def itKinds : List TK := [.int .i8, .int .i64, .int .i64, .int .i64, .int .i64]

theorem It.bare (t : It) : Bare t.val := Bare.agg (by simp [It.cells, Bare.int])

theorem it_cells (v : Nat → Value) (h : ∀ j, j < 5 → ∃ k, itKinds[j]? = some k ∧ CellIs k (v j)) : ∃ t : It, (List.range 5).map (fun j => ofScalar (v j)) = t.cells ∧ t.Fits := by
  have g : ∀ j k, j < 5 → itKinds[j]? = some k → CellIs k (v j) := by
    intro j k hj hk
    obtain ⟨k', h1, h2⟩ := h j hj
    rw [hk] at h1; simp only [Option.some.injEq] at h1; subst h1; exact h2
  have h0 := (g 0 _ (by omega) rfl).int
  have h1 := (g 1 _ (by omega) rfl).int
  have h2 := (g 2 _ (by omega) rfl).int
  have h3 := (g 3 _ (by omega) rfl).int
  have h4 := (g 4 _ (by omega) rfl).int
  refine ⟨⟨numA (ofScalar (v 0)), numA (ofScalar (v 1)), numA (ofScalar (v 2)), numA (ofScalar (v 3)), numA (ofScalar (v 4))⟩, ?_, wf_fit8 h0.2, wf_fit h1.2, wf_fit h2.2, wf_fit h3.2, wf_fit h4.2⟩
  show [ofScalar (v 0), ofScalar (v 1), ofScalar (v 2), ofScalar (v 3), ofScalar (v 4)] = _
  simp only [It.cells]
  rw [← h0.1, ← h1.1, ← h2.1, ← h3.1, ← h4.1]

theorem it_val {cs : Array Value} (hsz : cs.size = 5) (h : ∀ j, j < 5 → ∃ v k, cs.toList[j]? = some v ∧ itKinds[j]? = some k ∧ CellIs k v) : ∃ t : It, cs.toList.map ofScalar = t.cells ∧ t.Fits := by
  obtain ⟨t, h1, h2⟩ := it_cells (fun j => cs.toList.getD j undef) (fun j hj => by
    obtain ⟨v, k, e1, e2, e3⟩ := h j hj
    exact ⟨k, e2, by rw [List.getD_eq_getElem?_getD, e1]; exact e3⟩)
  refine ⟨t, ?_, h2⟩
  rw [← h1]
  apply List.ext_getElem (by simp [hsz])
  intro j h3 h4
  simp at h3
  simp [List.getD_eq_getElem?_getD, h3]

end Go.Proofs.Ytgfkllnaeekjeaa
