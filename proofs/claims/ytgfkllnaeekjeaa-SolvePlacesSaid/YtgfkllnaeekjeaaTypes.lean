/-
  SLICES OF INTEGERS of this program: indexes.
-/
import Derived.Test.YtgfkllnaeekjeaaLiftV
import Derived.Test.YtgfkllnaeekjeaaEnv
import Derived.KernelRfl
namespace Go.Proofs.Ytgfkllnaeekjeaa
open Go.Lift
set_option maxRecDepth 1000000

theorem ix_int {o : Option AAddr} {n c id ver off : Nat} (h : SlArg o n c id ver off 1) {k : IntKind} {i : Int} (h0 : 0 ≤ i) (hi : i < n) :
    aindexAddr env.D 27 (.slice o n c) (.int k i) = some (.ptr (some ⟨id, ver, off + i.toNat, 0, 1⟩)) :=
  h.index (d := ⟨.slice 3, 1, 24, some (.slice none 0 0)⟩) (xd := ⟨.int .i64, 1, 8, some (.int .i64 0)⟩) (show tyD _ _ = _ by kernel_rfl) rfl (show tyD _ _ = _ by kernel_rfl) rfl h0 hi

theorem ix_intN {o : Option AAddr} {n c id ver off : Nat} (h : SlArg o n c id ver off 1) {k : IntKind} {i : Nat} (hi : i < n) :
    aindexAddr env.D 27 (.slice o n c) (.int k i) = some (.ptr (some ⟨id, ver, off + i, 0, 1⟩)) := ix_int h (by omega) (by omega)

def sumTo (f : Nat → Int) : Nat → Int
  | 0 => 0
  | n + 1 => sumTo f n + f n

/-! rows of integers -/
def ints (n : Nat) (f : Nat → Int) : List AVal := (List.range n).map fun j => .int .i64 (f j)
@[simp] theorem ints_length (n : Nat) (f : Nat → Int) : (ints n f).length = n := by simp [ints]
theorem ints_get {n : Nat} {f : Nat → Int} {i : Nat} (h : i < n) : (ints n f)[i]? = some (.int .i64 (f i)) := by simp [ints, h]
theorem ints_congr {n : Nat} {f g : Nat → Int} (h : ∀ j, j < n → f j = g j) : ints n f = ints n g := List.map_congr_left fun j hj => by rw [h j (List.mem_range.1 hj)]
theorem ints_set {n : Nat} {f : Nat → Int} {i : Nat} {v : Int} : (ints n f).set i (.int .i64 v) = ints n (fun j => if j = i then v else f j) := by
  apply List.ext_getElem (by simp)
  intro j h1 h2
  rw [List.getElem_set]
  simp only [ints, List.getElem_map, List.getElem_range]
  by_cases e : i = j
  · subst e; simp
  · rw [if_neg e, if_neg (Ne.symm e)]
theorem ints_zero (n : Nat) : List.replicate n (AVal.int .i64 0) = ints n (fun _ => 0) := by
  apply List.ext_getElem (by simp)
  intro j h1 h2
  simp [ints]
theorem ints_bare (n : Nat) (f : Nat → Int) : ∀ e ∈ ints n f, Bare e := Bare.ints _ _ _
theorem ints_snoc (n : Nat) (f : Nat → Int) : ints n f ++ [.int .i64 (f n)] = ints (n + 1) f := by simp [ints, List.range_succ]
theorem ints_step {n : Nat} {y z : Nat → Int} {i : Nat} : (ints n (fun j => if j < i then y j else z j)).set i (.int .i64 (y i)) = ints n (fun j => if j < i + 1 then y j else z j) := by
  rw [ints_set]
  refine ints_congr fun j _ => ?_
  by_cases e : j = i
  · subst e; simp
  · rw [if_neg e]
    by_cases c : j < i
    · rw [if_pos c, if_pos (by omega)]
    · rw [if_neg c, if_neg (by omega)]
end Go.Proofs.Ytgfkllnaeekjeaa
