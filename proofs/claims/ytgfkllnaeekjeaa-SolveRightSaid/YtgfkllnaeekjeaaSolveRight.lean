/-
  PROVED HERE: 'frescolaw08.SolveRight' answers true for every input (the given statement SolveRightSaid). No condition beside the row's own.
-/
import Derived.Test.YtgfkllnaeekjeaaSolveRightL
import Derived.Test.YtgfkllnaeekjeaaItems
namespace Go.Proofs.Ytgfkllnaeekjeaa.solveRight
open Go.ChangeShapes Go.WideShapes Go.ChangeAt Go.RowKit
open Go.Lift
set_option linter.unusedVariables false
set_option linter.unusedSimpArgs false

theorem own : ownKnob Try.prog.godebug = none := by kernel_rfl
theorem laidOut : laidOutB Try.prog = true := by kernel_rfl

set_option maxRecDepth 100000 in
theorem lifted (os : Os) (started : os.Started) (H : Type) (enc : TypeId × Value → H) :
    ReturnsInHanded {} Try.checked os 3 .any (Rows.solveRightSpec.pre6 enc Try.prog Try.f3 Rows.solveRightRow.domain false) (Rows.solveRightSpec.post enc Try.prog Try.f3 false true false false) := by
  refine returnsInHanded_of_change_shaped (C := Try.checked) own started (by kernel_rfl) Try.func3
    (ChangeSpec.witness6 (enc := enc) (C := Try.checked) false ⟨#[], #[.agg #[.int .i8 0, .int .i64 0, .int .i64 0, .int .i64 0, .int .i64 0]], []⟩ 8 (by kernel_rfl) (by kernel_rfl) (by kernel_rfl) (by kernel_rfl)) ?_
  intro W base args ds gs before hval0 hW hcnd _ hshape _
  have hsz : 0 < W.heap.size := size_of_shape hshape (by kernel_rfl)
  have hval : ∀ (j : Nat) t v, Try.f3.params[j]? = some t → args[j]? = some v → Value.okWide Try.prog W .any base t v := hval0
  have hW' := hW
  obtain ⟨p, q, hA0, hV, rfl, hfz, hnd⟩ := hW
  have hA : DataW.TrodAll enc Try.prog W 0 (fun _ => true) true Try.f3.params.toList args.toList ds p := hA0
  rw [Try.params3] at hA hval
  obtain ⟨v0, vs0, d0, ds0, p0, q0_, hargs, rfl, rfl, h0, r0⟩ := trodAll_cons hA
  obtain ⟨rfl, rfl, rfl⟩ := trodAll_nil r0
  obtain rfl : args = #[v0] := by cases args; simp_all
  obtain ⟨rfl, rfl⟩ := trodVars_none hV
  have k0 := h0
  have lt0 : ∀ x ∈ p0, x.block < W.heap.size := by obtain ⟨m, hm⟩ := k0; exact DataW.trod_lt m _ _ _ hm
  obtain ⟨cs0, rfl, sz0⟩ := okWide_struct Try.underlying24 (hval 0 24 v0 rfl rfl)
  obtain ⟨hv0, he0⟩ := open_flat_val (d := 5) (sz := 5) (ks := itKinds) (by kernel_rfl) (by kernel_rfl) sz0 h0
  clear hA0 hval0
  obtain ⟨t, ht, _⟩ := it_val (cs := cs0) (sz0.trans (by kernel_rfl)) he0
  obtain ⟨h', k⟩ := show ∃ h', FDoes Try.prog 3 [.agg (cs0.toList.map ofScalar)] (AHeap.of []) (.bool true) h' from ht ▸ ⟨_, solveRight_p t.k t.n t.d t.mn t.mx rfl⟩
  refine (FDoes.law (l := []) k (by simp [*]) (by simp only [VRels]; exact ⟨_, _, rfl, hv0 _, rfl⟩)).mono fun e W' ⟨he, bel⟩ => ?_
  subst he
  exact ⟨_, rfl, _, _, _, [], _, [], hW', trodAll_mk1 (shut_bool Try.underlying4 _), (trodAll_cons_mk (Below.trod laidOut (by kernel_rfl) (of_decide_eq_true (by kernel_rfl)) k0 bel lt0) trodAll_mk0), rfl, bel.frame _, fun h => by cases h⟩

theorem over : Rows.solveRightRow.holds Try.pinned (OpenSpec.ofChange Rows.solveRightSpec) :=
  OpenClaim.holds_of_wide 3 Try.f3 rfl rfl rfl rfl rfl rfl rfl ⟨rfl, rfl, rfl, rfl, rfl⟩ rfl rfl rfl rfl rfl (by kernel_rfl) Try.func3 (by kernel_rfl)
    (of_decide_eq_true (by kernel_rfl)) (by unfold Func.isWrapper; first | (rw [if_pos (by decide +kernel)]; kernel_rfl) | (rw [if_neg (by decide +kernel)]; exact ⟨rfl, rfl⟩))
    (fun os started H enc _ => lifted os started H enc)

theorem proved : Rows.SolveRightSaid := over
#print axioms proved
end Go.Proofs.Ytgfkllnaeekjeaa.solveRight
