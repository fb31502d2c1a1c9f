/-
  PROVED HERE: 'frescolaw09.GridFlow' answers true for every input (the given statement GridFlowSaid). No condition beside the row's own.
-/
import Derived.Test.YtcgcpmcjaeenlaaKGridFlowF
namespace Go.Proofs.Ytcgcpmcjaeenlaa.gridFlow
open Go.ChangeShapes Go.WideShapes Go.ChangeAt Go.RowKit
open Go.Lift
set_option linter.unusedVariables false
set_option linter.unusedSimpArgs false

theorem own : ownKnob Try.prog.godebug = none := by kernel_rfl
theorem laidOut : laidOutB Try.prog = true := by kernel_rfl

set_option maxRecDepth 100000 in
theorem lifted (os : Os) (started : os.Started) (H : Type) (enc : TypeId × Value → H) :
    ReturnsInHanded {} Try.checked os 3 .any (Rows.gridFlowSpec.pre6 enc Try.prog Try.f3 Rows.gridFlowRow.domain false) (Rows.gridFlowSpec.post enc Try.prog Try.f3 false true false false) := by
  refine returnsInHanded_of_change_shaped (C := Try.checked) own started (by kernel_rfl) Try.func3
    (ChangeSpec.witness6 (enc := enc) (C := Try.checked) false ⟨#[], #[.slice none 0 0, .int .i64 0], []⟩ 8 (by kernel_rfl) (by kernel_rfl) (by kernel_rfl) (by kernel_rfl)) ?_
  intro W base args ds gs before hval0 hW hcnd hwt0 hshape _
  have hsz : 0 < W.heap.size := size_of_shape hshape (by kernel_rfl)
  have hval : ∀ (j : Nat) t v, Try.f3.params[j]? = some t → args[j]? = some v → Value.okWide Try.prog W .any base t v := hval0
  have hW' := hW
  obtain ⟨p, q, hA0, hV, rfl, hfz, hnd⟩ := hW
  have hA : DataW.TrodAll enc Try.prog W 0 (fun _ => true) true Try.f3.params.toList args.toList ds p := hA0
  rw [Try.params3] at hA hval
  obtain ⟨v0, vs0, d0, ds0, p0, q0_, hargs, rfl, rfl, h0, r0⟩ := trodAll_cons hA
  obtain ⟨v1, vs1, d1, ds1, p1, q1_, rfl, rfl, rfl, h1, r1⟩ := trodAll_cons r0
  obtain ⟨rfl, rfl, rfl⟩ := trodAll_nil r1
  obtain rfl : args = #[v0, v1] := by cases args; simp_all
  obtain ⟨rfl, rfl⟩ := trodVars_none hV
  have hwt : ∀ y ∈ DataW.weightsEach Try.prog [22, 3] [d0, d1], y ≤ reachBytes := fun y hy => of_decide_eq_true (List.all_eq_true.1 hwt0 y hy)
  obtain ⟨wt0, hwt0⟩ := weights_cons hwt
  obtain ⟨wt1, hwt1⟩ := weights_cons hwt0
  have k0 := h0
  have lt0 : ∀ x ∈ p0, x.block < W.heap.size := by obtain ⟨m, hm⟩ := k0; exact DataW.trod_lt m _ _ _ hm
  obtain ⟨s0, n0, cap0, rfl⟩ := okWide_slice Try.underlying22 (hval 0 22 v0 rfl rfl)
  obtain ⟨o0, c0, b0, q0, x0, hs0, hr0, hn0, hv0, hx0, he0⟩ := open_flat_arg (isA := true) (d := 5) (sz := 4) (ks := qdKinds) hsz Try.underlying22 (by kernel_rfl) rfl (by intro h; cases h) (by kernel_rfl) h0 0
  have len0 := weight_len Try.underlying22 k0 wt0
  rw [show Try.prog.bytesOf 28 = 32 by kernel_rfl] at len0
  simp only [reachBytes] at len0
  obtain ⟨a1, rfl, rfl, rfl, w1⟩ := open_int Try.underlying3 (hval 1 3 v1 rfl rfl) h1
  clear hA0 hval0
  obtain ⟨src, hel, hfit⟩ := quads_of hx0 he0
  obtain ⟨h', k⟩ := gflow_law hs0 hr0.bare hel (by omega) a1
  refine (FDoes.law (l := [(b0, q0)]) k (by simp [*]) (by simp only [VRels]; exact ⟨_, _, rfl, hv0 _ rfl, _, _, rfl, by simp [VRel], rfl⟩)).mono fun e W' ⟨he, bel⟩ => ?_
  subst he
  exact ⟨_, rfl, _, _, _, [], _, [], hW', trodAll_mk1 (shut_bool Try.underlying4 _), (trodAll_cons_mk (Below.trod laidOut (by kernel_rfl) (of_decide_eq_true (by kernel_rfl)) k0 bel lt0) (trodAll_cons_mk (shut_int Try.underlying3 w1) trodAll_mk0)), rfl, bel.frame _, fun h => by cases h⟩

theorem over : Rows.gridFlowRow.holds Try.pinned (OpenSpec.ofChange Rows.gridFlowSpec) :=
  OpenClaim.holds_of_wide 3 Try.f3 rfl rfl rfl rfl rfl rfl rfl ⟨rfl, rfl, rfl, rfl, rfl⟩ rfl rfl rfl rfl rfl (by kernel_rfl) Try.func3 (by kernel_rfl)
    (of_decide_eq_true (by kernel_rfl)) (by unfold Func.isWrapper; first | (rw [if_pos (by decide +kernel)]; kernel_rfl) | (rw [if_neg (by decide +kernel)]; exact ⟨rfl, rfl⟩))
    (fun os started H enc _ => lifted os started H enc)

theorem proved : Rows.GridFlowSaid := over
#print axioms proved
end Go.Proofs.Ytcgcpmcjaeenlaa.gridFlow
