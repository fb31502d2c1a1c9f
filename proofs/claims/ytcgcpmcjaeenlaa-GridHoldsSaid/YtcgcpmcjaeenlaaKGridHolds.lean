/-
  PROVED HERE: 'frescolaw09.GridHolds' answers true for every input (the given statement GridHoldsSaid). No condition beside the row's own.
-/
import Derived.Test.YtcgcpmcjaeenlaaKGridHoldsF
namespace Go.Proofs.Ytcgcpmcjaeenlaa.gridHolds
open Go.ChangeShapes Go.WideShapes Go.ChangeAt Go.RowKit
open Go.Lift
set_option linter.unusedVariables false
set_option linter.unusedSimpArgs false

theorem own : ownKnob Try.prog.godebug = none := by kernel_rfl
theorem laidOut : laidOutB Try.prog = true := by kernel_rfl

set_option maxRecDepth 100000 in
theorem lifted (os : Os) (started : os.Started) (H : Type) (enc : TypeId × Value → H) :
    ReturnsInHanded {} Try.checked os 8 .any (Rows.gridHoldsSpec.pre6 enc Try.prog Try.f8 Rows.gridHoldsRow.domain false) (Rows.gridHoldsSpec.post enc Try.prog Try.f8 false true false false) := by
  refine returnsInHanded_of_change_shaped (C := Try.checked) own started (by kernel_rfl) Try.func8
    (ChangeSpec.witness6 (enc := enc) (C := Try.checked) false ⟨#[], #[.int .i64 0, .slice none 0 0, .slice none 0 0, .int .i64 0], []⟩ 8 (by kernel_rfl) (by kernel_rfl) (by kernel_rfl) (by kernel_rfl)) ?_
  intro W base args ds gs before hval0 hW hcnd hwt0 hshape _
  have hsz : 0 < W.heap.size := size_of_shape hshape (by kernel_rfl)
  have hval : ∀ (j : Nat) t v, Try.f8.params[j]? = some t → args[j]? = some v → Value.okWide Try.prog W .any base t v := hval0
  have hW' := hW
  obtain ⟨p, q, hA0, hV, rfl, hfz, hnd⟩ := hW
  have hA : DataW.TrodAll enc Try.prog W 0 (fun _ => true) true Try.f8.params.toList args.toList ds p := hA0
  rw [Try.params8] at hA hval
  obtain ⟨v0, vs0, d0, ds0, p0, q0_, hargs, rfl, rfl, h0, r0⟩ := trodAll_cons hA
  obtain ⟨v1, vs1, d1, ds1, p1, q1_, rfl, rfl, rfl, h1, r1⟩ := trodAll_cons r0
  obtain ⟨v2, vs2, d2, ds2, p2, q2_, rfl, rfl, rfl, h2, r2⟩ := trodAll_cons r1
  obtain ⟨v3, vs3, d3, ds3, p3, q3_, rfl, rfl, rfl, h3, r3⟩ := trodAll_cons r2
  obtain ⟨rfl, rfl, rfl⟩ := trodAll_nil r3
  obtain rfl : args = #[v0, v1, v2, v3] := by cases args; simp_all
  obtain ⟨rfl, rfl⟩ := trodVars_none hV
  have hwt : ∀ y ∈ DataW.weightsEach Try.prog [3, 32, 31, 3] [d0, d1, d2, d3], y ≤ reachBytes := fun y hy => of_decide_eq_true (List.all_eq_true.1 hwt0 y hy)
  obtain ⟨wt0, hwt0⟩ := weights_cons hwt
  obtain ⟨wt1, hwt1⟩ := weights_cons hwt0
  obtain ⟨wt2, hwt2⟩ := weights_cons hwt1
  obtain ⟨wt3, hwt3⟩ := weights_cons hwt2
  obtain ⟨a0, rfl, rfl, rfl, w0⟩ := open_int Try.underlying3 (hval 0 3 v0 rfl rfl) h0
  have k1 := h1
  have lt1 : ∀ x ∈ p1, x.block < W.heap.size := by obtain ⟨m, hm⟩ := k1; exact DataW.trod_lt m _ _ _ hm
  obtain ⟨s1, n1, cap1, rfl⟩ := okWide_slice Try.underlying32 (hval 1 32 v1 rfl rfl)
  obtain ⟨o1, c1, b1, q1, x1, hs1, hr1, hn1, hv1, hx1, he1⟩ := open_flat_arg (isA := false) (d := 5) (sz := 1) (ks := [.int .i64]) hsz Try.underlying32 (by kernel_rfl) rfl (by intro _; rfl) (by kernel_rfl) h1 0
  have len1 := weight_len Try.underlying32 k1 wt1
  rw [show Try.prog.bytesOf 3 = 8 by kernel_rfl] at len1
  simp only [reachBytes] at len1
  have k2 := h2
  have lt2 : ∀ x ∈ p2, x.block < W.heap.size := by obtain ⟨m, hm⟩ := k2; exact DataW.trod_lt m _ _ _ hm
  obtain ⟨s2, n2, cap2, rfl⟩ := okWide_slice Try.underlying31 (hval 2 31 v2 rfl rfl)
  obtain ⟨o2, c2, b2, q2, x2, hs2, hr2, hn2, hv2, hx2, he2⟩ := open_flat_arg (isA := true) (d := 5) (sz := 3) (ks := needKinds) hsz Try.underlying31 (by kernel_rfl) rfl (by intro h; cases h) (by kernel_rfl) h2 1
  have len2 := weight_len Try.underlying31 k2 wt2
  rw [show Try.prog.bytesOf 38 = 24 by kernel_rfl] at len2
  simp only [reachBytes] at len2
  obtain ⟨a3, rfl, rfl, rfl, w3⟩ := open_int Try.underlying3 (hval 3 3 v3 rfl rfl) h3
  clear hA0 hval0
  obtain ⟨src, hel, hfit⟩ := needs_of hx2 he2
  obtain ⟨h', k⟩ := gholds_law hs1 hs2 hr1.bare hr2.bare (ints_of hx1 he1) hel hfit (by omega) (by omega) a0 a3
  refine (FDoes.law (l := [(b1, q1), (b2, q2)]) k (by simp [*]) (by simp only [VRels]; exact ⟨_, _, rfl, by simp [VRel], _, _, rfl, hv1 _ rfl, _, _, rfl, hv2 _ rfl, _, _, rfl, by simp [VRel], rfl⟩)).mono fun e W' ⟨he, bel⟩ => ?_
  subst he
  exact ⟨_, rfl, _, _, _, [], _, [], hW', trodAll_mk1 (shut_bool Try.underlying4 _), (trodAll_cons_mk (shut_int Try.underlying3 w0) (trodAll_cons_mk (Below.trod laidOut (by kernel_rfl) (of_decide_eq_true (by kernel_rfl)) k1 bel lt1) (trodAll_cons_mk (Below.trod laidOut (by kernel_rfl) (of_decide_eq_true (by kernel_rfl)) k2 bel lt2) (trodAll_cons_mk (shut_int Try.underlying3 w3) trodAll_mk0)))), rfl, bel.frame _, fun h => by cases h⟩

theorem over : Rows.gridHoldsRow.holds Try.pinned (OpenSpec.ofChange Rows.gridHoldsSpec) :=
  OpenClaim.holds_of_wide 8 Try.f8 rfl rfl rfl rfl rfl rfl rfl ⟨rfl, rfl, rfl, rfl, rfl⟩ rfl rfl rfl rfl rfl (by kernel_rfl) Try.func8 (by kernel_rfl)
    (of_decide_eq_true (by kernel_rfl)) (by unfold Func.isWrapper; first | (rw [if_pos (by decide +kernel)]; kernel_rfl) | (rw [if_neg (by decide +kernel)]; exact ⟨rfl, rfl⟩))
    (fun os started H enc _ => lifted os started H enc)

theorem proved : Rows.GridHoldsSaid := over
#print axioms proved
end Go.Proofs.Ytcgcpmcjaeenlaa.gridHolds
