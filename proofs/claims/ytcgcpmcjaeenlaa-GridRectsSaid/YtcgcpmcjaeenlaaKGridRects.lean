/-
  PROVED HERE: 'frescolaw09.GridRects' answers true for every input (the given statement GridRectsSaid). No condition beside the row's own.
-/
import Derived.Test.YtcgcpmcjaeenlaaKGridRectsD
namespace Go.Proofs.Ytcgcpmcjaeenlaa.gridRects
open Go.ChangeShapes Go.WideShapes Go.ChangeAt Go.RowKit
open Go.Lift
set_option linter.unusedVariables false
set_option linter.unusedSimpArgs false

theorem own : ownKnob Try.prog.godebug = none := by kernel_rfl
theorem laidOut : laidOutB Try.prog = true := by kernel_rfl

set_option maxRecDepth 100000 in
theorem lifted (os : Os) (started : os.Started) (H : Type) (enc : TypeId × Value → H) :
    ReturnsInHanded {} Try.checked os 5 .any (Rows.gridRectsSpec.pre6 enc Try.prog Try.f5 Rows.gridRectsRow.domain false) (Rows.gridRectsSpec.post enc Try.prog Try.f5 false true false false) := by
  refine returnsInHanded_of_change_shaped (C := Try.checked) own started (by kernel_rfl) Try.func5
    (ChangeSpec.witness6 (enc := enc) (C := Try.checked) false ⟨#[], #[.slice none 0 0, .slice none 0 0, .int .i64 0, .slice none 0 0], []⟩ 8 (by kernel_rfl) (by kernel_rfl) (by kernel_rfl) (by kernel_rfl)) ?_
  intro W base args ds gs before hval0 hW hcnd hwt0 hshape _
  have hsz : 0 < W.heap.size := size_of_shape hshape (by kernel_rfl)
  have hval : ∀ (j : Nat) t v, Try.f5.params[j]? = some t → args[j]? = some v → Value.okWide Try.prog W .any base t v := hval0
  have hW' := hW
  obtain ⟨p, q, hA0, hV, rfl, hfz, hnd⟩ := hW
  have hA : DataW.TrodAll enc Try.prog W 0 (fun _ => true) true Try.f5.params.toList args.toList ds p := hA0
  rw [Try.params5] at hA hval
  obtain ⟨v0, vs0, d0, ds0, p0, q0_, hargs, rfl, rfl, h0, r0⟩ := trodAll_cons hA
  obtain ⟨v1, vs1, d1, ds1, p1, q1_, rfl, rfl, rfl, h1, r1⟩ := trodAll_cons r0
  obtain ⟨v2, vs2, d2, ds2, p2, q2_, rfl, rfl, rfl, h2, r2⟩ := trodAll_cons r1
  obtain ⟨v3, vs3, d3, ds3, p3, q3_, rfl, rfl, rfl, h3, r3⟩ := trodAll_cons r2
  obtain ⟨rfl, rfl, rfl⟩ := trodAll_nil r3
  obtain rfl : args = #[v0, v1, v2, v3] := by cases args; simp_all
  obtain ⟨rfl, rfl⟩ := trodVars_none hV
  have hwt : ∀ y ∈ DataW.weightsEach Try.prog [32, 32, 3, 22] [d0, d1, d2, d3], y ≤ reachBytes := fun y hy => of_decide_eq_true (List.all_eq_true.1 hwt0 y hy)
  obtain ⟨wt0, hwt0⟩ := weights_cons hwt
  obtain ⟨wt1, hwt1⟩ := weights_cons hwt0
  obtain ⟨wt2, hwt2⟩ := weights_cons hwt1
  obtain ⟨wt3, hwt3⟩ := weights_cons hwt2
  have k0 := h0
  have lt0 : ∀ x ∈ p0, x.block < W.heap.size := by obtain ⟨m, hm⟩ := k0; exact DataW.trod_lt m _ _ _ hm
  obtain ⟨s0, n0, cap0, rfl⟩ := okWide_slice Try.underlying32 (hval 0 32 v0 rfl rfl)
  obtain ⟨o0, c0, b0, q0, x0, hs0, hr0, hn0, hv0, hx0, he0⟩ := open_flat_arg (isA := false) (d := 5) (sz := 1) (ks := [.int .i64]) hsz Try.underlying32 (by kernel_rfl) rfl (by intro _; rfl) (by kernel_rfl) h0 0
  have len0 := weight_len Try.underlying32 k0 wt0
  rw [show Try.prog.bytesOf 3 = 8 by kernel_rfl] at len0
  simp only [reachBytes] at len0
  have k1 := h1
  have lt1 : ∀ x ∈ p1, x.block < W.heap.size := by obtain ⟨m, hm⟩ := k1; exact DataW.trod_lt m _ _ _ hm
  obtain ⟨s1, n1, cap1, rfl⟩ := okWide_slice Try.underlying32 (hval 1 32 v1 rfl rfl)
  obtain ⟨o1, c1, b1, q1, x1, hs1, hr1, hn1, hv1, hx1, he1⟩ := open_flat_arg (isA := false) (d := 5) (sz := 1) (ks := [.int .i64]) hsz Try.underlying32 (by kernel_rfl) rfl (by intro _; rfl) (by kernel_rfl) h1 1
  have len1 := weight_len Try.underlying32 k1 wt1
  rw [show Try.prog.bytesOf 3 = 8 by kernel_rfl] at len1
  simp only [reachBytes] at len1
  obtain ⟨a2, rfl, rfl, rfl, w2⟩ := open_int Try.underlying3 (hval 2 3 v2 rfl rfl) h2
  have k3 := h3
  have lt3 : ∀ x ∈ p3, x.block < W.heap.size := by obtain ⟨m, hm⟩ := k3; exact DataW.trod_lt m _ _ _ hm
  obtain ⟨s3, n3, cap3, rfl⟩ := okWide_slice Try.underlying22 (hval 3 22 v3 rfl rfl)
  obtain ⟨o3, c3, b3, q3, x3, hs3, hr3, hn3, hv3, hx3, he3⟩ := open_flat_arg (isA := true) (d := 5) (sz := 4) (ks := qdKinds) hsz Try.underlying22 (by kernel_rfl) rfl (by intro h; cases h) (by kernel_rfl) h3 2
  have len3 := weight_len Try.underlying22 k3 wt3
  rw [show Try.prog.bytesOf 28 = 32 by kernel_rfl] at len3
  simp only [reachBytes] at len3
  clear hA0 hval0
  obtain ⟨src, hel, hfit⟩ := quads_of hx3 he3
  obtain ⟨h', k⟩ := grects_law hs0 hs1 hs3 hr0.bare hr1.bare hr3.bare (ints_of hx0 he0) (ints_of hx1 he1) hel hfit (by omega) (by omega) (by omega) a2
  refine (FDoes.law (l := [(b0, q0), (b1, q1), (b3, q3)]) k (by simp [*]) (by simp only [VRels]; exact ⟨_, _, rfl, hv0 _ rfl, _, _, rfl, hv1 _ rfl, _, _, rfl, by simp [VRel], _, _, rfl, hv3 _ rfl, rfl⟩)).mono fun e W' ⟨he, bel⟩ => ?_
  subst he
  exact ⟨_, rfl, _, _, _, [], _, [], hW', trodAll_mk1 (shut_bool Try.underlying4 _), (trodAll_cons_mk (Below.trod laidOut (by kernel_rfl) (of_decide_eq_true (by kernel_rfl)) k0 bel lt0) (trodAll_cons_mk (Below.trod laidOut (by kernel_rfl) (of_decide_eq_true (by kernel_rfl)) k1 bel lt1) (trodAll_cons_mk (shut_int Try.underlying3 w2) (trodAll_cons_mk (Below.trod laidOut (by kernel_rfl) (of_decide_eq_true (by kernel_rfl)) k3 bel lt3) trodAll_mk0)))), rfl, bel.frame _, fun h => by cases h⟩

theorem over : Rows.gridRectsRow.holds Try.pinned (OpenSpec.ofChange Rows.gridRectsSpec) :=
  OpenClaim.holds_of_wide 5 Try.f5 rfl rfl rfl rfl rfl rfl rfl ⟨rfl, rfl, rfl, rfl, rfl⟩ rfl rfl rfl rfl rfl (by kernel_rfl) Try.func5 (by kernel_rfl)
    (of_decide_eq_true (by kernel_rfl)) (by unfold Func.isWrapper; first | (rw [if_pos (by decide +kernel)]; kernel_rfl) | (rw [if_neg (by decide +kernel)]; exact ⟨rfl, rfl⟩))
    (fun os started H enc _ => lifted os started H enc)

theorem proved : Rows.GridRectsSaid := over
#print axioms proved
end Go.Proofs.Ytcgcpmcjaeenlaa.gridRects
