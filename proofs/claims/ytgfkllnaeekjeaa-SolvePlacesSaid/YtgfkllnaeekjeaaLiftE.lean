/-
  THE LIFT, PART E: reading memory; parts of values; addresses.
-/
import Derived.Test.YtgfkllnaeekjeaaLiftD
namespace Go.Lift
noncomputable section
open Go.RowKit
set_option linter.unusedVariables false
set_option linter.unusedSimpArgs false
section
variable {P : Program} {φ : Map}

theorem sim_unary {op : UnOp} {x v : AVal} {x' : Value} (hx : VRel φ x x') (h : aunary op x = some v) (w : World) : ∃ v', (Op.unary op x').run P w = .ok v' w ∧ VRel φ v v' := by
  unfold aunary at h
  split at h
  · simp only [VRel] at hx; subst hx; simp at h; subst h; exact ⟨_, by simp [Op.unary, Op.intArith]; rfl, by simp only [VRel]⟩
  · simp only [VRel] at hx; subst hx; simp at h; subst h; exact ⟨_, by simp [Op.unary]; rfl, by simp only [VRel]⟩
  · simp only [VRel] at hx; subst hx; simp [aint] at h; subst h; exact ⟨_, by simp [Op.unary, Op.intBits]; rfl, by simp only [VRel]⟩
  · cases h

theorem sim_convert {D : Tys} (hD : D.Ok P) {s t : TypeId} {x v : AVal} {x' : Value} (hx : VRel φ x x') (h : aconvert D s t x = some v) (w : World) :
    ∃ v', (convert s t x').run P w = .ok v' w ∧ VRel φ v v' := by
  unfold aconvert at h
  split at h
  · rename_i ds dt k n hs ht
    simp only [VRel] at hx; subst hx
    obtain ⟨_, us, _, hus, _⟩ := hD.get hs
    obtain ⟨_, ut, _, hut, hk, _⟩ := hD.get ht
    rw [hk] at h
    split at h
    · rename_i kk e; have := tkOf_int e; subst this
      simp at h; subst h
      refine ⟨.int kk (kk.wrap n), ?_, by simp only [VRel]⟩
      simp only [convert, Sem.run_bind, run_underlying hus, run_underlying hut, Result.andThen_ok]
      cases us <;> simp [Conv.intToInt]
    · cases h
  · rename_i ds dt l hs ht
    simp only [VRel] at hx; obtain ⟨s', rfl, rfl⟩ := hx
    obtain ⟨_, us, _, hus, _⟩ := hD.get hs
    obtain ⟨_, ut, _, hut, hk, _⟩ := hD.get ht
    rw [hk] at h
    split at h
    · rename_i e; have := tkOf_string e; subst this
      simp at h; subst h
      refine ⟨.string s', ?_, by simp [VRel]⟩
      simp only [convert, Sem.run_bind, run_underlying hus, run_underlying hut, Result.andThen_ok]
      cases us <;> rfl
    · cases h
  · cases h

theorem sim_max2 {x y v : AVal} {x' y' : Value} (hx : VRel φ x x') (hy : VRel φ y y') (h : amax2 x y = some v) (w : World) : ∃ v', (Builtin.max2 x' y').run P w = .ok v' w ∧ VRel φ v v' := by
  unfold amax2 at h
  split at h
  · simp only [VRel] at hx hy; subst hx hy; split at h
    · rename_i hk; subst hk; simp at h; subst h; exact ⟨_, by simp only [Builtin.max2]; rfl, by simp only [VRel]⟩
    · cases h
  · cases h

theorem sim_min2 {x y v : AVal} {x' y' : Value} (hx : VRel φ x x') (hy : VRel φ y y') (h : amin2 x y = some v) (w : World) : ∃ v', (Builtin.min2 x' y').run P w = .ok v' w ∧ VRel φ v v' := by
  unfold amin2 at h
  split at h
  · simp only [VRel] at hx hy; subst hx hy; split at h
    · rename_i hk; subst hk; simp at h; subst h; exact ⟨_, by simp only [Builtin.min2]; rfl, by simp only [VRel]⟩
    · cases h
  · cases h

theorem sim_fold {f : AVal → AVal → Option AVal} {g : Value → Value → Sem Value} (w : World)
    (hf : ∀ x y v x' y', VRel φ x x' → VRel φ y y' → f x y = some v → ∃ v', (g x' y').run P w = .ok v' w ∧ VRel φ v v') :
    ∀ {l : List AVal} {t : List Value} {x v : AVal} {x' : Value}, VRel φ x x' → VRels φ l t → afold f x l = some v → ∃ v', (t.foldlM g x').run P w = .ok v' w ∧ VRel φ v v'
  | [], t, x, v, x', hx, hl, h => by
    simp only [VRels] at hl; subst hl
    simp [afold] at h; subst h
    exact ⟨x', rfl, hx⟩
  | a :: r, t, x, v, x', hx, hl, h => by
    simp only [VRels] at hl
    obtain ⟨u, t', rfl, h1, h2⟩ := hl
    simp only [afold] at h
    split at h
    · rename_i z hz
      obtain ⟨z', e1, e2⟩ := hf _ _ _ _ _ hx h1 hz
      obtain ⟨v', e3, e4⟩ := sim_fold w hf e2 h2 h
      exact ⟨v', by rw [List.foldlM_cons, Sem.run_bind, e1]; exact e3, e4⟩
    · cases h

theorem sim_max {x v : AVal} {l : List AVal} {xs : Array Value} (ts : Array TypeId) (ty : TypeId) (hx : VRels φ (x :: l) xs.toList) (h : afold amax2 x l = some v) (w : World) :
    ∃ v', (Builtin.max_ ts ty xs).run P w = .ok v' w ∧ VRel φ v v' := by
  simp only [VRels] at hx
  obtain ⟨x', t, e, h1, h2⟩ := hx
  unfold Builtin.max_
  rw [e]
  exact sim_fold w (fun _ _ _ _ _ a b c => sim_max2 a b c w) h1 h2 h

theorem sim_min {x v : AVal} {l : List AVal} {xs : Array Value} (ts : Array TypeId) (ty : TypeId) (hx : VRels φ (x :: l) xs.toList) (h : afold amin2 x l = some v) (w : World) :
    ∃ v', (Builtin.min_ ts ty xs).run P w = .ok v' w ∧ VRel φ v v' := by
  simp only [VRels] at hx
  obtain ⟨x', t, e, h1, h2⟩ := hx
  unfold Builtin.min_
  rw [e]
  exact sim_fold w (fun _ _ _ _ _ a b c => sim_min2 a b c w) h1 h2 h

/-! ## parts -/

theorem sim_part {D : Tys} (hD : D.Ok P) {t : TypeId} {cs : List AVal} {xs : Array Value} {off : Nat} {v : AVal} (hx : VRels φ cs xs.toList) (h : apart D t cs off = some v) (w : World) :
    ∃ v', (part t xs off).run P w = .ok v' w ∧ VRel φ v v' := by
  unfold apart at h
  split at h
  · rename_i d hd
    obtain ⟨i, u, hi, hu, hk, hs, -⟩ := hD.get hd
    rw [hk] at h
    split at h
    · rename_i ha
      split at h
      · rename_i hle
        simp at h; subst h
        refine ⟨.agg (xs.extract off (off + i.size)), ?_, ?_⟩
        · simp only [part, Sem.run_bind, isAgg_run hu, Result.andThen_ok, ha, if_true, sizeOf_run hi, Sem.run_pure]
        · simp only [VRel]
          refine ⟨_, rfl, ?_⟩
          have e : (xs.extract off (off + i.size)).toList = (xs.toList.drop off).take i.size := by
            simp [List.extract]
          rw [e, hs]; exact (hx.drop off).take i.size
      · cases h
    · rename_i ha
      obtain ⟨v', h1, h2⟩ := hx.get h
      refine ⟨v', ?_, h2⟩
      have h1' : xs[off]? = some v' := by simpa using h1
      simp only [part, Sem.run_bind, isAgg_run hu, Result.andThen_ok]
      simp only [ha]
      simp [h1']
  · cases h

theorem sim_field {D : Tys} (hD : D.Ok P) {t : TypeId} {x : AVal} {x' : Value} {f : Nat} {v : AVal} (hx : VRel φ x x') (h : afield D t x f = some v) (w : World) :
    ∃ v', (Instr.field t x' f).run P w = .ok v' w ∧ VRel φ v v' := by
  unfold afield at h
  split at h
  · rename_i d cs hd
    obtain ⟨i, u, hi, hu, hk, hs, -⟩ := hD.get hd
    rw [hk] at h
    split at h
    · rename_i fs e
      obtain ⟨fl, rfl, hfl⟩ := tkOf_struct e
      split at h
      · rename_i off ft hf
        simp only [VRel] at hx
        obtain ⟨xs, rfl, hxs⟩ := hx
        rw [hfl] at hf
        simp only [List.getElem?_map, Option.map_eq_some_iff] at hf
        obtain ⟨ff, hff, he⟩ := hf
        simp at he
        obtain ⟨rfl, rfl⟩ := he
        obtain ⟨v', h1, h2⟩ := sim_part hD hxs h w
        refine ⟨v', ?_, h2⟩
        have hff' : fl[f]? = some ff := by simpa using hff
        simp [Instr.field, run_underlying hu, hff', asAgg, h1]
      · cases h
    · cases h
  · cases h

theorem sim_index {D : Tys} (hD : D.Ok P) {t : TypeId} {x i : AVal} {x' i' : Value} {v : AVal} (hx : VRel φ x x') (hi : VRel φ i i') (h : aindex D t x i = some v) (w : World) :
    ∃ v', (Instr.index t x' i').run P w = .ok v' w ∧ VRel φ v v' := by
  unfold aindex at h
  split at h
  · rename_i d cs k n hd
    obtain ⟨ti, u, hti, hu, hk, hs, -⟩ := hD.get hd
    rw [hk] at h
    split at h
    · rename_i len e he
      have := tkOf_array he; subst this
      split at h
      · rename_i xd hxd
        obtain ⟨xi, xu, hxi, hxu, hxk, hxs, -⟩ := hD.get hxd
        split at h
        · rename_i hb
          simp only [VRel] at hx hi
          obtain ⟨xs, rfl, hxs'⟩ := hx
          subst hi
          obtain ⟨v', h1, h2⟩ := sim_part hD hxs' h w
          refine ⟨v', ?_, h2⟩
          rw [hxs] at h1
          simp [Instr.index, asIntOf, run_underlying hu, hb, sizeOf_run hxi, h1]
        · cases h
      · cases h
    · cases h
  · rename_i d s k n hd
    obtain ⟨ti, u, hti, hu, hk, hs, -⟩ := hD.get hd
    rw [hk] at h
    split at h
    · rename_i e
      have := tkOf_string e; subst this
      split at h
      · rename_i hn
        simp only [VRel] at hx hi
        obtain ⟨s', rfl, rfl⟩ := hx
        subst hi
        simp only [Option.map_eq_some_iff] at h
        obtain ⟨b, hb, rfl⟩ := h
        refine ⟨.int .u8 b.toNat, ?_, by simp only [VRel]⟩
        have hb' : s'[n.toNat]? = some b := by
          have hlt := (List.getElem?_eq_some_iff.1 hb).1
          have he := (List.getElem?_eq_some_iff.1 hb).2
          have hlt' : n.toNat < s'.size := by rw [Array.length_toList] at hlt; exact hlt
          rw [getElem?_pos s' n.toNat hlt']
          rw [← he]; rfl
        simp [Instr.index, asIntOf, run_underlying hu, hn, hb']
      · cases h
    · cases h
  · cases h

theorem sim_extract {vs : List AVal} {x' : Value} {i : Nat} {v : AVal} (hx : VRel φ (.tuple vs) x') (h : vs[i]? = some v) (w : World) :
    ∃ v', (Instr.extract x' i).run P w = .ok v' w ∧ VRel φ v v' := by
  simp only [VRel] at hx
  obtain ⟨xs, rfl, hxs⟩ := hx
  obtain ⟨v', h1, h2⟩ := hxs.get h
  have h1' : xs[i]? = some v' := by simpa using h1
  exact ⟨v', by simp [Instr.extract, h1'], h2⟩

/-! ## addresses -/

theorem Place.at_add (p : Place) (i f n : Nat) : (p.at i f).add n = p.at i (f + n) := by
  unfold Place.at; rw [Addr.add_mid]; rw [Nat.add_assoc]

theorem sim_fieldAddr {D : Tys} (hD : D.Ok P) {t : TypeId} {x : AVal} {x' : Value} {f : Nat} {v : AVal} (hx : VRel φ x x') (h : afieldAddr D t x f = some v) (w : World) :
    ∃ v', (Instr.fieldAt t x' f).run P w = .ok v' w ∧ VRel φ v v' := by
  unfold afieldAddr at h
  split at h
  · rename_i d a hd
    obtain ⟨i, u, hi, hu, hk, hs, -⟩ := hD.get hd
    rw [hk] at h
    split at h
    · rename_i fs e
      obtain ⟨fl, rfl, hfl⟩ := tkOf_struct e
      split at h
      · rename_i off ft hf
        split at h
        · rename_i fd hfd
          obtain ⟨fi, fu, hfi, hfu, hfk, hfs, -⟩ := hD.get hfd
          split at h
          · rename_i hpos
            simp at h; subst h
            rw [hfl] at hf
            simp only [List.getElem?_map, Option.map_eq_some_iff] at hf
            obtain ⟨ff, hff, he⟩ := hf
            simp at he
            obtain ⟨rfl, rfl⟩ := he
            simp only [VRel] at hx
            obtain ⟨xa, rfl, p, hp, hes, hlo, rfl⟩ := hx
            have hff' : fl[f]? = some ff := by simpa using hff
            refine ⟨.pointer (some (p.at a.idx (a.fld + ff.offset))), ?_, ?_⟩
            · have hne : ¬ fi.size = 0 := by omega
              simp [Instr.fieldAt, run_underlying hu, hff', Instr.sureAddr, fieldPlace, sizeOf_run hfi, hne, Place.at_add]
            · simp only [VRel]; exact ⟨_, rfl, p, hp, hes, hlo, rfl⟩
          · cases h
        · cases h
      · cases h
    · cases h
  · cases h

theorem sim_indexAddr {D : Tys} (hD : D.Ok P) {t : TypeId} {x i : AVal} {x' i' : Value} {v : AVal} (hx : VRel φ x x') (hi : VRel φ i i') (h : aindexAddr D t x i = some v) (w : World) :
    ∃ v', (Instr.indexAt t x' i').run P w = .ok v' w ∧ VRel φ v v' := by
  unfold aindexAddr at h
  split at h
  · rename_i d a len cap k n hd
    obtain ⟨ti, u, hti, hu, hk, hs, -⟩ := hD.get hd
    rw [hk] at h
    split at h
    · rename_i e he
      have := tkOf_slice he; subst this
      split at h
      · rename_i xd hxd
        obtain ⟨xi, xu, hxi, hxu, hxk, hxs, -⟩ := hD.get hxd
        split at h
        · rename_i hb
          simp at h; subst h
          simp only [VRel] at hx hi
          obtain ⟨xa, cap', rfl, l1, l2, hf, p, hp, hes, hor, hex⟩ := hx
          subst hi
          rcases hor with h0 | ⟨hlo, rfl, htot⟩
          · omega
          · refine ⟨.pointer (some (p.at (a.idx + n.toNat) 0)), ?_, ?_⟩
            · have e1 : (p.at a.idx 0).add (n.toNat * xi.size) = p.at (a.idx + n.toNat) 0 := by
                rw [Place.at_add]; unfold Place.at
                have : a.idx + n.toNat - p.lo = (a.idx - p.lo) + n.toNat := by omega
                rw [this, Nat.add_mul, ← hxs, ← hb.2.2, hes]
                congr 1; omega
              have hb1 := hb.1; have hb2 := hb.2.1
              simp [Instr.indexAt, asIntOf, run_underlying hu, hb1, hb2, sizeOf_run hxi, e1]
            · simp only [VRel]; exact ⟨_, rfl, p, hp, hes, by show p.lo ≤ a.idx + n.toNat; omega, by simp only [hf]⟩
        · cases h
      · cases h
    · cases h
  · rename_i d a k n hd
    obtain ⟨ti, u, hti, hu, hk, hs, -⟩ := hD.get hd
    rw [hk] at h
    split at h
    · rename_i len e he
      have := tkOf_array he; subst this
      split at h
      · rename_i xd hxd
        obtain ⟨xi, xu, hxi, hxu, hxk, hxs, -⟩ := hD.get hxd
        split at h
        · rename_i hb
          simp at h; subst h
          simp only [VRel] at hx hi
          obtain ⟨xa, rfl, p, hp, hes, hlo, rfl⟩ := hx
          subst hi
          refine ⟨.pointer (some (p.at a.idx (a.fld + n.toNat * xi.size))), ?_, ?_⟩
          · have hb1 := hb.1; have hb2 := hb.2
            simp [Instr.indexAt, asIntOf, run_underlying hu, hb1, hb2, sizeOf_run hxi, Instr.sureAddr, Place.at_add]
          · simp only [VRel]; exact ⟨_, rfl, p, hp, hes, hlo, by simp only [hxs]⟩
        · cases h
      · cases h
    · cases h
  · cases h

/-! ## slices -/

theorem sim_bound {v : Option AVal} {v' : Option Value} (hv : match v, v' with | none, none => True | some a, some b => VRel φ a b | _, _ => False) {dflt most r : Nat} (h : abound v dflt most = some r)
    {most' : Nat} (hm : most ≤ most') (w : World) (code : BoundsCode) :
    (match v' with | some x => Instr.sliceBound x most' code | none => pure dflt : Sem Nat).run P w = .ok r w := by
  unfold abound at h
  split at h
  · simp at h; subst h
    cases v' with
    | none => rfl
    | some b => exact hv.elim
  · rename_i k i
    split at h
    · rename_i hb
      simp at h; subst h
      cases v' with
      | none => exact hv.elim
      | some b =>
        simp only [VRel] at hv; subst hv
        have hle : i ≤ (most' : Int) := by omega
        simp [Instr.sliceBound, asIntOf, hb.1, hle]
    · cases h
  · cases h
end
end
end Go.Lift
