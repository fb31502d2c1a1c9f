/-
  THE LIFT, PART G: stores; new variables; composite values.
-/
import Derived.Test.YtgfkllnaeekjeaaLiftF
import Derived.Deep.AppendSrc
namespace Go.Lift
noncomputable section
open Go.RowKit
set_option linter.unusedVariables false
set_option linter.unusedSimpArgs false
section
variable {P : Program} {φ : Map}

theorem simple_cells {v : AVal} (h : v.simple = true) : v.cells = [v] := by
  cases v <;> first | rfl | (simp [AVal.simple] at h)

theorem fits_cells {v : AVal} {isA : Bool} {size : Nat} (h : v.fits isA size = true) : v.cells.length = size ∧ v ≠ .undef ∧ ∀ c ∈ v.cells, c.simple = true := by
  cases v <;> simp [AVal.fits, AVal.cells, AVal.simple] at h ⊢ <;> first | exact h.2.symm | exact ⟨h.1.2, h.2⟩ | skip

theorem VRels.one {l : List AVal} {t : List Value} (h : VRels φ l t) (hs : ∀ c ∈ l, c.simple = true) : ∀ x ∈ t, x.oneCell' = true := by
  intro x hx
  obtain ⟨i, hi, rfl⟩ := List.mem_iff_getElem.1 hx
  have hi' : i < l.length := by rw [← h.length]; exact hi
  obtain ⟨v, hv, rv⟩ := h.get (List.getElem?_eq_getElem hi')
  rw [List.getElem?_eq_getElem hi] at hv
  simp at hv; subst hv
  exact rv.oneCell (hs _ (List.getElem_mem _))

theorem sim_store {D : Tys} (hD : D.Ok P) {N0 : Nat → Prop} {h h' : AHeap} {w0 w : World} (r : HRel φ N0 h w) (hb0 : Safe N0 w0 w) {t : TypeId} {a : AAddr} {v : AVal} {x' v' : Value}
    (hx : VRel φ (.ptr (some a)) x') (hv : VRel φ v v') (ho : astore D t a v h = some h') :
    ∃ w', (Instr.storeAt t x' v').run P w = .ok () w' ∧ HRel φ N0 h' w' ∧ Safe N0 w0 w' ∧ h'.next = h.next := by
  unfold astore at ho
  split at ho
  · rename_i d b hd hb
    obtain ⟨ti, u, hti, hu, hk, hs, -⟩ := hD.get hd
    split at ho
    · rename_i hc
      simp only [Bool.and_eq_true, Bool.not_eq_true', beq_iff_eq] at hc
      obtain ⟨⟨hfits, hro⟩, hver⟩ := hc
      split at ho
      · rename_i e he
        split at ho
        · rename_i e' hst
          simp at ho; subst ho
          simp only [VRel] at hx
          obtain ⟨xa, rfl, p, hp, hes, hlo, rfl⟩ := hx
          rw [hver] at hp
          obtain ⟨f1, f2, f3⟩ := fits_cells hfits
          have hcs := hv.cells f2
          have hone := hcs.one f3
          obtain ⟨h1, c, h2, h3, h4, h5, h6, h7, h8⟩ := r.dom _ _ _ hp
          rw [hb] at h2; simp at h2; subst h2
          have hidx : a.idx < b.elems.length := (List.getElem?_eq_some_iff.1 he).1
          obtain ⟨c1, c2, c3⟩ := h8.cont a.idx e hlo (by simp [ABlk.lim]; exact hidx) he
          have hec : a.fld + v.cells.length ≤ p.es ∧ e'.cells = putAll e.cells a.fld v.cells := by
            unfold storeElem at hst
            split at hst
            · rename_i cs
              split at hst
              · rename_i hle
                simp at hst; subst hst
                simp only [AVal.cells] at c1
                exact ⟨by omega, rfl⟩
              · cases hst
            · rename_i hne
              split at hst
              · rename_i hc
                simp at hst; subst hst
                have e1 : e.cells = [e] := by cases e <;> first | rfl | exact absurd rfl (hne _)
                rw [e1] at c1 ⊢
                have e2 := simple_cells hc.2
                rw [hc.1, e2]
                simp at c1
                exact ⟨by simp; omega, rfl⟩
              · cases hst
          obtain ⟨k1, k2⟩ := r.store hp hb hro hlo he hcs hone hec.1 hec.2
          refine ⟨_, ?_, k1, ?_, rfl⟩
          · have hsz : v'.cells.size = ti.size := by have := hcs.length; rw [Array.length_toList] at this; omega
            have hrun := run_storeCells_cells (P := P) p.blk (p.off + (a.idx - p.lo) * p.es + a.fld) v'.cells.toList 0 w (fun j hj => by simpa using (k2 j hj).1) (fun j hj => by simpa using (k2 j hj).2) hone
            simp only [Nat.add_zero] at hrun
            simp only [Instr.storeAt, Instr.sureAddr, Sem.run_bind, Sem.run_pure, Result.andThen_ok, storeVar, sizeOf_run hti, hsz, Place.at]
            simp only [ne_eq, not_true_eq_false, if_false]
            exact hrun
          · exact below_setCells _ (h8.base (by rw [h6, hro])) _ _ hb0
        · cases ho
      · cases ho
    · cases ho
  · cases ho

/-! ## a new variable -/

theorem flat_one (v : AVal) : flat [v] = v.cells := by simp [flat]

theorem sim_new {D : Tys} {N0 : Nat → Prop} {h : AHeap} {w0 w : World} (r : HRel φ N0 h w) (hb0 : Safe N0 w0 w) (hN : Low N0 w0.heap.size) {nid : Nat} (hid : ∀ v, φ nid v = none) (hn : nid < h.next) (t : TypeId) {v : AVal} {v' : Value} {isA : Bool} {size : Nat}
    (hv : VRel φ v v') (hfits : v.fits isA size = true) (hpos : 0 < size) :
    ∃ w' φ', (newVar t v').run P w = .ok ⟨w.heap.size, 0, none⟩ w' ∧ Ext φ φ' h.next nid ∧ VRel φ' (.ptr (some ⟨nid, 0, 0, 0, size⟩)) (.pointer (some ⟨w.heap.size, 0, none⟩))
      ∧ HRel φ' N0 (h.set nid (.made [v] size true)) w' ∧ Safe N0 w0 w' := by
  obtain ⟨f1, f2, f3⟩ := fits_cells hfits
  have hcs := hv.cells f2
  have hone := hcs.one f3
  have hlen : v'.cells.toList.length = size := by rw [hcs.length, f1]
  have hN' : Low N0 w.heap.size := hN.le hb0.size
  refine ⟨w.alloc (.cells v'.cells t), φ.add nid 0 ⟨w.heap.size, 0, 0, size, 1, true, false⟩, rfl, Ext.add φ _ (hid 0) _, ?_, ?_, hb0.alloc hN' _⟩
  · simp only [VRel]
    refine ⟨_, rfl, _, Map.add_self _ _ _ _, rfl, Nat.le_refl _, ?_⟩
    simp [Place.at]
  · refine r.made hid hn hN' hpos (by intro e he; simp at he; subst he; exact f1) ?_ ?_ (by simp) ?_
    · rw [flat_one, List.take_of_length_le (by simp [hlen])]; exact hcs
    · rw [← Array.length_toList, hlen]; omega
    · intro x hx; exact hone x (List.mem_of_mem_take hx)

/-! ## parts filled in -/

def putV (l : List Value) (i : Nat) : List Value → List Value
  | [] => l
  | v :: vs => putV (l.set i v) (i + 1) vs

theorem VRels.put {l m : List AVal} {t u : List Value} (h : VRels φ l t) (k : VRels φ m u) (i : Nat) : VRels φ (Lift.putAll l i m) (putV t i u) := by
  induction m generalizing l t u i with
  | nil => simp only [VRels] at k; subst k; exact h
  | cons a r ih =>
    simp only [VRels] at k
    obtain ⟨v, u', rfl, h1, h2⟩ := k
    exact ih (h.set i h1) h2 (i + 1)

theorem fold_put : ∀ (vs : List Value) (off k : Nat) (cells : Array Value), ((vs.zipIdx k).foldl (fun cs (x : Value × Nat) => cs.setIfInBounds (off + x.2) x.1) cells).toList = putV cells.toList (off + k) vs
  | [], off, k, cells => rfl
  | v :: vs, off, k, cells => by
    simp only [List.zipIdx_cons, List.foldl_cons, putV]
    rw [fold_put vs off (k + 1), Array.toList_setIfInBounds, Nat.add_assoc]

theorem fold_put' (vs : Array Value) (off : Nat) (cells : Array Value) : (vs.zipIdx.foldl (fun cs (x : Value × Nat) => cs.setIfInBounds (off + x.2) x.1) cells).toList = putV cells.toList off vs.toList := by
  rw [← Array.foldl_toList, Array.toList_zipIdx]
  exact fold_put vs.toList off 0 cells

theorem sim_fill {place place' : Nat → Option (Nat × Nat)} (hp : ∀ i x, place i = some x → place' i = some x) : ∀ {parts : List (Nat × AVal)} {parts' : List (Nat × Value)} {l l' : List AVal} {cells : Array Value},
    (parts.map (·.1) = parts'.map (·.1)) → VRels φ (parts.map (·.2)) (parts'.map (·.2)) → VRels φ l cells.toList → afill place l parts = some l' →
    ∃ cells', Instr.fill place' cells parts' = some cells' ∧ VRels φ l' cells'.toList
  | [], [], l, l', cells, _, _, hl, h => by
    simp [afill] at h; subst h
    exact ⟨cells, rfl, hl⟩
  | [], _ :: _, _, _, _, h, _, _, _ => by simp at h
  | _ :: _, [], _, _, _, h, _, _, _ => by simp at h
  | (i, v) :: rest, (i', v') :: rest', l, l', cells, h1, h2, hl, h => by
    simp at h1
    obtain ⟨rfl, h1⟩ := h1
    simp only [List.map_cons, VRels] at h2
    obtain ⟨u, t, e, hv, h2⟩ := h2
    simp at e
    obtain ⟨rfl, rfl⟩ := e
    simp only [afill] at h
    split at h
    · cases h
    · rename_i off size hpl
      split at h
      · rename_i hc
        have hcs := hv.cells (by rintro rfl; simp [AVal.known] at hc)
        have hsz : v'.cells.size = size := by have := hcs.length; rw [Array.length_toList] at this; omega
        have hcl : cells.size = l.length := by have := hl.length; rw [Array.length_toList] at this; omega
        have key := sim_fill hp h1 h2 (l := putAll l off v.cells) (cells := v'.cells.zipIdx.foldl (fun cs (x : Value × Nat) => cs.setIfInBounds (off + x.2) x.1) cells)
          (by rw [fold_put']; exact hl.put hcs off) h
        obtain ⟨cells', k1, k2⟩ := key
        refine ⟨cells', ?_, k2⟩
        simp only [Instr.fill, hp _ _ hpl]
        split
        · rename_i hbad
          exfalso
          simp only [ne_eq, Bool.or_eq_true, decide_eq_true_eq] at hbad
          omega
        · exact k1
      · cases h

theorem parts_fst (parts : Array (Nat × Operand)) (ρ : Operand → AVal) (ρ' : Operand → Value) :
    (parts.toList.map fun p => (p.1, ρ p.2)).map (·.1) = ((parts.map fun (i, x) => (i, ρ' x)).toList).map (·.1) := by
  simp only [Array.toList_map, List.map_map]; rfl

theorem parts_snd {ρ : Operand → AVal} {ρ' : Operand → Value} (hρ : ∀ x, VRel φ (ρ x) (ρ' x)) (parts : Array (Nat × Operand)) :
    VRels φ ((parts.toList.map fun p => (p.1, ρ p.2)).map (·.2)) (((parts.map fun (i, x) => (i, ρ' x)).toList).map (·.2)) := by
  simp only [Array.toList_map, List.map_map]
  exact VRels.map _ _ _ fun x _ => hρ x.2

theorem zero_rel {D : Tys} (hD : D.Ok P) {t : TypeId} {d : TyD} {i : TypeInfo} {z : AVal} (h : d.zero = i.zero.map ofConst) (hz : d.zero = some z) : ∃ z', i.zero = some z' ∧ VRel φ z z' := by
  rw [hz] at h
  cases hi : i.zero with
  | none => rw [hi] at h; cases h
  | some z' => rw [hi] at h; simp at h; subst h; exact ⟨z', rfl, ofConst_rel φ z'⟩

theorem mapM_places {fs : Array Field} {w : World} {g : Field → Nat} (hg : ∀ f ∈ fs.toList, (sizeOf f.type).run P w = .ok (g f) w) :
    ((fs.mapM fun f => (do pure (f.offset, ← sizeOf f.type) : Sem (Nat × Nat)))).run P w = .ok (fs.map fun f => (f.offset, g f)) w := by
  have key : ∀ (l : List Field), (∀ f ∈ l, (sizeOf f.type).run P w = .ok (g f) w) → (l.mapM fun f => (do pure (f.offset, ← sizeOf f.type) : Sem (Nat × Nat))).run P w = .ok (l.map fun f => (f.offset, g f)) w := by
    intro l
    induction l with
    | nil => intro _; rfl
    | cons f r ih =>
      intro h
      simp only [List.mapM_cons, Sem.run_bind, h f (by simp), Result.andThen_ok, Sem.run_pure, ih (fun f hf => h f (by simp [hf])), List.map_cons]
  have := key fs.toList hg
  rw [← Array.toArray_toList (xs := fs)]
  simp only [List.mapM_toArray, Sem.run_map, this, Result.andThen_ok, List.map_toArray]

theorem sim_build {D : Tys} (hD : D.Ok P) {t : TypeId} {parts : Array (Nat × Operand)} {ρ : Operand → AVal} {ρ' : Operand → Value} (hρ : ∀ x, VRel φ (ρ x) (ρ' x)) {v : AVal}
    (h : abuild D t (parts.toList.map fun p => (p.1, ρ p.2)) = some v) (w : World) :
    ∃ v', (Instr.build t (parts.map fun (i, x) => (i, ρ' x))).run P w = .ok v' w ∧ VRel φ v v' := by
  unfold abuild at h
  split at h
  · rename_i d hd
    obtain ⟨ti, u, hti, hu, hk, hs, -, hz⟩ := hD.get hd
    split at h
    · rename_i fs z hk' hz'
      split at h
      · rename_i hkn
        rw [hk] at hk'
        obtain ⟨fl, rfl, hfl⟩ := tkOf_struct hk'
        obtain ⟨z', hz1, hz2⟩ := zero_rel (P := P) (φ := φ) (t := t) hD hz hz'
        simp only [Option.map_eq_some_iff] at h
        obtain ⟨cells, hc, rfl⟩ := h
        have hsz : ∀ f ∈ fl.toList, ∃ x, D f.type = some x := by
          intro f hf
          have hkn' := hkn.2
          unfold fieldsKnown at hkn'
          rw [hfl, List.all_eq_true] at hkn'
          have := hkn' (f.offset, f.type) (List.mem_map.2 ⟨f, hf, rfl⟩)
          exact Option.isSome_iff_exists.1 this
        have hrun := mapM_places (P := P) (w := w) (fs := fl) (g := fun f => ((D f.type).map (·.size)).getD 0) (fun f hf => by
          obtain ⟨x, hx⟩ := hsz f hf
          obtain ⟨xi, xu, hxi, -, -, hxs, -⟩ := hD.get hx
          rw [sizeOf_run hxi, hx]; simp [hxs])
        have hzu : z ≠ .undef := by rintro rfl; simp [AVal.known] at hkn
        obtain ⟨cells', k1, k2⟩ := sim_fill (φ := φ) (place' := fun i => (fl.map fun f => (f.offset, ((D f.type).map (·.size)).getD 0))[i]?) (fun i x hx => by
            split at hx
            · rename_i off ft hf
              simp only [Option.map_eq_some_iff] at hx
              obtain ⟨y, hy, rfl⟩ := hx
              rw [hfl] at hf
              simp only [List.getElem?_map, Option.map_eq_some_iff] at hf
              obtain ⟨ff, hff, he⟩ := hf
              simp at he
              obtain ⟨rfl, rfl⟩ := he
              have hff' : fl[i]? = some ff := by simpa using hff
              simp [hff', hy]
            · cases hx) (parts_fst parts ρ ρ') (parts_snd hρ parts) (hz2.cells hzu) hc
        refine ⟨.agg cells', ?_, by simp only [VRel]; exact ⟨_, rfl, k2⟩⟩
        simp only [Instr.build, Sem.run_bind, zero_run hti hz1, Result.andThen_ok, run_underlying hu, hrun, k1, Sem.run_pure]
      · cases h
    · rename_i n e z hk' hz'
      split at h
      · rename_i xd hxd
        split at h
        · rename_i hkn
          rw [hk] at hk'
          have := tkOf_array hk'; subst this
          obtain ⟨z', hz1, hz2⟩ := zero_rel (P := P) (φ := φ) (t := t) hD hz hz'
          obtain ⟨xi, xu, hxi, -, -, hxs, -⟩ := hD.get hxd
          simp only [Option.map_eq_some_iff] at h
          obtain ⟨cells, hc, rfl⟩ := h
          have hzu : z ≠ .undef := by rintro rfl; simp [AVal.known] at hkn
          obtain ⟨cells', k1, k2⟩ := sim_fill (φ := φ) (place' := fun i => some (i * xi.size, xi.size)) (fun i x hx => by rw [← hxs]; exact hx) (parts_fst parts ρ ρ') (parts_snd hρ parts) (hz2.cells hzu) hc
          refine ⟨.agg cells', ?_, by simp only [VRel]; exact ⟨_, rfl, k2⟩⟩
          simp only [Instr.build, Sem.run_bind, zero_run hti hz1, Result.andThen_ok, run_underlying hu, sizeOf_run hxi, k1, Sem.run_pure]
        · cases h
      · cases h
    · cases h
  · cases h
end
end
end Go.Lift
