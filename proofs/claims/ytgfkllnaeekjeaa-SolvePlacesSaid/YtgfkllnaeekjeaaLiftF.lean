/-
  THE LIFT, PART F: slices; loads and stores; new rows.
-/
import Derived.Test.YtgfkllnaeekjeaaLiftE
namespace Go.Lift
noncomputable section
open Go.RowKit
set_option linter.unusedVariables false
set_option linter.unusedSimpArgs false
section
variable {P : Program} {φ : Map}

def ORel (φ : Map) : Option AVal → Option Value → Prop
  | none, none => True
  | some a, some b => VRel φ a b
  | _, _ => False

theorem run_bound {v : Option AVal} {v' : Option Value} (hv : ORel φ v v') {dflt most r : Nat} (h : abound v dflt most = some r) (hs : v.isSome = true)
    {most' : Nat} (hm : most ≤ most') (w : World) (code : BoundsCode) : ∃ x, v' = some x ∧ (Instr.sliceBound x most' code).run P w = .ok r w ∧ r ≤ most := by
  cases v with
  | none => cases hs
  | some a =>
    cases v' with
    | none => exact hv.elim
    | some x =>
      refine ⟨x, rfl, ?_⟩
      unfold abound at h
      split at h
      · rename_i e; cases e
      · rename_i k i e
        simp at e; subst e
        split at h
        · rename_i hb
          simp at h; subst h
          simp only [ORel, VRel] at hv; subst hv
          have hle : i ≤ (most' : Int) := by omega
          exact ⟨by simp [Instr.sliceBound, asIntOf, hb.1, hle], by omega⟩
        · cases h
      · cases h

theorem run_sliceBounds {lo hi mx : Option AVal} {lo' hi' mx' : Option Value} (hlo : ORel φ lo lo') (hhi : ORel φ hi hi') (hmx : ORel φ mx mx') {len cap cap' m hh l : Nat} (hlc : len ≤ cap) (hcc : cap ≤ cap')
    (hm : abound mx cap cap = some m) (hh' : abound hi len m = some hh) (hl : abound lo 0 hh = some l) (hno : ¬ (mx.isSome = true ∧ hi.isNone = true)) (isSlice : Bool) (w : World) :
    ∃ m', (Instr.sliceBounds isSlice len cap' lo' hi' mx').run P w = .ok (l, hh, m') w ∧ m ≤ m' ∧ m' ≤ cap' ∧ (cap' = cap → m' = m) ∧ hh ≤ m ∧ l ≤ hh := by
  have h3 : ∀ code, (match lo' with | some v => Instr.sliceBound v hh code | none => pure 0 : Sem Nat).run P w = .ok l w ∧ l ≤ hh := by
    intro code
    cases lo with
    | none => cases lo' with
      | none => simp [abound] at hl; subst hl; exact ⟨rfl, Nat.zero_le _⟩
      | some _ => exact hlo.elim
    | some a =>
      obtain ⟨x, rfl, h1, h2⟩ := run_bound (P := P) hlo hl rfl (Nat.le_refl _) w code
      exact ⟨h1, h2⟩
  cases mx with
  | none =>
    cases mx' with
    | some _ => exact hmx.elim
    | none =>
      simp [abound] at hm; subst hm
      refine ⟨cap', ?_, hcc, Nat.le_refl _, fun h => h, ?_⟩
      · cases hi with
        | none => cases hi' with
          | some _ => exact hhi.elim
          | none =>
            simp [abound] at hh'; subst hh'
            have := (h3 .sliceB).1
            cases lo' <;> simp_all [Instr.sliceBounds]
        | some b =>
          obtain ⟨x, rfl, h1, h2⟩ := run_bound (P := P) hhi hh' rfl hcc w (if isSlice then .sliceAcap else .sliceAlen)
          have := (h3 .sliceB).1
          cases lo' <;> simp_all [Instr.sliceBounds]
      · refine ⟨?_, (h3 .sliceB).2⟩
        cases hi with
        | none => simp [abound] at hh'; omega
        | some b => obtain ⟨x, rfl, h1, h2⟩ := run_bound (P := P) hhi hh' rfl hcc w .sliceB; exact h2
  | some a =>
    obtain ⟨y, rfl, g1, g2⟩ := run_bound (P := P) hmx hm rfl hcc w (if isSlice then .slice3Acap else .slice3Alen)
    cases hi with
    | none => simp at hno
    | some b =>
      obtain ⟨x, rfl, h1, h2⟩ := run_bound (P := P) hhi hh' rfl (Nat.le_refl _) w .slice3B
      refine ⟨m, ?_, Nat.le_refl _, by omega, fun _ => rfl, h2, (h3 .sliceB).2⟩
      have := (h3 .slice3C).1
      cases lo' <;> simp_all [Instr.sliceBounds]

theorem extract_list (s : ByteArray) (l h : Nat) : (s.extract l h).data.toList = (s.data.toList.take h).drop l := by
  have : (s.extract l h).data = s.data.extract l h := by simp
  rw [this]; simp [List.extract, List.drop_take]

theorem sim_slice {D : Tys} (hD : D.Ok P) {t : TypeId} {x v : AVal} {x' : Value} {lo hi mx : Option AVal} {lo' hi' mx' : Option Value} (hx : VRel φ x x')
    (hlo : ORel φ lo lo') (hhi : ORel φ hi hi') (hmx : ORel φ mx mx') (h : aslice D t x lo hi mx = some v) (w : World) :
    ∃ v', (Instr.sliceAt t x' lo' hi' mx').run P w = .ok v' w ∧ VRel φ v v' := by
  unfold aslice at h
  split at h
  · rename_i d a len cap hd
    obtain ⟨ti, u, hti, hu, hk, hs, -⟩ := hD.get hd
    rw [hk] at h
    split at h
    · rename_i e he
      have := tkOf_slice he; subst this
      split at h
      · rename_i xd m hxd hm
        obtain ⟨xi, xu, hxi, hxu, hxk, hxs, -⟩ := hD.get hxd
        split at h
        · rename_i hh hhh
          split at h
          · rename_i l hl
            split at h
            · cases h
            · rename_i hno
              split at h
              · simp at h; subst h
                simp only [VRel] at hx
                obtain ⟨rfl, rfl, rfl⟩ := hx
                obtain ⟨m', k1, k2, k3, k4, k5, k6⟩ := run_sliceBounds (P := P) hlo hhi hmx (Nat.le_refl _) (Nat.le_refl 0) hm hhh hl hno true w
                have e1 : m' = 0 := by omega
                have e2 : m = 0 := by omega
                have e3 : hh = 0 := by omega
                have e4 : l = 0 := by omega
                subst e1 e2 e3 e4
                refine ⟨.slice none 0 0, ?_, by simp [VRel]⟩
                simp [Instr.sliceAt, run_underlying hu, Instr.slice, k1, sizeOf_run hxi]
              · rename_i a
                split at h
                · rename_i hes
                  simp at h; subst h
                  simp only [VRel] at hx
                  obtain ⟨xa, cap', rfl, l1, l2, hf, p, hp, hes', hor, hex⟩ := hx
                  obtain ⟨m', k1, k2, k3, k4, k5, k6⟩ := run_sliceBounds (P := P) hlo hhi hmx l1 l2 hm hhh hl hno true w
                  refine ⟨.slice (if m' = l then some xa else some (xa.add (l * xi.size))) (hh - l) (m' - l), ?_, ?_⟩
                  · simp [Instr.sliceAt, run_underlying hu, Instr.slice, k1, sizeOf_run hxi]
                  · simp only [VRel]
                    by_cases hml : m' = l
                    · rw [if_pos hml]
                      exact ⟨xa, m' - l, rfl, by omega, by omega, hf, p, hp, hes', .inl (by omega), fun hh => by have := k4 (hex hh); omega⟩
                    · rw [if_neg hml]
                      refine ⟨_, m' - l, rfl, by omega, by omega, hf, p, hp, hes', ?_, fun hh => by have := k4 (hex hh); omega⟩
                      rcases hor with h0 | ⟨g1, rfl, g3⟩
                      · left; omega
                      · right
                        refine ⟨by show p.lo ≤ a.idx + l; omega, ?_, by show a.idx + l - p.lo + (m' - l) ≤ p.tot; omega⟩
                        rw [Place.at_add]; unfold Place.at
                        have : a.idx + l - p.lo = (a.idx - p.lo) + l := by omega
                        simp only [this, Nat.add_mul, ← hxs, ← hes, hes']
                        congr 1; omega
                · cases h
          · cases h
        · cases h
      · cases h
    · cases h
  · rename_i d s hd
    obtain ⟨ti, u, hti, hu, hk, hs, -⟩ := hD.get hd
    rw [hk] at h
    split at h
    · rename_i e
      have := tkOf_string e; subst this
      split at h
      · cases h
      · rename_i hno
        split at h
        · rename_i hh hhh
          split at h
          · rename_i l hl
            simp at h; subst h
            simp only [VRel] at hx
            obtain ⟨s', rfl, rfl⟩ := hx
            rw [Array.length_toList] at hhh
            have hmxn : mx = none := by cases mx <;> simp_all
            subst hmxn
            have hmxn' : mx' = none := by cases mx' with | none => rfl | some _ => exact hmx.elim
            subst hmxn'
            obtain ⟨m', k1, k2, k3, k4, k5, k6⟩ := run_sliceBounds (P := P) (mx := none) (mx' := none) hlo hhi trivial (Nat.le_refl s'.size) (Nat.le_refl s'.size) (m := s'.size) (by simp [abound]) hhh hl (by simp) false w
            refine ⟨.string (s'.extract l hh), ?_, by simp only [VRel]; exact ⟨_, rfl, extract_list _ _ _⟩⟩
            simp [Instr.sliceAt, run_underlying hu, Instr.slice, k1]
          · cases h
        · cases h
    · cases h
  · cases h

/-! ## loads -/

theorem range_of {w : World} {b o : Nat} : ∀ {l : List AVal}, (∀ j x', l[j]? = some x' → ∃ x, w.cell? ⟨b, o + j, none⟩ = some x ∧ VRel φ x' x ∧ x.oneCell' = true) →
    ∃ vs, VRels φ l vs ∧ w.rangeAt b o vs ∧ ∀ x ∈ vs, x.oneCell' = true
  | [], _ => ⟨[], by simp [VRels], by intro j v hv; simp at hv, by simp⟩
  | a :: r, h => by
    obtain ⟨x, hx1, hx2⟩ := h 0 a (by simp)
    have ih := range_of (w := w) (b := b) (o := o + 1) (l := r) (fun j x' hj => by
      obtain ⟨x, g1, g2⟩ := h (j + 1) x' (by simpa using hj)
      exact ⟨x, by rw [show o + 1 + j = o + (j + 1) by omega]; exact g1, g2⟩)
    obtain ⟨vs, i1, i2, i3⟩ := ih
    refine ⟨x :: vs, by simp only [VRels]; exact ⟨_, _, rfl, hx2.1, i1⟩, ?_, ?_⟩
    · intro j v hv
      cases j with
      | zero => simp at hv; subst hv; exact hx1
      | succ j => simp at hv; have := i2 j v hv; rw [show o + (j + 1) = o + 1 + j by omega]; exact this
    · intro y hy
      rcases List.mem_cons.1 hy with rfl | hy
      · exact hx2.2
      · exact i3 y hy

/-- the cells of an element that can be read -/
theorem HRel.readCells {N0 : Nat → Prop} {h : AHeap} {w : World} (r : HRel φ N0 h w) {a : AAddr} {xa : Addr} (ha : AtAddr φ a xa) {b : ABlk} (hb : h.get a.id = some b) {e : AVal} (he : b.elem? a.ver a.idx = some e) :
    ∃ p, φ a.id a.ver = some p ∧ xa = p.at a.idx a.fld ∧ p.lo ≤ a.idx ∧ e.cells.length = p.es ∧ ∀ j x', e.cells[j]? = some x' → ∃ x, w.cell? (p.at a.idx j) = some x ∧ VRel φ x' x ∧ x.oneCell' = true := by
  obtain ⟨p, hp, hes, hlo, rfl⟩ := ha
  obtain ⟨h1, c, h2, h3, h4, h5, h6, h7, h8⟩ := r.dom _ _ _ hp
  rw [hb] at h2; simp at h2; subst h2
  unfold ABlk.elem? at he
  split at he
  · rename_i hl
    obtain ⟨c1, c2, c3⟩ := h8.cont _ _ hlo hl he
    exact ⟨p, hp, rfl, hlo, c1, c3⟩
  · cases he

theorem sim_load {D : Tys} (hD : D.Ok P) {N0 : Nat → Prop} {h : AHeap} {w : World} (r : HRel φ N0 h w) {t : TypeId} {a : AAddr} {x' : Value} {v : AVal} (hx : VRel φ (.ptr (some a)) x') (ho : aload D t a h = some v) :
    ∃ v', (Instr.loadAt t x').run P w = .ok v' w ∧ VRel φ v v' := by
  unfold aload at ho
  split at ho
  · rename_i d b hd hb
    obtain ⟨ti, u, hti, hu, hk, hs, -⟩ := hD.get hd
    split at ho
    · rename_i e he
      simp only [VRel] at hx
      obtain ⟨xa, rfl, hat⟩ := hx
      obtain ⟨p, hp, rfl, hlo, hlen, hcells⟩ := r.readCells hat hb he
      rw [hk, hs] at ho
      cases hagg : (tkOf u).isAgg with
      | true =>
        rw [hagg] at ho
        simp only [loadElem, if_true] at ho
        split at ho
        · rename_i cs
          -- a struct or an array
          have key : ∀ (l : List AVal), (∀ (j : Nat) (x' : AVal), l[j]? = some x' → cs[a.fld + j]? = some x') → l.length = ti.size → ∃ v', (Instr.loadAt t (.pointer (some (p.at a.idx a.fld)))).run P w = .ok v' w ∧ VRel φ (.agg l) v' := by
            intro l hl hll
            obtain ⟨vs, hv1, hv2, -⟩ := range_of (φ := φ) (w := w) (b := p.blk) (o := p.off + (a.idx - p.lo) * p.es + a.fld) (l := l) (fun j x' hj => by
              obtain ⟨x, g1, g2⟩ := hcells (a.fld + j) x' (hl j x' hj)
              exact ⟨x, by rw [Place.at, ← Nat.add_assoc] at g1; exact g1, g2⟩)
            refine ⟨.agg vs.toArray, ?_, by simp only [VRel]; exact ⟨_, rfl, by simpa using hv1⟩⟩
            exact run_loadAt_mid w p.blk _ t vs u hv2 hu (by cases u <;> simp [tkOf, TK.isAgg] at hagg ⊢) (by rw [hti]; simp [hv1.length, hll])
          split at ho
          · rename_i hc
            simp at ho; subst ho
            exact key cs (fun j x' hj => by rw [hc.1, Nat.zero_add]; exact hj) hc.2.symm
          · split at ho
            · rename_i hc
              simp at ho; subst ho
              refine key _ (fun j x' hj => ?_) (by simp; omega)
              rw [List.getElem?_take] at hj
              split at hj
              · rw [List.getElem?_drop] at hj; exact hj
              · simp at hj
            · cases ho
        · cases ho
      | false =>
        rw [hagg] at ho
        have key : ∀ (j : Nat) (y : AVal), e.cells[j]? = some y → a.fld = j → ∃ v', (Instr.loadAt t (.pointer (some (p.at a.idx a.fld)))).run P w = .ok v' w ∧ VRel φ y v' := by
          intro j y hy hj
          subst hj
          obtain ⟨x, g1, g2⟩ := hcells a.fld y hy
          refine ⟨x, ?_, g2.1⟩
          simp only [Instr.loadAt, Instr.sureAddr, Sem.run_bind, Sem.run_pure, Result.andThen_ok, loadVar, isAgg_run hu, hagg]
          simp [g1]
        simp only [loadElem] at ho
        cases e with
        | agg cs => exact key a.fld v ho rfl
        | _ =>
          simp at ho
          obtain ⟨hf, rfl⟩ := ho
          exact key 0 _ (by simp [AVal.cells]) hf
    · cases ho
  · cases ho

/-! ## stores -/

theorem VRel.oneCell {a : AVal} {v : Value} (h : VRel φ a v) (hs : a.simple = true) : v.oneCell' = true := by
  cases a with
  | undef => cases hs
  | agg cs => cases hs
  | tuple cs => cases hs
  | bool b => simp only [VRel] at h; subst h; rfl
  | int k n => simp only [VRel] at h; subst h; rfl
  | str s => simp only [VRel] at h; obtain ⟨_, rfl, _⟩ := h; rfl
  | ptr o => cases o with
    | none => simp only [VRel] at h; subst h; rfl
    | some x => simp only [VRel] at h; obtain ⟨_, rfl, _⟩ := h; rfl
  | slice o l c => cases o with
    | none => simp only [VRel] at h; obtain ⟨rfl, _⟩ := h; rfl
    | some x => simp only [VRel] at h; obtain ⟨_, _, rfl, _⟩ := h; rfl
  | func fn f c => simp only [VRel] at h; obtain ⟨_, _, rfl, _⟩ := h; rfl
  | nilFunc => simp only [VRel] at h; subst h; rfl
  | iface t x => simp only [VRel] at h; obtain ⟨_, rfl, _⟩ := h; rfl
  | nilIface => simp only [VRel] at h; subst h; rfl

end
end
end Go.Lift
