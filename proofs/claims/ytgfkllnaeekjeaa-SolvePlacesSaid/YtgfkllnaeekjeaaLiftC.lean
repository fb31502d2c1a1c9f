/-
  THE LIFT, PART C: writing into a row.
-/
import Derived.Test.YtgfkllnaeekjeaaLiftB
import Derived.Deep.MidRow
namespace Go.Lift
noncomputable section
set_option linter.unusedVariables false
set_option linter.unusedSimpArgs false

theorem putAll_length : ∀ (vs l : List AVal) (i : Nat), (putAll l i vs).length = l.length
  | [], l, i => rfl
  | v :: vs, l, i => by simp [putAll, putAll_length vs]

theorem putAll_get : ∀ (vs l : List AVal) (i k : Nat), (putAll l i vs)[k]? = if i ≤ k ∧ k < i + vs.length ∧ k < l.length then vs[k - i]? else l[k]?
  | [], l, i, k => by
    simp only [putAll, List.length_nil, Nat.add_zero]
    rw [if_neg (by omega)]
  | v :: vs, l, i, k => by
    simp only [putAll, List.length_cons]
    rw [putAll_get vs (l.set i v) (i + 1) k, List.length_set]
    by_cases hk : i = k
    · subst hk
      rw [if_neg (by omega)]
      by_cases hl : i < l.length
      · rw [if_pos (by omega), List.getElem?_set_self hl]; simp
      · rw [if_neg (by omega), List.getElem?_eq_none (by simpa using hl), List.getElem?_eq_none (by omega)]
    · rw [List.getElem?_set_ne hk]
      by_cases h : i + 1 ≤ k ∧ k < i + 1 + vs.length ∧ k < l.length
      · rw [if_pos h, if_pos (by omega), show k - i = k - (i + 1) + 1 by omega]; simp
      · rw [if_neg h, if_neg (by omega)]

theorem VRels.putAll {φ : Map} {l m : List AVal} {t u : List Value} (h : VRels φ l t) (k : VRels φ m u) (i : Nat) :
    ∀ j a, (putAll l i m)[j]? = some a → ∃ v, (if i ≤ j ∧ j < i + m.length ∧ j < l.length then u[j - i]? else t[j]?) = some v ∧ VRel φ a v := by
  intro j a ha
  rw [putAll_get] at ha
  split at ha
  · rename_i hc; rw [if_pos hc]; exact k.get ha
  · rename_i hc; rw [if_neg hc]; exact h.get ha

theorem World.size_setCells (b : Nat) : ∀ (vs : List Value) (o : Nat) (w : World), (w.setCells b o vs).heap.size = w.heap.size
  | [], _, _ => rfl
  | v :: r, o, w => by rw [World.setCells, World.size_setCells b r]; exact World.size_setCell _ _ _

/-- where the cell (i, j) of a row lies among its cells -/
theorem cell_lt {i j es tot : Nat} (hi : i < tot) (hj : j < es) : i * es + j < tot * es := by
  have h : (i + 1) * es ≤ tot * es := Nat.mul_le_mul_right es hi
  rw [Nat.succ_mul] at h; omega

theorem row_lt {i k j es : Nat} (hi : i < k) (hj : j < es) : i * es + j < k * es := cell_lt hi hj

/-- the row's cells are written: the range from 'o' on, with 'vs'; what the row holds then is given by 'hc' -/
theorem HRel.wrote {φ : Map} {N0 : Nat → Prop} {h : AHeap} {w : World} (r : HRel φ N0 h w) {id : Nat} {b : ABlk} {p : Place} (hp : φ id b.ver = some p) (hb : h.get id = some b)
    (hro : b.ro = false) {l : List AVal} (hl : l.length = b.elems.length) {o : Nat} {vs : List Value}
    (hc : ∀ i e, p.lo ≤ i → l[i]? = some e → e.cells.length = p.es ∧ ∀ j x', e.cells[j]? = some x' → ∃ x, (w.setCells p.blk o vs).cell? (p.at i j) = some x ∧ VRel φ x' x ∧ x.oneCell' = true) :
    HRel φ N0 (h.set id { b with elems := l, minVer := b.ver }) (w.setCells p.blk o vs) := by
  constructor
  · intro i v q hq
    obtain ⟨h1, c, h2, h3, h4, h5, h6, h7, h8⟩ := r.dom i v q hq
    have hsz := World.size_setCells p.blk vs o w
    by_cases hi : i = id
    · subst hi
      rw [hb] at h2; simp at h2; subst h2
      refine ⟨h1, _, AHeap.get_set_self _ _ _, h3, h4, h5, h6, h7, ⟨by rw [hsz]; exact h8.blk, h8.base, fun o' ho' => World.isSome_setCells _ _ _ _ _ (h8.cells o' ho'), fun h9 o' ho' => by rw [World.frozen?_setCells]; exact h8.free h9 o' ho', ?_⟩⟩
      intro k e hk1 hk2 hk3
      simp only [ABlk.lim] at hk2
      by_cases hv : v = b.ver
      · subst hv
        rw [hp] at hq; simp at hq; subst hq
        rw [if_pos rfl] at hk2
        obtain ⟨e', he'⟩ : ∃ e', b.elems[k]? = some e' := ⟨_, List.getElem?_eq_getElem (by simpa [hl] using hk2)⟩
        have := h8.cont k e' hk1 (by simpa [ABlk.lim, hl] using hk2) he'
        exact ⟨(hc k e hk1 hk3).1, this.2.1, (hc k e hk1 hk3).2⟩
      · exfalso
        rw [if_neg hv] at hk2
        rw [if_neg (by omega)] at hk2
        omega
    · have hne : p.blk ≠ q.blk := by
        intro e
        have := r.apart id b.ver p i v q hp hq e (fun e => hi e.symm)
        obtain ⟨_, b', h2', _, _, _, h6', _, _⟩ := r.dom id b.ver p hp
        rw [hb] at h2'; simp at h2'; subst h2'
        rw [h6', hro] at this; simp at this
      refine ⟨h1, c, by rw [AHeap.get_set_ne _ _ (fun e => hi e.symm)]; exact h2, h3, h4, h5, h6, h7, ?_⟩
      have hcell : ∀ a : Addr, a.block = q.blk → (w.setCells p.blk o vs).cell? a = w.cell? a := fun a ha => World.cell?_setCells_out _ _ _ _ _ (fun hh _ => absurd (hh.symm.trans ha) hne)
      refine ⟨by rw [hsz]; exact h8.blk, h8.base, fun o' ho' => by rw [hcell _ rfl]; exact h8.cells o' ho', fun h9 o' ho' => by rw [World.frozen?_setCells]; exact h8.free h9 o' ho', ?_⟩
      intro k e hk1 hk2 hk3
      obtain ⟨h10, h11, h12⟩ := h8.cont k e hk1 hk2 hk3
      refine ⟨h10, h11, fun j x' hx => ?_⟩
      obtain ⟨x, hx1, hx2⟩ := h12 j x' hx
      exact ⟨x, by rw [hcell _ rfl]; exact hx1, hx2⟩
  · exact r.apart
  · exact r.same

/-- a part of one element is written -/
theorem HRel.store {φ : Map} {N0 : Nat → Prop} {h : AHeap} {w : World} (r : HRel φ N0 h w) {id : Nat} {b : ABlk} {p : Place} (hp : φ id b.ver = some p) (hb : h.get id = some b)
    (hro : b.ro = false) {idx fld : Nat} {e e' : AVal} {cs : List AVal} {vs : List Value} (hlo : p.lo ≤ idx) (he : b.elems[idx]? = some e)
    (hcs : VRels φ cs vs) (hone : ∀ x ∈ vs, x.oneCell' = true) (hfit : fld + cs.length ≤ p.es) (hlen : e'.cells = putAll e.cells fld cs) :
    HRel φ N0 (h.set id { b with elems := b.elems.set idx e', minVer := b.ver }) (w.setCells p.blk (p.off + (idx - p.lo) * p.es + fld) vs)
    ∧ w.there p.blk (p.off + (idx - p.lo) * p.es + fld) vs.length := by
  obtain ⟨h1, c, h2, h3, h4, h5, h6, h7, h8⟩ := r.dom id b.ver p hp
  rw [hb] at h2; simp at h2; subst h2
  have hidx : idx < b.elems.length := (List.getElem?_eq_some_iff.1 he).1
  have hlim : b.lim b.ver = b.elems.length := by simp [ABlk.lim]
  obtain ⟨c1, c2, c3⟩ := h8.cont idx e hlo (by rw [hlim]; exact hidx) he
  have hvl : vs.length = cs.length := hcs.length
  have hthere : w.there p.blk (p.off + (idx - p.lo) * p.es + fld) vs.length := by
    intro j hj
    have hb : (idx - p.lo) * p.es + (fld + j) < p.tot * p.es := cell_lt c2 (by omega)
    have k1 := h8.cells _ hb
    have k2 := h8.free (by rw [h6, hro]) _ hb
    have e1 : p.off + (idx - p.lo) * p.es + fld + j = p.off + ((idx - p.lo) * p.es + (fld + j)) := by omega
    rw [e1]; exact ⟨k1, k2⟩
  refine ⟨?_, hthere⟩
  refine r.wrote hp hb hro (by simp) fun i f hi hf => ?_
  by_cases hii : idx = i
  · subst hii
    rw [List.getElem?_set_self hidx] at hf
    simp at hf; subst hf
    refine ⟨by rw [hlen, putAll_length]; exact c1, fun j x' hx => ?_⟩
    rw [hlen, putAll_get] at hx
    split at hx
    · rename_i hc
      obtain ⟨x, hx1, hx2⟩ := hcs.get hx
      have hjj : j - fld < vs.length := by omega
      have := World.cell?_setCells_in p.blk vs (p.off + (idx - p.lo) * p.es + fld) w (fun k hk => (hthere k hk).1) (j - fld) hjj
      refine ⟨x, ?_, hx2, hone x (List.mem_of_getElem? hx1)⟩
      rw [List.getElem?_eq_getElem hjj] at hx1
      simp at hx1
      rw [Place.at, show p.off + (idx - p.lo) * p.es + j = p.off + (idx - p.lo) * p.es + fld + (j - fld) by omega, this, hx1]
    · rename_i hc
      obtain ⟨x, hx1, hx2⟩ := c3 j x' hx
      refine ⟨x, ?_, hx2⟩
      have hj : j < e.cells.length := (List.getElem?_eq_some_iff.1 hx).1
      rw [World.cell?_setCells_out _ _ _ _ _ (fun _ _ => ?_)]
      · exact hx1
      · simp only [Place.at]; omega
  · rw [List.getElem?_set_ne hii] at hf
    have hi' : i < b.elems.length := (List.getElem?_eq_some_iff.1 hf).1
    obtain ⟨d1, d2, d3⟩ := h8.cont i f hi (by rw [hlim]; exact hi') hf
    refine ⟨d1, fun j x' hx => ?_⟩
    obtain ⟨x, hx1, hx2⟩ := d3 j x' hx
    refine ⟨x, ?_, hx2⟩
    have hj : j < f.cells.length := (List.getElem?_eq_some_iff.1 hx).1
    rw [World.cell?_setCells_out _ _ _ _ _ (fun _ _ => ?_)]
    · exact hx1
    · simp only [Place.at]
      rcases Nat.lt_or_ge i idx with hlt | hge
      · left
        have := row_lt (i := i - p.lo) (k := idx - p.lo) (j := j) (es := p.es) (by omega) (by omega)
        omega
      · right
        have := row_lt (i := idx - p.lo) (k := i - p.lo) (j := fld + vs.length - 1) (es := p.es) (by omega) (by omega)
        omega

theorem flat_split {es : Nat} : ∀ {l : List AVal} (hl : ∀ e ∈ l, e.cells.length = es) (k : Nat), k < (flat l).length → ∃ i j e, k = i * es + j ∧ l[i]? = some e ∧ j < es
  | [], hl, k, h => by simp [flat] at h
  | a :: r, hl, k, h => by
    have ha : a.cells.length = es := hl a (by simp)
    by_cases hk : k < es
    · exact ⟨0, k, a, by simp, by simp, hk⟩
    · obtain ⟨i, j, e, h1, h2, h3⟩ := flat_split (l := r) (fun e he => hl e (by simp [he])) (k - es) (by simp only [flat, List.flatMap_cons, List.length_append] at h ⊢; omega)
      exact ⟨i + 1, j, e, by rw [Nat.succ_mul]; omega, by simpa using h2, h3⟩

/-- whole elements are written, from a place on -/
theorem HRel.putMany {φ : Map} {N0 : Nat → Prop} {h : AHeap} {w : World} (r : HRel φ N0 h w) {id : Nat} {b : ABlk} {p : Place} (hp : φ id b.ver = some p) (hb : h.get id = some b)
    (hro : b.ro = false) {idx : Nat} {l : List AVal} {vs : List Value} (hlo : p.lo ≤ idx) (hlt : idx + l.length ≤ b.elems.length) (hne : l ≠ [])
    (hl : ∀ e ∈ l, e.cells.length = p.es) (hvs : VRels φ (flat l) vs) (hone : ∀ x ∈ vs, x.oneCell' = true) :
    HRel φ N0 (h.set id (b.put idx l)) (w.setCells p.blk (p.off + (idx - p.lo) * p.es) vs)
    ∧ w.there p.blk (p.off + (idx - p.lo) * p.es) vs.length := by
  obtain ⟨h1, c, h2, h3, h4, h5, h6, h7, h8⟩ := r.dom id b.ver p hp
  rw [hb] at h2; simp at h2; subst h2
  have hlim : b.lim b.ver = b.elems.length := by simp [ABlk.lim]
  have hvl : vs.length = l.length * p.es := by rw [hvs.length, flat_length hl]
  have hl0 : 0 < l.length := List.length_pos_iff.2 hne
  have hlast : idx + l.length - 1 - p.lo < p.tot := by
    have hlt' : idx + l.length - 1 < b.elems.length := by omega
    exact (h8.cont (idx + l.length - 1) _ (by omega) (by rw [hlim]; exact hlt') (List.getElem?_eq_getElem hlt')).2.1
  have hmul : (idx - p.lo + l.length) * p.es ≤ p.tot * p.es := Nat.mul_le_mul_right _ (by omega)
  rw [Nat.add_mul] at hmul
  have hthere : w.there p.blk (p.off + (idx - p.lo) * p.es) vs.length := by
    intro j hj
    have hb : (idx - p.lo) * p.es + j < p.tot * p.es := by omega
    have e1 : p.off + (idx - p.lo) * p.es + j = p.off + ((idx - p.lo) * p.es + j) := by omega
    rw [e1]; exact ⟨h8.cells _ hb, h8.free (by rw [h6, hro]) _ hb⟩
  refine ⟨?_, hthere⟩
  refine r.wrote hp hb hro (by simp [putAll_length]) fun i f hi hf => ?_
  rw [putAll_get] at hf
  split at hf
  · rename_i hc
    have hm : f ∈ l := List.mem_of_getElem? hf
    refine ⟨hl f hm, fun j x' hx => ?_⟩
    have hj : j < p.es := by rw [← hl f hm]; exact (List.getElem?_eq_some_iff.1 hx).1
    have hg := flat_get hl hf hx
    obtain ⟨x, hx1, hx2⟩ := hvs.get hg
    refine ⟨x, ?_, hx2, hone x (List.mem_of_getElem? hx1)⟩
    have hjj : (i - idx) * p.es + j < vs.length := by rw [hvl]; exact cell_lt (by omega) hj
    have := World.cell?_setCells_in p.blk vs (p.off + (idx - p.lo) * p.es) w (fun k hk => (hthere k hk).1) _ hjj
    rw [List.getElem?_eq_getElem hjj] at hx1
    simp at hx1
    have e2 : (i - p.lo) * p.es = (idx - p.lo) * p.es + (i - idx) * p.es := by rw [← Nat.add_mul]; congr 1; omega
    rw [Place.at, show p.off + (i - p.lo) * p.es + j = p.off + (idx - p.lo) * p.es + ((i - idx) * p.es + j) by omega, this, hx1]
  · rename_i hc
    have hi' : i < b.elems.length := (List.getElem?_eq_some_iff.1 hf).1
    obtain ⟨d1, d2, d3⟩ := h8.cont i f hi (by rw [hlim]; exact hi') hf
    refine ⟨d1, fun j x' hx => ?_⟩
    obtain ⟨x, hx1, hx2⟩ := d3 j x' hx
    refine ⟨x, ?_, hx2⟩
    have hj : j < f.cells.length := (List.getElem?_eq_some_iff.1 hx).1
    rw [World.cell?_setCells_out _ _ _ _ _ (fun _ _ => ?_)]
    · exact hx1
    · simp only [Place.at]
      rcases Nat.lt_or_ge i idx with hlt | hge
      · left
        have := row_lt (i := i - p.lo) (k := idx - p.lo) (j := j) (es := p.es) (by omega) (by omega)
        omega
      · right
        have := Nat.mul_le_mul_right p.es (show idx - p.lo + l.length ≤ i - p.lo by omega)
        rw [Nat.add_mul] at this
        omega

theorem ABlk.lim_grow_eq (b : ABlk) (new : List AVal) (v : Nat) : (b.grow new).lim v =
    if v = b.ver + 1 then b.elems.length + new.length else if b.minVer ≤ v ∧ v < b.ver + 1 then (if b.minVer = b.ver then b.elems.length else min b.forkLen b.elems.length) else 0 := by
  rw [← List.length_append]; rfl

theorem ABlk.lim_grow (b : ABlk) (new : List AVal) (v : Nat) (h : v ≤ b.ver) : (b.grow new).lim v ≤ b.lim v ∧ (b.grow new).lim v ≤ b.elems.length := by
  rw [ABlk.lim_grow_eq]
  unfold ABlk.lim
  rw [if_neg (by omega)]
  constructor <;> (repeat' split) <;> omega

theorem ABlk.lim_grow_self (b : ABlk) (new : List AVal) : (b.grow new).lim (b.ver + 1) = b.elems.length + new.length := by
  rw [ABlk.lim_grow_eq, if_pos rfl]

/-- a row grows at its end, into a new block -/
theorem HRel.growNew {φ : Map} {N0 : Nat → Prop} {h : AHeap} {w : World} (r : HRel φ N0 h w) {id : Nat} {b : ABlk} {p : Place} (hp : φ id b.ver = some p) (hb : h.get id = some b)
    (hro : b.ro = false) (hex : b.exact = false) (hN : Low N0 w.heap.size) {idx : Nat} {new : List AVal} (hidx : idx ≤ b.elems.length)
    (hold : ∀ e ∈ b.elems.drop idx, e.cells.length = b.es) (hnew : ∀ e ∈ new, e.cells.length = b.es)
    {c : Array Value} {t : TypeId} {tot : Nat} (hc : VRels φ (flat (b.elems.drop idx ++ new)) (c.toList.take ((b.elems.drop idx ++ new).length * b.es)))
    (hsz : tot * b.es ≤ c.size) (htot : (b.elems.drop idx ++ new).length ≤ tot)
    (hone : ∀ x ∈ c.toList.take ((b.elems.drop idx ++ new).length * b.es), x.oneCell' = true) :
    HRel (φ.add id (b.ver + 1) ⟨w.heap.size, 0, idx, b.es, tot, false, false⟩) N0 (h.set id (b.grow new)) (w.alloc (.cells c t)) := by
  have hnone : φ id (b.ver + 1) = none := by
    cases hq : φ id (b.ver + 1) with
    | none => rfl
    | some q => obtain ⟨_, b', h2, h3, _⟩ := r.dom _ _ _ hq; rw [hb] at h2; simp at h2; subst h2; omega
  have hle := φ.le_add (id := id) (v := b.ver + 1) ⟨w.heap.size, 0, idx, b.es, tot, false, false⟩ hnone
  obtain ⟨g1, b', g2, g3, g4, g5, g6, g7, g8⟩ := r.dom id b.ver p hp
  rw [hb] at g2; simp at g2; subst g2
  constructor
  · intro i v q hq
    simp only [Map.add] at hq
    split at hq
    · rename_i e; obtain ⟨rfl, rfl⟩ := e
      simp at hq; subst hq
      refine ⟨g1, b.grow new, AHeap.get_set_self _ _ _, Nat.le_refl _, rfl, hex.symm, hro.symm, by rw [← g4]; exact g7, ?_⟩
      constructor
      · rw [size_alloc]; simp
      · intro _; exact hN.no
      · intro o ho
        simp only at ho ⊢
        rw [cell?_alloc_last, Nat.zero_add, Array.getElem?_eq_getElem (by omega)]; rfl
      · intro _ o ho; exact frozen?_alloc_last _ _ _ _
      · intro k e hk1 hk2 hk3
        rw [ABlk.lim_grow_self] at hk2
        have hlen : (b.elems.drop idx ++ new).length = b.elems.length - idx + new.length := by simp
        have hall : ∀ e ∈ b.elems.drop idx ++ new, e.cells.length = b.es := fun e he => by
          rcases List.mem_append.1 he with he | he
          · exact hold e he
          · exact hnew e he
        have hk3' : (b.elems ++ new)[k]? = some e := hk3
        have hk4 : (b.elems.drop idx ++ new)[k - idx]? = some e := by
          simp only at hk1
          by_cases hkl : k < b.elems.length
          · rw [List.getElem?_append_left hkl] at hk3'
            rw [List.getElem?_append_left (by simp; omega), List.getElem?_drop, show idx + (k - idx) = k by omega]; exact hk3'
          · rw [List.getElem?_append_right (by omega)] at hk3'
            rw [List.getElem?_append_right (by simp; omega), List.length_drop, show k - idx - (b.elems.length - idx) = k - b.elems.length by omega]; exact hk3'
        have hm := List.mem_of_getElem? hk4
        refine ⟨hall e hm, by simp only at hk1 ⊢; omega, fun j x' hx => ?_⟩
        have hf := flat_get hall hk4 hx
        obtain ⟨x, hx1, hx2⟩ := hc.get hf
        refine ⟨x, ?_, hx2.mono hle, hone x (List.mem_of_getElem? hx1)⟩
        simp only [Place.at, Nat.zero_add]
        rw [cell?_alloc_last]
        rw [List.getElem?_take] at hx1
        split at hx1
        · simpa using hx1
        · simp at hx1
    · obtain ⟨h1, c', h2, h3, h4, h5, h6, h7, h8⟩ := r.dom i v q hq
      by_cases hi : i = id
      · subst hi
        rw [hb] at h2; simp at h2; subst h2
        have h8' := (h8.alike (Alike.alloc w (.cells c t))).mono hle
        have hlim := ABlk.lim_grow b new v h3
        refine ⟨h1, b.grow new, AHeap.get_set_self _ _ _, by simp only [ABlk.grow]; omega, h4, h5, h6, h7, ⟨h8'.blk, h8'.base, h8'.cells, h8'.free, fun k e hk1 hk2 hk3 => h8'.cont k e hk1 (by omega) ?_⟩⟩
        have hk3' : (b.elems ++ new)[k]? = some e := hk3
        rwa [List.getElem?_append_left (by omega)] at hk3'
      · exact ⟨h1, c', by rw [AHeap.get_set_ne _ _ (fun e => hi e.symm)]; exact h2, h3, h4, h5, h6, h7, (h8.alike (Alike.alloc _ _)).mono hle⟩
  · intro i v q j u q' hq hq' hbq hij
    simp only [Map.add] at hq hq'
    split at hq <;> split at hq'
    · rename_i e1 e2; exact absurd (e1.1.trans e2.1.symm) hij
    · simp at hq; subst hq
      obtain ⟨_, _, _, _, _, _, _, _, h8⟩ := r.dom j u q' hq'
      have := h8.blk
      simp only at hbq; omega
    · simp at hq'; subst hq'
      obtain ⟨_, _, _, _, _, _, _, _, h8⟩ := r.dom i v q hq
      have := h8.blk
      simp only at hbq; omega
    · exact r.apart i v q j u q' hq hq' hbq hij
  · intro i v q u q' hq hq' hbq
    simp only [Map.add] at hq hq'
    split at hq <;> split at hq'
    · simp at hq hq'; subst hq hq'; exact ⟨rfl, rfl⟩
    · simp at hq; subst hq
      obtain ⟨_, _, _, _, _, _, _, _, h8⟩ := r.dom i u q' hq'
      have := h8.blk
      simp only at hbq; omega
    · simp at hq'; subst hq'
      obtain ⟨_, _, _, _, _, _, _, _, h8⟩ := r.dom i v q hq
      have := h8.blk
      simp only at hbq; omega
    · exact r.same i v q u q' hq hq' hbq

/-- a row grows at its end, where it lies -/
theorem HRel.growHere {φ : Map} {N0 : Nat → Prop} {h : AHeap} {w : World} (r : HRel φ N0 h w) {id : Nat} {b : ABlk} {p : Place} (hp : φ id b.ver = some p) (hb : h.get id = some b)
    (hro : b.ro = false) {new : List AVal} {vs : List Value} (hlo : p.lo ≤ b.elems.length) (hroom : b.elems.length - p.lo + new.length ≤ p.tot)
    (hnew : ∀ e ∈ new, e.cells.length = p.es) (hvs : VRels φ (flat new) vs) (hone : ∀ x ∈ vs, x.oneCell' = true) :
    HRel (φ.add id (b.ver + 1) p) N0 (h.set id (b.grow new)) (w.setCells p.blk (p.off + (b.elems.length - p.lo) * p.es) vs)
    ∧ w.there p.blk (p.off + (b.elems.length - p.lo) * p.es) vs.length := by
  have hnone : φ id (b.ver + 1) = none := by
    cases hq : φ id (b.ver + 1) with
    | none => rfl
    | some q => obtain ⟨_, b', h2, h3, _⟩ := r.dom _ _ _ hq; rw [hb] at h2; simp at h2; subst h2; omega
  have hle := φ.le_add (id := id) (v := b.ver + 1) p hnone
  obtain ⟨g1, b', g2, g3, g4, g5, g6, g7, g8⟩ := r.dom id b.ver p hp
  rw [hb] at g2; simp at g2; subst g2
  have hvl : vs.length = new.length * p.es := by rw [hvs.length, flat_length hnew]
  have hmul : (b.elems.length - p.lo + new.length) * p.es ≤ p.tot * p.es := Nat.mul_le_mul_right _ hroom
  rw [Nat.add_mul] at hmul
  have hthere : w.there p.blk (p.off + (b.elems.length - p.lo) * p.es) vs.length := by
    intro j hj
    have hb : (b.elems.length - p.lo) * p.es + j < p.tot * p.es := by omega
    have e1 : p.off + (b.elems.length - p.lo) * p.es + j = p.off + ((b.elems.length - p.lo) * p.es + j) := by omega
    rw [e1]; exact ⟨g8.cells _ hb, g8.free (by rw [g6, hro]) _ hb⟩
  refine ⟨?_, hthere⟩
  have hsz := World.size_setCells p.blk vs (p.off + (b.elems.length - p.lo) * p.es) w
  -- cells ahead of the end stay
  have hkeep : ∀ (q : Place) (k j : Nat), q.blk = p.blk → q.off = p.off → q.lo = p.lo → q.es = p.es → k < b.elems.length → q.lo ≤ k → j < q.es →
      (w.setCells p.blk (p.off + (b.elems.length - p.lo) * p.es) vs).cell? (q.at k j) = w.cell? (q.at k j) := by
    intro q k j hq1 hq2 hq3 hq4 hk1 hk2 hj
    refine World.cell?_setCells_out _ _ _ _ _ (fun _ _ => .inl ?_)
    simp only [Place.at, hq2, hq3, hq4]
    have := row_lt (i := k - p.lo) (k := b.elems.length - p.lo) (j := j) (es := p.es) (by omega) (by omega)
    omega
  have hlimv : b.lim b.ver = b.elems.length := by simp [ABlk.lim]
  constructor
  · intro i v q hq
    simp only [Map.add] at hq
    split at hq
    · rename_i e; obtain ⟨rfl, rfl⟩ := e
      simp at hq; subst hq
      refine ⟨g1, b.grow new, AHeap.get_set_self _ _ _, Nat.le_refl _, g4, g5, g6, g7, ⟨by rw [hsz]; exact g8.blk, g8.base, fun o' ho' => World.isSome_setCells _ _ _ _ _ (g8.cells o' ho'), fun h9 o' ho' => by rw [World.frozen?_setCells]; exact g8.free h9 o' ho', ?_⟩⟩
      intro k e hk1 hk2 hk3
      rw [ABlk.lim_grow_self] at hk2
      have hk3' : (b.elems ++ new)[k]? = some e := hk3
      by_cases hkl : k < b.elems.length
      · rw [List.getElem?_append_left hkl] at hk3'
        obtain ⟨d1, d2, d3⟩ := g8.cont k e hk1 (by rw [hlimv]; exact hkl) hk3'
        refine ⟨d1, d2, fun j x' hx => ?_⟩
        obtain ⟨x, hx1, hx2⟩ := d3 j x' hx
        have hj : j < e.cells.length := (List.getElem?_eq_some_iff.1 hx).1
        exact ⟨x, by rw [hkeep p k j rfl rfl rfl rfl hkl hk1 (by omega)]; exact hx1, hx2.1.mono hle, hx2.2⟩
      · rw [List.getElem?_append_right (by omega)] at hk3'
        have hm := List.mem_of_getElem? hk3'
        refine ⟨hnew e hm, by omega, fun j x' hx => ?_⟩
        have hj : j < p.es := by rw [← hnew e hm]; exact (List.getElem?_eq_some_iff.1 hx).1
        have hg := flat_get hnew hk3' hx
        obtain ⟨x, hx1, hx2⟩ := hvs.get hg
        refine ⟨x, ?_, hx2.mono hle, hone x (List.mem_of_getElem? hx1)⟩
        have hjj : (k - b.elems.length) * p.es + j < vs.length := by rw [hvl]; exact cell_lt (by have := (List.getElem?_eq_some_iff.1 hk3').1; omega) hj
        have := World.cell?_setCells_in p.blk vs (p.off + (b.elems.length - p.lo) * p.es) w (fun k hk => (hthere k hk).1) _ hjj
        rw [List.getElem?_eq_getElem hjj] at hx1
        simp at hx1
        have e2 : (k - p.lo) * p.es = (b.elems.length - p.lo) * p.es + (k - b.elems.length) * p.es := by rw [← Nat.add_mul]; congr 1; omega
        rw [Place.at, show p.off + (k - p.lo) * p.es + j = p.off + (b.elems.length - p.lo) * p.es + ((k - b.elems.length) * p.es + j) by omega, this, hx1]
    · obtain ⟨h1, c', h2, h3, h4, h5, h6, h7, h8⟩ := r.dom i v q hq
      by_cases hi : i = id
      · subst hi
        rw [hb] at h2; simp at h2; subst h2
        have hlim := ABlk.lim_grow b new v h3
        refine ⟨h1, b.grow new, AHeap.get_set_self _ _ _, by simp only [ABlk.grow]; omega, h4, h5, h6, h7, ⟨by rw [hsz]; exact h8.blk, h8.base, fun o' ho' => World.isSome_setCells _ _ _ _ _ (h8.cells o' ho'), fun h9 o' ho' => by rw [World.frozen?_setCells]; exact h8.free h9 o' ho', fun k e hk1 hk2 hk3 => ?_⟩⟩
        have hk3' : (b.elems ++ new)[k]? = some e := hk3
        rw [List.getElem?_append_left (by omega)] at hk3'
        obtain ⟨d1, d2, d3⟩ := h8.cont k e hk1 (by omega) hk3'
        refine ⟨d1, d2, fun j x' hx => ?_⟩
        obtain ⟨x, hx1, hx2⟩ := d3 j x' hx
        have hj : j < e.cells.length := (List.getElem?_eq_some_iff.1 hx).1
        refine ⟨x, ?_, hx2.1.mono hle, hx2.2⟩
        by_cases hbk : q.blk = p.blk
        · obtain ⟨s1, s2⟩ := r.same i v q b.ver p hq hp hbk
          rw [hkeep q k j hbk s1 s2 (by rw [h4, g4]) (by omega) hk1 (by omega)]; exact hx1
        · rw [World.cell?_setCells_out _ _ _ _ _ (fun hh _ => absurd hh (by simp only [Place.at]; exact hbk))]; exact hx1
      · have hne : p.blk ≠ q.blk := by
          intro e
          have := r.apart id b.ver p i v q hp hq e (fun e => hi e.symm)
          rw [g6, hro] at this; simp at this
        have hcell : ∀ a : Addr, a.block = q.blk → (w.setCells p.blk (p.off + (b.elems.length - p.lo) * p.es) vs).cell? a = w.cell? a := fun a ha => World.cell?_setCells_out _ _ _ _ _ (fun hh _ => absurd (hh.symm.trans ha) hne)
        refine ⟨h1, c', by rw [AHeap.get_set_ne _ _ (fun e => hi e.symm)]; exact h2, h3, h4, h5, h6, h7, ?_⟩
        refine ⟨by rw [hsz]; exact h8.blk, h8.base, fun o' ho' => by rw [hcell _ rfl]; exact h8.cells o' ho', fun h9 o' ho' => by rw [World.frozen?_setCells]; exact h8.free h9 o' ho', ?_⟩
        intro k e hk1 hk2 hk3
        obtain ⟨h10, h11, h12⟩ := h8.cont k e hk1 hk2 hk3
        refine ⟨h10, h11, fun j x' hx => ?_⟩
        obtain ⟨x, hx1, hx2⟩ := h12 j x' hx
        exact ⟨x, by rw [hcell _ rfl]; exact hx1, hx2.1.mono hle, hx2.2⟩
  · intro i v q j u q' hq hq' hbq hij
    simp only [Map.add] at hq hq'
    split at hq <;> split at hq'
    · rename_i e1 e2; exact absurd (e1.1.trans e2.1.symm) hij
    · rename_i e1 e2; simp at hq; subst hq; exact r.apart id b.ver p j u q' hp hq' hbq (by rw [← e1.1]; exact hij)
    · rename_i e1 e2; simp at hq'; subst hq'; exact r.apart i v q id b.ver p hq hp hbq (by rw [← e2.1]; exact hij)
    · exact r.apart i v q j u q' hq hq' hbq hij
  · intro i v q u q' hq hq' hbq
    simp only [Map.add] at hq hq'
    split at hq <;> split at hq'
    · simp at hq hq'; subst hq hq'; exact ⟨rfl, rfl⟩
    · rename_i e1 e2; simp at hq; subst hq; exact r.same id b.ver p u q' hp (by rw [← e1.1]; exact hq') hbq
    · rename_i e1 e2; simp at hq'; subst hq'; exact r.same id v q b.ver p (by rw [← e2.1]; exact hq) hp hbq
    · exact r.same i v q u q' hq hq' hbq

open Go.RowKit in
theorem below_setCells {B : Nat → Prop} {a : World} (b : Nat) (hb : ¬ B b) : ∀ (vs : List Value) (o : Nat) {w : World}, Safe B a w → Safe B a (w.setCells b o vs)
  | [], _, _, h => h
  | v :: r, o, w, h => below_setCells b hb r (o + 1) (h.setCell (p := ⟨b, o, none⟩) hb v)

end
end Go.Lift
