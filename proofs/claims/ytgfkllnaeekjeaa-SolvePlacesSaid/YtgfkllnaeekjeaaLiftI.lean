/-
  THE LIFT, PART I: append and copy.
-/
import Derived.Test.YtgfkllnaeekjeaaLiftH
import Derived.Deep.Upon
namespace Go.Lift
noncomputable section
open Go.RowKit
set_option linter.unusedVariables false
set_option linter.unusedSimpArgs false
section
variable {P : Program} {φ : Map}

theorem flat_nil : flat [] = [] := rfl

/-- the cells of elements that lie in a row -/
theorem HRel.readElems {N0 : Nat → Prop} {h : AHeap} {w : World} (r : HRel φ N0 h w) {id ver : Nat} {p : Place} (hp : φ id ver = some p) {b : ABlk} (hb : h.get id = some b) {idx len : Nat}
    (hlo : p.lo ≤ idx) (hl : idx + len ≤ b.lim ver) (hle : idx + len ≤ b.elems.length) :
    ∃ news, VRels φ (flat ((b.elems.drop idx).take len)) news ∧ w.rangeAt p.blk (p.off + (idx - p.lo) * p.es) news ∧ (∀ x ∈ news, x.oneCell' = true) ∧ (∀ e ∈ (b.elems.drop idx).take len, e.cells.length = p.es) ∧ news.length = len * p.es := by
  obtain ⟨h1, c, h2, h3, h4, h5, h6, h7, h8⟩ := r.dom _ _ _ hp
  rw [hb] at h2; simp at h2; subst h2
  have hget : ∀ (i : Nat) (e : AVal), ((b.elems.drop idx).take len)[i]? = some e → i < len ∧ b.elems[idx + i]? = some e := by
    intro i e he
    rw [List.getElem?_take] at he
    split at he
    · rw [List.getElem?_drop] at he; exact ⟨by assumption, he⟩
    · simp at he
  have hall : ∀ e ∈ (b.elems.drop idx).take len, e.cells.length = p.es := by
    intro e he
    obtain ⟨i, hi⟩ := List.getElem?_of_mem he
    obtain ⟨g1, g2⟩ := hget i e hi
    exact (h8.cont (idx + i) e (by omega) (by omega) g2).1
  obtain ⟨news, n1, n2, n3⟩ := range_of (φ := φ) (w := w) (b := p.blk) (o := p.off + (idx - p.lo) * p.es) (l := flat ((b.elems.drop idx).take len)) (fun k x' hk => by
    have hkl := (List.getElem?_eq_some_iff.1 hk).1
    obtain ⟨i, j, e, rfl, he, hj⟩ := flat_split hall k hkl
    obtain ⟨g1, g2⟩ := hget i e he
    have hej : e.cells.length = p.es := hall e (List.mem_of_getElem? he)
    obtain ⟨c1, c2, c3⟩ := h8.cont (idx + i) e (by omega) (by omega) g2
    have hcj : e.cells[j]? = some (e.cells[j]'(by omega)) := List.getElem?_eq_getElem _
    rw [flat_get hall he hcj] at hk
    simp at hk; subst hk
    obtain ⟨x, x1, x2⟩ := c3 j _ hcj
    refine ⟨x, ?_, x2⟩
    have e2 : (idx + i - p.lo) * p.es = (idx - p.lo) * p.es + i * p.es := by rw [← Nat.add_mul]; congr 1; omega
    rw [show p.off + (idx - p.lo) * p.es + (i * p.es + j) = p.off + (idx + i - p.lo) * p.es + j by omega]
    exact x1)
  exact ⟨news, n1, n2, n3, hall, by rw [n1.length, flat_length hall]; congr 1; simp; omega⟩

theorem lim_le {b : ABlk} {ver : Nat} (h : b.forkLen ≤ b.elems.length) : b.lim ver ≤ b.elems.length := by
  unfold ABlk.lim; repeat' split
  all_goals omega

theorem sim_elems {N0 : Nat → Prop} {h : AHeap} {w : World} (r : HRel φ N0 h w) {es : Nat} {x : AVal} {x' : Value} (hx : VRel φ x x') {l : List AVal} (he : elemsOf es x h = some l) (hes : 0 < es) {tx : TypeId}
    (hk : (∃ e', P.underlying tx = some (.slice e')) ∨ P.underlying tx = some .string) :
    ∃ news, Src P es tx x' l.length news w ∧ VRels φ (flat l) news ∧ (∀ e ∈ l, e.cells.length = es) := by
  unfold elemsOf at he
  split at he
  · rename_i c
    simp at he; subst he
    simp only [VRel] at hx
    obtain ⟨rfl, _, _⟩ := hx
    refine ⟨[], ⟨hk, fun _ => rfl, run_firstCells_none w es 0 0 0, run_firstCells_none w.drew es 0 0 0, by simp, by simp⟩, by simp [flat, VRels], by simp⟩
  · rename_i a len cap
    simp only [VRel] at hx
    obtain ⟨xa, cap', rfl, l1, l2, hf, p, hp, hes', hor, hex⟩ := hx
    have hempty : len = 0 → l = [] → ∃ news, Src P es tx (.slice (some xa) len cap') l.length news w ∧ VRels φ (flat l) news ∧ (∀ e ∈ l, e.cells.length = es) := by
      rintro rfl rfl
      exact ⟨[], ⟨hk, fun _ => rfl, run_firstCells_some w es 0 xa 0 cap' [] (by simp) (by simp), run_firstCells_some w.drew es 0 xa 0 cap' [] (by simp) (by simp), by simp, by simp⟩, by simp [flat, VRels], by simp⟩
    split at he
    · rename_i hae
      split at he
      · rename_i b hb
        split at he
        · rename_i h0
          simp at he; subst he
          exact hempty h0 rfl
        · rename_i h0
          split at he
          · rename_i hl
            simp at he; subst he
            rcases hor with hz | ⟨hlo, rfl, htot⟩
            · omega
            · obtain ⟨_, c, h2, _⟩ := r.dom _ _ _ hp
              have hle : a.idx + len ≤ b.elems.length := hl.2
              obtain ⟨news, n1, n2, n3, n4, n5⟩ := r.readElems hp hb hlo hl.1 hle
              have hlen : ((b.elems.drop a.idx).take len).length = len := by simp; omega
              have hpe : p.es = es := by omega
              refine ⟨news, ?_, n1, by rw [← hpe]; exact n4⟩
              rw [hlen]
              have hc : ∀ j v, news[j]? = some v → w.cell? ((p.at a.idx 0).add j) = some v := by
                intro j v hv
                rw [Place.at_add, Nat.zero_add]
                exact n2 j v hv
              exact ⟨hk, fun _ => rfl, run_firstCells_some w es len _ len cap' news (by rw [n5, hpe]) hc, run_firstCells_some w.drew es len _ len cap' news (by rw [n5, hpe]) (by simpa using hc), by rw [n5, hpe], n3⟩
          · cases he
      · split at he
        · rename_i h0
          simp at he; subst he
          exact hempty h0 rfl
        · cases he
    · cases he
  · rename_i s
    split at he
    · rename_i h1
      subst h1
      simp at he; subst he
      simp only [VRel] at hx
      obtain ⟨s', rfl, rfl⟩ := hx
      have hlen : (s'.data.toList.map fun b => AVal.int .u8 b.toNat).length = s'.size := by rw [List.length_map, Array.length_toList]; rfl
      refine ⟨byteCells s', ?_, ?_, ?_⟩
      · rw [hlen]
        exact ⟨hk, fun _ => rfl, firstCells_string s' w, firstCells_string s' w.drew, by rw [byteCells_length, Nat.mul_one], fun u hu => by
          obtain ⟨_, _, rfl⟩ := List.mem_map.1 hu
          rfl⟩
      · have : flat (s'.data.toList.map fun b => AVal.int .u8 b.toNat) = s'.data.toList.map fun b => AVal.int .u8 b.toNat := by
          generalize s'.data.toList = l
          induction l with
          | nil => rfl
          | cons a r ih => simp only [List.map_cons, flat, List.flatMap_cons, AVal.cells] at ih ⊢; rw [ih]; rfl
        rw [this]
        exact VRels.map _ _ _ fun b _ => by simp only [VRel]
      · intro e he
        obtain ⟨b, _, rfl⟩ := List.mem_map.1 he
        rfl
    · cases he
  · cases he

theorem growBy_le (n : Nat) : ∀ (r c : Nat), c ≤ n + n / 4 + 512 → Builtin.growBy n r c ≤ n + n / 4 + 512
  | 0, c, h => h
  | r + 1, c, h => by
    simp only [Builtin.growBy]
    split
    · exact h
    · exact growBy_le n r _ (by omega)

theorem nextslicecap_le {need cap : Nat} (h : cap < need) : Builtin.nextslicecap need cap ≤ need + need / 4 + 512 := by
  unfold Builtin.nextslicecap
  split
  · omega
  · split
    · omega
    · exact growBy_le _ _ _ (by omega)

theorem zeroCells_size (zs : Array Value) (n : Nat) : (Builtin.zeroCells zs n).size = n * zs.size := by
  simp [Builtin.zeroCells]

theorem Alike.drew' (w : World) : Alike w w.drew := Alike.drew w _

/-- a new row behind a growth -/
theorem growRow {vs : List Value} {zs : Array Value} {n c es : Nat} (hl : vs.length = n * es) (hz : zs.size = es) (hn : n ≤ c) :
    (vs.toArray ++ Builtin.zeroCells zs (c - n)).size = c * es ∧ (vs.toArray ++ Builtin.zeroCells zs (c - n)).toList.take (n * es) = vs := by
  constructor
  · simp only [Array.size_append, List.size_toArray, zeroCells_size, hl, hz]
    rw [← Nat.add_mul]; congr 1; omega
  · simp only [Array.toList_append]
    rw [List.take_left' (by simpa using hl)]

theorem flat_append (l m : List AVal) : flat (l ++ m) = flat l ++ flat m := by simp [flat]

theorem sim_append {D : Tys} (hD : D.Ok P) {N0 : Nat → Prop} {h h' : AHeap} {w0 w : World} (r : HRel φ N0 h w) (hb0 : Safe N0 w0 w) (hN : Low N0 w0.heap.size) {nid : Nat} (hid : ∀ v, φ nid v = none) (hn : nid < h.next)
    {t tx : TypeId} (ty : TypeId) {s x v : AVal} {s' x' : Value} (hs : VRel φ s s') (hx : VRel φ x x')
    (hk : (∃ e', P.underlying tx = some (.slice e')) ∨ P.underlying tx = some .string) (ho : aappend D t s x nid h = some (v, h')) :
    Outs P φ N0 w0 h nid v h' (Builtin.append_ #[t, tx] ty #[s', x']) w := by
  unfold aappend at ho
  split at ho
  · rename_i d base len cap hd
    obtain ⟨ti, u, hti, hu, hkd, _, -, -⟩ := hD.get hd
    split at ho
    · rename_i e hk'
      rw [hkd] at hk'
      have := tkOf_slice hk'; subst this
      split at ho
      · rename_i xd hxd
        obtain ⟨xi, xu, hxi, -, -, hxs, hxb, hxz⟩ := hD.get hxd
        split at ho
        · rename_i new hnew
          simp only at ho
          split at ho
          · rename_i hc
            obtain ⟨hc1, hc2, hc3, hc4⟩ := hc
            obtain ⟨news, src, hvr, hel⟩ := sim_elems (P := P) (tx := tx) r hx hnew hc1 hk
            rw [hxs] at src
            have hN' : Low N0 w.heap.size := hN.le hb0.size
            have hzc : ∃ z', xi.zero = some z' ∧ z'.cells.size = xi.size := by
              unfold TyD.zeroFits at hc4
              cases hzz : xd.zero with
              | none => simp [hzz] at hc4
              | some z =>
                rw [hzz] at hc4
                obtain ⟨z', hz1, hz2⟩ := zero_rel (P := P) (φ := φ) (t := e) hD hxz hzz
                obtain ⟨f1, f2, f3⟩ := fits_cells hc4
                have := (hz2.cells f2).length
                rw [Array.length_toList] at this
                exact ⟨z', hz1, by omega⟩
            obtain ⟨z', hz1, hzs⟩ := hzc
            have h62 : (2 : Nat) ^ 62 = 4611686018427387904 := by decide
            have h48 : (2 : Nat) ^ 48 = 281474976710656 := by decide
            -- the growth
            have grow : ∀ (base' : Option Addr) (cap' : Nat) (olds : List Value), (Builtin.firstCells xi.size len (.slice base' len cap')).run P w.drew = .ok olds.toArray w.drew → cap' < len + new.length →
                (Builtin.append_ #[t, tx] ty #[.slice base' len cap', x']).run P w =
                  .ok (.slice (some ⟨w.heap.size, 0, none⟩) (len + new.length) (grownCap w (len + new.length) cap' e))
                    (w.drew.alloc (.cells ((olds ++ news).toArray ++ Builtin.zeroCells z'.cells (grownCap w (len + new.length) cap' e - (len + new.length))) e)) := by
              intro base' cap' olds hold hlt
              refine run_append_grow_src w t tx ty e xi z' hu hxi hz1 base' len cap' olds hold x' new.length news src hlt (by omega) ?_
              have h1 := nextslicecap_le hlt
              have h2 := Nat.mul_le_mul_right xi.bytes h1
              rw [hxb] at hc2
              omega
            have hb0' : Safe N0 w0 w.drew := hb0.drew
            split at ho
            · -- nil
              simp only [VRel] at hs
              obtain ⟨rfl, rfl, rfl⟩ := hs
              split at ho
              · rename_i h0
                simp only [Option.some.injEq, Prod.mk.injEq] at ho
                obtain ⟨rfl, rfl⟩ := ho
                have hn0 : new = [] := List.length_eq_zero_iff.1 (by omega)
                subst hn0
                have hv0 : news = [] := by have := hvr.length; simp [flat] at this; exact this
                subst hv0
                refine ⟨.slice none 0 0, w, φ, ?_, Ext.refl _ _ _, by simp [VRel], r, hb0, rfl⟩
                exact run_append_nothing w t tx ty e xi hu hxi none 0 0 (Nat.le_refl _) x' src
              · rename_i h0
                split at ho
                · simp only [Option.some.injEq, Prod.mk.injEq] at ho
                  obtain ⟨rfl, rfl⟩ := ho
                  have hg := grow none 0 [] (run_firstCells_none _ _ _ _ _) (by omega)
                  have hge := grownCap_ge w (0 + new.length) 0 e
                  have hvl : news.length = new.length * xi.size := by rw [src.newsLen]
                  obtain ⟨g1, g2⟩ := growRow (vs := news) (zs := z'.cells) (n := 0 + new.length) (c := grownCap w (0 + new.length) 0 e) (es := xi.size) (by rw [hvl, Nat.zero_add]) hzs hge
                  refine ⟨_, _, φ.add nid 0 ⟨w.heap.size, 0, 0, xd.size, grownCap w (0 + new.length) 0 e, false, false⟩, hg, Ext.add φ _ (hid 0) _,
                    VRel.newSlice (ex := false) (Nat.le_refl _) hge (Nat.le_refl _) (by simp), ?_, hb0'.alloc (by simpa using hN') _, rfl⟩
                  refine (r.alike (Alike.drew' w)).made hid hn (by simpa using hN') hc1 hel ?_ ?_ (by omega) ?_
                  · simp only [List.nil_append]
                    rw [show new.length * xd.size = (0 + new.length) * xi.size by rw [hxs, Nat.zero_add], g2]; exact hvr
                  · simp only [List.nil_append]; rw [g1, hxs]; exact Nat.le_refl _
                  · simp only [List.nil_append]
                    rw [show new.length * xd.size = (0 + new.length) * xi.size by rw [hxs, Nat.zero_add], g2]; exact src.one
                · cases ho
            · rename_i a
              split at ho
              · rename_i hae
                split at ho
                · rename_i b hb
                  simp only [VRel] at hs
                  obtain ⟨xa, cap', rfl, l1, l2, hf, p, hp, hes', hor, hex⟩ := hs
                  obtain ⟨g1, b', g2, g3, g4, g5, g6, g7, g8⟩ := r.dom _ _ _ hp
                  rw [hb] at g2; simp at g2; subst g2
                  have hpe : p.es = xi.size := by omega
                  split at ho
                  · rename_i hfit
                    -- it fits
                    split at ho
                    · rename_i h0
                      subst h0
                      simp only [Option.some.injEq, Prod.mk.injEq] at ho
                      obtain ⟨rfl, rfl⟩ := ho
                      have hv0 : news = [] := by have := hvr.length; simp [flat] at this; exact this
                      subst hv0
                      refine ⟨.slice (some xa) len cap', w, φ, ?_, Ext.refl _ _ _, ?_, r, hb0, rfl⟩
                      · exact run_append_nothing w t tx ty e xi hu hxi (some xa) len cap' (by omega) x' src
                      · simp only [VRel, List.length_nil, Nat.add_zero]
                        exact ⟨xa, cap', rfl, l1, l2, hf, p, hp, hes', hor, hex⟩
                    · rename_i hne
                      split at ho
                      · rename_i hcc
                        obtain ⟨hro, hver, hlim⟩ := hcc
                        simp only [Option.some.injEq, Prod.mk.injEq] at ho
                        obtain ⟨rfl, rfl⟩ := ho
                        have hnl : 0 < new.length := List.length_pos_iff.2 hne
                        rcases hor with hz | ⟨hlo, rfl, htot⟩
                        · omega
                        · rw [hver] at hp
                          obtain ⟨k1, k2⟩ := r.putMany hp hb hro (idx := a.idx + len) (l := new) (by omega) (by omega) hne (by rw [hpe, ← hxs]; exact hel) hvr src.one
                          have hoff : p.off + (a.idx + len - p.lo) * p.es = p.off + (a.idx - p.lo) * p.es + 0 + len * xi.size := by
                            have : a.idx + len - p.lo = (a.idx - p.lo) + len := by omega
                            rw [this, Nat.add_mul, ← hpe]; omega
                          rw [hoff] at k1 k2
                          have hrun := run_append_room_src (P := P) w t tx ty e xi hu hxi p.blk (p.off + (a.idx - p.lo) * p.es + 0) len cap' x' new.length news src (by omega) (fun j hj => (k2 j hj).1) (fun j hj => (k2 j hj).2)
                          refine ⟨_, _, φ, hrun, Ext.refl _ _ _, ?_, k1, ?_, rfl⟩
                          · simp only [VRel]
                            exact ⟨_, cap', rfl, hfit, l2, hf, p, by rw [hver]; exact hp, hes', .inr ⟨hlo, rfl, htot⟩, hex⟩
                          · exact below_setCells _ (g8.base (by rw [g6, hro])) _ _ hb0
                      · cases ho
                  · rename_i hfit
                    split at ho
                    · rename_i hexact
                      -- an exact row: a new one is made
                      split at ho
                      · rename_i old hold
                        simp only [Option.some.injEq, Prod.mk.injEq] at ho
                        obtain ⟨rfl, rfl⟩ := ho
                        have hcap : cap' = cap := hex (by rw [g5, hexact])
                        have hs' : VRel φ (.slice (some a) len cap) (.slice (some xa) len cap') := by
                          simp only [VRel]; exact ⟨xa, cap', rfl, l1, l2, hf, p, hp, hes', hor, hex⟩
                        obtain ⟨olds, src2, hvr2, hel2⟩ := sim_elems (P := P) (tx := t) r hs' hold hc1 (.inl ⟨e, hu⟩)
                        have hol : old.length = len := by
                          have e1 := src2.len w
                          simp [Builtin.lenOf] at e1; exact e1.symm
                        rw [hol, hxs] at src2
                        have hg := grow (some xa) cap' olds src2.cellsD (by omega)
                        have hge := grownCap_ge w (len + new.length) cap' e
                        have hvl : (olds ++ news).length = (len + new.length) * xi.size := by rw [List.length_append, src.newsLen, src2.newsLen, Nat.add_mul]
                        obtain ⟨q1, q2⟩ := growRow (vs := olds ++ news) (zs := z'.cells) (n := len + new.length) (c := grownCap w (len + new.length) cap' e) (es := xi.size) hvl hzs hge
                        have hln : (old ++ new).length * xd.size = (len + new.length) * xi.size := by rw [List.length_append, hol, hxs]
                        refine ⟨_, _, φ.add nid 0 ⟨w.heap.size, 0, 0, xd.size, grownCap w (len + new.length) cap' e, false, false⟩, hg, Ext.add φ _ (hid 0) _,
                          VRel.newSlice (ex := false) (Nat.le_refl _) hge (Nat.le_refl _) (by simp), ?_, hb0'.alloc (by simpa using hN') _, rfl⟩
                        refine (r.alike (Alike.drew' w)).made hid hn (by simpa using hN') hc1 (fun e he => ?_) ?_ ?_ (by rw [List.length_append, hol]; exact hge) ?_
                        · rcases List.mem_append.1 he with he | he
                          · exact hel2 e he
                          · exact hel e he
                        · rw [hln, q2, flat_append]; exact hvr2.append hvr
                        · rw [q1, hxs]; exact Nat.le_refl _
                        · rw [hln, q2]
                          intro y hy
                          rcases List.mem_append.1 hy with hy | hy
                          · exact src2.one y hy
                          · exact src.one y hy
                      · cases ho
                    · rename_i hexact
                      split at ho
                      · rename_i hcc
                        obtain ⟨hro, hver, hend, hdr⟩ := hcc
                        simp only [Option.some.injEq, Prod.mk.injEq] at ho
                        obtain ⟨rfl, rfl⟩ := ho
                        have hexf : b.exact = false := by simpa using hexact
                        rw [hver] at hp
                        by_cases hroom : len + new.length ≤ cap'
                        · -- it grows where it lies
                          rcases hor with hz | ⟨hlo, rfl, htot⟩
                          · exfalso
                            have hn0 : new.length = 0 := by omega
                            omega
                          · obtain ⟨k1, k2⟩ := r.growHere hp hb hro (new := new) (by omega) (by omega) (by rw [hpe, ← hxs]; exact hel) hvr src.one
                            have hoff : p.off + (b.elems.length - p.lo) * p.es = p.off + (a.idx - p.lo) * p.es + 0 + len * xi.size := by
                              have : b.elems.length - p.lo = (a.idx - p.lo) + len := by omega
                              rw [this, Nat.add_mul, ← hpe]; omega
                            rw [hoff] at k1 k2
                            have hrun := run_append_room_src (P := P) w t tx ty e xi hu hxi p.blk (p.off + (a.idx - p.lo) * p.es + 0) len cap' x' new.length news src hroom (fun j hj => (k2 j hj).1) (fun j hj => (k2 j hj).2)
                            have hnone : φ a.id (b.ver + 1) = none := by
                              cases hq : φ a.id (b.ver + 1) with
                              | none => rfl
                              | some q => obtain ⟨_, b', h2, h3, _⟩ := r.dom _ _ _ hq; rw [hb] at h2; simp at h2; subst h2; omega
                            refine ⟨_, _, φ.add a.id (b.ver + 1) p, hrun, ⟨φ.le_add p hnone, fun i hi hne hnn u => ?_, φ.add_ro p (by rw [g6, hro])⟩, ?_, k1, ?_, rfl⟩
                            · have : i ≠ a.id := by rintro rfl; rw [hnn] at hp; cases hp
                              simp [Map.add, this, hnn u]
                            · simp only [VRel]
                              refine ⟨_, cap', rfl, Nat.le_refl _, hroom, hf, p, by rw [hver]; exact Map.add_self _ _ _ _, hes', .inr ⟨hlo, rfl, htot⟩, fun h => ?_⟩
                              rw [g5, hexf] at h; cases h
                            · exact below_setCells _ (g8.base (by rw [g6, hro])) _ _ hb0
                        · -- a new row
                          have hs' : VRel φ (.slice (some a) len cap) (.slice (some xa) len cap') := by
                            simp only [VRel]; exact ⟨xa, cap', rfl, l1, l2, hf, p, by rw [hver]; exact hp, hes', hor, hex⟩
                          have hold : elemsOf xd.size (.slice (some a) len cap) h = some ((b.elems.drop a.idx).take len) := by
                            simp only [elemsOf, hae, if_true, hb]
                            split
                            · rename_i h0; simp [h0]
                            · rw [if_pos]; rw [hver]; simp [ABlk.lim]; omega
                          obtain ⟨olds, src2, hvr2, hel2⟩ := sim_elems (P := P) (tx := t) r hs' hold hc1 (.inl ⟨e, hu⟩)
                          have hdt : (b.elems.drop a.idx).take len = b.elems.drop a.idx := List.take_of_length_le (by simp; omega)
                          rw [hdt] at hvr2 hel2 src2
                          have hol : (b.elems.drop a.idx).length = len := by simp; omega
                          rw [hol, hxs] at src2
                          have hg := grow (some xa) cap' olds src2.cellsD (by omega)
                          have hge := grownCap_ge w (len + new.length) cap' e
                          have hvl : (olds ++ news).length = (len + new.length) * xi.size := by rw [List.length_append, src.newsLen, src2.newsLen, Nat.add_mul]
                          obtain ⟨q1, q2⟩ := growRow (vs := olds ++ news) (zs := z'.cells) (n := len + new.length) (c := grownCap w (len + new.length) cap' e) (es := xi.size) hvl hzs hge
                          have hbe : b.es = xi.size := by omega
                          have hln : (b.elems.drop a.idx ++ new).length * b.es = (len + new.length) * xi.size := by rw [List.length_append, hol, hbe]
                          have hnone : φ a.id (b.ver + 1) = none := by
                            cases hq : φ a.id (b.ver + 1) with
                            | none => rfl
                            | some q => obtain ⟨_, b', h2, h3, _⟩ := r.dom _ _ _ hq; rw [hb] at h2; simp at h2; subst h2; omega
                          refine ⟨_, _, φ.add a.id (b.ver + 1) ⟨w.heap.size, 0, a.idx, b.es, grownCap w (len + new.length) cap' e, false, false⟩, hg, ⟨φ.le_add _ hnone, fun i hi hne hnn u => ?_, φ.add_ro _ rfl⟩, ?_, ?_, hb0'.alloc (by simpa using hN') _, rfl⟩
                          · have : i ≠ a.id := by rintro rfl; rw [hnn] at hp; cases hp
                            simp [Map.add, this, hnn u]
                          · simp only [VRel]
                            refine ⟨_, _, rfl, Nat.le_refl _, hge, hf, _, by rw [hver]; exact Map.add_self _ _ _ _, by rw [← g4, hes'], .inr ⟨Nat.le_refl _, by simp [Place.at], by simp⟩, by simp⟩
                          · refine (r.alike (Alike.drew' w)).growNew hp hb hro hexf (by simpa using hN') (by omega) (fun e he => by rw [hel2 e he]; omega) (fun e he => by rw [hel e he]; omega) ?_ (by rw [q1, hbe]; exact Nat.le_refl _) (by rw [List.length_append, hol]; exact hge) ?_
                            · rw [hln, q2, flat_append]; exact hvr2.append hvr
                            · rw [hln, q2]
                              intro y hy
                              rcases List.mem_append.1 hy with hy | hy
                              · exact src2.one y hy
                              · exact src.one y hy
                      · cases ho
                · cases ho
              · cases ho
          · cases ho
        · cases ho
      · cases ho
    · cases ho
  · cases ho

end
end
end Go.Lift
