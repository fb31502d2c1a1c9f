/-
  THE LIFT, PART H: slices that are made; append; copy; len.
-/
import Derived.Test.YtgfkllnaeekjeaaLiftG
namespace Go.Lift
noncomputable section
open Go.RowKit
set_option linter.unusedVariables false
set_option linter.unusedSimpArgs false
section
variable {P : Program} {φ : Map}

/-- what an operation leaves that makes a value and may turn memory -/
def Outs (P : Program) (φ : Map) (N0 : Nat → Prop) (w0 : World) (h : AHeap) (nid : Nat) (v : AVal) (h' : AHeap) (s : Sem Value) (w : World) : Prop :=
  ∃ v' w' φ', s.run P w = .ok v' w' ∧ Ext φ φ' h.next nid ∧ VRel φ' v v' ∧ HRel φ' N0 h' w' ∧ Safe N0 w0 w' ∧ h'.next = h.next

theorem Outs.pure {N0 : Nat → Prop} {w0 : World} {h : AHeap} {nid : Nat} {v : AVal} {s : Sem Value} {w : World} (r : HRel φ N0 h w) (hb : Safe N0 w0 w) (k : ∃ v', s.run P w = .ok v' w ∧ VRel φ v v') : Outs P φ N0 w0 h nid v h s w :=
  let ⟨v', h1, h2⟩ := k; ⟨v', w, φ, h1, Ext.refl _ _ _, h2, r, hb, rfl⟩

theorem getBang (zs : Array Value) (i : Nat) (h : i < zs.size) : zs[i]! = zs[i] := by simp [getElem!_pos, h]

/-- 'n' times the zero, as cells -/
theorem zeros_rel {z : AVal} {z' : Value} {es : Nat} (hz : VRel φ z z') (hk : z ≠ .undef) (hlen : z.cells.length = es) (hes : 0 < es) (n : Nat) :
    VRels φ (flat (List.replicate n z)) ((Array.range (n * es)).map (fun i => z'.cells[i % z'.cells.size]!)).toList := by
  have hc := hz.cells hk
  have hsz : z'.cells.size = es := by have := hc.length; rw [Array.length_toList] at this; omega
  have hall : ∀ e ∈ List.replicate n z, e.cells.length = es := by intro e he; rw [List.eq_of_mem_replicate he]; exact hlen
  refine VRels.of_get (by rw [flat_length hall]; simp) fun i a v ha hv => ?_
  have hi : i < (flat (List.replicate n z)).length := (List.getElem?_eq_some_iff.1 ha).1
  obtain ⟨q, j, e, rfl, he, hj⟩ := flat_split hall i hi
  have hez : e = z := List.eq_of_mem_replicate (List.mem_of_getElem? he)
  subst hez
  have hcj : e.cells[j]? = some (e.cells[j]'(by omega)) := List.getElem?_eq_getElem _
  have hf := flat_get hall he hcj
  rw [hf] at ha
  simp at ha; subst ha
  have hmod : (q * es + j) % es = j := by rw [Nat.add_comm, Nat.add_mul_mod_self_right]; exact Nat.mod_eq_of_lt hj
  have hlt : q * es + j < n * es := by rw [flat_length hall] at hi; simpa using hi
  obtain ⟨u, hu, ru⟩ := hc.get hcj
  have huj : z'.cells[j]'(by omega) = u := by
    have := (List.getElem?_eq_some_iff.1 hu).2; simpa using this
  simp only [Array.toList_map, Array.toList_range, List.getElem?_map, List.getElem?_range hlt, Option.map_some, Option.some.injEq] at hv
  rw [hsz, hmod, getBang _ _ (by omega), huj] at hv
  subst hv; exact ru

theorem setParts_spec : ∀ {parts : List (Nat × AVal)} {l l' : List AVal}, setParts l parts = some l' → l'.length = l.length
  | [], l, l', h => by simp [setParts] at h; subst h; rfl
  | (i, v) :: r, l, l', h => by
    simp only [setParts] at h
    split at h
    · rw [setParts_spec h]; simp
    · cases h

theorem flat_set {es : Nat} : ∀ {l : List AVal} (hl : ∀ e ∈ l, e.cells.length = es) {i : Nat} {v : AVal}, i < l.length → v.cells.length = es → flat (l.set i v) = putAll (flat l) (i * es) v.cells := by
  intro l hl i v hi hv
  have hl' : ∀ e ∈ l.set i v, e.cells.length = es := by
    intro e he
    rcases List.mem_or_eq_of_mem_set he with h | h
    · exact hl e h
    · rw [h]; exact hv
  apply List.ext_getElem?
  intro k
  rw [putAll_get]
  by_cases hk : k < (flat (l.set i v)).length
  · obtain ⟨q, j, e, rfl, he, hj⟩ := flat_split hl' k hk
    have hej : e.cells.length = es := hl' e (List.mem_of_getElem? he)
    rw [flat_get hl' he (List.getElem?_eq_getElem (by omega : j < e.cells.length))]
    have hkl : q * es + j < (flat l).length := by rw [flat_length hl]; rw [flat_length hl', List.length_set] at hk; exact hk
    by_cases hqi : i = q
    · subst hqi
      rw [List.getElem?_set_self hi] at he
      simp at he; subst he
      rw [if_pos ⟨by omega, by rw [hv]; omega, hkl⟩, show i * es + j - i * es = j by omega, List.getElem?_eq_getElem (by omega)]
    · rw [List.getElem?_set_ne hqi] at he
      rw [if_neg]
      · rw [flat_get hl he (List.getElem?_eq_getElem (by omega : j < e.cells.length))]
      · intro hc
        rcases Nat.lt_or_ge q i with hlt | hge
        · have := row_lt (i := q) (k := i) (j := j) (es := es) hlt hj; omega
        · have := row_lt (i := i) (k := q) (j := es - 1) (es := es) (by omega) (by omega); omega
  · rw [List.getElem?_eq_none (by omega), if_neg (by rw [flat_length hl', List.length_set] at hk; rw [flat_length hl]; omega), List.getElem?_eq_none (by rw [flat_length hl]; rw [flat_length hl', List.length_set] at hk; omega)]

theorem sim_setParts {es : Nat} : ∀ {parts : List (Nat × AVal)} {parts' : List (Nat × Value)} {l l' : List AVal} {cells : Array Value},
    (parts.map (·.1) = parts'.map (·.1)) → VRels φ (parts.map (·.2)) (parts'.map (·.2)) → (∀ p ∈ parts, p.2 ≠ .undef ∧ p.2.cells.length = es) → (∀ e ∈ l, e.cells.length = es) → VRels φ (flat l) cells.toList → setParts l parts = some l' →
    ∃ cells', Instr.fill (fun i => some (i * es, es)) cells parts' = some cells' ∧ VRels φ (flat l') cells'.toList ∧ (∀ e ∈ l', e.cells.length = es)
  | [], [], l, l', cells, _, _, _, hl0, hl, h => by
    simp [setParts] at h; subst h
    exact ⟨cells, rfl, hl, hl0⟩
  | [], _ :: _, _, _, _, h, _, _, _, _, _ => by simp at h
  | _ :: _, [], _, _, _, h, _, _, _, _, _ => by simp at h
  | (i, v) :: rest, (i', v') :: rest', l, l', cells, h1, h2, h3, hl0, hl, h => by
    simp at h1
    obtain ⟨rfl, h1⟩ := h1
    simp only [List.map_cons, VRels] at h2
    obtain ⟨u, t, e, hv, h2⟩ := h2
    simp at e
    obtain ⟨rfl, rfl⟩ := e
    simp only [setParts] at h
    split at h
    · rename_i hi
      obtain ⟨hvu, hvl⟩ : v ≠ .undef ∧ v.cells.length = es := h3 (i, v) (by simp)
      have hcs := hv.cells hvu
      have hsz : v'.cells.size = es := by have := hcs.length; rw [Array.length_toList] at this; omega
      have hcl : cells.size = l.length * es := by have := hl.length; rw [Array.length_toList, flat_length hl0] at this; omega
      have hle : i * es + es ≤ l.length * es := by have := Nat.mul_le_mul_right es (show i + 1 ≤ l.length by omega); rw [Nat.succ_mul] at this; exact this
      have key := sim_setParts h1 h2 (fun p hp' => h3 p (by simp [hp'])) (l := l.set i v) (cells := v'.cells.zipIdx.foldl (fun cs (x : Value × Nat) => cs.setIfInBounds (i * es + x.2) x.1) cells)
        (by
          intro e he
          rcases List.mem_or_eq_of_mem_set he with h | h
          · exact hl0 e h
          · rw [h]; exact hvl)
        (by rw [fold_put', flat_set hl0 hi hvl]; exact hl.put hcs _) h
      obtain ⟨cells', k1, k2, k3⟩ := key
      refine ⟨cells', ?_, k2, k3⟩
      simp only [Instr.fill]
      split
      · rename_i hbad
        exfalso
        simp only [ne_eq, Bool.or_eq_true, decide_eq_true_eq] at hbad
        omega
      · exact k1
    · cases h

/-- the concrete cells of related, simple cells are single -/
theorem flat_simple {l : List AVal} {isA : Bool} {es : Nat} (h : ∀ e ∈ l, e.fits isA es = true) : ∀ c ∈ flat l, c.simple = true := by
  intro c hc
  obtain ⟨e, he, hce⟩ := List.mem_flatMap.1 hc
  exact (fits_cells (h e he)).2.2 c hce

theorem newRow_run (t : TypeId) (c : Array Value) (w : World) : (newRow t c).run P w = .ok ⟨w.heap.size, 0, none⟩ (w.alloc (.cells c t)) := rfl

theorem VRel.newSlice {φ : Map} {nid b es len cap tot : Nat} {ex : Bool} {cap' : Nat} (hlc : len ≤ cap) (hcc : cap ≤ cap') (ht : cap' ≤ tot) (hex : ex = true → cap' = cap) :
    VRel (φ.add nid 0 ⟨b, 0, 0, es, tot, ex, false⟩) (newSlice nid es len cap) (.slice (some ⟨b, 0, none⟩) len cap') := by
  simp only [Lift.newSlice, VRel]
  refine ⟨_, _, rfl, hlc, hcc, trivial, _, Map.add_self _ _ _ _, rfl, .inr ⟨Nat.le_refl _, ?_, by simpa using ht⟩, hex⟩
  simp [Place.at]

theorem sim_buildSlice {D : Tys} (hD : D.Ok P) {N0 : Nat → Prop} {h h' : AHeap} {w0 w : World} (r : HRel φ N0 h w) (hb0 : Safe N0 w0 w) (hN : Low N0 w0.heap.size) {nid : Nat} (hid : ∀ v, φ nid v = none) (hn : nid < h.next)
    {t : TypeId} {n : Nat} {parts : Array (Nat × Operand)} {ρ : Operand → AVal} {ρ' : Operand → Value} (hρ : ∀ x, VRel φ (ρ x) (ρ' x)) {v : AVal}
    (ho : abuildSlice D t n (parts.toList.map fun p => (p.1, ρ p.2)) nid h = some (v, h')) :
    Outs P φ N0 w0 h nid v h' (Instr.buildSlice t n (parts.map fun (i, x) => (i, ρ' x))) w := by
  unfold abuildSlice at ho
  split at ho
  · rename_i d hd
    obtain ⟨ti, u, hti, hu, hk, hs, -, -⟩ := hD.get hd
    split at ho
    · rename_i e hk'
      rw [hk] at hk'
      have := tkOf_slice hk'; subst this
      split at ho
      · rename_i xd hxd
        obtain ⟨xi, xu, hxi, -, -, hxs, -, hxz⟩ := hD.get hxd
        split at ho
        · rename_i z hz
          obtain ⟨z', hz1, hz2⟩ := zero_rel (P := P) (φ := φ) (t := e) hD hxz hz
          split at ho
          · rename_i hc
            obtain ⟨hc1, hc2, hc3, hc4⟩ := hc
            split at ho
            · rename_i l hl
              simp at ho
              obtain ⟨rfl, rfl⟩ := ho
              obtain ⟨f1, f2, f3⟩ := fits_cells hc3
              have hpos : 0 < xi.size := by omega
              have hrep : ∀ e ∈ List.replicate n z, e.fits xd.kind.isAgg xd.size = true := by intro e he; rw [List.eq_of_mem_replicate he]; exact hc3
              have hlf : ∀ e ∈ l, e.fits xd.kind.isAgg xd.size = true := by
                have key : ∀ (parts : List (Nat × AVal)) (m m' : List AVal), (∀ p ∈ parts, p.2.fits xd.kind.isAgg xd.size = true) → (∀ e ∈ m, e.fits xd.kind.isAgg xd.size = true) → setParts m parts = some m' → ∀ e ∈ m', e.fits xd.kind.isAgg xd.size = true := by
                  intro parts
                  induction parts with
                  | nil => intro m m' _ hm hs; simp [setParts] at hs; subst hs; exact hm
                  | cons p r ih =>
                    obtain ⟨i, v⟩ := p
                    intro m m' hp hm hs
                    simp only [setParts] at hs
                    split at hs
                    · refine ih (m.set i v) m' (fun p hp' => hp p (by simp [hp'])) ?_ hs
                      intro e he
                      rcases List.mem_or_eq_of_mem_set he with h | h
                      · exact hm e h
                      · rw [h]; exact hp (i, v) (by simp)
                    · cases hs
                exact key _ _ _ (fun p hp => List.all_eq_true.1 hc4 p hp) hrep hl
              obtain ⟨cells', k1, k2, k3⟩ := sim_setParts (φ := φ) (es := xi.size) (parts_fst parts ρ ρ') (parts_snd hρ parts)
                (fun p hp => by have := fits_cells (List.all_eq_true.1 hc4 p hp); exact ⟨this.2.1, by omega⟩)
                (by intro e he; rw [List.eq_of_mem_replicate he]; omega)
                (zeros_rel hz2 f2 (by omega : z.cells.length = xi.size) hpos n) hl
              have hll : l.length = n := by rw [setParts_spec hl]; simp
              have hN' : Low N0 w.heap.size := hN.le hb0.size
              have hfl : (flat l).length = n * xi.size := by rw [flat_length k3, hll]
              have hcl : cells'.size = n * xi.size := by have := k2.length; rw [Array.length_toList] at this; omega
              refine ⟨.slice (some ⟨w.heap.size, 0, none⟩) n n, w.alloc (.cells cells' e), φ.add nid 0 ⟨w.heap.size, 0, 0, xd.size, n, true, false⟩, ?_, Ext.add φ _ (hid 0) _, VRel.newSlice (Nat.le_refl _) (Nat.le_refl _) (Nat.le_refl _) (fun _ => rfl), ?_, hb0.alloc hN' _, rfl⟩
              · have hle : ¬ n * xi.size > 2 ^ 24 := by rw [← hxs]; omega
                simp only [Instr.buildSlice, Sem.run_bind, run_underlying hu, Result.andThen_ok, sizeOf_run hxi]
                rw [if_neg hle]
                by_cases hn0 : n * xi.size = 0
                · have hn0' : n = 0 := by rcases Nat.mul_eq_zero.1 hn0 with h | h <;> omega
                  subst hn0'
                  simp only [Nat.zero_mul, if_true, Sem.run_bind, Sem.run_pure, Result.andThen_ok] at k1 ⊢
                  have e0 : (Array.range 0).map (fun i => (#[] : Array Value)[i % (#[] : Array Value).size]!) = (Array.range 0).map (fun i => z'.cells[i % z'.cells.size]!) := by simp
                  rw [e0, k1]; rfl
                · rw [if_neg hn0]
                  simp only [Sem.run_bind, zero_run hxi hz1, Result.andThen_ok, Sem.run_pure, k1]
                  rfl
              · refine r.made hid hn hN' hc2 (by intro e he; rw [k3 e he, hxs]) ?_ (by rw [hcl, hxs]; exact Nat.le_refl _) (by omega) ?_
                · rw [List.take_of_length_le (by rw [Array.length_toList, hcl, hll, hxs]; exact Nat.le_refl _)]; exact k2
                · intro x hx; exact k2.one (flat_simple hlf) x (List.mem_of_mem_take hx)
            · cases ho
          · cases ho
        · cases ho
      · cases ho
    · cases ho
  · cases ho

theorem wrap_id {k : IntKind} {n : Int} (h : 0 ≤ n) (h2 : n < 2 ^ 62) (hk : k = .i64) : k.wrap n = n := by
  subst hk
  have e : (2 : Int) ^ 62 = 4611686018427387904 := by decide
  exact IntWalk.i64_in _ (by omega)

theorem sim_makeSlice {D : Tys} (hD : D.Ok P) {N0 : Nat → Prop} {h h' : AHeap} {w0 w : World} (r : HRel φ N0 h w) (hb0 : Safe N0 w0 w) (hN : Low N0 w0.heap.size) {nid : Nat} (hid : ∀ v, φ nid v = none) (hn : nid < h.next)
    {t : TypeId} {x y v : AVal} {x' y' : Value} (hx : VRel φ x x') (hy : VRel φ y y') (ho : amakeSlice D t x y nid h = some (v, h')) :
    Outs P φ N0 w0 h nid v h' (Instr.makeSlice t x' y') w := by
  unfold amakeSlice at ho
  split at ho
  · rename_i d k1 l k2 c hd
    simp only [VRel] at hx hy; subst hx hy
    obtain ⟨ti, u, hti, hu, hk, hs, -, -⟩ := hD.get hd
    split at ho
    · rename_i e hk'
      rw [hk] at hk'
      have := tkOf_slice hk'; subst this
      split at ho
      · rename_i xd hxd
        obtain ⟨xi, xu, hxi, -, -, hxs, hxb, hxz⟩ := hD.get hxd
        split at ho
        · rename_i z hz
          obtain ⟨z', hz1, hz2⟩ := zero_rel (P := P) (φ := φ) (t := e) hD hxz hz
          split at ho
          · rename_i hc
            obtain ⟨hc1, hc2, hc3, hc4, hc5, hc6⟩ := hc
            simp at ho
            obtain ⟨rfl, rfl⟩ := ho
            obtain ⟨f1, f2, f3⟩ := fits_cells hc6
            have hpos : 0 < xi.size := by omega
            have hN' : Low N0 w.heap.size := hN.le hb0.size
            have hwl : IntKind.i64.wrap l = l := wrap_id hc1 (by omega) rfl
            have hwc : IntKind.i64.wrap c = c := wrap_id (by omega) hc3 rfl
            have hzr := zeros_rel hz2 f2 (by omega : z.cells.length = xi.size) hpos c.toNat
            have hrep : ∀ e ∈ List.replicate c.toNat z, e.fits xd.kind.isAgg xd.size = true := by intro e he; rw [List.eq_of_mem_replicate he]; exact hc6
            have hall : ∀ e ∈ List.replicate c.toNat z, e.cells.length = xi.size := by intro e he; rw [List.eq_of_mem_replicate he]; omega
            refine ⟨.slice (some ⟨w.heap.size, 0, none⟩) l.toNat c.toNat, w.alloc (.cells ((Array.range (c.toNat * xi.size)).map (fun i => z'.cells[i % z'.cells.size]!)) e),
              φ.add nid 0 ⟨w.heap.size, 0, 0, xd.size, c.toNat, true, false⟩, ?_, Ext.add φ _ (hid 0) _, VRel.newSlice (by omega) (Nat.le_refl _) (Nat.le_refl _) (fun _ => rfl), ?_, hb0.alloc hN' _, rfl⟩
            · have hcc : ¬ c < 0 := by omega
              have hll : ¬ l < 0 := by omega
              have hgt : ¬ l > c := by omega
              have hbig : ¬ ((xi.bytes : Int) * c > 2 ^ 48) := by rw [← hxb]; omega
              simp only [Instr.makeSlice, Sem.run_bind, run_underlying hu, Result.andThen_ok, asInt, asIntOf, Sem.run_pure, typeInfo_run hxi, hwl, hwc]
              rw [if_neg (by simp only [Bool.or_eq_true, decide_eq_true_eq]; omega)]
              simp only [Sem.run_bind, Sem.run_pure, run_askRoom, Result.andThen_ok, sizeOf_run hxi]
              by_cases hn0 : c.toNat * xi.size = 0
              · have e0 : c.toNat * xi.size = 0 := hn0
                rw [if_pos hn0]
                have e1 : Array.range 0 = #[] := rfl
                simp only [Sem.run_bind, Sem.run_pure, Result.andThen_ok, e0, newRow_run, e1]
                simp
              · rw [if_neg hn0]
                simp only [Sem.run_bind, zero_run hxi hz1, Result.andThen_ok, Sem.run_pure, newRow_run]
            · refine r.made hid hn hN' hc5 (by intro e he; rw [hall e he, hxs]) ?_ (by rw [hxs]; simp) (by simp) ?_
              · rw [List.take_of_length_le (by simp [hxs])]; exact hzr
              · intro x hx; exact hzr.one (flat_simple hrep) x (List.mem_of_mem_take hx)
          · cases ho
        · cases ho
      · cases ho
    · cases ho
  · cases ho

theorem sim_len {D : Tys} (hD : D.Ok P) {t : TypeId} {x v : AVal} {xs : Array Value} {ts : Array TypeId} (ty : TypeId) (hx : VRels φ [x] xs.toList) (ht : ts[0]? = some t) (h : alen D t x = some v) (w : World) :
    ∃ v', (Builtin.len_ ts ty xs).run P w = .ok v' w ∧ VRel φ v v' := by
  simp only [VRels] at hx
  obtain ⟨x', l, e, hx, hl⟩ := hx
  have hx0 : xs[0]? = some x' := by rw [← Array.getElem?_toList, e]; rfl
  unfold alen at h
  split at h
  · rename_i d a n c hd
    obtain ⟨ti, u, hti, hu, hk, -⟩ := hD.get hd
    split at h
    · rename_i e hk'; rw [hk] at hk'; have := tkOf_slice hk'; subst this
      simp at h; subst h
      refine ⟨.int .i64 n, ?_, by simp only [VRel]⟩
      have : ∃ a' c', x' = .slice a' n c' := by
        cases a with
        | none => simp only [VRel] at hx; obtain ⟨rfl, rfl, rfl⟩ := hx; exact ⟨_, _, rfl⟩
        | some a => simp only [VRel] at hx; obtain ⟨_, _, rfl, _⟩ := hx; exact ⟨_, _, rfl⟩
      obtain ⟨a', c', rfl⟩ := this
      simp [Builtin.len_, ht, hx0, run_underlying hu, goInt]
    · cases h
  · rename_i d s hd
    obtain ⟨ti, u, hti, hu, hk, -⟩ := hD.get hd
    split at h
    · rename_i hk'; rw [hk] at hk'; have := tkOf_string hk'; subst this
      simp at h; subst h
      simp only [VRel] at hx
      obtain ⟨s', rfl, rfl⟩ := hx
      refine ⟨.int .i64 s'.size, ?_, by simp only [VRel]; rfl⟩
      simp [Builtin.len_, ht, hx0, run_underlying hu, goInt]
    · cases h
  · rename_i d hd _ _
    obtain ⟨ti, u, hti, hu, hk, -⟩ := hD.get hd
    split at h
    · rename_i n e hk'; rw [hk] at hk'; have := tkOf_array hk'; subst this
      simp at h; subst h
      refine ⟨.int .i64 n, ?_, by simp only [VRel]⟩
      simp [Builtin.len_, ht, hx0, run_underlying hu, goInt]
    · cases h
  · cases h

end
end
end Go.Lift
