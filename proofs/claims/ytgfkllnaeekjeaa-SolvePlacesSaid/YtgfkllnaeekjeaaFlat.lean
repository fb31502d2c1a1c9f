/-
  THE LIFT: arguments of flat types (numbers, bools, strings, structs and arrays of these; slices of such), as they came in.
-/
import Derived.Test.YtgfkllnaeekjeaaOpen
import Derived.Deep.Slices
namespace Go.Lift
noncomputable section
open Go.RowKit Go.ChangeShapes Go.WideShapes Go.ChangeAt
set_option linter.unusedVariables false
set_option linter.unusedSimpArgs false

/-- of which kind is cell c of a flat type? -/
def cellKind (P : Program) : Nat → TypeId → Nat → Option TK
  | 0, _, _ => none
  | d + 1, t, c =>
    match P.underlying t with
    | some (.int k) => if c = 0 then some (.int k) else none
    | some .bool => if c = 0 then some .bool else none
    | some .string => if c = 0 then some .string else none
    | some (.struct fs) => fs.toList.findSome? fun f => if f.offset ≤ c ∧ c < f.offset + P.cellsOf f.type then cellKind P d f.type (c - f.offset) else none
    | some (.array n e) => if c / P.cellsOf e < n then cellKind P d e (c % P.cellsOf e) else none
    | _ => none

/-- a cell of its kind -/
def CellIs : TK → Value → Prop
  | .int k, v => ∃ n, v = .int k n ∧ (Lit.int k n).wf = true
  | .bool, v => ∃ b, v = .bool b
  | .string, v => ∃ s : ByteArray, v = .string s ∧ s.size ≤ maxLen
  | _, _ => False

section
variable {H : Type} {enc : TypeId × Value → H} {P : Program} {w : World} {base : Nat} {spare : Nat → Bool} {held : Bool}

theorem cell_flat : ∀ (d : Nat) {t : TypeId} {c : Nat} {k : TK} {fuel : Nat} {cs : List Value} {x : DataW H × List MemPlace}, cellKind P d t c = some k → DataW.trod enc P w base spare held fuel t cs = some x → ∃ v, cs[c]? = some v ∧ CellIs k v := by
  intro d
  induction d with
  | zero => intro t c k fuel cs x h; cases h
  | succ d ih =>
    intro t c k fuel cs x h hx
    simp only [cellKind] at h
    split at h
    · rename_i kk hu
      split at h
      · rename_i hc; subst hc
        simp only [Option.some.injEq] at h; subst h
        obtain ⟨n, rfl, _, hw⟩ := DataW.trod_int hu hx
        exact ⟨_, rfl, n, rfl, hw⟩
      · cases h
    · rename_i hu
      split at h
      · rename_i hc; subst hc
        simp only [Option.some.injEq] at h; subst h
        obtain ⟨b, rfl, _⟩ := DataW.trod_bool hu hx
        exact ⟨_, rfl, b, rfl⟩
      · cases h
    · rename_i hu
      split at h
      · rename_i hc; subst hc
        simp only [Option.some.injEq] at h; subst h
        obtain ⟨s, rfl, _, hs⟩ := DataW.trod_string hu hx
        exact ⟨_, rfl, s, rfl, hs⟩
      · cases h
    · rename_i fs hu
      obtain ⟨f, hf, hk⟩ := List.exists_of_findSome?_eq_some h
      split at hk
      · rename_i hc
        obtain ⟨xs, n, _, _, hl, hxl, hfs⟩ := DataW.trod_struct hu hx
        obtain ⟨j, hj, hfj⟩ := List.mem_iff_getElem.1 hf
        have hj' : fs[j]? = some f := by rw [← Array.getElem?_toList, List.getElem?_eq_getElem hj, hfj]
        have h1 := hfs j f hj'
        rw [List.getElem?_eq_getElem (by rw [hxl]; simpa using hj)] at h1
        obtain ⟨v, hv, his⟩ := ih hk h1
        rw [List.getElem?_take] at hv
        split at hv
        · rw [List.getElem?_drop, show f.offset + (c - f.offset) = c by omega] at hv
          exact ⟨v, hv, his⟩
        · cases hv
      · cases hk
    · rename_i n e hu
      split at h
      · rename_i hc
        obtain ⟨xs, m, _, _, hl, hxl, hes⟩ := DataW.trod_array hu hx
        have h1 := hes _ hc
        rw [List.getElem?_eq_getElem (by omega)] at h1
        obtain ⟨v, hv, his⟩ := ih h h1
        rw [List.getElem?_take] at hv
        split at hv
        · rw [List.getElem?_drop, Nat.mul_comm, Nat.div_add_mod] at hv
          exact ⟨v, hv, his⟩
        · cases hv
      · cases h
    · cases h

theorem CellIs.bare {k : TK} {v : Value} (h : CellIs k v) : Bare (ofScalar v) ∧ (ofScalar v).simple = true ∧ v.oneCell' = true := by
  cases k with
  | int k => obtain ⟨n, rfl, _⟩ := h; exact ⟨Bare.int _ _, rfl, by first | trivial | rfl⟩
  | bool => obtain ⟨b, rfl⟩ := h; exact ⟨Bare.bool _, rfl, by first | trivial | rfl⟩
  | string => obtain ⟨s, rfl, _⟩ := h; exact ⟨Bare.str _, rfl, by first | trivial | rfl⟩
  | _ => exact h.elim

/-- an element made of its cells -/
def elemA (isA : Bool) (cs : List AVal) : AVal := if isA then .agg cs else cs.headD .undef

theorem elemA_cells {isA : Bool} {cs : List AVal} (h : isA = false → ∃ a, cs = [a] ∧ a.simple = true) : (elemA isA cs).cells = cs := by
  unfold elemA
  cases isA with
  | true => rfl
  | false =>
    obtain ⟨a, rfl, ha⟩ := h rfl
    cases a <;> simp [AVal.cells] <;> cases ha

theorem Bare.agg {l : List AVal} (h : ∀ a ∈ l, Bare a) : Bare (.agg l) := by
  refine ⟨fun r => ?_, ?_⟩
  · simp only [AVal.ren, AVal.rens_map]
    have : l.map (AVal.ren r) = l := by
      conv => rhs; rw [← List.map_id l]
      exact List.map_congr_left fun e he => (h e he).1 r
    rw [this]
  · simp only [Clo]; exact Clos_iff.2 fun a ha => (h a ha).2

/-- a slice of flat elements, as it came in: the cells of its elements, as they lie in the world -/
def cellAt (w : World) (x : Addr) (j : Nat) : Value := (w.cell? (x.add j)).getD undef
def elemAt (w : World) (x : Addr) (isA : Bool) (sz i : Nat) : AVal := elemA isA ((List.range sz).map fun j => ofScalar (cellAt w x (i * sz + j)))

theorem open_flat_arg {isA : Bool} {t e : TypeId} {d sz : Nat} {ks : List TK} (hw : 0 < w.heap.size) (ht : P.underlying t = some (.slice e)) (hc : P.cellsOf e = sz) (hsz : Nat.blt 0 sz = true) (hA : isA = false → sz = 1)
    (hks : (List.range sz).map (cellKind P d e) = ks.map some) {a : Option Addr} {len cap : Nat} {dd : DataW H} {ps : List MemPlace} (h : DataW.Trod enc P w 0 (fun _ => true) true t (.slice a len cap) dd ps) (id : Nat) :
    ∃ (o : Option AAddr) (c : Nat) (b : ABlk) (p : Place) (x : Addr), SlArg o len c id 0 0 sz ∧ ArgRow w b p ∧ len ≤ maxLen ∧ (∀ φ : Map, φ id 0 = some p → VRel φ (.slice o len c) (.slice a len cap)) ∧
      (∀ i, i < len → b.elem? 0 (0 + i) = some (elemAt w x isA sz i)) ∧ (∀ i j, i < len → j < sz → ∃ k, ks[j]? = some k ∧ CellIs k (cellAt w x (i * sz + j))) := by
  have hsz : 0 < sz := Nat.blt_eq.mp hsz
  have hkk : ∀ j, j < sz → ∃ k, ks[j]? = some k ∧ cellKind P d e j = some k := by
    intro j hj
    have h1 := congrArg (fun (l : List (Option TK)) => l[j]?) hks
    simp only [List.getElem?_map, List.getElem?_range hj, Option.map_some] at h1
    cases hk : ks[j]? with
    | none => rw [hk] at h1; cases h1
    | some k => rw [hk] at h1; simp at h1; exact ⟨k, rfl, h1⟩
  obtain ⟨fuel, hf⟩ := h
  have hf' : DataW.trod enc P w 0 (fun _ => true) true fuel t [.slice a len cap] = some (dd, ps) := hf
  rcases DataW.trod_slice ht hf' with ⟨hcs, _⟩ | ⟨x, l, c, elems, rest, n, _, hcs, _, _, hl, hm, hlen, hel, hsp, _⟩
  · simp at hcs
    obtain ⟨rfl, rfl, rfl⟩ := hcs
    exact ⟨none, 0, noBlk sz, noPlace sz, ⟨0, 0, none⟩, .inr ⟨rfl, rfl, rfl⟩, noRow hw hsz, by simp, fun φ _ => by simp [VRel], fun i hi => by omega, fun i j hi => by omega⟩
  · simp at hcs
    obtain ⟨rfl, rfl, rfl⟩ := hcs
    obtain ⟨hrl, hr⟩ := hsp rfl
    -- each element's cells
    have each : ∀ i, i < cap → ∃ cs y, w.cells? 0 (x.add (i * sz)) sz = some cs ∧ DataW.trod enc P w 0 (fun _ => true) true n e cs = some y := by
      intro i hi
      have hb : ∃ y, (w.cells? 0 (x.add (i * P.cellsOf e)) (P.cellsOf e)).bind (DataW.trod enc P w 0 (fun _ => true) true n e) = some y := by
        by_cases c1 : i < len
        · exact ⟨_, (hel i c1).trans (List.getElem?_eq_getElem (by omega))⟩
        · have := hr (i - len) (by omega)
          rw [show len + (i - len) = i by omega] at this
          exact ⟨_, this.trans (List.getElem?_eq_getElem (by omega))⟩
      obtain ⟨y, hy⟩ := hb
      rw [hc, Option.bind_eq_some_iff] at hy
      obtain ⟨cs, h1, h2⟩ := hy
      exact ⟨cs, y, h1, h2⟩
    have cell : ∀ i j, i < cap → j < sz → ∃ v k, w.cell? (x.add (i * sz + j)) = some v ∧ ks[j]? = some k ∧ CellIs k v := by
      intro i j hi hj
      obtain ⟨cs, y, h1, h2⟩ := each i hi
      obtain ⟨k, hk, hkd⟩ := hkk j hj
      obtain ⟨v, hv, his⟩ := cell_flat d hkd h2
      refine ⟨v, k, ?_, hk, his⟩
      rw [← Go.Deep.add_add, (World.cells?_some h1).2.2 j hj, hv]
    have hcellAt : ∀ i j, i < cap → j < sz → w.cell? (x.add (i * sz + j)) = some (cellAt w x (i * sz + j)) ∧ ∃ k, ks[j]? = some k ∧ CellIs k (cellAt w x (i * sz + j)) := by
      intro i j hi hj
      obtain ⟨v, k, h1, h2, h3⟩ := cell i j hi hj
      have : cellAt w x (i * sz + j) = v := by simp [cellAt, h1]
      rw [this]; exact ⟨h1, k, h2, h3⟩
    by_cases hcap : cap = 0
    · subst hcap
      obtain rfl : len = 0 := by omega
      refine ⟨some ⟨id, 0, 0, 0, sz⟩, 0, noBlk sz, noPlace sz, x, .inl rfl, noRow hw hsz, by simp, fun φ hφ => ?_, fun j hj => by omega, fun i j hi => by omega⟩
      simp only [VRel]
      exact ⟨x, 0, rfl, Nat.le_refl _, Nat.le_refl _, by first | trivial | rfl, _, hφ, rfl, .inl rfl, fun _ => rfl⟩
    have hspot : x.spot = none := by
      have := (hcellAt 0 0 (by omega) hsz).1
      simpa [Addr.add] using World.cell?_spot this
    have hadd : ∀ i, x.add i = ⟨x.block, x.off + i, none⟩ := by
      intro i
      obtain ⟨bl, of, sp⟩ := x
      simp only at hspot
      subst hspot
      unfold Addr.add
      split
      · rename_i h0; subst h0; rfl
      · rfl
    have hcells : ∀ i, i < cap → (elemAt w x isA sz i).cells = (List.range sz).map fun j => ofScalar (cellAt w x (i * sz + j)) := by
      intro i hi
      refine elemA_cells fun hA' => ?_
      have h1 := hA hA'
      subst h1
      refine ⟨_, rfl, ?_⟩
      obtain ⟨_, k, _, his⟩ := hcellAt i 0 hi (by omega)
      exact his.bare.2.1
    have hblk : x.block < w.heap.size := by
      have := (hcellAt 0 0 (by omega) hsz).1
      rw [hadd] at this
      unfold World.cell? at this
      split at this
      · rename_i hb; exact (Array.getElem?_eq_some_iff.1 hb).1
      · cases this
    refine ⟨some ⟨id, 0, 0, 0, sz⟩, cap, { elems := (List.range cap).map (elemAt w x isA sz), es := sz, exact := true, ro := true, ver := 0, minVer := 0, forkLen := 0 }, { blk := x.block, off := x.off, lo := 0, es := sz, tot := cap, exact := true, ro := true }, x, .inl rfl, ?_, by omega, ?_, ?_, fun i j hi hj => (hcellAt i j (by omega) hj).2⟩
    · refine ⟨rfl, rfl, rfl, rfl, hsz, rfl, fun φ S => ⟨hblk, (fun h => by cases h), ?_, (fun h => by cases h), ?_⟩, ?_⟩
      · intro o ho
        simp only at ho
        have h1 : o / sz < cap := Nat.div_lt_of_lt_mul (by rw [Nat.mul_comm]; exact ho)
        have := (hcellAt (o / sz) (o % sz) h1 (Nat.mod_lt _ hsz)).1
        rw [show o / sz * sz + o % sz = o by rw [Nat.mul_comm]; exact Nat.div_add_mod o sz, hadd] at this
        simp only [this]; rfl
      · intro i e0 _ _ he
        simp only [List.getElem?_map, Option.map_eq_some_iff] at he
        obtain ⟨i', hi', rfl⟩ := he
        have hi := (List.getElem?_eq_some_iff.1 hi').1
        simp only [List.length_range] at hi
        rw [List.getElem?_range hi] at hi'
        simp only [Option.some.injEq] at hi'; subst hi'
        refine ⟨by rw [hcells i hi]; simp, by simp only; omega, fun j x' hx => ?_⟩
        rw [hcells i hi, List.getElem?_map, Option.map_eq_some_iff] at hx
        obtain ⟨j', hj', rfl⟩ := hx
        have hj := (List.getElem?_eq_some_iff.1 hj').1
        simp only [List.length_range] at hj
        rw [List.getElem?_range hj] at hj'
        simp only [Option.some.injEq] at hj'; subst hj'
        obtain ⟨h1, k, _, his⟩ := hcellAt i j hi hj
        refine ⟨_, ?_, ofScalar_rel φ _, his.bare.2.2⟩
        rw [hadd] at h1
        simp only [Place.at, Nat.sub_zero, Nat.add_assoc]
        exact h1
      · intro e0 he
        obtain ⟨i, hi, rfl⟩ := List.mem_map.1 he
        have hi := List.mem_range.1 hi
        unfold elemAt elemA
        have hall : ∀ a ∈ (List.range sz).map (fun j => ofScalar (cellAt w x (i * sz + j))), Bare a := by
          intro a ha
          obtain ⟨j, hj, rfl⟩ := List.mem_map.1 ha
          obtain ⟨_, k, _, his⟩ := hcellAt i j hi (List.mem_range.1 hj)
          exact his.bare.1
        cases isA with
        | true => exact Bare.agg hall
        | false =>
          have h1 := hA rfl
          subst h1
          exact hall _ (by simp)
    · intro φ hφ
      simp only [VRel]
      refine ⟨x, cap, rfl, hl, Nat.le_refl _, by first | trivial | rfl, _, hφ, rfl, ?_, fun _ => rfl⟩
      refine .inr ⟨Nat.le_refl _, ?_, by simp⟩
      have := hadd 0
      simp only [Addr.add, if_true] at this
      simpa [Place.at] using this
    · intro i hi
      have hi' : i < cap := by omega
      simp [ABlk.elem?, ABlk.lim, hi']

theorem weight_len {t e : TypeId} (ht : P.underlying t = some (.slice e)) {a : Option Addr} {len cap : Nat} {dd : DataW H} {ps : List MemPlace} (h : DataW.Trod enc P w base spare held t (.slice a len cap) dd ps)
    (hw : ∀ y ∈ dd.weights P t, y ≤ reachBytes) : len * P.bytesOf e ≤ reachBytes := by
  obtain ⟨fuel, hf⟩ := h
  have hf' : DataW.trod enc P w base spare held fuel t [.slice a len cap] = some (dd, ps) := hf
  rcases DataW.trod_slice ht hf' with ⟨hcs, _⟩ | ⟨x, l, c, elems, rest, n, _, hcs, hx, _, hl, hm, hlen, _⟩
  · simp at hcs
    obtain ⟨_, rfl, _⟩ := hcs
    simp
  · simp at hcs
    obtain ⟨_, rfl, _⟩ := hcs
    simp only [Prod.mk.injEq] at hx
    obtain ⟨rfl, _⟩ := hx
    have := hw ((elems.length + rest.length) * P.bytesOf e) (by simp [DataW.weights, ht])
    rw [hlen] at this
    exact Nat.le_trans (Nat.mul_le_mul_right _ (by omega)) this

theorem weights_cons {t : TypeId} {ts : List TypeId} {d : DataW H} {ds : List (DataW H)} {R : Nat} (h : ∀ y ∈ DataW.weightsEach P (t :: ts) (d :: ds), y ≤ R) : (∀ y ∈ d.weights P t, y ≤ R) ∧ ∀ y ∈ DataW.weightsEach P ts ds, y ≤ R :=
  ⟨fun y hy => h y (by simp [DataW.weightsEach, hy]), fun y hy => h y (by simp [DataW.weightsEach, hy])⟩

/-- the number in a cell -/
def numA : AVal → Int
  | .int _ n => n
  | _ => 0

theorem CellIs.int {k : IntKind} {v : Value} (h : CellIs (.int k) v) : ofScalar v = .int k (numA (ofScalar v)) ∧ (Lit.int k (numA (ofScalar v))).wf = true := by
  obtain ⟨n, rfl, hw⟩ := h; exact ⟨rfl, hw⟩

theorem ints_of {x : Addr} {len : Nat} {b : ABlk} (hx : ∀ i, i < len → b.elem? 0 (0 + i) = some (elemAt w x false 1 i)) (he : ∀ i j, i < len → j < 1 → ∃ k, ([.int .i64] : List TK)[j]? = some k ∧ CellIs k (cellAt w x (i * 1 + j))) :
    ∀ j, j < len → b.elem? 0 (0 + j) = some (.int .i64 (numA (elemAt w x false 1 j))) := by
  intro j hj
  obtain ⟨k, h1, h2⟩ := he j 0 hj (by omega)
  simp at h1
  subst h1
  rw [hx j hj]
  have e : elemAt w x false 1 j = ofScalar (cellAt w x (j * 1 + 0)) := rfl
  rw [e, ← h2.int.1]

/-- a struct or an array that came in by value -/
theorem open_flat_val {t : TypeId} {d sz : Nat} {ks : List TK} (hc : P.cellsOf t = sz) (hks : (List.range sz).map (cellKind P d t) = ks.map some) {cs : Array Value} (hsz : cs.size = P.cellsOf t) {dd : DataW H} {ps : List MemPlace}
    (h : DataW.Trod enc P w base spare held t (.agg cs) dd ps) : (∀ φ : Map, VRel φ (.agg (cs.toList.map ofScalar)) (.agg cs)) ∧ (∀ j, j < sz → ∃ v k, cs.toList[j]? = some v ∧ ks[j]? = some k ∧ CellIs k v) := by
  refine ⟨fun φ => ?_, fun j hj => ?_⟩
  · simp only [VRel]
    refine ⟨cs, rfl, ?_⟩
    have := VRels.map (φ := φ) cs.toList ofScalar id (fun x _ => ofScalar_rel φ x)
    simpa using this
  · obtain ⟨fuel, hf⟩ := h
    have hf' : DataW.trod enc P w base spare held fuel t cs.toList = some (dd, ps) := hf
    have h1 := congrArg (fun (l : List (Option TK)) => l[j]?) hks
    simp only [List.getElem?_map, List.getElem?_range hj, Option.map_some] at h1
    cases hk : ks[j]? with
    | none => rw [hk] at h1; cases h1
    | some k =>
      rw [hk] at h1; simp at h1
      obtain ⟨v, hv, his⟩ := cell_flat d h1 hf'
      exact ⟨v, k, hv, rfl, his⟩
end
end
end Go.Lift
