/-
  THE LIFT, PART B: how the abstract machine's values and rows stand to the model's values and memory.
-/
import Derived.Test.YtgfkllnaeekjeaaLiftA
import Derived.Below
namespace Go.Lift
noncomputable section
set_option linter.unusedVariables false
set_option linter.unusedSimpArgs false

/-- where a version of a row lies -/
structure Place where
  blk : Nat
  off : Nat
  lo : Nat
  es : Nat
  tot : Nat
  exact : Bool
  ro : Bool

abbrev Map := Nat → Nat → Option Place

def Map.le (φ ψ : Map) : Prop := ∀ i v p, φ i v = some p → ψ i v = some p
theorem Map.le_refl (φ : Map) : φ.le φ := fun _ _ _ h => h
theorem Map.le_trans {φ ψ χ : Map} (h : φ.le ψ) (k : ψ.le χ) : φ.le χ := fun i v p e => k i v p (h i v p e)

def Place.at (p : Place) (idx fld : Nat) : Addr := ⟨p.blk, p.off + (idx - p.lo) * p.es + fld, none⟩

def AtAddr (φ : Map) (a : AAddr) (x : Addr) : Prop :=
  ∃ p, φ a.id a.ver = some p ∧ a.es = p.es ∧ p.lo ≤ a.idx ∧ x = p.at a.idx a.fld

def SliceAt (φ : Map) (a : AAddr) (x : Addr) (cap cap' : Nat) : Prop :=
  ∃ p, φ a.id a.ver = some p ∧ a.es = p.es ∧ (cap' = 0 ∨ (p.lo ≤ a.idx ∧ x = p.at a.idx 0 ∧ (a.idx - p.lo) + cap' ≤ p.tot)) ∧ (p.exact = true → cap' = cap)

mutual
def VRel (φ : Map) : AVal → Value → Prop
  | .undef, _ => True
  | .bool b, v => v = .bool b
  | .int k n, v => v = .int k n
  | .str s, v => ∃ t : ByteArray, v = .string t ∧ t.data.toList = s
  | .ptr none, v => v = .pointer none
  | .ptr (some a), v => ∃ x, v = .pointer (some x) ∧ AtAddr φ a x
  | .slice none len cap, v => v = .slice none 0 0 ∧ len = 0 ∧ cap = 0
  | .slice (some a) len cap, v => ∃ x cap', v = .slice (some x) len cap' ∧ len ≤ cap ∧ cap ≤ cap' ∧ a.fld = 0 ∧ SliceAt φ a x cap cap'
  | .func fn f c, v => ∃ f' c', v = .func fn f' c' ∧ VRels φ f f'.toList ∧ VRels φ c c'.toList
  | .nilFunc, v => v = .nilFunc
  | .iface t a, v => ∃ x, v = .iface t x ∧ VRel φ a x
  | .nilIface, v => v = .nilIface
  | .agg cs, v => ∃ xs, v = .agg xs ∧ VRels φ cs xs.toList
  | .tuple vs, v => ∃ xs, v = .tuple xs ∧ VRels φ vs xs.toList
def VRels (φ : Map) : List AVal → List Value → Prop
  | [], l => l = []
  | a :: r, l => ∃ v t, l = v :: t ∧ VRel φ a v ∧ VRels φ r t
end

theorem AtAddr.mono {φ ψ : Map} (h : φ.le ψ) {a : AAddr} {x : Addr} (k : AtAddr φ a x) : AtAddr ψ a x :=
  let ⟨p, e, r⟩ := k; ⟨p, h _ _ _ e, r⟩

theorem SliceAt.mono {φ ψ : Map} (h : φ.le ψ) {a : AAddr} {x : Addr} {c c' : Nat} (k : SliceAt φ a x c c') : SliceAt ψ a x c c' := by
  obtain ⟨p, e, r⟩ := k
  exact ⟨p, h _ _ _ e, r⟩

mutual
theorem VRel.mono {φ ψ : Map} (h : φ.le ψ) : ∀ {a : AVal} {v : Value}, VRel φ a v → VRel ψ a v
  | .undef, _, _ => by simp [VRel]
  | .bool b, v, k => by simpa [VRel] using k
  | .int _ n, v, k => by simpa [VRel] using k
  | .str s, v, k => by simpa [VRel] using k
  | .ptr none, v, k => by simpa [VRel] using k
  | .ptr (some a), v, k => by
    simp only [VRel] at k ⊢
    obtain ⟨x, e, r⟩ := k
    exact ⟨x, e, r.mono h⟩
  | .slice none len cap, v, k => by simpa [VRel] using k
  | .slice (some a) len cap, v, k => by
    simp only [VRel] at k ⊢
    obtain ⟨x, c, e, l1, l2, hf, r⟩ := k
    exact ⟨x, c, e, l1, l2, hf, r.mono h⟩
  | .func fn f c, v, k => by
    simp only [VRel] at k ⊢
    obtain ⟨f', c', e, r1, r2⟩ := k
    exact ⟨f', c', e, VRels.mono h r1, VRels.mono h r2⟩
  | .nilFunc, v, k => by simpa [VRel] using k
  | .iface t a, v, k => by
    simp only [VRel] at k ⊢
    obtain ⟨x, e, r⟩ := k
    exact ⟨x, e, VRel.mono h r⟩
  | .nilIface, v, k => by simpa [VRel] using k
  | .agg cs, v, k => by
    simp only [VRel] at k ⊢
    obtain ⟨x, e, r⟩ := k
    exact ⟨x, e, VRels.mono h r⟩
  | .tuple cs, v, k => by
    simp only [VRel] at k ⊢
    obtain ⟨x, e, r⟩ := k
    exact ⟨x, e, VRels.mono h r⟩
theorem VRels.mono {φ ψ : Map} (h : φ.le ψ) : ∀ {l : List AVal} {t : List Value}, VRels φ l t → VRels ψ l t
  | [], t, k => by simpa [VRels] using k
  | a :: r, t, k => by
    simp only [VRels] at k ⊢
    obtain ⟨v, t', e, k1, k2⟩ := k
    exact ⟨v, t', e, VRel.mono h k1, VRels.mono h k2⟩
end

/-! ## lists of values -/

theorem VRels.length {φ : Map} : ∀ {l : List AVal} {t : List Value}, VRels φ l t → t.length = l.length
  | [], t, k => by simp only [VRels] at k; simp [k]
  | a :: r, t, k => by
    simp only [VRels] at k
    obtain ⟨v, t', e, k1, k2⟩ := k
    simp [e, VRels.length k2]

theorem VRels.get {φ : Map} : ∀ {l : List AVal} {t : List Value} {i : Nat} {a : AVal}, VRels φ l t → l[i]? = some a → ∃ v, t[i]? = some v ∧ VRel φ a v
  | [], t, i, a, k, h => by simp at h
  | b :: r, t, i, a, k, h => by
    simp only [VRels] at k
    obtain ⟨v, t', e, k1, k2⟩ := k
    subst e
    cases i with
    | zero => simp at h; subst h; exact ⟨v, by simp, k1⟩
    | succ i => simp at h; obtain ⟨u, hu, ru⟩ := VRels.get k2 h; exact ⟨u, by simpa using hu, ru⟩

theorem VRels.of_get {φ : Map} : ∀ {l : List AVal} {t : List Value}, t.length = l.length → (∀ (i : Nat) (a : AVal) (v : Value), l[i]? = some a → t[i]? = some v → VRel φ a v) → VRels φ l t
  | [], t, hl, h => by simp at hl; simp [VRels, hl]
  | a :: r, [], hl, h => by simp at hl
  | a :: r, v :: t, hl, h => by
    simp only [VRels]
    refine ⟨v, t, rfl, h 0 a v (by simp) (by simp), VRels.of_get (by simpa using hl) fun i a' v' ha hv => h (i + 1) a' v' (by simpa using ha) (by simpa using hv)⟩

theorem VRels.append {φ : Map} {l m : List AVal} {t u : List Value} (h : VRels φ l t) (k : VRels φ m u) : VRels φ (l ++ m) (t ++ u) := by
  induction l generalizing t with
  | nil => simp only [VRels] at h; simpa [h] using k
  | cons a r ih =>
    simp only [VRels] at h
    obtain ⟨v, t', e, k1, k2⟩ := h
    simp only [List.cons_append, VRels]
    exact ⟨v, t' ++ u, by simp [e], k1, ih k2⟩

theorem VRels.set {φ : Map} {l : List AVal} {t : List Value} (h : VRels φ l t) (i : Nat) {a : AVal} {v : Value} (k : VRel φ a v) : VRels φ (l.set i a) (t.set i v) := by
  refine VRels.of_get (by simp [h.length]) fun j b u hb hu => ?_
  by_cases e : i = j
  · subst e
    have hi : i < l.length := by
      have := (List.getElem?_eq_some_iff.1 hb).1; simpa using this
    rw [List.getElem?_set_self (by simpa using hi)] at hb
    rw [List.getElem?_set_self (by rw [h.length]; exact hi)] at hu
    simp at hb hu; subst hb hu; exact k
  · rw [List.getElem?_set_ne e] at hb hu
    obtain ⟨x, hx, rx⟩ := h.get hb
    rw [hu] at hx; simp at hx; subst hx; exact rx

theorem VRels.drop {φ : Map} {l : List AVal} {t : List Value} (h : VRels φ l t) (n : Nat) : VRels φ (l.drop n) (t.drop n) := by
  refine VRels.of_get (by simp [h.length]) fun j b u hb hu => ?_
  rw [List.getElem?_drop] at hb hu
  obtain ⟨x, hx, rx⟩ := h.get hb
  rw [hu] at hx; simp at hx; subst hx; exact rx

theorem VRels.take {φ : Map} {l : List AVal} {t : List Value} (h : VRels φ l t) (n : Nat) : VRels φ (l.take n) (t.take n) := by
  refine VRels.of_get (by simp [h.length]) fun j b u hb hu => ?_
  rw [List.getElem?_take] at hb hu
  split at hb
  · rename_i hj
    rw [if_pos hj] at hu
    obtain ⟨x, hx, rx⟩ := h.get hb
    rw [hu] at hx; simp at hx; subst hx; exact rx
  · simp at hb

theorem VRels.map {φ : Map} {α : Type} (l : List α) (f : α → AVal) (g : α → Value) (h : ∀ x ∈ l, VRel φ (f x) (g x)) : VRels φ (l.map f) (l.map g) := by
  induction l with
  | nil => simp [VRels]
  | cons x r ih =>
    simp only [List.map_cons, VRels]
    exact ⟨_, _, rfl, h x (by simp), ih fun y hy => h y (by simp [hy])⟩

theorem VRels.getD {φ : Map} {l : List AVal} {t : List Value} (h : VRels φ l t) (i : Nat) : VRel φ (l.getD i .undef) (t.getD i undef) := by
  by_cases hi : i < l.length
  · obtain ⟨v, hv, rv⟩ := h.get (i := i) (a := l[i]) (List.getElem?_eq_getElem hi)
    rw [List.getD_eq_getElem?_getD, List.getD_eq_getElem?_getD, List.getElem?_eq_getElem hi, hv]
    simpa using rv
  · rw [List.getD_eq_getElem?_getD, List.getElem?_eq_none (by omega)]; simp [VRel]

theorem VRel.skipped (φ : Map) : VRel φ skipped undef := by
  simp only [VRel]; exact ⟨#[], rfl, by simp [VRels]⟩

theorem VRels.replicate {φ : Map} {a : AVal} {v : Value} (h : VRel φ a v) (n : Nat) : VRels φ (List.replicate n a) (List.replicate n v) := by
  induction n with
  | zero => simp [VRels]
  | succ n ih => simp only [List.replicate_succ, VRels]; exact ⟨_, _, rfl, h, ih⟩

/-! ## constants -/

theorem ofScalar_rel (φ : Map) (v : Value) : VRel φ (ofScalar v) v := by
  unfold ofScalar
  split <;> simp [VRel]

theorem ofConst_rel (φ : Map) (v : Value) : VRel φ (ofConst v) v := by
  unfold ofConst
  split
  · rename_i cs
    simp only [VRel]
    refine ⟨cs, rfl, ?_⟩
    have := VRels.map (φ := φ) cs.toList ofScalar id (fun x _ => ofScalar_rel φ x)
    simpa using this
  · simp only [VRel]; exact ⟨_, rfl, ofScalar_rel φ _⟩
  · exact ofScalar_rel φ v

/-! ## cells of a value -/

theorem VRel.cells {φ : Map} {a : AVal} {v : Value} (h : VRel φ a v) (hu : a ≠ .undef) : VRels φ a.cells v.cells.toList := by
  cases a with
  | undef => exact absurd rfl hu
  | agg cs => simp only [VRel] at h; obtain ⟨xs, rfl, r⟩ := h; simpa [AVal.cells, Value.cells] using r
  | bool b => have h' := h; simp only [VRel] at h; subst h; simp only [AVal.cells, Value.cells, VRels]; exact ⟨_, _, rfl, h', rfl⟩
  | int k n => have h' := h; simp only [VRel] at h; subst h; simp only [AVal.cells, Value.cells, VRels]; exact ⟨_, _, rfl, h', rfl⟩
  | str s => have h' := h; simp only [VRel] at h; obtain ⟨t, rfl, e⟩ := h; simp only [AVal.cells, Value.cells, VRels]; exact ⟨_, _, rfl, h', rfl⟩
  | ptr o =>
    have h' := h
    cases o with
    | none => simp only [VRel] at h; subst h; simp only [AVal.cells, Value.cells, VRels]; exact ⟨_, _, rfl, h', rfl⟩
    | some x => simp only [VRel] at h; obtain ⟨t, rfl, e⟩ := h; simp only [AVal.cells, Value.cells, VRels]; exact ⟨_, _, rfl, h', rfl⟩
  | slice o l c =>
    have h' := h
    cases o with
    | none => simp only [VRel] at h; obtain ⟨rfl, _⟩ := h; simp only [AVal.cells, Value.cells, VRels]; exact ⟨_, _, rfl, h', rfl⟩
    | some x => simp only [VRel] at h; obtain ⟨t, c', rfl, e⟩ := h; simp only [AVal.cells, Value.cells, VRels]; exact ⟨_, _, rfl, h', rfl⟩
  | func fn f c => have h' := h; simp only [VRel] at h; obtain ⟨t, c', rfl, e⟩ := h; simp only [AVal.cells, Value.cells, VRels]; exact ⟨_, _, rfl, h', rfl⟩
  | nilFunc => have h' := h; simp only [VRel] at h; subst h; simp only [AVal.cells, Value.cells, VRels]; exact ⟨_, _, rfl, h', rfl⟩
  | iface t x => have h' := h; simp only [VRel] at h; obtain ⟨t, rfl, e⟩ := h; simp only [AVal.cells, Value.cells, VRels]; exact ⟨_, _, rfl, h', rfl⟩
  | nilIface => have h' := h; simp only [VRel] at h; subst h; simp only [AVal.cells, Value.cells, VRels]; exact ⟨_, _, rfl, h', rfl⟩
  | tuple vs => have h' := h; simp only [VRel] at h; obtain ⟨t, rfl, e⟩ := h; simp only [AVal.cells, Value.cells, VRels]; exact ⟨_, _, rfl, h', rfl⟩

/-! ## rows -/

/-- what is written lies outside S -/
structure Safe (S : Nat → Prop) (w w' : World) : Prop where
  os : w'.os = w.os
  tape : w'.tape = w.tape
  output : w'.output = w.output
  size : w.heap.size ≤ w'.heap.size
  block : ∀ k, S k → w'.heap[k]? = w.heap[k]?

/-- S lies below n -/
def Low (S : Nat → Prop) (n : Nat) : Prop := ∀ k, S k → k < n

theorem Low.le {S : Nat → Prop} {n m : Nat} (h : Low S n) (k : n ≤ m) : Low S m := fun i hi => Nat.lt_of_lt_of_le (h i hi) k
theorem Low.no {S : Nat → Prop} {n : Nat} (h : Low S n) : ¬ S n := fun k => Nat.lt_irrefl _ (h n k)

theorem Safe.refl (S : Nat → Prop) (w : World) : Safe S w w := ⟨rfl, rfl, rfl, Nat.le_refl _, fun _ _ => rfl⟩
theorem Safe.trans {S : Nat → Prop} {a b c : World} (h : Safe S a b) (k : Safe S b c) : Safe S a c :=
  ⟨k.os.trans h.os, k.tape.trans h.tape, k.output.trans h.output, Nat.le_trans h.size k.size, fun i hi => (k.block i hi).trans (h.block i hi)⟩
theorem Safe.less {S T : Nat → Prop} {w w' : World} (h : Safe S w w') (k : ∀ i, T i → S i) : Safe T w w' := ⟨h.os, h.tape, h.output, h.size, fun i hi => h.block i (k i hi)⟩
theorem Safe.drew {S : Nat → Prop} {a w : World} (h : Safe S a w) : Safe S a w.drew := ⟨h.os, h.tape, h.output, h.size, h.block⟩
theorem Safe.alloc {S : Nat → Prop} {a w : World} (h : Safe S a w) (hS : Low S w.heap.size) (o : Obj) : Safe S a (w.alloc o) :=
  h.trans ⟨rfl, rfl, rfl, by simp, fun k hk => Go.RowKit.Below.heap_alloc _ _ _ (hS k hk)⟩
theorem Safe.setCell {S : Nat → Prop} {a w : World} (h : Safe S a w) {p : Addr} (hp : ¬ S p.block) (u : Value) : Safe S a (w.setCell p u) :=
  h.trans ⟨rfl, rfl, rfl, by simp [World.setCell], fun k hk => Go.RowKit.Below.heap_setCell _ _ _ _ (fun e => hp (e ▸ hk))⟩
theorem Safe.grown {S : Nat → Prop} {a w w' : World} {row : Option Nat} (h : Safe S a w) (hg : w.grownBy w' row) (hS : Low S w.heap.size) (hr : ∀ k, row = some k → ¬ S k) : Safe S a w' :=
  h.trans ⟨hg.os, hg.tape, hg.output, hg.size, fun k hk => hg.block k (hS k hk) (fun e => hr k e.symm hk)⟩
theorem Safe.below {n : Nat} {w w' : World} (h : Safe (fun k => k < n) w w') : Go.RowKit.Below n w w' := ⟨h.os, h.tape, h.output, h.size, h.block⟩

structure Row (φ : Map) (N0 : Nat → Prop) (b : ABlk) (v : Nat) (p : Place) (w : World) : Prop where
  blk : p.blk < w.heap.size
  base : p.ro = false → ¬ N0 p.blk
  cells : ∀ o, o < p.tot * p.es → (w.cell? ⟨p.blk, p.off + o, none⟩).isSome = true
  free : p.ro = false → ∀ o, o < p.tot * p.es → w.frozen? ⟨p.blk, p.off + o, none⟩ = false
  cont : ∀ i e, p.lo ≤ i → i < b.lim v → b.elems[i]? = some e →
    e.cells.length = p.es ∧ i - p.lo < p.tot ∧ ∀ j x', e.cells[j]? = some x' → ∃ x, w.cell? (p.at i j) = some x ∧ VRel φ x' x ∧ x.oneCell' = true

structure HRel (φ : Map) (N0 : Nat → Prop) (h : AHeap) (w : World) : Prop where
  dom : ∀ i v p, φ i v = some p → i < h.next ∧ ∃ b, h.get i = some b ∧ v ≤ b.ver ∧ p.es = b.es ∧ p.exact = b.exact ∧ p.ro = b.ro ∧ 0 < p.es ∧ Row φ N0 b v p w
  apart : ∀ i v p j u q, φ i v = some p → φ j u = some q → p.blk = q.blk → i ≠ j → p.ro = true ∧ q.ro = true
  same : ∀ i v p u q, φ i v = some p → φ i u = some q → p.blk = q.blk → p.off = q.off ∧ p.lo = q.lo

/-- ids that were not met stay so, below 'n', but for one -/
structure Ext (φ ψ : Map) (n nid : Nat) : Prop where
  le : φ.le ψ
  new : ∀ i, i < n → i ≠ nid → (∀ v, φ i v = none) → ∀ v, ψ i v = none
  ro : ∀ i v p, ψ i v = some p → p.ro = true → φ i v = some p

theorem Ext.refl (φ : Map) (n nid : Nat) : Ext φ φ n nid := ⟨φ.le_refl, fun _ _ _ h => h, fun _ _ _ h _ => h⟩

/-- nothing that was met is lost; ids below 'n' that were not met stay so; no row comes that must not be written -/
structure Keep (φ ψ : Map) (n : Nat) : Prop where
  le : φ.le ψ
  new : ∀ i, i < n → (∀ u, φ i u = none) → ∀ u, ψ i u = none
  ro : ∀ i v p, ψ i v = some p → p.ro = true → φ i v = some p

theorem Keep.refl (φ : Map) (n : Nat) : Keep φ φ n := ⟨φ.le_refl, fun _ _ h => h, fun _ _ _ h _ => h⟩
theorem Keep.trans {φ ψ χ : Map} {n : Nat} (h : Keep φ ψ n) (k : Keep ψ χ n) : Keep φ χ n := ⟨Map.le_trans h.le k.le, fun i hi hn => k.new i hi (h.new i hi hn), fun i v p hp hr => h.ro i v p (k.ro i v p hp hr) hr⟩
theorem Keep.mono {φ ψ : Map} {n m : Nat} (h : Keep φ ψ n) (hm : m ≤ n) : Keep φ ψ m := ⟨h.le, fun i hi hn => h.new i (by omega) hn, h.ro⟩

/-! ## the heap's look-ups -/

theorem AHeap.get_set (h : AHeap) (id : Nat) (b : ABlk) (j : Nat) : (h.set id b).get j = if id = j then some b else h.get j := Trie.get_set b h.blks id j
@[simp] theorem AHeap.next_set (h : AHeap) (id : Nat) (b : ABlk) : (h.set id b).next = h.next := rfl
theorem AHeap.get_set_self (h : AHeap) (id : Nat) (b : ABlk) : (h.set id b).get id = some b := by simp [AHeap.get_set]
theorem AHeap.get_set_ne (h : AHeap) {id j : Nat} (b : ABlk) (e : id ≠ j) : (h.set id b).get j = h.get j := by simp [AHeap.get_set, e]
@[simp] theorem AHeap.get_next (h : AHeap) (n j : Nat) : ({ h with next := n } : AHeap).get j = h.get j := rfl

theorem ABlk.lim_made (l : List AVal) (es : Nat) (e : Bool) (v : Nat) : (ABlk.made l es e).lim v = if v = 0 then l.length else 0 := by
  by_cases hv : v = 0
  · subst hv; simp [ABlk.lim, ABlk.made]
  · simp [ABlk.lim, ABlk.made, hv]

/-! ## the world turns, the heap does not -/

/-- what the relation reads of the world is as it was (rows may have come) -/
structure Alike (w w' : World) : Prop where
  size : w.heap.size ≤ w'.heap.size
  cell : ∀ a, a.block < w.heap.size → w'.cell? a = w.cell? a
  frozen : ∀ a, a.block < w.heap.size → w'.frozen? a = w.frozen? a

theorem Row.alike {φ : Map} {N0 : Nat → Prop} {b : ABlk} {v : Nat} {p : Place} {w w' : World} (r : Row φ N0 b v p w) (k : Alike w w') : Row φ N0 b v p w' where
  blk := Nat.lt_of_lt_of_le r.blk k.size
  base := r.base
  cells o ho := by rw [k.cell _ r.blk]; exact r.cells o ho
  free hr o ho := by rw [k.frozen _ r.blk]; exact r.free hr o ho
  cont i e h1 h2 h3 := by
    obtain ⟨h4, h5, h6⟩ := r.cont i e h1 h2 h3
    refine ⟨h4, h5, fun j x' hx => ?_⟩
    obtain ⟨x, hx1, hx2⟩ := h6 j x' hx
    exact ⟨x, by rw [k.cell _ (by exact r.blk)]; exact hx1, hx2⟩

theorem Row.mono {φ ψ : Map} (h : φ.le ψ) {N0 : Nat → Prop} {b : ABlk} {v : Nat} {p : Place} {w : World} (r : Row φ N0 b v p w) : Row ψ N0 b v p w :=
  ⟨r.blk, r.base, r.cells, r.free, fun i e h1 h2 h3 => by
      obtain ⟨h4, h5, h6⟩ := r.cont i e h1 h2 h3
      refine ⟨h4, h5, fun j x' hx => ?_⟩
      obtain ⟨x, hx1, hx2⟩ := h6 j x' hx
      exact ⟨x, hx1, hx2.1.mono h, hx2.2⟩⟩

theorem HRel.alike {φ : Map} {N0 : Nat → Prop} {h : AHeap} {w w' : World} (r : HRel φ N0 h w) (k : Alike w w') : HRel φ N0 h w' where
  dom i v p hp := by
    obtain ⟨h1, b, h2, h3, h4, h5, h6, h7, h8⟩ := r.dom i v p hp
    exact ⟨h1, b, h2, h3, h4, h5, h6, h7, h8.alike k⟩
  apart := r.apart
  same := r.same

theorem HRel.next {φ : Map} {N0 : Nat → Prop} {h : AHeap} {w : World} (r : HRel φ N0 h w) {n : Nat} (hn : h.next ≤ n) : HRel φ N0 { h with next := n } w where
  dom i v p hp := by
    obtain ⟨h1, b, h2, h3, h4, h5, h6, h7, h8⟩ := r.dom i v p hp
    exact ⟨Nat.lt_of_lt_of_le h1 hn, b, h2, h3, h4, h5, h6, h7, h8⟩
  apart := r.apart
  same := r.same

theorem Alike.drew (w : World) (n : Nat) : Alike w { w with drawn := n } := ⟨Nat.le_refl _, fun _ _ => rfl, fun _ _ => rfl⟩

theorem heap_alloc (w : World) (o : Obj) : (w.alloc o).heap = w.heap.push o := rfl
theorem size_alloc (w : World) (o : Obj) : (w.alloc o).heap.size = w.heap.size + 1 := by rw [heap_alloc]; simp

theorem Alike.alloc (w : World) (o : Obj) : Alike w (w.alloc o) where
  size := by rw [size_alloc]; omega
  cell a ha := by
    have : (w.heap.push o)[a.block]? = w.heap[a.block]? := by rw [Array.getElem?_push]; simp; omega
    simp only [World.cell?, heap_alloc, this]
  frozen a ha := by
    have : (w.heap.push o)[a.block]? = w.heap[a.block]? := by rw [Array.getElem?_push]; simp; omega
    simp only [World.frozen?, heap_alloc, this]

/-! ## a row that is made -/

def Map.add (φ : Map) (id : Nat) (v : Nat) (p : Place) : Map := fun i u => if i = id ∧ u = v then some p else φ i u

theorem Map.add_self (φ : Map) (id v : Nat) (p : Place) : φ.add id v p id v = some p := by simp [Map.add]

theorem Map.le_add (φ : Map) {id v : Nat} (p : Place) (h : φ id v = none) : φ.le (φ.add id v p) := by
  intro i u q hq
  simp only [Map.add]
  split
  · rename_i e; obtain ⟨rfl, rfl⟩ := e; rw [h] at hq; cases hq
  · exact hq

theorem Map.add_ro (φ : Map) {id v : Nat} (p : Place) (hr : p.ro = false) : ∀ i u q, (φ.add id v p) i u = some q → q.ro = true → φ i u = some q := by
  intro i u q hq hqr
  unfold Map.add at hq
  split at hq
  · simp only [Option.some.injEq] at hq; subst hq; rw [hr] at hqr; cases hqr
  · exact hq

theorem Ext.add (φ : Map) {id v : Nat} (p : Place) (h : φ id v = none) (n : Nat) (hr : p.ro = false := by rfl) : Ext φ (φ.add id v p) n id where
  le := φ.le_add p h
  new i hi hne hn u := by simp [Map.add, hne, hn u]
  ro := φ.add_ro p hr

/-- the cells of some elements, one behind the other -/
def flat (l : List AVal) : List AVal := l.flatMap AVal.cells

theorem flat_get {es : Nat} : ∀ {l : List AVal} (hl : ∀ e ∈ l, e.cells.length = es) {i j : Nat} {e x : AVal}, l[i]? = some e → e.cells[j]? = some x → (flat l)[i * es + j]? = some x
  | [], hl, i, j, e, x, h, k => by simp at h
  | a :: r, hl, i, j, e, x, h, k => by
    have ha : a.cells.length = es := hl a (by simp)
    cases i with
    | zero =>
      simp at h; subst h
      simp only [flat, List.flatMap_cons, Nat.zero_mul, Nat.zero_add]
      rw [List.getElem?_append_left (List.getElem?_eq_some_iff.1 k).1]; exact k
    | succ i =>
      simp at h
      have ih := flat_get (l := r) (fun e he => hl e (by simp [he])) h k
      simp only [flat, List.flatMap_cons] at ih ⊢
      rw [List.getElem?_append_right (by rw [ha, Nat.succ_mul]; omega), ha, show (i + 1) * es + j - es = i * es + j by rw [Nat.succ_mul]; omega]
      exact ih

theorem flat_length {es : Nat} : ∀ {l : List AVal} (hl : ∀ e ∈ l, e.cells.length = es), (flat l).length = l.length * es
  | [], _ => by simp [flat]
  | a :: r, hl => by
    have ha : a.cells.length = es := hl a (by simp)
    have ih := flat_length (l := r) (fun e he => hl e (by simp [he]))
    simp only [flat, List.flatMap_cons, List.length_append, List.length_cons] at ih ⊢
    rw [ih, ha, Nat.succ_mul]; omega

theorem cell?_alloc_last (w : World) (c : Array Value) (t : TypeId) (f : Nat × Nat) (o : Nat) : (w.alloc (.cells c t f)).cell? ⟨w.heap.size, o, none⟩ = c[o]? := by
  simp [World.cell?, heap_alloc]

theorem frozen?_alloc_last (w : World) (c : Array Value) (t : TypeId) (o : Nat) : (w.alloc (.cells c t)).frozen? ⟨w.heap.size, o, none⟩ = false := by
  simp [World.frozen?, heap_alloc]

/-- a new row: its first cells are those of 'l'; it may hold more, where it is not exact -/
theorem HRel.made {φ : Map} {N0 : Nat → Prop} {h : AHeap} {w : World} (r : HRel φ N0 h w) {nid : Nat} (hid : ∀ v, φ nid v = none) (hn : nid < h.next) (hN : Low N0 w.heap.size)
    {l : List AVal} {es : Nat} (hes : 0 < es) (hl : ∀ e ∈ l, e.cells.length = es) {c : Array Value} {t : TypeId} {tot : Nat} {ex : Bool}
    (hc : VRels φ (flat l) (c.toList.take (l.length * es))) (hsz : tot * es ≤ c.size) (htot : l.length ≤ tot) (hone : ∀ x ∈ c.toList.take (l.length * es), x.oneCell' = true) :
    HRel (φ.add nid 0 ⟨w.heap.size, 0, 0, es, tot, ex, false⟩) N0 (h.set nid (.made l es ex)) (w.alloc (.cells c t)) := by
  have hle := φ.le_add (id := nid) (v := 0) ⟨w.heap.size, 0, 0, es, tot, ex, false⟩ (hid 0)
  constructor
  · intro i v p hp
    simp only [Map.add] at hp
    split at hp
    · rename_i e; obtain ⟨rfl, rfl⟩ := e
      simp at hp; subst hp
      refine ⟨hn, .made l es ex, AHeap.get_set_self _ _ _, Nat.le_refl _, rfl, rfl, rfl, hes, ?_⟩
      constructor
      · rw [size_alloc]; simp
      · intro _; exact hN.no
      · intro o ho
        simp only at ho ⊢
        rw [cell?_alloc_last, Nat.zero_add, Array.getElem?_eq_getElem (by omega)]; rfl
      · intro _ o ho; exact frozen?_alloc_last _ _ _ _
      · intro i e _ hi he
        rw [ABlk.lim_made] at hi
        simp at hi
        have he' : l[i]? = some e := he
        have hm : e ∈ l := List.mem_of_getElem? he'
        refine ⟨hl e hm, by simp only; omega, fun j x' hx => ?_⟩
        have hf := flat_get hl he' hx
        obtain ⟨x, hx1, hx2⟩ := hc.get hf
        refine ⟨x, ?_, hx2.mono hle, hone x (List.mem_of_getElem? hx1)⟩
        simp only [Place.at, Nat.sub_zero, Nat.zero_add]
        rw [cell?_alloc_last]
        rw [List.getElem?_take] at hx1
        split at hx1
        · simpa using hx1
        · simp at hx1
    · obtain ⟨h1, b, h2, h3, h4, h5, h6, h7, h8⟩ := r.dom i v p hp
      have hne : nid ≠ i := by intro e; subst e; rw [hid v] at hp; cases hp
      exact ⟨h1, b, by rw [AHeap.get_set_ne _ _ hne]; exact h2, h3, h4, h5, h6, h7, (h8.alike (Alike.alloc _ _)).mono hle⟩
  · intro i v p j u q hp hq hb hij
    simp only [Map.add] at hp hq
    split at hp <;> split at hq
    · rename_i e1 e2; exact absurd (e1.1.trans e2.1.symm) hij
    · simp at hp; subst hp
      obtain ⟨_, b, _, _, _, _, _, _, h8⟩ := r.dom j u q hq
      have := h8.blk
      simp only at hb; omega
    · simp at hq; subst hq
      obtain ⟨_, b, _, _, _, _, _, _, h8⟩ := r.dom i v p hp
      have := h8.blk
      simp only at hb; omega
    · exact r.apart i v p j u q hp hq hb hij
  · intro i v p u q hp hq hb
    simp only [Map.add] at hp hq
    split at hp <;> split at hq
    · simp at hp hq; subst hp hq; exact ⟨rfl, rfl⟩
    · simp at hp; subst hp
      obtain ⟨_, b, _, _, _, _, _, _, h8⟩ := r.dom i u q hq
      have := h8.blk
      simp only at hb; omega
    · simp at hq; subst hq
      obtain ⟨_, b, _, _, _, _, _, _, h8⟩ := r.dom i v p hp
      have := h8.blk
      simp only at hb; omega
    · exact r.same i v p u q hp hq hb

end
end Go.Lift
