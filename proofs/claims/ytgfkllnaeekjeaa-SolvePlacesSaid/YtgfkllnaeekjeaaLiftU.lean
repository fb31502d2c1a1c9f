/-
  THE LIFT, PART U: one call, told of a small memory, holds in every memory that holds the small one (with other numbers for the rows).
-/
import Derived.Test.YtgfkllnaeekjeaaLiftP
namespace Go.Lift
noncomputable section
open Go.RowKit
set_option linter.unusedVariables false
set_option linter.unusedSimpArgs false

/-! ## other numbers for the rows -/

def AAddr.ren (r : Nat → Nat) (a : AAddr) : AAddr := { a with id := r a.id }

mutual
def AVal.ren (r : Nat → Nat) : AVal → AVal
  | .ptr (some a) => .ptr (some (a.ren r))
  | .slice (some a) n c => .slice (some (a.ren r)) n c
  | .func fn f c => .func fn (AVal.rens r f) (AVal.rens r c)
  | .iface t v => .iface t (AVal.ren r v)
  | .agg cs => .agg (AVal.rens r cs)
  | .tuple vs => .tuple (AVal.rens r vs)
  | .undef => .undef
  | .bool b => .bool b
  | .int k n => .int k n
  | .str s => .str s
  | .ptr none => .ptr none
  | .slice none n c => .slice none n c
  | .nilFunc => .nilFunc
  | .nilIface => .nilIface
def AVal.rens (r : Nat → Nat) : List AVal → List AVal
  | [] => []
  | a :: l => AVal.ren r a :: AVal.rens r l
end

theorem AVal.rens_map (r : Nat → Nat) : ∀ (l : List AVal), AVal.rens r l = l.map (AVal.ren r)
  | [] => rfl
  | a :: l => by simp [AVal.rens, AVal.rens_map r l]

/-! which rows a value names -/
mutual
def Clo (D : Nat → Prop) : AVal → Prop
  | .ptr (some a) => D a.id
  | .slice (some a) _ _ => D a.id
  | .func _ f c => Clos D f ∧ Clos D c
  | .iface _ v => Clo D v
  | .agg cs => Clos D cs
  | .tuple vs => Clos D vs
  | .undef => True
  | .bool _ => True
  | .int _ _ => True
  | .str _ => True
  | .ptr none => True
  | .slice none _ _ => True
  | .nilFunc => True
  | .nilIface => True
def Clos (D : Nat → Prop) : List AVal → Prop
  | [] => True
  | a :: l => Clo D a ∧ Clos D l
end

theorem Clos_iff {D : Nat → Prop} : ∀ {l : List AVal}, Clos D l ↔ ∀ a ∈ l, Clo D a
  | [] => by simp [Clos]
  | a :: l => by simp [Clos, Clos_iff (l := l)]

mutual
theorem VRel.ren {φ ψ : Map} {r : Nat → Nat} (h : ∀ i v p, φ i v = some p → ψ (r i) v = some p) : ∀ {a : AVal} {v : Value}, VRel φ a v → VRel ψ (a.ren r) v
  | .undef, _, _ => by simp [VRel, AVal.ren]
  | .bool b, v, k => by simpa [VRel, AVal.ren] using k
  | .int _ n, v, k => by simpa [VRel, AVal.ren] using k
  | .str s, v, k => by simpa [VRel, AVal.ren] using k
  | .ptr none, v, k => by simpa [VRel, AVal.ren] using k
  | .ptr (some a), v, k => by
    simp only [VRel, AVal.ren] at k ⊢
    obtain ⟨x, e, p, hp, q⟩ := k
    exact ⟨x, e, p, h _ _ _ hp, q⟩
  | .slice none len cap, v, k => by simpa [VRel, AVal.ren] using k
  | .slice (some a) len cap, v, k => by
    simp only [VRel, AVal.ren] at k ⊢
    obtain ⟨x, c, e, l1, l2, hf, p, hp, q⟩ := k
    exact ⟨x, c, e, l1, l2, hf, p, h _ _ _ hp, q⟩
  | .func fn f c, v, k => by
    simp only [VRel, AVal.ren] at k ⊢
    obtain ⟨f', c', e, r1, r2⟩ := k
    exact ⟨f', c', e, VRels.ren h r1, VRels.ren h r2⟩
  | .nilFunc, v, k => by simpa [VRel, AVal.ren] using k
  | .iface t a, v, k => by
    simp only [VRel, AVal.ren] at k ⊢
    obtain ⟨x, e, q⟩ := k
    exact ⟨x, e, VRel.ren h q⟩
  | .nilIface, v, k => by simpa [VRel, AVal.ren] using k
  | .agg cs, v, k => by
    simp only [VRel, AVal.ren] at k ⊢
    obtain ⟨x, e, q⟩ := k
    exact ⟨x, e, VRels.ren h q⟩
  | .tuple cs, v, k => by
    simp only [VRel, AVal.ren] at k ⊢
    obtain ⟨x, e, q⟩ := k
    exact ⟨x, e, VRels.ren h q⟩
theorem VRels.ren {φ ψ : Map} {r : Nat → Nat} (h : ∀ i v p, φ i v = some p → ψ (r i) v = some p) : ∀ {l : List AVal} {t : List Value}, VRels φ l t → VRels ψ (AVal.rens r l) t
  | [], t, k => by simpa [VRels, AVal.rens] using k
  | a :: l, t, k => by
    simp only [VRels, AVal.rens] at k ⊢
    obtain ⟨v, t', e, k1, k2⟩ := k
    exact ⟨v, t', e, VRel.ren h k1, VRels.ren h k2⟩
end

mutual
theorem VRel.unren {φ ψ : Map} {r : Nat → Nat} {D : Nat → Prop} (h : ∀ i, D i → ∀ v p, ψ (r i) v = some p → φ i v = some p) : ∀ {a : AVal} {v : Value}, Clo D a → VRel ψ (a.ren r) v → VRel φ a v
  | .undef, _, _, _ => by simp [VRel]
  | .bool b, v, _, k => by simpa [VRel, AVal.ren] using k
  | .int _ n, v, _, k => by simpa [VRel, AVal.ren] using k
  | .str s, v, _, k => by simpa [VRel, AVal.ren] using k
  | .ptr none, v, _, k => by simpa [VRel, AVal.ren] using k
  | .ptr (some a), v, c, k => by
    simp only [VRel, AVal.ren, Clo] at k c ⊢
    obtain ⟨x, e, p, hp, q⟩ := k
    exact ⟨x, e, p, h _ c _ _ hp, q⟩
  | .slice none len cap, v, _, k => by simpa [VRel, AVal.ren] using k
  | .slice (some a) len cap, v, cl, k => by
    simp only [VRel, AVal.ren, Clo] at k cl ⊢
    obtain ⟨x, c, e, l1, l2, hf, p, hp, q⟩ := k
    exact ⟨x, c, e, l1, l2, hf, p, h _ cl _ _ hp, q⟩
  | .func fn f c, v, cl, k => by
    simp only [VRel, AVal.ren, Clo] at k cl ⊢
    obtain ⟨f', c', e, r1, r2⟩ := k
    exact ⟨f', c', e, VRels.unren h cl.1 r1, VRels.unren h cl.2 r2⟩
  | .nilFunc, v, _, k => by simpa [VRel, AVal.ren] using k
  | .iface t a, v, cl, k => by
    simp only [VRel, AVal.ren, Clo] at k cl ⊢
    obtain ⟨x, e, q⟩ := k
    exact ⟨x, e, VRel.unren h cl q⟩
  | .nilIface, v, _, k => by simpa [VRel, AVal.ren] using k
  | .agg cs, v, cl, k => by
    simp only [VRel, AVal.ren, Clo] at k cl ⊢
    obtain ⟨x, e, q⟩ := k
    exact ⟨x, e, VRels.unren h cl q⟩
  | .tuple cs, v, cl, k => by
    simp only [VRel, AVal.ren, Clo] at k cl ⊢
    obtain ⟨x, e, q⟩ := k
    exact ⟨x, e, VRels.unren h cl q⟩
theorem VRels.unren {φ ψ : Map} {r : Nat → Nat} {D : Nat → Prop} (h : ∀ i, D i → ∀ v p, ψ (r i) v = some p → φ i v = some p) : ∀ {l : List AVal} {t : List Value}, Clos D l → VRels ψ (AVal.rens r l) t → VRels φ l t
  | [], t, _, k => by simpa [VRels, AVal.rens] using k
  | a :: l, t, c, k => by
    simp only [VRels, AVal.rens, Clos] at k c ⊢
    obtain ⟨v, t', e, k1, k2⟩ := k
    exact ⟨v, t', e, VRel.unren h c.1 k1, VRels.unren h c.2 k2⟩
end

def ABlk.ren (r : Nat → Nat) (b : ABlk) : ABlk := { b with elems := b.elems.map (AVal.ren r) }

theorem ABlk.lim_ren (r : Nat → Nat) (b : ABlk) (v : Nat) : (b.ren r).lim v = b.lim v := by
  show (if v = b.ver then (b.elems.map (AVal.ren r)).length else if b.minVer ≤ v ∧ v < b.ver then b.forkLen else 0) = b.lim v
  rw [List.length_map]; rfl

theorem AVal.cells_ren (r : Nat → Nat) (e : AVal) : (e.ren r).cells = e.cells.map (AVal.ren r) := by
  cases e with
  | ptr o => cases o <;> simp [AVal.ren, AVal.cells]
  | slice o n c => cases o <;> simp [AVal.ren, AVal.cells]
  | agg l => simp [AVal.ren, AVal.cells, AVal.rens_map]
  | _ => simp [AVal.ren, AVal.cells]

theorem Row.ren {φ ψ : Map} {r : Nat → Nat} (h : ∀ i v p, φ i v = some p → ψ (r i) v = some p) {S T : Nat → Prop} {b : ABlk} {v : Nat} {p : Place} {w : World} (k : Row φ S b v p w) (hT : p.ro = false → ¬ T p.blk) : Row ψ T (b.ren r) v p w where
  blk := k.blk
  base := hT
  cells := k.cells
  free := k.free
  cont i e h1 h2 h3 := by
    rw [ABlk.lim_ren] at h2
    simp only [ABlk.ren, List.getElem?_map, Option.map_eq_some_iff] at h3
    obtain ⟨e0, h3, rfl⟩ := h3
    obtain ⟨k1, k2, k3⟩ := k.cont i e0 h1 h2 h3
    refine ⟨by rw [AVal.cells_ren, List.length_map]; exact k1, k2, fun j x' hx => ?_⟩
    rw [AVal.cells_ren, List.getElem?_map, Option.map_eq_some_iff] at hx
    obtain ⟨x0, hx, rfl⟩ := hx
    obtain ⟨x, g1, g2, g3⟩ := k3 j x0 hx
    exact ⟨x, g1, VRel.ren h g2, g3⟩

theorem Clo.cells {D : Nat → Prop} {e : AVal} (h : Clo D e) : ∀ x ∈ e.cells, Clo D x := by
  intro x hx
  cases e with
  | agg l => simp only [Clo] at h; exact Clos_iff.1 h x (by simpa [AVal.cells] using hx)
  | ptr o => cases o <;> (simp only [AVal.cells, List.mem_singleton] at hx; subst hx; exact h)
  | slice o n c => cases o <;> (simp only [AVal.cells, List.mem_singleton] at hx; subst hx; exact h)
  | _ => simp only [AVal.cells, List.mem_singleton] at hx; subst hx; exact h

theorem Row.unren {φ ψ : Map} {r : Nat → Nat} {D : Nat → Prop} (h : ∀ i, D i → ∀ v p, ψ (r i) v = some p → φ i v = some p) {S T : Nat → Prop} {b : ABlk} {v : Nat} {p : Place} {w : World} (hc : ∀ e ∈ b.elems, Clo D e) (k : Row ψ S (b.ren r) v p w)
    (hT : p.ro = false → ¬ T p.blk) : Row φ T b v p w where
  blk := k.blk
  base := hT
  cells := k.cells
  free := k.free
  cont i e h1 h2 h3 := by
    have h3' : (b.ren r).elems[i]? = some (e.ren r) := by simp [ABlk.ren, h3]
    obtain ⟨k1, k2, k3⟩ := k.cont i (e.ren r) h1 (by rw [ABlk.lim_ren]; exact h2) h3'
    rw [AVal.cells_ren, List.length_map] at k1
    refine ⟨k1, k2, fun j x' hx => ?_⟩
    obtain ⟨x, g1, g2, g3⟩ := k3 j (x'.ren r) (by rw [AVal.cells_ren, List.getElem?_map, hx]; rfl)
    exact ⟨x, g1, VRel.unren h ((hc e (List.mem_of_getElem? h3)).cells x' (List.mem_of_getElem? hx)) g2, g3⟩

theorem Row.at {φ ψ : Map} (h : φ.le ψ) {S : Nat → Prop} {b : ABlk} {v : Nat} {p : Place} {w w' : World} (k : Row φ S b v p w) (hs : w.heap.size ≤ w'.heap.size) (hb : w'.heap[p.blk]? = w.heap[p.blk]?) : Row ψ S b v p w' where
  blk := Nat.lt_of_lt_of_le k.blk hs
  base := k.base
  cells o ho := by
    have := k.cells o ho
    simp only [World.cell?, hb] at this ⊢; exact this
  free hr o ho := by
    have := k.free hr o ho
    simp only [World.frozen?, hb] at this ⊢; exact this
  cont i e h1 h2 h3 := by
    obtain ⟨k1, k2, k3⟩ := k.cont i e h1 h2 h3
    refine ⟨k1, k2, fun j x' hx => ?_⟩
    obtain ⟨x, g1, g2, g3⟩ := k3 j x' hx
    refine ⟨x, ?_, VRel.mono h g2, g3⟩
    simp only [World.cell?, Place.at, hb] at g1 ⊢; exact g1

/-! ## a small memory within a great one -/

def In (h : AHeap) (i : Nat) : Prop := (h.get i).isSome = true

structure Within (r : Nat → Nat) (h H : AHeap) : Prop where
  get : ∀ i b, h.get i = some b → i < h.next ∧ H.get (r i) = some (b.ren r)
  inj : ∀ i j, In h i → In h j → r i = r j → i = j
  clo : ∀ i b, h.get i = some b → ∀ e ∈ b.elems, Clo (In h) e

open Classical in
def pull (ψ : Map) (r : Nat → Nat) (h : AHeap) : Map := fun i v => if In h i then ψ (r i) v else none

theorem pull_some {ψ : Map} {r : Nat → Nat} {h : AHeap} {i v : Nat} {p : Place} (k : pull ψ r h i v = some p) : In h i ∧ ψ (r i) v = some p := by
  unfold pull at k
  split at k
  · rename_i hi; exact ⟨hi, k⟩
  · cases k
theorem pull_of {ψ : Map} {r : Nat → Nat} {h : AHeap} {i v : Nat} (hi : In h i) : pull ψ r h i v = ψ (r i) v := by unfold pull; rw [if_pos hi]

theorem HRel.pull {ψ : Map} {S T : Nat → Prop} {H h : AHeap} {w : World} {r : Nat → Nat} (k : HRel ψ S H w) (hw : Within r h H) (hT : ∀ i v p, pull ψ r h i v = some p → p.ro = false → ¬ T p.blk) : HRel (pull ψ r h) T h w where
  dom i v p hp := by
    obtain ⟨hi, hq⟩ := pull_some hp
    obtain ⟨b, hb⟩ := Option.isSome_iff_exists.1 hi
    obtain ⟨h1, h2⟩ := hw.get i b hb
    obtain ⟨k1, B, k2, k3, k4, k5, k6, k7, k8⟩ := k.dom _ _ _ hq
    rw [h2] at k2; simp only [Option.some.injEq] at k2; subst k2
    exact ⟨h1, b, hb, k3, k4, k5, k6, k7, k8.unren (fun i hi v p hp => by rw [pull_of hi]; exact hp) (hw.clo i b hb) (hT i v p hp)⟩
  apart i v p j u q hp hq hb hne := by
    obtain ⟨hi, hp'⟩ := pull_some hp
    obtain ⟨hj, hq'⟩ := pull_some hq
    exact k.apart _ _ _ _ _ _ hp' hq' hb fun e => hne (hw.inj i j hi hj e)
  same i v p u q hp hq hb := by
    obtain ⟨hi, hp'⟩ := pull_some hp
    obtain ⟨_, hq'⟩ := pull_some hq
    exact k.same _ _ _ _ _ hp' hq' hb

/-- one call: what it promises -/
def FDoes (P : Program) (f : FuncId) (args : List AVal) (h : AHeap) (v : AVal) (h' : AHeap) : Prop :=
  ∀ (N0 : Nat → Prop) (w0 : World), Low N0 w0.heap.size → ∀ (φ : Map) (w : World) (args' : Array Value), HRel φ N0 h w → Safe N0 w0 w → VRels φ args args'.toList →
    (∃ fn c, P.funcs[f]? = some fn ∧ fn.body = some c) ∧
    Calls P f args' w fun e w' => ∃ v' φ', e = .returned v' ∧ Keep φ φ' h.next ∧ VRel φ' v v' ∧ HRel φ' N0 h' w' ∧ Safe N0 w0 w' ∧ h.next ≤ h'.next

theorem PrimOk.of_does {P : Program} {f : FuncId} {g : APrim} (k : ∀ args h v h', g args h = some (v, h') → FDoes P f args h v h') : PrimOk P f g :=
  fun N0 w0 hN args h v h' hg φ w args' hH hB hA => k args h v h' hg N0 w0 hN φ w args' hH hB hA

theorem FDoes.of_acall {P : Program} {E : AEnv} (hE : EnvOk P E) (hmix : P.follows .mixedOrders = true) {n : Nat} {f : FuncId} {args : List AVal} {h h' : AHeap} {v : AVal} (hc : acall P E n f args h = some (v, h')) : FDoes P f args h v h' :=
  fun N0 w0 hN φ w args' hH hB hA => acall_sound hE hN hmix n f args h v h' hc φ w args' hH hB hA

open Classical in
/-- the great map behind the call -/
def push (ψ φ' : Map) (r : Nat → Nat) : Map := fun j u => if k : ∃ i p, r i = j ∧ φ' i u = some p then φ' k.choose u else ψ j u

theorem FDoes.frame {P : Program} {f : FuncId} {args : List AVal} {h h' : AHeap} {v : AVal} (k : FDoes P f args h v h') {r : Nat → Nat} {H H' : AHeap} (hw : Within r h H) (hargs : Clos (In h) args)
    (hnew : ∀ i, h.next ≤ i → r i = H.next + (i - h.next)) (hget : ∀ i b, h'.get i = some b → (In h i ∨ h.next ≤ i) → H'.get (r i) = some (b.ren r)) (hnext : H'.next = H.next + (h'.next - h.next))
    (hout : ∀ j, j < H.next → (∀ i, In h i → r i ≠ j) → H'.get j = H.get j) : FDoes P f (args.map (AVal.ren r)) H (v.ren r) H' := by
  intro S w0 hS ψ w args' hH hsafe hA
  let φ := pull ψ r h
  let S1 : Nat → Prop := fun x => S x ∨ (x < w.heap.size ∧ ∀ i v p, φ i v = some p → p.ro = false → p.blk ≠ x)
  have hlow : Low S1 w.heap.size := by
    rintro x (hx | hx)
    · exact Nat.lt_of_lt_of_le (hS x hx) hsafe.size
    · exact hx.1
  have hbase : ∀ i v p, φ i v = some p → p.ro = false → ¬ S1 p.blk := by
    rintro i v p hp hro (hx | hx)
    · obtain ⟨_, hq⟩ := pull_some hp
      obtain ⟨_, B, _, _, _, _, _, _, hrow⟩ := hH.dom _ _ _ hq
      exact hrow.base hro hx
    · exact hx.2 i v p hp hro rfl
  have hφ : HRel φ S1 h w := hH.pull hw hbase
  have hA' : VRels φ args args'.toList := by
    rw [← AVal.rens_map] at hA
    exact VRels.unren (fun i hi v p hp => by show pull ψ r h i v = some p; rw [pull_of hi]; exact hp) hargs hA
  obtain ⟨hb, hc⟩ := k S1 w hlow φ w args' hφ (Safe.refl _ _) hA'
  refine ⟨hb, hc.mono fun e w' ⟨v', φ', he, kp, hv, hr, hs, hn⟩ => ?_⟩
  -- what is mapped behind the call
  have from' : ∀ i u p, φ' i u = some p → (In h i ∧ r i < H.next) ∨ h.next ≤ i := by
    intro i u p hp
    by_cases hi : i < h.next
    · by_cases hin : In h i
      · left
        refine ⟨hin, ?_⟩
        by_cases hex : ∃ u0 p0, φ i u0 = some p0
        · obtain ⟨u0, p0, h0⟩ := hex
          exact (hH.dom _ _ _ (pull_some h0).2).1
        · have := kp.new i hi (fun u => by
            cases hq : φ i u with
            | none => rfl
            | some q => exact absurd ⟨u, q, hq⟩ hex) u
          rw [this] at hp; cases hp
      · have := kp.new i hi (fun u => by show pull ψ r h i u = none; unfold Lift.pull; rw [if_neg hin]) u
        rw [this] at hp; cases hp
    · exact .inr (by omega)
  have uniq : ∀ i j u t p q, φ' i u = some p → φ' j t = some q → r i = r j → i = j := by
    intro i j u t p q hp hq e
    rcases from' i u p hp with ⟨hi, li⟩ | hi <;> rcases from' j t q hq with ⟨hj, lj⟩ | hj
    · exact hw.inj i j hi hj e
    · rw [hnew j hj] at e; omega
    · rw [hnew i hi] at e; omega
    · rw [hnew i hi, hnew j hj] at e; omega
  have q1 : ∀ i u p, φ' i u = some p → push ψ φ' r (r i) u = some p := by
    intro i u p hp
    have hex : ∃ i' p', r i' = r i ∧ φ' i' u = some p' := ⟨i, p, rfl, hp⟩
    unfold push
    rw [dif_pos hex]
    obtain ⟨p', e1, e2⟩ := hex.choose_spec
    rw [uniq _ _ _ _ _ _ e2 hp e1]; exact hp
  have q2 : ∀ j u, (¬ ∃ i p, r i = j ∧ φ' i u = some p) → push ψ φ' r j u = ψ j u := by
    intro j u hex; unfold push; rw [dif_neg hex]
  have q3 : ∀ j u p, ψ j u = some p → (¬ ∃ i p, r i = j ∧ φ' i u = some p) → ∀ i, In h i → r i ≠ j := by
    intro j u p hp hex i hi e
    subst e
    have h1 : φ i u = some p := by show pull ψ r h i u = some p; rw [pull_of hi]; exact hp
    exact hex ⟨i, p, rfl, kp.le _ _ _ h1⟩
  have q4 : (ψ : Map).le (push ψ φ' r) := by
    intro j u p hp
    by_cases hex : ∃ i p, r i = j ∧ φ' i u = some p
    · obtain ⟨i, q, rfl, hq⟩ := hex
      rw [q1 i u q hq]
      rcases from' i u q hq with ⟨hi, li⟩ | hi
      · have h1 : φ i u = some p := by show pull ψ r h i u = some p; rw [pull_of hi]; exact hp
        rw [kp.le _ _ _ h1] at hq; exact hq.symm
      · have := (hH.dom _ _ _ hp).1
        rw [hnew i hi] at this; omega
    · rw [q2 j u hex]; exact hp
  -- rows of the great memory that the call does not know
  have away : ∀ j u p, ψ j u = some p → (∀ i, In h i → r i ≠ j) → S1 p.blk := by
    intro j u p hp hne
    obtain ⟨_, B, _, _, _, _, _, _, hrow⟩ := hH.dom _ _ _ hp
    refine .inr ⟨hrow.blk, fun i v q hq hro e => ?_⟩
    obtain ⟨hi, hq'⟩ := pull_some hq
    have := (hH.apart _ _ _ _ _ _ hq' hp e (hne i hi)).1
    rw [hro] at this; cases this
  refine ⟨v', push ψ φ' r, he, ⟨q4, ?_, ?_⟩, VRel.ren q1 hv, ⟨?_, ?_, ?_⟩, hsafe.trans (hs.less fun i hi => .inl hi), by omega⟩
  · intro j hj hnone u
    by_cases hex : ∃ i p, r i = j ∧ φ' i u = some p
    · obtain ⟨i, q, rfl, hq⟩ := hex
      rcases from' i u q hq with ⟨hi, li⟩ | hi
      · have hil : i < h.next := by
          obtain ⟨b, hb⟩ := Option.isSome_iff_exists.1 hi
          exact (hw.get i b hb).1
        have := kp.new i hil (fun u => by show pull ψ r h i u = none; rw [pull_of hi]; exact hnone u) u
        rw [this] at hq; cases hq
      · rw [hnew i hi] at hj; omega
    · rw [q2 j u hex]; exact hnone u
  · intro j u p hp hro
    by_cases hex : ∃ i p, r i = j ∧ φ' i u = some p
    · obtain ⟨i, q, rfl, hq⟩ := hex
      rw [q1 i u q hq] at hp
      simp only [Option.some.injEq] at hp; subst hp
      exact (pull_some (kp.ro i u q hq hro)).2
    · rw [q2 j u hex] at hp; exact hp
  · intro j u p hp
    by_cases hex : ∃ i p, r i = j ∧ φ' i u = some p
    · obtain ⟨i, q, rfl, hq⟩ := hex
      rw [q1 i u q hq] at hp
      simp only [Option.some.injEq] at hp; subst hp
      obtain ⟨d1, b, d2, d3, d4, d5, d6, d7, d8⟩ := hr.dom _ _ _ hq
      have hio : In h i ∨ h.next ≤ i := by
        rcases from' i u q hq with ⟨hi, _⟩ | hi
        · exact .inl hi
        · exact .inr hi
      refine ⟨?_, b.ren r, hget i b d2 hio, d3, d4, d5, d6, d7, d8.ren q1 fun hro hx => d8.base hro (.inl hx)⟩
      rcases from' i u q hq with ⟨_, li⟩ | hi
      · omega
      · rw [hnew i hi, hnext]; omega
    · rw [q2 j u hex] at hp
      obtain ⟨d1, B, d2, d3, d4, d5, d6, d7, d8⟩ := hH.dom _ _ _ hp
      have hne := q3 j u p hp hex
      exact ⟨by omega, B, by rw [hout j d1 hne]; exact d2, d3, d4, d5, d6, d7, d8.at q4 hs.size (hs.block _ (away j u p hp hne))⟩
  · have mixed : ∀ i u p j t q, φ' i u = some p → ψ j t = some q → (∀ i, In h i → r i ≠ j) → p.blk = q.blk → p.ro = true ∧ q.ro = true := by
      intro i u p j t q hp hq hne hb
      have hx := away j t q hq hne
      by_cases hro : p.ro = true
      · obtain ⟨hi, hp'⟩ := pull_some (kp.ro i u p hp hro)
        exact hH.apart _ _ _ _ _ _ hp' hq hb (hne i hi)
      · obtain ⟨_, b, _, _, _, _, _, _, d8⟩ := hr.dom _ _ _ hp
        exact absurd (hb ▸ hx) (d8.base (by simpa using hro))
    intro i u p j t q hp hq hb hne
    by_cases hex : ∃ i' p, r i' = i ∧ φ' i' u = some p <;> by_cases hey : ∃ i' p, r i' = j ∧ φ' i' t = some p
    · obtain ⟨i', p', rfl, hp'⟩ := hex
      obtain ⟨j', q', rfl, hq'⟩ := hey
      rw [q1 _ _ _ hp'] at hp; rw [q1 _ _ _ hq'] at hq
      simp only [Option.some.injEq] at hp hq; subst hp; subst hq
      exact hr.apart _ _ _ _ _ _ hp' hq' hb fun e => hne (by rw [e])
    · obtain ⟨i', p', rfl, hp'⟩ := hex
      rw [q1 _ _ _ hp'] at hp; rw [q2 _ _ hey] at hq
      simp only [Option.some.injEq] at hp; subst hp
      exact mixed _ _ _ _ _ _ hp' hq (q3 j t q hq hey) hb
    · obtain ⟨j', q', rfl, hq'⟩ := hey
      rw [q2 _ _ hex] at hp; rw [q1 _ _ _ hq'] at hq
      simp only [Option.some.injEq] at hq; subst hq
      exact (mixed _ _ _ _ _ _ hq' hp (q3 i u p hp hex) hb.symm).symm
    · rw [q2 _ _ hex] at hp; rw [q2 _ _ hey] at hq
      exact hH.apart _ _ _ _ _ _ hp hq hb hne
  · intro i u p t q hp hq hb
    have both : ∀ i' p', r i' = i → ∀ u', φ' i' u' = some p' → ∀ t q, push ψ φ' r i t = some q → φ' i' t = some q := by
      intro i' p' e u' hp' t q hq
      by_cases hey : ∃ j' p, r j' = i ∧ φ' j' t = some p
      · obtain ⟨j', q', e2, hq'⟩ := hey
        have := uniq i' j' _ _ _ _ hp' hq' (by rw [e, e2])
        subst this
        rw [← e2, q1 _ _ _ hq'] at hq; rw [hq']; exact hq
      · rw [q2 _ _ hey] at hq
        rcases from' i' u' p' hp' with ⟨hi, _⟩ | hi
        · exact absurd e (q3 i t q hq hey i' hi)
        · have := (hH.dom _ _ _ hq).1
          rw [← e, hnew i' hi] at this; omega
    by_cases hex : ∃ i' p, r i' = i ∧ φ' i' u = some p
    · obtain ⟨i', p', e, hp'⟩ := hex
      exact hr.same i' _ _ _ _ (both i' p' e u hp' u p hp) (both i' p' e u hp' t q hq) hb
    · by_cases hey : ∃ i' p, r i' = i ∧ φ' i' t = some p
      · obtain ⟨i', p', e, hp'⟩ := hey
        exact hr.same i' _ _ _ _ (both i' p' e t hp' u p hp) (both i' p' e t hp' t q hq) hb
      · rw [q2 _ _ hex] at hp; rw [q2 _ _ hey] at hq
        exact hH.same _ _ _ _ _ hp hq hb
end
end Go.Lift
