/-
  THE LIFT: arguments that came in, as rows that must not be written.
-/
import Derived.Test.YtgfkllnaeekjeaaLiftV
import Derived.ProofKit
import Derived.OpenShut
import Derived.ChangeOld
import Derived.HandedShaped
namespace Go.Lift
noncomputable section
open Go.RowKit Go.ChangeShapes Go.WideShapes Go.ChangeAt
set_option linter.unusedVariables false
set_option linter.unusedSimpArgs false

/-- a row as it came in -/
structure ArgRow (w : World) (b : ABlk) (p : Place) : Prop where
  ro : p.ro = true
  bro : b.ro = true
  ver : b.ver = 0
  es : p.es = b.es
  pos : 0 < p.es
  exact : p.exact = b.exact
  row : ∀ (φ : Map) (S : Nat → Prop), Row φ S b 0 p w
  bare : BareB b

def rowsMap (ps : List Place) : Map := fun i v => if v = 0 then ps[i]? else none

theorem HRel.of_args {w : World} {S : Nat → Prop} (l : List (ABlk × Place)) (h : ∀ x ∈ l, ArgRow w x.1 x.2) : HRel (rowsMap (l.map (·.2))) S (AHeap.of (l.map (·.1))) w where
  dom i v p hp := by
    unfold rowsMap at hp
    split at hp
    · rename_i hv; subst hv
      rw [List.getElem?_map, Option.map_eq_some_iff] at hp
      obtain ⟨x, hx, rfl⟩ := hp
      have k := h x (List.mem_of_getElem? hx)
      have hi := (List.getElem?_eq_some_iff.1 hx).1
      refine ⟨by rw [AHeap.of_next]; simpa using hi, x.1, ?_, by omega, k.es, k.exact, by rw [k.ro, k.bro], k.pos, k.row _ _⟩
      rw [AHeap.of_get, List.getElem?_map, hx]; rfl
    · cases hp
  apart i v p j u q hp hq _ _ := by
    have : ∀ {i v p}, rowsMap (l.map (·.2)) i v = some p → p.ro = true := by
      intro i v p hp
      unfold rowsMap at hp
      split at hp
      · rw [List.getElem?_map, Option.map_eq_some_iff] at hp
        obtain ⟨x, hx, rfl⟩ := hp
        exact (h x (List.mem_of_getElem? hx)).ro
      · cases hp
    exact ⟨this hp, this hq⟩
  same i v p u q hp hq _ := by
    unfold rowsMap at hp hq
    split at hp
    · split at hq
      · rw [hp] at hq; simp only [Option.some.injEq] at hq; subst hq; exact ⟨rfl, rfl⟩
      · cases hq
    · cases hp

/-- a row of none -/
def noBlk (es : Nat) : ABlk := { elems := [], es, exact := true, ro := true, ver := 0, minVer := 0, forkLen := 0 }
def noPlace (es : Nat) : Place := { blk := 0, off := 0, lo := 0, es, tot := 0, exact := true, ro := true }

theorem noRow {w : World} (hw : 0 < w.heap.size) {es : Nat} (he : 0 < es) : ArgRow w (noBlk es) (noPlace es) where
  ro := rfl
  bro := rfl
  ver := rfl
  es := rfl
  pos := he
  exact := rfl
  row φ S := ⟨hw, (fun h => by cases h), fun o ho => by simp [noPlace] at ho, (fun h => by cases h), fun i e h1 h2 h3 => by simp [noBlk] at h3⟩
  bare e he := by simp [noBlk] at he

/-- a slice of integers, as it came in -/
theorem open_ints_arg {w : World} (hw : 0 < w.heap.size) {k : IntKind} {a : Option Addr} {len cap : Nat} {zs : List Int}
    (h : (a = none ∧ len = 0 ∧ cap = 0 ∧ zs = []) ∨ ∃ x, a = some x ∧ (0 < cap → x.block < w.heap.size) ∧ len ≤ cap ∧ cap ≤ maxLen ∧ zs.length = cap ∧ (∀ i, i < zs.length → w.cell? (x.add i) = some (.int k (zs.getD i 0))) ∧ ∀ n ∈ zs, (Lit.int k n).wf = true) (id : Nat) :
    ∃ (o : Option AAddr) (c : Nat) (b : ABlk) (p : Place), SlArg o len c id 0 0 1 ∧ ArgRow w b p ∧ len ≤ maxLen ∧ (∀ φ : Map, φ id 0 = some p → VRel φ (.slice o len c) (.slice a len cap)) ∧
      (∀ j, j < len → b.elem? 0 (0 + j) = some (.int k (zs.getD j 0)) ∧ (Lit.int k (zs.getD j 0)).wf = true) := by
  rcases h with ⟨rfl, rfl, rfl, rfl⟩ | ⟨x, rfl, hb, hl, hm, hz, hcell, hwf⟩
  · exact ⟨none, 0, noBlk 1, noPlace 1, .inr ⟨rfl, rfl, rfl⟩, noRow hw (by omega), by simp, fun φ _ => by simp [VRel], fun j hj => by omega⟩
  · by_cases hcap : cap = 0
    · subst hcap
      obtain rfl : len = 0 := by omega
      refine ⟨some ⟨id, 0, 0, 0, 1⟩, 0, noBlk 1, noPlace 1, .inl rfl, noRow hw (by omega), by simp, fun φ hφ => ?_, fun j hj => by omega⟩
      simp only [VRel]
      exact ⟨x, 0, rfl, Nat.le_refl _, Nat.le_refl _, by first | trivial | rfl, _, hφ, rfl, .inl rfl, fun _ => rfl⟩
    have hb := hb (by omega)
    have hspot : 0 < cap → x.spot = none := fun hc => by
      have h0 := hcell 0 (by omega)
      simpa [Addr.add] using World.cell?_spot h0
    have hadd : ∀ i, i < cap → x.add i = ⟨x.block, x.off + i, none⟩ := by
      intro i hi
      have hs := hspot (by omega)
      obtain ⟨bl, of, sp⟩ := x
      simp only at hs
      subst hs
      unfold Addr.add
      split
      · rename_i h0; subst h0; rfl
      · rfl
    refine ⟨some ⟨id, 0, 0, 0, 1⟩, cap, { elems := zs.map (.int k), es := 1, exact := true, ro := true, ver := 0, minVer := 0, forkLen := 0 }, { blk := x.block, off := x.off, lo := 0, es := 1, tot := cap, exact := true, ro := true }, .inl rfl, ?_, by omega, ?_, ?_⟩
    · refine ⟨rfl, rfl, rfl, rfl, by simp, rfl, fun φ S => ⟨hb, (fun h => by cases h), ?_, (fun h => by cases h), ?_⟩, ?_⟩
      · intro o ho
        simp only [Nat.mul_one] at ho
        have := hcell o (by omega)
        rw [hadd o ho] at this
        simp only [this]; rfl
      · intro i e _ _ he
        simp only [List.getElem?_map, Option.map_eq_some_iff] at he
        obtain ⟨z, hz1, rfl⟩ := he
        have hi := (List.getElem?_eq_some_iff.1 hz1).1
        refine ⟨by simp [AVal.cells], by simp only; omega, fun j x' hx => ?_⟩
        simp only [AVal.cells] at hx
        have hj : j = 0 := by
          have := (List.getElem?_eq_some_iff.1 hx).1; simpa using this
        subst hj
        simp only [List.getElem?_cons_zero, Option.some.injEq] at hx
        subst hx
        refine ⟨.int k z, ?_, by simp [VRel], by first | trivial | rfl⟩
        have h1 := hcell i hi
        rw [hadd i (by omega)] at h1
        simp only [Place.at, Nat.sub_zero, Nat.mul_one, Nat.add_zero]
        rw [h1, List.getD_eq_getElem?_getD, hz1]; rfl
      · intro e he
        obtain ⟨z, _, rfl⟩ := List.mem_map.1 he
        exact Bare.int k z
    · intro φ hφ
      simp only [VRel]
      refine ⟨x, cap, rfl, hl, Nat.le_refl _, by first | trivial | rfl, _, hφ, rfl, ?_, fun _ => rfl⟩
      by_cases hc : cap = 0
      · exact .inl hc
      · refine .inr ⟨Nat.le_refl _, ?_, by simp⟩
        have := hadd 0 (by omega)
        simp only [Addr.add, if_true] at this
        simpa [Place.at] using this
    · intro j hj
      have hj' : j < zs.length := by omega
      refine ⟨?_, hwf _ ?_⟩
      · simp [ABlk.elem?, ABlk.lim, List.getD_eq_getElem?_getD, List.getElem?_eq_getElem hj', hj']
      · rw [List.getD_eq_getElem?_getD, List.getElem?_eq_getElem hj']; exact List.getElem_mem hj'

theorem wf_fit {n : Int} (h : (Lit.int .i64 n).wf = true) : Fit64 n := by
  simp [Lit.wf, IntKind.min, IntKind.max, IntKind.signed, IntKind.bits] at h
  unfold Fit64; omega

theorem wf_fit8 {n : Int} (h : (Lit.int .i8 n).wf = true) : -128 ≤ n ∧ n ≤ 127 := by
  simp [Lit.wf, IntKind.min, IntKind.max, IntKind.signed, IntKind.bits] at h
  omega

/-- some block is there -/
theorem size_of_shape {P : Program} {W : World} (h : W.ShapedOpen P) (hk : Nat.blt P.globals.size (begin P (fun _ _ => 0) default).world.heap.size = true) : 0 < W.heap.size := by
  obtain ⟨o, _, h1, _⟩ := h.2 P.globals.size (Nat.le_refl _) (Nat.blt_eq.mp hk)
  have := (Array.getElem?_eq_some_iff.1 h1).1
  omega

/-- what a slice of integers holds, as it came in -/
theorem open_ints_world {H : Type} {enc : TypeId × Value → H} {P : Program} {W : World} (hw : 0 < W.heap.size) {t e : TypeId} {k : IntKind} {a : Option Addr} {len cap : Nat} {d : DataW H} {ps : List MemPlace} (ht : P.underlying t = some (.slice e)) (he : P.underlying e = some (.int k)) (hc : P.cellsOf e = 1)
    (h : DataW.Trod enc P W 0 (fun _ => true) true t (.slice a len cap) d ps) :
    ∃ zs : List Int, (a = none ∧ len = 0 ∧ cap = 0 ∧ zs = []) ∨ ∃ x, a = some x ∧ (0 < cap → x.block < W.heap.size) ∧ len ≤ cap ∧ cap ≤ maxLen ∧ zs.length = cap ∧ (∀ i, i < zs.length → W.cell? (x.add i) = some (.int k (zs.getD i 0))) ∧ ∀ n ∈ zs, (Lit.int k n).wf = true := by
  obtain ⟨fuel, hf⟩ := h
  rcases open_ints ht he hc hf with ⟨hcs, _⟩ | ⟨x, l, c, zs, hcs, _, hl, hm, hz, _, hcell, hwf⟩
  · simp [Value.cells] at hcs
    obtain ⟨rfl, rfl, rfl⟩ := hcs
    exact ⟨[], .inl ⟨rfl, rfl, rfl, rfl⟩⟩
  · simp [Value.cells] at hcs
    obtain ⟨rfl, rfl, rfl⟩ := hcs
    have hz : zs.length = cap := by simpa using hz
    refine ⟨zs, .inr ⟨_, rfl, fun h0 => ?_, hl, hm, hz, hcell, hwf⟩⟩
    have := hcell 0 (by omega)
    unfold World.cell? at this
    split at this
    · rename_i hb
      have hb' := (Array.getElem?_eq_some_iff.1 hb).1
      simpa [Addr.add] using hb'
    · cases this

/-- a law that answers true, over rows that came in -/
theorem FDoes.law {P : Program} {f : FuncId} {args : List AVal} {h' : AHeap} {l : List (ABlk × Place)} (k : FDoes P f args (AHeap.of (l.map (·.1))) (.bool true) h') {w : World} (hl : ∀ x ∈ l, ArgRow w x.1 x.2) {args' : Array Value} (ha : VRels (rowsMap (l.map (·.2))) args args'.toList) :
    Calls P f args' w fun e w' => e = .returned (.bool true) ∧ Below w.heap.size w w' := by
  have := (k (fun k => k < w.heap.size) w (fun _ h => h) _ w args' (HRel.of_args l hl) (Safe.refl _ _) ha).2
  exact this.mono fun e w' ⟨v', φ', h1, _, h2, _, h3, _⟩ => by
    simp only [VRel] at h2
    subst h2; exact ⟨h1, h3.below⟩

end
end Go.Lift
