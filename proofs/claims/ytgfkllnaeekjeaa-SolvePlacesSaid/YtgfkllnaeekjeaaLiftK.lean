/-
  THE LIFT, PART K: one region in the order of the text.
-/
import Derived.Test.YtgfkllnaeekjeaaLiftJ
namespace Go.Lift
noncomputable section
open Go.RowKit
set_option linter.unusedVariables false
set_option linter.unusedSimpArgs false

structure SRel (φ : Map) (N0 : Nat → Prop) (w0 : World) (s : ASt) (a : Act) (w : World) : Prop where
  slots : VRels φ s.slots a.tmps.toList
  heap : HRel φ N0 s.heap w
  below : Safe N0 w0 w
  defers : a.defers = []

section
variable {P : Program} {φ : Map} {E : AEnv}

theorem VRels.getD_arr {l : List AVal} {t : Array Value} (h : VRels φ l t.toList) (i : Nat) : VRel φ (l.getD i .undef) (t.getD i undef) := by
  have h2 : t.getD i undef = t.toList.getD i undef := by simp [Array.getD_eq_getD_getElem?, List.getD_eq_getElem?_getD]
  rw [h2]; exact h.getD i

theorem SRel.eval {N0 : Nat → Prop} {w0 w : World} {s : ASt} {a : Act} (r : SRel φ N0 w0 s a w) (x : Operand) : VRel φ (agetOp s.slots x) (a.eval x) := by
  cases x with
  | tmp t => exact r.slots.getD_arr t
  | const v => exact ofConst_rel φ v
  | global g => simp [agetOp, VRel]
  | func f => simp only [agetOp, VRel]; exact ⟨#[], #[], rfl, by simp [VRels], by simp [VRels]⟩

theorem put_rel {s : List AVal} {a : Act} (h : VRels φ s a.tmps.toList) (dst : Option Tmp) {v : AVal} {v' : Value} (hv : VRel φ v v') : VRels φ (aput s dst v) (a.put dst v').tmps.toList := by
  cases dst with
  | none => exact h
  | some d =>
    simp only [aput, Act.put, Array.toList_setIfInBounds]
    exact h.set d hv

theorem put_defers (a : Act) (dst : Option Tmp) (v : Value) : (a.put dst v).defers = a.defers := by cases dst <;> rfl

theorem wanted_rel {s : List AVal} {a : Act} (h : VRels φ s a.tmps.toList) {ops : Array Oper} {o : Oper} {b : Bool} (hw : awanted ops s o = some b) : Region.wanted o (yielded ops a.tmps) = b := by
  unfold awanted at hw
  unfold Region.wanted
  split at hw
  · rename_i e; simp at hw; subst hw; simp [e]
  · rename_i j want e
    rw [e]
    simp only
    split at hw
    · rename_i d hd
      unfold yielded
      rw [hd]
      simp only [Option.bind_some]
      split at hw
      · rename_i c hc
        simp at hw; subst hw
        obtain ⟨v, hv, rv⟩ := h.get hc
        simp only [VRel] at rv; subst rv
        have hv' : a.tmps[d]? = some (.bool c) := by simpa using hv
        rw [hv']; cases c <;> cases want <;> rfl
      · rename_i hc
        simp at hw; subst hw
        obtain ⟨v, hv, rv⟩ := h.get hc
        simp only [VRel] at rv
        obtain ⟨xs, rfl, _⟩ := rv
        have hv' : a.tmps[d]? = some (.tuple xs) := by simpa using hv
        rw [hv']; cases want <;> rfl
      · cases hw
    · cases hw

/-- one operation of a region -/
theorem astep_sound (hE : EnvOk P E) {N0 : Nat → Prop} {w0 w : World} (hN : Low N0 w0.heap.size) {call : ACall} (hcall : CallOk P N0 w0 call) {ops : Array Oper} {n0 i : Nat} {s s' : ASt} {a : Act} (r : SRel φ N0 w0 s a w)
    (hid : n0 + i < s.heap.next ∧ ∀ v, φ (n0 + i) v = none) (h : astep E call ops n0 i s = some s') {K : Act → World → Prop} {Q : Exit → Act → World → Prop}
    (hk : ∀ a' w' φ', Ext φ φ' s.heap.next (n0 + i) → SRel φ' N0 w0 s' a' w' → s.heap.next ≤ s'.heap.next → K a' w') : wpOp P ops Q i K a w := by
  unfold astep at h
  unfold wpOp
  split at h
  · rename_i ho
    simp at h; subst h
    rw [ho]
    exact hk a w φ (Ext.refl _ _ _) r (Nat.le_refl _)
  · rename_i o ho
    rw [ho]
    split at h
    · rename_i hw
      have hw' := wanted_rel r.slots hw
      split at h
      · rename_i v hp hop
        simp at h; subst h
        simp only [hw', if_true]
        left
        refine wp_op hE hcall r.heap r.below hN hid.2 hid.1 r.eval hop fun v' w' φ' h1 h2 h3 h4 h5 => ?_
        refine hk _ w' φ' h1 ⟨?_, h3, h4, by rw [put_defers]; exact r.defers⟩ h5
        exact put_rel (r.slots.mono h1.le) _ h2
      · cases h
    · rename_i hw
      have hw' := wanted_rel r.slots hw
      simp at h; subst h
      simp only [hw', Bool.false_eq_true, if_false]
      exact hk _ w φ (Ext.refl _ _ _) ⟨put_rel r.slots _ (VRel.skipped φ), r.heap, r.below, by rw [put_defers]; exact r.defers⟩ (Nat.le_refl _)
    · cases h

theorem arun_sound (hE : EnvOk P E) {N0 : Nat → Prop} {w0 : World} (hN : Low N0 w0.heap.size) {call : ACall} (hcall : CallOk P N0 w0 call) {ops : Array Oper} {n0 : Nat} {Q : Exit → Act → World → Prop} :
    ∀ {l : List Nat} {s s' : ASt} {a : Act} {w : World} {φ : Map}, arun E call ops n0 l s = some s' → SRel φ N0 w0 s a w → l.Nodup → (∀ j ∈ l, n0 + j < s.heap.next ∧ ∀ v, φ (n0 + j) v = none) →
      (∀ a' w' φ', Keep φ φ' n0 → SRel φ' N0 w0 s' a' w' → s.heap.next ≤ s'.heap.next → Q .normal a' w') → wpOps P ops Q l a w
  | [], s, s', a, w, φ, h, r, _, _, hk => by
    simp [arun] at h; subst h
    simp only [wpOps]
    exact hk a w φ (Keep.refl _ _) r (Nat.le_refl _)
  | i :: rest, s, s', a, w, φ, h, r, hnd, hid, hk => by
    simp only [arun] at h
    split at h
    · rename_i s1 h1
      rw [wpOps_cons]
      have hnd' := List.nodup_cons.1 hnd
      refine astep_sound hE hN hcall r (hid i (by simp)) h1 fun a' w' φ' hx r' hle => ?_
      refine arun_sound hE hN hcall h r' hnd'.2 (fun j hj => ?_) fun a'' w'' φ'' hkp r'' hle' => ?_
      · have hji : n0 + j ≠ n0 + i := by intro e; have : j = i := by omega
                                         subst this; exact hnd'.1 hj
        obtain ⟨g1, g2⟩ := hid j (by simp [hj])
        exact ⟨by omega, hx.new _ g1 hji g2⟩
      · refine hk _ _ _ (Keep.trans ⟨hx.le, fun k hkn hnn => hx.new k ?_ (by omega) hnn, hx.ro⟩ hkp) r'' (by omega)
        have := (hid i (by simp)).1; omega
    · cases h

end
end
end Go.Lift
